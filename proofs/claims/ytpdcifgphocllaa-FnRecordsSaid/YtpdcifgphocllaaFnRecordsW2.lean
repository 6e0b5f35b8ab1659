/-
  The walks: a call hands back what its plain function computes, where that has a value. No other conditions.
-/
import Derived.Test.YtpdcifgphocllaaFnRecordsW
import Derived.Test.YtpdcifgphocllaaChecked
namespace Go.Proofs.Ytpdcifgphocllaa
open Go.RowKit Go.Proofs
set_option linter.unusedVariables false
set_option linter.unusedSimpArgs false

set_option maxRecDepth 100000 in
set_option maxHeartbeats 1000000 in
theorem ok_w_FnRecords {N : Nat} {code1 : List UInt8} {r : Bool} (hm : w_FnRecords N code1 = some r) (w : World) (v2 : Value) (hr3 : RdS w (cx w).Fz v2 fByte.rp code1) :
    Calls Try.prog 3 #[v2] w (Ret (cx w) (.bool r)) := by
  unfold w_FnRecords at hm
  refine Calls.enter [v2] Try.func3 rfl Try.ntmps3 rfl ?_
  refine WJ.seq ?_
  refine WJ.quiet ?_
  refine QJ.step (YldS.yld (y_assign rfl)) rfl ?_
  refine QJ.done ?_
  refine PJ.next ?_
  refine WJ.seq ?_
  refine WJ.seq ?_
  refine WJ.quiet ?_
  refine QJ.step (YldS.yld (y_move rfl)) rfl ?_
  obtain ⟨r4, h5, hm⟩ := bindS hm
  refine QJ.step (y_call Try.call6 rfl (RetG.quiet fun w hw => ok_w_f6big h5 w _ (hr3.st hw))) rfl ?_
  refine QJ.done ?_
  refine PJ.next ?_
  refine WJ.cond (t := r4) rfl (fun hb6 => ?_) (fun hb6 => ?_)
  · replace hm := ifT hm hb6
    refine WJ.seq ?_
    refine WJ.quiet ?_
    refine QJ.step (YldS.yld (y_assign rfl)) rfl ?_
    refine QJ.done ?_
    refine PJ.next ?_
    refine WJ.ret ?_
    refine PJ.then_ret ?_
    obtain rfl := Option.some.inj hm
    refine PJ.sel (L' := []) [] ⟨List.nodup_nil, rfl⟩ ?_
    exact PJ.retn (vs := [.bool true]) Try.results3 ⟨rfl, trivial⟩ ⟨rfl, rfl⟩
  · replace hm := ifF hm hb6
    refine WJ.skip ?_
    refine PJ.next ?_
    refine WJ.seq ?_
    refine WJ.reg ?_
    refine SJ.q (YldS.yld (y_move rfl)) rfl ?_
    obtain ⟨r7, h8, hm⟩ := bindS hm
    refine SJ.call Try.call7 rfl (fun w hw => ok_s_DrawRecordsOf h8 w _ (hr3.st hw)) rfl ?_
    rintro _ _ ⟨v9, rfl, rfl⟩
    refine SJ.q (YldS.yld (y_move rfl)) rfl ?_
    refine SJ.q (YldS.yld (y_extract rfl rfl)) rfl ?_
    refine SJ.q (YldS.yld (y_extract rfl rfl)) rfl ?_
    refine SJ.q (YldS.yld (y_assign rfl)) rfl ?_
    refine SJ.q (YldS.yld (y_assign rfl)) rfl ?_
    refine SJ.nil ?_
    refine PJ.next ?_
    refine WJ.seq ?_
    refine WJ.reg ?_
    refine SJ.q (YldS.yld (y_move rfl)) rfl ?_
    refine SJ.q (YldS.yld (y_move rfl)) rfl ?_
    obtain ⟨r10, h11, hm⟩ := bindS hm
    refine SJ.call Try.call8 rfl (fun w hw => ok_i_RecordsOf h11 w _ (hw.row_rd (k := 0) rfl)) rfl ?_
    rintro _ _ ⟨v12, rfl, rfl⟩
    refine SJ.q (YldS.yld (y_move rfl)) rfl ?_
    refine SJ.q (YldS.yld (y_extract rfl rfl)) rfl ?_
    refine SJ.q (YldS.yld (y_extract rfl rfl)) rfl ?_
    refine SJ.q (YldS.yld (y_assign rfl)) rfl ?_
    refine SJ.q (YldS.yld (y_assign rfl)) rfl ?_
    refine SJ.nil ?_
    refine PJ.next ?_
    refine WJ.seq ?_
    refine WJ.reg ?_
    refine SJ.q (YldS.yld (y_move rfl)) rfl ?_
    refine SJ.q (YldS.yld (y_move rfl)) rfl ?_
    obtain ⟨r13, h14, hm⟩ := bindS hm
    refine SJ.call Try.call9 rfl (fun w hw => ok_s_RecordsOf h14 w _ (hw.row_rd (k := 1) rfl)) rfl ?_
    rintro _ _ ⟨v15, rfl, rfl⟩
    refine SJ.q (YldS.yld (y_move rfl)) rfl ?_
    refine SJ.q (YldS.yld (y_extract rfl rfl)) rfl ?_
    refine SJ.q (YldS.yld (y_extract rfl rfl)) rfl ?_
    refine SJ.q (YldS.yld (y_assign rfl)) rfl ?_
    refine SJ.q (YldS.yld (y_assign rfl)) rfl ?_
    refine SJ.nil ?_
    refine PJ.next ?_
    refine WJ.seq ?_
    refine WJ.quiet ?_
    refine QJ.step (YldS.yld (y_move rfl)) rfl ?_
    refine QJ.step (YldS.yld (y_move rfl)) rfl ?_
    obtain ⟨r16, h17, hm⟩ := bindS hm
    refine QJ.step (y_call Try.call10 rfl (RetG.quiet fun w hw => ok_i_FastestTrial h17 w _ (hw.row_rd (k := 2) rfl))) rfl ?_
    refine QJ.step (YldS.yld (y_move rfl)) rfl ?_
    refine QJ.step (YldS.yld (y_extract rfl rfl)) rfl ?_
    refine QJ.step (YldS.yld (y_extract rfl rfl)) rfl ?_
    refine QJ.step (YldS.yld (y_assign rfl)) rfl ?_
    refine QJ.step (YldS.yld (y_assign rfl)) rfl ?_
    refine QJ.done ?_
    refine PJ.next ?_
    refine WJ.seq ?_
    refine WJ.quiet ?_
    refine QJ.step (YldS.yld (y_move rfl)) rfl ?_
    refine QJ.step (YldS.yld (y_move rfl)) rfl ?_
    obtain ⟨r18, h19, hm⟩ := bindS hm
    refine QJ.step (y_call Try.call11 rfl (RetG.quiet fun w hw => ok_s_FastestTrial h19 w _ (hw.row_rd (k := 2) rfl))) rfl ?_
    refine QJ.step (YldS.yld (y_move rfl)) rfl ?_
    refine QJ.step (YldS.yld (y_extract rfl rfl)) rfl ?_
    refine QJ.step (YldS.yld (y_extract rfl rfl)) rfl ?_
    refine QJ.step (YldS.yld (y_assign rfl)) rfl ?_
    refine QJ.step (YldS.yld (y_assign rfl)) rfl ?_
    refine QJ.done ?_
    refine PJ.next ?_
    refine WJ.seq ?_
    refine WJ.quiet ?_
    refine QJ.step (YldS.yld (y_move rfl)) rfl ?_
    refine QJ.step (YldS.yld (y_move rfl)) rfl ?_
    obtain ⟨r20, h21, hm⟩ := bindS hm
    refine QJ.step (y_call Try.call12 rfl (RetG.quiet fun w hw => ok_i_MedianTrial h21 w _ (hw.row_rd (k := 2) rfl))) rfl ?_
    refine QJ.step (YldS.yld (y_move rfl)) rfl ?_
    refine QJ.step (YldS.yld (y_extract rfl rfl)) rfl ?_
    refine QJ.step (YldS.yld (y_extract rfl rfl)) rfl ?_
    refine QJ.step (YldS.yld (y_assign rfl)) rfl ?_
    refine QJ.step (YldS.yld (y_assign rfl)) rfl ?_
    refine QJ.done ?_
    refine PJ.next ?_
    refine WJ.seq ?_
    refine WJ.quiet ?_
    refine QJ.step (YldS.yld (y_move rfl)) rfl ?_
    refine QJ.step (YldS.yld (y_move rfl)) rfl ?_
    obtain ⟨r22, h23, hm⟩ := bindS hm
    refine QJ.step (y_call Try.call13 rfl (RetG.quiet fun w hw => ok_s_MedianTrial h23 w _ (hw.row_rd (k := 2) rfl))) rfl ?_
    refine QJ.step (YldS.yld (y_move rfl)) rfl ?_
    refine QJ.step (YldS.yld (y_extract rfl rfl)) rfl ?_
    refine QJ.step (YldS.yld (y_extract rfl rfl)) rfl ?_
    refine QJ.step (YldS.yld (y_assign rfl)) rfl ?_
    refine QJ.step (YldS.yld (y_assign rfl)) rfl ?_
    refine QJ.done ?_
    refine PJ.next ?_
    refine WJ.seq ?_
    refine WJ.quiet ?_
    refine QJ.step (YldS.yld (y_move rfl)) rfl ?_
    refine QJ.step (YldS.yld (y_move rfl)) rfl ?_
    obtain ⟨r24, h25, hm⟩ := bindS hm
    refine QJ.step (y_call Try.call14 rfl (RetG.quiet fun w hw => ok_i_LongestRise h25 w _ (hw.row_rd (k := 2) rfl))) rfl ?_
    refine QJ.step (YldS.yld (y_move rfl)) rfl ?_
    refine QJ.step (YldS.yld (y_extract rfl rfl)) rfl ?_
    refine QJ.step (YldS.yld (y_extract rfl rfl)) rfl ?_
    refine QJ.step (YldS.yld (y_extract rfl rfl)) rfl ?_
    refine QJ.step (YldS.yld (y_assign rfl)) rfl ?_
    refine QJ.step (YldS.yld (y_assign rfl)) rfl ?_
    refine QJ.step (YldS.yld (y_assign rfl)) rfl ?_
    refine QJ.done ?_
    refine PJ.next ?_
    refine WJ.seq ?_
    refine WJ.quiet ?_
    refine QJ.step (YldS.yld (y_move rfl)) rfl ?_
    refine QJ.step (YldS.yld (y_move rfl)) rfl ?_
    obtain ⟨r26, h27, hm⟩ := bindS hm
    refine QJ.step (y_call Try.call15 rfl (RetG.quiet fun w hw => ok_s_LongestRise h27 w _ (hw.row_rd (k := 2) rfl))) rfl ?_
    refine QJ.step (YldS.yld (y_move rfl)) rfl ?_
    refine QJ.step (YldS.yld (y_extract rfl rfl)) rfl ?_
    refine QJ.step (YldS.yld (y_extract rfl rfl)) rfl ?_
    refine QJ.step (YldS.yld (y_extract rfl rfl)) rfl ?_
    refine QJ.step (YldS.yld (y_assign rfl)) rfl ?_
    refine QJ.step (YldS.yld (y_assign rfl)) rfl ?_
    refine QJ.step (YldS.yld (y_assign rfl)) rfl ?_
    refine QJ.done ?_
    refine PJ.next ?_
    refine WJ.seq ?_
    refine WJ.reg ?_
    refine SJ.q (YldS.yld (y_move rfl)) rfl ?_
    obtain ⟨r28, h29, hm⟩ := bindS hm
    refine SJ.call Try.call16 rfl (fun w hw => ok_s_DrawSameTrials h29 w _ (hr3.st hw)) rfl ?_
    rintro _ _ ⟨v30, v31, rfl, rfl⟩
    refine SJ.q (YldS.yld (y_move rfl)) rfl ?_
    refine SJ.q (YldS.yld (y_extract rfl rfl)) rfl ?_
    refine SJ.q (YldS.yld (y_extract rfl rfl)) rfl ?_
    refine SJ.q (YldS.yld (y_assign rfl)) rfl ?_
    refine SJ.q (YldS.yld (y_assign rfl)) rfl ?_
    refine SJ.nil ?_
    refine PJ.next ?_
    refine WJ.seq ?_
    refine WJ.seq ?_
    refine WJ.quiet ?_
    refine QJ.step (YldS.yld (y_move rfl)) rfl ?_
    refine QJ.step (YldS.yld (y_move rfl)) rfl ?_
    refine QJ.step (YldS.yld (y_bin rfl rfl rfl)) rfl ?_
    refine QJ.step (YldS.yld (y_move rfl)) rfl ?_
    obtain ⟨t32, h33, hm⟩ := bindS hm
    refine QJ.cut 5 [(3, v9), (4, .int .i64 r7.2), (7, v15), (9, .int .i64 r16.1), (10, .int .i64 r16.2), (11, .int .i64 r18.1), (12, .int .i64 r18.2), (13, .int .i64 r20.1), (14, .int .i64 r20.2), (15, .int .i64 r22.1), (16, .int .i64 r22.2), (17, .int .i64 r24.1), (18, .int .i64 r24.2.1), (19, .int .i64 r24.2.2), (20, .int .i64 r26.1), (21, .int .i64 r26.2.1), (22, .int .i64 r26.2.2), (23, v30), (24, v31), (99, .bool t32)] ?_ ?_
    · rcases Bool.eq_false_or_eq_true (r10.2 != r13.2) with hb34 | hb34
      · obtain rfl := orT h33 hb34
        refine QJ.off rfl rfl (cB hb34) rfl rfl ?_
        refine QJ.off rfl rfl (cB hb34) rfl rfl ?_
        refine QJ.off rfl rfl (cB hb34) rfl rfl ?_
        refine QJ.off rfl rfl (cB hb34) rfl rfl ?_
        refine QJ.step (YldS.yld (y_pick_t (cB hb34) rfl)) rfl ?_
        exact QJ.cut_end ⟨rfl, rfl, rfl, rfl, rfl, rfl, rfl, rfl, rfl, rfl, rfl, rfl, rfl, rfl, rfl, rfl, rfl, rfl, rfl, rfl, trivial⟩
      · replace h33 := orF h33 hb34
        refine QJ.on rfl rfl (cB hb34) (YldS.yld (y_move rfl)) rfl ?_
        refine QJ.on rfl rfl (cB hb34) (YldS.yld (y_move rfl)) rfl ?_
        obtain ⟨r35, h36, h33⟩ := bindS h33
        refine QJ.on rfl rfl (cB hb34) (y_call Try.call17 rfl (RetG.quiet fun w hw => ok_w_f6ints h36 w _ (hw.row_rd (k := 3) rfl) _ (hw.row_rd (k := 2) rfl))) rfl ?_
        refine QJ.on rfl rfl (cB hb34) (YldS.yld (y_not rfl)) rfl ?_
        refine QJ.step (YldS.yld (y_pick_f (cB hb34) rfl)) rfl ?_
        obtain rfl := Option.some.inj h33
        exact QJ.cut_end ⟨rfl, rfl, rfl, rfl, rfl, rfl, rfl, rfl, rfl, rfl, rfl, rfl, rfl, rfl, rfl, rfl, rfl, rfl, rfl, rfl, trivial⟩
    refine QJ.step (YldS.yld (y_move rfl)) rfl ?_
    obtain ⟨t37, h38, hm⟩ := bindS hm
    refine QJ.cut 4 [(3, v9), (4, .int .i64 r7.2), (7, v15), (9, .int .i64 r16.1), (10, .int .i64 r16.2), (11, .int .i64 r18.1), (13, .int .i64 r20.1), (14, .int .i64 r20.2), (15, .int .i64 r22.1), (16, .int .i64 r22.2), (17, .int .i64 r24.1), (18, .int .i64 r24.2.1), (19, .int .i64 r24.2.2), (20, .int .i64 r26.1), (21, .int .i64 r26.2.1), (22, .int .i64 r26.2.2), (23, v30), (24, v31), (104, .bool t37)] ?_ ?_
    · rcases Bool.eq_false_or_eq_true t32 with hb39 | hb39
      · obtain rfl := orT h38 hb39
        refine QJ.off rfl rfl (cB hb39) rfl rfl ?_
        refine QJ.off rfl rfl (cB hb39) rfl rfl ?_
        refine QJ.off rfl rfl (cB hb39) rfl rfl ?_
        refine QJ.step (YldS.yld (y_pick_t (cB hb39) rfl)) rfl ?_
        exact QJ.cut_end ⟨rfl, rfl, rfl, rfl, rfl, rfl, rfl, rfl, rfl, rfl, rfl, rfl, rfl, rfl, rfl, rfl, rfl, rfl, rfl, trivial⟩
      · replace h38 := orF h38 hb39
        refine QJ.on rfl rfl (cB hb39) (YldS.yld (y_move rfl)) rfl ?_
        refine QJ.on rfl rfl (cB hb39) (YldS.yld (y_move rfl)) rfl ?_
        refine QJ.on rfl rfl (cB hb39) (YldS.yld (y_bin rfl rfl rfl)) rfl ?_
        refine QJ.step (YldS.yld (y_pick_f (cB hb39) rfl)) rfl ?_
        obtain rfl := Option.some.inj h38
        exact QJ.cut_end ⟨rfl, rfl, rfl, rfl, rfl, rfl, rfl, rfl, rfl, rfl, rfl, rfl, rfl, rfl, rfl, rfl, rfl, rfl, rfl, trivial⟩
    refine QJ.step (YldS.yld (y_move rfl)) rfl ?_
    obtain ⟨t40, h41, hm⟩ := bindS hm
    refine QJ.cut 4 [(3, v9), (4, .int .i64 r7.2), (7, v15), (10, .int .i64 r16.2), (11, .int .i64 r18.1), (13, .int .i64 r20.1), (14, .int .i64 r20.2), (15, .int .i64 r22.1), (16, .int .i64 r22.2), (17, .int .i64 r24.1), (18, .int .i64 r24.2.1), (19, .int .i64 r24.2.2), (20, .int .i64 r26.1), (21, .int .i64 r26.2.1), (22, .int .i64 r26.2.2), (23, v30), (24, v31), (109, .bool t40)] ?_ ?_
    · rcases Bool.eq_false_or_eq_true t37 with hb42 | hb42
      · obtain rfl := orT h41 hb42
        refine QJ.off rfl rfl (cB hb42) rfl rfl ?_
        refine QJ.off rfl rfl (cB hb42) rfl rfl ?_
        refine QJ.off rfl rfl (cB hb42) rfl rfl ?_
        refine QJ.step (YldS.yld (y_pick_t (cB hb42) rfl)) rfl ?_
        exact QJ.cut_end ⟨rfl, rfl, rfl, rfl, rfl, rfl, rfl, rfl, rfl, rfl, rfl, rfl, rfl, rfl, rfl, rfl, rfl, rfl, trivial⟩
      · replace h41 := orF h41 hb42
        refine QJ.on rfl rfl (cB hb42) (YldS.yld (y_move rfl)) rfl ?_
        refine QJ.on rfl rfl (cB hb42) (YldS.yld (y_move rfl)) rfl ?_
        refine QJ.on rfl rfl (cB hb42) (YldS.yld (y_bin rfl rfl rfl)) rfl ?_
        refine QJ.step (YldS.yld (y_pick_f (cB hb42) rfl)) rfl ?_
        obtain rfl := Option.some.inj h41
        exact QJ.cut_end ⟨rfl, rfl, rfl, rfl, rfl, rfl, rfl, rfl, rfl, rfl, rfl, rfl, rfl, rfl, rfl, rfl, rfl, rfl, trivial⟩
    refine QJ.step (YldS.yld (y_move rfl)) rfl ?_
    obtain ⟨t43, h44, hm⟩ := bindS hm
    refine QJ.cut 4 [(3, v9), (4, .int .i64 r7.2), (7, v15), (10, .int .i64 r16.2), (11, .int .i64 r18.1), (13, .int .i64 r20.1), (15, .int .i64 r22.1), (17, .int .i64 r24.1), (18, .int .i64 r24.2.1), (19, .int .i64 r24.2.2), (20, .int .i64 r26.1), (21, .int .i64 r26.2.1), (22, .int .i64 r26.2.2), (23, v30), (24, v31), (114, .bool t43)] ?_ ?_
    · rcases Bool.eq_false_or_eq_true t40 with hb45 | hb45
      · obtain rfl := orT h44 hb45
        refine QJ.off rfl rfl (cB hb45) rfl rfl ?_
        refine QJ.off rfl rfl (cB hb45) rfl rfl ?_
        refine QJ.off rfl rfl (cB hb45) rfl rfl ?_
        refine QJ.step (YldS.yld (y_pick_t (cB hb45) rfl)) rfl ?_
        exact QJ.cut_end ⟨rfl, rfl, rfl, rfl, rfl, rfl, rfl, rfl, rfl, rfl, rfl, rfl, rfl, rfl, rfl, rfl, trivial⟩
      · replace h44 := orF h44 hb45
        refine QJ.on rfl rfl (cB hb45) (YldS.yld (y_move rfl)) rfl ?_
        refine QJ.on rfl rfl (cB hb45) (YldS.yld (y_move rfl)) rfl ?_
        refine QJ.on rfl rfl (cB hb45) (YldS.yld (y_bin rfl rfl rfl)) rfl ?_
        refine QJ.step (YldS.yld (y_pick_f (cB hb45) rfl)) rfl ?_
        obtain rfl := Option.some.inj h44
        exact QJ.cut_end ⟨rfl, rfl, rfl, rfl, rfl, rfl, rfl, rfl, rfl, rfl, rfl, rfl, rfl, rfl, rfl, rfl, trivial⟩
    refine QJ.step (YldS.yld (y_move rfl)) rfl ?_
    obtain ⟨t46, h47, hm⟩ := bindS hm
    refine QJ.cut 4 [(3, v9), (4, .int .i64 r7.2), (7, v15), (10, .int .i64 r16.2), (11, .int .i64 r18.1), (15, .int .i64 r22.1), (17, .int .i64 r24.1), (18, .int .i64 r24.2.1), (19, .int .i64 r24.2.2), (20, .int .i64 r26.1), (21, .int .i64 r26.2.1), (22, .int .i64 r26.2.2), (23, v30), (24, v31), (119, .bool t46)] ?_ ?_
    · rcases Bool.eq_false_or_eq_true t43 with hb48 | hb48
      · obtain rfl := orT h47 hb48
        refine QJ.off rfl rfl (cB hb48) rfl rfl ?_
        refine QJ.off rfl rfl (cB hb48) rfl rfl ?_
        refine QJ.off rfl rfl (cB hb48) rfl rfl ?_
        refine QJ.step (YldS.yld (y_pick_t (cB hb48) rfl)) rfl ?_
        exact QJ.cut_end ⟨rfl, rfl, rfl, rfl, rfl, rfl, rfl, rfl, rfl, rfl, rfl, rfl, rfl, rfl, rfl, trivial⟩
      · replace h47 := orF h47 hb48
        refine QJ.on rfl rfl (cB hb48) (YldS.yld (y_move rfl)) rfl ?_
        refine QJ.on rfl rfl (cB hb48) (YldS.yld (y_move rfl)) rfl ?_
        refine QJ.on rfl rfl (cB hb48) (YldS.yld (y_bin rfl rfl rfl)) rfl ?_
        refine QJ.step (YldS.yld (y_pick_f (cB hb48) rfl)) rfl ?_
        obtain rfl := Option.some.inj h47
        exact QJ.cut_end ⟨rfl, rfl, rfl, rfl, rfl, rfl, rfl, rfl, rfl, rfl, rfl, rfl, rfl, rfl, rfl, trivial⟩
    refine QJ.step (YldS.yld (y_move rfl)) rfl ?_
    obtain ⟨t49, h50, hm⟩ := bindS hm
    refine QJ.cut 4 [(3, v9), (4, .int .i64 r7.2), (7, v15), (10, .int .i64 r16.2), (11, .int .i64 r18.1), (15, .int .i64 r22.1), (17, .int .i64 r24.1), (18, .int .i64 r24.2.1), (20, .int .i64 r26.1), (21, .int .i64 r26.2.1), (23, v30), (24, v31), (124, .bool t49)] ?_ ?_
    · rcases Bool.eq_false_or_eq_true t46 with hb51 | hb51
      · obtain rfl := orT h50 hb51
        refine QJ.off rfl rfl (cB hb51) rfl rfl ?_
        refine QJ.off rfl rfl (cB hb51) rfl rfl ?_
        refine QJ.off rfl rfl (cB hb51) rfl rfl ?_
        refine QJ.step (YldS.yld (y_pick_t (cB hb51) rfl)) rfl ?_
        exact QJ.cut_end ⟨rfl, rfl, rfl, rfl, rfl, rfl, rfl, rfl, rfl, rfl, rfl, rfl, rfl, trivial⟩
      · replace h50 := orF h50 hb51
        refine QJ.on rfl rfl (cB hb51) (YldS.yld (y_move rfl)) rfl ?_
        refine QJ.on rfl rfl (cB hb51) (YldS.yld (y_move rfl)) rfl ?_
        refine QJ.on rfl rfl (cB hb51) (YldS.yld (y_bin rfl rfl rfl)) rfl ?_
        refine QJ.step (YldS.yld (y_pick_f (cB hb51) rfl)) rfl ?_
        obtain rfl := Option.some.inj h50
        exact QJ.cut_end ⟨rfl, rfl, rfl, rfl, rfl, rfl, rfl, rfl, rfl, rfl, rfl, rfl, rfl, trivial⟩
    refine QJ.step (YldS.yld (y_move rfl)) rfl ?_
    obtain ⟨t52, h53, hm⟩ := bindS hm
    refine QJ.cut 4 [(3, v9), (4, .int .i64 r7.2), (7, v15), (10, .int .i64 r16.2), (11, .int .i64 r18.1), (15, .int .i64 r22.1), (18, .int .i64 r24.2.1), (20, .int .i64 r26.1), (21, .int .i64 r26.2.1), (23, v30), (24, v31), (129, .bool t52)] ?_ ?_
    · rcases Bool.eq_false_or_eq_true t49 with hb54 | hb54
      · obtain rfl := orT h53 hb54
        refine QJ.off rfl rfl (cB hb54) rfl rfl ?_
        refine QJ.off rfl rfl (cB hb54) rfl rfl ?_
        refine QJ.off rfl rfl (cB hb54) rfl rfl ?_
        refine QJ.step (YldS.yld (y_pick_t (cB hb54) rfl)) rfl ?_
        exact QJ.cut_end ⟨rfl, rfl, rfl, rfl, rfl, rfl, rfl, rfl, rfl, rfl, rfl, rfl, trivial⟩
      · replace h53 := orF h53 hb54
        refine QJ.on rfl rfl (cB hb54) (YldS.yld (y_move rfl)) rfl ?_
        refine QJ.on rfl rfl (cB hb54) (YldS.yld (y_move rfl)) rfl ?_
        refine QJ.on rfl rfl (cB hb54) (YldS.yld (y_bin rfl rfl rfl)) rfl ?_
        refine QJ.step (YldS.yld (y_pick_f (cB hb54) rfl)) rfl ?_
        obtain rfl := Option.some.inj h53
        exact QJ.cut_end ⟨rfl, rfl, rfl, rfl, rfl, rfl, rfl, rfl, rfl, rfl, rfl, rfl, trivial⟩
    refine QJ.step (YldS.yld (y_move rfl)) rfl ?_
    obtain ⟨t55, h56, hm⟩ := bindS hm
    refine QJ.cut 4 [(3, v9), (4, .int .i64 r7.2), (7, v15), (10, .int .i64 r16.2), (11, .int .i64 r18.1), (15, .int .i64 r22.1), (20, .int .i64 r26.1), (21, .int .i64 r26.2.1), (23, v30), (24, v31), (134, .bool t55)] ?_ ?_
    · rcases Bool.eq_false_or_eq_true t52 with hb57 | hb57
      · obtain rfl := orT h56 hb57
        refine QJ.off rfl rfl (cB hb57) rfl rfl ?_
        refine QJ.off rfl rfl (cB hb57) rfl rfl ?_
        refine QJ.off rfl rfl (cB hb57) rfl rfl ?_
        refine QJ.step (YldS.yld (y_pick_t (cB hb57) rfl)) rfl ?_
        exact QJ.cut_end ⟨rfl, rfl, rfl, rfl, rfl, rfl, rfl, rfl, rfl, rfl, rfl, trivial⟩
      · replace h56 := orF h56 hb57
        refine QJ.on rfl rfl (cB hb57) (YldS.yld (y_move rfl)) rfl ?_
        refine QJ.on rfl rfl (cB hb57) (YldS.yld (y_move rfl)) rfl ?_
        refine QJ.on rfl rfl (cB hb57) (YldS.yld (y_bin rfl rfl rfl)) rfl ?_
        refine QJ.step (YldS.yld (y_pick_f (cB hb57) rfl)) rfl ?_
        obtain rfl := Option.some.inj h56
        exact QJ.cut_end ⟨rfl, rfl, rfl, rfl, rfl, rfl, rfl, rfl, rfl, rfl, rfl, trivial⟩
    refine QJ.step (YldS.yld (y_move rfl)) rfl ?_
    obtain ⟨t58, h59, hm⟩ := bindS hm
    refine QJ.cut 8 [(3, v9), (4, .int .i64 r7.2), (7, v15), (10, .int .i64 r16.2), (11, .int .i64 r18.1), (15, .int .i64 r22.1), (20, .int .i64 r26.1), (21, .int .i64 r26.2.1), (143, .bool t58)] ?_ ?_
    · rcases Bool.eq_false_or_eq_true t55 with hb60 | hb60
      · obtain rfl := orT h59 hb60
        refine QJ.off rfl rfl (cB hb60) rfl rfl ?_
        refine QJ.off rfl rfl (cB hb60) rfl rfl ?_
        refine QJ.off rfl rfl (cB hb60) rfl rfl ?_
        refine QJ.off rfl rfl (cB hb60) rfl rfl ?_
        refine QJ.off rfl rfl (cB hb60) rfl rfl ?_
        refine QJ.off rfl rfl (cB hb60) rfl rfl ?_
        refine QJ.off rfl rfl (cB hb60) rfl rfl ?_
        refine QJ.step (YldS.yld (y_pick_t (cB hb60) rfl)) rfl ?_
        exact QJ.cut_end ⟨rfl, rfl, rfl, rfl, rfl, rfl, rfl, rfl, rfl, trivial⟩
      · replace h59 := orF h59 hb60
        refine QJ.on rfl rfl (cB hb60) (YldS.yld (y_move rfl)) rfl ?_
        refine QJ.on rfl rfl (cB hb60) (YldS.yld (y_move rfl)) rfl ?_
        obtain ⟨r61, h62, h59⟩ := bindS h59
        refine QJ.on rfl rfl (cB hb60) (y_call Try.call18 rfl (RetG.quiet fun w hw => ok_i_SameTrials h62 w _ (hw.row_rd (k := 0) rfl) _ (hw.row_rd (k := 1) rfl))) rfl ?_
        refine QJ.on rfl rfl (cB hb60) (YldS.yld (y_move rfl)) rfl ?_
        refine QJ.on rfl rfl (cB hb60) (YldS.yld (y_move rfl)) rfl ?_
        obtain ⟨r63, h64, h59⟩ := bindS h59
        refine QJ.on rfl rfl (cB hb60) (y_call Try.call19 rfl (RetG.quiet fun w hw => ok_s_SameTrials h64 w _ (hw.row_rd (k := 0) rfl) _ (hw.row_rd (k := 1) rfl))) rfl ?_
        refine QJ.on rfl rfl (cB hb60) (YldS.yld (y_neB Try.underlying4 rfl rfl rfl)) rfl ?_
        refine QJ.step (YldS.yld (y_pick_f (cB hb60) rfl)) rfl ?_
        obtain rfl := Option.some.inj h59
        exact QJ.cut_end ⟨rfl, rfl, rfl, rfl, rfl, rfl, rfl, rfl, rfl, trivial⟩
    refine QJ.step (YldS.yld (y_move rfl)) rfl ?_
    obtain ⟨t65, h66, hm⟩ := bindS hm
    refine QJ.cut 6 [(3, v9), (4, .int .i64 r7.2), (7, v15), (10, .int .i64 r16.2), (11, .int .i64 r18.1), (15, .int .i64 r22.1), (20, .int .i64 r26.1), (21, .int .i64 r26.2.1), (150, .bool t65)] ?_ ?_
    · rcases Bool.eq_false_or_eq_true t58 with hb67 | hb67
      · obtain rfl := orT h66 hb67
        refine QJ.off rfl rfl (cB hb67) rfl rfl ?_
        refine QJ.off rfl rfl (cB hb67) rfl rfl ?_
        refine QJ.off rfl rfl (cB hb67) rfl rfl ?_
        refine QJ.off rfl rfl (cB hb67) rfl rfl ?_
        refine QJ.off rfl rfl (cB hb67) rfl rfl ?_
        refine QJ.step (YldS.yld (y_pick_t (cB hb67) rfl)) rfl ?_
        exact QJ.cut_end ⟨rfl, rfl, rfl, rfl, rfl, rfl, rfl, rfl, rfl, trivial⟩
      · replace h66 := orF h66 hb67
        refine QJ.on rfl rfl (cB hb67) (YldS.yld (y_move rfl)) rfl ?_
        obtain ⟨r68, h69, h66⟩ := bindS h66
        refine QJ.on rfl rfl (cB hb67) (y_call Try.call20 rfl (RetG.quiet fun w hw => ok_i_ValidTrials h69 w _ (hw.row_rd (k := 4) rfl))) rfl ?_
        refine QJ.on rfl rfl (cB hb67) (YldS.yld (y_move rfl)) rfl ?_
        obtain ⟨r70, h71, h66⟩ := bindS h66
        refine QJ.on rfl rfl (cB hb67) (y_call Try.call21 rfl (RetG.quiet fun w hw => ok_s_ValidTrials h71 w _ (hw.row_rd (k := 4) rfl))) rfl ?_
        refine QJ.on rfl rfl (cB hb67) (YldS.yld (y_neB Try.underlying4 rfl rfl rfl)) rfl ?_
        refine QJ.step (YldS.yld (y_pick_f (cB hb67) rfl)) rfl ?_
        obtain rfl := Option.some.inj h66
        exact QJ.cut_end ⟨rfl, rfl, rfl, rfl, rfl, rfl, rfl, rfl, rfl, trivial⟩
    refine QJ.done ?_
    refine PJ.next ?_
    refine WJ.cond (t := t65) rfl (fun hb72 => ?_) (fun hb72 => ?_)
    · replace hm := ifT hm hb72
      refine WJ.seq ?_
      refine WJ.quiet ?_
      refine QJ.step (YldS.yld (y_assign rfl)) rfl ?_
      refine QJ.done ?_
      refine PJ.next ?_
      refine WJ.ret ?_
      refine PJ.then_ret ?_
      obtain rfl := Option.some.inj hm
      refine PJ.sel (L' := []) [] ⟨List.nodup_nil, rfl⟩ ?_
      exact PJ.retn (vs := [.bool false]) Try.results3 ⟨rfl, trivial⟩ ⟨rfl, rfl⟩
    · replace hm := ifF hm hb72
      refine WJ.skip ?_
      refine PJ.next ?_
      refine WJ.seq ?_
      refine WJ.seq ?_
      refine WJ.quiet ?_
      refine QJ.step (YldS.yld (y_move rfl)) rfl ?_
      refine QJ.step (YldS.yld (y_bin rfl rfl rfl)) rfl ?_
      refine QJ.done ?_
      refine PJ.next ?_
      refine WJ.cond (t := (r16.2 != 0)) rfl (fun hb73 => ?_) (fun hb73 => ?_)
      · replace hm := ifT hm hb73
        refine WJ.seq ?_
        refine WJ.quiet ?_
        refine QJ.step (YldS.yld (y_assign rfl)) rfl ?_
        refine QJ.done ?_
        refine PJ.next ?_
        refine WJ.ret ?_
        refine PJ.then_ret ?_
        obtain rfl := Option.some.inj hm
        refine PJ.sel (L' := []) [] ⟨List.nodup_nil, rfl⟩ ?_
        exact PJ.retn (vs := [.bool true]) Try.results3 ⟨rfl, trivial⟩ ⟨rfl, rfl⟩
      · replace hm := ifF hm hb73
        refine WJ.skip ?_
        refine PJ.next ?_
        refine WJ.seq ?_
        refine WJ.seq ?_
        refine WJ.quiet ?_
        refine QJ.step (YldS.yld (y_move rfl)) rfl ?_
        refine QJ.step (YldS.yld (y_lenRow (k := 2) rfl Try.runUnderlying27 rfl)) rfl ?_
        refine QJ.step (YldS.yld (y_bin rfl rfl rfl)) rfl ?_
        refine QJ.step (YldS.yld (y_move rfl)) rfl ?_
        obtain ⟨t74, h75, hm⟩ := bindS hm
        refine QJ.cut 9 [(3, v9), (4, .int .i64 r7.2), (7, v15), (11, .int .i64 r18.1), (15, .int .i64 r22.1), (20, .int .i64 r26.1), (21, .int .i64 r26.2.1), (165, .bool t74)] ?_ ?_
        · rcases Bool.eq_false_or_eq_true ((List.length r13.1 : Int) == 0) with hb76 | hb76
          · obtain rfl := orT h75 hb76
            refine QJ.off rfl rfl (cB hb76) rfl rfl ?_
            refine QJ.off rfl rfl (cB hb76) rfl rfl ?_
            refine QJ.off rfl rfl (cB hb76) rfl rfl ?_
            refine QJ.off rfl rfl (cB hb76) rfl rfl ?_
            refine QJ.off rfl rfl (cB hb76) rfl rfl ?_
            refine QJ.off rfl rfl (cB hb76) rfl rfl ?_
            refine QJ.off rfl rfl (cB hb76) rfl rfl ?_
            refine QJ.off rfl rfl (cB hb76) rfl rfl ?_
            refine QJ.step (YldS.yld (y_pick_t (cB hb76) rfl)) rfl ?_
            exact QJ.cut_end ⟨rfl, rfl, rfl, rfl, rfl, rfl, rfl, rfl, trivial⟩
          · replace h75 := orF h75 hb76
            refine QJ.on rfl rfl (cB hb76) (YldS.yld (y_move rfl)) rfl ?_
            refine QJ.on rfl rfl (cB hb76) (YldS.yld (y_move rfl)) rfl ?_
            refine QJ.on rfl rfl (cB hb76) (YldS.yld (y_lenRow (k := 2) rfl Try.runUnderlying27 rfl)) rfl ?_
            refine QJ.on rfl rfl (cB hb76) (YldS.yld (y_bin rfl rfl rfl)) rfl ?_
            obtain ⟨e77, h78, h75⟩ := bindS h75
            refine QJ.on rfl rfl (cB hb76) (YldS.yld (y_ixRow (k := 2) (R := fI64) rfl Try.runUnderlying27 Try.sizeOf2 rfl rfl h78)) rfl ?_
            refine QJ.on rfl rfl (cB hb76) (YldS.yld (y_loadR (k := 2) (i := (Int.toNat (w64 ((List.length r13.1 : Int) - 1)))) (off := 0) (u := .int .i64 e77) rfl Try.isAgg2 rfl (idx_get h78) rfl)) rfl ?_
            refine QJ.on rfl rfl (cB hb76) (YldS.yld (y_move rfl)) rfl ?_
            refine QJ.on rfl rfl (cB hb76) (YldS.yld (y_bin rfl rfl rfl)) rfl ?_
            refine QJ.step (YldS.yld (y_pick_f (cB hb76) rfl)) rfl ?_
            obtain rfl := Option.some.inj h75
            exact QJ.cut_end ⟨rfl, rfl, rfl, rfl, rfl, rfl, rfl, rfl, trivial⟩
        refine QJ.step (YldS.yld (y_move rfl)) rfl ?_
        obtain ⟨t79, h80, hm⟩ := bindS hm
        refine QJ.cut 5 [(3, v9), (4, .int .i64 r7.2), (11, .int .i64 r18.1), (15, .int .i64 r22.1), (20, .int .i64 r26.1), (21, .int .i64 r26.2.1), (171, .bool t79)] ?_ ?_
        · rcases Bool.eq_false_or_eq_true t74 with hb81 | hb81
          · obtain rfl := orT h80 hb81
            refine QJ.off rfl rfl (cB hb81) rfl rfl ?_
            refine QJ.off rfl rfl (cB hb81) rfl rfl ?_
            refine QJ.off rfl rfl (cB hb81) rfl rfl ?_
            refine QJ.off rfl rfl (cB hb81) rfl rfl ?_
            refine QJ.step (YldS.yld (y_pick_t (cB hb81) rfl)) rfl ?_
            exact QJ.cut_end ⟨rfl, rfl, rfl, rfl, rfl, rfl, rfl, trivial⟩
          · replace h80 := orF h80 hb81
            refine QJ.on rfl rfl (cB hb81) (YldS.yld (y_move rfl)) rfl ?_
            obtain ⟨e82, h83, h80⟩ := bindS h80
            refine QJ.on rfl rfl (cB hb81) (YldS.yld (y_ixRow (k := 2) (R := fI64) rfl Try.runUnderlying27 Try.sizeOf2 rfl rfl h83)) rfl ?_
            refine QJ.on rfl rfl (cB hb81) (YldS.yld (y_loadR (k := 2) (i := (Int.toNat 0)) (off := 0) (u := .int .i64 e82) rfl Try.isAgg2 rfl (idx_get h83) rfl)) rfl ?_
            refine QJ.on rfl rfl (cB hb81) (YldS.yld (y_bin rfl rfl rfl)) rfl ?_
            refine QJ.step (YldS.yld (y_pick_f (cB hb81) rfl)) rfl ?_
            obtain rfl := Option.some.inj h80
            exact QJ.cut_end ⟨rfl, rfl, rfl, rfl, rfl, rfl, rfl, trivial⟩
        refine QJ.done ?_
        refine PJ.next ?_
        refine WJ.cond (t := t79) rfl (fun hb84 => ?_) (fun hb84 => ?_)
        · replace hm := ifT hm hb84
          refine WJ.seq ?_
          refine WJ.quiet ?_
          refine QJ.step (YldS.yld (y_assign rfl)) rfl ?_
          refine QJ.done ?_
          refine PJ.next ?_
          refine WJ.ret ?_
          refine PJ.then_ret ?_
          obtain rfl := Option.some.inj hm
          refine PJ.sel (L' := []) [] ⟨List.nodup_nil, rfl⟩ ?_
          exact PJ.retn (vs := [.bool false]) Try.results3 ⟨rfl, trivial⟩ ⟨rfl, rfl⟩
        · replace hm := ifF hm hb84
          refine WJ.skip ?_
          refine PJ.next ?_
          refine WJ.seq ?_
          refine WJ.quiet ?_
          refine QJ.step (YldS.yld (y_assign rfl)) rfl ?_
          refine QJ.done ?_
          refine PJ.next ?_
          refine WJ.seq ?_
          refine WJ.quiet ?_
          refine QJ.step (YldS.yld (y_assign rfl)) rfl ?_
          refine QJ.done ?_
          refine PJ.next ?_
          obtain ⟨kj87, hk88, hm⟩ := withK_open hm
          refine WJ.join (X := Int × Int) (fun (x : Int × Int) => kj87 x.1 x.2 = some r) (fun (x : Int × Int) => [(3, v9), (4, .int .i64 r7.2), (20, .int .i64 r26.1), (21, .int .i64 r26.2.1), (25, .int .i64 x.1), (26, .int .i64 x.2)]) (fun (x : Int × Int) => [row v9 41 fTrial r7.1]) ?_ ?_
          · clear hk88
            refine WJ.seq ?_
            refine WJ.quiet ?_
            refine QJ.step (YldS.yld (y_assign rfl)) rfl ?_
            refine QJ.done ?_
            refine PJ.next ?_
            refine WJ.block ?_
            refine WJ.sel (L' := (fun (x : Int × Int × Int) => [row v9 41 fTrial r7.1]) (0, 0, 0)) [4] ⟨by decide, rfl⟩ ?_
            refine WJ.sub (m' := (fun (x : Int × Int × Int) => [(3, v9), (4, .int .i64 r7.2), (11, .int .i64 r18.1), (15, .int .i64 r22.1), (20, .int .i64 r26.1), (21, .int .i64 r26.2.1), (25, .int .i64 x.1), (26, .int .i64 x.2.1), (27, .int .i64 x.2.2)]) (0, 0, 0)) ⟨rfl, rfl, rfl, rfl, rfl, rfl, rfl, rfl, rfl, trivial⟩ ?_
            refine WJ.loop (X := Int × Int × Int) (fun N (x : Int × Int × Int) => w_FnRecords_l1 kj87 r7 r18 r22 N x.1 x.2.1 x.2.2 = some r) (fun (x : Int × Int × Int) => [(3, v9), (4, .int .i64 r7.2), (11, .int .i64 r18.1), (15, .int .i64 r22.1), (20, .int .i64 r26.1), (21, .int .i64 r26.2.1), (25, .int .i64 x.1), (26, .int .i64 x.2.1), (27, .int .i64 x.2.2)]) (fun (x : Int × Int × Int) => [row v9 41 fTrial r7.1]) ?_ N (0, 0, 0) hm
            · rintro N ⟨slower89, faster90, i91⟩ hI
              have hm := hI; clear hI
              cases N with
              | zero => cases hm
              | succ N =>
              unfold w_FnRecords_l1 at hm
              refine WJ.seq ?_
              refine WJ.seq ?_
              refine WJ.quiet ?_
              refine QJ.step (YldS.yld (y_move rfl)) rfl ?_
              refine QJ.step (YldS.yld (y_move rfl)) rfl ?_
              refine QJ.step (YldS.yld (y_lenRow (k := 0) rfl Try.runUnderlying24 rfl)) rfl ?_
              refine QJ.step (YldS.yld (y_bin rfl rfl rfl)) rfl ?_
              refine QJ.done ?_
              refine PJ.next ?_
              refine WJ.cond (t := decide (i91 < (List.length r7.1 : Int))) rfl (fun hb92 => ?_) (fun hb92 => ?_)
              · replace hm := ifT hm hb92
                refine WJ.skip ?_
                refine PJ.next ?_
                obtain ⟨kj95, hk96, hm⟩ := withK_open hm
                refine WJ.join (X := Int × Int) (fun (x : Int × Int) => kj95 x.1 x.2 = some r) (fun (x : Int × Int) => [(3, v9), (4, .int .i64 r7.2), (11, .int .i64 r18.1), (15, .int .i64 r22.1), (20, .int .i64 r26.1), (21, .int .i64 r26.2.1), (25, .int .i64 x.1), (26, .int .i64 x.2), (27, .int .i64 i91)]) (fun (x : Int × Int) => [row v9 41 fTrial r7.1]) ?_ ?_
                · clear hk96
                  refine WJ.block ?_
                  refine WJ.seq ?_
                  refine WJ.seq ?_
                  refine WJ.quiet_draw follows (by kernel_rfl) ?_
                  refine QJ.step (YldS.yld (y_move rfl)) rfl ?_
                  refine QJ.step (YldS.yld (y_move rfl)) rfl ?_
                  obtain ⟨e97, h98, hm⟩ := bindS hm
                  refine QJ.step (YldS.yld (y_ixRow (k := 0) (R := fTrial) rfl Try.runUnderlying24 Try.sizeOf41 rfl rfl h98)) rfl ?_
                  refine QJ.step (YldS.yld (y_loadRN (k := 0) (i := (Int.toNat i91)) (off := 0) (us := [.int .i64 e97.strokes, .int .i64 e97.errors, .int .i64 e97.seconds]) rfl Try.isAgg41 Try.sizeOf41 rfl (idx_get h98) rfl)) rfl ?_
                  refine QJ.step (YldS.yld (y_move rfl)) rfl ?_
                  refine QJ.step (YldS.yld (y_move rfl)) rfl ?_
                  obtain ⟨e99, h100, hm⟩ := bindS hm
                  refine QJ.step (YldS.yld (y_ixRow (k := 0) (R := fTrial) rfl Try.runUnderlying24 Try.sizeOf41 rfl rfl h100)) rfl ?_
                  refine QJ.step (YldS.yld (y_loadRN (k := 0) (i := (Int.toNat r18.1)) (off := 0) (us := [.int .i64 e99.strokes, .int .i64 e99.errors, .int .i64 e99.seconds]) rfl Try.isAgg41 Try.sizeOf41 rfl (idx_get h100) rfl)) rfl ?_
                  refine QJ.step (YldS.yld (y_move rfl)) rfl ?_
                  obtain ⟨r101, h102, hm⟩ := bindS hm
                  refine QJ.step (y_call Try.call22 rfl (RetG.quiet fun w hw => ok_w_f6faster h102 w )) rfl ?_
                  refine QJ.done ?_
                  refine PJ.next ?_
                  refine WJ.cond (t := r101) rfl (fun hb103 => ?_) (fun hb103 => ?_)
                  · replace hm := ifT hm hb103
                    refine WJ.seq ?_
                    refine WJ.quiet ?_
                    refine QJ.step (YldS.yld (y_assign rfl)) rfl ?_
                    refine QJ.done ?_
                    refine PJ.next ?_
                    refine WJ.ret ?_
                    refine PJ.then_ret (PJ.block_ret (PJ.then_ret (PJ.then_ret (PJ.block_ret (PJ.then_ret ?_)))))
                    obtain rfl := Option.some.inj hm
                    refine PJ.sel (L' := []) [] ⟨List.nodup_nil, rfl⟩ ?_
                    exact PJ.retn (vs := [.bool false]) Try.results3 ⟨rfl, trivial⟩ ⟨rfl, rfl⟩
                  · replace hm := ifF hm hb103
                    refine WJ.skip ?_
                    refine PJ.next ?_
                    obtain ⟨kj105, hk106, hm⟩ := withK_open hm
                    refine WJ.join (X := Int) (fun (x : Int) => kj105 x = some r) (fun (x : Int) => [(3, v9), (4, .int .i64 r7.2), (11, .int .i64 r18.1), (15, .int .i64 r22.1), (20, .int .i64 r26.1), (21, .int .i64 r26.2.1), (25, .int .i64 x), (26, .int .i64 faster90), (27, .int .i64 i91)]) (fun (x : Int) => [row v9 41 fTrial r7.1]) ?_ ?_
                    · clear hk106
                      refine WJ.seq ?_
                      refine WJ.quiet_draw follows (by kernel_rfl) ?_
                      refine QJ.step (YldS.yld (y_move rfl)) rfl ?_
                      refine QJ.step (YldS.yld (y_move rfl)) rfl ?_
                      obtain ⟨e107, h108, hm⟩ := bindS hm
                      refine QJ.step (YldS.yld (y_ixRow (k := 0) (R := fTrial) rfl Try.runUnderlying24 Try.sizeOf41 rfl rfl h108)) rfl ?_
                      refine QJ.step (YldS.yld (y_loadRN (k := 0) (i := (Int.toNat r22.1)) (off := 0) (us := [.int .i64 e107.strokes, .int .i64 e107.errors, .int .i64 e107.seconds]) rfl Try.isAgg41 Try.sizeOf41 rfl (idx_get h108) rfl)) rfl ?_
                      refine QJ.step (YldS.yld (y_move rfl)) rfl ?_
                      refine QJ.step (YldS.yld (y_move rfl)) rfl ?_
                      obtain ⟨e109, h110, hm⟩ := bindS hm
                      refine QJ.step (YldS.yld (y_ixRow (k := 0) (R := fTrial) rfl Try.runUnderlying24 Try.sizeOf41 rfl rfl h110)) rfl ?_
                      refine QJ.step (YldS.yld (y_loadRN (k := 0) (i := (Int.toNat i91)) (off := 0) (us := [.int .i64 e109.strokes, .int .i64 e109.errors, .int .i64 e109.seconds]) rfl Try.isAgg41 Try.sizeOf41 rfl (idx_get h110) rfl)) rfl ?_
                      refine QJ.step (YldS.yld (y_move rfl)) rfl ?_
                      obtain ⟨r111, h112, hm⟩ := bindS hm
                      refine QJ.step (y_call Try.call22 rfl (RetG.quiet fun w hw => ok_w_f6faster h112 w )) rfl ?_
                      refine QJ.done ?_
                      refine PJ.next ?_
                      refine WJ.cond (t := r111) rfl (fun hb113 => ?_) (fun hb113 => ?_)
                      · replace hm := ifT hm hb113
                        refine WJ.quiet ?_
                        refine QJ.step (YldS.yld (y_move rfl)) rfl ?_
                        refine QJ.step (YldS.yld (y_bin rfl rfl rfl)) rfl ?_
                        refine QJ.step (YldS.yld (y_assign rfl)) rfl ?_
                        refine QJ.done ?_
                        exact PJ.joined (w64 (slower89 + 1)) [0] hm ⟨rfl, rfl, rfl, rfl, rfl, rfl, rfl, rfl, rfl, trivial⟩ ⟨by decide, rfl⟩
                      · replace hm := ifF hm hb113
                        refine WJ.skip ?_
                        exact PJ.joined slower89 [0] hm ⟨rfl, rfl, rfl, rfl, rfl, rfl, rfl, rfl, rfl, trivial⟩ ⟨by decide, rfl⟩
                    · rintro slower104 hm
                      subst hk106
                      refine WJ.seq ?_
                      refine WJ.quiet_draw follows (by kernel_rfl) ?_
                      refine QJ.step (YldS.yld (y_move rfl)) rfl ?_
                      refine QJ.step (YldS.yld (y_move rfl)) rfl ?_
                      obtain ⟨e114, h115, hm⟩ := bindS hm
                      refine QJ.step (YldS.yld (y_ixRow (k := 0) (R := fTrial) rfl Try.runUnderlying24 Try.sizeOf41 rfl rfl h115)) rfl ?_
                      refine QJ.step (YldS.yld (y_loadRN (k := 0) (i := (Int.toNat i91)) (off := 0) (us := [.int .i64 e114.strokes, .int .i64 e114.errors, .int .i64 e114.seconds]) rfl Try.isAgg41 Try.sizeOf41 rfl (idx_get h115) rfl)) rfl ?_
                      refine QJ.step (YldS.yld (y_move rfl)) rfl ?_
                      refine QJ.step (YldS.yld (y_move rfl)) rfl ?_
                      obtain ⟨e116, h117, hm⟩ := bindS hm
                      refine QJ.step (YldS.yld (y_ixRow (k := 0) (R := fTrial) rfl Try.runUnderlying24 Try.sizeOf41 rfl rfl h117)) rfl ?_
                      refine QJ.step (YldS.yld (y_loadRN (k := 0) (i := (Int.toNat r22.1)) (off := 0) (us := [.int .i64 e116.strokes, .int .i64 e116.errors, .int .i64 e116.seconds]) rfl Try.isAgg41 Try.sizeOf41 rfl (idx_get h117) rfl)) rfl ?_
                      refine QJ.step (YldS.yld (y_move rfl)) rfl ?_
                      obtain ⟨r118, h119, hm⟩ := bindS hm
                      refine QJ.step (y_call Try.call22 rfl (RetG.quiet fun w hw => ok_w_f6faster h119 w )) rfl ?_
                      refine QJ.done ?_
                      refine PJ.next ?_
                      refine WJ.cond (t := r118) rfl (fun hb120 => ?_) (fun hb120 => ?_)
                      · replace hm := ifT hm hb120
                        refine WJ.quiet ?_
                        refine QJ.step (YldS.yld (y_move rfl)) rfl ?_
                        refine QJ.step (YldS.yld (y_bin rfl rfl rfl)) rfl ?_
                        refine QJ.step (YldS.yld (y_assign rfl)) rfl ?_
                        refine QJ.done ?_
                        refine PJ.block_normal ?_
                        exact PJ.joined (slower104, w64 (faster90 + 1)) [0] hm ⟨rfl, rfl, rfl, rfl, rfl, rfl, rfl, rfl, rfl, trivial⟩ ⟨by decide, rfl⟩
                      · replace hm := ifF hm hb120
                        refine WJ.skip ?_
                        refine PJ.block_normal ?_
                        exact PJ.joined (slower104, faster90) [0] hm ⟨rfl, rfl, rfl, rfl, rfl, rfl, rfl, rfl, rfl, trivial⟩ ⟨by decide, rfl⟩
                · rintro ⟨slower93, faster94⟩ hm
                  subst hk96
                  refine WJ.quiet ?_
                  refine QJ.step (YldS.yld (y_move rfl)) rfl ?_
                  refine QJ.step (YldS.yld (y_bin rfl rfl rfl)) rfl ?_
                  refine QJ.step (YldS.yld (y_assign rfl)) rfl ?_
                  refine QJ.done ?_
                  exact PJ.round (slower93, faster94, w64 (i91 + 1)) [0] hm ⟨rfl, rfl, rfl, rfl, rfl, rfl, rfl, rfl, rfl, trivial⟩ ⟨by decide, rfl⟩
              · replace hm := ifF hm hb92
                refine WJ.exit ?_
                refine PJ.then_exit (PJ.then_exit (PJ.block_exit ?_))
                exact PJ.joined (slower89, faster90) [0] hm ⟨rfl, rfl, rfl, rfl, rfl, rfl, trivial⟩ ⟨by decide, rfl⟩
          · rintro ⟨slower85, faster86⟩ hm
            subst hk88
            refine WJ.seq ?_
            refine WJ.seq ?_
            refine WJ.quiet ?_
            refine QJ.step (YldS.yld (y_move rfl)) rfl ?_
            refine QJ.step (YldS.yld (y_bin rfl rfl rfl)) rfl ?_
            refine QJ.step (YldS.yld (y_move rfl)) rfl ?_
            refine QJ.step (YldS.yld (y_lenRow (k := 0) rfl Try.runUnderlying24 rfl)) rfl ?_
            refine QJ.step (YldS.yld (y_bin rfl rfl rfl)) rfl ?_
            refine QJ.step (YldS.yld (y_move rfl)) rfl ?_
            obtain ⟨t121, h122, hm⟩ := bindS hm
            refine QJ.cut 6 [(3, v9), (4, .int .i64 r7.2), (20, .int .i64 r26.1), (21, .int .i64 r26.2.1), (223, .bool t121)] ?_ ?_
            · rcases Bool.eq_false_or_eq_true (decide ((w64 (2 * slower85)) ≥ (List.length r7.1 : Int))) with hb123 | hb123
              · obtain rfl := orT h122 hb123
                refine QJ.off rfl rfl (cB hb123) rfl rfl ?_
                refine QJ.off rfl rfl (cB hb123) rfl rfl ?_
                refine QJ.off rfl rfl (cB hb123) rfl rfl ?_
                refine QJ.off rfl rfl (cB hb123) rfl rfl ?_
                refine QJ.off rfl rfl (cB hb123) rfl rfl ?_
                refine QJ.step (YldS.yld (y_pick_t (cB hb123) rfl)) rfl ?_
                exact QJ.cut_end ⟨rfl, rfl, rfl, rfl, rfl, trivial⟩
              · replace h122 := orF h122 hb123
                refine QJ.on rfl rfl (cB hb123) (YldS.yld (y_move rfl)) rfl ?_
                refine QJ.on rfl rfl (cB hb123) (YldS.yld (y_bin rfl rfl rfl)) rfl ?_
                refine QJ.on rfl rfl (cB hb123) (YldS.yld (y_move rfl)) rfl ?_
                refine QJ.on rfl rfl (cB hb123) (YldS.yld (y_lenRow (k := 0) rfl Try.runUnderlying24 rfl)) rfl ?_
                refine QJ.on rfl rfl (cB hb123) (YldS.yld (y_bin rfl rfl rfl)) rfl ?_
                refine QJ.step (YldS.yld (y_pick_f (cB hb123) rfl)) rfl ?_
                obtain rfl := Option.some.inj h122
                exact QJ.cut_end ⟨rfl, rfl, rfl, rfl, rfl, trivial⟩
            refine QJ.done ?_
            refine PJ.next ?_
            refine WJ.cond (t := t121) rfl (fun hb124 => ?_) (fun hb124 => ?_)
            · replace hm := ifT hm hb124
              refine WJ.seq ?_
              refine WJ.quiet ?_
              refine QJ.step (YldS.yld (y_assign rfl)) rfl ?_
              refine QJ.done ?_
              refine PJ.next ?_
              refine WJ.ret ?_
              refine PJ.then_ret ?_
              obtain rfl := Option.some.inj hm
              refine PJ.sel (L' := []) [] ⟨List.nodup_nil, rfl⟩ ?_
              exact PJ.retn (vs := [.bool false]) Try.results3 ⟨rfl, trivial⟩ ⟨rfl, rfl⟩
            · replace hm := ifF hm hb124
              refine WJ.skip ?_
              refine PJ.next ?_
              obtain ⟨kj125, hk126, hm⟩ := withK_open hm
              refine WJ.join (X := Unit) (fun (_ : Unit) => kj125  = some r) (fun (_ : Unit) => []) (fun (_ : Unit) => []) ?_ ?_
              · clear hk126
                refine WJ.seq ?_
                refine WJ.quiet ?_
                refine QJ.step (YldS.yld (y_move rfl)) rfl ?_
                refine QJ.step (YldS.yld (y_bin rfl rfl rfl)) rfl ?_
                refine QJ.step (YldS.yld (y_assign rfl)) rfl ?_
                refine QJ.done ?_
                refine PJ.next ?_
                refine WJ.block ?_
                refine WJ.sel (L' := (fun (x : Int) => [row v9 41 fTrial r7.1]) (w64 (r26.1 + 1))) [0] ⟨by decide, rfl⟩ ?_
                refine WJ.sub (m' := (fun (x : Int) => [(3, v9), (4, .int .i64 r7.2), (20, .int .i64 r26.1), (21, .int .i64 r26.2.1), (28, .int .i64 x)]) (w64 (r26.1 + 1))) ⟨rfl, rfl, rfl, rfl, rfl, trivial⟩ ?_
                refine WJ.loop (X := Int) (fun N (x : Int) => w_FnRecords_l2 kj125 r7 r26 N x = some r) (fun (x : Int) => [(3, v9), (4, .int .i64 r7.2), (20, .int .i64 r26.1), (21, .int .i64 r26.2.1), (28, .int .i64 x)]) (fun (x : Int) => [row v9 41 fTrial r7.1]) ?_ N (w64 (r26.1 + 1)) hm
                · rintro N i127 hI
                  have hm := hI; clear hI
                  cases N with
                  | zero => cases hm
                  | succ N =>
                  unfold w_FnRecords_l2 at hm
                  refine WJ.seq ?_
                  refine WJ.seq ?_
                  refine WJ.quiet ?_
                  refine QJ.step (YldS.yld (y_move rfl)) rfl ?_
                  refine QJ.step (YldS.yld (y_move rfl)) rfl ?_
                  refine QJ.step (YldS.yld (y_move rfl)) rfl ?_
                  refine QJ.step (YldS.yld (y_bin rfl rfl rfl)) rfl ?_
                  refine QJ.step (YldS.yld (y_bin rfl rfl rfl)) rfl ?_
                  refine QJ.done ?_
                  refine PJ.next ?_
                  refine WJ.cond (t := decide (i127 < (w64 (r26.1 + r26.2.1)))) rfl (fun hb128 => ?_) (fun hb128 => ?_)
                  · replace hm := ifT hm hb128
                    refine WJ.skip ?_
                    refine PJ.next ?_
                    refine WJ.seq ?_
                    refine WJ.block ?_
                    refine WJ.seq ?_
                    refine WJ.quiet_draw follows (by kernel_rfl) ?_
                    refine QJ.step (YldS.yld (y_move rfl)) rfl ?_
                    refine QJ.step (YldS.yld (y_move rfl)) rfl ?_
                    obtain ⟨e129, h130, hm⟩ := bindS hm
                    refine QJ.step (YldS.yld (y_ixRow (k := 0) (R := fTrial) rfl Try.runUnderlying24 Try.sizeOf41 rfl rfl h130)) rfl ?_
                    refine QJ.step (YldS.yld (y_loadRN (k := 0) (i := (Int.toNat i127)) (off := 0) (us := [.int .i64 e129.strokes, .int .i64 e129.errors, .int .i64 e129.seconds]) rfl Try.isAgg41 Try.sizeOf41 rfl (idx_get h130) rfl)) rfl ?_
                    refine QJ.step (YldS.yld (y_move rfl)) rfl ?_
                    refine QJ.step (YldS.yld (y_move rfl)) rfl ?_
                    refine QJ.step (YldS.yld (y_bin rfl rfl rfl)) rfl ?_
                    obtain ⟨e131, h132, hm⟩ := bindS hm
                    refine QJ.step (YldS.yld (y_ixRow (k := 0) (R := fTrial) rfl Try.runUnderlying24 Try.sizeOf41 rfl rfl h132)) rfl ?_
                    refine QJ.step (YldS.yld (y_loadRN (k := 0) (i := (Int.toNat (w64 (i127 - 1)))) (off := 0) (us := [.int .i64 e131.strokes, .int .i64 e131.errors, .int .i64 e131.seconds]) rfl Try.isAgg41 Try.sizeOf41 rfl (idx_get h132) rfl)) rfl ?_
                    refine QJ.step (YldS.yld (y_move rfl)) rfl ?_
                    obtain ⟨r133, h134, hm⟩ := bindS hm
                    refine QJ.step (y_call Try.call22 rfl (RetG.quiet fun w hw => ok_w_f6faster h134 w )) rfl ?_
                    refine QJ.step (YldS.yld (y_not rfl)) rfl ?_
                    refine QJ.done ?_
                    refine PJ.next ?_
                    refine WJ.cond (t := !r133) rfl (fun hb135 => ?_) (fun hb135 => ?_)
                    · replace hm := ifT hm hb135
                      refine WJ.seq ?_
                      refine WJ.quiet ?_
                      refine QJ.step (YldS.yld (y_assign rfl)) rfl ?_
                      refine QJ.done ?_
                      refine PJ.next ?_
                      refine WJ.ret ?_
                      refine PJ.block_ret (PJ.then_ret (PJ.then_ret (PJ.block_ret (PJ.then_ret ?_))))
                      obtain rfl := Option.some.inj hm
                      refine PJ.sel (L' := []) [] ⟨List.nodup_nil, rfl⟩ ?_
                      exact PJ.retn (vs := [.bool false]) Try.results3 ⟨rfl, trivial⟩ ⟨rfl, rfl⟩
                    · replace hm := ifF hm hb135
                      refine WJ.skip ?_
                      refine PJ.block_normal (PJ.next ?_)
                      refine WJ.quiet ?_
                      refine QJ.step (YldS.yld (y_move rfl)) rfl ?_
                      refine QJ.step (YldS.yld (y_bin rfl rfl rfl)) rfl ?_
                      refine QJ.step (YldS.yld (y_assign rfl)) rfl ?_
                      refine QJ.done ?_
                      exact PJ.round (w64 (i127 + 1)) [0] hm ⟨rfl, rfl, rfl, rfl, rfl, trivial⟩ ⟨by decide, rfl⟩
                  · replace hm := ifF hm hb128
                    refine WJ.exit ?_
                    refine PJ.then_exit (PJ.then_exit (PJ.block_exit ?_))
                    exact PJ.joined () [] hm trivial ⟨List.nodup_nil, rfl⟩
              · rintro _ hm
                subst hk126
                refine WJ.seq ?_
                refine WJ.quiet ?_
                refine QJ.step (YldS.yld (y_assign rfl)) rfl ?_
                refine QJ.done ?_
                refine PJ.next ?_
                refine WJ.ret ?_
                obtain rfl := Option.some.inj hm
                refine PJ.sel (L' := []) [] ⟨List.nodup_nil, rfl⟩ ?_
                exact PJ.retn (vs := [.bool true]) Try.results3 ⟨rfl, trivial⟩ ⟨rfl, rfl⟩

end Go.Proofs.Ytpdcifgphocllaa
