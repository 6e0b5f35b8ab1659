/-
  The walks: a call hands back what its plain function computes, where that has a value. No other conditions.
-/
import Derived.Test.YtikkolkickclhaaDoorFnRankingsW2
import Derived.Test.YtikkolkickclhaaDoorChecked
namespace Go.Proofs.YtikkolkickclhaaDoor
open Go.RowKit Go.Proofs
set_option linter.unusedVariables false
set_option linter.unusedSimpArgs false

set_option maxRecDepth 100000 in
set_option maxHeartbeats 1000000 in
theorem ok_w_FnRankings {N : Nat} {code1 : List UInt8} {r : Bool} (hm : w_FnRankings N code1 = some r) (w : World) (hT : Tab Tryd.prog tabNm w (cx w).Fz) (v2 : Value) (hr3 : RdS w (cx w).Fz v2 fByte.rp code1) :
    Calls Tryd.prog 3 #[v2] w (Ret (cx w) (.bool r)) := by
  unfold w_FnRankings at hm
  refine Calls.enter [v2] Tryd.func3 rfl Tryd.ntmps3 rfl ?_
  refine WJ.seq ?_
  refine WJ.quiet ?_
  refine QJ.step (YldS.yld (y_assign rfl)) rfl ?_
  refine QJ.done ?_
  refine PJ.next ?_
  refine WJ.seq ?_
  refine WJ.seq ?_
  refine WJ.quiet ?_
  refine QJ.step (YldS.yld (y_move rfl)) rfl ?_
  obtain ⟨r4, h5, hm⟩ := bindS hm
  refine QJ.step (y_call Tryd.call4 rfl (RetG.quiet fun w hw => ok_w_f6big h5 w _ (hr3.st hw))) rfl ?_
  refine QJ.done ?_
  refine PJ.next ?_
  refine WJ.cond (t := r4) rfl (fun hb6 => ?_) (fun hb6 => ?_)
  · replace hm := ifT hm hb6
    refine WJ.seq ?_
    refine WJ.quiet ?_
    refine QJ.step (YldS.yld (y_assign rfl)) rfl ?_
    refine QJ.done ?_
    refine PJ.next ?_
    refine WJ.ret ?_
    refine PJ.then_ret ?_
    obtain rfl := Option.some.inj hm
    refine PJ.sel (L' := []) [] ⟨List.nodup_nil, rfl⟩ ?_
    exact PJ.retn (vs := [.bool true]) Tryd.results3 ⟨rfl, trivial⟩ ⟨rfl, rfl⟩
  · replace hm := ifF hm hb6
    refine WJ.skip ?_
    refine PJ.next ?_
    refine WJ.seq ?_
    refine WJ.reg ?_
    refine SJ.q (YldS.yld (y_move rfl)) rfl ?_
    obtain ⟨r7, h8, hm⟩ := bindS hm
    refine SJ.call Tryd.call5 rfl (fun w hw => ok_s_DrawHeatsOf h8 w _ (hr3.st hw)) rfl ?_
    rintro _ _ ⟨v9, rfl, rfl⟩
    refine SJ.q (YldS.yld (y_move rfl)) rfl ?_
    refine SJ.q (YldS.yld (y_extract rfl rfl)) rfl ?_
    refine SJ.q (YldS.yld (y_extract rfl rfl)) rfl ?_
    refine SJ.q (YldS.yld (y_assign rfl)) rfl ?_
    refine SJ.q (YldS.yld (y_assign rfl)) rfl ?_
    refine SJ.nil ?_
    refine PJ.next ?_
    refine WJ.seq ?_
    refine WJ.reg ?_
    refine SJ.q (YldS.yld (y_move rfl)) rfl ?_
    refine SJ.q (YldS.yld (y_move rfl)) rfl ?_
    obtain ⟨r10, h11, hm⟩ := bindS hm
    refine SJ.call Tryd.call6 rfl (fun w hw => ok_i_HeatsOf h11 w _ (hw.row_rd (k := 0) rfl)) rfl ?_
    rintro _ _ ⟨v12, rfl, rfl⟩
    refine SJ.q (YldS.yld (y_move rfl)) rfl ?_
    refine SJ.q (YldS.yld (y_extract rfl rfl)) rfl ?_
    refine SJ.q (YldS.yld (y_extract rfl rfl)) rfl ?_
    refine SJ.q (YldS.yld (y_assign rfl)) rfl ?_
    refine SJ.q (YldS.yld (y_assign rfl)) rfl ?_
    refine SJ.nil ?_
    refine PJ.next ?_
    refine WJ.seq ?_
    refine WJ.reg ?_
    refine SJ.q (YldS.yld (y_move rfl)) rfl ?_
    refine SJ.q (YldS.yld (y_move rfl)) rfl ?_
    obtain ⟨r13, h14, hm⟩ := bindS hm
    refine SJ.call Tryd.call7 rfl (fun w hw => ok_s_HeatsOf h14 w _ (hw.row_rd (k := 1) rfl)) rfl ?_
    rintro _ _ ⟨v15, rfl, rfl⟩
    refine SJ.q (YldS.yld (y_move rfl)) rfl ?_
    refine SJ.q (YldS.yld (y_extract rfl rfl)) rfl ?_
    refine SJ.q (YldS.yld (y_extract rfl rfl)) rfl ?_
    refine SJ.q (YldS.yld (y_assign rfl)) rfl ?_
    refine SJ.q (YldS.yld (y_assign rfl)) rfl ?_
    refine SJ.nil ?_
    refine PJ.next ?_
    refine WJ.seq ?_
    refine WJ.reg ?_
    refine SJ.q (YldS.yld (y_move rfl)) rfl ?_
    obtain ⟨r16, h17, hm⟩ := bindS hm
    refine SJ.call Tryd.call8 rfl (fun w hw => ok_i_RankResults h17 w _ (hw.row_rd (k := 2) rfl)) rfl ?_
    rintro _ _ ⟨v18, rfl, rfl⟩
    refine SJ.q (YldS.yld (y_move rfl)) rfl ?_
    refine SJ.q (YldS.yld (y_extract rfl rfl)) rfl ?_
    refine SJ.q (YldS.yld (y_extract rfl rfl)) rfl ?_
    refine SJ.q (YldS.yld (y_assign rfl)) rfl ?_
    refine SJ.q (YldS.yld (y_assign rfl)) rfl ?_
    refine SJ.nil ?_
    refine PJ.next ?_
    refine WJ.seq ?_
    refine WJ.reg ?_
    refine SJ.q (YldS.yld (y_move rfl)) rfl ?_
    obtain ⟨r19, h20, hm⟩ := bindS hm
    refine SJ.call Tryd.call9 rfl (fun w hw => ok_s_RankResults h20 w _ (hw.row_rd (k := 3) rfl)) rfl ?_
    rintro _ _ ⟨v21, rfl, rfl⟩
    refine SJ.q (YldS.yld (y_move rfl)) rfl ?_
    refine SJ.q (YldS.yld (y_extract rfl rfl)) rfl ?_
    refine SJ.q (YldS.yld (y_extract rfl rfl)) rfl ?_
    refine SJ.q (YldS.yld (y_assign rfl)) rfl ?_
    refine SJ.q (YldS.yld (y_assign rfl)) rfl ?_
    refine SJ.nil ?_
    refine PJ.next ?_
    refine WJ.seq ?_
    refine WJ.reg ?_
    refine SJ.q (YldS.yld (y_move rfl)) rfl ?_
    obtain ⟨r22, h23, hm⟩ := bindS hm
    refine SJ.call Tryd.call10 rfl (fun w hw => ok_i_PlacesOfResults h23 w _ (hw.row_rd (k := 4) rfl)) rfl ?_
    rintro _ _ ⟨v24, rfl, rfl⟩
    refine SJ.q (YldS.yld (y_move rfl)) rfl ?_
    refine SJ.q (YldS.yld (y_extract rfl rfl)) rfl ?_
    refine SJ.q (YldS.yld (y_extract rfl rfl)) rfl ?_
    refine SJ.q (YldS.yld (y_assign rfl)) rfl ?_
    refine SJ.q (YldS.yld (y_assign rfl)) rfl ?_
    refine SJ.nil ?_
    refine PJ.next ?_
    refine WJ.seq ?_
    refine WJ.reg ?_
    refine SJ.q (YldS.yld (y_move rfl)) rfl ?_
    obtain ⟨r25, h26, hm⟩ := bindS hm
    refine SJ.call Tryd.call11 rfl (fun w hw => ok_s_PlacesOfResults h26 w _ (hw.row_rd (k := 5) rfl)) rfl ?_
    rintro _ _ ⟨v27, rfl, rfl⟩
    refine SJ.q (YldS.yld (y_move rfl)) rfl ?_
    refine SJ.q (YldS.yld (y_extract rfl rfl)) rfl ?_
    refine SJ.q (YldS.yld (y_extract rfl rfl)) rfl ?_
    refine SJ.q (YldS.yld (y_assign rfl)) rfl ?_
    refine SJ.q (YldS.yld (y_assign rfl)) rfl ?_
    refine SJ.nil ?_
    refine PJ.next ?_
    refine WJ.seq ?_
    refine WJ.reg ?_
    refine SJ.q (YldS.yld (y_move rfl)) rfl ?_
    obtain ⟨r28, h29, hm⟩ := bindS hm
    refine SJ.call Tryd.call12 rfl (fun w hw => ok_s_DrawQualifyFrom h29 w _ (hr3.st hw)) rfl ?_
    rintro _ _ ⟨v30, v31, rfl, rfl⟩
    refine SJ.q (YldS.yld (y_move rfl)) rfl ?_
    refine SJ.q (YldS.yld (y_extract rfl rfl)) rfl ?_
    refine SJ.q (YldS.yld (y_extract rfl rfl)) rfl ?_
    refine SJ.q (YldS.yld (y_extract rfl rfl)) rfl ?_
    refine SJ.q (YldS.yld (y_extract rfl rfl)) rfl ?_
    refine SJ.q (YldS.yld (y_assign rfl)) rfl ?_
    refine SJ.q (YldS.yld (y_assign rfl)) rfl ?_
    refine SJ.q (YldS.yld (y_assign rfl)) rfl ?_
    refine SJ.q (YldS.yld (y_assign rfl)) rfl ?_
    refine SJ.nil ?_
    refine PJ.next ?_
    refine WJ.seq ?_
    refine WJ.reg ?_
    refine SJ.q (YldS.yld (y_move rfl)) rfl ?_
    refine SJ.q (YldS.yld (y_move rfl)) rfl ?_
    refine SJ.q (YldS.yld (y_move rfl)) rfl ?_
    refine SJ.q (YldS.yld (y_move rfl)) rfl ?_
    obtain ⟨r32, h33, hm⟩ := bindS hm
    refine SJ.call Tryd.call13 rfl (fun w hw => ok_i_QualifyFrom h33 w _ (hw.row_rd (k := 0) rfl) _ (hw.row_rd (k := 1) rfl)) rfl ?_
    rintro _ _ ⟨v34, rfl, rfl⟩
    refine SJ.q (YldS.yld (y_move rfl)) rfl ?_
    refine SJ.q (YldS.yld (y_extract rfl rfl)) rfl ?_
    refine SJ.q (YldS.yld (y_extract rfl rfl)) rfl ?_
    refine SJ.q (YldS.yld (y_assign rfl)) rfl ?_
    refine SJ.q (YldS.yld (y_assign rfl)) rfl ?_
    refine SJ.nil ?_
    refine PJ.next ?_
    refine WJ.seq ?_
    refine WJ.reg ?_
    refine SJ.q (YldS.yld (y_move rfl)) rfl ?_
    refine SJ.q (YldS.yld (y_move rfl)) rfl ?_
    refine SJ.q (YldS.yld (y_move rfl)) rfl ?_
    refine SJ.q (YldS.yld (y_move rfl)) rfl ?_
    obtain ⟨r35, h36, hm⟩ := bindS hm
    refine SJ.call Tryd.call14 rfl (fun w hw => ok_s_QualifyFrom h36 w _ (hw.row_rd (k := 1) rfl) _ (hw.row_rd (k := 2) rfl)) rfl ?_
    rintro _ _ ⟨v37, rfl, rfl⟩
    refine SJ.q (YldS.yld (y_move rfl)) rfl ?_
    refine SJ.q (YldS.yld (y_extract rfl rfl)) rfl ?_
    refine SJ.q (YldS.yld (y_extract rfl rfl)) rfl ?_
    refine SJ.q (YldS.yld (y_assign rfl)) rfl ?_
    refine SJ.q (YldS.yld (y_assign rfl)) rfl ?_
    refine SJ.nil ?_
    refine PJ.next ?_
    refine WJ.seq ?_
    refine WJ.reg ?_
    refine SJ.q (YldS.yld (y_move rfl)) rfl ?_
    obtain ⟨r38, h39, hm⟩ := bindS hm
    refine SJ.call Tryd.call15 rfl (fun w hw => ok_s_DrawBestOfRounds h39 w _ (hr3.st hw)) rfl ?_
    rintro v40 _ ⟨_, vs41, rfl, rfl⟩
    refine SJ.q (YldS.yld (y_assign rfl)) rfl ?_
    refine SJ.nil ?_
    refine PJ.next ?_
    refine WJ.seq ?_
    refine WJ.reg ?_
    refine SJ.q (YldS.yld (y_move rfl)) rfl ?_
    obtain ⟨r42, h43, hm⟩ := bindS hm
    refine SJ.call Tryd.call16 rfl (fun w hw => ok_i_BestOfRounds h43 w _ (hw.nst_rd (k := 0) (j := 1) rfl rfl)) rfl ?_
    rintro _ _ ⟨v44, rfl, rfl⟩
    refine SJ.q (YldS.yld (y_move rfl)) rfl ?_
    refine SJ.q (YldS.yld (y_extract rfl rfl)) rfl ?_
    refine SJ.q (YldS.yld (y_extract rfl rfl)) rfl ?_
    refine SJ.q (YldS.yld (y_assign rfl)) rfl ?_
    refine SJ.q (YldS.yld (y_assign rfl)) rfl ?_
    refine SJ.nil ?_
    refine PJ.next ?_
    refine WJ.seq ?_
    refine WJ.reg ?_
    refine SJ.q (YldS.yld (y_move rfl)) rfl ?_
    obtain ⟨r45, h46, hm⟩ := bindS hm
    refine SJ.call Tryd.call17 rfl (fun w hw => ok_s_BestOfRounds h46 w _ (hw.nst_rd (k := 1) (j := 2) rfl rfl)) rfl ?_
    rintro _ _ ⟨v47, rfl, rfl⟩
    refine SJ.q (YldS.yld (y_move rfl)) rfl ?_
    refine SJ.q (YldS.yld (y_extract rfl rfl)) rfl ?_
    refine SJ.q (YldS.yld (y_extract rfl rfl)) rfl ?_
    refine SJ.q (YldS.yld (y_assign rfl)) rfl ?_
    refine SJ.q (YldS.yld (y_assign rfl)) rfl ?_
    refine SJ.nil ?_
    refine PJ.next ?_
    refine WJ.seq ?_
    refine WJ.reg ?_
    refine SJ.q (YldS.yld (y_move rfl)) rfl ?_
    obtain ⟨r48, h49, hm⟩ := bindS hm
    refine SJ.call Tryd.call18 rfl (fun w hw => ok_i_TiedResults h49 w _ (hw.row_rd (k := 14) rfl)) rfl ?_
    rintro _ _ ⟨v50, vs51, rfl, rfl⟩
    refine SJ.q (YldS.yld (y_move rfl)) rfl ?_
    refine SJ.q (YldS.yld (y_extract rfl rfl)) rfl ?_
    refine SJ.q (YldS.yld (y_extract rfl rfl)) rfl ?_
    refine SJ.q (YldS.yld (y_assign rfl)) rfl ?_
    refine SJ.q (YldS.yld (y_assign rfl)) rfl ?_
    refine SJ.nil ?_
    refine PJ.next ?_
    refine WJ.seq ?_
    refine WJ.reg ?_
    refine SJ.q (YldS.yld (y_move rfl)) rfl ?_
    obtain ⟨r52, h53, hm⟩ := bindS hm
    refine SJ.call Tryd.call19 rfl (fun w hw => ok_s_TiedResults h53 w _ (hw.row_rd (k := 16) rfl)) rfl ?_
    rintro _ _ ⟨v54, vs55, rfl, rfl⟩
    refine SJ.q (YldS.yld (y_move rfl)) rfl ?_
    refine SJ.q (YldS.yld (y_extract rfl rfl)) rfl ?_
    refine SJ.q (YldS.yld (y_extract rfl rfl)) rfl ?_
    refine SJ.q (YldS.yld (y_assign rfl)) rfl ?_
    refine SJ.q (YldS.yld (y_assign rfl)) rfl ?_
    refine SJ.nil ?_
    refine PJ.next ?_
    refine WJ.seq ?_
    refine WJ.seq ?_
    refine WJ.quiet ?_
    refine QJ.step (YldS.yld (y_move rfl)) rfl ?_
    refine QJ.step (YldS.yld (y_move rfl)) rfl ?_
    refine QJ.step (YldS.yld (y_bin rfl rfl rfl)) rfl ?_
    refine QJ.step (YldS.yld (y_move rfl)) rfl ?_
    obtain ⟨t56, h57, hm⟩ := bindS hm
    refine QJ.cut 5 [(3, v9), (4, .int .i64 r7.2), (6, .int .i64 r10.2), (7, v15), (9, v18), (10, .int .i64 r16.2), (11, v21), (12, .int .i64 r19.2), (13, v24), (14, .int .i64 r22.2), (15, v27), (16, .int .i64 r25.2), (17, v30), (21, v34), (22, .int .i64 r32.2), (23, v37), (24, .int .i64 r35.2), (26, v44), (27, .int .i64 r42.2), (28, v47), (29, .int .i64 r45.2), (30, v50), (31, .int .i64 r48.2), (32, v54), (33, .int .i64 r52.2), (135, .bool t56)] ?_ ?_
    · rcases Bool.eq_false_or_eq_true (r10.2 != r13.2) with hb58 | hb58
      · obtain rfl := orT h57 hb58
        refine QJ.off rfl rfl (cB hb58) rfl rfl ?_
        refine QJ.off rfl rfl (cB hb58) rfl rfl ?_
        refine QJ.off rfl rfl (cB hb58) rfl rfl ?_
        refine QJ.off rfl rfl (cB hb58) rfl rfl ?_
        refine QJ.step (YldS.yld (y_pick_t (cB hb58) rfl)) rfl ?_
        exact QJ.cut_end ⟨rfl, rfl, rfl, rfl, rfl, rfl, rfl, rfl, rfl, rfl, rfl, rfl, rfl, rfl, rfl, rfl, rfl, rfl, rfl, rfl, rfl, rfl, rfl, rfl, rfl, rfl, trivial⟩
      · replace h57 := orF h57 hb58
        refine QJ.on rfl rfl (cB hb58) (YldS.yld (y_move rfl)) rfl ?_
        refine QJ.on rfl rfl (cB hb58) (YldS.yld (y_move rfl)) rfl ?_
        obtain ⟨r59, h60, h57⟩ := bindS h57
        refine QJ.on rfl rfl (cB hb58) (y_call Tryd.call20 rfl (RetG.quiet fun w hw => ok_w_f6ints h60 w _ (hw.row_rd (k := 17) rfl) _ (hw.row_rd (k := 16) rfl))) rfl ?_
        refine QJ.on rfl rfl (cB hb58) (YldS.yld (y_not rfl)) rfl ?_
        refine QJ.step (YldS.yld (y_pick_f (cB hb58) rfl)) rfl ?_
        obtain rfl := Option.some.inj h57
        exact QJ.cut_end ⟨rfl, rfl, rfl, rfl, rfl, rfl, rfl, rfl, rfl, rfl, rfl, rfl, rfl, rfl, rfl, rfl, rfl, rfl, rfl, rfl, rfl, rfl, rfl, rfl, rfl, rfl, trivial⟩
    refine QJ.step (YldS.yld (y_move rfl)) rfl ?_
    obtain ⟨t61, h62, hm⟩ := bindS hm
    refine QJ.cut 4 [(3, v9), (4, .int .i64 r7.2), (6, .int .i64 r10.2), (7, v15), (9, v18), (10, .int .i64 r16.2), (11, v21), (13, v24), (14, .int .i64 r22.2), (15, v27), (16, .int .i64 r25.2), (17, v30), (21, v34), (22, .int .i64 r32.2), (23, v37), (24, .int .i64 r35.2), (26, v44), (27, .int .i64 r42.2), (28, v47), (29, .int .i64 r45.2), (30, v50), (31, .int .i64 r48.2), (32, v54), (33, .int .i64 r52.2), (140, .bool t61)] ?_ ?_
    · rcases Bool.eq_false_or_eq_true t56 with hb63 | hb63
      · obtain rfl := orT h62 hb63
        refine QJ.off rfl rfl (cB hb63) rfl rfl ?_
        refine QJ.off rfl rfl (cB hb63) rfl rfl ?_
        refine QJ.off rfl rfl (cB hb63) rfl rfl ?_
        refine QJ.step (YldS.yld (y_pick_t (cB hb63) rfl)) rfl ?_
        exact QJ.cut_end ⟨rfl, rfl, rfl, rfl, rfl, rfl, rfl, rfl, rfl, rfl, rfl, rfl, rfl, rfl, rfl, rfl, rfl, rfl, rfl, rfl, rfl, rfl, rfl, rfl, rfl, trivial⟩
      · replace h62 := orF h62 hb63
        refine QJ.on rfl rfl (cB hb63) (YldS.yld (y_move rfl)) rfl ?_
        refine QJ.on rfl rfl (cB hb63) (YldS.yld (y_move rfl)) rfl ?_
        refine QJ.on rfl rfl (cB hb63) (YldS.yld (y_bin rfl rfl rfl)) rfl ?_
        refine QJ.step (YldS.yld (y_pick_f (cB hb63) rfl)) rfl ?_
        obtain rfl := Option.some.inj h62
        exact QJ.cut_end ⟨rfl, rfl, rfl, rfl, rfl, rfl, rfl, rfl, rfl, rfl, rfl, rfl, rfl, rfl, rfl, rfl, rfl, rfl, rfl, rfl, rfl, rfl, rfl, rfl, rfl, trivial⟩
    refine QJ.step (YldS.yld (y_move rfl)) rfl ?_
    obtain ⟨t64, h65, hm⟩ := bindS hm
    refine QJ.cut 5 [(3, v9), (4, .int .i64 r7.2), (6, .int .i64 r10.2), (7, v15), (10, .int .i64 r16.2), (11, v21), (13, v24), (14, .int .i64 r22.2), (15, v27), (16, .int .i64 r25.2), (17, v30), (21, v34), (22, .int .i64 r32.2), (23, v37), (24, .int .i64 r35.2), (26, v44), (27, .int .i64 r42.2), (28, v47), (29, .int .i64 r45.2), (30, v50), (31, .int .i64 r48.2), (32, v54), (33, .int .i64 r52.2), (146, .bool t64)] ?_ ?_
    · rcases Bool.eq_false_or_eq_true t61 with hb66 | hb66
      · obtain rfl := orT h65 hb66
        refine QJ.off rfl rfl (cB hb66) rfl rfl ?_
        refine QJ.off rfl rfl (cB hb66) rfl rfl ?_
        refine QJ.off rfl rfl (cB hb66) rfl rfl ?_
        refine QJ.off rfl rfl (cB hb66) rfl rfl ?_
        refine QJ.step (YldS.yld (y_pick_t (cB hb66) rfl)) rfl ?_
        exact QJ.cut_end ⟨rfl, rfl, rfl, rfl, rfl, rfl, rfl, rfl, rfl, rfl, rfl, rfl, rfl, rfl, rfl, rfl, rfl, rfl, rfl, rfl, rfl, rfl, rfl, rfl, trivial⟩
      · replace h65 := orF h65 hb66
        refine QJ.on rfl rfl (cB hb66) (YldS.yld (y_move rfl)) rfl ?_
        refine QJ.on rfl rfl (cB hb66) (YldS.yld (y_move rfl)) rfl ?_
        obtain ⟨r67, h68, h65⟩ := bindS h65
        refine QJ.on rfl rfl (cB hb66) (y_call Tryd.call20 rfl (RetG.quiet fun w hw => ok_w_f6ints h68 w _ (hw.row_rd (k := 15) rfl) _ (hw.row_rd (k := 14) rfl))) rfl ?_
        refine QJ.on rfl rfl (cB hb66) (YldS.yld (y_not rfl)) rfl ?_
        refine QJ.step (YldS.yld (y_pick_f (cB hb66) rfl)) rfl ?_
        obtain rfl := Option.some.inj h65
        exact QJ.cut_end ⟨rfl, rfl, rfl, rfl, rfl, rfl, rfl, rfl, rfl, rfl, rfl, rfl, rfl, rfl, rfl, rfl, rfl, rfl, rfl, rfl, rfl, rfl, rfl, rfl, trivial⟩
    refine QJ.step (YldS.yld (y_move rfl)) rfl ?_
    obtain ⟨t69, h70, hm⟩ := bindS hm
    refine QJ.cut 4 [(3, v9), (4, .int .i64 r7.2), (6, .int .i64 r10.2), (7, v15), (10, .int .i64 r16.2), (11, v21), (13, v24), (15, v27), (17, v30), (21, v34), (22, .int .i64 r32.2), (23, v37), (24, .int .i64 r35.2), (26, v44), (27, .int .i64 r42.2), (28, v47), (29, .int .i64 r45.2), (30, v50), (31, .int .i64 r48.2), (32, v54), (33, .int .i64 r52.2), (151, .bool t69)] ?_ ?_
    · rcases Bool.eq_false_or_eq_true t64 with hb71 | hb71
      · obtain rfl := orT h70 hb71
        refine QJ.off rfl rfl (cB hb71) rfl rfl ?_
        refine QJ.off rfl rfl (cB hb71) rfl rfl ?_
        refine QJ.off rfl rfl (cB hb71) rfl rfl ?_
        refine QJ.step (YldS.yld (y_pick_t (cB hb71) rfl)) rfl ?_
        exact QJ.cut_end ⟨rfl, rfl, rfl, rfl, rfl, rfl, rfl, rfl, rfl, rfl, rfl, rfl, rfl, rfl, rfl, rfl, rfl, rfl, rfl, rfl, rfl, rfl, trivial⟩
      · replace h70 := orF h70 hb71
        refine QJ.on rfl rfl (cB hb71) (YldS.yld (y_move rfl)) rfl ?_
        refine QJ.on rfl rfl (cB hb71) (YldS.yld (y_move rfl)) rfl ?_
        refine QJ.on rfl rfl (cB hb71) (YldS.yld (y_bin rfl rfl rfl)) rfl ?_
        refine QJ.step (YldS.yld (y_pick_f (cB hb71) rfl)) rfl ?_
        obtain rfl := Option.some.inj h70
        exact QJ.cut_end ⟨rfl, rfl, rfl, rfl, rfl, rfl, rfl, rfl, rfl, rfl, rfl, rfl, rfl, rfl, rfl, rfl, rfl, rfl, rfl, rfl, rfl, rfl, trivial⟩
    refine QJ.step (YldS.yld (y_move rfl)) rfl ?_
    obtain ⟨t72, h73, hm⟩ := bindS hm
    refine QJ.cut 5 [(3, v9), (4, .int .i64 r7.2), (6, .int .i64 r10.2), (7, v15), (10, .int .i64 r16.2), (11, v21), (15, v27), (17, v30), (21, v34), (22, .int .i64 r32.2), (23, v37), (24, .int .i64 r35.2), (26, v44), (27, .int .i64 r42.2), (28, v47), (29, .int .i64 r45.2), (30, v50), (31, .int .i64 r48.2), (32, v54), (33, .int .i64 r52.2), (157, .bool t72)] ?_ ?_
    · rcases Bool.eq_false_or_eq_true t69 with hb74 | hb74
      · obtain rfl := orT h73 hb74
        refine QJ.off rfl rfl (cB hb74) rfl rfl ?_
        refine QJ.off rfl rfl (cB hb74) rfl rfl ?_
        refine QJ.off rfl rfl (cB hb74) rfl rfl ?_
        refine QJ.off rfl rfl (cB hb74) rfl rfl ?_
        refine QJ.step (YldS.yld (y_pick_t (cB hb74) rfl)) rfl ?_
        exact QJ.cut_end ⟨rfl, rfl, rfl, rfl, rfl, rfl, rfl, rfl, rfl, rfl, rfl, rfl, rfl, rfl, rfl, rfl, rfl, rfl, rfl, rfl, rfl, trivial⟩
      · replace h73 := orF h73 hb74
        refine QJ.on rfl rfl (cB hb74) (YldS.yld (y_move rfl)) rfl ?_
        refine QJ.on rfl rfl (cB hb74) (YldS.yld (y_move rfl)) rfl ?_
        obtain ⟨r75, h76, h73⟩ := bindS h73
        refine QJ.on rfl rfl (cB hb74) (y_call Tryd.call20 rfl (RetG.quiet fun w hw => ok_w_f6ints h76 w _ (hw.row_rd (k := 13) rfl) _ (hw.row_rd (k := 12) rfl))) rfl ?_
        refine QJ.on rfl rfl (cB hb74) (YldS.yld (y_not rfl)) rfl ?_
        refine QJ.step (YldS.yld (y_pick_f (cB hb74) rfl)) rfl ?_
        obtain rfl := Option.some.inj h73
        exact QJ.cut_end ⟨rfl, rfl, rfl, rfl, rfl, rfl, rfl, rfl, rfl, rfl, rfl, rfl, rfl, rfl, rfl, rfl, rfl, rfl, rfl, rfl, rfl, trivial⟩
    refine QJ.step (YldS.yld (y_move rfl)) rfl ?_
    obtain ⟨t77, h78, hm⟩ := bindS hm
    refine QJ.cut 4 [(3, v9), (4, .int .i64 r7.2), (6, .int .i64 r10.2), (7, v15), (10, .int .i64 r16.2), (11, v21), (15, v27), (17, v30), (21, v34), (22, .int .i64 r32.2), (23, v37), (26, v44), (27, .int .i64 r42.2), (28, v47), (29, .int .i64 r45.2), (30, v50), (31, .int .i64 r48.2), (32, v54), (33, .int .i64 r52.2), (162, .bool t77)] ?_ ?_
    · rcases Bool.eq_false_or_eq_true t72 with hb79 | hb79
      · obtain rfl := orT h78 hb79
        refine QJ.off rfl rfl (cB hb79) rfl rfl ?_
        refine QJ.off rfl rfl (cB hb79) rfl rfl ?_
        refine QJ.off rfl rfl (cB hb79) rfl rfl ?_
        refine QJ.step (YldS.yld (y_pick_t (cB hb79) rfl)) rfl ?_
        exact QJ.cut_end ⟨rfl, rfl, rfl, rfl, rfl, rfl, rfl, rfl, rfl, rfl, rfl, rfl, rfl, rfl, rfl, rfl, rfl, rfl, rfl, rfl, trivial⟩
      · replace h78 := orF h78 hb79
        refine QJ.on rfl rfl (cB hb79) (YldS.yld (y_move rfl)) rfl ?_
        refine QJ.on rfl rfl (cB hb79) (YldS.yld (y_move rfl)) rfl ?_
        refine QJ.on rfl rfl (cB hb79) (YldS.yld (y_bin rfl rfl rfl)) rfl ?_
        refine QJ.step (YldS.yld (y_pick_f (cB hb79) rfl)) rfl ?_
        obtain rfl := Option.some.inj h78
        exact QJ.cut_end ⟨rfl, rfl, rfl, rfl, rfl, rfl, rfl, rfl, rfl, rfl, rfl, rfl, rfl, rfl, rfl, rfl, rfl, rfl, rfl, rfl, trivial⟩
    refine QJ.step (YldS.yld (y_move rfl)) rfl ?_
    obtain ⟨t80, h81, hm⟩ := bindS hm
    refine QJ.cut 5 [(3, v9), (4, .int .i64 r7.2), (6, .int .i64 r10.2), (7, v15), (10, .int .i64 r16.2), (11, v21), (15, v27), (17, v30), (22, .int .i64 r32.2), (23, v37), (26, v44), (27, .int .i64 r42.2), (28, v47), (29, .int .i64 r45.2), (30, v50), (31, .int .i64 r48.2), (32, v54), (33, .int .i64 r52.2), (168, .bool t80)] ?_ ?_
    · rcases Bool.eq_false_or_eq_true t77 with hb82 | hb82
      · obtain rfl := orT h81 hb82
        refine QJ.off rfl rfl (cB hb82) rfl rfl ?_
        refine QJ.off rfl rfl (cB hb82) rfl rfl ?_
        refine QJ.off rfl rfl (cB hb82) rfl rfl ?_
        refine QJ.off rfl rfl (cB hb82) rfl rfl ?_
        refine QJ.step (YldS.yld (y_pick_t (cB hb82) rfl)) rfl ?_
        exact QJ.cut_end ⟨rfl, rfl, rfl, rfl, rfl, rfl, rfl, rfl, rfl, rfl, rfl, rfl, rfl, rfl, rfl, rfl, rfl, rfl, rfl, trivial⟩
      · replace h81 := orF h81 hb82
        refine QJ.on rfl rfl (cB hb82) (YldS.yld (y_move rfl)) rfl ?_
        refine QJ.on rfl rfl (cB hb82) (YldS.yld (y_move rfl)) rfl ?_
        obtain ⟨r83, h84, h81⟩ := bindS h81
        refine QJ.on rfl rfl (cB hb82) (y_call Tryd.call20 rfl (RetG.quiet fun w hw => ok_w_f6ints h84 w _ (hw.row_rd (k := 9) rfl) _ (hw.row_rd (k := 8) rfl))) rfl ?_
        refine QJ.on rfl rfl (cB hb82) (YldS.yld (y_not rfl)) rfl ?_
        refine QJ.step (YldS.yld (y_pick_f (cB hb82) rfl)) rfl ?_
        obtain rfl := Option.some.inj h81
        exact QJ.cut_end ⟨rfl, rfl, rfl, rfl, rfl, rfl, rfl, rfl, rfl, rfl, rfl, rfl, rfl, rfl, rfl, rfl, rfl, rfl, rfl, trivial⟩
    refine QJ.step (YldS.yld (y_move rfl)) rfl ?_
    obtain ⟨t85, h86, hm⟩ := bindS hm
    refine QJ.cut 4 [(3, v9), (4, .int .i64 r7.2), (6, .int .i64 r10.2), (7, v15), (10, .int .i64 r16.2), (11, v21), (15, v27), (17, v30), (22, .int .i64 r32.2), (23, v37), (26, v44), (28, v47), (30, v50), (31, .int .i64 r48.2), (32, v54), (33, .int .i64 r52.2), (173, .bool t85)] ?_ ?_
    · rcases Bool.eq_false_or_eq_true t80 with hb87 | hb87
      · obtain rfl := orT h86 hb87
        refine QJ.off rfl rfl (cB hb87) rfl rfl ?_
        refine QJ.off rfl rfl (cB hb87) rfl rfl ?_
        refine QJ.off rfl rfl (cB hb87) rfl rfl ?_
        refine QJ.step (YldS.yld (y_pick_t (cB hb87) rfl)) rfl ?_
        exact QJ.cut_end ⟨rfl, rfl, rfl, rfl, rfl, rfl, rfl, rfl, rfl, rfl, rfl, rfl, rfl, rfl, rfl, rfl, rfl, trivial⟩
      · replace h86 := orF h86 hb87
        refine QJ.on rfl rfl (cB hb87) (YldS.yld (y_move rfl)) rfl ?_
        refine QJ.on rfl rfl (cB hb87) (YldS.yld (y_move rfl)) rfl ?_
        refine QJ.on rfl rfl (cB hb87) (YldS.yld (y_bin rfl rfl rfl)) rfl ?_
        refine QJ.step (YldS.yld (y_pick_f (cB hb87) rfl)) rfl ?_
        obtain rfl := Option.some.inj h86
        exact QJ.cut_end ⟨rfl, rfl, rfl, rfl, rfl, rfl, rfl, rfl, rfl, rfl, rfl, rfl, rfl, rfl, rfl, rfl, rfl, trivial⟩
    refine QJ.step (YldS.yld (y_move rfl)) rfl ?_
    obtain ⟨t88, h89, hm⟩ := bindS hm
    refine QJ.cut 5 [(3, v9), (4, .int .i64 r7.2), (6, .int .i64 r10.2), (7, v15), (10, .int .i64 r16.2), (11, v21), (15, v27), (17, v30), (22, .int .i64 r32.2), (23, v37), (30, v50), (31, .int .i64 r48.2), (32, v54), (33, .int .i64 r52.2), (179, .bool t88)] ?_ ?_
    · rcases Bool.eq_false_or_eq_true t85 with hb90 | hb90
      · obtain rfl := orT h89 hb90
        refine QJ.off rfl rfl (cB hb90) rfl rfl ?_
        refine QJ.off rfl rfl (cB hb90) rfl rfl ?_
        refine QJ.off rfl rfl (cB hb90) rfl rfl ?_
        refine QJ.off rfl rfl (cB hb90) rfl rfl ?_
        refine QJ.step (YldS.yld (y_pick_t (cB hb90) rfl)) rfl ?_
        exact QJ.cut_end ⟨rfl, rfl, rfl, rfl, rfl, rfl, rfl, rfl, rfl, rfl, rfl, rfl, rfl, rfl, rfl, trivial⟩
      · replace h89 := orF h89 hb90
        refine QJ.on rfl rfl (cB hb90) (YldS.yld (y_move rfl)) rfl ?_
        refine QJ.on rfl rfl (cB hb90) (YldS.yld (y_move rfl)) rfl ?_
        obtain ⟨r91, h92, h89⟩ := bindS h89
        refine QJ.on rfl rfl (cB hb90) (y_call Tryd.call21 rfl (RetG.quiet fun w hw => ok_s_SameResults h92 w _ (hw.row_rd (k := 5) rfl) _ (hw.row_rd (k := 4) rfl))) rfl ?_
        refine QJ.on rfl rfl (cB hb90) (YldS.yld (y_not rfl)) rfl ?_
        refine QJ.step (YldS.yld (y_pick_f (cB hb90) rfl)) rfl ?_
        obtain rfl := Option.some.inj h89
        exact QJ.cut_end ⟨rfl, rfl, rfl, rfl, rfl, rfl, rfl, rfl, rfl, rfl, rfl, rfl, rfl, rfl, rfl, trivial⟩
    refine QJ.step (YldS.yld (y_move rfl)) rfl ?_
    obtain ⟨t93, h94, hm⟩ := bindS hm
    refine QJ.cut 4 [(3, v9), (4, .int .i64 r7.2), (6, .int .i64 r10.2), (7, v15), (10, .int .i64 r16.2), (11, v21), (15, v27), (17, v30), (22, .int .i64 r32.2), (23, v37), (30, v50), (32, v54), (184, .bool t93)] ?_ ?_
    · rcases Bool.eq_false_or_eq_true t88 with hb95 | hb95
      · obtain rfl := orT h94 hb95
        refine QJ.off rfl rfl (cB hb95) rfl rfl ?_
        refine QJ.off rfl rfl (cB hb95) rfl rfl ?_
        refine QJ.off rfl rfl (cB hb95) rfl rfl ?_
        refine QJ.step (YldS.yld (y_pick_t (cB hb95) rfl)) rfl ?_
        exact QJ.cut_end ⟨rfl, rfl, rfl, rfl, rfl, rfl, rfl, rfl, rfl, rfl, rfl, rfl, rfl, trivial⟩
      · replace h94 := orF h94 hb95
        refine QJ.on rfl rfl (cB hb95) (YldS.yld (y_move rfl)) rfl ?_
        refine QJ.on rfl rfl (cB hb95) (YldS.yld (y_move rfl)) rfl ?_
        refine QJ.on rfl rfl (cB hb95) (YldS.yld (y_bin rfl rfl rfl)) rfl ?_
        refine QJ.step (YldS.yld (y_pick_f (cB hb95) rfl)) rfl ?_
        obtain rfl := Option.some.inj h94
        exact QJ.cut_end ⟨rfl, rfl, rfl, rfl, rfl, rfl, rfl, rfl, rfl, rfl, rfl, rfl, rfl, trivial⟩
    refine QJ.step (YldS.yld (y_move rfl)) rfl ?_
    obtain ⟨t96, h97, hm⟩ := bindS hm
    refine QJ.cut 6 [(3, v9), (4, .int .i64 r7.2), (6, .int .i64 r10.2), (7, v15), (10, .int .i64 r16.2), (11, v21), (15, v27), (17, v30), (22, .int .i64 r32.2), (23, v37), (30, v50), (32, v54), (191, .bool t96)] ?_ ?_
    · rcases Bool.eq_false_or_eq_true t93 with hb98 | hb98
      · obtain rfl := orT h97 hb98
        refine QJ.off rfl rfl (cB hb98) rfl rfl ?_
        refine QJ.off rfl rfl (cB hb98) rfl rfl ?_
        refine QJ.off rfl rfl (cB hb98) rfl rfl ?_
        refine QJ.off rfl rfl (cB hb98) rfl rfl ?_
        refine QJ.off rfl rfl (cB hb98) rfl rfl ?_
        refine QJ.step (YldS.yld (y_pick_t (cB hb98) rfl)) rfl ?_
        exact QJ.cut_end ⟨rfl, rfl, rfl, rfl, rfl, rfl, rfl, rfl, rfl, rfl, rfl, rfl, rfl, trivial⟩
      · replace h97 := orF h97 hb98
        refine QJ.on rfl rfl (cB hb98) (YldS.yld (y_move rfl)) rfl ?_
        refine QJ.on rfl rfl (cB hb98) (YldS.yld (y_lenG (fun w hw => (hw.nst_rd (k := 2) (j := 3) rfl rfl)) Tryd.runUnderlying37 rfl)) rfl ?_
        refine QJ.on rfl rfl (cB hb98) (YldS.yld (y_move rfl)) rfl ?_
        refine QJ.on rfl rfl (cB hb98) (YldS.yld (y_lenG (fun w hw => (hw.nst_rd (k := 0) (j := 1) rfl rfl)) Tryd.runUnderlying37 rfl)) rfl ?_
        refine QJ.on rfl rfl (cB hb98) (YldS.yld (y_bin rfl rfl rfl)) rfl ?_
        refine QJ.step (YldS.yld (y_pick_f (cB hb98) rfl)) rfl ?_
        obtain rfl := Option.some.inj h97
        exact QJ.cut_end ⟨rfl, rfl, rfl, rfl, rfl, rfl, rfl, rfl, rfl, rfl, rfl, rfl, rfl, trivial⟩
    refine QJ.step (YldS.yld (y_move rfl)) rfl ?_
    obtain ⟨t99, h100, hm⟩ := bindS hm
    refine QJ.cut 6 [(3, v9), (4, .int .i64 r7.2), (6, .int .i64 r10.2), (7, v15), (10, .int .i64 r16.2), (11, v21), (15, v27), (17, v30), (22, .int .i64 r32.2), (23, v37), (30, v50), (32, v54), (198, .bool t99)] ?_ ?_
    · rcases Bool.eq_false_or_eq_true t96 with hb101 | hb101
      · obtain rfl := orT h100 hb101
        refine QJ.off rfl rfl (cB hb101) rfl rfl ?_
        refine QJ.off rfl rfl (cB hb101) rfl rfl ?_
        refine QJ.off rfl rfl (cB hb101) rfl rfl ?_
        refine QJ.off rfl rfl (cB hb101) rfl rfl ?_
        refine QJ.off rfl rfl (cB hb101) rfl rfl ?_
        refine QJ.step (YldS.yld (y_pick_t (cB hb101) rfl)) rfl ?_
        exact QJ.cut_end ⟨rfl, rfl, rfl, rfl, rfl, rfl, rfl, rfl, rfl, rfl, rfl, rfl, rfl, trivial⟩
      · replace h100 := orF h100 hb101
        refine QJ.on rfl rfl (cB hb101) (YldS.yld (y_move rfl)) rfl ?_
        obtain ⟨r102, h103, h100⟩ := bindS h100
        refine QJ.on rfl rfl (cB hb101) (y_call Tryd.call22 rfl (RetG.quiet fun w hw => ok_i_RankText h103 w (hT.st hw) _ (hw.row_rd (k := 18) rfl))) rfl ?_
        refine QJ.on rfl rfl (cB hb101) (YldS.yld (y_move rfl)) rfl ?_
        obtain ⟨r104, h105, h100⟩ := bindS h100
        refine QJ.on rfl rfl (cB hb101) (y_call Tryd.call23 rfl (RetG.quiet fun w hw => ok_s_RankText h105 w _ (hw.row_rd (k := 18) rfl))) rfl ?_
        refine QJ.on rfl rfl (cB hb101) (YldS.yld (y_binS rfl rfl rfl)) rfl ?_
        refine QJ.step (YldS.yld (y_pick_f (cB hb101) rfl)) rfl ?_
        obtain rfl := Option.some.inj h100
        exact QJ.cut_end ⟨rfl, rfl, rfl, rfl, rfl, rfl, rfl, rfl, rfl, rfl, rfl, rfl, rfl, trivial⟩
    refine QJ.step (YldS.yld (y_move rfl)) rfl ?_
    obtain ⟨t106, h107, hm⟩ := bindS hm
    refine QJ.cut 6 [(3, v9), (4, .int .i64 r7.2), (6, .int .i64 r10.2), (7, v15), (10, .int .i64 r16.2), (11, v21), (15, v27), (17, v30), (22, .int .i64 r32.2), (23, v37), (30, v50), (32, v54), (205, .bool t106)] ?_ ?_
    · rcases Bool.eq_false_or_eq_true t99 with hb108 | hb108
      · obtain rfl := orT h107 hb108
        refine QJ.off rfl rfl (cB hb108) rfl rfl ?_
        refine QJ.off rfl rfl (cB hb108) rfl rfl ?_
        refine QJ.off rfl rfl (cB hb108) rfl rfl ?_
        refine QJ.off rfl rfl (cB hb108) rfl rfl ?_
        refine QJ.off rfl rfl (cB hb108) rfl rfl ?_
        refine QJ.step (YldS.yld (y_pick_t (cB hb108) rfl)) rfl ?_
        exact QJ.cut_end ⟨rfl, rfl, rfl, rfl, rfl, rfl, rfl, rfl, rfl, rfl, rfl, rfl, rfl, trivial⟩
      · replace h107 := orF h107 hb108
        refine QJ.on rfl rfl (cB hb108) (YldS.yld (y_move rfl)) rfl ?_
        obtain ⟨r109, h110, h107⟩ := bindS h107
        refine QJ.on rfl rfl (cB hb108) (y_call Tryd.call24 rfl (RetG.quiet fun w hw => ok_i_ValidResults h110 w _ (hw.row_rd (k := 18) rfl))) rfl ?_
        refine QJ.on rfl rfl (cB hb108) (YldS.yld (y_move rfl)) rfl ?_
        obtain ⟨r111, h112, h107⟩ := bindS h107
        refine QJ.on rfl rfl (cB hb108) (y_call Tryd.call25 rfl (RetG.quiet fun w hw => ok_s_ValidResults h112 w _ (hw.row_rd (k := 18) rfl))) rfl ?_
        refine QJ.on rfl rfl (cB hb108) (YldS.yld (y_neB Tryd.underlying4 rfl rfl rfl)) rfl ?_
        refine QJ.step (YldS.yld (y_pick_f (cB hb108) rfl)) rfl ?_
        obtain rfl := Option.some.inj h107
        exact QJ.cut_end ⟨rfl, rfl, rfl, rfl, rfl, rfl, rfl, rfl, rfl, rfl, rfl, rfl, rfl, trivial⟩
    refine QJ.done ?_
    refine PJ.next ?_
    refine WJ.cond (t := t106) rfl (fun hb113 => ?_) (fun hb113 => ?_)
    · replace hm := ifT hm hb113
      refine WJ.seq ?_
      refine WJ.quiet ?_
      refine QJ.step (YldS.yld (y_assign rfl)) rfl ?_
      refine QJ.done ?_
      refine PJ.next ?_
      refine WJ.ret ?_
      refine PJ.then_ret ?_
      obtain rfl := Option.some.inj hm
      refine PJ.sel (L' := []) [] ⟨List.nodup_nil, rfl⟩ ?_
      exact PJ.retn (vs := [.bool false]) Tryd.results3 ⟨rfl, trivial⟩ ⟨rfl, rfl⟩
    · replace hm := ifF hm hb113
      refine WJ.skip ?_
      refine PJ.next ?_
      obtain ⟨kj114, hk115, hm⟩ := withK_open hm
      refine WJ.join (X := Unit) (fun (_ : Unit) => kj114  = some r) (fun (_ : Unit) => [(3, v9), (4, .int .i64 r7.2), (6, .int .i64 r10.2), (7, v15), (10, .int .i64 r16.2), (11, v21), (15, v27), (17, v30), (22, .int .i64 r32.2), (23, v37)]) (fun (_ : Unit) => [row v37 2 fI64 r35.1, row v30 46 fResult r28.1, row v27 2 fI64 r25.1, row v21 2 fI64 r19.1, row v15 2 fI64 r13.1, row v9 46 fResult r7.1]) ?_ ?_
      · clear hk115
        refine WJ.seq ?_
        refine WJ.quiet ?_
        refine QJ.step (YldS.yld (y_assign rfl)) rfl ?_
        refine QJ.done ?_
        refine PJ.next ?_
        refine WJ.block ?_
        refine WJ.sel (L' := (fun (x : Int) => [row v54 27 fRaw1 vs55, inn (rSl fI64.rp) vs55 r52.1, row v50 27 fRaw1 vs51, inn (rSl fI64.rp) vs51 r48.1, row v37 2 fI64 r35.1, row v30 46 fResult r28.1, row v27 2 fI64 r25.1, row v21 2 fI64 r19.1, row v15 2 fI64 r13.1, row v9 46 fResult r7.1]) 0) [0, 1, 2, 3, 8, 10, 12, 14, 16, 18] ⟨by decide, rfl⟩ ?_
        refine WJ.sub (m' := (fun (x : Int) => [(3, v9), (4, .int .i64 r7.2), (6, .int .i64 r10.2), (7, v15), (10, .int .i64 r16.2), (11, v21), (15, v27), (17, v30), (22, .int .i64 r32.2), (23, v37), (30, v50), (32, v54), (34, .int .i64 x)]) 0) ⟨rfl, rfl, rfl, rfl, rfl, rfl, rfl, rfl, rfl, rfl, rfl, rfl, rfl, trivial⟩ ?_
        refine WJ.loop (X := Int) (fun N (x : Int) => w_FnRankings_l1 kj114 r25 r48 r52 N x = some r) (fun (x : Int) => [(3, v9), (4, .int .i64 r7.2), (6, .int .i64 r10.2), (7, v15), (10, .int .i64 r16.2), (11, v21), (15, v27), (17, v30), (22, .int .i64 r32.2), (23, v37), (30, v50), (32, v54), (34, .int .i64 x)]) (fun (x : Int) => [row v54 27 fRaw1 vs55, inn (rSl fI64.rp) vs55 r52.1, row v50 27 fRaw1 vs51, inn (rSl fI64.rp) vs51 r48.1, row v37 2 fI64 r35.1, row v30 46 fResult r28.1, row v27 2 fI64 r25.1, row v21 2 fI64 r19.1, row v15 2 fI64 r13.1, row v9 46 fResult r7.1]) ?_ N 0 hm
        · rintro N i116 hI
          have hm := hI; clear hI
          cases N with
          | zero => cases hm
          | succ N =>
          unfold w_FnRankings_l1 at hm
          refine WJ.seq ?_
          refine WJ.seq ?_
          refine WJ.quiet ?_
          refine QJ.step (YldS.yld (y_move rfl)) rfl ?_
          refine QJ.step (YldS.yld (y_move rfl)) rfl ?_
          refine QJ.step (YldS.yld (y_lenG (fun w hw => (hw.nst_rd (k := 0) (j := 1) rfl rfl)) Tryd.runUnderlying37 rfl)) rfl ?_
          refine QJ.step (YldS.yld (y_bin rfl rfl rfl)) rfl ?_
          refine QJ.done ?_
          refine PJ.next ?_
          refine WJ.cond (t := decide (i116 < (List.length r52.1 : Int))) rfl (fun hb117 => ?_) (fun hb117 => ?_)
          · replace hm := ifT hm hb117
            refine WJ.skip ?_
            refine PJ.next ?_
            obtain ⟨kj118, hk119, hm⟩ := withK_open hm
            refine WJ.join (X := Unit) (fun (_ : Unit) => kj118  = some r) (fun (_ : Unit) => [(3, v9), (4, .int .i64 r7.2), (6, .int .i64 r10.2), (7, v15), (10, .int .i64 r16.2), (11, v21), (15, v27), (17, v30), (22, .int .i64 r32.2), (23, v37), (30, v50), (32, v54), (34, .int .i64 i116)]) (fun (_ : Unit) => [row v54 27 fRaw1 vs55, inn (rSl fI64.rp) vs55 r52.1, row v50 27 fRaw1 vs51, inn (rSl fI64.rp) vs51 r48.1, row v37 2 fI64 r35.1, row v30 46 fResult r28.1, row v27 2 fI64 r25.1, row v21 2 fI64 r19.1, row v15 2 fI64 r13.1, row v9 46 fResult r7.1]) ?_ ?_
            · clear hk119
              refine WJ.block ?_
              refine WJ.seq ?_
              refine WJ.seq ?_
              refine WJ.inn_len 1 rfl fun hl120 => ?_
              refine WJ.inn_len 3 rfl fun hl121 => ?_
              refine WJ.quiet_draw follows (by kernel_rfl) ?_
              refine QJ.step (YldS.yld (y_move rfl)) rfl ?_
              refine QJ.step (YldS.yld (y_move rfl)) rfl ?_
              obtain ⟨e122, h123, hm⟩ := bindS hm
              obtain ⟨y124, hy125⟩ := inn_idx hl121 h123
              refine QJ.step (YldS.yld (y_ixRow (k := 2) (R := fRaw1) rfl Tryd.runUnderlying37 Tryd.sizeOf27 rfl rfl hy125)) rfl ?_
              refine QJ.step (YldS.yld (y_loadR (k := 2) (i := (Int.toNat i116)) (off := 0) rfl Tryd.isAgg27 rfl (idx_get hy125) (raw_get y124))) rfl ?_
              refine QJ.step (YldS.yld (y_move rfl)) rfl ?_
              refine QJ.step (YldS.yld (y_move rfl)) rfl ?_
              obtain ⟨e126, h127, hm⟩ := bindS hm
              obtain ⟨y128, hy129⟩ := inn_idx hl120 h127
              refine QJ.step (YldS.yld (y_ixRow (k := 0) (R := fRaw1) rfl Tryd.runUnderlying37 Tryd.sizeOf27 rfl rfl hy129)) rfl ?_
              refine QJ.step (YldS.yld (y_loadR (k := 0) (i := (Int.toNat i116)) (off := 0) rfl Tryd.isAgg27 rfl (idx_get hy129) (raw_get y128))) rfl ?_
              obtain ⟨r130, h131, hm⟩ := bindS hm
              refine QJ.step (y_call Tryd.call20 rfl (RetG.quiet fun w hw => ok_w_f6ints h131 w _ (hw.inn_rd (k := 3) rfl rfl hy125 h123) _ (hw.inn_rd (k := 1) rfl rfl hy129 h127))) rfl ?_
              refine QJ.step (YldS.yld (y_not rfl)) rfl ?_
              refine QJ.step (YldS.yld (y_move rfl)) rfl ?_
              obtain ⟨t132, h133, hm⟩ := bindS hm
              refine QJ.cut 7 [(3, v9), (4, .int .i64 r7.2), (6, .int .i64 r10.2), (7, v15), (10, .int .i64 r16.2), (11, v21), (15, v27), (17, v30), (22, .int .i64 r32.2), (23, v37), (30, v50), (32, v54), (34, .int .i64 i116), (229, .bool t132)] ?_ ?_
              · rcases Bool.eq_false_or_eq_true (!r130) with hb134 | hb134
                · obtain rfl := orT h133 hb134
                  refine QJ.off rfl rfl (cB hb134) rfl rfl ?_
                  refine QJ.off rfl rfl (cB hb134) rfl rfl ?_
                  refine QJ.off rfl rfl (cB hb134) rfl rfl ?_
                  refine QJ.off rfl rfl (cB hb134) rfl rfl ?_
                  refine QJ.off rfl rfl (cB hb134) rfl rfl ?_
                  refine QJ.off rfl rfl (cB hb134) rfl rfl ?_
                  refine QJ.step (YldS.yld (y_pick_t (cB hb134) rfl)) rfl ?_
                  exact QJ.cut_end ⟨rfl, rfl, rfl, rfl, rfl, rfl, rfl, rfl, rfl, rfl, rfl, rfl, rfl, rfl, trivial⟩
                · replace h133 := orF h133 hb134
                  refine QJ.on rfl rfl (cB hb134) (YldS.yld (y_move rfl)) rfl ?_
                  refine QJ.on rfl rfl (cB hb134) (YldS.yld (y_move rfl)) rfl ?_
                  obtain ⟨e135, h136, h133⟩ := bindS h133
                  obtain ⟨y137, hy138⟩ := inn_idx hl120 h136
                  refine QJ.on rfl rfl (cB hb134) (YldS.yld (y_ixRow (k := 0) (R := fRaw1) rfl Tryd.runUnderlying37 Tryd.sizeOf27 rfl rfl hy138)) rfl ?_
                  refine QJ.on rfl rfl (cB hb134) (YldS.yld (y_loadR (k := 0) (i := (Int.toNat i116)) (off := 0) rfl Tryd.isAgg27 rfl (idx_get hy138) (raw_get y137))) rfl ?_
                  refine QJ.on rfl rfl (cB hb134) (YldS.yld (y_lenG (fun w hw => (hw.inn_rd (k := 1) rfl rfl hy138 h136)) Tryd.runUnderlying27 rfl)) rfl ?_
                  refine QJ.on rfl rfl (cB hb134) (YldS.yld (y_bin rfl rfl rfl)) rfl ?_
                  refine QJ.step (YldS.yld (y_pick_f (cB hb134) rfl)) rfl ?_
                  obtain rfl := Option.some.inj h133
                  exact QJ.cut_end ⟨rfl, rfl, rfl, rfl, rfl, rfl, rfl, rfl, rfl, rfl, rfl, rfl, rfl, rfl, trivial⟩
              refine QJ.done ?_
              refine PJ.next ?_
              refine WJ.cond (t := t132) rfl (fun hb139 => ?_) (fun hb139 => ?_)
              · replace hm := ifT hm hb139
                refine WJ.seq ?_
                refine WJ.quiet ?_
                refine QJ.step (YldS.yld (y_assign rfl)) rfl ?_
                refine QJ.done ?_
                refine PJ.next ?_
                refine WJ.ret ?_
                refine PJ.then_ret (PJ.block_ret (PJ.then_ret (PJ.then_ret (PJ.block_ret (PJ.then_ret ?_)))))
                obtain rfl := Option.some.inj hm
                refine PJ.sel (L' := []) [] ⟨List.nodup_nil, rfl⟩ ?_
                exact PJ.retn (vs := [.bool false]) Tryd.results3 ⟨rfl, trivial⟩ ⟨rfl, rfl⟩
              · replace hm := ifF hm hb139
                refine WJ.skip ?_
                refine PJ.next ?_
                refine WJ.seq ?_
                refine WJ.quiet ?_
                refine QJ.step (YldS.yld (y_assign rfl)) rfl ?_
                refine QJ.done ?_
                refine PJ.next ?_
                refine WJ.block ?_
                refine WJ.sel (L' := (fun (x : Int) => [row v54 27 fRaw1 vs55, inn (rSl fI64.rp) vs55 r52.1, row v50 27 fRaw1 vs51, inn (rSl fI64.rp) vs51 r48.1, row v37 2 fI64 r35.1, row v30 46 fResult r28.1, row v27 2 fI64 r25.1, row v21 2 fI64 r19.1, row v15 2 fI64 r13.1, row v9 46 fResult r7.1]) 0) [0, 1, 2, 3, 4, 5, 6, 7, 8, 9] ⟨by decide, rfl⟩ ?_
                refine WJ.sub (m' := (fun (x : Int) => [(3, v9), (4, .int .i64 r7.2), (6, .int .i64 r10.2), (7, v15), (10, .int .i64 r16.2), (11, v21), (15, v27), (17, v30), (22, .int .i64 r32.2), (23, v37), (30, v50), (32, v54), (34, .int .i64 i116), (35, .int .i64 x)]) 0) ⟨rfl, rfl, rfl, rfl, rfl, rfl, rfl, rfl, rfl, rfl, rfl, rfl, rfl, rfl, trivial⟩ ?_
                refine WJ.loop (X := Int) (fun N (x : Int) => w_FnRankings_l2 kj118 r25 r52 i116 N x = some r) (fun (x : Int) => [(3, v9), (4, .int .i64 r7.2), (6, .int .i64 r10.2), (7, v15), (10, .int .i64 r16.2), (11, v21), (15, v27), (17, v30), (22, .int .i64 r32.2), (23, v37), (30, v50), (32, v54), (34, .int .i64 i116), (35, .int .i64 x)]) (fun (x : Int) => [row v54 27 fRaw1 vs55, inn (rSl fI64.rp) vs55 r52.1, row v50 27 fRaw1 vs51, inn (rSl fI64.rp) vs51 r48.1, row v37 2 fI64 r35.1, row v30 46 fResult r28.1, row v27 2 fI64 r25.1, row v21 2 fI64 r19.1, row v15 2 fI64 r13.1, row v9 46 fResult r7.1]) ?_ N 0 hm
                · rintro N k140 hI
                  have hm := hI; clear hI
                  cases N with
                  | zero => cases hm
                  | succ N =>
                  unfold w_FnRankings_l2 at hm
                  refine WJ.seq ?_
                  refine WJ.seq ?_
                  refine WJ.inn_len 1 rfl fun hl141 => ?_
                  refine WJ.inn_len 3 rfl fun hl142 => ?_
                  refine WJ.quiet ?_
                  refine QJ.step (YldS.yld (y_move rfl)) rfl ?_
                  refine QJ.step (YldS.yld (y_move rfl)) rfl ?_
                  refine QJ.step (YldS.yld (y_move rfl)) rfl ?_
                  obtain ⟨e143, h144, hm⟩ := bindS hm
                  obtain ⟨y145, hy146⟩ := inn_idx hl141 h144
                  refine QJ.step (YldS.yld (y_ixRow (k := 0) (R := fRaw1) rfl Tryd.runUnderlying37 Tryd.sizeOf27 rfl rfl hy146)) rfl ?_
                  refine QJ.step (YldS.yld (y_loadR (k := 0) (i := (Int.toNat i116)) (off := 0) rfl Tryd.isAgg27 rfl (idx_get hy146) (raw_get y145))) rfl ?_
                  refine QJ.step (YldS.yld (y_lenG (fun w hw => (hw.inn_rd (k := 1) rfl rfl hy146 h144)) Tryd.runUnderlying27 rfl)) rfl ?_
                  refine QJ.step (YldS.yld (y_bin rfl rfl rfl)) rfl ?_
                  refine QJ.done ?_
                  refine PJ.next ?_
                  refine WJ.cond (t := decide (k140 < (List.length e143 : Int))) rfl (fun hb147 => ?_) (fun hb147 => ?_)
                  · replace hm := ifT hm hb147
                    refine WJ.skip ?_
                    refine PJ.next ?_
                    refine WJ.seq ?_
                    refine WJ.block ?_
                    refine WJ.seq ?_
                    refine WJ.inn_len 1 rfl fun hl148 => ?_
                    refine WJ.inn_len 3 rfl fun hl149 => ?_
                    refine WJ.quiet_draw follows (by kernel_rfl) ?_
                    refine QJ.step (YldS.yld (y_move rfl)) rfl ?_
                    refine QJ.step (YldS.yld (y_move rfl)) rfl ?_
                    refine QJ.step (YldS.yld (y_move rfl)) rfl ?_
                    obtain ⟨e150, h151, hm⟩ := bindS hm
                    obtain ⟨y152, hy153⟩ := inn_idx hl148 h151
                    refine QJ.step (YldS.yld (y_ixRow (k := 0) (R := fRaw1) rfl Tryd.runUnderlying37 Tryd.sizeOf27 rfl rfl hy153)) rfl ?_
                    refine QJ.step (YldS.yld (y_loadR (k := 0) (i := (Int.toNat i116)) (off := 0) rfl Tryd.isAgg27 rfl (idx_get hy153) (raw_get y152))) rfl ?_
                    refine QJ.step (YldS.yld (y_move rfl)) rfl ?_
                    obtain ⟨e154, h155, hm⟩ := bindS hm
                    refine QJ.step (YldS.yld (y_ixG (R := fI64) (fun w hw => (hw.inn_rd (k := 1) rfl rfl hy153 h151)) Tryd.runUnderlying27 Tryd.sizeOf2 rfl rfl h155)) rfl ?_
                    refine QJ.step (YldS.yld (y_loadG (R := fI64) (i := (Int.toNat k140)) (off := 0) (fun w hw => (hw.inn_rd (k := 1) rfl rfl hy153 h151)) Tryd.isAgg2 rfl (idx_get h155) rfl)) rfl ?_
                    obtain ⟨e156, h157, hm⟩ := bindS hm
                    refine QJ.step (YldS.yld (y_ixRow (k := 6) (R := fI64) rfl Tryd.runUnderlying27 Tryd.sizeOf2 rfl rfl h157)) rfl ?_
                    refine QJ.step (YldS.yld (y_loadR (k := 6) (i := (Int.toNat e154)) (off := 0) (u := .int .i64 e156) rfl Tryd.isAgg2 rfl (idx_get h157) rfl)) rfl ?_
                    refine QJ.step (YldS.yld (y_move rfl)) rfl ?_
                    refine QJ.step (YldS.yld (y_move rfl)) rfl ?_
                    refine QJ.step (YldS.yld (y_move rfl)) rfl ?_
                    obtain ⟨e158, h159, hm⟩ := bindS hm
                    obtain ⟨y160, hy161⟩ := inn_idx hl148 h159
                    refine QJ.step (YldS.yld (y_ixRow (k := 0) (R := fRaw1) rfl Tryd.runUnderlying37 Tryd.sizeOf27 rfl rfl hy161)) rfl ?_
                    refine QJ.step (YldS.yld (y_loadR (k := 0) (i := (Int.toNat i116)) (off := 0) rfl Tryd.isAgg27 rfl (idx_get hy161) (raw_get y160))) rfl ?_
                    obtain ⟨e162, h163, hm⟩ := bindS hm
                    refine QJ.step (YldS.yld (y_ixG (R := fI64) (fun w hw => (hw.inn_rd (k := 1) rfl rfl hy161 h159)) Tryd.runUnderlying27 Tryd.sizeOf2 rfl rfl h163)) rfl ?_
                    refine QJ.step (YldS.yld (y_loadG (R := fI64) (i := (Int.toNat 0)) (off := 0) (fun w hw => (hw.inn_rd (k := 1) rfl rfl hy161 h159)) Tryd.isAgg2 rfl (idx_get h163) rfl)) rfl ?_
                    obtain ⟨e164, h165, hm⟩ := bindS hm
                    refine QJ.step (YldS.yld (y_ixRow (k := 6) (R := fI64) rfl Tryd.runUnderlying27 Tryd.sizeOf2 rfl rfl h165)) rfl ?_
                    refine QJ.step (YldS.yld (y_loadR (k := 6) (i := (Int.toNat e162)) (off := 0) (u := .int .i64 e164) rfl Tryd.isAgg2 rfl (idx_get h165) rfl)) rfl ?_
                    refine QJ.step (YldS.yld (y_bin rfl rfl rfl)) rfl ?_
                    refine QJ.done ?_
                    refine PJ.next ?_
                    refine WJ.cond (t := (e156 != e164)) rfl (fun hb166 => ?_) (fun hb166 => ?_)
                    · replace hm := ifT hm hb166
                      refine WJ.seq ?_
                      refine WJ.quiet ?_
                      refine QJ.step (YldS.yld (y_assign rfl)) rfl ?_
                      refine QJ.done ?_
                      refine PJ.next ?_
                      refine WJ.ret ?_
                      refine PJ.block_ret (PJ.then_ret (PJ.then_ret (PJ.block_ret (PJ.block_ret (PJ.then_ret (PJ.then_ret (PJ.block_ret (PJ.then_ret ?_))))))))
                      obtain rfl := Option.some.inj hm
                      refine PJ.sel (L' := []) [] ⟨List.nodup_nil, rfl⟩ ?_
                      exact PJ.retn (vs := [.bool false]) Tryd.results3 ⟨rfl, trivial⟩ ⟨rfl, rfl⟩
                    · replace hm := ifF hm hb166
                      refine WJ.skip ?_
                      refine PJ.block_normal (PJ.next ?_)
                      refine WJ.quiet ?_
                      refine QJ.step (YldS.yld (y_move rfl)) rfl ?_
                      refine QJ.step (YldS.yld (y_bin rfl rfl rfl)) rfl ?_
                      refine QJ.step (YldS.yld (y_assign rfl)) rfl ?_
                      refine QJ.done ?_
                      exact PJ.round (w64 (k140 + 1)) [0, 1, 2, 3, 4, 5, 6, 7, 8, 9] hm ⟨rfl, rfl, rfl, rfl, rfl, rfl, rfl, rfl, rfl, rfl, rfl, rfl, rfl, rfl, trivial⟩ ⟨by decide, rfl⟩
                  · replace hm := ifF hm hb147
                    refine WJ.exit ?_
                    refine PJ.then_exit (PJ.then_exit (PJ.block_exit (PJ.block_normal ?_)))
                    exact PJ.joined () [0, 1, 2, 3, 4, 5, 6, 7, 8, 9] hm ⟨rfl, rfl, rfl, rfl, rfl, rfl, rfl, rfl, rfl, rfl, rfl, rfl, rfl, trivial⟩ ⟨by decide, rfl⟩
            · rintro _ hm
              subst hk119
              refine WJ.quiet ?_
              refine QJ.step (YldS.yld (y_move rfl)) rfl ?_
              refine QJ.step (YldS.yld (y_bin rfl rfl rfl)) rfl ?_
              refine QJ.step (YldS.yld (y_assign rfl)) rfl ?_
              refine QJ.done ?_
              exact PJ.round (w64 (i116 + 1)) [0, 1, 2, 3, 4, 5, 6, 7, 8, 9] hm ⟨rfl, rfl, rfl, rfl, rfl, rfl, rfl, rfl, rfl, rfl, rfl, rfl, rfl, trivial⟩ ⟨by decide, rfl⟩
          · replace hm := ifF hm hb117
            refine WJ.exit ?_
            refine PJ.then_exit (PJ.then_exit (PJ.block_exit ?_))
            exact PJ.joined () [4, 5, 6, 7, 8, 9] hm ⟨rfl, rfl, rfl, rfl, rfl, rfl, rfl, rfl, rfl, rfl, trivial⟩ ⟨by decide, rfl⟩
      · rintro _ hm
        subst hk115
        obtain ⟨kj167, hk168, hm⟩ := withK_open hm
        refine WJ.join (X := Unit) (fun (_ : Unit) => kj167  = some r) (fun (_ : Unit) => [(4, .int .i64 r7.2), (6, .int .i64 r10.2), (7, v15), (17, v30), (22, .int .i64 r32.2), (23, v37)]) (fun (_ : Unit) => [row v37 2 fI64 r35.1, row v30 46 fResult r28.1, row v15 2 fI64 r13.1]) ?_ ?_
        · clear hk168
          refine WJ.seq ?_
          refine WJ.quiet ?_
          refine QJ.step (YldS.yld (y_move rfl)) rfl ?_
          refine QJ.step (YldS.yld (y_bin rfl rfl rfl)) rfl ?_
          refine QJ.done ?_
          refine PJ.next ?_
          refine WJ.cond (t := (r16.2 == 0)) rfl (fun hb169 => ?_) (fun hb169 => ?_)
          · replace hm := ifT hm hb169
            refine WJ.seq ?_
            refine WJ.quiet ?_
            refine QJ.step (YldS.yld (y_assign rfl)) rfl ?_
            refine QJ.done ?_
            refine PJ.next ?_
            refine WJ.block ?_
            refine WJ.sel (L' := (fun (x : Int) => [row v37 2 fI64 r35.1, row v30 46 fResult r28.1, row v27 2 fI64 r25.1, row v21 2 fI64 r19.1, row v15 2 fI64 r13.1, row v9 46 fResult r7.1]) 1) [0, 1, 2, 3, 4, 5] ⟨by decide, rfl⟩ ?_
            refine WJ.sub (m' := (fun (x : Int) => [(3, v9), (4, .int .i64 r7.2), (6, .int .i64 r10.2), (7, v15), (11, v21), (15, v27), (17, v30), (22, .int .i64 r32.2), (23, v37), (36, .int .i64 x)]) 1) ⟨rfl, rfl, rfl, rfl, rfl, rfl, rfl, rfl, rfl, rfl, trivial⟩ ?_
            refine WJ.loop (X := Int) (fun N (x : Int) => w_FnRankings_l3 kj167 r7 r19 r25 N x = some r) (fun (x : Int) => [(3, v9), (4, .int .i64 r7.2), (6, .int .i64 r10.2), (7, v15), (11, v21), (15, v27), (17, v30), (22, .int .i64 r32.2), (23, v37), (36, .int .i64 x)]) (fun (x : Int) => [row v37 2 fI64 r35.1, row v30 46 fResult r28.1, row v27 2 fI64 r25.1, row v21 2 fI64 r19.1, row v15 2 fI64 r13.1, row v9 46 fResult r7.1]) ?_ N 1 hm
            · rintro N i170 hI
              have hm := hI; clear hI
              cases N with
              | zero => cases hm
              | succ N =>
              unfold w_FnRankings_l3 at hm
              refine WJ.seq ?_
              refine WJ.seq ?_
              refine WJ.quiet ?_
              refine QJ.step (YldS.yld (y_move rfl)) rfl ?_
              refine QJ.step (YldS.yld (y_move rfl)) rfl ?_
              refine QJ.step (YldS.yld (y_lenRow (k := 3) rfl Tryd.runUnderlying27 rfl)) rfl ?_
              refine QJ.step (YldS.yld (y_bin rfl rfl rfl)) rfl ?_
              refine QJ.done ?_
              refine PJ.next ?_
              refine WJ.cond (t := decide (i170 < (List.length r19.1 : Int))) rfl (fun hb171 => ?_) (fun hb171 => ?_)
              · replace hm := ifT hm hb171
                refine WJ.skip ?_
                refine PJ.next ?_
                refine WJ.seq ?_
                refine WJ.block ?_
                refine WJ.seq ?_
                refine WJ.quiet ?_
                refine QJ.step (YldS.yld (y_move rfl)) rfl ?_
                refine QJ.step (YldS.yld (y_move rfl)) rfl ?_
                refine QJ.step (YldS.yld (y_move rfl)) rfl ?_
                refine QJ.step (YldS.yld (y_bin rfl rfl rfl)) rfl ?_
                obtain ⟨e172, h173, hm⟩ := bindS hm
                refine QJ.step (YldS.yld (y_ixRow (k := 3) (R := fI64) rfl Tryd.runUnderlying27 Tryd.sizeOf2 rfl rfl h173)) rfl ?_
                refine QJ.step (YldS.yld (y_loadR (k := 3) (i := (Int.toNat (w64 (i170 - 1)))) (off := 0) (u := .int .i64 e172) rfl Tryd.isAgg2 rfl (idx_get h173) rfl)) rfl ?_
                obtain ⟨e174, h175, hm⟩ := bindS hm
                refine QJ.step (YldS.yld (y_ixRow (k := 5) (R := fResult) rfl Tryd.runUnderlying24 Tryd.sizeOf46 rfl rfl h175)) rfl ?_
                refine QJ.step (YldS.yld (y_assign rfl)) rfl ?_
                refine QJ.done ?_
                refine PJ.next ?_
                refine WJ.seq ?_
                refine WJ.quiet ?_
                refine QJ.step (YldS.yld (y_move rfl)) rfl ?_
                refine QJ.step (YldS.yld (y_move rfl)) rfl ?_
                refine QJ.step (YldS.yld (y_move rfl)) rfl ?_
                obtain ⟨e176, h177, hm⟩ := bindS hm
                refine QJ.step (YldS.yld (y_ixRow (k := 3) (R := fI64) rfl Tryd.runUnderlying27 Tryd.sizeOf2 rfl rfl h177)) rfl ?_
                refine QJ.step (YldS.yld (y_loadR (k := 3) (i := (Int.toNat i170)) (off := 0) (u := .int .i64 e176) rfl Tryd.isAgg2 rfl (idx_get h177) rfl)) rfl ?_
                obtain ⟨e178, h179, hm⟩ := bindS hm
                refine QJ.step (YldS.yld (y_ixRow (k := 5) (R := fResult) rfl Tryd.runUnderlying24 Tryd.sizeOf46 rfl rfl h179)) rfl ?_
                refine QJ.step (YldS.yld (y_assign rfl)) rfl ?_
                refine QJ.done ?_
                refine PJ.next ?_
                refine WJ.seq ?_
                refine WJ.quiet_draw follows (by kernel_rfl) ?_
                refine QJ.step (YldS.yld (y_move rfl)) rfl ?_
                refine QJ.step (YldS.yld (y_nil rfl)) rfl ?_
                refine QJ.step (YldS.yld (y_fldR fld46_1 rfl)) rfl ?_
                refine QJ.step (YldS.yld (y_loadR (k := 5) (i := (Int.toNat e172)) (off := 1) (u := .int .i64 e174.net) rfl Tryd.isAgg2 rfl (idx_get h175) rfl)) rfl ?_
                refine QJ.step (YldS.yld (y_move rfl)) rfl ?_
                refine QJ.step (YldS.yld (y_nil rfl)) rfl ?_
                refine QJ.step (YldS.yld (y_fldR fld46_1 rfl)) rfl ?_
                refine QJ.step (YldS.yld (y_loadR (k := 5) (i := (Int.toNat e176)) (off := 1) (u := .int .i64 e178.net) rfl Tryd.isAgg2 rfl (idx_get h179) rfl)) rfl ?_
                refine QJ.step (YldS.yld (y_bin rfl rfl rfl)) rfl ?_
                refine QJ.step (YldS.yld (y_move rfl)) rfl ?_
                obtain ⟨t180, h181, hm⟩ := bindS hm
                refine QJ.cut 21 [(3, v9), (4, .int .i64 r7.2), (6, .int .i64 r10.2), (7, v15), (11, v21), (15, v27), (17, v30), (22, .int .i64 r32.2), (23, v37), (36, .int .i64 i170), (310, .bool t180)] ?_ ?_
                · rcases Bool.eq_false_or_eq_true (decide (e174.net < e178.net)) with hb182 | hb182
                  · obtain rfl := orT h181 hb182
                    refine QJ.off rfl rfl (cB hb182) rfl rfl ?_
                    refine QJ.off rfl rfl (cB hb182) rfl rfl ?_
                    refine QJ.off rfl rfl (cB hb182) rfl rfl ?_
                    refine QJ.off rfl rfl (cB hb182) rfl rfl ?_
                    refine QJ.off rfl rfl (cB hb182) rfl rfl ?_
                    refine QJ.off rfl rfl (cB hb182) rfl rfl ?_
                    refine QJ.off rfl rfl (cB hb182) rfl rfl ?_
                    refine QJ.off rfl rfl (cB hb182) rfl rfl ?_
                    refine QJ.off rfl rfl (cB hb182) rfl rfl ?_
                    refine QJ.off rfl rfl (cB hb182) rfl rfl ?_
                    refine QJ.off_undef rfl rfl rfl rfl ?_
                    refine QJ.off_undef rfl rfl rfl rfl ?_
                    refine QJ.off_undef rfl rfl rfl rfl ?_
                    refine QJ.off_undef rfl rfl rfl rfl ?_
                    refine QJ.off_undef rfl rfl rfl rfl ?_
                    refine QJ.off_undef rfl rfl rfl rfl ?_
                    refine QJ.off_undef rfl rfl rfl rfl ?_
                    refine QJ.off_undef rfl rfl rfl rfl ?_
                    refine QJ.off_undef rfl rfl rfl rfl ?_
                    refine QJ.off rfl rfl (cB hb182) rfl rfl ?_
                    refine QJ.step (YldS.yld (y_pick_t (cB hb182) rfl)) rfl ?_
                    exact QJ.cut_end ⟨rfl, rfl, rfl, rfl, rfl, rfl, rfl, rfl, rfl, rfl, rfl, trivial⟩
                  · replace h181 := orF h181 hb182
                    refine QJ.on rfl rfl (cB hb182) (YldS.yld (y_move rfl)) rfl ?_
                    refine QJ.on rfl rfl (cB hb182) (YldS.yld (y_nil rfl)) rfl ?_
                    refine QJ.on rfl rfl (cB hb182) (YldS.yld (y_fldR fld46_1 rfl)) rfl ?_
                    refine QJ.on rfl rfl (cB hb182) (YldS.yld (y_loadR (k := 5) (i := (Int.toNat e172)) (off := 1) (u := .int .i64 e174.net) rfl Tryd.isAgg2 rfl (idx_get h175) rfl)) rfl ?_
                    refine QJ.on rfl rfl (cB hb182) (YldS.yld (y_move rfl)) rfl ?_
                    refine QJ.on rfl rfl (cB hb182) (YldS.yld (y_nil rfl)) rfl ?_
                    refine QJ.on rfl rfl (cB hb182) (YldS.yld (y_fldR fld46_1 rfl)) rfl ?_
                    refine QJ.on rfl rfl (cB hb182) (YldS.yld (y_loadR (k := 5) (i := (Int.toNat e176)) (off := 1) (u := .int .i64 e178.net) rfl Tryd.isAgg2 rfl (idx_get h179) rfl)) rfl ?_
                    refine QJ.on rfl rfl (cB hb182) (YldS.yld (y_bin rfl rfl rfl)) rfl ?_
                    refine QJ.on rfl rfl (cB hb182) (YldS.yld (y_move rfl)) rfl ?_
                    obtain ⟨t183, h184, h181⟩ := bindS h181
                    refine QJ.cut 10 [(3, v9), (4, .int .i64 r7.2), (6, .int .i64 r10.2), (7, v15), (11, v21), (15, v27), (17, v30), (22, .int .i64 r32.2), (23, v37), (36, .int .i64 i170), (289, .bool (decide (e174.net < e178.net))), (309, .bool t183)] ?_ ?_
                    · rcases Bool.eq_false_or_eq_true (e174.net == e178.net) with hb185 | hb185
                      · replace h184 := andT h184 hb185
                        refine QJ.on rfl rfl (cB hb185) (YldS.yld (y_move rfl)) rfl ?_
                        refine QJ.on rfl rfl (cB hb185) (YldS.yld (y_nil rfl)) rfl ?_
                        refine QJ.on rfl rfl (cB hb185) (YldS.yld (y_fldR fld46_2 rfl)) rfl ?_
                        refine QJ.on rfl rfl (cB hb185) (YldS.yld (y_loadR (k := 5) (i := (Int.toNat e172)) (off := 2) (u := .int .i64 e174.errors) rfl Tryd.isAgg2 rfl (idx_get h175) rfl)) rfl ?_
                        refine QJ.on rfl rfl (cB hb185) (YldS.yld (y_move rfl)) rfl ?_
                        refine QJ.on rfl rfl (cB hb185) (YldS.yld (y_nil rfl)) rfl ?_
                        refine QJ.on rfl rfl (cB hb185) (YldS.yld (y_fldR fld46_2 rfl)) rfl ?_
                        refine QJ.on rfl rfl (cB hb185) (YldS.yld (y_loadR (k := 5) (i := (Int.toNat e176)) (off := 2) (u := .int .i64 e178.errors) rfl Tryd.isAgg2 rfl (idx_get h179) rfl)) rfl ?_
                        refine QJ.on rfl rfl (cB hb185) (YldS.yld (y_bin rfl rfl rfl)) rfl ?_
                        refine QJ.on rfl rfl (cB hb182) (YldS.yld (y_pick_t (cB hb185) rfl)) rfl ?_
                        obtain rfl := Option.some.inj h184
                        exact QJ.cut_end ⟨rfl, rfl, rfl, rfl, rfl, rfl, rfl, rfl, rfl, rfl, rfl, rfl, trivial⟩
                      · obtain rfl := andF h184 hb185
                        refine QJ.off rfl rfl (cB hb185) rfl rfl ?_
                        refine QJ.off rfl rfl (cB hb185) rfl rfl ?_
                        refine QJ.off rfl rfl (cB hb185) rfl rfl ?_
                        refine QJ.off rfl rfl (cB hb185) rfl rfl ?_
                        refine QJ.off rfl rfl (cB hb185) rfl rfl ?_
                        refine QJ.off rfl rfl (cB hb185) rfl rfl ?_
                        refine QJ.off rfl rfl (cB hb185) rfl rfl ?_
                        refine QJ.off rfl rfl (cB hb185) rfl rfl ?_
                        refine QJ.off rfl rfl (cB hb185) rfl rfl ?_
                        refine QJ.on rfl rfl (cB hb182) (YldS.yld (y_pick_f (cB hb185) rfl)) rfl ?_
                        exact QJ.cut_end ⟨rfl, rfl, rfl, rfl, rfl, rfl, rfl, rfl, rfl, rfl, rfl, rfl, trivial⟩
                    refine QJ.step (YldS.yld (y_pick_f (cB hb182) rfl)) rfl ?_
                    obtain rfl := Option.some.inj h181
                    exact QJ.cut_end ⟨rfl, rfl, rfl, rfl, rfl, rfl, rfl, rfl, rfl, rfl, rfl, trivial⟩
                refine QJ.step (YldS.yld (y_move rfl)) rfl ?_
                obtain ⟨t186, h187, hm⟩ := bindS hm
                refine QJ.cut 17 [(3, v9), (4, .int .i64 r7.2), (6, .int .i64 r10.2), (7, v15), (11, v21), (15, v27), (17, v30), (22, .int .i64 r32.2), (23, v37), (36, .int .i64 i170), (328, .bool t186)] ?_ ?_
                · rcases Bool.eq_false_or_eq_true t180 with hb188 | hb188
                  · obtain rfl := orT h187 hb188
                    refine QJ.off rfl rfl (cB hb188) rfl rfl ?_
                    refine QJ.off rfl rfl (cB hb188) rfl rfl ?_
                    refine QJ.off rfl rfl (cB hb188) rfl rfl ?_
                    refine QJ.off rfl rfl (cB hb188) rfl rfl ?_
                    refine QJ.off rfl rfl (cB hb188) rfl rfl ?_
                    refine QJ.off rfl rfl (cB hb188) rfl rfl ?_
                    refine QJ.off rfl rfl (cB hb188) rfl rfl ?_
                    refine QJ.off rfl rfl (cB hb188) rfl rfl ?_
                    refine QJ.off rfl rfl (cB hb188) rfl rfl ?_
                    refine QJ.off rfl rfl (cB hb188) rfl rfl ?_
                    refine QJ.off rfl rfl (cB hb188) rfl rfl ?_
                    refine QJ.off rfl rfl (cB hb188) rfl rfl ?_
                    refine QJ.off rfl rfl (cB hb188) rfl rfl ?_
                    refine QJ.off rfl rfl (cB hb188) rfl rfl ?_
                    refine QJ.off rfl rfl (cB hb188) rfl rfl ?_
                    refine QJ.off rfl rfl (cB hb188) rfl rfl ?_
                    refine QJ.step (YldS.yld (y_pick_t (cB hb188) rfl)) rfl ?_
                    exact QJ.cut_end ⟨rfl, rfl, rfl, rfl, rfl, rfl, rfl, rfl, rfl, rfl, rfl, trivial⟩
                  · replace h187 := orF h187 hb188
                    refine QJ.on rfl rfl (cB hb188) (YldS.yld (y_move rfl)) rfl ?_
                    refine QJ.on rfl rfl (cB hb188) (YldS.yld (y_move rfl)) rfl ?_
                    refine QJ.on rfl rfl (cB hb188) (YldS.yld (y_move rfl)) rfl ?_
                    obtain ⟨e189, h190, h187⟩ := bindS h187
                    refine QJ.on rfl rfl (cB hb188) (YldS.yld (y_ixRow (k := 3) (R := fI64) rfl Tryd.runUnderlying27 Tryd.sizeOf2 rfl rfl h190)) rfl ?_
                    refine QJ.on rfl rfl (cB hb188) (YldS.yld (y_loadR (k := 3) (i := (Int.toNat i170)) (off := 0) (u := .int .i64 e189) rfl Tryd.isAgg2 rfl (idx_get h190) rfl)) rfl ?_
                    obtain ⟨e191, h192, h187⟩ := bindS h187
                    refine QJ.on rfl rfl (cB hb188) (YldS.yld (y_ixRow (k := 2) (R := fI64) rfl Tryd.runUnderlying27 Tryd.sizeOf2 rfl rfl h192)) rfl ?_
                    refine QJ.on rfl rfl (cB hb188) (YldS.yld (y_loadR (k := 2) (i := (Int.toNat e189)) (off := 0) (u := .int .i64 e191) rfl Tryd.isAgg2 rfl (idx_get h192) rfl)) rfl ?_
                    refine QJ.on rfl rfl (cB hb188) (YldS.yld (y_move rfl)) rfl ?_
                    refine QJ.on rfl rfl (cB hb188) (YldS.yld (y_move rfl)) rfl ?_
                    refine QJ.on rfl rfl (cB hb188) (YldS.yld (y_move rfl)) rfl ?_
                    refine QJ.on rfl rfl (cB hb188) (YldS.yld (y_bin rfl rfl rfl)) rfl ?_
                    obtain ⟨e193, h194, h187⟩ := bindS h187
                    refine QJ.on rfl rfl (cB hb188) (YldS.yld (y_ixRow (k := 3) (R := fI64) rfl Tryd.runUnderlying27 Tryd.sizeOf2 rfl rfl h194)) rfl ?_
                    refine QJ.on rfl rfl (cB hb188) (YldS.yld (y_loadR (k := 3) (i := (Int.toNat (w64 (i170 - 1)))) (off := 0) (u := .int .i64 e193) rfl Tryd.isAgg2 rfl (idx_get h194) rfl)) rfl ?_
                    obtain ⟨e195, h196, h187⟩ := bindS h187
                    refine QJ.on rfl rfl (cB hb188) (YldS.yld (y_ixRow (k := 2) (R := fI64) rfl Tryd.runUnderlying27 Tryd.sizeOf2 rfl rfl h196)) rfl ?_
                    refine QJ.on rfl rfl (cB hb188) (YldS.yld (y_loadR (k := 2) (i := (Int.toNat e193)) (off := 0) (u := .int .i64 e195) rfl Tryd.isAgg2 rfl (idx_get h196) rfl)) rfl ?_
                    refine QJ.on rfl rfl (cB hb188) (YldS.yld (y_bin rfl rfl rfl)) rfl ?_
                    refine QJ.step (YldS.yld (y_pick_f (cB hb188) rfl)) rfl ?_
                    obtain rfl := Option.some.inj h187
                    exact QJ.cut_end ⟨rfl, rfl, rfl, rfl, rfl, rfl, rfl, rfl, rfl, rfl, rfl, trivial⟩
                refine QJ.step (YldS.yld (y_move rfl)) rfl ?_
                obtain ⟨t197, h198, hm⟩ := bindS hm
                refine QJ.cut 11 [(3, v9), (4, .int .i64 r7.2), (6, .int .i64 r10.2), (7, v15), (11, v21), (15, v27), (17, v30), (22, .int .i64 r32.2), (23, v37), (36, .int .i64 i170), (340, .bool t197)] ?_ ?_
                · rcases Bool.eq_false_or_eq_true t186 with hb199 | hb199
                  · obtain rfl := orT h198 hb199
                    refine QJ.off rfl rfl (cB hb199) rfl rfl ?_
                    refine QJ.off rfl rfl (cB hb199) rfl rfl ?_
                    refine QJ.off rfl rfl (cB hb199) rfl rfl ?_
                    refine QJ.off rfl rfl (cB hb199) rfl rfl ?_
                    refine QJ.off rfl rfl (cB hb199) rfl rfl ?_
                    refine QJ.off rfl rfl (cB hb199) rfl rfl ?_
                    refine QJ.off rfl rfl (cB hb199) rfl rfl ?_
                    refine QJ.off rfl rfl (cB hb199) rfl rfl ?_
                    refine QJ.off rfl rfl (cB hb199) rfl rfl ?_
                    refine QJ.off rfl rfl (cB hb199) rfl rfl ?_
                    refine QJ.step (YldS.yld (y_pick_t (cB hb199) rfl)) rfl ?_
                    exact QJ.cut_end ⟨rfl, rfl, rfl, rfl, rfl, rfl, rfl, rfl, rfl, rfl, rfl, trivial⟩
                  · replace h198 := orF h198 hb199
                    refine QJ.on rfl rfl (cB hb199) (YldS.yld (y_move rfl)) rfl ?_
                    refine QJ.on rfl rfl (cB hb199) (YldS.yld (y_move rfl)) rfl ?_
                    refine QJ.on rfl rfl (cB hb199) (YldS.yld (y_move rfl)) rfl ?_
                    obtain ⟨e200, h201, h198⟩ := bindS h198
                    refine QJ.on rfl rfl (cB hb199) (YldS.yld (y_ixRow (k := 3) (R := fI64) rfl Tryd.runUnderlying27 Tryd.sizeOf2 rfl rfl h201)) rfl ?_
                    refine QJ.on rfl rfl (cB hb199) (YldS.yld (y_loadR (k := 3) (i := (Int.toNat i170)) (off := 0) (u := .int .i64 e200) rfl Tryd.isAgg2 rfl (idx_get h201) rfl)) rfl ?_
                    obtain ⟨e202, h203, h198⟩ := bindS h198
                    refine QJ.on rfl rfl (cB hb199) (YldS.yld (y_ixRow (k := 2) (R := fI64) rfl Tryd.runUnderlying27 Tryd.sizeOf2 rfl rfl h203)) rfl ?_
                    refine QJ.on rfl rfl (cB hb199) (YldS.yld (y_loadR (k := 2) (i := (Int.toNat e200)) (off := 0) (u := .int .i64 e202) rfl Tryd.isAgg2 rfl (idx_get h203) rfl)) rfl ?_
                    refine QJ.on rfl rfl (cB hb199) (YldS.yld (y_move rfl)) rfl ?_
                    refine QJ.on rfl rfl (cB hb199) (YldS.yld (y_bin rfl rfl rfl)) rfl ?_
                    refine QJ.on rfl rfl (cB hb199) (YldS.yld (y_bin rfl rfl rfl)) rfl ?_
                    refine QJ.step (YldS.yld (y_pick_f (cB hb199) rfl)) rfl ?_
                    obtain rfl := Option.some.inj h198
                    exact QJ.cut_end ⟨rfl, rfl, rfl, rfl, rfl, rfl, rfl, rfl, rfl, rfl, rfl, trivial⟩
                refine QJ.done ?_
                refine PJ.next ?_
                refine WJ.cond (t := t197) rfl (fun hb204 => ?_) (fun hb204 => ?_)
                · replace hm := ifT hm hb204
                  refine WJ.seq ?_
                  refine WJ.quiet ?_
                  refine QJ.step (YldS.yld (y_assign rfl)) rfl ?_
                  refine QJ.done ?_
                  refine PJ.next ?_
                  refine WJ.ret ?_
                  refine PJ.block_ret (PJ.then_ret (PJ.then_ret (PJ.block_ret (PJ.then_ret ?_))))
                  obtain rfl := Option.some.inj hm
                  refine PJ.sel (L' := []) [] ⟨List.nodup_nil, rfl⟩ ?_
                  exact PJ.retn (vs := [.bool false]) Tryd.results3 ⟨rfl, trivial⟩ ⟨rfl, rfl⟩
                · replace hm := ifF hm hb204
                  refine WJ.skip ?_
                  refine PJ.block_normal (PJ.next ?_)
                  refine WJ.quiet ?_
                  refine QJ.step (YldS.yld (y_move rfl)) rfl ?_
                  refine QJ.step (YldS.yld (y_bin rfl rfl rfl)) rfl ?_
                  refine QJ.step (YldS.yld (y_assign rfl)) rfl ?_
                  refine QJ.done ?_
                  exact PJ.round (w64 (i170 + 1)) [0, 1, 2, 3, 4, 5] hm ⟨rfl, rfl, rfl, rfl, rfl, rfl, rfl, rfl, rfl, rfl, trivial⟩ ⟨by decide, rfl⟩
              · replace hm := ifF hm hb171
                refine WJ.exit ?_
                refine PJ.then_exit (PJ.then_exit (PJ.block_exit ?_))
                exact PJ.joined () [0, 1, 4] hm ⟨rfl, rfl, rfl, rfl, rfl, rfl, trivial⟩ ⟨by decide, rfl⟩
          · replace hm := ifF hm hb169
            refine WJ.skip ?_
            exact PJ.joined () [0, 1, 4] hm ⟨rfl, rfl, rfl, rfl, rfl, rfl, trivial⟩ ⟨by decide, rfl⟩
        · rintro _ hm
          subst hk168
          refine WJ.seq ?_
          refine WJ.seq ?_
          refine WJ.quiet ?_
          refine QJ.step (YldS.yld (y_move rfl)) rfl ?_
          refine QJ.step (YldS.yld (y_bin rfl rfl rfl)) rfl ?_
          refine QJ.step (YldS.yld (y_move rfl)) rfl ?_
          obtain ⟨t205, h206, hm⟩ := bindS hm
          refine QJ.cut 6 [(4, .int .i64 r7.2), (6, .int .i64 r10.2), (7, v15), (349, .bool t205)] ?_ ?_
          · rcases Bool.eq_false_or_eq_true (r32.2 == 0) with hb207 | hb207
            · replace h206 := andT h206 hb207
              refine QJ.on rfl rfl (cB hb207) (YldS.yld (y_move rfl)) rfl ?_
              refine QJ.on rfl rfl (cB hb207) (YldS.yld (y_lenRow (k := 0) rfl Tryd.runUnderlying27 rfl)) rfl ?_
              refine QJ.on rfl rfl (cB hb207) (YldS.yld (y_move rfl)) rfl ?_
              refine QJ.on rfl rfl (cB hb207) (YldS.yld (y_lenRow (k := 1) rfl Tryd.runUnderlying24 rfl)) rfl ?_
              refine QJ.on rfl rfl (cB hb207) (YldS.yld (y_bin rfl rfl rfl)) rfl ?_
              refine QJ.step (YldS.yld (y_pick_t (cB hb207) rfl)) rfl ?_
              obtain rfl := Option.some.inj h206
              exact QJ.cut_end ⟨rfl, rfl, rfl, rfl, trivial⟩
            · obtain rfl := andF h206 hb207
              refine QJ.off rfl rfl (cB hb207) rfl rfl ?_
              refine QJ.off rfl rfl (cB hb207) rfl rfl ?_
              refine QJ.off rfl rfl (cB hb207) rfl rfl ?_
              refine QJ.off rfl rfl (cB hb207) rfl rfl ?_
              refine QJ.off rfl rfl (cB hb207) rfl rfl ?_
              refine QJ.step (YldS.yld (y_pick_f (cB hb207) rfl)) rfl ?_
              exact QJ.cut_end ⟨rfl, rfl, rfl, rfl, trivial⟩
          refine QJ.done ?_
          refine PJ.next ?_
          refine WJ.cond (t := t205) rfl (fun hb208 => ?_) (fun hb208 => ?_)
          · replace hm := ifT hm hb208
            refine WJ.seq ?_
            refine WJ.quiet ?_
            refine QJ.step (YldS.yld (y_assign rfl)) rfl ?_
            refine QJ.done ?_
            refine PJ.next ?_
            refine WJ.ret ?_
            refine PJ.then_ret ?_
            obtain rfl := Option.some.inj hm
            refine PJ.sel (L' := []) [] ⟨List.nodup_nil, rfl⟩ ?_
            exact PJ.retn (vs := [.bool false]) Tryd.results3 ⟨rfl, trivial⟩ ⟨rfl, rfl⟩
          · replace hm := ifF hm hb208
            refine WJ.skip ?_
            refine PJ.next ?_
            refine WJ.seq ?_
            refine WJ.seq ?_
            refine WJ.quiet ?_
            refine QJ.step (YldS.yld (y_move rfl)) rfl ?_
            refine QJ.step (YldS.yld (y_bin rfl rfl rfl)) rfl ?_
            refine QJ.done ?_
            refine PJ.next ?_
            refine WJ.cond (t := (r10.2 != 0)) rfl (fun hb209 => ?_) (fun hb209 => ?_)
            · replace hm := ifT hm hb209
              refine WJ.seq ?_
              refine WJ.quiet ?_
              refine QJ.step (YldS.yld (y_assign rfl)) rfl ?_
              refine QJ.done ?_
              refine PJ.next ?_
              refine WJ.ret ?_
              refine PJ.then_ret ?_
              obtain rfl := Option.some.inj hm
              refine PJ.sel (L' := []) [] ⟨List.nodup_nil, rfl⟩ ?_
              exact PJ.retn (vs := [.bool true]) Tryd.results3 ⟨rfl, trivial⟩ ⟨rfl, rfl⟩
            · replace hm := ifF hm hb209
              refine WJ.skip ?_
              refine PJ.next ?_
              refine WJ.seq ?_
              refine WJ.reg ?_
              refine SJ.q (YldS.yld (y_move rfl)) rfl ?_
              obtain ⟨l210, h211, hm⟩ := bindS hm
              refine SJ.makeSlice (R := fI64) (z := 0) h211 Tryd.underlying27 el2 rfl rfl rfl fun v212 => ?_
              refine SJ.q (YldS.yld (y_assign rfl)) rfl ?_
              refine SJ.nil ?_
              refine PJ.next ?_
              obtain ⟨kj214, hk215, hm⟩ := withK_open hm
              refine WJ.join (X := (List Int)) (fun (x : (List Int)) => kj214 x = some r) (fun (x : (List Int)) => [(39, v212)]) (fun (x : (List Int)) => [row v212 2 fI64 x]) ?_ ?_
              · clear hk215
                refine WJ.seq ?_
                refine WJ.quiet ?_
                refine QJ.step (YldS.yld (y_assign rfl)) rfl ?_
                refine QJ.done ?_
                refine PJ.next ?_
                refine WJ.block ?_
                refine WJ.sel (L' := (fun (x : (List Int) × Int) => [row v212 2 fI64 x.1, row v15 2 fI64 r13.1]) (l210, 0)) [0, 3] ⟨by decide, rfl⟩ ?_
                refine WJ.sub (m' := (fun (x : (List Int) × Int) => [(4, .int .i64 r7.2), (7, v15), (39, v212), (40, .int .i64 x.2)]) (l210, 0)) ⟨rfl, rfl, rfl, rfl, trivial⟩ ?_
                refine WJ.loop (X := (List Int) × Int) (fun N (x : (List Int) × Int) => w_FnRankings_l4 kj214 r7 r13 N x.1 x.2 = some r) (fun (x : (List Int) × Int) => [(4, .int .i64 r7.2), (7, v15), (39, v212), (40, .int .i64 x.2)]) (fun (x : (List Int) × Int) => [row v212 2 fI64 x.1, row v15 2 fI64 r13.1]) ?_ N (l210, 0) hm
                · rintro N ⟨l216, i217⟩ hI
                  have hm := hI; clear hI
                  cases N with
                  | zero => cases hm
                  | succ N =>
                  unfold w_FnRankings_l4 at hm
                  refine WJ.seq ?_
                  refine WJ.seq ?_
                  refine WJ.quiet ?_
                  refine QJ.step (YldS.yld (y_move rfl)) rfl ?_
                  refine QJ.step (YldS.yld (y_move rfl)) rfl ?_
                  refine QJ.step (YldS.yld (y_lenRow (k := 1) rfl Tryd.runUnderlying27 rfl)) rfl ?_
                  refine QJ.step (YldS.yld (y_bin rfl rfl rfl)) rfl ?_
                  refine QJ.done ?_
                  refine PJ.next ?_
                  refine WJ.cond (t := decide (i217 < (List.length r13.1 : Int))) rfl (fun hb218 => ?_) (fun hb218 => ?_)
                  · replace hm := ifT hm hb218
                    refine WJ.skip ?_
                    refine PJ.next ?_
                    refine WJ.seq ?_
                    refine WJ.block ?_
                    refine WJ.seq ?_
                    refine WJ.seq ?_
                    refine WJ.quiet ?_
                    refine QJ.step (YldS.yld (y_move rfl)) rfl ?_
                    refine QJ.step (YldS.yld (y_move rfl)) rfl ?_
                    obtain ⟨e219, h220, hm⟩ := bindS hm
                    refine QJ.step (YldS.yld (y_ixRow (k := 1) (R := fI64) rfl Tryd.runUnderlying27 Tryd.sizeOf2 rfl rfl h220)) rfl ?_
                    refine QJ.step (YldS.yld (y_loadR (k := 1) (i := (Int.toNat i217)) (off := 0) (u := .int .i64 e219) rfl Tryd.isAgg2 rfl (idx_get h220) rfl)) rfl ?_
                    refine QJ.step (YldS.yld (y_bin rfl rfl rfl)) rfl ?_
                    refine QJ.step (YldS.yld (y_move rfl)) rfl ?_
                    obtain ⟨t221, h222, hm⟩ := bindS hm
                    refine QJ.cut 7 [(4, .int .i64 r7.2), (7, v15), (39, v212), (40, .int .i64 i217), (372, .bool t221)] ?_ ?_
                    · rcases Bool.eq_false_or_eq_true (decide (e219 < 0)) with hb223 | hb223
                      · obtain rfl := orT h222 hb223
                        refine QJ.off rfl rfl (cB hb223) rfl rfl ?_
                        refine QJ.off rfl rfl (cB hb223) rfl rfl ?_
                        refine QJ.off rfl rfl (cB hb223) rfl rfl ?_
                        refine QJ.off rfl rfl (cB hb223) rfl rfl ?_
                        refine QJ.off rfl rfl (cB hb223) rfl rfl ?_
                        refine QJ.off rfl rfl (cB hb223) rfl rfl ?_
                        refine QJ.step (YldS.yld (y_pick_t (cB hb223) rfl)) rfl ?_
                        exact QJ.cut_end ⟨rfl, rfl, rfl, rfl, rfl, trivial⟩
                      · replace h222 := orF h222 hb223
                        refine QJ.on rfl rfl (cB hb223) (YldS.yld (y_move rfl)) rfl ?_
                        refine QJ.on rfl rfl (cB hb223) (YldS.yld (y_move rfl)) rfl ?_
                        obtain ⟨e224, h225, h222⟩ := bindS h222
                        refine QJ.on rfl rfl (cB hb223) (YldS.yld (y_ixRow (k := 1) (R := fI64) rfl Tryd.runUnderlying27 Tryd.sizeOf2 rfl rfl h225)) rfl ?_
                        refine QJ.on rfl rfl (cB hb223) (YldS.yld (y_loadR (k := 1) (i := (Int.toNat i217)) (off := 0) (u := .int .i64 e224) rfl Tryd.isAgg2 rfl (idx_get h225) rfl)) rfl ?_
                        refine QJ.on rfl rfl (cB hb223) (YldS.yld (y_move rfl)) rfl ?_
                        refine QJ.on rfl rfl (cB hb223) (YldS.yld (y_bin rfl rfl rfl)) rfl ?_
                        refine QJ.step (YldS.yld (y_pick_f (cB hb223) rfl)) rfl ?_
                        obtain rfl := Option.some.inj h222
                        exact QJ.cut_end ⟨rfl, rfl, rfl, rfl, rfl, trivial⟩
                    refine QJ.done ?_
                    refine PJ.next ?_
                    refine WJ.cond (t := t221) rfl (fun hb226 => ?_) (fun hb226 => ?_)
                    · replace hm := ifT hm hb226
                      refine WJ.seq ?_
                      refine WJ.quiet ?_
                      refine QJ.step (YldS.yld (y_assign rfl)) rfl ?_
                      refine QJ.done ?_
                      refine PJ.next ?_
                      refine WJ.ret ?_
                      refine PJ.then_ret (PJ.block_ret (PJ.then_ret (PJ.then_ret (PJ.block_ret (PJ.then_ret ?_)))))
                      obtain rfl := Option.some.inj hm
                      refine PJ.sel (L' := []) [] ⟨List.nodup_nil, rfl⟩ ?_
                      exact PJ.retn (vs := [.bool false]) Tryd.results3 ⟨rfl, trivial⟩ ⟨rfl, rfl⟩
                    · replace hm := ifF hm hb226
                      refine WJ.skip ?_
                      refine PJ.next ?_
                      obtain ⟨e227, h228, hm⟩ := bindS hm
                      obtain ⟨e229, h230, hm⟩ := bindS hm
                      obtain ⟨e231, h232, hm⟩ := bindS hm
                      obtain ⟨e233, h234, hm⟩ := bindS hm
                      refine WJ.draws (N := 15) (listed0 := #[false, false, false, false, false, false, false, false, false, false, false, false, false, false, false]) [row v15 2 fI64 r13.1] follows rfl rfl ?_
                      refine RJ.first 0 (listed' := #[true, false, false, false, false, false, false, false, false, false, false, false, false, false, false]) [1] rfl (by kernel_rfl) rfl ⟨by decide, rfl⟩ (y_move rfl) rfl ?_
                      refine RJ.first 1 (listed' := #[true, true, false, false, false, false, false, false, false, false, false, false, false, false, false]) [1] rfl (by kernel_rfl) rfl ⟨by decide, rfl⟩ (y_move rfl) rfl ?_
                      refine RJ.first 2 (listed' := #[true, true, true, false, false, false, false, false, false, false, false, false, false, false, false]) [1] rfl (by kernel_rfl) rfl ⟨by decide, rfl⟩ (y_move rfl) rfl ?_
                      refine RJ.first 3 (listed' := #[true, true, true, true, false, false, false, false, false, false, false, false, false, false, false]) [1] rfl (by kernel_rfl) rfl ⟨by decide, rfl⟩ (y_ixRow (k := 0) (R := fI64) rfl Tryd.runUnderlying27 Tryd.sizeOf2 rfl rfl h228) rfl ?_
                      refine RJ.first 4 (listed' := #[true, true, true, true, true, false, false, false, false, false, false, false, false, false, false]) [1] rfl (by kernel_rfl) rfl ⟨by decide, rfl⟩ (y_loadR (k := 0) (i := (Int.toNat i217)) (off := 0) (u := .int .i64 e227) rfl Tryd.isAgg2 rfl (idx_get h228) rfl) rfl ?_
                      refine RJ.first 5 (listed' := #[true, true, true, true, true, true, false, false, false, false, false, false, false, false, false]) [1] rfl (by kernel_rfl) rfl ⟨by decide, rfl⟩ (y_move rfl) rfl ?_
                      refine RJ.first 6 (listed' := #[true, true, true, true, true, true, true, false, false, false, false, false, false, false, false]) [1] rfl (by kernel_rfl) rfl ⟨by decide, rfl⟩ (y_move rfl) rfl ?_
                      refine RJ.first 7 (listed' := #[true, true, true, true, true, true, true, true, false, false, false, false, false, false, false]) [1] rfl (by kernel_rfl) rfl ⟨by decide, rfl⟩ (y_move rfl) rfl ?_
                      refine RJ.first 8 (listed' := #[true, true, true, true, true, true, true, true, true, false, false, false, false, false, false]) [1] rfl (by kernel_rfl) rfl ⟨by decide, rfl⟩ (y_ixRow (k := 0) (R := fI64) rfl Tryd.runUnderlying27 Tryd.sizeOf2 rfl rfl h230) rfl ?_
                      refine RJ.first 9 (listed' := #[true, true, true, true, true, true, true, true, true, true, false, false, false, false, false]) [1] rfl (by kernel_rfl) rfl ⟨by decide, rfl⟩ (y_loadR (k := 0) (i := (Int.toNat i217)) (off := 0) (u := .int .i64 e229) rfl Tryd.isAgg2 rfl (idx_get h230) rfl) rfl ?_
                      refine RJ.step1 10 [1] (by kernel_rfl) ⟨by decide, rfl⟩ ?_
                      refine RO.of (listed' := #[true, true, true, true, true, true, true, true, true, true, true, false, false, false, false]) rfl rfl ?_
                      refine SJ.q (YldS.yld (y_ixRow (k := 0) (R := fI64) rfl Tryd.runUnderlying27 Tryd.sizeOf2 rfl rfl h232)) rfl ?_
                      refine SJ.nil ?_
                      refine PJ.draw ?_
                      refine RJ.step1 11 [1] (by kernel_rfl) ⟨by decide, rfl⟩ ?_
                      refine RO.of (listed' := #[true, true, true, true, true, true, true, true, true, true, true, true, false, false, false]) rfl rfl ?_
                      refine SJ.q (YldS.yld (y_loadR (k := 0) (i := (Int.toNat e229)) (off := 0) (u := .int .i64 e231) rfl Tryd.isAgg2 rfl (idx_get h232) rfl)) rfl ?_
                      refine SJ.nil ?_
                      refine PJ.draw ?_
                      refine RJ.first 12 (listed' := #[true, true, true, true, true, true, true, true, true, true, true, true, true, false, false]) [1] rfl (by kernel_rfl) rfl ⟨by decide, rfl⟩ (y_bin rfl rfl rfl) rfl ?_
                      refine RJ.step1 13 [1] (by kernel_rfl) ⟨by decide, rfl⟩ ?_
                      refine RO.of (listed' := #[true, true, true, true, true, true, true, true, true, true, true, true, true, true, false]) rfl rfl ?_
                      refine SJ.q (YldS.yld (y_ixRow (k := 0) (R := fI64) rfl Tryd.runUnderlying27 Tryd.sizeOf2 rfl rfl h234)) rfl ?_
                      refine SJ.nil ?_
                      refine PJ.draw ?_
                      refine RJ.step1 14 [1] (by kernel_rfl) ⟨by decide, rfl⟩ ?_
                      refine RO.of (listed' := #[true, true, true, true, true, true, true, true, true, true, true, true, true, true, true]) rfl rfl ?_
                      refine SJ.storeRL (k := 0) (i := (Int.toNat e227)) (off := 0) (us := [.int .i64 (w64 (e231 + 1))]) (b := w64 (e231 + 1)) rfl rfl (idx_get h234) rfl rfl Tryd.sizeOf2 rfl rfl rfl ?_
                      refine SJ.nil ?_
                      refine PJ.draw ?_
                      refine RJ.fin [1] (by kernel_rfl) ⟨by decide, rfl⟩ ?_
                      refine PJ.block_normal (PJ.next ?_)
                      refine WJ.quiet ?_
                      refine QJ.step (YldS.yld (y_move rfl)) rfl ?_
                      refine QJ.step (YldS.yld (y_bin rfl rfl rfl)) rfl ?_
                      refine QJ.step (YldS.yld (y_assign rfl)) rfl ?_
                      refine QJ.done ?_
                      exact PJ.round ((List.set l216 (Int.toNat e227) (w64 (e231 + 1))), w64 (i217 + 1)) [0, 1] hm ⟨rfl, rfl, rfl, rfl, trivial⟩ ⟨by decide, rfl⟩
                  · replace hm := ifF hm hb218
                    refine WJ.exit ?_
                    refine PJ.then_exit (PJ.then_exit (PJ.block_exit ?_))
                    exact PJ.joined l216 [0] hm ⟨rfl, trivial⟩ ⟨by decide, rfl⟩
              · rintro l213 hm
                subst hk215
                obtain ⟨kj235, hk236, hm⟩ := withK_open hm
                refine WJ.join (X := Unit) (fun (_ : Unit) => kj235  = some r) (fun (_ : Unit) => []) (fun (_ : Unit) => []) ?_ ?_
                · clear hk236
                  refine WJ.seq ?_
                  refine WJ.quiet ?_
                  refine QJ.step (YldS.yld (y_assign rfl)) rfl ?_
                  refine QJ.done ?_
                  refine PJ.next ?_
                  refine WJ.block ?_
                  refine WJ.sel (L' := (fun (x : Int) => [row v212 2 fI64 l213]) 0) [0] ⟨by decide, rfl⟩ ?_
                  refine WJ.sub (m' := (fun (x : Int) => [(39, v212), (41, .int .i64 x)]) 0) ⟨rfl, rfl, trivial⟩ ?_
                  refine WJ.loop (X := Int) (fun N (x : Int) => w_FnRankings_l5 kj235 l213 N x = some r) (fun (x : Int) => [(39, v212), (41, .int .i64 x)]) (fun (x : Int) => [row v212 2 fI64 l213]) ?_ N 0 hm
                  · rintro N i237 hI
                    have hm := hI; clear hI
                    cases N with
                    | zero => cases hm
                    | succ N =>
                    unfold w_FnRankings_l5 at hm
                    refine WJ.seq ?_
                    refine WJ.seq ?_
                    refine WJ.quiet ?_
                    refine QJ.step (YldS.yld (y_move rfl)) rfl ?_
                    refine QJ.step (YldS.yld (y_move rfl)) rfl ?_
                    refine QJ.step (YldS.yld (y_lenRow (k := 0) rfl Tryd.runUnderlying27 rfl)) rfl ?_
                    refine QJ.step (YldS.yld (y_bin rfl rfl rfl)) rfl ?_
                    refine QJ.done ?_
                    refine PJ.next ?_
                    refine WJ.cond (t := decide (i237 < (List.length l213 : Int))) rfl (fun hb238 => ?_) (fun hb238 => ?_)
                    · replace hm := ifT hm hb238
                      refine WJ.skip ?_
                      refine PJ.next ?_
                      obtain ⟨kj239, hk240, hm⟩ := withK_open hm
                      refine WJ.join (X := Unit) (fun (_ : Unit) => kj239  = some r) (fun (_ : Unit) => [(39, v212), (41, .int .i64 i237)]) (fun (_ : Unit) => [row v212 2 fI64 l213]) ?_ ?_
                      · clear hk240
                        refine WJ.block ?_
                        refine WJ.seq ?_
                        refine WJ.quiet ?_
                        refine QJ.step (YldS.yld (y_assign rfl)) rfl ?_
                        refine QJ.done ?_
                        refine PJ.next ?_
                        refine WJ.block ?_
                        refine WJ.sel (L' := (fun (x : Int) => [row v212 2 fI64 l213]) 0) [0] ⟨by decide, rfl⟩ ?_
                        refine WJ.sub (m' := (fun (x : Int) => [(39, v212), (41, .int .i64 i237), (42, .int .i64 x)]) 0) ⟨rfl, rfl, rfl, trivial⟩ ?_
                        refine WJ.loop (X := Int) (fun N (x : Int) => w_FnRankings_l6 kj239 l213 i237 N x = some r) (fun (x : Int) => [(39, v212), (41, .int .i64 i237), (42, .int .i64 x)]) (fun (x : Int) => [row v212 2 fI64 l213]) ?_ N 0 hm
                        · rintro N k241 hI
                          have hm := hI; clear hI
                          cases N with
                          | zero => cases hm
                          | succ N =>
                          unfold w_FnRankings_l6 at hm
                          refine WJ.seq ?_
                          refine WJ.seq ?_
                          refine WJ.quiet ?_
                          refine QJ.step (YldS.yld (y_move rfl)) rfl ?_
                          refine QJ.step (YldS.yld (y_move rfl)) rfl ?_
                          refine QJ.step (YldS.yld (y_lenRow (k := 0) rfl Tryd.runUnderlying27 rfl)) rfl ?_
                          refine QJ.step (YldS.yld (y_bin rfl rfl rfl)) rfl ?_
                          refine QJ.done ?_
                          refine PJ.next ?_
                          refine WJ.cond (t := decide (k241 < (List.length l213 : Int))) rfl (fun hb242 => ?_) (fun hb242 => ?_)
                          · replace hm := ifT hm hb242
                            refine WJ.skip ?_
                            refine PJ.next ?_
                            refine WJ.seq ?_
                            refine WJ.block ?_
                            refine WJ.seq ?_
                            refine WJ.quiet_draw follows (by kernel_rfl) ?_
                            refine QJ.step (YldS.yld (y_move rfl)) rfl ?_
                            refine QJ.step (YldS.yld (y_move rfl)) rfl ?_
                            obtain ⟨e243, h244, hm⟩ := bindS hm
                            refine QJ.step (YldS.yld (y_ixRow (k := 0) (R := fI64) rfl Tryd.runUnderlying27 Tryd.sizeOf2 rfl rfl h244)) rfl ?_
                            refine QJ.step (YldS.yld (y_loadR (k := 0) (i := (Int.toNat i237)) (off := 0) (u := .int .i64 e243) rfl Tryd.isAgg2 rfl (idx_get h244) rfl)) rfl ?_
                            refine QJ.step (YldS.yld (y_move rfl)) rfl ?_
                            refine QJ.step (YldS.yld (y_move rfl)) rfl ?_
                            obtain ⟨e245, h246, hm⟩ := bindS hm
                            refine QJ.step (YldS.yld (y_ixRow (k := 0) (R := fI64) rfl Tryd.runUnderlying27 Tryd.sizeOf2 rfl rfl h246)) rfl ?_
                            refine QJ.step (YldS.yld (y_loadR (k := 0) (i := (Int.toNat k241)) (off := 0) (u := .int .i64 e245) rfl Tryd.isAgg2 rfl (idx_get h246) rfl)) rfl ?_
                            refine QJ.step (YldS.yld (y_bin rfl rfl rfl)) rfl ?_
                            refine QJ.step (YldS.yld (y_bin rfl rfl rfl)) rfl ?_
                            refine QJ.done ?_
                            refine PJ.next ?_
                            refine WJ.cond (t := decide (e243 > (w64 (e245 + 1)))) rfl (fun hb247 => ?_) (fun hb247 => ?_)
                            · replace hm := ifT hm hb247
                              refine WJ.seq ?_
                              refine WJ.quiet ?_
                              refine QJ.step (YldS.yld (y_assign rfl)) rfl ?_
                              refine QJ.done ?_
                              refine PJ.next ?_
                              refine WJ.ret ?_
                              refine PJ.block_ret (PJ.then_ret (PJ.then_ret (PJ.block_ret (PJ.block_ret (PJ.then_ret (PJ.then_ret (PJ.block_ret (PJ.then_ret ?_))))))))
                              obtain rfl := Option.some.inj hm
                              refine PJ.sel (L' := []) [] ⟨List.nodup_nil, rfl⟩ ?_
                              exact PJ.retn (vs := [.bool false]) Tryd.results3 ⟨rfl, trivial⟩ ⟨rfl, rfl⟩
                            · replace hm := ifF hm hb247
                              refine WJ.skip ?_
                              refine PJ.block_normal (PJ.next ?_)
                              refine WJ.quiet ?_
                              refine QJ.step (YldS.yld (y_move rfl)) rfl ?_
                              refine QJ.step (YldS.yld (y_bin rfl rfl rfl)) rfl ?_
                              refine QJ.step (YldS.yld (y_assign rfl)) rfl ?_
                              refine QJ.done ?_
                              exact PJ.round (w64 (k241 + 1)) [0] hm ⟨rfl, rfl, rfl, trivial⟩ ⟨by decide, rfl⟩
                          · replace hm := ifF hm hb242
                            refine WJ.exit ?_
                            refine PJ.then_exit (PJ.then_exit (PJ.block_exit (PJ.block_normal ?_)))
                            exact PJ.joined () [0] hm ⟨rfl, rfl, trivial⟩ ⟨by decide, rfl⟩
                      · rintro _ hm
                        subst hk240
                        refine WJ.quiet ?_
                        refine QJ.step (YldS.yld (y_move rfl)) rfl ?_
                        refine QJ.step (YldS.yld (y_bin rfl rfl rfl)) rfl ?_
                        refine QJ.step (YldS.yld (y_assign rfl)) rfl ?_
                        refine QJ.done ?_
                        exact PJ.round (w64 (i237 + 1)) [0] hm ⟨rfl, rfl, trivial⟩ ⟨by decide, rfl⟩
                    · replace hm := ifF hm hb238
                      refine WJ.exit ?_
                      refine PJ.then_exit (PJ.then_exit (PJ.block_exit ?_))
                      exact PJ.joined () [] hm trivial ⟨List.nodup_nil, rfl⟩
                · rintro _ hm
                  subst hk236
                  refine WJ.seq ?_
                  refine WJ.quiet ?_
                  refine QJ.step (YldS.yld (y_assign rfl)) rfl ?_
                  refine QJ.done ?_
                  refine PJ.next ?_
                  refine WJ.ret ?_
                  obtain rfl := Option.some.inj hm
                  refine PJ.sel (L' := []) [] ⟨List.nodup_nil, rfl⟩ ?_
                  exact PJ.retn (vs := [.bool true]) Tryd.results3 ⟨rfl, trivial⟩ ⟨rfl, rfl⟩

end Go.Proofs.YtikkolkickclhaaDoor
