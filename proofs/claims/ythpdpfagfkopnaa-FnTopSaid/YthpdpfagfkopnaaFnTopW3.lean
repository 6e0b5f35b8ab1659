/-
  The walks: a call hands back what its plain function computes, where that has a value. No other conditions.
-/
import Derived.Test.YthpdpfagfkopnaaFnTopW2
import Derived.Test.YthpdpfagfkopnaaChecked
namespace Go.Proofs.Ythpdpfagfkopnaa
open Go.RowKit Go.Proofs
set_option linter.unusedVariables false
set_option linter.unusedSimpArgs false

set_option maxRecDepth 100000 in
set_option maxHeartbeats 1000000 in
theorem ok_w_FnTop {N : Nat} {code1 : List UInt8} {more4 : List UInt8} {r : Bool} (hm : w_FnTop N code1 more4 = some r) (w : World) (v2 : Value) (hr3 : RdS w (cx w).Fz v2 fByte.rp code1) (v5 : Value) (hr6 : RdS w (cx w).Fz v5 fByte.rp more4) :
    Calls Try.prog 5 #[v2, v5] w (Ret (cx w) (.bool r)) := by
  unfold w_FnTop at hm
  refine Calls.enter [v2, v5] Try.func5 rfl Try.ntmps5 rfl ?_
  refine WJ.seq ?_
  refine WJ.quiet ?_
  refine QJ.step (YldS.yld (y_assign rfl)) rfl ?_
  refine QJ.done ?_
  refine PJ.next ?_
  refine WJ.seq ?_
  refine WJ.seq ?_
  refine WJ.quiet ?_
  refine QJ.step (YldS.yld (y_move rfl)) rfl ?_
  refine QJ.step (YldS.yld (y_move rfl)) rfl ?_
  obtain ⟨r7, h8, hm⟩ := bindS hm
  refine QJ.step (y_call Try.call42 rfl (RetG.quiet fun w hw => ok_w_a2Long h8 w _ (hr3.st hw) _ (hr6.st hw))) rfl ?_
  refine QJ.done ?_
  refine PJ.next ?_
  refine WJ.cond (t := r7) rfl (fun hb9 => ?_) (fun hb9 => ?_)
  · replace hm := ifT hm hb9
    refine WJ.seq ?_
    refine WJ.quiet ?_
    refine QJ.step (YldS.yld (y_assign rfl)) rfl ?_
    refine QJ.done ?_
    refine PJ.next ?_
    refine WJ.ret ?_
    refine PJ.then_ret ?_
    obtain rfl := Option.some.inj hm
    refine PJ.sel (L' := []) [] ⟨List.nodup_nil, rfl⟩ ?_
    exact PJ.retn (vs := [.bool true]) Try.results5 ⟨rfl, trivial⟩ ⟨rfl, rfl⟩
  · replace hm := ifF hm hb9
    refine WJ.skip ?_
    refine PJ.next ?_
    refine WJ.seq ?_
    refine WJ.reg ?_
    refine SJ.q (YldS.yld (y_move rfl)) rfl ?_
    obtain ⟨r10, h11, hm⟩ := bindS hm
    refine SJ.q (y_call Try.call43 rfl (RetG.quiet fun w hw => ok_s_A2Basket h11 w _ (hr3.st hw))) rfl ?_
    refine SJ.alloc (cs := [.int .i64 0, .int .i64 0, .int .i64 0, .int .i64 0, .int .i64 0]) Try.zeroValue66 rfl rfl fun g12 => ?_
    refine SJ.storeL (k := 0) (off := 0) (us := [.int .i64 r10.bars, .int .i64 r10.rise, .int .i64 r10.fall, .int .i64 r10.clear, .int .i64 r10.near]) rfl rfl rfl rfl Try.sizeOf66 rfl rfl ?_
    refine SJ.nil ?_
    refine PJ.next ?_
    refine WJ.seq ?_
    refine WJ.reg ?_
    refine SJ.q (YldS.yld (y_move rfl)) rfl ?_
    obtain ⟨r13, h14, hm⟩ := bindS hm
    refine SJ.call Try.call44 rfl (fun w hw => ok_s_A2Pairs h14 w _ (hr6.st hw)) rfl ?_
    rintro v15 _ ⟨_, vs16, rfl, rfl⟩
    refine SJ.q (YldS.yld (y_assign rfl)) rfl ?_
    refine SJ.nil ?_
    refine PJ.next ?_
    refine WJ.seq ?_
    refine WJ.reg ?_
    refine SJ.q (YldS.yld (y_loadBN (k := 2) (off := 0) (us := [.int .i64 r10.bars, .int .i64 r10.rise, .int .i64 r10.fall, .int .i64 r10.clear, .int .i64 r10.near]) rfl Try.isAgg66 Try.sizeOf66 rfl rfl)) rfl ?_
    refine SJ.q (YldS.yld (y_move rfl)) rfl ?_
    obtain ⟨r17, h18, hm⟩ := bindS hm
    refine SJ.call Try.call45 rfl (fun w hw => ok_i_BestArrange h18 w _ (hw.nst_rd (k := 0) (j := 1) rfl rfl)) rfl ?_
    rintro _ _ ⟨v19, rfl, rfl⟩
    refine SJ.q (YldS.yld (y_move rfl)) rfl ?_
    refine SJ.q (YldS.yld (y_extract rfl rfl)) rfl ?_
    refine SJ.q (YldS.yld (y_extract rfl rfl)) rfl ?_
    refine SJ.q (YldS.yld (y_extract rfl rfl)) rfl ?_
    refine SJ.q (YldS.yld (y_assign rfl)) rfl ?_
    refine SJ.q (YldS.yld (y_assign rfl)) rfl ?_
    refine SJ.q (YldS.yld (y_assign rfl)) rfl ?_
    refine SJ.nil ?_
    refine PJ.next ?_
    refine WJ.seq ?_
    refine WJ.quiet ?_
    refine QJ.step (YldS.yld (y_loadBN (k := 3) (off := 0) (us := [.int .i64 r10.bars, .int .i64 r10.rise, .int .i64 r10.fall, .int .i64 r10.clear, .int .i64 r10.near]) rfl Try.isAgg66 Try.sizeOf66 rfl rfl)) rfl ?_
    refine QJ.step (YldS.yld (y_move rfl)) rfl ?_
    refine QJ.step (YldS.yld (y_move rfl)) rfl ?_
    obtain ⟨r20, h21, hm⟩ := bindS hm
    refine QJ.step (y_call Try.call46 rfl (RetG.quiet fun w hw => ok_i_ArrangeCost h21 w _ (hw.nst_rd (k := 1) (j := 2) rfl rfl) _ (hw.row_rd (k := 0) rfl))) rfl ?_
    refine QJ.step (YldS.yld (y_move rfl)) rfl ?_
    refine QJ.step (YldS.yld (y_extract rfl rfl)) rfl ?_
    refine QJ.step (YldS.yld (y_extract rfl rfl)) rfl ?_
    refine QJ.step (YldS.yld (y_assign rfl)) rfl ?_
    refine QJ.step (YldS.yld (y_assign rfl)) rfl ?_
    refine QJ.done ?_
    refine PJ.next ?_
    refine WJ.seq ?_
    obtain ⟨r22, h23, hm⟩ := bindS hm
    obtain ⟨r25, h26, hm⟩ := bindS hm
    refine WJ.draws (N := 12) (listed0 := #[false, false, false, false, false, false, false, false, false, false, false, false]) [row v19 2 fI64 r17.1, row v15 25 fRaw1 vs16, inn (rSl fI64.rp) vs16 r13, box g12 66 [.int .i64 r10.bars, .int .i64 r10.rise, .int .i64 r10.fall, .int .i64 r10.clear, .int .i64 r10.near]] follows rfl rfl ?_
    refine RJ.first 0 (listed' := #[true, false, false, false, false, false, false, false, false, false, false, false]) [0, 1, 2, 3] rfl (by kernel_rfl) rfl ⟨by decide, rfl⟩ (y_loadBN (k := 3) (off := 0) (us := [.int .i64 r10.bars, .int .i64 r10.rise, .int .i64 r10.fall, .int .i64 r10.clear, .int .i64 r10.near]) rfl Try.isAgg66 Try.sizeOf66 rfl rfl) rfl ?_
    refine RJ.first 1 (listed' := #[true, true, false, false, false, false, false, false, false, false, false, false]) [0, 1, 2, 3] rfl (by kernel_rfl) rfl ⟨by decide, rfl⟩ (y_move rfl) rfl ?_
    refine RJ.first 2 (listed' := #[true, true, true, false, false, false, false, false, false, false, false, false]) [0, 1, 2, 3] rfl (by kernel_rfl) rfl ⟨by decide, rfl⟩ (y_move rfl) rfl ?_
    refine RJ.first 3 (listed' := #[true, true, true, true, false, false, false, false, false, false, false, false]) [0, 1, 2, 3] rfl (by kernel_rfl) rfl ⟨by decide, rfl⟩ (y_move rfl) rfl ?_
    refine RJ.first 4 (listed' := #[true, true, true, true, true, false, false, false, false, false, false, false]) [0, 1, 2, 3] rfl (by kernel_rfl) rfl ⟨by decide, rfl⟩ (y_lenG (fun w hw => (hw.nst_rd (k := 1) (j := 2) rfl rfl)) Try.runUnderlying68 rfl) rfl ?_
    refine RJ.step1 5 [0, 1, 2, 3] (by kernel_rfl) ⟨by decide, rfl⟩ ?_
    refine RO.of (listed' := #[true, true, true, true, true, true, false, false, false, false, false, false]) rfl rfl ?_
    refine SJ.call Try.call47 rfl (fun w hw => ok_s_A2Places h23 w _ (hr3.st hw)) rfl ?_
    rintro v24 _ ⟨_, rfl, rfl⟩
    refine SJ.nil ?_
    refine PJ.draw ?_
    refine RJ.step1 6 [1, 2, 3, 4] (by kernel_rfl) ⟨by decide, rfl⟩ ?_
    refine RO.of (listed' := #[true, true, true, true, true, true, true, false, false, false, false, false]) rfl rfl ?_
    refine SJ.q (y_call Try.call46 rfl (RetG.quiet fun w hw => ok_i_ArrangeCost h26 w _ (hw.nst_rd (k := 2) (j := 3) rfl rfl) _ (hw.row_rd (k := 0) rfl))) rfl ?_
    refine SJ.nil ?_
    refine PJ.draw ?_
    refine RJ.first 7 (listed' := #[true, true, true, true, true, true, true, true, false, false, false, false]) [1, 2, 3, 4] rfl (by kernel_rfl) rfl ⟨by decide, rfl⟩ (y_move rfl) rfl ?_
    refine RJ.first 8 (listed' := #[true, true, true, true, true, true, true, true, true, false, false, false]) [1, 2, 3, 4] rfl (by kernel_rfl) rfl ⟨by decide, rfl⟩ (y_extract rfl rfl) rfl ?_
    refine RJ.first 9 (listed' := #[true, true, true, true, true, true, true, true, true, true, false, false]) [1, 2, 3, 4] rfl (by kernel_rfl) rfl ⟨by decide, rfl⟩ (y_extract rfl rfl) rfl ?_
    refine RJ.first 10 (listed' := #[true, true, true, true, true, true, true, true, true, true, true, false]) [1, 2, 3, 4] rfl (by kernel_rfl) rfl ⟨by decide, rfl⟩ (y_assign rfl) rfl ?_
    refine RJ.first 11 (listed' := #[true, true, true, true, true, true, true, true, true, true, true, true]) [1, 2, 3, 4] rfl (by kernel_rfl) rfl ⟨by decide, rfl⟩ (y_assign rfl) rfl ?_
    refine RJ.fin [1, 2, 3, 4] (by kernel_rfl) ⟨by decide, rfl⟩ ?_
    refine PJ.next ?_
    refine WJ.seq ?_
    refine WJ.seq ?_
    refine WJ.quiet ?_
    refine QJ.step (YldS.yld (y_move rfl)) rfl ?_
    refine QJ.step (YldS.yld (y_bin rfl rfl rfl)) rfl ?_
    refine QJ.step (YldS.yld (y_move rfl)) rfl ?_
    obtain ⟨t27, h28, hm⟩ := bindS hm
    refine QJ.cut 3 [(0, v2), (1, v5), (8, .int .i64 r17.2.1), (10, .int .i64 r20.1), (12, .int .i64 r25.1), (13, .int .i64 r25.2), (73, .bool t27)] ?_ ?_
    · rcases Bool.eq_false_or_eq_true (r17.2.2 != 0) with hb29 | hb29
      · obtain rfl := orT h28 hb29
        refine QJ.off rfl rfl (cB hb29) rfl rfl ?_
        refine QJ.off rfl rfl (cB hb29) rfl rfl ?_
        refine QJ.step (YldS.yld (y_pick_t (cB hb29) rfl)) rfl ?_
        exact QJ.cut_end ⟨rfl, rfl, rfl, rfl, rfl, rfl, rfl, trivial⟩
      · replace h28 := orF h28 hb29
        refine QJ.on rfl rfl (cB hb29) (YldS.yld (y_move rfl)) rfl ?_
        refine QJ.on rfl rfl (cB hb29) (YldS.yld (y_bin rfl rfl rfl)) rfl ?_
        refine QJ.step (YldS.yld (y_pick_f (cB hb29) rfl)) rfl ?_
        obtain rfl := Option.some.inj h28
        exact QJ.cut_end ⟨rfl, rfl, rfl, rfl, rfl, rfl, rfl, trivial⟩
    refine QJ.step (YldS.yld (y_move rfl)) rfl ?_
    obtain ⟨t30, h31, hm⟩ := bindS hm
    refine QJ.cut 4 [(0, v2), (1, v5), (8, .int .i64 r17.2.1), (12, .int .i64 r25.1), (13, .int .i64 r25.2), (78, .bool t30)] ?_ ?_
    · rcases Bool.eq_false_or_eq_true t27 with hb32 | hb32
      · obtain rfl := orT h31 hb32
        refine QJ.off rfl rfl (cB hb32) rfl rfl ?_
        refine QJ.off rfl rfl (cB hb32) rfl rfl ?_
        refine QJ.off rfl rfl (cB hb32) rfl rfl ?_
        refine QJ.step (YldS.yld (y_pick_t (cB hb32) rfl)) rfl ?_
        exact QJ.cut_end ⟨rfl, rfl, rfl, rfl, rfl, rfl, trivial⟩
      · replace h31 := orF h31 hb32
        refine QJ.on rfl rfl (cB hb32) (YldS.yld (y_move rfl)) rfl ?_
        refine QJ.on rfl rfl (cB hb32) (YldS.yld (y_move rfl)) rfl ?_
        refine QJ.on rfl rfl (cB hb32) (YldS.yld (y_bin rfl rfl rfl)) rfl ?_
        refine QJ.step (YldS.yld (y_pick_f (cB hb32) rfl)) rfl ?_
        obtain rfl := Option.some.inj h31
        exact QJ.cut_end ⟨rfl, rfl, rfl, rfl, rfl, rfl, trivial⟩
    refine QJ.step (YldS.yld (y_move rfl)) rfl ?_
    obtain ⟨t33, h34, hm⟩ := bindS hm
    refine QJ.cut 3 [(0, v2), (1, v5), (8, .int .i64 r17.2.1), (12, .int .i64 r25.1), (82, .bool t33)] ?_ ?_
    · rcases Bool.eq_false_or_eq_true t30 with hb35 | hb35
      · obtain rfl := orT h34 hb35
        refine QJ.off rfl rfl (cB hb35) rfl rfl ?_
        refine QJ.off rfl rfl (cB hb35) rfl rfl ?_
        refine QJ.step (YldS.yld (y_pick_t (cB hb35) rfl)) rfl ?_
        exact QJ.cut_end ⟨rfl, rfl, rfl, rfl, rfl, trivial⟩
      · replace h34 := orF h34 hb35
        refine QJ.on rfl rfl (cB hb35) (YldS.yld (y_move rfl)) rfl ?_
        refine QJ.on rfl rfl (cB hb35) (YldS.yld (y_bin rfl rfl rfl)) rfl ?_
        refine QJ.step (YldS.yld (y_pick_f (cB hb35) rfl)) rfl ?_
        obtain rfl := Option.some.inj h34
        exact QJ.cut_end ⟨rfl, rfl, rfl, rfl, rfl, trivial⟩
    refine QJ.step (YldS.yld (y_move rfl)) rfl ?_
    obtain ⟨t36, h37, hm⟩ := bindS hm
    refine QJ.cut 4 [(0, v2), (1, v5), (87, .bool t36)] ?_ ?_
    · rcases Bool.eq_false_or_eq_true t33 with hb38 | hb38
      · obtain rfl := orT h37 hb38
        refine QJ.off rfl rfl (cB hb38) rfl rfl ?_
        refine QJ.off rfl rfl (cB hb38) rfl rfl ?_
        refine QJ.off rfl rfl (cB hb38) rfl rfl ?_
        refine QJ.step (YldS.yld (y_pick_t (cB hb38) rfl)) rfl ?_
        exact QJ.cut_end ⟨rfl, rfl, rfl, trivial⟩
      · replace h37 := orF h37 hb38
        refine QJ.on rfl rfl (cB hb38) (YldS.yld (y_move rfl)) rfl ?_
        refine QJ.on rfl rfl (cB hb38) (YldS.yld (y_move rfl)) rfl ?_
        refine QJ.on rfl rfl (cB hb38) (YldS.yld (y_bin rfl rfl rfl)) rfl ?_
        refine QJ.step (YldS.yld (y_pick_f (cB hb38) rfl)) rfl ?_
        obtain rfl := Option.some.inj h37
        exact QJ.cut_end ⟨rfl, rfl, rfl, trivial⟩
    refine QJ.done ?_
    refine PJ.next ?_
    refine WJ.cond (t := t36) rfl (fun hb39 => ?_) (fun hb39 => ?_)
    · replace hm := ifT hm hb39
      refine WJ.seq ?_
      refine WJ.quiet ?_
      refine QJ.step (YldS.yld (y_assign rfl)) rfl ?_
      refine QJ.done ?_
      refine PJ.next ?_
      refine WJ.ret ?_
      refine PJ.then_ret ?_
      obtain rfl := Option.some.inj hm
      refine PJ.sel (L' := []) [] ⟨List.nodup_nil, rfl⟩ ?_
      exact PJ.retn (vs := [.bool false]) Try.results5 ⟨rfl, trivial⟩ ⟨rfl, rfl⟩
    · replace hm := ifF hm hb39
      refine WJ.skip ?_
      refine PJ.next ?_
      refine WJ.seq ?_
      refine WJ.quiet ?_
      refine QJ.step (YldS.yld (y_move rfl)) rfl ?_
      obtain ⟨r40, h41, hm⟩ := bindS hm
      refine QJ.step (y_call Try.call48 rfl (RetG.quiet fun w hw => ok_s_A2Row h41 w _ (hr6.st hw))) rfl ?_
      refine QJ.step (YldS.yld (y_assign rfl)) rfl ?_
      refine QJ.done ?_
      refine PJ.next ?_
      refine WJ.seq ?_
      refine WJ.reg ?_
      refine SJ.q (YldS.yld (y_move rfl)) rfl ?_
      obtain ⟨r42, h43, hm⟩ := bindS hm
      refine SJ.call Try.call49 rfl (fun w hw => ok_s_A2Stops h43 w _ (hr3.st hw)) rfl ?_
      rintro v44 _ ⟨_, rfl, rfl⟩
      refine SJ.q (YldS.yld (y_assign rfl)) rfl ?_
      refine SJ.nil ?_
      refine PJ.next ?_
      obtain ⟨kj47, hk48, hm⟩ := withK_open hm
      refine WJ.join (X := (List Int) × Value) (fun (x : (List Int) × Value) => kj47 x.1 = some r) (fun (x : (List Int) × Value) => [(1, v5), (14, str r40), (15, x.2)]) (fun (x : (List Int) × Value) => [vw x.2 fI64.rp x.1]) ?_ ?_
      · clear hk48
        refine WJ.seq ?_
        refine WJ.quiet ?_
        refine QJ.step (YldS.yld (y_move rfl)) rfl ?_
        refine QJ.step (YldS.yld (y_lenRow (k := 0) rfl Try.runUnderlying25 rfl)) rfl ?_
        refine QJ.step (YldS.yld (y_bin rfl rfl rfl)) rfl ?_
        refine QJ.done ?_
        refine PJ.next ?_
        refine WJ.cond (t := decide ((List.length r42 : Int) > 2)) rfl (fun hb49 => ?_) (fun hb49 => ?_)
        · replace hm := ifT hm hb49
          refine WJ.reg ?_
          refine SJ.q (YldS.yld (y_move rfl)) rfl ?_
          obtain ⟨l50, h51, hm⟩ := bindS hm
          refine SJ.sliceRow (i := none) (j := some 2) (k := 0) h51 rfl Try.runUnderlying25 Try.sizeOf2 rfl trivial ⟨_, rfl⟩ rfl fun v52 => ?_
          refine SJ.q (YldS.yld (y_assign rfl)) rfl ?_
          refine SJ.nil ?_
          exact PJ.joined (l50, v52) [0] hm ⟨rfl, rfl, rfl, trivial⟩ ⟨by decide, rfl⟩
        · replace hm := ifF hm hb49
          refine WJ.skip ?_
          refine PJ.view 0 rfl ?_
          exact PJ.joined (r42, v44) [0] hm ⟨rfl, rfl, rfl, trivial⟩ ⟨by decide, rfl⟩
      · rintro ⟨l45, v46⟩ hm
        subst hk48
        refine WJ.seq ?_
        refine WJ.quiet ?_
        refine QJ.step (YldS.yld (y_move rfl)) rfl ?_
        refine QJ.step (YldS.yld (y_move rfl)) rfl ?_
        obtain ⟨r53, h54, hm⟩ := bindS hm
        refine QJ.step (y_call Try.call50 rfl (RetG.quiet fun w hw => ok_i_RowPlan h54 w _ (hw.vw_rd (k := 0) rfl))) rfl ?_
        refine QJ.step (YldS.yld (y_move rfl)) rfl ?_
        refine QJ.step (YldS.yld (y_extract rfl rfl)) rfl ?_
        refine QJ.step (YldS.yld (y_extract rfl rfl)) rfl ?_
        refine QJ.step (YldS.yld (y_assign rfl)) rfl ?_
        refine QJ.step (YldS.yld (y_assign rfl)) rfl ?_
        refine QJ.done ?_
        refine PJ.next ?_
        refine WJ.seq ?_
        refine WJ.quiet ?_
        refine QJ.step (YldS.yld (y_move rfl)) rfl ?_
        refine QJ.step (YldS.yld (y_move rfl)) rfl ?_
        obtain ⟨r55, h56, hm⟩ := bindS hm
        refine QJ.step (y_call Try.call51 rfl (RetG.quiet fun w hw => ok_i_RunPlan h56 w _ (hw.vw_rd (k := 0) rfl))) rfl ?_
        refine QJ.step (YldS.yld (y_move rfl)) rfl ?_
        refine QJ.step (YldS.yld (y_extract rfl rfl)) rfl ?_
        refine QJ.step (YldS.yld (y_extract rfl rfl)) rfl ?_
        refine QJ.step (YldS.yld (y_assign rfl)) rfl ?_
        refine QJ.step (YldS.yld (y_assign rfl)) rfl ?_
        refine QJ.done ?_
        refine PJ.next ?_
        refine WJ.seq ?_
        refine WJ.quiet ?_
        refine QJ.step (YldS.yld (y_move rfl)) rfl ?_
        obtain ⟨r57, h58, hm⟩ := bindS hm
        refine QJ.step (y_call Try.call52 rfl (RetG.quiet fun w hw => ok_i_PlanMoves h58 w )) rfl ?_
        refine QJ.step (YldS.yld (y_move rfl)) rfl ?_
        refine QJ.step (YldS.yld (y_extract rfl rfl)) rfl ?_
        refine QJ.step (YldS.yld (y_extract rfl rfl)) rfl ?_
        refine QJ.step (YldS.yld (y_assign rfl)) rfl ?_
        refine QJ.step (YldS.yld (y_assign rfl)) rfl ?_
        refine QJ.done ?_
        refine PJ.next ?_
        refine WJ.seq ?_
        refine WJ.reg ?_
        refine SJ.q (YldS.yld (y_move rfl)) rfl ?_
        refine SJ.q (YldS.yld (y_move rfl)) rfl ?_
        refine SJ.buildSlice (R := fStr) (os := [.tmp 116]) [r40] Try.runUnderlying78 Try.sizeOf9 Try.zeroValue9 rfl rfl rfl rfl rfl rfl fun v59 => ?_
        obtain ⟨r60, h61, hm⟩ := bindS hm
        refine SJ.q (y_call Try.call53 rfl (RetG.quiet fun w hw => ok_i_PageMoves h61 w _ (hw.vw_rd (k := 1) rfl) _ (hw.row_rd (k := 0) rfl))) rfl ?_
        refine SJ.q (YldS.yld (y_move rfl)) rfl ?_
        refine SJ.q (YldS.yld (y_extract rfl rfl)) rfl ?_
        refine SJ.q (YldS.yld (y_extract rfl rfl)) rfl ?_
        refine SJ.q (YldS.yld (y_assign rfl)) rfl ?_
        refine SJ.q (YldS.yld (y_assign rfl)) rfl ?_
        refine SJ.nil ?_
        refine PJ.next ?_
        refine WJ.seq ?_
        refine WJ.reg ?_
        refine SJ.q (YldS.yld (y_move rfl)) rfl ?_
        refine SJ.buildSlice (R := fStr) (os := [.tmp 122]) [r40] Try.runUnderlying78 Try.sizeOf9 Try.zeroValue9 rfl rfl rfl rfl rfl rfl fun v62 => ?_
        refine SJ.q (YldS.yld (y_move rfl)) rfl ?_
        refine SJ.q (YldS.yld (y_lenRowV (k := 2) rfl Try.runUnderlying25 rfl)) rfl ?_
        obtain ⟨r63, h64, hm⟩ := bindS hm
        refine SJ.call Try.call54 rfl (fun w hw => ok_i_BestStops h64 w _ (hw.row_rd (k := 0) rfl)) rfl ?_
        rintro _ _ ⟨v65, rfl, rfl⟩
        refine SJ.q (YldS.yld (y_move rfl)) rfl ?_
        refine SJ.q (YldS.yld (y_extract rfl rfl)) rfl ?_
        refine SJ.q (YldS.yld (y_extract rfl rfl)) rfl ?_
        refine SJ.q (YldS.yld (y_extract rfl rfl)) rfl ?_
        refine SJ.q (YldS.yld (y_assign rfl)) rfl ?_
        refine SJ.q (YldS.yld (y_assign rfl)) rfl ?_
        refine SJ.q (YldS.yld (y_assign rfl)) rfl ?_
        refine SJ.nil ?_
        refine PJ.next ?_
        refine WJ.seq ?_
        refine WJ.seq ?_
        refine WJ.quiet ?_
        refine QJ.step (YldS.yld (y_move rfl)) rfl ?_
        refine QJ.step (YldS.yld (y_bin rfl rfl rfl)) rfl ?_
        refine QJ.step (YldS.yld (y_move rfl)) rfl ?_
        obtain ⟨t66, h67, hm⟩ := bindS hm
        refine QJ.cut 3 [(1, v5), (14, str r40), (18, str r55.1), (20, .int .i64 r57.1), (21, .int .i64 r57.2), (22, .int .i64 r60.1), (23, .int .i64 r60.2), (25, .int .i64 r63.2.1), (26, .int .i64 r63.2.2), (135, .bool t66)] ?_ ?_
        · rcases Bool.eq_false_or_eq_true (r53.2 != 0) with hb68 | hb68
          · obtain rfl := orT h67 hb68
            refine QJ.off rfl rfl (cB hb68) rfl rfl ?_
            refine QJ.off rfl rfl (cB hb68) rfl rfl ?_
            refine QJ.step (YldS.yld (y_pick_t (cB hb68) rfl)) rfl ?_
            exact QJ.cut_end ⟨rfl, rfl, rfl, rfl, rfl, rfl, rfl, rfl, rfl, rfl, trivial⟩
          · replace h67 := orF h67 hb68
            refine QJ.on rfl rfl (cB hb68) (YldS.yld (y_move rfl)) rfl ?_
            refine QJ.on rfl rfl (cB hb68) (YldS.yld (y_bin rfl rfl rfl)) rfl ?_
            refine QJ.step (YldS.yld (y_pick_f (cB hb68) rfl)) rfl ?_
            obtain rfl := Option.some.inj h67
            exact QJ.cut_end ⟨rfl, rfl, rfl, rfl, rfl, rfl, rfl, rfl, rfl, rfl, trivial⟩
        refine QJ.step (YldS.yld (y_move rfl)) rfl ?_
        obtain ⟨t69, h70, hm⟩ := bindS hm
        refine QJ.cut 4 [(1, v5), (20, .int .i64 r57.1), (21, .int .i64 r57.2), (22, .int .i64 r60.1), (23, .int .i64 r60.2), (25, .int .i64 r63.2.1), (26, .int .i64 r63.2.2), (140, .bool t69)] ?_ ?_
        · rcases Bool.eq_false_or_eq_true t66 with hb71 | hb71
          · obtain rfl := orT h70 hb71
            refine QJ.off rfl rfl (cB hb71) rfl rfl ?_
            refine QJ.off rfl rfl (cB hb71) rfl rfl ?_
            refine QJ.off rfl rfl (cB hb71) rfl rfl ?_
            refine QJ.step (YldS.yld (y_pick_t (cB hb71) rfl)) rfl ?_
            exact QJ.cut_end ⟨rfl, rfl, rfl, rfl, rfl, rfl, rfl, rfl, trivial⟩
          · replace h70 := orF h70 hb71
            refine QJ.on rfl rfl (cB hb71) (YldS.yld (y_move rfl)) rfl ?_
            refine QJ.on rfl rfl (cB hb71) (YldS.yld (y_move rfl)) rfl ?_
            refine QJ.on rfl rfl (cB hb71) (YldS.yld (y_binS rfl rfl rfl)) rfl ?_
            refine QJ.step (YldS.yld (y_pick_f (cB hb71) rfl)) rfl ?_
            obtain rfl := Option.some.inj h70
            exact QJ.cut_end ⟨rfl, rfl, rfl, rfl, rfl, rfl, rfl, rfl, trivial⟩
        refine QJ.step (YldS.yld (y_move rfl)) rfl ?_
        obtain ⟨t72, h73, hm⟩ := bindS hm
        refine QJ.cut 3 [(1, v5), (20, .int .i64 r57.1), (22, .int .i64 r60.1), (23, .int .i64 r60.2), (25, .int .i64 r63.2.1), (26, .int .i64 r63.2.2), (144, .bool t72)] ?_ ?_
        · rcases Bool.eq_false_or_eq_true t69 with hb74 | hb74
          · obtain rfl := orT h73 hb74
            refine QJ.off rfl rfl (cB hb74) rfl rfl ?_
            refine QJ.off rfl rfl (cB hb74) rfl rfl ?_
            refine QJ.step (YldS.yld (y_pick_t (cB hb74) rfl)) rfl ?_
            exact QJ.cut_end ⟨rfl, rfl, rfl, rfl, rfl, rfl, rfl, trivial⟩
          · replace h73 := orF h73 hb74
            refine QJ.on rfl rfl (cB hb74) (YldS.yld (y_move rfl)) rfl ?_
            refine QJ.on rfl rfl (cB hb74) (YldS.yld (y_bin rfl rfl rfl)) rfl ?_
            refine QJ.step (YldS.yld (y_pick_f (cB hb74) rfl)) rfl ?_
            obtain rfl := Option.some.inj h73
            exact QJ.cut_end ⟨rfl, rfl, rfl, rfl, rfl, rfl, rfl, trivial⟩
        refine QJ.step (YldS.yld (y_move rfl)) rfl ?_
        obtain ⟨t75, h76, hm⟩ := bindS hm
        refine QJ.cut 3 [(1, v5), (20, .int .i64 r57.1), (22, .int .i64 r60.1), (25, .int .i64 r63.2.1), (26, .int .i64 r63.2.2), (148, .bool t75)] ?_ ?_
        · rcases Bool.eq_false_or_eq_true t72 with hb77 | hb77
          · obtain rfl := orT h76 hb77
            refine QJ.off rfl rfl (cB hb77) rfl rfl ?_
            refine QJ.off rfl rfl (cB hb77) rfl rfl ?_
            refine QJ.step (YldS.yld (y_pick_t (cB hb77) rfl)) rfl ?_
            exact QJ.cut_end ⟨rfl, rfl, rfl, rfl, rfl, rfl, trivial⟩
          · replace h76 := orF h76 hb77
            refine QJ.on rfl rfl (cB hb77) (YldS.yld (y_move rfl)) rfl ?_
            refine QJ.on rfl rfl (cB hb77) (YldS.yld (y_bin rfl rfl rfl)) rfl ?_
            refine QJ.step (YldS.yld (y_pick_f (cB hb77) rfl)) rfl ?_
            obtain rfl := Option.some.inj h76
            exact QJ.cut_end ⟨rfl, rfl, rfl, rfl, rfl, rfl, trivial⟩
        refine QJ.step (YldS.yld (y_move rfl)) rfl ?_
        obtain ⟨t78, h79, hm⟩ := bindS hm
        refine QJ.cut 4 [(1, v5), (20, .int .i64 r57.1), (25, .int .i64 r63.2.1), (26, .int .i64 r63.2.2), (153, .bool t78)] ?_ ?_
        · rcases Bool.eq_false_or_eq_true t75 with hb80 | hb80
          · obtain rfl := orT h79 hb80
            refine QJ.off rfl rfl (cB hb80) rfl rfl ?_
            refine QJ.off rfl rfl (cB hb80) rfl rfl ?_
            refine QJ.off rfl rfl (cB hb80) rfl rfl ?_
            refine QJ.step (YldS.yld (y_pick_t (cB hb80) rfl)) rfl ?_
            exact QJ.cut_end ⟨rfl, rfl, rfl, rfl, rfl, trivial⟩
          · replace h79 := orF h79 hb80
            refine QJ.on rfl rfl (cB hb80) (YldS.yld (y_move rfl)) rfl ?_
            refine QJ.on rfl rfl (cB hb80) (YldS.yld (y_move rfl)) rfl ?_
            refine QJ.on rfl rfl (cB hb80) (YldS.yld (y_bin rfl rfl rfl)) rfl ?_
            refine QJ.step (YldS.yld (y_pick_f (cB hb80) rfl)) rfl ?_
            obtain rfl := Option.some.inj h79
            exact QJ.cut_end ⟨rfl, rfl, rfl, rfl, rfl, trivial⟩
        refine QJ.step (YldS.yld (y_move rfl)) rfl ?_
        obtain ⟨t81, h82, hm⟩ := bindS hm
        refine QJ.cut 3 [(1, v5), (20, .int .i64 r57.1), (25, .int .i64 r63.2.1), (157, .bool t81)] ?_ ?_
        · rcases Bool.eq_false_or_eq_true t78 with hb83 | hb83
          · obtain rfl := orT h82 hb83
            refine QJ.off rfl rfl (cB hb83) rfl rfl ?_
            refine QJ.off rfl rfl (cB hb83) rfl rfl ?_
            refine QJ.step (YldS.yld (y_pick_t (cB hb83) rfl)) rfl ?_
            exact QJ.cut_end ⟨rfl, rfl, rfl, rfl, trivial⟩
          · replace h82 := orF h82 hb83
            refine QJ.on rfl rfl (cB hb83) (YldS.yld (y_move rfl)) rfl ?_
            refine QJ.on rfl rfl (cB hb83) (YldS.yld (y_bin rfl rfl rfl)) rfl ?_
            refine QJ.step (YldS.yld (y_pick_f (cB hb83) rfl)) rfl ?_
            obtain rfl := Option.some.inj h82
            exact QJ.cut_end ⟨rfl, rfl, rfl, rfl, trivial⟩
        refine QJ.step (YldS.yld (y_move rfl)) rfl ?_
        obtain ⟨t84, h85, hm⟩ := bindS hm
        refine QJ.cut 4 [(1, v5), (162, .bool t84)] ?_ ?_
        · rcases Bool.eq_false_or_eq_true t81 with hb86 | hb86
          · obtain rfl := orT h85 hb86
            refine QJ.off rfl rfl (cB hb86) rfl rfl ?_
            refine QJ.off rfl rfl (cB hb86) rfl rfl ?_
            refine QJ.off rfl rfl (cB hb86) rfl rfl ?_
            refine QJ.step (YldS.yld (y_pick_t (cB hb86) rfl)) rfl ?_
            exact QJ.cut_end ⟨rfl, rfl, trivial⟩
          · replace h85 := orF h85 hb86
            refine QJ.on rfl rfl (cB hb86) (YldS.yld (y_move rfl)) rfl ?_
            refine QJ.on rfl rfl (cB hb86) (YldS.yld (y_move rfl)) rfl ?_
            refine QJ.on rfl rfl (cB hb86) (YldS.yld (y_bin rfl rfl rfl)) rfl ?_
            refine QJ.step (YldS.yld (y_pick_f (cB hb86) rfl)) rfl ?_
            obtain rfl := Option.some.inj h85
            exact QJ.cut_end ⟨rfl, rfl, trivial⟩
        refine QJ.done ?_
        refine PJ.next ?_
        refine WJ.cond (t := t84) rfl (fun hb87 => ?_) (fun hb87 => ?_)
        · replace hm := ifT hm hb87
          refine WJ.seq ?_
          refine WJ.quiet ?_
          refine QJ.step (YldS.yld (y_assign rfl)) rfl ?_
          refine QJ.done ?_
          refine PJ.next ?_
          refine WJ.ret ?_
          refine PJ.then_ret ?_
          obtain rfl := Option.some.inj hm
          refine PJ.sel (L' := []) [] ⟨List.nodup_nil, rfl⟩ ?_
          exact PJ.retn (vs := [.bool false]) Try.results5 ⟨rfl, trivial⟩ ⟨rfl, rfl⟩
        · replace hm := ifF hm hb87
          refine WJ.skip ?_
          refine PJ.next ?_
          refine WJ.seq ?_
          refine WJ.quiet ?_
          refine QJ.step (YldS.yld (y_move rfl)) rfl ?_
          obtain ⟨r88, h89, hm⟩ := bindS hm
          refine QJ.step (y_call Try.call55 rfl (RetG.quiet fun w hw => ok_s_A2Typed h89 w _ (hr6.st hw))) rfl ?_
          refine QJ.step (YldS.yld (y_move rfl)) rfl ?_
          refine QJ.step (YldS.yld (y_extract rfl rfl)) rfl ?_
          refine QJ.step (YldS.yld (y_extract rfl rfl)) rfl ?_
          refine QJ.step (YldS.yld (y_assign rfl)) rfl ?_
          refine QJ.step (YldS.yld (y_assign rfl)) rfl ?_
          refine QJ.done ?_
          refine PJ.next ?_
          refine WJ.seq ?_
          refine WJ.quiet ?_
          refine QJ.step (YldS.yld (y_move rfl)) rfl ?_
          refine QJ.step (YldS.yld (y_move rfl)) rfl ?_
          obtain ⟨r90, h91, hm⟩ := bindS hm
          refine QJ.step (y_call Try.call56 rfl (RetG.quiet fun w hw => ok_i_AlignTexts h91 w )) rfl ?_
          refine QJ.step (YldS.yld (y_move rfl)) rfl ?_
          refine QJ.step (YldS.yld (y_extract rfl rfl)) rfl ?_
          refine QJ.step (YldS.yld (y_extract rfl rfl)) rfl ?_
          refine QJ.step (YldS.yld (y_assign rfl)) rfl ?_
          refine QJ.step (YldS.yld (y_assign rfl)) rfl ?_
          refine QJ.done ?_
          refine PJ.next ?_
          refine WJ.seq ?_
          refine WJ.quiet ?_
          refine QJ.step (YldS.yld (y_move rfl)) rfl ?_
          refine QJ.step (YldS.yld (y_move rfl)) rfl ?_
          refine QJ.step (YldS.yld (y_move rfl)) rfl ?_
          obtain ⟨r92, h93, hm⟩ := bindS hm
          refine QJ.step (y_call Try.call57 rfl (RetG.quiet fun w hw => ok_i_IsAlignment h93 w )) rfl ?_
          refine QJ.step (YldS.yld (y_move rfl)) rfl ?_
          refine QJ.step (YldS.yld (y_extract rfl rfl)) rfl ?_
          refine QJ.step (YldS.yld (y_extract rfl rfl)) rfl ?_
          refine QJ.step (YldS.yld (y_assign rfl)) rfl ?_
          refine QJ.step (YldS.yld (y_assign rfl)) rfl ?_
          refine QJ.done ?_
          refine PJ.next ?_
          refine WJ.seq ?_
          refine WJ.quiet ?_
          refine QJ.step (YldS.yld (y_move rfl)) rfl ?_
          refine QJ.step (YldS.yld (y_move rfl)) rfl ?_
          obtain ⟨r94, h95, hm⟩ := bindS hm
          refine QJ.step (y_call Try.call58 rfl (RetG.quiet fun w hw => ok_i_LeastErrors h95 w )) rfl ?_
          refine QJ.step (YldS.yld (y_move rfl)) rfl ?_
          refine QJ.step (YldS.yld (y_extract rfl rfl)) rfl ?_
          refine QJ.step (YldS.yld (y_extract rfl rfl)) rfl ?_
          refine QJ.step (YldS.yld (y_assign rfl)) rfl ?_
          refine QJ.step (YldS.yld (y_assign rfl)) rfl ?_
          refine QJ.done ?_
          refine PJ.next ?_
          refine WJ.seq ?_
          refine WJ.reg ?_
          refine SJ.q (YldS.yld (y_move rfl)) rfl ?_
          obtain ⟨r96, h97, hm⟩ := bindS hm
          refine SJ.call Try.call59 rfl (fun w hw => ok_i_ErrorsIn h97 w ) rfl ?_
          rintro _ _ ⟨v98, rfl, rfl⟩
          refine SJ.q (YldS.yld (y_move rfl)) rfl ?_
          refine SJ.q (YldS.yld (y_extract rfl rfl)) rfl ?_
          refine SJ.q (YldS.yld (y_extract rfl rfl)) rfl ?_
          refine SJ.q (YldS.yld (y_assign rfl)) rfl ?_
          refine SJ.q (YldS.yld (y_assign rfl)) rfl ?_
          refine SJ.nil ?_
          refine PJ.next ?_
          refine WJ.seq ?_
          refine WJ.quiet ?_
          refine QJ.step (YldS.yld (y_move rfl)) rfl ?_
          refine QJ.step (YldS.yld (y_bin rfl rfl rfl)) rfl ?_
          refine QJ.step (YldS.yld (y_move rfl)) rfl ?_
          obtain ⟨t99, h100, hm⟩ := bindS hm
          refine QJ.cut 3 [(27, str r88.1), (28, str r88.2), (31, .bool r92.1), (33, .int .i64 r94.1), (34, .int .i64 r94.2), (35, v98), (36, .int .i64 r96.2), (197, .bool t99)] ?_ ?_
          · rcases Bool.eq_false_or_eq_true (r90.2 == 0) with hb101 | hb101
            · replace h100 := andT h100 hb101
              refine QJ.on rfl rfl (cB hb101) (YldS.yld (y_move rfl)) rfl ?_
              refine QJ.on rfl rfl (cB hb101) (YldS.yld (y_bin rfl rfl rfl)) rfl ?_
              refine QJ.step (YldS.yld (y_pick_t (cB hb101) rfl)) rfl ?_
              obtain rfl := Option.some.inj h100
              exact QJ.cut_end ⟨rfl, rfl, rfl, rfl, rfl, rfl, rfl, rfl, trivial⟩
            · obtain rfl := andF h100 hb101
              refine QJ.off rfl rfl (cB hb101) rfl rfl ?_
              refine QJ.off rfl rfl (cB hb101) rfl rfl ?_
              refine QJ.step (YldS.yld (y_pick_f (cB hb101) rfl)) rfl ?_
              exact QJ.cut_end ⟨rfl, rfl, rfl, rfl, rfl, rfl, rfl, rfl, trivial⟩
          refine QJ.step (YldS.yld (y_move rfl)) rfl ?_
          obtain ⟨t102, h103, hm⟩ := bindS hm
          refine QJ.cut 2 [(27, str r88.1), (28, str r88.2), (33, .int .i64 r94.1), (34, .int .i64 r94.2), (35, v98), (36, .int .i64 r96.2), (200, .bool t102)] ?_ ?_
          · rcases Bool.eq_false_or_eq_true t99 with hb104 | hb104
            · replace h103 := andT h103 hb104
              refine QJ.on rfl rfl (cB hb104) (YldS.yld (y_move rfl)) rfl ?_
              refine QJ.step (YldS.yld (y_pick_t (cB hb104) rfl)) rfl ?_
              obtain rfl := Option.some.inj h103
              exact QJ.cut_end ⟨rfl, rfl, rfl, rfl, rfl, rfl, rfl, trivial⟩
            · obtain rfl := andF h103 hb104
              refine QJ.off rfl rfl (cB hb104) rfl rfl ?_
              refine QJ.step (YldS.yld (y_pick_f (cB hb104) rfl)) rfl ?_
              exact QJ.cut_end ⟨rfl, rfl, rfl, rfl, rfl, rfl, rfl, trivial⟩
          refine QJ.step (YldS.yld (y_move rfl)) rfl ?_
          obtain ⟨t105, h106, hm⟩ := bindS hm
          refine QJ.cut 3 [(27, str r88.1), (28, str r88.2), (33, .int .i64 r94.1), (35, v98), (36, .int .i64 r96.2), (204, .bool t105)] ?_ ?_
          · rcases Bool.eq_false_or_eq_true t102 with hb107 | hb107
            · replace h106 := andT h106 hb107
              refine QJ.on rfl rfl (cB hb107) (YldS.yld (y_move rfl)) rfl ?_
              refine QJ.on rfl rfl (cB hb107) (YldS.yld (y_bin rfl rfl rfl)) rfl ?_
              refine QJ.step (YldS.yld (y_pick_t (cB hb107) rfl)) rfl ?_
              obtain rfl := Option.some.inj h106
              exact QJ.cut_end ⟨rfl, rfl, rfl, rfl, rfl, rfl, trivial⟩
            · obtain rfl := andF h106 hb107
              refine QJ.off rfl rfl (cB hb107) rfl rfl ?_
              refine QJ.off rfl rfl (cB hb107) rfl rfl ?_
              refine QJ.step (YldS.yld (y_pick_f (cB hb107) rfl)) rfl ?_
              exact QJ.cut_end ⟨rfl, rfl, rfl, rfl, rfl, rfl, trivial⟩
          refine QJ.step (YldS.yld (y_move rfl)) rfl ?_
          obtain ⟨t108, h109, hm⟩ := bindS hm
          refine QJ.cut 3 [(27, str r88.1), (28, str r88.2), (33, .int .i64 r94.1), (35, v98), (208, .bool t108)] ?_ ?_
          · rcases Bool.eq_false_or_eq_true t105 with hb110 | hb110
            · replace h109 := andT h109 hb110
              refine QJ.on rfl rfl (cB hb110) (YldS.yld (y_move rfl)) rfl ?_
              refine QJ.on rfl rfl (cB hb110) (YldS.yld (y_bin rfl rfl rfl)) rfl ?_
              refine QJ.step (YldS.yld (y_pick_t (cB hb110) rfl)) rfl ?_
              obtain rfl := Option.some.inj h109
              exact QJ.cut_end ⟨rfl, rfl, rfl, rfl, rfl, trivial⟩
            · obtain rfl := andF h109 hb110
              refine QJ.off rfl rfl (cB hb110) rfl rfl ?_
              refine QJ.off rfl rfl (cB hb110) rfl rfl ?_
              refine QJ.step (YldS.yld (y_pick_f (cB hb110) rfl)) rfl ?_
              exact QJ.cut_end ⟨rfl, rfl, rfl, rfl, rfl, trivial⟩
          refine QJ.step (YldS.yld (y_move rfl)) rfl ?_
          obtain ⟨t111, h112, hm⟩ := bindS hm
          refine QJ.cut 4 [(27, str r88.1), (28, str r88.2), (33, .int .i64 r94.1), (35, v98), (213, .bool t111)] ?_ ?_
          · rcases Bool.eq_false_or_eq_true t108 with hb113 | hb113
            · replace h112 := andT h112 hb113
              refine QJ.on rfl rfl (cB hb113) (YldS.yld (y_move rfl)) rfl ?_
              refine QJ.on rfl rfl (cB hb113) (YldS.yld (y_lenRow (k := 0) rfl Try.runUnderlying25 rfl)) rfl ?_
              refine QJ.on rfl rfl (cB hb113) (YldS.yld (y_bin rfl rfl rfl)) rfl ?_
              refine QJ.step (YldS.yld (y_pick_t (cB hb113) rfl)) rfl ?_
              obtain rfl := Option.some.inj h112
              exact QJ.cut_end ⟨rfl, rfl, rfl, rfl, rfl, trivial⟩
            · obtain rfl := andF h112 hb113
              refine QJ.off rfl rfl (cB hb113) rfl rfl ?_
              refine QJ.off rfl rfl (cB hb113) rfl rfl ?_
              refine QJ.off rfl rfl (cB hb113) rfl rfl ?_
              refine QJ.step (YldS.yld (y_pick_f (cB hb113) rfl)) rfl ?_
              exact QJ.cut_end ⟨rfl, rfl, rfl, rfl, rfl, trivial⟩
          refine QJ.step (YldS.yld (y_move rfl)) rfl ?_
          obtain ⟨t114, h115, hm⟩ := bindS hm
          refine QJ.cut 5 [(27, str r88.1), (28, str r88.2), (33, .int .i64 r94.1), (219, .bool t114)] ?_ ?_
          · rcases Bool.eq_false_or_eq_true t111 with hb116 | hb116
            · replace h115 := andT h115 hb116
              refine QJ.on rfl rfl (cB hb116) (YldS.yld (y_move rfl)) rfl ?_
              obtain ⟨r117, h118, h115⟩ := bindS h115
              refine QJ.on rfl rfl (cB hb116) (y_call Try.call60 rfl (RetG.quiet fun w hw => ok_w_a2Sum h118 w _ (hw.row_rd (k := 0) rfl))) rfl ?_
              refine QJ.on rfl rfl (cB hb116) (YldS.yld (y_move rfl)) rfl ?_
              refine QJ.on rfl rfl (cB hb116) (YldS.yld (y_bin rfl rfl rfl)) rfl ?_
              refine QJ.step (YldS.yld (y_pick_t (cB hb116) rfl)) rfl ?_
              obtain rfl := Option.some.inj h115
              exact QJ.cut_end ⟨rfl, rfl, rfl, rfl, trivial⟩
            · obtain rfl := andF h115 hb116
              refine QJ.off rfl rfl (cB hb116) rfl rfl ?_
              refine QJ.off rfl rfl (cB hb116) rfl rfl ?_
              refine QJ.off rfl rfl (cB hb116) rfl rfl ?_
              refine QJ.off rfl rfl (cB hb116) rfl rfl ?_
              refine QJ.step (YldS.yld (y_pick_f (cB hb116) rfl)) rfl ?_
              exact QJ.cut_end ⟨rfl, rfl, rfl, rfl, trivial⟩
          refine QJ.step (YldS.yld (y_move rfl)) rfl ?_
          obtain ⟨t119, h120, hm⟩ := bindS hm
          refine QJ.cut 6 [(226, .bool t119)] ?_ ?_
          · rcases Bool.eq_false_or_eq_true t114 with hb121 | hb121
            · replace h120 := andT h120 hb121
              refine QJ.on rfl rfl (cB hb121) (YldS.yld (y_move rfl)) rfl ?_
              refine QJ.on rfl rfl (cB hb121) (YldS.yld (y_move rfl)) rfl ?_
              refine QJ.on rfl rfl (cB hb121) (YldS.yld (y_move rfl)) rfl ?_
              obtain ⟨r122, h123, h120⟩ := bindS h120
              refine QJ.on rfl rfl (cB hb121) (y_call Try.call61 rfl (RetG.quiet fun w hw => ok_w_a2Straight h123 w )) rfl ?_
              refine QJ.on rfl rfl (cB hb121) (YldS.yld (y_bin rfl rfl rfl)) rfl ?_
              refine QJ.step (YldS.yld (y_pick_t (cB hb121) rfl)) rfl ?_
              obtain rfl := Option.some.inj h120
              exact QJ.cut_end ⟨rfl, trivial⟩
            · obtain rfl := andF h120 hb121
              refine QJ.off rfl rfl (cB hb121) rfl rfl ?_
              refine QJ.off rfl rfl (cB hb121) rfl rfl ?_
              refine QJ.off rfl rfl (cB hb121) rfl rfl ?_
              refine QJ.off rfl rfl (cB hb121) rfl rfl ?_
              refine QJ.off rfl rfl (cB hb121) rfl rfl ?_
              refine QJ.step (YldS.yld (y_pick_f (cB hb121) rfl)) rfl ?_
              exact QJ.cut_end ⟨rfl, trivial⟩
          refine QJ.step (YldS.yld (y_assign rfl)) rfl ?_
          refine QJ.done ?_
          refine PJ.next ?_
          refine WJ.ret ?_
          obtain rfl := Option.some.inj hm
          refine PJ.sel (L' := []) [] ⟨List.nodup_nil, rfl⟩ ?_
          exact PJ.retn (vs := [.bool t119]) Try.results5 ⟨rfl, trivial⟩ ⟨rfl, rfl⟩

end Go.Proofs.Ythpdpfagfkopnaa
