/-
  The walks: a call hands back what its plain function computes, where that has a value. No other conditions.
-/
import Derived.Test.YtffaepmojpanoaaFnStoresW
import Derived.Test.YtffaepmojpanoaaChecked
namespace Go.Proofs.Ytffaepmojpanoaa
open Go.RowKit Go.Proofs
set_option linter.unusedVariables false
set_option linter.unusedSimpArgs false

set_option maxRecDepth 100000 in
set_option maxHeartbeats 1000000 in
theorem ok_w_FnStores {N : Nat} {code1 : List UInt8} {r : Bool} (hm : w_FnStores N code1 = some r) (w : World) (v2 : Value) (hr3 : RdS w (cx w).Fz v2 fByte.rp code1) :
    Calls Try.prog 12 #[v2] w (Ret (cx w) (.bool r)) := by
  unfold w_FnStores at hm
  refine Calls.enter [v2] Try.func12 rfl Try.ntmps12 rfl ?_
  refine WJ.seq ?_
  refine WJ.quiet ?_
  refine QJ.step (YldS.yld (y_assign rfl)) rfl ?_
  refine QJ.done ?_
  refine PJ.next ?_
  refine WJ.seq ?_
  refine WJ.seq ?_
  refine WJ.quiet ?_
  refine QJ.step (YldS.yld (y_move rfl)) rfl ?_
  obtain ⟨r4, h5, hm⟩ := bindS hm
  refine QJ.step (y_call Try.call40 rfl (RetG.quiet fun w hw => ok_w_f6big h5 w _ (hr3.st hw))) rfl ?_
  refine QJ.done ?_
  refine PJ.next ?_
  refine WJ.cond (t := r4) rfl (fun hb6 => ?_) (fun hb6 => ?_)
  · replace hm := ifT hm hb6
    refine WJ.seq ?_
    refine WJ.quiet ?_
    refine QJ.step (YldS.yld (y_assign rfl)) rfl ?_
    refine QJ.done ?_
    refine PJ.next ?_
    refine WJ.ret ?_
    refine PJ.then_ret ?_
    obtain rfl := Option.some.inj hm
    refine PJ.sel (L' := []) [] ⟨List.nodup_nil, rfl⟩ ?_
    exact PJ.retn (vs := [.bool true]) Try.results12 ⟨rfl, trivial⟩ ⟨rfl, rfl⟩
  · replace hm := ifF hm hb6
    refine WJ.skip ?_
    refine PJ.next ?_
    refine WJ.seq ?_
    refine WJ.reg ?_
    refine SJ.q (YldS.yld (y_move rfl)) rfl ?_
    obtain ⟨r7, h8, hm⟩ := bindS hm
    refine SJ.call Try.call41 rfl (fun w hw => ok_s_DrawMachinesFrom h8 w _ (hr3.st hw)) rfl ?_
    rintro _ _ ⟨v9, v10, rfl, rfl⟩
    refine SJ.q (YldS.yld (y_move rfl)) rfl ?_
    refine SJ.q (YldS.yld (y_extract rfl rfl)) rfl ?_
    refine SJ.q (YldS.yld (y_extract rfl rfl)) rfl ?_
    refine SJ.q (YldS.yld (y_assign rfl)) rfl ?_
    refine SJ.q (YldS.yld (y_assign rfl)) rfl ?_
    refine SJ.nil ?_
    refine PJ.next ?_
    refine WJ.seq ?_
    refine WJ.quiet ?_
    refine QJ.step (YldS.yld (y_move rfl)) rfl ?_
    refine QJ.step (YldS.yld (y_move rfl)) rfl ?_
    obtain ⟨r11, h12, hm⟩ := bindS hm
    refine QJ.step (y_call Try.call32 rfl (RetG.quiet fun w hw => ok_i_MachinesFrom h12 w _ (hw.row_rd (k := 0) rfl) _ (hw.row_rd (k := 1) rfl))) rfl ?_
    refine QJ.step (YldS.yld (y_move rfl)) rfl ?_
    refine QJ.step (YldS.yld (y_extract rfl rfl)) rfl ?_
    refine QJ.step (YldS.yld (y_extract rfl rfl)) rfl ?_
    refine QJ.step (YldS.yld (y_assign rfl)) rfl ?_
    refine QJ.step (YldS.yld (y_assign rfl)) rfl ?_
    refine QJ.done ?_
    refine PJ.next ?_
    refine WJ.seq ?_
    refine WJ.quiet ?_
    refine QJ.step (YldS.yld (y_move rfl)) rfl ?_
    refine QJ.step (YldS.yld (y_move rfl)) rfl ?_
    obtain ⟨r13, h14, hm⟩ := bindS hm
    refine QJ.step (y_call Try.call30 rfl (RetG.quiet fun w hw => ok_s_MachinesFrom h14 w _ (hw.row_rd (k := 0) rfl) _ (hw.row_rd (k := 1) rfl))) rfl ?_
    refine QJ.step (YldS.yld (y_move rfl)) rfl ?_
    refine QJ.step (YldS.yld (y_extract rfl rfl)) rfl ?_
    refine QJ.step (YldS.yld (y_extract rfl rfl)) rfl ?_
    refine QJ.step (YldS.yld (y_assign rfl)) rfl ?_
    refine QJ.step (YldS.yld (y_assign rfl)) rfl ?_
    refine QJ.done ?_
    refine PJ.next ?_
    refine WJ.seq ?_
    refine WJ.quiet ?_
    refine QJ.step (YldS.yld (y_move rfl)) rfl ?_
    refine QJ.step (YldS.yld (y_move rfl)) rfl ?_
    obtain ⟨r15, h16, hm⟩ := bindS hm
    refine QJ.step (y_call Try.call34 rfl (RetG.quiet fun w hw => ok_i_ScarcePart h16 w _ (hw.row_rd (k := 0) rfl) _ (hw.row_rd (k := 1) rfl))) rfl ?_
    refine QJ.step (YldS.yld (y_move rfl)) rfl ?_
    refine QJ.step (YldS.yld (y_extract rfl rfl)) rfl ?_
    refine QJ.step (YldS.yld (y_extract rfl rfl)) rfl ?_
    refine QJ.step (YldS.yld (y_assign rfl)) rfl ?_
    refine QJ.step (YldS.yld (y_assign rfl)) rfl ?_
    refine QJ.done ?_
    refine PJ.next ?_
    refine WJ.seq ?_
    refine WJ.quiet ?_
    refine QJ.step (YldS.yld (y_move rfl)) rfl ?_
    refine QJ.step (YldS.yld (y_move rfl)) rfl ?_
    obtain ⟨r17, h18, hm⟩ := bindS hm
    refine QJ.step (y_call Try.call33 rfl (RetG.quiet fun w hw => ok_s_ScarcePart h18 w _ (hw.row_rd (k := 0) rfl) _ (hw.row_rd (k := 1) rfl))) rfl ?_
    refine QJ.step (YldS.yld (y_move rfl)) rfl ?_
    refine QJ.step (YldS.yld (y_extract rfl rfl)) rfl ?_
    refine QJ.step (YldS.yld (y_extract rfl rfl)) rfl ?_
    refine QJ.step (YldS.yld (y_assign rfl)) rfl ?_
    refine QJ.step (YldS.yld (y_assign rfl)) rfl ?_
    refine QJ.done ?_
    refine PJ.next ?_
    refine WJ.seq ?_
    refine WJ.reg ?_
    refine SJ.q (YldS.yld (y_move rfl)) rfl ?_
    obtain ⟨r19, h20, hm⟩ := bindS hm
    refine SJ.call Try.call23 rfl (fun w hw => ok_i_OrderList h20 w _ (hw.row_rd (k := 0) rfl)) rfl ?_
    rintro _ _ ⟨v21, rfl, rfl⟩
    refine SJ.q (YldS.yld (y_move rfl)) rfl ?_
    refine SJ.q (YldS.yld (y_extract rfl rfl)) rfl ?_
    refine SJ.q (YldS.yld (y_extract rfl rfl)) rfl ?_
    refine SJ.q (YldS.yld (y_assign rfl)) rfl ?_
    refine SJ.q (YldS.yld (y_assign rfl)) rfl ?_
    refine SJ.nil ?_
    refine PJ.next ?_
    refine WJ.seq ?_
    refine WJ.reg ?_
    refine SJ.q (YldS.yld (y_move rfl)) rfl ?_
    obtain ⟨r22, h23, hm⟩ := bindS hm
    refine SJ.call Try.call22 rfl (fun w hw => ok_s_OrderList h23 w _ (hw.row_rd (k := 1) rfl)) rfl ?_
    rintro _ _ ⟨v24, rfl, rfl⟩
    refine SJ.q (YldS.yld (y_move rfl)) rfl ?_
    refine SJ.q (YldS.yld (y_extract rfl rfl)) rfl ?_
    refine SJ.q (YldS.yld (y_extract rfl rfl)) rfl ?_
    refine SJ.q (YldS.yld (y_assign rfl)) rfl ?_
    refine SJ.q (YldS.yld (y_assign rfl)) rfl ?_
    refine SJ.nil ?_
    refine PJ.next ?_
    refine WJ.seq ?_
    refine WJ.reg ?_
    refine SJ.q (YldS.yld (y_move rfl)) rfl ?_
    obtain ⟨r25, h26, hm⟩ := bindS hm
    refine SJ.call Try.call42 rfl (fun w hw => ok_s_DrawDaysUntil h26 w _ (hr3.st hw)) rfl ?_
    rintro _ _ ⟨v27, v28, rfl, rfl⟩
    refine SJ.q (YldS.yld (y_move rfl)) rfl ?_
    refine SJ.q (YldS.yld (y_extract rfl rfl)) rfl ?_
    refine SJ.q (YldS.yld (y_extract rfl rfl)) rfl ?_
    refine SJ.q (YldS.yld (y_assign rfl)) rfl ?_
    refine SJ.q (YldS.yld (y_assign rfl)) rfl ?_
    refine SJ.nil ?_
    refine PJ.next ?_
    refine WJ.seq ?_
    refine WJ.quiet ?_
    refine QJ.step (YldS.yld (y_move rfl)) rfl ?_
    refine QJ.step (YldS.yld (y_move rfl)) rfl ?_
    obtain ⟨r29, h30, hm⟩ := bindS hm
    refine QJ.step (y_call Try.call43 rfl (RetG.quiet fun w hw => ok_i_DaysUntil h30 w _ (hw.row_rd (k := 0) rfl) _ (hw.row_rd (k := 1) rfl))) rfl ?_
    refine QJ.step (YldS.yld (y_move rfl)) rfl ?_
    refine QJ.step (YldS.yld (y_extract rfl rfl)) rfl ?_
    refine QJ.step (YldS.yld (y_extract rfl rfl)) rfl ?_
    refine QJ.step (YldS.yld (y_assign rfl)) rfl ?_
    refine QJ.step (YldS.yld (y_assign rfl)) rfl ?_
    refine QJ.done ?_
    refine PJ.next ?_
    refine WJ.seq ?_
    refine WJ.quiet ?_
    refine QJ.step (YldS.yld (y_move rfl)) rfl ?_
    refine QJ.step (YldS.yld (y_move rfl)) rfl ?_
    obtain ⟨r31, h32, hm⟩ := bindS hm
    refine QJ.step (y_call Try.call44 rfl (RetG.quiet fun w hw => ok_s_DaysUntil h32 w _ (hw.row_rd (k := 0) rfl) _ (hw.row_rd (k := 1) rfl))) rfl ?_
    refine QJ.step (YldS.yld (y_move rfl)) rfl ?_
    refine QJ.step (YldS.yld (y_extract rfl rfl)) rfl ?_
    refine QJ.step (YldS.yld (y_extract rfl rfl)) rfl ?_
    refine QJ.step (YldS.yld (y_assign rfl)) rfl ?_
    refine QJ.step (YldS.yld (y_assign rfl)) rfl ?_
    refine QJ.done ?_
    refine PJ.next ?_
    refine WJ.seq ?_
    refine WJ.seq ?_
    refine WJ.quiet ?_
    refine QJ.step (YldS.yld (y_move rfl)) rfl ?_
    refine QJ.step (YldS.yld (y_move rfl)) rfl ?_
    refine QJ.step (YldS.yld (y_bin rfl rfl rfl)) rfl ?_
    refine QJ.step (YldS.yld (y_move rfl)) rfl ?_
    obtain ⟨t33, h34, hm⟩ := bindS hm
    refine QJ.cut 4 [(3, v9), (4, v10), (6, .int .i64 r11.2), (7, .int .i64 r13.1), (9, .int .i64 r15.1), (10, .int .i64 r15.2), (11, .int .i64 r17.1), (12, .int .i64 r17.2), (13, v21), (14, .int .i64 r19.2), (15, v24), (16, .int .i64 r22.2), (17, v27), (18, v28), (19, .int .i64 r29.1), (20, .int .i64 r29.2), (21, .int .i64 r31.1), (22, .int .i64 r31.2), (91, .bool t33)] ?_ ?_
    · rcases Bool.eq_false_or_eq_true (r11.2 != r13.2) with hb35 | hb35
      · obtain rfl := orT h34 hb35
        refine QJ.off rfl rfl (cB hb35) rfl rfl ?_
        refine QJ.off rfl rfl (cB hb35) rfl rfl ?_
        refine QJ.off rfl rfl (cB hb35) rfl rfl ?_
        refine QJ.step (YldS.yld (y_pick_t (cB hb35) rfl)) rfl ?_
        exact QJ.cut_end ⟨rfl, rfl, rfl, rfl, rfl, rfl, rfl, rfl, rfl, rfl, rfl, rfl, rfl, rfl, rfl, rfl, rfl, rfl, rfl, trivial⟩
      · replace h34 := orF h34 hb35
        refine QJ.on rfl rfl (cB hb35) (YldS.yld (y_move rfl)) rfl ?_
        refine QJ.on rfl rfl (cB hb35) (YldS.yld (y_move rfl)) rfl ?_
        refine QJ.on rfl rfl (cB hb35) (YldS.yld (y_bin rfl rfl rfl)) rfl ?_
        refine QJ.step (YldS.yld (y_pick_f (cB hb35) rfl)) rfl ?_
        obtain rfl := Option.some.inj h34
        exact QJ.cut_end ⟨rfl, rfl, rfl, rfl, rfl, rfl, rfl, rfl, rfl, rfl, rfl, rfl, rfl, rfl, rfl, rfl, rfl, rfl, rfl, trivial⟩
    refine QJ.step (YldS.yld (y_move rfl)) rfl ?_
    obtain ⟨t36, h37, hm⟩ := bindS hm
    refine QJ.cut 4 [(3, v9), (4, v10), (6, .int .i64 r11.2), (7, .int .i64 r13.1), (9, .int .i64 r15.1), (11, .int .i64 r17.1), (13, v21), (14, .int .i64 r19.2), (15, v24), (16, .int .i64 r22.2), (17, v27), (18, v28), (19, .int .i64 r29.1), (20, .int .i64 r29.2), (21, .int .i64 r31.1), (22, .int .i64 r31.2), (96, .bool t36)] ?_ ?_
    · rcases Bool.eq_false_or_eq_true t33 with hb38 | hb38
      · obtain rfl := orT h37 hb38
        refine QJ.off rfl rfl (cB hb38) rfl rfl ?_
        refine QJ.off rfl rfl (cB hb38) rfl rfl ?_
        refine QJ.off rfl rfl (cB hb38) rfl rfl ?_
        refine QJ.step (YldS.yld (y_pick_t (cB hb38) rfl)) rfl ?_
        exact QJ.cut_end ⟨rfl, rfl, rfl, rfl, rfl, rfl, rfl, rfl, rfl, rfl, rfl, rfl, rfl, rfl, rfl, rfl, rfl, trivial⟩
      · replace h37 := orF h37 hb38
        refine QJ.on rfl rfl (cB hb38) (YldS.yld (y_move rfl)) rfl ?_
        refine QJ.on rfl rfl (cB hb38) (YldS.yld (y_move rfl)) rfl ?_
        refine QJ.on rfl rfl (cB hb38) (YldS.yld (y_bin rfl rfl rfl)) rfl ?_
        refine QJ.step (YldS.yld (y_pick_f (cB hb38) rfl)) rfl ?_
        obtain rfl := Option.some.inj h37
        exact QJ.cut_end ⟨rfl, rfl, rfl, rfl, rfl, rfl, rfl, rfl, rfl, rfl, rfl, rfl, rfl, rfl, rfl, rfl, rfl, trivial⟩
    refine QJ.step (YldS.yld (y_move rfl)) rfl ?_
    obtain ⟨t39, h40, hm⟩ := bindS hm
    refine QJ.cut 4 [(3, v9), (4, v10), (6, .int .i64 r11.2), (7, .int .i64 r13.1), (11, .int .i64 r17.1), (13, v21), (14, .int .i64 r19.2), (15, v24), (16, .int .i64 r22.2), (17, v27), (18, v28), (19, .int .i64 r29.1), (20, .int .i64 r29.2), (21, .int .i64 r31.1), (22, .int .i64 r31.2), (101, .bool t39)] ?_ ?_
    · rcases Bool.eq_false_or_eq_true t36 with hb41 | hb41
      · obtain rfl := orT h40 hb41
        refine QJ.off rfl rfl (cB hb41) rfl rfl ?_
        refine QJ.off rfl rfl (cB hb41) rfl rfl ?_
        refine QJ.off rfl rfl (cB hb41) rfl rfl ?_
        refine QJ.step (YldS.yld (y_pick_t (cB hb41) rfl)) rfl ?_
        exact QJ.cut_end ⟨rfl, rfl, rfl, rfl, rfl, rfl, rfl, rfl, rfl, rfl, rfl, rfl, rfl, rfl, rfl, rfl, trivial⟩
      · replace h40 := orF h40 hb41
        refine QJ.on rfl rfl (cB hb41) (YldS.yld (y_move rfl)) rfl ?_
        refine QJ.on rfl rfl (cB hb41) (YldS.yld (y_move rfl)) rfl ?_
        refine QJ.on rfl rfl (cB hb41) (YldS.yld (y_bin rfl rfl rfl)) rfl ?_
        refine QJ.step (YldS.yld (y_pick_f (cB hb41) rfl)) rfl ?_
        obtain rfl := Option.some.inj h40
        exact QJ.cut_end ⟨rfl, rfl, rfl, rfl, rfl, rfl, rfl, rfl, rfl, rfl, rfl, rfl, rfl, rfl, rfl, rfl, trivial⟩
    refine QJ.step (YldS.yld (y_move rfl)) rfl ?_
    obtain ⟨t42, h43, hm⟩ := bindS hm
    refine QJ.cut 4 [(3, v9), (4, v10), (6, .int .i64 r11.2), (7, .int .i64 r13.1), (11, .int .i64 r17.1), (13, v21), (14, .int .i64 r19.2), (15, v24), (17, v27), (18, v28), (19, .int .i64 r29.1), (20, .int .i64 r29.2), (21, .int .i64 r31.1), (22, .int .i64 r31.2), (106, .bool t42)] ?_ ?_
    · rcases Bool.eq_false_or_eq_true t39 with hb44 | hb44
      · obtain rfl := orT h43 hb44
        refine QJ.off rfl rfl (cB hb44) rfl rfl ?_
        refine QJ.off rfl rfl (cB hb44) rfl rfl ?_
        refine QJ.off rfl rfl (cB hb44) rfl rfl ?_
        refine QJ.step (YldS.yld (y_pick_t (cB hb44) rfl)) rfl ?_
        exact QJ.cut_end ⟨rfl, rfl, rfl, rfl, rfl, rfl, rfl, rfl, rfl, rfl, rfl, rfl, rfl, rfl, rfl, trivial⟩
      · replace h43 := orF h43 hb44
        refine QJ.on rfl rfl (cB hb44) (YldS.yld (y_move rfl)) rfl ?_
        refine QJ.on rfl rfl (cB hb44) (YldS.yld (y_move rfl)) rfl ?_
        refine QJ.on rfl rfl (cB hb44) (YldS.yld (y_bin rfl rfl rfl)) rfl ?_
        refine QJ.step (YldS.yld (y_pick_f (cB hb44) rfl)) rfl ?_
        obtain rfl := Option.some.inj h43
        exact QJ.cut_end ⟨rfl, rfl, rfl, rfl, rfl, rfl, rfl, rfl, rfl, rfl, rfl, rfl, rfl, rfl, rfl, trivial⟩
    refine QJ.step (YldS.yld (y_move rfl)) rfl ?_
    obtain ⟨t45, h46, hm⟩ := bindS hm
    refine QJ.cut 5 [(3, v9), (4, v10), (6, .int .i64 r11.2), (7, .int .i64 r13.1), (11, .int .i64 r17.1), (14, .int .i64 r19.2), (15, v24), (17, v27), (18, v28), (19, .int .i64 r29.1), (20, .int .i64 r29.2), (21, .int .i64 r31.1), (22, .int .i64 r31.2), (112, .bool t45)] ?_ ?_
    · rcases Bool.eq_false_or_eq_true t42 with hb47 | hb47
      · obtain rfl := orT h46 hb47
        refine QJ.off rfl rfl (cB hb47) rfl rfl ?_
        refine QJ.off rfl rfl (cB hb47) rfl rfl ?_
        refine QJ.off rfl rfl (cB hb47) rfl rfl ?_
        refine QJ.off rfl rfl (cB hb47) rfl rfl ?_
        refine QJ.step (YldS.yld (y_pick_t (cB hb47) rfl)) rfl ?_
        exact QJ.cut_end ⟨rfl, rfl, rfl, rfl, rfl, rfl, rfl, rfl, rfl, rfl, rfl, rfl, rfl, rfl, trivial⟩
      · replace h46 := orF h46 hb47
        refine QJ.on rfl rfl (cB hb47) (YldS.yld (y_move rfl)) rfl ?_
        refine QJ.on rfl rfl (cB hb47) (YldS.yld (y_move rfl)) rfl ?_
        obtain ⟨r48, h49, h46⟩ := bindS h46
        refine QJ.on rfl rfl (cB hb47) (y_call Try.call45 rfl (RetG.quiet fun w hw => ok_w_f6ints h49 w _ (hw.row_rd (k := 3) rfl) _ (hw.row_rd (k := 2) rfl))) rfl ?_
        refine QJ.on rfl rfl (cB hb47) (YldS.yld (y_not rfl)) rfl ?_
        refine QJ.step (YldS.yld (y_pick_f (cB hb47) rfl)) rfl ?_
        obtain rfl := Option.some.inj h46
        exact QJ.cut_end ⟨rfl, rfl, rfl, rfl, rfl, rfl, rfl, rfl, rfl, rfl, rfl, rfl, rfl, rfl, trivial⟩
    refine QJ.step (YldS.yld (y_move rfl)) rfl ?_
    obtain ⟨t50, h51, hm⟩ := bindS hm
    refine QJ.cut 4 [(3, v9), (4, v10), (6, .int .i64 r11.2), (7, .int .i64 r13.1), (11, .int .i64 r17.1), (14, .int .i64 r19.2), (15, v24), (17, v27), (18, v28), (19, .int .i64 r29.1), (20, .int .i64 r29.2), (21, .int .i64 r31.1), (117, .bool t50)] ?_ ?_
    · rcases Bool.eq_false_or_eq_true t45 with hb52 | hb52
      · obtain rfl := orT h51 hb52
        refine QJ.off rfl rfl (cB hb52) rfl rfl ?_
        refine QJ.off rfl rfl (cB hb52) rfl rfl ?_
        refine QJ.off rfl rfl (cB hb52) rfl rfl ?_
        refine QJ.step (YldS.yld (y_pick_t (cB hb52) rfl)) rfl ?_
        exact QJ.cut_end ⟨rfl, rfl, rfl, rfl, rfl, rfl, rfl, rfl, rfl, rfl, rfl, rfl, rfl, trivial⟩
      · replace h51 := orF h51 hb52
        refine QJ.on rfl rfl (cB hb52) (YldS.yld (y_move rfl)) rfl ?_
        refine QJ.on rfl rfl (cB hb52) (YldS.yld (y_move rfl)) rfl ?_
        refine QJ.on rfl rfl (cB hb52) (YldS.yld (y_bin rfl rfl rfl)) rfl ?_
        refine QJ.step (YldS.yld (y_pick_f (cB hb52) rfl)) rfl ?_
        obtain rfl := Option.some.inj h51
        exact QJ.cut_end ⟨rfl, rfl, rfl, rfl, rfl, rfl, rfl, rfl, rfl, rfl, rfl, rfl, rfl, trivial⟩
    refine QJ.step (YldS.yld (y_move rfl)) rfl ?_
    obtain ⟨t53, h54, hm⟩ := bindS hm
    refine QJ.cut 4 [(3, v9), (4, v10), (6, .int .i64 r11.2), (7, .int .i64 r13.1), (11, .int .i64 r17.1), (14, .int .i64 r19.2), (15, v24), (17, v27), (18, v28), (20, .int .i64 r29.2), (21, .int .i64 r31.1), (122, .bool t53)] ?_ ?_
    · rcases Bool.eq_false_or_eq_true t50 with hb55 | hb55
      · obtain rfl := orT h54 hb55
        refine QJ.off rfl rfl (cB hb55) rfl rfl ?_
        refine QJ.off rfl rfl (cB hb55) rfl rfl ?_
        refine QJ.off rfl rfl (cB hb55) rfl rfl ?_
        refine QJ.step (YldS.yld (y_pick_t (cB hb55) rfl)) rfl ?_
        exact QJ.cut_end ⟨rfl, rfl, rfl, rfl, rfl, rfl, rfl, rfl, rfl, rfl, rfl, rfl, trivial⟩
      · replace h54 := orF h54 hb55
        refine QJ.on rfl rfl (cB hb55) (YldS.yld (y_move rfl)) rfl ?_
        refine QJ.on rfl rfl (cB hb55) (YldS.yld (y_move rfl)) rfl ?_
        refine QJ.on rfl rfl (cB hb55) (YldS.yld (y_bin rfl rfl rfl)) rfl ?_
        refine QJ.step (YldS.yld (y_pick_f (cB hb55) rfl)) rfl ?_
        obtain rfl := Option.some.inj h54
        exact QJ.cut_end ⟨rfl, rfl, rfl, rfl, rfl, rfl, rfl, rfl, rfl, rfl, rfl, rfl, trivial⟩
    refine QJ.done ?_
    refine PJ.next ?_
    refine WJ.cond (t := t53) rfl (fun hb56 => ?_) (fun hb56 => ?_)
    · replace hm := ifT hm hb56
      refine WJ.seq ?_
      refine WJ.quiet ?_
      refine QJ.step (YldS.yld (y_assign rfl)) rfl ?_
      refine QJ.done ?_
      refine PJ.next ?_
      refine WJ.ret ?_
      refine PJ.then_ret ?_
      obtain rfl := Option.some.inj hm
      refine PJ.sel (L' := []) [] ⟨List.nodup_nil, rfl⟩ ?_
      exact PJ.retn (vs := [.bool false]) Try.results12 ⟨rfl, trivial⟩ ⟨rfl, rfl⟩
    · replace hm := ifF hm hb56
      refine WJ.skip ?_
      refine PJ.next ?_
      obtain ⟨k57, hk58, hm⟩ := withK_open hm
      refine WJ.join (X := Unit) (fun (_ : Unit) => k57  = some r) (fun (_ : Unit) => [(3, v9), (4, v10), (6, .int .i64 r11.2), (7, .int .i64 r13.1), (11, .int .i64 r17.1), (17, v27), (18, v28), (20, .int .i64 r29.2), (21, .int .i64 r31.1)]) (fun (_ : Unit) => [row v27 51 fSparePart r25.1, row v28 2 fI64 r25.2, row v9 51 fSparePart r7.1, row v10 2 fI64 r7.2]) ?_ ?_
      · clear hk58
        refine WJ.seq ?_
        refine WJ.quiet ?_
        refine QJ.step (YldS.yld (y_move rfl)) rfl ?_
        refine QJ.step (YldS.yld (y_bin rfl rfl rfl)) rfl ?_
        refine QJ.done ?_
        refine PJ.next ?_
        refine WJ.cond (t := (r19.2 == 0)) rfl (fun hb59 => ?_) (fun hb59 => ?_)
        · replace hm := ifT hm hb59
          refine WJ.seq ?_
          refine WJ.quiet ?_
          refine QJ.step (YldS.yld (y_assign rfl)) rfl ?_
          refine QJ.done ?_
          refine PJ.next ?_
          refine WJ.block ?_
          refine WJ.sel (L' := (fun (x : Int) => [row v27 51 fSparePart r25.1, row v28 2 fI64 r25.2, row v24 2 fI64 r22.1, row v9 51 fSparePart r7.1, row v10 2 fI64 r7.2]) 0) [0, 1, 2, 4, 5] ⟨by decide, rfl⟩ ?_
          refine WJ.sub (m' := (fun (x : Int) => [(3, v9), (4, v10), (6, .int .i64 r11.2), (7, .int .i64 r13.1), (11, .int .i64 r17.1), (15, v24), (17, v27), (18, v28), (20, .int .i64 r29.2), (21, .int .i64 r31.1), (23, .int .i64 x)]) 0) ⟨rfl, rfl, rfl, rfl, rfl, rfl, rfl, rfl, rfl, rfl, rfl, trivial⟩ ?_
          refine WJ.loop (X := Int) (fun N (x : Int) => w_FnStores_l1 k57 r7 r22 N x = some r) (fun (x : Int) => [(3, v9), (4, v10), (6, .int .i64 r11.2), (7, .int .i64 r13.1), (11, .int .i64 r17.1), (15, v24), (17, v27), (18, v28), (20, .int .i64 r29.2), (21, .int .i64 r31.1), (23, .int .i64 x)]) (fun (x : Int) => [row v27 51 fSparePart r25.1, row v28 2 fI64 r25.2, row v24 2 fI64 r22.1, row v9 51 fSparePart r7.1, row v10 2 fI64 r7.2]) ?_ N 0 hm
          · rintro N x60 hI
            have hm := hI; clear hI
            cases N with
            | zero => cases hm
            | succ N =>
            unfold w_FnStores_l1 at hm
            refine WJ.seq ?_
            refine WJ.seq ?_
            refine WJ.quiet ?_
            refine QJ.step (YldS.yld (y_move rfl)) rfl ?_
            refine QJ.step (YldS.yld (y_move rfl)) rfl ?_
            refine QJ.step (YldS.yld (y_lenRow (k := 2) rfl Try.runUnderlying33 rfl)) rfl ?_
            refine QJ.step (YldS.yld (y_bin rfl rfl rfl)) rfl ?_
            refine QJ.done ?_
            refine PJ.next ?_
            refine WJ.cond (t := decide (x60 < (List.length r22.1 : Int))) rfl (fun hb61 => ?_) (fun hb61 => ?_)
            · replace hm := ifT hm hb61
              refine WJ.skip ?_
              refine PJ.next ?_
              refine WJ.seq ?_
              refine WJ.block ?_
              refine WJ.seq ?_
              refine WJ.quiet_draw follows (by kernel_rfl) ?_
              refine QJ.step (YldS.yld (y_move rfl)) rfl ?_
              refine QJ.step (YldS.yld (y_move rfl)) rfl ?_
              obtain ⟨e62, h63, hm⟩ := bindS hm
              refine QJ.step (YldS.yld (y_ixRow (k := 2) (R := fI64) rfl Try.runUnderlying33 Try.sizeOf2 rfl rfl h63)) rfl ?_
              refine QJ.step (YldS.yld (y_loadR (k := 2) (i := (Int.toNat x60)) (off := 0) (u := .int .i64 e62) rfl Try.isAgg2 rfl (idx_get h63) rfl)) rfl ?_
              refine QJ.step (YldS.yld (y_bin rfl rfl rfl)) rfl ?_
              refine QJ.step (YldS.yld (y_move rfl)) rfl ?_
              obtain ⟨t64, h65, hm⟩ := bindS hm
              refine QJ.cut 24 [(3, v9), (4, v10), (6, .int .i64 r11.2), (7, .int .i64 r13.1), (11, .int .i64 r17.1), (15, v24), (17, v27), (18, v28), (20, .int .i64 r29.2), (21, .int .i64 r31.1), (23, .int .i64 x60), (160, .bool t64)] ?_ ?_
              · rcases Bool.eq_false_or_eq_true (decide (e62 < 0)) with hb66 | hb66
                · obtain rfl := orT h65 hb66
                  refine QJ.off rfl rfl (cB hb66) rfl rfl ?_
                  refine QJ.off rfl rfl (cB hb66) rfl rfl ?_
                  refine QJ.off rfl rfl (cB hb66) rfl rfl ?_
                  refine QJ.off rfl rfl (cB hb66) rfl rfl ?_
                  refine QJ.off rfl rfl (cB hb66) rfl rfl ?_
                  refine QJ.off rfl rfl (cB hb66) rfl rfl ?_
                  refine QJ.off_undef rfl rfl rfl rfl ?_
                  refine QJ.off_undef rfl rfl rfl rfl ?_
                  refine QJ.off_undef rfl rfl rfl rfl ?_
                  refine QJ.off_undef rfl rfl rfl rfl ?_
                  refine QJ.off_undef rfl rfl rfl rfl ?_
                  refine QJ.off_undef rfl rfl rfl rfl ?_
                  refine QJ.off_undef rfl rfl rfl rfl ?_
                  refine QJ.off_undef rfl rfl rfl rfl ?_
                  refine QJ.off_undef rfl rfl rfl rfl ?_
                  refine QJ.off_undef rfl rfl rfl rfl ?_
                  refine QJ.off_undef rfl rfl rfl rfl ?_
                  refine QJ.off_undef rfl rfl rfl rfl ?_
                  refine QJ.off_undef rfl rfl rfl rfl ?_
                  refine QJ.off_undef rfl rfl rfl rfl ?_
                  refine QJ.off_undef rfl rfl rfl rfl ?_
                  refine QJ.off_undef rfl rfl rfl rfl ?_
                  refine QJ.off rfl rfl (cB hb66) rfl rfl ?_
                  refine QJ.step (YldS.yld (y_pick_t (cB hb66) rfl)) rfl ?_
                  exact QJ.cut_end ⟨rfl, rfl, rfl, rfl, rfl, rfl, rfl, rfl, rfl, rfl, rfl, rfl, trivial⟩
                · replace h65 := orF h65 hb66
                  refine QJ.on rfl rfl (cB hb66) (YldS.yld (y_move rfl)) rfl ?_
                  refine QJ.on rfl rfl (cB hb66) (YldS.yld (y_move rfl)) rfl ?_
                  obtain ⟨e67, h68, h65⟩ := bindS h65
                  refine QJ.on rfl rfl (cB hb66) (YldS.yld (y_ixRow (k := 2) (R := fI64) rfl Try.runUnderlying33 Try.sizeOf2 rfl rfl h68)) rfl ?_
                  refine QJ.on rfl rfl (cB hb66) (YldS.yld (y_loadR (k := 2) (i := (Int.toNat x60)) (off := 0) (u := .int .i64 e67) rfl Try.isAgg2 rfl (idx_get h68) rfl)) rfl ?_
                  refine QJ.on rfl rfl (cB hb66) (YldS.yld (y_bin rfl rfl rfl)) rfl ?_
                  refine QJ.on rfl rfl (cB hb66) (YldS.yld (y_move rfl)) rfl ?_
                  obtain ⟨t69, h70, h65⟩ := bindS h65
                  refine QJ.cut 17 [(3, v9), (4, v10), (6, .int .i64 r11.2), (7, .int .i64 r13.1), (11, .int .i64 r17.1), (15, v24), (17, v27), (18, v28), (20, .int .i64 r29.2), (21, .int .i64 r31.1), (23, .int .i64 x60), (136, .bool (decide (e62 < 0))), (137, v24), (138, .int .i64 x60), (139, rowAt v24 ((Int.toNat x60) * fI64.size + 0)), (140, .int .i64 e67), (141, .bool (decide (e67 > 0))), (142, .bool (decide (e67 > 0))), (159, .bool t69)] ?_ ?_
                  · rcases Bool.eq_false_or_eq_true (decide (e67 > 0)) with hb71 | hb71
                    · replace h70 := andT h70 hb71
                      refine QJ.on rfl rfl (cB hb71) (YldS.yld (y_move rfl)) rfl ?_
                      refine QJ.on rfl rfl (cB hb71) (YldS.yld (y_move rfl)) rfl ?_
                      obtain ⟨e72, h73, h70⟩ := bindS h70
                      refine QJ.on rfl rfl (cB hb71) (YldS.yld (y_ixRow (k := 2) (R := fI64) rfl Try.runUnderlying33 Try.sizeOf2 rfl rfl h73)) rfl ?_
                      refine QJ.on rfl rfl (cB hb71) (YldS.yld (y_loadR (k := 2) (i := (Int.toNat x60)) (off := 0) (u := .int .i64 e72) rfl Try.isAgg2 rfl (idx_get h73) rfl)) rfl ?_
                      refine QJ.on rfl rfl (cB hb71) (YldS.yld (y_move rfl)) rfl ?_
                      refine QJ.on rfl rfl (cB hb71) (YldS.yld (y_move rfl)) rfl ?_
                      obtain ⟨e74, h75, h70⟩ := bindS h70
                      refine QJ.on rfl rfl (cB hb71) (YldS.yld (y_ixRow (k := 3) (R := fSparePart) rfl Try.runUnderlying25 Try.sizeOf51 rfl rfl h75)) rfl ?_
                      refine QJ.on rfl rfl (cB hb71) (YldS.yld (y_fldR fld51_1 rfl)) rfl ?_
                      refine QJ.on rfl rfl (cB hb71) (YldS.yld (y_loadR (k := 3) (i := (Int.toNat x60)) (off := 1) (u := .int .i64 e74.stock) rfl Try.isAgg2 rfl (idx_get h75) rfl)) rfl ?_
                      refine QJ.on rfl rfl (cB hb71) (YldS.yld (y_bin rfl rfl rfl)) rfl ?_
                      refine QJ.on rfl rfl (cB hb71) (YldS.yld (y_move rfl)) rfl ?_
                      refine QJ.on rfl rfl (cB hb71) (YldS.yld (y_move rfl)) rfl ?_
                      obtain ⟨e76, h77, h70⟩ := bindS h70
                      refine QJ.on rfl rfl (cB hb71) (YldS.yld (y_ixRow (k := 3) (R := fSparePart) rfl Try.runUnderlying25 Try.sizeOf51 rfl rfl h77)) rfl ?_
                      refine QJ.on rfl rfl (cB hb71) (YldS.yld (y_fldR fld51_2 rfl)) rfl ?_
                      refine QJ.on rfl rfl (cB hb71) (YldS.yld (y_loadR (k := 3) (i := (Int.toNat x60)) (off := 2) (u := .int .i64 e76.target) rfl Try.isAgg2 rfl (idx_get h77) rfl)) rfl ?_
                      refine QJ.on rfl rfl (cB hb71) (YldS.yld (y_bin rfl rfl rfl)) rfl ?_
                      refine QJ.on rfl rfl (cB hb66) (YldS.yld (y_pick_t (cB hb71) rfl)) rfl ?_
                      obtain rfl := Option.some.inj h70
                      exact QJ.cut_end ⟨rfl, rfl, rfl, rfl, rfl, rfl, rfl, rfl, rfl, rfl, rfl, rfl, rfl, rfl, rfl, rfl, rfl, rfl, rfl, trivial⟩
                    · obtain rfl := andF h70 hb71
                      refine QJ.off rfl rfl (cB hb71) rfl rfl ?_
                      refine QJ.off rfl rfl (cB hb71) rfl rfl ?_
                      refine QJ.off rfl rfl (cB hb71) rfl rfl ?_
                      refine QJ.off rfl rfl (cB hb71) rfl rfl ?_
                      refine QJ.off rfl rfl (cB hb71) rfl rfl ?_
                      refine QJ.off rfl rfl (cB hb71) rfl rfl ?_
                      refine QJ.off rfl rfl (cB hb71) rfl rfl ?_
                      refine QJ.off rfl rfl (cB hb71) rfl rfl ?_
                      refine QJ.off rfl rfl (cB hb71) rfl rfl ?_
                      refine QJ.off rfl rfl (cB hb71) rfl rfl ?_
                      refine QJ.off rfl rfl (cB hb71) rfl rfl ?_
                      refine QJ.off rfl rfl (cB hb71) rfl rfl ?_
                      refine QJ.off rfl rfl (cB hb71) rfl rfl ?_
                      refine QJ.off rfl rfl (cB hb71) rfl rfl ?_
                      refine QJ.off rfl rfl (cB hb71) rfl rfl ?_
                      refine QJ.off rfl rfl (cB hb71) rfl rfl ?_
                      refine QJ.on rfl rfl (cB hb66) (YldS.yld (y_pick_f (cB hb71) rfl)) rfl ?_
                      exact QJ.cut_end ⟨rfl, rfl, rfl, rfl, rfl, rfl, rfl, rfl, rfl, rfl, rfl, rfl, rfl, rfl, rfl, rfl, rfl, rfl, rfl, trivial⟩
                  refine QJ.step (YldS.yld (y_pick_f (cB hb66) rfl)) rfl ?_
                  obtain rfl := Option.some.inj h65
                  exact QJ.cut_end ⟨rfl, rfl, rfl, rfl, rfl, rfl, rfl, rfl, rfl, rfl, rfl, rfl, trivial⟩
              refine QJ.step (YldS.yld (y_move rfl)) rfl ?_
              obtain ⟨t78, h79, hm⟩ := bindS hm
              refine QJ.cut 19 [(3, v9), (4, v10), (6, .int .i64 r11.2), (7, .int .i64 r13.1), (11, .int .i64 r17.1), (15, v24), (17, v27), (18, v28), (20, .int .i64 r29.2), (21, .int .i64 r31.1), (23, .int .i64 x60), (180, .bool t78)] ?_ ?_
              · rcases Bool.eq_false_or_eq_true t64 with hb80 | hb80
                · obtain rfl := orT h79 hb80
                  refine QJ.off rfl rfl (cB hb80) rfl rfl ?_
                  refine QJ.off rfl rfl (cB hb80) rfl rfl ?_
                  refine QJ.off rfl rfl (cB hb80) rfl rfl ?_
                  refine QJ.off rfl rfl (cB hb80) rfl rfl ?_
                  refine QJ.off rfl rfl (cB hb80) rfl rfl ?_
                  refine QJ.off rfl rfl (cB hb80) rfl rfl ?_
                  refine QJ.off_undef rfl rfl rfl rfl ?_
                  refine QJ.off_undef rfl rfl rfl rfl ?_
                  refine QJ.off_undef rfl rfl rfl rfl ?_
                  refine QJ.off_undef rfl rfl rfl rfl ?_
                  refine QJ.off_undef rfl rfl rfl rfl ?_
                  refine QJ.off_undef rfl rfl rfl rfl ?_
                  refine QJ.off_undef rfl rfl rfl rfl ?_
                  refine QJ.off_undef rfl rfl rfl rfl ?_
                  refine QJ.off_undef rfl rfl rfl rfl ?_
                  refine QJ.off_undef rfl rfl rfl rfl ?_
                  refine QJ.off_undef rfl rfl rfl rfl ?_
                  refine QJ.off rfl rfl (cB hb80) rfl rfl ?_
                  refine QJ.step (YldS.yld (y_pick_t (cB hb80) rfl)) rfl ?_
                  exact QJ.cut_end ⟨rfl, rfl, rfl, rfl, rfl, rfl, rfl, rfl, rfl, rfl, rfl, rfl, trivial⟩
                · replace h79 := orF h79 hb80
                  refine QJ.on rfl rfl (cB hb80) (YldS.yld (y_move rfl)) rfl ?_
                  refine QJ.on rfl rfl (cB hb80) (YldS.yld (y_move rfl)) rfl ?_
                  obtain ⟨e81, h82, h79⟩ := bindS h79
                  refine QJ.on rfl rfl (cB hb80) (YldS.yld (y_ixRow (k := 2) (R := fI64) rfl Try.runUnderlying33 Try.sizeOf2 rfl rfl h82)) rfl ?_
                  refine QJ.on rfl rfl (cB hb80) (YldS.yld (y_loadR (k := 2) (i := (Int.toNat x60)) (off := 0) (u := .int .i64 e81) rfl Try.isAgg2 rfl (idx_get h82) rfl)) rfl ?_
                  refine QJ.on rfl rfl (cB hb80) (YldS.yld (y_bin rfl rfl rfl)) rfl ?_
                  refine QJ.on rfl rfl (cB hb80) (YldS.yld (y_move rfl)) rfl ?_
                  obtain ⟨t83, h84, h79⟩ := bindS h79
                  refine QJ.cut 12 [(3, v9), (4, v10), (6, .int .i64 r11.2), (7, .int .i64 r13.1), (11, .int .i64 r17.1), (15, v24), (17, v27), (18, v28), (20, .int .i64 r29.2), (21, .int .i64 r31.1), (23, .int .i64 x60), (161, .bool t64), (162, v24), (163, .int .i64 x60), (164, rowAt v24 ((Int.toNat x60) * fI64.size + 0)), (165, .int .i64 e81), (166, .bool (e81 == 0)), (167, .bool (e81 == 0)), (179, .bool t83)] ?_ ?_
                  · rcases Bool.eq_false_or_eq_true (e81 == 0) with hb85 | hb85
                    · replace h84 := andT h84 hb85
                      refine QJ.on rfl rfl (cB hb85) (YldS.yld (y_move rfl)) rfl ?_
                      refine QJ.on rfl rfl (cB hb85) (YldS.yld (y_move rfl)) rfl ?_
                      obtain ⟨e86, h87, h84⟩ := bindS h84
                      refine QJ.on rfl rfl (cB hb85) (YldS.yld (y_ixRow (k := 3) (R := fSparePart) rfl Try.runUnderlying25 Try.sizeOf51 rfl rfl h87)) rfl ?_
                      refine QJ.on rfl rfl (cB hb85) (YldS.yld (y_fldR fld51_1 rfl)) rfl ?_
                      refine QJ.on rfl rfl (cB hb85) (YldS.yld (y_loadR (k := 3) (i := (Int.toNat x60)) (off := 1) (u := .int .i64 e86.stock) rfl Try.isAgg2 rfl (idx_get h87) rfl)) rfl ?_
                      refine QJ.on rfl rfl (cB hb85) (YldS.yld (y_move rfl)) rfl ?_
                      refine QJ.on rfl rfl (cB hb85) (YldS.yld (y_move rfl)) rfl ?_
                      obtain ⟨e88, h89, h84⟩ := bindS h84
                      refine QJ.on rfl rfl (cB hb85) (YldS.yld (y_ixRow (k := 3) (R := fSparePart) rfl Try.runUnderlying25 Try.sizeOf51 rfl rfl h89)) rfl ?_
                      refine QJ.on rfl rfl (cB hb85) (YldS.yld (y_fldR fld51_2 rfl)) rfl ?_
                      refine QJ.on rfl rfl (cB hb85) (YldS.yld (y_loadR (k := 3) (i := (Int.toNat x60)) (off := 2) (u := .int .i64 e88.target) rfl Try.isAgg2 rfl (idx_get h89) rfl)) rfl ?_
                      refine QJ.on rfl rfl (cB hb85) (YldS.yld (y_bin rfl rfl rfl)) rfl ?_
                      refine QJ.on rfl rfl (cB hb80) (YldS.yld (y_pick_t (cB hb85) rfl)) rfl ?_
                      obtain rfl := Option.some.inj h84
                      exact QJ.cut_end ⟨rfl, rfl, rfl, rfl, rfl, rfl, rfl, rfl, rfl, rfl, rfl, rfl, rfl, rfl, rfl, rfl, rfl, rfl, rfl, trivial⟩
                    · obtain rfl := andF h84 hb85
                      refine QJ.off rfl rfl (cB hb85) rfl rfl ?_
                      refine QJ.off rfl rfl (cB hb85) rfl rfl ?_
                      refine QJ.off rfl rfl (cB hb85) rfl rfl ?_
                      refine QJ.off rfl rfl (cB hb85) rfl rfl ?_
                      refine QJ.off rfl rfl (cB hb85) rfl rfl ?_
                      refine QJ.off rfl rfl (cB hb85) rfl rfl ?_
                      refine QJ.off rfl rfl (cB hb85) rfl rfl ?_
                      refine QJ.off rfl rfl (cB hb85) rfl rfl ?_
                      refine QJ.off rfl rfl (cB hb85) rfl rfl ?_
                      refine QJ.off rfl rfl (cB hb85) rfl rfl ?_
                      refine QJ.off rfl rfl (cB hb85) rfl rfl ?_
                      refine QJ.on rfl rfl (cB hb80) (YldS.yld (y_pick_f (cB hb85) rfl)) rfl ?_
                      exact QJ.cut_end ⟨rfl, rfl, rfl, rfl, rfl, rfl, rfl, rfl, rfl, rfl, rfl, rfl, rfl, rfl, rfl, rfl, rfl, rfl, rfl, trivial⟩
                  refine QJ.step (YldS.yld (y_pick_f (cB hb80) rfl)) rfl ?_
                  obtain rfl := Option.some.inj h79
                  exact QJ.cut_end ⟨rfl, rfl, rfl, rfl, rfl, rfl, rfl, rfl, rfl, rfl, rfl, rfl, trivial⟩
              refine QJ.done ?_
              refine PJ.next ?_
              refine WJ.cond (t := t78) rfl (fun hb90 => ?_) (fun hb90 => ?_)
              · replace hm := ifT hm hb90
                refine WJ.seq ?_
                refine WJ.quiet ?_
                refine QJ.step (YldS.yld (y_assign rfl)) rfl ?_
                refine QJ.done ?_
                refine PJ.next ?_
                refine WJ.ret ?_
                refine PJ.block_ret (PJ.then_ret (PJ.then_ret (PJ.block_ret (PJ.then_ret ?_))))
                obtain rfl := Option.some.inj hm
                refine PJ.sel (L' := []) [] ⟨List.nodup_nil, rfl⟩ ?_
                exact PJ.retn (vs := [.bool false]) Try.results12 ⟨rfl, trivial⟩ ⟨rfl, rfl⟩
              · replace hm := ifF hm hb90
                refine WJ.skip ?_
                refine PJ.block_normal (PJ.next ?_)
                refine WJ.quiet ?_
                refine QJ.step (YldS.yld (y_move rfl)) rfl ?_
                refine QJ.step (YldS.yld (y_bin rfl rfl rfl)) rfl ?_
                refine QJ.step (YldS.yld (y_assign rfl)) rfl ?_
                refine QJ.done ?_
                exact PJ.round (w64 (x60 + 1)) [0, 1, 2, 3, 4] hm ⟨rfl, rfl, rfl, rfl, rfl, rfl, rfl, rfl, rfl, rfl, rfl, trivial⟩ ⟨by decide, rfl⟩
            · replace hm := ifF hm hb61
              refine WJ.exit ?_
              refine PJ.then_exit (PJ.then_exit (PJ.block_exit ?_))
              exact PJ.joined () [0, 1, 3, 4] hm ⟨rfl, rfl, rfl, rfl, rfl, rfl, rfl, rfl, rfl, trivial⟩ ⟨by decide, rfl⟩
        · replace hm := ifF hm hb59
          refine WJ.skip ?_
          exact PJ.joined () [0, 1, 4, 5] hm ⟨rfl, rfl, rfl, rfl, rfl, rfl, rfl, rfl, rfl, trivial⟩ ⟨by decide, rfl⟩
      · rintro _ hm
        subst hk58
        obtain ⟨k91, hk92, hm⟩ := withK_open hm
        refine WJ.join (X := Unit) (fun (_ : Unit) => k91  = some r) (fun (_ : Unit) => [(3, v9), (4, v10), (6, .int .i64 r11.2), (7, .int .i64 r13.1), (11, .int .i64 r17.1)]) (fun (_ : Unit) => [row v9 51 fSparePart r7.1, row v10 2 fI64 r7.2]) ?_ ?_
        · clear hk92
          refine WJ.seq ?_
          refine WJ.quiet ?_
          refine QJ.step (YldS.yld (y_move rfl)) rfl ?_
          refine QJ.step (YldS.yld (y_bin rfl rfl rfl)) rfl ?_
          refine QJ.done ?_
          refine PJ.next ?_
          refine WJ.cond (t := (r29.2 == 0)) rfl (fun hb93 => ?_) (fun hb93 => ?_)
          · replace hm := ifT hm hb93
            refine WJ.seq ?_
            refine WJ.quiet ?_
            refine QJ.step (YldS.yld (y_assign rfl)) rfl ?_
            refine QJ.done ?_
            refine PJ.next ?_
            refine WJ.block ?_
            refine WJ.sel (L' := (fun (x : Int) => [row v27 51 fSparePart r25.1, row v28 2 fI64 r25.2, row v9 51 fSparePart r7.1, row v10 2 fI64 r7.2]) 0) [0, 1, 2, 3] ⟨by decide, rfl⟩ ?_
            refine WJ.sub (m' := (fun (x : Int) => [(3, v9), (4, v10), (6, .int .i64 r11.2), (7, .int .i64 r13.1), (11, .int .i64 r17.1), (17, v27), (18, v28), (21, .int .i64 r31.1), (24, .int .i64 x)]) 0) ⟨rfl, rfl, rfl, rfl, rfl, rfl, rfl, rfl, rfl, trivial⟩ ?_
            refine WJ.loop (X := Int) (fun N (x : Int) => w_FnStores_l2 k91 r25 r31 N x = some r) (fun (x : Int) => [(3, v9), (4, v10), (6, .int .i64 r11.2), (7, .int .i64 r13.1), (11, .int .i64 r17.1), (17, v27), (18, v28), (21, .int .i64 r31.1), (24, .int .i64 x)]) (fun (x : Int) => [row v27 51 fSparePart r25.1, row v28 2 fI64 r25.2, row v9 51 fSparePart r7.1, row v10 2 fI64 r7.2]) ?_ N 0 hm
            · rintro N x94 hI
              have hm := hI; clear hI
              cases N with
              | zero => cases hm
              | succ N =>
              unfold w_FnStores_l2 at hm
              refine WJ.seq ?_
              refine WJ.seq ?_
              refine WJ.quiet ?_
              refine QJ.step (YldS.yld (y_move rfl)) rfl ?_
              refine QJ.step (YldS.yld (y_move rfl)) rfl ?_
              refine QJ.step (YldS.yld (y_lenRow (k := 0) rfl Try.runUnderlying25 rfl)) rfl ?_
              refine QJ.step (YldS.yld (y_bin rfl rfl rfl)) rfl ?_
              refine QJ.done ?_
              refine PJ.next ?_
              refine WJ.cond (t := decide (x94 < (List.length r25.1 : Int))) rfl (fun hb95 => ?_) (fun hb95 => ?_)
              · replace hm := ifT hm hb95
                refine WJ.skip ?_
                refine PJ.next ?_
                refine WJ.seq ?_
                refine WJ.block ?_
                refine WJ.seq ?_
                refine WJ.quiet_draw follows (by kernel_rfl) ?_
                refine QJ.step (YldS.yld (y_move rfl)) rfl ?_
                refine QJ.step (YldS.yld (y_move rfl)) rfl ?_
                obtain ⟨e96, h97, hm⟩ := bindS hm
                refine QJ.step (YldS.yld (y_ixRow (k := 1) (R := fI64) rfl Try.runUnderlying33 Try.sizeOf2 rfl rfl h97)) rfl ?_
                refine QJ.step (YldS.yld (y_loadR (k := 1) (i := (Int.toNat x94)) (off := 0) (u := .int .i64 e96) rfl Try.isAgg2 rfl (idx_get h97) rfl)) rfl ?_
                refine QJ.step (YldS.yld (y_move rfl)) rfl ?_
                refine QJ.step (YldS.yld (y_move rfl)) rfl ?_
                obtain ⟨e98, h99, hm⟩ := bindS hm
                refine QJ.step (YldS.yld (y_ixRow (k := 0) (R := fSparePart) rfl Try.runUnderlying25 Try.sizeOf51 rfl rfl h99)) rfl ?_
                refine QJ.step (YldS.yld (y_fldR fld51_1 rfl)) rfl ?_
                refine QJ.step (YldS.yld (y_loadR (k := 0) (i := (Int.toNat x94)) (off := 1) (u := .int .i64 e98.stock) rfl Try.isAgg2 rfl (idx_get h99) rfl)) rfl ?_
                refine QJ.step (YldS.yld (y_bin rfl rfl rfl)) rfl ?_
                refine QJ.step (YldS.yld (y_move rfl)) rfl ?_
                obtain ⟨t100, h101, hm⟩ := bindS hm
                refine QJ.cut 8 [(3, v9), (4, v10), (6, .int .i64 r11.2), (7, .int .i64 r13.1), (11, .int .i64 r17.1), (17, v27), (18, v28), (21, .int .i64 r31.1), (24, .int .i64 x94), (207, .bool t100)] ?_ ?_
                · rcases Bool.eq_false_or_eq_true (decide (e96 > e98.stock)) with hb102 | hb102
                  · replace h101 := andT h101 hb102
                    refine QJ.on rfl rfl (cB hb102) (YldS.yld (y_move rfl)) rfl ?_
                    refine QJ.on rfl rfl (cB hb102) (YldS.yld (y_move rfl)) rfl ?_
                    obtain ⟨e103, h104, h101⟩ := bindS h101
                    refine QJ.on rfl rfl (cB hb102) (YldS.yld (y_ixRow (k := 0) (R := fSparePart) rfl Try.runUnderlying25 Try.sizeOf51 rfl rfl h104)) rfl ?_
                    refine QJ.on rfl rfl (cB hb102) (YldS.yld (y_fldR fld51_3 rfl)) rfl ?_
                    refine QJ.on rfl rfl (cB hb102) (YldS.yld (y_loadR (k := 0) (i := (Int.toNat x94)) (off := 3) (u := .int .i64 e103.days) rfl Try.isAgg2 rfl (idx_get h104) rfl)) rfl ?_
                    refine QJ.on rfl rfl (cB hb102) (YldS.yld (y_move rfl)) rfl ?_
                    refine QJ.on rfl rfl (cB hb102) (YldS.yld (y_bin rfl rfl rfl)) rfl ?_
                    refine QJ.step (YldS.yld (y_pick_t (cB hb102) rfl)) rfl ?_
                    obtain rfl := Option.some.inj h101
                    exact QJ.cut_end ⟨rfl, rfl, rfl, rfl, rfl, rfl, rfl, rfl, rfl, rfl, trivial⟩
                  · obtain rfl := andF h101 hb102
                    refine QJ.off rfl rfl (cB hb102) rfl rfl ?_
                    refine QJ.off rfl rfl (cB hb102) rfl rfl ?_
                    refine QJ.off rfl rfl (cB hb102) rfl rfl ?_
                    refine QJ.off rfl rfl (cB hb102) rfl rfl ?_
                    refine QJ.off rfl rfl (cB hb102) rfl rfl ?_
                    refine QJ.off rfl rfl (cB hb102) rfl rfl ?_
                    refine QJ.off rfl rfl (cB hb102) rfl rfl ?_
                    refine QJ.step (YldS.yld (y_pick_f (cB hb102) rfl)) rfl ?_
                    exact QJ.cut_end ⟨rfl, rfl, rfl, rfl, rfl, rfl, rfl, rfl, rfl, rfl, trivial⟩
                refine QJ.done ?_
                refine PJ.next ?_
                refine WJ.cond (t := t100) rfl (fun hb105 => ?_) (fun hb105 => ?_)
                · replace hm := ifT hm hb105
                  refine WJ.seq ?_
                  refine WJ.quiet ?_
                  refine QJ.step (YldS.yld (y_assign rfl)) rfl ?_
                  refine QJ.done ?_
                  refine PJ.next ?_
                  refine WJ.ret ?_
                  refine PJ.block_ret (PJ.then_ret (PJ.then_ret (PJ.block_ret (PJ.then_ret ?_))))
                  obtain rfl := Option.some.inj hm
                  refine PJ.sel (L' := []) [] ⟨List.nodup_nil, rfl⟩ ?_
                  exact PJ.retn (vs := [.bool false]) Try.results12 ⟨rfl, trivial⟩ ⟨rfl, rfl⟩
                · replace hm := ifF hm hb105
                  refine WJ.skip ?_
                  refine PJ.block_normal (PJ.next ?_)
                  refine WJ.quiet ?_
                  refine QJ.step (YldS.yld (y_move rfl)) rfl ?_
                  refine QJ.step (YldS.yld (y_bin rfl rfl rfl)) rfl ?_
                  refine QJ.step (YldS.yld (y_assign rfl)) rfl ?_
                  refine QJ.done ?_
                  exact PJ.round (w64 (x94 + 1)) [0, 1, 2, 3] hm ⟨rfl, rfl, rfl, rfl, rfl, rfl, rfl, rfl, rfl, trivial⟩ ⟨by decide, rfl⟩
              · replace hm := ifF hm hb95
                refine WJ.exit ?_
                refine PJ.then_exit (PJ.then_exit (PJ.block_exit ?_))
                exact PJ.joined () [2, 3] hm ⟨rfl, rfl, rfl, rfl, rfl, trivial⟩ ⟨by decide, rfl⟩
          · replace hm := ifF hm hb93
            refine WJ.skip ?_
            exact PJ.joined () [2, 3] hm ⟨rfl, rfl, rfl, rfl, rfl, trivial⟩ ⟨by decide, rfl⟩
        · rintro _ hm
          subst hk92
          refine WJ.seq ?_
          refine WJ.seq ?_
          refine WJ.quiet ?_
          refine QJ.step (YldS.yld (y_move rfl)) rfl ?_
          refine QJ.step (YldS.yld (y_bin rfl rfl rfl)) rfl ?_
          refine QJ.done ?_
          refine PJ.next ?_
          refine WJ.cond (t := (r11.2 != 0)) rfl (fun hb106 => ?_) (fun hb106 => ?_)
          · replace hm := ifT hm hb106
            refine WJ.seq ?_
            refine WJ.quiet ?_
            refine QJ.step (YldS.yld (y_assign rfl)) rfl ?_
            refine QJ.done ?_
            refine PJ.next ?_
            refine WJ.ret ?_
            refine PJ.then_ret ?_
            obtain rfl := Option.some.inj hm
            refine PJ.sel (L' := []) [] ⟨List.nodup_nil, rfl⟩ ?_
            exact PJ.retn (vs := [.bool true]) Try.results12 ⟨rfl, trivial⟩ ⟨rfl, rfl⟩
          · replace hm := ifF hm hb106
            refine WJ.skip ?_
            refine PJ.next ?_
            obtain ⟨k107, hk108, hm⟩ := withK_open hm
            refine WJ.join (X := Unit) (fun (_ : Unit) => k107  = some r) (fun (_ : Unit) => [(3, v9), (4, v10), (7, .int .i64 r13.1), (11, .int .i64 r17.1)]) (fun (_ : Unit) => [row v9 51 fSparePart r7.1, row v10 2 fI64 r7.2]) ?_ ?_
            · clear hk108
              refine WJ.seq ?_
              refine WJ.quiet ?_
              refine QJ.step (YldS.yld (y_assign rfl)) rfl ?_
              refine QJ.done ?_
              refine PJ.next ?_
              refine WJ.block ?_
              refine WJ.sel (L' := (fun (x : Int) => [row v9 51 fSparePart r7.1, row v10 2 fI64 r7.2]) 0) [0, 1] ⟨by decide, rfl⟩ ?_
              refine WJ.sub (m' := (fun (x : Int) => [(3, v9), (4, v10), (7, .int .i64 r13.1), (11, .int .i64 r17.1), (25, .int .i64 x)]) 0) ⟨rfl, rfl, rfl, rfl, rfl, trivial⟩ ?_
              refine WJ.loop (X := Int) (fun N (x : Int) => w_FnStores_l3 k107 r7 r13 N x = some r) (fun (x : Int) => [(3, v9), (4, v10), (7, .int .i64 r13.1), (11, .int .i64 r17.1), (25, .int .i64 x)]) (fun (x : Int) => [row v9 51 fSparePart r7.1, row v10 2 fI64 r7.2]) ?_ N 0 hm
              · rintro N x109 hI
                have hm := hI; clear hI
                cases N with
                | zero => cases hm
                | succ N =>
                unfold w_FnStores_l3 at hm
                refine WJ.seq ?_
                refine WJ.seq ?_
                refine WJ.quiet ?_
                refine QJ.step (YldS.yld (y_move rfl)) rfl ?_
                refine QJ.step (YldS.yld (y_move rfl)) rfl ?_
                refine QJ.step (YldS.yld (y_lenRow (k := 0) rfl Try.runUnderlying25 rfl)) rfl ?_
                refine QJ.step (YldS.yld (y_bin rfl rfl rfl)) rfl ?_
                refine QJ.done ?_
                refine PJ.next ?_
                refine WJ.cond (t := decide (x109 < (List.length r7.1 : Int))) rfl (fun hb110 => ?_) (fun hb110 => ?_)
                · replace hm := ifT hm hb110
                  refine WJ.skip ?_
                  refine PJ.next ?_
                  refine WJ.seq ?_
                  refine WJ.block ?_
                  refine WJ.seq ?_
                  refine WJ.quiet_draw follows (by kernel_rfl) ?_
                  refine QJ.step (YldS.yld (y_move rfl)) rfl ?_
                  refine QJ.step (YldS.yld (y_move rfl)) rfl ?_
                  refine QJ.step (YldS.yld (y_move rfl)) rfl ?_
                  obtain ⟨e111, h112, hm⟩ := bindS hm
                  refine QJ.step (YldS.yld (y_ixRow (k := 1) (R := fI64) rfl Try.runUnderlying33 Try.sizeOf2 rfl rfl h112)) rfl ?_
                  refine QJ.step (YldS.yld (y_loadR (k := 1) (i := (Int.toNat x109)) (off := 0) (u := .int .i64 e111) rfl Try.isAgg2 rfl (idx_get h112) rfl)) rfl ?_
                  refine QJ.step (YldS.yld (y_bin rfl rfl rfl)) rfl ?_
                  refine QJ.step (YldS.yld (y_move rfl)) rfl ?_
                  refine QJ.step (YldS.yld (y_move rfl)) rfl ?_
                  obtain ⟨e113, h114, hm⟩ := bindS hm
                  refine QJ.step (YldS.yld (y_ixRow (k := 0) (R := fSparePart) rfl Try.runUnderlying25 Try.sizeOf51 rfl rfl h114)) rfl ?_
                  refine QJ.step (YldS.yld (y_fldR fld51_1 rfl)) rfl ?_
                  refine QJ.step (YldS.yld (y_loadR (k := 0) (i := (Int.toNat x109)) (off := 1) (u := .int .i64 e113.stock) rfl Try.isAgg2 rfl (idx_get h114) rfl)) rfl ?_
                  refine QJ.step (YldS.yld (y_bin rfl rfl rfl)) rfl ?_
                  refine QJ.done ?_
                  refine PJ.next ?_
                  refine WJ.cond (t := decide ((w64 (r13.1 * e111)) > e113.stock)) rfl (fun hb115 => ?_) (fun hb115 => ?_)
                  · replace hm := ifT hm hb115
                    refine WJ.seq ?_
                    refine WJ.quiet ?_
                    refine QJ.step (YldS.yld (y_assign rfl)) rfl ?_
                    refine QJ.done ?_
                    refine PJ.next ?_
                    refine WJ.ret ?_
                    refine PJ.block_ret (PJ.then_ret (PJ.then_ret (PJ.block_ret (PJ.then_ret ?_))))
                    obtain rfl := Option.some.inj hm
                    refine PJ.sel (L' := []) [] ⟨List.nodup_nil, rfl⟩ ?_
                    exact PJ.retn (vs := [.bool false]) Try.results12 ⟨rfl, trivial⟩ ⟨rfl, rfl⟩
                  · replace hm := ifF hm hb115
                    refine WJ.skip ?_
                    refine PJ.block_normal (PJ.next ?_)
                    refine WJ.quiet ?_
                    refine QJ.step (YldS.yld (y_move rfl)) rfl ?_
                    refine QJ.step (YldS.yld (y_bin rfl rfl rfl)) rfl ?_
                    refine QJ.step (YldS.yld (y_assign rfl)) rfl ?_
                    refine QJ.done ?_
                    exact PJ.round (w64 (x109 + 1)) [0, 1] hm ⟨rfl, rfl, rfl, rfl, rfl, trivial⟩ ⟨by decide, rfl⟩
                · replace hm := ifF hm hb110
                  refine WJ.exit ?_
                  refine PJ.then_exit (PJ.then_exit (PJ.block_exit ?_))
                  exact PJ.joined () [0, 1] hm ⟨rfl, rfl, rfl, rfl, trivial⟩ ⟨by decide, rfl⟩
            · rintro _ hm
              subst hk108
              refine WJ.seq ?_
              refine WJ.quiet_draw follows (by kernel_rfl) ?_
              refine QJ.step (YldS.yld (y_move rfl)) rfl ?_
              refine QJ.step (YldS.yld (y_move rfl)) rfl ?_
              obtain ⟨e116, h117, hm⟩ := bindS hm
              refine QJ.step (YldS.yld (y_ixRow (k := 1) (R := fI64) rfl Try.runUnderlying33 Try.sizeOf2 rfl rfl h117)) rfl ?_
              refine QJ.step (YldS.yld (y_loadR (k := 1) (i := (Int.toNat r17.1)) (off := 0) (u := .int .i64 e116) rfl Try.isAgg2 rfl (idx_get h117) rfl)) rfl ?_
              refine QJ.step (YldS.yld (y_bin rfl rfl rfl)) rfl ?_
              refine QJ.step (YldS.yld (y_move rfl)) rfl ?_
              obtain ⟨t118, h119, hm⟩ := bindS hm
              refine QJ.cut 14 [(247, .bool t118)] ?_ ?_
              · rcases Bool.eq_false_or_eq_true (decide (e116 > 0)) with hb120 | hb120
                · replace h119 := andT h119 hb120
                  refine QJ.on rfl rfl (cB hb120) (YldS.yld (y_move rfl)) rfl ?_
                  refine QJ.on rfl rfl (cB hb120) (YldS.yld (y_bin rfl rfl rfl)) rfl ?_
                  refine QJ.on rfl rfl (cB hb120) (YldS.yld (y_move rfl)) rfl ?_
                  refine QJ.on rfl rfl (cB hb120) (YldS.yld (y_move rfl)) rfl ?_
                  obtain ⟨e121, h122, h119⟩ := bindS h119
                  refine QJ.on rfl rfl (cB hb120) (YldS.yld (y_ixRow (k := 1) (R := fI64) rfl Try.runUnderlying33 Try.sizeOf2 rfl rfl h122)) rfl ?_
                  refine QJ.on rfl rfl (cB hb120) (YldS.yld (y_loadR (k := 1) (i := (Int.toNat r17.1)) (off := 0) (u := .int .i64 e121) rfl Try.isAgg2 rfl (idx_get h122) rfl)) rfl ?_
                  refine QJ.on rfl rfl (cB hb120) (YldS.yld (y_bin rfl rfl rfl)) rfl ?_
                  refine QJ.on rfl rfl (cB hb120) (YldS.yld (y_move rfl)) rfl ?_
                  refine QJ.on rfl rfl (cB hb120) (YldS.yld (y_move rfl)) rfl ?_
                  obtain ⟨e123, h124, h119⟩ := bindS h119
                  refine QJ.on rfl rfl (cB hb120) (YldS.yld (y_ixRow (k := 0) (R := fSparePart) rfl Try.runUnderlying25 Try.sizeOf51 rfl rfl h124)) rfl ?_
                  refine QJ.on rfl rfl (cB hb120) (YldS.yld (y_fldR fld51_1 rfl)) rfl ?_
                  refine QJ.on rfl rfl (cB hb120) (YldS.yld (y_loadR (k := 0) (i := (Int.toNat r17.1)) (off := 1) (u := .int .i64 e123.stock) rfl Try.isAgg2 rfl (idx_get h124) rfl)) rfl ?_
                  refine QJ.on rfl rfl (cB hb120) (YldS.yld (y_bin rfl rfl rfl)) rfl ?_
                  refine QJ.step (YldS.yld (y_pick_t (cB hb120) rfl)) rfl ?_
                  obtain rfl := Option.some.inj h119
                  exact QJ.cut_end ⟨rfl, trivial⟩
                · obtain rfl := andF h119 hb120
                  refine QJ.off rfl rfl (cB hb120) rfl rfl ?_
                  refine QJ.off rfl rfl (cB hb120) rfl rfl ?_
                  refine QJ.off rfl rfl (cB hb120) rfl rfl ?_
                  refine QJ.off rfl rfl (cB hb120) rfl rfl ?_
                  refine QJ.off rfl rfl (cB hb120) rfl rfl ?_
                  refine QJ.off rfl rfl (cB hb120) rfl rfl ?_
                  refine QJ.off rfl rfl (cB hb120) rfl rfl ?_
                  refine QJ.off rfl rfl (cB hb120) rfl rfl ?_
                  refine QJ.off rfl rfl (cB hb120) rfl rfl ?_
                  refine QJ.off rfl rfl (cB hb120) rfl rfl ?_
                  refine QJ.off rfl rfl (cB hb120) rfl rfl ?_
                  refine QJ.off rfl rfl (cB hb120) rfl rfl ?_
                  refine QJ.off rfl rfl (cB hb120) rfl rfl ?_
                  refine QJ.step (YldS.yld (y_pick_f (cB hb120) rfl)) rfl ?_
                  exact QJ.cut_end ⟨rfl, trivial⟩
              refine QJ.step (YldS.yld (y_assign rfl)) rfl ?_
              refine QJ.done ?_
              refine PJ.next ?_
              refine WJ.ret ?_
              obtain rfl := Option.some.inj hm
              refine PJ.sel (L' := []) [] ⟨List.nodup_nil, rfl⟩ ?_
              exact PJ.retn (vs := [.bool t118]) Try.results12 ⟨rfl, trivial⟩ ⟨rfl, rfl⟩

end Go.Proofs.Ytffaepmojpanoaa
