/-
  The walks: a call hands back what its plain function computes, where that has a value. No other conditions.
-/
import Derived.Test.YthkckgiicchpnaaFnTypedActsW
import Derived.Test.YthkckgiicchpnaaChecked
namespace Go.Proofs.Ythkckgiicchpnaa
open Go.RowKit Go.Proofs
set_option linter.unusedVariables false
set_option linter.unusedSimpArgs false

set_option maxRecDepth 100000 in
set_option maxHeartbeats 1000000 in
theorem ok_i_LockedAt {N : Nat} {c1 : Carriage} {acts2 : List Act} {r : Int × Int} (hm : i_LockedAt N c1 acts2 = some r) (w : World) (v3 : Value) (hr4 : RdS w (cx w).Fz v3 fAct.rp acts2) :
    Calls Try.prog 26 #[.agg (Carriage.enc c1).toArray, v3] w (Ret (cx w) (tup [.int .i64 r.1, .int .i64 r.2])) := by
  unfold i_LockedAt at hm
  refine Calls.enter [.agg (Carriage.enc c1).toArray, v3] Try.func26 rfl Try.ntmps26 rfl ?_
  refine WJ.seq ?_
  refine WJ.reg ?_
  refine SJ.box (cs := [.int .i64 c1.left, .int .i64 c1.right, .int .i64 c1.bell]) rfl rfl rfl fun g5 => ?_
  refine SJ.q (YldS.yld (y_assign rfl)) rfl ?_
  refine SJ.q (YldS.yld (y_assign rfl)) rfl ?_
  refine SJ.nil ?_
  refine PJ.next ?_
  refine WJ.seq ?_
  refine WJ.seq ?_
  refine WJ.quiet ?_
  refine QJ.step (YldS.yld (y_loadBN (k := 0) (off := 0) (us := [.int .i64 c1.left, .int .i64 c1.right, .int .i64 c1.bell]) rfl Try.isAgg45 Try.sizeOf45 rfl rfl)) rfl ?_
  obtain ⟨r6, h7, hm⟩ := bindS hm
  refine QJ.step (y_call Try.call35 rfl (RetG.quiet fun w hw => ok_i_ValidCarriage h7 w )) rfl ?_
  refine QJ.step (YldS.yld (y_not rfl)) rfl ?_
  refine QJ.step (YldS.yld (y_move rfl)) rfl ?_
  obtain ⟨t8, h9, hm⟩ := bindS hm
  refine QJ.cut 4 [(1, v3), (2, pt g5 0), (14, .bool t8)] ?_ ?_
  · rcases Bool.eq_false_or_eq_true (!r6) with hb10 | hb10
    · obtain rfl := orT h9 hb10
      refine QJ.off rfl rfl (cB hb10) rfl rfl ?_
      refine QJ.off rfl rfl (cB hb10) rfl rfl ?_
      refine QJ.off rfl rfl (cB hb10) rfl rfl ?_
      refine QJ.step (YldS.yld (y_pick_t (cB hb10) rfl)) rfl ?_
      exact QJ.cut_end ⟨rfl, rfl, rfl, trivial⟩
    · replace h9 := orF h9 hb10
      refine QJ.on rfl rfl (cB hb10) (YldS.yld (y_move rfl)) rfl ?_
      obtain ⟨r11, h12, h9⟩ := bindS h9
      refine QJ.on rfl rfl (cB hb10) (y_call Try.call33 rfl (RetG.quiet fun w hw => ok_i_ValidActs h12 w _ (hr4.st hw))) rfl ?_
      refine QJ.on rfl rfl (cB hb10) (YldS.yld (y_not rfl)) rfl ?_
      refine QJ.step (YldS.yld (y_pick_f (cB hb10) rfl)) rfl ?_
      obtain rfl := Option.some.inj h9
      exact QJ.cut_end ⟨rfl, rfl, rfl, trivial⟩
  refine QJ.done ?_
  refine PJ.next ?_
  refine WJ.cond (t := t8) rfl (fun hb13 => ?_) (fun hb13 => ?_)
  · replace hm := ifT hm hb13
    refine WJ.seq ?_
    refine WJ.quiet ?_
    refine QJ.step (YldS.yld (y_assign rfl)) rfl ?_
    refine QJ.step (YldS.yld (y_assign rfl)) rfl ?_
    refine QJ.done ?_
    refine PJ.next ?_
    refine WJ.ret ?_
    refine PJ.then_ret ?_
    obtain rfl := Option.some.inj hm
    refine PJ.sel (L' := []) [] ⟨List.nodup_nil, rfl⟩ ?_
    exact PJ.retn (vs := [.int .i64 0, .int .i64 1]) Try.results26 ⟨rfl, rfl, trivial⟩ ⟨rfl, rfl⟩
  · replace hm := ifF hm hb13
    refine WJ.skip ?_
    refine PJ.next ?_
    refine WJ.seq ?_
    refine WJ.reg ?_
    refine SJ.q (YldS.yld (y_loadBN (k := 0) (off := 0) (us := [.int .i64 c1.left, .int .i64 c1.right, .int .i64 c1.bell]) rfl Try.isAgg45 Try.sizeOf45 rfl rfl)) rfl ?_
    refine SJ.q (YldS.yld (y_move rfl)) rfl ?_
    obtain ⟨r14, h15, hm⟩ := bindS hm
    refine SJ.call Try.call89 rfl (fun w hw => ok_i_typed h15 w _ (hr4.st hw)) rfl ?_
    rintro _ _ ⟨v16, rfl, rfl⟩
    refine SJ.alloc (cs := [.slice none 0 0, .int .i64 0, .int .i64 0, .int .i64 0]) Try.zeroValue118 rfl rfl fun g17 => ?_
    refine SJ.rowCells (k := 1) rfl fun hc18 => ?_
    refine SJ.storeL (k := 0) (off := 0) (us := [v16, .int .i64 r14.place, .int .i64 r14.bells, .int .i64 r14.stopped]) rfl rfl rfl rfl Try.sizeOf118 rfl (by simp only [List.all_cons, hc18.2]; rfl) ?_
    refine SJ.nil ?_
    refine PJ.next ?_
    refine WJ.seq ?_
    refine WJ.seq ?_
    refine WJ.quiet ?_
    refine QJ.step (YldS.yld (y_fldB (o := 0) fld118_3 rfl)) rfl ?_
    refine QJ.step (YldS.yld (y_loadB (k := 0) (off := 3) (v := .int .i64 r14.stopped) rfl Try.isAgg2 rfl rfl)) rfl ?_
    refine QJ.step (YldS.yld (y_bin rfl rfl rfl)) rfl ?_
    refine QJ.done ?_
    refine PJ.next ?_
    refine WJ.cond (t := decide (r14.stopped < 0)) rfl (fun hb19 => ?_) (fun hb19 => ?_)
    · replace hm := ifT hm hb19
      refine WJ.seq ?_
      refine WJ.quiet ?_
      refine QJ.step (YldS.yld (y_assign rfl)) rfl ?_
      refine QJ.step (YldS.yld (y_assign rfl)) rfl ?_
      refine QJ.done ?_
      refine PJ.next ?_
      refine WJ.ret ?_
      refine PJ.then_ret ?_
      obtain rfl := Option.some.inj hm
      refine PJ.sel (L' := []) [] ⟨List.nodup_nil, rfl⟩ ?_
      exact PJ.retn (vs := [.int .i64 0, .int .i64 3]) Try.results26 ⟨rfl, rfl, trivial⟩ ⟨rfl, rfl⟩
    · replace hm := ifF hm hb19
      refine WJ.skip ?_
      refine PJ.next ?_
      refine WJ.seq ?_
      refine WJ.quiet ?_
      refine QJ.step (YldS.yld (y_fldB (o := 0) fld118_3 rfl)) rfl ?_
      refine QJ.step (YldS.yld (y_loadB (k := 0) (off := 3) (v := .int .i64 r14.stopped) rfl Try.isAgg2 rfl rfl)) rfl ?_
      refine QJ.step (YldS.yld (y_assign rfl)) rfl ?_
      refine QJ.step (YldS.yld (y_assign rfl)) rfl ?_
      refine QJ.done ?_
      refine PJ.next ?_
      refine WJ.ret ?_
      obtain rfl := Option.some.inj hm
      refine PJ.sel (L' := []) [] ⟨List.nodup_nil, rfl⟩ ?_
      exact PJ.retn (vs := [.int .i64 r14.stopped, .int .i64 0]) Try.results26 ⟨rfl, rfl, trivial⟩ ⟨rfl, rfl⟩

set_option maxRecDepth 100000 in
set_option maxHeartbeats 1000000 in
theorem ok_s_LockedAt {N : Nat} {c1 : Carriage} {acts2 : List Act} {r : Int × Int} (hm : s_LockedAt N c1 acts2 = some r) (w : World) (v3 : Value) (hr4 : RdS w (cx w).Fz v3 fAct.rp acts2) :
    Calls Try.prog 27 #[.agg (Carriage.enc c1).toArray, v3] w (Ret (cx w) (tup [.int .i64 r.1, .int .i64 r.2])) := by
  unfold s_LockedAt at hm
  refine Calls.enter [.agg (Carriage.enc c1).toArray, v3] Try.func27 rfl Try.ntmps27 rfl ?_
  refine WJ.seq ?_
  refine WJ.reg ?_
  refine SJ.box (cs := [.int .i64 c1.left, .int .i64 c1.right, .int .i64 c1.bell]) rfl rfl rfl fun g5 => ?_
  refine SJ.q (YldS.yld (y_assign rfl)) rfl ?_
  refine SJ.q (YldS.yld (y_assign rfl)) rfl ?_
  refine SJ.nil ?_
  refine PJ.next ?_
  refine WJ.seq ?_
  refine WJ.seq ?_
  refine WJ.quiet ?_
  refine QJ.step (YldS.yld (y_loadBN (k := 0) (off := 0) (us := [.int .i64 c1.left, .int .i64 c1.right, .int .i64 c1.bell]) rfl Try.isAgg45 Try.sizeOf45 rfl rfl)) rfl ?_
  refine QJ.step (YldS.yld (y_move rfl)) rfl ?_
  obtain ⟨r6, h7, hm⟩ := bindS hm
  refine QJ.step (y_call Try.call90 rfl (RetG.quiet fun w hw => ok_s_l04Both h7 w _ (hr4.st hw))) rfl ?_
  refine QJ.step (YldS.yld (y_not rfl)) rfl ?_
  refine QJ.done ?_
  refine PJ.next ?_
  refine WJ.cond (t := !r6) rfl (fun hb8 => ?_) (fun hb8 => ?_)
  · replace hm := ifT hm hb8
    refine WJ.seq ?_
    refine WJ.quiet ?_
    refine QJ.step (YldS.yld (y_assign rfl)) rfl ?_
    refine QJ.step (YldS.yld (y_assign rfl)) rfl ?_
    refine QJ.done ?_
    refine PJ.next ?_
    refine WJ.ret ?_
    refine PJ.then_ret ?_
    obtain rfl := Option.some.inj hm
    refine PJ.sel (L' := []) [] ⟨List.nodup_nil, rfl⟩ ?_
    exact PJ.retn (vs := [.int .i64 0, .int .i64 1]) Try.results27 ⟨rfl, rfl, trivial⟩ ⟨rfl, rfl⟩
  · replace hm := ifF hm hb8
    refine WJ.skip ?_
    refine PJ.next ?_
    refine WJ.seq ?_
    refine WJ.reg ?_
    refine SJ.q (YldS.yld (y_loadBN (k := 0) (off := 0) (us := [.int .i64 c1.left, .int .i64 c1.right, .int .i64 c1.bell]) rfl Try.isAgg45 Try.sizeOf45 rfl rfl)) rfl ?_
    refine SJ.q (YldS.yld (y_move rfl)) rfl ?_
    obtain ⟨r9, h10, hm⟩ := bindS hm
    refine SJ.call Try.call91 rfl (fun w hw => ok_s_l04Run h10 w _ (hr4.st hw)) rfl ?_
    rintro _ _ ⟨g11, v12, rfl, rfl⟩
    refine SJ.q (YldS.yld (y_move rfl)) rfl ?_
    refine SJ.q (YldS.yld (y_extract rfl rfl)) rfl ?_
    refine SJ.q (YldS.yld (y_extract rfl rfl)) rfl ?_
    refine SJ.q (YldS.yld (y_assign rfl)) rfl ?_
    refine SJ.q (YldS.yld (y_assign rfl)) rfl ?_
    refine SJ.nil ?_
    refine PJ.next ?_
    refine WJ.seq ?_
    refine WJ.seq ?_
    refine WJ.quiet ?_
    refine QJ.step (YldS.yld (y_move rfl)) rfl ?_
    refine QJ.step (YldS.yld (y_move rfl)) rfl ?_
    refine QJ.step (YldS.yld (y_lenS Try.runUnderlying48 hr4 rfl)) rfl ?_
    refine QJ.step (YldS.yld (y_bin rfl rfl rfl)) rfl ?_
    refine QJ.done ?_
    refine PJ.next ?_
    refine WJ.cond (t := (r9.2 == (List.length acts2 : Int))) rfl (fun hb13 => ?_) (fun hb13 => ?_)
    · replace hm := ifT hm hb13
      refine WJ.seq ?_
      refine WJ.quiet ?_
      refine QJ.step (YldS.yld (y_assign rfl)) rfl ?_
      refine QJ.step (YldS.yld (y_assign rfl)) rfl ?_
      refine QJ.done ?_
      refine PJ.next ?_
      refine WJ.ret ?_
      refine PJ.then_ret ?_
      obtain rfl := Option.some.inj hm
      refine PJ.sel (L' := []) [] ⟨List.nodup_nil, rfl⟩ ?_
      exact PJ.retn (vs := [.int .i64 0, .int .i64 3]) Try.results27 ⟨rfl, rfl, trivial⟩ ⟨rfl, rfl⟩
    · replace hm := ifF hm hb13
      refine WJ.skip ?_
      refine PJ.next ?_
      refine WJ.seq ?_
      refine WJ.quiet ?_
      refine QJ.step (YldS.yld (y_move rfl)) rfl ?_
      refine QJ.step (YldS.yld (y_assign rfl)) rfl ?_
      refine QJ.step (YldS.yld (y_assign rfl)) rfl ?_
      refine QJ.done ?_
      refine PJ.next ?_
      refine WJ.ret ?_
      obtain rfl := Option.some.inj hm
      refine PJ.sel (L' := []) [] ⟨List.nodup_nil, rfl⟩ ?_
      exact PJ.retn (vs := [.int .i64 r9.2, .int .i64 0]) Try.results27 ⟨rfl, rfl, trivial⟩ ⟨rfl, rfl⟩

set_option maxRecDepth 100000 in
set_option maxHeartbeats 1000000 in
theorem ok_i_BellsOf {N : Nat} {c1 : Carriage} {acts2 : List Act} {r : Int × Int} (hm : i_BellsOf N c1 acts2 = some r) (w : World) (v3 : Value) (hr4 : RdS w (cx w).Fz v3 fAct.rp acts2) :
    Calls Try.prog 28 #[.agg (Carriage.enc c1).toArray, v3] w (Ret (cx w) (tup [.int .i64 r.1, .int .i64 r.2])) := by
  unfold i_BellsOf at hm
  refine Calls.enter [.agg (Carriage.enc c1).toArray, v3] Try.func28 rfl Try.ntmps28 rfl ?_
  refine WJ.seq ?_
  refine WJ.reg ?_
  refine SJ.box (cs := [.int .i64 c1.left, .int .i64 c1.right, .int .i64 c1.bell]) rfl rfl rfl fun g5 => ?_
  refine SJ.q (YldS.yld (y_assign rfl)) rfl ?_
  refine SJ.q (YldS.yld (y_assign rfl)) rfl ?_
  refine SJ.nil ?_
  refine PJ.next ?_
  refine WJ.seq ?_
  refine WJ.seq ?_
  refine WJ.quiet ?_
  refine QJ.step (YldS.yld (y_loadBN (k := 0) (off := 0) (us := [.int .i64 c1.left, .int .i64 c1.right, .int .i64 c1.bell]) rfl Try.isAgg45 Try.sizeOf45 rfl rfl)) rfl ?_
  obtain ⟨r6, h7, hm⟩ := bindS hm
  refine QJ.step (y_call Try.call35 rfl (RetG.quiet fun w hw => ok_i_ValidCarriage h7 w )) rfl ?_
  refine QJ.step (YldS.yld (y_not rfl)) rfl ?_
  refine QJ.step (YldS.yld (y_move rfl)) rfl ?_
  obtain ⟨t8, h9, hm⟩ := bindS hm
  refine QJ.cut 4 [(1, v3), (2, pt g5 0), (13, .bool t8)] ?_ ?_
  · rcases Bool.eq_false_or_eq_true (!r6) with hb10 | hb10
    · obtain rfl := orT h9 hb10
      refine QJ.off rfl rfl (cB hb10) rfl rfl ?_
      refine QJ.off rfl rfl (cB hb10) rfl rfl ?_
      refine QJ.off rfl rfl (cB hb10) rfl rfl ?_
      refine QJ.step (YldS.yld (y_pick_t (cB hb10) rfl)) rfl ?_
      exact QJ.cut_end ⟨rfl, rfl, rfl, trivial⟩
    · replace h9 := orF h9 hb10
      refine QJ.on rfl rfl (cB hb10) (YldS.yld (y_move rfl)) rfl ?_
      obtain ⟨r11, h12, h9⟩ := bindS h9
      refine QJ.on rfl rfl (cB hb10) (y_call Try.call33 rfl (RetG.quiet fun w hw => ok_i_ValidActs h12 w _ (hr4.st hw))) rfl ?_
      refine QJ.on rfl rfl (cB hb10) (YldS.yld (y_not rfl)) rfl ?_
      refine QJ.step (YldS.yld (y_pick_f (cB hb10) rfl)) rfl ?_
      obtain rfl := Option.some.inj h9
      exact QJ.cut_end ⟨rfl, rfl, rfl, trivial⟩
  refine QJ.done ?_
  refine PJ.next ?_
  refine WJ.cond (t := t8) rfl (fun hb13 => ?_) (fun hb13 => ?_)
  · replace hm := ifT hm hb13
    refine WJ.seq ?_
    refine WJ.quiet ?_
    refine QJ.step (YldS.yld (y_assign rfl)) rfl ?_
    refine QJ.step (YldS.yld (y_assign rfl)) rfl ?_
    refine QJ.done ?_
    refine PJ.next ?_
    refine WJ.ret ?_
    refine PJ.then_ret ?_
    obtain rfl := Option.some.inj hm
    refine PJ.sel (L' := []) [] ⟨List.nodup_nil, rfl⟩ ?_
    exact PJ.retn (vs := [.int .i64 0, .int .i64 1]) Try.results28 ⟨rfl, rfl, trivial⟩ ⟨rfl, rfl⟩
  · replace hm := ifF hm hb13
    refine WJ.skip ?_
    refine PJ.next ?_
    refine WJ.seq ?_
    refine WJ.reg ?_
    refine SJ.q (YldS.yld (y_loadBN (k := 0) (off := 0) (us := [.int .i64 c1.left, .int .i64 c1.right, .int .i64 c1.bell]) rfl Try.isAgg45 Try.sizeOf45 rfl rfl)) rfl ?_
    refine SJ.q (YldS.yld (y_move rfl)) rfl ?_
    obtain ⟨r14, h15, hm⟩ := bindS hm
    refine SJ.call Try.call89 rfl (fun w hw => ok_i_typed h15 w _ (hr4.st hw)) rfl ?_
    rintro _ _ ⟨v16, rfl, rfl⟩
    refine SJ.q (YldS.yld (y_fldV (u := .int .i64 r14.bells) fld118_2 Try.isAgg2 rfl rfl)) rfl ?_
    refine SJ.q (YldS.yld (y_assign rfl)) rfl ?_
    refine SJ.q (YldS.yld (y_assign rfl)) rfl ?_
    refine SJ.nil ?_
    refine PJ.next ?_
    refine WJ.ret ?_
    obtain rfl := Option.some.inj hm
    refine PJ.sel (L' := []) [] ⟨List.nodup_nil, rfl⟩ ?_
    exact PJ.retn (vs := [.int .i64 r14.bells, .int .i64 0]) Try.results28 ⟨rfl, rfl, trivial⟩ ⟨rfl, rfl⟩

set_option maxRecDepth 100000 in
set_option maxHeartbeats 1000000 in
theorem ok_s_BellsOf {N : Nat} {c1 : Carriage} {acts2 : List Act} {r : Int × Int} (hm : s_BellsOf N c1 acts2 = some r) (w : World) (v3 : Value) (hr4 : RdS w (cx w).Fz v3 fAct.rp acts2) :
    Calls Try.prog 29 #[.agg (Carriage.enc c1).toArray, v3] w (Ret (cx w) (tup [.int .i64 r.1, .int .i64 r.2])) := by
  unfold s_BellsOf at hm
  refine Calls.enter [.agg (Carriage.enc c1).toArray, v3] Try.func29 rfl Try.ntmps29 rfl ?_
  refine WJ.seq ?_
  refine WJ.reg ?_
  refine SJ.box (cs := [.int .i64 c1.left, .int .i64 c1.right, .int .i64 c1.bell]) rfl rfl rfl fun g5 => ?_
  refine SJ.q (YldS.yld (y_assign rfl)) rfl ?_
  refine SJ.q (YldS.yld (y_assign rfl)) rfl ?_
  refine SJ.nil ?_
  refine PJ.next ?_
  refine WJ.seq ?_
  refine WJ.seq ?_
  refine WJ.quiet ?_
  refine QJ.step (YldS.yld (y_loadBN (k := 0) (off := 0) (us := [.int .i64 c1.left, .int .i64 c1.right, .int .i64 c1.bell]) rfl Try.isAgg45 Try.sizeOf45 rfl rfl)) rfl ?_
  refine QJ.step (YldS.yld (y_move rfl)) rfl ?_
  obtain ⟨r6, h7, hm⟩ := bindS hm
  refine QJ.step (y_call Try.call90 rfl (RetG.quiet fun w hw => ok_s_l04Both h7 w _ (hr4.st hw))) rfl ?_
  refine QJ.step (YldS.yld (y_not rfl)) rfl ?_
  refine QJ.done ?_
  refine PJ.next ?_
  refine WJ.cond (t := !r6) rfl (fun hb8 => ?_) (fun hb8 => ?_)
  · replace hm := ifT hm hb8
    refine WJ.seq ?_
    refine WJ.quiet ?_
    refine QJ.step (YldS.yld (y_assign rfl)) rfl ?_
    refine QJ.step (YldS.yld (y_assign rfl)) rfl ?_
    refine QJ.done ?_
    refine PJ.next ?_
    refine WJ.ret ?_
    refine PJ.then_ret ?_
    obtain rfl := Option.some.inj hm
    refine PJ.sel (L' := []) [] ⟨List.nodup_nil, rfl⟩ ?_
    exact PJ.retn (vs := [.int .i64 0, .int .i64 1]) Try.results29 ⟨rfl, rfl, trivial⟩ ⟨rfl, rfl⟩
  · replace hm := ifF hm hb8
    refine WJ.skip ?_
    refine PJ.next ?_
    refine WJ.seq ?_
    refine WJ.reg ?_
    refine SJ.q (YldS.yld (y_loadBN (k := 0) (off := 0) (us := [.int .i64 c1.left, .int .i64 c1.right, .int .i64 c1.bell]) rfl Try.isAgg45 Try.sizeOf45 rfl rfl)) rfl ?_
    refine SJ.q (YldS.yld (y_move rfl)) rfl ?_
    obtain ⟨r9, h10, hm⟩ := bindS hm
    refine SJ.call Try.call91 rfl (fun w hw => ok_s_l04Run h10 w _ (hr4.st hw)) rfl ?_
    rintro _ _ ⟨g11, v12, rfl, rfl⟩
    refine SJ.q (YldS.yld (y_move rfl)) rfl ?_
    refine SJ.q (YldS.yld (y_extract rfl rfl)) rfl ?_
    refine SJ.q (YldS.yld (y_extract rfl rfl)) rfl ?_
    refine SJ.q (YldS.yld (y_assign rfl)) rfl ?_
    refine SJ.q (YldS.yld (y_assign rfl)) rfl ?_
    refine SJ.nil ?_
    refine PJ.next ?_
    refine WJ.seq ?_
    refine WJ.quiet ?_
    refine QJ.step (YldS.yld (y_move rfl)) rfl ?_
    refine QJ.step (YldS.yld (y_nil rfl)) rfl ?_
    refine QJ.step (YldS.yld (y_fldB (o := 0) fld125_3 rfl)) rfl ?_
    refine QJ.step (YldS.yld (y_loadB (k := 0) (off := 5) (v := .int .i64 r9.1.bells) rfl Try.isAgg2 rfl rfl)) rfl ?_
    refine QJ.step (YldS.yld (y_assign rfl)) rfl ?_
    refine QJ.step (YldS.yld (y_assign rfl)) rfl ?_
    refine QJ.done ?_
    refine PJ.next ?_
    refine WJ.ret ?_
    obtain rfl := Option.some.inj hm
    refine PJ.sel (L' := []) [] ⟨List.nodup_nil, rfl⟩ ?_
    exact PJ.retn (vs := [.int .i64 r9.1.bells, .int .i64 0]) Try.results29 ⟨rfl, rfl, trivial⟩ ⟨rfl, rfl⟩

set_option maxRecDepth 100000 in
set_option maxHeartbeats 1000000 in
theorem ok_s_SameStruck {N : Nat} {a1 : List Struck} {b4 : List Struck} {r : Bool} (hm : s_SameStruck N a1 b4 = some r) (w : World) (v2 : Value) (hr3 : RdS w (cx w).Fz v2 fStruck.rp a1) (v5 : Value) (hr6 : RdS w (cx w).Fz v5 fStruck.rp b4) :
    Calls Try.prog 30 #[v2, v5] w (Ret (cx w) (.bool r)) := by
  unfold s_SameStruck at hm
  refine Calls.enter [v2, v5] Try.func30 rfl Try.ntmps30 rfl ?_
  refine WJ.seq ?_
  refine WJ.quiet ?_
  refine QJ.step (YldS.yld (y_assign rfl)) rfl ?_
  refine QJ.done ?_
  refine PJ.next ?_
  refine WJ.seq ?_
  refine WJ.seq ?_
  refine WJ.quiet ?_
  refine QJ.step (YldS.yld (y_move rfl)) rfl ?_
  refine QJ.step (YldS.yld (y_lenS Try.runUnderlying53 hr3 rfl)) rfl ?_
  refine QJ.step (YldS.yld (y_move rfl)) rfl ?_
  refine QJ.step (YldS.yld (y_lenS Try.runUnderlying53 hr6 rfl)) rfl ?_
  refine QJ.step (YldS.yld (y_bin rfl rfl rfl)) rfl ?_
  refine QJ.done ?_
  refine PJ.next ?_
  refine WJ.cond (t := ((List.length a1 : Int) != (List.length b4 : Int))) rfl (fun hb7 => ?_) (fun hb7 => ?_)
  · replace hm := ifT hm hb7
    refine WJ.seq ?_
    refine WJ.quiet ?_
    refine QJ.step (YldS.yld (y_assign rfl)) rfl ?_
    refine QJ.done ?_
    refine PJ.next ?_
    refine WJ.ret ?_
    refine PJ.then_ret ?_
    obtain rfl := Option.some.inj hm
    refine PJ.sel (L' := []) [] ⟨List.nodup_nil, rfl⟩ ?_
    exact PJ.retn (vs := [.bool false]) Try.results30 ⟨rfl, trivial⟩ ⟨rfl, rfl⟩
  · replace hm := ifF hm hb7
    refine WJ.skip ?_
    refine PJ.next ?_
    obtain ⟨kj8, hk9, hm⟩ := withK_open hm
    refine WJ.join (X := Unit) (fun (_ : Unit) => kj8  = some r) (fun (_ : Unit) => []) (fun (_ : Unit) => []) ?_ ?_
    · clear hk9
      refine WJ.seq ?_
      refine WJ.quiet ?_
      refine QJ.step (YldS.yld (y_assign rfl)) rfl ?_
      refine QJ.done ?_
      refine PJ.next ?_
      refine WJ.block ?_
      refine WJ.sel (L' := (fun (x : Int) => []) 0) [] ⟨List.nodup_nil, rfl⟩ ?_
      refine WJ.sub (m' := (fun (x : Int) => [(0, v2), (1, v5), (5, .int .i64 x)]) 0) ⟨rfl, rfl, rfl, trivial⟩ ?_
      refine WJ.loop (X := Int) (fun N (x : Int) => s_SameStruck_l1 kj8 a1 b4 N x = some r) (fun (x : Int) => [(0, v2), (1, v5), (5, .int .i64 x)]) (fun (x : Int) => []) ?_ N 0 hm
      · rintro N i10 hI
        have hm := hI; clear hI
        cases N with
        | zero => cases hm
        | succ N =>
        unfold s_SameStruck_l1 at hm
        refine WJ.seq ?_
        refine WJ.seq ?_
        refine WJ.quiet ?_
        refine QJ.step (YldS.yld (y_move rfl)) rfl ?_
        refine QJ.step (YldS.yld (y_move rfl)) rfl ?_
        refine QJ.step (YldS.yld (y_lenS Try.runUnderlying53 hr3 rfl)) rfl ?_
        refine QJ.step (YldS.yld (y_bin rfl rfl rfl)) rfl ?_
        refine QJ.done ?_
        refine PJ.next ?_
        refine WJ.cond (t := decide (i10 < (List.length a1 : Int))) rfl (fun hb11 => ?_) (fun hb11 => ?_)
        · replace hm := ifT hm hb11
          refine WJ.skip ?_
          refine PJ.next ?_
          refine WJ.seq ?_
          refine WJ.block ?_
          refine WJ.seq ?_
          refine WJ.quiet_draw follows (by kernel_rfl) ?_
          refine QJ.step (YldS.yld (y_move rfl)) rfl ?_
          refine QJ.step (YldS.yld (y_move rfl)) rfl ?_
          obtain ⟨e12, h13, hm⟩ := bindS hm
          obtain ⟨ad14, _, rfl, ha15, hy16⟩ := hr3.elem h13
          refine QJ.step (YldS.yld (hy16 Try.runUnderlying53 Try.sizeOf76 rfl rfl)) rfl ?_
          refine QJ.step (YldS.yld (y_loadN Try.isAgg76 Try.sizeOf76 rfl ha15 St.frozenC rfl)) rfl ?_
          refine QJ.step (YldS.yld (y_move rfl)) rfl ?_
          refine QJ.step (YldS.yld (y_move rfl)) rfl ?_
          obtain ⟨e17, h18, hm⟩ := bindS hm
          obtain ⟨ad19, _, rfl, ha20, hy21⟩ := hr6.elem h18
          refine QJ.step (YldS.yld (hy21 Try.runUnderlying53 Try.sizeOf76 rfl rfl)) rfl ?_
          refine QJ.step (YldS.yld (y_loadN Try.isAgg76 Try.sizeOf76 rfl ha20 St.frozenC rfl)) rfl ?_
          refine QJ.step (YldS.yld (y_neT e12 e17 eq76 rfl rfl)) rfl ?_
          refine QJ.done ?_
          refine PJ.next ?_
          refine WJ.cond (t := !(Struck.beq e12 e17)) rfl (fun hb22 => ?_) (fun hb22 => ?_)
          · replace hm := ifT hm hb22
            refine WJ.seq ?_
            refine WJ.quiet ?_
            refine QJ.step (YldS.yld (y_assign rfl)) rfl ?_
            refine QJ.done ?_
            refine PJ.next ?_
            refine WJ.ret ?_
            refine PJ.block_ret (PJ.then_ret (PJ.then_ret (PJ.block_ret (PJ.then_ret ?_))))
            obtain rfl := Option.some.inj hm
            refine PJ.sel (L' := []) [] ⟨List.nodup_nil, rfl⟩ ?_
            exact PJ.retn (vs := [.bool false]) Try.results30 ⟨rfl, trivial⟩ ⟨rfl, rfl⟩
          · replace hm := ifF hm hb22
            refine WJ.skip ?_
            refine PJ.block_normal (PJ.next ?_)
            refine WJ.quiet ?_
            refine QJ.step (YldS.yld (y_move rfl)) rfl ?_
            refine QJ.step (YldS.yld (y_bin rfl rfl rfl)) rfl ?_
            refine QJ.step (YldS.yld (y_assign rfl)) rfl ?_
            refine QJ.done ?_
            exact PJ.round (w64 (i10 + 1)) [] hm ⟨rfl, rfl, rfl, trivial⟩ ⟨List.nodup_nil, rfl⟩
        · replace hm := ifF hm hb11
          refine WJ.exit ?_
          refine PJ.then_exit (PJ.then_exit (PJ.block_exit ?_))
          exact PJ.joined () [] hm trivial ⟨List.nodup_nil, rfl⟩
    · rintro _ hm
      subst hk9
      refine WJ.seq ?_
      refine WJ.quiet ?_
      refine QJ.step (YldS.yld (y_assign rfl)) rfl ?_
      refine QJ.done ?_
      refine PJ.next ?_
      refine WJ.ret ?_
      obtain rfl := Option.some.inj hm
      refine PJ.sel (L' := []) [] ⟨List.nodup_nil, rfl⟩ ?_
      exact PJ.retn (vs := [.bool true]) Try.results30 ⟨rfl, trivial⟩ ⟨rfl, rfl⟩

set_option maxRecDepth 100000 in
set_option maxHeartbeats 1000000 in
theorem ok_i_ActText {N : Nat} {acts1 : List Act} {r : Str} (hm : i_ActText N acts1 = some r) (w : World) (v2 : Value) (hr3 : RdS w (cx w).Fz v2 fAct.rp acts1) :
    Calls Try.prog 31 #[v2] w (Ret (cx w) (str r)) := by
  unfold i_ActText at hm
  refine Calls.enter [v2] Try.func31 rfl Try.ntmps31 rfl ?_
  refine WJ.seq ?_
  refine WJ.quiet ?_
  refine QJ.step (YldS.yld (y_assign rfl)) rfl ?_
  refine QJ.done ?_
  refine PJ.next ?_
  refine WJ.seq ?_
  refine WJ.seq ?_
  refine WJ.quiet ?_
  refine QJ.step (YldS.yld (y_move rfl)) rfl ?_
  obtain ⟨r4, h5, hm⟩ := bindS hm
  refine QJ.step (y_call Try.call33 rfl (RetG.quiet fun w hw => ok_i_ValidActs h5 w _ (hr3.st hw))) rfl ?_
  refine QJ.step (YldS.yld (y_not rfl)) rfl ?_
  refine QJ.done ?_
  refine PJ.next ?_
  refine WJ.cond (t := !r4) rfl (fun hb6 => ?_) (fun hb6 => ?_)
  · replace hm := ifT hm hb6
    refine WJ.seq ?_
    refine WJ.quiet ?_
    refine QJ.step (YldS.yld (y_assign rfl)) rfl ?_
    refine QJ.done ?_
    refine PJ.next ?_
    refine WJ.ret ?_
    refine PJ.then_ret ?_
    obtain rfl := Option.some.inj hm
    refine PJ.sel (L' := []) [] ⟨List.nodup_nil, rfl⟩ ?_
    exact PJ.retn (vs := [str []]) Try.results31 ⟨rfl, trivial⟩ ⟨rfl, rfl⟩
  · replace hm := ifF hm hb6
    refine WJ.skip ?_
    refine PJ.next ?_
    refine WJ.seq ?_
    refine WJ.reg ?_
    refine SJ.q (YldS.yld (y_buildA (R := fStr) (os := [.const (str []), .const (str [115, 112, 97, 99, 101]), .const (str [98, 97, 99, 107]), .const (str [104, 97, 108, 102]), .const (str [102, 114, 101, 101]), .const (str [114, 101, 116, 117, 114, 110])]) ([[], [115, 112, 97, 99, 101], [98, 97, 99, 107], [104, 97, 108, 102], [102, 114, 101, 101], [114, 101, 116, 117, 114, 110]] : List Str) Try.runUnderlying126 zv126 Try.sizeOf9 rfl rfl rfl (by simp [length_encs]))) rfl ?_
    refine SJ.allocA (R := fStr) (xs := List.replicate 6 []) 6 zv126 rfl rfl rfl rfl fun g7 => ?_
    obtain ⟨l8, h9, hm⟩ := bindS hm
    refine SJ.storeA (k := 0) (ys := ([[], [115, 112, 97, 99, 101], [98, 97, 99, 107], [104, 97, 108, 102], [102, 114, 101, 101], [114, 101, 116, 117, 114, 110]] : List Str)) rfl rfl rfl rfl (chkA_len h9) Try.sizeOf126 ((length_encs fStr ([[], [115, 112, 97, 99, 101], [98, 97, 99, 107], [104, 97, 108, 102], [102, 114, 101, 101], [114, 101, 116, 117, 114, 110]] : List Str)).trans (congrArg (fun z => z * (fStr).size) (chkA_len h9))) ?_
    refine SJ.nil ?_
    refine PJ.next ?_
    refine WJ.seq ?_
    refine WJ.quiet ?_
    refine QJ.step (YldS.yld (y_assign rfl)) rfl ?_
    refine QJ.done ?_
    refine PJ.next ?_
    obtain ⟨kj11, hk12, hm⟩ := withK_open hm
    refine WJ.join (X := Str) (fun (x : Str) => kj11 x = some r) (fun (x : Str) => [(4, str x)]) (fun (x : Str) => []) ?_ ?_
    · clear hk12
      refine WJ.seq ?_
      refine WJ.quiet ?_
      refine QJ.step (YldS.yld (y_move rfl)) rfl ?_
      refine QJ.step (YldS.yld (y_lenS Try.runUnderlying48 hr3 rfl)) rfl ?_
      refine QJ.step (YldS.yld (y_move rfl)) rfl ?_
      refine QJ.done ?_
      refine PJ.next ?_
      refine WJ.block ?_
      refine WJ.sel (L' := (fun (x : Str × Int) => [row (av g7 6) 126 fStr ([[], [115, 112, 97, 99, 101], [98, 97, 99, 107], [104, 97, 108, 102], [102, 114, 101, 101], [114, 101, 116, 117, 114, 110]] : List Str)]) ([], 0)) [0] ⟨by decide, rfl⟩ ?_
      refine WJ.sub (m' := (fun (x : Str × Int) => [(3, pt g7 0), (4, str x.1), (11, v2), (12, .int .i64 (List.length acts1 : Int)), (13, .int .i64 x.2)]) ([], 0)) ⟨rfl, rfl, rfl, rfl, rfl, trivial⟩ ?_
      refine WJ.loop (X := Str × Int) (fun N (x : Str × Int) => i_ActText_l1 kj11 acts1 N x.1 x.2 = some r) (fun (x : Str × Int) => [(3, pt g7 0), (4, str x.1), (11, v2), (12, .int .i64 (List.length acts1 : Int)), (13, .int .i64 x.2)]) (fun (x : Str × Int) => [row (av g7 6) 126 fStr ([[], [115, 112, 97, 99, 101], [98, 97, 99, 107], [104, 97, 108, 102], [102, 114, 101, 101], [114, 101, 116, 117, 114, 110]] : List Str)]) ?_ N ([], 0) hm
      · rintro N ⟨out13, x14⟩ hI
        have hm := hI; clear hI
        cases N with
        | zero => cases hm
        | succ N =>
        unfold i_ActText_l1 at hm
        refine WJ.seq ?_
        refine WJ.quiet ?_
        refine QJ.step (YldS.yld (y_bin rfl rfl rfl)) rfl ?_
        refine QJ.done ?_
        refine PJ.next ?_
        refine WJ.seq ?_
        refine WJ.cond (t := decide (x14 < (List.length acts1 : Int))) rfl (fun hb15 => ?_) (fun hb15 => ?_)
        · replace hm := ifT hm hb15
          refine WJ.skip ?_
          refine PJ.next ?_
          obtain ⟨kj17, hk18, hm⟩ := withK_open hm
          refine WJ.join (X := Str) (fun (x : Str) => kj17 x = some r) (fun (x : Str) => [(3, pt g7 0), (4, str x), (11, v2), (12, .int .i64 (List.length acts1 : Int)), (13, .int .i64 x14)]) (fun (x : Str) => [row (av g7 6) 126 fStr ([[], [115, 112, 97, 99, 101], [98, 97, 99, 107], [104, 97, 108, 102], [102, 114, 101, 101], [114, 101, 116, 117, 114, 110]] : List Str)]) ?_ ?_
          · clear hk18
            refine WJ.block ?_
            refine WJ.seq ?_
            refine WJ.reg ?_
            refine SJ.q (YldS.yld (y_move rfl)) rfl ?_
            obtain ⟨e19, h20, hm⟩ := bindS hm
            obtain ⟨ad21, _, rfl, ha22, hy23⟩ := hr3.elem h20
            refine SJ.q (YldS.yld (hy23 Try.runUnderlying48 Try.sizeOf62 rfl rfl)) rfl ?_
            refine SJ.q (YldS.yld (y_loadN Try.isAgg62 Try.sizeOf62 rfl ha22 St.frozenC rfl)) rfl ?_
            refine SJ.alloc (cs := [.int .i64 0, str []]) Try.zeroValue62 rfl rfl fun g24 => ?_
            refine SJ.q (YldS.yld (y_assign rfl)) rfl ?_
            refine SJ.storeL (k := 0) (off := 0) (us := [.int .i64 e19.kind, str e19.letter]) rfl rfl rfl rfl Try.sizeOf62 rfl rfl ?_
            refine SJ.nil ?_
            refine PJ.next ?_
            obtain ⟨kj26, hk27, hm⟩ := withK_open hm
            refine WJ.join (X := Str) (fun (x : Str) => kj26 x = some r) (fun (x : Str) => [(3, pt g7 0), (4, str x), (6, pt g24 0), (11, v2), (12, .int .i64 (List.length acts1 : Int)), (13, .int .i64 x14)]) (fun (x : Str) => [box g24 62 [.int .i64 e19.kind, str e19.letter], row (av g7 6) 126 fStr ([[], [115, 112, 97, 99, 101], [98, 97, 99, 107], [104, 97, 108, 102], [102, 114, 101, 101], [114, 101, 116, 117, 114, 110]] : List Str)]) ?_ ?_
            · clear hk27
              refine WJ.seq ?_
              refine WJ.quiet ?_
              refine QJ.step (YldS.yld (y_move rfl)) rfl ?_
              refine QJ.step (YldS.yld (y_bin rfl rfl rfl)) rfl ?_
              refine QJ.done ?_
              refine PJ.next ?_
              refine WJ.cond (t := decide (x14 > 0)) rfl (fun hb28 => ?_) (fun hb28 => ?_)
              · replace hm := ifT hm hb28
                refine WJ.quiet ?_
                refine QJ.step (YldS.yld (y_move rfl)) rfl ?_
                obtain ⟨s29, h30, hm⟩ := bindS hm
                refine QJ.step (YldS.yld (y_cat h30 rfl rfl)) rfl ?_
                refine QJ.step (YldS.yld (y_assign rfl)) rfl ?_
                refine QJ.done ?_
                exact PJ.joined s29 [0, 1] hm ⟨rfl, rfl, rfl, rfl, rfl, rfl, trivial⟩ ⟨by decide, rfl⟩
              · replace hm := ifF hm hb28
                refine WJ.skip ?_
                exact PJ.joined out13 [0, 1] hm ⟨rfl, rfl, rfl, rfl, rfl, rfl, trivial⟩ ⟨by decide, rfl⟩
            · rintro out25 hm
              subst hk27
              refine WJ.seq ?_
              refine WJ.quiet ?_
              refine QJ.step (YldS.yld (y_fldB (o := 0) fld62_0 rfl)) rfl ?_
              refine QJ.step (YldS.yld (y_loadB (k := 0) (off := 0) (v := .int .i64 e19.kind) rfl Try.isAgg2 rfl rfl)) rfl ?_
              refine QJ.step (YldS.yld (y_bin rfl rfl rfl)) rfl ?_
              refine QJ.done ?_
              refine PJ.next ?_
              refine WJ.cond (t := (e19.kind == 0)) rfl (fun hb31 => ?_) (fun hb31 => ?_)
              · replace hm := ifT hm hb31
                refine WJ.quiet ?_
                refine QJ.step (YldS.yld (y_move rfl)) rfl ?_
                refine QJ.step (YldS.yld (y_fldB (o := 0) fld62_1 rfl)) rfl ?_
                refine QJ.step (YldS.yld (y_loadB (k := 0) (off := 1) (v := str e19.letter) rfl Try.isAgg9 rfl rfl)) rfl ?_
                obtain ⟨s32, h33, hm⟩ := bindS hm
                refine QJ.step (YldS.yld (y_cat h33 rfl rfl)) rfl ?_
                obtain ⟨s34, h35, hm⟩ := bindS hm
                refine QJ.step (YldS.yld (y_cat h35 rfl rfl)) rfl ?_
                refine QJ.step (YldS.yld (y_assign rfl)) rfl ?_
                refine QJ.done ?_
                refine PJ.block_normal ?_
                exact PJ.joined s34 [1] hm ⟨rfl, rfl, rfl, rfl, rfl, trivial⟩ ⟨by decide, rfl⟩
              · replace hm := ifF hm hb31
                refine WJ.quiet ?_
                refine QJ.step (YldS.yld (y_move rfl)) rfl ?_
                refine QJ.step (YldS.yld (y_fldB (o := 0) fld62_0 rfl)) rfl ?_
                refine QJ.step (YldS.yld (y_loadB (k := 0) (off := 0) (v := .int .i64 e19.kind) rfl Try.isAgg2 rfl rfl)) rfl ?_
                obtain ⟨e36, h37, hm⟩ := bindS hm
                refine QJ.step (YldS.yld (y_ixArr (k := 1) (R := fStr) rfl Try.runUnderlying126 Try.sizeOf9 rfl rfl h37)) rfl ?_
                refine QJ.step (YldS.yld (y_loadR (k := 1) (i := (Int.toNat e19.kind)) (off := 0) (u := str e36) rfl Try.isAgg9 rfl (idx_get h37) rfl)) rfl ?_
                obtain ⟨s38, h39, hm⟩ := bindS hm
                refine QJ.step (YldS.yld (y_cat h39 rfl rfl)) rfl ?_
                refine QJ.step (YldS.yld (y_assign rfl)) rfl ?_
                refine QJ.done ?_
                refine PJ.block_normal ?_
                exact PJ.joined s38 [1] hm ⟨rfl, rfl, rfl, rfl, rfl, trivial⟩ ⟨by decide, rfl⟩
          · rintro out16 hm
            subst hk18
            refine WJ.quiet ?_
            refine QJ.step (YldS.yld (y_bin rfl rfl rfl)) rfl ?_
            refine QJ.step (YldS.yld (y_move rfl)) rfl ?_
            refine QJ.done ?_
            exact PJ.round (out16, w64 (x14 + 1)) [0] hm ⟨rfl, rfl, rfl, rfl, rfl, trivial⟩ ⟨by decide, rfl⟩
        · replace hm := ifF hm hb15
          refine WJ.exit ?_
          refine PJ.then_exit (PJ.then_exit (PJ.block_exit ?_))
          exact PJ.joined out13 [] hm ⟨rfl, trivial⟩ ⟨List.nodup_nil, rfl⟩
    · rintro out10 hm
      subst hk12
      refine WJ.seq ?_
      refine WJ.quiet ?_
      refine QJ.step (YldS.yld (y_move rfl)) rfl ?_
      refine QJ.step (YldS.yld (y_assign rfl)) rfl ?_
      refine QJ.done ?_
      refine PJ.next ?_
      refine WJ.ret ?_
      obtain rfl := Option.some.inj hm
      refine PJ.sel (L' := []) [] ⟨List.nodup_nil, rfl⟩ ?_
      exact PJ.retn (vs := [str out10]) Try.results31 ⟨rfl, trivial⟩ ⟨rfl, rfl⟩

set_option maxRecDepth 100000 in
set_option maxHeartbeats 1000000 in
theorem ok_s_ActText {N : Nat} {acts1 : List Act} {r : Str} (hm : s_ActText N acts1 = some r) (w : World) (v2 : Value) (hr3 : RdS w (cx w).Fz v2 fAct.rp acts1) :
    Calls Try.prog 32 #[v2] w (Ret (cx w) (str r)) := by
  unfold s_ActText at hm
  refine Calls.enter [v2] Try.func32 rfl Try.ntmps32 rfl ?_
  refine WJ.seq ?_
  refine WJ.quiet ?_
  refine QJ.step (YldS.yld (y_assign rfl)) rfl ?_
  refine QJ.done ?_
  refine PJ.next ?_
  refine WJ.seq ?_
  refine WJ.seq ?_
  refine WJ.quiet ?_
  refine QJ.step (YldS.yld (y_move rfl)) rfl ?_
  obtain ⟨r4, h5, hm⟩ := bindS hm
  refine QJ.step (y_call Try.call92 rfl (RetG.quiet fun w hw => ok_s_l04Acts h5 w _ (hr3.st hw))) rfl ?_
  refine QJ.step (YldS.yld (y_not rfl)) rfl ?_
  refine QJ.done ?_
  refine PJ.next ?_
  refine WJ.cond (t := !r4) rfl (fun hb6 => ?_) (fun hb6 => ?_)
  · replace hm := ifT hm hb6
    refine WJ.seq ?_
    refine WJ.quiet ?_
    refine QJ.step (YldS.yld (y_assign rfl)) rfl ?_
    refine QJ.done ?_
    refine PJ.next ?_
    refine WJ.ret ?_
    refine PJ.then_ret ?_
    obtain rfl := Option.some.inj hm
    refine PJ.sel (L' := []) [] ⟨List.nodup_nil, rfl⟩ ?_
    exact PJ.retn (vs := [str []]) Try.results32 ⟨rfl, trivial⟩ ⟨rfl, rfl⟩
  · replace hm := ifF hm hb6
    refine WJ.skip ?_
    refine PJ.next ?_
    refine WJ.seq ?_
    refine WJ.reg ?_
    refine SJ.buildSlice (R := fStr) (os := [.const (str []), .const (str [115, 112, 97, 99, 101]), .const (str [98, 97, 99, 107]), .const (str [104, 97, 108, 102]), .const (str [102, 114, 101, 101]), .const (str [114, 101, 116, 117, 114, 110])]) [[], [115, 112, 97, 99, 101], [98, 97, 99, 107], [104, 97, 108, 102], [102, 114, 101, 101], [114, 101, 116, 117, 114, 110]] Try.runUnderlying78 Try.sizeOf9 Try.zeroValue9 rfl rfl rfl rfl rfl rfl fun v7 => ?_
    refine SJ.q (YldS.yld (y_assign rfl)) rfl ?_
    refine SJ.nil ?_
    refine PJ.next ?_
    refine WJ.seq ?_
    refine WJ.quiet ?_
    refine QJ.step (YldS.yld (y_assign rfl)) rfl ?_
    refine QJ.done ?_
    refine PJ.next ?_
    obtain ⟨kj9, hk10, hm⟩ := withK_open hm
    refine WJ.join (X := Str) (fun (x : Str) => kj9 x = some r) (fun (x : Str) => [(4, str x)]) (fun (x : Str) => []) ?_ ?_
    · clear hk10
      refine WJ.seq ?_
      refine WJ.quiet ?_
      refine QJ.step (YldS.yld (y_assign rfl)) rfl ?_
      refine QJ.done ?_
      refine PJ.next ?_
      refine WJ.block ?_
      refine WJ.sel (L' := (fun (x : Str × Int) => [row v7 9 fStr [[], [115, 112, 97, 99, 101], [98, 97, 99, 107], [104, 97, 108, 102], [102, 114, 101, 101], [114, 101, 116, 117, 114, 110]]]) ([], 0)) [0] ⟨by decide, rfl⟩ ?_
      refine WJ.sub (m' := (fun (x : Str × Int) => [(0, v2), (3, v7), (4, str x.1), (5, .int .i64 x.2)]) ([], 0)) ⟨rfl, rfl, rfl, rfl, trivial⟩ ?_
      refine WJ.loop (X := Str × Int) (fun N (x : Str × Int) => s_ActText_l1 kj9 acts1 N x.1 x.2 = some r) (fun (x : Str × Int) => [(0, v2), (3, v7), (4, str x.1), (5, .int .i64 x.2)]) (fun (x : Str × Int) => [row v7 9 fStr [[], [115, 112, 97, 99, 101], [98, 97, 99, 107], [104, 97, 108, 102], [102, 114, 101, 101], [114, 101, 116, 117, 114, 110]]]) ?_ N ([], 0) hm
      · rintro N ⟨out11, i12⟩ hI
        have hm := hI; clear hI
        cases N with
        | zero => cases hm
        | succ N =>
        unfold s_ActText_l1 at hm
        refine WJ.seq ?_
        refine WJ.seq ?_
        refine WJ.quiet ?_
        refine QJ.step (YldS.yld (y_move rfl)) rfl ?_
        refine QJ.step (YldS.yld (y_move rfl)) rfl ?_
        refine QJ.step (YldS.yld (y_lenS Try.runUnderlying48 hr3 rfl)) rfl ?_
        refine QJ.step (YldS.yld (y_bin rfl rfl rfl)) rfl ?_
        refine QJ.done ?_
        refine PJ.next ?_
        refine WJ.cond (t := decide (i12 < (List.length acts1 : Int))) rfl (fun hb13 => ?_) (fun hb13 => ?_)
        · replace hm := ifT hm hb13
          refine WJ.skip ?_
          refine PJ.next ?_
          obtain ⟨kj15, hk16, hm⟩ := withK_open hm
          refine WJ.join (X := Str) (fun (x : Str) => kj15 x = some r) (fun (x : Str) => [(0, v2), (3, v7), (4, str x), (5, .int .i64 i12)]) (fun (x : Str) => [row v7 9 fStr [[], [115, 112, 97, 99, 101], [98, 97, 99, 107], [104, 97, 108, 102], [102, 114, 101, 101], [114, 101, 116, 117, 114, 110]]]) ?_ ?_
          · clear hk16
            refine WJ.block ?_
            obtain ⟨kj18, hk19, hm⟩ := withK_open hm
            refine WJ.join (X := Str) (fun (x : Str) => kj18 x = some r) (fun (x : Str) => [(0, v2), (3, v7), (4, str x), (5, .int .i64 i12)]) (fun (x : Str) => [row v7 9 fStr [[], [115, 112, 97, 99, 101], [98, 97, 99, 107], [104, 97, 108, 102], [102, 114, 101, 101], [114, 101, 116, 117, 114, 110]]]) ?_ ?_
            · clear hk19
              refine WJ.seq ?_
              refine WJ.quiet ?_
              refine QJ.step (YldS.yld (y_move rfl)) rfl ?_
              refine QJ.step (YldS.yld (y_bin rfl rfl rfl)) rfl ?_
              refine QJ.done ?_
              refine PJ.next ?_
              refine WJ.cond (t := decide (i12 > 0)) rfl (fun hb20 => ?_) (fun hb20 => ?_)
              · replace hm := ifT hm hb20
                refine WJ.quiet ?_
                refine QJ.step (YldS.yld (y_move rfl)) rfl ?_
                obtain ⟨s21, h22, hm⟩ := bindS hm
                refine QJ.step (YldS.yld (y_cat h22 rfl rfl)) rfl ?_
                refine QJ.step (YldS.yld (y_assign rfl)) rfl ?_
                refine QJ.done ?_
                exact PJ.joined s21 [0] hm ⟨rfl, rfl, rfl, rfl, trivial⟩ ⟨by decide, rfl⟩
              · replace hm := ifF hm hb20
                refine WJ.skip ?_
                exact PJ.joined out11 [0] hm ⟨rfl, rfl, rfl, rfl, trivial⟩ ⟨by decide, rfl⟩
            · rintro out17 hm
              subst hk19
              refine WJ.seq ?_
              refine WJ.quiet ?_
              refine QJ.step (YldS.yld (y_move rfl)) rfl ?_
              refine QJ.step (YldS.yld (y_move rfl)) rfl ?_
              obtain ⟨e23, h24, hm⟩ := bindS hm
              obtain ⟨ad25, _, rfl, ha26, hy27⟩ := hr3.elem h24
              refine QJ.step (YldS.yld (hy27 Try.runUnderlying48 Try.sizeOf62 rfl rfl)) rfl ?_
              refine QJ.step (YldS.yld (y_fld (ad := ad25) fld62_0 rfl)) rfl ?_
              refine QJ.step (YldS.yld (y_load1 (v := .int .i64 e23.kind) Try.isAgg2 (ha26.sub 0 1) St.frozenC rfl)) rfl ?_
              refine QJ.step (YldS.yld (y_bin rfl rfl rfl)) rfl ?_
              refine QJ.done ?_
              refine PJ.next ?_
              refine WJ.cond (t := (e23.kind == 0)) rfl (fun hb28 => ?_) (fun hb28 => ?_)
              · replace hm := ifT hm hb28
                refine WJ.quiet ?_
                refine QJ.step (YldS.yld (y_move rfl)) rfl ?_
                refine QJ.step (YldS.yld (y_move rfl)) rfl ?_
                refine QJ.step (YldS.yld (y_move rfl)) rfl ?_
                obtain ⟨e29, h30, hm⟩ := bindS hm
                obtain ⟨ad31, _, rfl, ha32, hy33⟩ := hr3.elem h30
                refine QJ.step (YldS.yld (hy33 Try.runUnderlying48 Try.sizeOf62 rfl rfl)) rfl ?_
                refine QJ.step (YldS.yld (y_fld (ad := ad31) fld62_1 rfl)) rfl ?_
                refine QJ.step (YldS.yld (y_load1 (v := str e29.letter) Try.isAgg9 (ha32.sub 1 1) St.frozenC rfl)) rfl ?_
                obtain ⟨s34, h35, hm⟩ := bindS hm
                refine QJ.step (YldS.yld (y_cat h35 rfl rfl)) rfl ?_
                obtain ⟨s36, h37, hm⟩ := bindS hm
                refine QJ.step (YldS.yld (y_cat h37 rfl rfl)) rfl ?_
                refine QJ.step (YldS.yld (y_assign rfl)) rfl ?_
                refine QJ.done ?_
                refine PJ.block_normal ?_
                exact PJ.joined s36 [0] hm ⟨rfl, rfl, rfl, rfl, trivial⟩ ⟨by decide, rfl⟩
              · replace hm := ifF hm hb28
                refine WJ.quiet ?_
                refine QJ.step (YldS.yld (y_move rfl)) rfl ?_
                refine QJ.step (YldS.yld (y_move rfl)) rfl ?_
                refine QJ.step (YldS.yld (y_move rfl)) rfl ?_
                refine QJ.step (YldS.yld (y_move rfl)) rfl ?_
                obtain ⟨e38, h39, hm⟩ := bindS hm
                obtain ⟨ad40, _, rfl, ha41, hy42⟩ := hr3.elem h39
                refine QJ.step (YldS.yld (hy42 Try.runUnderlying48 Try.sizeOf62 rfl rfl)) rfl ?_
                refine QJ.step (YldS.yld (y_fld (ad := ad40) fld62_0 rfl)) rfl ?_
                refine QJ.step (YldS.yld (y_load1 (v := .int .i64 e38.kind) Try.isAgg2 (ha41.sub 0 1) St.frozenC rfl)) rfl ?_
                obtain ⟨e43, h44, hm⟩ := bindS hm
                refine QJ.step (YldS.yld (y_ixRow (k := 0) (R := fStr) rfl Try.runUnderlying78 Try.sizeOf9 rfl rfl h44)) rfl ?_
                refine QJ.step (YldS.yld (y_loadR (k := 0) (i := (Int.toNat e38.kind)) (off := 0) (u := str e43) rfl Try.isAgg9 rfl (idx_get h44) rfl)) rfl ?_
                obtain ⟨s45, h46, hm⟩ := bindS hm
                refine QJ.step (YldS.yld (y_cat h46 rfl rfl)) rfl ?_
                refine QJ.step (YldS.yld (y_assign rfl)) rfl ?_
                refine QJ.done ?_
                refine PJ.block_normal ?_
                exact PJ.joined s45 [0] hm ⟨rfl, rfl, rfl, rfl, trivial⟩ ⟨by decide, rfl⟩
          · rintro out14 hm
            subst hk16
            refine WJ.quiet ?_
            refine QJ.step (YldS.yld (y_move rfl)) rfl ?_
            refine QJ.step (YldS.yld (y_bin rfl rfl rfl)) rfl ?_
            refine QJ.step (YldS.yld (y_assign rfl)) rfl ?_
            refine QJ.done ?_
            exact PJ.round (out14, w64 (i12 + 1)) [0] hm ⟨rfl, rfl, rfl, rfl, trivial⟩ ⟨by decide, rfl⟩
        · replace hm := ifF hm hb13
          refine WJ.exit ?_
          refine PJ.then_exit (PJ.then_exit (PJ.block_exit ?_))
          exact PJ.joined out11 [] hm ⟨rfl, trivial⟩ ⟨List.nodup_nil, rfl⟩
    · rintro out8 hm
      subst hk10
      refine WJ.seq ?_
      refine WJ.quiet ?_
      refine QJ.step (YldS.yld (y_move rfl)) rfl ?_
      refine QJ.step (YldS.yld (y_assign rfl)) rfl ?_
      refine QJ.done ?_
      refine PJ.next ?_
      refine WJ.ret ?_
      obtain rfl := Option.some.inj hm
      refine PJ.sel (L' := []) [] ⟨List.nodup_nil, rfl⟩ ?_
      exact PJ.retn (vs := [str out8]) Try.results32 ⟨rfl, trivial⟩ ⟨rfl, rfl⟩

set_option maxRecDepth 100000 in
set_option maxHeartbeats 1000000 in
theorem ok_s_ValidActs {N : Nat} {acts1 : List Act} {r : Bool} (hm : s_ValidActs N acts1 = some r) (w : World) (v2 : Value) (hr3 : RdS w (cx w).Fz v2 fAct.rp acts1) :
    Calls Try.prog 34 #[v2] w (Ret (cx w) (.bool r)) := by
  unfold s_ValidActs at hm
  refine Calls.enter [v2] Try.func34 rfl Try.ntmps34 rfl ?_
  refine WJ.seq ?_
  refine WJ.quiet ?_
  refine QJ.step (YldS.yld (y_assign rfl)) rfl ?_
  refine QJ.done ?_
  refine PJ.next ?_
  refine WJ.seq ?_
  refine WJ.quiet ?_
  refine QJ.step (YldS.yld (y_move rfl)) rfl ?_
  obtain ⟨r4, h5, hm⟩ := bindS hm
  refine QJ.step (y_call Try.call92 rfl (RetG.quiet fun w hw => ok_s_l04Acts h5 w _ (hr3.st hw))) rfl ?_
  refine QJ.step (YldS.yld (y_assign rfl)) rfl ?_
  refine QJ.done ?_
  refine PJ.next ?_
  refine WJ.ret ?_
  obtain rfl := Option.some.inj hm
  refine PJ.sel (L' := []) [] ⟨List.nodup_nil, rfl⟩ ?_
  exact PJ.retn (vs := [.bool r4]) Try.results34 ⟨rfl, trivial⟩ ⟨rfl, rfl⟩

set_option maxRecDepth 100000 in
set_option maxHeartbeats 1000000 in
theorem ok_s_ValidCarriage {c1 : Carriage} {r : Bool} (hm : s_ValidCarriage c1 = some r) (w : World)  :
    Calls Try.prog 36 #[.agg (Carriage.enc c1).toArray] w (Ret (cx w) (.bool r)) := by
  unfold s_ValidCarriage at hm
  refine Calls.enter [.agg (Carriage.enc c1).toArray] Try.func36 rfl Try.ntmps36 rfl ?_
  refine WJ.seq ?_
  refine WJ.reg ?_
  refine SJ.box (cs := [.int .i64 c1.left, .int .i64 c1.right, .int .i64 c1.bell]) rfl rfl rfl fun g2 => ?_
  refine SJ.q (YldS.yld (y_assign rfl)) rfl ?_
  refine SJ.nil ?_
  refine PJ.next ?_
  refine WJ.seq ?_
  refine WJ.quiet ?_
  refine QJ.step (YldS.yld (y_loadBN (k := 0) (off := 0) (us := [.int .i64 c1.left, .int .i64 c1.right, .int .i64 c1.bell]) rfl Try.isAgg45 Try.sizeOf45 rfl rfl)) rfl ?_
  obtain ⟨r3, h4, hm⟩ := bindS hm
  refine QJ.step (y_call Try.call86 rfl (RetG.quiet fun w hw => ok_s_l04Ok h4 w )) rfl ?_
  refine QJ.step (YldS.yld (y_assign rfl)) rfl ?_
  refine QJ.done ?_
  refine PJ.next ?_
  refine WJ.ret ?_
  obtain rfl := Option.some.inj hm
  refine PJ.sel (L' := []) [] ⟨List.nodup_nil, rfl⟩ ?_
  exact PJ.retn (vs := [.bool r3]) Try.results36 ⟨rfl, trivial⟩ ⟨rfl, rfl⟩

set_option maxRecDepth 100000 in
set_option maxHeartbeats 1000000 in
theorem ok_i_validStruck {N : Nat} {list1 : List Struck} {r : Bool} (hm : i_validStruck N list1 = some r) (w : World) (v2 : Value) (hr3 : RdS w (cx w).Fz v2 fStruck.rp list1) :
    Calls Try.prog 93 #[v2] w (Ret (cx w) (.bool r)) := by
  unfold i_validStruck at hm
  refine Calls.enter [v2] Try.func93 rfl Try.ntmps93 rfl ?_
  refine WJ.seq ?_
  refine WJ.quiet ?_
  refine QJ.step (YldS.yld (y_assign rfl)) rfl ?_
  refine QJ.done ?_
  refine PJ.next ?_
  refine WJ.seq ?_
  refine WJ.seq ?_
  refine WJ.quiet ?_
  refine QJ.step (YldS.yld (y_move rfl)) rfl ?_
  refine QJ.step (YldS.yld (y_lenS Try.runUnderlying53 hr3 rfl)) rfl ?_
  refine QJ.step (YldS.yld (y_bin rfl rfl rfl)) rfl ?_
  refine QJ.done ?_
  refine PJ.next ?_
  refine WJ.cond (t := decide ((List.length list1 : Int) > 200)) rfl (fun hb4 => ?_) (fun hb4 => ?_)
  · replace hm := ifT hm hb4
    refine WJ.seq ?_
    refine WJ.quiet ?_
    refine QJ.step (YldS.yld (y_assign rfl)) rfl ?_
    refine QJ.done ?_
    refine PJ.next ?_
    refine WJ.ret ?_
    refine PJ.then_ret ?_
    obtain rfl := Option.some.inj hm
    refine PJ.sel (L' := []) [] ⟨List.nodup_nil, rfl⟩ ?_
    exact PJ.retn (vs := [.bool false]) Try.results93 ⟨rfl, trivial⟩ ⟨rfl, rfl⟩
  · replace hm := ifF hm hb4
    refine WJ.skip ?_
    refine PJ.next ?_
    obtain ⟨kj5, hk6, hm⟩ := withK_open hm
    refine WJ.join (X := Unit) (fun (_ : Unit) => kj5  = some r) (fun (_ : Unit) => []) (fun (_ : Unit) => []) ?_ ?_
    · clear hk6
      refine WJ.seq ?_
      refine WJ.quiet ?_
      refine QJ.step (YldS.yld (y_move rfl)) rfl ?_
      refine QJ.step (YldS.yld (y_lenS Try.runUnderlying53 hr3 rfl)) rfl ?_
      refine QJ.step (YldS.yld (y_move rfl)) rfl ?_
      refine QJ.done ?_
      refine PJ.next ?_
      refine WJ.block ?_
      refine WJ.sel (L' := (fun (x : Int) => []) 0) [] ⟨List.nodup_nil, rfl⟩ ?_
      refine WJ.sub (m' := (fun (x : Int) => [(8, v2), (9, .int .i64 (List.length list1 : Int)), (10, .int .i64 x)]) 0) ⟨rfl, rfl, rfl, trivial⟩ ?_
      refine WJ.loop (X := Int) (fun N (x : Int) => i_validStruck_l1 kj5 list1 N x = some r) (fun (x : Int) => [(8, v2), (9, .int .i64 (List.length list1 : Int)), (10, .int .i64 x)]) (fun (x : Int) => []) ?_ N 0 hm
      · rintro N x7 hI
        have hm := hI; clear hI
        cases N with
        | zero => cases hm
        | succ N =>
        unfold i_validStruck_l1 at hm
        refine WJ.seq ?_
        refine WJ.quiet ?_
        refine QJ.step (YldS.yld (y_bin rfl rfl rfl)) rfl ?_
        refine QJ.done ?_
        refine PJ.next ?_
        refine WJ.seq ?_
        refine WJ.cond (t := decide (x7 < (List.length list1 : Int))) rfl (fun hb8 => ?_) (fun hb8 => ?_)
        · replace hm := ifT hm hb8
          refine WJ.skip ?_
          refine PJ.next ?_
          refine WJ.seq ?_
          refine WJ.block ?_
          refine WJ.seq ?_
          refine WJ.reg ?_
          obtain ⟨e9, h10, hm⟩ := bindS hm
          obtain ⟨ad11, _, rfl, ha12, hy13⟩ := hr3.elem h10
          refine SJ.q (YldS.yld (hy13 Try.runUnderlying53 Try.sizeOf76 rfl rfl)) rfl ?_
          refine SJ.q (YldS.yld (y_loadN Try.isAgg76 Try.sizeOf76 rfl ha12 St.frozenC rfl)) rfl ?_
          refine SJ.alloc (cs := [.int .i64 0, str []]) Try.zeroValue76 rfl rfl fun g14 => ?_
          refine SJ.storeL (k := 0) (off := 0) (us := [.int .i64 e9.place, str e9.letter]) rfl rfl rfl rfl Try.sizeOf76 rfl rfl ?_
          refine SJ.nil ?_
          refine PJ.next ?_
          refine WJ.seq ?_
          refine WJ.quiet ?_
          refine QJ.step (YldS.yld (y_fldB (o := 0) fld76_0 rfl)) rfl ?_
          refine QJ.step (YldS.yld (y_loadB (k := 0) (off := 0) (v := .int .i64 e9.place) rfl Try.isAgg2 rfl rfl)) rfl ?_
          obtain ⟨r15, h16, hm⟩ := bindS hm
          refine QJ.step (y_call Try.call68 rfl (RetG.quiet fun w hw => ok_i_between h16 w )) rfl ?_
          refine QJ.step (YldS.yld (y_not rfl)) rfl ?_
          refine QJ.step (YldS.yld (y_move rfl)) rfl ?_
          obtain ⟨t17, h18, hm⟩ := bindS hm
          refine QJ.cut 5 [(8, v2), (9, .int .i64 (List.length list1 : Int)), (10, .int .i64 x7), (23, .bool t17)] ?_ ?_
          · rcases Bool.eq_false_or_eq_true (!r15) with hb19 | hb19
            · obtain rfl := orT h18 hb19
              refine QJ.off rfl rfl (cB hb19) rfl rfl ?_
              refine QJ.off rfl rfl (cB hb19) rfl rfl ?_
              refine QJ.off rfl rfl (cB hb19) rfl rfl ?_
              refine QJ.off rfl rfl (cB hb19) rfl rfl ?_
              refine QJ.step (YldS.yld (y_pick_t (cB hb19) rfl)) rfl ?_
              exact QJ.cut_end ⟨rfl, rfl, rfl, rfl, trivial⟩
            · replace h18 := orF h18 hb19
              refine QJ.on rfl rfl (cB hb19) (YldS.yld (y_fldB (o := 0) fld76_1 rfl)) rfl ?_
              refine QJ.on rfl rfl (cB hb19) (YldS.yld (y_loadB (k := 0) (off := 1) (v := str e9.letter) rfl Try.isAgg9 rfl rfl)) rfl ?_
              obtain ⟨r20, h21, h18⟩ := bindS h18
              refine QJ.on rfl rfl (cB hb19) (y_call Try.call76 rfl (RetG.quiet fun w hw => ok_i_isLetter h21 w )) rfl ?_
              refine QJ.on rfl rfl (cB hb19) (YldS.yld (y_not rfl)) rfl ?_
              refine QJ.step (YldS.yld (y_pick_f (cB hb19) rfl)) rfl ?_
              obtain rfl := Option.some.inj h18
              exact QJ.cut_end ⟨rfl, rfl, rfl, rfl, trivial⟩
          refine QJ.done ?_
          refine PJ.next ?_
          refine WJ.cond (t := t17) rfl (fun hb22 => ?_) (fun hb22 => ?_)
          · replace hm := ifT hm hb22
            refine WJ.seq ?_
            refine WJ.quiet ?_
            refine QJ.step (YldS.yld (y_assign rfl)) rfl ?_
            refine QJ.done ?_
            refine PJ.next ?_
            refine WJ.ret ?_
            refine PJ.block_ret (PJ.then_ret (PJ.then_ret (PJ.block_ret (PJ.then_ret ?_))))
            obtain rfl := Option.some.inj hm
            refine PJ.sel (L' := []) [] ⟨List.nodup_nil, rfl⟩ ?_
            exact PJ.retn (vs := [.bool false]) Try.results93 ⟨rfl, trivial⟩ ⟨rfl, rfl⟩
          · replace hm := ifF hm hb22
            refine WJ.skip ?_
            refine PJ.block_normal (PJ.next ?_)
            refine WJ.quiet ?_
            refine QJ.step (YldS.yld (y_bin rfl rfl rfl)) rfl ?_
            refine QJ.step (YldS.yld (y_move rfl)) rfl ?_
            refine QJ.done ?_
            exact PJ.round (w64 (x7 + 1)) [] hm ⟨rfl, rfl, rfl, trivial⟩ ⟨List.nodup_nil, rfl⟩
        · replace hm := ifF hm hb8
          refine WJ.exit ?_
          refine PJ.then_exit (PJ.then_exit (PJ.block_exit ?_))
          exact PJ.joined () [] hm trivial ⟨List.nodup_nil, rfl⟩
    · rintro _ hm
      subst hk6
      refine WJ.seq ?_
      refine WJ.quiet ?_
      refine QJ.step (YldS.yld (y_assign rfl)) rfl ?_
      refine QJ.done ?_
      refine PJ.next ?_
      refine WJ.ret ?_
      obtain rfl := Option.some.inj hm
      refine PJ.sel (L' := []) [] ⟨List.nodup_nil, rfl⟩ ?_
      exact PJ.retn (vs := [.bool true]) Try.results93 ⟨rfl, trivial⟩ ⟨rfl, rfl⟩

set_option maxRecDepth 100000 in
set_option maxHeartbeats 1000000 in
theorem ok_i_LineOf {N : Nat} {c1 : Carriage} {list2 : List Struck} {r : Str × Int} (hm : i_LineOf N c1 list2 = some r) (w : World) (v3 : Value) (hr4 : RdS w (cx w).Fz v3 fStruck.rp list2) :
    Calls Try.prog 37 #[.agg (Carriage.enc c1).toArray, v3] w (Ret (cx w) (tup [str r.1, .int .i64 r.2])) := by
  unfold i_LineOf at hm
  refine Calls.enter [.agg (Carriage.enc c1).toArray, v3] Try.func37 rfl Try.ntmps37 rfl ?_
  refine WJ.seq ?_
  refine WJ.reg ?_
  refine SJ.box (cs := [.int .i64 c1.left, .int .i64 c1.right, .int .i64 c1.bell]) rfl rfl rfl fun g5 => ?_
  refine SJ.q (YldS.yld (y_assign rfl)) rfl ?_
  refine SJ.q (YldS.yld (y_assign rfl)) rfl ?_
  refine SJ.nil ?_
  refine PJ.next ?_
  refine WJ.seq ?_
  refine WJ.seq ?_
  refine WJ.quiet ?_
  refine QJ.step (YldS.yld (y_loadBN (k := 0) (off := 0) (us := [.int .i64 c1.left, .int .i64 c1.right, .int .i64 c1.bell]) rfl Try.isAgg45 Try.sizeOf45 rfl rfl)) rfl ?_
  obtain ⟨r6, h7, hm⟩ := bindS hm
  refine QJ.step (y_call Try.call35 rfl (RetG.quiet fun w hw => ok_i_ValidCarriage h7 w )) rfl ?_
  refine QJ.step (YldS.yld (y_not rfl)) rfl ?_
  refine QJ.step (YldS.yld (y_move rfl)) rfl ?_
  obtain ⟨t8, h9, hm⟩ := bindS hm
  refine QJ.cut 4 [(1, v3), (2, pt g5 0), (18, .bool t8)] ?_ ?_
  · rcases Bool.eq_false_or_eq_true (!r6) with hb10 | hb10
    · obtain rfl := orT h9 hb10
      refine QJ.off rfl rfl (cB hb10) rfl rfl ?_
      refine QJ.off rfl rfl (cB hb10) rfl rfl ?_
      refine QJ.off rfl rfl (cB hb10) rfl rfl ?_
      refine QJ.step (YldS.yld (y_pick_t (cB hb10) rfl)) rfl ?_
      exact QJ.cut_end ⟨rfl, rfl, rfl, trivial⟩
    · replace h9 := orF h9 hb10
      refine QJ.on rfl rfl (cB hb10) (YldS.yld (y_move rfl)) rfl ?_
      obtain ⟨r11, h12, h9⟩ := bindS h9
      refine QJ.on rfl rfl (cB hb10) (y_call Try.call93 rfl (RetG.quiet fun w hw => ok_i_validStruck h12 w _ (hr4.st hw))) rfl ?_
      refine QJ.on rfl rfl (cB hb10) (YldS.yld (y_not rfl)) rfl ?_
      refine QJ.step (YldS.yld (y_pick_f (cB hb10) rfl)) rfl ?_
      obtain rfl := Option.some.inj h9
      exact QJ.cut_end ⟨rfl, rfl, rfl, trivial⟩
  refine QJ.done ?_
  refine PJ.next ?_
  refine WJ.cond (t := t8) rfl (fun hb13 => ?_) (fun hb13 => ?_)
  · replace hm := ifT hm hb13
    refine WJ.seq ?_
    refine WJ.quiet ?_
    refine QJ.step (YldS.yld (y_assign rfl)) rfl ?_
    refine QJ.step (YldS.yld (y_assign rfl)) rfl ?_
    refine QJ.done ?_
    refine PJ.next ?_
    refine WJ.ret ?_
    refine PJ.then_ret ?_
    obtain rfl := Option.some.inj hm
    refine PJ.sel (L' := []) [] ⟨List.nodup_nil, rfl⟩ ?_
    exact PJ.retn (vs := [str [], .int .i64 1]) Try.results37 ⟨rfl, rfl, trivial⟩ ⟨rfl, rfl⟩
  · replace hm := ifF hm hb13
    refine WJ.skip ?_
    refine PJ.next ?_
    refine WJ.seq ?_
    refine WJ.reg ?_
    refine SJ.buildSlice (R := fByte) (os := []) [] Try.runUnderlying22 Try.sizeOf5 Try.zeroValue5 rfl rfl rfl rfl rfl rfl fun v14 => ?_
    refine SJ.q (YldS.yld (y_assign rfl)) rfl ?_
    refine SJ.nil ?_
    refine PJ.next ?_
    obtain ⟨kj17, hk18, hm⟩ := withK_open hm
    refine WJ.join (X := (List UInt8) × Value) (fun (x : (List UInt8) × Value) => kj17 x.1 = some r) (fun (x : (List UInt8) × Value) => [(6, x.2)]) (fun (x : (List UInt8) × Value) => [row x.2 5 fByte x.1]) ?_ ?_
    · clear hk18
      refine WJ.seq ?_
      refine WJ.quiet ?_
      refine QJ.step (YldS.yld (y_move rfl)) rfl ?_
      refine QJ.step (YldS.yld (y_lenS Try.runUnderlying53 hr4 rfl)) rfl ?_
      refine QJ.step (YldS.yld (y_move rfl)) rfl ?_
      refine QJ.done ?_
      refine PJ.next ?_
      refine WJ.block ?_
      refine WJ.sel (L' := (fun (x : (List UInt8) × Value × Int) => [row x.2.1 5 fByte x.1, box g5 45 [.int .i64 c1.left, .int .i64 c1.right, .int .i64 c1.bell]]) ([], v14, 0)) [0, 1] ⟨by decide, rfl⟩ ?_
      refine WJ.sub (m' := (fun (x : (List UInt8) × Value × Int) => [(2, pt g5 0), (6, x.2.1), (20, v3), (21, .int .i64 (List.length list2 : Int)), (22, .int .i64 x.2.2)]) ([], v14, 0)) ⟨rfl, rfl, rfl, rfl, rfl, trivial⟩ ?_
      refine WJ.loop (X := (List UInt8) × Value × Int) (fun N (x : (List UInt8) × Value × Int) => i_LineOf_l1 kj17 c1 list2 N x.1 x.2.2 = some r) (fun (x : (List UInt8) × Value × Int) => [(2, pt g5 0), (6, x.2.1), (20, v3), (21, .int .i64 (List.length list2 : Int)), (22, .int .i64 x.2.2)]) (fun (x : (List UInt8) × Value × Int) => [row x.2.1 5 fByte x.1, box g5 45 [.int .i64 c1.left, .int .i64 c1.right, .int .i64 c1.bell]]) ?_ N ([], v14, 0) hm
      · rintro N ⟨l19, v20, x21⟩ hI
        have hm := hI; clear hI
        cases N with
        | zero => cases hm
        | succ N =>
        unfold i_LineOf_l1 at hm
        refine WJ.seq ?_
        refine WJ.quiet ?_
        refine QJ.step (YldS.yld (y_bin rfl rfl rfl)) rfl ?_
        refine QJ.done ?_
        refine PJ.next ?_
        refine WJ.seq ?_
        refine WJ.cond (t := decide (x21 < (List.length list2 : Int))) rfl (fun hb22 => ?_) (fun hb22 => ?_)
        · replace hm := ifT hm hb22
          refine WJ.skip ?_
          refine PJ.next ?_
          obtain ⟨kj25, hk26, hm⟩ := withK_open hm
          refine WJ.join (X := (List UInt8) × Value) (fun (x : (List UInt8) × Value) => kj25 x.1 = some r) (fun (x : (List UInt8) × Value) => [(2, pt g5 0), (6, x.2), (20, v3), (21, .int .i64 (List.length list2 : Int)), (22, .int .i64 x21)]) (fun (x : (List UInt8) × Value) => [row x.2 5 fByte x.1, box g5 45 [.int .i64 c1.left, .int .i64 c1.right, .int .i64 c1.bell]]) ?_ ?_
          · clear hk26
            refine WJ.block ?_
            refine WJ.seq ?_
            refine WJ.reg ?_
            obtain ⟨e27, h28, hm⟩ := bindS hm
            obtain ⟨ad29, _, rfl, ha30, hy31⟩ := hr4.elem h28
            refine SJ.q (YldS.yld (hy31 Try.runUnderlying53 Try.sizeOf76 rfl rfl)) rfl ?_
            refine SJ.q (YldS.yld (y_loadN Try.isAgg76 Try.sizeOf76 rfl ha30 St.frozenC rfl)) rfl ?_
            refine SJ.alloc (cs := [.int .i64 0, str []]) Try.zeroValue76 rfl rfl fun g32 => ?_
            refine SJ.storeL (k := 0) (off := 0) (us := [.int .i64 e27.place, str e27.letter]) rfl rfl rfl rfl Try.sizeOf76 rfl rfl ?_
            refine SJ.nil ?_
            refine PJ.next ?_
            refine WJ.seq ?_
            refine WJ.quiet ?_
            refine QJ.step (YldS.yld (y_fldB (o := 0) fld76_0 rfl)) rfl ?_
            refine QJ.step (YldS.yld (y_loadB (k := 0) (off := 0) (v := .int .i64 e27.place) rfl Try.isAgg2 rfl rfl)) rfl ?_
            refine QJ.step (YldS.yld (y_fldB (o := 0) fld45_0 rfl)) rfl ?_
            refine QJ.step (YldS.yld (y_loadB (k := 2) (off := 0) (v := .int .i64 c1.left) rfl Try.isAgg2 rfl rfl)) rfl ?_
            refine QJ.step (YldS.yld (y_bin rfl rfl rfl)) rfl ?_
            refine QJ.step (YldS.yld (y_assign rfl)) rfl ?_
            refine QJ.done ?_
            refine PJ.next ?_
            refine WJ.seq ?_
            refine WJ.seq ?_
            refine WJ.quiet ?_
            refine QJ.step (YldS.yld (y_move rfl)) rfl ?_
            refine QJ.step (YldS.yld (y_bin rfl rfl rfl)) rfl ?_
            refine QJ.step (YldS.yld (y_move rfl)) rfl ?_
            obtain ⟨t33, h34, hm⟩ := bindS hm
            refine QJ.cut 4 [(2, pt g5 0), (6, v20), (8, pt g32 0), (9, .int .i64 (w64 (e27.place - c1.left))), (20, v3), (21, .int .i64 (List.length list2 : Int)), (22, .int .i64 x21), (37, .bool t33)] ?_ ?_
            · rcases Bool.eq_false_or_eq_true (decide ((w64 (e27.place - c1.left)) < 0)) with hb35 | hb35
              · obtain rfl := orT h34 hb35
                refine QJ.off rfl rfl (cB hb35) rfl rfl ?_
                refine QJ.off rfl rfl (cB hb35) rfl rfl ?_
                refine QJ.off rfl rfl (cB hb35) rfl rfl ?_
                refine QJ.step (YldS.yld (y_pick_t (cB hb35) rfl)) rfl ?_
                exact QJ.cut_end ⟨rfl, rfl, rfl, rfl, rfl, rfl, rfl, rfl, trivial⟩
              · replace h34 := orF h34 hb35
                refine QJ.on rfl rfl (cB hb35) (YldS.yld (y_move rfl)) rfl ?_
                refine QJ.on rfl rfl (cB hb35) (YldS.yld (y_rem rfl rfl (by decide))) rfl ?_
                refine QJ.on rfl rfl (cB hb35) (YldS.yld (y_bin rfl rfl rfl)) rfl ?_
                refine QJ.step (YldS.yld (y_pick_f (cB hb35) rfl)) rfl ?_
                obtain rfl := Option.some.inj h34
                exact QJ.cut_end ⟨rfl, rfl, rfl, rfl, rfl, rfl, rfl, rfl, trivial⟩
            refine QJ.done ?_
            refine PJ.next ?_
            refine WJ.cond (t := t33) rfl (fun hb36 => ?_) (fun hb36 => ?_)
            · replace hm := ifT hm hb36
              refine WJ.seq ?_
              refine WJ.quiet ?_
              refine QJ.step (YldS.yld (y_assign rfl)) rfl ?_
              refine QJ.step (YldS.yld (y_assign rfl)) rfl ?_
              refine QJ.done ?_
              refine PJ.next ?_
              refine WJ.ret ?_
              refine PJ.then_ret (PJ.block_ret (PJ.then_ret (PJ.then_ret (PJ.block_ret (PJ.then_ret ?_)))))
              obtain rfl := Option.some.inj hm
              refine PJ.sel (L' := []) [] ⟨List.nodup_nil, rfl⟩ ?_
              exact PJ.retn (vs := [str [], .int .i64 8]) Try.results37 ⟨rfl, rfl, trivial⟩ ⟨rfl, rfl⟩
            · replace hm := ifF hm hb36
              refine WJ.skip ?_
              refine PJ.next ?_
              refine WJ.seq ?_
              refine WJ.quiet ?_
              refine QJ.step (YldS.yld (y_move rfl)) rfl ?_
              refine QJ.step (YldS.yld (y_quo rfl rfl (by decide))) rfl ?_
              refine QJ.step (YldS.yld (y_assign rfl)) rfl ?_
              refine QJ.done ?_
              refine PJ.next ?_
              obtain ⟨kj39, hk40, hm⟩ := withK_open hm
              refine WJ.join (X := (List UInt8) × Value) (fun (x : (List UInt8) × Value) => kj39 x.1 = some r) (fun (x : (List UInt8) × Value) => [(2, pt g5 0), (6, x.2), (8, pt g32 0), (10, .int .i64 (w64 (Int.tdiv (w64 (e27.place - c1.left)) 2))), (20, v3), (21, .int .i64 (List.length list2 : Int)), (22, .int .i64 x21)]) (fun (x : (List UInt8) × Value) => [box g32 76 [.int .i64 e27.place, str e27.letter], row x.2 5 fByte x.1, box g5 45 [.int .i64 c1.left, .int .i64 c1.right, .int .i64 c1.bell]]) ?_ ?_
              · clear hk40
                refine WJ.block ?_
                refine WJ.sel (L' := (fun (x : (List UInt8) × Value) => [box g32 76 [.int .i64 e27.place, str e27.letter], row x.2 5 fByte x.1, box g5 45 [.int .i64 c1.left, .int .i64 c1.right, .int .i64 c1.bell]]) (l19, v20)) [0, 1, 2] ⟨by decide, rfl⟩ ?_
                refine WJ.sub (m' := (fun (x : (List UInt8) × Value) => [(2, pt g5 0), (6, x.2), (8, pt g32 0), (10, .int .i64 (w64 (Int.tdiv (w64 (e27.place - c1.left)) 2))), (20, v3), (21, .int .i64 (List.length list2 : Int)), (22, .int .i64 x21)]) (l19, v20)) ⟨rfl, rfl, rfl, rfl, rfl, rfl, rfl, trivial⟩ ?_
                refine WJ.loop (X := (List UInt8) × Value) (fun N (x : (List UInt8) × Value) => i_LineOf_l2 kj39 c1 e27 N x.1 = some r) (fun (x : (List UInt8) × Value) => [(2, pt g5 0), (6, x.2), (8, pt g32 0), (10, .int .i64 (w64 (Int.tdiv (w64 (e27.place - c1.left)) 2))), (20, v3), (21, .int .i64 (List.length list2 : Int)), (22, .int .i64 x21)]) (fun (x : (List UInt8) × Value) => [box g32 76 [.int .i64 e27.place, str e27.letter], row x.2 5 fByte x.1, box g5 45 [.int .i64 c1.left, .int .i64 c1.right, .int .i64 c1.bell]]) ?_ N (l19, v20) hm
                · rintro N ⟨l41, v42⟩ hI
                  have hm := hI; clear hI
                  cases N with
                  | zero => cases hm
                  | succ N =>
                  unfold i_LineOf_l2 at hm
                  refine WJ.seq ?_
                  refine WJ.seq ?_
                  refine WJ.quiet ?_
                  refine QJ.step (YldS.yld (y_move rfl)) rfl ?_
                  refine QJ.step (YldS.yld (y_lenRow (k := 1) rfl Try.runUnderlying22 rfl)) rfl ?_
                  refine QJ.step (YldS.yld (y_move rfl)) rfl ?_
                  refine QJ.step (YldS.yld (y_bin rfl rfl rfl)) rfl ?_
                  refine QJ.done ?_
                  refine PJ.next ?_
                  refine WJ.cond (t := decide ((List.length l41 : Int) ≤ (w64 (Int.tdiv (w64 (e27.place - c1.left)) 2)))) rfl (fun hb43 => ?_) (fun hb43 => ?_)
                  · replace hm := ifT hm hb43
                    refine WJ.skip ?_
                    refine PJ.next ?_
                    refine WJ.block ?_
                    refine WJ.reg ?_
                    refine SJ.q (YldS.yld (y_move rfl)) rfl ?_
                    refine SJ.buildSlice (R := fByte) (os := [.const (.int .u8 (UInt8.toNat 32 : Int))]) [32] Try.runUnderlying22 Try.sizeOf5 Try.zeroValue5 rfl rfl rfl rfl rfl rfl fun v44 => ?_
                    obtain ⟨l45, h46, hm⟩ := bindS hm
                    refine SJ.append (k := 2) (R := fByte) h46 rfl Try.underlying22 el5 rfl rfl rfl (fun w hw => (hw.row_rd (k := 0) rfl)) rfl fun v47 => ?_
                    refine SJ.q (YldS.yld (y_assign rfl)) rfl ?_
                    refine SJ.nil ?_
                    refine PJ.block_normal ?_
                    exact PJ.round (l45, v47) [1, 2, 3] hm ⟨rfl, rfl, rfl, rfl, rfl, rfl, rfl, trivial⟩ ⟨by decide, rfl⟩
                  · replace hm := ifF hm hb43
                    refine WJ.exit ?_
                    refine PJ.then_exit (PJ.then_exit (PJ.block_exit ?_))
                    exact PJ.joined (l41, v42) [0, 1, 2] hm ⟨rfl, rfl, rfl, rfl, rfl, rfl, rfl, trivial⟩ ⟨by decide, rfl⟩
              · rintro ⟨l37, v38⟩ hm
                subst hk40
                refine WJ.seq ?_
                refine WJ.seq ?_
                refine WJ.quiet ?_
                refine QJ.step (YldS.yld (y_move rfl)) rfl ?_
                refine QJ.step (YldS.yld (y_move rfl)) rfl ?_
                obtain ⟨e48, h49, hm⟩ := bindS hm
                refine QJ.step (YldS.yld (y_ixRow (k := 1) (R := fByte) rfl Try.runUnderlying22 Try.sizeOf5 rfl rfl h49)) rfl ?_
                refine QJ.step (YldS.yld (y_loadR (k := 1) (i := (Int.toNat (w64 (Int.tdiv (w64 (e27.place - c1.left)) 2)))) (off := 0) (u := .int .u8 (UInt8.toNat e48 : Int)) rfl Try.isAgg5 rfl (idx_get h49) rfl)) rfl ?_
                refine QJ.step (YldS.yld (y_bin8 e48 (32 : UInt8) rfl rfl rfl)) rfl ?_
                refine QJ.done ?_
                refine PJ.next ?_
                refine WJ.cond (t := (e48 != (32 : UInt8))) rfl (fun hb50 => ?_) (fun hb50 => ?_)
                · replace hm := ifT hm hb50
                  refine WJ.seq ?_
                  refine WJ.quiet ?_
                  refine QJ.step (YldS.yld (y_assign rfl)) rfl ?_
                  refine QJ.step (YldS.yld (y_assign rfl)) rfl ?_
                  refine QJ.done ?_
                  refine PJ.next ?_
                  refine WJ.ret ?_
                  refine PJ.then_ret (PJ.block_ret (PJ.then_ret (PJ.then_ret (PJ.block_ret (PJ.then_ret ?_)))))
                  obtain rfl := Option.some.inj hm
                  refine PJ.sel (L' := []) [] ⟨List.nodup_nil, rfl⟩ ?_
                  exact PJ.retn (vs := [str [], .int .i64 9]) Try.results37 ⟨rfl, rfl, trivial⟩ ⟨rfl, rfl⟩
                · replace hm := ifF hm hb50
                  refine WJ.skip ?_
                  refine PJ.next ?_
                  refine WJ.reg ?_
                  refine SJ.q (YldS.yld (y_move rfl)) rfl ?_
                  refine SJ.q (YldS.yld (y_move rfl)) rfl ?_
                  refine SJ.q (YldS.yld (y_fldB (o := 0) fld76_1 rfl)) rfl ?_
                  refine SJ.q (YldS.yld (y_loadB (k := 0) (off := 1) (v := str e27.letter) rfl Try.isAgg9 rfl rfl)) rfl ?_
                  obtain ⟨c51, h52, hm⟩ := bindS hm
                  refine SJ.q (YldS.yld (y_idxStr Try.runUnderlying9 rfl rfl h52)) rfl ?_
                  obtain ⟨e53, h54, hm⟩ := bindS hm
                  refine SJ.q (YldS.yld (y_ixRow (k := 1) (R := fByte) rfl Try.runUnderlying22 Try.sizeOf5 rfl rfl h54)) rfl ?_
                  refine SJ.storeRL (k := 1) (i := (Int.toNat (w64 (Int.tdiv (w64 (e27.place - c1.left)) 2)))) (off := 0) (us := [.int .u8 (UInt8.toNat c51 : Int)]) (b := c51) rfl rfl (idx_get h54) rfl rfl Try.sizeOf5 rfl rfl rfl ?_
                  refine SJ.nil ?_
                  refine PJ.block_normal ?_
                  exact PJ.joined ((List.set l37 (Int.toNat (w64 (Int.tdiv (w64 (e27.place - c1.left)) 2))) c51), v38) [1, 2] hm ⟨rfl, rfl, rfl, rfl, rfl, trivial⟩ ⟨by decide, rfl⟩
          · rintro ⟨l23, v24⟩ hm
            subst hk26
            refine WJ.quiet ?_
            refine QJ.step (YldS.yld (y_bin rfl rfl rfl)) rfl ?_
            refine QJ.step (YldS.yld (y_move rfl)) rfl ?_
            refine QJ.done ?_
            exact PJ.round (l23, v24, w64 (x21 + 1)) [0, 1] hm ⟨rfl, rfl, rfl, rfl, rfl, trivial⟩ ⟨by decide, rfl⟩
        · replace hm := ifF hm hb22
          refine WJ.exit ?_
          refine PJ.then_exit (PJ.then_exit (PJ.block_exit ?_))
          exact PJ.joined (l19, v20) [0] hm ⟨rfl, trivial⟩ ⟨by decide, rfl⟩
    · rintro ⟨l15, v16⟩ hm
      subst hk18
      refine WJ.seq ?_
      refine WJ.quiet ?_
      refine QJ.step (YldS.yld (y_move rfl)) rfl ?_
      refine QJ.step (YldS.yld (y_b2s Try.underlying22 Try.underlying9 Try.underlying5 (fun w hw => ⟨_, (hw.row_rd (k := 0) rfl)⟩) rfl)) rfl ?_
      refine QJ.step (YldS.yld (y_assign rfl)) rfl ?_
      refine QJ.step (YldS.yld (y_assign rfl)) rfl ?_
      refine QJ.done ?_
      refine PJ.next ?_
      refine WJ.ret ?_
      obtain rfl := Option.some.inj hm
      refine PJ.sel (L' := []) [] ⟨List.nodup_nil, rfl⟩ ?_
      exact PJ.retn (vs := [str l15, .int .i64 0]) Try.results37 ⟨rfl, rfl, trivial⟩ ⟨rfl, rfl⟩

set_option maxRecDepth 100000 in
set_option maxHeartbeats 1000000 in
theorem ok_w_f6trim {N : Nat} {s1 : Str} {r : Str} (hm : w_f6trim N s1 = some r) (w : World)  :
    Calls Try.prog 38 #[str s1] w (Ret (cx w) (str r)) := by
  unfold w_f6trim at hm
  refine Calls.enter [str s1] Try.func38 rfl Try.ntmps38 rfl ?_
  refine WJ.seq ?_
  refine WJ.quiet ?_
  refine QJ.step (YldS.yld (y_assign rfl)) rfl ?_
  refine QJ.done ?_
  refine PJ.next ?_
  refine WJ.seq ?_
  refine WJ.quiet ?_
  refine QJ.step (YldS.yld (y_move rfl)) rfl ?_
  refine QJ.step (YldS.yld (y_lenStr Try.runUnderlying9 rfl)) rfl ?_
  refine QJ.step (YldS.yld (y_assign rfl)) rfl ?_
  refine QJ.done ?_
  refine PJ.next ?_
  obtain ⟨kj3, hk4, hm⟩ := withK_open hm
  refine WJ.join (X := Int) (fun (x : Int) => kj3 x = some r) (fun (x : Int) => [(0, str s1), (3, .int .i64 x)]) (fun (x : Int) => []) ?_ ?_
  · clear hk4
    refine WJ.block ?_
    refine WJ.sel (L' := (fun (x : Int) => []) (List.length s1 : Int)) [] ⟨List.nodup_nil, rfl⟩ ?_
    refine WJ.sub (m' := (fun (x : Int) => [(0, str s1), (3, .int .i64 x)]) (List.length s1 : Int)) ⟨rfl, rfl, trivial⟩ ?_
    refine WJ.loop (X := Int) (fun N (x : Int) => w_f6trim_l1 kj3 s1 N x = some r) (fun (x : Int) => [(0, str s1), (3, .int .i64 x)]) (fun (x : Int) => []) ?_ N (List.length s1 : Int) hm
    · rintro N n5 hI
      have hm := hI; clear hI
      cases N with
      | zero => cases hm
      | succ N =>
      unfold w_f6trim_l1 at hm
      refine WJ.seq ?_
      refine WJ.seq ?_
      refine WJ.quiet ?_
      refine QJ.step (YldS.yld (y_move rfl)) rfl ?_
      refine QJ.step (YldS.yld (y_bin rfl rfl rfl)) rfl ?_
      refine QJ.step (YldS.yld (y_move rfl)) rfl ?_
      obtain ⟨t6, h7, hm⟩ := bindS hm
      refine QJ.cut 6 [(0, str s1), (3, .int .i64 n5), (14, .bool t6)] ?_ ?_
      · rcases Bool.eq_false_or_eq_true (decide (n5 > 0)) with hb8 | hb8
        · replace h7 := andT h7 hb8
          refine QJ.on rfl rfl (cB hb8) (YldS.yld (y_move rfl)) rfl ?_
          refine QJ.on rfl rfl (cB hb8) (YldS.yld (y_move rfl)) rfl ?_
          refine QJ.on rfl rfl (cB hb8) (YldS.yld (y_bin rfl rfl rfl)) rfl ?_
          obtain ⟨c9, h10, h7⟩ := bindS h7
          refine QJ.on rfl rfl (cB hb8) (YldS.yld (y_idxStr Try.runUnderlying9 rfl rfl h10)) rfl ?_
          refine QJ.on rfl rfl (cB hb8) (YldS.yld (y_bin8 c9 (32 : UInt8) rfl rfl rfl)) rfl ?_
          refine QJ.step (YldS.yld (y_pick_t (cB hb8) rfl)) rfl ?_
          obtain rfl := Option.some.inj h7
          exact QJ.cut_end ⟨rfl, rfl, rfl, trivial⟩
        · obtain rfl := andF h7 hb8
          refine QJ.off rfl rfl (cB hb8) rfl rfl ?_
          refine QJ.off rfl rfl (cB hb8) rfl rfl ?_
          refine QJ.off rfl rfl (cB hb8) rfl rfl ?_
          refine QJ.off rfl rfl (cB hb8) rfl rfl ?_
          refine QJ.off rfl rfl (cB hb8) rfl rfl ?_
          refine QJ.step (YldS.yld (y_pick_f (cB hb8) rfl)) rfl ?_
          exact QJ.cut_end ⟨rfl, rfl, rfl, trivial⟩
      refine QJ.done ?_
      refine PJ.next ?_
      refine WJ.cond (t := t6) rfl (fun hb11 => ?_) (fun hb11 => ?_)
      · replace hm := ifT hm hb11
        refine WJ.skip ?_
        refine PJ.next ?_
        refine WJ.block ?_
        refine WJ.quiet ?_
        refine QJ.step (YldS.yld (y_move rfl)) rfl ?_
        refine QJ.step (YldS.yld (y_bin rfl rfl rfl)) rfl ?_
        refine QJ.step (YldS.yld (y_assign rfl)) rfl ?_
        refine QJ.done ?_
        refine PJ.block_normal ?_
        exact PJ.round (w64 (n5 - 1)) [] hm ⟨rfl, rfl, trivial⟩ ⟨List.nodup_nil, rfl⟩
      · replace hm := ifF hm hb11
        refine WJ.exit ?_
        refine PJ.then_exit (PJ.then_exit (PJ.block_exit ?_))
        exact PJ.joined n5 [] hm ⟨rfl, rfl, trivial⟩ ⟨List.nodup_nil, rfl⟩
  · rintro n2 hm
    subst hk4
    refine WJ.seq ?_
    refine WJ.quiet ?_
    refine QJ.step (YldS.yld (y_move rfl)) rfl ?_
    refine QJ.step (YldS.yld (y_move rfl)) rfl ?_
    obtain ⟨s12, h13, hm⟩ := bindS hm
    refine QJ.step (YldS.yld (y_subStr (i := none) (j := some n2) h13 Try.runUnderlying9 rfl trivial ⟨_, rfl⟩)) rfl ?_
    refine QJ.step (YldS.yld (y_assign rfl)) rfl ?_
    refine QJ.done ?_
    refine PJ.next ?_
    refine WJ.ret ?_
    obtain rfl := Option.some.inj hm
    refine PJ.sel (L' := []) [] ⟨List.nodup_nil, rfl⟩ ?_
    exact PJ.retn (vs := [str s12]) Try.results38 ⟨rfl, trivial⟩ ⟨rfl, rfl⟩

set_option maxRecDepth 100000 in
set_option maxHeartbeats 1000000 in
theorem ok_w_FnTypedActs {N : Nat} {code1 : List UInt8} {r : Bool} (hm : w_FnTypedActs N code1 = some r) (w : World) (v2 : Value) (hr3 : RdS w (cx w).Fz v2 fByte.rp code1) :
    Calls Try.prog 4 #[v2] w (Ret (cx w) (.bool r)) := by
  unfold w_FnTypedActs at hm
  refine Calls.enter [v2] Try.func4 rfl Try.ntmps4 rfl ?_
  refine WJ.seq ?_
  refine WJ.quiet ?_
  refine QJ.step (YldS.yld (y_assign rfl)) rfl ?_
  refine QJ.done ?_
  refine PJ.next ?_
  refine WJ.seq ?_
  refine WJ.seq ?_
  refine WJ.quiet ?_
  refine QJ.step (YldS.yld (y_move rfl)) rfl ?_
  obtain ⟨r4, h5, hm⟩ := bindS hm
  refine QJ.step (y_call Try.call9 rfl (RetG.quiet fun w hw => ok_w_f6big h5 w _ (hr3.st hw))) rfl ?_
  refine QJ.done ?_
  refine PJ.next ?_
  refine WJ.cond (t := r4) rfl (fun hb6 => ?_) (fun hb6 => ?_)
  · replace hm := ifT hm hb6
    refine WJ.seq ?_
    refine WJ.quiet ?_
    refine QJ.step (YldS.yld (y_assign rfl)) rfl ?_
    refine QJ.done ?_
    refine PJ.next ?_
    refine WJ.ret ?_
    refine PJ.then_ret ?_
    obtain rfl := Option.some.inj hm
    refine PJ.sel (L' := []) [] ⟨List.nodup_nil, rfl⟩ ?_
    exact PJ.retn (vs := [.bool true]) Try.results4 ⟨rfl, trivial⟩ ⟨rfl, rfl⟩
  · replace hm := ifF hm hb6
    refine WJ.skip ?_
    refine PJ.next ?_
    refine WJ.seq ?_
    refine WJ.reg ?_
    refine SJ.q (YldS.yld (y_move rfl)) rfl ?_
    obtain ⟨r7, h8, hm⟩ := bindS hm
    refine SJ.q (y_call Try.call20 rfl (RetG.quiet fun w hw => ok_s_DrawActsForLine h8 w _ (hr3.st hw))) rfl ?_
    refine SJ.q (YldS.yld (y_move rfl)) rfl ?_
    refine SJ.q (YldS.yld (y_extract rfl rfl)) rfl ?_
    refine SJ.q (YldS.yld (y_extract rfl rfl)) rfl ?_
    refine SJ.alloc (cs := [.int .i64 0, .int .i64 0, .int .i64 0]) Try.zeroValue45 rfl rfl fun g9 => ?_
    refine SJ.storeL (k := 0) (off := 0) (us := [.int .i64 r7.1.left, .int .i64 r7.1.right, .int .i64 r7.1.bell]) rfl rfl rfl rfl Try.sizeOf45 rfl rfl ?_
    refine SJ.q (YldS.yld (y_assign rfl)) rfl ?_
    refine SJ.nil ?_
    refine PJ.next ?_
    refine WJ.seq ?_
    refine WJ.reg ?_
    refine SJ.q (YldS.yld (y_loadBN (k := 0) (off := 0) (us := [.int .i64 r7.1.left, .int .i64 r7.1.right, .int .i64 r7.1.bell]) rfl Try.isAgg45 Try.sizeOf45 rfl rfl)) rfl ?_
    refine SJ.q (YldS.yld (y_move rfl)) rfl ?_
    obtain ⟨r10, h11, hm⟩ := bindS hm
    refine SJ.call Try.call21 rfl (fun w hw => ok_i_ActsForLine h11 w ) rfl ?_
    rintro _ _ ⟨v12, rfl, rfl⟩
    refine SJ.q (YldS.yld (y_move rfl)) rfl ?_
    refine SJ.q (YldS.yld (y_extract rfl rfl)) rfl ?_
    refine SJ.q (YldS.yld (y_extract rfl rfl)) rfl ?_
    refine SJ.q (YldS.yld (y_assign rfl)) rfl ?_
    refine SJ.q (YldS.yld (y_assign rfl)) rfl ?_
    refine SJ.nil ?_
    refine PJ.next ?_
    refine WJ.seq ?_
    refine WJ.reg ?_
    refine SJ.q (YldS.yld (y_loadBN (k := 1) (off := 0) (us := [.int .i64 r7.1.left, .int .i64 r7.1.right, .int .i64 r7.1.bell]) rfl Try.isAgg45 Try.sizeOf45 rfl rfl)) rfl ?_
    refine SJ.q (YldS.yld (y_move rfl)) rfl ?_
    obtain ⟨r13, h14, hm⟩ := bindS hm
    refine SJ.call Try.call22 rfl (fun w hw => ok_s_ActsForLine h14 w ) rfl ?_
    rintro _ _ ⟨v15, rfl, rfl⟩
    refine SJ.q (YldS.yld (y_move rfl)) rfl ?_
    refine SJ.q (YldS.yld (y_extract rfl rfl)) rfl ?_
    refine SJ.q (YldS.yld (y_extract rfl rfl)) rfl ?_
    refine SJ.q (YldS.yld (y_assign rfl)) rfl ?_
    refine SJ.q (YldS.yld (y_assign rfl)) rfl ?_
    refine SJ.nil ?_
    refine PJ.next ?_
    refine WJ.seq ?_
    refine WJ.reg ?_
    refine SJ.q (YldS.yld (y_move rfl)) rfl ?_
    obtain ⟨r16, h17, hm⟩ := bindS hm
    refine SJ.call Try.call23 rfl (fun w hw => ok_s_DrawTypeActs h17 w _ (hr3.st hw)) rfl ?_
    rintro _ _ ⟨v18, rfl, rfl⟩
    refine SJ.q (YldS.yld (y_move rfl)) rfl ?_
    refine SJ.q (YldS.yld (y_extract rfl rfl)) rfl ?_
    refine SJ.q (YldS.yld (y_extract rfl rfl)) rfl ?_
    refine SJ.alloc (cs := [.int .i64 0, .int .i64 0, .int .i64 0]) Try.zeroValue45 rfl rfl fun g19 => ?_
    refine SJ.storeL (k := 0) (off := 0) (us := [.int .i64 r16.1.left, .int .i64 r16.1.right, .int .i64 r16.1.bell]) rfl rfl rfl rfl Try.sizeOf45 rfl rfl ?_
    refine SJ.q (YldS.yld (y_assign rfl)) rfl ?_
    refine SJ.nil ?_
    refine PJ.next ?_
    refine WJ.seq ?_
    refine WJ.reg ?_
    refine SJ.q (YldS.yld (y_loadBN (k := 0) (off := 0) (us := [.int .i64 r16.1.left, .int .i64 r16.1.right, .int .i64 r16.1.bell]) rfl Try.isAgg45 Try.sizeOf45 rfl rfl)) rfl ?_
    refine SJ.q (YldS.yld (y_move rfl)) rfl ?_
    obtain ⟨r20, h21, hm⟩ := bindS hm
    refine SJ.call Try.call24 rfl (fun w hw => ok_i_TypeActs h21 w _ (hw.row_rd (k := 1) rfl)) rfl ?_
    rintro _ _ ⟨v22, rfl, rfl⟩
    refine SJ.q (YldS.yld (y_move rfl)) rfl ?_
    refine SJ.q (YldS.yld (y_extract rfl rfl)) rfl ?_
    refine SJ.q (YldS.yld (y_extract rfl rfl)) rfl ?_
    refine SJ.q (YldS.yld (y_extract rfl rfl)) rfl ?_
    refine SJ.q (YldS.yld (y_assign rfl)) rfl ?_
    refine SJ.q (YldS.yld (y_assign rfl)) rfl ?_
    refine SJ.q (YldS.yld (y_assign rfl)) rfl ?_
    refine SJ.nil ?_
    refine PJ.next ?_
    refine WJ.seq ?_
    refine WJ.reg ?_
    refine SJ.q (YldS.yld (y_loadBN (k := 1) (off := 0) (us := [.int .i64 r16.1.left, .int .i64 r16.1.right, .int .i64 r16.1.bell]) rfl Try.isAgg45 Try.sizeOf45 rfl rfl)) rfl ?_
    refine SJ.q (YldS.yld (y_move rfl)) rfl ?_
    obtain ⟨r23, h24, hm⟩ := bindS hm
    refine SJ.call Try.call25 rfl (fun w hw => ok_s_TypeActs h24 w _ (hw.row_rd (k := 2) rfl)) rfl ?_
    rintro _ _ ⟨v25, rfl, rfl⟩
    refine SJ.q (YldS.yld (y_move rfl)) rfl ?_
    refine SJ.q (YldS.yld (y_extract rfl rfl)) rfl ?_
    refine SJ.q (YldS.yld (y_extract rfl rfl)) rfl ?_
    refine SJ.q (YldS.yld (y_extract rfl rfl)) rfl ?_
    refine SJ.q (YldS.yld (y_assign rfl)) rfl ?_
    refine SJ.q (YldS.yld (y_assign rfl)) rfl ?_
    refine SJ.q (YldS.yld (y_assign rfl)) rfl ?_
    refine SJ.nil ?_
    refine PJ.next ?_
    refine WJ.seq ?_
    refine WJ.quiet ?_
    refine QJ.step (YldS.yld (y_loadBN (k := 2) (off := 0) (us := [.int .i64 r16.1.left, .int .i64 r16.1.right, .int .i64 r16.1.bell]) rfl Try.isAgg45 Try.sizeOf45 rfl rfl)) rfl ?_
    refine QJ.step (YldS.yld (y_move rfl)) rfl ?_
    obtain ⟨r26, h27, hm⟩ := bindS hm
    refine QJ.step (y_call Try.call26 rfl (RetG.quiet fun w hw => ok_i_LockedAt h27 w _ (hw.row_rd (k := 3) rfl))) rfl ?_
    refine QJ.step (YldS.yld (y_move rfl)) rfl ?_
    refine QJ.step (YldS.yld (y_extract rfl rfl)) rfl ?_
    refine QJ.step (YldS.yld (y_extract rfl rfl)) rfl ?_
    refine QJ.step (YldS.yld (y_assign rfl)) rfl ?_
    refine QJ.step (YldS.yld (y_assign rfl)) rfl ?_
    refine QJ.done ?_
    refine PJ.next ?_
    refine WJ.seq ?_
    refine WJ.quiet ?_
    refine QJ.step (YldS.yld (y_loadBN (k := 2) (off := 0) (us := [.int .i64 r16.1.left, .int .i64 r16.1.right, .int .i64 r16.1.bell]) rfl Try.isAgg45 Try.sizeOf45 rfl rfl)) rfl ?_
    refine QJ.step (YldS.yld (y_move rfl)) rfl ?_
    obtain ⟨r28, h29, hm⟩ := bindS hm
    refine QJ.step (y_call Try.call27 rfl (RetG.quiet fun w hw => ok_s_LockedAt h29 w _ (hw.row_rd (k := 3) rfl))) rfl ?_
    refine QJ.step (YldS.yld (y_move rfl)) rfl ?_
    refine QJ.step (YldS.yld (y_extract rfl rfl)) rfl ?_
    refine QJ.step (YldS.yld (y_extract rfl rfl)) rfl ?_
    refine QJ.step (YldS.yld (y_assign rfl)) rfl ?_
    refine QJ.step (YldS.yld (y_assign rfl)) rfl ?_
    refine QJ.done ?_
    refine PJ.next ?_
    refine WJ.seq ?_
    refine WJ.quiet ?_
    refine QJ.step (YldS.yld (y_loadBN (k := 2) (off := 0) (us := [.int .i64 r16.1.left, .int .i64 r16.1.right, .int .i64 r16.1.bell]) rfl Try.isAgg45 Try.sizeOf45 rfl rfl)) rfl ?_
    refine QJ.step (YldS.yld (y_move rfl)) rfl ?_
    obtain ⟨r30, h31, hm⟩ := bindS hm
    refine QJ.step (y_call Try.call28 rfl (RetG.quiet fun w hw => ok_i_BellsOf h31 w _ (hw.row_rd (k := 3) rfl))) rfl ?_
    refine QJ.step (YldS.yld (y_move rfl)) rfl ?_
    refine QJ.step (YldS.yld (y_extract rfl rfl)) rfl ?_
    refine QJ.step (YldS.yld (y_extract rfl rfl)) rfl ?_
    refine QJ.step (YldS.yld (y_assign rfl)) rfl ?_
    refine QJ.step (YldS.yld (y_assign rfl)) rfl ?_
    refine QJ.done ?_
    refine PJ.next ?_
    refine WJ.seq ?_
    refine WJ.quiet ?_
    refine QJ.step (YldS.yld (y_loadBN (k := 2) (off := 0) (us := [.int .i64 r16.1.left, .int .i64 r16.1.right, .int .i64 r16.1.bell]) rfl Try.isAgg45 Try.sizeOf45 rfl rfl)) rfl ?_
    refine QJ.step (YldS.yld (y_move rfl)) rfl ?_
    obtain ⟨r32, h33, hm⟩ := bindS hm
    refine QJ.step (y_call Try.call29 rfl (RetG.quiet fun w hw => ok_s_BellsOf h33 w _ (hw.row_rd (k := 3) rfl))) rfl ?_
    refine QJ.step (YldS.yld (y_move rfl)) rfl ?_
    refine QJ.step (YldS.yld (y_extract rfl rfl)) rfl ?_
    refine QJ.step (YldS.yld (y_extract rfl rfl)) rfl ?_
    refine QJ.step (YldS.yld (y_assign rfl)) rfl ?_
    refine QJ.step (YldS.yld (y_assign rfl)) rfl ?_
    refine QJ.done ?_
    refine PJ.next ?_
    refine WJ.seq ?_
    refine WJ.seq ?_
    refine WJ.quiet_draw follows (by kernel_rfl) ?_
    refine QJ.step (YldS.yld (y_move rfl)) rfl ?_
    refine QJ.step (YldS.yld (y_move rfl)) rfl ?_
    refine QJ.step (YldS.yld (y_bin rfl rfl rfl)) rfl ?_
    refine QJ.step (YldS.yld (y_move rfl)) rfl ?_
    obtain ⟨t34, h35, hm⟩ := bindS hm
    refine QJ.cut 6 [(3, pt g9 0), (4, str r7.2), (5, v12), (6, .int .i64 r10.2), (7, v15), (9, pt g19 0), (10, v18), (11, v22), (12, .int .i64 r20.2.1), (13, .int .i64 r20.2.2), (14, v25), (15, .int .i64 r23.2.1), (16, .int .i64 r23.2.2), (17, .int .i64 r26.1), (18, .int .i64 r26.2), (19, .int .i64 r28.1), (20, .int .i64 r28.2), (21, .int .i64 r30.1), (22, .int .i64 r30.2), (23, .int .i64 r32.1), (24, .int .i64 r32.2), (102, .bool t34)] ?_ ?_
    · rcases Bool.eq_false_or_eq_true (r10.2 != r13.2) with hb36 | hb36
      · obtain rfl := orT h35 hb36
        refine QJ.off rfl rfl (cB hb36) rfl rfl ?_
        refine QJ.off rfl rfl (cB hb36) rfl rfl ?_
        refine QJ.off rfl rfl (cB hb36) rfl rfl ?_
        refine QJ.off rfl rfl (cB hb36) rfl rfl ?_
        refine QJ.off rfl rfl (cB hb36) rfl rfl ?_
        refine QJ.step (YldS.yld (y_pick_t (cB hb36) rfl)) rfl ?_
        exact QJ.cut_end ⟨rfl, rfl, rfl, rfl, rfl, rfl, rfl, rfl, rfl, rfl, rfl, rfl, rfl, rfl, rfl, rfl, rfl, rfl, rfl, rfl, rfl, rfl, trivial⟩
      · replace h35 := orF h35 hb36
        refine QJ.on rfl rfl (cB hb36) (YldS.yld (y_move rfl)) rfl ?_
        refine QJ.on rfl rfl (cB hb36) (YldS.yld (y_lenRow (k := 5) rfl Try.runUnderlying48 rfl)) rfl ?_
        refine QJ.on rfl rfl (cB hb36) (YldS.yld (y_move rfl)) rfl ?_
        refine QJ.on rfl rfl (cB hb36) (YldS.yld (y_lenRow (k := 4) rfl Try.runUnderlying48 rfl)) rfl ?_
        refine QJ.on rfl rfl (cB hb36) (YldS.yld (y_bin rfl rfl rfl)) rfl ?_
        refine QJ.step (YldS.yld (y_pick_f (cB hb36) rfl)) rfl ?_
        obtain rfl := Option.some.inj h35
        exact QJ.cut_end ⟨rfl, rfl, rfl, rfl, rfl, rfl, rfl, rfl, rfl, rfl, rfl, rfl, rfl, rfl, rfl, rfl, rfl, rfl, rfl, rfl, rfl, rfl, trivial⟩
    refine QJ.step (YldS.yld (y_move rfl)) rfl ?_
    obtain ⟨t37, h38, hm⟩ := bindS hm
    refine QJ.cut 4 [(3, pt g9 0), (4, str r7.2), (5, v12), (6, .int .i64 r10.2), (7, v15), (9, pt g19 0), (10, v18), (11, v22), (12, .int .i64 r20.2.1), (13, .int .i64 r20.2.2), (14, v25), (15, .int .i64 r23.2.1), (17, .int .i64 r26.1), (18, .int .i64 r26.2), (19, .int .i64 r28.1), (20, .int .i64 r28.2), (21, .int .i64 r30.1), (22, .int .i64 r30.2), (23, .int .i64 r32.1), (24, .int .i64 r32.2), (107, .bool t37)] ?_ ?_
    · rcases Bool.eq_false_or_eq_true t34 with hb39 | hb39
      · obtain rfl := orT h38 hb39
        refine QJ.off rfl rfl (cB hb39) rfl rfl ?_
        refine QJ.off rfl rfl (cB hb39) rfl rfl ?_
        refine QJ.off rfl rfl (cB hb39) rfl rfl ?_
        refine QJ.step (YldS.yld (y_pick_t (cB hb39) rfl)) rfl ?_
        exact QJ.cut_end ⟨rfl, rfl, rfl, rfl, rfl, rfl, rfl, rfl, rfl, rfl, rfl, rfl, rfl, rfl, rfl, rfl, rfl, rfl, rfl, rfl, rfl, trivial⟩
      · replace h38 := orF h38 hb39
        refine QJ.on rfl rfl (cB hb39) (YldS.yld (y_move rfl)) rfl ?_
        refine QJ.on rfl rfl (cB hb39) (YldS.yld (y_move rfl)) rfl ?_
        refine QJ.on rfl rfl (cB hb39) (YldS.yld (y_bin rfl rfl rfl)) rfl ?_
        refine QJ.step (YldS.yld (y_pick_f (cB hb39) rfl)) rfl ?_
        obtain rfl := Option.some.inj h38
        exact QJ.cut_end ⟨rfl, rfl, rfl, rfl, rfl, rfl, rfl, rfl, rfl, rfl, rfl, rfl, rfl, rfl, rfl, rfl, rfl, rfl, rfl, rfl, rfl, trivial⟩
    refine QJ.step (YldS.yld (y_move rfl)) rfl ?_
    obtain ⟨t40, h41, hm⟩ := bindS hm
    refine QJ.cut 4 [(3, pt g9 0), (4, str r7.2), (5, v12), (6, .int .i64 r10.2), (7, v15), (9, pt g19 0), (10, v18), (11, v22), (13, .int .i64 r20.2.2), (14, v25), (17, .int .i64 r26.1), (18, .int .i64 r26.2), (19, .int .i64 r28.1), (20, .int .i64 r28.2), (21, .int .i64 r30.1), (22, .int .i64 r30.2), (23, .int .i64 r32.1), (24, .int .i64 r32.2), (112, .bool t40)] ?_ ?_
    · rcases Bool.eq_false_or_eq_true t37 with hb42 | hb42
      · obtain rfl := orT h41 hb42
        refine QJ.off rfl rfl (cB hb42) rfl rfl ?_
        refine QJ.off rfl rfl (cB hb42) rfl rfl ?_
        refine QJ.off rfl rfl (cB hb42) rfl rfl ?_
        refine QJ.step (YldS.yld (y_pick_t (cB hb42) rfl)) rfl ?_
        exact QJ.cut_end ⟨rfl, rfl, rfl, rfl, rfl, rfl, rfl, rfl, rfl, rfl, rfl, rfl, rfl, rfl, rfl, rfl, rfl, rfl, rfl, trivial⟩
      · replace h41 := orF h41 hb42
        refine QJ.on rfl rfl (cB hb42) (YldS.yld (y_move rfl)) rfl ?_
        refine QJ.on rfl rfl (cB hb42) (YldS.yld (y_move rfl)) rfl ?_
        refine QJ.on rfl rfl (cB hb42) (YldS.yld (y_bin rfl rfl rfl)) rfl ?_
        refine QJ.step (YldS.yld (y_pick_f (cB hb42) rfl)) rfl ?_
        obtain rfl := Option.some.inj h41
        exact QJ.cut_end ⟨rfl, rfl, rfl, rfl, rfl, rfl, rfl, rfl, rfl, rfl, rfl, rfl, rfl, rfl, rfl, rfl, rfl, rfl, rfl, trivial⟩
    refine QJ.step (YldS.yld (y_move rfl)) rfl ?_
    obtain ⟨t43, h44, hm⟩ := bindS hm
    refine QJ.cut 5 [(3, pt g9 0), (4, str r7.2), (5, v12), (6, .int .i64 r10.2), (7, v15), (9, pt g19 0), (10, v18), (13, .int .i64 r20.2.2), (17, .int .i64 r26.1), (18, .int .i64 r26.2), (19, .int .i64 r28.1), (20, .int .i64 r28.2), (21, .int .i64 r30.1), (22, .int .i64 r30.2), (23, .int .i64 r32.1), (24, .int .i64 r32.2), (118, .bool t43)] ?_ ?_
    · rcases Bool.eq_false_or_eq_true t40 with hb45 | hb45
      · obtain rfl := orT h44 hb45
        refine QJ.off rfl rfl (cB hb45) rfl rfl ?_
        refine QJ.off rfl rfl (cB hb45) rfl rfl ?_
        refine QJ.off rfl rfl (cB hb45) rfl rfl ?_
        refine QJ.off rfl rfl (cB hb45) rfl rfl ?_
        refine QJ.step (YldS.yld (y_pick_t (cB hb45) rfl)) rfl ?_
        exact QJ.cut_end ⟨rfl, rfl, rfl, rfl, rfl, rfl, rfl, rfl, rfl, rfl, rfl, rfl, rfl, rfl, rfl, rfl, rfl, trivial⟩
      · replace h44 := orF h44 hb45
        refine QJ.on rfl rfl (cB hb45) (YldS.yld (y_move rfl)) rfl ?_
        refine QJ.on rfl rfl (cB hb45) (YldS.yld (y_move rfl)) rfl ?_
        obtain ⟨r46, h47, h44⟩ := bindS h44
        refine QJ.on rfl rfl (cB hb45) (y_call Try.call30 rfl (RetG.quiet fun w hw => ok_s_SameStruck h47 w _ (hw.row_rd (k := 1) rfl) _ (hw.row_rd (k := 0) rfl))) rfl ?_
        refine QJ.on rfl rfl (cB hb45) (YldS.yld (y_not rfl)) rfl ?_
        refine QJ.step (YldS.yld (y_pick_f (cB hb45) rfl)) rfl ?_
        obtain rfl := Option.some.inj h44
        exact QJ.cut_end ⟨rfl, rfl, rfl, rfl, rfl, rfl, rfl, rfl, rfl, rfl, rfl, rfl, rfl, rfl, rfl, rfl, rfl, trivial⟩
    refine QJ.step (YldS.yld (y_move rfl)) rfl ?_
    obtain ⟨t48, h49, hm⟩ := bindS hm
    refine QJ.cut 4 [(3, pt g9 0), (4, str r7.2), (5, v12), (6, .int .i64 r10.2), (7, v15), (9, pt g19 0), (10, v18), (13, .int .i64 r20.2.2), (17, .int .i64 r26.1), (18, .int .i64 r26.2), (19, .int .i64 r28.1), (21, .int .i64 r30.1), (22, .int .i64 r30.2), (23, .int .i64 r32.1), (24, .int .i64 r32.2), (123, .bool t48)] ?_ ?_
    · rcases Bool.eq_false_or_eq_true t43 with hb50 | hb50
      · obtain rfl := orT h49 hb50
        refine QJ.off rfl rfl (cB hb50) rfl rfl ?_
        refine QJ.off rfl rfl (cB hb50) rfl rfl ?_
        refine QJ.off rfl rfl (cB hb50) rfl rfl ?_
        refine QJ.step (YldS.yld (y_pick_t (cB hb50) rfl)) rfl ?_
        exact QJ.cut_end ⟨rfl, rfl, rfl, rfl, rfl, rfl, rfl, rfl, rfl, rfl, rfl, rfl, rfl, rfl, rfl, rfl, trivial⟩
      · replace h49 := orF h49 hb50
        refine QJ.on rfl rfl (cB hb50) (YldS.yld (y_move rfl)) rfl ?_
        refine QJ.on rfl rfl (cB hb50) (YldS.yld (y_move rfl)) rfl ?_
        refine QJ.on rfl rfl (cB hb50) (YldS.yld (y_bin rfl rfl rfl)) rfl ?_
        refine QJ.step (YldS.yld (y_pick_f (cB hb50) rfl)) rfl ?_
        obtain rfl := Option.some.inj h49
        exact QJ.cut_end ⟨rfl, rfl, rfl, rfl, rfl, rfl, rfl, rfl, rfl, rfl, rfl, rfl, rfl, rfl, rfl, rfl, trivial⟩
    refine QJ.step (YldS.yld (y_move rfl)) rfl ?_
    obtain ⟨t51, h52, hm⟩ := bindS hm
    refine QJ.cut 4 [(3, pt g9 0), (4, str r7.2), (5, v12), (6, .int .i64 r10.2), (7, v15), (9, pt g19 0), (10, v18), (13, .int .i64 r20.2.2), (18, .int .i64 r26.2), (21, .int .i64 r30.1), (22, .int .i64 r30.2), (23, .int .i64 r32.1), (24, .int .i64 r32.2), (128, .bool t51)] ?_ ?_
    · rcases Bool.eq_false_or_eq_true t48 with hb53 | hb53
      · obtain rfl := orT h52 hb53
        refine QJ.off rfl rfl (cB hb53) rfl rfl ?_
        refine QJ.off rfl rfl (cB hb53) rfl rfl ?_
        refine QJ.off rfl rfl (cB hb53) rfl rfl ?_
        refine QJ.step (YldS.yld (y_pick_t (cB hb53) rfl)) rfl ?_
        exact QJ.cut_end ⟨rfl, rfl, rfl, rfl, rfl, rfl, rfl, rfl, rfl, rfl, rfl, rfl, rfl, rfl, trivial⟩
      · replace h52 := orF h52 hb53
        refine QJ.on rfl rfl (cB hb53) (YldS.yld (y_move rfl)) rfl ?_
        refine QJ.on rfl rfl (cB hb53) (YldS.yld (y_move rfl)) rfl ?_
        refine QJ.on rfl rfl (cB hb53) (YldS.yld (y_bin rfl rfl rfl)) rfl ?_
        refine QJ.step (YldS.yld (y_pick_f (cB hb53) rfl)) rfl ?_
        obtain rfl := Option.some.inj h52
        exact QJ.cut_end ⟨rfl, rfl, rfl, rfl, rfl, rfl, rfl, rfl, rfl, rfl, rfl, rfl, rfl, rfl, trivial⟩
    refine QJ.step (YldS.yld (y_move rfl)) rfl ?_
    obtain ⟨t54, h55, hm⟩ := bindS hm
    refine QJ.cut 4 [(3, pt g9 0), (4, str r7.2), (5, v12), (6, .int .i64 r10.2), (7, v15), (9, pt g19 0), (10, v18), (13, .int .i64 r20.2.2), (18, .int .i64 r26.2), (21, .int .i64 r30.1), (22, .int .i64 r30.2), (23, .int .i64 r32.1), (133, .bool t54)] ?_ ?_
    · rcases Bool.eq_false_or_eq_true t51 with hb56 | hb56
      · obtain rfl := orT h55 hb56
        refine QJ.off rfl rfl (cB hb56) rfl rfl ?_
        refine QJ.off rfl rfl (cB hb56) rfl rfl ?_
        refine QJ.off rfl rfl (cB hb56) rfl rfl ?_
        refine QJ.step (YldS.yld (y_pick_t (cB hb56) rfl)) rfl ?_
        exact QJ.cut_end ⟨rfl, rfl, rfl, rfl, rfl, rfl, rfl, rfl, rfl, rfl, rfl, rfl, rfl, trivial⟩
      · replace h55 := orF h55 hb56
        refine QJ.on rfl rfl (cB hb56) (YldS.yld (y_move rfl)) rfl ?_
        refine QJ.on rfl rfl (cB hb56) (YldS.yld (y_move rfl)) rfl ?_
        refine QJ.on rfl rfl (cB hb56) (YldS.yld (y_bin rfl rfl rfl)) rfl ?_
        refine QJ.step (YldS.yld (y_pick_f (cB hb56) rfl)) rfl ?_
        obtain rfl := Option.some.inj h55
        exact QJ.cut_end ⟨rfl, rfl, rfl, rfl, rfl, rfl, rfl, rfl, rfl, rfl, rfl, rfl, rfl, trivial⟩
    refine QJ.step (YldS.yld (y_move rfl)) rfl ?_
    obtain ⟨t57, h58, hm⟩ := bindS hm
    refine QJ.cut 4 [(3, pt g9 0), (4, str r7.2), (5, v12), (6, .int .i64 r10.2), (7, v15), (9, pt g19 0), (10, v18), (13, .int .i64 r20.2.2), (18, .int .i64 r26.2), (22, .int .i64 r30.2), (138, .bool t57)] ?_ ?_
    · rcases Bool.eq_false_or_eq_true t54 with hb59 | hb59
      · obtain rfl := orT h58 hb59
        refine QJ.off rfl rfl (cB hb59) rfl rfl ?_
        refine QJ.off rfl rfl (cB hb59) rfl rfl ?_
        refine QJ.off rfl rfl (cB hb59) rfl rfl ?_
        refine QJ.step (YldS.yld (y_pick_t (cB hb59) rfl)) rfl ?_
        exact QJ.cut_end ⟨rfl, rfl, rfl, rfl, rfl, rfl, rfl, rfl, rfl, rfl, rfl, trivial⟩
      · replace h58 := orF h58 hb59
        refine QJ.on rfl rfl (cB hb59) (YldS.yld (y_move rfl)) rfl ?_
        refine QJ.on rfl rfl (cB hb59) (YldS.yld (y_move rfl)) rfl ?_
        refine QJ.on rfl rfl (cB hb59) (YldS.yld (y_bin rfl rfl rfl)) rfl ?_
        refine QJ.step (YldS.yld (y_pick_f (cB hb59) rfl)) rfl ?_
        obtain rfl := Option.some.inj h58
        exact QJ.cut_end ⟨rfl, rfl, rfl, rfl, rfl, rfl, rfl, rfl, rfl, rfl, rfl, trivial⟩
    refine QJ.step (YldS.yld (y_move rfl)) rfl ?_
    obtain ⟨t60, h61, hm⟩ := bindS hm
    refine QJ.cut 6 [(3, pt g9 0), (4, str r7.2), (5, v12), (6, .int .i64 r10.2), (7, v15), (9, pt g19 0), (10, v18), (13, .int .i64 r20.2.2), (18, .int .i64 r26.2), (22, .int .i64 r30.2), (145, .bool t60)] ?_ ?_
    · rcases Bool.eq_false_or_eq_true t57 with hb62 | hb62
      · obtain rfl := orT h61 hb62
        refine QJ.off rfl rfl (cB hb62) rfl rfl ?_
        refine QJ.off rfl rfl (cB hb62) rfl rfl ?_
        refine QJ.off rfl rfl (cB hb62) rfl rfl ?_
        refine QJ.off rfl rfl (cB hb62) rfl rfl ?_
        refine QJ.off rfl rfl (cB hb62) rfl rfl ?_
        refine QJ.step (YldS.yld (y_pick_t (cB hb62) rfl)) rfl ?_
        exact QJ.cut_end ⟨rfl, rfl, rfl, rfl, rfl, rfl, rfl, rfl, rfl, rfl, rfl, trivial⟩
      · replace h61 := orF h61 hb62
        refine QJ.on rfl rfl (cB hb62) (YldS.yld (y_move rfl)) rfl ?_
        obtain ⟨r63, h64, h61⟩ := bindS h61
        refine QJ.on rfl rfl (cB hb62) (y_call Try.call31 rfl (RetG.quiet fun w hw => ok_i_ActText h64 w _ (hw.row_rd (k := 3) rfl))) rfl ?_
        refine QJ.on rfl rfl (cB hb62) (YldS.yld (y_move rfl)) rfl ?_
        obtain ⟨r65, h66, h61⟩ := bindS h61
        refine QJ.on rfl rfl (cB hb62) (y_call Try.call32 rfl (RetG.quiet fun w hw => ok_s_ActText h66 w _ (hw.row_rd (k := 3) rfl))) rfl ?_
        refine QJ.on rfl rfl (cB hb62) (YldS.yld (y_binS rfl rfl rfl)) rfl ?_
        refine QJ.step (YldS.yld (y_pick_f (cB hb62) rfl)) rfl ?_
        obtain rfl := Option.some.inj h61
        exact QJ.cut_end ⟨rfl, rfl, rfl, rfl, rfl, rfl, rfl, rfl, rfl, rfl, rfl, trivial⟩
    refine QJ.step (YldS.yld (y_move rfl)) rfl ?_
    obtain ⟨t67, h68, hm⟩ := bindS hm
    refine QJ.cut 6 [(3, pt g9 0), (4, str r7.2), (5, v12), (6, .int .i64 r10.2), (7, v15), (9, pt g19 0), (13, .int .i64 r20.2.2), (18, .int .i64 r26.2), (22, .int .i64 r30.2), (152, .bool t67)] ?_ ?_
    · rcases Bool.eq_false_or_eq_true t60 with hb69 | hb69
      · obtain rfl := orT h68 hb69
        refine QJ.off rfl rfl (cB hb69) rfl rfl ?_
        refine QJ.off rfl rfl (cB hb69) rfl rfl ?_
        refine QJ.off rfl rfl (cB hb69) rfl rfl ?_
        refine QJ.off rfl rfl (cB hb69) rfl rfl ?_
        refine QJ.off rfl rfl (cB hb69) rfl rfl ?_
        refine QJ.step (YldS.yld (y_pick_t (cB hb69) rfl)) rfl ?_
        exact QJ.cut_end ⟨rfl, rfl, rfl, rfl, rfl, rfl, rfl, rfl, rfl, rfl, trivial⟩
      · replace h68 := orF h68 hb69
        refine QJ.on rfl rfl (cB hb69) (YldS.yld (y_move rfl)) rfl ?_
        obtain ⟨r70, h71, h68⟩ := bindS h68
        refine QJ.on rfl rfl (cB hb69) (y_call Try.call33 rfl (RetG.quiet fun w hw => ok_i_ValidActs h71 w _ (hw.row_rd (k := 3) rfl))) rfl ?_
        refine QJ.on rfl rfl (cB hb69) (YldS.yld (y_move rfl)) rfl ?_
        obtain ⟨r72, h73, h68⟩ := bindS h68
        refine QJ.on rfl rfl (cB hb69) (y_call Try.call34 rfl (RetG.quiet fun w hw => ok_s_ValidActs h73 w _ (hw.row_rd (k := 3) rfl))) rfl ?_
        refine QJ.on rfl rfl (cB hb69) (YldS.yld (y_neB Try.underlying4 rfl rfl rfl)) rfl ?_
        refine QJ.step (YldS.yld (y_pick_f (cB hb69) rfl)) rfl ?_
        obtain rfl := Option.some.inj h68
        exact QJ.cut_end ⟨rfl, rfl, rfl, rfl, rfl, rfl, rfl, rfl, rfl, rfl, trivial⟩
    refine QJ.step (YldS.yld (y_move rfl)) rfl ?_
    obtain ⟨t74, h75, hm⟩ := bindS hm
    refine QJ.cut 6 [(3, pt g9 0), (4, str r7.2), (5, v12), (6, .int .i64 r10.2), (7, v15), (13, .int .i64 r20.2.2), (18, .int .i64 r26.2), (22, .int .i64 r30.2), (159, .bool t74)] ?_ ?_
    · rcases Bool.eq_false_or_eq_true t67 with hb76 | hb76
      · obtain rfl := orT h75 hb76
        refine QJ.off rfl rfl (cB hb76) rfl rfl ?_
        refine QJ.off rfl rfl (cB hb76) rfl rfl ?_
        refine QJ.off rfl rfl (cB hb76) rfl rfl ?_
        refine QJ.off rfl rfl (cB hb76) rfl rfl ?_
        refine QJ.off rfl rfl (cB hb76) rfl rfl ?_
        refine QJ.step (YldS.yld (y_pick_t (cB hb76) rfl)) rfl ?_
        exact QJ.cut_end ⟨rfl, rfl, rfl, rfl, rfl, rfl, rfl, rfl, rfl, trivial⟩
      · replace h75 := orF h75 hb76
        refine QJ.on rfl rfl (cB hb76) (YldS.yld (y_loadBN (k := 2) (off := 0) (us := [.int .i64 r16.1.left, .int .i64 r16.1.right, .int .i64 r16.1.bell]) rfl Try.isAgg45 Try.sizeOf45 rfl rfl)) rfl ?_
        obtain ⟨r77, h78, h75⟩ := bindS h75
        refine QJ.on rfl rfl (cB hb76) (y_call Try.call35 rfl (RetG.quiet fun w hw => ok_i_ValidCarriage h78 w )) rfl ?_
        refine QJ.on rfl rfl (cB hb76) (YldS.yld (y_loadBN (k := 2) (off := 0) (us := [.int .i64 r16.1.left, .int .i64 r16.1.right, .int .i64 r16.1.bell]) rfl Try.isAgg45 Try.sizeOf45 rfl rfl)) rfl ?_
        obtain ⟨r79, h80, h75⟩ := bindS h75
        refine QJ.on rfl rfl (cB hb76) (y_call Try.call36 rfl (RetG.quiet fun w hw => ok_s_ValidCarriage h80 w )) rfl ?_
        refine QJ.on rfl rfl (cB hb76) (YldS.yld (y_neB Try.underlying4 rfl rfl rfl)) rfl ?_
        refine QJ.step (YldS.yld (y_pick_f (cB hb76) rfl)) rfl ?_
        obtain rfl := Option.some.inj h75
        exact QJ.cut_end ⟨rfl, rfl, rfl, rfl, rfl, rfl, rfl, rfl, rfl, trivial⟩
    refine QJ.done ?_
    refine PJ.next ?_
    refine WJ.cond (t := t74) rfl (fun hb81 => ?_) (fun hb81 => ?_)
    · replace hm := ifT hm hb81
      refine WJ.seq ?_
      refine WJ.quiet ?_
      refine QJ.step (YldS.yld (y_assign rfl)) rfl ?_
      refine QJ.done ?_
      refine PJ.next ?_
      refine WJ.ret ?_
      refine PJ.then_ret ?_
      obtain rfl := Option.some.inj hm
      refine PJ.sel (L' := []) [] ⟨List.nodup_nil, rfl⟩ ?_
      exact PJ.retn (vs := [.bool false]) Try.results4 ⟨rfl, trivial⟩ ⟨rfl, rfl⟩
    · replace hm := ifF hm hb81
      refine WJ.skip ?_
      refine PJ.next ?_
      obtain ⟨kj82, hk83, hm⟩ := withK_open hm
      refine WJ.join (X := Unit) (fun (_ : Unit) => kj82  = some r) (fun (_ : Unit) => [(3, pt g9 0), (4, str r7.2), (5, v12), (6, .int .i64 r10.2), (7, v15), (13, .int .i64 r20.2.2), (18, .int .i64 r26.2), (22, .int .i64 r30.2)]) (fun (_ : Unit) => [row v15 62 fAct r13.1, row v12 62 fAct r10.1, box g9 45 [.int .i64 r7.1.left, .int .i64 r7.1.right, .int .i64 r7.1.bell]]) ?_ ?_
      · clear hk83
        refine WJ.seq ?_
        refine WJ.quiet ?_
        refine QJ.step (YldS.yld (y_assign rfl)) rfl ?_
        refine QJ.done ?_
        refine PJ.next ?_
        refine WJ.block ?_
        refine WJ.sel (L' := (fun (x : Int) => [row v15 62 fAct r13.1, row v12 62 fAct r10.1, box g9 45 [.int .i64 r7.1.left, .int .i64 r7.1.right, .int .i64 r7.1.bell]]) 0) [4, 5, 6] ⟨by decide, rfl⟩ ?_
        refine WJ.sub (m' := (fun (x : Int) => [(3, pt g9 0), (4, str r7.2), (5, v12), (6, .int .i64 r10.2), (7, v15), (13, .int .i64 r20.2.2), (18, .int .i64 r26.2), (22, .int .i64 r30.2), (25, .int .i64 x)]) 0) ⟨rfl, rfl, rfl, rfl, rfl, rfl, rfl, rfl, rfl, trivial⟩ ?_
        refine WJ.loop (X := Int) (fun N (x : Int) => w_FnTypedActs_l1 kj82 r10 r13 N x = some r) (fun (x : Int) => [(3, pt g9 0), (4, str r7.2), (5, v12), (6, .int .i64 r10.2), (7, v15), (13, .int .i64 r20.2.2), (18, .int .i64 r26.2), (22, .int .i64 r30.2), (25, .int .i64 x)]) (fun (x : Int) => [row v15 62 fAct r13.1, row v12 62 fAct r10.1, box g9 45 [.int .i64 r7.1.left, .int .i64 r7.1.right, .int .i64 r7.1.bell]]) ?_ N 0 hm
        · rintro N i84 hI
          have hm := hI; clear hI
          cases N with
          | zero => cases hm
          | succ N =>
          unfold w_FnTypedActs_l1 at hm
          refine WJ.seq ?_
          refine WJ.seq ?_
          refine WJ.quiet ?_
          refine QJ.step (YldS.yld (y_move rfl)) rfl ?_
          refine QJ.step (YldS.yld (y_move rfl)) rfl ?_
          refine QJ.step (YldS.yld (y_lenRow (k := 0) rfl Try.runUnderlying48 rfl)) rfl ?_
          refine QJ.step (YldS.yld (y_bin rfl rfl rfl)) rfl ?_
          refine QJ.done ?_
          refine PJ.next ?_
          refine WJ.cond (t := decide (i84 < (List.length r13.1 : Int))) rfl (fun hb85 => ?_) (fun hb85 => ?_)
          · replace hm := ifT hm hb85
            refine WJ.skip ?_
            refine PJ.next ?_
            refine WJ.seq ?_
            refine WJ.block ?_
            refine WJ.seq ?_
            refine WJ.quiet_draw follows (by kernel_rfl) ?_
            refine QJ.step (YldS.yld (y_move rfl)) rfl ?_
            refine QJ.step (YldS.yld (y_move rfl)) rfl ?_
            obtain ⟨e86, h87, hm⟩ := bindS hm
            refine QJ.step (YldS.yld (y_ixRow (k := 1) (R := fAct) rfl Try.runUnderlying48 Try.sizeOf62 rfl rfl h87)) rfl ?_
            refine QJ.step (YldS.yld (y_loadRN (k := 1) (i := (Int.toNat i84)) (off := 0) (us := [.int .i64 e86.kind, str e86.letter]) rfl Try.isAgg62 Try.sizeOf62 rfl (idx_get h87) rfl)) rfl ?_
            refine QJ.step (YldS.yld (y_move rfl)) rfl ?_
            refine QJ.step (YldS.yld (y_move rfl)) rfl ?_
            obtain ⟨e88, h89, hm⟩ := bindS hm
            refine QJ.step (YldS.yld (y_ixRow (k := 0) (R := fAct) rfl Try.runUnderlying48 Try.sizeOf62 rfl rfl h89)) rfl ?_
            refine QJ.step (YldS.yld (y_loadRN (k := 0) (i := (Int.toNat i84)) (off := 0) (us := [.int .i64 e88.kind, str e88.letter]) rfl Try.isAgg62 Try.sizeOf62 rfl (idx_get h89) rfl)) rfl ?_
            refine QJ.step (YldS.yld (y_neT e86 e88 eq62 rfl rfl)) rfl ?_
            refine QJ.done ?_
            refine PJ.next ?_
            refine WJ.cond (t := !(Act.beq e86 e88)) rfl (fun hb90 => ?_) (fun hb90 => ?_)
            · replace hm := ifT hm hb90
              refine WJ.seq ?_
              refine WJ.quiet ?_
              refine QJ.step (YldS.yld (y_assign rfl)) rfl ?_
              refine QJ.done ?_
              refine PJ.next ?_
              refine WJ.ret ?_
              refine PJ.block_ret (PJ.then_ret (PJ.then_ret (PJ.block_ret (PJ.then_ret ?_))))
              obtain rfl := Option.some.inj hm
              refine PJ.sel (L' := []) [] ⟨List.nodup_nil, rfl⟩ ?_
              exact PJ.retn (vs := [.bool false]) Try.results4 ⟨rfl, trivial⟩ ⟨rfl, rfl⟩
            · replace hm := ifF hm hb90
              refine WJ.skip ?_
              refine PJ.block_normal (PJ.next ?_)
              refine WJ.quiet ?_
              refine QJ.step (YldS.yld (y_move rfl)) rfl ?_
              refine QJ.step (YldS.yld (y_bin rfl rfl rfl)) rfl ?_
              refine QJ.step (YldS.yld (y_assign rfl)) rfl ?_
              refine QJ.done ?_
              exact PJ.round (w64 (i84 + 1)) [0, 1, 2] hm ⟨rfl, rfl, rfl, rfl, rfl, rfl, rfl, rfl, rfl, trivial⟩ ⟨by decide, rfl⟩
          · replace hm := ifF hm hb85
            refine WJ.exit ?_
            refine PJ.then_exit (PJ.then_exit (PJ.block_exit ?_))
            exact PJ.joined () [0, 1, 2] hm ⟨rfl, rfl, rfl, rfl, rfl, rfl, rfl, rfl, trivial⟩ ⟨by decide, rfl⟩
      · rintro _ hm
        subst hk83
        refine WJ.seq ?_
        refine WJ.seq ?_
        refine WJ.quiet ?_
        refine QJ.step (YldS.yld (y_move rfl)) rfl ?_
        refine QJ.step (YldS.yld (y_bin rfl rfl rfl)) rfl ?_
        refine QJ.step (YldS.yld (y_move rfl)) rfl ?_
        obtain ⟨t91, h92, hm⟩ := bindS hm
        refine QJ.cut 6 [(3, pt g9 0), (4, str r7.2), (5, v12), (6, .int .i64 r10.2), (7, v15), (183, .bool t91)] ?_ ?_
        · rcases Bool.eq_false_or_eq_true (r30.2 == 0) with hb93 | hb93
          · replace h92 := andT h92 hb93
            refine QJ.on rfl rfl (cB hb93) (YldS.yld (y_move rfl)) rfl ?_
            refine QJ.on rfl rfl (cB hb93) (YldS.yld (y_bin rfl rfl rfl)) rfl ?_
            refine QJ.on rfl rfl (cB hb93) (YldS.yld (y_move rfl)) rfl ?_
            refine QJ.on rfl rfl (cB hb93) (YldS.yld (y_bin rfl rfl rfl)) rfl ?_
            refine QJ.on rfl rfl (cB hb93) (YldS.yld (y_neB Try.underlying4 rfl rfl rfl)) rfl ?_
            refine QJ.step (YldS.yld (y_pick_t (cB hb93) rfl)) rfl ?_
            obtain rfl := Option.some.inj h92
            exact QJ.cut_end ⟨rfl, rfl, rfl, rfl, rfl, rfl, trivial⟩
          · obtain rfl := andF h92 hb93
            refine QJ.off rfl rfl (cB hb93) rfl rfl ?_
            refine QJ.off rfl rfl (cB hb93) rfl rfl ?_
            refine QJ.off rfl rfl (cB hb93) rfl rfl ?_
            refine QJ.off rfl rfl (cB hb93) rfl rfl ?_
            refine QJ.off rfl rfl (cB hb93) rfl rfl ?_
            refine QJ.step (YldS.yld (y_pick_f (cB hb93) rfl)) rfl ?_
            exact QJ.cut_end ⟨rfl, rfl, rfl, rfl, rfl, rfl, trivial⟩
        refine QJ.done ?_
        refine PJ.next ?_
        refine WJ.cond (t := t91) rfl (fun hb94 => ?_) (fun hb94 => ?_)
        · replace hm := ifT hm hb94
          refine WJ.seq ?_
          refine WJ.quiet ?_
          refine QJ.step (YldS.yld (y_assign rfl)) rfl ?_
          refine QJ.done ?_
          refine PJ.next ?_
          refine WJ.ret ?_
          refine PJ.then_ret ?_
          obtain rfl := Option.some.inj hm
          refine PJ.sel (L' := []) [] ⟨List.nodup_nil, rfl⟩ ?_
          exact PJ.retn (vs := [.bool false]) Try.results4 ⟨rfl, trivial⟩ ⟨rfl, rfl⟩
        · replace hm := ifF hm hb94
          refine WJ.skip ?_
          refine PJ.next ?_
          refine WJ.seq ?_
          refine WJ.seq ?_
          refine WJ.quiet ?_
          refine QJ.step (YldS.yld (y_move rfl)) rfl ?_
          refine QJ.step (YldS.yld (y_bin rfl rfl rfl)) rfl ?_
          refine QJ.done ?_
          refine PJ.next ?_
          refine WJ.cond (t := (r10.2 != 0)) rfl (fun hb95 => ?_) (fun hb95 => ?_)
          · replace hm := ifT hm hb95
            refine WJ.seq ?_
            refine WJ.quiet ?_
            refine QJ.step (YldS.yld (y_assign rfl)) rfl ?_
            refine QJ.done ?_
            refine PJ.next ?_
            refine WJ.ret ?_
            refine PJ.then_ret ?_
            obtain rfl := Option.some.inj hm
            refine PJ.sel (L' := []) [] ⟨List.nodup_nil, rfl⟩ ?_
            exact PJ.retn (vs := [.bool true]) Try.results4 ⟨rfl, trivial⟩ ⟨rfl, rfl⟩
          · replace hm := ifF hm hb95
            refine WJ.skip ?_
            refine PJ.next ?_
            refine WJ.seq ?_
            refine WJ.reg ?_
            refine SJ.q (YldS.yld (y_loadBN (k := 2) (off := 0) (us := [.int .i64 r7.1.left, .int .i64 r7.1.right, .int .i64 r7.1.bell]) rfl Try.isAgg45 Try.sizeOf45 rfl rfl)) rfl ?_
            refine SJ.q (YldS.yld (y_move rfl)) rfl ?_
            obtain ⟨r96, h97, hm⟩ := bindS hm
            refine SJ.call Try.call24 rfl (fun w hw => ok_i_TypeActs h97 w _ (hw.row_rd (k := 1) rfl)) rfl ?_
            rintro _ _ ⟨v98, rfl, rfl⟩
            refine SJ.q (YldS.yld (y_move rfl)) rfl ?_
            refine SJ.q (YldS.yld (y_extract rfl rfl)) rfl ?_
            refine SJ.q (YldS.yld (y_extract rfl rfl)) rfl ?_
            refine SJ.q (YldS.yld (y_extract rfl rfl)) rfl ?_
            refine SJ.q (YldS.yld (y_assign rfl)) rfl ?_
            refine SJ.q (YldS.yld (y_assign rfl)) rfl ?_
            refine SJ.q (YldS.yld (y_assign rfl)) rfl ?_
            refine SJ.nil ?_
            refine PJ.next ?_
            refine WJ.seq ?_
            refine WJ.seq ?_
            refine WJ.quiet ?_
            refine QJ.step (YldS.yld (y_move rfl)) rfl ?_
            refine QJ.step (YldS.yld (y_bin rfl rfl rfl)) rfl ?_
            refine QJ.step (YldS.yld (y_move rfl)) rfl ?_
            obtain ⟨t99, h100, hm⟩ := bindS hm
            refine QJ.cut 9 [(3, pt g9 0), (4, str r7.2), (26, v98), (204, .bool t99)] ?_ ?_
            · rcases Bool.eq_false_or_eq_true (r96.2.2 != 0) with hb101 | hb101
              · obtain rfl := orT h100 hb101
                refine QJ.off rfl rfl (cB hb101) rfl rfl ?_
                refine QJ.off rfl rfl (cB hb101) rfl rfl ?_
                refine QJ.off rfl rfl (cB hb101) rfl rfl ?_
                refine QJ.off rfl rfl (cB hb101) rfl rfl ?_
                refine QJ.off rfl rfl (cB hb101) rfl rfl ?_
                refine QJ.off rfl rfl (cB hb101) rfl rfl ?_
                refine QJ.off rfl rfl (cB hb101) rfl rfl ?_
                refine QJ.off rfl rfl (cB hb101) rfl rfl ?_
                refine QJ.step (YldS.yld (y_pick_t (cB hb101) rfl)) rfl ?_
                exact QJ.cut_end ⟨rfl, rfl, rfl, rfl, trivial⟩
              · replace h100 := orF h100 hb101
                refine QJ.on rfl rfl (cB hb101) (YldS.yld (y_move rfl)) rfl ?_
                refine QJ.on rfl rfl (cB hb101) (YldS.yld (y_fldB (o := 0) fld45_0 rfl)) rfl ?_
                refine QJ.on rfl rfl (cB hb101) (YldS.yld (y_loadB (k := 3) (off := 0) (v := .int .i64 r7.1.left) rfl Try.isAgg2 rfl rfl)) rfl ?_
                refine QJ.on rfl rfl (cB hb101) (YldS.yld (y_move rfl)) rfl ?_
                refine QJ.on rfl rfl (cB hb101) (YldS.yld (y_lenRow (k := 1) rfl Try.runUnderlying48 rfl)) rfl ?_
                refine QJ.on rfl rfl (cB hb101) (YldS.yld (y_bin rfl rfl rfl)) rfl ?_
                refine QJ.on rfl rfl (cB hb101) (YldS.yld (y_bin rfl rfl rfl)) rfl ?_
                refine QJ.on rfl rfl (cB hb101) (YldS.yld (y_bin rfl rfl rfl)) rfl ?_
                refine QJ.step (YldS.yld (y_pick_f (cB hb101) rfl)) rfl ?_
                obtain rfl := Option.some.inj h100
                exact QJ.cut_end ⟨rfl, rfl, rfl, rfl, trivial⟩
            refine QJ.done ?_
            refine PJ.next ?_
            refine WJ.cond (t := t99) rfl (fun hb102 => ?_) (fun hb102 => ?_)
            · replace hm := ifT hm hb102
              refine WJ.seq ?_
              refine WJ.quiet ?_
              refine QJ.step (YldS.yld (y_assign rfl)) rfl ?_
              refine QJ.done ?_
              refine PJ.next ?_
              refine WJ.ret ?_
              refine PJ.then_ret ?_
              obtain rfl := Option.some.inj hm
              refine PJ.sel (L' := []) [] ⟨List.nodup_nil, rfl⟩ ?_
              exact PJ.retn (vs := [.bool false]) Try.results4 ⟨rfl, trivial⟩ ⟨rfl, rfl⟩
            · replace hm := ifF hm hb102
              refine WJ.skip ?_
              refine PJ.next ?_
              refine WJ.seq ?_
              refine WJ.quiet ?_
              refine QJ.step (YldS.yld (y_loadBN (k := 3) (off := 0) (us := [.int .i64 r7.1.left, .int .i64 r7.1.right, .int .i64 r7.1.bell]) rfl Try.isAgg45 Try.sizeOf45 rfl rfl)) rfl ?_
              refine QJ.step (YldS.yld (y_move rfl)) rfl ?_
              obtain ⟨r103, h104, hm⟩ := bindS hm
              refine QJ.step (y_call Try.call37 rfl (RetG.quiet fun w hw => ok_i_LineOf h104 w _ (hw.row_rd (k := 0) rfl))) rfl ?_
              refine QJ.step (YldS.yld (y_move rfl)) rfl ?_
              refine QJ.step (YldS.yld (y_extract rfl rfl)) rfl ?_
              refine QJ.step (YldS.yld (y_extract rfl rfl)) rfl ?_
              refine QJ.step (YldS.yld (y_assign rfl)) rfl ?_
              refine QJ.step (YldS.yld (y_assign rfl)) rfl ?_
              refine QJ.done ?_
              refine PJ.next ?_
              refine WJ.seq ?_
              refine WJ.quiet ?_
              refine QJ.step (YldS.yld (y_move rfl)) rfl ?_
              refine QJ.step (YldS.yld (y_bin rfl rfl rfl)) rfl ?_
              refine QJ.step (YldS.yld (y_move rfl)) rfl ?_
              obtain ⟨t105, h106, hm⟩ := bindS hm
              refine QJ.cut 5 [(218, .bool t105)] ?_ ?_
              · rcases Bool.eq_false_or_eq_true (r103.2 == 0) with hb107 | hb107
                · replace h106 := andT h106 hb107
                  refine QJ.on rfl rfl (cB hb107) (YldS.yld (y_move rfl)) rfl ?_
                  refine QJ.on rfl rfl (cB hb107) (YldS.yld (y_move rfl)) rfl ?_
                  obtain ⟨r108, h109, h106⟩ := bindS h106
                  refine QJ.on rfl rfl (cB hb107) (y_call Try.call38 rfl (RetG.quiet fun w hw => ok_w_f6trim h109 w )) rfl ?_
                  refine QJ.on rfl rfl (cB hb107) (YldS.yld (y_binS rfl rfl rfl)) rfl ?_
                  refine QJ.step (YldS.yld (y_pick_t (cB hb107) rfl)) rfl ?_
                  obtain rfl := Option.some.inj h106
                  exact QJ.cut_end ⟨rfl, trivial⟩
                · obtain rfl := andF h106 hb107
                  refine QJ.off rfl rfl (cB hb107) rfl rfl ?_
                  refine QJ.off rfl rfl (cB hb107) rfl rfl ?_
                  refine QJ.off rfl rfl (cB hb107) rfl rfl ?_
                  refine QJ.off rfl rfl (cB hb107) rfl rfl ?_
                  refine QJ.step (YldS.yld (y_pick_f (cB hb107) rfl)) rfl ?_
                  exact QJ.cut_end ⟨rfl, trivial⟩
              refine QJ.step (YldS.yld (y_assign rfl)) rfl ?_
              refine QJ.done ?_
              refine PJ.next ?_
              refine WJ.ret ?_
              obtain rfl := Option.some.inj hm
              refine PJ.sel (L' := []) [] ⟨List.nodup_nil, rfl⟩ ?_
              exact PJ.retn (vs := [.bool t105]) Try.results4 ⟨rfl, trivial⟩ ⟨rfl, rfl⟩

end Go.Proofs.Ythkckgiicchpnaa
