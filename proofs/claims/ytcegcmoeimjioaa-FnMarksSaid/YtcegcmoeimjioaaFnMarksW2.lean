/-
  The walks: a call hands back what its plain function computes, where that has a value. No other conditions.
-/
import Derived.Test.YtcegcmoeimjioaaFnMarksW
import Derived.Test.YtcegcmoeimjioaaChecked
namespace Go.Proofs.Ytcegcmoeimjioaa
open Go.RowKit Go.Proofs
set_option linter.unusedVariables false
set_option linter.unusedSimpArgs false

set_option maxRecDepth 100000 in
set_option maxHeartbeats 1000000 in
theorem ok_w_a2Sum {N : Nat} {list1 : List Int} {r : Int} (hm : w_a2Sum N list1 = some r) (w : World) (v2 : Value) (hr3 : RdS w (cx w).Fz v2 fI64.rp list1) :
    Calls Try.prog 12 #[v2] w (Ret (cx w) (.int .i64 r)) := by
  unfold w_a2Sum at hm
  refine Calls.enter [v2] Try.func12 rfl Try.ntmps12 rfl ?_
  refine WJ.seq ?_
  refine WJ.quiet ?_
  refine QJ.step (YldS.yld (y_assign rfl)) rfl ?_
  refine QJ.done ?_
  refine PJ.next ?_
  refine WJ.seq ?_
  refine WJ.quiet ?_
  refine QJ.step (YldS.yld (y_assign rfl)) rfl ?_
  refine QJ.done ?_
  refine PJ.next ?_
  obtain ⟨kj5, hk6, hm⟩ := withK_open hm
  refine WJ.join (X := Int) (fun (x : Int) => kj5 x = some r) (fun (x : Int) => [(3, .int .i64 x)]) (fun (x : Int) => []) ?_ ?_
  · clear hk6
    refine WJ.seq ?_
    refine WJ.quiet ?_
    refine QJ.step (YldS.yld (y_assign rfl)) rfl ?_
    refine QJ.done ?_
    refine PJ.next ?_
    refine WJ.block ?_
    refine WJ.sel (L' := (fun (x : Int × Int) => []) (0, 0)) [] ⟨List.nodup_nil, rfl⟩ ?_
    refine WJ.sub (m' := (fun (x : Int × Int) => [(0, v2), (3, .int .i64 x.1), (4, .int .i64 x.2)]) (0, 0)) ⟨rfl, rfl, rfl, trivial⟩ ?_
    refine WJ.loop (X := Int × Int) (fun N (x : Int × Int) => w_a2Sum_l1 kj5 list1 N x.1 x.2 = some r) (fun (x : Int × Int) => [(0, v2), (3, .int .i64 x.1), (4, .int .i64 x.2)]) (fun (x : Int × Int) => []) ?_ N (0, 0) hm
    · rintro N ⟨sum7, i8⟩ hI
      have hm := hI; clear hI
      cases N with
      | zero => cases hm
      | succ N =>
      unfold w_a2Sum_l1 at hm
      refine WJ.seq ?_
      refine WJ.seq ?_
      refine WJ.quiet ?_
      refine QJ.step (YldS.yld (y_move rfl)) rfl ?_
      refine QJ.step (YldS.yld (y_move rfl)) rfl ?_
      refine QJ.step (YldS.yld (y_lenS Try.runUnderlying24 hr3 rfl)) rfl ?_
      refine QJ.step (YldS.yld (y_bin rfl rfl rfl)) rfl ?_
      refine QJ.done ?_
      refine PJ.next ?_
      refine WJ.cond (t := decide (i8 < (List.length list1 : Int))) rfl (fun hb9 => ?_) (fun hb9 => ?_)
      · replace hm := ifT hm hb9
        refine WJ.skip ?_
        refine PJ.next ?_
        refine WJ.seq ?_
        refine WJ.block ?_
        refine WJ.quiet ?_
        refine QJ.step (YldS.yld (y_move rfl)) rfl ?_
        refine QJ.step (YldS.yld (y_move rfl)) rfl ?_
        refine QJ.step (YldS.yld (y_move rfl)) rfl ?_
        obtain ⟨e10, h11, hm⟩ := bindS hm
        obtain ⟨ad12, _, rfl, ha13, hy14⟩ := hr3.elem h11
        refine QJ.step (YldS.yld (hy14 Try.runUnderlying24 Try.sizeOf2 rfl rfl)) rfl ?_
        refine QJ.step (YldS.yld (y_load1 (v := .int .i64 e10) Try.isAgg2 ha13 St.frozenC rfl)) rfl ?_
        refine QJ.step (YldS.yld (y_bin rfl rfl rfl)) rfl ?_
        refine QJ.step (YldS.yld (y_assign rfl)) rfl ?_
        refine QJ.done ?_
        refine PJ.block_normal (PJ.next ?_)
        refine WJ.quiet ?_
        refine QJ.step (YldS.yld (y_move rfl)) rfl ?_
        refine QJ.step (YldS.yld (y_bin rfl rfl rfl)) rfl ?_
        refine QJ.step (YldS.yld (y_assign rfl)) rfl ?_
        refine QJ.done ?_
        exact PJ.round (w64 (sum7 + e10), w64 (i8 + 1)) [] hm ⟨rfl, rfl, rfl, trivial⟩ ⟨List.nodup_nil, rfl⟩
      · replace hm := ifF hm hb9
        refine WJ.exit ?_
        refine PJ.then_exit (PJ.then_exit (PJ.block_exit ?_))
        exact PJ.joined sum7 [] hm ⟨rfl, trivial⟩ ⟨List.nodup_nil, rfl⟩
  · rintro sum4 hm
    subst hk6
    refine WJ.seq ?_
    refine WJ.quiet ?_
    refine QJ.step (YldS.yld (y_move rfl)) rfl ?_
    refine QJ.step (YldS.yld (y_assign rfl)) rfl ?_
    refine QJ.done ?_
    refine PJ.next ?_
    refine WJ.ret ?_
    obtain rfl := Option.some.inj hm
    refine PJ.sel (L' := []) [] ⟨List.nodup_nil, rfl⟩ ?_
    exact PJ.retn (vs := [.int .i64 sum4]) Try.results12 ⟨rfl, trivial⟩ ⟨rfl, rfl⟩

set_option maxRecDepth 100000 in
set_option maxHeartbeats 1000000 in
theorem ok_i_absolute {n1 : Int} {r : Int} (hm : i_absolute n1 = some r) (w : World)  :
    Calls Try.prog 79 #[.int .i64 n1] w (Ret (cx w) (.int .i64 r)) := by
  unfold i_absolute at hm
  refine Calls.enter [.int .i64 n1] Try.func79 rfl Try.ntmps79 rfl ?_
  refine WJ.seq ?_
  refine WJ.quiet ?_
  refine QJ.step (YldS.yld (y_assign rfl)) rfl ?_
  refine QJ.done ?_
  refine PJ.next ?_
  refine WJ.seq ?_
  refine WJ.seq ?_
  refine WJ.quiet ?_
  refine QJ.step (YldS.yld (y_move rfl)) rfl ?_
  refine QJ.step (YldS.yld (y_bin rfl rfl rfl)) rfl ?_
  refine QJ.done ?_
  refine PJ.next ?_
  refine WJ.cond (t := decide (n1 < 0)) rfl (fun hb2 => ?_) (fun hb2 => ?_)
  · replace hm := ifT hm hb2
    refine WJ.seq ?_
    refine WJ.quiet ?_
    refine QJ.step (YldS.yld (y_move rfl)) rfl ?_
    refine QJ.step (YldS.yld (y_neg rfl)) rfl ?_
    refine QJ.step (YldS.yld (y_assign rfl)) rfl ?_
    refine QJ.done ?_
    refine PJ.next ?_
    refine WJ.ret ?_
    refine PJ.then_ret ?_
    obtain rfl := Option.some.inj hm
    refine PJ.sel (L' := []) [] ⟨List.nodup_nil, rfl⟩ ?_
    exact PJ.retn (vs := [.int .i64 (w64 (0 - n1))]) Try.results79 ⟨rfl, trivial⟩ ⟨rfl, rfl⟩
  · replace hm := ifF hm hb2
    refine WJ.skip ?_
    refine PJ.next ?_
    refine WJ.seq ?_
    refine WJ.quiet ?_
    refine QJ.step (YldS.yld (y_move rfl)) rfl ?_
    refine QJ.step (YldS.yld (y_assign rfl)) rfl ?_
    refine QJ.done ?_
    refine PJ.next ?_
    refine WJ.ret ?_
    obtain rfl := Option.some.inj hm
    refine PJ.sel (L' := []) [] ⟨List.nodup_nil, rfl⟩ ?_
    exact PJ.retn (vs := [.int .i64 n1]) Try.results79 ⟨rfl, trivial⟩ ⟨rfl, rfl⟩

set_option maxRecDepth 100000 in
set_option maxHeartbeats 1000000 in
theorem ok_i_divisor {N : Nat} {a1 : Int} {b2 : Int} {r : Int} (hm : i_divisor N a1 b2 = some r) (w : World)  :
    Calls Try.prog 78 #[.int .i64 a1, .int .i64 b2] w (Ret (cx w) (.int .i64 r)) := by
  unfold i_divisor at hm
  refine Calls.enter [.int .i64 a1, .int .i64 b2] Try.func78 rfl Try.ntmps78 rfl ?_
  refine WJ.seq ?_
  refine WJ.quiet ?_
  refine QJ.step (YldS.yld (y_assign rfl)) rfl ?_
  refine QJ.done ?_
  refine PJ.next ?_
  obtain ⟨kj4, hk5, hm⟩ := withK_open hm
  refine WJ.join (X := Int) (fun (x : Int) => kj4 x = some r) (fun (x : Int) => [(0, .int .i64 x)]) (fun (x : Int) => []) ?_ ?_
  · clear hk5
    refine WJ.block ?_
    refine WJ.sel (L' := (fun (x : Int × Int) => []) (a1, b2)) [] ⟨List.nodup_nil, rfl⟩ ?_
    refine WJ.sub (m' := (fun (x : Int × Int) => [(0, .int .i64 x.1), (1, .int .i64 x.2)]) (a1, b2)) ⟨rfl, rfl, trivial⟩ ?_
    refine WJ.loop (X := Int × Int) (fun N (x : Int × Int) => i_divisor_l1 kj4 N x.1 x.2 = some r) (fun (x : Int × Int) => [(0, .int .i64 x.1), (1, .int .i64 x.2)]) (fun (x : Int × Int) => []) ?_ N (a1, b2) hm
    · rintro N ⟨a6, b7⟩ hI
      have hm := hI; clear hI
      cases N with
      | zero => cases hm
      | succ N =>
      unfold i_divisor_l1 at hm
      refine WJ.seq ?_
      refine WJ.seq ?_
      refine WJ.quiet ?_
      refine QJ.step (YldS.yld (y_move rfl)) rfl ?_
      refine QJ.step (YldS.yld (y_bin rfl rfl rfl)) rfl ?_
      refine QJ.done ?_
      refine PJ.next ?_
      refine WJ.cond (t := (b7 != 0)) rfl (fun hb8 => ?_) (fun hb8 => ?_)
      · replace hm := ifT hm hb8
        refine WJ.skip ?_
        refine PJ.next ?_
        refine WJ.block ?_
        refine WJ.quiet_draw follows (by kernel_rfl) ?_
        refine QJ.step (YldS.yld (y_move rfl)) rfl ?_
        refine QJ.step (YldS.yld (y_move rfl)) rfl ?_
        refine QJ.step (YldS.yld (y_move rfl)) rfl ?_
        obtain ⟨q9, h10, hm⟩ := bindS hm
        refine QJ.step (YldS.yld (y_rem' h10 rfl rfl)) rfl ?_
        refine QJ.step (YldS.yld (y_assign rfl)) rfl ?_
        refine QJ.step (YldS.yld (y_assign rfl)) rfl ?_
        refine QJ.done ?_
        refine PJ.block_normal ?_
        exact PJ.round (b7, q9) [] hm ⟨rfl, rfl, trivial⟩ ⟨List.nodup_nil, rfl⟩
      · replace hm := ifF hm hb8
        refine WJ.exit ?_
        refine PJ.then_exit (PJ.then_exit (PJ.block_exit ?_))
        exact PJ.joined a6 [] hm ⟨rfl, trivial⟩ ⟨List.nodup_nil, rfl⟩
  · rintro a3 hm
    subst hk5
    refine WJ.seq ?_
    refine WJ.quiet ?_
    refine QJ.step (YldS.yld (y_move rfl)) rfl ?_
    refine QJ.step (YldS.yld (y_assign rfl)) rfl ?_
    refine QJ.done ?_
    refine PJ.next ?_
    refine WJ.ret ?_
    obtain rfl := Option.some.inj hm
    refine PJ.sel (L' := []) [] ⟨List.nodup_nil, rfl⟩ ?_
    exact PJ.retn (vs := [.int .i64 a3]) Try.results78 ⟨rfl, trivial⟩ ⟨rfl, rfl⟩

set_option maxRecDepth 100000 in
set_option maxHeartbeats 1000000 in
theorem ok_i_lowest {N : Nat} {num1 : Int} {den2 : Int} {r : Fraction} (hm : i_lowest N num1 den2 = some r) (w : World)  :
    Calls Try.prog 56 #[.int .i64 num1, .int .i64 den2] w (Ret (cx w) (.agg (Fraction.enc r).toArray)) := by
  unfold i_lowest at hm
  refine Calls.enter [.int .i64 num1, .int .i64 den2] Try.func56 rfl Try.ntmps56 rfl ?_
  refine WJ.seq ?_
  refine WJ.reg ?_
  refine SJ.alloc (cs := [.int .i64 0, .int .i64 0]) Try.zeroValue41 rfl rfl fun g3 => ?_
  refine SJ.nil ?_
  refine PJ.next ?_
  refine WJ.seq ?_
  refine WJ.quiet ?_
  refine QJ.step (YldS.yld (y_move rfl)) rfl ?_
  obtain ⟨r4, h5, hm⟩ := bindS hm
  refine QJ.step (y_call Try.call79 rfl (RetG.quiet fun w hw => ok_i_absolute h5 w )) rfl ?_
  refine QJ.step (YldS.yld (y_move rfl)) rfl ?_
  obtain ⟨r6, h7, hm⟩ := bindS hm
  refine QJ.step (y_call Try.call78 rfl (RetG.quiet fun w hw => ok_i_divisor h7 w )) rfl ?_
  refine QJ.step (YldS.yld (y_assign rfl)) rfl ?_
  refine QJ.done ?_
  refine PJ.next ?_
  refine WJ.seq ?_
  obtain ⟨q8, h9, hm⟩ := bindS hm
  obtain ⟨q10, h11, hm⟩ := bindS hm
  refine WJ.draws (N := 8) (listed0 := #[false, false, false, false, false, false, false, false]) [] follows rfl rfl ?_
  refine RJ.first 0 (listed' := #[true, false, false, false, false, false, false, false]) [] rfl (by kernel_rfl) rfl ⟨List.nodup_nil, rfl⟩ (y_move rfl) rfl ?_
  refine RJ.first 1 (listed' := #[true, true, false, false, false, false, false, false]) [] rfl (by kernel_rfl) rfl ⟨List.nodup_nil, rfl⟩ (y_move rfl) rfl ?_
  refine RJ.first 2 (listed' := #[true, true, true, false, false, false, false, false]) [] rfl (by kernel_rfl) rfl ⟨List.nodup_nil, rfl⟩ (y_quo' h9 rfl rfl) rfl ?_
  refine RJ.first 3 (listed' := #[true, true, true, true, false, false, false, false]) [] rfl (by kernel_rfl) rfl ⟨List.nodup_nil, rfl⟩ (y_move rfl) rfl ?_
  refine RJ.first 4 (listed' := #[true, true, true, true, true, false, false, false]) [] rfl (by kernel_rfl) rfl ⟨List.nodup_nil, rfl⟩ (y_move rfl) rfl ?_
  refine RJ.first 5 (listed' := #[true, true, true, true, true, true, false, false]) [] rfl (by kernel_rfl) rfl ⟨List.nodup_nil, rfl⟩ (y_quo' h11 rfl rfl) rfl ?_
  refine RJ.first 6 (listed' := #[true, true, true, true, true, true, true, false]) [] rfl (by kernel_rfl) rfl ⟨List.nodup_nil, rfl⟩ (y_build (parts := [(0, .tmp 12), (1, .tmp 15)]) (places := [(0, 1), (1, 1)]) (r := [.int .i64 ((Fraction.mk q8 q10).num), .int .i64 ((Fraction.mk q8 q10).den)]) pl41 Try.zeroValue41 rfl rfl rfl rfl) rfl ?_
  refine RJ.step1 7 [] (by kernel_rfl) ⟨List.nodup_nil, rfl⟩ ?_
  refine RO.of (listed' := #[true, true, true, true, true, true, true, true]) rfl rfl ?_
  refine SJ.storeL (k := 0) (off := 0) (us := [.int .i64 ((Fraction.mk q8 q10).num), .int .i64 ((Fraction.mk q8 q10).den)]) rfl rfl rfl rfl Try.sizeOf41 rfl rfl ?_
  refine SJ.nil ?_
  refine PJ.draw ?_
  refine RJ.fin [] (by kernel_rfl) ⟨List.nodup_nil, rfl⟩ ?_
  refine PJ.next ?_
  refine WJ.ret ?_
  obtain rfl := Option.some.inj hm
  exact PJ.retn_sel (vs := [.agg (Fraction.enc (Fraction.mk q8 q10)).toArray]) Try.results56 ⟨⟨0, g3, 41, [.int .i64 ((Fraction.mk q8 q10).num), .int .i64 ((Fraction.mk q8 q10).den)], rfl, rfl, .inl ⟨Try.isAgg41, Try.sizeOf41, rfl⟩⟩, trivial⟩ [] ⟨List.nodup_nil, rfl⟩ ⟨rfl, rfl⟩

set_option maxRecDepth 100000 in
set_option maxHeartbeats 1000000 in
theorem ok_i_AccuracyOf {N : Nat} {want1 : Str} {typed2 : Str} {r : Fraction × Int} (hm : i_AccuracyOf N want1 typed2 = some r) (w : World)  :
    Calls Try.prog 19 #[str want1, str typed2] w (Ret (cx w) (tup [.agg (Fraction.enc r.1).toArray, .int .i64 r.2])) := by
  unfold i_AccuracyOf at hm
  refine Calls.enter [str want1, str typed2] Try.func19 rfl Try.ntmps19 rfl ?_
  refine WJ.seq ?_
  refine WJ.reg ?_
  refine SJ.alloc (cs := [.int .i64 0, .int .i64 0]) Try.zeroValue41 rfl rfl fun g3 => ?_
  refine SJ.q (YldS.yld (y_assign rfl)) rfl ?_
  refine SJ.nil ?_
  refine PJ.next ?_
  refine WJ.seq ?_
  refine WJ.seq ?_
  refine WJ.quiet ?_
  refine QJ.step (YldS.yld (y_move rfl)) rfl ?_
  obtain ⟨r4, h5, hm⟩ := bindS hm
  refine QJ.step (y_call Try.call53 rfl (RetG.quiet fun w hw => ok_i_isTyped h5 w )) rfl ?_
  refine QJ.step (YldS.yld (y_not rfl)) rfl ?_
  refine QJ.step (YldS.yld (y_move rfl)) rfl ?_
  obtain ⟨t6, h7, hm⟩ := bindS hm
  refine QJ.cut 4 [(0, str want1), (1, str typed2), (4, pt g3 0), (13, .bool t6)] ?_ ?_
  · rcases Bool.eq_false_or_eq_true (!r4) with hb8 | hb8
    · obtain rfl := orT h7 hb8
      refine QJ.off rfl rfl (cB hb8) rfl rfl ?_
      refine QJ.off rfl rfl (cB hb8) rfl rfl ?_
      refine QJ.off rfl rfl (cB hb8) rfl rfl ?_
      refine QJ.step (YldS.yld (y_pick_t (cB hb8) rfl)) rfl ?_
      exact QJ.cut_end ⟨rfl, rfl, rfl, rfl, trivial⟩
    · replace h7 := orF h7 hb8
      refine QJ.on rfl rfl (cB hb8) (YldS.yld (y_move rfl)) rfl ?_
      obtain ⟨r9, h10, h7⟩ := bindS h7
      refine QJ.on rfl rfl (cB hb8) (y_call Try.call53 rfl (RetG.quiet fun w hw => ok_i_isTyped h10 w )) rfl ?_
      refine QJ.on rfl rfl (cB hb8) (YldS.yld (y_not rfl)) rfl ?_
      refine QJ.step (YldS.yld (y_pick_f (cB hb8) rfl)) rfl ?_
      obtain rfl := Option.some.inj h7
      exact QJ.cut_end ⟨rfl, rfl, rfl, rfl, trivial⟩
  refine QJ.done ?_
  refine PJ.next ?_
  refine WJ.cond (t := t6) rfl (fun hb11 => ?_) (fun hb11 => ?_)
  · replace hm := ifT hm hb11
    refine WJ.seq ?_
    refine WJ.reg ?_
    refine SJ.q (YldS.yld (y_build (parts := []) (places := [(0, 1), (1, 1)]) (r := [.int .i64 ((Fraction.mk 0 0).num), .int .i64 ((Fraction.mk 0 0).den)]) pl41 Try.zeroValue41 rfl rfl rfl rfl)) rfl ?_
    refine SJ.storeL (k := 0) (off := 0) (us := [.int .i64 ((Fraction.mk 0 0).num), .int .i64 ((Fraction.mk 0 0).den)]) rfl rfl rfl rfl Try.sizeOf41 rfl rfl ?_
    refine SJ.q (YldS.yld (y_assign rfl)) rfl ?_
    refine SJ.nil ?_
    refine PJ.next ?_
    refine WJ.ret ?_
    refine PJ.then_ret ?_
    obtain rfl := Option.some.inj hm
    exact PJ.retn_sel (vs := [.agg (Fraction.enc (Fraction.mk 0 0)).toArray, .int .i64 2]) Try.results19 ⟨⟨0, g3, 41, [.int .i64 ((Fraction.mk 0 0).num), .int .i64 ((Fraction.mk 0 0).den)], rfl, rfl, .inl ⟨Try.isAgg41, Try.sizeOf41, rfl⟩⟩, rfl, trivial⟩ [] ⟨List.nodup_nil, rfl⟩ ⟨rfl, rfl⟩
  · replace hm := ifF hm hb11
    refine WJ.skip ?_
    refine PJ.next ?_
    refine WJ.seq ?_
    refine WJ.seq ?_
    refine WJ.quiet ?_
    refine QJ.step (YldS.yld (y_move rfl)) rfl ?_
    refine QJ.step (YldS.yld (y_binS rfl rfl rfl)) rfl ?_
    refine QJ.done ?_
    refine PJ.next ?_
    refine WJ.cond (t := (want1 == [])) rfl (fun hb12 => ?_) (fun hb12 => ?_)
    · replace hm := ifT hm hb12
      refine WJ.seq ?_
      refine WJ.reg ?_
      refine SJ.q (YldS.yld (y_build (parts := []) (places := [(0, 1), (1, 1)]) (r := [.int .i64 ((Fraction.mk 0 0).num), .int .i64 ((Fraction.mk 0 0).den)]) pl41 Try.zeroValue41 rfl rfl rfl rfl)) rfl ?_
      refine SJ.storeL (k := 0) (off := 0) (us := [.int .i64 ((Fraction.mk 0 0).num), .int .i64 ((Fraction.mk 0 0).den)]) rfl rfl rfl rfl Try.sizeOf41 rfl rfl ?_
      refine SJ.q (YldS.yld (y_assign rfl)) rfl ?_
      refine SJ.nil ?_
      refine PJ.next ?_
      refine WJ.ret ?_
      refine PJ.then_ret ?_
      obtain rfl := Option.some.inj hm
      exact PJ.retn_sel (vs := [.agg (Fraction.enc (Fraction.mk 0 0)).toArray, .int .i64 3]) Try.results19 ⟨⟨0, g3, 41, [.int .i64 ((Fraction.mk 0 0).num), .int .i64 ((Fraction.mk 0 0).den)], rfl, rfl, .inl ⟨Try.isAgg41, Try.sizeOf41, rfl⟩⟩, rfl, trivial⟩ [] ⟨List.nodup_nil, rfl⟩ ⟨rfl, rfl⟩
    · replace hm := ifF hm hb12
      refine WJ.skip ?_
      refine PJ.next ?_
      refine WJ.seq ?_
      refine WJ.reg ?_
      refine SJ.q (YldS.yld (y_move rfl)) rfl ?_
      refine SJ.q (YldS.yld (y_move rfl)) rfl ?_
      obtain ⟨r13, h14, hm⟩ := bindS hm
      refine SJ.q (y_call Try.call54 rfl (RetG.quiet fun w hw => ok_i_alignment h14 w )) rfl ?_
      obtain ⟨r15, h16, hm⟩ := bindS hm
      refine SJ.q (y_call Try.call52 rfl (RetG.quiet fun w hw => ok_i_countByte h16 w )) rfl ?_
      refine SJ.q (YldS.yld (y_move rfl)) rfl ?_
      refine SJ.q (YldS.yld (y_lenStr Try.runUnderlying9 rfl)) rfl ?_
      obtain ⟨r17, h18, hm⟩ := bindS hm
      refine SJ.q (y_call Try.call56 rfl (RetG.quiet fun w hw => ok_i_lowest h18 w )) rfl ?_
      refine SJ.storeL (k := 0) (off := 0) (us := [.int .i64 r17.num, .int .i64 r17.den]) rfl rfl rfl rfl Try.sizeOf41 rfl rfl ?_
      refine SJ.q (YldS.yld (y_assign rfl)) rfl ?_
      refine SJ.nil ?_
      refine PJ.next ?_
      refine WJ.ret ?_
      obtain rfl := Option.some.inj hm
      exact PJ.retn_sel (vs := [.agg (Fraction.enc r17).toArray, .int .i64 0]) Try.results19 ⟨⟨0, g3, 41, [.int .i64 r17.num, .int .i64 r17.den], rfl, rfl, .inl ⟨Try.isAgg41, Try.sizeOf41, rfl⟩⟩, rfl, trivial⟩ [] ⟨List.nodup_nil, rfl⟩ ⟨rfl, rfl⟩

set_option maxRecDepth 100000 in
set_option maxHeartbeats 1000000 in
theorem ok_i_MarkOf {N : Nat} {want1 : Str} {typed2 : Str} {r : Int × Int} (hm : i_MarkOf N want1 typed2 = some r) (w : World)  :
    Calls Try.prog 20 #[str want1, str typed2] w (Ret (cx w) (tup [.int .i64 r.1, .int .i64 r.2])) := by
  unfold i_MarkOf at hm
  refine Calls.enter [str want1, str typed2] Try.func20 rfl Try.ntmps20 rfl ?_
  refine WJ.seq ?_
  refine WJ.quiet ?_
  refine QJ.step (YldS.yld (y_assign rfl)) rfl ?_
  refine QJ.step (YldS.yld (y_assign rfl)) rfl ?_
  refine QJ.done ?_
  refine PJ.next ?_
  refine WJ.seq ?_
  refine WJ.seq ?_
  refine WJ.quiet ?_
  refine QJ.step (YldS.yld (y_move rfl)) rfl ?_
  obtain ⟨r3, h4, hm⟩ := bindS hm
  refine QJ.step (y_call Try.call53 rfl (RetG.quiet fun w hw => ok_i_isTyped h4 w )) rfl ?_
  refine QJ.step (YldS.yld (y_not rfl)) rfl ?_
  refine QJ.step (YldS.yld (y_move rfl)) rfl ?_
  obtain ⟨t5, h6, hm⟩ := bindS hm
  refine QJ.cut 4 [(0, str want1), (1, str typed2), (16, .bool t5)] ?_ ?_
  · rcases Bool.eq_false_or_eq_true (!r3) with hb7 | hb7
    · obtain rfl := orT h6 hb7
      refine QJ.off rfl rfl (cB hb7) rfl rfl ?_
      refine QJ.off rfl rfl (cB hb7) rfl rfl ?_
      refine QJ.off rfl rfl (cB hb7) rfl rfl ?_
      refine QJ.step (YldS.yld (y_pick_t (cB hb7) rfl)) rfl ?_
      exact QJ.cut_end ⟨rfl, rfl, rfl, trivial⟩
    · replace h6 := orF h6 hb7
      refine QJ.on rfl rfl (cB hb7) (YldS.yld (y_move rfl)) rfl ?_
      obtain ⟨r8, h9, h6⟩ := bindS h6
      refine QJ.on rfl rfl (cB hb7) (y_call Try.call53 rfl (RetG.quiet fun w hw => ok_i_isTyped h9 w )) rfl ?_
      refine QJ.on rfl rfl (cB hb7) (YldS.yld (y_not rfl)) rfl ?_
      refine QJ.step (YldS.yld (y_pick_f (cB hb7) rfl)) rfl ?_
      obtain rfl := Option.some.inj h6
      exact QJ.cut_end ⟨rfl, rfl, rfl, trivial⟩
  refine QJ.done ?_
  refine PJ.next ?_
  refine WJ.cond (t := t5) rfl (fun hb10 => ?_) (fun hb10 => ?_)
  · replace hm := ifT hm hb10
    refine WJ.seq ?_
    refine WJ.quiet ?_
    refine QJ.step (YldS.yld (y_assign rfl)) rfl ?_
    refine QJ.step (YldS.yld (y_assign rfl)) rfl ?_
    refine QJ.done ?_
    refine PJ.next ?_
    refine WJ.ret ?_
    refine PJ.then_ret ?_
    obtain rfl := Option.some.inj hm
    refine PJ.sel (L' := []) [] ⟨List.nodup_nil, rfl⟩ ?_
    exact PJ.retn (vs := [.int .i64 0, .int .i64 2]) Try.results20 ⟨rfl, rfl, trivial⟩ ⟨rfl, rfl⟩
  · replace hm := ifF hm hb10
    refine WJ.skip ?_
    refine PJ.next ?_
    refine WJ.seq ?_
    refine WJ.seq ?_
    refine WJ.quiet ?_
    refine QJ.step (YldS.yld (y_move rfl)) rfl ?_
    refine QJ.step (YldS.yld (y_binS rfl rfl rfl)) rfl ?_
    refine QJ.done ?_
    refine PJ.next ?_
    refine WJ.cond (t := (want1 == [])) rfl (fun hb11 => ?_) (fun hb11 => ?_)
    · replace hm := ifT hm hb11
      refine WJ.seq ?_
      refine WJ.quiet ?_
      refine QJ.step (YldS.yld (y_assign rfl)) rfl ?_
      refine QJ.step (YldS.yld (y_assign rfl)) rfl ?_
      refine QJ.done ?_
      refine PJ.next ?_
      refine WJ.ret ?_
      refine PJ.then_ret ?_
      obtain rfl := Option.some.inj hm
      refine PJ.sel (L' := []) [] ⟨List.nodup_nil, rfl⟩ ?_
      exact PJ.retn (vs := [.int .i64 0, .int .i64 3]) Try.results20 ⟨rfl, rfl, trivial⟩ ⟨rfl, rfl⟩
    · replace hm := ifF hm hb11
      refine WJ.skip ?_
      refine PJ.next ?_
      refine WJ.seq ?_
      refine WJ.reg ?_
      refine SJ.q (YldS.yld (y_move rfl)) rfl ?_
      refine SJ.q (YldS.yld (y_move rfl)) rfl ?_
      obtain ⟨r12, h13, hm⟩ := bindS hm
      refine SJ.call Try.call57 rfl (fun w hw => ok_i_leastFrom h13 w ) rfl ?_
      rintro v14 _ ⟨_, vs15, rfl, rfl⟩
      refine SJ.inn_len 1 rfl fun hl16 => ?_
      obtain ⟨e17, h18, hm⟩ := bindS hm
      obtain ⟨y19, hy20⟩ := inn_idx hl16 h18
      refine SJ.q (YldS.yld (y_ixRow (k := 0) (R := fRaw1) rfl Try.runUnderlying82 Try.sizeOf81 rfl rfl hy20)) rfl ?_
      refine SJ.q (YldS.yld (y_loadR (k := 0) (i := (Int.toNat 0)) (off := 0) rfl Try.isAgg81 rfl (idx_get hy20) (raw_get y19))) rfl ?_
      obtain ⟨e21, h22, hm⟩ := bindS hm
      refine SJ.q (YldS.yld (y_ixG (R := fI64) (fun w hw => (hw.inn_rd (k := 1) rfl rfl hy20 h18)) Try.runUnderlying81 Try.sizeOf3 rfl rfl h22)) rfl ?_
      refine SJ.q (YldS.yld (y_loadG (R := fI64) (i := (Int.toNat 0)) (off := 0) (fun w hw => (hw.inn_rd (k := 1) rfl rfl hy20 h18)) Try.isAgg3 rfl (idx_get h22) rfl)) rfl ?_
      refine SJ.q (YldS.yld (y_assign rfl)) rfl ?_
      refine SJ.nil ?_
      refine PJ.next ?_
      refine WJ.seq ?_
      refine WJ.quiet ?_
      refine QJ.step (YldS.yld (y_assign rfl)) rfl ?_
      refine QJ.done ?_
      refine PJ.next ?_
      obtain ⟨kj24, hk25, hm⟩ := withK_open hm
      refine WJ.join (X := Int) (fun (x : Int) => kj24 x = some r) (fun (x : Int) => [(7, .int .i64 x)]) (fun (x : Int) => []) ?_ ?_
      · clear hk25
        refine WJ.seq ?_
        refine WJ.quiet ?_
        refine QJ.step (YldS.yld (y_assign rfl)) rfl ?_
        refine QJ.done ?_
        refine PJ.next ?_
        refine WJ.block ?_
        refine WJ.sel (L' := (fun (x : Int × Int) => []) (1, 1)) [] ⟨List.nodup_nil, rfl⟩ ?_
        refine WJ.sub (m' := (fun (x : Int × Int) => [(0, str want1), (6, .int .i64 e21), (7, .int .i64 x.1), (8, .int .i64 x.2)]) (1, 1)) ⟨rfl, rfl, rfl, rfl, trivial⟩ ?_
        refine WJ.loop (X := Int × Int) (fun N (x : Int × Int) => i_MarkOf_l1 kj24 want1 e21 N x.1 x.2 = some r) (fun (x : Int × Int) => [(0, str want1), (6, .int .i64 e21), (7, .int .i64 x.1), (8, .int .i64 x.2)]) (fun (x : Int × Int) => []) ?_ N (1, 1) hm
        · rintro N ⟨mark26, times27⟩ hI
          have hm := hI; clear hI
          cases N with
          | zero => cases hm
          | succ N =>
          unfold i_MarkOf_l1 at hm
          refine WJ.seq ?_
          refine WJ.seq ?_
          refine WJ.quiet ?_
          refine QJ.step (YldS.yld (y_move rfl)) rfl ?_
          refine QJ.step (YldS.yld (y_bin rfl rfl rfl)) rfl ?_
          refine QJ.step (YldS.yld (y_move rfl)) rfl ?_
          obtain ⟨t28, h29, hm⟩ := bindS hm
          refine QJ.cut 8 [(0, str want1), (6, .int .i64 e21), (7, .int .i64 mark26), (8, .int .i64 times27), (36, .bool t28)] ?_ ?_
          · rcases Bool.eq_false_or_eq_true (decide (mark26 < 6)) with hb30 | hb30
            · replace h29 := andT h29 hb30
              refine QJ.on rfl rfl (cB hb30) (YldS.yld (y_move rfl)) rfl ?_
              refine QJ.on rfl rfl (cB hb30) (YldS.yld (y_bin rfl rfl rfl)) rfl ?_
              refine QJ.on rfl rfl (cB hb30) (YldS.yld (y_move rfl)) rfl ?_
              refine QJ.on rfl rfl (cB hb30) (YldS.yld (y_move rfl)) rfl ?_
              refine QJ.on rfl rfl (cB hb30) (YldS.yld (y_lenStr Try.runUnderlying9 rfl)) rfl ?_
              refine QJ.on rfl rfl (cB hb30) (YldS.yld (y_bin rfl rfl rfl)) rfl ?_
              refine QJ.on rfl rfl (cB hb30) (YldS.yld (y_bin rfl rfl rfl)) rfl ?_
              refine QJ.step (YldS.yld (y_pick_t (cB hb30) rfl)) rfl ?_
              obtain rfl := Option.some.inj h29
              exact QJ.cut_end ⟨rfl, rfl, rfl, rfl, rfl, trivial⟩
            · obtain rfl := andF h29 hb30
              refine QJ.off rfl rfl (cB hb30) rfl rfl ?_
              refine QJ.off rfl rfl (cB hb30) rfl rfl ?_
              refine QJ.off rfl rfl (cB hb30) rfl rfl ?_
              refine QJ.off rfl rfl (cB hb30) rfl rfl ?_
              refine QJ.off rfl rfl (cB hb30) rfl rfl ?_
              refine QJ.off rfl rfl (cB hb30) rfl rfl ?_
              refine QJ.off rfl rfl (cB hb30) rfl rfl ?_
              refine QJ.step (YldS.yld (y_pick_f (cB hb30) rfl)) rfl ?_
              exact QJ.cut_end ⟨rfl, rfl, rfl, rfl, rfl, trivial⟩
          refine QJ.done ?_
          refine PJ.next ?_
          refine WJ.cond (t := t28) rfl (fun hb31 => ?_) (fun hb31 => ?_)
          · replace hm := ifT hm hb31
            refine WJ.skip ?_
            refine PJ.next ?_
            refine WJ.seq ?_
            refine WJ.block ?_
            refine WJ.quiet ?_
            refine QJ.step (YldS.yld (y_move rfl)) rfl ?_
            refine QJ.step (YldS.yld (y_bin rfl rfl rfl)) rfl ?_
            refine QJ.step (YldS.yld (y_assign rfl)) rfl ?_
            refine QJ.done ?_
            refine PJ.block_normal (PJ.next ?_)
            refine WJ.quiet ?_
            refine QJ.step (YldS.yld (y_move rfl)) rfl ?_
            refine QJ.step (YldS.yld (y_bin rfl rfl rfl)) rfl ?_
            refine QJ.step (YldS.yld (y_assign rfl)) rfl ?_
            refine QJ.done ?_
            exact PJ.round (w64 (mark26 + 1), w64 (times27 * 2)) [] hm ⟨rfl, rfl, rfl, rfl, trivial⟩ ⟨List.nodup_nil, rfl⟩
          · replace hm := ifF hm hb31
            refine WJ.exit ?_
            refine PJ.then_exit (PJ.then_exit (PJ.block_exit ?_))
            exact PJ.joined mark26 [] hm ⟨rfl, trivial⟩ ⟨List.nodup_nil, rfl⟩
      · rintro mark23 hm
        subst hk25
        refine WJ.seq ?_
        refine WJ.quiet ?_
        refine QJ.step (YldS.yld (y_move rfl)) rfl ?_
        refine QJ.step (YldS.yld (y_assign rfl)) rfl ?_
        refine QJ.step (YldS.yld (y_assign rfl)) rfl ?_
        refine QJ.done ?_
        refine PJ.next ?_
        refine WJ.ret ?_
        obtain rfl := Option.some.inj hm
        refine PJ.sel (L' := []) [] ⟨List.nodup_nil, rfl⟩ ?_
        exact PJ.retn (vs := [.int .i64 mark23, .int .i64 0]) Try.results20 ⟨rfl, rfl, trivial⟩ ⟨rfl, rfl⟩

set_option maxRecDepth 100000 in
set_option maxHeartbeats 1000000 in
theorem ok_w_FnMarks {N : Nat} {code1 : List UInt8} {r : Bool} (hm : w_FnMarks N code1 = some r) (w : World) (v2 : Value) (hr3 : RdS w (cx w).Fz v2 fByte.rp code1) :
    Calls Try.prog 4 #[v2] w (Ret (cx w) (.bool r)) := by
  unfold w_FnMarks at hm
  refine Calls.enter [v2] Try.func4 rfl Try.ntmps4 rfl ?_
  refine WJ.seq ?_
  refine WJ.quiet ?_
  refine QJ.step (YldS.yld (y_assign rfl)) rfl ?_
  refine QJ.done ?_
  refine PJ.next ?_
  refine WJ.seq ?_
  refine WJ.seq ?_
  refine WJ.quiet ?_
  refine QJ.step (YldS.yld (y_move rfl)) rfl ?_
  obtain ⟨r4, h5, hm⟩ := bindS hm
  refine QJ.step (y_call Try.call7 rfl (RetG.quiet fun w hw => ok_w_a2Long h5 w _ (hr3.st hw) _ RdS.nil0)) rfl ?_
  refine QJ.done ?_
  refine PJ.next ?_
  refine WJ.cond (t := r4) rfl (fun hb6 => ?_) (fun hb6 => ?_)
  · replace hm := ifT hm hb6
    refine WJ.seq ?_
    refine WJ.quiet ?_
    refine QJ.step (YldS.yld (y_assign rfl)) rfl ?_
    refine QJ.done ?_
    refine PJ.next ?_
    refine WJ.ret ?_
    refine PJ.then_ret ?_
    obtain rfl := Option.some.inj hm
    refine PJ.sel (L' := []) [] ⟨List.nodup_nil, rfl⟩ ?_
    exact PJ.retn (vs := [.bool true]) Try.results4 ⟨rfl, trivial⟩ ⟨rfl, rfl⟩
  · replace hm := ifF hm hb6
    refine WJ.skip ?_
    refine PJ.next ?_
    refine WJ.seq ?_
    refine WJ.quiet ?_
    refine QJ.step (YldS.yld (y_move rfl)) rfl ?_
    obtain ⟨r7, h8, hm⟩ := bindS hm
    refine QJ.step (y_call Try.call15 rfl (RetG.quiet fun w hw => ok_s_A2Typed h8 w _ (hr3.st hw))) rfl ?_
    refine QJ.step (YldS.yld (y_move rfl)) rfl ?_
    refine QJ.step (YldS.yld (y_extract rfl rfl)) rfl ?_
    refine QJ.step (YldS.yld (y_extract rfl rfl)) rfl ?_
    refine QJ.step (YldS.yld (y_assign rfl)) rfl ?_
    refine QJ.step (YldS.yld (y_assign rfl)) rfl ?_
    refine QJ.done ?_
    refine PJ.next ?_
    refine WJ.seq ?_
    refine WJ.quiet ?_
    refine QJ.step (YldS.yld (y_move rfl)) rfl ?_
    refine QJ.step (YldS.yld (y_move rfl)) rfl ?_
    obtain ⟨r9, h10, hm⟩ := bindS hm
    refine QJ.step (y_call Try.call16 rfl (RetG.quiet fun w hw => ok_s_AlignTexts h10 w )) rfl ?_
    refine QJ.step (YldS.yld (y_move rfl)) rfl ?_
    refine QJ.step (YldS.yld (y_extract rfl rfl)) rfl ?_
    refine QJ.step (YldS.yld (y_extract rfl rfl)) rfl ?_
    refine QJ.step (YldS.yld (y_assign rfl)) rfl ?_
    refine QJ.step (YldS.yld (y_assign rfl)) rfl ?_
    refine QJ.done ?_
    refine PJ.next ?_
    refine WJ.seq ?_
    refine WJ.reg ?_
    refine SJ.q (YldS.yld (y_move rfl)) rfl ?_
    obtain ⟨r11, h12, hm⟩ := bindS hm
    refine SJ.call Try.call17 rfl (fun w hw => ok_i_ErrorsIn h12 w ) rfl ?_
    rintro _ _ ⟨v13, rfl, rfl⟩
    refine SJ.q (YldS.yld (y_move rfl)) rfl ?_
    refine SJ.q (YldS.yld (y_extract rfl rfl)) rfl ?_
    refine SJ.q (YldS.yld (y_extract rfl rfl)) rfl ?_
    refine SJ.q (YldS.yld (y_assign rfl)) rfl ?_
    refine SJ.q (YldS.yld (y_assign rfl)) rfl ?_
    refine SJ.nil ?_
    refine PJ.next ?_
    refine WJ.seq ?_
    refine WJ.reg ?_
    refine SJ.q (YldS.yld (y_move rfl)) rfl ?_
    refine SJ.q (YldS.yld (y_move rfl)) rfl ?_
    obtain ⟨r14, h15, hm⟩ := bindS hm
    refine SJ.call Try.call18 rfl (fun w hw => ok_i_MissedLetters h15 w ) rfl ?_
    rintro _ _ ⟨v16, rfl, rfl⟩
    refine SJ.q (YldS.yld (y_move rfl)) rfl ?_
    refine SJ.q (YldS.yld (y_extract rfl rfl)) rfl ?_
    refine SJ.q (YldS.yld (y_extract rfl rfl)) rfl ?_
    refine SJ.q (YldS.yld (y_extract rfl rfl)) rfl ?_
    refine SJ.q (YldS.yld (y_assign rfl)) rfl ?_
    refine SJ.q (YldS.yld (y_assign rfl)) rfl ?_
    refine SJ.q (YldS.yld (y_assign rfl)) rfl ?_
    refine SJ.nil ?_
    refine PJ.next ?_
    refine WJ.seq ?_
    refine WJ.seq ?_
    refine WJ.quiet_draw follows (by kernel_rfl) ?_
    refine QJ.step (YldS.yld (y_move rfl)) rfl ?_
    refine QJ.step (YldS.yld (y_bin rfl rfl rfl)) rfl ?_
    refine QJ.step (YldS.yld (y_move rfl)) rfl ?_
    obtain ⟨t17, h18, hm⟩ := bindS hm
    refine QJ.cut 3 [(3, str r7.1), (4, str r7.2), (7, v13), (9, str r14.1), (10, v16), (11, .int .i64 r14.2.2), (52, .bool t17)] ?_ ?_
    · rcases Bool.eq_false_or_eq_true (r9.2 != 0) with hb19 | hb19
      · obtain rfl := orT h18 hb19
        refine QJ.off rfl rfl (cB hb19) rfl rfl ?_
        refine QJ.off rfl rfl (cB hb19) rfl rfl ?_
        refine QJ.step (YldS.yld (y_pick_t (cB hb19) rfl)) rfl ?_
        exact QJ.cut_end ⟨rfl, rfl, rfl, rfl, rfl, rfl, rfl, trivial⟩
      · replace h18 := orF h18 hb19
        refine QJ.on rfl rfl (cB hb19) (YldS.yld (y_move rfl)) rfl ?_
        refine QJ.on rfl rfl (cB hb19) (YldS.yld (y_bin rfl rfl rfl)) rfl ?_
        refine QJ.step (YldS.yld (y_pick_f (cB hb19) rfl)) rfl ?_
        obtain rfl := Option.some.inj h18
        exact QJ.cut_end ⟨rfl, rfl, rfl, rfl, rfl, rfl, rfl, trivial⟩
    refine QJ.step (YldS.yld (y_move rfl)) rfl ?_
    obtain ⟨t20, h21, hm⟩ := bindS hm
    refine QJ.cut 4 [(3, str r7.1), (4, str r7.2), (7, v13), (9, str r14.1), (10, v16), (11, .int .i64 r14.2.2), (57, .bool t20)] ?_ ?_
    · rcases Bool.eq_false_or_eq_true t17 with hb22 | hb22
      · obtain rfl := orT h21 hb22
        refine QJ.off rfl rfl (cB hb22) rfl rfl ?_
        refine QJ.off rfl rfl (cB hb22) rfl rfl ?_
        refine QJ.off rfl rfl (cB hb22) rfl rfl ?_
        refine QJ.step (YldS.yld (y_pick_t (cB hb22) rfl)) rfl ?_
        exact QJ.cut_end ⟨rfl, rfl, rfl, rfl, rfl, rfl, rfl, trivial⟩
      · replace h21 := orF h21 hb22
        refine QJ.on rfl rfl (cB hb22) (YldS.yld (y_move rfl)) rfl ?_
        refine QJ.on rfl rfl (cB hb22) (YldS.yld (y_lenRow (k := 1) rfl Try.runUnderlying24 rfl)) rfl ?_
        refine QJ.on rfl rfl (cB hb22) (YldS.yld (y_bin rfl rfl rfl)) rfl ?_
        refine QJ.step (YldS.yld (y_pick_f (cB hb22) rfl)) rfl ?_
        obtain rfl := Option.some.inj h21
        exact QJ.cut_end ⟨rfl, rfl, rfl, rfl, rfl, rfl, rfl, trivial⟩
    refine QJ.step (YldS.yld (y_move rfl)) rfl ?_
    obtain ⟨t23, h24, hm⟩ := bindS hm
    refine QJ.cut 3 [(3, str r7.1), (4, str r7.2), (7, v13), (9, str r14.1), (10, v16), (61, .bool t23)] ?_ ?_
    · rcases Bool.eq_false_or_eq_true t20 with hb25 | hb25
      · obtain rfl := orT h24 hb25
        refine QJ.off rfl rfl (cB hb25) rfl rfl ?_
        refine QJ.off rfl rfl (cB hb25) rfl rfl ?_
        refine QJ.step (YldS.yld (y_pick_t (cB hb25) rfl)) rfl ?_
        exact QJ.cut_end ⟨rfl, rfl, rfl, rfl, rfl, rfl, trivial⟩
      · replace h24 := orF h24 hb25
        refine QJ.on rfl rfl (cB hb25) (YldS.yld (y_move rfl)) rfl ?_
        refine QJ.on rfl rfl (cB hb25) (YldS.yld (y_bin rfl rfl rfl)) rfl ?_
        refine QJ.step (YldS.yld (y_pick_f (cB hb25) rfl)) rfl ?_
        obtain rfl := Option.some.inj h24
        exact QJ.cut_end ⟨rfl, rfl, rfl, rfl, rfl, rfl, trivial⟩
    refine QJ.step (YldS.yld (y_move rfl)) rfl ?_
    obtain ⟨t26, h27, hm⟩ := bindS hm
    refine QJ.cut 6 [(3, str r7.1), (4, str r7.2), (7, v13), (9, str r14.1), (10, v16), (68, .bool t26)] ?_ ?_
    · rcases Bool.eq_false_or_eq_true t23 with hb28 | hb28
      · obtain rfl := orT h27 hb28
        refine QJ.off rfl rfl (cB hb28) rfl rfl ?_
        refine QJ.off rfl rfl (cB hb28) rfl rfl ?_
        refine QJ.off rfl rfl (cB hb28) rfl rfl ?_
        refine QJ.off rfl rfl (cB hb28) rfl rfl ?_
        refine QJ.off rfl rfl (cB hb28) rfl rfl ?_
        refine QJ.step (YldS.yld (y_pick_t (cB hb28) rfl)) rfl ?_
        exact QJ.cut_end ⟨rfl, rfl, rfl, rfl, rfl, rfl, trivial⟩
      · replace h27 := orF h27 hb28
        refine QJ.on rfl rfl (cB hb28) (YldS.yld (y_move rfl)) rfl ?_
        refine QJ.on rfl rfl (cB hb28) (YldS.yld (y_lenStr Try.runUnderlying9 rfl)) rfl ?_
        refine QJ.on rfl rfl (cB hb28) (YldS.yld (y_move rfl)) rfl ?_
        refine QJ.on rfl rfl (cB hb28) (YldS.yld (y_lenRow (k := 0) rfl Try.runUnderlying24 rfl)) rfl ?_
        refine QJ.on rfl rfl (cB hb28) (YldS.yld (y_bin rfl rfl rfl)) rfl ?_
        refine QJ.step (YldS.yld (y_pick_f (cB hb28) rfl)) rfl ?_
        obtain rfl := Option.some.inj h27
        exact QJ.cut_end ⟨rfl, rfl, rfl, rfl, rfl, rfl, trivial⟩
    refine QJ.step (YldS.yld (y_move rfl)) rfl ?_
    obtain ⟨t29, h30, hm⟩ := bindS hm
    refine QJ.cut 11 [(3, str r7.1), (4, str r7.2), (7, v13), (9, str r14.1), (10, v16), (80, .bool t29)] ?_ ?_
    · rcases Bool.eq_false_or_eq_true t26 with hb31 | hb31
      · obtain rfl := orT h30 hb31
        refine QJ.off rfl rfl (cB hb31) rfl rfl ?_
        refine QJ.off rfl rfl (cB hb31) rfl rfl ?_
        refine QJ.off rfl rfl (cB hb31) rfl rfl ?_
        refine QJ.off rfl rfl (cB hb31) rfl rfl ?_
        refine QJ.off rfl rfl (cB hb31) rfl rfl ?_
        refine QJ.off rfl rfl (cB hb31) rfl rfl ?_
        refine QJ.off rfl rfl (cB hb31) rfl rfl ?_
        refine QJ.off rfl rfl (cB hb31) rfl rfl ?_
        refine QJ.off rfl rfl (cB hb31) rfl rfl ?_
        refine QJ.off rfl rfl (cB hb31) rfl rfl ?_
        refine QJ.step (YldS.yld (y_pick_t (cB hb31) rfl)) rfl ?_
        exact QJ.cut_end ⟨rfl, rfl, rfl, rfl, rfl, rfl, trivial⟩
      · replace h30 := orF h30 hb31
        refine QJ.on rfl rfl (cB hb31) (YldS.yld (y_move rfl)) rfl ?_
        obtain ⟨r32, h33, h30⟩ := bindS h30
        refine QJ.on rfl rfl (cB hb31) (y_call Try.call12 rfl (RetG.quiet fun w hw => ok_w_a2Sum h33 w _ (hw.row_rd (k := 0) rfl))) rfl ?_
        refine QJ.on rfl rfl (cB hb31) (YldS.yld (y_move rfl)) rfl ?_
        obtain ⟨e34, h35, h30⟩ := bindS h30
        refine QJ.on rfl rfl (cB hb31) (YldS.yld (y_ixRow (k := 1) (R := fI64) rfl Try.runUnderlying24 Try.sizeOf2 rfl rfl h35)) rfl ?_
        refine QJ.on rfl rfl (cB hb31) (YldS.yld (y_loadR (k := 1) (i := (Int.toNat 1)) (off := 0) (u := .int .i64 e34) rfl Try.isAgg2 rfl (idx_get h35) rfl)) rfl ?_
        refine QJ.on rfl rfl (cB hb31) (YldS.yld (y_move rfl)) rfl ?_
        obtain ⟨e36, h37, h30⟩ := bindS h30
        refine QJ.on rfl rfl (cB hb31) (YldS.yld (y_ixRow (k := 1) (R := fI64) rfl Try.runUnderlying24 Try.sizeOf2 rfl rfl h37)) rfl ?_
        refine QJ.on rfl rfl (cB hb31) (YldS.yld (y_loadR (k := 1) (i := (Int.toNat 2)) (off := 0) (u := .int .i64 e36) rfl Try.isAgg2 rfl (idx_get h37) rfl)) rfl ?_
        refine QJ.on rfl rfl (cB hb31) (YldS.yld (y_bin rfl rfl rfl)) rfl ?_
        refine QJ.on rfl rfl (cB hb31) (YldS.yld (y_bin rfl rfl rfl)) rfl ?_
        refine QJ.step (YldS.yld (y_pick_f (cB hb31) rfl)) rfl ?_
        obtain rfl := Option.some.inj h30
        exact QJ.cut_end ⟨rfl, rfl, rfl, rfl, rfl, rfl, trivial⟩
    refine QJ.done ?_
    refine PJ.next ?_
    refine WJ.cond (t := t29) rfl (fun hb38 => ?_) (fun hb38 => ?_)
    · replace hm := ifT hm hb38
      refine WJ.seq ?_
      refine WJ.quiet ?_
      refine QJ.step (YldS.yld (y_assign rfl)) rfl ?_
      refine QJ.done ?_
      refine PJ.next ?_
      refine WJ.ret ?_
      refine PJ.then_ret ?_
      obtain rfl := Option.some.inj hm
      refine PJ.sel (L' := []) [] ⟨List.nodup_nil, rfl⟩ ?_
      exact PJ.retn (vs := [.bool false]) Try.results4 ⟨rfl, trivial⟩ ⟨rfl, rfl⟩
    · replace hm := ifF hm hb38
      refine WJ.skip ?_
      refine PJ.next ?_
      obtain ⟨kj39, hk40, hm⟩ := withK_open hm
      refine WJ.join (X := Unit) (fun (_ : Unit) => kj39  = some r) (fun (_ : Unit) => [(3, str r7.1), (4, str r7.2), (7, v13)]) (fun (_ : Unit) => [row v13 2 fI64 r11.1]) ?_ ?_
      · clear hk40
        refine WJ.seq ?_
        refine WJ.quiet ?_
        refine QJ.step (YldS.yld (y_assign rfl)) rfl ?_
        refine QJ.done ?_
        refine PJ.next ?_
        refine WJ.block ?_
        refine WJ.sel (L' := (fun (x : Int) => [row v16 2 fI64 r14.2.1, row v13 2 fI64 r11.1]) 0) [0, 1] ⟨by decide, rfl⟩ ?_
        refine WJ.sub (m' := (fun (x : Int) => [(3, str r7.1), (4, str r7.2), (7, v13), (9, str r14.1), (10, v16), (12, .int .i64 x)]) 0) ⟨rfl, rfl, rfl, rfl, rfl, rfl, trivial⟩ ?_
        refine WJ.loop (X := Int) (fun N (x : Int) => w_FnMarks_l1 kj39 r14 N x = some r) (fun (x : Int) => [(3, str r7.1), (4, str r7.2), (7, v13), (9, str r14.1), (10, v16), (12, .int .i64 x)]) (fun (x : Int) => [row v16 2 fI64 r14.2.1, row v13 2 fI64 r11.1]) ?_ N 0 hm
        · rintro N i41 hI
          have hm := hI; clear hI
          cases N with
          | zero => cases hm
          | succ N =>
          unfold w_FnMarks_l1 at hm
          refine WJ.seq ?_
          refine WJ.seq ?_
          refine WJ.quiet ?_
          refine QJ.step (YldS.yld (y_move rfl)) rfl ?_
          refine QJ.step (YldS.yld (y_move rfl)) rfl ?_
          refine QJ.step (YldS.yld (y_lenStr Try.runUnderlying9 rfl)) rfl ?_
          refine QJ.step (YldS.yld (y_bin rfl rfl rfl)) rfl ?_
          refine QJ.done ?_
          refine PJ.next ?_
          refine WJ.cond (t := decide (i41 < (List.length r14.1 : Int))) rfl (fun hb42 => ?_) (fun hb42 => ?_)
          · replace hm := ifT hm hb42
            refine WJ.skip ?_
            refine PJ.next ?_
            refine WJ.seq ?_
            refine WJ.block ?_
            refine WJ.seq ?_
            refine WJ.quiet_draw follows (by kernel_rfl) ?_
            refine QJ.step (YldS.yld (y_move rfl)) rfl ?_
            refine QJ.step (YldS.yld (y_move rfl)) rfl ?_
            obtain ⟨e43, h44, hm⟩ := bindS hm
            refine QJ.step (YldS.yld (y_ixRow (k := 0) (R := fI64) rfl Try.runUnderlying24 Try.sizeOf2 rfl rfl h44)) rfl ?_
            refine QJ.step (YldS.yld (y_loadR (k := 0) (i := (Int.toNat i41)) (off := 0) (u := .int .i64 e43) rfl Try.isAgg2 rfl (idx_get h44) rfl)) rfl ?_
            refine QJ.step (YldS.yld (y_bin rfl rfl rfl)) rfl ?_
            refine QJ.step (YldS.yld (y_move rfl)) rfl ?_
            obtain ⟨t45, h46, hm⟩ := bindS hm
            refine QJ.cut 13 [(3, str r7.1), (4, str r7.2), (7, v13), (9, str r14.1), (10, v16), (12, .int .i64 i41), (105, .bool t45)] ?_ ?_
            · rcases Bool.eq_false_or_eq_true (decide (e43 < 1)) with hb47 | hb47
              · obtain rfl := orT h46 hb47
                refine QJ.off rfl rfl (cB hb47) rfl rfl ?_
                refine QJ.off rfl rfl (cB hb47) rfl rfl ?_
                refine QJ.off rfl rfl (cB hb47) rfl rfl ?_
                refine QJ.off_undef rfl rfl rfl rfl ?_
                refine QJ.off_undef rfl rfl rfl rfl ?_
                refine QJ.off_undef rfl rfl rfl rfl ?_
                refine QJ.off_undef rfl rfl rfl rfl ?_
                refine QJ.off_undef rfl rfl rfl rfl ?_
                refine QJ.off_undef rfl rfl rfl rfl ?_
                refine QJ.off_undef rfl rfl rfl rfl ?_
                refine QJ.off_undef rfl rfl rfl rfl ?_
                refine QJ.off rfl rfl (cB hb47) rfl rfl ?_
                refine QJ.step (YldS.yld (y_pick_t (cB hb47) rfl)) rfl ?_
                exact QJ.cut_end ⟨rfl, rfl, rfl, rfl, rfl, rfl, rfl, trivial⟩
              · replace h46 := orF h46 hb47
                refine QJ.on rfl rfl (cB hb47) (YldS.yld (y_move rfl)) rfl ?_
                refine QJ.on rfl rfl (cB hb47) (YldS.yld (y_bin rfl rfl rfl)) rfl ?_
                refine QJ.on rfl rfl (cB hb47) (YldS.yld (y_move rfl)) rfl ?_
                obtain ⟨t48, h49, h46⟩ := bindS h46
                refine QJ.cut 9 [(3, str r7.1), (4, str r7.2), (7, v13), (9, str r14.1), (10, v16), (12, .int .i64 i41), (92, .bool (decide (e43 < 1))), (104, .bool t48)] ?_ ?_
                · rcases Bool.eq_false_or_eq_true (decide (i41 > 0)) with hb50 | hb50
                  · replace h49 := andT h49 hb50
                    refine QJ.on rfl rfl (cB hb50) (YldS.yld (y_move rfl)) rfl ?_
                    refine QJ.on rfl rfl (cB hb50) (YldS.yld (y_move rfl)) rfl ?_
                    refine QJ.on rfl rfl (cB hb50) (YldS.yld (y_bin rfl rfl rfl)) rfl ?_
                    obtain ⟨c51, h52, h49⟩ := bindS h49
                    refine QJ.on rfl rfl (cB hb50) (YldS.yld (y_idxStr Try.runUnderlying9 rfl rfl h52)) rfl ?_
                    refine QJ.on rfl rfl (cB hb50) (YldS.yld (y_move rfl)) rfl ?_
                    refine QJ.on rfl rfl (cB hb50) (YldS.yld (y_move rfl)) rfl ?_
                    obtain ⟨c53, h54, h49⟩ := bindS h49
                    refine QJ.on rfl rfl (cB hb50) (YldS.yld (y_idxStr Try.runUnderlying9 rfl rfl h54)) rfl ?_
                    refine QJ.on rfl rfl (cB hb50) (YldS.yld (y_bin8 c51 c53 rfl rfl rfl)) rfl ?_
                    refine QJ.on rfl rfl (cB hb47) (YldS.yld (y_pick_t (cB hb50) rfl)) rfl ?_
                    obtain rfl := Option.some.inj h49
                    exact QJ.cut_end ⟨rfl, rfl, rfl, rfl, rfl, rfl, rfl, rfl, trivial⟩
                  · obtain rfl := andF h49 hb50
                    refine QJ.off rfl rfl (cB hb50) rfl rfl ?_
                    refine QJ.off rfl rfl (cB hb50) rfl rfl ?_
                    refine QJ.off rfl rfl (cB hb50) rfl rfl ?_
                    refine QJ.off rfl rfl (cB hb50) rfl rfl ?_
                    refine QJ.off rfl rfl (cB hb50) rfl rfl ?_
                    refine QJ.off rfl rfl (cB hb50) rfl rfl ?_
                    refine QJ.off rfl rfl (cB hb50) rfl rfl ?_
                    refine QJ.off rfl rfl (cB hb50) rfl rfl ?_
                    refine QJ.on rfl rfl (cB hb47) (YldS.yld (y_pick_f (cB hb50) rfl)) rfl ?_
                    exact QJ.cut_end ⟨rfl, rfl, rfl, rfl, rfl, rfl, rfl, rfl, trivial⟩
                refine QJ.step (YldS.yld (y_pick_f (cB hb47) rfl)) rfl ?_
                obtain rfl := Option.some.inj h46
                exact QJ.cut_end ⟨rfl, rfl, rfl, rfl, rfl, rfl, rfl, trivial⟩
            refine QJ.done ?_
            refine PJ.next ?_
            refine WJ.cond (t := t45) rfl (fun hb55 => ?_) (fun hb55 => ?_)
            · replace hm := ifT hm hb55
              refine WJ.seq ?_
              refine WJ.quiet ?_
              refine QJ.step (YldS.yld (y_assign rfl)) rfl ?_
              refine QJ.done ?_
              refine PJ.next ?_
              refine WJ.ret ?_
              refine PJ.block_ret (PJ.then_ret (PJ.then_ret (PJ.block_ret (PJ.then_ret ?_))))
              obtain rfl := Option.some.inj hm
              refine PJ.sel (L' := []) [] ⟨List.nodup_nil, rfl⟩ ?_
              exact PJ.retn (vs := [.bool false]) Try.results4 ⟨rfl, trivial⟩ ⟨rfl, rfl⟩
            · replace hm := ifF hm hb55
              refine WJ.skip ?_
              refine PJ.block_normal (PJ.next ?_)
              refine WJ.quiet ?_
              refine QJ.step (YldS.yld (y_move rfl)) rfl ?_
              refine QJ.step (YldS.yld (y_bin rfl rfl rfl)) rfl ?_
              refine QJ.step (YldS.yld (y_assign rfl)) rfl ?_
              refine QJ.done ?_
              exact PJ.round (w64 (i41 + 1)) [0, 1] hm ⟨rfl, rfl, rfl, rfl, rfl, rfl, trivial⟩ ⟨by decide, rfl⟩
          · replace hm := ifF hm hb42
            refine WJ.exit ?_
            refine PJ.then_exit (PJ.then_exit (PJ.block_exit ?_))
            exact PJ.joined () [1] hm ⟨rfl, rfl, rfl, trivial⟩ ⟨by decide, rfl⟩
      · rintro _ hm
        subst hk40
        refine WJ.seq ?_
        refine WJ.reg ?_
        refine SJ.q (YldS.yld (y_move rfl)) rfl ?_
        refine SJ.q (YldS.yld (y_move rfl)) rfl ?_
        obtain ⟨r56, h57, hm⟩ := bindS hm
        refine SJ.q (y_call Try.call19 rfl (RetG.quiet fun w hw => ok_i_AccuracyOf h57 w )) rfl ?_
        refine SJ.q (YldS.yld (y_move rfl)) rfl ?_
        refine SJ.q (YldS.yld (y_extract rfl rfl)) rfl ?_
        refine SJ.q (YldS.yld (y_extract rfl rfl)) rfl ?_
        refine SJ.alloc (cs := [.int .i64 0, .int .i64 0]) Try.zeroValue41 rfl rfl fun g58 => ?_
        refine SJ.storeL (k := 0) (off := 0) (us := [.int .i64 r56.1.num, .int .i64 r56.1.den]) rfl rfl rfl rfl Try.sizeOf41 rfl rfl ?_
        refine SJ.q (YldS.yld (y_assign rfl)) rfl ?_
        refine SJ.nil ?_
        refine PJ.next ?_
        refine WJ.seq ?_
        refine WJ.quiet ?_
        refine QJ.step (YldS.yld (y_move rfl)) rfl ?_
        refine QJ.step (YldS.yld (y_move rfl)) rfl ?_
        obtain ⟨r59, h60, hm⟩ := bindS hm
        refine QJ.step (y_call Try.call20 rfl (RetG.quiet fun w hw => ok_i_MarkOf h60 w )) rfl ?_
        refine QJ.step (YldS.yld (y_move rfl)) rfl ?_
        refine QJ.step (YldS.yld (y_extract rfl rfl)) rfl ?_
        refine QJ.step (YldS.yld (y_extract rfl rfl)) rfl ?_
        refine QJ.step (YldS.yld (y_assign rfl)) rfl ?_
        refine QJ.step (YldS.yld (y_assign rfl)) rfl ?_
        refine QJ.done ?_
        refine PJ.next ?_
        refine WJ.seq ?_
        refine WJ.seq ?_
        refine WJ.quiet ?_
        refine QJ.step (YldS.yld (y_move rfl)) rfl ?_
        refine QJ.step (YldS.yld (y_binS rfl rfl rfl)) rfl ?_
        refine QJ.done ?_
        refine PJ.next ?_
        refine WJ.cond (t := (r7.1 == [])) rfl (fun hb61 => ?_) (fun hb61 => ?_)
        · replace hm := ifT hm hb61
          refine WJ.seq ?_
          refine WJ.quiet ?_
          refine QJ.step (YldS.yld (y_move rfl)) rfl ?_
          refine QJ.step (YldS.yld (y_bin rfl rfl rfl)) rfl ?_
          refine QJ.step (YldS.yld (y_move rfl)) rfl ?_
          obtain ⟨t62, h63, hm⟩ := bindS hm
          refine QJ.cut 3 [(125, .bool t62)] ?_ ?_
          · rcases Bool.eq_false_or_eq_true (r56.2 == 3) with hb64 | hb64
            · replace h63 := andT h63 hb64
              refine QJ.on rfl rfl (cB hb64) (YldS.yld (y_move rfl)) rfl ?_
              refine QJ.on rfl rfl (cB hb64) (YldS.yld (y_bin rfl rfl rfl)) rfl ?_
              refine QJ.step (YldS.yld (y_pick_t (cB hb64) rfl)) rfl ?_
              obtain rfl := Option.some.inj h63
              exact QJ.cut_end ⟨rfl, trivial⟩
            · obtain rfl := andF h63 hb64
              refine QJ.off rfl rfl (cB hb64) rfl rfl ?_
              refine QJ.off rfl rfl (cB hb64) rfl rfl ?_
              refine QJ.step (YldS.yld (y_pick_f (cB hb64) rfl)) rfl ?_
              exact QJ.cut_end ⟨rfl, trivial⟩
          refine QJ.step (YldS.yld (y_assign rfl)) rfl ?_
          refine QJ.done ?_
          refine PJ.next ?_
          refine WJ.ret ?_
          refine PJ.then_ret ?_
          obtain rfl := Option.some.inj hm
          refine PJ.sel (L' := []) [] ⟨List.nodup_nil, rfl⟩ ?_
          exact PJ.retn (vs := [.bool t62]) Try.results4 ⟨rfl, trivial⟩ ⟨rfl, rfl⟩
        · replace hm := ifF hm hb61
          refine WJ.skip ?_
          refine PJ.next ?_
          refine WJ.seq ?_
          refine WJ.quiet ?_
          refine QJ.step (YldS.yld (y_move rfl)) rfl ?_
          refine QJ.step (YldS.yld (y_lenStr Try.runUnderlying9 rfl)) rfl ?_
          refine QJ.step (YldS.yld (y_assign rfl)) rfl ?_
          refine QJ.done ?_
          refine PJ.next ?_
          refine WJ.seq ?_
          refine WJ.quiet_draw follows (by kernel_rfl) ?_
          refine QJ.step (YldS.yld (y_move rfl)) rfl ?_
          refine QJ.step (YldS.yld (y_move rfl)) rfl ?_
          obtain ⟨e65, h66, hm⟩ := bindS hm
          refine QJ.step (YldS.yld (y_ixRow (k := 1) (R := fI64) rfl Try.runUnderlying24 Try.sizeOf2 rfl rfl h66)) rfl ?_
          refine QJ.step (YldS.yld (y_loadR (k := 1) (i := (Int.toNat 1)) (off := 0) (u := .int .i64 e65) rfl Try.isAgg2 rfl (idx_get h66) rfl)) rfl ?_
          refine QJ.step (YldS.yld (y_bin rfl rfl rfl)) rfl ?_
          refine QJ.step (YldS.yld (y_move rfl)) rfl ?_
          obtain ⟨e67, h68, hm⟩ := bindS hm
          refine QJ.step (YldS.yld (y_ixRow (k := 1) (R := fI64) rfl Try.runUnderlying24 Try.sizeOf2 rfl rfl h68)) rfl ?_
          refine QJ.step (YldS.yld (y_loadR (k := 1) (i := (Int.toNat 2)) (off := 0) (u := .int .i64 e67) rfl Try.isAgg2 rfl (idx_get h68) rfl)) rfl ?_
          refine QJ.step (YldS.yld (y_bin rfl rfl rfl)) rfl ?_
          refine QJ.step (YldS.yld (y_move rfl)) rfl ?_
          obtain ⟨e69, h70, hm⟩ := bindS hm
          refine QJ.step (YldS.yld (y_ixRow (k := 1) (R := fI64) rfl Try.runUnderlying24 Try.sizeOf2 rfl rfl h70)) rfl ?_
          refine QJ.step (YldS.yld (y_loadR (k := 1) (i := (Int.toNat 3)) (off := 0) (u := .int .i64 e69) rfl Try.isAgg2 rfl (idx_get h70) rfl)) rfl ?_
          refine QJ.step (YldS.yld (y_bin rfl rfl rfl)) rfl ?_
          refine QJ.step (YldS.yld (y_bin rfl rfl rfl)) rfl ?_
          refine QJ.step (YldS.yld (y_assign rfl)) rfl ?_
          refine QJ.done ?_
          refine PJ.next ?_
          refine WJ.seq ?_
          refine WJ.seq ?_
          refine WJ.quiet ?_
          refine QJ.step (YldS.yld (y_move rfl)) rfl ?_
          refine QJ.step (YldS.yld (y_bin rfl rfl rfl)) rfl ?_
          refine QJ.step (YldS.yld (y_move rfl)) rfl ?_
          obtain ⟨t71, h72, hm⟩ := bindS hm
          refine QJ.cut 4 [(7, v13), (13, pt g58 0), (15, .int .i64 r59.1), (16, .int .i64 r59.2), (17, .int .i64 (List.length r7.1 : Int)), (18, .int .i64 (w64 ((w64 ((w64 ((List.length r7.1 : Int) - e65)) - e67)) - (w64 (2 * e69))))), (148, .bool t71)] ?_ ?_
          · rcases Bool.eq_false_or_eq_true (r56.2 != 0) with hb73 | hb73
            · obtain rfl := orT h72 hb73
              refine QJ.off rfl rfl (cB hb73) rfl rfl ?_
              refine QJ.off rfl rfl (cB hb73) rfl rfl ?_
              refine QJ.off rfl rfl (cB hb73) rfl rfl ?_
              refine QJ.step (YldS.yld (y_pick_t (cB hb73) rfl)) rfl ?_
              exact QJ.cut_end ⟨rfl, rfl, rfl, rfl, rfl, rfl, rfl, trivial⟩
            · replace h72 := orF h72 hb73
              refine QJ.on rfl rfl (cB hb73) (YldS.yld (y_fldB (o := 0) fld41_1 rfl)) rfl ?_
              refine QJ.on rfl rfl (cB hb73) (YldS.yld (y_loadB (k := 0) (off := 1) (v := .int .i64 r56.1.den) rfl Try.isAgg2 rfl rfl)) rfl ?_
              refine QJ.on rfl rfl (cB hb73) (YldS.yld (y_bin rfl rfl rfl)) rfl ?_
              refine QJ.step (YldS.yld (y_pick_f (cB hb73) rfl)) rfl ?_
              obtain rfl := Option.some.inj h72
              exact QJ.cut_end ⟨rfl, rfl, rfl, rfl, rfl, rfl, rfl, trivial⟩
          refine QJ.step (YldS.yld (y_move rfl)) rfl ?_
          obtain ⟨t74, h75, hm⟩ := bindS hm
          refine QJ.cut 5 [(7, v13), (13, pt g58 0), (15, .int .i64 r59.1), (16, .int .i64 r59.2), (17, .int .i64 (List.length r7.1 : Int)), (18, .int .i64 (w64 ((w64 ((w64 ((List.length r7.1 : Int) - e65)) - e67)) - (w64 (2 * e69))))), (154, .bool t74)] ?_ ?_
          · rcases Bool.eq_false_or_eq_true t71 with hb76 | hb76
            · obtain rfl := orT h75 hb76
              refine QJ.off rfl rfl (cB hb76) rfl rfl ?_
              refine QJ.off rfl rfl (cB hb76) rfl rfl ?_
              refine QJ.off rfl rfl (cB hb76) rfl rfl ?_
              refine QJ.off rfl rfl (cB hb76) rfl rfl ?_
              refine QJ.step (YldS.yld (y_pick_t (cB hb76) rfl)) rfl ?_
              exact QJ.cut_end ⟨rfl, rfl, rfl, rfl, rfl, rfl, rfl, trivial⟩
            · replace h75 := orF h75 hb76
              refine QJ.on rfl rfl (cB hb76) (YldS.yld (y_fldB (o := 0) fld41_1 rfl)) rfl ?_
              refine QJ.on rfl rfl (cB hb76) (YldS.yld (y_loadB (k := 0) (off := 1) (v := .int .i64 r56.1.den) rfl Try.isAgg2 rfl rfl)) rfl ?_
              refine QJ.on rfl rfl (cB hb76) (YldS.yld (y_move rfl)) rfl ?_
              refine QJ.on rfl rfl (cB hb76) (YldS.yld (y_bin rfl rfl rfl)) rfl ?_
              refine QJ.step (YldS.yld (y_pick_f (cB hb76) rfl)) rfl ?_
              obtain rfl := Option.some.inj h75
              exact QJ.cut_end ⟨rfl, rfl, rfl, rfl, rfl, rfl, rfl, trivial⟩
          refine QJ.step (YldS.yld (y_move rfl)) rfl ?_
          obtain ⟨t77, h78, hm⟩ := bindS hm
          refine QJ.cut 10 [(7, v13), (15, .int .i64 r59.1), (16, .int .i64 r59.2), (17, .int .i64 (List.length r7.1 : Int)), (165, .bool t77)] ?_ ?_
          · rcases Bool.eq_false_or_eq_true t74 with hb79 | hb79
            · obtain rfl := orT h78 hb79
              refine QJ.off rfl rfl (cB hb79) rfl rfl ?_
              refine QJ.off rfl rfl (cB hb79) rfl rfl ?_
              refine QJ.off rfl rfl (cB hb79) rfl rfl ?_
              refine QJ.off rfl rfl (cB hb79) rfl rfl ?_
              refine QJ.off rfl rfl (cB hb79) rfl rfl ?_
              refine QJ.off rfl rfl (cB hb79) rfl rfl ?_
              refine QJ.off rfl rfl (cB hb79) rfl rfl ?_
              refine QJ.off rfl rfl (cB hb79) rfl rfl ?_
              refine QJ.off rfl rfl (cB hb79) rfl rfl ?_
              refine QJ.step (YldS.yld (y_pick_t (cB hb79) rfl)) rfl ?_
              exact QJ.cut_end ⟨rfl, rfl, rfl, rfl, rfl, trivial⟩
            · replace h78 := orF h78 hb79
              refine QJ.on rfl rfl (cB hb79) (YldS.yld (y_fldB (o := 0) fld41_0 rfl)) rfl ?_
              refine QJ.on rfl rfl (cB hb79) (YldS.yld (y_loadB (k := 0) (off := 0) (v := .int .i64 r56.1.num) rfl Try.isAgg2 rfl rfl)) rfl ?_
              refine QJ.on rfl rfl (cB hb79) (YldS.yld (y_move rfl)) rfl ?_
              refine QJ.on rfl rfl (cB hb79) (YldS.yld (y_bin rfl rfl rfl)) rfl ?_
              refine QJ.on rfl rfl (cB hb79) (YldS.yld (y_move rfl)) rfl ?_
              refine QJ.on rfl rfl (cB hb79) (YldS.yld (y_fldB (o := 0) fld41_1 rfl)) rfl ?_
              refine QJ.on rfl rfl (cB hb79) (YldS.yld (y_loadB (k := 0) (off := 1) (v := .int .i64 r56.1.den) rfl Try.isAgg2 rfl rfl)) rfl ?_
              refine QJ.on rfl rfl (cB hb79) (YldS.yld (y_bin rfl rfl rfl)) rfl ?_
              refine QJ.on rfl rfl (cB hb79) (YldS.yld (y_bin rfl rfl rfl)) rfl ?_
              refine QJ.step (YldS.yld (y_pick_f (cB hb79) rfl)) rfl ?_
              obtain rfl := Option.some.inj h78
              exact QJ.cut_end ⟨rfl, rfl, rfl, rfl, rfl, trivial⟩
          refine QJ.step (YldS.yld (y_move rfl)) rfl ?_
          obtain ⟨t80, h81, hm⟩ := bindS hm
          refine QJ.cut 3 [(7, v13), (15, .int .i64 r59.1), (17, .int .i64 (List.length r7.1 : Int)), (169, .bool t80)] ?_ ?_
          · rcases Bool.eq_false_or_eq_true t77 with hb82 | hb82
            · obtain rfl := orT h81 hb82
              refine QJ.off rfl rfl (cB hb82) rfl rfl ?_
              refine QJ.off rfl rfl (cB hb82) rfl rfl ?_
              refine QJ.step (YldS.yld (y_pick_t (cB hb82) rfl)) rfl ?_
              exact QJ.cut_end ⟨rfl, rfl, rfl, rfl, trivial⟩
            · replace h81 := orF h81 hb82
              refine QJ.on rfl rfl (cB hb82) (YldS.yld (y_move rfl)) rfl ?_
              refine QJ.on rfl rfl (cB hb82) (YldS.yld (y_bin rfl rfl rfl)) rfl ?_
              refine QJ.step (YldS.yld (y_pick_f (cB hb82) rfl)) rfl ?_
              obtain rfl := Option.some.inj h81
              exact QJ.cut_end ⟨rfl, rfl, rfl, rfl, trivial⟩
          refine QJ.step (YldS.yld (y_move rfl)) rfl ?_
          obtain ⟨t83, h84, hm⟩ := bindS hm
          refine QJ.cut 3 [(7, v13), (15, .int .i64 r59.1), (17, .int .i64 (List.length r7.1 : Int)), (173, .bool t83)] ?_ ?_
          · rcases Bool.eq_false_or_eq_true t80 with hb85 | hb85
            · obtain rfl := orT h84 hb85
              refine QJ.off rfl rfl (cB hb85) rfl rfl ?_
              refine QJ.off rfl rfl (cB hb85) rfl rfl ?_
              refine QJ.step (YldS.yld (y_pick_t (cB hb85) rfl)) rfl ?_
              exact QJ.cut_end ⟨rfl, rfl, rfl, rfl, trivial⟩
            · replace h84 := orF h84 hb85
              refine QJ.on rfl rfl (cB hb85) (YldS.yld (y_move rfl)) rfl ?_
              refine QJ.on rfl rfl (cB hb85) (YldS.yld (y_bin rfl rfl rfl)) rfl ?_
              refine QJ.step (YldS.yld (y_pick_f (cB hb85) rfl)) rfl ?_
              obtain rfl := Option.some.inj h84
              exact QJ.cut_end ⟨rfl, rfl, rfl, rfl, trivial⟩
          refine QJ.step (YldS.yld (y_move rfl)) rfl ?_
          obtain ⟨t86, h87, hm⟩ := bindS hm
          refine QJ.cut 3 [(7, v13), (15, .int .i64 r59.1), (17, .int .i64 (List.length r7.1 : Int)), (177, .bool t86)] ?_ ?_
          · rcases Bool.eq_false_or_eq_true t83 with hb88 | hb88
            · obtain rfl := orT h87 hb88
              refine QJ.off rfl rfl (cB hb88) rfl rfl ?_
              refine QJ.off rfl rfl (cB hb88) rfl rfl ?_
              refine QJ.step (YldS.yld (y_pick_t (cB hb88) rfl)) rfl ?_
              exact QJ.cut_end ⟨rfl, rfl, rfl, rfl, trivial⟩
            · replace h87 := orF h87 hb88
              refine QJ.on rfl rfl (cB hb88) (YldS.yld (y_move rfl)) rfl ?_
              refine QJ.on rfl rfl (cB hb88) (YldS.yld (y_bin rfl rfl rfl)) rfl ?_
              refine QJ.step (YldS.yld (y_pick_f (cB hb88) rfl)) rfl ?_
              obtain rfl := Option.some.inj h87
              exact QJ.cut_end ⟨rfl, rfl, rfl, rfl, trivial⟩
          refine QJ.done ?_
          refine PJ.next ?_
          refine WJ.cond (t := t86) rfl (fun hb89 => ?_) (fun hb89 => ?_)
          · replace hm := ifT hm hb89
            refine WJ.seq ?_
            refine WJ.quiet ?_
            refine QJ.step (YldS.yld (y_assign rfl)) rfl ?_
            refine QJ.done ?_
            refine PJ.next ?_
            refine WJ.ret ?_
            refine PJ.then_ret ?_
            obtain rfl := Option.some.inj hm
            refine PJ.sel (L' := []) [] ⟨List.nodup_nil, rfl⟩ ?_
            exact PJ.retn (vs := [.bool false]) Try.results4 ⟨rfl, trivial⟩ ⟨rfl, rfl⟩
          · replace hm := ifF hm hb89
            refine WJ.skip ?_
            refine PJ.next ?_
            refine WJ.seq ?_
            refine WJ.quiet ?_
            refine QJ.step (YldS.yld (y_move rfl)) rfl ?_
            obtain ⟨r90, h91, hm⟩ := bindS hm
            refine QJ.step (y_call Try.call12 rfl (RetG.quiet fun w hw => ok_w_a2Sum h91 w _ (hw.row_rd (k := 1) rfl))) rfl ?_
            refine QJ.step (YldS.yld (y_bin rfl rfl rfl)) rfl ?_
            refine QJ.step (YldS.yld (y_assign rfl)) rfl ?_
            refine QJ.done ?_
            refine PJ.next ?_
            refine WJ.seq ?_
            refine WJ.quiet ?_
            refine QJ.step (YldS.yld (y_move rfl)) rfl ?_
            refine QJ.step (YldS.yld (y_assign rfl)) rfl ?_
            refine QJ.done ?_
            refine PJ.next ?_
            obtain ⟨kj93, hk94, hm⟩ := withK_open hm
            refine WJ.join (X := Int) (fun (x : Int) => kj93 x = some r) (fun (x : Int) => [(15, .int .i64 r59.1), (19, .int .i64 (w64 (100 * r90))), (20, .int .i64 x)]) (fun (x : Int) => []) ?_ ?_
            · clear hk94
              refine WJ.seq ?_
              refine WJ.quiet ?_
              refine QJ.step (YldS.yld (y_assign rfl)) rfl ?_
              refine QJ.done ?_
              refine PJ.next ?_
              refine WJ.block ?_
              refine WJ.sel (L' := (fun (x : Int × Int) => []) ((List.length r7.1 : Int), 1)) [] ⟨List.nodup_nil, rfl⟩ ?_
              refine WJ.sub (m' := (fun (x : Int × Int) => [(15, .int .i64 r59.1), (19, .int .i64 (w64 (100 * r90))), (20, .int .i64 x.1), (21, .int .i64 x.2)]) ((List.length r7.1 : Int), 1)) ⟨rfl, rfl, rfl, rfl, trivial⟩ ?_
              refine WJ.loop (X := Int × Int) (fun N (x : Int × Int) => w_FnMarks_l2 kj93 r59 r90 N x.1 x.2 = some r) (fun (x : Int × Int) => [(15, .int .i64 r59.1), (19, .int .i64 (w64 (100 * r90))), (20, .int .i64 x.1), (21, .int .i64 x.2)]) (fun (x : Int × Int) => []) ?_ N ((List.length r7.1 : Int), 1) hm
              · rintro N ⟨most95, k96⟩ hI
                have hm := hI; clear hI
                cases N with
                | zero => cases hm
                | succ N =>
                unfold w_FnMarks_l2 at hm
                refine WJ.seq ?_
                refine WJ.seq ?_
                refine WJ.quiet ?_
                refine QJ.step (YldS.yld (y_move rfl)) rfl ?_
                refine QJ.step (YldS.yld (y_move rfl)) rfl ?_
                refine QJ.step (YldS.yld (y_bin rfl rfl rfl)) rfl ?_
                refine QJ.done ?_
                refine PJ.next ?_
                refine WJ.cond (t := decide (k96 < r59.1)) rfl (fun hb97 => ?_) (fun hb97 => ?_)
                · replace hm := ifT hm hb97
                  refine WJ.skip ?_
                  refine PJ.next ?_
                  refine WJ.seq ?_
                  refine WJ.block ?_
                  refine WJ.seq ?_
                  refine WJ.seq ?_
                  refine WJ.quiet ?_
                  refine QJ.step (YldS.yld (y_move rfl)) rfl ?_
                  refine QJ.step (YldS.yld (y_move rfl)) rfl ?_
                  refine QJ.step (YldS.yld (y_bin rfl rfl rfl)) rfl ?_
                  refine QJ.done ?_
                  refine PJ.next ?_
                  refine WJ.cond (t := decide ((w64 (100 * r90)) ≤ most95)) rfl (fun hb98 => ?_) (fun hb98 => ?_)
                  · replace hm := ifT hm hb98
                    refine WJ.seq ?_
                    refine WJ.quiet ?_
                    refine QJ.step (YldS.yld (y_assign rfl)) rfl ?_
                    refine QJ.done ?_
                    refine PJ.next ?_
                    refine WJ.ret ?_
                    refine PJ.then_ret (PJ.block_ret (PJ.then_ret (PJ.then_ret (PJ.block_ret (PJ.then_ret ?_)))))
                    obtain rfl := Option.some.inj hm
                    refine PJ.sel (L' := []) [] ⟨List.nodup_nil, rfl⟩ ?_
                    exact PJ.retn (vs := [.bool false]) Try.results4 ⟨rfl, trivial⟩ ⟨rfl, rfl⟩
                  · replace hm := ifF hm hb98
                    refine WJ.skip ?_
                    refine PJ.next ?_
                    refine WJ.quiet ?_
                    refine QJ.step (YldS.yld (y_move rfl)) rfl ?_
                    refine QJ.step (YldS.yld (y_bin rfl rfl rfl)) rfl ?_
                    refine QJ.step (YldS.yld (y_assign rfl)) rfl ?_
                    refine QJ.done ?_
                    refine PJ.block_normal (PJ.next ?_)
                    refine WJ.quiet ?_
                    refine QJ.step (YldS.yld (y_move rfl)) rfl ?_
                    refine QJ.step (YldS.yld (y_bin rfl rfl rfl)) rfl ?_
                    refine QJ.step (YldS.yld (y_assign rfl)) rfl ?_
                    refine QJ.done ?_
                    exact PJ.round (w64 (most95 * 2), w64 (k96 + 1)) [] hm ⟨rfl, rfl, rfl, rfl, trivial⟩ ⟨List.nodup_nil, rfl⟩
                · replace hm := ifF hm hb97
                  refine WJ.exit ?_
                  refine PJ.then_exit (PJ.then_exit (PJ.block_exit ?_))
                  exact PJ.joined most95 [] hm ⟨rfl, rfl, rfl, trivial⟩ ⟨List.nodup_nil, rfl⟩
            · rintro most92 hm
              subst hk94
              refine WJ.seq ?_
              refine WJ.quiet ?_
              refine QJ.step (YldS.yld (y_move rfl)) rfl ?_
              refine QJ.step (YldS.yld (y_bin rfl rfl rfl)) rfl ?_
              refine QJ.step (YldS.yld (y_move rfl)) rfl ?_
              obtain ⟨t99, h100, hm⟩ := bindS hm
              refine QJ.cut 4 [(198, .bool t99)] ?_ ?_
              · rcases Bool.eq_false_or_eq_true (r59.1 == 6) with hb101 | hb101
                · obtain rfl := orT h100 hb101
                  refine QJ.off rfl rfl (cB hb101) rfl rfl ?_
                  refine QJ.off rfl rfl (cB hb101) rfl rfl ?_
                  refine QJ.off rfl rfl (cB hb101) rfl rfl ?_
                  refine QJ.step (YldS.yld (y_pick_t (cB hb101) rfl)) rfl ?_
                  exact QJ.cut_end ⟨rfl, trivial⟩
                · replace h100 := orF h100 hb101
                  refine QJ.on rfl rfl (cB hb101) (YldS.yld (y_move rfl)) rfl ?_
                  refine QJ.on rfl rfl (cB hb101) (YldS.yld (y_move rfl)) rfl ?_
                  refine QJ.on rfl rfl (cB hb101) (YldS.yld (y_bin rfl rfl rfl)) rfl ?_
                  refine QJ.step (YldS.yld (y_pick_f (cB hb101) rfl)) rfl ?_
                  obtain rfl := Option.some.inj h100
                  exact QJ.cut_end ⟨rfl, trivial⟩
              refine QJ.step (YldS.yld (y_assign rfl)) rfl ?_
              refine QJ.done ?_
              refine PJ.next ?_
              refine WJ.ret ?_
              obtain rfl := Option.some.inj hm
              refine PJ.sel (L' := []) [] ⟨List.nodup_nil, rfl⟩ ?_
              exact PJ.retn (vs := [.bool t99]) Try.results4 ⟨rfl, trivial⟩ ⟨rfl, rfl⟩

end Go.Proofs.Ytcegcmoeimjioaa
