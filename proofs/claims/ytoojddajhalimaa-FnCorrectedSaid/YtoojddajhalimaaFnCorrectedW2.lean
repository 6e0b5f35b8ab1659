/-
  The walks: a call hands back what its plain function computes, where that has a value. No other conditions.
-/
import Derived.Test.YtoojddajhalimaaFnCorrectedW
import Derived.Test.YtoojddajhalimaaChecked
namespace Go.Proofs.Ytoojddajhalimaa
open Go.RowKit Go.Proofs
set_option linter.unusedVariables false
set_option linter.unusedSimpArgs false

set_option maxRecDepth 100000 in
set_option maxHeartbeats 1000000 in
theorem ok_i_ApplyPlan {N : Nat} {rules1 : List Over} {typed4 : Str} {plan5 : Str} {letters6 : Str} {r : Str × Int} (hm : i_ApplyPlan N rules1 typed4 plan5 letters6 = some r) (w : World) (v2 : Value) (hr3 : RdS w (cx w).Fz v2 fOver.rp rules1) :
    Calls Try.prog 17 #[v2, str typed4, str plan5, str letters6] w (Ret (cx w) (tup [str r.1, .int .i64 r.2])) := by
  unfold i_ApplyPlan at hm
  refine Calls.enter [v2, str typed4, str plan5, str letters6] Try.func17 rfl Try.ntmps17 rfl ?_
  refine WJ.seq ?_
  refine WJ.quiet ?_
  refine QJ.step (YldS.yld (y_assign rfl)) rfl ?_
  refine QJ.step (YldS.yld (y_assign rfl)) rfl ?_
  refine QJ.done ?_
  refine PJ.next ?_
  refine WJ.seq ?_
  refine WJ.seq ?_
  refine WJ.quiet ?_
  refine QJ.step (YldS.yld (y_move rfl)) rfl ?_
  refine QJ.step (YldS.yld (y_move rfl)) rfl ?_
  refine QJ.step (YldS.yld (y_move rfl)) rfl ?_
  obtain ⟨r7, h8, hm⟩ := bindS hm
  refine QJ.step (y_call Try.call89 rfl (RetG.quiet fun w hw => ok_i_correctCode h8 w _ (hr3.st hw))) rfl ?_
  refine QJ.step (YldS.yld (y_assign rfl)) rfl ?_
  refine QJ.done ?_
  refine PJ.next ?_
  refine WJ.seq ?_
  refine WJ.quiet ?_
  refine QJ.step (YldS.yld (y_move rfl)) rfl ?_
  refine QJ.step (YldS.yld (y_bin rfl rfl rfl)) rfl ?_
  refine QJ.done ?_
  refine PJ.next ?_
  refine WJ.cond (t := (r7 != 0)) rfl (fun hb9 => ?_) (fun hb9 => ?_)
  · replace hm := ifT hm hb9
    refine WJ.seq ?_
    refine WJ.quiet ?_
    refine QJ.step (YldS.yld (y_move rfl)) rfl ?_
    refine QJ.step (YldS.yld (y_assign rfl)) rfl ?_
    refine QJ.step (YldS.yld (y_assign rfl)) rfl ?_
    refine QJ.done ?_
    refine PJ.next ?_
    refine WJ.ret ?_
    refine PJ.then_ret ?_
    obtain rfl := Option.some.inj hm
    refine PJ.sel (L' := []) [] ⟨List.nodup_nil, rfl⟩ ?_
    exact PJ.retn (vs := [str [], .int .i64 r7]) Try.results17 ⟨rfl, rfl, trivial⟩ ⟨rfl, rfl⟩
  · replace hm := ifF hm hb9
    refine WJ.skip ?_
    refine PJ.next ?_
    refine WJ.seq ?_
    refine WJ.seq ?_
    refine WJ.quiet ?_
    refine QJ.step (YldS.yld (y_move rfl)) rfl ?_
    obtain ⟨r10, h11, hm⟩ := bindS hm
    refine QJ.step (y_call Try.call99 rfl (RetG.quiet fun w hw => ok_i_isPlan h11 w )) rfl ?_
    refine QJ.step (YldS.yld (y_not rfl)) rfl ?_
    refine QJ.done ?_
    refine PJ.next ?_
    refine WJ.cond (t := !r10) rfl (fun hb12 => ?_) (fun hb12 => ?_)
    · replace hm := ifT hm hb12
      refine WJ.seq ?_
      refine WJ.quiet ?_
      refine QJ.step (YldS.yld (y_assign rfl)) rfl ?_
      refine QJ.step (YldS.yld (y_assign rfl)) rfl ?_
      refine QJ.done ?_
      refine PJ.next ?_
      refine WJ.ret ?_
      refine PJ.then_ret ?_
      obtain rfl := Option.some.inj hm
      refine PJ.sel (L' := []) [] ⟨List.nodup_nil, rfl⟩ ?_
      exact PJ.retn (vs := [str [], .int .i64 7]) Try.results17 ⟨rfl, rfl, trivial⟩ ⟨rfl, rfl⟩
    · replace hm := ifF hm hb12
      refine WJ.skip ?_
      refine PJ.next ?_
      refine WJ.seq ?_
      refine WJ.seq ?_
      refine WJ.quiet ?_
      refine QJ.step (YldS.yld (y_move rfl)) rfl ?_
      refine QJ.step (YldS.yld (y_lenStr Try.runUnderlying9 rfl)) rfl ?_
      refine QJ.step (YldS.yld (y_move rfl)) rfl ?_
      refine QJ.step (YldS.yld (y_lenStr Try.runUnderlying9 rfl)) rfl ?_
      refine QJ.step (YldS.yld (y_bin rfl rfl rfl)) rfl ?_
      refine QJ.done ?_
      refine PJ.next ?_
      refine WJ.cond (t := ((List.length plan5 : Int) != (List.length typed4 : Int))) rfl (fun hb13 => ?_) (fun hb13 => ?_)
      · replace hm := ifT hm hb13
        refine WJ.seq ?_
        refine WJ.quiet ?_
        refine QJ.step (YldS.yld (y_assign rfl)) rfl ?_
        refine QJ.step (YldS.yld (y_assign rfl)) rfl ?_
        refine QJ.done ?_
        refine PJ.next ?_
        refine WJ.ret ?_
        refine PJ.then_ret ?_
        obtain rfl := Option.some.inj hm
        refine PJ.sel (L' := []) [] ⟨List.nodup_nil, rfl⟩ ?_
        exact PJ.retn (vs := [str [], .int .i64 6]) Try.results17 ⟨rfl, rfl, trivial⟩ ⟨rfl, rfl⟩
      · replace hm := ifF hm hb13
        refine WJ.skip ?_
        refine PJ.next ?_
        refine WJ.seq ?_
        refine WJ.reg ?_
        refine SJ.q (YldS.yld (y_move rfl)) rfl ?_
        obtain ⟨l14, h15, hm⟩ := bindS hm
        refine SJ.convBytes h15 Try.underlying9 Try.underlying22 Try.underlying5 rfl rfl fun v16 => ?_
        refine SJ.q (YldS.yld (y_assign rfl)) rfl ?_
        refine SJ.nil ?_
        refine PJ.next ?_
        obtain ⟨k18, hk19, hm⟩ := withK_open hm
        refine WJ.join (X := (List UInt8)) (fun (x : (List UInt8)) => k18 x = some r) (fun (x : (List UInt8)) => [(11, v16)]) (fun (x : (List UInt8)) => [rowM v16 5 fByte x]) ?_ ?_
        · clear hk19
          refine WJ.seq ?_
          refine WJ.quiet ?_
          refine QJ.step (YldS.yld (y_move rfl)) rfl ?_
          refine QJ.step (YldS.yld (y_lenRowM (k := 0) rfl Try.runUnderlying22 rfl)) rfl ?_
          refine QJ.step (YldS.yld (y_move rfl)) rfl ?_
          refine QJ.done ?_
          refine PJ.next ?_
          refine WJ.block ?_
          refine WJ.sel (L' := (fun (x : (List UInt8) × Int) => [rowM v16 5 fByte x.1]) (l14, 0)) [0] ⟨by decide, rfl⟩ ?_
          refine WJ.sub (m' := (fun (x : (List UInt8) × Int) => [(0, v2), (1, str typed4), (2, str plan5), (3, str letters6), (11, v16), (33, .int .i64 (List.length l14 : Int)), (34, .int .i64 x.2)]) (l14, 0)) ⟨rfl, rfl, rfl, rfl, rfl, rfl, rfl, trivial⟩ ?_
          refine WJ.loop (X := (List UInt8) × Int) (fun N (x : (List UInt8) × Int) => i_ApplyPlan_l1 k18 rules1 typed4 plan5 letters6 l14 N x.1 x.2 = some r) (fun (x : (List UInt8) × Int) => [(0, v2), (1, str typed4), (2, str plan5), (3, str letters6), (11, v16), (33, .int .i64 (List.length l14 : Int)), (34, .int .i64 x.2)]) (fun (x : (List UInt8) × Int) => [rowM v16 5 fByte x.1]) ?_ N (l14, 0) hm
          · rintro N ⟨l20, x21⟩ hI
            have hm := hI; clear hI
            cases N with
            | zero => cases hm
            | succ N =>
            unfold i_ApplyPlan_l1 at hm
            refine WJ.seq ?_
            refine WJ.quiet ?_
            refine QJ.step (YldS.yld (y_bin rfl rfl rfl)) rfl ?_
            refine QJ.done ?_
            refine PJ.next ?_
            refine WJ.seq ?_
            refine WJ.cond (t := decide (x21 < (List.length l14 : Int))) rfl (fun hb22 => ?_) (fun hb22 => ?_)
            · replace hm := ifT hm hb22
              refine WJ.skip ?_
              refine PJ.next ?_
              obtain ⟨k25, hk25, hm⟩ := withK_open hm
              refine WJ.join (X := (List UInt8)) (fun (x : (List UInt8)) => k25 x = some r) (fun (x : (List UInt8)) => [(0, v2), (1, str typed4), (2, str plan5), (3, str letters6), (11, v16), (33, .int .i64 (List.length l14 : Int)), (34, .int .i64 x21)]) (fun (x : (List UInt8)) => [rowM v16 5 fByte x]) ?_ ?_
              · clear hk25
                refine WJ.block ?_
                refine WJ.seq ?_
                refine WJ.quiet ?_
                refine QJ.step (YldS.yld (y_move rfl)) rfl ?_
                refine QJ.step (YldS.yld (y_assign rfl)) rfl ?_
                refine QJ.done ?_
                refine PJ.next ?_
                refine WJ.seq ?_
                refine WJ.quiet ?_
                refine QJ.step (YldS.yld (y_move rfl)) rfl ?_
                refine QJ.step (YldS.yld (y_move rfl)) rfl ?_
                obtain ⟨c26, h27, hm⟩ := bindS hm
                refine QJ.step (YldS.yld (y_idxStr Try.runUnderlying9 rfl rfl h27)) rfl ?_
                refine QJ.done ?_
                refine PJ.next ?_
                refine WJ.block ?_
                refine WJ.seq ?_
                refine WJ.quiet ?_
                refine QJ.step (YldS.yld (y_bin8 c26 (43 : UInt8) rfl rfl rfl)) rfl ?_
                refine QJ.step (YldS.yld (y_assign rfl)) rfl ?_
                refine QJ.done ?_
                refine PJ.next ?_
                refine WJ.cond (t := (c26 == (43 : UInt8))) rfl (fun hb28 => ?_) (fun hb28 => ?_)
                · replace hm := ifT hm hb28
                  refine WJ.seq ?_
                  refine WJ.quiet_draw follows (by kernel_rfl) ?_
                  refine QJ.step (YldS.yld (y_move rfl)) rfl ?_
                  refine QJ.step (YldS.yld (y_move rfl)) rfl ?_
                  refine QJ.step (YldS.yld (y_move rfl)) rfl ?_
                  obtain ⟨c29, h30, hm⟩ := bindS hm
                  refine QJ.step (YldS.yld (y_idxStr Try.runUnderlying9 rfl rfl h30)) rfl ?_
                  refine QJ.step (YldS.yld (y_move rfl)) rfl ?_
                  refine QJ.step (YldS.yld (y_move rfl)) rfl ?_
                  obtain ⟨c31, h32, hm⟩ := bindS hm
                  refine QJ.step (YldS.yld (y_idxStr Try.runUnderlying9 rfl rfl h32)) rfl ?_
                  obtain ⟨r33, h34, hm⟩ := bindS hm
                  refine QJ.step (y_call Try.call100 rfl (RetG.quiet fun w hw => ok_i_seen h34 w _ (hr3.st hw))) rfl ?_
                  refine QJ.step (YldS.yld (y_move rfl)) rfl ?_
                  refine QJ.step (YldS.yld (y_extract rfl rfl)) rfl ?_
                  refine QJ.step (YldS.yld (y_extract rfl rfl)) rfl ?_
                  refine QJ.step (YldS.yld (y_assign rfl)) rfl ?_
                  refine QJ.step (YldS.yld (y_assign rfl)) rfl ?_
                  refine QJ.done ?_
                  refine PJ.next ?_
                  refine WJ.seq ?_
                  refine WJ.seq ?_
                  refine WJ.quiet ?_
                  refine QJ.step (YldS.yld (y_move rfl)) rfl ?_
                  refine QJ.step (YldS.yld (y_not rfl)) rfl ?_
                  refine QJ.done ?_
                  refine PJ.next ?_
                  refine WJ.cond (t := !r33.2) rfl (fun hb35 => ?_) (fun hb35 => ?_)
                  · replace hm := ifT hm hb35
                    refine WJ.seq ?_
                    refine WJ.quiet ?_
                    refine QJ.step (YldS.yld (y_assign rfl)) rfl ?_
                    refine QJ.step (YldS.yld (y_assign rfl)) rfl ?_
                    refine QJ.done ?_
                    refine PJ.next ?_
                    refine WJ.ret ?_
                    refine PJ.then_ret (PJ.block_ret (PJ.block_ret (PJ.then_ret (PJ.then_ret (PJ.block_ret (PJ.then_ret ?_))))))
                    obtain rfl := Option.some.inj hm
                    refine PJ.sel (L' := []) [] ⟨List.nodup_nil, rfl⟩ ?_
                    exact PJ.retn (vs := [str [], .int .i64 3]) Try.results17 ⟨rfl, rfl, trivial⟩ ⟨rfl, rfl⟩
                  · replace hm := ifF hm hb35
                    refine WJ.skip ?_
                    refine PJ.next ?_
                    refine WJ.reg ?_
                    refine SJ.q (YldS.yld (y_move rfl)) rfl ?_
                    refine SJ.q (YldS.yld (y_move rfl)) rfl ?_
                    refine SJ.q (YldS.yld (y_move rfl)) rfl ?_
                    obtain ⟨e36, h37, hm⟩ := bindS hm
                    refine SJ.q (YldS.yld (y_ixRowM (k := 0) (R := fByte) rfl Try.runUnderlying22 Try.sizeOf5 rfl rfl h37)) rfl ?_
                    refine SJ.storeRLM (k := 0) (i := (Int.toNat x21)) (off := 0) (us := [.int .u8 (UInt8.toNat r33.1 : Int)]) (b := r33.1) rfl rfl (idx_get h37) rfl rfl Try.sizeOf5 rfl rfl rfl ?_
                    refine SJ.nil ?_
                    refine PJ.block_normal (PJ.block_normal ?_)
                    exact PJ.joined (List.set l20 (Int.toNat x21) r33.1) [0] hm ⟨rfl, rfl, rfl, rfl, rfl, rfl, rfl, trivial⟩ ⟨by decide, rfl⟩
                · replace hm := ifF hm hb28
                  refine WJ.seq ?_
                  refine WJ.quiet ?_
                  refine QJ.step (YldS.yld (y_bin8 c26 (35 : UInt8) rfl rfl rfl)) rfl ?_
                  refine QJ.step (YldS.yld (y_assign rfl)) rfl ?_
                  refine QJ.done ?_
                  refine PJ.next ?_
                  refine WJ.cond (t := (c26 == (35 : UInt8))) rfl (fun hb38 => ?_) (fun hb38 => ?_)
                  · replace hm := ifT hm hb38
                    refine WJ.reg ?_
                    refine SJ.q (YldS.yld (y_move rfl)) rfl ?_
                    refine SJ.q (YldS.yld (y_move rfl)) rfl ?_
                    refine SJ.q (YldS.yld (y_move rfl)) rfl ?_
                    refine SJ.q (YldS.yld (y_move rfl)) rfl ?_
                    obtain ⟨c39, h40, hm⟩ := bindS hm
                    refine SJ.q (YldS.yld (y_idxStr Try.runUnderlying9 rfl rfl h40)) rfl ?_
                    obtain ⟨e41, h42, hm⟩ := bindS hm
                    refine SJ.q (YldS.yld (y_ixRowM (k := 0) (R := fByte) rfl Try.runUnderlying22 Try.sizeOf5 rfl rfl h42)) rfl ?_
                    refine SJ.storeRLM (k := 0) (i := (Int.toNat x21)) (off := 0) (us := [.int .u8 (UInt8.toNat c39 : Int)]) (b := c39) rfl rfl (idx_get h42) rfl rfl Try.sizeOf5 rfl rfl rfl ?_
                    refine SJ.nil ?_
                    refine PJ.block_normal (PJ.block_normal ?_)
                    exact PJ.joined (List.set l20 (Int.toNat x21) c39) [0] hm ⟨rfl, rfl, rfl, rfl, rfl, rfl, rfl, trivial⟩ ⟨by decide, rfl⟩
                  · replace hm := ifF hm hb38
                    refine WJ.skip ?_
                    refine PJ.block_normal (PJ.block_normal ?_)
                    exact PJ.joined l20 [0] hm ⟨rfl, rfl, rfl, rfl, rfl, rfl, rfl, trivial⟩ ⟨by decide, rfl⟩
              · rintro l23 hm
                subst hk25
                refine WJ.quiet ?_
                refine QJ.step (YldS.yld (y_bin rfl rfl rfl)) rfl ?_
                refine QJ.step (YldS.yld (y_move rfl)) rfl ?_
                refine QJ.done ?_
                exact PJ.round (l23, w64 (x21 + 1)) [0] hm ⟨rfl, rfl, rfl, rfl, rfl, rfl, rfl, trivial⟩ ⟨by decide, rfl⟩
            · replace hm := ifF hm hb22
              refine WJ.exit ?_
              refine PJ.then_exit (PJ.then_exit (PJ.block_exit ?_))
              exact PJ.joined l20 [0] hm ⟨rfl, trivial⟩ ⟨by decide, rfl⟩
        · rintro l17 hm
          subst hk19
          refine WJ.seq ?_
          refine WJ.quiet ?_
          refine QJ.step (YldS.yld (y_move rfl)) rfl ?_
          refine QJ.step (YldS.yld (y_b2s Try.underlying22 Try.underlying9 Try.underlying5 (fun w hw => ⟨_, (hw.rowM_rd (k := 0) rfl)⟩) rfl)) rfl ?_
          refine QJ.step (YldS.yld (y_assign rfl)) rfl ?_
          refine QJ.step (YldS.yld (y_assign rfl)) rfl ?_
          refine QJ.done ?_
          refine PJ.next ?_
          refine WJ.ret ?_
          obtain rfl := Option.some.inj hm
          refine PJ.sel (L' := []) [] ⟨List.nodup_nil, rfl⟩ ?_
          exact PJ.retn (vs := [str l17, .int .i64 0]) Try.results17 ⟨rfl, rfl, trivial⟩ ⟨rfl, rfl⟩

set_option maxRecDepth 100000 in
set_option maxHeartbeats 1000000 in
theorem ok_s_l12IsPlan {N : Nat} {plan1 : Str} {r : Bool} (hm : s_l12IsPlan N plan1 = some r) (w : World)  :
    Calls Try.prog 101 #[str plan1] w (Ret (cx w) (.bool r)) := by
  unfold s_l12IsPlan at hm
  refine Calls.enter [str plan1] Try.func101 rfl Try.ntmps101 rfl ?_
  refine WJ.seq ?_
  refine WJ.quiet ?_
  refine QJ.step (YldS.yld (y_assign rfl)) rfl ?_
  refine QJ.done ?_
  refine PJ.next ?_
  obtain ⟨k2, hk3, hm⟩ := withK_open hm
  refine WJ.join (X := Unit) (fun (_ : Unit) => k2  = some r) (fun (_ : Unit) => [(0, str plan1)]) (fun (_ : Unit) => []) ?_ ?_
  · clear hk3
    refine WJ.seq ?_
    refine WJ.quiet ?_
    refine QJ.step (YldS.yld (y_assign rfl)) rfl ?_
    refine QJ.done ?_
    refine PJ.next ?_
    refine WJ.block ?_
    refine WJ.sel (L' := (fun (x : Int) => []) 0) [] ⟨List.nodup_nil, rfl⟩ ?_
    refine WJ.sub (m' := (fun (x : Int) => [(0, str plan1), (3, .int .i64 x)]) 0) ⟨rfl, rfl, trivial⟩ ?_
    refine WJ.loop (X := Int) (fun N (x : Int) => s_l12IsPlan_l1 k2 plan1 N x = some r) (fun (x : Int) => [(0, str plan1), (3, .int .i64 x)]) (fun (x : Int) => []) ?_ N 0 hm
    · rintro N i4 hI
      have hm := hI; clear hI
      cases N with
      | zero => cases hm
      | succ N =>
      unfold s_l12IsPlan_l1 at hm
      refine WJ.seq ?_
      refine WJ.seq ?_
      refine WJ.quiet ?_
      refine QJ.step (YldS.yld (y_move rfl)) rfl ?_
      refine QJ.step (YldS.yld (y_move rfl)) rfl ?_
      refine QJ.step (YldS.yld (y_lenStr Try.runUnderlying9 rfl)) rfl ?_
      refine QJ.step (YldS.yld (y_bin rfl rfl rfl)) rfl ?_
      refine QJ.done ?_
      refine PJ.next ?_
      refine WJ.cond (t := decide (i4 < (List.length plan1 : Int))) rfl (fun hb5 => ?_) (fun hb5 => ?_)
      · replace hm := ifT hm hb5
        refine WJ.skip ?_
        refine PJ.next ?_
        refine WJ.seq ?_
        refine WJ.block ?_
        refine WJ.seq ?_
        refine WJ.quiet ?_
        refine QJ.step (YldS.yld (y_move rfl)) rfl ?_
        refine QJ.step (YldS.yld (y_move rfl)) rfl ?_
        obtain ⟨c6, h7, hm⟩ := bindS hm
        refine QJ.step (YldS.yld (y_idxStr Try.runUnderlying9 rfl rfl h7)) rfl ?_
        refine QJ.step (YldS.yld (y_bin8 c6 (46 : UInt8) rfl rfl rfl)) rfl ?_
        refine QJ.step (YldS.yld (y_move rfl)) rfl ?_
        obtain ⟨t8, h9, hm⟩ := bindS hm
        refine QJ.cut 5 [(0, str plan1), (3, .int .i64 i4), (19, .bool t8)] ?_ ?_
        · rcases Bool.eq_false_or_eq_true (c6 != (46 : UInt8)) with hb10 | hb10
          · replace h9 := andT h9 hb10
            refine QJ.on rfl rfl (cB hb10) (YldS.yld (y_move rfl)) rfl ?_
            refine QJ.on rfl rfl (cB hb10) (YldS.yld (y_move rfl)) rfl ?_
            obtain ⟨c11, h12, h9⟩ := bindS h9
            refine QJ.on rfl rfl (cB hb10) (YldS.yld (y_idxStr Try.runUnderlying9 rfl rfl h12)) rfl ?_
            refine QJ.on rfl rfl (cB hb10) (YldS.yld (y_bin8 c11 (43 : UInt8) rfl rfl rfl)) rfl ?_
            refine QJ.step (YldS.yld (y_pick_t (cB hb10) rfl)) rfl ?_
            obtain rfl := Option.some.inj h9
            exact QJ.cut_end ⟨rfl, rfl, rfl, trivial⟩
          · obtain rfl := andF h9 hb10
            refine QJ.off rfl rfl (cB hb10) rfl rfl ?_
            refine QJ.off rfl rfl (cB hb10) rfl rfl ?_
            refine QJ.off rfl rfl (cB hb10) rfl rfl ?_
            refine QJ.off rfl rfl (cB hb10) rfl rfl ?_
            refine QJ.step (YldS.yld (y_pick_f (cB hb10) rfl)) rfl ?_
            exact QJ.cut_end ⟨rfl, rfl, rfl, trivial⟩
        refine QJ.step (YldS.yld (y_move rfl)) rfl ?_
        obtain ⟨t13, h14, hm⟩ := bindS hm
        refine QJ.cut 5 [(0, str plan1), (3, .int .i64 i4), (25, .bool t13)] ?_ ?_
        · rcases Bool.eq_false_or_eq_true t8 with hb15 | hb15
          · replace h14 := andT h14 hb15
            refine QJ.on rfl rfl (cB hb15) (YldS.yld (y_move rfl)) rfl ?_
            refine QJ.on rfl rfl (cB hb15) (YldS.yld (y_move rfl)) rfl ?_
            obtain ⟨c16, h17, h14⟩ := bindS h14
            refine QJ.on rfl rfl (cB hb15) (YldS.yld (y_idxStr Try.runUnderlying9 rfl rfl h17)) rfl ?_
            refine QJ.on rfl rfl (cB hb15) (YldS.yld (y_bin8 c16 (35 : UInt8) rfl rfl rfl)) rfl ?_
            refine QJ.step (YldS.yld (y_pick_t (cB hb15) rfl)) rfl ?_
            obtain rfl := Option.some.inj h14
            exact QJ.cut_end ⟨rfl, rfl, rfl, trivial⟩
          · obtain rfl := andF h14 hb15
            refine QJ.off rfl rfl (cB hb15) rfl rfl ?_
            refine QJ.off rfl rfl (cB hb15) rfl rfl ?_
            refine QJ.off rfl rfl (cB hb15) rfl rfl ?_
            refine QJ.off rfl rfl (cB hb15) rfl rfl ?_
            refine QJ.step (YldS.yld (y_pick_f (cB hb15) rfl)) rfl ?_
            exact QJ.cut_end ⟨rfl, rfl, rfl, trivial⟩
        refine QJ.done ?_
        refine PJ.next ?_
        refine WJ.cond (t := t13) rfl (fun hb18 => ?_) (fun hb18 => ?_)
        · replace hm := ifT hm hb18
          refine WJ.seq ?_
          refine WJ.quiet ?_
          refine QJ.step (YldS.yld (y_assign rfl)) rfl ?_
          refine QJ.done ?_
          refine PJ.next ?_
          refine WJ.ret ?_
          refine PJ.block_ret (PJ.then_ret (PJ.then_ret (PJ.block_ret (PJ.then_ret ?_))))
          obtain rfl := Option.some.inj hm
          refine PJ.sel (L' := []) [] ⟨List.nodup_nil, rfl⟩ ?_
          exact PJ.retn (vs := [.bool false]) Try.results101 ⟨rfl, trivial⟩ ⟨rfl, rfl⟩
        · replace hm := ifF hm hb18
          refine WJ.skip ?_
          refine PJ.block_normal (PJ.next ?_)
          refine WJ.quiet ?_
          refine QJ.step (YldS.yld (y_move rfl)) rfl ?_
          refine QJ.step (YldS.yld (y_bin rfl rfl rfl)) rfl ?_
          refine QJ.step (YldS.yld (y_assign rfl)) rfl ?_
          refine QJ.done ?_
          exact PJ.round (w64 (i4 + 1)) [] hm ⟨rfl, rfl, trivial⟩ ⟨List.nodup_nil, rfl⟩
      · replace hm := ifF hm hb5
        refine WJ.exit ?_
        refine PJ.then_exit (PJ.then_exit (PJ.block_exit ?_))
        exact PJ.joined () [] hm ⟨rfl, trivial⟩ ⟨List.nodup_nil, rfl⟩
  · rintro _ hm
    subst hk3
    refine WJ.seq ?_
    refine WJ.quiet ?_
    refine QJ.step (YldS.yld (y_move rfl)) rfl ?_
    refine QJ.step (YldS.yld (y_lenStr Try.runUnderlying9 rfl)) rfl ?_
    refine QJ.step (YldS.yld (y_bin rfl rfl rfl)) rfl ?_
    refine QJ.step (YldS.yld (y_assign rfl)) rfl ?_
    refine QJ.done ?_
    refine PJ.next ?_
    refine WJ.ret ?_
    obtain rfl := Option.some.inj hm
    refine PJ.sel (L' := []) [] ⟨List.nodup_nil, rfl⟩ ?_
    exact PJ.retn (vs := [.bool (decide ((List.length plan1 : Int) ≤ 60))]) Try.results101 ⟨rfl, trivial⟩ ⟨rfl, rfl⟩

set_option maxRecDepth 100000 in
set_option maxHeartbeats 1000000 in
theorem ok_s_l12Seen {N : Nat} {rules1 : List Over} {under4 : UInt8} {top5 : UInt8} {r : UInt8} (hm : s_l12Seen N rules1 under4 top5 = some r) (w : World) (v2 : Value) (hr3 : RdS w (cx w).Fz v2 fOver.rp rules1) :
    Calls Try.prog 102 #[v2, .int .u8 (UInt8.toNat under4 : Int), .int .u8 (UInt8.toNat top5 : Int)] w (Ret (cx w) (.int .u8 (UInt8.toNat r : Int))) := by
  unfold s_l12Seen at hm
  refine Calls.enter [v2, .int .u8 (UInt8.toNat under4 : Int), .int .u8 (UInt8.toNat top5 : Int)] Try.func102 rfl Try.ntmps102 rfl ?_
  refine WJ.seq ?_
  refine WJ.quiet ?_
  refine QJ.step (YldS.yld (y_assign rfl)) rfl ?_
  refine QJ.done ?_
  refine PJ.next ?_
  refine WJ.seq ?_
  refine WJ.seq ?_
  refine WJ.quiet ?_
  refine QJ.step (YldS.yld (y_move rfl)) rfl ?_
  refine QJ.step (YldS.yld (y_move rfl)) rfl ?_
  refine QJ.step (YldS.yld (y_bin8 under4 top5 rfl rfl rfl)) rfl ?_
  refine QJ.step (YldS.yld (y_move rfl)) rfl ?_
  obtain ⟨t6, h7, hm⟩ := bindS hm
  refine QJ.cut 3 [(0, v2), (1, .int .u8 (UInt8.toNat under4 : Int)), (2, .int .u8 (UInt8.toNat top5 : Int)), (14, .bool t6)] ?_ ?_
  · rcases Bool.eq_false_or_eq_true (under4 == top5) with hb8 | hb8
    · obtain rfl := orT h7 hb8
      refine QJ.off rfl rfl (cB hb8) rfl rfl ?_
      refine QJ.off rfl rfl (cB hb8) rfl rfl ?_
      refine QJ.step (YldS.yld (y_pick_t (cB hb8) rfl)) rfl ?_
      exact QJ.cut_end ⟨rfl, rfl, rfl, rfl, trivial⟩
    · replace h7 := orF h7 hb8
      refine QJ.on rfl rfl (cB hb8) (YldS.yld (y_move rfl)) rfl ?_
      refine QJ.on rfl rfl (cB hb8) (YldS.yld (y_bin8 top5 (32 : UInt8) rfl rfl rfl)) rfl ?_
      refine QJ.step (YldS.yld (y_pick_f (cB hb8) rfl)) rfl ?_
      obtain rfl := Option.some.inj h7
      exact QJ.cut_end ⟨rfl, rfl, rfl, rfl, trivial⟩
  refine QJ.done ?_
  refine PJ.next ?_
  refine WJ.cond (t := t6) rfl (fun hb9 => ?_) (fun hb9 => ?_)
  · replace hm := ifT hm hb9
    refine WJ.seq ?_
    refine WJ.quiet ?_
    refine QJ.step (YldS.yld (y_move rfl)) rfl ?_
    refine QJ.step (YldS.yld (y_assign rfl)) rfl ?_
    refine QJ.done ?_
    refine PJ.next ?_
    refine WJ.ret ?_
    refine PJ.then_ret ?_
    obtain rfl := Option.some.inj hm
    refine PJ.sel (L' := []) [] ⟨List.nodup_nil, rfl⟩ ?_
    exact PJ.retn (vs := [.int .u8 (UInt8.toNat under4 : Int)]) Try.results102 ⟨rfl, trivial⟩ ⟨rfl, rfl⟩
  · replace hm := ifF hm hb9
    refine WJ.skip ?_
    refine PJ.next ?_
    refine WJ.seq ?_
    refine WJ.seq ?_
    refine WJ.quiet ?_
    refine QJ.step (YldS.yld (y_move rfl)) rfl ?_
    refine QJ.step (YldS.yld (y_bin8 under4 (32 : UInt8) rfl rfl rfl)) rfl ?_
    refine QJ.done ?_
    refine PJ.next ?_
    refine WJ.cond (t := (under4 == (32 : UInt8))) rfl (fun hb10 => ?_) (fun hb10 => ?_)
    · replace hm := ifT hm hb10
      refine WJ.seq ?_
      refine WJ.quiet ?_
      refine QJ.step (YldS.yld (y_move rfl)) rfl ?_
      refine QJ.step (YldS.yld (y_assign rfl)) rfl ?_
      refine QJ.done ?_
      refine PJ.next ?_
      refine WJ.ret ?_
      refine PJ.then_ret ?_
      obtain rfl := Option.some.inj hm
      refine PJ.sel (L' := []) [] ⟨List.nodup_nil, rfl⟩ ?_
      exact PJ.retn (vs := [.int .u8 (UInt8.toNat top5 : Int)]) Try.results102 ⟨rfl, trivial⟩ ⟨rfl, rfl⟩
    · replace hm := ifF hm hb10
      refine WJ.skip ?_
      refine PJ.next ?_
      obtain ⟨k11, hk12, hm⟩ := withK_open hm
      refine WJ.join (X := Unit) (fun (_ : Unit) => k11  = some r) (fun (_ : Unit) => []) (fun (_ : Unit) => []) ?_ ?_
      · clear hk12
        refine WJ.seq ?_
        refine WJ.quiet ?_
        refine QJ.step (YldS.yld (y_assign rfl)) rfl ?_
        refine QJ.done ?_
        refine PJ.next ?_
        refine WJ.block ?_
        refine WJ.sel (L' := (fun (x : Int) => []) 0) [] ⟨List.nodup_nil, rfl⟩ ?_
        refine WJ.sub (m' := (fun (x : Int) => [(0, v2), (1, .int .u8 (UInt8.toNat under4 : Int)), (2, .int .u8 (UInt8.toNat top5 : Int)), (7, .int .i64 x)]) 0) ⟨rfl, rfl, rfl, rfl, trivial⟩ ?_
        refine WJ.loop (X := Int) (fun N (x : Int) => s_l12Seen_l1 k11 rules1 under4 top5 N x = some r) (fun (x : Int) => [(0, v2), (1, .int .u8 (UInt8.toNat under4 : Int)), (2, .int .u8 (UInt8.toNat top5 : Int)), (7, .int .i64 x)]) (fun (x : Int) => []) ?_ N 0 hm
        · rintro N i13 hI
          have hm := hI; clear hI
          cases N with
          | zero => cases hm
          | succ N =>
          unfold s_l12Seen_l1 at hm
          refine WJ.seq ?_
          refine WJ.seq ?_
          refine WJ.quiet ?_
          refine QJ.step (YldS.yld (y_move rfl)) rfl ?_
          refine QJ.step (YldS.yld (y_move rfl)) rfl ?_
          refine QJ.step (YldS.yld (y_lenS Try.runUnderlying24 hr3 rfl)) rfl ?_
          refine QJ.step (YldS.yld (y_bin rfl rfl rfl)) rfl ?_
          refine QJ.done ?_
          refine PJ.next ?_
          refine WJ.cond (t := decide (i13 < (List.length rules1 : Int))) rfl (fun hb14 => ?_) (fun hb14 => ?_)
          · replace hm := ifT hm hb14
            refine WJ.skip ?_
            refine PJ.next ?_
            refine WJ.seq ?_
            refine WJ.block ?_
            refine WJ.seq ?_
            refine WJ.quiet ?_
            refine QJ.step (YldS.yld (y_move rfl)) rfl ?_
            refine QJ.step (YldS.yld (y_move rfl)) rfl ?_
            obtain ⟨e15, h16, hm⟩ := bindS hm
            obtain ⟨ad17, _, rfl, ha18, hy19⟩ := hr3.elem h16
            refine QJ.step (YldS.yld (hy19 Try.runUnderlying24 Try.sizeOf39 rfl rfl)) rfl ?_
            refine QJ.step (YldS.yld (y_fld (ad := ad17) fld39_0 rfl)) rfl ?_
            refine QJ.step (YldS.yld (y_load1 (v := str e15.under) Try.isAgg9 (ha18.sub 0 1) St.frozenC rfl)) rfl ?_
            obtain ⟨c20, h21, hm⟩ := bindS hm
            refine QJ.step (YldS.yld (y_idxStr Try.runUnderlying9 rfl rfl h21)) rfl ?_
            refine QJ.step (YldS.yld (y_move rfl)) rfl ?_
            refine QJ.step (YldS.yld (y_bin8 c20 under4 rfl rfl rfl)) rfl ?_
            refine QJ.step (YldS.yld (y_move rfl)) rfl ?_
            obtain ⟨t22, h23, hm⟩ := bindS hm
            refine QJ.cut 9 [(0, v2), (1, .int .u8 (UInt8.toNat under4 : Int)), (2, .int .u8 (UInt8.toNat top5 : Int)), (7, .int .i64 i13), (42, .bool t22)] ?_ ?_
            · rcases Bool.eq_false_or_eq_true (c20 == under4) with hb24 | hb24
              · replace h23 := andT h23 hb24
                refine QJ.on rfl rfl (cB hb24) (YldS.yld (y_move rfl)) rfl ?_
                refine QJ.on rfl rfl (cB hb24) (YldS.yld (y_move rfl)) rfl ?_
                obtain ⟨e25, h26, h23⟩ := bindS h23
                obtain ⟨ad27, _, rfl, ha28, hy29⟩ := hr3.elem h26
                refine QJ.on rfl rfl (cB hb24) (YldS.yld (hy29 Try.runUnderlying24 Try.sizeOf39 rfl rfl)) rfl ?_
                refine QJ.on rfl rfl (cB hb24) (YldS.yld (y_fld (ad := ad27) fld39_1 rfl)) rfl ?_
                refine QJ.on rfl rfl (cB hb24) (YldS.yld (y_load1 (v := str e25.top) Try.isAgg9 (ha28.sub 1 1) St.frozenC rfl)) rfl ?_
                obtain ⟨c30, h31, h23⟩ := bindS h23
                refine QJ.on rfl rfl (cB hb24) (YldS.yld (y_idxStr Try.runUnderlying9 rfl rfl h31)) rfl ?_
                refine QJ.on rfl rfl (cB hb24) (YldS.yld (y_move rfl)) rfl ?_
                refine QJ.on rfl rfl (cB hb24) (YldS.yld (y_bin8 c30 top5 rfl rfl rfl)) rfl ?_
                refine QJ.step (YldS.yld (y_pick_t (cB hb24) rfl)) rfl ?_
                obtain rfl := Option.some.inj h23
                exact QJ.cut_end ⟨rfl, rfl, rfl, rfl, rfl, trivial⟩
              · obtain rfl := andF h23 hb24
                refine QJ.off rfl rfl (cB hb24) rfl rfl ?_
                refine QJ.off rfl rfl (cB hb24) rfl rfl ?_
                refine QJ.off rfl rfl (cB hb24) rfl rfl ?_
                refine QJ.off rfl rfl (cB hb24) rfl rfl ?_
                refine QJ.off rfl rfl (cB hb24) rfl rfl ?_
                refine QJ.off rfl rfl (cB hb24) rfl rfl ?_
                refine QJ.off rfl rfl (cB hb24) rfl rfl ?_
                refine QJ.off rfl rfl (cB hb24) rfl rfl ?_
                refine QJ.step (YldS.yld (y_pick_f (cB hb24) rfl)) rfl ?_
                exact QJ.cut_end ⟨rfl, rfl, rfl, rfl, rfl, trivial⟩
            refine QJ.done ?_
            refine PJ.next ?_
            refine WJ.cond (t := t22) rfl (fun hb32 => ?_) (fun hb32 => ?_)
            · replace hm := ifT hm hb32
              refine WJ.seq ?_
              refine WJ.quiet ?_
              refine QJ.step (YldS.yld (y_move rfl)) rfl ?_
              refine QJ.step (YldS.yld (y_move rfl)) rfl ?_
              obtain ⟨e33, h34, hm⟩ := bindS hm
              obtain ⟨ad35, _, rfl, ha36, hy37⟩ := hr3.elem h34
              refine QJ.step (YldS.yld (hy37 Try.runUnderlying24 Try.sizeOf39 rfl rfl)) rfl ?_
              refine QJ.step (YldS.yld (y_fld (ad := ad35) fld39_2 rfl)) rfl ?_
              refine QJ.step (YldS.yld (y_load1 (v := str e33.seen) Try.isAgg9 (ha36.sub 2 1) St.frozenC rfl)) rfl ?_
              obtain ⟨c38, h39, hm⟩ := bindS hm
              refine QJ.step (YldS.yld (y_idxStr Try.runUnderlying9 rfl rfl h39)) rfl ?_
              refine QJ.step (YldS.yld (y_assign rfl)) rfl ?_
              refine QJ.done ?_
              refine PJ.next ?_
              refine WJ.ret ?_
              refine PJ.block_ret (PJ.then_ret (PJ.then_ret (PJ.block_ret (PJ.then_ret ?_))))
              obtain rfl := Option.some.inj hm
              refine PJ.sel (L' := []) [] ⟨List.nodup_nil, rfl⟩ ?_
              exact PJ.retn (vs := [.int .u8 (UInt8.toNat c38 : Int)]) Try.results102 ⟨rfl, trivial⟩ ⟨rfl, rfl⟩
            · replace hm := ifF hm hb32
              refine WJ.skip ?_
              refine PJ.block_normal (PJ.next ?_)
              refine WJ.quiet ?_
              refine QJ.step (YldS.yld (y_move rfl)) rfl ?_
              refine QJ.step (YldS.yld (y_bin rfl rfl rfl)) rfl ?_
              refine QJ.step (YldS.yld (y_assign rfl)) rfl ?_
              refine QJ.done ?_
              exact PJ.round (w64 (i13 + 1)) [] hm ⟨rfl, rfl, rfl, rfl, trivial⟩ ⟨List.nodup_nil, rfl⟩
          · replace hm := ifF hm hb14
            refine WJ.exit ?_
            refine PJ.then_exit (PJ.then_exit (PJ.block_exit ?_))
            exact PJ.joined () [] hm trivial ⟨List.nodup_nil, rfl⟩
      · rintro _ hm
        subst hk12
        refine WJ.seq ?_
        refine WJ.quiet ?_
        refine QJ.step (YldS.yld (y_assign rfl)) rfl ?_
        refine QJ.done ?_
        refine PJ.next ?_
        refine WJ.ret ?_
        obtain rfl := Option.some.inj hm
        refine PJ.sel (L' := []) [] ⟨List.nodup_nil, rfl⟩ ?_
        exact PJ.retn (vs := [.int .u8 (UInt8.toNat 0 : Int)]) Try.results102 ⟨rfl, trivial⟩ ⟨rfl, rfl⟩

set_option maxRecDepth 100000 in
set_option maxHeartbeats 1000000 in
theorem ok_s_ApplyPlan {N : Nat} {rules1 : List Over} {typed4 : Str} {plan5 : Str} {letters6 : Str} {r : Str × Int} (hm : s_ApplyPlan N rules1 typed4 plan5 letters6 = some r) (w : World) (v2 : Value) (hr3 : RdS w (cx w).Fz v2 fOver.rp rules1) :
    Calls Try.prog 18 #[v2, str typed4, str plan5, str letters6] w (Ret (cx w) (tup [str r.1, .int .i64 r.2])) := by
  unfold s_ApplyPlan at hm
  refine Calls.enter [v2, str typed4, str plan5, str letters6] Try.func18 rfl Try.ntmps18 rfl ?_
  refine WJ.seq ?_
  refine WJ.quiet ?_
  refine QJ.step (YldS.yld (y_assign rfl)) rfl ?_
  refine QJ.step (YldS.yld (y_assign rfl)) rfl ?_
  refine QJ.done ?_
  refine PJ.next ?_
  refine WJ.seq ?_
  refine WJ.quiet ?_
  refine QJ.step (YldS.yld (y_move rfl)) rfl ?_
  refine QJ.step (YldS.yld (y_move rfl)) rfl ?_
  refine QJ.step (YldS.yld (y_move rfl)) rfl ?_
  obtain ⟨r7, h8, hm⟩ := bindS hm
  refine QJ.step (y_call Try.call91 rfl (RetG.quiet fun w hw => ok_s_l12Code h8 w _ (hr3.st hw))) rfl ?_
  refine QJ.step (YldS.yld (y_assign rfl)) rfl ?_
  refine QJ.done ?_
  refine PJ.next ?_
  obtain ⟨k10, hk11, hm⟩ := withK_open hm
  refine WJ.join (X := Int) (fun (x : Int) => k10 x = some r) (fun (x : Int) => [(0, v2), (1, str typed4), (2, str plan5), (3, str letters6), (10, .int .i64 x)]) (fun (x : Int) => []) ?_ ?_
  · clear hk11
    refine WJ.seq ?_
    refine WJ.quiet ?_
    refine QJ.step (YldS.yld (y_move rfl)) rfl ?_
    refine QJ.step (YldS.yld (y_bin rfl rfl rfl)) rfl ?_
    refine QJ.step (YldS.yld (y_move rfl)) rfl ?_
    obtain ⟨t12, h13, hm⟩ := bindS hm
    refine QJ.cut 4 [(0, v2), (1, str typed4), (2, str plan5), (3, str letters6), (10, .int .i64 r7), (24, .bool t12)] ?_ ?_
    · rcases Bool.eq_false_or_eq_true (r7 == 0) with hb14 | hb14
      · replace h13 := andT h13 hb14
        refine QJ.on rfl rfl (cB hb14) (YldS.yld (y_move rfl)) rfl ?_
        obtain ⟨r15, h16, h13⟩ := bindS h13
        refine QJ.on rfl rfl (cB hb14) (y_call Try.call101 rfl (RetG.quiet fun w hw => ok_s_l12IsPlan h16 w )) rfl ?_
        refine QJ.on rfl rfl (cB hb14) (YldS.yld (y_not rfl)) rfl ?_
        refine QJ.step (YldS.yld (y_pick_t (cB hb14) rfl)) rfl ?_
        obtain rfl := Option.some.inj h13
        exact QJ.cut_end ⟨rfl, rfl, rfl, rfl, rfl, rfl, trivial⟩
      · obtain rfl := andF h13 hb14
        refine QJ.off rfl rfl (cB hb14) rfl rfl ?_
        refine QJ.off rfl rfl (cB hb14) rfl rfl ?_
        refine QJ.off rfl rfl (cB hb14) rfl rfl ?_
        refine QJ.step (YldS.yld (y_pick_f (cB hb14) rfl)) rfl ?_
        exact QJ.cut_end ⟨rfl, rfl, rfl, rfl, rfl, rfl, trivial⟩
    refine QJ.done ?_
    refine PJ.next ?_
    refine WJ.cond (t := t12) rfl (fun hb17 => ?_) (fun hb17 => ?_)
    · replace hm := ifT hm hb17
      refine WJ.quiet ?_
      refine QJ.step (YldS.yld (y_assign rfl)) rfl ?_
      refine QJ.done ?_
      exact PJ.joined 7 [] hm ⟨rfl, rfl, rfl, rfl, rfl, trivial⟩ ⟨List.nodup_nil, rfl⟩
    · replace hm := ifF hm hb17
      refine WJ.skip ?_
      exact PJ.joined r7 [] hm ⟨rfl, rfl, rfl, rfl, rfl, trivial⟩ ⟨List.nodup_nil, rfl⟩
  · rintro code9 hm
    subst hk11
    obtain ⟨k19, hk20, hm⟩ := withK_open hm
    refine WJ.join (X := Int) (fun (x : Int) => k19 x = some r) (fun (x : Int) => [(0, v2), (1, str typed4), (2, str plan5), (3, str letters6), (10, .int .i64 x)]) (fun (x : Int) => []) ?_ ?_
    · clear hk20
      refine WJ.seq ?_
      refine WJ.quiet ?_
      refine QJ.step (YldS.yld (y_move rfl)) rfl ?_
      refine QJ.step (YldS.yld (y_bin rfl rfl rfl)) rfl ?_
      refine QJ.step (YldS.yld (y_move rfl)) rfl ?_
      obtain ⟨t21, h22, hm⟩ := bindS hm
      refine QJ.cut 6 [(0, v2), (1, str typed4), (2, str plan5), (3, str letters6), (10, .int .i64 code9), (33, .bool t21)] ?_ ?_
      · rcases Bool.eq_false_or_eq_true (code9 == 0) with hb23 | hb23
        · replace h22 := andT h22 hb23
          refine QJ.on rfl rfl (cB hb23) (YldS.yld (y_move rfl)) rfl ?_
          refine QJ.on rfl rfl (cB hb23) (YldS.yld (y_lenStr Try.runUnderlying9 rfl)) rfl ?_
          refine QJ.on rfl rfl (cB hb23) (YldS.yld (y_move rfl)) rfl ?_
          refine QJ.on rfl rfl (cB hb23) (YldS.yld (y_lenStr Try.runUnderlying9 rfl)) rfl ?_
          refine QJ.on rfl rfl (cB hb23) (YldS.yld (y_bin rfl rfl rfl)) rfl ?_
          refine QJ.step (YldS.yld (y_pick_t (cB hb23) rfl)) rfl ?_
          obtain rfl := Option.some.inj h22
          exact QJ.cut_end ⟨rfl, rfl, rfl, rfl, rfl, rfl, trivial⟩
        · obtain rfl := andF h22 hb23
          refine QJ.off rfl rfl (cB hb23) rfl rfl ?_
          refine QJ.off rfl rfl (cB hb23) rfl rfl ?_
          refine QJ.off rfl rfl (cB hb23) rfl rfl ?_
          refine QJ.off rfl rfl (cB hb23) rfl rfl ?_
          refine QJ.off rfl rfl (cB hb23) rfl rfl ?_
          refine QJ.step (YldS.yld (y_pick_f (cB hb23) rfl)) rfl ?_
          exact QJ.cut_end ⟨rfl, rfl, rfl, rfl, rfl, rfl, trivial⟩
      refine QJ.done ?_
      refine PJ.next ?_
      refine WJ.cond (t := t21) rfl (fun hb24 => ?_) (fun hb24 => ?_)
      · replace hm := ifT hm hb24
        refine WJ.quiet ?_
        refine QJ.step (YldS.yld (y_assign rfl)) rfl ?_
        refine QJ.done ?_
        exact PJ.joined 6 [] hm ⟨rfl, rfl, rfl, rfl, rfl, trivial⟩ ⟨List.nodup_nil, rfl⟩
      · replace hm := ifF hm hb24
        refine WJ.skip ?_
        exact PJ.joined code9 [] hm ⟨rfl, rfl, rfl, rfl, rfl, trivial⟩ ⟨List.nodup_nil, rfl⟩
    · rintro code18 hm
      subst hk20
      refine WJ.seq ?_
      refine WJ.seq ?_
      refine WJ.quiet ?_
      refine QJ.step (YldS.yld (y_move rfl)) rfl ?_
      refine QJ.step (YldS.yld (y_bin rfl rfl rfl)) rfl ?_
      refine QJ.done ?_
      refine PJ.next ?_
      refine WJ.cond (t := (code18 != 0)) rfl (fun hb25 => ?_) (fun hb25 => ?_)
      · replace hm := ifT hm hb25
        refine WJ.seq ?_
        refine WJ.quiet ?_
        refine QJ.step (YldS.yld (y_move rfl)) rfl ?_
        refine QJ.step (YldS.yld (y_assign rfl)) rfl ?_
        refine QJ.step (YldS.yld (y_assign rfl)) rfl ?_
        refine QJ.done ?_
        refine PJ.next ?_
        refine WJ.ret ?_
        refine PJ.then_ret ?_
        obtain rfl := Option.some.inj hm
        refine PJ.sel (L' := []) [] ⟨List.nodup_nil, rfl⟩ ?_
        exact PJ.retn (vs := [str [], .int .i64 code18]) Try.results18 ⟨rfl, rfl, trivial⟩ ⟨rfl, rfl⟩
      · replace hm := ifF hm hb25
        refine WJ.skip ?_
        refine PJ.next ?_
        refine WJ.seq ?_
        refine WJ.reg ?_
        refine SJ.buildSlice (R := fByte) (os := []) [] Try.runUnderlying22 Try.sizeOf5 Try.zeroValue5 rfl rfl rfl rfl rfl rfl fun v26 => ?_
        refine SJ.q (YldS.yld (y_assign rfl)) rfl ?_
        refine SJ.nil ?_
        refine PJ.next ?_
        obtain ⟨k29, hk30, hm⟩ := withK_open hm
        refine WJ.join (X := (List UInt8) × Value) (fun (x : (List UInt8) × Value) => k29 x.1 = some r) (fun (x : (List UInt8) × Value) => [(11, x.2)]) (fun (x : (List UInt8) × Value) => [row x.2 5 fByte x.1]) ?_ ?_
        · clear hk30
          refine WJ.seq ?_
          refine WJ.quiet ?_
          refine QJ.step (YldS.yld (y_assign rfl)) rfl ?_
          refine QJ.done ?_
          refine PJ.next ?_
          refine WJ.block ?_
          refine WJ.sel (L' := (fun (x : (List UInt8) × Value × Int) => [row x.2.1 5 fByte x.1]) ([], v26, 0)) [0] ⟨by decide, rfl⟩ ?_
          refine WJ.sub (m' := (fun (x : (List UInt8) × Value × Int) => [(0, v2), (1, str typed4), (2, str plan5), (3, str letters6), (11, x.2.1), (12, .int .i64 x.2.2)]) ([], v26, 0)) ⟨rfl, rfl, rfl, rfl, rfl, rfl, trivial⟩ ?_
          refine WJ.loop (X := (List UInt8) × Value × Int) (fun N (x : (List UInt8) × Value × Int) => s_ApplyPlan_l1 k29 rules1 typed4 plan5 letters6 N x.1 x.2.2 = some r) (fun (x : (List UInt8) × Value × Int) => [(0, v2), (1, str typed4), (2, str plan5), (3, str letters6), (11, x.2.1), (12, .int .i64 x.2.2)]) (fun (x : (List UInt8) × Value × Int) => [row x.2.1 5 fByte x.1]) ?_ N ([], v26, 0) hm
          · rintro N ⟨l31, v32, i33⟩ hI
            have hm := hI; clear hI
            cases N with
            | zero => cases hm
            | succ N =>
            unfold s_ApplyPlan_l1 at hm
            refine WJ.seq ?_
            refine WJ.seq ?_
            refine WJ.quiet ?_
            refine QJ.step (YldS.yld (y_move rfl)) rfl ?_
            refine QJ.step (YldS.yld (y_move rfl)) rfl ?_
            refine QJ.step (YldS.yld (y_lenStr Try.runUnderlying9 rfl)) rfl ?_
            refine QJ.step (YldS.yld (y_bin rfl rfl rfl)) rfl ?_
            refine QJ.done ?_
            refine PJ.next ?_
            refine WJ.cond (t := decide (i33 < (List.length plan5 : Int))) rfl (fun hb34 => ?_) (fun hb34 => ?_)
            · replace hm := ifT hm hb34
              refine WJ.skip ?_
              refine PJ.next ?_
              refine WJ.seq ?_
              refine WJ.block ?_
              refine WJ.seq ?_
              refine WJ.quiet ?_
              refine QJ.step (YldS.yld (y_move rfl)) rfl ?_
              refine QJ.step (YldS.yld (y_move rfl)) rfl ?_
              obtain ⟨c35, h36, hm⟩ := bindS hm
              refine QJ.step (YldS.yld (y_idxStr Try.runUnderlying9 rfl rfl h36)) rfl ?_
              refine QJ.step (YldS.yld (y_assign rfl)) rfl ?_
              refine QJ.done ?_
              refine PJ.next ?_
              obtain ⟨k39, hk39, hm⟩ := withK_open hm
              refine WJ.join (X := UInt8) (fun (x : UInt8) => k39 x = some r) (fun (x : UInt8) => [(0, v2), (1, str typed4), (2, str plan5), (3, str letters6), (11, v32), (12, .int .i64 i33), (13, .int .u8 (UInt8.toNat x : Int))]) (fun (x : UInt8) => [row v32 5 fByte l31]) ?_ ?_
              · clear hk39
                refine WJ.seq ?_
                refine WJ.quiet ?_
                refine QJ.step (YldS.yld (y_move rfl)) rfl ?_
                refine QJ.step (YldS.yld (y_move rfl)) rfl ?_
                obtain ⟨c40, h41, hm⟩ := bindS hm
                refine QJ.step (YldS.yld (y_idxStr Try.runUnderlying9 rfl rfl h41)) rfl ?_
                refine QJ.done ?_
                refine PJ.next ?_
                refine WJ.block ?_
                refine WJ.seq ?_
                refine WJ.quiet ?_
                refine QJ.step (YldS.yld (y_bin8 c40 (35 : UInt8) rfl rfl rfl)) rfl ?_
                refine QJ.step (YldS.yld (y_assign rfl)) rfl ?_
                refine QJ.done ?_
                refine PJ.next ?_
                refine WJ.cond (t := (c40 == (35 : UInt8))) rfl (fun hb42 => ?_) (fun hb42 => ?_)
                · replace hm := ifT hm hb42
                  refine WJ.quiet ?_
                  refine QJ.step (YldS.yld (y_move rfl)) rfl ?_
                  refine QJ.step (YldS.yld (y_move rfl)) rfl ?_
                  obtain ⟨c43, h44, hm⟩ := bindS hm
                  refine QJ.step (YldS.yld (y_idxStr Try.runUnderlying9 rfl rfl h44)) rfl ?_
                  refine QJ.step (YldS.yld (y_assign rfl)) rfl ?_
                  refine QJ.done ?_
                  refine PJ.block_normal ?_
                  exact PJ.joined c43 [0] hm ⟨rfl, rfl, rfl, rfl, rfl, rfl, rfl, trivial⟩ ⟨by decide, rfl⟩
                · replace hm := ifF hm hb42
                  refine WJ.seq ?_
                  refine WJ.quiet ?_
                  refine QJ.step (YldS.yld (y_bin8 c40 (43 : UInt8) rfl rfl rfl)) rfl ?_
                  refine QJ.step (YldS.yld (y_assign rfl)) rfl ?_
                  refine QJ.done ?_
                  refine PJ.next ?_
                  refine WJ.cond (t := (c40 == (43 : UInt8))) rfl (fun hb45 => ?_) (fun hb45 => ?_)
                  · replace hm := ifT hm hb45
                    refine WJ.quiet_draw follows (by kernel_rfl) ?_
                    refine QJ.step (YldS.yld (y_move rfl)) rfl ?_
                    refine QJ.step (YldS.yld (y_move rfl)) rfl ?_
                    refine QJ.step (YldS.yld (y_move rfl)) rfl ?_
                    obtain ⟨c46, h47, hm⟩ := bindS hm
                    refine QJ.step (YldS.yld (y_idxStr Try.runUnderlying9 rfl rfl h47)) rfl ?_
                    refine QJ.step (YldS.yld (y_move rfl)) rfl ?_
                    refine QJ.step (YldS.yld (y_move rfl)) rfl ?_
                    obtain ⟨c48, h49, hm⟩ := bindS hm
                    refine QJ.step (YldS.yld (y_idxStr Try.runUnderlying9 rfl rfl h49)) rfl ?_
                    obtain ⟨r50, h51, hm⟩ := bindS hm
                    refine QJ.step (y_call Try.call102 rfl (RetG.quiet fun w hw => ok_s_l12Seen h51 w _ (hr3.st hw))) rfl ?_
                    refine QJ.step (YldS.yld (y_assign rfl)) rfl ?_
                    refine QJ.done ?_
                    refine PJ.block_normal ?_
                    exact PJ.joined r50 [0] hm ⟨rfl, rfl, rfl, rfl, rfl, rfl, rfl, trivial⟩ ⟨by decide, rfl⟩
                  · replace hm := ifF hm hb45
                    refine WJ.skip ?_
                    refine PJ.block_normal ?_
                    exact PJ.joined c35 [0] hm ⟨rfl, rfl, rfl, rfl, rfl, rfl, rfl, trivial⟩ ⟨by decide, rfl⟩
              · rintro c37 hm
                subst hk39
                refine WJ.seq ?_
                refine WJ.seq ?_
                refine WJ.quiet ?_
                refine QJ.step (YldS.yld (y_move rfl)) rfl ?_
                refine QJ.step (YldS.yld (y_bin8 c37 (0 : UInt8) rfl rfl rfl)) rfl ?_
                refine QJ.done ?_
                refine PJ.next ?_
                refine WJ.cond (t := (c37 == (0 : UInt8))) rfl (fun hb52 => ?_) (fun hb52 => ?_)
                · replace hm := ifT hm hb52
                  refine WJ.seq ?_
                  refine WJ.quiet ?_
                  refine QJ.step (YldS.yld (y_assign rfl)) rfl ?_
                  refine QJ.step (YldS.yld (y_assign rfl)) rfl ?_
                  refine QJ.done ?_
                  refine PJ.next ?_
                  refine WJ.ret ?_
                  refine PJ.then_ret (PJ.block_ret (PJ.then_ret (PJ.then_ret (PJ.block_ret (PJ.then_ret ?_)))))
                  obtain rfl := Option.some.inj hm
                  refine PJ.sel (L' := []) [] ⟨List.nodup_nil, rfl⟩ ?_
                  exact PJ.retn (vs := [str [], .int .i64 3]) Try.results18 ⟨rfl, rfl, trivial⟩ ⟨rfl, rfl⟩
                · replace hm := ifF hm hb52
                  refine WJ.skip ?_
                  refine PJ.next ?_
                  refine WJ.reg ?_
                  refine SJ.q (YldS.yld (y_move rfl)) rfl ?_
                  refine SJ.q (YldS.yld (y_move rfl)) rfl ?_
                  refine SJ.buildSlice (R := fByte) (os := [.tmp 68]) [c37] Try.runUnderlying22 Try.sizeOf5 Try.zeroValue5 rfl rfl rfl rfl rfl rfl fun v53 => ?_
                  obtain ⟨l54, h55, hm⟩ := bindS hm
                  refine SJ.append (k := 1) (R := fByte) h55 rfl Try.underlying22 el5 rfl rfl rfl (fun w hw => (hw.row_rd (k := 0) rfl)) rfl fun v56 => ?_
                  refine SJ.q (YldS.yld (y_assign rfl)) rfl ?_
                  refine SJ.nil ?_
                  refine PJ.block_normal (PJ.next ?_)
                  refine WJ.quiet ?_
                  refine QJ.step (YldS.yld (y_move rfl)) rfl ?_
                  refine QJ.step (YldS.yld (y_bin rfl rfl rfl)) rfl ?_
                  refine QJ.step (YldS.yld (y_assign rfl)) rfl ?_
                  refine QJ.done ?_
                  exact PJ.round (l54, v56, w64 (i33 + 1)) [1] hm ⟨rfl, rfl, rfl, rfl, rfl, rfl, trivial⟩ ⟨by decide, rfl⟩
            · replace hm := ifF hm hb34
              refine WJ.exit ?_
              refine PJ.then_exit (PJ.then_exit (PJ.block_exit ?_))
              exact PJ.joined (l31, v32) [0] hm ⟨rfl, trivial⟩ ⟨by decide, rfl⟩
        · rintro ⟨l27, v28⟩ hm
          subst hk30
          refine WJ.seq ?_
          refine WJ.quiet ?_
          refine QJ.step (YldS.yld (y_move rfl)) rfl ?_
          refine QJ.step (YldS.yld (y_b2s Try.underlying22 Try.underlying9 Try.underlying5 (fun w hw => ⟨_, (hw.row_rd (k := 0) rfl)⟩) rfl)) rfl ?_
          refine QJ.step (YldS.yld (y_assign rfl)) rfl ?_
          refine QJ.step (YldS.yld (y_assign rfl)) rfl ?_
          refine QJ.done ?_
          refine PJ.next ?_
          refine WJ.ret ?_
          obtain rfl := Option.some.inj hm
          refine PJ.sel (L' := []) [] ⟨List.nodup_nil, rfl⟩ ?_
          exact PJ.retn (vs := [str l27, .int .i64 0]) Try.results18 ⟨rfl, rfl, trivial⟩ ⟨rfl, rfl⟩

set_option maxRecDepth 100000 in
set_option maxHeartbeats 1000000 in
theorem ok_s_DrawErasedIn {N : Nat} {code1 : List UInt8} {r : Str} (hm : s_DrawErasedIn N code1 = some r) (w : World) (v2 : Value) (hr3 : RdS w (cx w).Fz v2 fByte.rp code1) :
    Calls Try.prog 19 #[v2] w (Ret (cx w) (str r)) := by
  unfold s_DrawErasedIn at hm
  refine Calls.enter [v2] Try.func19 rfl Try.ntmps19 rfl ?_
  refine WJ.seq ?_
  refine WJ.quiet ?_
  refine QJ.step (YldS.yld (y_assign rfl)) rfl ?_
  refine QJ.done ?_
  refine PJ.next ?_
  refine WJ.seq ?_
  refine WJ.reg ?_
  refine SJ.q (YldS.yld (y_move rfl)) rfl ?_
  obtain ⟨r4, h5, hm⟩ := bindS hm
  refine SJ.call Try.call95 rfl (fun w hw => ok_s_l00From h5 w _ (hr3.st hw)) rfl ?_
  rintro _ _ ⟨g6, rfl, rfl⟩
  obtain ⟨r7, h8, hm⟩ := bindS hm
  refine SJ.call1 (k := 0) rfl Try.call96 rfl (fun w S hw hA hO => ok_s_l12DrawPlan h8 w S _ (hr3.st1 hw hO) hA) rfl ?_
  rintro _ _ ⟨rfl, rfl⟩
  refine SJ.q (YldS.yld (y_assign rfl)) rfl ?_
  refine SJ.nil ?_
  refine PJ.next ?_
  refine WJ.ret ?_
  obtain rfl := Option.some.inj hm
  refine PJ.sel (L' := []) [] ⟨List.nodup_nil, rfl⟩ ?_
  exact PJ.retn (vs := [str r7.1]) Try.results19 ⟨rfl, trivial⟩ ⟨rfl, rfl⟩

set_option maxRecDepth 100000 in
set_option maxHeartbeats 1000000 in
theorem ok_i_ErasedIn {N : Nat} {plan1 : Str} {r : Int × Int} (hm : i_ErasedIn N plan1 = some r) (w : World)  :
    Calls Try.prog 20 #[str plan1] w (Ret (cx w) (tup [.int .i64 r.1, .int .i64 r.2])) := by
  unfold i_ErasedIn at hm
  refine Calls.enter [str plan1] Try.func20 rfl Try.ntmps20 rfl ?_
  refine WJ.seq ?_
  refine WJ.quiet ?_
  refine QJ.step (YldS.yld (y_assign rfl)) rfl ?_
  refine QJ.step (YldS.yld (y_assign rfl)) rfl ?_
  refine QJ.done ?_
  refine PJ.next ?_
  refine WJ.seq ?_
  refine WJ.seq ?_
  refine WJ.quiet ?_
  refine QJ.step (YldS.yld (y_move rfl)) rfl ?_
  obtain ⟨r2, h3, hm⟩ := bindS hm
  refine QJ.step (y_call Try.call99 rfl (RetG.quiet fun w hw => ok_i_isPlan h3 w )) rfl ?_
  refine QJ.step (YldS.yld (y_not rfl)) rfl ?_
  refine QJ.done ?_
  refine PJ.next ?_
  refine WJ.cond (t := !r2) rfl (fun hb4 => ?_) (fun hb4 => ?_)
  · replace hm := ifT hm hb4
    refine WJ.seq ?_
    refine WJ.quiet ?_
    refine QJ.step (YldS.yld (y_assign rfl)) rfl ?_
    refine QJ.step (YldS.yld (y_assign rfl)) rfl ?_
    refine QJ.done ?_
    refine PJ.next ?_
    refine WJ.ret ?_
    refine PJ.then_ret ?_
    obtain rfl := Option.some.inj hm
    refine PJ.sel (L' := []) [] ⟨List.nodup_nil, rfl⟩ ?_
    exact PJ.retn (vs := [.int .i64 0, .int .i64 7]) Try.results20 ⟨rfl, rfl, trivial⟩ ⟨rfl, rfl⟩
  · replace hm := ifF hm hb4
    refine WJ.skip ?_
    refine PJ.next ?_
    refine WJ.seq ?_
    refine WJ.quiet ?_
    refine QJ.step (YldS.yld (y_move rfl)) rfl ?_
    obtain ⟨r5, h6, hm⟩ := bindS hm
    refine QJ.step (y_call Try.call93 rfl (RetG.quiet fun w hw => ok_i_erased h6 w )) rfl ?_
    refine QJ.step (YldS.yld (y_assign rfl)) rfl ?_
    refine QJ.step (YldS.yld (y_assign rfl)) rfl ?_
    refine QJ.done ?_
    refine PJ.next ?_
    refine WJ.ret ?_
    obtain rfl := Option.some.inj hm
    refine PJ.sel (L' := []) [] ⟨List.nodup_nil, rfl⟩ ?_
    exact PJ.retn (vs := [.int .i64 r5, .int .i64 0]) Try.results20 ⟨rfl, rfl, trivial⟩ ⟨rfl, rfl⟩

set_option maxRecDepth 100000 in
set_option maxHeartbeats 1000000 in
theorem ok_s_ErasedIn {N : Nat} {plan1 : Str} {r : Int × Int} (hm : s_ErasedIn N plan1 = some r) (w : World)  :
    Calls Try.prog 21 #[str plan1] w (Ret (cx w) (tup [.int .i64 r.1, .int .i64 r.2])) := by
  unfold s_ErasedIn at hm
  refine Calls.enter [str plan1] Try.func21 rfl Try.ntmps21 rfl ?_
  refine WJ.seq ?_
  refine WJ.quiet ?_
  refine QJ.step (YldS.yld (y_assign rfl)) rfl ?_
  refine QJ.step (YldS.yld (y_assign rfl)) rfl ?_
  refine QJ.done ?_
  refine PJ.next ?_
  refine WJ.seq ?_
  refine WJ.seq ?_
  refine WJ.quiet ?_
  refine QJ.step (YldS.yld (y_move rfl)) rfl ?_
  obtain ⟨r2, h3, hm⟩ := bindS hm
  refine QJ.step (y_call Try.call101 rfl (RetG.quiet fun w hw => ok_s_l12IsPlan h3 w )) rfl ?_
  refine QJ.step (YldS.yld (y_not rfl)) rfl ?_
  refine QJ.done ?_
  refine PJ.next ?_
  refine WJ.cond (t := !r2) rfl (fun hb4 => ?_) (fun hb4 => ?_)
  · replace hm := ifT hm hb4
    refine WJ.seq ?_
    refine WJ.quiet ?_
    refine QJ.step (YldS.yld (y_assign rfl)) rfl ?_
    refine QJ.step (YldS.yld (y_assign rfl)) rfl ?_
    refine QJ.done ?_
    refine PJ.next ?_
    refine WJ.ret ?_
    refine PJ.then_ret ?_
    obtain rfl := Option.some.inj hm
    refine PJ.sel (L' := []) [] ⟨List.nodup_nil, rfl⟩ ?_
    exact PJ.retn (vs := [.int .i64 0, .int .i64 7]) Try.results21 ⟨rfl, rfl, trivial⟩ ⟨rfl, rfl⟩
  · replace hm := ifF hm hb4
    refine WJ.skip ?_
    refine PJ.next ?_
    refine WJ.seq ?_
    refine WJ.quiet ?_
    refine QJ.step (YldS.yld (y_move rfl)) rfl ?_
    obtain ⟨r5, h6, hm⟩ := bindS hm
    refine QJ.step (y_call Try.call94 rfl (RetG.quiet fun w hw => ok_s_l12Erased h6 w )) rfl ?_
    refine QJ.step (YldS.yld (y_assign rfl)) rfl ?_
    refine QJ.step (YldS.yld (y_assign rfl)) rfl ?_
    refine QJ.done ?_
    refine PJ.next ?_
    refine WJ.ret ?_
    obtain rfl := Option.some.inj hm
    refine PJ.sel (L' := []) [] ⟨List.nodup_nil, rfl⟩ ?_
    exact PJ.retn (vs := [.int .i64 r5, .int .i64 0]) Try.results21 ⟨rfl, rfl, trivial⟩ ⟨rfl, rfl⟩

set_option maxRecDepth 100000 in
set_option maxHeartbeats 1000000 in
theorem ok_s_ValidOvers {N : Nat} {rules1 : List Over} {r : Bool} (hm : s_ValidOvers N rules1 = some r) (w : World) (v2 : Value) (hr3 : RdS w (cx w).Fz v2 fOver.rp rules1) :
    Calls Try.prog 23 #[v2] w (Ret (cx w) (.bool r)) := by
  unfold s_ValidOvers at hm
  refine Calls.enter [v2] Try.func23 rfl Try.ntmps23 rfl ?_
  refine WJ.seq ?_
  refine WJ.quiet ?_
  refine QJ.step (YldS.yld (y_assign rfl)) rfl ?_
  refine QJ.done ?_
  refine PJ.next ?_
  refine WJ.seq ?_
  refine WJ.quiet ?_
  refine QJ.step (YldS.yld (y_move rfl)) rfl ?_
  obtain ⟨r4, h5, hm⟩ := bindS hm
  refine QJ.step (y_call Try.call104 rfl (RetG.quiet fun w hw => ok_s_l12Ok h5 w _ (hr3.st hw))) rfl ?_
  refine QJ.step (YldS.yld (y_assign rfl)) rfl ?_
  refine QJ.done ?_
  refine PJ.next ?_
  refine WJ.ret ?_
  obtain rfl := Option.some.inj hm
  refine PJ.sel (L' := []) [] ⟨List.nodup_nil, rfl⟩ ?_
  exact PJ.retn (vs := [.bool r4]) Try.results23 ⟨rfl, trivial⟩ ⟨rfl, rfl⟩

set_option maxRecDepth 100000 in
set_option maxHeartbeats 1000000 in
theorem ok_w_FnCorrected {N : Nat} {code1 : List UInt8} {r : Bool} (hm : w_FnCorrected N code1 = some r) (w : World) (v2 : Value) (hr3 : RdS w (cx w).Fz v2 fByte.rp code1) :
    Calls Try.prog 3 #[v2] w (Ret (cx w) (.bool r)) := by
  unfold w_FnCorrected at hm
  refine Calls.enter [v2] Try.func3 rfl Try.ntmps3 rfl ?_
  refine WJ.seq ?_
  refine WJ.quiet ?_
  refine QJ.step (YldS.yld (y_assign rfl)) rfl ?_
  refine QJ.done ?_
  refine PJ.next ?_
  refine WJ.seq ?_
  refine WJ.seq ?_
  refine WJ.quiet ?_
  refine QJ.step (YldS.yld (y_move rfl)) rfl ?_
  obtain ⟨r4, h5, hm⟩ := bindS hm
  refine QJ.step (y_call Try.call10 rfl (RetG.quiet fun w hw => ok_w_f6big h5 w _ (hr3.st hw))) rfl ?_
  refine QJ.done ?_
  refine PJ.next ?_
  refine WJ.cond (t := r4) rfl (fun hb6 => ?_) (fun hb6 => ?_)
  · replace hm := ifT hm hb6
    refine WJ.seq ?_
    refine WJ.quiet ?_
    refine QJ.step (YldS.yld (y_assign rfl)) rfl ?_
    refine QJ.done ?_
    refine PJ.next ?_
    refine WJ.ret ?_
    refine PJ.then_ret ?_
    obtain rfl := Option.some.inj hm
    refine PJ.sel (L' := []) [] ⟨List.nodup_nil, rfl⟩ ?_
    exact PJ.retn (vs := [.bool true]) Try.results3 ⟨rfl, trivial⟩ ⟨rfl, rfl⟩
  · replace hm := ifF hm hb6
    refine WJ.skip ?_
    refine PJ.next ?_
    refine WJ.seq ?_
    refine WJ.reg ?_
    refine SJ.q (YldS.yld (y_move rfl)) rfl ?_
    obtain ⟨r7, h8, hm⟩ := bindS hm
    refine SJ.call Try.call11 rfl (fun w hw => ok_s_DrawCorrectionPlan h8 w _ (hr3.st hw)) rfl ?_
    rintro _ _ ⟨v9, rfl, rfl⟩
    refine SJ.q (YldS.yld (y_move rfl)) rfl ?_
    refine SJ.q (YldS.yld (y_extract rfl rfl)) rfl ?_
    refine SJ.q (YldS.yld (y_extract rfl rfl)) rfl ?_
    refine SJ.q (YldS.yld (y_extract rfl rfl)) rfl ?_
    refine SJ.q (YldS.yld (y_assign rfl)) rfl ?_
    refine SJ.q (YldS.yld (y_assign rfl)) rfl ?_
    refine SJ.q (YldS.yld (y_assign rfl)) rfl ?_
    refine SJ.nil ?_
    refine PJ.next ?_
    refine WJ.seq ?_
    refine WJ.quiet ?_
    refine QJ.step (YldS.yld (y_move rfl)) rfl ?_
    refine QJ.step (YldS.yld (y_move rfl)) rfl ?_
    refine QJ.step (YldS.yld (y_move rfl)) rfl ?_
    obtain ⟨r10, h11, hm⟩ := bindS hm
    refine QJ.step (y_call Try.call12 rfl (RetG.quiet fun w hw => ok_i_CorrectionPlan h11 w _ (hw.row_rd (k := 0) rfl))) rfl ?_
    refine QJ.step (YldS.yld (y_move rfl)) rfl ?_
    refine QJ.step (YldS.yld (y_extract rfl rfl)) rfl ?_
    refine QJ.step (YldS.yld (y_extract rfl rfl)) rfl ?_
    refine QJ.step (YldS.yld (y_extract rfl rfl)) rfl ?_
    refine QJ.step (YldS.yld (y_assign rfl)) rfl ?_
    refine QJ.step (YldS.yld (y_assign rfl)) rfl ?_
    refine QJ.step (YldS.yld (y_assign rfl)) rfl ?_
    refine QJ.done ?_
    refine PJ.next ?_
    refine WJ.seq ?_
    refine WJ.quiet ?_
    refine QJ.step (YldS.yld (y_move rfl)) rfl ?_
    refine QJ.step (YldS.yld (y_move rfl)) rfl ?_
    refine QJ.step (YldS.yld (y_move rfl)) rfl ?_
    obtain ⟨r12, h13, hm⟩ := bindS hm
    refine QJ.step (y_call Try.call13 rfl (RetG.quiet fun w hw => ok_s_CorrectionPlan h13 w _ (hw.row_rd (k := 0) rfl))) rfl ?_
    refine QJ.step (YldS.yld (y_move rfl)) rfl ?_
    refine QJ.step (YldS.yld (y_extract rfl rfl)) rfl ?_
    refine QJ.step (YldS.yld (y_extract rfl rfl)) rfl ?_
    refine QJ.step (YldS.yld (y_extract rfl rfl)) rfl ?_
    refine QJ.step (YldS.yld (y_assign rfl)) rfl ?_
    refine QJ.step (YldS.yld (y_assign rfl)) rfl ?_
    refine QJ.step (YldS.yld (y_assign rfl)) rfl ?_
    refine QJ.done ?_
    refine PJ.next ?_
    refine WJ.seq ?_
    refine WJ.quiet ?_
    refine QJ.step (YldS.yld (y_move rfl)) rfl ?_
    refine QJ.step (YldS.yld (y_move rfl)) rfl ?_
    refine QJ.step (YldS.yld (y_move rfl)) rfl ?_
    obtain ⟨r14, h15, hm⟩ := bindS hm
    refine QJ.step (y_call Try.call14 rfl (RetG.quiet fun w hw => ok_i_FewestErased h15 w _ (hw.row_rd (k := 0) rfl))) rfl ?_
    refine QJ.step (YldS.yld (y_move rfl)) rfl ?_
    refine QJ.step (YldS.yld (y_extract rfl rfl)) rfl ?_
    refine QJ.step (YldS.yld (y_extract rfl rfl)) rfl ?_
    refine QJ.step (YldS.yld (y_assign rfl)) rfl ?_
    refine QJ.step (YldS.yld (y_assign rfl)) rfl ?_
    refine QJ.done ?_
    refine PJ.next ?_
    refine WJ.seq ?_
    refine WJ.quiet ?_
    refine QJ.step (YldS.yld (y_move rfl)) rfl ?_
    refine QJ.step (YldS.yld (y_move rfl)) rfl ?_
    refine QJ.step (YldS.yld (y_move rfl)) rfl ?_
    obtain ⟨r16, h17, hm⟩ := bindS hm
    refine QJ.step (y_call Try.call15 rfl (RetG.quiet fun w hw => ok_s_FewestErased h17 w _ (hw.row_rd (k := 0) rfl))) rfl ?_
    refine QJ.step (YldS.yld (y_move rfl)) rfl ?_
    refine QJ.step (YldS.yld (y_extract rfl rfl)) rfl ?_
    refine QJ.step (YldS.yld (y_extract rfl rfl)) rfl ?_
    refine QJ.step (YldS.yld (y_assign rfl)) rfl ?_
    refine QJ.step (YldS.yld (y_assign rfl)) rfl ?_
    refine QJ.done ?_
    refine PJ.next ?_
    refine WJ.seq ?_
    refine WJ.reg ?_
    refine SJ.q (YldS.yld (y_move rfl)) rfl ?_
    obtain ⟨r18, h19, hm⟩ := bindS hm
    refine SJ.call Try.call16 rfl (fun w hw => ok_s_DrawApplyPlan h19 w _ (hr3.st hw)) rfl ?_
    rintro _ _ ⟨v20, rfl, rfl⟩
    refine SJ.q (YldS.yld (y_move rfl)) rfl ?_
    refine SJ.q (YldS.yld (y_extract rfl rfl)) rfl ?_
    refine SJ.q (YldS.yld (y_extract rfl rfl)) rfl ?_
    refine SJ.q (YldS.yld (y_extract rfl rfl)) rfl ?_
    refine SJ.q (YldS.yld (y_extract rfl rfl)) rfl ?_
    refine SJ.q (YldS.yld (y_assign rfl)) rfl ?_
    refine SJ.q (YldS.yld (y_assign rfl)) rfl ?_
    refine SJ.q (YldS.yld (y_assign rfl)) rfl ?_
    refine SJ.q (YldS.yld (y_assign rfl)) rfl ?_
    refine SJ.nil ?_
    refine PJ.next ?_
    refine WJ.seq ?_
    refine WJ.quiet ?_
    refine QJ.step (YldS.yld (y_move rfl)) rfl ?_
    refine QJ.step (YldS.yld (y_move rfl)) rfl ?_
    refine QJ.step (YldS.yld (y_move rfl)) rfl ?_
    refine QJ.step (YldS.yld (y_move rfl)) rfl ?_
    obtain ⟨r21, h22, hm⟩ := bindS hm
    refine QJ.step (y_call Try.call17 rfl (RetG.quiet fun w hw => ok_i_ApplyPlan h22 w _ (hw.row_rd (k := 0) rfl))) rfl ?_
    refine QJ.step (YldS.yld (y_move rfl)) rfl ?_
    refine QJ.step (YldS.yld (y_extract rfl rfl)) rfl ?_
    refine QJ.step (YldS.yld (y_extract rfl rfl)) rfl ?_
    refine QJ.step (YldS.yld (y_assign rfl)) rfl ?_
    refine QJ.step (YldS.yld (y_assign rfl)) rfl ?_
    refine QJ.done ?_
    refine PJ.next ?_
    refine WJ.seq ?_
    refine WJ.quiet ?_
    refine QJ.step (YldS.yld (y_move rfl)) rfl ?_
    refine QJ.step (YldS.yld (y_move rfl)) rfl ?_
    refine QJ.step (YldS.yld (y_move rfl)) rfl ?_
    refine QJ.step (YldS.yld (y_move rfl)) rfl ?_
    obtain ⟨r23, h24, hm⟩ := bindS hm
    refine QJ.step (y_call Try.call18 rfl (RetG.quiet fun w hw => ok_s_ApplyPlan h24 w _ (hw.row_rd (k := 0) rfl))) rfl ?_
    refine QJ.step (YldS.yld (y_move rfl)) rfl ?_
    refine QJ.step (YldS.yld (y_extract rfl rfl)) rfl ?_
    refine QJ.step (YldS.yld (y_extract rfl rfl)) rfl ?_
    refine QJ.step (YldS.yld (y_assign rfl)) rfl ?_
    refine QJ.step (YldS.yld (y_assign rfl)) rfl ?_
    refine QJ.done ?_
    refine PJ.next ?_
    refine WJ.seq ?_
    refine WJ.quiet ?_
    refine QJ.step (YldS.yld (y_move rfl)) rfl ?_
    obtain ⟨r25, h26, hm⟩ := bindS hm
    refine QJ.step (y_call Try.call19 rfl (RetG.quiet fun w hw => ok_s_DrawErasedIn h26 w _ (hr3.st hw))) rfl ?_
    refine QJ.step (YldS.yld (y_assign rfl)) rfl ?_
    refine QJ.done ?_
    refine PJ.next ?_
    refine WJ.seq ?_
    refine WJ.quiet ?_
    refine QJ.step (YldS.yld (y_move rfl)) rfl ?_
    obtain ⟨r27, h28, hm⟩ := bindS hm
    refine QJ.step (y_call Try.call20 rfl (RetG.quiet fun w hw => ok_i_ErasedIn h28 w )) rfl ?_
    refine QJ.step (YldS.yld (y_move rfl)) rfl ?_
    refine QJ.step (YldS.yld (y_extract rfl rfl)) rfl ?_
    refine QJ.step (YldS.yld (y_extract rfl rfl)) rfl ?_
    refine QJ.step (YldS.yld (y_assign rfl)) rfl ?_
    refine QJ.step (YldS.yld (y_assign rfl)) rfl ?_
    refine QJ.done ?_
    refine PJ.next ?_
    refine WJ.seq ?_
    refine WJ.quiet ?_
    refine QJ.step (YldS.yld (y_move rfl)) rfl ?_
    obtain ⟨r29, h30, hm⟩ := bindS hm
    refine QJ.step (y_call Try.call21 rfl (RetG.quiet fun w hw => ok_s_ErasedIn h30 w )) rfl ?_
    refine QJ.step (YldS.yld (y_move rfl)) rfl ?_
    refine QJ.step (YldS.yld (y_extract rfl rfl)) rfl ?_
    refine QJ.step (YldS.yld (y_extract rfl rfl)) rfl ?_
    refine QJ.step (YldS.yld (y_assign rfl)) rfl ?_
    refine QJ.step (YldS.yld (y_assign rfl)) rfl ?_
    refine QJ.done ?_
    refine PJ.next ?_
    refine WJ.seq ?_
    refine WJ.seq ?_
    refine WJ.quiet ?_
    refine QJ.step (YldS.yld (y_move rfl)) rfl ?_
    refine QJ.step (YldS.yld (y_move rfl)) rfl ?_
    refine QJ.step (YldS.yld (y_bin rfl rfl rfl)) rfl ?_
    refine QJ.step (YldS.yld (y_move rfl)) rfl ?_
    obtain ⟨t31, h32, hm⟩ := bindS hm
    refine QJ.cut 4 [(3, v9), (4, str r7.2.1), (5, str r7.2.2), (7, str r10.2.1), (8, .int .i64 r10.2.2), (9, str r12.1), (10, str r12.2.1), (12, .int .i64 r14.1), (13, .int .i64 r14.2), (14, .int .i64 r16.1), (15, .int .i64 r16.2), (20, str r21.1), (21, .int .i64 r21.2), (22, str r23.1), (23, .int .i64 r23.2), (25, .int .i64 r27.1), (26, .int .i64 r27.2), (27, .int .i64 r29.1), (28, .int .i64 r29.2), (115, .bool t31)] ?_ ?_
    · rcases Bool.eq_false_or_eq_true (r10.2.2 != r12.2.2) with hb33 | hb33
      · obtain rfl := orT h32 hb33
        refine QJ.off rfl rfl (cB hb33) rfl rfl ?_
        refine QJ.off rfl rfl (cB hb33) rfl rfl ?_
        refine QJ.off rfl rfl (cB hb33) rfl rfl ?_
        refine QJ.step (YldS.yld (y_pick_t (cB hb33) rfl)) rfl ?_
        exact QJ.cut_end ⟨rfl, rfl, rfl, rfl, rfl, rfl, rfl, rfl, rfl, rfl, rfl, rfl, rfl, rfl, rfl, rfl, rfl, rfl, rfl, rfl, trivial⟩
      · replace h32 := orF h32 hb33
        refine QJ.on rfl rfl (cB hb33) (YldS.yld (y_move rfl)) rfl ?_
        refine QJ.on rfl rfl (cB hb33) (YldS.yld (y_move rfl)) rfl ?_
        refine QJ.on rfl rfl (cB hb33) (YldS.yld (y_binS rfl rfl rfl)) rfl ?_
        refine QJ.step (YldS.yld (y_pick_f (cB hb33) rfl)) rfl ?_
        obtain rfl := Option.some.inj h32
        exact QJ.cut_end ⟨rfl, rfl, rfl, rfl, rfl, rfl, rfl, rfl, rfl, rfl, rfl, rfl, rfl, rfl, rfl, rfl, rfl, rfl, rfl, rfl, trivial⟩
    refine QJ.step (YldS.yld (y_move rfl)) rfl ?_
    obtain ⟨t34, h35, hm⟩ := bindS hm
    refine QJ.cut 4 [(3, v9), (4, str r7.2.1), (5, str r7.2.2), (8, .int .i64 r10.2.2), (9, str r12.1), (10, str r12.2.1), (12, .int .i64 r14.1), (13, .int .i64 r14.2), (14, .int .i64 r16.1), (15, .int .i64 r16.2), (20, str r21.1), (21, .int .i64 r21.2), (22, str r23.1), (23, .int .i64 r23.2), (25, .int .i64 r27.1), (26, .int .i64 r27.2), (27, .int .i64 r29.1), (28, .int .i64 r29.2), (120, .bool t34)] ?_ ?_
    · rcases Bool.eq_false_or_eq_true t31 with hb36 | hb36
      · obtain rfl := orT h35 hb36
        refine QJ.off rfl rfl (cB hb36) rfl rfl ?_
        refine QJ.off rfl rfl (cB hb36) rfl rfl ?_
        refine QJ.off rfl rfl (cB hb36) rfl rfl ?_
        refine QJ.step (YldS.yld (y_pick_t (cB hb36) rfl)) rfl ?_
        exact QJ.cut_end ⟨rfl, rfl, rfl, rfl, rfl, rfl, rfl, rfl, rfl, rfl, rfl, rfl, rfl, rfl, rfl, rfl, rfl, rfl, rfl, trivial⟩
      · replace h35 := orF h35 hb36
        refine QJ.on rfl rfl (cB hb36) (YldS.yld (y_move rfl)) rfl ?_
        refine QJ.on rfl rfl (cB hb36) (YldS.yld (y_move rfl)) rfl ?_
        refine QJ.on rfl rfl (cB hb36) (YldS.yld (y_binS rfl rfl rfl)) rfl ?_
        refine QJ.step (YldS.yld (y_pick_f (cB hb36) rfl)) rfl ?_
        obtain rfl := Option.some.inj h35
        exact QJ.cut_end ⟨rfl, rfl, rfl, rfl, rfl, rfl, rfl, rfl, rfl, rfl, rfl, rfl, rfl, rfl, rfl, rfl, rfl, rfl, rfl, trivial⟩
    refine QJ.step (YldS.yld (y_move rfl)) rfl ?_
    obtain ⟨t37, h38, hm⟩ := bindS hm
    refine QJ.cut 4 [(3, v9), (4, str r7.2.1), (5, str r7.2.2), (8, .int .i64 r10.2.2), (9, str r12.1), (10, str r12.2.1), (12, .int .i64 r14.1), (14, .int .i64 r16.1), (20, str r21.1), (21, .int .i64 r21.2), (22, str r23.1), (23, .int .i64 r23.2), (25, .int .i64 r27.1), (26, .int .i64 r27.2), (27, .int .i64 r29.1), (28, .int .i64 r29.2), (125, .bool t37)] ?_ ?_
    · rcases Bool.eq_false_or_eq_true t34 with hb39 | hb39
      · obtain rfl := orT h38 hb39
        refine QJ.off rfl rfl (cB hb39) rfl rfl ?_
        refine QJ.off rfl rfl (cB hb39) rfl rfl ?_
        refine QJ.off rfl rfl (cB hb39) rfl rfl ?_
        refine QJ.step (YldS.yld (y_pick_t (cB hb39) rfl)) rfl ?_
        exact QJ.cut_end ⟨rfl, rfl, rfl, rfl, rfl, rfl, rfl, rfl, rfl, rfl, rfl, rfl, rfl, rfl, rfl, rfl, rfl, trivial⟩
      · replace h38 := orF h38 hb39
        refine QJ.on rfl rfl (cB hb39) (YldS.yld (y_move rfl)) rfl ?_
        refine QJ.on rfl rfl (cB hb39) (YldS.yld (y_move rfl)) rfl ?_
        refine QJ.on rfl rfl (cB hb39) (YldS.yld (y_bin rfl rfl rfl)) rfl ?_
        refine QJ.step (YldS.yld (y_pick_f (cB hb39) rfl)) rfl ?_
        obtain rfl := Option.some.inj h38
        exact QJ.cut_end ⟨rfl, rfl, rfl, rfl, rfl, rfl, rfl, rfl, rfl, rfl, rfl, rfl, rfl, rfl, rfl, rfl, rfl, trivial⟩
    refine QJ.step (YldS.yld (y_move rfl)) rfl ?_
    obtain ⟨t40, h41, hm⟩ := bindS hm
    refine QJ.cut 4 [(3, v9), (4, str r7.2.1), (5, str r7.2.2), (8, .int .i64 r10.2.2), (9, str r12.1), (10, str r12.2.1), (12, .int .i64 r14.1), (20, str r21.1), (21, .int .i64 r21.2), (22, str r23.1), (23, .int .i64 r23.2), (25, .int .i64 r27.1), (26, .int .i64 r27.2), (27, .int .i64 r29.1), (28, .int .i64 r29.2), (130, .bool t40)] ?_ ?_
    · rcases Bool.eq_false_or_eq_true t37 with hb42 | hb42
      · obtain rfl := orT h41 hb42
        refine QJ.off rfl rfl (cB hb42) rfl rfl ?_
        refine QJ.off rfl rfl (cB hb42) rfl rfl ?_
        refine QJ.off rfl rfl (cB hb42) rfl rfl ?_
        refine QJ.step (YldS.yld (y_pick_t (cB hb42) rfl)) rfl ?_
        exact QJ.cut_end ⟨rfl, rfl, rfl, rfl, rfl, rfl, rfl, rfl, rfl, rfl, rfl, rfl, rfl, rfl, rfl, rfl, trivial⟩
      · replace h41 := orF h41 hb42
        refine QJ.on rfl rfl (cB hb42) (YldS.yld (y_move rfl)) rfl ?_
        refine QJ.on rfl rfl (cB hb42) (YldS.yld (y_move rfl)) rfl ?_
        refine QJ.on rfl rfl (cB hb42) (YldS.yld (y_bin rfl rfl rfl)) rfl ?_
        refine QJ.step (YldS.yld (y_pick_f (cB hb42) rfl)) rfl ?_
        obtain rfl := Option.some.inj h41
        exact QJ.cut_end ⟨rfl, rfl, rfl, rfl, rfl, rfl, rfl, rfl, rfl, rfl, rfl, rfl, rfl, rfl, rfl, rfl, trivial⟩
    refine QJ.step (YldS.yld (y_move rfl)) rfl ?_
    obtain ⟨t43, h44, hm⟩ := bindS hm
    refine QJ.cut 4 [(3, v9), (4, str r7.2.1), (5, str r7.2.2), (8, .int .i64 r10.2.2), (9, str r12.1), (10, str r12.2.1), (12, .int .i64 r14.1), (20, str r21.1), (22, str r23.1), (25, .int .i64 r27.1), (26, .int .i64 r27.2), (27, .int .i64 r29.1), (28, .int .i64 r29.2), (135, .bool t43)] ?_ ?_
    · rcases Bool.eq_false_or_eq_true t40 with hb45 | hb45
      · obtain rfl := orT h44 hb45
        refine QJ.off rfl rfl (cB hb45) rfl rfl ?_
        refine QJ.off rfl rfl (cB hb45) rfl rfl ?_
        refine QJ.off rfl rfl (cB hb45) rfl rfl ?_
        refine QJ.step (YldS.yld (y_pick_t (cB hb45) rfl)) rfl ?_
        exact QJ.cut_end ⟨rfl, rfl, rfl, rfl, rfl, rfl, rfl, rfl, rfl, rfl, rfl, rfl, rfl, rfl, trivial⟩
      · replace h44 := orF h44 hb45
        refine QJ.on rfl rfl (cB hb45) (YldS.yld (y_move rfl)) rfl ?_
        refine QJ.on rfl rfl (cB hb45) (YldS.yld (y_move rfl)) rfl ?_
        refine QJ.on rfl rfl (cB hb45) (YldS.yld (y_bin rfl rfl rfl)) rfl ?_
        refine QJ.step (YldS.yld (y_pick_f (cB hb45) rfl)) rfl ?_
        obtain rfl := Option.some.inj h44
        exact QJ.cut_end ⟨rfl, rfl, rfl, rfl, rfl, rfl, rfl, rfl, rfl, rfl, rfl, rfl, rfl, rfl, trivial⟩
    refine QJ.step (YldS.yld (y_move rfl)) rfl ?_
    obtain ⟨t46, h47, hm⟩ := bindS hm
    refine QJ.cut 4 [(3, v9), (4, str r7.2.1), (5, str r7.2.2), (8, .int .i64 r10.2.2), (9, str r12.1), (10, str r12.2.1), (12, .int .i64 r14.1), (25, .int .i64 r27.1), (26, .int .i64 r27.2), (27, .int .i64 r29.1), (28, .int .i64 r29.2), (140, .bool t46)] ?_ ?_
    · rcases Bool.eq_false_or_eq_true t43 with hb48 | hb48
      · obtain rfl := orT h47 hb48
        refine QJ.off rfl rfl (cB hb48) rfl rfl ?_
        refine QJ.off rfl rfl (cB hb48) rfl rfl ?_
        refine QJ.off rfl rfl (cB hb48) rfl rfl ?_
        refine QJ.step (YldS.yld (y_pick_t (cB hb48) rfl)) rfl ?_
        exact QJ.cut_end ⟨rfl, rfl, rfl, rfl, rfl, rfl, rfl, rfl, rfl, rfl, rfl, rfl, trivial⟩
      · replace h47 := orF h47 hb48
        refine QJ.on rfl rfl (cB hb48) (YldS.yld (y_move rfl)) rfl ?_
        refine QJ.on rfl rfl (cB hb48) (YldS.yld (y_move rfl)) rfl ?_
        refine QJ.on rfl rfl (cB hb48) (YldS.yld (y_binS rfl rfl rfl)) rfl ?_
        refine QJ.step (YldS.yld (y_pick_f (cB hb48) rfl)) rfl ?_
        obtain rfl := Option.some.inj h47
        exact QJ.cut_end ⟨rfl, rfl, rfl, rfl, rfl, rfl, rfl, rfl, rfl, rfl, rfl, rfl, trivial⟩
    refine QJ.step (YldS.yld (y_move rfl)) rfl ?_
    obtain ⟨t49, h50, hm⟩ := bindS hm
    refine QJ.cut 4 [(3, v9), (4, str r7.2.1), (5, str r7.2.2), (8, .int .i64 r10.2.2), (9, str r12.1), (10, str r12.2.1), (12, .int .i64 r14.1), (25, .int .i64 r27.1), (27, .int .i64 r29.1), (145, .bool t49)] ?_ ?_
    · rcases Bool.eq_false_or_eq_true t46 with hb51 | hb51
      · obtain rfl := orT h50 hb51
        refine QJ.off rfl rfl (cB hb51) rfl rfl ?_
        refine QJ.off rfl rfl (cB hb51) rfl rfl ?_
        refine QJ.off rfl rfl (cB hb51) rfl rfl ?_
        refine QJ.step (YldS.yld (y_pick_t (cB hb51) rfl)) rfl ?_
        exact QJ.cut_end ⟨rfl, rfl, rfl, rfl, rfl, rfl, rfl, rfl, rfl, rfl, trivial⟩
      · replace h50 := orF h50 hb51
        refine QJ.on rfl rfl (cB hb51) (YldS.yld (y_move rfl)) rfl ?_
        refine QJ.on rfl rfl (cB hb51) (YldS.yld (y_move rfl)) rfl ?_
        refine QJ.on rfl rfl (cB hb51) (YldS.yld (y_bin rfl rfl rfl)) rfl ?_
        refine QJ.step (YldS.yld (y_pick_f (cB hb51) rfl)) rfl ?_
        obtain rfl := Option.some.inj h50
        exact QJ.cut_end ⟨rfl, rfl, rfl, rfl, rfl, rfl, rfl, rfl, rfl, rfl, trivial⟩
    refine QJ.step (YldS.yld (y_move rfl)) rfl ?_
    obtain ⟨t52, h53, hm⟩ := bindS hm
    refine QJ.cut 4 [(3, v9), (4, str r7.2.1), (5, str r7.2.2), (8, .int .i64 r10.2.2), (9, str r12.1), (10, str r12.2.1), (12, .int .i64 r14.1), (150, .bool t52)] ?_ ?_
    · rcases Bool.eq_false_or_eq_true t49 with hb54 | hb54
      · obtain rfl := orT h53 hb54
        refine QJ.off rfl rfl (cB hb54) rfl rfl ?_
        refine QJ.off rfl rfl (cB hb54) rfl rfl ?_
        refine QJ.off rfl rfl (cB hb54) rfl rfl ?_
        refine QJ.step (YldS.yld (y_pick_t (cB hb54) rfl)) rfl ?_
        exact QJ.cut_end ⟨rfl, rfl, rfl, rfl, rfl, rfl, rfl, rfl, trivial⟩
      · replace h53 := orF h53 hb54
        refine QJ.on rfl rfl (cB hb54) (YldS.yld (y_move rfl)) rfl ?_
        refine QJ.on rfl rfl (cB hb54) (YldS.yld (y_move rfl)) rfl ?_
        refine QJ.on rfl rfl (cB hb54) (YldS.yld (y_bin rfl rfl rfl)) rfl ?_
        refine QJ.step (YldS.yld (y_pick_f (cB hb54) rfl)) rfl ?_
        obtain rfl := Option.some.inj h53
        exact QJ.cut_end ⟨rfl, rfl, rfl, rfl, rfl, rfl, rfl, rfl, trivial⟩
    refine QJ.step (YldS.yld (y_move rfl)) rfl ?_
    obtain ⟨t55, h56, hm⟩ := bindS hm
    refine QJ.cut 6 [(3, v9), (4, str r7.2.1), (5, str r7.2.2), (8, .int .i64 r10.2.2), (9, str r12.1), (10, str r12.2.1), (12, .int .i64 r14.1), (157, .bool t55)] ?_ ?_
    · rcases Bool.eq_false_or_eq_true t52 with hb57 | hb57
      · obtain rfl := orT h56 hb57
        refine QJ.off rfl rfl (cB hb57) rfl rfl ?_
        refine QJ.off rfl rfl (cB hb57) rfl rfl ?_
        refine QJ.off rfl rfl (cB hb57) rfl rfl ?_
        refine QJ.off rfl rfl (cB hb57) rfl rfl ?_
        refine QJ.off rfl rfl (cB hb57) rfl rfl ?_
        refine QJ.step (YldS.yld (y_pick_t (cB hb57) rfl)) rfl ?_
        exact QJ.cut_end ⟨rfl, rfl, rfl, rfl, rfl, rfl, rfl, rfl, trivial⟩
      · replace h56 := orF h56 hb57
        refine QJ.on rfl rfl (cB hb57) (YldS.yld (y_move rfl)) rfl ?_
        obtain ⟨r58, h59, h56⟩ := bindS h56
        refine QJ.on rfl rfl (cB hb57) (y_call Try.call22 rfl (RetG.quiet fun w hw => ok_i_ValidOvers h59 w _ (hw.row_rd (k := 1) rfl))) rfl ?_
        refine QJ.on rfl rfl (cB hb57) (YldS.yld (y_move rfl)) rfl ?_
        obtain ⟨r60, h61, h56⟩ := bindS h56
        refine QJ.on rfl rfl (cB hb57) (y_call Try.call23 rfl (RetG.quiet fun w hw => ok_s_ValidOvers h61 w _ (hw.row_rd (k := 1) rfl))) rfl ?_
        refine QJ.on rfl rfl (cB hb57) (YldS.yld (y_neB Try.underlying4 rfl rfl rfl)) rfl ?_
        refine QJ.step (YldS.yld (y_pick_f (cB hb57) rfl)) rfl ?_
        obtain rfl := Option.some.inj h56
        exact QJ.cut_end ⟨rfl, rfl, rfl, rfl, rfl, rfl, rfl, rfl, trivial⟩
    refine QJ.done ?_
    refine PJ.next ?_
    refine WJ.cond (t := t55) rfl (fun hb62 => ?_) (fun hb62 => ?_)
    · replace hm := ifT hm hb62
      refine WJ.seq ?_
      refine WJ.quiet ?_
      refine QJ.step (YldS.yld (y_assign rfl)) rfl ?_
      refine QJ.done ?_
      refine PJ.next ?_
      refine WJ.ret ?_
      refine PJ.then_ret ?_
      obtain rfl := Option.some.inj hm
      refine PJ.sel (L' := []) [] ⟨List.nodup_nil, rfl⟩ ?_
      exact PJ.retn (vs := [.bool false]) Try.results3 ⟨rfl, trivial⟩ ⟨rfl, rfl⟩
    · replace hm := ifF hm hb62
      refine WJ.skip ?_
      refine PJ.next ?_
      refine WJ.seq ?_
      refine WJ.seq ?_
      refine WJ.quiet ?_
      refine QJ.step (YldS.yld (y_move rfl)) rfl ?_
      refine QJ.step (YldS.yld (y_bin rfl rfl rfl)) rfl ?_
      refine QJ.done ?_
      refine PJ.next ?_
      refine WJ.cond (t := (r10.2.2 != 0)) rfl (fun hb63 => ?_) (fun hb63 => ?_)
      · replace hm := ifT hm hb63
        refine WJ.seq ?_
        refine WJ.quiet ?_
        refine QJ.step (YldS.yld (y_assign rfl)) rfl ?_
        refine QJ.done ?_
        refine PJ.next ?_
        refine WJ.ret ?_
        refine PJ.then_ret ?_
        obtain rfl := Option.some.inj hm
        refine PJ.sel (L' := []) [] ⟨List.nodup_nil, rfl⟩ ?_
        exact PJ.retn (vs := [.bool true]) Try.results3 ⟨rfl, trivial⟩ ⟨rfl, rfl⟩
      · replace hm := ifF hm hb63
        refine WJ.skip ?_
        refine PJ.next ?_
        refine WJ.seq ?_
        refine WJ.quiet ?_
        refine QJ.step (YldS.yld (y_move rfl)) rfl ?_
        refine QJ.step (YldS.yld (y_move rfl)) rfl ?_
        refine QJ.step (YldS.yld (y_move rfl)) rfl ?_
        refine QJ.step (YldS.yld (y_move rfl)) rfl ?_
        obtain ⟨r64, h65, hm⟩ := bindS hm
        refine QJ.step (y_call Try.call17 rfl (RetG.quiet fun w hw => ok_i_ApplyPlan h65 w _ (hw.row_rd (k := 1) rfl))) rfl ?_
        refine QJ.step (YldS.yld (y_move rfl)) rfl ?_
        refine QJ.step (YldS.yld (y_extract rfl rfl)) rfl ?_
        refine QJ.step (YldS.yld (y_extract rfl rfl)) rfl ?_
        refine QJ.step (YldS.yld (y_assign rfl)) rfl ?_
        refine QJ.step (YldS.yld (y_assign rfl)) rfl ?_
        refine QJ.done ?_
        refine PJ.next ?_
        refine WJ.seq ?_
        refine WJ.quiet ?_
        refine QJ.step (YldS.yld (y_move rfl)) rfl ?_
        obtain ⟨r66, h67, hm⟩ := bindS hm
        refine QJ.step (y_call Try.call20 rfl (RetG.quiet fun w hw => ok_i_ErasedIn h67 w )) rfl ?_
        refine QJ.step (YldS.yld (y_move rfl)) rfl ?_
        refine QJ.step (YldS.yld (y_extract rfl rfl)) rfl ?_
        refine QJ.step (YldS.yld (y_extract rfl rfl)) rfl ?_
        refine QJ.step (YldS.yld (y_assign rfl)) rfl ?_
        refine QJ.step (YldS.yld (y_assign rfl)) rfl ?_
        refine QJ.done ?_
        refine PJ.next ?_
        refine WJ.seq ?_
        refine WJ.seq ?_
        refine WJ.quiet ?_
        refine QJ.step (YldS.yld (y_move rfl)) rfl ?_
        refine QJ.step (YldS.yld (y_bin rfl rfl rfl)) rfl ?_
        refine QJ.step (YldS.yld (y_move rfl)) rfl ?_
        obtain ⟨t68, h69, hm⟩ := bindS hm
        refine QJ.cut 4 [(3, v9), (4, str r7.2.1), (5, str r7.2.2), (9, str r12.1), (12, .int .i64 r14.1), (31, .int .i64 r66.1), (32, .int .i64 r66.2), (179, .bool t68)] ?_ ?_
        · rcases Bool.eq_false_or_eq_true (r64.2 != 0) with hb70 | hb70
          · obtain rfl := orT h69 hb70
            refine QJ.off rfl rfl (cB hb70) rfl rfl ?_
            refine QJ.off rfl rfl (cB hb70) rfl rfl ?_
            refine QJ.off rfl rfl (cB hb70) rfl rfl ?_
            refine QJ.step (YldS.yld (y_pick_t (cB hb70) rfl)) rfl ?_
            exact QJ.cut_end ⟨rfl, rfl, rfl, rfl, rfl, rfl, rfl, rfl, trivial⟩
          · replace h69 := orF h69 hb70
            refine QJ.on rfl rfl (cB hb70) (YldS.yld (y_move rfl)) rfl ?_
            refine QJ.on rfl rfl (cB hb70) (YldS.yld (y_move rfl)) rfl ?_
            refine QJ.on rfl rfl (cB hb70) (YldS.yld (y_binS rfl rfl rfl)) rfl ?_
            refine QJ.step (YldS.yld (y_pick_f (cB hb70) rfl)) rfl ?_
            obtain rfl := Option.some.inj h69
            exact QJ.cut_end ⟨rfl, rfl, rfl, rfl, rfl, rfl, rfl, rfl, trivial⟩
        refine QJ.step (YldS.yld (y_move rfl)) rfl ?_
        obtain ⟨t71, h72, hm⟩ := bindS hm
        refine QJ.cut 3 [(3, v9), (4, str r7.2.1), (5, str r7.2.2), (9, str r12.1), (12, .int .i64 r14.1), (31, .int .i64 r66.1), (183, .bool t71)] ?_ ?_
        · rcases Bool.eq_false_or_eq_true t68 with hb73 | hb73
          · obtain rfl := orT h72 hb73
            refine QJ.off rfl rfl (cB hb73) rfl rfl ?_
            refine QJ.off rfl rfl (cB hb73) rfl rfl ?_
            refine QJ.step (YldS.yld (y_pick_t (cB hb73) rfl)) rfl ?_
            exact QJ.cut_end ⟨rfl, rfl, rfl, rfl, rfl, rfl, rfl, trivial⟩
          · replace h72 := orF h72 hb73
            refine QJ.on rfl rfl (cB hb73) (YldS.yld (y_move rfl)) rfl ?_
            refine QJ.on rfl rfl (cB hb73) (YldS.yld (y_bin rfl rfl rfl)) rfl ?_
            refine QJ.step (YldS.yld (y_pick_f (cB hb73) rfl)) rfl ?_
            obtain rfl := Option.some.inj h72
            exact QJ.cut_end ⟨rfl, rfl, rfl, rfl, rfl, rfl, rfl, trivial⟩
        refine QJ.step (YldS.yld (y_move rfl)) rfl ?_
        obtain ⟨t74, h75, hm⟩ := bindS hm
        refine QJ.cut 4 [(3, v9), (4, str r7.2.1), (5, str r7.2.2), (9, str r12.1), (188, .bool t74)] ?_ ?_
        · rcases Bool.eq_false_or_eq_true t71 with hb76 | hb76
          · obtain rfl := orT h75 hb76
            refine QJ.off rfl rfl (cB hb76) rfl rfl ?_
            refine QJ.off rfl rfl (cB hb76) rfl rfl ?_
            refine QJ.off rfl rfl (cB hb76) rfl rfl ?_
            refine QJ.step (YldS.yld (y_pick_t (cB hb76) rfl)) rfl ?_
            exact QJ.cut_end ⟨rfl, rfl, rfl, rfl, rfl, trivial⟩
          · replace h75 := orF h75 hb76
            refine QJ.on rfl rfl (cB hb76) (YldS.yld (y_move rfl)) rfl ?_
            refine QJ.on rfl rfl (cB hb76) (YldS.yld (y_move rfl)) rfl ?_
            refine QJ.on rfl rfl (cB hb76) (YldS.yld (y_bin rfl rfl rfl)) rfl ?_
            refine QJ.step (YldS.yld (y_pick_f (cB hb76) rfl)) rfl ?_
            obtain rfl := Option.some.inj h75
            exact QJ.cut_end ⟨rfl, rfl, rfl, rfl, rfl, trivial⟩
        refine QJ.done ?_
        refine PJ.next ?_
        refine WJ.cond (t := t74) rfl (fun hb77 => ?_) (fun hb77 => ?_)
        · replace hm := ifT hm hb77
          refine WJ.seq ?_
          refine WJ.quiet ?_
          refine QJ.step (YldS.yld (y_assign rfl)) rfl ?_
          refine QJ.done ?_
          refine PJ.next ?_
          refine WJ.ret ?_
          refine PJ.then_ret ?_
          obtain rfl := Option.some.inj hm
          refine PJ.sel (L' := []) [] ⟨List.nodup_nil, rfl⟩ ?_
          exact PJ.retn (vs := [.bool false]) Try.results3 ⟨rfl, trivial⟩ ⟨rfl, rfl⟩
        · replace hm := ifF hm hb77
          refine WJ.skip ?_
          refine PJ.next ?_
          obtain ⟨k78, hk79, hm⟩ := withK_open hm
          refine WJ.join (X := Unit) (fun (_ : Unit) => k78  = some r) (fun (_ : Unit) => []) (fun (_ : Unit) => []) ?_ ?_
          · clear hk79
            refine WJ.seq ?_
            refine WJ.quiet ?_
            refine QJ.step (YldS.yld (y_assign rfl)) rfl ?_
            refine QJ.done ?_
            refine PJ.next ?_
            refine WJ.block ?_
            refine WJ.sel (L' := (fun (x : Int) => [row v9 39 fOver r7.1]) 0) [1] ⟨by decide, rfl⟩ ?_
            refine WJ.sub (m' := (fun (x : Int) => [(3, v9), (4, str r7.2.1), (5, str r7.2.2), (9, str r12.1), (33, .int .i64 x)]) 0) ⟨rfl, rfl, rfl, rfl, rfl, trivial⟩ ?_
            refine WJ.loop (X := Int) (fun N (x : Int) => w_FnCorrected_l1 k78 r7 r12 N x = some r) (fun (x : Int) => [(3, v9), (4, str r7.2.1), (5, str r7.2.2), (9, str r12.1), (33, .int .i64 x)]) (fun (x : Int) => [row v9 39 fOver r7.1]) ?_ N 0 hm
            · rintro N i80 hI
              have hm := hI; clear hI
              cases N with
              | zero => cases hm
              | succ N =>
              unfold w_FnCorrected_l1 at hm
              refine WJ.seq ?_
              refine WJ.seq ?_
              refine WJ.quiet ?_
              refine QJ.step (YldS.yld (y_move rfl)) rfl ?_
              refine QJ.step (YldS.yld (y_move rfl)) rfl ?_
              refine QJ.step (YldS.yld (y_lenStr Try.runUnderlying9 rfl)) rfl ?_
              refine QJ.step (YldS.yld (y_bin rfl rfl rfl)) rfl ?_
              refine QJ.done ?_
              refine PJ.next ?_
              refine WJ.cond (t := decide (i80 < (List.length r12.1 : Int))) rfl (fun hb81 => ?_) (fun hb81 => ?_)
              · replace hm := ifT hm hb81
                refine WJ.skip ?_
                refine PJ.next ?_
                obtain ⟨k83, hk83, hm⟩ := withK_open hm
                refine WJ.join (X := Unit) (fun (_ : Unit) => k83  = some r) (fun (_ : Unit) => [(3, v9), (4, str r7.2.1), (5, str r7.2.2), (9, str r12.1), (33, .int .i64 i80)]) (fun (_ : Unit) => [row v9 39 fOver r7.1]) ?_ ?_
                · clear hk83
                  refine WJ.block ?_
                  refine WJ.seq ?_
                  refine WJ.seq ?_
                  refine WJ.quiet ?_
                  refine QJ.step (YldS.yld (y_move rfl)) rfl ?_
                  refine QJ.step (YldS.yld (y_move rfl)) rfl ?_
                  obtain ⟨c84, h85, hm⟩ := bindS hm
                  refine QJ.step (YldS.yld (y_idxStr Try.runUnderlying9 rfl rfl h85)) rfl ?_
                  refine QJ.step (YldS.yld (y_bin8 c84 (35 : UInt8) rfl rfl rfl)) rfl ?_
                  refine QJ.done ?_
                  refine PJ.next ?_
                  refine WJ.cond (t := (c84 != (35 : UInt8))) rfl (fun hb86 => ?_) (fun hb86 => ?_)
                  · replace hm := ifT hm hb86
                    refine WJ.exit ?_
                    refine PJ.then_exit (PJ.block_exit ?_)
                    exact PJ.joined () [0] hm ⟨rfl, rfl, rfl, rfl, rfl, trivial⟩ ⟨by decide, rfl⟩
                  · replace hm := ifF hm hb86
                    refine WJ.skip ?_
                    refine PJ.next ?_
                    refine WJ.seq ?_
                    refine WJ.seq ?_
                    refine WJ.quiet_draw follows (by kernel_rfl) ?_
                    refine QJ.step (YldS.yld (y_move rfl)) rfl ?_
                    refine QJ.step (YldS.yld (y_move rfl)) rfl ?_
                    obtain ⟨c87, h88, hm⟩ := bindS hm
                    refine QJ.step (YldS.yld (y_idxStr Try.runUnderlying9 rfl rfl h88)) rfl ?_
                    refine QJ.step (YldS.yld (y_bin8 c87 (32 : UInt8) rfl rfl rfl)) rfl ?_
                    refine QJ.step (YldS.yld (y_move rfl)) rfl ?_
                    obtain ⟨t89, h90, hm⟩ := bindS hm
                    refine QJ.cut 8 [(3, v9), (4, str r7.2.1), (5, str r7.2.2), (9, str r12.1), (33, .int .i64 i80), (211, .bool t89)] ?_ ?_
                    · rcases Bool.eq_false_or_eq_true (c87 == (32 : UInt8)) with hb91 | hb91
                      · obtain rfl := orT h90 hb91
                        refine QJ.off rfl rfl (cB hb91) rfl rfl ?_
                        refine QJ.off rfl rfl (cB hb91) rfl rfl ?_
                        refine QJ.off rfl rfl (cB hb91) rfl rfl ?_
                        refine QJ.off rfl rfl (cB hb91) rfl rfl ?_
                        refine QJ.off rfl rfl (cB hb91) rfl rfl ?_
                        refine QJ.off rfl rfl (cB hb91) rfl rfl ?_
                        refine QJ.off rfl rfl (cB hb91) rfl rfl ?_
                        refine QJ.step (YldS.yld (y_pick_t (cB hb91) rfl)) rfl ?_
                        exact QJ.cut_end ⟨rfl, rfl, rfl, rfl, rfl, rfl, trivial⟩
                      · replace h90 := orF h90 hb91
                        refine QJ.on rfl rfl (cB hb91) (YldS.yld (y_move rfl)) rfl ?_
                        refine QJ.on rfl rfl (cB hb91) (YldS.yld (y_move rfl)) rfl ?_
                        obtain ⟨c92, h93, h90⟩ := bindS h90
                        refine QJ.on rfl rfl (cB hb91) (YldS.yld (y_idxStr Try.runUnderlying9 rfl rfl h93)) rfl ?_
                        refine QJ.on rfl rfl (cB hb91) (YldS.yld (y_move rfl)) rfl ?_
                        refine QJ.on rfl rfl (cB hb91) (YldS.yld (y_move rfl)) rfl ?_
                        obtain ⟨c94, h95, h90⟩ := bindS h90
                        refine QJ.on rfl rfl (cB hb91) (YldS.yld (y_idxStr Try.runUnderlying9 rfl rfl h95)) rfl ?_
                        refine QJ.on rfl rfl (cB hb91) (YldS.yld (y_bin8 c92 c94 rfl rfl rfl)) rfl ?_
                        refine QJ.step (YldS.yld (y_pick_f (cB hb91) rfl)) rfl ?_
                        obtain rfl := Option.some.inj h90
                        exact QJ.cut_end ⟨rfl, rfl, rfl, rfl, rfl, rfl, trivial⟩
                    refine QJ.done ?_
                    refine PJ.next ?_
                    refine WJ.cond (t := t89) rfl (fun hb96 => ?_) (fun hb96 => ?_)
                    · replace hm := ifT hm hb96
                      refine WJ.seq ?_
                      refine WJ.quiet ?_
                      refine QJ.step (YldS.yld (y_assign rfl)) rfl ?_
                      refine QJ.done ?_
                      refine PJ.next ?_
                      refine WJ.ret ?_
                      refine PJ.then_ret (PJ.block_ret (PJ.then_ret (PJ.then_ret (PJ.block_ret (PJ.then_ret ?_)))))
                      obtain rfl := Option.some.inj hm
                      refine PJ.sel (L' := []) [] ⟨List.nodup_nil, rfl⟩ ?_
                      exact PJ.retn (vs := [.bool false]) Try.results3 ⟨rfl, trivial⟩ ⟨rfl, rfl⟩
                    · replace hm := ifF hm hb96
                      refine WJ.skip ?_
                      refine PJ.next ?_
                      refine WJ.seq ?_
                      refine WJ.quiet ?_
                      refine QJ.step (YldS.yld (y_assign rfl)) rfl ?_
                      refine QJ.done ?_
                      refine PJ.next ?_
                      refine WJ.block ?_
                      refine WJ.sel (L' := (fun (x : Int) => [row v9 39 fOver r7.1]) 0) [0] ⟨by decide, rfl⟩ ?_
                      refine WJ.sub (m' := (fun (x : Int) => [(3, v9), (4, str r7.2.1), (5, str r7.2.2), (9, str r12.1), (33, .int .i64 i80), (34, .int .i64 x)]) 0) ⟨rfl, rfl, rfl, rfl, rfl, rfl, trivial⟩ ?_
                      refine WJ.loop (X := Int) (fun N (x : Int) => w_FnCorrected_l2 k83 r7 i80 N x = some r) (fun (x : Int) => [(3, v9), (4, str r7.2.1), (5, str r7.2.2), (9, str r12.1), (33, .int .i64 i80), (34, .int .i64 x)]) (fun (x : Int) => [row v9 39 fOver r7.1]) ?_ N 0 hm
                      · rintro N j97 hI
                        have hm := hI; clear hI
                        cases N with
                        | zero => cases hm
                        | succ N =>
                        unfold w_FnCorrected_l2 at hm
                        refine WJ.seq ?_
                        refine WJ.seq ?_
                        refine WJ.quiet ?_
                        refine QJ.step (YldS.yld (y_move rfl)) rfl ?_
                        refine QJ.step (YldS.yld (y_move rfl)) rfl ?_
                        refine QJ.step (YldS.yld (y_lenRow (k := 0) rfl Try.runUnderlying24 rfl)) rfl ?_
                        refine QJ.step (YldS.yld (y_bin rfl rfl rfl)) rfl ?_
                        refine QJ.done ?_
                        refine PJ.next ?_
                        refine WJ.cond (t := decide (j97 < (List.length r7.1 : Int))) rfl (fun hb98 => ?_) (fun hb98 => ?_)
                        · replace hm := ifT hm hb98
                          refine WJ.skip ?_
                          refine PJ.next ?_
                          refine WJ.seq ?_
                          refine WJ.block ?_
                          refine WJ.seq ?_
                          refine WJ.quiet_draw follows (by kernel_rfl) ?_
                          refine QJ.step (YldS.yld (y_move rfl)) rfl ?_
                          refine QJ.step (YldS.yld (y_move rfl)) rfl ?_
                          obtain ⟨e99, h100, hm⟩ := bindS hm
                          refine QJ.step (YldS.yld (y_ixRow (k := 0) (R := fOver) rfl Try.runUnderlying24 Try.sizeOf39 rfl rfl h100)) rfl ?_
                          refine QJ.step (YldS.yld (y_fldR fld39_0 rfl)) rfl ?_
                          refine QJ.step (YldS.yld (y_loadR (k := 0) (i := (Int.toNat j97)) (off := 0) (u := str e99.under) rfl Try.isAgg9 rfl (idx_get h100) rfl)) rfl ?_
                          refine QJ.step (YldS.yld (y_move rfl)) rfl ?_
                          refine QJ.step (YldS.yld (y_move rfl)) rfl ?_
                          refine QJ.step (YldS.yld (y_move rfl)) rfl ?_
                          refine QJ.step (YldS.yld (y_bin rfl rfl rfl)) rfl ?_
                          obtain ⟨s101, h102, hm⟩ := bindS hm
                          refine QJ.step (YldS.yld (y_subStr (i := some i80) (j := some (w64 (i80 + 1))) h102 Try.runUnderlying9 rfl ⟨_, rfl⟩ ⟨_, rfl⟩)) rfl ?_
                          refine QJ.step (YldS.yld (y_binS rfl rfl rfl)) rfl ?_
                          refine QJ.step (YldS.yld (y_move rfl)) rfl ?_
                          obtain ⟨t103, h104, hm⟩ := bindS hm
                          refine QJ.cut 12 [(3, v9), (4, str r7.2.1), (5, str r7.2.2), (9, str r12.1), (33, .int .i64 i80), (34, .int .i64 j97), (241, .bool t103)] ?_ ?_
                          · rcases Bool.eq_false_or_eq_true (e99.under == s101) with hb105 | hb105
                            · replace h104 := andT h104 hb105
                              refine QJ.on rfl rfl (cB hb105) (YldS.yld (y_move rfl)) rfl ?_
                              refine QJ.on rfl rfl (cB hb105) (YldS.yld (y_move rfl)) rfl ?_
                              obtain ⟨e106, h107, h104⟩ := bindS h104
                              refine QJ.on rfl rfl (cB hb105) (YldS.yld (y_ixRow (k := 0) (R := fOver) rfl Try.runUnderlying24 Try.sizeOf39 rfl rfl h107)) rfl ?_
                              refine QJ.on rfl rfl (cB hb105) (YldS.yld (y_fldR fld39_2 rfl)) rfl ?_
                              refine QJ.on rfl rfl (cB hb105) (YldS.yld (y_loadR (k := 0) (i := (Int.toNat j97)) (off := 2) (u := str e106.seen) rfl Try.isAgg9 rfl (idx_get h107) rfl)) rfl ?_
                              refine QJ.on rfl rfl (cB hb105) (YldS.yld (y_move rfl)) rfl ?_
                              refine QJ.on rfl rfl (cB hb105) (YldS.yld (y_move rfl)) rfl ?_
                              refine QJ.on rfl rfl (cB hb105) (YldS.yld (y_move rfl)) rfl ?_
                              refine QJ.on rfl rfl (cB hb105) (YldS.yld (y_bin rfl rfl rfl)) rfl ?_
                              obtain ⟨s108, h109, h104⟩ := bindS h104
                              refine QJ.on rfl rfl (cB hb105) (YldS.yld (y_subStr (i := some i80) (j := some (w64 (i80 + 1))) h109 Try.runUnderlying9 rfl ⟨_, rfl⟩ ⟨_, rfl⟩)) rfl ?_
                              refine QJ.on rfl rfl (cB hb105) (YldS.yld (y_binS rfl rfl rfl)) rfl ?_
                              refine QJ.step (YldS.yld (y_pick_t (cB hb105) rfl)) rfl ?_
                              obtain rfl := Option.some.inj h104
                              exact QJ.cut_end ⟨rfl, rfl, rfl, rfl, rfl, rfl, rfl, trivial⟩
                            · obtain rfl := andF h104 hb105
                              refine QJ.off rfl rfl (cB hb105) rfl rfl ?_
                              refine QJ.off rfl rfl (cB hb105) rfl rfl ?_
                              refine QJ.off rfl rfl (cB hb105) rfl rfl ?_
                              refine QJ.off rfl rfl (cB hb105) rfl rfl ?_
                              refine QJ.off rfl rfl (cB hb105) rfl rfl ?_
                              refine QJ.off rfl rfl (cB hb105) rfl rfl ?_
                              refine QJ.off rfl rfl (cB hb105) rfl rfl ?_
                              refine QJ.off rfl rfl (cB hb105) rfl rfl ?_
                              refine QJ.off rfl rfl (cB hb105) rfl rfl ?_
                              refine QJ.off rfl rfl (cB hb105) rfl rfl ?_
                              refine QJ.off rfl rfl (cB hb105) rfl rfl ?_
                              refine QJ.step (YldS.yld (y_pick_f (cB hb105) rfl)) rfl ?_
                              exact QJ.cut_end ⟨rfl, rfl, rfl, rfl, rfl, rfl, rfl, trivial⟩
                          refine QJ.done ?_
                          refine PJ.next ?_
                          refine WJ.cond (t := t103) rfl (fun hb110 => ?_) (fun hb110 => ?_)
                          · replace hm := ifT hm hb110
                            refine WJ.seq ?_
                            refine WJ.quiet ?_
                            refine QJ.step (YldS.yld (y_assign rfl)) rfl ?_
                            refine QJ.done ?_
                            refine PJ.next ?_
                            refine WJ.ret ?_
                            refine PJ.block_ret (PJ.then_ret (PJ.then_ret (PJ.block_ret (PJ.block_ret (PJ.then_ret (PJ.then_ret (PJ.block_ret (PJ.then_ret ?_))))))))
                            obtain rfl := Option.some.inj hm
                            refine PJ.sel (L' := []) [] ⟨List.nodup_nil, rfl⟩ ?_
                            exact PJ.retn (vs := [.bool false]) Try.results3 ⟨rfl, trivial⟩ ⟨rfl, rfl⟩
                          · replace hm := ifF hm hb110
                            refine WJ.skip ?_
                            refine PJ.block_normal (PJ.next ?_)
                            refine WJ.quiet ?_
                            refine QJ.step (YldS.yld (y_move rfl)) rfl ?_
                            refine QJ.step (YldS.yld (y_bin rfl rfl rfl)) rfl ?_
                            refine QJ.step (YldS.yld (y_assign rfl)) rfl ?_
                            refine QJ.done ?_
                            exact PJ.round (w64 (j97 + 1)) [0] hm ⟨rfl, rfl, rfl, rfl, rfl, rfl, trivial⟩ ⟨by decide, rfl⟩
                        · replace hm := ifF hm hb98
                          refine WJ.exit ?_
                          refine PJ.then_exit (PJ.then_exit (PJ.block_exit (PJ.block_normal ?_)))
                          exact PJ.joined () [0] hm ⟨rfl, rfl, rfl, rfl, rfl, trivial⟩ ⟨by decide, rfl⟩
                · rintro _ hm
                  subst hk83
                  refine WJ.quiet ?_
                  refine QJ.step (YldS.yld (y_move rfl)) rfl ?_
                  refine QJ.step (YldS.yld (y_bin rfl rfl rfl)) rfl ?_
                  refine QJ.step (YldS.yld (y_assign rfl)) rfl ?_
                  refine QJ.done ?_
                  exact PJ.round (w64 (i80 + 1)) [0] hm ⟨rfl, rfl, rfl, rfl, rfl, trivial⟩ ⟨by decide, rfl⟩
              · replace hm := ifF hm hb81
                refine WJ.exit ?_
                refine PJ.then_exit (PJ.then_exit (PJ.block_exit ?_))
                exact PJ.joined () [] hm trivial ⟨List.nodup_nil, rfl⟩
          · rintro _ hm
            subst hk79
            refine WJ.seq ?_
            refine WJ.quiet ?_
            refine QJ.step (YldS.yld (y_assign rfl)) rfl ?_
            refine QJ.done ?_
            refine PJ.next ?_
            refine WJ.ret ?_
            obtain rfl := Option.some.inj hm
            refine PJ.sel (L' := []) [] ⟨List.nodup_nil, rfl⟩ ?_
            exact PJ.retn (vs := [.bool true]) Try.results3 ⟨rfl, trivial⟩ ⟨rfl, rfl⟩

end Go.Proofs.Ytoojddajhalimaa
