/-
  The walks: a call hands back what its plain function computes, where that has a value. No other conditions.
-/
import Derived.Test.YtpmanofdlhlkdaaFnTableColumnsW
import Derived.Test.YtpmanofdlhlkdaaChecked
namespace Go.Proofs.Ytpmanofdlhlkdaa
open Go.RowKit Go.Proofs
set_option linter.unusedVariables false
set_option linter.unusedSimpArgs false

set_option maxRecDepth 100000 in
set_option maxHeartbeats 1000000 in
theorem ok_s_DrawWidestGap {N : Nat} {code1 : List UInt8} {r : (List Int) × Int × Int} (hm : s_DrawWidestGap N code1 = some r) (w : World) (v2 : Value) (hr3 : RdS w (cx w).Fz v2 fByte.rp code1) :
    Calls Try.prog 32 #[v2] w (RetG (cx w) fun u L => ∃ (u1 : Value), (u = tup [u1, .int .i64 r.2.1, .int .i64 r.2.2] ∧ L = [row u1 2 fI64 r.1])) := by
  unfold s_DrawWidestGap at hm
  refine Calls.enter [v2] Try.func32 rfl Try.ntmps32 rfl ?_
  refine WJ.seq ?_
  refine WJ.quiet ?_
  refine QJ.step (YldS.yld (y_assign rfl)) rfl ?_
  refine QJ.step (YldS.yld (y_assign rfl)) rfl ?_
  refine QJ.step (YldS.yld (y_assign rfl)) rfl ?_
  refine QJ.done ?_
  refine PJ.next ?_
  refine WJ.seq ?_
  refine WJ.reg ?_
  refine SJ.q (YldS.yld (y_move rfl)) rfl ?_
  obtain ⟨r4, h5, hm⟩ := bindS hm
  refine SJ.call Try.call89 rfl (fun w hw => ok_s_l00From h5 w _ (hr3.st hw)) rfl ?_
  rintro _ _ ⟨g6, rfl, rfl⟩
  refine SJ.q (YldS.yld (y_assign rfl)) rfl ?_
  refine SJ.nil ?_
  refine PJ.next ?_
  refine WJ.seq ?_
  refine WJ.reg ?_
  refine SJ.q (YldS.yld (y_move rfl)) rfl ?_
  obtain ⟨r7, h8, hm⟩ := bindS hm
  refine SJ.call1 (k := 0) rfl Try.call106 rfl (fun w S hw hA hO => ok_s_l08DrawWidths h8 w S _ (hr3.st1 hw hO) hA) rfl ?_
  rintro v9 _ ⟨_, rfl, rfl⟩
  refine SJ.q (YldS.yld (y_assign rfl)) rfl ?_
  refine SJ.nil ?_
  refine PJ.next ?_
  refine WJ.seq ?_
  refine WJ.reg ?_
  refine SJ.q (YldS.yld (y_move rfl)) rfl ?_
  obtain ⟨r10, h11, hm⟩ := bindS hm
  refine SJ.call1 (k := 0) rfl Try.call92 rfl (fun w S hw hA hO => ok_s_l00Src_pick h11 w S _ (hr3.st1 hw hO) hA) rfl ?_
  rintro _ _ ⟨rfl, rfl⟩
  refine SJ.q (YldS.yld (y_assign rfl)) rfl ?_
  refine SJ.nil ?_
  refine PJ.next ?_
  obtain ⟨kj15, hk16, hm⟩ := withK_open hm
  refine WJ.join (X := Int × Int × Int) (fun (x : Int × Int × Int) => kj15 x.1 x.2.1 x.2.2 = some r) (fun (x : Int × Int × Int) => [(5, pt g6 0), (6, v9), (7, .int .i64 x.2.2)]) (fun (x : Int × Int × Int) => [box g6 161 [v2, .int .i64 x.1, .int .u64 x.2.1], row v9 2 fI64 r7.1]) ?_ ?_
  · clear hk16
    refine WJ.seq ?_
    refine WJ.reg ?_
    refine SJ.q (YldS.yld (y_move rfl)) rfl ?_
    obtain ⟨r17, h18, hm⟩ := bindS hm
    refine SJ.call1 (k := 0) rfl Try.call91 rfl (fun w S hw hA hO => ok_s_l00Src_one h18 w S _ (hr3.st1 hw hO) hA) rfl ?_
    rintro _ _ ⟨rfl, rfl⟩
    refine SJ.nil ?_
    refine PJ.next ?_
    refine WJ.cond (t := r17.1) rfl (fun hb19 => ?_) (fun hb19 => ?_)
    · replace hm := ifT hm hb19
      refine WJ.reg ?_
      refine SJ.q (YldS.yld (y_move rfl)) rfl ?_
      refine SJ.buildSlice (R := fI64) (os := [.const (.int .i64 (-1)), .const (.int .i64 0), .const (.int .i64 120), .const (.int .i64 121)]) [(-1), 0, 120, 121] Try.runUnderlying27 Try.sizeOf2 Try.zeroValue2 rfl rfl rfl rfl rfl rfl fun v20 => ?_
      obtain ⟨r21, h22, hm⟩ := bindS hm
      refine SJ.call2 (k := 1) rfl Try.call97 rfl (fun w S hw hA hO hB => ok_s_l00Src_among h22 w S _ (hr3.st1 hw hO) _ (hB.row_rd (j := 0) (k := 1) rfl rfl) hA) rfl ?_
      rintro _ _ ⟨rfl, rfl⟩
      refine SJ.q (YldS.yld (y_assign rfl)) rfl ?_
      refine SJ.nil ?_
      exact PJ.joined (r21.2.at_, r21.2.seed, r21.1) [0, 2] hm ⟨rfl, rfl, rfl, trivial⟩ ⟨by decide, rfl⟩
    · replace hm := ifF hm hb19
      refine WJ.skip ?_
      exact PJ.joined (r17.2.at_, r17.2.seed, r10.1) [0, 1] hm ⟨rfl, rfl, rfl, trivial⟩ ⟨by decide, rfl⟩
  · rintro ⟨x12, x13, left14⟩ hm
    subst hk16
    refine WJ.seq ?_
    refine WJ.seq ?_
    refine WJ.reg ?_
    refine SJ.q (YldS.yld (y_move rfl)) rfl ?_
    obtain ⟨r23, h24, hm⟩ := bindS hm
    refine SJ.call1 (k := 0) rfl Try.call91 rfl (fun w S hw hA hO => ok_s_l00Src_one h24 w S _ (hr3.st1 hw hO) hA) rfl ?_
    rintro _ _ ⟨rfl, rfl⟩
    refine SJ.nil ?_
    refine PJ.next ?_
    refine WJ.cond (t := r23.1) rfl (fun hb25 => ?_) (fun hb25 => ?_)
    · replace hm := ifT hm hb25
      refine WJ.seq ?_
      refine WJ.reg ?_
      refine SJ.q (YldS.yld (y_move rfl)) rfl ?_
      refine SJ.q (YldS.yld (y_move rfl)) rfl ?_
      refine SJ.q (YldS.yld (y_move rfl)) rfl ?_
      refine SJ.q (YldS.yld (y_move rfl)) rfl ?_
      refine SJ.buildSlice (R := fI64) (os := [.const (.int .i64 (-1)), .tmp 24, .const (.int .i64 120), .const (.int .i64 121)]) [(-1), left14, 120, 121] Try.runUnderlying27 Try.sizeOf2 Try.zeroValue2 rfl rfl rfl rfl rfl rfl fun v26 => ?_
      obtain ⟨r27, h28, hm⟩ := bindS hm
      refine SJ.call2 (k := 1) rfl Try.call97 rfl (fun w S hw hA hO hB => ok_s_l00Src_among h28 w S _ (hr3.st1 hw hO) _ (hB.row_rd (j := 0) (k := 1) rfl rfl) hA) rfl ?_
      rintro _ _ ⟨rfl, rfl⟩
      refine SJ.q (YldS.yld (y_assign rfl)) rfl ?_
      refine SJ.q (YldS.yld (y_assign rfl)) rfl ?_
      refine SJ.q (YldS.yld (y_assign rfl)) rfl ?_
      refine SJ.nil ?_
      refine PJ.next ?_
      refine WJ.ret ?_
      refine PJ.then_ret ?_
      obtain rfl := Option.some.inj hm
      refine PJ.sel (L' := [row v9 2 fI64 r7.1]) [2] ⟨by decide, rfl⟩ ?_
      exact PJ.retn (vs := [v9, .int .i64 left14, .int .i64 r27.1]) Try.results32 ⟨rfl, rfl, rfl, trivial⟩ ⟨_, rfl, rfl⟩
    · replace hm := ifF hm hb25
      refine WJ.skip ?_
      refine PJ.next ?_
      refine WJ.seq ?_
      refine WJ.reg ?_
      refine SJ.q (YldS.yld (y_move rfl)) rfl ?_
      refine SJ.q (YldS.yld (y_move rfl)) rfl ?_
      refine SJ.q (YldS.yld (y_move rfl)) rfl ?_
      refine SJ.q (YldS.yld (y_move rfl)) rfl ?_
      obtain ⟨r29, h30, hm⟩ := bindS hm
      refine SJ.call1 (k := 0) rfl Try.call92 rfl (fun w S hw hA hO => ok_s_l00Src_pick h30 w S _ (hr3.st1 hw hO) hA) rfl ?_
      rintro _ _ ⟨rfl, rfl⟩
      refine SJ.q (YldS.yld (y_bin rfl rfl rfl)) rfl ?_
      refine SJ.q (YldS.yld (y_assign rfl)) rfl ?_
      refine SJ.q (YldS.yld (y_assign rfl)) rfl ?_
      refine SJ.q (YldS.yld (y_assign rfl)) rfl ?_
      refine SJ.nil ?_
      refine PJ.next ?_
      refine WJ.ret ?_
      obtain rfl := Option.some.inj hm
      refine PJ.sel (L' := [row v9 2 fI64 r7.1]) [1] ⟨by decide, rfl⟩ ?_
      exact PJ.retn (vs := [v9, .int .i64 left14, .int .i64 (w64 (left14 + r29.1))]) Try.results32 ⟨rfl, rfl, rfl, trivial⟩ ⟨_, rfl, rfl⟩

set_option maxRecDepth 100000 in
set_option maxHeartbeats 1000000 in
theorem ok_i_WidestGap {N : Nat} {widths1 : List Int} {left4 : Int} {right5 : Int} {r : Int × Int} (hm : i_WidestGap N widths1 left4 right5 = some r) (w : World) (v2 : Value) (hr3 : RdS w (cx w).Fz v2 fI64.rp widths1) :
    Calls Try.prog 33 #[v2, .int .i64 left4, .int .i64 right5] w (Ret (cx w) (tup [.int .i64 r.1, .int .i64 r.2])) := by
  unfold i_WidestGap at hm
  refine Calls.enter [v2, .int .i64 left4, .int .i64 right5] Try.func33 rfl Try.ntmps33 rfl ?_
  refine WJ.seq ?_
  refine WJ.quiet ?_
  refine QJ.step (YldS.yld (y_assign rfl)) rfl ?_
  refine QJ.step (YldS.yld (y_assign rfl)) rfl ?_
  refine QJ.done ?_
  refine PJ.next ?_
  refine WJ.seq ?_
  refine WJ.seq ?_
  refine WJ.quiet ?_
  refine QJ.step (YldS.yld (y_move rfl)) rfl ?_
  obtain ⟨r6, h7, hm⟩ := bindS hm
  refine QJ.step (y_call Try.call107 rfl (RetG.quiet fun w hw => ok_i_areWidths h7 w _ (hr3.st hw))) rfl ?_
  refine QJ.step (YldS.yld (y_not rfl)) rfl ?_
  refine QJ.step (YldS.yld (y_move rfl)) rfl ?_
  obtain ⟨t8, h9, hm⟩ := bindS hm
  refine QJ.cut 3 [(0, v2), (1, .int .i64 left4), (2, .int .i64 right5), (18, .bool t8)] ?_ ?_
  · rcases Bool.eq_false_or_eq_true (!r6) with hb10 | hb10
    · obtain rfl := orT h9 hb10
      refine QJ.off rfl rfl (cB hb10) rfl rfl ?_
      refine QJ.off rfl rfl (cB hb10) rfl rfl ?_
      refine QJ.step (YldS.yld (y_pick_t (cB hb10) rfl)) rfl ?_
      exact QJ.cut_end ⟨rfl, rfl, rfl, rfl, trivial⟩
    · replace h9 := orF h9 hb10
      refine QJ.on rfl rfl (cB hb10) (YldS.yld (y_move rfl)) rfl ?_
      refine QJ.on rfl rfl (cB hb10) (YldS.yld (y_bin rfl rfl rfl)) rfl ?_
      refine QJ.step (YldS.yld (y_pick_f (cB hb10) rfl)) rfl ?_
      obtain rfl := Option.some.inj h9
      exact QJ.cut_end ⟨rfl, rfl, rfl, rfl, trivial⟩
  refine QJ.step (YldS.yld (y_move rfl)) rfl ?_
  obtain ⟨t11, h12, hm⟩ := bindS hm
  refine QJ.cut 4 [(0, v2), (1, .int .i64 left4), (2, .int .i64 right5), (23, .bool t11)] ?_ ?_
  · rcases Bool.eq_false_or_eq_true t8 with hb13 | hb13
    · obtain rfl := orT h12 hb13
      refine QJ.off rfl rfl (cB hb13) rfl rfl ?_
      refine QJ.off rfl rfl (cB hb13) rfl rfl ?_
      refine QJ.off rfl rfl (cB hb13) rfl rfl ?_
      refine QJ.step (YldS.yld (y_pick_t (cB hb13) rfl)) rfl ?_
      exact QJ.cut_end ⟨rfl, rfl, rfl, rfl, trivial⟩
    · replace h12 := orF h12 hb13
      refine QJ.on rfl rfl (cB hb13) (YldS.yld (y_move rfl)) rfl ?_
      refine QJ.on rfl rfl (cB hb13) (YldS.yld (y_move rfl)) rfl ?_
      refine QJ.on rfl rfl (cB hb13) (YldS.yld (y_bin rfl rfl rfl)) rfl ?_
      refine QJ.step (YldS.yld (y_pick_f (cB hb13) rfl)) rfl ?_
      obtain rfl := Option.some.inj h12
      exact QJ.cut_end ⟨rfl, rfl, rfl, rfl, trivial⟩
  refine QJ.step (YldS.yld (y_move rfl)) rfl ?_
  obtain ⟨t14, h15, hm⟩ := bindS hm
  refine QJ.cut 3 [(0, v2), (1, .int .i64 left4), (2, .int .i64 right5), (27, .bool t14)] ?_ ?_
  · rcases Bool.eq_false_or_eq_true t11 with hb16 | hb16
    · obtain rfl := orT h15 hb16
      refine QJ.off rfl rfl (cB hb16) rfl rfl ?_
      refine QJ.off rfl rfl (cB hb16) rfl rfl ?_
      refine QJ.step (YldS.yld (y_pick_t (cB hb16) rfl)) rfl ?_
      exact QJ.cut_end ⟨rfl, rfl, rfl, rfl, trivial⟩
    · replace h15 := orF h15 hb16
      refine QJ.on rfl rfl (cB hb16) (YldS.yld (y_move rfl)) rfl ?_
      refine QJ.on rfl rfl (cB hb16) (YldS.yld (y_bin rfl rfl rfl)) rfl ?_
      refine QJ.step (YldS.yld (y_pick_f (cB hb16) rfl)) rfl ?_
      obtain rfl := Option.some.inj h15
      exact QJ.cut_end ⟨rfl, rfl, rfl, rfl, trivial⟩
  refine QJ.done ?_
  refine PJ.next ?_
  refine WJ.cond (t := t14) rfl (fun hb17 => ?_) (fun hb17 => ?_)
  · replace hm := ifT hm hb17
    refine WJ.seq ?_
    refine WJ.quiet ?_
    refine QJ.step (YldS.yld (y_assign rfl)) rfl ?_
    refine QJ.step (YldS.yld (y_assign rfl)) rfl ?_
    refine QJ.done ?_
    refine PJ.next ?_
    refine WJ.ret ?_
    refine PJ.then_ret ?_
    obtain rfl := Option.some.inj hm
    refine PJ.sel (L' := []) [] ⟨List.nodup_nil, rfl⟩ ?_
    exact PJ.retn (vs := [.int .i64 0, .int .i64 2]) Try.results33 ⟨rfl, rfl, trivial⟩ ⟨rfl, rfl⟩
  · replace hm := ifF hm hb17
    refine WJ.skip ?_
    refine PJ.next ?_
    refine WJ.seq ?_
    refine WJ.seq ?_
    refine WJ.quiet ?_
    refine QJ.step (YldS.yld (y_move rfl)) rfl ?_
    refine QJ.step (YldS.yld (y_lenS Try.runUnderlying27 hr3 rfl)) rfl ?_
    refine QJ.step (YldS.yld (y_bin rfl rfl rfl)) rfl ?_
    refine QJ.done ?_
    refine PJ.next ?_
    refine WJ.cond (t := ((List.length widths1 : Int) == 1)) rfl (fun hb18 => ?_) (fun hb18 => ?_)
    · replace hm := ifT hm hb18
      refine WJ.seq ?_
      refine WJ.quiet ?_
      refine QJ.step (YldS.yld (y_assign rfl)) rfl ?_
      refine QJ.step (YldS.yld (y_assign rfl)) rfl ?_
      refine QJ.done ?_
      refine PJ.next ?_
      refine WJ.ret ?_
      refine PJ.then_ret ?_
      obtain rfl := Option.some.inj hm
      refine PJ.sel (L' := []) [] ⟨List.nodup_nil, rfl⟩ ?_
      exact PJ.retn (vs := [.int .i64 0, .int .i64 6]) Try.results33 ⟨rfl, rfl, trivial⟩ ⟨rfl, rfl⟩
    · replace hm := ifF hm hb18
      refine WJ.skip ?_
      refine PJ.next ?_
      refine WJ.seq ?_
      refine WJ.quiet ?_
      refine QJ.step (YldS.yld (y_move rfl)) rfl ?_
      refine QJ.step (YldS.yld (y_move rfl)) rfl ?_
      refine QJ.step (YldS.yld (y_bin rfl rfl rfl)) rfl ?_
      refine QJ.step (YldS.yld (y_move rfl)) rfl ?_
      refine QJ.step (YldS.yld (y_lenS Try.runUnderlying27 hr3 rfl)) rfl ?_
      refine QJ.step (YldS.yld (y_bin rfl rfl rfl)) rfl ?_
      refine QJ.step (YldS.yld (y_assign rfl)) rfl ?_
      refine QJ.step (YldS.yld (y_assign rfl)) rfl ?_
      refine QJ.done ?_
      refine PJ.next ?_
      obtain ⟨kj20, hk21, hm⟩ := withK_open hm
      refine WJ.join (X := Int) (fun (x : Int) => kj20 x = some r) (fun (x : Int) => [(8, .int .i64 x), (9, .int .i64 (w64 ((List.length widths1 : Int) - 1)))]) (fun (x : Int) => []) ?_ ?_
      · clear hk21
        refine WJ.seq ?_
        refine WJ.quiet ?_
        refine QJ.step (YldS.yld (y_move rfl)) rfl ?_
        refine QJ.step (YldS.yld (y_lenS Try.runUnderlying27 hr3 rfl)) rfl ?_
        refine QJ.step (YldS.yld (y_move rfl)) rfl ?_
        refine QJ.done ?_
        refine PJ.next ?_
        refine WJ.block ?_
        refine WJ.sel (L' := (fun (x : Int × Int) => []) (w64 (right5 - left4), 0)) [] ⟨List.nodup_nil, rfl⟩ ?_
        refine WJ.sub (m' := (fun (x : Int × Int) => [(8, .int .i64 x.1), (9, .int .i64 (w64 ((List.length widths1 : Int) - 1))), (37, v2), (38, .int .i64 (List.length widths1 : Int)), (39, .int .i64 x.2)]) (w64 (right5 - left4), 0)) ⟨rfl, rfl, rfl, rfl, rfl, trivial⟩ ?_
        refine WJ.loop (X := Int × Int) (fun N (x : Int × Int) => i_WidestGap_l1 kj20 widths1 N x.1 x.2 = some r) (fun (x : Int × Int) => [(8, .int .i64 x.1), (9, .int .i64 (w64 ((List.length widths1 : Int) - 1))), (37, v2), (38, .int .i64 (List.length widths1 : Int)), (39, .int .i64 x.2)]) (fun (x : Int × Int) => []) ?_ N (w64 (right5 - left4), 0) hm
        · rintro N ⟨room22, x23⟩ hI
          have hm := hI; clear hI
          cases N with
          | zero => cases hm
          | succ N =>
          unfold i_WidestGap_l1 at hm
          refine WJ.seq ?_
          refine WJ.quiet ?_
          refine QJ.step (YldS.yld (y_bin rfl rfl rfl)) rfl ?_
          refine QJ.done ?_
          refine PJ.next ?_
          refine WJ.seq ?_
          refine WJ.cond (t := decide (x23 < (List.length widths1 : Int))) rfl (fun hb24 => ?_) (fun hb24 => ?_)
          · replace hm := ifT hm hb24
            refine WJ.skip ?_
            refine PJ.next ?_
            refine WJ.seq ?_
            refine WJ.block ?_
            refine WJ.seq ?_
            refine WJ.quiet ?_
            obtain ⟨e25, h26, hm⟩ := bindS hm
            obtain ⟨ad27, _, rfl, ha28, hy29⟩ := hr3.elem h26
            refine QJ.step (YldS.yld (hy29 Try.runUnderlying27 Try.sizeOf2 rfl rfl)) rfl ?_
            refine QJ.step (YldS.yld (y_load1 (v := .int .i64 e25) Try.isAgg2 ha28 St.frozenC rfl)) rfl ?_
            refine QJ.step (YldS.yld (y_assign rfl)) rfl ?_
            refine QJ.done ?_
            refine PJ.next ?_
            refine WJ.quiet ?_
            refine QJ.step (YldS.yld (y_move rfl)) rfl ?_
            refine QJ.step (YldS.yld (y_move rfl)) rfl ?_
            refine QJ.step (YldS.yld (y_bin rfl rfl rfl)) rfl ?_
            refine QJ.step (YldS.yld (y_assign rfl)) rfl ?_
            refine QJ.done ?_
            refine PJ.block_normal (PJ.next ?_)
            refine WJ.quiet ?_
            refine QJ.step (YldS.yld (y_bin rfl rfl rfl)) rfl ?_
            refine QJ.step (YldS.yld (y_move rfl)) rfl ?_
            refine QJ.done ?_
            exact PJ.round (w64 (room22 - e25), w64 (x23 + 1)) [] hm ⟨rfl, rfl, rfl, rfl, rfl, trivial⟩ ⟨List.nodup_nil, rfl⟩
          · replace hm := ifF hm hb24
            refine WJ.exit ?_
            refine PJ.then_exit (PJ.then_exit (PJ.block_exit ?_))
            exact PJ.joined room22 [] hm ⟨rfl, rfl, trivial⟩ ⟨List.nodup_nil, rfl⟩
      · rintro room19 hm
        subst hk21
        refine WJ.seq ?_
        refine WJ.seq ?_
        refine WJ.quiet ?_
        refine QJ.step (YldS.yld (y_move rfl)) rfl ?_
        refine QJ.step (YldS.yld (y_move rfl)) rfl ?_
        refine QJ.step (YldS.yld (y_bin rfl rfl rfl)) rfl ?_
        refine QJ.done ?_
        refine PJ.next ?_
        refine WJ.cond (t := decide (room19 < (w64 ((List.length widths1 : Int) - 1)))) rfl (fun hb30 => ?_) (fun hb30 => ?_)
        · replace hm := ifT hm hb30
          refine WJ.seq ?_
          refine WJ.quiet ?_
          refine QJ.step (YldS.yld (y_assign rfl)) rfl ?_
          refine QJ.step (YldS.yld (y_assign rfl)) rfl ?_
          refine QJ.done ?_
          refine PJ.next ?_
          refine WJ.ret ?_
          refine PJ.then_ret ?_
          obtain rfl := Option.some.inj hm
          refine PJ.sel (L' := []) [] ⟨List.nodup_nil, rfl⟩ ?_
          exact PJ.retn (vs := [.int .i64 0, .int .i64 5]) Try.results33 ⟨rfl, rfl, trivial⟩ ⟨rfl, rfl⟩
        · replace hm := ifF hm hb30
          refine WJ.skip ?_
          refine PJ.next ?_
          refine WJ.seq ?_
          refine WJ.quiet ?_
          refine QJ.step (YldS.yld (y_move rfl)) rfl ?_
          refine QJ.step (YldS.yld (y_move rfl)) rfl ?_
          obtain ⟨q31, h32, hm⟩ := bindS hm
          refine QJ.step (YldS.yld (y_quo' h32 rfl rfl)) rfl ?_
          refine QJ.step (YldS.yld (y_assign rfl)) rfl ?_
          refine QJ.step (YldS.yld (y_assign rfl)) rfl ?_
          refine QJ.done ?_
          refine PJ.next ?_
          refine WJ.ret ?_
          obtain rfl := Option.some.inj hm
          refine PJ.sel (L' := []) [] ⟨List.nodup_nil, rfl⟩ ?_
          exact PJ.retn (vs := [.int .i64 q31, .int .i64 0]) Try.results33 ⟨rfl, rfl, trivial⟩ ⟨rfl, rfl⟩

set_option maxRecDepth 100000 in
set_option maxHeartbeats 1000000 in
theorem ok_s_l00Sum {N : Nat} {list1 : List Int} {r : Int} (hm : s_l00Sum N list1 = some r) (w : World) (v2 : Value) (hr3 : RdS w (cx w).Fz v2 fI64.rp list1) :
    Calls Try.prog 112 #[v2] w (Ret (cx w) (.int .i64 r)) := by
  unfold s_l00Sum at hm
  refine Calls.enter [v2] Try.func112 rfl Try.ntmps112 rfl ?_
  refine WJ.seq ?_
  refine WJ.quiet ?_
  refine QJ.step (YldS.yld (y_assign rfl)) rfl ?_
  refine QJ.done ?_
  refine PJ.next ?_
  refine WJ.seq ?_
  refine WJ.quiet ?_
  refine QJ.step (YldS.yld (y_assign rfl)) rfl ?_
  refine QJ.done ?_
  refine PJ.next ?_
  obtain ⟨kj5, hk6, hm⟩ := withK_open hm
  refine WJ.join (X := Int) (fun (x : Int) => kj5 x = some r) (fun (x : Int) => [(3, .int .i64 x)]) (fun (x : Int) => []) ?_ ?_
  · clear hk6
    refine WJ.seq ?_
    refine WJ.quiet ?_
    refine QJ.step (YldS.yld (y_assign rfl)) rfl ?_
    refine QJ.done ?_
    refine PJ.next ?_
    refine WJ.block ?_
    refine WJ.sel (L' := (fun (x : Int × Int) => []) (0, 0)) [] ⟨List.nodup_nil, rfl⟩ ?_
    refine WJ.sub (m' := (fun (x : Int × Int) => [(0, v2), (3, .int .i64 x.1), (4, .int .i64 x.2)]) (0, 0)) ⟨rfl, rfl, rfl, trivial⟩ ?_
    refine WJ.loop (X := Int × Int) (fun N (x : Int × Int) => s_l00Sum_l1 kj5 list1 N x.1 x.2 = some r) (fun (x : Int × Int) => [(0, v2), (3, .int .i64 x.1), (4, .int .i64 x.2)]) (fun (x : Int × Int) => []) ?_ N (0, 0) hm
    · rintro N ⟨sum7, i8⟩ hI
      have hm := hI; clear hI
      cases N with
      | zero => cases hm
      | succ N =>
      unfold s_l00Sum_l1 at hm
      refine WJ.seq ?_
      refine WJ.seq ?_
      refine WJ.quiet ?_
      refine QJ.step (YldS.yld (y_move rfl)) rfl ?_
      refine QJ.step (YldS.yld (y_move rfl)) rfl ?_
      refine QJ.step (YldS.yld (y_lenS Try.runUnderlying27 hr3 rfl)) rfl ?_
      refine QJ.step (YldS.yld (y_bin rfl rfl rfl)) rfl ?_
      refine QJ.done ?_
      refine PJ.next ?_
      refine WJ.cond (t := decide (i8 < (List.length list1 : Int))) rfl (fun hb9 => ?_) (fun hb9 => ?_)
      · replace hm := ifT hm hb9
        refine WJ.skip ?_
        refine PJ.next ?_
        refine WJ.seq ?_
        refine WJ.block ?_
        refine WJ.quiet ?_
        refine QJ.step (YldS.yld (y_move rfl)) rfl ?_
        refine QJ.step (YldS.yld (y_move rfl)) rfl ?_
        refine QJ.step (YldS.yld (y_move rfl)) rfl ?_
        obtain ⟨e10, h11, hm⟩ := bindS hm
        obtain ⟨ad12, _, rfl, ha13, hy14⟩ := hr3.elem h11
        refine QJ.step (YldS.yld (hy14 Try.runUnderlying27 Try.sizeOf2 rfl rfl)) rfl ?_
        refine QJ.step (YldS.yld (y_load1 (v := .int .i64 e10) Try.isAgg2 ha13 St.frozenC rfl)) rfl ?_
        refine QJ.step (YldS.yld (y_bin rfl rfl rfl)) rfl ?_
        refine QJ.step (YldS.yld (y_assign rfl)) rfl ?_
        refine QJ.done ?_
        refine PJ.block_normal (PJ.next ?_)
        refine WJ.quiet ?_
        refine QJ.step (YldS.yld (y_move rfl)) rfl ?_
        refine QJ.step (YldS.yld (y_bin rfl rfl rfl)) rfl ?_
        refine QJ.step (YldS.yld (y_assign rfl)) rfl ?_
        refine QJ.done ?_
        exact PJ.round (w64 (sum7 + e10), w64 (i8 + 1)) [] hm ⟨rfl, rfl, rfl, trivial⟩ ⟨List.nodup_nil, rfl⟩
      · replace hm := ifF hm hb9
        refine WJ.exit ?_
        refine PJ.then_exit (PJ.then_exit (PJ.block_exit ?_))
        exact PJ.joined sum7 [] hm ⟨rfl, trivial⟩ ⟨List.nodup_nil, rfl⟩
  · rintro sum4 hm
    subst hk6
    refine WJ.seq ?_
    refine WJ.quiet ?_
    refine QJ.step (YldS.yld (y_move rfl)) rfl ?_
    refine QJ.step (YldS.yld (y_assign rfl)) rfl ?_
    refine QJ.done ?_
    refine PJ.next ?_
    refine WJ.ret ?_
    obtain rfl := Option.some.inj hm
    refine PJ.sel (L' := []) [] ⟨List.nodup_nil, rfl⟩ ?_
    exact PJ.retn (vs := [.int .i64 sum4]) Try.results112 ⟨rfl, trivial⟩ ⟨rfl, rfl⟩

set_option maxRecDepth 100000 in
set_option maxHeartbeats 1000000 in
theorem ok_s_WidestGap {N : Nat} {widths1 : List Int} {left4 : Int} {right5 : Int} {r : Int × Int} (hm : s_WidestGap N widths1 left4 right5 = some r) (w : World) (v2 : Value) (hr3 : RdS w (cx w).Fz v2 fI64.rp widths1) :
    Calls Try.prog 34 #[v2, .int .i64 left4, .int .i64 right5] w (Ret (cx w) (tup [.int .i64 r.1, .int .i64 r.2])) := by
  unfold s_WidestGap at hm
  refine Calls.enter [v2, .int .i64 left4, .int .i64 right5] Try.func34 rfl Try.ntmps34 rfl ?_
  refine WJ.seq ?_
  refine WJ.quiet ?_
  refine QJ.step (YldS.yld (y_assign rfl)) rfl ?_
  refine QJ.step (YldS.yld (y_assign rfl)) rfl ?_
  refine QJ.done ?_
  refine PJ.next ?_
  refine WJ.seq ?_
  refine WJ.seq ?_
  refine WJ.quiet ?_
  refine QJ.step (YldS.yld (y_move rfl)) rfl ?_
  obtain ⟨r6, h7, hm⟩ := bindS hm
  refine QJ.step (y_call Try.call110 rfl (RetG.quiet fun w hw => ok_s_l08Columns h7 w _ (hr3.st hw))) rfl ?_
  refine QJ.step (YldS.yld (y_not rfl)) rfl ?_
  refine QJ.step (YldS.yld (y_move rfl)) rfl ?_
  obtain ⟨t8, h9, hm⟩ := bindS hm
  refine QJ.cut 4 [(0, v2), (1, .int .i64 left4), (2, .int .i64 right5), (17, .bool t8)] ?_ ?_
  · rcases Bool.eq_false_or_eq_true (!r6) with hb10 | hb10
    · obtain rfl := orT h9 hb10
      refine QJ.off rfl rfl (cB hb10) rfl rfl ?_
      refine QJ.off rfl rfl (cB hb10) rfl rfl ?_
      refine QJ.off rfl rfl (cB hb10) rfl rfl ?_
      refine QJ.step (YldS.yld (y_pick_t (cB hb10) rfl)) rfl ?_
      exact QJ.cut_end ⟨rfl, rfl, rfl, rfl, trivial⟩
    · replace h9 := orF h9 hb10
      refine QJ.on rfl rfl (cB hb10) (YldS.yld (y_move rfl)) rfl ?_
      obtain ⟨r11, h12, h9⟩ := bindS h9
      refine QJ.on rfl rfl (cB hb10) (y_call Try.call103 rfl (RetG.quiet fun w hw => ok_s_l00In h12 w )) rfl ?_
      refine QJ.on rfl rfl (cB hb10) (YldS.yld (y_not rfl)) rfl ?_
      refine QJ.step (YldS.yld (y_pick_f (cB hb10) rfl)) rfl ?_
      obtain rfl := Option.some.inj h9
      exact QJ.cut_end ⟨rfl, rfl, rfl, rfl, trivial⟩
  refine QJ.step (YldS.yld (y_move rfl)) rfl ?_
  obtain ⟨t13, h14, hm⟩ := bindS hm
  refine QJ.cut 5 [(0, v2), (1, .int .i64 left4), (2, .int .i64 right5), (23, .bool t13)] ?_ ?_
  · rcases Bool.eq_false_or_eq_true t8 with hb15 | hb15
    · obtain rfl := orT h14 hb15
      refine QJ.off rfl rfl (cB hb15) rfl rfl ?_
      refine QJ.off rfl rfl (cB hb15) rfl rfl ?_
      refine QJ.off rfl rfl (cB hb15) rfl rfl ?_
      refine QJ.off rfl rfl (cB hb15) rfl rfl ?_
      refine QJ.step (YldS.yld (y_pick_t (cB hb15) rfl)) rfl ?_
      exact QJ.cut_end ⟨rfl, rfl, rfl, rfl, trivial⟩
    · replace h14 := orF h14 hb15
      refine QJ.on rfl rfl (cB hb15) (YldS.yld (y_move rfl)) rfl ?_
      refine QJ.on rfl rfl (cB hb15) (YldS.yld (y_move rfl)) rfl ?_
      obtain ⟨r16, h17, h14⟩ := bindS h14
      refine QJ.on rfl rfl (cB hb15) (y_call Try.call103 rfl (RetG.quiet fun w hw => ok_s_l00In h17 w )) rfl ?_
      refine QJ.on rfl rfl (cB hb15) (YldS.yld (y_not rfl)) rfl ?_
      refine QJ.step (YldS.yld (y_pick_f (cB hb15) rfl)) rfl ?_
      obtain rfl := Option.some.inj h14
      exact QJ.cut_end ⟨rfl, rfl, rfl, rfl, trivial⟩
  refine QJ.done ?_
  refine PJ.next ?_
  refine WJ.cond (t := t13) rfl (fun hb18 => ?_) (fun hb18 => ?_)
  · replace hm := ifT hm hb18
    refine WJ.seq ?_
    refine WJ.quiet ?_
    refine QJ.step (YldS.yld (y_assign rfl)) rfl ?_
    refine QJ.step (YldS.yld (y_assign rfl)) rfl ?_
    refine QJ.done ?_
    refine PJ.next ?_
    refine WJ.ret ?_
    refine PJ.then_ret ?_
    obtain rfl := Option.some.inj hm
    refine PJ.sel (L' := []) [] ⟨List.nodup_nil, rfl⟩ ?_
    exact PJ.retn (vs := [.int .i64 0, .int .i64 2]) Try.results34 ⟨rfl, rfl, trivial⟩ ⟨rfl, rfl⟩
  · replace hm := ifF hm hb18
    refine WJ.skip ?_
    refine PJ.next ?_
    refine WJ.seq ?_
    refine WJ.seq ?_
    refine WJ.quiet ?_
    refine QJ.step (YldS.yld (y_move rfl)) rfl ?_
    refine QJ.step (YldS.yld (y_lenS Try.runUnderlying27 hr3 rfl)) rfl ?_
    refine QJ.step (YldS.yld (y_bin rfl rfl rfl)) rfl ?_
    refine QJ.done ?_
    refine PJ.next ?_
    refine WJ.cond (t := ((List.length widths1 : Int) == 1)) rfl (fun hb19 => ?_) (fun hb19 => ?_)
    · replace hm := ifT hm hb19
      refine WJ.seq ?_
      refine WJ.quiet ?_
      refine QJ.step (YldS.yld (y_assign rfl)) rfl ?_
      refine QJ.step (YldS.yld (y_assign rfl)) rfl ?_
      refine QJ.done ?_
      refine PJ.next ?_
      refine WJ.ret ?_
      refine PJ.then_ret ?_
      obtain rfl := Option.some.inj hm
      refine PJ.sel (L' := []) [] ⟨List.nodup_nil, rfl⟩ ?_
      exact PJ.retn (vs := [.int .i64 0, .int .i64 6]) Try.results34 ⟨rfl, rfl, trivial⟩ ⟨rfl, rfl⟩
    · replace hm := ifF hm hb19
      refine WJ.skip ?_
      refine PJ.next ?_
      refine WJ.seq ?_
      refine WJ.quiet ?_
      refine QJ.step (YldS.yld (y_move rfl)) rfl ?_
      refine QJ.step (YldS.yld (y_move rfl)) rfl ?_
      refine QJ.step (YldS.yld (y_bin rfl rfl rfl)) rfl ?_
      refine QJ.step (YldS.yld (y_move rfl)) rfl ?_
      obtain ⟨r20, h21, hm⟩ := bindS hm
      refine QJ.step (y_call Try.call112 rfl (RetG.quiet fun w hw => ok_s_l00Sum h21 w _ (hr3.st hw))) rfl ?_
      refine QJ.step (YldS.yld (y_bin rfl rfl rfl)) rfl ?_
      refine QJ.step (YldS.yld (y_assign rfl)) rfl ?_
      refine QJ.done ?_
      refine PJ.next ?_
      refine WJ.seq ?_
      refine WJ.quiet ?_
      refine QJ.step (YldS.yld (y_move rfl)) rfl ?_
      refine QJ.step (YldS.yld (y_lenS Try.runUnderlying27 hr3 rfl)) rfl ?_
      refine QJ.step (YldS.yld (y_bin rfl rfl rfl)) rfl ?_
      refine QJ.step (YldS.yld (y_assign rfl)) rfl ?_
      refine QJ.done ?_
      refine PJ.next ?_
      refine WJ.seq ?_
      refine WJ.seq ?_
      refine WJ.quiet ?_
      refine QJ.step (YldS.yld (y_move rfl)) rfl ?_
      refine QJ.step (YldS.yld (y_move rfl)) rfl ?_
      refine QJ.step (YldS.yld (y_bin rfl rfl rfl)) rfl ?_
      refine QJ.done ?_
      refine PJ.next ?_
      refine WJ.cond (t := decide ((w64 ((w64 (right5 - left4)) - r20)) < (w64 ((List.length widths1 : Int) - 1)))) rfl (fun hb22 => ?_) (fun hb22 => ?_)
      · replace hm := ifT hm hb22
        refine WJ.seq ?_
        refine WJ.quiet ?_
        refine QJ.step (YldS.yld (y_assign rfl)) rfl ?_
        refine QJ.step (YldS.yld (y_assign rfl)) rfl ?_
        refine QJ.done ?_
        refine PJ.next ?_
        refine WJ.ret ?_
        refine PJ.then_ret ?_
        obtain rfl := Option.some.inj hm
        refine PJ.sel (L' := []) [] ⟨List.nodup_nil, rfl⟩ ?_
        exact PJ.retn (vs := [.int .i64 0, .int .i64 5]) Try.results34 ⟨rfl, rfl, trivial⟩ ⟨rfl, rfl⟩
      · replace hm := ifF hm hb22
        refine WJ.skip ?_
        refine PJ.next ?_
        refine WJ.seq ?_
        refine WJ.quiet ?_
        refine QJ.step (YldS.yld (y_move rfl)) rfl ?_
        refine QJ.step (YldS.yld (y_move rfl)) rfl ?_
        obtain ⟨q23, h24, hm⟩ := bindS hm
        refine QJ.step (YldS.yld (y_quo' h24 rfl rfl)) rfl ?_
        refine QJ.step (YldS.yld (y_assign rfl)) rfl ?_
        refine QJ.step (YldS.yld (y_assign rfl)) rfl ?_
        refine QJ.done ?_
        refine PJ.next ?_
        refine WJ.ret ?_
        obtain rfl := Option.some.inj hm
        refine PJ.sel (L' := []) [] ⟨List.nodup_nil, rfl⟩ ?_
        exact PJ.retn (vs := [.int .i64 q23, .int .i64 0]) Try.results34 ⟨rfl, rfl, trivial⟩ ⟨rfl, rfl⟩

set_option maxRecDepth 100000 in
set_option maxHeartbeats 1000000 in
theorem ok_s_l08DrawNumber {s1 : L00Src} {g2 : Nat} {r : Str × L00Src} (hm : s_l08DrawNumber s1 = some r) (w : World) (S : Nat → Prop) (v3 : Value) (hr4 : RdS w (Cx.Fz ⟨w, S⟩) v3 fByte.rp s1.code) (hA : (box g2 161 [v3, .int .i64 s1.at_, .int .u64 s1.seed]).holds w S) :
    Calls Try.prog 113 #[pt g2 0] w (RetG ⟨w, S⟩ fun u L => (u = str r.1 ∧ L = [box g2 161 [v3, .int .i64 r.2.at_, .int .u64 r.2.seed]])) := by
  unfold s_l08DrawNumber at hm
  refine Calls.enter1 hA [pt g2 0] Try.func113 rfl Try.ntmps113 rfl ?_
  refine WJ.seq ?_
  refine WJ.quiet ?_
  refine QJ.step (YldS.yld (y_assign rfl)) rfl ?_
  refine QJ.done ?_
  refine PJ.next ?_
  refine WJ.seq ?_
  refine WJ.reg ?_
  refine SJ.q (YldS.yld (y_move rfl)) rfl ?_
  refine SJ.buildSlice (R := fStr) (os := [.const (str [48]), .const (str [49, 50]), .const (str [45, 51]), .const (str [52, 46, 53, 48]), .const (str [49, 48, 48, 46, 48, 53]), .const (str [45, 48, 46, 53]), .const (str [55, 46, 49, 50, 53]), .const (str [49, 50, 51, 52, 53, 54]), .const (str []), .const (str [45]), .const (str [49, 46]), .const (str [46, 53]), .const (str [49, 46, 50, 46, 51]), .const (str [120]), .const (str [49, 50, 51, 52, 53, 54, 55, 56, 57, 48, 49, 50, 51, 52, 53, 54, 55, 56, 57, 48, 49, 50, 51, 52, 53, 54, 46, 55, 56, 57]), .const (str [49, 50, 51, 52, 53, 54, 55, 56, 57, 48, 49, 50, 51, 52, 53, 54, 55, 56, 57, 48, 49, 50, 51, 52, 53, 54, 55, 46, 56, 57, 48, 49])]) ([[48], [49, 50], [45, 51], [52, 46, 53, 48], [49, 48, 48, 46, 48, 53], [45, 48, 46, 53], [55, 46, 49, 50, 53], [49, 50, 51, 52, 53, 54], [], [45], [49, 46], [46, 53], [49, 46, 50, 46, 51], [120], [49, 50, 51, 52, 53, 54, 55, 56, 57, 48, 49, 50, 51, 52, 53, 54, 55, 56, 57, 48, 49, 50, 51, 52, 53, 54, 46, 55, 56, 57], [49, 50, 51, 52, 53, 54, 55, 56, 57, 48, 49, 50, 51, 52, 53, 54, 55, 56, 57, 48, 49, 50, 51, 52, 53, 54, 55, 46, 56, 57, 48, 49]] : List Str) Try.runUnderlying45 Try.sizeOf9 Try.zeroValue9 rfl rfl rfl rfl rfl rfl fun v5 => ?_
  obtain ⟨r6, h7, hm⟩ := bindS hm
  refine SJ.call2 (k := 1) rfl Try.call96 rfl (fun w S hw hA hO hB => ok_s_l00Src_text h7 w S _ (hr4.st1 hw hO) _ (hB.row_rd (j := 0) (k := 1) rfl rfl) hA) rfl ?_
  rintro _ _ ⟨rfl, rfl⟩
  refine SJ.q (YldS.yld (y_assign rfl)) rfl ?_
  refine SJ.nil ?_
  refine PJ.next ?_
  refine WJ.ret ?_
  obtain rfl := Option.some.inj hm
  refine PJ.sel (L' := [box g2 161 [v3, .int .i64 r6.2.at_, .int .u64 r6.2.seed]]) [0] ⟨by decide, rfl⟩ ?_
  exact PJ.retn (vs := [str r6.1]) Try.results113 ⟨rfl, trivial⟩ ⟨rfl, rfl⟩

set_option maxRecDepth 100000 in
set_option maxHeartbeats 1000000 in
theorem ok_s_DrawAlignNumbers {N : Nat} {code1 : List UInt8} {r : (List Str)} (hm : s_DrawAlignNumbers N code1 = some r) (w : World) (v2 : Value) (hr3 : RdS w (cx w).Fz v2 fByte.rp code1) :
    Calls Try.prog 35 #[v2] w (RetG (cx w) fun u L => ∃ (u1 : Value), (u = u1 ∧ L = [row u1 9 fStr r])) := by
  unfold s_DrawAlignNumbers at hm
  refine Calls.enter [v2] Try.func35 rfl Try.ntmps35 rfl ?_
  refine WJ.seq ?_
  refine WJ.quiet ?_
  refine QJ.step (YldS.yld (y_assign rfl)) rfl ?_
  refine QJ.done ?_
  refine PJ.next ?_
  refine WJ.seq ?_
  refine WJ.reg ?_
  refine SJ.q (YldS.yld (y_move rfl)) rfl ?_
  obtain ⟨r4, h5, hm⟩ := bindS hm
  refine SJ.call Try.call89 rfl (fun w hw => ok_s_l00From h5 w _ (hr3.st hw)) rfl ?_
  rintro _ _ ⟨g6, rfl, rfl⟩
  refine SJ.q (YldS.yld (y_assign rfl)) rfl ?_
  refine SJ.nil ?_
  refine PJ.next ?_
  refine WJ.seq ?_
  refine WJ.reg ?_
  refine SJ.buildSlice (R := fStr) (os := []) [] Try.runUnderlying45 Try.sizeOf9 Try.zeroValue9 rfl rfl rfl rfl rfl rfl fun v7 => ?_
  refine SJ.q (YldS.yld (y_assign rfl)) rfl ?_
  refine SJ.nil ?_
  refine PJ.next ?_
  refine WJ.seq ?_
  refine WJ.reg ?_
  refine SJ.q (YldS.yld (y_move rfl)) rfl ?_
  obtain ⟨r8, h9, hm⟩ := bindS hm
  refine SJ.call1 (k := 1) rfl Try.call92 rfl (fun w S hw hA hO => ok_s_l00Src_pick h9 w S _ (hr3.st1 hw hO) hA) rfl ?_
  rintro _ _ ⟨rfl, rfl⟩
  refine SJ.q (YldS.yld (y_assign rfl)) rfl ?_
  refine SJ.nil ?_
  refine PJ.next ?_
  obtain ⟨kj13, hk14, hm⟩ := withK_open hm
  refine WJ.join (X := Int × Int × Int) (fun (x : Int × Int × Int) => kj13 x.1 x.2.1 x.2.2 = some r) (fun (x : Int × Int × Int) => [(3, pt g6 0), (4, v7), (5, .int .i64 x.2.2)]) (fun (x : Int × Int × Int) => [box g6 161 [v2, .int .i64 x.1, .int .u64 x.2.1], row v7 9 fStr []]) ?_ ?_
  · clear hk14
    refine WJ.seq ?_
    refine WJ.reg ?_
    refine SJ.q (YldS.yld (y_move rfl)) rfl ?_
    obtain ⟨r15, h16, hm⟩ := bindS hm
    refine SJ.call1 (k := 0) rfl Try.call91 rfl (fun w S hw hA hO => ok_s_l00Src_one h16 w S _ (hr3.st1 hw hO) hA) rfl ?_
    rintro _ _ ⟨rfl, rfl⟩
    refine SJ.nil ?_
    refine PJ.next ?_
    refine WJ.cond (t := r15.1) rfl (fun hb17 => ?_) (fun hb17 => ?_)
    · replace hm := ifT hm hb17
      refine WJ.reg ?_
      refine SJ.q (YldS.yld (y_move rfl)) rfl ?_
      obtain ⟨r18, h19, hm⟩ := bindS hm
      refine SJ.call1 (k := 0) rfl Try.call92 rfl (fun w S hw hA hO => ok_s_l00Src_pick h19 w S _ (hr3.st1 hw hO) hA) rfl ?_
      rintro _ _ ⟨rfl, rfl⟩
      refine SJ.q (YldS.yld (y_bin rfl rfl rfl)) rfl ?_
      refine SJ.q (YldS.yld (y_assign rfl)) rfl ?_
      refine SJ.nil ?_
      exact PJ.joined (r18.2.at_, r18.2.seed, w64 (40 + r18.1)) [0, 1] hm ⟨rfl, rfl, rfl, trivial⟩ ⟨by decide, rfl⟩
    · replace hm := ifF hm hb17
      refine WJ.skip ?_
      exact PJ.joined (r15.2.at_, r15.2.seed, r8.1) [0, 1] hm ⟨rfl, rfl, rfl, trivial⟩ ⟨by decide, rfl⟩
  · rintro ⟨x10, x11, n12⟩ hm
    subst hk14
    obtain ⟨kj24, hk25, hm⟩ := withK_open hm
    refine WJ.join (X := Int × Int × (List Str) × Value) (fun (x : Int × Int × (List Str) × Value) => kj24 x.1 x.2.1 x.2.2.1 = some r) (fun (x : Int × Int × (List Str) × Value) => [(3, pt g6 0), (4, x.2.2.2), (5, .int .i64 n12)]) (fun (x : Int × Int × (List Str) × Value) => [box g6 161 [v2, .int .i64 x.1, .int .u64 x.2.1], row x.2.2.2 9 fStr x.2.2.1]) ?_ ?_
    · clear hk25
      refine WJ.seq ?_
      refine WJ.quiet ?_
      refine QJ.step (YldS.yld (y_move rfl)) rfl ?_
      refine QJ.step (YldS.yld (y_assign rfl)) rfl ?_
      refine QJ.done ?_
      refine PJ.next ?_
      refine WJ.block ?_
      refine WJ.sel (L' := (fun (x : Int × Int × (List Str) × Value × Int) => [box g6 161 [v2, .int .i64 x.1, .int .u64 x.2.1], row x.2.2.2.1 9 fStr x.2.2.1]) (x10, x11, [], v7, n12)) [0, 1] ⟨by decide, rfl⟩ ?_
      refine WJ.sub (m' := (fun (x : Int × Int × (List Str) × Value × Int) => [(3, pt g6 0), (4, x.2.2.2.1), (5, .int .i64 n12), (6, .int .i64 x.2.2.2.2)]) (x10, x11, [], v7, n12)) ⟨rfl, rfl, rfl, rfl, trivial⟩ ?_
      refine WJ.loop (X := Int × Int × (List Str) × Value × Int) (fun N (x : Int × Int × (List Str) × Value × Int) => s_DrawAlignNumbers_l1 kj24 code1 N x.1 x.2.1 x.2.2.1 x.2.2.2.2 = some r) (fun (x : Int × Int × (List Str) × Value × Int) => [(3, pt g6 0), (4, x.2.2.2.1), (5, .int .i64 n12), (6, .int .i64 x.2.2.2.2)]) (fun (x : Int × Int × (List Str) × Value × Int) => [box g6 161 [v2, .int .i64 x.1, .int .u64 x.2.1], row x.2.2.2.1 9 fStr x.2.2.1]) ?_ N (x10, x11, [], v7, n12) hm
      · rintro N ⟨x26, x27, l28, v29, k30⟩ hI
        have hm := hI; clear hI
        cases N with
        | zero => cases hm
        | succ N =>
        unfold s_DrawAlignNumbers_l1 at hm
        refine WJ.seq ?_
        refine WJ.seq ?_
        refine WJ.quiet ?_
        refine QJ.step (YldS.yld (y_move rfl)) rfl ?_
        refine QJ.step (YldS.yld (y_bin rfl rfl rfl)) rfl ?_
        refine QJ.done ?_
        refine PJ.next ?_
        refine WJ.cond (t := decide (k30 > 0)) rfl (fun hb31 => ?_) (fun hb31 => ?_)
        · replace hm := ifT hm hb31
          refine WJ.skip ?_
          refine PJ.next ?_
          refine WJ.seq ?_
          refine WJ.block ?_
          refine WJ.reg ?_
          refine SJ.q (YldS.yld (y_move rfl)) rfl ?_
          refine SJ.q (YldS.yld (y_move rfl)) rfl ?_
          refine SJ.buildSlice (R := fStr) (os := [.const (str [48]), .const (str [49, 50]), .const (str [45, 51]), .const (str [52, 46, 53, 48]), .const (str [49, 48, 48, 46, 48, 53]), .const (str [45, 48, 46, 53])]) ([[48], [49, 50], [45, 51], [52, 46, 53, 48], [49, 48, 48, 46, 48, 53], [45, 48, 46, 53]] : List Str) Try.runUnderlying45 Try.sizeOf9 Try.zeroValue9 rfl rfl rfl rfl rfl rfl fun v32 => ?_
          obtain ⟨r33, h34, hm⟩ := bindS hm
          refine SJ.call2 (k := 1) rfl Try.call96 rfl (fun w S hw hA hO hB => ok_s_l00Src_text h34 w S _ (hr3.st1 hw hO) _ (hB.row_rd (j := 0) (k := 1) rfl rfl) hA) rfl ?_
          rintro _ _ ⟨rfl, rfl⟩
          refine SJ.buildSlice (R := fStr) (os := [.tmp 25]) [r33.1] Try.runUnderlying45 Try.sizeOf9 Try.zeroValue9 rfl rfl rfl rfl rfl rfl fun v35 => ?_
          obtain ⟨l36, h37, hm⟩ := bindS hm
          refine SJ.append (k := 3) (R := fStr) h37 rfl Try.underlying45 el9 rfl rfl rfl (fun w hw => (hw.row_rd (k := 0) rfl)) rfl fun v38 => ?_
          refine SJ.q (YldS.yld (y_assign rfl)) rfl ?_
          refine SJ.nil ?_
          refine PJ.block_normal (PJ.next ?_)
          refine WJ.quiet ?_
          refine QJ.step (YldS.yld (y_move rfl)) rfl ?_
          refine QJ.step (YldS.yld (y_bin rfl rfl rfl)) rfl ?_
          refine QJ.step (YldS.yld (y_assign rfl)) rfl ?_
          refine QJ.done ?_
          exact PJ.round (r33.2.at_, r33.2.seed, l36, v38, w64 (k30 - 1)) [1, 3] hm ⟨rfl, rfl, rfl, rfl, trivial⟩ ⟨by decide, rfl⟩
        · replace hm := ifF hm hb31
          refine WJ.exit ?_
          refine PJ.then_exit (PJ.then_exit (PJ.block_exit ?_))
          exact PJ.joined (x26, x27, l28, v29) [0, 1] hm ⟨rfl, rfl, rfl, trivial⟩ ⟨by decide, rfl⟩
    · rintro ⟨x20, x21, l22, v23⟩ hm
      subst hk25
      obtain ⟨kj40, hk41, hm⟩ := withK_open hm
      refine WJ.join (X := (List Str)) (fun (x : (List Str)) => kj40 x = some r) (fun (x : (List Str)) => [(4, v23)]) (fun (x : (List Str)) => [row v23 9 fStr x]) ?_ ?_
      · clear hk41
        refine WJ.seq ?_
        refine WJ.reg ?_
        refine SJ.q (YldS.yld (y_move rfl)) rfl ?_
        refine SJ.q (YldS.yld (y_bin rfl rfl rfl)) rfl ?_
        refine SJ.q (YldS.yld (y_move rfl)) rfl ?_
        obtain ⟨x44, h43, hm⟩ := bindS hm
        refine SJ.cut 3 [(3, pt g6 0), (4, v23), (33, .bool x44.1)] [box g6 161 [v2, .int .i64 x44.2.at_, .int .u64 x44.2.seed], row v23 9 fStr l22] ?_ ?_
        · rcases Bool.eq_false_or_eq_true (decide (n12 > 0)) with hb45 | hb45
          · replace h43 := ifT h43 hb45
            refine SJ.on rfl rfl (cB hb45) (SJ.q (YldS.yld (y_move rfl)) rfl ?_)
            obtain ⟨r46, h47, h43⟩ := bindS h43
            refine SJ.on rfl rfl (cB hb45) (SJ.call1 (k := 0) rfl Try.call91 rfl (fun w S hw hA hO => ok_s_l00Src_one h47 w S _ (hr3.st1 hw hO) hA) rfl ?_)
            rintro _ _ ⟨rfl, rfl⟩
            refine SJ.q (YldS.yld (y_pick_t (cB hb45) rfl)) rfl ?_
            obtain rfl := Option.some.inj h43
            exact SJ.cut_end [0, 1] ⟨rfl, rfl, rfl, trivial⟩ ⟨by decide, rfl⟩
          · replace h43 := ifF h43 hb45
            obtain rfl := Option.some.inj h43
            refine SJ.off rfl rfl (cB hb45) rfl rfl ?_
            refine SJ.off rfl rfl (cB hb45) rfl rfl ?_
            refine SJ.q (YldS.yld (y_pick_f (cB hb45) rfl)) rfl ?_
            exact SJ.cut_end [0, 1] ⟨rfl, rfl, rfl, trivial⟩ ⟨by decide, rfl⟩
        refine SJ.nil ?_
        refine PJ.next ?_
        refine WJ.cond (t := x44.1) rfl (fun hb48 => ?_) (fun hb48 => ?_)
        · replace hm := ifT hm hb48
          refine WJ.reg ?_
          refine SJ.q (YldS.yld (y_move rfl)) rfl ?_
          refine SJ.q (YldS.yld (y_move rfl)) rfl ?_
          obtain ⟨r49, h50, hm⟩ := bindS hm
          refine SJ.call1 (k := 0) rfl Try.call113 rfl (fun w S hw hA hO => ok_s_l08DrawNumber h50 w S _ (hr3.st1 hw hO) hA) rfl ?_
          rintro _ _ ⟨rfl, rfl⟩
          obtain ⟨e51, h52, hm⟩ := bindS hm
          refine SJ.q (YldS.yld (y_ixRow (k := 1) (R := fStr) rfl Try.runUnderlying45 Try.sizeOf9 rfl rfl h52)) rfl ?_
          refine SJ.storeRL (k := 1) (i := (Int.toNat 0)) (off := 0) (us := [str r49.1]) (b := r49.1) rfl rfl (idx_get h52) rfl rfl Try.sizeOf9 rfl rfl rfl ?_
          refine SJ.nil ?_
          exact PJ.joined (List.set l22 (Int.toNat 0) r49.1) [1] hm ⟨rfl, trivial⟩ ⟨by decide, rfl⟩
        · replace hm := ifF hm hb48
          refine WJ.skip ?_
          exact PJ.joined l22 [1] hm ⟨rfl, trivial⟩ ⟨by decide, rfl⟩
      · rintro l39 hm
        subst hk41
        refine WJ.seq ?_
        refine WJ.quiet ?_
        refine QJ.step (YldS.yld (y_move rfl)) rfl ?_
        refine QJ.step (YldS.yld (y_assign rfl)) rfl ?_
        refine QJ.done ?_
        refine PJ.next ?_
        refine WJ.ret ?_
        obtain rfl := Option.some.inj hm
        refine PJ.sel (L' := [row v23 9 fStr l39]) [0] ⟨by decide, rfl⟩ ?_
        exact PJ.retn (vs := [v23]) Try.results35 ⟨rfl, trivial⟩ ⟨_, rfl, rfl⟩

set_option maxRecDepth 100000 in
set_option maxHeartbeats 1000000 in
theorem ok_i_isDigit {b1 : UInt8} {r : Bool} (hm : i_isDigit b1 = some r) (w : World)  :
    Calls Try.prog 160 #[.int .u8 (UInt8.toNat b1 : Int)] w (Ret (cx w) (.bool r)) := by
  unfold i_isDigit at hm
  refine Calls.enter [.int .u8 (UInt8.toNat b1 : Int)] Try.func160 rfl Try.ntmps160 rfl ?_
  refine WJ.seq ?_
  refine WJ.quiet ?_
  refine QJ.step (YldS.yld (y_assign rfl)) rfl ?_
  refine QJ.done ?_
  refine PJ.next ?_
  refine WJ.seq ?_
  refine WJ.quiet ?_
  refine QJ.step (YldS.yld (y_move rfl)) rfl ?_
  refine QJ.step (YldS.yld (y_bin8 b1 (48 : UInt8) rfl rfl rfl)) rfl ?_
  refine QJ.step (YldS.yld (y_move rfl)) rfl ?_
  obtain ⟨t2, h3, hm⟩ := bindS hm
  refine QJ.cut 3 [(8, .bool t2)] ?_ ?_
  · rcases Bool.eq_false_or_eq_true (decide (b1 ≥ (48 : UInt8))) with hb4 | hb4
    · replace h3 := andT h3 hb4
      refine QJ.on rfl rfl (cB hb4) (YldS.yld (y_move rfl)) rfl ?_
      refine QJ.on rfl rfl (cB hb4) (YldS.yld (y_bin8 b1 (57 : UInt8) rfl rfl rfl)) rfl ?_
      refine QJ.step (YldS.yld (y_pick_t (cB hb4) rfl)) rfl ?_
      obtain rfl := Option.some.inj h3
      exact QJ.cut_end ⟨rfl, trivial⟩
    · obtain rfl := andF h3 hb4
      refine QJ.off rfl rfl (cB hb4) rfl rfl ?_
      refine QJ.off rfl rfl (cB hb4) rfl rfl ?_
      refine QJ.step (YldS.yld (y_pick_f (cB hb4) rfl)) rfl ?_
      exact QJ.cut_end ⟨rfl, trivial⟩
  refine QJ.step (YldS.yld (y_assign rfl)) rfl ?_
  refine QJ.done ?_
  refine PJ.next ?_
  refine WJ.ret ?_
  obtain rfl := Option.some.inj hm
  refine PJ.sel (L' := []) [] ⟨List.nodup_nil, rfl⟩ ?_
  exact PJ.retn (vs := [.bool t2]) Try.results160 ⟨rfl, trivial⟩ ⟨rfl, rfl⟩

set_option maxRecDepth 100000 in
set_option maxHeartbeats 1000000 in
theorem ok_i_pointOf {N : Nat} {s1 : Str} {r : Int × Bool} (hm : i_pointOf N s1 = some r) (w : World)  :
    Calls Try.prog 114 #[str s1] w (Ret (cx w) (tup [.int .i64 r.1, .bool r.2])) := by
  unfold i_pointOf at hm
  refine Calls.enter [str s1] Try.func114 rfl Try.ntmps114 rfl ?_
  refine WJ.seq ?_
  refine WJ.quiet ?_
  refine QJ.step (YldS.yld (y_assign rfl)) rfl ?_
  refine QJ.step (YldS.yld (y_assign rfl)) rfl ?_
  refine QJ.done ?_
  refine PJ.next ?_
  refine WJ.seq ?_
  refine WJ.quiet ?_
  refine QJ.step (YldS.yld (y_assign rfl)) rfl ?_
  refine QJ.done ?_
  refine PJ.next ?_
  obtain ⟨kj3, hk4, hm⟩ := withK_open hm
  refine WJ.join (X := Int) (fun (x : Int) => kj3 x = some r) (fun (x : Int) => [(0, str s1), (4, .int .i64 x)]) (fun (x : Int) => []) ?_ ?_
  · clear hk4
    refine WJ.seq ?_
    refine WJ.quiet ?_
    refine QJ.step (YldS.yld (y_move rfl)) rfl ?_
    refine QJ.step (YldS.yld (y_lenStr Try.runUnderlying9 rfl)) rfl ?_
    refine QJ.step (YldS.yld (y_bin rfl rfl rfl)) rfl ?_
    refine QJ.step (YldS.yld (y_move rfl)) rfl ?_
    obtain ⟨t5, h6, hm⟩ := bindS hm
    refine QJ.cut 4 [(0, str s1), (4, .int .i64 0), (15, .bool t5)] ?_ ?_
    · rcases Bool.eq_false_or_eq_true (decide ((List.length s1 : Int) > 0)) with hb7 | hb7
      · replace h6 := andT h6 hb7
        refine QJ.on rfl rfl (cB hb7) (YldS.yld (y_move rfl)) rfl ?_
        obtain ⟨c8, h9, h6⟩ := bindS h6
        refine QJ.on rfl rfl (cB hb7) (YldS.yld (y_idxStr Try.runUnderlying9 rfl rfl h9)) rfl ?_
        refine QJ.on rfl rfl (cB hb7) (YldS.yld (y_bin8 c8 (45 : UInt8) rfl rfl rfl)) rfl ?_
        refine QJ.step (YldS.yld (y_pick_t (cB hb7) rfl)) rfl ?_
        obtain rfl := Option.some.inj h6
        exact QJ.cut_end ⟨rfl, rfl, rfl, trivial⟩
      · obtain rfl := andF h6 hb7
        refine QJ.off rfl rfl (cB hb7) rfl rfl ?_
        refine QJ.off rfl rfl (cB hb7) rfl rfl ?_
        refine QJ.off rfl rfl (cB hb7) rfl rfl ?_
        refine QJ.step (YldS.yld (y_pick_f (cB hb7) rfl)) rfl ?_
        exact QJ.cut_end ⟨rfl, rfl, rfl, trivial⟩
    refine QJ.done ?_
    refine PJ.next ?_
    refine WJ.cond (t := t5) rfl (fun hb10 => ?_) (fun hb10 => ?_)
    · replace hm := ifT hm hb10
      refine WJ.quiet ?_
      refine QJ.step (YldS.yld (y_assign rfl)) rfl ?_
      refine QJ.done ?_
      exact PJ.joined 1 [] hm ⟨rfl, rfl, trivial⟩ ⟨List.nodup_nil, rfl⟩
    · replace hm := ifF hm hb10
      refine WJ.skip ?_
      exact PJ.joined 0 [] hm ⟨rfl, rfl, trivial⟩ ⟨List.nodup_nil, rfl⟩
  · rintro start2 hm
    subst hk4
    refine WJ.seq ?_
    refine WJ.quiet ?_
    refine QJ.step (YldS.yld (y_assign rfl)) rfl ?_
    refine QJ.step (YldS.yld (y_assign rfl)) rfl ?_
    refine QJ.done ?_
    refine PJ.next ?_
    obtain ⟨kj13, hk14, hm⟩ := withK_open hm
    refine WJ.join (X := Int × Int) (fun (x : Int × Int) => kj13 x.1 x.2 = some r) (fun (x : Int × Int) => [(0, str s1), (5, .int .i64 x.1), (6, .int .i64 x.2)]) (fun (x : Int × Int) => []) ?_ ?_
    · clear hk14
      refine WJ.seq ?_
      refine WJ.quiet ?_
      refine QJ.step (YldS.yld (y_move rfl)) rfl ?_
      refine QJ.step (YldS.yld (y_assign rfl)) rfl ?_
      refine QJ.done ?_
      refine PJ.next ?_
      refine WJ.block ?_
      refine WJ.sel (L' := (fun (x : Int × Int × Int) => []) ((-1), 0, start2)) [] ⟨List.nodup_nil, rfl⟩ ?_
      refine WJ.sub (m' := (fun (x : Int × Int × Int) => [(0, str s1), (5, .int .i64 x.1), (6, .int .i64 x.2.1), (7, .int .i64 x.2.2)]) ((-1), 0, start2)) ⟨rfl, rfl, rfl, rfl, trivial⟩ ?_
      refine WJ.loop (X := Int × Int × Int) (fun N (x : Int × Int × Int) => i_pointOf_l1 kj13 s1 N x.1 x.2.1 x.2.2 = some r) (fun (x : Int × Int × Int) => [(0, str s1), (5, .int .i64 x.1), (6, .int .i64 x.2.1), (7, .int .i64 x.2.2)]) (fun (x : Int × Int × Int) => []) ?_ N ((-1), 0, start2) hm
      · rintro N ⟨point15, digits16, i17⟩ hI
        have hm := hI; clear hI
        cases N with
        | zero => cases hm
        | succ N =>
        unfold i_pointOf_l1 at hm
        refine WJ.seq ?_
        refine WJ.seq ?_
        refine WJ.quiet ?_
        refine QJ.step (YldS.yld (y_move rfl)) rfl ?_
        refine QJ.step (YldS.yld (y_move rfl)) rfl ?_
        refine QJ.step (YldS.yld (y_lenStr Try.runUnderlying9 rfl)) rfl ?_
        refine QJ.step (YldS.yld (y_bin rfl rfl rfl)) rfl ?_
        refine QJ.done ?_
        refine PJ.next ?_
        refine WJ.cond (t := decide (i17 < (List.length s1 : Int))) rfl (fun hb18 => ?_) (fun hb18 => ?_)
        · replace hm := ifT hm hb18
          refine WJ.skip ?_
          refine PJ.next ?_
          obtain ⟨kj21, hk22, hm⟩ := withK_open hm
          refine WJ.join (X := Int × Int) (fun (x : Int × Int) => kj21 x.1 x.2 = some r) (fun (x : Int × Int) => [(0, str s1), (5, .int .i64 x.1), (6, .int .i64 x.2), (7, .int .i64 i17)]) (fun (x : Int × Int) => []) ?_ ?_
          · clear hk22
            refine WJ.block ?_
            refine WJ.block ?_
            refine WJ.seq ?_
            refine WJ.quiet ?_
            refine QJ.step (YldS.yld (y_move rfl)) rfl ?_
            refine QJ.step (YldS.yld (y_move rfl)) rfl ?_
            obtain ⟨c23, h24, hm⟩ := bindS hm
            refine QJ.step (YldS.yld (y_idxStr Try.runUnderlying9 rfl rfl h24)) rfl ?_
            obtain ⟨r25, h26, hm⟩ := bindS hm
            refine QJ.step (y_call Try.call160 rfl (RetG.quiet fun w hw => ok_i_isDigit h26 w )) rfl ?_
            refine QJ.step (YldS.yld (y_assign rfl)) rfl ?_
            refine QJ.done ?_
            refine PJ.next ?_
            refine WJ.cond (t := r25) rfl (fun hb27 => ?_) (fun hb27 => ?_)
            · replace hm := ifT hm hb27
              refine WJ.quiet ?_
              refine QJ.step (YldS.yld (y_move rfl)) rfl ?_
              refine QJ.step (YldS.yld (y_bin rfl rfl rfl)) rfl ?_
              refine QJ.step (YldS.yld (y_assign rfl)) rfl ?_
              refine QJ.done ?_
              refine PJ.block_normal (PJ.block_normal ?_)
              exact PJ.joined (point15, w64 (digits16 + 1)) [] hm ⟨rfl, rfl, rfl, rfl, trivial⟩ ⟨List.nodup_nil, rfl⟩
            · replace hm := ifF hm hb27
              refine WJ.seq ?_
              refine WJ.quiet ?_
              refine QJ.step (YldS.yld (y_move rfl)) rfl ?_
              refine QJ.step (YldS.yld (y_move rfl)) rfl ?_
              obtain ⟨c28, h29, hm⟩ := bindS hm
              refine QJ.step (YldS.yld (y_idxStr Try.runUnderlying9 rfl rfl h29)) rfl ?_
              refine QJ.step (YldS.yld (y_bin8 c28 (46 : UInt8) rfl rfl rfl)) rfl ?_
              refine QJ.step (YldS.yld (y_move rfl)) rfl ?_
              obtain ⟨t30, h31, hm⟩ := bindS hm
              refine QJ.cut 3 [(0, str s1), (6, .int .i64 digits16), (7, .int .i64 i17), (38, .bool t30)] ?_ ?_
              · rcases Bool.eq_false_or_eq_true (c28 == (46 : UInt8)) with hb32 | hb32
                · replace h31 := andT h31 hb32
                  refine QJ.on rfl rfl (cB hb32) (YldS.yld (y_move rfl)) rfl ?_
                  refine QJ.on rfl rfl (cB hb32) (YldS.yld (y_bin rfl rfl rfl)) rfl ?_
                  refine QJ.step (YldS.yld (y_pick_t (cB hb32) rfl)) rfl ?_
                  obtain rfl := Option.some.inj h31
                  exact QJ.cut_end ⟨rfl, rfl, rfl, rfl, trivial⟩
                · obtain rfl := andF h31 hb32
                  refine QJ.off rfl rfl (cB hb32) rfl rfl ?_
                  refine QJ.off rfl rfl (cB hb32) rfl rfl ?_
                  refine QJ.step (YldS.yld (y_pick_f (cB hb32) rfl)) rfl ?_
                  exact QJ.cut_end ⟨rfl, rfl, rfl, rfl, trivial⟩
              refine QJ.step (YldS.yld (y_move rfl)) rfl ?_
              obtain ⟨t33, h34, hm⟩ := bindS hm
              refine QJ.cut 3 [(0, str s1), (7, .int .i64 i17), (42, .bool t33)] ?_ ?_
              · rcases Bool.eq_false_or_eq_true t30 with hb35 | hb35
                · replace h34 := andT h34 hb35
                  refine QJ.on rfl rfl (cB hb35) (YldS.yld (y_move rfl)) rfl ?_
                  refine QJ.on rfl rfl (cB hb35) (YldS.yld (y_bin rfl rfl rfl)) rfl ?_
                  refine QJ.step (YldS.yld (y_pick_t (cB hb35) rfl)) rfl ?_
                  obtain rfl := Option.some.inj h34
                  exact QJ.cut_end ⟨rfl, rfl, rfl, trivial⟩
                · obtain rfl := andF h34 hb35
                  refine QJ.off rfl rfl (cB hb35) rfl rfl ?_
                  refine QJ.off rfl rfl (cB hb35) rfl rfl ?_
                  refine QJ.step (YldS.yld (y_pick_f (cB hb35) rfl)) rfl ?_
                  exact QJ.cut_end ⟨rfl, rfl, rfl, trivial⟩
              refine QJ.step (YldS.yld (y_assign rfl)) rfl ?_
              refine QJ.done ?_
              refine PJ.next ?_
              refine WJ.cond (t := t33) rfl (fun hb36 => ?_) (fun hb36 => ?_)
              · replace hm := ifT hm hb36
                refine WJ.quiet ?_
                refine QJ.step (YldS.yld (y_move rfl)) rfl ?_
                refine QJ.step (YldS.yld (y_assign rfl)) rfl ?_
                refine QJ.step (YldS.yld (y_assign rfl)) rfl ?_
                refine QJ.done ?_
                refine PJ.block_normal (PJ.block_normal ?_)
                exact PJ.joined (i17, 0) [] hm ⟨rfl, rfl, rfl, rfl, trivial⟩ ⟨List.nodup_nil, rfl⟩
              · replace hm := ifF hm hb36
                refine WJ.seq ?_
                refine WJ.quiet ?_
                refine QJ.step (YldS.yld (y_assign rfl)) rfl ?_
                refine QJ.step (YldS.yld (y_assign rfl)) rfl ?_
                refine QJ.done ?_
                refine PJ.next ?_
                refine WJ.ret ?_
                refine PJ.block_ret (PJ.block_ret (PJ.then_ret (PJ.then_ret (PJ.block_ret (PJ.then_ret ?_)))))
                obtain rfl := Option.some.inj hm
                refine PJ.sel (L' := []) [] ⟨List.nodup_nil, rfl⟩ ?_
                exact PJ.retn (vs := [.int .i64 0, .bool false]) Try.results114 ⟨rfl, rfl, trivial⟩ ⟨rfl, rfl⟩
          · rintro ⟨point19, digits20⟩ hm
            subst hk22
            refine WJ.quiet ?_
            refine QJ.step (YldS.yld (y_move rfl)) rfl ?_
            refine QJ.step (YldS.yld (y_bin rfl rfl rfl)) rfl ?_
            refine QJ.step (YldS.yld (y_assign rfl)) rfl ?_
            refine QJ.done ?_
            exact PJ.round (point19, digits20, w64 (i17 + 1)) [] hm ⟨rfl, rfl, rfl, rfl, trivial⟩ ⟨List.nodup_nil, rfl⟩
        · replace hm := ifF hm hb18
          refine WJ.exit ?_
          refine PJ.then_exit (PJ.then_exit (PJ.block_exit ?_))
          exact PJ.joined (point15, digits16) [] hm ⟨rfl, rfl, rfl, trivial⟩ ⟨List.nodup_nil, rfl⟩
    · rintro ⟨point11, digits12⟩ hm
      subst hk14
      refine WJ.seq ?_
      refine WJ.seq ?_
      refine WJ.quiet ?_
      refine QJ.step (YldS.yld (y_move rfl)) rfl ?_
      refine QJ.step (YldS.yld (y_bin rfl rfl rfl)) rfl ?_
      refine QJ.done ?_
      refine PJ.next ?_
      refine WJ.cond (t := (digits12 == 0)) rfl (fun hb37 => ?_) (fun hb37 => ?_)
      · replace hm := ifT hm hb37
        refine WJ.seq ?_
        refine WJ.quiet ?_
        refine QJ.step (YldS.yld (y_assign rfl)) rfl ?_
        refine QJ.step (YldS.yld (y_assign rfl)) rfl ?_
        refine QJ.done ?_
        refine PJ.next ?_
        refine WJ.ret ?_
        refine PJ.then_ret ?_
        obtain rfl := Option.some.inj hm
        refine PJ.sel (L' := []) [] ⟨List.nodup_nil, rfl⟩ ?_
        exact PJ.retn (vs := [.int .i64 0, .bool false]) Try.results114 ⟨rfl, rfl, trivial⟩ ⟨rfl, rfl⟩
      · replace hm := ifF hm hb37
        refine WJ.skip ?_
        refine PJ.next ?_
        obtain ⟨kj39, hk40, hm⟩ := withK_open hm
        refine WJ.join (X := Int) (fun (x : Int) => kj39 x = some r) (fun (x : Int) => [(5, .int .i64 x)]) (fun (x : Int) => []) ?_ ?_
        · clear hk40
          refine WJ.seq ?_
          refine WJ.quiet ?_
          refine QJ.step (YldS.yld (y_move rfl)) rfl ?_
          refine QJ.step (YldS.yld (y_bin rfl rfl rfl)) rfl ?_
          refine QJ.done ?_
          refine PJ.next ?_
          refine WJ.cond (t := decide (point11 < 0)) rfl (fun hb41 => ?_) (fun hb41 => ?_)
          · replace hm := ifT hm hb41
            refine WJ.quiet ?_
            refine QJ.step (YldS.yld (y_move rfl)) rfl ?_
            refine QJ.step (YldS.yld (y_lenStr Try.runUnderlying9 rfl)) rfl ?_
            refine QJ.step (YldS.yld (y_assign rfl)) rfl ?_
            refine QJ.done ?_
            exact PJ.joined (List.length s1 : Int) [] hm ⟨rfl, trivial⟩ ⟨List.nodup_nil, rfl⟩
          · replace hm := ifF hm hb41
            refine WJ.skip ?_
            exact PJ.joined point11 [] hm ⟨rfl, trivial⟩ ⟨List.nodup_nil, rfl⟩
        · rintro point38 hm
          subst hk40
          refine WJ.seq ?_
          refine WJ.quiet ?_
          refine QJ.step (YldS.yld (y_move rfl)) rfl ?_
          refine QJ.step (YldS.yld (y_assign rfl)) rfl ?_
          refine QJ.step (YldS.yld (y_assign rfl)) rfl ?_
          refine QJ.done ?_
          refine PJ.next ?_
          refine WJ.ret ?_
          obtain rfl := Option.some.inj hm
          refine PJ.sel (L' := []) [] ⟨List.nodup_nil, rfl⟩ ?_
          exact PJ.retn (vs := [.int .i64 point38, .bool true]) Try.results114 ⟨rfl, rfl, trivial⟩ ⟨rfl, rfl⟩

set_option maxRecDepth 100000 in
set_option maxHeartbeats 1000000 in
theorem ok_i_AlignNumbers {N : Nat} {list1 : List Str} {r : (List Str) × Int} (hm : i_AlignNumbers N list1 = some r) (w : World) (v2 : Value) (hr3 : RdS w (cx w).Fz v2 fStr.rp list1) :
    Calls Try.prog 36 #[v2] w (RetG (cx w) fun u L => ∃ (u1 : Value), (u = tup [u1, .int .i64 r.2] ∧ L = [row u1 9 fStr r.1])) := by
  unfold i_AlignNumbers at hm
  refine Calls.enter [v2] Try.func36 rfl Try.ntmps36 rfl ?_
  refine WJ.seq ?_
  refine WJ.quiet ?_
  refine QJ.step (YldS.yld (y_assign rfl)) rfl ?_
  refine QJ.step (YldS.yld (y_assign rfl)) rfl ?_
  refine QJ.done ?_
  refine PJ.next ?_
  refine WJ.seq ?_
  refine WJ.seq ?_
  refine WJ.quiet ?_
  refine QJ.step (YldS.yld (y_move rfl)) rfl ?_
  refine QJ.step (YldS.yld (y_lenS Try.runUnderlying45 hr3 rfl)) rfl ?_
  refine QJ.step (YldS.yld (y_bin rfl rfl rfl)) rfl ?_
  refine QJ.done ?_
  refine PJ.next ?_
  refine WJ.cond (t := decide ((List.length list1 : Int) > 40)) rfl (fun hb4 => ?_) (fun hb4 => ?_)
  · replace hm := ifT hm hb4
    refine WJ.seq ?_
    refine WJ.quiet ?_
    refine QJ.step (YldS.yld (y_assign rfl)) rfl ?_
    refine QJ.step (YldS.yld (y_assign rfl)) rfl ?_
    refine QJ.done ?_
    refine PJ.next ?_
    refine WJ.ret ?_
    refine PJ.then_ret ?_
    refine PJ.nil_row 9 fStr ?_
    obtain rfl := Option.some.inj hm
    refine PJ.sel (L' := [row (.slice none 0 0) 9 fStr []]) [0] ⟨by decide, rfl⟩ ?_
    exact PJ.retn (vs := [(.slice none 0 0), .int .i64 2]) Try.results36 ⟨rfl, rfl, trivial⟩ ⟨_, rfl, rfl⟩
  · replace hm := ifF hm hb4
    refine WJ.skip ?_
    refine PJ.next ?_
    obtain ⟨kj5, hk6, hm⟩ := withK_open hm
    refine WJ.join (X := Unit) (fun (_ : Unit) => kj5  = some r) (fun (_ : Unit) => [(0, v2)]) (fun (_ : Unit) => []) ?_ ?_
    · clear hk6
      refine WJ.seq ?_
      refine WJ.quiet ?_
      refine QJ.step (YldS.yld (y_move rfl)) rfl ?_
      refine QJ.step (YldS.yld (y_lenS Try.runUnderlying45 hr3 rfl)) rfl ?_
      refine QJ.step (YldS.yld (y_move rfl)) rfl ?_
      refine QJ.done ?_
      refine PJ.next ?_
      refine WJ.block ?_
      refine WJ.sel (L' := (fun (x : Int) => []) 0) [] ⟨List.nodup_nil, rfl⟩ ?_
      refine WJ.sub (m' := (fun (x : Int) => [(0, v2), (18, v2), (19, .int .i64 (List.length list1 : Int)), (20, .int .i64 x)]) 0) ⟨rfl, rfl, rfl, rfl, trivial⟩ ?_
      refine WJ.loop (X := Int) (fun N (x : Int) => i_AlignNumbers_l1 kj5 list1 N x = some r) (fun (x : Int) => [(0, v2), (18, v2), (19, .int .i64 (List.length list1 : Int)), (20, .int .i64 x)]) (fun (x : Int) => []) ?_ N 0 hm
      · rintro N x7 hI
        have hm := hI; clear hI
        cases N with
        | zero => cases hm
        | succ N =>
        unfold i_AlignNumbers_l1 at hm
        refine WJ.seq ?_
        refine WJ.quiet ?_
        refine QJ.step (YldS.yld (y_bin rfl rfl rfl)) rfl ?_
        refine QJ.done ?_
        refine PJ.next ?_
        refine WJ.seq ?_
        refine WJ.cond (t := decide (x7 < (List.length list1 : Int))) rfl (fun hb8 => ?_) (fun hb8 => ?_)
        · replace hm := ifT hm hb8
          refine WJ.skip ?_
          refine PJ.next ?_
          refine WJ.seq ?_
          refine WJ.block ?_
          refine WJ.seq ?_
          refine WJ.quiet ?_
          obtain ⟨e9, h10, hm⟩ := bindS hm
          obtain ⟨ad11, _, rfl, ha12, hy13⟩ := hr3.elem h10
          refine QJ.step (YldS.yld (hy13 Try.runUnderlying45 Try.sizeOf9 rfl rfl)) rfl ?_
          refine QJ.step (YldS.yld (y_load1 (v := str e9) Try.isAgg9 ha12 St.frozenC rfl)) rfl ?_
          refine QJ.step (YldS.yld (y_assign rfl)) rfl ?_
          refine QJ.done ?_
          refine PJ.next ?_
          refine WJ.seq ?_
          refine WJ.quiet ?_
          refine QJ.step (YldS.yld (y_move rfl)) rfl ?_
          refine QJ.step (YldS.yld (y_lenStr Try.runUnderlying9 rfl)) rfl ?_
          refine QJ.step (YldS.yld (y_bin rfl rfl rfl)) rfl ?_
          refine QJ.done ?_
          refine PJ.next ?_
          refine WJ.cond (t := decide ((List.length e9 : Int) > 30)) rfl (fun hb14 => ?_) (fun hb14 => ?_)
          · replace hm := ifT hm hb14
            refine WJ.seq ?_
            refine WJ.quiet ?_
            refine QJ.step (YldS.yld (y_assign rfl)) rfl ?_
            refine QJ.step (YldS.yld (y_assign rfl)) rfl ?_
            refine QJ.done ?_
            refine PJ.next ?_
            refine WJ.ret ?_
            refine PJ.block_ret (PJ.then_ret (PJ.then_ret (PJ.block_ret (PJ.then_ret ?_))))
            refine PJ.nil_row 9 fStr ?_
            obtain rfl := Option.some.inj hm
            refine PJ.sel (L' := [row (.slice none 0 0) 9 fStr []]) [0] ⟨by decide, rfl⟩ ?_
            exact PJ.retn (vs := [(.slice none 0 0), .int .i64 2]) Try.results36 ⟨rfl, rfl, trivial⟩ ⟨_, rfl, rfl⟩
          · replace hm := ifF hm hb14
            refine WJ.skip ?_
            refine PJ.block_normal (PJ.next ?_)
            refine WJ.quiet ?_
            refine QJ.step (YldS.yld (y_bin rfl rfl rfl)) rfl ?_
            refine QJ.step (YldS.yld (y_move rfl)) rfl ?_
            refine QJ.done ?_
            exact PJ.round (w64 (x7 + 1)) [] hm ⟨rfl, rfl, rfl, rfl, trivial⟩ ⟨List.nodup_nil, rfl⟩
        · replace hm := ifF hm hb8
          refine WJ.exit ?_
          refine PJ.then_exit (PJ.then_exit (PJ.block_exit ?_))
          exact PJ.joined () [] hm ⟨rfl, trivial⟩ ⟨List.nodup_nil, rfl⟩
    · rintro _ hm
      subst hk6
      refine WJ.seq ?_
      refine WJ.reg ?_
      refine SJ.buildSlice (R := fI64) (os := []) [] Try.runUnderlying27 Try.sizeOf2 Try.zeroValue2 rfl rfl rfl rfl rfl rfl fun v15 => ?_
      refine SJ.q (YldS.yld (y_assign rfl)) rfl ?_
      refine SJ.nil ?_
      refine PJ.next ?_
      refine WJ.seq ?_
      refine WJ.quiet ?_
      refine QJ.step (YldS.yld (y_assign rfl)) rfl ?_
      refine QJ.done ?_
      refine PJ.next ?_
      obtain ⟨kj19, hk20, hm⟩ := withK_open hm
      refine WJ.join (X := (List Int) × Value × Int) (fun (x : (List Int) × Value × Int) => kj19 x.1 x.2.2 = some r) (fun (x : (List Int) × Value × Int) => [(0, v2), (6, x.2.1), (7, .int .i64 x.2.2)]) (fun (x : (List Int) × Value × Int) => [row x.2.1 2 fI64 x.1]) ?_ ?_
      · clear hk20
        refine WJ.seq ?_
        refine WJ.quiet ?_
        refine QJ.step (YldS.yld (y_move rfl)) rfl ?_
        refine QJ.step (YldS.yld (y_lenS Try.runUnderlying45 hr3 rfl)) rfl ?_
        refine QJ.step (YldS.yld (y_move rfl)) rfl ?_
        refine QJ.done ?_
        refine PJ.next ?_
        refine WJ.block ?_
        refine WJ.sel (L' := (fun (x : (List Int) × Value × Int × Int) => [row x.2.1 2 fI64 x.1]) ([], v15, 0, 0)) [0] ⟨by decide, rfl⟩ ?_
        refine WJ.sub (m' := (fun (x : (List Int) × Value × Int × Int) => [(0, v2), (6, x.2.1), (7, .int .i64 x.2.2.1), (29, v2), (30, .int .i64 (List.length list1 : Int)), (31, .int .i64 x.2.2.2)]) ([], v15, 0, 0)) ⟨rfl, rfl, rfl, rfl, rfl, rfl, trivial⟩ ?_
        refine WJ.loop (X := (List Int) × Value × Int × Int) (fun N (x : (List Int) × Value × Int × Int) => i_AlignNumbers_l2 kj19 list1 N x.1 x.2.2.1 x.2.2.2 = some r) (fun (x : (List Int) × Value × Int × Int) => [(0, v2), (6, x.2.1), (7, .int .i64 x.2.2.1), (29, v2), (30, .int .i64 (List.length list1 : Int)), (31, .int .i64 x.2.2.2)]) (fun (x : (List Int) × Value × Int × Int) => [row x.2.1 2 fI64 x.1]) ?_ N ([], v15, 0, 0) hm
        · rintro N ⟨l21, v22, most23, x24⟩ hI
          have hm := hI; clear hI
          cases N with
          | zero => cases hm
          | succ N =>
          unfold i_AlignNumbers_l2 at hm
          refine WJ.seq ?_
          refine WJ.quiet ?_
          refine QJ.step (YldS.yld (y_bin rfl rfl rfl)) rfl ?_
          refine QJ.done ?_
          refine PJ.next ?_
          refine WJ.seq ?_
          refine WJ.cond (t := decide (x24 < (List.length list1 : Int))) rfl (fun hb25 => ?_) (fun hb25 => ?_)
          · replace hm := ifT hm hb25
            refine WJ.skip ?_
            refine PJ.next ?_
            refine WJ.seq ?_
            refine WJ.block ?_
            refine WJ.seq ?_
            refine WJ.quiet ?_
            obtain ⟨e26, h27, hm⟩ := bindS hm
            obtain ⟨ad28, _, rfl, ha29, hy30⟩ := hr3.elem h27
            refine QJ.step (YldS.yld (hy30 Try.runUnderlying45 Try.sizeOf9 rfl rfl)) rfl ?_
            refine QJ.step (YldS.yld (y_load1 (v := str e26) Try.isAgg9 ha29 St.frozenC rfl)) rfl ?_
            refine QJ.step (YldS.yld (y_assign rfl)) rfl ?_
            refine QJ.done ?_
            refine PJ.next ?_
            refine WJ.seq ?_
            refine WJ.quiet ?_
            refine QJ.step (YldS.yld (y_move rfl)) rfl ?_
            obtain ⟨r31, h32, hm⟩ := bindS hm
            refine QJ.step (y_call Try.call114 rfl (RetG.quiet fun w hw => ok_i_pointOf h32 w )) rfl ?_
            refine QJ.step (YldS.yld (y_move rfl)) rfl ?_
            refine QJ.step (YldS.yld (y_extract rfl rfl)) rfl ?_
            refine QJ.step (YldS.yld (y_extract rfl rfl)) rfl ?_
            refine QJ.step (YldS.yld (y_assign rfl)) rfl ?_
            refine QJ.step (YldS.yld (y_assign rfl)) rfl ?_
            refine QJ.done ?_
            refine PJ.next ?_
            refine WJ.seq ?_
            refine WJ.seq ?_
            refine WJ.quiet ?_
            refine QJ.step (YldS.yld (y_move rfl)) rfl ?_
            refine QJ.step (YldS.yld (y_not rfl)) rfl ?_
            refine QJ.done ?_
            refine PJ.next ?_
            refine WJ.cond (t := !r31.2) rfl (fun hb33 => ?_) (fun hb33 => ?_)
            · replace hm := ifT hm hb33
              refine WJ.seq ?_
              refine WJ.quiet ?_
              refine QJ.step (YldS.yld (y_assign rfl)) rfl ?_
              refine QJ.step (YldS.yld (y_assign rfl)) rfl ?_
              refine QJ.done ?_
              refine PJ.next ?_
              refine WJ.ret ?_
              refine PJ.then_ret (PJ.block_ret (PJ.then_ret (PJ.then_ret (PJ.block_ret (PJ.then_ret ?_)))))
              refine PJ.nil_row 9 fStr ?_
              obtain rfl := Option.some.inj hm
              refine PJ.sel (L' := [row (.slice none 0 0) 9 fStr []]) [0] ⟨by decide, rfl⟩ ?_
              exact PJ.retn (vs := [(.slice none 0 0), .int .i64 7]) Try.results36 ⟨rfl, rfl, trivial⟩ ⟨_, rfl, rfl⟩
            · replace hm := ifF hm hb33
              refine WJ.skip ?_
              refine PJ.next ?_
              refine WJ.seq ?_
              refine WJ.reg ?_
              refine SJ.q (YldS.yld (y_move rfl)) rfl ?_
              refine SJ.q (YldS.yld (y_move rfl)) rfl ?_
              refine SJ.buildSlice (R := fI64) (os := [.tmp 43]) [r31.1] Try.runUnderlying27 Try.sizeOf2 Try.zeroValue2 rfl rfl rfl rfl rfl rfl fun v34 => ?_
              obtain ⟨l35, h36, hm⟩ := bindS hm
              refine SJ.append (k := 1) (R := fI64) h36 rfl Try.underlying27 el2 rfl rfl rfl (fun w hw => (hw.row_rd (k := 0) rfl)) rfl fun v37 => ?_
              refine SJ.q (YldS.yld (y_assign rfl)) rfl ?_
              refine SJ.nil ?_
              refine PJ.next ?_
              refine WJ.quiet ?_
              refine QJ.step (YldS.yld (y_move rfl)) rfl ?_
              refine QJ.step (YldS.yld (y_move rfl)) rfl ?_
              refine QJ.step (YldS.yld (y_max rfl rfl)) rfl ?_
              refine QJ.step (YldS.yld (y_assign rfl)) rfl ?_
              refine QJ.done ?_
              refine PJ.block_normal (PJ.next ?_)
              refine WJ.quiet ?_
              refine QJ.step (YldS.yld (y_bin rfl rfl rfl)) rfl ?_
              refine QJ.step (YldS.yld (y_move rfl)) rfl ?_
              refine QJ.done ?_
              exact PJ.round (l35, v37, imax most23 r31.1, w64 (x24 + 1)) [1] hm ⟨rfl, rfl, rfl, rfl, rfl, rfl, trivial⟩ ⟨by decide, rfl⟩
          · replace hm := ifF hm hb25
            refine WJ.exit ?_
            refine PJ.then_exit (PJ.then_exit (PJ.block_exit ?_))
            exact PJ.joined (l21, v22, most23) [0] hm ⟨rfl, rfl, rfl, trivial⟩ ⟨by decide, rfl⟩
      · rintro ⟨l16, v17, most18⟩ hm
        subst hk20
        refine WJ.seq ?_
        refine WJ.reg ?_
        refine SJ.buildSlice (R := fStr) (os := []) [] Try.runUnderlying45 Try.sizeOf9 Try.zeroValue9 rfl rfl rfl rfl rfl rfl fun v38 => ?_
        refine SJ.q (YldS.yld (y_assign rfl)) rfl ?_
        refine SJ.nil ?_
        refine PJ.next ?_
        obtain ⟨kj41, hk42, hm⟩ := withK_open hm
        refine WJ.join (X := (List Str) × Value) (fun (x : (List Str) × Value) => kj41 x.1 = some r) (fun (x : (List Str) × Value) => [(12, x.2)]) (fun (x : (List Str) × Value) => [row x.2 9 fStr x.1]) ?_ ?_
        · clear hk42
          refine WJ.seq ?_
          refine WJ.quiet ?_
          refine QJ.step (YldS.yld (y_move rfl)) rfl ?_
          refine QJ.step (YldS.yld (y_lenS Try.runUnderlying45 hr3 rfl)) rfl ?_
          refine QJ.step (YldS.yld (y_move rfl)) rfl ?_
          refine QJ.done ?_
          refine PJ.next ?_
          refine WJ.block ?_
          refine WJ.sel (L' := (fun (x : (List Str) × Value × Int) => [row x.2.1 9 fStr x.1, row v17 2 fI64 l16]) ([], v38, 0)) [0, 1] ⟨by decide, rfl⟩ ?_
          refine WJ.sub (m' := (fun (x : (List Str) × Value × Int) => [(6, v17), (7, .int .i64 most18), (12, x.2.1), (51, v2), (52, .int .i64 (List.length list1 : Int)), (53, .int .i64 x.2.2)]) ([], v38, 0)) ⟨rfl, rfl, rfl, rfl, rfl, rfl, trivial⟩ ?_
          refine WJ.loop (X := (List Str) × Value × Int) (fun N (x : (List Str) × Value × Int) => i_AlignNumbers_l3 kj41 list1 l16 most18 N x.1 x.2.2 = some r) (fun (x : (List Str) × Value × Int) => [(6, v17), (7, .int .i64 most18), (12, x.2.1), (51, v2), (52, .int .i64 (List.length list1 : Int)), (53, .int .i64 x.2.2)]) (fun (x : (List Str) × Value × Int) => [row x.2.1 9 fStr x.1, row v17 2 fI64 l16]) ?_ N ([], v38, 0) hm
          · rintro N ⟨l43, v44, x45⟩ hI
            have hm := hI; clear hI
            cases N with
            | zero => cases hm
            | succ N =>
            unfold i_AlignNumbers_l3 at hm
            refine WJ.seq ?_
            refine WJ.quiet ?_
            refine QJ.step (YldS.yld (y_bin rfl rfl rfl)) rfl ?_
            refine QJ.done ?_
            refine PJ.next ?_
            refine WJ.seq ?_
            refine WJ.cond (t := decide (x45 < (List.length list1 : Int))) rfl (fun hb46 => ?_) (fun hb46 => ?_)
            · replace hm := ifT hm hb46
              refine WJ.skip ?_
              refine PJ.next ?_
              refine WJ.seq ?_
              refine WJ.block ?_
              refine WJ.seq ?_
              refine WJ.quiet ?_
              refine QJ.step (YldS.yld (y_move rfl)) rfl ?_
              obtain ⟨e47, h48, hm⟩ := bindS hm
              obtain ⟨ad49, _, rfl, ha50, hy51⟩ := hr3.elem h48
              refine QJ.step (YldS.yld (hy51 Try.runUnderlying45 Try.sizeOf9 rfl rfl)) rfl ?_
              refine QJ.step (YldS.yld (y_load1 (v := str e47) Try.isAgg9 ha50 St.frozenC rfl)) rfl ?_
              refine QJ.step (YldS.yld (y_assign rfl)) rfl ?_
              refine QJ.step (YldS.yld (y_assign rfl)) rfl ?_
              refine QJ.done ?_
              refine PJ.next ?_
              refine WJ.reg ?_
              refine SJ.q (YldS.yld (y_move rfl)) rfl ?_
              refine SJ.q (YldS.yld (y_move rfl)) rfl ?_
              refine SJ.q (YldS.yld (y_move rfl)) rfl ?_
              refine SJ.q (YldS.yld (y_move rfl)) rfl ?_
              obtain ⟨e52, h53, hm⟩ := bindS hm
              refine SJ.q (YldS.yld (y_ixRow (k := 1) (R := fI64) rfl Try.runUnderlying27 Try.sizeOf2 rfl rfl h53)) rfl ?_
              refine SJ.q (YldS.yld (y_loadR (k := 1) (i := (Int.toNat x45)) (off := 0) (u := .int .i64 e52) rfl Try.isAgg2 rfl (idx_get h53) rfl)) rfl ?_
              refine SJ.q (YldS.yld (y_bin rfl rfl rfl)) rfl ?_
              obtain ⟨r54, h55, hm⟩ := bindS hm
              refine SJ.q (y_call Try.call101 rfl (RetG.quiet fun w hw => ok_i_repeat h55 w )) rfl ?_
              refine SJ.q (YldS.yld (y_move rfl)) rfl ?_
              obtain ⟨s56, h57, hm⟩ := bindS hm
              refine SJ.q (YldS.yld (y_cat h57 rfl rfl)) rfl ?_
              refine SJ.buildSlice (R := fStr) (os := [.tmp 67]) [s56] Try.runUnderlying45 Try.sizeOf9 Try.zeroValue9 rfl rfl rfl rfl rfl rfl fun v58 => ?_
              obtain ⟨l59, h60, hm⟩ := bindS hm
              refine SJ.append (k := 1) (R := fStr) h60 rfl Try.underlying45 el9 rfl rfl rfl (fun w hw => (hw.row_rd (k := 0) rfl)) rfl fun v61 => ?_
              refine SJ.q (YldS.yld (y_assign rfl)) rfl ?_
              refine SJ.nil ?_
              refine PJ.block_normal (PJ.next ?_)
              refine WJ.quiet ?_
              refine QJ.step (YldS.yld (y_bin rfl rfl rfl)) rfl ?_
              refine QJ.step (YldS.yld (y_move rfl)) rfl ?_
              refine QJ.done ?_
              exact PJ.round (l59, v61, w64 (x45 + 1)) [1, 2] hm ⟨rfl, rfl, rfl, rfl, rfl, rfl, trivial⟩ ⟨by decide, rfl⟩
            · replace hm := ifF hm hb46
              refine WJ.exit ?_
              refine PJ.then_exit (PJ.then_exit (PJ.block_exit ?_))
              exact PJ.joined (l43, v44) [0] hm ⟨rfl, trivial⟩ ⟨by decide, rfl⟩
        · rintro ⟨l39, v40⟩ hm
          subst hk42
          refine WJ.seq ?_
          refine WJ.quiet ?_
          refine QJ.step (YldS.yld (y_move rfl)) rfl ?_
          refine QJ.step (YldS.yld (y_assign rfl)) rfl ?_
          refine QJ.step (YldS.yld (y_assign rfl)) rfl ?_
          refine QJ.done ?_
          refine PJ.next ?_
          refine WJ.ret ?_
          obtain rfl := Option.some.inj hm
          refine PJ.sel (L' := [row v40 9 fStr l39]) [0] ⟨by decide, rfl⟩ ?_
          exact PJ.retn (vs := [v40, .int .i64 0]) Try.results36 ⟨rfl, rfl, trivial⟩ ⟨_, rfl, rfl⟩

set_option maxRecDepth 100000 in
set_option maxHeartbeats 1000000 in
theorem ok_s_l01Split {N : Nat} {s1 : Str} {by2 : UInt8} {r : (List Str)} (hm : s_l01Split N s1 by2 = some r) (w : World)  :
    Calls Try.prog 141 #[str s1, .int .u8 (UInt8.toNat by2 : Int)] w (RetG (cx w) fun u L => ∃ (u1 : Value), (u = u1 ∧ L = [row u1 9 fStr r])) := by
  unfold s_l01Split at hm
  refine Calls.enter [str s1, .int .u8 (UInt8.toNat by2 : Int)] Try.func141 rfl Try.ntmps141 rfl ?_
  refine WJ.seq ?_
  refine WJ.quiet ?_
  refine QJ.step (YldS.yld (y_assign rfl)) rfl ?_
  refine QJ.done ?_
  refine PJ.next ?_
  refine WJ.seq ?_
  refine WJ.reg ?_
  refine SJ.buildSlice (R := fStr) (os := []) [] Try.runUnderlying45 Try.sizeOf9 Try.zeroValue9 rfl rfl rfl rfl rfl rfl fun v3 => ?_
  refine SJ.q (YldS.yld (y_assign rfl)) rfl ?_
  refine SJ.nil ?_
  refine PJ.next ?_
  refine WJ.seq ?_
  refine WJ.quiet ?_
  refine QJ.step (YldS.yld (y_assign rfl)) rfl ?_
  refine QJ.done ?_
  refine PJ.next ?_
  obtain ⟨kj7, hk8, hm⟩ := withK_open hm
  refine WJ.join (X := (List Str) × Value × Int) (fun (x : (List Str) × Value × Int) => kj7 x.1 x.2.2 = some r) (fun (x : (List Str) × Value × Int) => [(0, str s1), (5, x.2.1), (6, .int .i64 x.2.2)]) (fun (x : (List Str) × Value × Int) => [row x.2.1 9 fStr x.1]) ?_ ?_
  · clear hk8
    refine WJ.seq ?_
    refine WJ.quiet ?_
    refine QJ.step (YldS.yld (y_assign rfl)) rfl ?_
    refine QJ.done ?_
    refine PJ.next ?_
    refine WJ.block ?_
    refine WJ.sel (L' := (fun (x : (List Str) × Value × Int × Int) => [row x.2.1 9 fStr x.1]) ([], v3, 0, 0)) [0] ⟨by decide, rfl⟩ ?_
    refine WJ.sub (m' := (fun (x : (List Str) × Value × Int × Int) => [(0, str s1), (1, .int .u8 (UInt8.toNat by2 : Int)), (5, x.2.1), (6, .int .i64 x.2.2.1), (7, .int .i64 x.2.2.2)]) ([], v3, 0, 0)) ⟨rfl, rfl, rfl, rfl, rfl, trivial⟩ ?_
    refine WJ.loop (X := (List Str) × Value × Int × Int) (fun N (x : (List Str) × Value × Int × Int) => s_l01Split_l1 kj7 s1 by2 N x.1 x.2.2.1 x.2.2.2 = some r) (fun (x : (List Str) × Value × Int × Int) => [(0, str s1), (1, .int .u8 (UInt8.toNat by2 : Int)), (5, x.2.1), (6, .int .i64 x.2.2.1), (7, .int .i64 x.2.2.2)]) (fun (x : (List Str) × Value × Int × Int) => [row x.2.1 9 fStr x.1]) ?_ N ([], v3, 0, 0) hm
    · rintro N ⟨l9, v10, from11, i12⟩ hI
      have hm := hI; clear hI
      cases N with
      | zero => cases hm
      | succ N =>
      unfold s_l01Split_l1 at hm
      refine WJ.seq ?_
      refine WJ.seq ?_
      refine WJ.quiet ?_
      refine QJ.step (YldS.yld (y_move rfl)) rfl ?_
      refine QJ.step (YldS.yld (y_move rfl)) rfl ?_
      refine QJ.step (YldS.yld (y_lenStr Try.runUnderlying9 rfl)) rfl ?_
      refine QJ.step (YldS.yld (y_bin rfl rfl rfl)) rfl ?_
      refine QJ.done ?_
      refine PJ.next ?_
      refine WJ.cond (t := decide (i12 < (List.length s1 : Int))) rfl (fun hb13 => ?_) (fun hb13 => ?_)
      · replace hm := ifT hm hb13
        refine WJ.skip ?_
        refine PJ.next ?_
        obtain ⟨kj17, hk18, hm⟩ := withK_open hm
        refine WJ.join (X := (List Str) × Value × Int) (fun (x : (List Str) × Value × Int) => kj17 x.1 x.2.2 = some r) (fun (x : (List Str) × Value × Int) => [(0, str s1), (1, .int .u8 (UInt8.toNat by2 : Int)), (5, x.2.1), (6, .int .i64 x.2.2), (7, .int .i64 i12)]) (fun (x : (List Str) × Value × Int) => [row x.2.1 9 fStr x.1]) ?_ ?_
        · clear hk18
          refine WJ.block ?_
          refine WJ.seq ?_
          refine WJ.quiet ?_
          refine QJ.step (YldS.yld (y_move rfl)) rfl ?_
          refine QJ.step (YldS.yld (y_move rfl)) rfl ?_
          obtain ⟨c19, h20, hm⟩ := bindS hm
          refine QJ.step (YldS.yld (y_idxStr Try.runUnderlying9 rfl rfl h20)) rfl ?_
          refine QJ.step (YldS.yld (y_move rfl)) rfl ?_
          refine QJ.step (YldS.yld (y_bin8 c19 by2 rfl rfl rfl)) rfl ?_
          refine QJ.done ?_
          refine PJ.next ?_
          refine WJ.cond (t := (c19 == by2)) rfl (fun hb21 => ?_) (fun hb21 => ?_)
          · replace hm := ifT hm hb21
            refine WJ.seq ?_
            refine WJ.reg ?_
            refine SJ.q (YldS.yld (y_move rfl)) rfl ?_
            refine SJ.q (YldS.yld (y_move rfl)) rfl ?_
            refine SJ.q (YldS.yld (y_move rfl)) rfl ?_
            refine SJ.q (YldS.yld (y_move rfl)) rfl ?_
            obtain ⟨s22, h23, hm⟩ := bindS hm
            refine SJ.q (YldS.yld (y_subStr (i := some from11) (j := some i12) h23 Try.runUnderlying9 rfl ⟨_, rfl⟩ ⟨_, rfl⟩)) rfl ?_
            refine SJ.buildSlice (R := fStr) (os := [.tmp 24]) [s22] Try.runUnderlying45 Try.sizeOf9 Try.zeroValue9 rfl rfl rfl rfl rfl rfl fun v24 => ?_
            obtain ⟨l25, h26, hm⟩ := bindS hm
            refine SJ.append (k := 1) (R := fStr) h26 rfl Try.underlying45 el9 rfl rfl rfl (fun w hw => (hw.row_rd (k := 0) rfl)) rfl fun v27 => ?_
            refine SJ.q (YldS.yld (y_assign rfl)) rfl ?_
            refine SJ.nil ?_
            refine PJ.next ?_
            refine WJ.quiet ?_
            refine QJ.step (YldS.yld (y_move rfl)) rfl ?_
            refine QJ.step (YldS.yld (y_bin rfl rfl rfl)) rfl ?_
            refine QJ.step (YldS.yld (y_assign rfl)) rfl ?_
            refine QJ.done ?_
            refine PJ.block_normal ?_
            exact PJ.joined (l25, v27, w64 (i12 + 1)) [1] hm ⟨rfl, rfl, rfl, rfl, rfl, trivial⟩ ⟨by decide, rfl⟩
          · replace hm := ifF hm hb21
            refine WJ.skip ?_
            refine PJ.block_normal ?_
            exact PJ.joined (l9, v10, from11) [0] hm ⟨rfl, rfl, rfl, rfl, rfl, trivial⟩ ⟨by decide, rfl⟩
        · rintro ⟨l14, v15, from16⟩ hm
          subst hk18
          refine WJ.quiet ?_
          refine QJ.step (YldS.yld (y_move rfl)) rfl ?_
          refine QJ.step (YldS.yld (y_bin rfl rfl rfl)) rfl ?_
          refine QJ.step (YldS.yld (y_assign rfl)) rfl ?_
          refine QJ.done ?_
          exact PJ.round (l14, v15, from16, w64 (i12 + 1)) [0] hm ⟨rfl, rfl, rfl, rfl, rfl, trivial⟩ ⟨by decide, rfl⟩
      · replace hm := ifF hm hb13
        refine WJ.exit ?_
        refine PJ.then_exit (PJ.then_exit (PJ.block_exit ?_))
        exact PJ.joined (l9, v10, from11) [0] hm ⟨rfl, rfl, rfl, trivial⟩ ⟨by decide, rfl⟩
  · rintro ⟨l4, v5, from6⟩ hm
    subst hk8
    refine WJ.seq ?_
    refine WJ.reg ?_
    refine SJ.q (YldS.yld (y_move rfl)) rfl ?_
    refine SJ.q (YldS.yld (y_move rfl)) rfl ?_
    refine SJ.q (YldS.yld (y_move rfl)) rfl ?_
    obtain ⟨s28, h29, hm⟩ := bindS hm
    refine SJ.q (YldS.yld (y_subStr (i := some from6) (j := none) h29 Try.runUnderlying9 rfl ⟨_, rfl⟩ trivial)) rfl ?_
    refine SJ.buildSlice (R := fStr) (os := [.tmp 32]) [s28] Try.runUnderlying45 Try.sizeOf9 Try.zeroValue9 rfl rfl rfl rfl rfl rfl fun v30 => ?_
    obtain ⟨l31, h32, hm⟩ := bindS hm
    refine SJ.append (k := 1) (R := fStr) h32 rfl Try.underlying45 el9 rfl rfl rfl (fun w hw => (hw.row_rd (k := 0) rfl)) rfl fun v33 => ?_
    refine SJ.q (YldS.yld (y_assign rfl)) rfl ?_
    refine SJ.nil ?_
    refine PJ.next ?_
    refine WJ.ret ?_
    obtain rfl := Option.some.inj hm
    refine PJ.sel (L' := [row v33 9 fStr l31]) [1] ⟨by decide, rfl⟩ ?_
    exact PJ.retn (vs := [v33]) Try.results141 ⟨rfl, trivial⟩ ⟨_, rfl, rfl⟩

set_option maxRecDepth 100000 in
set_option maxHeartbeats 1000000 in
theorem ok_s_l01Digit {c1 : UInt8} {r : Bool} (hm : s_l01Digit c1 = some r) (w : World)  :
    Calls Try.prog 161 #[.int .u8 (UInt8.toNat c1 : Int)] w (Ret (cx w) (.bool r)) := by
  unfold s_l01Digit at hm
  refine Calls.enter [.int .u8 (UInt8.toNat c1 : Int)] Try.func161 rfl Try.ntmps161 rfl ?_
  refine WJ.seq ?_
  refine WJ.quiet ?_
  refine QJ.step (YldS.yld (y_assign rfl)) rfl ?_
  refine QJ.done ?_
  refine PJ.next ?_
  refine WJ.seq ?_
  refine WJ.quiet ?_
  refine QJ.step (YldS.yld (y_move rfl)) rfl ?_
  refine QJ.step (YldS.yld (y_bin8 c1 (48 : UInt8) rfl rfl rfl)) rfl ?_
  refine QJ.step (YldS.yld (y_move rfl)) rfl ?_
  obtain ⟨t2, h3, hm⟩ := bindS hm
  refine QJ.cut 3 [(8, .bool t2)] ?_ ?_
  · rcases Bool.eq_false_or_eq_true (decide (c1 ≥ (48 : UInt8))) with hb4 | hb4
    · replace h3 := andT h3 hb4
      refine QJ.on rfl rfl (cB hb4) (YldS.yld (y_move rfl)) rfl ?_
      refine QJ.on rfl rfl (cB hb4) (YldS.yld (y_bin8 c1 (57 : UInt8) rfl rfl rfl)) rfl ?_
      refine QJ.step (YldS.yld (y_pick_t (cB hb4) rfl)) rfl ?_
      obtain rfl := Option.some.inj h3
      exact QJ.cut_end ⟨rfl, trivial⟩
    · obtain rfl := andF h3 hb4
      refine QJ.off rfl rfl (cB hb4) rfl rfl ?_
      refine QJ.off rfl rfl (cB hb4) rfl rfl ?_
      refine QJ.step (YldS.yld (y_pick_f (cB hb4) rfl)) rfl ?_
      exact QJ.cut_end ⟨rfl, trivial⟩
  refine QJ.step (YldS.yld (y_assign rfl)) rfl ?_
  refine QJ.done ?_
  refine PJ.next ?_
  refine WJ.ret ?_
  obtain rfl := Option.some.inj hm
  refine PJ.sel (L' := []) [] ⟨List.nodup_nil, rfl⟩ ?_
  exact PJ.retn (vs := [.bool t2]) Try.results161 ⟨rfl, trivial⟩ ⟨rfl, rfl⟩

set_option maxRecDepth 100000 in
set_option maxHeartbeats 1000000 in
theorem ok_s_l08Number {N : Nat} {s1 : Str} {r : Bool} (hm : s_l08Number N s1 = some r) (w : World)  :
    Calls Try.prog 115 #[str s1] w (Ret (cx w) (.bool r)) := by
  unfold s_l08Number at hm
  refine Calls.enter [str s1] Try.func115 rfl Try.ntmps115 rfl ?_
  refine WJ.seq ?_
  refine WJ.quiet ?_
  refine QJ.step (YldS.yld (y_assign rfl)) rfl ?_
  refine QJ.done ?_
  refine PJ.next ?_
  obtain ⟨kj3, hk4, hm⟩ := withK_open hm
  refine WJ.join (X := Str) (fun (x : Str) => kj3 x = some r) (fun (x : Str) => [(0, str x)]) (fun (x : Str) => []) ?_ ?_
  · clear hk4
    refine WJ.seq ?_
    refine WJ.quiet ?_
    refine QJ.step (YldS.yld (y_move rfl)) rfl ?_
    refine QJ.step (YldS.yld (y_lenStr Try.runUnderlying9 rfl)) rfl ?_
    refine QJ.step (YldS.yld (y_bin rfl rfl rfl)) rfl ?_
    refine QJ.step (YldS.yld (y_move rfl)) rfl ?_
    obtain ⟨t5, h6, hm⟩ := bindS hm
    refine QJ.cut 4 [(0, str s1), (13, .bool t5)] ?_ ?_
    · rcases Bool.eq_false_or_eq_true (decide ((List.length s1 : Int) > 0)) with hb7 | hb7
      · replace h6 := andT h6 hb7
        refine QJ.on rfl rfl (cB hb7) (YldS.yld (y_move rfl)) rfl ?_
        obtain ⟨c8, h9, h6⟩ := bindS h6
        refine QJ.on rfl rfl (cB hb7) (YldS.yld (y_idxStr Try.runUnderlying9 rfl rfl h9)) rfl ?_
        refine QJ.on rfl rfl (cB hb7) (YldS.yld (y_bin8 c8 (45 : UInt8) rfl rfl rfl)) rfl ?_
        refine QJ.step (YldS.yld (y_pick_t (cB hb7) rfl)) rfl ?_
        obtain rfl := Option.some.inj h6
        exact QJ.cut_end ⟨rfl, rfl, trivial⟩
      · obtain rfl := andF h6 hb7
        refine QJ.off rfl rfl (cB hb7) rfl rfl ?_
        refine QJ.off rfl rfl (cB hb7) rfl rfl ?_
        refine QJ.off rfl rfl (cB hb7) rfl rfl ?_
        refine QJ.step (YldS.yld (y_pick_f (cB hb7) rfl)) rfl ?_
        exact QJ.cut_end ⟨rfl, rfl, trivial⟩
    refine QJ.done ?_
    refine PJ.next ?_
    refine WJ.cond (t := t5) rfl (fun hb10 => ?_) (fun hb10 => ?_)
    · replace hm := ifT hm hb10
      refine WJ.quiet ?_
      refine QJ.step (YldS.yld (y_move rfl)) rfl ?_
      obtain ⟨s11, h12, hm⟩ := bindS hm
      refine QJ.step (YldS.yld (y_subStr (i := some 1) (j := none) h12 Try.runUnderlying9 rfl ⟨_, rfl⟩ trivial)) rfl ?_
      refine QJ.step (YldS.yld (y_assign rfl)) rfl ?_
      refine QJ.done ?_
      exact PJ.joined s11 [] hm ⟨rfl, trivial⟩ ⟨List.nodup_nil, rfl⟩
    · replace hm := ifF hm hb10
      refine WJ.skip ?_
      exact PJ.joined s1 [] hm ⟨rfl, trivial⟩ ⟨List.nodup_nil, rfl⟩
  · rintro s2 hm
    subst hk4
    refine WJ.seq ?_
    refine WJ.reg ?_
    refine SJ.q (YldS.yld (y_move rfl)) rfl ?_
    obtain ⟨r13, h14, hm⟩ := bindS hm
    refine SJ.call Try.call141 rfl (fun w hw => ok_s_l01Split h14 w ) rfl ?_
    rintro v15 _ ⟨_, rfl, rfl⟩
    refine SJ.q (YldS.yld (y_assign rfl)) rfl ?_
    refine SJ.nil ?_
    refine PJ.next ?_
    obtain ⟨kj16, hk17, hm⟩ := withK_open hm
    refine WJ.join (X := Unit) (fun (_ : Unit) => kj16  = some r) (fun (_ : Unit) => [(3, v15)]) (fun (_ : Unit) => [row v15 9 fStr r13]) ?_ ?_
    · clear hk17
      refine WJ.seq ?_
      refine WJ.quiet ?_
      refine QJ.step (YldS.yld (y_assign rfl)) rfl ?_
      refine QJ.done ?_
      refine PJ.next ?_
      refine WJ.block ?_
      refine WJ.sel (L' := (fun (x : Int) => [row v15 9 fStr r13]) 0) [0] ⟨by decide, rfl⟩ ?_
      refine WJ.sub (m' := (fun (x : Int) => [(3, v15), (4, .int .i64 x)]) 0) ⟨rfl, rfl, trivial⟩ ?_
      refine WJ.loop (X := Int) (fun N (x : Int) => s_l08Number_l1 kj16 r13 N x = some r) (fun (x : Int) => [(3, v15), (4, .int .i64 x)]) (fun (x : Int) => [row v15 9 fStr r13]) ?_ N 0 hm
      · rintro N i18 hI
        have hm := hI; clear hI
        cases N with
        | zero => cases hm
        | succ N =>
        unfold s_l08Number_l1 at hm
        refine WJ.seq ?_
        refine WJ.seq ?_
        refine WJ.quiet ?_
        refine QJ.step (YldS.yld (y_move rfl)) rfl ?_
        refine QJ.step (YldS.yld (y_move rfl)) rfl ?_
        refine QJ.step (YldS.yld (y_lenRow (k := 0) rfl Try.runUnderlying45 rfl)) rfl ?_
        refine QJ.step (YldS.yld (y_bin rfl rfl rfl)) rfl ?_
        refine QJ.done ?_
        refine PJ.next ?_
        refine WJ.cond (t := decide (i18 < (List.length r13 : Int))) rfl (fun hb19 => ?_) (fun hb19 => ?_)
        · replace hm := ifT hm hb19
          refine WJ.skip ?_
          refine PJ.next ?_
          obtain ⟨kj20, hk21, hm⟩ := withK_open hm
          refine WJ.join (X := Unit) (fun (_ : Unit) => kj20  = some r) (fun (_ : Unit) => [(3, v15), (4, .int .i64 i18)]) (fun (_ : Unit) => [row v15 9 fStr r13]) ?_ ?_
          · clear hk21
            refine WJ.block ?_
            refine WJ.seq ?_
            refine WJ.seq ?_
            refine WJ.quiet ?_
            refine QJ.step (YldS.yld (y_move rfl)) rfl ?_
            refine QJ.step (YldS.yld (y_move rfl)) rfl ?_
            obtain ⟨e22, h23, hm⟩ := bindS hm
            refine QJ.step (YldS.yld (y_ixRow (k := 0) (R := fStr) rfl Try.runUnderlying45 Try.sizeOf9 rfl rfl h23)) rfl ?_
            refine QJ.step (YldS.yld (y_loadR (k := 0) (i := (Int.toNat i18)) (off := 0) (u := str e22) rfl Try.isAgg9 rfl (idx_get h23) rfl)) rfl ?_
            refine QJ.step (YldS.yld (y_binS rfl rfl rfl)) rfl ?_
            refine QJ.done ?_
            refine PJ.next ?_
            refine WJ.cond (t := (e22 == [])) rfl (fun hb24 => ?_) (fun hb24 => ?_)
            · replace hm := ifT hm hb24
              refine WJ.seq ?_
              refine WJ.quiet ?_
              refine QJ.step (YldS.yld (y_assign rfl)) rfl ?_
              refine QJ.done ?_
              refine PJ.next ?_
              refine WJ.ret ?_
              refine PJ.then_ret (PJ.block_ret (PJ.then_ret (PJ.then_ret (PJ.block_ret (PJ.then_ret ?_)))))
              obtain rfl := Option.some.inj hm
              refine PJ.sel (L' := []) [] ⟨List.nodup_nil, rfl⟩ ?_
              exact PJ.retn (vs := [.bool false]) Try.results115 ⟨rfl, trivial⟩ ⟨rfl, rfl⟩
            · replace hm := ifF hm hb24
              refine WJ.skip ?_
              refine PJ.next ?_
              refine WJ.seq ?_
              refine WJ.quiet ?_
              refine QJ.step (YldS.yld (y_assign rfl)) rfl ?_
              refine QJ.done ?_
              refine PJ.next ?_
              refine WJ.block ?_
              refine WJ.sel (L' := (fun (x : Int) => [row v15 9 fStr r13]) 0) [0] ⟨by decide, rfl⟩ ?_
              refine WJ.sub (m' := (fun (x : Int) => [(3, v15), (4, .int .i64 i18), (5, .int .i64 x)]) 0) ⟨rfl, rfl, rfl, trivial⟩ ?_
              refine WJ.loop (X := Int) (fun N (x : Int) => s_l08Number_l2 kj20 r13 i18 N x = some r) (fun (x : Int) => [(3, v15), (4, .int .i64 i18), (5, .int .i64 x)]) (fun (x : Int) => [row v15 9 fStr r13]) ?_ N 0 hm
              · rintro N k25 hI
                have hm := hI; clear hI
                cases N with
                | zero => cases hm
                | succ N =>
                unfold s_l08Number_l2 at hm
                refine WJ.seq ?_
                refine WJ.seq ?_
                refine WJ.quiet ?_
                refine QJ.step (YldS.yld (y_move rfl)) rfl ?_
                refine QJ.step (YldS.yld (y_move rfl)) rfl ?_
                refine QJ.step (YldS.yld (y_move rfl)) rfl ?_
                obtain ⟨e26, h27, hm⟩ := bindS hm
                refine QJ.step (YldS.yld (y_ixRow (k := 0) (R := fStr) rfl Try.runUnderlying45 Try.sizeOf9 rfl rfl h27)) rfl ?_
                refine QJ.step (YldS.yld (y_loadR (k := 0) (i := (Int.toNat i18)) (off := 0) (u := str e26) rfl Try.isAgg9 rfl (idx_get h27) rfl)) rfl ?_
                refine QJ.step (YldS.yld (y_lenStr Try.runUnderlying9 rfl)) rfl ?_
                refine QJ.step (YldS.yld (y_bin rfl rfl rfl)) rfl ?_
                refine QJ.done ?_
                refine PJ.next ?_
                refine WJ.cond (t := decide (k25 < (List.length e26 : Int))) rfl (fun hb28 => ?_) (fun hb28 => ?_)
                · replace hm := ifT hm hb28
                  refine WJ.skip ?_
                  refine PJ.next ?_
                  refine WJ.seq ?_
                  refine WJ.block ?_
                  refine WJ.seq ?_
                  refine WJ.quiet ?_
                  refine QJ.step (YldS.yld (y_move rfl)) rfl ?_
                  refine QJ.step (YldS.yld (y_move rfl)) rfl ?_
                  obtain ⟨e29, h30, hm⟩ := bindS hm
                  refine QJ.step (YldS.yld (y_ixRow (k := 0) (R := fStr) rfl Try.runUnderlying45 Try.sizeOf9 rfl rfl h30)) rfl ?_
                  refine QJ.step (YldS.yld (y_loadR (k := 0) (i := (Int.toNat i18)) (off := 0) (u := str e29) rfl Try.isAgg9 rfl (idx_get h30) rfl)) rfl ?_
                  refine QJ.step (YldS.yld (y_move rfl)) rfl ?_
                  obtain ⟨c31, h32, hm⟩ := bindS hm
                  refine QJ.step (YldS.yld (y_idxStr Try.runUnderlying9 rfl rfl h32)) rfl ?_
                  obtain ⟨r33, h34, hm⟩ := bindS hm
                  refine QJ.step (y_call Try.call161 rfl (RetG.quiet fun w hw => ok_s_l01Digit h34 w )) rfl ?_
                  refine QJ.step (YldS.yld (y_not rfl)) rfl ?_
                  refine QJ.done ?_
                  refine PJ.next ?_
                  refine WJ.cond (t := !r33) rfl (fun hb35 => ?_) (fun hb35 => ?_)
                  · replace hm := ifT hm hb35
                    refine WJ.seq ?_
                    refine WJ.quiet ?_
                    refine QJ.step (YldS.yld (y_assign rfl)) rfl ?_
                    refine QJ.done ?_
                    refine PJ.next ?_
                    refine WJ.ret ?_
                    refine PJ.block_ret (PJ.then_ret (PJ.then_ret (PJ.block_ret (PJ.block_ret (PJ.then_ret (PJ.then_ret (PJ.block_ret (PJ.then_ret ?_))))))))
                    obtain rfl := Option.some.inj hm
                    refine PJ.sel (L' := []) [] ⟨List.nodup_nil, rfl⟩ ?_
                    exact PJ.retn (vs := [.bool false]) Try.results115 ⟨rfl, trivial⟩ ⟨rfl, rfl⟩
                  · replace hm := ifF hm hb35
                    refine WJ.skip ?_
                    refine PJ.block_normal (PJ.next ?_)
                    refine WJ.quiet ?_
                    refine QJ.step (YldS.yld (y_move rfl)) rfl ?_
                    refine QJ.step (YldS.yld (y_bin rfl rfl rfl)) rfl ?_
                    refine QJ.step (YldS.yld (y_assign rfl)) rfl ?_
                    refine QJ.done ?_
                    exact PJ.round (w64 (k25 + 1)) [0] hm ⟨rfl, rfl, rfl, trivial⟩ ⟨by decide, rfl⟩
                · replace hm := ifF hm hb28
                  refine WJ.exit ?_
                  refine PJ.then_exit (PJ.then_exit (PJ.block_exit (PJ.block_normal ?_)))
                  exact PJ.joined () [0] hm ⟨rfl, rfl, trivial⟩ ⟨by decide, rfl⟩
          · rintro _ hm
            subst hk21
            refine WJ.quiet ?_
            refine QJ.step (YldS.yld (y_move rfl)) rfl ?_
            refine QJ.step (YldS.yld (y_bin rfl rfl rfl)) rfl ?_
            refine QJ.step (YldS.yld (y_assign rfl)) rfl ?_
            refine QJ.done ?_
            exact PJ.round (w64 (i18 + 1)) [0] hm ⟨rfl, rfl, trivial⟩ ⟨by decide, rfl⟩
        · replace hm := ifF hm hb19
          refine WJ.exit ?_
          refine PJ.then_exit (PJ.then_exit (PJ.block_exit ?_))
          exact PJ.joined () [0] hm ⟨rfl, trivial⟩ ⟨by decide, rfl⟩
    · rintro _ hm
      subst hk17
      refine WJ.seq ?_
      refine WJ.quiet ?_
      refine QJ.step (YldS.yld (y_move rfl)) rfl ?_
      refine QJ.step (YldS.yld (y_lenRow (k := 0) rfl Try.runUnderlying45 rfl)) rfl ?_
      refine QJ.step (YldS.yld (y_bin rfl rfl rfl)) rfl ?_
      refine QJ.step (YldS.yld (y_assign rfl)) rfl ?_
      refine QJ.done ?_
      refine PJ.next ?_
      refine WJ.ret ?_
      obtain rfl := Option.some.inj hm
      refine PJ.sel (L' := []) [] ⟨List.nodup_nil, rfl⟩ ?_
      exact PJ.retn (vs := [.bool (decide ((List.length r13 : Int) ≤ 2))]) Try.results115 ⟨rfl, trivial⟩ ⟨rfl, rfl⟩

set_option maxRecDepth 100000 in
set_option maxHeartbeats 1000000 in
theorem ok_s_l08Point {N : Nat} {s1 : Str} {r : Int} (hm : s_l08Point N s1 = some r) (w : World)  :
    Calls Try.prog 117 #[str s1] w (Ret (cx w) (.int .i64 r)) := by
  unfold s_l08Point at hm
  refine Calls.enter [str s1] Try.func117 rfl Try.ntmps117 rfl ?_
  refine WJ.seq ?_
  refine WJ.quiet ?_
  refine QJ.step (YldS.yld (y_assign rfl)) rfl ?_
  refine QJ.done ?_
  refine PJ.next ?_
  obtain ⟨kj2, hk3, hm⟩ := withK_open hm
  refine WJ.join (X := Unit) (fun (_ : Unit) => kj2  = some r) (fun (_ : Unit) => [(0, str s1)]) (fun (_ : Unit) => []) ?_ ?_
  · clear hk3
    refine WJ.seq ?_
    refine WJ.quiet ?_
    refine QJ.step (YldS.yld (y_assign rfl)) rfl ?_
    refine QJ.done ?_
    refine PJ.next ?_
    refine WJ.block ?_
    refine WJ.sel (L' := (fun (x : Int) => []) 0) [] ⟨List.nodup_nil, rfl⟩ ?_
    refine WJ.sub (m' := (fun (x : Int) => [(0, str s1), (3, .int .i64 x)]) 0) ⟨rfl, rfl, trivial⟩ ?_
    refine WJ.loop (X := Int) (fun N (x : Int) => s_l08Point_l1 kj2 s1 N x = some r) (fun (x : Int) => [(0, str s1), (3, .int .i64 x)]) (fun (x : Int) => []) ?_ N 0 hm
    · rintro N i4 hI
      have hm := hI; clear hI
      cases N with
      | zero => cases hm
      | succ N =>
      unfold s_l08Point_l1 at hm
      refine WJ.seq ?_
      refine WJ.seq ?_
      refine WJ.quiet ?_
      refine QJ.step (YldS.yld (y_move rfl)) rfl ?_
      refine QJ.step (YldS.yld (y_move rfl)) rfl ?_
      refine QJ.step (YldS.yld (y_lenStr Try.runUnderlying9 rfl)) rfl ?_
      refine QJ.step (YldS.yld (y_bin rfl rfl rfl)) rfl ?_
      refine QJ.done ?_
      refine PJ.next ?_
      refine WJ.cond (t := decide (i4 < (List.length s1 : Int))) rfl (fun hb5 => ?_) (fun hb5 => ?_)
      · replace hm := ifT hm hb5
        refine WJ.skip ?_
        refine PJ.next ?_
        refine WJ.seq ?_
        refine WJ.block ?_
        refine WJ.seq ?_
        refine WJ.quiet ?_
        refine QJ.step (YldS.yld (y_move rfl)) rfl ?_
        refine QJ.step (YldS.yld (y_move rfl)) rfl ?_
        obtain ⟨c6, h7, hm⟩ := bindS hm
        refine QJ.step (YldS.yld (y_idxStr Try.runUnderlying9 rfl rfl h7)) rfl ?_
        refine QJ.step (YldS.yld (y_bin8 c6 (46 : UInt8) rfl rfl rfl)) rfl ?_
        refine QJ.done ?_
        refine PJ.next ?_
        refine WJ.cond (t := (c6 == (46 : UInt8))) rfl (fun hb8 => ?_) (fun hb8 => ?_)
        · replace hm := ifT hm hb8
          refine WJ.seq ?_
          refine WJ.quiet ?_
          refine QJ.step (YldS.yld (y_move rfl)) rfl ?_
          refine QJ.step (YldS.yld (y_assign rfl)) rfl ?_
          refine QJ.done ?_
          refine PJ.next ?_
          refine WJ.ret ?_
          refine PJ.block_ret (PJ.then_ret (PJ.then_ret (PJ.block_ret (PJ.then_ret ?_))))
          obtain rfl := Option.some.inj hm
          refine PJ.sel (L' := []) [] ⟨List.nodup_nil, rfl⟩ ?_
          exact PJ.retn (vs := [.int .i64 i4]) Try.results117 ⟨rfl, trivial⟩ ⟨rfl, rfl⟩
        · replace hm := ifF hm hb8
          refine WJ.skip ?_
          refine PJ.block_normal (PJ.next ?_)
          refine WJ.quiet ?_
          refine QJ.step (YldS.yld (y_move rfl)) rfl ?_
          refine QJ.step (YldS.yld (y_bin rfl rfl rfl)) rfl ?_
          refine QJ.step (YldS.yld (y_assign rfl)) rfl ?_
          refine QJ.done ?_
          exact PJ.round (w64 (i4 + 1)) [] hm ⟨rfl, rfl, trivial⟩ ⟨List.nodup_nil, rfl⟩
      · replace hm := ifF hm hb5
        refine WJ.exit ?_
        refine PJ.then_exit (PJ.then_exit (PJ.block_exit ?_))
        exact PJ.joined () [] hm ⟨rfl, trivial⟩ ⟨List.nodup_nil, rfl⟩
  · rintro _ hm
    subst hk3
    refine WJ.seq ?_
    refine WJ.quiet ?_
    refine QJ.step (YldS.yld (y_move rfl)) rfl ?_
    refine QJ.step (YldS.yld (y_lenStr Try.runUnderlying9 rfl)) rfl ?_
    refine QJ.step (YldS.yld (y_assign rfl)) rfl ?_
    refine QJ.done ?_
    refine PJ.next ?_
    refine WJ.ret ?_
    obtain rfl := Option.some.inj hm
    refine PJ.sel (L' := []) [] ⟨List.nodup_nil, rfl⟩ ?_
    exact PJ.retn (vs := [.int .i64 (List.length s1 : Int)]) Try.results117 ⟨rfl, trivial⟩ ⟨rfl, rfl⟩

set_option maxRecDepth 100000 in
set_option maxHeartbeats 1000000 in
theorem ok_s_AlignNumbers {N : Nat} {list1 : List Str} {r : (List Str) × Int} (hm : s_AlignNumbers N list1 = some r) (w : World) (v2 : Value) (hr3 : RdS w (cx w).Fz v2 fStr.rp list1) :
    Calls Try.prog 37 #[v2] w (RetG (cx w) fun u L => ∃ (u1 : Value), (u = tup [u1, .int .i64 r.2] ∧ L = [row u1 9 fStr r.1])) := by
  unfold s_AlignNumbers at hm
  refine Calls.enter [v2] Try.func37 rfl Try.ntmps37 rfl ?_
  refine WJ.seq ?_
  refine WJ.quiet ?_
  refine QJ.step (YldS.yld (y_assign rfl)) rfl ?_
  refine QJ.step (YldS.yld (y_assign rfl)) rfl ?_
  refine QJ.done ?_
  refine PJ.next ?_
  refine WJ.seq ?_
  refine WJ.quiet ?_
  refine QJ.step (YldS.yld (y_assign rfl)) rfl ?_
  refine QJ.done ?_
  refine PJ.next ?_
  obtain ⟨kj4, hk5, hm⟩ := withK_open hm
  refine WJ.join (X := Unit) (fun (_ : Unit) => kj4  = some r) (fun (_ : Unit) => [(0, v2), (4, .int .i64 0)]) (fun (_ : Unit) => []) ?_ ?_
  · clear hk5
    refine WJ.seq ?_
    refine WJ.quiet ?_
    refine QJ.step (YldS.yld (y_assign rfl)) rfl ?_
    refine QJ.done ?_
    refine PJ.next ?_
    refine WJ.block ?_
    refine WJ.sel (L' := (fun (x : Int) => []) 0) [] ⟨List.nodup_nil, rfl⟩ ?_
    refine WJ.sub (m' := (fun (x : Int) => [(0, v2), (4, .int .i64 0), (5, .int .i64 x)]) 0) ⟨rfl, rfl, rfl, trivial⟩ ?_
    refine WJ.loop (X := Int) (fun N (x : Int) => s_AlignNumbers_l1 kj4 list1 N x = some r) (fun (x : Int) => [(0, v2), (4, .int .i64 0), (5, .int .i64 x)]) (fun (x : Int) => []) ?_ N 0 hm
    · rintro N i6 hI
      have hm := hI; clear hI
      cases N with
      | zero => cases hm
      | succ N =>
      unfold s_AlignNumbers_l1 at hm
      refine WJ.seq ?_
      refine WJ.seq ?_
      refine WJ.quiet ?_
      refine QJ.step (YldS.yld (y_move rfl)) rfl ?_
      refine QJ.step (YldS.yld (y_move rfl)) rfl ?_
      refine QJ.step (YldS.yld (y_lenS Try.runUnderlying45 hr3 rfl)) rfl ?_
      refine QJ.step (YldS.yld (y_bin rfl rfl rfl)) rfl ?_
      refine QJ.done ?_
      refine PJ.next ?_
      refine WJ.cond (t := decide (i6 < (List.length list1 : Int))) rfl (fun hb7 => ?_) (fun hb7 => ?_)
      · replace hm := ifT hm hb7
        refine WJ.skip ?_
        refine PJ.next ?_
        refine WJ.seq ?_
        refine WJ.block ?_
        refine WJ.seq ?_
        refine WJ.quiet ?_
        refine QJ.step (YldS.yld (y_move rfl)) rfl ?_
        refine QJ.step (YldS.yld (y_move rfl)) rfl ?_
        obtain ⟨e8, h9, hm⟩ := bindS hm
        obtain ⟨ad10, _, rfl, ha11, hy12⟩ := hr3.elem h9
        refine QJ.step (YldS.yld (hy12 Try.runUnderlying45 Try.sizeOf9 rfl rfl)) rfl ?_
        refine QJ.step (YldS.yld (y_load1 (v := str e8) Try.isAgg9 ha11 St.frozenC rfl)) rfl ?_
        refine QJ.step (YldS.yld (y_lenStr Try.runUnderlying9 rfl)) rfl ?_
        refine QJ.step (YldS.yld (y_bin rfl rfl rfl)) rfl ?_
        refine QJ.done ?_
        refine PJ.next ?_
        refine WJ.cond (t := decide ((List.length e8 : Int) > 30)) rfl (fun hb13 => ?_) (fun hb13 => ?_)
        · replace hm := ifT hm hb13
          refine WJ.seq ?_
          refine WJ.quiet ?_
          refine QJ.step (YldS.yld (y_assign rfl)) rfl ?_
          refine QJ.step (YldS.yld (y_assign rfl)) rfl ?_
          refine QJ.done ?_
          refine PJ.next ?_
          refine WJ.ret ?_
          refine PJ.block_ret (PJ.then_ret (PJ.then_ret (PJ.block_ret (PJ.then_ret ?_))))
          refine PJ.nil_row 9 fStr ?_
          obtain rfl := Option.some.inj hm
          refine PJ.sel (L' := [row (.slice none 0 0) 9 fStr []]) [0] ⟨by decide, rfl⟩ ?_
          exact PJ.retn (vs := [(.slice none 0 0), .int .i64 2]) Try.results37 ⟨rfl, rfl, trivial⟩ ⟨_, rfl, rfl⟩
        · replace hm := ifF hm hb13
          refine WJ.skip ?_
          refine PJ.block_normal (PJ.next ?_)
          refine WJ.quiet ?_
          refine QJ.step (YldS.yld (y_move rfl)) rfl ?_
          refine QJ.step (YldS.yld (y_bin rfl rfl rfl)) rfl ?_
          refine QJ.step (YldS.yld (y_assign rfl)) rfl ?_
          refine QJ.done ?_
          exact PJ.round (w64 (i6 + 1)) [] hm ⟨rfl, rfl, rfl, trivial⟩ ⟨List.nodup_nil, rfl⟩
      · replace hm := ifF hm hb7
        refine WJ.exit ?_
        refine PJ.then_exit (PJ.then_exit (PJ.block_exit ?_))
        exact PJ.joined () [] hm ⟨rfl, rfl, trivial⟩ ⟨List.nodup_nil, rfl⟩
  · rintro _ hm
    subst hk5
    refine WJ.seq ?_
    refine WJ.seq ?_
    refine WJ.quiet ?_
    refine QJ.step (YldS.yld (y_move rfl)) rfl ?_
    refine QJ.step (YldS.yld (y_lenS Try.runUnderlying45 hr3 rfl)) rfl ?_
    refine QJ.step (YldS.yld (y_bin rfl rfl rfl)) rfl ?_
    refine QJ.done ?_
    refine PJ.next ?_
    refine WJ.cond (t := decide ((List.length list1 : Int) > 40)) rfl (fun hb14 => ?_) (fun hb14 => ?_)
    · replace hm := ifT hm hb14
      refine WJ.seq ?_
      refine WJ.quiet ?_
      refine QJ.step (YldS.yld (y_assign rfl)) rfl ?_
      refine QJ.step (YldS.yld (y_assign rfl)) rfl ?_
      refine QJ.done ?_
      refine PJ.next ?_
      refine WJ.ret ?_
      refine PJ.then_ret ?_
      refine PJ.nil_row 9 fStr ?_
      obtain rfl := Option.some.inj hm
      refine PJ.sel (L' := [row (.slice none 0 0) 9 fStr []]) [0] ⟨by decide, rfl⟩ ?_
      exact PJ.retn (vs := [(.slice none 0 0), .int .i64 2]) Try.results37 ⟨rfl, rfl, trivial⟩ ⟨_, rfl, rfl⟩
    · replace hm := ifF hm hb14
      refine WJ.skip ?_
      refine PJ.next ?_
      obtain ⟨kj16, hk17, hm⟩ := withK_open hm
      refine WJ.join (X := Int) (fun (x : Int) => kj16 x = some r) (fun (x : Int) => [(0, v2), (4, .int .i64 x)]) (fun (x : Int) => []) ?_ ?_
      · clear hk17
        refine WJ.seq ?_
        refine WJ.quiet ?_
        refine QJ.step (YldS.yld (y_assign rfl)) rfl ?_
        refine QJ.done ?_
        refine PJ.next ?_
        refine WJ.block ?_
        refine WJ.sel (L' := (fun (x : Int × Int) => []) (0, 0)) [] ⟨List.nodup_nil, rfl⟩ ?_
        refine WJ.sub (m' := (fun (x : Int × Int) => [(0, v2), (4, .int .i64 x.1), (6, .int .i64 x.2)]) (0, 0)) ⟨rfl, rfl, rfl, trivial⟩ ?_
        refine WJ.loop (X := Int × Int) (fun N (x : Int × Int) => s_AlignNumbers_l2 kj16 list1 N x.1 x.2 = some r) (fun (x : Int × Int) => [(0, v2), (4, .int .i64 x.1), (6, .int .i64 x.2)]) (fun (x : Int × Int) => []) ?_ N (0, 0) hm
        · rintro N ⟨most18, i19⟩ hI
          have hm := hI; clear hI
          cases N with
          | zero => cases hm
          | succ N =>
          unfold s_AlignNumbers_l2 at hm
          refine WJ.seq ?_
          refine WJ.seq ?_
          refine WJ.quiet ?_
          refine QJ.step (YldS.yld (y_move rfl)) rfl ?_
          refine QJ.step (YldS.yld (y_move rfl)) rfl ?_
          refine QJ.step (YldS.yld (y_lenS Try.runUnderlying45 hr3 rfl)) rfl ?_
          refine QJ.step (YldS.yld (y_bin rfl rfl rfl)) rfl ?_
          refine QJ.done ?_
          refine PJ.next ?_
          refine WJ.cond (t := decide (i19 < (List.length list1 : Int))) rfl (fun hb20 => ?_) (fun hb20 => ?_)
          · replace hm := ifT hm hb20
            refine WJ.skip ?_
            refine PJ.next ?_
            refine WJ.seq ?_
            refine WJ.block ?_
            refine WJ.seq ?_
            refine WJ.seq ?_
            refine WJ.quiet ?_
            refine QJ.step (YldS.yld (y_move rfl)) rfl ?_
            refine QJ.step (YldS.yld (y_move rfl)) rfl ?_
            obtain ⟨e21, h22, hm⟩ := bindS hm
            obtain ⟨ad23, _, rfl, ha24, hy25⟩ := hr3.elem h22
            refine QJ.step (YldS.yld (hy25 Try.runUnderlying45 Try.sizeOf9 rfl rfl)) rfl ?_
            refine QJ.step (YldS.yld (y_load1 (v := str e21) Try.isAgg9 ha24 St.frozenC rfl)) rfl ?_
            obtain ⟨r26, h27, hm⟩ := bindS hm
            refine QJ.step (y_call Try.call115 rfl (RetG.quiet fun w hw => ok_s_l08Number h27 w )) rfl ?_
            refine QJ.step (YldS.yld (y_not rfl)) rfl ?_
            refine QJ.done ?_
            refine PJ.next ?_
            refine WJ.cond (t := !r26) rfl (fun hb28 => ?_) (fun hb28 => ?_)
            · replace hm := ifT hm hb28
              refine WJ.seq ?_
              refine WJ.quiet ?_
              refine QJ.step (YldS.yld (y_assign rfl)) rfl ?_
              refine QJ.step (YldS.yld (y_assign rfl)) rfl ?_
              refine QJ.done ?_
              refine PJ.next ?_
              refine WJ.ret ?_
              refine PJ.then_ret (PJ.block_ret (PJ.then_ret (PJ.then_ret (PJ.block_ret (PJ.then_ret ?_)))))
              refine PJ.nil_row 9 fStr ?_
              obtain rfl := Option.some.inj hm
              refine PJ.sel (L' := [row (.slice none 0 0) 9 fStr []]) [0] ⟨by decide, rfl⟩ ?_
              exact PJ.retn (vs := [(.slice none 0 0), .int .i64 7]) Try.results37 ⟨rfl, rfl, trivial⟩ ⟨_, rfl, rfl⟩
            · replace hm := ifF hm hb28
              refine WJ.skip ?_
              refine PJ.next ?_
              refine WJ.quiet ?_
              refine QJ.step (YldS.yld (y_move rfl)) rfl ?_
              refine QJ.step (YldS.yld (y_move rfl)) rfl ?_
              refine QJ.step (YldS.yld (y_move rfl)) rfl ?_
              obtain ⟨e29, h30, hm⟩ := bindS hm
              obtain ⟨ad31, _, rfl, ha32, hy33⟩ := hr3.elem h30
              refine QJ.step (YldS.yld (hy33 Try.runUnderlying45 Try.sizeOf9 rfl rfl)) rfl ?_
              refine QJ.step (YldS.yld (y_load1 (v := str e29) Try.isAgg9 ha32 St.frozenC rfl)) rfl ?_
              obtain ⟨r34, h35, hm⟩ := bindS hm
              refine QJ.step (y_call Try.call117 rfl (RetG.quiet fun w hw => ok_s_l08Point h35 w )) rfl ?_
              obtain ⟨r36, h37, hm⟩ := bindS hm
              refine QJ.step (y_call Try.call116 rfl (RetG.quiet fun w hw => ok_s_l00Max h37 w )) rfl ?_
              refine QJ.step (YldS.yld (y_assign rfl)) rfl ?_
              refine QJ.done ?_
              refine PJ.block_normal (PJ.next ?_)
              refine WJ.quiet ?_
              refine QJ.step (YldS.yld (y_move rfl)) rfl ?_
              refine QJ.step (YldS.yld (y_bin rfl rfl rfl)) rfl ?_
              refine QJ.step (YldS.yld (y_assign rfl)) rfl ?_
              refine QJ.done ?_
              exact PJ.round (r36, w64 (i19 + 1)) [] hm ⟨rfl, rfl, rfl, trivial⟩ ⟨List.nodup_nil, rfl⟩
          · replace hm := ifF hm hb20
            refine WJ.exit ?_
            refine PJ.then_exit (PJ.then_exit (PJ.block_exit ?_))
            exact PJ.joined most18 [] hm ⟨rfl, rfl, trivial⟩ ⟨List.nodup_nil, rfl⟩
      · rintro most15 hm
        subst hk17
        refine WJ.seq ?_
        refine WJ.reg ?_
        refine SJ.buildSlice (R := fStr) (os := []) [] Try.runUnderlying45 Try.sizeOf9 Try.zeroValue9 rfl rfl rfl rfl rfl rfl fun v38 => ?_
        refine SJ.q (YldS.yld (y_assign rfl)) rfl ?_
        refine SJ.nil ?_
        refine PJ.next ?_
        obtain ⟨kj41, hk42, hm⟩ := withK_open hm
        refine WJ.join (X := (List Str) × Value) (fun (x : (List Str) × Value) => kj41 x.1 = some r) (fun (x : (List Str) × Value) => [(7, x.2)]) (fun (x : (List Str) × Value) => [row x.2 9 fStr x.1]) ?_ ?_
        · clear hk42
          refine WJ.seq ?_
          refine WJ.quiet ?_
          refine QJ.step (YldS.yld (y_assign rfl)) rfl ?_
          refine QJ.done ?_
          refine PJ.next ?_
          refine WJ.block ?_
          refine WJ.sel (L' := (fun (x : (List Str) × Value × Int) => [row x.2.1 9 fStr x.1]) ([], v38, 0)) [0] ⟨by decide, rfl⟩ ?_
          refine WJ.sub (m' := (fun (x : (List Str) × Value × Int) => [(0, v2), (4, .int .i64 most15), (7, x.2.1), (8, .int .i64 x.2.2)]) ([], v38, 0)) ⟨rfl, rfl, rfl, rfl, trivial⟩ ?_
          refine WJ.loop (X := (List Str) × Value × Int) (fun N (x : (List Str) × Value × Int) => s_AlignNumbers_l3 kj41 list1 most15 N x.1 x.2.2 = some r) (fun (x : (List Str) × Value × Int) => [(0, v2), (4, .int .i64 most15), (7, x.2.1), (8, .int .i64 x.2.2)]) (fun (x : (List Str) × Value × Int) => [row x.2.1 9 fStr x.1]) ?_ N ([], v38, 0) hm
          · rintro N ⟨l43, v44, i45⟩ hI
            have hm := hI; clear hI
            cases N with
            | zero => cases hm
            | succ N =>
            unfold s_AlignNumbers_l3 at hm
            refine WJ.seq ?_
            refine WJ.seq ?_
            refine WJ.quiet ?_
            refine QJ.step (YldS.yld (y_move rfl)) rfl ?_
            refine QJ.step (YldS.yld (y_move rfl)) rfl ?_
            refine QJ.step (YldS.yld (y_lenS Try.runUnderlying45 hr3 rfl)) rfl ?_
            refine QJ.step (YldS.yld (y_bin rfl rfl rfl)) rfl ?_
            refine QJ.done ?_
            refine PJ.next ?_
            refine WJ.cond (t := decide (i45 < (List.length list1 : Int))) rfl (fun hb46 => ?_) (fun hb46 => ?_)
            · replace hm := ifT hm hb46
              refine WJ.skip ?_
              refine PJ.next ?_
              refine WJ.seq ?_
              refine WJ.block ?_
              obtain ⟨e47, h48, hm⟩ := bindS hm
              obtain ⟨ad49, _, rfl, ha50, hy51⟩ := hr3.elem h48
              obtain ⟨r52, h53, hm⟩ := bindS hm
              obtain ⟨r54, h55, hm⟩ := bindS hm
              obtain ⟨e56, h57, hm⟩ := bindS hm
              obtain ⟨ad58, _, rfl, ha59, hy60⟩ := hr3.elem h57
              obtain ⟨s61, h62, hm⟩ := bindS hm
              obtain ⟨l64, h65, hm⟩ := bindS hm
              refine WJ.draws (N := 17) (listed0 := #[false, false, false, false, false, false, false, false, false, false, false, false, false, false, false, false, false]) [] follows rfl rfl ?_
              refine RJ.first 0 (listed' := #[true, false, false, false, false, false, false, false, false, false, false, false, false, false, false, false, false]) [] rfl (by kernel_rfl) rfl ⟨List.nodup_nil, rfl⟩ (y_move rfl) rfl ?_
              refine RJ.first 1 (listed' := #[true, true, false, false, false, false, false, false, false, false, false, false, false, false, false, false, false]) [] rfl (by kernel_rfl) rfl ⟨List.nodup_nil, rfl⟩ (y_move rfl) rfl ?_
              refine RJ.first 2 (listed' := #[true, true, true, false, false, false, false, false, false, false, false, false, false, false, false, false, false]) [] rfl (by kernel_rfl) rfl ⟨List.nodup_nil, rfl⟩ (y_move rfl) rfl ?_
              refine RJ.first 3 (listed' := #[true, true, true, true, false, false, false, false, false, false, false, false, false, false, false, false, false]) [] rfl (by kernel_rfl) rfl ⟨List.nodup_nil, rfl⟩ (y_move rfl) rfl ?_
              refine RJ.first 4 (listed' := #[true, true, true, true, true, false, false, false, false, false, false, false, false, false, false, false, false]) [] rfl (by kernel_rfl) rfl ⟨List.nodup_nil, rfl⟩ (hy51 Try.runUnderlying45 Try.sizeOf9 rfl rfl) rfl ?_
              refine RJ.first 5 (listed' := #[true, true, true, true, true, true, false, false, false, false, false, false, false, false, false, false, false]) [] rfl (by kernel_rfl) rfl ⟨List.nodup_nil, rfl⟩ (y_load1 (v := str e47) Try.isAgg9 ha50 St.frozenC rfl) rfl ?_
              refine RJ.first 9 (listed' := #[true, true, true, true, true, true, false, false, false, true, false, false, false, false, false, false, false]) [] rfl (by kernel_rfl) rfl ⟨List.nodup_nil, rfl⟩ (y_move rfl) rfl ?_
              refine RJ.first 10 (listed' := #[true, true, true, true, true, true, false, false, false, true, true, false, false, false, false, false, false]) [] rfl (by kernel_rfl) rfl ⟨List.nodup_nil, rfl⟩ (y_move rfl) rfl ?_
              refine RJ.first 11 (listed' := #[true, true, true, true, true, true, false, false, false, true, true, true, false, false, false, false, false]) [] rfl (by kernel_rfl) rfl ⟨List.nodup_nil, rfl⟩ (hy60 Try.runUnderlying45 Try.sizeOf9 rfl rfl) rfl ?_
              refine RJ.first 12 (listed' := #[true, true, true, true, true, true, false, false, false, true, true, true, true, false, false, false, false]) [] rfl (by kernel_rfl) rfl ⟨List.nodup_nil, rfl⟩ (y_load1 (v := str e56) Try.isAgg9 ha59 St.frozenC rfl) rfl ?_
              refine RJ.step1 6 [] (by kernel_rfl) ⟨List.nodup_nil, rfl⟩ ?_
              refine RO.of (listed' := #[true, true, true, true, true, true, true, false, false, true, true, true, true, false, false, false, false]) rfl rfl ?_
              refine SJ.q (y_call Try.call117 rfl (RetG.quiet fun w hw => ok_s_l08Point h53 w )) rfl ?_
              refine SJ.nil ?_
              refine PJ.draw ?_
              refine RJ.first 7 (listed' := #[true, true, true, true, true, true, true, true, false, true, true, true, true, false, false, false, false]) [] rfl (by kernel_rfl) rfl ⟨List.nodup_nil, rfl⟩ (y_bin rfl rfl rfl) rfl ?_
              refine RJ.step1 8 [] (by kernel_rfl) ⟨List.nodup_nil, rfl⟩ ?_
              refine RO.of (listed' := #[true, true, true, true, true, true, true, true, true, true, true, true, true, false, false, false, false]) rfl rfl ?_
              refine SJ.q (y_call Try.call105 rfl (RetG.quiet fun w hw => ok_s_l08Blanks h55 w )) rfl ?_
              refine SJ.nil ?_
              refine PJ.draw ?_
              refine RJ.first 13 (listed' := #[true, true, true, true, true, true, true, true, true, true, true, true, true, true, false, false, false]) [] rfl (by kernel_rfl) rfl ⟨List.nodup_nil, rfl⟩ (y_cat h62 rfl rfl) rfl ?_
              refine RJ.step1 14 [] (by kernel_rfl) ⟨List.nodup_nil, rfl⟩ ?_
              refine RO.of (listed' := #[true, true, true, true, true, true, true, true, true, true, true, true, true, true, true, false, false]) rfl rfl ?_
              refine SJ.buildSlice (R := fStr) (os := [.tmp 63]) [s61] Try.runUnderlying45 Try.sizeOf9 Try.zeroValue9 rfl rfl rfl rfl rfl rfl fun v63 => ?_
              refine SJ.nil ?_
              refine PJ.draw ?_
              refine RJ.step1 15 [] (by kernel_rfl) ⟨List.nodup_nil, rfl⟩ ?_
              refine RO.of (listed' := #[true, true, true, true, true, true, true, true, true, true, true, true, true, true, true, true, false]) rfl rfl ?_
              refine SJ.append (k := 1) (R := fStr) h65 rfl Try.underlying45 el9 rfl rfl rfl (fun w hw => (hw.row_rd (k := 0) rfl)) rfl fun v66 => ?_
              refine SJ.nil ?_
              refine PJ.draw ?_
              refine RJ.first 16 (listed' := #[true, true, true, true, true, true, true, true, true, true, true, true, true, true, true, true, true]) [] rfl (by kernel_rfl) rfl ⟨List.nodup_nil, rfl⟩ (y_assign rfl) rfl ?_
              refine RJ.fin [] (by kernel_rfl) ⟨List.nodup_nil, rfl⟩ ?_
              refine PJ.block_normal (PJ.next ?_)
              refine WJ.quiet ?_
              refine QJ.step (YldS.yld (y_move rfl)) rfl ?_
              refine QJ.step (YldS.yld (y_bin rfl rfl rfl)) rfl ?_
              refine QJ.step (YldS.yld (y_assign rfl)) rfl ?_
              refine QJ.done ?_
              exact PJ.round (l64, v66, w64 (i45 + 1)) [1] hm ⟨rfl, rfl, rfl, rfl, trivial⟩ ⟨by decide, rfl⟩
            · replace hm := ifF hm hb46
              refine WJ.exit ?_
              refine PJ.then_exit (PJ.then_exit (PJ.block_exit ?_))
              exact PJ.joined (l43, v44) [0] hm ⟨rfl, trivial⟩ ⟨by decide, rfl⟩
        · rintro ⟨l39, v40⟩ hm
          subst hk42
          refine WJ.seq ?_
          refine WJ.quiet ?_
          refine QJ.step (YldS.yld (y_move rfl)) rfl ?_
          refine QJ.step (YldS.yld (y_assign rfl)) rfl ?_
          refine QJ.step (YldS.yld (y_assign rfl)) rfl ?_
          refine QJ.done ?_
          refine PJ.next ?_
          refine WJ.ret ?_
          obtain rfl := Option.some.inj hm
          refine PJ.sel (L' := [row v40 9 fStr l39]) [0] ⟨by decide, rfl⟩ ?_
          exact PJ.retn (vs := [v40, .int .i64 0]) Try.results37 ⟨rfl, rfl, trivial⟩ ⟨_, rfl, rfl⟩

set_option maxRecDepth 100000 in
set_option maxHeartbeats 1000000 in
theorem ok_s_DrawDecimalStart {code1 : List UInt8} {r : Str × Int} (hm : s_DrawDecimalStart code1 = some r) (w : World) (v2 : Value) (hr3 : RdS w (cx w).Fz v2 fByte.rp code1) :
    Calls Try.prog 38 #[v2] w (Ret (cx w) (tup [str r.1, .int .i64 r.2])) := by
  unfold s_DrawDecimalStart at hm
  refine Calls.enter [v2] Try.func38 rfl Try.ntmps38 rfl ?_
  refine WJ.seq ?_
  refine WJ.quiet ?_
  refine QJ.step (YldS.yld (y_assign rfl)) rfl ?_
  refine QJ.step (YldS.yld (y_assign rfl)) rfl ?_
  refine QJ.done ?_
  refine PJ.next ?_
  refine WJ.seq ?_
  refine WJ.reg ?_
  refine SJ.q (YldS.yld (y_move rfl)) rfl ?_
  obtain ⟨r4, h5, hm⟩ := bindS hm
  refine SJ.call Try.call89 rfl (fun w hw => ok_s_l00From h5 w _ (hr3.st hw)) rfl ?_
  rintro _ _ ⟨g6, rfl, rfl⟩
  refine SJ.q (YldS.yld (y_assign rfl)) rfl ?_
  refine SJ.nil ?_
  refine PJ.next ?_
  refine WJ.seq ?_
  refine WJ.reg ?_
  refine SJ.q (YldS.yld (y_move rfl)) rfl ?_
  obtain ⟨r7, h8, hm⟩ := bindS hm
  refine SJ.call1 (k := 0) rfl Try.call113 rfl (fun w S hw hA hO => ok_s_l08DrawNumber h8 w S _ (hr3.st1 hw hO) hA) rfl ?_
  rintro _ _ ⟨rfl, rfl⟩
  refine SJ.q (YldS.yld (y_assign rfl)) rfl ?_
  refine SJ.nil ?_
  refine PJ.next ?_
  refine WJ.seq ?_
  refine WJ.seq ?_
  refine WJ.reg ?_
  refine SJ.q (YldS.yld (y_move rfl)) rfl ?_
  obtain ⟨r9, h10, hm⟩ := bindS hm
  refine SJ.call1 (k := 0) rfl Try.call91 rfl (fun w S hw hA hO => ok_s_l00Src_one h10 w S _ (hr3.st1 hw hO) hA) rfl ?_
  rintro _ _ ⟨rfl, rfl⟩
  refine SJ.nil ?_
  refine PJ.next ?_
  refine WJ.cond (t := r9.1) rfl (fun hb11 => ?_) (fun hb11 => ?_)
  · replace hm := ifT hm hb11
    refine WJ.seq ?_
    refine WJ.reg ?_
    refine SJ.q (YldS.yld (y_move rfl)) rfl ?_
    refine SJ.q (YldS.yld (y_move rfl)) rfl ?_
    refine SJ.buildSlice (R := fI64) (os := [.const (.int .i64 (-1)), .const (.int .i64 0), .const (.int .i64 119), .const (.int .i64 120)]) [(-1), 0, 119, 120] Try.runUnderlying27 Try.sizeOf2 Try.zeroValue2 rfl rfl rfl rfl rfl rfl fun v12 => ?_
    obtain ⟨r13, h14, hm⟩ := bindS hm
    refine SJ.call2 (k := 1) rfl Try.call97 rfl (fun w S hw hA hO hB => ok_s_l00Src_among h14 w S _ (hr3.st1 hw hO) _ (hB.row_rd (j := 0) (k := 1) rfl rfl) hA) rfl ?_
    rintro _ _ ⟨rfl, rfl⟩
    refine SJ.q (YldS.yld (y_assign rfl)) rfl ?_
    refine SJ.q (YldS.yld (y_assign rfl)) rfl ?_
    refine SJ.nil ?_
    refine PJ.next ?_
    refine WJ.ret ?_
    refine PJ.then_ret ?_
    obtain rfl := Option.some.inj hm
    refine PJ.sel (L' := []) [] ⟨List.nodup_nil, rfl⟩ ?_
    exact PJ.retn (vs := [str r7.1, .int .i64 r13.1]) Try.results38 ⟨rfl, rfl, trivial⟩ ⟨rfl, rfl⟩
  · replace hm := ifF hm hb11
    refine WJ.skip ?_
    refine PJ.next ?_
    refine WJ.seq ?_
    refine WJ.reg ?_
    refine SJ.q (YldS.yld (y_move rfl)) rfl ?_
    refine SJ.q (YldS.yld (y_move rfl)) rfl ?_
    obtain ⟨r15, h16, hm⟩ := bindS hm
    refine SJ.call1 (k := 0) rfl Try.call92 rfl (fun w S hw hA hO => ok_s_l00Src_pick h16 w S _ (hr3.st1 hw hO) hA) rfl ?_
    rintro _ _ ⟨rfl, rfl⟩
    refine SJ.q (YldS.yld (y_assign rfl)) rfl ?_
    refine SJ.q (YldS.yld (y_assign rfl)) rfl ?_
    refine SJ.nil ?_
    refine PJ.next ?_
    refine WJ.ret ?_
    obtain rfl := Option.some.inj hm
    refine PJ.sel (L' := []) [] ⟨List.nodup_nil, rfl⟩ ?_
    exact PJ.retn (vs := [str r7.1, .int .i64 r15.1]) Try.results38 ⟨rfl, rfl, trivial⟩ ⟨rfl, rfl⟩

set_option maxRecDepth 100000 in
set_option maxHeartbeats 1000000 in
theorem ok_i_DecimalStart {N : Nat} {number1 : Str} {column2 : Int} {r : Int × Int} (hm : i_DecimalStart N number1 column2 = some r) (w : World)  :
    Calls Try.prog 39 #[str number1, .int .i64 column2] w (Ret (cx w) (tup [.int .i64 r.1, .int .i64 r.2])) := by
  unfold i_DecimalStart at hm
  refine Calls.enter [str number1, .int .i64 column2] Try.func39 rfl Try.ntmps39 rfl ?_
  refine WJ.seq ?_
  refine WJ.quiet ?_
  refine QJ.step (YldS.yld (y_assign rfl)) rfl ?_
  refine QJ.step (YldS.yld (y_assign rfl)) rfl ?_
  refine QJ.done ?_
  refine PJ.next ?_
  refine WJ.seq ?_
  refine WJ.seq ?_
  refine WJ.quiet ?_
  refine QJ.step (YldS.yld (y_move rfl)) rfl ?_
  obtain ⟨r3, h4, hm⟩ := bindS hm
  refine QJ.step (y_call Try.call108 rfl (RetG.quiet fun w hw => ok_i_isColumn h4 w )) rfl ?_
  refine QJ.step (YldS.yld (y_not rfl)) rfl ?_
  refine QJ.step (YldS.yld (y_move rfl)) rfl ?_
  obtain ⟨t5, h6, hm⟩ := bindS hm
  refine QJ.cut 4 [(0, str number1), (1, .int .i64 column2), (15, .bool t5)] ?_ ?_
  · rcases Bool.eq_false_or_eq_true (!r3) with hb7 | hb7
    · obtain rfl := orT h6 hb7
      refine QJ.off rfl rfl (cB hb7) rfl rfl ?_
      refine QJ.off rfl rfl (cB hb7) rfl rfl ?_
      refine QJ.off rfl rfl (cB hb7) rfl rfl ?_
      refine QJ.step (YldS.yld (y_pick_t (cB hb7) rfl)) rfl ?_
      exact QJ.cut_end ⟨rfl, rfl, rfl, trivial⟩
    · replace h6 := orF h6 hb7
      refine QJ.on rfl rfl (cB hb7) (YldS.yld (y_move rfl)) rfl ?_
      refine QJ.on rfl rfl (cB hb7) (YldS.yld (y_lenStr Try.runUnderlying9 rfl)) rfl ?_
      refine QJ.on rfl rfl (cB hb7) (YldS.yld (y_bin rfl rfl rfl)) rfl ?_
      refine QJ.step (YldS.yld (y_pick_f (cB hb7) rfl)) rfl ?_
      obtain rfl := Option.some.inj h6
      exact QJ.cut_end ⟨rfl, rfl, rfl, trivial⟩
  refine QJ.done ?_
  refine PJ.next ?_
  refine WJ.cond (t := t5) rfl (fun hb8 => ?_) (fun hb8 => ?_)
  · replace hm := ifT hm hb8
    refine WJ.seq ?_
    refine WJ.quiet ?_
    refine QJ.step (YldS.yld (y_assign rfl)) rfl ?_
    refine QJ.step (YldS.yld (y_assign rfl)) rfl ?_
    refine QJ.done ?_
    refine PJ.next ?_
    refine WJ.ret ?_
    refine PJ.then_ret ?_
    obtain rfl := Option.some.inj hm
    refine PJ.sel (L' := []) [] ⟨List.nodup_nil, rfl⟩ ?_
    exact PJ.retn (vs := [.int .i64 0, .int .i64 2]) Try.results39 ⟨rfl, rfl, trivial⟩ ⟨rfl, rfl⟩
  · replace hm := ifF hm hb8
    refine WJ.skip ?_
    refine PJ.next ?_
    refine WJ.seq ?_
    refine WJ.quiet ?_
    refine QJ.step (YldS.yld (y_move rfl)) rfl ?_
    obtain ⟨r9, h10, hm⟩ := bindS hm
    refine QJ.step (y_call Try.call114 rfl (RetG.quiet fun w hw => ok_i_pointOf h10 w )) rfl ?_
    refine QJ.step (YldS.yld (y_move rfl)) rfl ?_
    refine QJ.step (YldS.yld (y_extract rfl rfl)) rfl ?_
    refine QJ.step (YldS.yld (y_extract rfl rfl)) rfl ?_
    refine QJ.step (YldS.yld (y_assign rfl)) rfl ?_
    refine QJ.step (YldS.yld (y_assign rfl)) rfl ?_
    refine QJ.done ?_
    refine PJ.next ?_
    refine WJ.seq ?_
    refine WJ.seq ?_
    refine WJ.quiet ?_
    refine QJ.step (YldS.yld (y_move rfl)) rfl ?_
    refine QJ.step (YldS.yld (y_not rfl)) rfl ?_
    refine QJ.done ?_
    refine PJ.next ?_
    refine WJ.cond (t := !r9.2) rfl (fun hb11 => ?_) (fun hb11 => ?_)
    · replace hm := ifT hm hb11
      refine WJ.seq ?_
      refine WJ.quiet ?_
      refine QJ.step (YldS.yld (y_assign rfl)) rfl ?_
      refine QJ.step (YldS.yld (y_assign rfl)) rfl ?_
      refine QJ.done ?_
      refine PJ.next ?_
      refine WJ.ret ?_
      refine PJ.then_ret ?_
      obtain rfl := Option.some.inj hm
      refine PJ.sel (L' := []) [] ⟨List.nodup_nil, rfl⟩ ?_
      exact PJ.retn (vs := [.int .i64 0, .int .i64 7]) Try.results39 ⟨rfl, rfl, trivial⟩ ⟨rfl, rfl⟩
    · replace hm := ifF hm hb11
      refine WJ.skip ?_
      refine PJ.next ?_
      refine WJ.seq ?_
      refine WJ.seq ?_
      refine WJ.quiet ?_
      refine QJ.step (YldS.yld (y_move rfl)) rfl ?_
      refine QJ.step (YldS.yld (y_move rfl)) rfl ?_
      refine QJ.step (YldS.yld (y_bin rfl rfl rfl)) rfl ?_
      refine QJ.done ?_
      refine PJ.next ?_
      refine WJ.cond (t := decide (r9.1 > column2)) rfl (fun hb12 => ?_) (fun hb12 => ?_)
      · replace hm := ifT hm hb12
        refine WJ.seq ?_
        refine WJ.quiet ?_
        refine QJ.step (YldS.yld (y_assign rfl)) rfl ?_
        refine QJ.step (YldS.yld (y_assign rfl)) rfl ?_
        refine QJ.done ?_
        refine PJ.next ?_
        refine WJ.ret ?_
        refine PJ.then_ret ?_
        obtain rfl := Option.some.inj hm
        refine PJ.sel (L' := []) [] ⟨List.nodup_nil, rfl⟩ ?_
        exact PJ.retn (vs := [.int .i64 0, .int .i64 5]) Try.results39 ⟨rfl, rfl, trivial⟩ ⟨rfl, rfl⟩
      · replace hm := ifF hm hb12
        refine WJ.skip ?_
        refine PJ.next ?_
        refine WJ.seq ?_
        refine WJ.quiet ?_
        refine QJ.step (YldS.yld (y_move rfl)) rfl ?_
        refine QJ.step (YldS.yld (y_move rfl)) rfl ?_
        refine QJ.step (YldS.yld (y_bin rfl rfl rfl)) rfl ?_
        refine QJ.step (YldS.yld (y_assign rfl)) rfl ?_
        refine QJ.step (YldS.yld (y_assign rfl)) rfl ?_
        refine QJ.done ?_
        refine PJ.next ?_
        refine WJ.ret ?_
        obtain rfl := Option.some.inj hm
        refine PJ.sel (L' := []) [] ⟨List.nodup_nil, rfl⟩ ?_
        exact PJ.retn (vs := [.int .i64 (w64 (column2 - r9.1)), .int .i64 0]) Try.results39 ⟨rfl, rfl, trivial⟩ ⟨rfl, rfl⟩

set_option maxRecDepth 100000 in
set_option maxHeartbeats 1000000 in
theorem ok_s_DecimalStart {N : Nat} {number1 : Str} {column2 : Int} {r : Int × Int} (hm : s_DecimalStart N number1 column2 = some r) (w : World)  :
    Calls Try.prog 40 #[str number1, .int .i64 column2] w (Ret (cx w) (tup [.int .i64 r.1, .int .i64 r.2])) := by
  unfold s_DecimalStart at hm
  refine Calls.enter [str number1, .int .i64 column2] Try.func40 rfl Try.ntmps40 rfl ?_
  refine WJ.seq ?_
  refine WJ.quiet ?_
  refine QJ.step (YldS.yld (y_assign rfl)) rfl ?_
  refine QJ.step (YldS.yld (y_assign rfl)) rfl ?_
  refine QJ.done ?_
  refine PJ.next ?_
  refine WJ.seq ?_
  refine WJ.seq ?_
  refine WJ.quiet ?_
  refine QJ.step (YldS.yld (y_move rfl)) rfl ?_
  obtain ⟨r3, h4, hm⟩ := bindS hm
  refine QJ.step (y_call Try.call103 rfl (RetG.quiet fun w hw => ok_s_l00In h4 w )) rfl ?_
  refine QJ.step (YldS.yld (y_not rfl)) rfl ?_
  refine QJ.step (YldS.yld (y_move rfl)) rfl ?_
  obtain ⟨t5, h6, hm⟩ := bindS hm
  refine QJ.cut 4 [(0, str number1), (1, .int .i64 column2), (14, .bool t5)] ?_ ?_
  · rcases Bool.eq_false_or_eq_true (!r3) with hb7 | hb7
    · obtain rfl := orT h6 hb7
      refine QJ.off rfl rfl (cB hb7) rfl rfl ?_
      refine QJ.off rfl rfl (cB hb7) rfl rfl ?_
      refine QJ.off rfl rfl (cB hb7) rfl rfl ?_
      refine QJ.step (YldS.yld (y_pick_t (cB hb7) rfl)) rfl ?_
      exact QJ.cut_end ⟨rfl, rfl, rfl, trivial⟩
    · replace h6 := orF h6 hb7
      refine QJ.on rfl rfl (cB hb7) (YldS.yld (y_move rfl)) rfl ?_
      refine QJ.on rfl rfl (cB hb7) (YldS.yld (y_lenStr Try.runUnderlying9 rfl)) rfl ?_
      refine QJ.on rfl rfl (cB hb7) (YldS.yld (y_bin rfl rfl rfl)) rfl ?_
      refine QJ.step (YldS.yld (y_pick_f (cB hb7) rfl)) rfl ?_
      obtain rfl := Option.some.inj h6
      exact QJ.cut_end ⟨rfl, rfl, rfl, trivial⟩
  refine QJ.done ?_
  refine PJ.next ?_
  refine WJ.cond (t := t5) rfl (fun hb8 => ?_) (fun hb8 => ?_)
  · replace hm := ifT hm hb8
    refine WJ.seq ?_
    refine WJ.quiet ?_
    refine QJ.step (YldS.yld (y_assign rfl)) rfl ?_
    refine QJ.step (YldS.yld (y_assign rfl)) rfl ?_
    refine QJ.done ?_
    refine PJ.next ?_
    refine WJ.ret ?_
    refine PJ.then_ret ?_
    obtain rfl := Option.some.inj hm
    refine PJ.sel (L' := []) [] ⟨List.nodup_nil, rfl⟩ ?_
    exact PJ.retn (vs := [.int .i64 0, .int .i64 2]) Try.results40 ⟨rfl, rfl, trivial⟩ ⟨rfl, rfl⟩
  · replace hm := ifF hm hb8
    refine WJ.skip ?_
    refine PJ.next ?_
    refine WJ.seq ?_
    refine WJ.seq ?_
    refine WJ.quiet ?_
    refine QJ.step (YldS.yld (y_move rfl)) rfl ?_
    obtain ⟨r9, h10, hm⟩ := bindS hm
    refine QJ.step (y_call Try.call115 rfl (RetG.quiet fun w hw => ok_s_l08Number h10 w )) rfl ?_
    refine QJ.step (YldS.yld (y_not rfl)) rfl ?_
    refine QJ.done ?_
    refine PJ.next ?_
    refine WJ.cond (t := !r9) rfl (fun hb11 => ?_) (fun hb11 => ?_)
    · replace hm := ifT hm hb11
      refine WJ.seq ?_
      refine WJ.quiet ?_
      refine QJ.step (YldS.yld (y_assign rfl)) rfl ?_
      refine QJ.step (YldS.yld (y_assign rfl)) rfl ?_
      refine QJ.done ?_
      refine PJ.next ?_
      refine WJ.ret ?_
      refine PJ.then_ret ?_
      obtain rfl := Option.some.inj hm
      refine PJ.sel (L' := []) [] ⟨List.nodup_nil, rfl⟩ ?_
      exact PJ.retn (vs := [.int .i64 0, .int .i64 7]) Try.results40 ⟨rfl, rfl, trivial⟩ ⟨rfl, rfl⟩
    · replace hm := ifF hm hb11
      refine WJ.skip ?_
      refine PJ.next ?_
      refine WJ.seq ?_
      refine WJ.quiet ?_
      refine QJ.step (YldS.yld (y_move rfl)) rfl ?_
      refine QJ.step (YldS.yld (y_move rfl)) rfl ?_
      obtain ⟨r12, h13, hm⟩ := bindS hm
      refine QJ.step (y_call Try.call117 rfl (RetG.quiet fun w hw => ok_s_l08Point h13 w )) rfl ?_
      refine QJ.step (YldS.yld (y_bin rfl rfl rfl)) rfl ?_
      refine QJ.step (YldS.yld (y_assign rfl)) rfl ?_
      refine QJ.done ?_
      refine PJ.next ?_
      refine WJ.seq ?_
      refine WJ.seq ?_
      refine WJ.quiet ?_
      refine QJ.step (YldS.yld (y_move rfl)) rfl ?_
      refine QJ.step (YldS.yld (y_bin rfl rfl rfl)) rfl ?_
      refine QJ.done ?_
      refine PJ.next ?_
      refine WJ.cond (t := decide ((w64 (column2 - r12)) < 0)) rfl (fun hb14 => ?_) (fun hb14 => ?_)
      · replace hm := ifT hm hb14
        refine WJ.seq ?_
        refine WJ.quiet ?_
        refine QJ.step (YldS.yld (y_assign rfl)) rfl ?_
        refine QJ.step (YldS.yld (y_assign rfl)) rfl ?_
        refine QJ.done ?_
        refine PJ.next ?_
        refine WJ.ret ?_
        refine PJ.then_ret ?_
        obtain rfl := Option.some.inj hm
        refine PJ.sel (L' := []) [] ⟨List.nodup_nil, rfl⟩ ?_
        exact PJ.retn (vs := [.int .i64 0, .int .i64 5]) Try.results40 ⟨rfl, rfl, trivial⟩ ⟨rfl, rfl⟩
      · replace hm := ifF hm hb14
        refine WJ.skip ?_
        refine PJ.next ?_
        refine WJ.seq ?_
        refine WJ.quiet ?_
        refine QJ.step (YldS.yld (y_move rfl)) rfl ?_
        refine QJ.step (YldS.yld (y_assign rfl)) rfl ?_
        refine QJ.step (YldS.yld (y_assign rfl)) rfl ?_
        refine QJ.done ?_
        refine PJ.next ?_
        refine WJ.ret ?_
        obtain rfl := Option.some.inj hm
        refine PJ.sel (L' := []) [] ⟨List.nodup_nil, rfl⟩ ?_
        exact PJ.retn (vs := [.int .i64 (w64 (column2 - r12)), .int .i64 0]) Try.results40 ⟨rfl, rfl, trivial⟩ ⟨rfl, rfl⟩

set_option maxRecDepth 100000 in
set_option maxHeartbeats 1000000 in
theorem ok_w_f6texts {N : Nat} {a1 : List Str} {b4 : List Str} {r : Bool} (hm : w_f6texts N a1 b4 = some r) (w : World) (v2 : Value) (hr3 : RdS w (cx w).Fz v2 fStr.rp a1) (v5 : Value) (hr6 : RdS w (cx w).Fz v5 fStr.rp b4) :
    Calls Try.prog 41 #[v2, v5] w (Ret (cx w) (.bool r)) := by
  unfold w_f6texts at hm
  refine Calls.enter [v2, v5] Try.func41 rfl Try.ntmps41 rfl ?_
  refine WJ.seq ?_
  refine WJ.quiet ?_
  refine QJ.step (YldS.yld (y_assign rfl)) rfl ?_
  refine QJ.done ?_
  refine PJ.next ?_
  refine WJ.seq ?_
  refine WJ.seq ?_
  refine WJ.quiet ?_
  refine QJ.step (YldS.yld (y_move rfl)) rfl ?_
  refine QJ.step (YldS.yld (y_lenS Try.runUnderlying45 hr3 rfl)) rfl ?_
  refine QJ.step (YldS.yld (y_move rfl)) rfl ?_
  refine QJ.step (YldS.yld (y_lenS Try.runUnderlying45 hr6 rfl)) rfl ?_
  refine QJ.step (YldS.yld (y_bin rfl rfl rfl)) rfl ?_
  refine QJ.done ?_
  refine PJ.next ?_
  refine WJ.cond (t := ((List.length a1 : Int) != (List.length b4 : Int))) rfl (fun hb7 => ?_) (fun hb7 => ?_)
  · replace hm := ifT hm hb7
    refine WJ.seq ?_
    refine WJ.quiet ?_
    refine QJ.step (YldS.yld (y_assign rfl)) rfl ?_
    refine QJ.done ?_
    refine PJ.next ?_
    refine WJ.ret ?_
    refine PJ.then_ret ?_
    obtain rfl := Option.some.inj hm
    refine PJ.sel (L' := []) [] ⟨List.nodup_nil, rfl⟩ ?_
    exact PJ.retn (vs := [.bool false]) Try.results41 ⟨rfl, trivial⟩ ⟨rfl, rfl⟩
  · replace hm := ifF hm hb7
    refine WJ.skip ?_
    refine PJ.next ?_
    obtain ⟨kj8, hk9, hm⟩ := withK_open hm
    refine WJ.join (X := Unit) (fun (_ : Unit) => kj8  = some r) (fun (_ : Unit) => []) (fun (_ : Unit) => []) ?_ ?_
    · clear hk9
      refine WJ.seq ?_
      refine WJ.quiet ?_
      refine QJ.step (YldS.yld (y_assign rfl)) rfl ?_
      refine QJ.done ?_
      refine PJ.next ?_
      refine WJ.block ?_
      refine WJ.sel (L' := (fun (x : Int) => []) 0) [] ⟨List.nodup_nil, rfl⟩ ?_
      refine WJ.sub (m' := (fun (x : Int) => [(0, v2), (1, v5), (5, .int .i64 x)]) 0) ⟨rfl, rfl, rfl, trivial⟩ ?_
      refine WJ.loop (X := Int) (fun N (x : Int) => w_f6texts_l1 kj8 a1 b4 N x = some r) (fun (x : Int) => [(0, v2), (1, v5), (5, .int .i64 x)]) (fun (x : Int) => []) ?_ N 0 hm
      · rintro N i10 hI
        have hm := hI; clear hI
        cases N with
        | zero => cases hm
        | succ N =>
        unfold w_f6texts_l1 at hm
        refine WJ.seq ?_
        refine WJ.seq ?_
        refine WJ.quiet ?_
        refine QJ.step (YldS.yld (y_move rfl)) rfl ?_
        refine QJ.step (YldS.yld (y_move rfl)) rfl ?_
        refine QJ.step (YldS.yld (y_lenS Try.runUnderlying45 hr3 rfl)) rfl ?_
        refine QJ.step (YldS.yld (y_bin rfl rfl rfl)) rfl ?_
        refine QJ.done ?_
        refine PJ.next ?_
        refine WJ.cond (t := decide (i10 < (List.length a1 : Int))) rfl (fun hb11 => ?_) (fun hb11 => ?_)
        · replace hm := ifT hm hb11
          refine WJ.skip ?_
          refine PJ.next ?_
          refine WJ.seq ?_
          refine WJ.block ?_
          refine WJ.seq ?_
          refine WJ.quiet_draw follows (by kernel_rfl) ?_
          refine QJ.step (YldS.yld (y_move rfl)) rfl ?_
          refine QJ.step (YldS.yld (y_move rfl)) rfl ?_
          obtain ⟨e12, h13, hm⟩ := bindS hm
          obtain ⟨ad14, _, rfl, ha15, hy16⟩ := hr3.elem h13
          refine QJ.step (YldS.yld (hy16 Try.runUnderlying45 Try.sizeOf9 rfl rfl)) rfl ?_
          refine QJ.step (YldS.yld (y_load1 (v := str e12) Try.isAgg9 ha15 St.frozenC rfl)) rfl ?_
          refine QJ.step (YldS.yld (y_move rfl)) rfl ?_
          refine QJ.step (YldS.yld (y_move rfl)) rfl ?_
          obtain ⟨e17, h18, hm⟩ := bindS hm
          obtain ⟨ad19, _, rfl, ha20, hy21⟩ := hr6.elem h18
          refine QJ.step (YldS.yld (hy21 Try.runUnderlying45 Try.sizeOf9 rfl rfl)) rfl ?_
          refine QJ.step (YldS.yld (y_load1 (v := str e17) Try.isAgg9 ha20 St.frozenC rfl)) rfl ?_
          refine QJ.step (YldS.yld (y_binS rfl rfl rfl)) rfl ?_
          refine QJ.done ?_
          refine PJ.next ?_
          refine WJ.cond (t := (e12 != e17)) rfl (fun hb22 => ?_) (fun hb22 => ?_)
          · replace hm := ifT hm hb22
            refine WJ.seq ?_
            refine WJ.quiet ?_
            refine QJ.step (YldS.yld (y_assign rfl)) rfl ?_
            refine QJ.done ?_
            refine PJ.next ?_
            refine WJ.ret ?_
            refine PJ.block_ret (PJ.then_ret (PJ.then_ret (PJ.block_ret (PJ.then_ret ?_))))
            obtain rfl := Option.some.inj hm
            refine PJ.sel (L' := []) [] ⟨List.nodup_nil, rfl⟩ ?_
            exact PJ.retn (vs := [.bool false]) Try.results41 ⟨rfl, trivial⟩ ⟨rfl, rfl⟩
          · replace hm := ifF hm hb22
            refine WJ.skip ?_
            refine PJ.block_normal (PJ.next ?_)
            refine WJ.quiet ?_
            refine QJ.step (YldS.yld (y_move rfl)) rfl ?_
            refine QJ.step (YldS.yld (y_bin rfl rfl rfl)) rfl ?_
            refine QJ.step (YldS.yld (y_assign rfl)) rfl ?_
            refine QJ.done ?_
            exact PJ.round (w64 (i10 + 1)) [] hm ⟨rfl, rfl, rfl, trivial⟩ ⟨List.nodup_nil, rfl⟩
        · replace hm := ifF hm hb11
          refine WJ.exit ?_
          refine PJ.then_exit (PJ.then_exit (PJ.block_exit ?_))
          exact PJ.joined () [] hm trivial ⟨List.nodup_nil, rfl⟩
    · rintro _ hm
      subst hk9
      refine WJ.seq ?_
      refine WJ.quiet ?_
      refine QJ.step (YldS.yld (y_assign rfl)) rfl ?_
      refine QJ.done ?_
      refine PJ.next ?_
      refine WJ.ret ?_
      obtain rfl := Option.some.inj hm
      refine PJ.sel (L' := []) [] ⟨List.nodup_nil, rfl⟩ ?_
      exact PJ.retn (vs := [.bool true]) Try.results41 ⟨rfl, trivial⟩ ⟨rfl, rfl⟩

set_option maxRecDepth 100000 in
set_option maxHeartbeats 1000000 in
theorem ok_w_f6ints {N : Nat} {a1 : List Int} {b4 : List Int} {r : Bool} (hm : w_f6ints N a1 b4 = some r) (w : World) (v2 : Value) (hr3 : RdS w (cx w).Fz v2 fI64.rp a1) (v5 : Value) (hr6 : RdS w (cx w).Fz v5 fI64.rp b4) :
    Calls Try.prog 18 #[v2, v5] w (Ret (cx w) (.bool r)) := by
  unfold w_f6ints at hm
  refine Calls.enter [v2, v5] Try.func18 rfl Try.ntmps18 rfl ?_
  refine WJ.seq ?_
  refine WJ.quiet ?_
  refine QJ.step (YldS.yld (y_assign rfl)) rfl ?_
  refine QJ.done ?_
  refine PJ.next ?_
  refine WJ.seq ?_
  refine WJ.seq ?_
  refine WJ.quiet ?_
  refine QJ.step (YldS.yld (y_move rfl)) rfl ?_
  refine QJ.step (YldS.yld (y_lenS Try.runUnderlying27 hr3 rfl)) rfl ?_
  refine QJ.step (YldS.yld (y_move rfl)) rfl ?_
  refine QJ.step (YldS.yld (y_lenS Try.runUnderlying27 hr6 rfl)) rfl ?_
  refine QJ.step (YldS.yld (y_bin rfl rfl rfl)) rfl ?_
  refine QJ.done ?_
  refine PJ.next ?_
  refine WJ.cond (t := ((List.length a1 : Int) != (List.length b4 : Int))) rfl (fun hb7 => ?_) (fun hb7 => ?_)
  · replace hm := ifT hm hb7
    refine WJ.seq ?_
    refine WJ.quiet ?_
    refine QJ.step (YldS.yld (y_assign rfl)) rfl ?_
    refine QJ.done ?_
    refine PJ.next ?_
    refine WJ.ret ?_
    refine PJ.then_ret ?_
    obtain rfl := Option.some.inj hm
    refine PJ.sel (L' := []) [] ⟨List.nodup_nil, rfl⟩ ?_
    exact PJ.retn (vs := [.bool false]) Try.results18 ⟨rfl, trivial⟩ ⟨rfl, rfl⟩
  · replace hm := ifF hm hb7
    refine WJ.skip ?_
    refine PJ.next ?_
    obtain ⟨kj8, hk9, hm⟩ := withK_open hm
    refine WJ.join (X := Unit) (fun (_ : Unit) => kj8  = some r) (fun (_ : Unit) => []) (fun (_ : Unit) => []) ?_ ?_
    · clear hk9
      refine WJ.seq ?_
      refine WJ.quiet ?_
      refine QJ.step (YldS.yld (y_assign rfl)) rfl ?_
      refine QJ.done ?_
      refine PJ.next ?_
      refine WJ.block ?_
      refine WJ.sel (L' := (fun (x : Int) => []) 0) [] ⟨List.nodup_nil, rfl⟩ ?_
      refine WJ.sub (m' := (fun (x : Int) => [(0, v2), (1, v5), (5, .int .i64 x)]) 0) ⟨rfl, rfl, rfl, trivial⟩ ?_
      refine WJ.loop (X := Int) (fun N (x : Int) => w_f6ints_l1 kj8 a1 b4 N x = some r) (fun (x : Int) => [(0, v2), (1, v5), (5, .int .i64 x)]) (fun (x : Int) => []) ?_ N 0 hm
      · rintro N i10 hI
        have hm := hI; clear hI
        cases N with
        | zero => cases hm
        | succ N =>
        unfold w_f6ints_l1 at hm
        refine WJ.seq ?_
        refine WJ.seq ?_
        refine WJ.quiet ?_
        refine QJ.step (YldS.yld (y_move rfl)) rfl ?_
        refine QJ.step (YldS.yld (y_move rfl)) rfl ?_
        refine QJ.step (YldS.yld (y_lenS Try.runUnderlying27 hr3 rfl)) rfl ?_
        refine QJ.step (YldS.yld (y_bin rfl rfl rfl)) rfl ?_
        refine QJ.done ?_
        refine PJ.next ?_
        refine WJ.cond (t := decide (i10 < (List.length a1 : Int))) rfl (fun hb11 => ?_) (fun hb11 => ?_)
        · replace hm := ifT hm hb11
          refine WJ.skip ?_
          refine PJ.next ?_
          refine WJ.seq ?_
          refine WJ.block ?_
          refine WJ.seq ?_
          refine WJ.quiet_draw follows (by kernel_rfl) ?_
          refine QJ.step (YldS.yld (y_move rfl)) rfl ?_
          refine QJ.step (YldS.yld (y_move rfl)) rfl ?_
          obtain ⟨e12, h13, hm⟩ := bindS hm
          obtain ⟨ad14, _, rfl, ha15, hy16⟩ := hr3.elem h13
          refine QJ.step (YldS.yld (hy16 Try.runUnderlying27 Try.sizeOf2 rfl rfl)) rfl ?_
          refine QJ.step (YldS.yld (y_load1 (v := .int .i64 e12) Try.isAgg2 ha15 St.frozenC rfl)) rfl ?_
          refine QJ.step (YldS.yld (y_move rfl)) rfl ?_
          refine QJ.step (YldS.yld (y_move rfl)) rfl ?_
          obtain ⟨e17, h18, hm⟩ := bindS hm
          obtain ⟨ad19, _, rfl, ha20, hy21⟩ := hr6.elem h18
          refine QJ.step (YldS.yld (hy21 Try.runUnderlying27 Try.sizeOf2 rfl rfl)) rfl ?_
          refine QJ.step (YldS.yld (y_load1 (v := .int .i64 e17) Try.isAgg2 ha20 St.frozenC rfl)) rfl ?_
          refine QJ.step (YldS.yld (y_bin rfl rfl rfl)) rfl ?_
          refine QJ.done ?_
          refine PJ.next ?_
          refine WJ.cond (t := (e12 != e17)) rfl (fun hb22 => ?_) (fun hb22 => ?_)
          · replace hm := ifT hm hb22
            refine WJ.seq ?_
            refine WJ.quiet ?_
            refine QJ.step (YldS.yld (y_assign rfl)) rfl ?_
            refine QJ.done ?_
            refine PJ.next ?_
            refine WJ.ret ?_
            refine PJ.block_ret (PJ.then_ret (PJ.then_ret (PJ.block_ret (PJ.then_ret ?_))))
            obtain rfl := Option.some.inj hm
            refine PJ.sel (L' := []) [] ⟨List.nodup_nil, rfl⟩ ?_
            exact PJ.retn (vs := [.bool false]) Try.results18 ⟨rfl, trivial⟩ ⟨rfl, rfl⟩
          · replace hm := ifF hm hb22
            refine WJ.skip ?_
            refine PJ.block_normal (PJ.next ?_)
            refine WJ.quiet ?_
            refine QJ.step (YldS.yld (y_move rfl)) rfl ?_
            refine QJ.step (YldS.yld (y_bin rfl rfl rfl)) rfl ?_
            refine QJ.step (YldS.yld (y_assign rfl)) rfl ?_
            refine QJ.done ?_
            exact PJ.round (w64 (i10 + 1)) [] hm ⟨rfl, rfl, rfl, trivial⟩ ⟨List.nodup_nil, rfl⟩
        · replace hm := ifF hm hb11
          refine WJ.exit ?_
          refine PJ.then_exit (PJ.then_exit (PJ.block_exit ?_))
          exact PJ.joined () [] hm trivial ⟨List.nodup_nil, rfl⟩
    · rintro _ hm
      subst hk9
      refine WJ.seq ?_
      refine WJ.quiet ?_
      refine QJ.step (YldS.yld (y_assign rfl)) rfl ?_
      refine QJ.done ?_
      refine PJ.next ?_
      refine WJ.ret ?_
      obtain rfl := Option.some.inj hm
      refine PJ.sel (L' := []) [] ⟨List.nodup_nil, rfl⟩ ?_
      exact PJ.retn (vs := [.bool true]) Try.results18 ⟨rfl, trivial⟩ ⟨rfl, rfl⟩

set_option maxRecDepth 100000 in
set_option maxHeartbeats 1000000 in
theorem ok_w_f6sum {N : Nat} {list1 : List Int} {r : Int} (hm : w_f6sum N list1 = some r) (w : World) (v2 : Value) (hr3 : RdS w (cx w).Fz v2 fI64.rp list1) :
    Calls Try.prog 42 #[v2] w (Ret (cx w) (.int .i64 r)) := by
  unfold w_f6sum at hm
  refine Calls.enter [v2] Try.func42 rfl Try.ntmps42 rfl ?_
  refine WJ.seq ?_
  refine WJ.quiet ?_
  refine QJ.step (YldS.yld (y_assign rfl)) rfl ?_
  refine QJ.done ?_
  refine PJ.next ?_
  refine WJ.seq ?_
  refine WJ.quiet ?_
  refine QJ.step (YldS.yld (y_assign rfl)) rfl ?_
  refine QJ.done ?_
  refine PJ.next ?_
  obtain ⟨kj5, hk6, hm⟩ := withK_open hm
  refine WJ.join (X := Int) (fun (x : Int) => kj5 x = some r) (fun (x : Int) => [(3, .int .i64 x)]) (fun (x : Int) => []) ?_ ?_
  · clear hk6
    refine WJ.seq ?_
    refine WJ.quiet ?_
    refine QJ.step (YldS.yld (y_assign rfl)) rfl ?_
    refine QJ.done ?_
    refine PJ.next ?_
    refine WJ.block ?_
    refine WJ.sel (L' := (fun (x : Int × Int) => []) (0, 0)) [] ⟨List.nodup_nil, rfl⟩ ?_
    refine WJ.sub (m' := (fun (x : Int × Int) => [(0, v2), (3, .int .i64 x.1), (4, .int .i64 x.2)]) (0, 0)) ⟨rfl, rfl, rfl, trivial⟩ ?_
    refine WJ.loop (X := Int × Int) (fun N (x : Int × Int) => w_f6sum_l1 kj5 list1 N x.1 x.2 = some r) (fun (x : Int × Int) => [(0, v2), (3, .int .i64 x.1), (4, .int .i64 x.2)]) (fun (x : Int × Int) => []) ?_ N (0, 0) hm
    · rintro N ⟨sum7, i8⟩ hI
      have hm := hI; clear hI
      cases N with
      | zero => cases hm
      | succ N =>
      unfold w_f6sum_l1 at hm
      refine WJ.seq ?_
      refine WJ.seq ?_
      refine WJ.quiet ?_
      refine QJ.step (YldS.yld (y_move rfl)) rfl ?_
      refine QJ.step (YldS.yld (y_move rfl)) rfl ?_
      refine QJ.step (YldS.yld (y_lenS Try.runUnderlying27 hr3 rfl)) rfl ?_
      refine QJ.step (YldS.yld (y_bin rfl rfl rfl)) rfl ?_
      refine QJ.done ?_
      refine PJ.next ?_
      refine WJ.cond (t := decide (i8 < (List.length list1 : Int))) rfl (fun hb9 => ?_) (fun hb9 => ?_)
      · replace hm := ifT hm hb9
        refine WJ.skip ?_
        refine PJ.next ?_
        refine WJ.seq ?_
        refine WJ.block ?_
        refine WJ.quiet ?_
        refine QJ.step (YldS.yld (y_move rfl)) rfl ?_
        refine QJ.step (YldS.yld (y_move rfl)) rfl ?_
        refine QJ.step (YldS.yld (y_move rfl)) rfl ?_
        obtain ⟨e10, h11, hm⟩ := bindS hm
        obtain ⟨ad12, _, rfl, ha13, hy14⟩ := hr3.elem h11
        refine QJ.step (YldS.yld (hy14 Try.runUnderlying27 Try.sizeOf2 rfl rfl)) rfl ?_
        refine QJ.step (YldS.yld (y_load1 (v := .int .i64 e10) Try.isAgg2 ha13 St.frozenC rfl)) rfl ?_
        refine QJ.step (YldS.yld (y_bin rfl rfl rfl)) rfl ?_
        refine QJ.step (YldS.yld (y_assign rfl)) rfl ?_
        refine QJ.done ?_
        refine PJ.block_normal (PJ.next ?_)
        refine WJ.quiet ?_
        refine QJ.step (YldS.yld (y_move rfl)) rfl ?_
        refine QJ.step (YldS.yld (y_bin rfl rfl rfl)) rfl ?_
        refine QJ.step (YldS.yld (y_assign rfl)) rfl ?_
        refine QJ.done ?_
        exact PJ.round (w64 (sum7 + e10), w64 (i8 + 1)) [] hm ⟨rfl, rfl, rfl, trivial⟩ ⟨List.nodup_nil, rfl⟩
      · replace hm := ifF hm hb9
        refine WJ.exit ?_
        refine PJ.then_exit (PJ.then_exit (PJ.block_exit ?_))
        exact PJ.joined sum7 [] hm ⟨rfl, trivial⟩ ⟨List.nodup_nil, rfl⟩
  · rintro sum4 hm
    subst hk6
    refine WJ.seq ?_
    refine WJ.quiet ?_
    refine QJ.step (YldS.yld (y_move rfl)) rfl ?_
    refine QJ.step (YldS.yld (y_assign rfl)) rfl ?_
    refine QJ.done ?_
    refine PJ.next ?_
    refine WJ.ret ?_
    obtain rfl := Option.some.inj hm
    refine PJ.sel (L' := []) [] ⟨List.nodup_nil, rfl⟩ ?_
    exact PJ.retn (vs := [.int .i64 sum4]) Try.results42 ⟨rfl, trivial⟩ ⟨rfl, rfl⟩

set_option maxRecDepth 100000 in
set_option maxHeartbeats 1000000 in
theorem ok_w_f6point {N : Nat} {s1 : Str} {r : Int} (hm : w_f6point N s1 = some r) (w : World)  :
    Calls Try.prog 43 #[str s1] w (Ret (cx w) (.int .i64 r)) := by
  unfold w_f6point at hm
  refine Calls.enter [str s1] Try.func43 rfl Try.ntmps43 rfl ?_
  refine WJ.seq ?_
  refine WJ.quiet ?_
  refine QJ.step (YldS.yld (y_assign rfl)) rfl ?_
  refine QJ.done ?_
  refine PJ.next ?_
  obtain ⟨kj2, hk3, hm⟩ := withK_open hm
  refine WJ.join (X := Unit) (fun (_ : Unit) => kj2  = some r) (fun (_ : Unit) => [(0, str s1)]) (fun (_ : Unit) => []) ?_ ?_
  · clear hk3
    refine WJ.seq ?_
    refine WJ.quiet ?_
    refine QJ.step (YldS.yld (y_assign rfl)) rfl ?_
    refine QJ.done ?_
    refine PJ.next ?_
    refine WJ.block ?_
    refine WJ.sel (L' := (fun (x : Int) => []) 0) [] ⟨List.nodup_nil, rfl⟩ ?_
    refine WJ.sub (m' := (fun (x : Int) => [(0, str s1), (3, .int .i64 x)]) 0) ⟨rfl, rfl, trivial⟩ ?_
    refine WJ.loop (X := Int) (fun N (x : Int) => w_f6point_l1 kj2 s1 N x = some r) (fun (x : Int) => [(0, str s1), (3, .int .i64 x)]) (fun (x : Int) => []) ?_ N 0 hm
    · rintro N i4 hI
      have hm := hI; clear hI
      cases N with
      | zero => cases hm
      | succ N =>
      unfold w_f6point_l1 at hm
      refine WJ.seq ?_
      refine WJ.seq ?_
      refine WJ.quiet ?_
      refine QJ.step (YldS.yld (y_move rfl)) rfl ?_
      refine QJ.step (YldS.yld (y_move rfl)) rfl ?_
      refine QJ.step (YldS.yld (y_lenStr Try.runUnderlying9 rfl)) rfl ?_
      refine QJ.step (YldS.yld (y_bin rfl rfl rfl)) rfl ?_
      refine QJ.done ?_
      refine PJ.next ?_
      refine WJ.cond (t := decide (i4 < (List.length s1 : Int))) rfl (fun hb5 => ?_) (fun hb5 => ?_)
      · replace hm := ifT hm hb5
        refine WJ.skip ?_
        refine PJ.next ?_
        refine WJ.seq ?_
        refine WJ.block ?_
        refine WJ.seq ?_
        refine WJ.quiet ?_
        refine QJ.step (YldS.yld (y_move rfl)) rfl ?_
        refine QJ.step (YldS.yld (y_move rfl)) rfl ?_
        obtain ⟨c6, h7, hm⟩ := bindS hm
        refine QJ.step (YldS.yld (y_idxStr Try.runUnderlying9 rfl rfl h7)) rfl ?_
        refine QJ.step (YldS.yld (y_bin8 c6 (46 : UInt8) rfl rfl rfl)) rfl ?_
        refine QJ.done ?_
        refine PJ.next ?_
        refine WJ.cond (t := (c6 == (46 : UInt8))) rfl (fun hb8 => ?_) (fun hb8 => ?_)
        · replace hm := ifT hm hb8
          refine WJ.seq ?_
          refine WJ.quiet ?_
          refine QJ.step (YldS.yld (y_move rfl)) rfl ?_
          refine QJ.step (YldS.yld (y_assign rfl)) rfl ?_
          refine QJ.done ?_
          refine PJ.next ?_
          refine WJ.ret ?_
          refine PJ.block_ret (PJ.then_ret (PJ.then_ret (PJ.block_ret (PJ.then_ret ?_))))
          obtain rfl := Option.some.inj hm
          refine PJ.sel (L' := []) [] ⟨List.nodup_nil, rfl⟩ ?_
          exact PJ.retn (vs := [.int .i64 i4]) Try.results43 ⟨rfl, trivial⟩ ⟨rfl, rfl⟩
        · replace hm := ifF hm hb8
          refine WJ.skip ?_
          refine PJ.block_normal (PJ.next ?_)
          refine WJ.quiet ?_
          refine QJ.step (YldS.yld (y_move rfl)) rfl ?_
          refine QJ.step (YldS.yld (y_bin rfl rfl rfl)) rfl ?_
          refine QJ.step (YldS.yld (y_assign rfl)) rfl ?_
          refine QJ.done ?_
          exact PJ.round (w64 (i4 + 1)) [] hm ⟨rfl, rfl, trivial⟩ ⟨List.nodup_nil, rfl⟩
      · replace hm := ifF hm hb5
        refine WJ.exit ?_
        refine PJ.then_exit (PJ.then_exit (PJ.block_exit ?_))
        exact PJ.joined () [] hm ⟨rfl, trivial⟩ ⟨List.nodup_nil, rfl⟩
  · rintro _ hm
    subst hk3
    refine WJ.seq ?_
    refine WJ.quiet ?_
    refine QJ.step (YldS.yld (y_move rfl)) rfl ?_
    refine QJ.step (YldS.yld (y_lenStr Try.runUnderlying9 rfl)) rfl ?_
    refine QJ.step (YldS.yld (y_assign rfl)) rfl ?_
    refine QJ.done ?_
    refine PJ.next ?_
    refine WJ.ret ?_
    obtain rfl := Option.some.inj hm
    refine PJ.sel (L' := []) [] ⟨List.nodup_nil, rfl⟩ ?_
    exact PJ.retn (vs := [.int .i64 (List.length s1 : Int)]) Try.results43 ⟨rfl, trivial⟩ ⟨rfl, rfl⟩

set_option maxRecDepth 100000 in
set_option maxHeartbeats 1000000 in
theorem ok_w_FnTableColumns {N : Nat} {code1 : List UInt8} {r : Bool} (hm : w_FnTableColumns N code1 = some r) (w : World) (v2 : Value) (hr3 : RdS w (cx w).Fz v2 fByte.rp code1) :
    Calls Try.prog 4 #[v2] w (Ret (cx w) (.bool r)) := by
  unfold w_FnTableColumns at hm
  refine Calls.enter [v2] Try.func4 rfl Try.ntmps4 rfl ?_
  refine WJ.seq ?_
  refine WJ.quiet ?_
  refine QJ.step (YldS.yld (y_assign rfl)) rfl ?_
  refine QJ.done ?_
  refine PJ.next ?_
  refine WJ.seq ?_
  refine WJ.seq ?_
  refine WJ.quiet ?_
  refine QJ.step (YldS.yld (y_move rfl)) rfl ?_
  obtain ⟨r4, h5, hm⟩ := bindS hm
  refine QJ.step (y_call Try.call7 rfl (RetG.quiet fun w hw => ok_w_f6big h5 w _ (hr3.st hw))) rfl ?_
  refine QJ.done ?_
  refine PJ.next ?_
  refine WJ.cond (t := r4) rfl (fun hb6 => ?_) (fun hb6 => ?_)
  · replace hm := ifT hm hb6
    refine WJ.seq ?_
    refine WJ.quiet ?_
    refine QJ.step (YldS.yld (y_assign rfl)) rfl ?_
    refine QJ.done ?_
    refine PJ.next ?_
    refine WJ.ret ?_
    refine PJ.then_ret ?_
    obtain rfl := Option.some.inj hm
    refine PJ.sel (L' := []) [] ⟨List.nodup_nil, rfl⟩ ?_
    exact PJ.retn (vs := [.bool true]) Try.results4 ⟨rfl, trivial⟩ ⟨rfl, rfl⟩
  · replace hm := ifF hm hb6
    refine WJ.skip ?_
    refine PJ.next ?_
    refine WJ.seq ?_
    refine WJ.reg ?_
    refine SJ.q (YldS.yld (y_move rfl)) rfl ?_
    obtain ⟨r7, h8, hm⟩ := bindS hm
    refine SJ.call Try.call24 rfl (fun w hw => ok_s_DrawTableLines h8 w _ (hr3.st hw)) rfl ?_
    rintro _ _ ⟨v9, vs10, rfl, rfl⟩
    refine SJ.q (YldS.yld (y_move rfl)) rfl ?_
    refine SJ.q (YldS.yld (y_extract rfl rfl)) rfl ?_
    refine SJ.q (YldS.yld (y_extract rfl rfl)) rfl ?_
    refine SJ.q (YldS.yld (y_extract rfl rfl)) rfl ?_
    refine SJ.q (YldS.yld (y_assign rfl)) rfl ?_
    refine SJ.q (YldS.yld (y_assign rfl)) rfl ?_
    refine SJ.q (YldS.yld (y_assign rfl)) rfl ?_
    refine SJ.nil ?_
    refine PJ.next ?_
    refine WJ.seq ?_
    refine WJ.reg ?_
    refine SJ.q (YldS.yld (y_move rfl)) rfl ?_
    refine SJ.q (YldS.yld (y_move rfl)) rfl ?_
    refine SJ.q (YldS.yld (y_move rfl)) rfl ?_
    obtain ⟨r11, h12, hm⟩ := bindS hm
    refine SJ.call Try.call25 rfl (fun w hw => ok_i_TableLines h12 w _ (hw.nst_rd (k := 0) (j := 1) rfl rfl)) rfl ?_
    rintro _ _ ⟨v13, rfl, rfl⟩
    refine SJ.q (YldS.yld (y_move rfl)) rfl ?_
    refine SJ.q (YldS.yld (y_extract rfl rfl)) rfl ?_
    refine SJ.q (YldS.yld (y_extract rfl rfl)) rfl ?_
    refine SJ.q (YldS.yld (y_assign rfl)) rfl ?_
    refine SJ.q (YldS.yld (y_assign rfl)) rfl ?_
    refine SJ.nil ?_
    refine PJ.next ?_
    refine WJ.seq ?_
    refine WJ.reg ?_
    refine SJ.q (YldS.yld (y_move rfl)) rfl ?_
    refine SJ.q (YldS.yld (y_move rfl)) rfl ?_
    refine SJ.q (YldS.yld (y_move rfl)) rfl ?_
    obtain ⟨r14, h15, hm⟩ := bindS hm
    refine SJ.call Try.call26 rfl (fun w hw => ok_s_TableLines h15 w _ (hw.nst_rd (k := 1) (j := 2) rfl rfl)) rfl ?_
    rintro _ _ ⟨v16, rfl, rfl⟩
    refine SJ.q (YldS.yld (y_move rfl)) rfl ?_
    refine SJ.q (YldS.yld (y_extract rfl rfl)) rfl ?_
    refine SJ.q (YldS.yld (y_extract rfl rfl)) rfl ?_
    refine SJ.q (YldS.yld (y_assign rfl)) rfl ?_
    refine SJ.q (YldS.yld (y_assign rfl)) rfl ?_
    refine SJ.nil ?_
    refine PJ.next ?_
    refine WJ.seq ?_
    refine WJ.reg ?_
    refine SJ.q (YldS.yld (y_move rfl)) rfl ?_
    obtain ⟨r17, h18, hm⟩ := bindS hm
    refine SJ.call Try.call27 rfl (fun w hw => ok_i_ColumnWidths h18 w _ (hw.nst_rd (k := 2) (j := 3) rfl rfl)) rfl ?_
    rintro _ _ ⟨v19, rfl, rfl⟩
    refine SJ.q (YldS.yld (y_move rfl)) rfl ?_
    refine SJ.q (YldS.yld (y_extract rfl rfl)) rfl ?_
    refine SJ.q (YldS.yld (y_extract rfl rfl)) rfl ?_
    refine SJ.q (YldS.yld (y_assign rfl)) rfl ?_
    refine SJ.q (YldS.yld (y_assign rfl)) rfl ?_
    refine SJ.nil ?_
    refine PJ.next ?_
    refine WJ.seq ?_
    refine WJ.reg ?_
    refine SJ.q (YldS.yld (y_move rfl)) rfl ?_
    obtain ⟨r20, h21, hm⟩ := bindS hm
    refine SJ.call Try.call28 rfl (fun w hw => ok_s_ColumnWidths h21 w _ (hw.nst_rd (k := 3) (j := 4) rfl rfl)) rfl ?_
    rintro _ _ ⟨v22, rfl, rfl⟩
    refine SJ.q (YldS.yld (y_move rfl)) rfl ?_
    refine SJ.q (YldS.yld (y_extract rfl rfl)) rfl ?_
    refine SJ.q (YldS.yld (y_extract rfl rfl)) rfl ?_
    refine SJ.q (YldS.yld (y_assign rfl)) rfl ?_
    refine SJ.q (YldS.yld (y_assign rfl)) rfl ?_
    refine SJ.nil ?_
    refine PJ.next ?_
    refine WJ.seq ?_
    refine WJ.reg ?_
    refine SJ.q (YldS.yld (y_move rfl)) rfl ?_
    obtain ⟨r23, h24, hm⟩ := bindS hm
    refine SJ.call Try.call29 rfl (fun w hw => ok_s_DrawStopsFor h24 w _ (hr3.st hw)) rfl ?_
    rintro _ _ ⟨v25, rfl, rfl⟩
    refine SJ.q (YldS.yld (y_move rfl)) rfl ?_
    refine SJ.q (YldS.yld (y_extract rfl rfl)) rfl ?_
    refine SJ.q (YldS.yld (y_extract rfl rfl)) rfl ?_
    refine SJ.q (YldS.yld (y_extract rfl rfl)) rfl ?_
    refine SJ.q (YldS.yld (y_assign rfl)) rfl ?_
    refine SJ.q (YldS.yld (y_assign rfl)) rfl ?_
    refine SJ.q (YldS.yld (y_assign rfl)) rfl ?_
    refine SJ.nil ?_
    refine PJ.next ?_
    refine WJ.seq ?_
    refine WJ.reg ?_
    refine SJ.q (YldS.yld (y_move rfl)) rfl ?_
    refine SJ.q (YldS.yld (y_move rfl)) rfl ?_
    refine SJ.q (YldS.yld (y_move rfl)) rfl ?_
    obtain ⟨r26, h27, hm⟩ := bindS hm
    refine SJ.call Try.call30 rfl (fun w hw => ok_i_StopsFor h27 w _ (hw.row_rd (k := 0) rfl)) rfl ?_
    rintro _ _ ⟨v28, rfl, rfl⟩
    refine SJ.q (YldS.yld (y_move rfl)) rfl ?_
    refine SJ.q (YldS.yld (y_extract rfl rfl)) rfl ?_
    refine SJ.q (YldS.yld (y_extract rfl rfl)) rfl ?_
    refine SJ.q (YldS.yld (y_assign rfl)) rfl ?_
    refine SJ.q (YldS.yld (y_assign rfl)) rfl ?_
    refine SJ.nil ?_
    refine PJ.next ?_
    refine WJ.seq ?_
    refine WJ.reg ?_
    refine SJ.q (YldS.yld (y_move rfl)) rfl ?_
    refine SJ.q (YldS.yld (y_move rfl)) rfl ?_
    refine SJ.q (YldS.yld (y_move rfl)) rfl ?_
    obtain ⟨r29, h30, hm⟩ := bindS hm
    refine SJ.call Try.call31 rfl (fun w hw => ok_s_StopsFor h30 w _ (hw.row_rd (k := 1) rfl)) rfl ?_
    rintro _ _ ⟨v31, rfl, rfl⟩
    refine SJ.q (YldS.yld (y_move rfl)) rfl ?_
    refine SJ.q (YldS.yld (y_extract rfl rfl)) rfl ?_
    refine SJ.q (YldS.yld (y_extract rfl rfl)) rfl ?_
    refine SJ.q (YldS.yld (y_assign rfl)) rfl ?_
    refine SJ.q (YldS.yld (y_assign rfl)) rfl ?_
    refine SJ.nil ?_
    refine PJ.next ?_
    refine WJ.seq ?_
    refine WJ.reg ?_
    refine SJ.q (YldS.yld (y_move rfl)) rfl ?_
    obtain ⟨r32, h33, hm⟩ := bindS hm
    refine SJ.call Try.call32 rfl (fun w hw => ok_s_DrawWidestGap h33 w _ (hr3.st hw)) rfl ?_
    rintro _ _ ⟨v34, rfl, rfl⟩
    refine SJ.q (YldS.yld (y_move rfl)) rfl ?_
    refine SJ.q (YldS.yld (y_extract rfl rfl)) rfl ?_
    refine SJ.q (YldS.yld (y_extract rfl rfl)) rfl ?_
    refine SJ.q (YldS.yld (y_extract rfl rfl)) rfl ?_
    refine SJ.q (YldS.yld (y_assign rfl)) rfl ?_
    refine SJ.q (YldS.yld (y_assign rfl)) rfl ?_
    refine SJ.q (YldS.yld (y_assign rfl)) rfl ?_
    refine SJ.nil ?_
    refine PJ.next ?_
    refine WJ.seq ?_
    refine WJ.quiet ?_
    refine QJ.step (YldS.yld (y_move rfl)) rfl ?_
    refine QJ.step (YldS.yld (y_move rfl)) rfl ?_
    refine QJ.step (YldS.yld (y_move rfl)) rfl ?_
    obtain ⟨r35, h36, hm⟩ := bindS hm
    refine QJ.step (y_call Try.call33 rfl (RetG.quiet fun w hw => ok_i_WidestGap h36 w _ (hw.row_rd (k := 0) rfl))) rfl ?_
    refine QJ.step (YldS.yld (y_move rfl)) rfl ?_
    refine QJ.step (YldS.yld (y_extract rfl rfl)) rfl ?_
    refine QJ.step (YldS.yld (y_extract rfl rfl)) rfl ?_
    refine QJ.step (YldS.yld (y_assign rfl)) rfl ?_
    refine QJ.step (YldS.yld (y_assign rfl)) rfl ?_
    refine QJ.done ?_
    refine PJ.next ?_
    refine WJ.seq ?_
    refine WJ.quiet ?_
    refine QJ.step (YldS.yld (y_move rfl)) rfl ?_
    refine QJ.step (YldS.yld (y_move rfl)) rfl ?_
    refine QJ.step (YldS.yld (y_move rfl)) rfl ?_
    obtain ⟨r37, h38, hm⟩ := bindS hm
    refine QJ.step (y_call Try.call34 rfl (RetG.quiet fun w hw => ok_s_WidestGap h38 w _ (hw.row_rd (k := 0) rfl))) rfl ?_
    refine QJ.step (YldS.yld (y_move rfl)) rfl ?_
    refine QJ.step (YldS.yld (y_extract rfl rfl)) rfl ?_
    refine QJ.step (YldS.yld (y_extract rfl rfl)) rfl ?_
    refine QJ.step (YldS.yld (y_assign rfl)) rfl ?_
    refine QJ.step (YldS.yld (y_assign rfl)) rfl ?_
    refine QJ.done ?_
    refine PJ.next ?_
    refine WJ.seq ?_
    refine WJ.reg ?_
    refine SJ.q (YldS.yld (y_move rfl)) rfl ?_
    obtain ⟨r39, h40, hm⟩ := bindS hm
    refine SJ.call Try.call35 rfl (fun w hw => ok_s_DrawAlignNumbers h40 w _ (hr3.st hw)) rfl ?_
    rintro v41 _ ⟨_, rfl, rfl⟩
    refine SJ.q (YldS.yld (y_assign rfl)) rfl ?_
    refine SJ.nil ?_
    refine PJ.next ?_
    refine WJ.seq ?_
    refine WJ.reg ?_
    refine SJ.q (YldS.yld (y_move rfl)) rfl ?_
    obtain ⟨r42, h43, hm⟩ := bindS hm
    refine SJ.call Try.call36 rfl (fun w hw => ok_i_AlignNumbers h43 w _ (hw.row_rd (k := 0) rfl)) rfl ?_
    rintro _ _ ⟨v44, rfl, rfl⟩
    refine SJ.q (YldS.yld (y_move rfl)) rfl ?_
    refine SJ.q (YldS.yld (y_extract rfl rfl)) rfl ?_
    refine SJ.q (YldS.yld (y_extract rfl rfl)) rfl ?_
    refine SJ.q (YldS.yld (y_assign rfl)) rfl ?_
    refine SJ.q (YldS.yld (y_assign rfl)) rfl ?_
    refine SJ.nil ?_
    refine PJ.next ?_
    refine WJ.seq ?_
    refine WJ.reg ?_
    refine SJ.q (YldS.yld (y_move rfl)) rfl ?_
    obtain ⟨r45, h46, hm⟩ := bindS hm
    refine SJ.call Try.call37 rfl (fun w hw => ok_s_AlignNumbers h46 w _ (hw.row_rd (k := 1) rfl)) rfl ?_
    rintro _ _ ⟨v47, rfl, rfl⟩
    refine SJ.q (YldS.yld (y_move rfl)) rfl ?_
    refine SJ.q (YldS.yld (y_extract rfl rfl)) rfl ?_
    refine SJ.q (YldS.yld (y_extract rfl rfl)) rfl ?_
    refine SJ.q (YldS.yld (y_assign rfl)) rfl ?_
    refine SJ.q (YldS.yld (y_assign rfl)) rfl ?_
    refine SJ.nil ?_
    refine PJ.next ?_
    refine WJ.seq ?_
    refine WJ.quiet ?_
    refine QJ.step (YldS.yld (y_move rfl)) rfl ?_
    obtain ⟨r48, h49, hm⟩ := bindS hm
    refine QJ.step (y_call Try.call38 rfl (RetG.quiet fun w hw => ok_s_DrawDecimalStart h49 w _ (hr3.st hw))) rfl ?_
    refine QJ.step (YldS.yld (y_move rfl)) rfl ?_
    refine QJ.step (YldS.yld (y_extract rfl rfl)) rfl ?_
    refine QJ.step (YldS.yld (y_extract rfl rfl)) rfl ?_
    refine QJ.step (YldS.yld (y_assign rfl)) rfl ?_
    refine QJ.step (YldS.yld (y_assign rfl)) rfl ?_
    refine QJ.done ?_
    refine PJ.next ?_
    refine WJ.seq ?_
    refine WJ.quiet ?_
    refine QJ.step (YldS.yld (y_move rfl)) rfl ?_
    refine QJ.step (YldS.yld (y_move rfl)) rfl ?_
    obtain ⟨r50, h51, hm⟩ := bindS hm
    refine QJ.step (y_call Try.call39 rfl (RetG.quiet fun w hw => ok_i_DecimalStart h51 w )) rfl ?_
    refine QJ.step (YldS.yld (y_move rfl)) rfl ?_
    refine QJ.step (YldS.yld (y_extract rfl rfl)) rfl ?_
    refine QJ.step (YldS.yld (y_extract rfl rfl)) rfl ?_
    refine QJ.step (YldS.yld (y_assign rfl)) rfl ?_
    refine QJ.step (YldS.yld (y_assign rfl)) rfl ?_
    refine QJ.done ?_
    refine PJ.next ?_
    refine WJ.seq ?_
    refine WJ.quiet ?_
    refine QJ.step (YldS.yld (y_move rfl)) rfl ?_
    refine QJ.step (YldS.yld (y_move rfl)) rfl ?_
    obtain ⟨r52, h53, hm⟩ := bindS hm
    refine QJ.step (y_call Try.call40 rfl (RetG.quiet fun w hw => ok_s_DecimalStart h53 w )) rfl ?_
    refine QJ.step (YldS.yld (y_move rfl)) rfl ?_
    refine QJ.step (YldS.yld (y_extract rfl rfl)) rfl ?_
    refine QJ.step (YldS.yld (y_extract rfl rfl)) rfl ?_
    refine QJ.step (YldS.yld (y_assign rfl)) rfl ?_
    refine QJ.step (YldS.yld (y_assign rfl)) rfl ?_
    refine QJ.done ?_
    refine PJ.next ?_
    refine WJ.seq ?_
    refine WJ.seq ?_
    refine WJ.quiet ?_
    refine QJ.step (YldS.yld (y_move rfl)) rfl ?_
    refine QJ.step (YldS.yld (y_move rfl)) rfl ?_
    refine QJ.step (YldS.yld (y_bin rfl rfl rfl)) rfl ?_
    refine QJ.step (YldS.yld (y_move rfl)) rfl ?_
    obtain ⟨t54, h55, hm⟩ := bindS hm
    refine QJ.cut 5 [(3, v9), (5, .int .i64 r7.2.2), (7, .int .i64 r11.2), (8, v16), (10, v19), (11, .int .i64 r17.2), (12, v22), (13, .int .i64 r20.2), (14, v25), (16, .int .i64 r23.2.2), (17, v28), (18, .int .i64 r26.2), (19, v31), (20, .int .i64 r29.2), (21, v34), (22, .int .i64 r32.2.1), (23, .int .i64 r32.2.2), (24, .int .i64 r35.1), (25, .int .i64 r35.2), (26, .int .i64 r37.1), (27, .int .i64 r37.2), (29, v44), (30, .int .i64 r42.2), (31, v47), (32, .int .i64 r45.2), (35, .int .i64 r50.1), (36, .int .i64 r50.2), (37, .int .i64 r52.1), (38, .int .i64 r52.2), (152, .bool t54)] ?_ ?_
    · rcases Bool.eq_false_or_eq_true (r11.2 != r14.2) with hb56 | hb56
      · obtain rfl := orT h55 hb56
        refine QJ.off rfl rfl (cB hb56) rfl rfl ?_
        refine QJ.off rfl rfl (cB hb56) rfl rfl ?_
        refine QJ.off rfl rfl (cB hb56) rfl rfl ?_
        refine QJ.off rfl rfl (cB hb56) rfl rfl ?_
        refine QJ.step (YldS.yld (y_pick_t (cB hb56) rfl)) rfl ?_
        exact QJ.cut_end ⟨rfl, rfl, rfl, rfl, rfl, rfl, rfl, rfl, rfl, rfl, rfl, rfl, rfl, rfl, rfl, rfl, rfl, rfl, rfl, rfl, rfl, rfl, rfl, rfl, rfl, rfl, rfl, rfl, rfl, rfl, trivial⟩
      · replace h55 := orF h55 hb56
        refine QJ.on rfl rfl (cB hb56) (YldS.yld (y_move rfl)) rfl ?_
        refine QJ.on rfl rfl (cB hb56) (YldS.yld (y_move rfl)) rfl ?_
        obtain ⟨r57, h58, h55⟩ := bindS h55
        refine QJ.on rfl rfl (cB hb56) (y_call Try.call41 rfl (RetG.quiet fun w hw => ok_w_f6texts h58 w _ (hw.row_rd (k := 10) rfl) _ (hw.row_rd (k := 9) rfl))) rfl ?_
        refine QJ.on rfl rfl (cB hb56) (YldS.yld (y_not rfl)) rfl ?_
        refine QJ.step (YldS.yld (y_pick_f (cB hb56) rfl)) rfl ?_
        obtain rfl := Option.some.inj h55
        exact QJ.cut_end ⟨rfl, rfl, rfl, rfl, rfl, rfl, rfl, rfl, rfl, rfl, rfl, rfl, rfl, rfl, rfl, rfl, rfl, rfl, rfl, rfl, rfl, rfl, rfl, rfl, rfl, rfl, rfl, rfl, rfl, rfl, trivial⟩
    refine QJ.step (YldS.yld (y_move rfl)) rfl ?_
    obtain ⟨t59, h60, hm⟩ := bindS hm
    refine QJ.cut 4 [(3, v9), (5, .int .i64 r7.2.2), (7, .int .i64 r11.2), (8, v16), (10, v19), (12, v22), (14, v25), (16, .int .i64 r23.2.2), (17, v28), (18, .int .i64 r26.2), (19, v31), (20, .int .i64 r29.2), (21, v34), (22, .int .i64 r32.2.1), (23, .int .i64 r32.2.2), (24, .int .i64 r35.1), (25, .int .i64 r35.2), (26, .int .i64 r37.1), (27, .int .i64 r37.2), (29, v44), (30, .int .i64 r42.2), (31, v47), (32, .int .i64 r45.2), (35, .int .i64 r50.1), (36, .int .i64 r50.2), (37, .int .i64 r52.1), (38, .int .i64 r52.2), (157, .bool t59)] ?_ ?_
    · rcases Bool.eq_false_or_eq_true t54 with hb61 | hb61
      · obtain rfl := orT h60 hb61
        refine QJ.off rfl rfl (cB hb61) rfl rfl ?_
        refine QJ.off rfl rfl (cB hb61) rfl rfl ?_
        refine QJ.off rfl rfl (cB hb61) rfl rfl ?_
        refine QJ.step (YldS.yld (y_pick_t (cB hb61) rfl)) rfl ?_
        exact QJ.cut_end ⟨rfl, rfl, rfl, rfl, rfl, rfl, rfl, rfl, rfl, rfl, rfl, rfl, rfl, rfl, rfl, rfl, rfl, rfl, rfl, rfl, rfl, rfl, rfl, rfl, rfl, rfl, rfl, rfl, trivial⟩
      · replace h60 := orF h60 hb61
        refine QJ.on rfl rfl (cB hb61) (YldS.yld (y_move rfl)) rfl ?_
        refine QJ.on rfl rfl (cB hb61) (YldS.yld (y_move rfl)) rfl ?_
        refine QJ.on rfl rfl (cB hb61) (YldS.yld (y_bin rfl rfl rfl)) rfl ?_
        refine QJ.step (YldS.yld (y_pick_f (cB hb61) rfl)) rfl ?_
        obtain rfl := Option.some.inj h60
        exact QJ.cut_end ⟨rfl, rfl, rfl, rfl, rfl, rfl, rfl, rfl, rfl, rfl, rfl, rfl, rfl, rfl, rfl, rfl, rfl, rfl, rfl, rfl, rfl, rfl, rfl, rfl, rfl, rfl, rfl, rfl, trivial⟩
    refine QJ.step (YldS.yld (y_move rfl)) rfl ?_
    obtain ⟨t62, h63, hm⟩ := bindS hm
    refine QJ.cut 5 [(3, v9), (5, .int .i64 r7.2.2), (7, .int .i64 r11.2), (8, v16), (12, v22), (14, v25), (16, .int .i64 r23.2.2), (17, v28), (18, .int .i64 r26.2), (19, v31), (20, .int .i64 r29.2), (21, v34), (22, .int .i64 r32.2.1), (23, .int .i64 r32.2.2), (24, .int .i64 r35.1), (25, .int .i64 r35.2), (26, .int .i64 r37.1), (27, .int .i64 r37.2), (29, v44), (30, .int .i64 r42.2), (31, v47), (32, .int .i64 r45.2), (35, .int .i64 r50.1), (36, .int .i64 r50.2), (37, .int .i64 r52.1), (38, .int .i64 r52.2), (163, .bool t62)] ?_ ?_
    · rcases Bool.eq_false_or_eq_true t59 with hb64 | hb64
      · obtain rfl := orT h63 hb64
        refine QJ.off rfl rfl (cB hb64) rfl rfl ?_
        refine QJ.off rfl rfl (cB hb64) rfl rfl ?_
        refine QJ.off rfl rfl (cB hb64) rfl rfl ?_
        refine QJ.off rfl rfl (cB hb64) rfl rfl ?_
        refine QJ.step (YldS.yld (y_pick_t (cB hb64) rfl)) rfl ?_
        exact QJ.cut_end ⟨rfl, rfl, rfl, rfl, rfl, rfl, rfl, rfl, rfl, rfl, rfl, rfl, rfl, rfl, rfl, rfl, rfl, rfl, rfl, rfl, rfl, rfl, rfl, rfl, rfl, rfl, rfl, trivial⟩
      · replace h63 := orF h63 hb64
        refine QJ.on rfl rfl (cB hb64) (YldS.yld (y_move rfl)) rfl ?_
        refine QJ.on rfl rfl (cB hb64) (YldS.yld (y_move rfl)) rfl ?_
        obtain ⟨r65, h66, h63⟩ := bindS h63
        refine QJ.on rfl rfl (cB hb64) (y_call Try.call18 rfl (RetG.quiet fun w hw => ok_w_f6ints h66 w _ (hw.row_rd (k := 8) rfl) _ (hw.row_rd (k := 7) rfl))) rfl ?_
        refine QJ.on rfl rfl (cB hb64) (YldS.yld (y_not rfl)) rfl ?_
        refine QJ.step (YldS.yld (y_pick_f (cB hb64) rfl)) rfl ?_
        obtain rfl := Option.some.inj h63
        exact QJ.cut_end ⟨rfl, rfl, rfl, rfl, rfl, rfl, rfl, rfl, rfl, rfl, rfl, rfl, rfl, rfl, rfl, rfl, rfl, rfl, rfl, rfl, rfl, rfl, rfl, rfl, rfl, rfl, rfl, trivial⟩
    refine QJ.step (YldS.yld (y_move rfl)) rfl ?_
    obtain ⟨t67, h68, hm⟩ := bindS hm
    refine QJ.cut 4 [(3, v9), (5, .int .i64 r7.2.2), (7, .int .i64 r11.2), (8, v16), (12, v22), (14, v25), (16, .int .i64 r23.2.2), (17, v28), (18, .int .i64 r26.2), (19, v31), (21, v34), (22, .int .i64 r32.2.1), (23, .int .i64 r32.2.2), (24, .int .i64 r35.1), (25, .int .i64 r35.2), (26, .int .i64 r37.1), (27, .int .i64 r37.2), (29, v44), (30, .int .i64 r42.2), (31, v47), (32, .int .i64 r45.2), (35, .int .i64 r50.1), (36, .int .i64 r50.2), (37, .int .i64 r52.1), (38, .int .i64 r52.2), (168, .bool t67)] ?_ ?_
    · rcases Bool.eq_false_or_eq_true t62 with hb69 | hb69
      · obtain rfl := orT h68 hb69
        refine QJ.off rfl rfl (cB hb69) rfl rfl ?_
        refine QJ.off rfl rfl (cB hb69) rfl rfl ?_
        refine QJ.off rfl rfl (cB hb69) rfl rfl ?_
        refine QJ.step (YldS.yld (y_pick_t (cB hb69) rfl)) rfl ?_
        exact QJ.cut_end ⟨rfl, rfl, rfl, rfl, rfl, rfl, rfl, rfl, rfl, rfl, rfl, rfl, rfl, rfl, rfl, rfl, rfl, rfl, rfl, rfl, rfl, rfl, rfl, rfl, rfl, rfl, trivial⟩
      · replace h68 := orF h68 hb69
        refine QJ.on rfl rfl (cB hb69) (YldS.yld (y_move rfl)) rfl ?_
        refine QJ.on rfl rfl (cB hb69) (YldS.yld (y_move rfl)) rfl ?_
        refine QJ.on rfl rfl (cB hb69) (YldS.yld (y_bin rfl rfl rfl)) rfl ?_
        refine QJ.step (YldS.yld (y_pick_f (cB hb69) rfl)) rfl ?_
        obtain rfl := Option.some.inj h68
        exact QJ.cut_end ⟨rfl, rfl, rfl, rfl, rfl, rfl, rfl, rfl, rfl, rfl, rfl, rfl, rfl, rfl, rfl, rfl, rfl, rfl, rfl, rfl, rfl, rfl, rfl, rfl, rfl, rfl, trivial⟩
    refine QJ.step (YldS.yld (y_move rfl)) rfl ?_
    obtain ⟨t70, h71, hm⟩ := bindS hm
    refine QJ.cut 5 [(3, v9), (5, .int .i64 r7.2.2), (7, .int .i64 r11.2), (8, v16), (12, v22), (14, v25), (16, .int .i64 r23.2.2), (18, .int .i64 r26.2), (19, v31), (21, v34), (22, .int .i64 r32.2.1), (23, .int .i64 r32.2.2), (24, .int .i64 r35.1), (25, .int .i64 r35.2), (26, .int .i64 r37.1), (27, .int .i64 r37.2), (29, v44), (30, .int .i64 r42.2), (31, v47), (32, .int .i64 r45.2), (35, .int .i64 r50.1), (36, .int .i64 r50.2), (37, .int .i64 r52.1), (38, .int .i64 r52.2), (174, .bool t70)] ?_ ?_
    · rcases Bool.eq_false_or_eq_true t67 with hb72 | hb72
      · obtain rfl := orT h71 hb72
        refine QJ.off rfl rfl (cB hb72) rfl rfl ?_
        refine QJ.off rfl rfl (cB hb72) rfl rfl ?_
        refine QJ.off rfl rfl (cB hb72) rfl rfl ?_
        refine QJ.off rfl rfl (cB hb72) rfl rfl ?_
        refine QJ.step (YldS.yld (y_pick_t (cB hb72) rfl)) rfl ?_
        exact QJ.cut_end ⟨rfl, rfl, rfl, rfl, rfl, rfl, rfl, rfl, rfl, rfl, rfl, rfl, rfl, rfl, rfl, rfl, rfl, rfl, rfl, rfl, rfl, rfl, rfl, rfl, rfl, trivial⟩
      · replace h71 := orF h71 hb72
        refine QJ.on rfl rfl (cB hb72) (YldS.yld (y_move rfl)) rfl ?_
        refine QJ.on rfl rfl (cB hb72) (YldS.yld (y_move rfl)) rfl ?_
        obtain ⟨r73, h74, h71⟩ := bindS h71
        refine QJ.on rfl rfl (cB hb72) (y_call Try.call18 rfl (RetG.quiet fun w hw => ok_w_f6ints h74 w _ (hw.row_rd (k := 5) rfl) _ (hw.row_rd (k := 4) rfl))) rfl ?_
        refine QJ.on rfl rfl (cB hb72) (YldS.yld (y_not rfl)) rfl ?_
        refine QJ.step (YldS.yld (y_pick_f (cB hb72) rfl)) rfl ?_
        obtain rfl := Option.some.inj h71
        exact QJ.cut_end ⟨rfl, rfl, rfl, rfl, rfl, rfl, rfl, rfl, rfl, rfl, rfl, rfl, rfl, rfl, rfl, rfl, rfl, rfl, rfl, rfl, rfl, rfl, rfl, rfl, rfl, trivial⟩
    refine QJ.step (YldS.yld (y_move rfl)) rfl ?_
    obtain ⟨t75, h76, hm⟩ := bindS hm
    refine QJ.cut 4 [(3, v9), (5, .int .i64 r7.2.2), (7, .int .i64 r11.2), (8, v16), (12, v22), (14, v25), (16, .int .i64 r23.2.2), (18, .int .i64 r26.2), (19, v31), (21, v34), (22, .int .i64 r32.2.1), (23, .int .i64 r32.2.2), (24, .int .i64 r35.1), (25, .int .i64 r35.2), (26, .int .i64 r37.1), (29, v44), (30, .int .i64 r42.2), (31, v47), (32, .int .i64 r45.2), (35, .int .i64 r50.1), (36, .int .i64 r50.2), (37, .int .i64 r52.1), (38, .int .i64 r52.2), (179, .bool t75)] ?_ ?_
    · rcases Bool.eq_false_or_eq_true t70 with hb77 | hb77
      · obtain rfl := orT h76 hb77
        refine QJ.off rfl rfl (cB hb77) rfl rfl ?_
        refine QJ.off rfl rfl (cB hb77) rfl rfl ?_
        refine QJ.off rfl rfl (cB hb77) rfl rfl ?_
        refine QJ.step (YldS.yld (y_pick_t (cB hb77) rfl)) rfl ?_
        exact QJ.cut_end ⟨rfl, rfl, rfl, rfl, rfl, rfl, rfl, rfl, rfl, rfl, rfl, rfl, rfl, rfl, rfl, rfl, rfl, rfl, rfl, rfl, rfl, rfl, rfl, rfl, trivial⟩
      · replace h76 := orF h76 hb77
        refine QJ.on rfl rfl (cB hb77) (YldS.yld (y_move rfl)) rfl ?_
        refine QJ.on rfl rfl (cB hb77) (YldS.yld (y_move rfl)) rfl ?_
        refine QJ.on rfl rfl (cB hb77) (YldS.yld (y_bin rfl rfl rfl)) rfl ?_
        refine QJ.step (YldS.yld (y_pick_f (cB hb77) rfl)) rfl ?_
        obtain rfl := Option.some.inj h76
        exact QJ.cut_end ⟨rfl, rfl, rfl, rfl, rfl, rfl, rfl, rfl, rfl, rfl, rfl, rfl, rfl, rfl, rfl, rfl, rfl, rfl, rfl, rfl, rfl, rfl, rfl, rfl, trivial⟩
    refine QJ.step (YldS.yld (y_move rfl)) rfl ?_
    obtain ⟨t78, h79, hm⟩ := bindS hm
    refine QJ.cut 4 [(3, v9), (5, .int .i64 r7.2.2), (7, .int .i64 r11.2), (8, v16), (12, v22), (14, v25), (16, .int .i64 r23.2.2), (18, .int .i64 r26.2), (19, v31), (21, v34), (22, .int .i64 r32.2.1), (23, .int .i64 r32.2.2), (24, .int .i64 r35.1), (25, .int .i64 r35.2), (29, v44), (30, .int .i64 r42.2), (31, v47), (32, .int .i64 r45.2), (35, .int .i64 r50.1), (36, .int .i64 r50.2), (37, .int .i64 r52.1), (38, .int .i64 r52.2), (184, .bool t78)] ?_ ?_
    · rcases Bool.eq_false_or_eq_true t75 with hb80 | hb80
      · obtain rfl := orT h79 hb80
        refine QJ.off rfl rfl (cB hb80) rfl rfl ?_
        refine QJ.off rfl rfl (cB hb80) rfl rfl ?_
        refine QJ.off rfl rfl (cB hb80) rfl rfl ?_
        refine QJ.step (YldS.yld (y_pick_t (cB hb80) rfl)) rfl ?_
        exact QJ.cut_end ⟨rfl, rfl, rfl, rfl, rfl, rfl, rfl, rfl, rfl, rfl, rfl, rfl, rfl, rfl, rfl, rfl, rfl, rfl, rfl, rfl, rfl, rfl, rfl, trivial⟩
      · replace h79 := orF h79 hb80
        refine QJ.on rfl rfl (cB hb80) (YldS.yld (y_move rfl)) rfl ?_
        refine QJ.on rfl rfl (cB hb80) (YldS.yld (y_move rfl)) rfl ?_
        refine QJ.on rfl rfl (cB hb80) (YldS.yld (y_bin rfl rfl rfl)) rfl ?_
        refine QJ.step (YldS.yld (y_pick_f (cB hb80) rfl)) rfl ?_
        obtain rfl := Option.some.inj h79
        exact QJ.cut_end ⟨rfl, rfl, rfl, rfl, rfl, rfl, rfl, rfl, rfl, rfl, rfl, rfl, rfl, rfl, rfl, rfl, rfl, rfl, rfl, rfl, rfl, rfl, rfl, trivial⟩
    refine QJ.step (YldS.yld (y_move rfl)) rfl ?_
    obtain ⟨t81, h82, hm⟩ := bindS hm
    refine QJ.cut 4 [(3, v9), (5, .int .i64 r7.2.2), (7, .int .i64 r11.2), (8, v16), (12, v22), (14, v25), (16, .int .i64 r23.2.2), (18, .int .i64 r26.2), (19, v31), (21, v34), (22, .int .i64 r32.2.1), (23, .int .i64 r32.2.2), (24, .int .i64 r35.1), (25, .int .i64 r35.2), (29, v44), (30, .int .i64 r42.2), (31, v47), (35, .int .i64 r50.1), (36, .int .i64 r50.2), (37, .int .i64 r52.1), (38, .int .i64 r52.2), (189, .bool t81)] ?_ ?_
    · rcases Bool.eq_false_or_eq_true t78 with hb83 | hb83
      · obtain rfl := orT h82 hb83
        refine QJ.off rfl rfl (cB hb83) rfl rfl ?_
        refine QJ.off rfl rfl (cB hb83) rfl rfl ?_
        refine QJ.off rfl rfl (cB hb83) rfl rfl ?_
        refine QJ.step (YldS.yld (y_pick_t (cB hb83) rfl)) rfl ?_
        exact QJ.cut_end ⟨rfl, rfl, rfl, rfl, rfl, rfl, rfl, rfl, rfl, rfl, rfl, rfl, rfl, rfl, rfl, rfl, rfl, rfl, rfl, rfl, rfl, rfl, trivial⟩
      · replace h82 := orF h82 hb83
        refine QJ.on rfl rfl (cB hb83) (YldS.yld (y_move rfl)) rfl ?_
        refine QJ.on rfl rfl (cB hb83) (YldS.yld (y_move rfl)) rfl ?_
        refine QJ.on rfl rfl (cB hb83) (YldS.yld (y_bin rfl rfl rfl)) rfl ?_
        refine QJ.step (YldS.yld (y_pick_f (cB hb83) rfl)) rfl ?_
        obtain rfl := Option.some.inj h82
        exact QJ.cut_end ⟨rfl, rfl, rfl, rfl, rfl, rfl, rfl, rfl, rfl, rfl, rfl, rfl, rfl, rfl, rfl, rfl, rfl, rfl, rfl, rfl, rfl, rfl, trivial⟩
    refine QJ.step (YldS.yld (y_move rfl)) rfl ?_
    obtain ⟨t84, h85, hm⟩ := bindS hm
    refine QJ.cut 5 [(3, v9), (5, .int .i64 r7.2.2), (7, .int .i64 r11.2), (8, v16), (12, v22), (14, v25), (16, .int .i64 r23.2.2), (18, .int .i64 r26.2), (19, v31), (21, v34), (22, .int .i64 r32.2.1), (23, .int .i64 r32.2.2), (24, .int .i64 r35.1), (25, .int .i64 r35.2), (30, .int .i64 r42.2), (31, v47), (35, .int .i64 r50.1), (36, .int .i64 r50.2), (37, .int .i64 r52.1), (38, .int .i64 r52.2), (195, .bool t84)] ?_ ?_
    · rcases Bool.eq_false_or_eq_true t81 with hb86 | hb86
      · obtain rfl := orT h85 hb86
        refine QJ.off rfl rfl (cB hb86) rfl rfl ?_
        refine QJ.off rfl rfl (cB hb86) rfl rfl ?_
        refine QJ.off rfl rfl (cB hb86) rfl rfl ?_
        refine QJ.off rfl rfl (cB hb86) rfl rfl ?_
        refine QJ.step (YldS.yld (y_pick_t (cB hb86) rfl)) rfl ?_
        exact QJ.cut_end ⟨rfl, rfl, rfl, rfl, rfl, rfl, rfl, rfl, rfl, rfl, rfl, rfl, rfl, rfl, rfl, rfl, rfl, rfl, rfl, rfl, rfl, trivial⟩
      · replace h85 := orF h85 hb86
        refine QJ.on rfl rfl (cB hb86) (YldS.yld (y_move rfl)) rfl ?_
        refine QJ.on rfl rfl (cB hb86) (YldS.yld (y_move rfl)) rfl ?_
        obtain ⟨r87, h88, h85⟩ := bindS h85
        refine QJ.on rfl rfl (cB hb86) (y_call Try.call41 rfl (RetG.quiet fun w hw => ok_w_f6texts h88 w _ (hw.row_rd (k := 1) rfl) _ (hw.row_rd (k := 0) rfl))) rfl ?_
        refine QJ.on rfl rfl (cB hb86) (YldS.yld (y_not rfl)) rfl ?_
        refine QJ.step (YldS.yld (y_pick_f (cB hb86) rfl)) rfl ?_
        obtain rfl := Option.some.inj h85
        exact QJ.cut_end ⟨rfl, rfl, rfl, rfl, rfl, rfl, rfl, rfl, rfl, rfl, rfl, rfl, rfl, rfl, rfl, rfl, rfl, rfl, rfl, rfl, rfl, trivial⟩
    refine QJ.step (YldS.yld (y_move rfl)) rfl ?_
    obtain ⟨t89, h90, hm⟩ := bindS hm
    refine QJ.cut 4 [(3, v9), (5, .int .i64 r7.2.2), (7, .int .i64 r11.2), (8, v16), (12, v22), (14, v25), (16, .int .i64 r23.2.2), (18, .int .i64 r26.2), (19, v31), (21, v34), (22, .int .i64 r32.2.1), (23, .int .i64 r32.2.2), (24, .int .i64 r35.1), (25, .int .i64 r35.2), (30, .int .i64 r42.2), (31, v47), (35, .int .i64 r50.1), (37, .int .i64 r52.1), (200, .bool t89)] ?_ ?_
    · rcases Bool.eq_false_or_eq_true t84 with hb91 | hb91
      · obtain rfl := orT h90 hb91
        refine QJ.off rfl rfl (cB hb91) rfl rfl ?_
        refine QJ.off rfl rfl (cB hb91) rfl rfl ?_
        refine QJ.off rfl rfl (cB hb91) rfl rfl ?_
        refine QJ.step (YldS.yld (y_pick_t (cB hb91) rfl)) rfl ?_
        exact QJ.cut_end ⟨rfl, rfl, rfl, rfl, rfl, rfl, rfl, rfl, rfl, rfl, rfl, rfl, rfl, rfl, rfl, rfl, rfl, rfl, rfl, trivial⟩
      · replace h90 := orF h90 hb91
        refine QJ.on rfl rfl (cB hb91) (YldS.yld (y_move rfl)) rfl ?_
        refine QJ.on rfl rfl (cB hb91) (YldS.yld (y_move rfl)) rfl ?_
        refine QJ.on rfl rfl (cB hb91) (YldS.yld (y_bin rfl rfl rfl)) rfl ?_
        refine QJ.step (YldS.yld (y_pick_f (cB hb91) rfl)) rfl ?_
        obtain rfl := Option.some.inj h90
        exact QJ.cut_end ⟨rfl, rfl, rfl, rfl, rfl, rfl, rfl, rfl, rfl, rfl, rfl, rfl, rfl, rfl, rfl, rfl, rfl, rfl, rfl, trivial⟩
    refine QJ.step (YldS.yld (y_move rfl)) rfl ?_
    obtain ⟨t92, h93, hm⟩ := bindS hm
    refine QJ.cut 4 [(3, v9), (5, .int .i64 r7.2.2), (7, .int .i64 r11.2), (8, v16), (12, v22), (14, v25), (16, .int .i64 r23.2.2), (18, .int .i64 r26.2), (19, v31), (21, v34), (22, .int .i64 r32.2.1), (23, .int .i64 r32.2.2), (24, .int .i64 r35.1), (25, .int .i64 r35.2), (30, .int .i64 r42.2), (31, v47), (205, .bool t92)] ?_ ?_
    · rcases Bool.eq_false_or_eq_true t89 with hb94 | hb94
      · obtain rfl := orT h93 hb94
        refine QJ.off rfl rfl (cB hb94) rfl rfl ?_
        refine QJ.off rfl rfl (cB hb94) rfl rfl ?_
        refine QJ.off rfl rfl (cB hb94) rfl rfl ?_
        refine QJ.step (YldS.yld (y_pick_t (cB hb94) rfl)) rfl ?_
        exact QJ.cut_end ⟨rfl, rfl, rfl, rfl, rfl, rfl, rfl, rfl, rfl, rfl, rfl, rfl, rfl, rfl, rfl, rfl, rfl, trivial⟩
      · replace h93 := orF h93 hb94
        refine QJ.on rfl rfl (cB hb94) (YldS.yld (y_move rfl)) rfl ?_
        refine QJ.on rfl rfl (cB hb94) (YldS.yld (y_move rfl)) rfl ?_
        refine QJ.on rfl rfl (cB hb94) (YldS.yld (y_bin rfl rfl rfl)) rfl ?_
        refine QJ.step (YldS.yld (y_pick_f (cB hb94) rfl)) rfl ?_
        obtain rfl := Option.some.inj h93
        exact QJ.cut_end ⟨rfl, rfl, rfl, rfl, rfl, rfl, rfl, rfl, rfl, rfl, rfl, rfl, rfl, rfl, rfl, rfl, rfl, trivial⟩
    refine QJ.done ?_
    refine PJ.next ?_
    refine WJ.cond (t := t92) rfl (fun hb95 => ?_) (fun hb95 => ?_)
    · replace hm := ifT hm hb95
      refine WJ.seq ?_
      refine WJ.quiet ?_
      refine QJ.step (YldS.yld (y_assign rfl)) rfl ?_
      refine QJ.done ?_
      refine PJ.next ?_
      refine WJ.ret ?_
      refine PJ.then_ret ?_
      obtain rfl := Option.some.inj hm
      refine PJ.sel (L' := []) [] ⟨List.nodup_nil, rfl⟩ ?_
      exact PJ.retn (vs := [.bool false]) Try.results4 ⟨rfl, trivial⟩ ⟨rfl, rfl⟩
    · replace hm := ifF hm hb95
      refine WJ.skip ?_
      refine PJ.next ?_
      obtain ⟨kj96, hk97, hm⟩ := withK_open hm
      refine WJ.join (X := Unit) (fun (_ : Unit) => kj96  = some r) (fun (_ : Unit) => [(3, v9), (5, .int .i64 r7.2.2), (7, .int .i64 r11.2), (8, v16), (12, v22), (21, v34), (22, .int .i64 r32.2.1), (23, .int .i64 r32.2.2), (24, .int .i64 r35.1), (25, .int .i64 r35.2), (30, .int .i64 r42.2), (31, v47)]) (fun (_ : Unit) => [row v47 9 fStr r45.1, row v34 2 fI64 r32.1, row v22 2 fI64 r20.1, row v16 9 fStr r14.1, row v9 45 fRaw1 vs10, inn (rSl fStr.rp) vs10 r7.1]) ?_ ?_
      · clear hk97
        refine WJ.seq ?_
        refine WJ.quiet ?_
        refine QJ.step (YldS.yld (y_move rfl)) rfl ?_
        refine QJ.step (YldS.yld (y_bin rfl rfl rfl)) rfl ?_
        refine QJ.done ?_
        refine PJ.next ?_
        refine WJ.cond (t := (r26.2 == 0)) rfl (fun hb98 => ?_) (fun hb98 => ?_)
        · replace hm := ifT hm hb98
          refine WJ.seq ?_
          refine WJ.quiet ?_
          refine QJ.step (YldS.yld (y_assign rfl)) rfl ?_
          refine QJ.done ?_
          refine PJ.next ?_
          refine WJ.block ?_
          refine WJ.sel (L' := (fun (x : Int) => [row v47 9 fStr r45.1, row v34 2 fI64 r32.1, row v31 2 fI64 r29.1, row v25 2 fI64 r23.1, row v22 2 fI64 r20.1, row v16 9 fStr r14.1, row v9 45 fRaw1 vs10, inn (rSl fStr.rp) vs10 r7.1]) 1) [0, 3, 4, 6, 7, 9, 11, 12] ⟨by decide, rfl⟩ ?_
          refine WJ.sub (m' := (fun (x : Int) => [(3, v9), (5, .int .i64 r7.2.2), (7, .int .i64 r11.2), (8, v16), (12, v22), (14, v25), (16, .int .i64 r23.2.2), (19, v31), (21, v34), (22, .int .i64 r32.2.1), (23, .int .i64 r32.2.2), (24, .int .i64 r35.1), (25, .int .i64 r35.2), (30, .int .i64 r42.2), (31, v47), (39, .int .i64 x)]) 1) ⟨rfl, rfl, rfl, rfl, rfl, rfl, rfl, rfl, rfl, rfl, rfl, rfl, rfl, rfl, rfl, rfl, trivial⟩ ?_
          refine WJ.loop (X := Int) (fun N (x : Int) => w_FnTableColumns_l1 kj96 r23 r29 N x = some r) (fun (x : Int) => [(3, v9), (5, .int .i64 r7.2.2), (7, .int .i64 r11.2), (8, v16), (12, v22), (14, v25), (16, .int .i64 r23.2.2), (19, v31), (21, v34), (22, .int .i64 r32.2.1), (23, .int .i64 r32.2.2), (24, .int .i64 r35.1), (25, .int .i64 r35.2), (30, .int .i64 r42.2), (31, v47), (39, .int .i64 x)]) (fun (x : Int) => [row v47 9 fStr r45.1, row v34 2 fI64 r32.1, row v31 2 fI64 r29.1, row v25 2 fI64 r23.1, row v22 2 fI64 r20.1, row v16 9 fStr r14.1, row v9 45 fRaw1 vs10, inn (rSl fStr.rp) vs10 r7.1]) ?_ N 1 hm
          · rintro N i99 hI
            have hm := hI; clear hI
            cases N with
            | zero => cases hm
            | succ N =>
            unfold w_FnTableColumns_l1 at hm
            refine WJ.seq ?_
            refine WJ.seq ?_
            refine WJ.quiet ?_
            refine QJ.step (YldS.yld (y_move rfl)) rfl ?_
            refine QJ.step (YldS.yld (y_move rfl)) rfl ?_
            refine QJ.step (YldS.yld (y_lenRow (k := 2) rfl Try.runUnderlying27 rfl)) rfl ?_
            refine QJ.step (YldS.yld (y_bin rfl rfl rfl)) rfl ?_
            refine QJ.done ?_
            refine PJ.next ?_
            refine WJ.cond (t := decide (i99 < (List.length r29.1 : Int))) rfl (fun hb100 => ?_) (fun hb100 => ?_)
            · replace hm := ifT hm hb100
              refine WJ.skip ?_
              refine PJ.next ?_
              refine WJ.seq ?_
              refine WJ.block ?_
              refine WJ.seq ?_
              refine WJ.quiet_draw follows (by kernel_rfl) ?_
              refine QJ.step (YldS.yld (y_move rfl)) rfl ?_
              refine QJ.step (YldS.yld (y_move rfl)) rfl ?_
              obtain ⟨e101, h102, hm⟩ := bindS hm
              refine QJ.step (YldS.yld (y_ixRow (k := 2) (R := fI64) rfl Try.runUnderlying27 Try.sizeOf2 rfl rfl h102)) rfl ?_
              refine QJ.step (YldS.yld (y_loadR (k := 2) (i := (Int.toNat i99)) (off := 0) (u := .int .i64 e101) rfl Try.isAgg2 rfl (idx_get h102) rfl)) rfl ?_
              refine QJ.step (YldS.yld (y_move rfl)) rfl ?_
              refine QJ.step (YldS.yld (y_move rfl)) rfl ?_
              refine QJ.step (YldS.yld (y_bin rfl rfl rfl)) rfl ?_
              obtain ⟨e103, h104, hm⟩ := bindS hm
              refine QJ.step (YldS.yld (y_ixRow (k := 2) (R := fI64) rfl Try.runUnderlying27 Try.sizeOf2 rfl rfl h104)) rfl ?_
              refine QJ.step (YldS.yld (y_loadR (k := 2) (i := (Int.toNat (w64 (i99 - 1)))) (off := 0) (u := .int .i64 e103) rfl Try.isAgg2 rfl (idx_get h104) rfl)) rfl ?_
              refine QJ.step (YldS.yld (y_bin rfl rfl rfl)) rfl ?_
              refine QJ.step (YldS.yld (y_move rfl)) rfl ?_
              refine QJ.step (YldS.yld (y_move rfl)) rfl ?_
              refine QJ.step (YldS.yld (y_bin rfl rfl rfl)) rfl ?_
              obtain ⟨e105, h106, hm⟩ := bindS hm
              refine QJ.step (YldS.yld (y_ixRow (k := 3) (R := fI64) rfl Try.runUnderlying27 Try.sizeOf2 rfl rfl h106)) rfl ?_
              refine QJ.step (YldS.yld (y_loadR (k := 3) (i := (Int.toNat (w64 (i99 - 1)))) (off := 0) (u := .int .i64 e105) rfl Try.isAgg2 rfl (idx_get h106) rfl)) rfl ?_
              refine QJ.step (YldS.yld (y_move rfl)) rfl ?_
              refine QJ.step (YldS.yld (y_bin rfl rfl rfl)) rfl ?_
              refine QJ.step (YldS.yld (y_bin rfl rfl rfl)) rfl ?_
              refine QJ.done ?_
              refine PJ.next ?_
              refine WJ.cond (t := ((w64 (e101 - e103)) != (w64 (e105 + r23.2.2)))) rfl (fun hb107 => ?_) (fun hb107 => ?_)
              · replace hm := ifT hm hb107
                refine WJ.seq ?_
                refine WJ.quiet ?_
                refine QJ.step (YldS.yld (y_assign rfl)) rfl ?_
                refine QJ.done ?_
                refine PJ.next ?_
                refine WJ.ret ?_
                refine PJ.block_ret (PJ.then_ret (PJ.then_ret (PJ.block_ret (PJ.then_ret ?_))))
                obtain rfl := Option.some.inj hm
                refine PJ.sel (L' := []) [] ⟨List.nodup_nil, rfl⟩ ?_
                exact PJ.retn (vs := [.bool false]) Try.results4 ⟨rfl, trivial⟩ ⟨rfl, rfl⟩
              · replace hm := ifF hm hb107
                refine WJ.skip ?_
                refine PJ.block_normal (PJ.next ?_)
                refine WJ.quiet ?_
                refine QJ.step (YldS.yld (y_move rfl)) rfl ?_
                refine QJ.step (YldS.yld (y_bin rfl rfl rfl)) rfl ?_
                refine QJ.step (YldS.yld (y_assign rfl)) rfl ?_
                refine QJ.done ?_
                exact PJ.round (w64 (i99 + 1)) [0, 1, 2, 3, 4, 5, 6, 7] hm ⟨rfl, rfl, rfl, rfl, rfl, rfl, rfl, rfl, rfl, rfl, rfl, rfl, rfl, rfl, rfl, rfl, trivial⟩ ⟨by decide, rfl⟩
            · replace hm := ifF hm hb100
              refine WJ.exit ?_
              refine PJ.then_exit (PJ.then_exit (PJ.block_exit ?_))
              exact PJ.joined () [0, 1, 4, 5, 6, 7] hm ⟨rfl, rfl, rfl, rfl, rfl, rfl, rfl, rfl, rfl, rfl, rfl, rfl, trivial⟩ ⟨by decide, rfl⟩
        · replace hm := ifF hm hb98
          refine WJ.skip ?_
          exact PJ.joined () [0, 3, 7, 9, 11, 12] hm ⟨rfl, rfl, rfl, rfl, rfl, rfl, rfl, rfl, rfl, rfl, rfl, rfl, trivial⟩ ⟨by decide, rfl⟩
      · rintro _ hm
        subst hk97
        obtain ⟨kj108, hk109, hm⟩ := withK_open hm
        refine WJ.join (X := Unit) (fun (_ : Unit) => kj108  = some r) (fun (_ : Unit) => [(3, v9), (5, .int .i64 r7.2.2), (7, .int .i64 r11.2), (8, v16), (12, v22), (30, .int .i64 r42.2), (31, v47)]) (fun (_ : Unit) => [row v47 9 fStr r45.1, row v22 2 fI64 r20.1, row v16 9 fStr r14.1, row v9 45 fRaw1 vs10, inn (rSl fStr.rp) vs10 r7.1]) ?_ ?_
        · clear hk109
          refine WJ.seq ?_
          refine WJ.quiet ?_
          refine QJ.step (YldS.yld (y_move rfl)) rfl ?_
          refine QJ.step (YldS.yld (y_bin rfl rfl rfl)) rfl ?_
          refine QJ.done ?_
          refine PJ.next ?_
          refine WJ.cond (t := (r35.2 == 0)) rfl (fun hb110 => ?_) (fun hb110 => ?_)
          · replace hm := ifT hm hb110
            refine WJ.seq ?_
            refine WJ.quiet ?_
            refine QJ.step (YldS.yld (y_move rfl)) rfl ?_
            refine QJ.step (YldS.yld (y_lenRow (k := 1) rfl Try.runUnderlying27 rfl)) rfl ?_
            refine QJ.step (YldS.yld (y_bin rfl rfl rfl)) rfl ?_
            refine QJ.step (YldS.yld (y_assign rfl)) rfl ?_
            refine QJ.done ?_
            refine PJ.next ?_
            refine WJ.seq ?_
            refine WJ.quiet ?_
            refine QJ.step (YldS.yld (y_move rfl)) rfl ?_
            obtain ⟨r111, h112, hm⟩ := bindS hm
            refine QJ.step (y_call Try.call42 rfl (RetG.quiet fun w hw => ok_w_f6sum h112 w _ (hw.row_rd (k := 1) rfl))) rfl ?_
            refine QJ.step (YldS.yld (y_move rfl)) rfl ?_
            refine QJ.step (YldS.yld (y_move rfl)) rfl ?_
            refine QJ.step (YldS.yld (y_bin rfl rfl rfl)) rfl ?_
            refine QJ.step (YldS.yld (y_bin rfl rfl rfl)) rfl ?_
            refine QJ.step (YldS.yld (y_move rfl)) rfl ?_
            refine QJ.step (YldS.yld (y_move rfl)) rfl ?_
            refine QJ.step (YldS.yld (y_bin rfl rfl rfl)) rfl ?_
            refine QJ.step (YldS.yld (y_bin rfl rfl rfl)) rfl ?_
            refine QJ.step (YldS.yld (y_move rfl)) rfl ?_
            obtain ⟨t113, h114, hm⟩ := bindS hm
            refine QJ.cut 12 [(3, v9), (5, .int .i64 r7.2.2), (7, .int .i64 r11.2), (8, v16), (12, v22), (24, .int .i64 r35.1), (30, .int .i64 r42.2), (31, v47), (259, .bool t113)] ?_ ?_
            · rcases Bool.eq_false_or_eq_true (decide ((w64 (r111 + (w64 ((w64 ((List.length r32.1 : Int) - 1)) * r35.1)))) > (w64 (r32.2.2 - r32.2.1)))) with hb115 | hb115
              · obtain rfl := orT h114 hb115
                refine QJ.off rfl rfl (cB hb115) rfl rfl ?_
                refine QJ.off rfl rfl (cB hb115) rfl rfl ?_
                refine QJ.off rfl rfl (cB hb115) rfl rfl ?_
                refine QJ.off rfl rfl (cB hb115) rfl rfl ?_
                refine QJ.off rfl rfl (cB hb115) rfl rfl ?_
                refine QJ.off rfl rfl (cB hb115) rfl rfl ?_
                refine QJ.off rfl rfl (cB hb115) rfl rfl ?_
                refine QJ.off rfl rfl (cB hb115) rfl rfl ?_
                refine QJ.off rfl rfl (cB hb115) rfl rfl ?_
                refine QJ.off rfl rfl (cB hb115) rfl rfl ?_
                refine QJ.off rfl rfl (cB hb115) rfl rfl ?_
                refine QJ.step (YldS.yld (y_pick_t (cB hb115) rfl)) rfl ?_
                exact QJ.cut_end ⟨rfl, rfl, rfl, rfl, rfl, rfl, rfl, rfl, rfl, trivial⟩
              · replace h114 := orF h114 hb115
                refine QJ.on rfl rfl (cB hb115) (YldS.yld (y_move rfl)) rfl ?_
                obtain ⟨r116, h117, h114⟩ := bindS h114
                refine QJ.on rfl rfl (cB hb115) (y_call Try.call42 rfl (RetG.quiet fun w hw => ok_w_f6sum h117 w _ (hw.row_rd (k := 1) rfl))) rfl ?_
                refine QJ.on rfl rfl (cB hb115) (YldS.yld (y_move rfl)) rfl ?_
                refine QJ.on rfl rfl (cB hb115) (YldS.yld (y_move rfl)) rfl ?_
                refine QJ.on rfl rfl (cB hb115) (YldS.yld (y_bin rfl rfl rfl)) rfl ?_
                refine QJ.on rfl rfl (cB hb115) (YldS.yld (y_bin rfl rfl rfl)) rfl ?_
                refine QJ.on rfl rfl (cB hb115) (YldS.yld (y_bin rfl rfl rfl)) rfl ?_
                refine QJ.on rfl rfl (cB hb115) (YldS.yld (y_move rfl)) rfl ?_
                refine QJ.on rfl rfl (cB hb115) (YldS.yld (y_move rfl)) rfl ?_
                refine QJ.on rfl rfl (cB hb115) (YldS.yld (y_bin rfl rfl rfl)) rfl ?_
                refine QJ.on rfl rfl (cB hb115) (YldS.yld (y_bin rfl rfl rfl)) rfl ?_
                refine QJ.step (YldS.yld (y_pick_f (cB hb115) rfl)) rfl ?_
                obtain rfl := Option.some.inj h114
                exact QJ.cut_end ⟨rfl, rfl, rfl, rfl, rfl, rfl, rfl, rfl, rfl, trivial⟩
            refine QJ.step (YldS.yld (y_move rfl)) rfl ?_
            obtain ⟨t118, h119, hm⟩ := bindS hm
            refine QJ.cut 3 [(3, v9), (5, .int .i64 r7.2.2), (7, .int .i64 r11.2), (8, v16), (12, v22), (30, .int .i64 r42.2), (31, v47), (263, .bool t118)] ?_ ?_
            · rcases Bool.eq_false_or_eq_true t113 with hb120 | hb120
              · obtain rfl := orT h119 hb120
                refine QJ.off rfl rfl (cB hb120) rfl rfl ?_
                refine QJ.off rfl rfl (cB hb120) rfl rfl ?_
                refine QJ.step (YldS.yld (y_pick_t (cB hb120) rfl)) rfl ?_
                exact QJ.cut_end ⟨rfl, rfl, rfl, rfl, rfl, rfl, rfl, rfl, trivial⟩
              · replace h119 := orF h119 hb120
                refine QJ.on rfl rfl (cB hb120) (YldS.yld (y_move rfl)) rfl ?_
                refine QJ.on rfl rfl (cB hb120) (YldS.yld (y_bin rfl rfl rfl)) rfl ?_
                refine QJ.step (YldS.yld (y_pick_f (cB hb120) rfl)) rfl ?_
                obtain rfl := Option.some.inj h119
                exact QJ.cut_end ⟨rfl, rfl, rfl, rfl, rfl, rfl, rfl, rfl, trivial⟩
            refine QJ.done ?_
            refine PJ.next ?_
            refine WJ.cond (t := t118) rfl (fun hb121 => ?_) (fun hb121 => ?_)
            · replace hm := ifT hm hb121
              refine WJ.seq ?_
              refine WJ.quiet ?_
              refine QJ.step (YldS.yld (y_assign rfl)) rfl ?_
              refine QJ.done ?_
              refine PJ.next ?_
              refine WJ.ret ?_
              refine PJ.then_ret ?_
              obtain rfl := Option.some.inj hm
              refine PJ.sel (L' := []) [] ⟨List.nodup_nil, rfl⟩ ?_
              exact PJ.retn (vs := [.bool false]) Try.results4 ⟨rfl, trivial⟩ ⟨rfl, rfl⟩
            · replace hm := ifF hm hb121
              refine WJ.skip ?_
              exact PJ.joined () [0, 2, 3, 4, 5] hm ⟨rfl, rfl, rfl, rfl, rfl, rfl, rfl, trivial⟩ ⟨by decide, rfl⟩
          · replace hm := ifF hm hb110
            refine WJ.skip ?_
            exact PJ.joined () [0, 2, 3, 4, 5] hm ⟨rfl, rfl, rfl, rfl, rfl, rfl, rfl, trivial⟩ ⟨by decide, rfl⟩
        · rintro _ hm
          subst hk109
          obtain ⟨kj122, hk123, hm⟩ := withK_open hm
          refine WJ.join (X := Unit) (fun (_ : Unit) => kj122  = some r) (fun (_ : Unit) => [(3, v9), (5, .int .i64 r7.2.2), (7, .int .i64 r11.2), (8, v16), (12, v22)]) (fun (_ : Unit) => [row v22 2 fI64 r20.1, row v16 9 fStr r14.1, row v9 45 fRaw1 vs10, inn (rSl fStr.rp) vs10 r7.1]) ?_ ?_
          · clear hk123
            refine WJ.seq ?_
            refine WJ.quiet ?_
            refine QJ.step (YldS.yld (y_move rfl)) rfl ?_
            refine QJ.step (YldS.yld (y_bin rfl rfl rfl)) rfl ?_
            refine QJ.done ?_
            refine PJ.next ?_
            refine WJ.cond (t := (r42.2 == 0)) rfl (fun hb124 => ?_) (fun hb124 => ?_)
            · replace hm := ifT hm hb124
              refine WJ.seq ?_
              refine WJ.quiet ?_
              refine QJ.step (YldS.yld (y_assign rfl)) rfl ?_
              refine QJ.done ?_
              refine PJ.next ?_
              refine WJ.block ?_
              refine WJ.sel (L' := (fun (x : Int) => [row v47 9 fStr r45.1, row v22 2 fI64 r20.1, row v16 9 fStr r14.1, row v9 45 fRaw1 vs10, inn (rSl fStr.rp) vs10 r7.1]) 0) [0, 1, 2, 3, 4] ⟨by decide, rfl⟩ ?_
              refine WJ.sub (m' := (fun (x : Int) => [(3, v9), (5, .int .i64 r7.2.2), (7, .int .i64 r11.2), (8, v16), (12, v22), (31, v47), (41, .int .i64 x)]) 0) ⟨rfl, rfl, rfl, rfl, rfl, rfl, rfl, trivial⟩ ?_
              refine WJ.loop (X := Int) (fun N (x : Int) => w_FnTableColumns_l2 kj122 r45 N x = some r) (fun (x : Int) => [(3, v9), (5, .int .i64 r7.2.2), (7, .int .i64 r11.2), (8, v16), (12, v22), (31, v47), (41, .int .i64 x)]) (fun (x : Int) => [row v47 9 fStr r45.1, row v22 2 fI64 r20.1, row v16 9 fStr r14.1, row v9 45 fRaw1 vs10, inn (rSl fStr.rp) vs10 r7.1]) ?_ N 0 hm
              · rintro N i125 hI
                have hm := hI; clear hI
                cases N with
                | zero => cases hm
                | succ N =>
                unfold w_FnTableColumns_l2 at hm
                refine WJ.seq ?_
                refine WJ.seq ?_
                refine WJ.quiet ?_
                refine QJ.step (YldS.yld (y_move rfl)) rfl ?_
                refine QJ.step (YldS.yld (y_move rfl)) rfl ?_
                refine QJ.step (YldS.yld (y_lenRow (k := 0) rfl Try.runUnderlying45 rfl)) rfl ?_
                refine QJ.step (YldS.yld (y_bin rfl rfl rfl)) rfl ?_
                refine QJ.done ?_
                refine PJ.next ?_
                refine WJ.cond (t := decide (i125 < (List.length r45.1 : Int))) rfl (fun hb126 => ?_) (fun hb126 => ?_)
                · replace hm := ifT hm hb126
                  refine WJ.skip ?_
                  refine PJ.next ?_
                  refine WJ.seq ?_
                  refine WJ.block ?_
                  refine WJ.seq ?_
                  refine WJ.quiet_draw follows (by kernel_rfl) ?_
                  refine QJ.step (YldS.yld (y_move rfl)) rfl ?_
                  refine QJ.step (YldS.yld (y_move rfl)) rfl ?_
                  obtain ⟨e127, h128, hm⟩ := bindS hm
                  refine QJ.step (YldS.yld (y_ixRow (k := 0) (R := fStr) rfl Try.runUnderlying45 Try.sizeOf9 rfl rfl h128)) rfl ?_
                  refine QJ.step (YldS.yld (y_loadR (k := 0) (i := (Int.toNat i125)) (off := 0) (u := str e127) rfl Try.isAgg9 rfl (idx_get h128) rfl)) rfl ?_
                  obtain ⟨r129, h130, hm⟩ := bindS hm
                  refine QJ.step (y_call Try.call43 rfl (RetG.quiet fun w hw => ok_w_f6point h130 w )) rfl ?_
                  refine QJ.step (YldS.yld (y_move rfl)) rfl ?_
                  obtain ⟨e131, h132, hm⟩ := bindS hm
                  refine QJ.step (YldS.yld (y_ixRow (k := 0) (R := fStr) rfl Try.runUnderlying45 Try.sizeOf9 rfl rfl h132)) rfl ?_
                  refine QJ.step (YldS.yld (y_loadR (k := 0) (i := (Int.toNat 0)) (off := 0) (u := str e131) rfl Try.isAgg9 rfl (idx_get h132) rfl)) rfl ?_
                  obtain ⟨r133, h134, hm⟩ := bindS hm
                  refine QJ.step (y_call Try.call43 rfl (RetG.quiet fun w hw => ok_w_f6point h134 w )) rfl ?_
                  refine QJ.step (YldS.yld (y_bin rfl rfl rfl)) rfl ?_
                  refine QJ.done ?_
                  refine PJ.next ?_
                  refine WJ.cond (t := (r129 != r133)) rfl (fun hb135 => ?_) (fun hb135 => ?_)
                  · replace hm := ifT hm hb135
                    refine WJ.seq ?_
                    refine WJ.quiet ?_
                    refine QJ.step (YldS.yld (y_assign rfl)) rfl ?_
                    refine QJ.done ?_
                    refine PJ.next ?_
                    refine WJ.ret ?_
                    refine PJ.block_ret (PJ.then_ret (PJ.then_ret (PJ.block_ret (PJ.then_ret ?_))))
                    obtain rfl := Option.some.inj hm
                    refine PJ.sel (L' := []) [] ⟨List.nodup_nil, rfl⟩ ?_
                    exact PJ.retn (vs := [.bool false]) Try.results4 ⟨rfl, trivial⟩ ⟨rfl, rfl⟩
                  · replace hm := ifF hm hb135
                    refine WJ.skip ?_
                    refine PJ.block_normal (PJ.next ?_)
                    refine WJ.quiet ?_
                    refine QJ.step (YldS.yld (y_move rfl)) rfl ?_
                    refine QJ.step (YldS.yld (y_bin rfl rfl rfl)) rfl ?_
                    refine QJ.step (YldS.yld (y_assign rfl)) rfl ?_
                    refine QJ.done ?_
                    exact PJ.round (w64 (i125 + 1)) [0, 1, 2, 3, 4] hm ⟨rfl, rfl, rfl, rfl, rfl, rfl, rfl, trivial⟩ ⟨by decide, rfl⟩
                · replace hm := ifF hm hb126
                  refine WJ.exit ?_
                  refine PJ.then_exit (PJ.then_exit (PJ.block_exit ?_))
                  exact PJ.joined () [1, 2, 3, 4] hm ⟨rfl, rfl, rfl, rfl, rfl, trivial⟩ ⟨by decide, rfl⟩
            · replace hm := ifF hm hb124
              refine WJ.skip ?_
              exact PJ.joined () [1, 2, 3, 4] hm ⟨rfl, rfl, rfl, rfl, rfl, trivial⟩ ⟨by decide, rfl⟩
          · rintro _ hm
            subst hk123
            refine WJ.seq ?_
            refine WJ.seq ?_
            refine WJ.quiet ?_
            refine QJ.step (YldS.yld (y_move rfl)) rfl ?_
            refine QJ.step (YldS.yld (y_bin rfl rfl rfl)) rfl ?_
            refine QJ.done ?_
            refine PJ.next ?_
            refine WJ.cond (t := (r11.2 != 0)) rfl (fun hb136 => ?_) (fun hb136 => ?_)
            · replace hm := ifT hm hb136
              refine WJ.seq ?_
              refine WJ.quiet ?_
              refine QJ.step (YldS.yld (y_assign rfl)) rfl ?_
              refine QJ.done ?_
              refine PJ.next ?_
              refine WJ.ret ?_
              refine PJ.then_ret ?_
              obtain rfl := Option.some.inj hm
              refine PJ.sel (L' := []) [] ⟨List.nodup_nil, rfl⟩ ?_
              exact PJ.retn (vs := [.bool true]) Try.results4 ⟨rfl, trivial⟩ ⟨rfl, rfl⟩
            · replace hm := ifF hm hb136
              refine WJ.skip ?_
              refine PJ.next ?_
              obtain ⟨kj137, hk138, hm⟩ := withK_open hm
              refine WJ.join (X := Unit) (fun (_ : Unit) => kj137  = some r) (fun (_ : Unit) => [(3, v9), (8, v16)]) (fun (_ : Unit) => [row v16 9 fStr r14.1, row v9 45 fRaw1 vs10, inn (rSl fStr.rp) vs10 r7.1]) ?_ ?_
              · clear hk138
                refine WJ.seq ?_
                refine WJ.quiet ?_
                refine QJ.step (YldS.yld (y_assign rfl)) rfl ?_
                refine QJ.done ?_
                refine PJ.next ?_
                refine WJ.block ?_
                refine WJ.sel (L' := (fun (x : Int) => [row v22 2 fI64 r20.1, row v16 9 fStr r14.1, row v9 45 fRaw1 vs10, inn (rSl fStr.rp) vs10 r7.1]) 0) [0, 1, 2, 3] ⟨by decide, rfl⟩ ?_
                refine WJ.sub (m' := (fun (x : Int) => [(3, v9), (5, .int .i64 r7.2.2), (8, v16), (12, v22), (42, .int .i64 x)]) 0) ⟨rfl, rfl, rfl, rfl, rfl, trivial⟩ ?_
                refine WJ.loop (X := Int) (fun N (x : Int) => w_FnTableColumns_l3 kj137 r7 r14 r20 N x = some r) (fun (x : Int) => [(3, v9), (5, .int .i64 r7.2.2), (8, v16), (12, v22), (42, .int .i64 x)]) (fun (x : Int) => [row v22 2 fI64 r20.1, row v16 9 fStr r14.1, row v9 45 fRaw1 vs10, inn (rSl fStr.rp) vs10 r7.1]) ?_ N 0 hm
                · rintro N i139 hI
                  have hm := hI; clear hI
                  cases N with
                  | zero => cases hm
                  | succ N =>
                  unfold w_FnTableColumns_l3 at hm
                  refine WJ.seq ?_
                  refine WJ.seq ?_
                  refine WJ.quiet ?_
                  refine QJ.step (YldS.yld (y_move rfl)) rfl ?_
                  refine QJ.step (YldS.yld (y_move rfl)) rfl ?_
                  refine QJ.step (YldS.yld (y_lenRow (k := 1) rfl Try.runUnderlying45 rfl)) rfl ?_
                  refine QJ.step (YldS.yld (y_bin rfl rfl rfl)) rfl ?_
                  refine QJ.done ?_
                  refine PJ.next ?_
                  refine WJ.cond (t := decide (i139 < (List.length r14.1 : Int))) rfl (fun hb140 => ?_) (fun hb140 => ?_)
                  · replace hm := ifT hm hb140
                    refine WJ.skip ?_
                    refine PJ.next ?_
                    refine WJ.seq ?_
                    refine WJ.block ?_
                    refine WJ.seq ?_
                    refine WJ.quiet_draw follows (by kernel_rfl) ?_
                    refine QJ.step (YldS.yld (y_move rfl)) rfl ?_
                    refine QJ.step (YldS.yld (y_move rfl)) rfl ?_
                    obtain ⟨e141, h142, hm⟩ := bindS hm
                    refine QJ.step (YldS.yld (y_ixRow (k := 1) (R := fStr) rfl Try.runUnderlying45 Try.sizeOf9 rfl rfl h142)) rfl ?_
                    refine QJ.step (YldS.yld (y_loadR (k := 1) (i := (Int.toNat i139)) (off := 0) (u := str e141) rfl Try.isAgg9 rfl (idx_get h142) rfl)) rfl ?_
                    refine QJ.step (YldS.yld (y_lenStr Try.runUnderlying9 rfl)) rfl ?_
                    refine QJ.step (YldS.yld (y_move rfl)) rfl ?_
                    obtain ⟨r143, h144, hm⟩ := bindS hm
                    refine QJ.step (y_call Try.call42 rfl (RetG.quiet fun w hw => ok_w_f6sum h144 w _ (hw.row_rd (k := 0) rfl))) rfl ?_
                    refine QJ.step (YldS.yld (y_move rfl)) rfl ?_
                    refine QJ.step (YldS.yld (y_move rfl)) rfl ?_
                    refine QJ.step (YldS.yld (y_lenRow (k := 0) rfl Try.runUnderlying27 rfl)) rfl ?_
                    refine QJ.step (YldS.yld (y_bin rfl rfl rfl)) rfl ?_
                    refine QJ.step (YldS.yld (y_bin rfl rfl rfl)) rfl ?_
                    refine QJ.step (YldS.yld (y_bin rfl rfl rfl)) rfl ?_
                    refine QJ.step (YldS.yld (y_bin rfl rfl rfl)) rfl ?_
                    refine QJ.done ?_
                    refine PJ.next ?_
                    refine WJ.cond (t := ((List.length e141 : Int) != (w64 (r143 + (w64 (r7.2.2 * (w64 ((List.length r20.1 : Int) - 1)))))))) rfl (fun hb145 => ?_) (fun hb145 => ?_)
                    · replace hm := ifT hm hb145
                      refine WJ.seq ?_
                      refine WJ.quiet ?_
                      refine QJ.step (YldS.yld (y_assign rfl)) rfl ?_
                      refine QJ.done ?_
                      refine PJ.next ?_
                      refine WJ.ret ?_
                      refine PJ.block_ret (PJ.then_ret (PJ.then_ret (PJ.block_ret (PJ.then_ret ?_))))
                      obtain rfl := Option.some.inj hm
                      refine PJ.sel (L' := []) [] ⟨List.nodup_nil, rfl⟩ ?_
                      exact PJ.retn (vs := [.bool false]) Try.results4 ⟨rfl, trivial⟩ ⟨rfl, rfl⟩
                    · replace hm := ifF hm hb145
                      refine WJ.skip ?_
                      refine PJ.block_normal (PJ.next ?_)
                      refine WJ.quiet ?_
                      refine QJ.step (YldS.yld (y_move rfl)) rfl ?_
                      refine QJ.step (YldS.yld (y_bin rfl rfl rfl)) rfl ?_
                      refine QJ.step (YldS.yld (y_assign rfl)) rfl ?_
                      refine QJ.done ?_
                      exact PJ.round (w64 (i139 + 1)) [0, 1, 2, 3] hm ⟨rfl, rfl, rfl, rfl, rfl, trivial⟩ ⟨by decide, rfl⟩
                  · replace hm := ifF hm hb140
                    refine WJ.exit ?_
                    refine PJ.then_exit (PJ.then_exit (PJ.block_exit ?_))
                    exact PJ.joined () [1, 2, 3] hm ⟨rfl, rfl, trivial⟩ ⟨by decide, rfl⟩
              · rintro _ hm
                subst hk138
                refine WJ.seq ?_
                refine WJ.quiet ?_
                refine QJ.step (YldS.yld (y_move rfl)) rfl ?_
                refine QJ.step (YldS.yld (y_lenRow (k := 0) rfl Try.runUnderlying45 rfl)) rfl ?_
                refine QJ.step (YldS.yld (y_move rfl)) rfl ?_
                refine QJ.step (YldS.yld (y_lenG (fun w hw => (hw.nst_rd (k := 1) (j := 2) rfl rfl)) Try.runUnderlying42 rfl)) rfl ?_
                refine QJ.step (YldS.yld (y_bin rfl rfl rfl)) rfl ?_
                refine QJ.step (YldS.yld (y_assign rfl)) rfl ?_
                refine QJ.done ?_
                refine PJ.next ?_
                refine WJ.ret ?_
                obtain rfl := Option.some.inj hm
                refine PJ.sel (L' := []) [] ⟨List.nodup_nil, rfl⟩ ?_
                exact PJ.retn (vs := [.bool ((List.length r14.1 : Int) == (List.length r7.1 : Int))]) Try.results4 ⟨rfl, trivial⟩ ⟨rfl, rfl⟩

end Go.Proofs.Ytpmanofdlhlkdaa
