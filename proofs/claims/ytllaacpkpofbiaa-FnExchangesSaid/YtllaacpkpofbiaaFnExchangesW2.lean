/-
  The walks: a call hands back what its plain function computes, where that has a value. No other conditions.
-/
import Derived.Test.YtllaacpkpofbiaaFnExchangesW
import Derived.Test.YtllaacpkpofbiaaChecked
namespace Go.Proofs.Ytllaacpkpofbiaa
open Go.RowKit Go.Proofs
set_option linter.unusedVariables false
set_option linter.unusedSimpArgs false

set_option maxRecDepth 100000 in
set_option maxHeartbeats 1000000 in
theorem ok_i_FewestExchanges {N : Nat} {a1 : Layout} {b4 : Layout} {r : Int × Int} (hm : i_FewestExchanges N a1 b4 = some r) (w : World) (v2 : Value) (hr3 : RdS w (cx w).Fz v2 fStr.rp a1.rows) (v5 : Value) (hr6 : RdS w (cx w).Fz v5 fStr.rp b4.rows) :
    Calls Try.prog 10 #[.agg #[v2], .agg #[v5]] w (Ret (cx w) (tup [.int .i64 r.1, .int .i64 r.2])) := by
  unfold i_FewestExchanges at hm
  refine Calls.enter [.agg #[v2], .agg #[v5]] Try.func10 rfl Try.ntmps10 rfl ?_
  refine WJ.seq ?_
  refine WJ.reg ?_
  refine SJ.box (cs := [v2]) rfl rfl rfl fun g7 => ?_
  refine SJ.box (cs := [v5]) rfl rfl rfl fun g8 => ?_
  refine SJ.q (YldS.yld (y_assign rfl)) rfl ?_
  refine SJ.q (YldS.yld (y_assign rfl)) rfl ?_
  refine SJ.nil ?_
  refine PJ.next ?_
  refine WJ.seq ?_
  refine WJ.seq ?_
  refine WJ.quiet ?_
  refine QJ.step (YldS.yld (y_loadBN (k := 1) (off := 0) (us := [v2]) rfl Try.isAgg26 Try.sizeOf26 rfl rfl)) rfl ?_
  refine QJ.step (YldS.yld (y_loadBN (k := 0) (off := 0) (us := [v5]) rfl Try.isAgg26 Try.sizeOf26 rfl rfl)) rfl ?_
  obtain ⟨r9, h10, hm⟩ := bindS hm
  refine QJ.step (y_call Try.call43 rfl (RetG.quiet fun w hw => ok_i_compareCode h10 w _ (hr3.st hw) _ (hr6.st hw))) rfl ?_
  refine QJ.step (YldS.yld (y_assign rfl)) rfl ?_
  refine QJ.done ?_
  refine PJ.next ?_
  refine WJ.seq ?_
  refine WJ.quiet ?_
  refine QJ.step (YldS.yld (y_move rfl)) rfl ?_
  refine QJ.step (YldS.yld (y_bin rfl rfl rfl)) rfl ?_
  refine QJ.done ?_
  refine PJ.next ?_
  refine WJ.cond (t := (r9 != 0)) rfl (fun hb11 => ?_) (fun hb11 => ?_)
  · replace hm := ifT hm hb11
    refine WJ.seq ?_
    refine WJ.quiet ?_
    refine QJ.step (YldS.yld (y_move rfl)) rfl ?_
    refine QJ.step (YldS.yld (y_assign rfl)) rfl ?_
    refine QJ.step (YldS.yld (y_assign rfl)) rfl ?_
    refine QJ.done ?_
    refine PJ.next ?_
    refine WJ.ret ?_
    refine PJ.then_ret ?_
    obtain rfl := Option.some.inj hm
    refine PJ.sel (L' := []) [] ⟨List.nodup_nil, rfl⟩ ?_
    exact PJ.retn (vs := [.int .i64 0, .int .i64 r9]) Try.results10 ⟨rfl, rfl, trivial⟩ ⟨rfl, rfl⟩
  · replace hm := ifF hm hb11
    refine WJ.skip ?_
    refine PJ.next ?_
    refine WJ.seq ?_
    refine WJ.reg ?_
    refine SJ.q (YldS.yld (y_loadBN (k := 1) (off := 0) (us := [v2]) rfl Try.isAgg26 Try.sizeOf26 rfl rfl)) rfl ?_
    refine SJ.q (YldS.yld (y_loadBN (k := 0) (off := 0) (us := [v5]) rfl Try.isAgg26 Try.sizeOf26 rfl rfl)) rfl ?_
    obtain ⟨r12, h13, hm⟩ := bindS hm
    refine SJ.call Try.call44 rfl (fun w hw => ok_i_exchangePlan h13 w _ (hr3.st hw) _ (hr6.st hw)) rfl ?_
    rintro v14 _ ⟨_, rfl, rfl⟩
    refine SJ.q (YldS.yld (y_lenRow (k := 0) rfl Try.runUnderlying24 rfl)) rfl ?_
    refine SJ.q (YldS.yld (y_assign rfl)) rfl ?_
    refine SJ.q (YldS.yld (y_assign rfl)) rfl ?_
    refine SJ.nil ?_
    refine PJ.next ?_
    refine WJ.ret ?_
    obtain rfl := Option.some.inj hm
    refine PJ.sel (L' := []) [] ⟨List.nodup_nil, rfl⟩ ?_
    exact PJ.retn (vs := [.int .i64 (List.length r12 : Int), .int .i64 0]) Try.results10 ⟨rfl, rfl, trivial⟩ ⟨rfl, rfl⟩

set_option maxRecDepth 100000 in
set_option maxHeartbeats 1000000 in
theorem ok_s_FewestExchanges {N : Nat} {a1 : Layout} {b4 : Layout} {r : Int × Int} (hm : s_FewestExchanges N a1 b4 = some r) (w : World) (v2 : Value) (hr3 : RdS w (cx w).Fz v2 fStr.rp a1.rows) (v5 : Value) (hr6 : RdS w (cx w).Fz v5 fStr.rp b4.rows) :
    Calls Try.prog 11 #[.agg #[v2], .agg #[v5]] w (Ret (cx w) (tup [.int .i64 r.1, .int .i64 r.2])) := by
  unfold s_FewestExchanges at hm
  refine Calls.enter [.agg #[v2], .agg #[v5]] Try.func11 rfl Try.ntmps11 rfl ?_
  refine WJ.seq ?_
  refine WJ.reg ?_
  refine SJ.box (cs := [v2]) rfl rfl rfl fun g7 => ?_
  refine SJ.box (cs := [v5]) rfl rfl rfl fun g8 => ?_
  refine SJ.q (YldS.yld (y_assign rfl)) rfl ?_
  refine SJ.q (YldS.yld (y_assign rfl)) rfl ?_
  refine SJ.nil ?_
  refine PJ.next ?_
  refine WJ.seq ?_
  refine WJ.quiet ?_
  obtain ⟨r9, h10, hm⟩ := bindS hm
  refine QJ.step (y_call Try.call45 rfl (RetG.quiet fun w hw => ok_s_l06Both h10 w _ _ (hw.box_at (k := 1) rfl) (hr3.st hw) _ _ (hw.box_at (k := 0) rfl) (hr6.st hw))) rfl ?_
  refine QJ.step (YldS.yld (y_assign rfl)) rfl ?_
  refine QJ.done ?_
  refine PJ.next ?_
  refine WJ.seq ?_
  refine WJ.seq ?_
  refine WJ.quiet ?_
  refine QJ.step (YldS.yld (y_move rfl)) rfl ?_
  refine QJ.step (YldS.yld (y_bin rfl rfl rfl)) rfl ?_
  refine QJ.done ?_
  refine PJ.next ?_
  refine WJ.cond (t := (r9 != 0)) rfl (fun hb11 => ?_) (fun hb11 => ?_)
  · replace hm := ifT hm hb11
    refine WJ.seq ?_
    refine WJ.quiet ?_
    refine QJ.step (YldS.yld (y_move rfl)) rfl ?_
    refine QJ.step (YldS.yld (y_assign rfl)) rfl ?_
    refine QJ.step (YldS.yld (y_assign rfl)) rfl ?_
    refine QJ.done ?_
    refine PJ.next ?_
    refine WJ.ret ?_
    refine PJ.then_ret ?_
    obtain rfl := Option.some.inj hm
    refine PJ.sel (L' := []) [] ⟨List.nodup_nil, rfl⟩ ?_
    exact PJ.retn (vs := [.int .i64 0, .int .i64 r9]) Try.results11 ⟨rfl, rfl, trivial⟩ ⟨rfl, rfl⟩
  · replace hm := ifF hm hb11
    refine WJ.skip ?_
    refine PJ.next ?_
    refine WJ.seq ?_
    refine WJ.reg ?_
    obtain ⟨r12, h13, hm⟩ := bindS hm
    refine SJ.call Try.call46 rfl (fun w hw => ok_s_l06Plan h13 w _ _ (hw.box_at (k := 1) rfl) (hr3.st hw) _ _ (hw.box_at (k := 0) rfl) (hr6.st hw)) rfl ?_
    rintro v14 _ ⟨_, rfl, rfl⟩
    refine SJ.q (YldS.yld (y_lenRow (k := 0) rfl Try.runUnderlying24 rfl)) rfl ?_
    refine SJ.q (YldS.yld (y_assign rfl)) rfl ?_
    refine SJ.q (YldS.yld (y_assign rfl)) rfl ?_
    refine SJ.nil ?_
    refine PJ.next ?_
    refine WJ.ret ?_
    obtain rfl := Option.some.inj hm
    refine PJ.sel (L' := []) [] ⟨List.nodup_nil, rfl⟩ ?_
    exact PJ.retn (vs := [.int .i64 (List.length r12 : Int), .int .i64 0]) Try.results11 ⟨rfl, rfl, trivial⟩ ⟨rfl, rfl⟩

set_option maxRecDepth 100000 in
set_option maxHeartbeats 1000000 in
theorem ok_i_ascending {N : Nat} {marked1 : List Bool} {r : Str} (hm : i_ascending N marked1 = some r) (w : World) (ad2 : Addr) (ha3 : RdS w (cx w).Fz (.slice (some ad2) 256 256) fBool.rp marked1) :
    Calls Try.prog 47 #[.pointer (some ad2)] w (Ret (cx w) (str r)) := by
  unfold i_ascending at hm
  refine Calls.enter [.pointer (some ad2)] Try.func47 rfl Try.ntmps47 rfl ?_
  refine WJ.seq ?_
  refine WJ.quiet ?_
  refine QJ.step (YldS.yld (y_assign rfl)) rfl ?_
  refine QJ.done ?_
  refine PJ.next ?_
  refine WJ.seq ?_
  refine WJ.reg ?_
  refine SJ.buildSlice (R := fByte) (os := []) [] Try.runUnderlying22 Try.sizeOf5 Try.zeroValue5 rfl rfl rfl rfl rfl rfl fun v4 => ?_
  refine SJ.q (YldS.yld (y_assign rfl)) rfl ?_
  refine SJ.nil ?_
  refine PJ.next ?_
  obtain ⟨kj7, hk8, hm⟩ := withK_open hm
  refine WJ.join (X := (List UInt8) × Value) (fun (x : (List UInt8) × Value) => kj7 x.1 = some r) (fun (x : (List UInt8) × Value) => [(3, x.2)]) (fun (x : (List UInt8) × Value) => [row x.2 5 fByte x.1]) ?_ ?_
  · clear hk8
    refine WJ.seq ?_
    refine WJ.quiet ?_
    refine QJ.step (YldS.yld (y_move rfl)) rfl ?_
    refine QJ.done ?_
    refine PJ.next ?_
    refine WJ.block ?_
    refine WJ.sel (L' := (fun (x : (List UInt8) × Value × Int) => [row x.2.1 5 fByte x.1]) ([], v4, 0)) [0] ⟨by decide, rfl⟩ ?_
    refine WJ.sub (m' := (fun (x : (List UInt8) × Value × Int) => [(0, .pointer (some ad2)), (3, x.2.1), (6, .int .i64 x.2.2)]) ([], v4, 0)) ⟨rfl, rfl, rfl, trivial⟩ ?_
    refine WJ.loop (X := (List UInt8) × Value × Int) (fun N (x : (List UInt8) × Value × Int) => i_ascending_l1 kj7 marked1 N x.1 x.2.2 = some r) (fun (x : (List UInt8) × Value × Int) => [(0, .pointer (some ad2)), (3, x.2.1), (6, .int .i64 x.2.2)]) (fun (x : (List UInt8) × Value × Int) => [row x.2.1 5 fByte x.1]) ?_ N ([], v4, 0) hm
    · rintro N ⟨l9, v10, x11⟩ hI
      have hm := hI; clear hI
      cases N with
      | zero => cases hm
      | succ N =>
      unfold i_ascending_l1 at hm
      refine WJ.seq ?_
      refine WJ.quiet ?_
      refine QJ.step (YldS.yld (y_bin rfl rfl rfl)) rfl ?_
      refine QJ.done ?_
      refine PJ.next ?_
      refine WJ.seq ?_
      refine WJ.cond (t := decide (x11 < 256)) rfl (fun hb12 => ?_) (fun hb12 => ?_)
      · replace hm := ifT hm hb12
        refine WJ.skip ?_
        refine PJ.next ?_
        obtain ⟨kj15, hk16, hm⟩ := withK_open hm
        refine WJ.join (X := (List UInt8) × Value) (fun (x : (List UInt8) × Value) => kj15 x.1 = some r) (fun (x : (List UInt8) × Value) => [(0, .pointer (some ad2)), (3, x.2), (6, .int .i64 x11)]) (fun (x : (List UInt8) × Value) => [row x.2 5 fByte x.1]) ?_ ?_
        · clear hk16
          refine WJ.block ?_
          refine WJ.seq ?_
          refine WJ.quiet ?_
          refine QJ.step (YldS.yld (y_move rfl)) rfl ?_
          refine QJ.step (YldS.yld (y_assign rfl)) rfl ?_
          refine QJ.done ?_
          refine PJ.next ?_
          refine WJ.seq ?_
          refine WJ.quiet ?_
          refine QJ.step (YldS.yld (y_move rfl)) rfl ?_
          refine QJ.step (YldS.yld (y_move rfl)) rfl ?_
          refine QJ.step (YldS.yld (y_nil rfl)) rfl ?_
          obtain ⟨e17, h18, hm⟩ := bindS hm
          obtain ⟨ad19, _, rfl, ha20, hy21⟩ := ha3.elemA h18
          refine QJ.step (YldS.yld (hy21 Try.runUnderlying70 Try.sizeOf4 rfl rfl)) rfl ?_
          refine QJ.step (YldS.yld (y_load1 (v := .bool e17) Try.isAgg4 ha20 St.frozenC rfl)) rfl ?_
          refine QJ.done ?_
          refine PJ.next ?_
          refine WJ.cond (t := e17) rfl (fun hb22 => ?_) (fun hb22 => ?_)
          · replace hm := ifT hm hb22
            refine WJ.reg ?_
            refine SJ.q (YldS.yld (y_move rfl)) rfl ?_
            refine SJ.q (YldS.yld (y_move rfl)) rfl ?_
            refine SJ.q (YldS.yld (y_convTo8 Try.runUnderlying3 Try.runUnderlying5 rfl)) rfl ?_
            refine SJ.buildSlice (R := fByte) (os := [.tmp 16]) [UInt8.ofInt x11] Try.runUnderlying22 Try.sizeOf5 Try.zeroValue5 rfl rfl rfl rfl rfl rfl fun v23 => ?_
            obtain ⟨l24, h25, hm⟩ := bindS hm
            refine SJ.append (k := 1) (R := fByte) h25 rfl Try.underlying22 el5 rfl rfl rfl (fun w hw => (hw.row_rd (k := 0) rfl)) rfl fun v26 => ?_
            refine SJ.q (YldS.yld (y_assign rfl)) rfl ?_
            refine SJ.nil ?_
            refine PJ.block_normal ?_
            exact PJ.joined (l24, v26) [1] hm ⟨rfl, rfl, rfl, trivial⟩ ⟨by decide, rfl⟩
          · replace hm := ifF hm hb22
            refine WJ.skip ?_
            refine PJ.block_normal ?_
            exact PJ.joined (l9, v10) [0] hm ⟨rfl, rfl, rfl, trivial⟩ ⟨by decide, rfl⟩
        · rintro ⟨l13, v14⟩ hm
          subst hk16
          refine WJ.quiet ?_
          refine QJ.step (YldS.yld (y_bin rfl rfl rfl)) rfl ?_
          refine QJ.step (YldS.yld (y_move rfl)) rfl ?_
          refine QJ.done ?_
          exact PJ.round (l13, v14, w64 (x11 + 1)) [0] hm ⟨rfl, rfl, rfl, trivial⟩ ⟨by decide, rfl⟩
      · replace hm := ifF hm hb12
        refine WJ.exit ?_
        refine PJ.then_exit (PJ.then_exit (PJ.block_exit ?_))
        exact PJ.joined (l9, v10) [0] hm ⟨rfl, trivial⟩ ⟨by decide, rfl⟩
  · rintro ⟨l5, v6⟩ hm
    subst hk8
    refine WJ.seq ?_
    refine WJ.quiet ?_
    refine QJ.step (YldS.yld (y_move rfl)) rfl ?_
    refine QJ.step (YldS.yld (y_b2s Try.underlying22 Try.underlying9 Try.underlying5 (fun w hw => ⟨_, (hw.row_rd (k := 0) rfl)⟩) rfl)) rfl ?_
    refine QJ.step (YldS.yld (y_assign rfl)) rfl ?_
    refine QJ.done ?_
    refine PJ.next ?_
    refine WJ.ret ?_
    obtain rfl := Option.some.inj hm
    refine PJ.sel (L' := []) [] ⟨List.nodup_nil, rfl⟩ ?_
    exact PJ.retn (vs := [str l5]) Try.results47 ⟨rfl, trivial⟩ ⟨rfl, rfl⟩

set_option maxRecDepth 100000 in
set_option maxHeartbeats 1000000 in
theorem ok_i_MovedLetters {N : Nat} {a1 : Layout} {b4 : Layout} {r : Str × Int} (hm : i_MovedLetters N a1 b4 = some r) (w : World) (v2 : Value) (hr3 : RdS w (cx w).Fz v2 fStr.rp a1.rows) (v5 : Value) (hr6 : RdS w (cx w).Fz v5 fStr.rp b4.rows) :
    Calls Try.prog 12 #[.agg #[v2], .agg #[v5]] w (Ret (cx w) (tup [str r.1, .int .i64 r.2])) := by
  unfold i_MovedLetters at hm
  refine Calls.enter [.agg #[v2], .agg #[v5]] Try.func12 rfl Try.ntmps12 rfl ?_
  refine WJ.seq ?_
  refine WJ.reg ?_
  refine SJ.box (cs := [v2]) rfl rfl rfl fun g7 => ?_
  refine SJ.box (cs := [v5]) rfl rfl rfl fun g8 => ?_
  refine SJ.q (YldS.yld (y_assign rfl)) rfl ?_
  refine SJ.q (YldS.yld (y_assign rfl)) rfl ?_
  refine SJ.nil ?_
  refine PJ.next ?_
  refine WJ.seq ?_
  refine WJ.seq ?_
  refine WJ.quiet ?_
  refine QJ.step (YldS.yld (y_loadBN (k := 1) (off := 0) (us := [v2]) rfl Try.isAgg26 Try.sizeOf26 rfl rfl)) rfl ?_
  refine QJ.step (YldS.yld (y_loadBN (k := 0) (off := 0) (us := [v5]) rfl Try.isAgg26 Try.sizeOf26 rfl rfl)) rfl ?_
  obtain ⟨r9, h10, hm⟩ := bindS hm
  refine QJ.step (y_call Try.call43 rfl (RetG.quiet fun w hw => ok_i_compareCode h10 w _ (hr3.st hw) _ (hr6.st hw))) rfl ?_
  refine QJ.step (YldS.yld (y_assign rfl)) rfl ?_
  refine QJ.done ?_
  refine PJ.next ?_
  refine WJ.seq ?_
  refine WJ.quiet ?_
  refine QJ.step (YldS.yld (y_move rfl)) rfl ?_
  refine QJ.step (YldS.yld (y_bin rfl rfl rfl)) rfl ?_
  refine QJ.done ?_
  refine PJ.next ?_
  refine WJ.cond (t := (r9 != 0)) rfl (fun hb11 => ?_) (fun hb11 => ?_)
  · replace hm := ifT hm hb11
    refine WJ.seq ?_
    refine WJ.quiet ?_
    refine QJ.step (YldS.yld (y_move rfl)) rfl ?_
    refine QJ.step (YldS.yld (y_assign rfl)) rfl ?_
    refine QJ.step (YldS.yld (y_assign rfl)) rfl ?_
    refine QJ.done ?_
    refine PJ.next ?_
    refine WJ.ret ?_
    refine PJ.then_ret ?_
    obtain rfl := Option.some.inj hm
    refine PJ.sel (L' := []) [] ⟨List.nodup_nil, rfl⟩ ?_
    exact PJ.retn (vs := [str [], .int .i64 r9]) Try.results12 ⟨rfl, rfl, trivial⟩ ⟨rfl, rfl⟩
  · replace hm := ifF hm hb11
    refine WJ.skip ?_
    refine PJ.next ?_
    refine WJ.seq ?_
    refine WJ.reg ?_
    refine SJ.q (YldS.yld (y_build0 Try.runUnderlying70 zv70 Try.sizeOf4)) rfl ?_
    refine SJ.allocA (R := fBool) (xs := List.replicate 256 false) 256 zv70 rfl rfl rfl rfl fun g12 => ?_
    refine SJ.storeA (k := 0) (ys := (List.replicate 256 false)) rfl rfl rfl rfl (by simp) Try.sizeOf70 (by simp [length_encs, fBool]) ?_
    refine SJ.nil ?_
    refine PJ.next ?_
    obtain ⟨kj14, hk15, hm⟩ := withK_open hm
    refine WJ.join (X := (List Bool)) (fun (x : (List Bool)) => kj14 x = some r) (fun (x : (List Bool)) => [(7, pt g12 0)]) (fun (x : (List Bool)) => [row (av g12 256) 70 fBool x]) ?_ ?_
    · clear hk15
      refine WJ.seq ?_
      refine WJ.quiet ?_
      refine QJ.step (YldS.yld (y_fldB (o := 0) fld26_0 rfl)) rfl ?_
      refine QJ.step (YldS.yld (y_loadB (k := 2) (off := 0) (v := v2) rfl Try.isAgg24 rfl rfl)) rfl ?_
      refine QJ.step (YldS.yld (y_lenS Try.runUnderlying24 hr3 rfl)) rfl ?_
      refine QJ.step (YldS.yld (y_move rfl)) rfl ?_
      refine QJ.done ?_
      refine PJ.next ?_
      refine WJ.block ?_
      refine WJ.sel (L' := (fun (x : (List Bool) × Int) => [row (av g12 256) 70 fBool x.1, box g8 26 [v5]]) ((List.replicate 256 false), 0)) [0, 1] ⟨by decide, rfl⟩ ?_
      refine WJ.sub (m' := (fun (x : (List Bool) × Int) => [(3, pt g8 0), (7, pt g12 0), (19, v2), (20, .int .i64 (List.length a1.rows : Int)), (21, .int .i64 x.2)]) ((List.replicate 256 false), 0)) ⟨rfl, rfl, rfl, rfl, rfl, trivial⟩ ?_
      refine WJ.loop (X := (List Bool) × Int) (fun N (x : (List Bool) × Int) => i_MovedLetters_l1 kj14 a1 b4 N x.1 x.2 = some r) (fun (x : (List Bool) × Int) => [(3, pt g8 0), (7, pt g12 0), (19, v2), (20, .int .i64 (List.length a1.rows : Int)), (21, .int .i64 x.2)]) (fun (x : (List Bool) × Int) => [row (av g12 256) 70 fBool x.1, box g8 26 [v5]]) ?_ N ((List.replicate 256 false), 0) hm
      · rintro N ⟨l16, x17⟩ hI
        have hm := hI; clear hI
        cases N with
        | zero => cases hm
        | succ N =>
        unfold i_MovedLetters_l1 at hm
        refine WJ.seq ?_
        refine WJ.quiet ?_
        refine QJ.step (YldS.yld (y_bin rfl rfl rfl)) rfl ?_
        refine QJ.done ?_
        refine PJ.next ?_
        refine WJ.seq ?_
        refine WJ.cond (t := decide (x17 < (List.length a1.rows : Int))) rfl (fun hb18 => ?_) (fun hb18 => ?_)
        · replace hm := ifT hm hb18
          refine WJ.skip ?_
          refine PJ.next ?_
          obtain ⟨kj20, hk21, hm⟩ := withK_open hm
          refine WJ.join (X := (List Bool)) (fun (x : (List Bool)) => kj20 x = some r) (fun (x : (List Bool)) => [(3, pt g8 0), (7, pt g12 0), (19, v2), (20, .int .i64 (List.length a1.rows : Int)), (21, .int .i64 x17)]) (fun (x : (List Bool)) => [row (av g12 256) 70 fBool x, box g8 26 [v5]]) ?_ ?_
          · clear hk21
            refine WJ.block ?_
            refine WJ.seq ?_
            refine WJ.quiet ?_
            refine QJ.step (YldS.yld (y_move rfl)) rfl ?_
            obtain ⟨e22, h23, hm⟩ := bindS hm
            obtain ⟨ad24, _, rfl, ha25, hy26⟩ := hr3.elem h23
            refine QJ.step (YldS.yld (hy26 Try.runUnderlying24 Try.sizeOf9 rfl rfl)) rfl ?_
            refine QJ.step (YldS.yld (y_load1 (v := str e22) Try.isAgg9 ha25 St.frozenC rfl)) rfl ?_
            refine QJ.step (YldS.yld (y_assign rfl)) rfl ?_
            refine QJ.step (YldS.yld (y_assign rfl)) rfl ?_
            refine QJ.done ?_
            refine PJ.next ?_
            refine WJ.seq ?_
            refine WJ.quiet ?_
            refine QJ.step (YldS.yld (y_move rfl)) rfl ?_
            refine QJ.step (YldS.yld (y_lenStr Try.runUnderlying9 rfl)) rfl ?_
            refine QJ.step (YldS.yld (y_move rfl)) rfl ?_
            refine QJ.done ?_
            refine PJ.next ?_
            refine WJ.block ?_
            refine WJ.sel (L' := (fun (x : (List Bool) × Int) => [row (av g12 256) 70 fBool x.1, box g8 26 [v5]]) (l16, 0)) [0, 1] ⟨by decide, rfl⟩ ?_
            refine WJ.sub (m' := (fun (x : (List Bool) × Int) => [(3, pt g8 0), (7, pt g12 0), (8, .int .i64 x17), (9, str e22), (19, v2), (20, .int .i64 (List.length a1.rows : Int)), (21, .int .i64 x17), (27, .int .i64 (List.length e22 : Int)), (28, .int .i64 x.2)]) (l16, 0)) ⟨rfl, rfl, rfl, rfl, rfl, rfl, rfl, rfl, rfl, trivial⟩ ?_
            refine WJ.loop (X := (List Bool) × Int) (fun N (x : (List Bool) × Int) => i_MovedLetters_l2 kj20 b4 x17 e22 N x.1 x.2 = some r) (fun (x : (List Bool) × Int) => [(3, pt g8 0), (7, pt g12 0), (8, .int .i64 x17), (9, str e22), (19, v2), (20, .int .i64 (List.length a1.rows : Int)), (21, .int .i64 x17), (27, .int .i64 (List.length e22 : Int)), (28, .int .i64 x.2)]) (fun (x : (List Bool) × Int) => [row (av g12 256) 70 fBool x.1, box g8 26 [v5]]) ?_ N (l16, 0) hm
            · rintro N ⟨l27, x28⟩ hI
              have hm := hI; clear hI
              cases N with
              | zero => cases hm
              | succ N =>
              unfold i_MovedLetters_l2 at hm
              refine WJ.seq ?_
              refine WJ.quiet ?_
              refine QJ.step (YldS.yld (y_bin rfl rfl rfl)) rfl ?_
              refine QJ.done ?_
              refine PJ.next ?_
              refine WJ.seq ?_
              refine WJ.cond (t := decide (x28 < (List.length e22 : Int))) rfl (fun hb29 => ?_) (fun hb29 => ?_)
              · replace hm := ifT hm hb29
                refine WJ.skip ?_
                refine PJ.next ?_
                refine WJ.seq ?_
                refine WJ.block ?_
                refine WJ.seq ?_
                refine WJ.quiet ?_
                refine QJ.step (YldS.yld (y_move rfl)) rfl ?_
                refine QJ.step (YldS.yld (y_assign rfl)) rfl ?_
                refine QJ.done ?_
                refine PJ.next ?_
                obtain ⟨c30, h31, hm⟩ := bindS hm
                obtain ⟨e32, h33, hm⟩ := bindS hm
                obtain ⟨ad34, _, rfl, ha35, hy36⟩ := hr6.elem h33
                obtain ⟨c37, h38, hm⟩ := bindS hm
                obtain ⟨c39, h40, hm⟩ := bindS hm
                obtain ⟨e41, h42, hm⟩ := bindS hm
                refine WJ.draws (N := 16) (listed0 := #[false, false, false, false, false, false, false, false, false, false, false, false, false, false, false, false]) [box g8 26 [v5]] follows rfl rfl ?_
                refine RJ.first 0 (listed' := #[true, false, false, false, false, false, false, false, false, false, false, false, false, false, false, false]) [1] rfl (by kernel_rfl) rfl ⟨by decide, rfl⟩ (y_move rfl) rfl ?_
                refine RJ.first 1 (listed' := #[true, true, false, false, false, false, false, false, false, false, false, false, false, false, false, false]) [1] rfl (by kernel_rfl) rfl ⟨by decide, rfl⟩ (y_move rfl) rfl ?_
                refine RJ.first 2 (listed' := #[true, true, true, false, false, false, false, false, false, false, false, false, false, false, false, false]) [1] rfl (by kernel_rfl) rfl ⟨by decide, rfl⟩ (y_idxStr Try.runUnderlying9 rfl rfl h31) rfl ?_
                refine RJ.first 3 (listed' := #[true, true, true, true, false, false, false, false, false, false, false, false, false, false, false, false]) [1] rfl (by kernel_rfl) rfl ⟨by decide, rfl⟩ (y_fldB (o := 0) fld26_0 rfl) rfl ?_
                refine RJ.first 4 (listed' := #[true, true, true, true, true, false, false, false, false, false, false, false, false, false, false, false]) [1] rfl (by kernel_rfl) rfl ⟨by decide, rfl⟩ (y_loadB (k := 0) (off := 0) (v := v5) rfl Try.isAgg24 rfl rfl) rfl ?_
                refine RJ.first 5 (listed' := #[true, true, true, true, true, true, false, false, false, false, false, false, false, false, false, false]) [1] rfl (by kernel_rfl) rfl ⟨by decide, rfl⟩ (y_move rfl) rfl ?_
                refine RJ.first 6 (listed' := #[true, true, true, true, true, true, true, false, false, false, false, false, false, false, false, false]) [1] rfl (by kernel_rfl) rfl ⟨by decide, rfl⟩ (hy36 Try.runUnderlying24 Try.sizeOf9 rfl rfl) rfl ?_
                refine RJ.first 7 (listed' := #[true, true, true, true, true, true, true, true, false, false, false, false, false, false, false, false]) [1] rfl (by kernel_rfl) rfl ⟨by decide, rfl⟩ (y_load1 (v := str e32) Try.isAgg9 ha35 St.frozenC rfl) rfl ?_
                refine RJ.first 8 (listed' := #[true, true, true, true, true, true, true, true, true, false, false, false, false, false, false, false]) [1] rfl (by kernel_rfl) rfl ⟨by decide, rfl⟩ (y_move rfl) rfl ?_
                refine RJ.first 9 (listed' := #[true, true, true, true, true, true, true, true, true, true, false, false, false, false, false, false]) [1] rfl (by kernel_rfl) rfl ⟨by decide, rfl⟩ (y_idxStr Try.runUnderlying9 rfl rfl h38) rfl ?_
                refine RJ.first 10 (listed' := #[true, true, true, true, true, true, true, true, true, true, true, false, false, false, false, false]) [1] rfl (by kernel_rfl) rfl ⟨by decide, rfl⟩ (y_move rfl) rfl ?_
                refine RJ.first 11 (listed' := #[true, true, true, true, true, true, true, true, true, true, true, true, false, false, false, false]) [1] rfl (by kernel_rfl) rfl ⟨by decide, rfl⟩ (y_move rfl) rfl ?_
                refine RJ.first 12 (listed' := #[true, true, true, true, true, true, true, true, true, true, true, true, true, false, false, false]) [1] rfl (by kernel_rfl) rfl ⟨by decide, rfl⟩ (y_idxStr Try.runUnderlying9 rfl rfl h40) rfl ?_
                refine RJ.first 13 (listed' := #[true, true, true, true, true, true, true, true, true, true, true, true, true, true, false, false]) [1] rfl (by kernel_rfl) rfl ⟨by decide, rfl⟩ (y_bin8 c37 c39 rfl rfl rfl) rfl ?_
                refine RJ.step1 14 [1] (by kernel_rfl) ⟨by decide, rfl⟩ ?_
                refine RO.of (listed' := #[true, true, true, true, true, true, true, true, true, true, true, true, true, true, true, false]) rfl rfl ?_
                refine SJ.q (YldS.yld (y_ixArr (k := 0) (R := fBool) rfl Try.runUnderlying70 Try.sizeOf4 rfl rfl h42)) rfl ?_
                refine SJ.nil ?_
                refine PJ.draw ?_
                refine RJ.step1 15 [1] (by kernel_rfl) ⟨by decide, rfl⟩ ?_
                refine RO.of (listed' := #[true, true, true, true, true, true, true, true, true, true, true, true, true, true, true, true]) rfl rfl ?_
                refine SJ.storeRL (k := 0) (i := (Int.toNat (UInt8.toNat c30 : Int))) (off := 0) (us := [.bool (c37 != c39)]) (b := (c37 != c39)) rfl rfl (idx_get h42) rfl rfl Try.sizeOf4 rfl rfl rfl ?_
                refine SJ.nil ?_
                refine PJ.draw ?_
                refine RJ.fin [1] (by kernel_rfl) ⟨by decide, rfl⟩ ?_
                refine PJ.block_normal (PJ.next ?_)
                refine WJ.quiet ?_
                refine QJ.step (YldS.yld (y_bin rfl rfl rfl)) rfl ?_
                refine QJ.step (YldS.yld (y_move rfl)) rfl ?_
                refine QJ.done ?_
                exact PJ.round ((List.set l27 (Int.toNat (UInt8.toNat c30 : Int)) (c37 != c39)), w64 (x28 + 1)) [0, 1] hm ⟨rfl, rfl, rfl, rfl, rfl, rfl, rfl, rfl, rfl, trivial⟩ ⟨by decide, rfl⟩
              · replace hm := ifF hm hb29
                refine WJ.exit ?_
                refine PJ.then_exit (PJ.then_exit (PJ.block_exit (PJ.block_normal ?_)))
                exact PJ.joined l27 [0, 1] hm ⟨rfl, rfl, rfl, rfl, rfl, trivial⟩ ⟨by decide, rfl⟩
          · rintro l19 hm
            subst hk21
            refine WJ.quiet ?_
            refine QJ.step (YldS.yld (y_bin rfl rfl rfl)) rfl ?_
            refine QJ.step (YldS.yld (y_move rfl)) rfl ?_
            refine QJ.done ?_
            exact PJ.round (l19, w64 (x17 + 1)) [0, 1] hm ⟨rfl, rfl, rfl, rfl, rfl, trivial⟩ ⟨by decide, rfl⟩
        · replace hm := ifF hm hb18
          refine WJ.exit ?_
          refine PJ.then_exit (PJ.then_exit (PJ.block_exit ?_))
          exact PJ.joined l16 [0] hm ⟨rfl, trivial⟩ ⟨by decide, rfl⟩
    · rintro l13 hm
      subst hk15
      refine WJ.seq ?_
      refine WJ.quiet ?_
      obtain ⟨r43, h44, hm⟩ := bindS hm
      refine QJ.step (y_call Try.call47 rfl (RetG.quiet fun w hw => ok_i_ascending h44 w _ (hw.row_rd (k := 0) rfl))) rfl ?_
      refine QJ.step (YldS.yld (y_assign rfl)) rfl ?_
      refine QJ.step (YldS.yld (y_assign rfl)) rfl ?_
      refine QJ.done ?_
      refine PJ.next ?_
      refine WJ.ret ?_
      obtain rfl := Option.some.inj hm
      refine PJ.sel (L' := []) [] ⟨List.nodup_nil, rfl⟩ ?_
      exact PJ.retn (vs := [str r43, .int .i64 0]) Try.results12 ⟨rfl, rfl, trivial⟩ ⟨rfl, rfl⟩

set_option maxRecDepth 100000 in
set_option maxHeartbeats 1000000 in
theorem ok_s_l02PutLetter {N : Nat} {list1 : Str} {letter2 : Str} {r : Str} (hm : s_l02PutLetter N list1 letter2 = some r) (w : World)  :
    Calls Try.prog 48 #[str list1, str letter2] w (Ret (cx w) (str r)) := by
  unfold s_l02PutLetter at hm
  refine Calls.enter [str list1, str letter2] Try.func48 rfl Try.ntmps48 rfl ?_
  refine WJ.seq ?_
  refine WJ.quiet ?_
  refine QJ.step (YldS.yld (y_assign rfl)) rfl ?_
  refine QJ.done ?_
  refine PJ.next ?_
  refine WJ.seq ?_
  refine WJ.quiet ?_
  refine QJ.step (YldS.yld (y_assign rfl)) rfl ?_
  refine QJ.done ?_
  refine PJ.next ?_
  obtain ⟨kj4, hk5, hm⟩ := withK_open hm
  refine WJ.join (X := Int) (fun (x : Int) => kj4 x = some r) (fun (x : Int) => [(0, str list1), (1, str letter2), (5, .int .i64 x)]) (fun (x : Int) => []) ?_ ?_
  · clear hk5
    refine WJ.block ?_
    refine WJ.sel (L' := (fun (x : Int) => []) 0) [] ⟨List.nodup_nil, rfl⟩ ?_
    refine WJ.sub (m' := (fun (x : Int) => [(0, str list1), (1, str letter2), (5, .int .i64 x)]) 0) ⟨rfl, rfl, rfl, trivial⟩ ?_
    refine WJ.loop (X := Int) (fun N (x : Int) => s_l02PutLetter_l1 kj4 list1 letter2 N x = some r) (fun (x : Int) => [(0, str list1), (1, str letter2), (5, .int .i64 x)]) (fun (x : Int) => []) ?_ N 0 hm
    · rintro N k6 hI
      have hm := hI; clear hI
      cases N with
      | zero => cases hm
      | succ N =>
      unfold s_l02PutLetter_l1 at hm
      refine WJ.seq ?_
      refine WJ.seq ?_
      refine WJ.quiet_draw follows (by kernel_rfl) ?_
      refine QJ.step (YldS.yld (y_move rfl)) rfl ?_
      refine QJ.step (YldS.yld (y_move rfl)) rfl ?_
      refine QJ.step (YldS.yld (y_lenStr Try.runUnderlying9 rfl)) rfl ?_
      refine QJ.step (YldS.yld (y_bin rfl rfl rfl)) rfl ?_
      refine QJ.step (YldS.yld (y_move rfl)) rfl ?_
      obtain ⟨t7, h8, hm⟩ := bindS hm
      refine QJ.cut 7 [(0, str list1), (1, str letter2), (5, .int .i64 k6), (17, .bool t7)] ?_ ?_
      · rcases Bool.eq_false_or_eq_true (decide (k6 < (List.length list1 : Int))) with hb9 | hb9
        · replace h8 := andT h8 hb9
          refine QJ.on rfl rfl (cB hb9) (YldS.yld (y_move rfl)) rfl ?_
          refine QJ.on rfl rfl (cB hb9) (YldS.yld (y_move rfl)) rfl ?_
          obtain ⟨c10, h11, h8⟩ := bindS h8
          refine QJ.on rfl rfl (cB hb9) (YldS.yld (y_idxStr Try.runUnderlying9 rfl rfl h11)) rfl ?_
          refine QJ.on rfl rfl (cB hb9) (YldS.yld (y_move rfl)) rfl ?_
          obtain ⟨c12, h13, h8⟩ := bindS h8
          refine QJ.on rfl rfl (cB hb9) (YldS.yld (y_idxStr Try.runUnderlying9 rfl rfl h13)) rfl ?_
          refine QJ.on rfl rfl (cB hb9) (YldS.yld (y_bin8 c10 c12 rfl rfl rfl)) rfl ?_
          refine QJ.step (YldS.yld (y_pick_t (cB hb9) rfl)) rfl ?_
          obtain rfl := Option.some.inj h8
          exact QJ.cut_end ⟨rfl, rfl, rfl, rfl, trivial⟩
        · obtain rfl := andF h8 hb9
          refine QJ.off rfl rfl (cB hb9) rfl rfl ?_
          refine QJ.off rfl rfl (cB hb9) rfl rfl ?_
          refine QJ.off rfl rfl (cB hb9) rfl rfl ?_
          refine QJ.off rfl rfl (cB hb9) rfl rfl ?_
          refine QJ.off rfl rfl (cB hb9) rfl rfl ?_
          refine QJ.off rfl rfl (cB hb9) rfl rfl ?_
          refine QJ.step (YldS.yld (y_pick_f (cB hb9) rfl)) rfl ?_
          exact QJ.cut_end ⟨rfl, rfl, rfl, rfl, trivial⟩
      refine QJ.done ?_
      refine PJ.next ?_
      refine WJ.cond (t := t7) rfl (fun hb14 => ?_) (fun hb14 => ?_)
      · replace hm := ifT hm hb14
        refine WJ.skip ?_
        refine PJ.next ?_
        refine WJ.block ?_
        refine WJ.quiet ?_
        refine QJ.step (YldS.yld (y_move rfl)) rfl ?_
        refine QJ.step (YldS.yld (y_bin rfl rfl rfl)) rfl ?_
        refine QJ.step (YldS.yld (y_assign rfl)) rfl ?_
        refine QJ.done ?_
        refine PJ.block_normal ?_
        exact PJ.round (w64 (k6 + 1)) [] hm ⟨rfl, rfl, rfl, trivial⟩ ⟨List.nodup_nil, rfl⟩
      · replace hm := ifF hm hb14
        refine WJ.exit ?_
        refine PJ.then_exit (PJ.then_exit (PJ.block_exit ?_))
        exact PJ.joined k6 [] hm ⟨rfl, rfl, rfl, trivial⟩ ⟨List.nodup_nil, rfl⟩
  · rintro k3 hm
    subst hk5
    refine WJ.seq ?_
    refine WJ.seq ?_
    refine WJ.quiet_draw follows (by kernel_rfl) ?_
    refine QJ.step (YldS.yld (y_move rfl)) rfl ?_
    refine QJ.step (YldS.yld (y_move rfl)) rfl ?_
    refine QJ.step (YldS.yld (y_lenStr Try.runUnderlying9 rfl)) rfl ?_
    refine QJ.step (YldS.yld (y_bin rfl rfl rfl)) rfl ?_
    refine QJ.step (YldS.yld (y_move rfl)) rfl ?_
    obtain ⟨t15, h16, hm⟩ := bindS hm
    refine QJ.cut 7 [(0, str list1), (1, str letter2), (5, .int .i64 k3), (31, .bool t15)] ?_ ?_
    · rcases Bool.eq_false_or_eq_true (decide (k3 < (List.length list1 : Int))) with hb17 | hb17
      · replace h16 := andT h16 hb17
        refine QJ.on rfl rfl (cB hb17) (YldS.yld (y_move rfl)) rfl ?_
        refine QJ.on rfl rfl (cB hb17) (YldS.yld (y_move rfl)) rfl ?_
        obtain ⟨c18, h19, h16⟩ := bindS h16
        refine QJ.on rfl rfl (cB hb17) (YldS.yld (y_idxStr Try.runUnderlying9 rfl rfl h19)) rfl ?_
        refine QJ.on rfl rfl (cB hb17) (YldS.yld (y_move rfl)) rfl ?_
        obtain ⟨c20, h21, h16⟩ := bindS h16
        refine QJ.on rfl rfl (cB hb17) (YldS.yld (y_idxStr Try.runUnderlying9 rfl rfl h21)) rfl ?_
        refine QJ.on rfl rfl (cB hb17) (YldS.yld (y_bin8 c18 c20 rfl rfl rfl)) rfl ?_
        refine QJ.step (YldS.yld (y_pick_t (cB hb17) rfl)) rfl ?_
        obtain rfl := Option.some.inj h16
        exact QJ.cut_end ⟨rfl, rfl, rfl, rfl, trivial⟩
      · obtain rfl := andF h16 hb17
        refine QJ.off rfl rfl (cB hb17) rfl rfl ?_
        refine QJ.off rfl rfl (cB hb17) rfl rfl ?_
        refine QJ.off rfl rfl (cB hb17) rfl rfl ?_
        refine QJ.off rfl rfl (cB hb17) rfl rfl ?_
        refine QJ.off rfl rfl (cB hb17) rfl rfl ?_
        refine QJ.off rfl rfl (cB hb17) rfl rfl ?_
        refine QJ.step (YldS.yld (y_pick_f (cB hb17) rfl)) rfl ?_
        exact QJ.cut_end ⟨rfl, rfl, rfl, rfl, trivial⟩
    refine QJ.done ?_
    refine PJ.next ?_
    refine WJ.cond (t := t15) rfl (fun hb22 => ?_) (fun hb22 => ?_)
    · replace hm := ifT hm hb22
      refine WJ.seq ?_
      refine WJ.quiet ?_
      refine QJ.step (YldS.yld (y_move rfl)) rfl ?_
      refine QJ.step (YldS.yld (y_assign rfl)) rfl ?_
      refine QJ.done ?_
      refine PJ.next ?_
      refine WJ.ret ?_
      refine PJ.then_ret ?_
      obtain rfl := Option.some.inj hm
      refine PJ.sel (L' := []) [] ⟨List.nodup_nil, rfl⟩ ?_
      exact PJ.retn (vs := [str list1]) Try.results48 ⟨rfl, trivial⟩ ⟨rfl, rfl⟩
    · replace hm := ifF hm hb22
      refine WJ.skip ?_
      refine PJ.next ?_
      refine WJ.seq ?_
      refine WJ.quiet_draw follows (by kernel_rfl) ?_
      refine QJ.step (YldS.yld (y_move rfl)) rfl ?_
      refine QJ.step (YldS.yld (y_move rfl)) rfl ?_
      obtain ⟨s23, h24, hm⟩ := bindS hm
      refine QJ.step (YldS.yld (y_subStr (i := none) (j := some k3) h24 Try.runUnderlying9 rfl trivial ⟨_, rfl⟩)) rfl ?_
      refine QJ.step (YldS.yld (y_move rfl)) rfl ?_
      obtain ⟨s25, h26, hm⟩ := bindS hm
      refine QJ.step (YldS.yld (y_cat h26 rfl rfl)) rfl ?_
      refine QJ.step (YldS.yld (y_move rfl)) rfl ?_
      refine QJ.step (YldS.yld (y_move rfl)) rfl ?_
      obtain ⟨s27, h28, hm⟩ := bindS hm
      refine QJ.step (YldS.yld (y_subStr (i := some k3) (j := none) h28 Try.runUnderlying9 rfl ⟨_, rfl⟩ trivial)) rfl ?_
      obtain ⟨s29, h30, hm⟩ := bindS hm
      refine QJ.step (YldS.yld (y_cat h30 rfl rfl)) rfl ?_
      refine QJ.step (YldS.yld (y_assign rfl)) rfl ?_
      refine QJ.done ?_
      refine PJ.next ?_
      refine WJ.ret ?_
      obtain rfl := Option.some.inj hm
      refine PJ.sel (L' := []) [] ⟨List.nodup_nil, rfl⟩ ?_
      exact PJ.retn (vs := [str s29]) Try.results48 ⟨rfl, trivial⟩ ⟨rfl, rfl⟩

set_option maxRecDepth 100000 in
set_option maxHeartbeats 1000000 in
theorem ok_s_MovedLetters {N : Nat} {a1 : Layout} {b4 : Layout} {r : Str × Int} (hm : s_MovedLetters N a1 b4 = some r) (w : World) (v2 : Value) (hr3 : RdS w (cx w).Fz v2 fStr.rp a1.rows) (v5 : Value) (hr6 : RdS w (cx w).Fz v5 fStr.rp b4.rows) :
    Calls Try.prog 13 #[.agg #[v2], .agg #[v5]] w (Ret (cx w) (tup [str r.1, .int .i64 r.2])) := by
  unfold s_MovedLetters at hm
  refine Calls.enter [.agg #[v2], .agg #[v5]] Try.func13 rfl Try.ntmps13 rfl ?_
  refine WJ.seq ?_
  refine WJ.reg ?_
  refine SJ.box (cs := [v2]) rfl rfl rfl fun g7 => ?_
  refine SJ.box (cs := [v5]) rfl rfl rfl fun g8 => ?_
  refine SJ.q (YldS.yld (y_assign rfl)) rfl ?_
  refine SJ.q (YldS.yld (y_assign rfl)) rfl ?_
  refine SJ.nil ?_
  refine PJ.next ?_
  refine WJ.seq ?_
  refine WJ.quiet ?_
  obtain ⟨r9, h10, hm⟩ := bindS hm
  refine QJ.step (y_call Try.call45 rfl (RetG.quiet fun w hw => ok_s_l06Both h10 w _ _ (hw.box_at (k := 1) rfl) (hr3.st hw) _ _ (hw.box_at (k := 0) rfl) (hr6.st hw))) rfl ?_
  refine QJ.step (YldS.yld (y_assign rfl)) rfl ?_
  refine QJ.done ?_
  refine PJ.next ?_
  refine WJ.seq ?_
  refine WJ.seq ?_
  refine WJ.quiet ?_
  refine QJ.step (YldS.yld (y_move rfl)) rfl ?_
  refine QJ.step (YldS.yld (y_bin rfl rfl rfl)) rfl ?_
  refine QJ.done ?_
  refine PJ.next ?_
  refine WJ.cond (t := (r9 != 0)) rfl (fun hb11 => ?_) (fun hb11 => ?_)
  · replace hm := ifT hm hb11
    refine WJ.seq ?_
    refine WJ.quiet ?_
    refine QJ.step (YldS.yld (y_move rfl)) rfl ?_
    refine QJ.step (YldS.yld (y_assign rfl)) rfl ?_
    refine QJ.step (YldS.yld (y_assign rfl)) rfl ?_
    refine QJ.done ?_
    refine PJ.next ?_
    refine WJ.ret ?_
    refine PJ.then_ret ?_
    obtain rfl := Option.some.inj hm
    refine PJ.sel (L' := []) [] ⟨List.nodup_nil, rfl⟩ ?_
    exact PJ.retn (vs := [str [], .int .i64 r9]) Try.results13 ⟨rfl, rfl, trivial⟩ ⟨rfl, rfl⟩
  · replace hm := ifF hm hb11
    refine WJ.skip ?_
    refine PJ.next ?_
    refine WJ.seq ?_
    refine WJ.quiet ?_
    refine QJ.step (YldS.yld (y_assign rfl)) rfl ?_
    refine QJ.done ?_
    refine PJ.next ?_
    obtain ⟨kj13, hk14, hm⟩ := withK_open hm
    refine WJ.join (X := Str) (fun (x : Str) => kj13 x = some r) (fun (x : Str) => [(7, str x)]) (fun (x : Str) => []) ?_ ?_
    · clear hk14
      refine WJ.seq ?_
      refine WJ.quiet ?_
      refine QJ.step (YldS.yld (y_assign rfl)) rfl ?_
      refine QJ.done ?_
      refine PJ.next ?_
      refine WJ.block ?_
      refine WJ.sel (L' := (fun (x : Str × Int) => [box g8 26 [v5], box g7 26 [v2]]) ([], 0)) [0, 1] ⟨by decide, rfl⟩ ?_
      refine WJ.sub (m' := (fun (x : Str × Int) => [(2, pt g7 0), (3, pt g8 0), (7, str x.1), (8, .int .i64 x.2)]) ([], 0)) ⟨rfl, rfl, rfl, rfl, trivial⟩ ?_
      refine WJ.loop (X := Str × Int) (fun N (x : Str × Int) => s_MovedLetters_l1 kj13 a1 b4 N x.1 x.2 = some r) (fun (x : Str × Int) => [(2, pt g7 0), (3, pt g8 0), (7, str x.1), (8, .int .i64 x.2)]) (fun (x : Str × Int) => [box g8 26 [v5], box g7 26 [v2]]) ?_ N ([], 0) hm
      · rintro N ⟨out15, r16⟩ hI
        have hm := hI; clear hI
        cases N with
        | zero => cases hm
        | succ N =>
        unfold s_MovedLetters_l1 at hm
        refine WJ.seq ?_
        refine WJ.seq ?_
        refine WJ.quiet ?_
        refine QJ.step (YldS.yld (y_move rfl)) rfl ?_
        refine QJ.step (YldS.yld (y_fldB (o := 0) fld26_0 rfl)) rfl ?_
        refine QJ.step (YldS.yld (y_loadB (k := 1) (off := 0) (v := v2) rfl Try.isAgg24 rfl rfl)) rfl ?_
        refine QJ.step (YldS.yld (y_lenS Try.runUnderlying24 hr3 rfl)) rfl ?_
        refine QJ.step (YldS.yld (y_bin rfl rfl rfl)) rfl ?_
        refine QJ.done ?_
        refine PJ.next ?_
        refine WJ.cond (t := decide (r16 < (List.length a1.rows : Int))) rfl (fun hb17 => ?_) (fun hb17 => ?_)
        · replace hm := ifT hm hb17
          refine WJ.skip ?_
          refine PJ.next ?_
          obtain ⟨kj19, hk20, hm⟩ := withK_open hm
          refine WJ.join (X := Str) (fun (x : Str) => kj19 x = some r) (fun (x : Str) => [(2, pt g7 0), (3, pt g8 0), (7, str x), (8, .int .i64 r16)]) (fun (x : Str) => [box g8 26 [v5], box g7 26 [v2]]) ?_ ?_
          · clear hk20
            refine WJ.block ?_
            refine WJ.seq ?_
            refine WJ.quiet ?_
            refine QJ.step (YldS.yld (y_assign rfl)) rfl ?_
            refine QJ.done ?_
            refine PJ.next ?_
            refine WJ.block ?_
            refine WJ.sel (L' := (fun (x : Str × Int) => [box g8 26 [v5], box g7 26 [v2]]) (out15, 0)) [0, 1] ⟨by decide, rfl⟩ ?_
            refine WJ.sub (m' := (fun (x : Str × Int) => [(2, pt g7 0), (3, pt g8 0), (7, str x.1), (8, .int .i64 r16), (9, .int .i64 x.2)]) (out15, 0)) ⟨rfl, rfl, rfl, rfl, rfl, trivial⟩ ?_
            refine WJ.loop (X := Str × Int) (fun N (x : Str × Int) => s_MovedLetters_l2 kj19 a1 b4 r16 N x.1 x.2 = some r) (fun (x : Str × Int) => [(2, pt g7 0), (3, pt g8 0), (7, str x.1), (8, .int .i64 r16), (9, .int .i64 x.2)]) (fun (x : Str × Int) => [box g8 26 [v5], box g7 26 [v2]]) ?_ N (out15, 0) hm
            · rintro N ⟨out21, c22⟩ hI
              have hm := hI; clear hI
              cases N with
              | zero => cases hm
              | succ N =>
              unfold s_MovedLetters_l2 at hm
              refine WJ.seq ?_
              refine WJ.seq ?_
              refine WJ.quiet ?_
              refine QJ.step (YldS.yld (y_move rfl)) rfl ?_
              refine QJ.step (YldS.yld (y_fldB (o := 0) fld26_0 rfl)) rfl ?_
              refine QJ.step (YldS.yld (y_loadB (k := 1) (off := 0) (v := v2) rfl Try.isAgg24 rfl rfl)) rfl ?_
              refine QJ.step (YldS.yld (y_move rfl)) rfl ?_
              obtain ⟨e23, h24, hm⟩ := bindS hm
              obtain ⟨ad25, _, rfl, ha26, hy27⟩ := hr3.elem h24
              refine QJ.step (YldS.yld (hy27 Try.runUnderlying24 Try.sizeOf9 rfl rfl)) rfl ?_
              refine QJ.step (YldS.yld (y_load1 (v := str e23) Try.isAgg9 ha26 St.frozenC rfl)) rfl ?_
              refine QJ.step (YldS.yld (y_lenStr Try.runUnderlying9 rfl)) rfl ?_
              refine QJ.step (YldS.yld (y_bin rfl rfl rfl)) rfl ?_
              refine QJ.done ?_
              refine PJ.next ?_
              refine WJ.cond (t := decide (c22 < (List.length e23 : Int))) rfl (fun hb28 => ?_) (fun hb28 => ?_)
              · replace hm := ifT hm hb28
                refine WJ.skip ?_
                refine PJ.next ?_
                obtain ⟨kj30, hk31, hm⟩ := withK_open hm
                refine WJ.join (X := Str) (fun (x : Str) => kj30 x = some r) (fun (x : Str) => [(2, pt g7 0), (3, pt g8 0), (7, str x), (8, .int .i64 r16), (9, .int .i64 c22)]) (fun (x : Str) => [box g8 26 [v5], box g7 26 [v2]]) ?_ ?_
                · clear hk31
                  refine WJ.block ?_
                  refine WJ.seq ?_
                  refine WJ.quiet_draw follows (by kernel_rfl) ?_
                  refine QJ.step (YldS.yld (y_fldB (o := 0) fld26_0 rfl)) rfl ?_
                  refine QJ.step (YldS.yld (y_loadB (k := 1) (off := 0) (v := v2) rfl Try.isAgg24 rfl rfl)) rfl ?_
                  refine QJ.step (YldS.yld (y_move rfl)) rfl ?_
                  obtain ⟨e32, h33, hm⟩ := bindS hm
                  obtain ⟨ad34, _, rfl, ha35, hy36⟩ := hr3.elem h33
                  refine QJ.step (YldS.yld (hy36 Try.runUnderlying24 Try.sizeOf9 rfl rfl)) rfl ?_
                  refine QJ.step (YldS.yld (y_load1 (v := str e32) Try.isAgg9 ha35 St.frozenC rfl)) rfl ?_
                  refine QJ.step (YldS.yld (y_move rfl)) rfl ?_
                  obtain ⟨c37, h38, hm⟩ := bindS hm
                  refine QJ.step (YldS.yld (y_idxStr Try.runUnderlying9 rfl rfl h38)) rfl ?_
                  refine QJ.step (YldS.yld (y_fldB (o := 0) fld26_0 rfl)) rfl ?_
                  refine QJ.step (YldS.yld (y_loadB (k := 0) (off := 0) (v := v5) rfl Try.isAgg24 rfl rfl)) rfl ?_
                  refine QJ.step (YldS.yld (y_move rfl)) rfl ?_
                  obtain ⟨e39, h40, hm⟩ := bindS hm
                  obtain ⟨ad41, _, rfl, ha42, hy43⟩ := hr6.elem h40
                  refine QJ.step (YldS.yld (hy43 Try.runUnderlying24 Try.sizeOf9 rfl rfl)) rfl ?_
                  refine QJ.step (YldS.yld (y_load1 (v := str e39) Try.isAgg9 ha42 St.frozenC rfl)) rfl ?_
                  refine QJ.step (YldS.yld (y_move rfl)) rfl ?_
                  obtain ⟨c44, h45, hm⟩ := bindS hm
                  refine QJ.step (YldS.yld (y_idxStr Try.runUnderlying9 rfl rfl h45)) rfl ?_
                  refine QJ.step (YldS.yld (y_bin8 c37 c44 rfl rfl rfl)) rfl ?_
                  refine QJ.done ?_
                  refine PJ.next ?_
                  refine WJ.cond (t := (c37 != c44)) rfl (fun hb46 => ?_) (fun hb46 => ?_)
                  · replace hm := ifT hm hb46
                    refine WJ.quiet ?_
                    refine QJ.step (YldS.yld (y_move rfl)) rfl ?_
                    refine QJ.step (YldS.yld (y_fldB (o := 0) fld26_0 rfl)) rfl ?_
                    refine QJ.step (YldS.yld (y_loadB (k := 1) (off := 0) (v := v2) rfl Try.isAgg24 rfl rfl)) rfl ?_
                    refine QJ.step (YldS.yld (y_move rfl)) rfl ?_
                    obtain ⟨e47, h48, hm⟩ := bindS hm
                    obtain ⟨ad49, _, rfl, ha50, hy51⟩ := hr3.elem h48
                    refine QJ.step (YldS.yld (hy51 Try.runUnderlying24 Try.sizeOf9 rfl rfl)) rfl ?_
                    refine QJ.step (YldS.yld (y_load1 (v := str e47) Try.isAgg9 ha50 St.frozenC rfl)) rfl ?_
                    refine QJ.step (YldS.yld (y_move rfl)) rfl ?_
                    refine QJ.step (YldS.yld (y_move rfl)) rfl ?_
                    refine QJ.step (YldS.yld (y_bin rfl rfl rfl)) rfl ?_
                    obtain ⟨s52, h53, hm⟩ := bindS hm
                    refine QJ.step (YldS.yld (y_subStr (i := some c22) (j := some (w64 (c22 + 1))) h53 Try.runUnderlying9 rfl ⟨_, rfl⟩ ⟨_, rfl⟩)) rfl ?_
                    obtain ⟨r54, h55, hm⟩ := bindS hm
                    refine QJ.step (y_call Try.call48 rfl (RetG.quiet fun w hw => ok_s_l02PutLetter h55 w )) rfl ?_
                    refine QJ.step (YldS.yld (y_assign rfl)) rfl ?_
                    refine QJ.done ?_
                    refine PJ.block_normal ?_
                    exact PJ.joined r54 [0, 1] hm ⟨rfl, rfl, rfl, rfl, rfl, trivial⟩ ⟨by decide, rfl⟩
                  · replace hm := ifF hm hb46
                    refine WJ.skip ?_
                    refine PJ.block_normal ?_
                    exact PJ.joined out21 [0, 1] hm ⟨rfl, rfl, rfl, rfl, rfl, trivial⟩ ⟨by decide, rfl⟩
                · rintro out29 hm
                  subst hk31
                  refine WJ.quiet ?_
                  refine QJ.step (YldS.yld (y_move rfl)) rfl ?_
                  refine QJ.step (YldS.yld (y_bin rfl rfl rfl)) rfl ?_
                  refine QJ.step (YldS.yld (y_assign rfl)) rfl ?_
                  refine QJ.done ?_
                  exact PJ.round (out29, w64 (c22 + 1)) [0, 1] hm ⟨rfl, rfl, rfl, rfl, rfl, trivial⟩ ⟨by decide, rfl⟩
              · replace hm := ifF hm hb28
                refine WJ.exit ?_
                refine PJ.then_exit (PJ.then_exit (PJ.block_exit (PJ.block_normal ?_)))
                exact PJ.joined out21 [0, 1] hm ⟨rfl, rfl, rfl, rfl, trivial⟩ ⟨by decide, rfl⟩
          · rintro out18 hm
            subst hk20
            refine WJ.quiet ?_
            refine QJ.step (YldS.yld (y_move rfl)) rfl ?_
            refine QJ.step (YldS.yld (y_bin rfl rfl rfl)) rfl ?_
            refine QJ.step (YldS.yld (y_assign rfl)) rfl ?_
            refine QJ.done ?_
            exact PJ.round (out18, w64 (r16 + 1)) [0, 1] hm ⟨rfl, rfl, rfl, rfl, trivial⟩ ⟨by decide, rfl⟩
        · replace hm := ifF hm hb17
          refine WJ.exit ?_
          refine PJ.then_exit (PJ.then_exit (PJ.block_exit ?_))
          exact PJ.joined out15 [] hm ⟨rfl, trivial⟩ ⟨List.nodup_nil, rfl⟩
    · rintro out12 hm
      subst hk14
      refine WJ.seq ?_
      refine WJ.quiet ?_
      refine QJ.step (YldS.yld (y_move rfl)) rfl ?_
      refine QJ.step (YldS.yld (y_assign rfl)) rfl ?_
      refine QJ.step (YldS.yld (y_assign rfl)) rfl ?_
      refine QJ.done ?_
      refine PJ.next ?_
      refine WJ.ret ?_
      obtain rfl := Option.some.inj hm
      refine PJ.sel (L' := []) [] ⟨List.nodup_nil, rfl⟩ ?_
      exact PJ.retn (vs := [str out12, .int .i64 0]) Try.results13 ⟨rfl, rfl, trivial⟩ ⟨rfl, rfl⟩

set_option maxRecDepth 100000 in
set_option maxHeartbeats 1000000 in
theorem ok_i_absolute {n1 : Int} {r : Int} (hm : i_absolute n1 = some r) (w : World)  :
    Calls Try.prog 50 #[.int .i64 n1] w (Ret (cx w) (.int .i64 r)) := by
  unfold i_absolute at hm
  refine Calls.enter [.int .i64 n1] Try.func50 rfl Try.ntmps50 rfl ?_
  refine WJ.seq ?_
  refine WJ.quiet ?_
  refine QJ.step (YldS.yld (y_assign rfl)) rfl ?_
  refine QJ.done ?_
  refine PJ.next ?_
  refine WJ.seq ?_
  refine WJ.seq ?_
  refine WJ.quiet ?_
  refine QJ.step (YldS.yld (y_move rfl)) rfl ?_
  refine QJ.step (YldS.yld (y_bin rfl rfl rfl)) rfl ?_
  refine QJ.done ?_
  refine PJ.next ?_
  refine WJ.cond (t := decide (n1 < 0)) rfl (fun hb2 => ?_) (fun hb2 => ?_)
  · replace hm := ifT hm hb2
    refine WJ.seq ?_
    refine WJ.quiet ?_
    refine QJ.step (YldS.yld (y_move rfl)) rfl ?_
    refine QJ.step (YldS.yld (y_neg rfl)) rfl ?_
    refine QJ.step (YldS.yld (y_assign rfl)) rfl ?_
    refine QJ.done ?_
    refine PJ.next ?_
    refine WJ.ret ?_
    refine PJ.then_ret ?_
    obtain rfl := Option.some.inj hm
    refine PJ.sel (L' := []) [] ⟨List.nodup_nil, rfl⟩ ?_
    exact PJ.retn (vs := [.int .i64 (w64 (0 - n1))]) Try.results50 ⟨rfl, trivial⟩ ⟨rfl, rfl⟩
  · replace hm := ifF hm hb2
    refine WJ.skip ?_
    refine PJ.next ?_
    refine WJ.seq ?_
    refine WJ.quiet ?_
    refine QJ.step (YldS.yld (y_move rfl)) rfl ?_
    refine QJ.step (YldS.yld (y_assign rfl)) rfl ?_
    refine QJ.done ?_
    refine PJ.next ?_
    refine WJ.ret ?_
    obtain rfl := Option.some.inj hm
    refine PJ.sel (L' := []) [] ⟨List.nodup_nil, rfl⟩ ?_
    exact PJ.retn (vs := [.int .i64 n1]) Try.results50 ⟨rfl, trivial⟩ ⟨rfl, rfl⟩

set_option maxRecDepth 100000 in
set_option maxHeartbeats 1000000 in
theorem ok_i_DistanceOf {N : Nat} {a1 : Layout} {b4 : Layout} {r : Int × Int} (hm : i_DistanceOf N a1 b4 = some r) (w : World) (v2 : Value) (hr3 : RdS w (cx w).Fz v2 fStr.rp a1.rows) (v5 : Value) (hr6 : RdS w (cx w).Fz v5 fStr.rp b4.rows) :
    Calls Try.prog 14 #[.agg #[v2], .agg #[v5]] w (Ret (cx w) (tup [.int .i64 r.1, .int .i64 r.2])) := by
  unfold i_DistanceOf at hm
  refine Calls.enter [.agg #[v2], .agg #[v5]] Try.func14 rfl Try.ntmps14 rfl ?_
  refine WJ.seq ?_
  refine WJ.reg ?_
  refine SJ.box (cs := [v2]) rfl rfl rfl fun g7 => ?_
  refine SJ.box (cs := [v5]) rfl rfl rfl fun g8 => ?_
  refine SJ.q (YldS.yld (y_assign rfl)) rfl ?_
  refine SJ.q (YldS.yld (y_assign rfl)) rfl ?_
  refine SJ.nil ?_
  refine PJ.next ?_
  refine WJ.seq ?_
  refine WJ.seq ?_
  refine WJ.quiet ?_
  refine QJ.step (YldS.yld (y_loadBN (k := 1) (off := 0) (us := [v2]) rfl Try.isAgg26 Try.sizeOf26 rfl rfl)) rfl ?_
  refine QJ.step (YldS.yld (y_loadBN (k := 0) (off := 0) (us := [v5]) rfl Try.isAgg26 Try.sizeOf26 rfl rfl)) rfl ?_
  obtain ⟨r9, h10, hm⟩ := bindS hm
  refine QJ.step (y_call Try.call43 rfl (RetG.quiet fun w hw => ok_i_compareCode h10 w _ (hr3.st hw) _ (hr6.st hw))) rfl ?_
  refine QJ.step (YldS.yld (y_assign rfl)) rfl ?_
  refine QJ.done ?_
  refine PJ.next ?_
  refine WJ.seq ?_
  refine WJ.quiet ?_
  refine QJ.step (YldS.yld (y_move rfl)) rfl ?_
  refine QJ.step (YldS.yld (y_bin rfl rfl rfl)) rfl ?_
  refine QJ.done ?_
  refine PJ.next ?_
  refine WJ.cond (t := (r9 != 0)) rfl (fun hb11 => ?_) (fun hb11 => ?_)
  · replace hm := ifT hm hb11
    refine WJ.seq ?_
    refine WJ.quiet ?_
    refine QJ.step (YldS.yld (y_move rfl)) rfl ?_
    refine QJ.step (YldS.yld (y_assign rfl)) rfl ?_
    refine QJ.step (YldS.yld (y_assign rfl)) rfl ?_
    refine QJ.done ?_
    refine PJ.next ?_
    refine WJ.ret ?_
    refine PJ.then_ret ?_
    obtain rfl := Option.some.inj hm
    refine PJ.sel (L' := []) [] ⟨List.nodup_nil, rfl⟩ ?_
    exact PJ.retn (vs := [.int .i64 0, .int .i64 r9]) Try.results14 ⟨rfl, rfl, trivial⟩ ⟨rfl, rfl⟩
  · replace hm := ifF hm hb11
    refine WJ.skip ?_
    refine PJ.next ?_
    refine WJ.seq ?_
    refine WJ.quiet ?_
    refine QJ.step (YldS.yld (y_assign rfl)) rfl ?_
    refine QJ.done ?_
    refine PJ.next ?_
    obtain ⟨kj13, hk14, hm⟩ := withK_open hm
    refine WJ.join (X := Int) (fun (x : Int) => kj13 x = some r) (fun (x : Int) => [(7, .int .i64 x)]) (fun (x : Int) => []) ?_ ?_
    · clear hk14
      refine WJ.seq ?_
      refine WJ.quiet ?_
      refine QJ.step (YldS.yld (y_fldB (o := 0) fld26_0 rfl)) rfl ?_
      refine QJ.step (YldS.yld (y_loadB (k := 1) (off := 0) (v := v2) rfl Try.isAgg24 rfl rfl)) rfl ?_
      refine QJ.step (YldS.yld (y_lenS Try.runUnderlying24 hr3 rfl)) rfl ?_
      refine QJ.step (YldS.yld (y_move rfl)) rfl ?_
      refine QJ.done ?_
      refine PJ.next ?_
      refine WJ.block ?_
      refine WJ.sel (L' := (fun (x : Int × Int) => [box g8 26 [v5]]) (0, 0)) [0] ⟨by decide, rfl⟩ ?_
      refine WJ.sub (m' := (fun (x : Int × Int) => [(3, pt g8 0), (7, .int .i64 x.1), (21, v2), (22, .int .i64 (List.length a1.rows : Int)), (23, .int .i64 x.2)]) (0, 0)) ⟨rfl, rfl, rfl, rfl, rfl, trivial⟩ ?_
      refine WJ.loop (X := Int × Int) (fun N (x : Int × Int) => i_DistanceOf_l1 kj13 a1 b4 N x.1 x.2 = some r) (fun (x : Int × Int) => [(3, pt g8 0), (7, .int .i64 x.1), (21, v2), (22, .int .i64 (List.length a1.rows : Int)), (23, .int .i64 x.2)]) (fun (x : Int × Int) => [box g8 26 [v5]]) ?_ N (0, 0) hm
      · rintro N ⟨sum15, x16⟩ hI
        have hm := hI; clear hI
        cases N with
        | zero => cases hm
        | succ N =>
        unfold i_DistanceOf_l1 at hm
        refine WJ.seq ?_
        refine WJ.quiet ?_
        refine QJ.step (YldS.yld (y_bin rfl rfl rfl)) rfl ?_
        refine QJ.done ?_
        refine PJ.next ?_
        refine WJ.seq ?_
        refine WJ.cond (t := decide (x16 < (List.length a1.rows : Int))) rfl (fun hb17 => ?_) (fun hb17 => ?_)
        · replace hm := ifT hm hb17
          refine WJ.skip ?_
          refine PJ.next ?_
          obtain ⟨kj19, hk20, hm⟩ := withK_open hm
          refine WJ.join (X := Int) (fun (x : Int) => kj19 x = some r) (fun (x : Int) => [(3, pt g8 0), (7, .int .i64 x), (21, v2), (22, .int .i64 (List.length a1.rows : Int)), (23, .int .i64 x16)]) (fun (x : Int) => [box g8 26 [v5]]) ?_ ?_
          · clear hk20
            refine WJ.block ?_
            refine WJ.seq ?_
            refine WJ.quiet ?_
            refine QJ.step (YldS.yld (y_move rfl)) rfl ?_
            obtain ⟨e21, h22, hm⟩ := bindS hm
            obtain ⟨ad23, _, rfl, ha24, hy25⟩ := hr3.elem h22
            refine QJ.step (YldS.yld (hy25 Try.runUnderlying24 Try.sizeOf9 rfl rfl)) rfl ?_
            refine QJ.step (YldS.yld (y_load1 (v := str e21) Try.isAgg9 ha24 St.frozenC rfl)) rfl ?_
            refine QJ.step (YldS.yld (y_assign rfl)) rfl ?_
            refine QJ.step (YldS.yld (y_assign rfl)) rfl ?_
            refine QJ.done ?_
            refine PJ.next ?_
            refine WJ.seq ?_
            refine WJ.quiet ?_
            refine QJ.step (YldS.yld (y_move rfl)) rfl ?_
            refine QJ.step (YldS.yld (y_lenStr Try.runUnderlying9 rfl)) rfl ?_
            refine QJ.step (YldS.yld (y_move rfl)) rfl ?_
            refine QJ.done ?_
            refine PJ.next ?_
            refine WJ.block ?_
            refine WJ.sel (L' := (fun (x : Int × Int) => [box g8 26 [v5]]) (sum15, 0)) [0] ⟨by decide, rfl⟩ ?_
            refine WJ.sub (m' := (fun (x : Int × Int) => [(3, pt g8 0), (7, .int .i64 x.1), (8, .int .i64 x16), (9, str e21), (21, v2), (22, .int .i64 (List.length a1.rows : Int)), (23, .int .i64 x16), (29, .int .i64 (List.length e21 : Int)), (30, .int .i64 x.2)]) (sum15, 0)) ⟨rfl, rfl, rfl, rfl, rfl, rfl, rfl, rfl, rfl, trivial⟩ ?_
            refine WJ.loop (X := Int × Int) (fun N (x : Int × Int) => i_DistanceOf_l2 kj19 b4 x16 e21 N x.1 x.2 = some r) (fun (x : Int × Int) => [(3, pt g8 0), (7, .int .i64 x.1), (8, .int .i64 x16), (9, str e21), (21, v2), (22, .int .i64 (List.length a1.rows : Int)), (23, .int .i64 x16), (29, .int .i64 (List.length e21 : Int)), (30, .int .i64 x.2)]) (fun (x : Int × Int) => [box g8 26 [v5]]) ?_ N (sum15, 0) hm
            · rintro N ⟨sum26, x27⟩ hI
              have hm := hI; clear hI
              cases N with
              | zero => cases hm
              | succ N =>
              unfold i_DistanceOf_l2 at hm
              refine WJ.seq ?_
              refine WJ.quiet ?_
              refine QJ.step (YldS.yld (y_bin rfl rfl rfl)) rfl ?_
              refine QJ.done ?_
              refine PJ.next ?_
              refine WJ.seq ?_
              refine WJ.cond (t := decide (x27 < (List.length e21 : Int))) rfl (fun hb28 => ?_) (fun hb28 => ?_)
              · replace hm := ifT hm hb28
                refine WJ.skip ?_
                refine PJ.next ?_
                refine WJ.seq ?_
                refine WJ.block ?_
                refine WJ.seq ?_
                refine WJ.quiet ?_
                refine QJ.step (YldS.yld (y_move rfl)) rfl ?_
                refine QJ.step (YldS.yld (y_assign rfl)) rfl ?_
                refine QJ.done ?_
                refine PJ.next ?_
                refine WJ.seq ?_
                refine WJ.quiet_draw follows (by kernel_rfl) ?_
                refine QJ.step (YldS.yld (y_loadBN (k := 0) (off := 0) (us := [v5]) rfl Try.isAgg26 Try.sizeOf26 rfl rfl)) rfl ?_
                refine QJ.step (YldS.yld (y_move rfl)) rfl ?_
                refine QJ.step (YldS.yld (y_move rfl)) rfl ?_
                obtain ⟨c29, h30, hm⟩ := bindS hm
                refine QJ.step (YldS.yld (y_idxStr Try.runUnderlying9 rfl rfl h30)) rfl ?_
                obtain ⟨r31, h32, hm⟩ := bindS hm
                refine QJ.step (y_call Try.call49 rfl (RetG.quiet fun w hw => ok_i_Layout_spot h32 w _ (hr6.st hw))) rfl ?_
                refine QJ.step (YldS.yld (y_move rfl)) rfl ?_
                refine QJ.step (YldS.yld (y_extract rfl rfl)) rfl ?_
                refine QJ.step (YldS.yld (y_extract rfl rfl)) rfl ?_
                refine QJ.step (YldS.yld (y_extract rfl rfl)) rfl ?_
                refine QJ.step (YldS.yld (y_assign rfl)) rfl ?_
                refine QJ.step (YldS.yld (y_assign rfl)) rfl ?_
                refine QJ.step (YldS.yld (y_assign rfl)) rfl ?_
                refine QJ.done ?_
                refine PJ.next ?_
                refine WJ.quiet ?_
                refine QJ.step (YldS.yld (y_move rfl)) rfl ?_
                refine QJ.step (YldS.yld (y_move rfl)) rfl ?_
                refine QJ.step (YldS.yld (y_move rfl)) rfl ?_
                refine QJ.step (YldS.yld (y_bin rfl rfl rfl)) rfl ?_
                obtain ⟨r33, h34, hm⟩ := bindS hm
                refine QJ.step (y_call Try.call50 rfl (RetG.quiet fun w hw => ok_i_absolute h34 w )) rfl ?_
                refine QJ.step (YldS.yld (y_move rfl)) rfl ?_
                refine QJ.step (YldS.yld (y_move rfl)) rfl ?_
                refine QJ.step (YldS.yld (y_bin rfl rfl rfl)) rfl ?_
                obtain ⟨r35, h36, hm⟩ := bindS hm
                refine QJ.step (y_call Try.call50 rfl (RetG.quiet fun w hw => ok_i_absolute h36 w )) rfl ?_
                refine QJ.step (YldS.yld (y_bin rfl rfl rfl)) rfl ?_
                refine QJ.step (YldS.yld (y_bin rfl rfl rfl)) rfl ?_
                refine QJ.step (YldS.yld (y_assign rfl)) rfl ?_
                refine QJ.done ?_
                refine PJ.block_normal (PJ.next ?_)
                refine WJ.quiet ?_
                refine QJ.step (YldS.yld (y_bin rfl rfl rfl)) rfl ?_
                refine QJ.step (YldS.yld (y_move rfl)) rfl ?_
                refine QJ.done ?_
                exact PJ.round (w64 (sum26 + (w64 (r33 + r35))), w64 (x27 + 1)) [0] hm ⟨rfl, rfl, rfl, rfl, rfl, rfl, rfl, rfl, rfl, trivial⟩ ⟨by decide, rfl⟩
              · replace hm := ifF hm hb28
                refine WJ.exit ?_
                refine PJ.then_exit (PJ.then_exit (PJ.block_exit (PJ.block_normal ?_)))
                exact PJ.joined sum26 [0] hm ⟨rfl, rfl, rfl, rfl, rfl, trivial⟩ ⟨by decide, rfl⟩
          · rintro sum18 hm
            subst hk20
            refine WJ.quiet ?_
            refine QJ.step (YldS.yld (y_bin rfl rfl rfl)) rfl ?_
            refine QJ.step (YldS.yld (y_move rfl)) rfl ?_
            refine QJ.done ?_
            exact PJ.round (sum18, w64 (x16 + 1)) [0] hm ⟨rfl, rfl, rfl, rfl, rfl, trivial⟩ ⟨by decide, rfl⟩
        · replace hm := ifF hm hb17
          refine WJ.exit ?_
          refine PJ.then_exit (PJ.then_exit (PJ.block_exit ?_))
          exact PJ.joined sum15 [] hm ⟨rfl, trivial⟩ ⟨List.nodup_nil, rfl⟩
    · rintro sum12 hm
      subst hk14
      refine WJ.seq ?_
      refine WJ.quiet ?_
      refine QJ.step (YldS.yld (y_move rfl)) rfl ?_
      refine QJ.step (YldS.yld (y_assign rfl)) rfl ?_
      refine QJ.step (YldS.yld (y_assign rfl)) rfl ?_
      refine QJ.done ?_
      refine PJ.next ?_
      refine WJ.ret ?_
      obtain rfl := Option.some.inj hm
      refine PJ.sel (L' := []) [] ⟨List.nodup_nil, rfl⟩ ?_
      exact PJ.retn (vs := [.int .i64 sum12, .int .i64 0]) Try.results14 ⟨rfl, rfl, trivial⟩ ⟨rfl, rfl⟩

set_option maxRecDepth 100000 in
set_option maxHeartbeats 1000000 in
theorem ok_s_l00Size {n1 : Int} {r : Int} (hm : s_l00Size n1 = some r) (w : World)  :
    Calls Try.prog 52 #[.int .i64 n1] w (Ret (cx w) (.int .i64 r)) := by
  unfold s_l00Size at hm
  refine Calls.enter [.int .i64 n1] Try.func52 rfl Try.ntmps52 rfl ?_
  refine WJ.seq ?_
  refine WJ.quiet ?_
  refine QJ.step (YldS.yld (y_assign rfl)) rfl ?_
  refine QJ.done ?_
  refine PJ.next ?_
  refine WJ.seq ?_
  refine WJ.seq ?_
  refine WJ.quiet ?_
  refine QJ.step (YldS.yld (y_move rfl)) rfl ?_
  refine QJ.step (YldS.yld (y_bin rfl rfl rfl)) rfl ?_
  refine QJ.done ?_
  refine PJ.next ?_
  refine WJ.cond (t := decide (n1 < 0)) rfl (fun hb2 => ?_) (fun hb2 => ?_)
  · replace hm := ifT hm hb2
    refine WJ.seq ?_
    refine WJ.quiet ?_
    refine QJ.step (YldS.yld (y_move rfl)) rfl ?_
    refine QJ.step (YldS.yld (y_neg rfl)) rfl ?_
    refine QJ.step (YldS.yld (y_assign rfl)) rfl ?_
    refine QJ.done ?_
    refine PJ.next ?_
    refine WJ.ret ?_
    refine PJ.then_ret ?_
    obtain rfl := Option.some.inj hm
    refine PJ.sel (L' := []) [] ⟨List.nodup_nil, rfl⟩ ?_
    exact PJ.retn (vs := [.int .i64 (w64 (0 - n1))]) Try.results52 ⟨rfl, trivial⟩ ⟨rfl, rfl⟩
  · replace hm := ifF hm hb2
    refine WJ.skip ?_
    refine PJ.next ?_
    refine WJ.seq ?_
    refine WJ.quiet ?_
    refine QJ.step (YldS.yld (y_move rfl)) rfl ?_
    refine QJ.step (YldS.yld (y_assign rfl)) rfl ?_
    refine QJ.done ?_
    refine PJ.next ?_
    refine WJ.ret ?_
    obtain rfl := Option.some.inj hm
    refine PJ.sel (L' := []) [] ⟨List.nodup_nil, rfl⟩ ?_
    exact PJ.retn (vs := [.int .i64 n1]) Try.results52 ⟨rfl, trivial⟩ ⟨rfl, rfl⟩

set_option maxRecDepth 100000 in
set_option maxHeartbeats 1000000 in
theorem ok_s_DistanceOf {N : Nat} {a1 : Layout} {b4 : Layout} {r : Int × Int} (hm : s_DistanceOf N a1 b4 = some r) (w : World) (v2 : Value) (hr3 : RdS w (cx w).Fz v2 fStr.rp a1.rows) (v5 : Value) (hr6 : RdS w (cx w).Fz v5 fStr.rp b4.rows) :
    Calls Try.prog 15 #[.agg #[v2], .agg #[v5]] w (Ret (cx w) (tup [.int .i64 r.1, .int .i64 r.2])) := by
  unfold s_DistanceOf at hm
  refine Calls.enter [.agg #[v2], .agg #[v5]] Try.func15 rfl Try.ntmps15 rfl ?_
  refine WJ.seq ?_
  refine WJ.reg ?_
  refine SJ.box (cs := [v2]) rfl rfl rfl fun g7 => ?_
  refine SJ.box (cs := [v5]) rfl rfl rfl fun g8 => ?_
  refine SJ.q (YldS.yld (y_assign rfl)) rfl ?_
  refine SJ.q (YldS.yld (y_assign rfl)) rfl ?_
  refine SJ.nil ?_
  refine PJ.next ?_
  refine WJ.seq ?_
  refine WJ.quiet ?_
  obtain ⟨r9, h10, hm⟩ := bindS hm
  refine QJ.step (y_call Try.call45 rfl (RetG.quiet fun w hw => ok_s_l06Both h10 w _ _ (hw.box_at (k := 1) rfl) (hr3.st hw) _ _ (hw.box_at (k := 0) rfl) (hr6.st hw))) rfl ?_
  refine QJ.step (YldS.yld (y_assign rfl)) rfl ?_
  refine QJ.done ?_
  refine PJ.next ?_
  refine WJ.seq ?_
  refine WJ.seq ?_
  refine WJ.quiet ?_
  refine QJ.step (YldS.yld (y_move rfl)) rfl ?_
  refine QJ.step (YldS.yld (y_bin rfl rfl rfl)) rfl ?_
  refine QJ.done ?_
  refine PJ.next ?_
  refine WJ.cond (t := (r9 != 0)) rfl (fun hb11 => ?_) (fun hb11 => ?_)
  · replace hm := ifT hm hb11
    refine WJ.seq ?_
    refine WJ.quiet ?_
    refine QJ.step (YldS.yld (y_move rfl)) rfl ?_
    refine QJ.step (YldS.yld (y_assign rfl)) rfl ?_
    refine QJ.step (YldS.yld (y_assign rfl)) rfl ?_
    refine QJ.done ?_
    refine PJ.next ?_
    refine WJ.ret ?_
    refine PJ.then_ret ?_
    obtain rfl := Option.some.inj hm
    refine PJ.sel (L' := []) [] ⟨List.nodup_nil, rfl⟩ ?_
    exact PJ.retn (vs := [.int .i64 0, .int .i64 r9]) Try.results15 ⟨rfl, rfl, trivial⟩ ⟨rfl, rfl⟩
  · replace hm := ifF hm hb11
    refine WJ.skip ?_
    refine PJ.next ?_
    refine WJ.seq ?_
    refine WJ.quiet ?_
    refine QJ.step (YldS.yld (y_assign rfl)) rfl ?_
    refine QJ.done ?_
    refine PJ.next ?_
    obtain ⟨kj13, hk14, hm⟩ := withK_open hm
    refine WJ.join (X := Int) (fun (x : Int) => kj13 x = some r) (fun (x : Int) => [(7, .int .i64 x)]) (fun (x : Int) => []) ?_ ?_
    · clear hk14
      refine WJ.seq ?_
      refine WJ.quiet ?_
      refine QJ.step (YldS.yld (y_assign rfl)) rfl ?_
      refine QJ.done ?_
      refine PJ.next ?_
      refine WJ.block ?_
      refine WJ.sel (L' := (fun (x : Int × Int) => [box g8 26 [v5], box g7 26 [v2]]) (0, 0)) [0, 1] ⟨by decide, rfl⟩ ?_
      refine WJ.sub (m' := (fun (x : Int × Int) => [(2, pt g7 0), (3, pt g8 0), (7, .int .i64 x.1), (8, .int .i64 x.2)]) (0, 0)) ⟨rfl, rfl, rfl, rfl, trivial⟩ ?_
      refine WJ.loop (X := Int × Int) (fun N (x : Int × Int) => s_DistanceOf_l1 kj13 a1 b4 N x.1 x.2 = some r) (fun (x : Int × Int) => [(2, pt g7 0), (3, pt g8 0), (7, .int .i64 x.1), (8, .int .i64 x.2)]) (fun (x : Int × Int) => [box g8 26 [v5], box g7 26 [v2]]) ?_ N (0, 0) hm
      · rintro N ⟨sum15, r16⟩ hI
        have hm := hI; clear hI
        cases N with
        | zero => cases hm
        | succ N =>
        unfold s_DistanceOf_l1 at hm
        refine WJ.seq ?_
        refine WJ.seq ?_
        refine WJ.quiet ?_
        refine QJ.step (YldS.yld (y_move rfl)) rfl ?_
        refine QJ.step (YldS.yld (y_fldB (o := 0) fld26_0 rfl)) rfl ?_
        refine QJ.step (YldS.yld (y_loadB (k := 1) (off := 0) (v := v2) rfl Try.isAgg24 rfl rfl)) rfl ?_
        refine QJ.step (YldS.yld (y_lenS Try.runUnderlying24 hr3 rfl)) rfl ?_
        refine QJ.step (YldS.yld (y_bin rfl rfl rfl)) rfl ?_
        refine QJ.done ?_
        refine PJ.next ?_
        refine WJ.cond (t := decide (r16 < (List.length a1.rows : Int))) rfl (fun hb17 => ?_) (fun hb17 => ?_)
        · replace hm := ifT hm hb17
          refine WJ.skip ?_
          refine PJ.next ?_
          obtain ⟨kj19, hk20, hm⟩ := withK_open hm
          refine WJ.join (X := Int) (fun (x : Int) => kj19 x = some r) (fun (x : Int) => [(2, pt g7 0), (3, pt g8 0), (7, .int .i64 x), (8, .int .i64 r16)]) (fun (x : Int) => [box g8 26 [v5], box g7 26 [v2]]) ?_ ?_
          · clear hk20
            refine WJ.block ?_
            refine WJ.seq ?_
            refine WJ.quiet ?_
            refine QJ.step (YldS.yld (y_assign rfl)) rfl ?_
            refine QJ.done ?_
            refine PJ.next ?_
            refine WJ.block ?_
            refine WJ.sel (L' := (fun (x : Int × Int) => [box g8 26 [v5], box g7 26 [v2]]) (sum15, 0)) [0, 1] ⟨by decide, rfl⟩ ?_
            refine WJ.sub (m' := (fun (x : Int × Int) => [(2, pt g7 0), (3, pt g8 0), (7, .int .i64 x.1), (8, .int .i64 r16), (9, .int .i64 x.2)]) (sum15, 0)) ⟨rfl, rfl, rfl, rfl, rfl, trivial⟩ ?_
            refine WJ.loop (X := Int × Int) (fun N (x : Int × Int) => s_DistanceOf_l2 kj19 a1 b4 r16 N x.1 x.2 = some r) (fun (x : Int × Int) => [(2, pt g7 0), (3, pt g8 0), (7, .int .i64 x.1), (8, .int .i64 r16), (9, .int .i64 x.2)]) (fun (x : Int × Int) => [box g8 26 [v5], box g7 26 [v2]]) ?_ N (sum15, 0) hm
            · rintro N ⟨sum21, c22⟩ hI
              have hm := hI; clear hI
              cases N with
              | zero => cases hm
              | succ N =>
              unfold s_DistanceOf_l2 at hm
              refine WJ.seq ?_
              refine WJ.seq ?_
              refine WJ.quiet ?_
              refine QJ.step (YldS.yld (y_move rfl)) rfl ?_
              refine QJ.step (YldS.yld (y_fldB (o := 0) fld26_0 rfl)) rfl ?_
              refine QJ.step (YldS.yld (y_loadB (k := 1) (off := 0) (v := v2) rfl Try.isAgg24 rfl rfl)) rfl ?_
              refine QJ.step (YldS.yld (y_move rfl)) rfl ?_
              obtain ⟨e23, h24, hm⟩ := bindS hm
              obtain ⟨ad25, _, rfl, ha26, hy27⟩ := hr3.elem h24
              refine QJ.step (YldS.yld (hy27 Try.runUnderlying24 Try.sizeOf9 rfl rfl)) rfl ?_
              refine QJ.step (YldS.yld (y_load1 (v := str e23) Try.isAgg9 ha26 St.frozenC rfl)) rfl ?_
              refine QJ.step (YldS.yld (y_lenStr Try.runUnderlying9 rfl)) rfl ?_
              refine QJ.step (YldS.yld (y_bin rfl rfl rfl)) rfl ?_
              refine QJ.done ?_
              refine PJ.next ?_
              refine WJ.cond (t := decide (c22 < (List.length e23 : Int))) rfl (fun hb28 => ?_) (fun hb28 => ?_)
              · replace hm := ifT hm hb28
                refine WJ.skip ?_
                refine PJ.next ?_
                refine WJ.seq ?_
                refine WJ.block ?_
                refine WJ.seq ?_
                refine WJ.quiet_draw follows (by kernel_rfl) ?_
                refine QJ.step (YldS.yld (y_fldB (o := 0) fld26_0 rfl)) rfl ?_
                refine QJ.step (YldS.yld (y_loadB (k := 0) (off := 0) (v := v5) rfl Try.isAgg24 rfl rfl)) rfl ?_
                refine QJ.step (YldS.yld (y_fldB (o := 0) fld26_0 rfl)) rfl ?_
                refine QJ.step (YldS.yld (y_loadB (k := 1) (off := 0) (v := v2) rfl Try.isAgg24 rfl rfl)) rfl ?_
                refine QJ.step (YldS.yld (y_move rfl)) rfl ?_
                obtain ⟨e29, h30, hm⟩ := bindS hm
                obtain ⟨ad31, _, rfl, ha32, hy33⟩ := hr3.elem h30
                refine QJ.step (YldS.yld (hy33 Try.runUnderlying24 Try.sizeOf9 rfl rfl)) rfl ?_
                refine QJ.step (YldS.yld (y_load1 (v := str e29) Try.isAgg9 ha32 St.frozenC rfl)) rfl ?_
                refine QJ.step (YldS.yld (y_move rfl)) rfl ?_
                obtain ⟨c34, h35, hm⟩ := bindS hm
                refine QJ.step (YldS.yld (y_idxStr Try.runUnderlying9 rfl rfl h35)) rfl ?_
                obtain ⟨r36, h37, hm⟩ := bindS hm
                refine QJ.step (y_call Try.call51 rfl (RetG.quiet fun w hw => ok_s_l06At h37 w _ (hr6.st hw))) rfl ?_
                refine QJ.step (YldS.yld (y_move rfl)) rfl ?_
                refine QJ.step (YldS.yld (y_extract rfl rfl)) rfl ?_
                refine QJ.step (YldS.yld (y_extract rfl rfl)) rfl ?_
                refine QJ.step (YldS.yld (y_assign rfl)) rfl ?_
                refine QJ.step (YldS.yld (y_assign rfl)) rfl ?_
                refine QJ.done ?_
                refine PJ.next ?_
                refine WJ.quiet ?_
                refine QJ.step (YldS.yld (y_move rfl)) rfl ?_
                refine QJ.step (YldS.yld (y_move rfl)) rfl ?_
                refine QJ.step (YldS.yld (y_move rfl)) rfl ?_
                refine QJ.step (YldS.yld (y_bin rfl rfl rfl)) rfl ?_
                obtain ⟨r38, h39, hm⟩ := bindS hm
                refine QJ.step (y_call Try.call52 rfl (RetG.quiet fun w hw => ok_s_l00Size h39 w )) rfl ?_
                refine QJ.step (YldS.yld (y_move rfl)) rfl ?_
                refine QJ.step (YldS.yld (y_move rfl)) rfl ?_
                refine QJ.step (YldS.yld (y_bin rfl rfl rfl)) rfl ?_
                obtain ⟨r40, h41, hm⟩ := bindS hm
                refine QJ.step (y_call Try.call52 rfl (RetG.quiet fun w hw => ok_s_l00Size h41 w )) rfl ?_
                refine QJ.step (YldS.yld (y_bin rfl rfl rfl)) rfl ?_
                refine QJ.step (YldS.yld (y_bin rfl rfl rfl)) rfl ?_
                refine QJ.step (YldS.yld (y_assign rfl)) rfl ?_
                refine QJ.done ?_
                refine PJ.block_normal (PJ.next ?_)
                refine WJ.quiet ?_
                refine QJ.step (YldS.yld (y_move rfl)) rfl ?_
                refine QJ.step (YldS.yld (y_bin rfl rfl rfl)) rfl ?_
                refine QJ.step (YldS.yld (y_assign rfl)) rfl ?_
                refine QJ.done ?_
                exact PJ.round (w64 (sum21 + (w64 (r38 + r40))), w64 (c22 + 1)) [0, 1] hm ⟨rfl, rfl, rfl, rfl, rfl, trivial⟩ ⟨by decide, rfl⟩
              · replace hm := ifF hm hb28
                refine WJ.exit ?_
                refine PJ.then_exit (PJ.then_exit (PJ.block_exit (PJ.block_normal ?_)))
                exact PJ.joined sum21 [0, 1] hm ⟨rfl, rfl, rfl, rfl, trivial⟩ ⟨by decide, rfl⟩
          · rintro sum18 hm
            subst hk20
            refine WJ.quiet ?_
            refine QJ.step (YldS.yld (y_move rfl)) rfl ?_
            refine QJ.step (YldS.yld (y_bin rfl rfl rfl)) rfl ?_
            refine QJ.step (YldS.yld (y_assign rfl)) rfl ?_
            refine QJ.done ?_
            exact PJ.round (sum18, w64 (r16 + 1)) [0, 1] hm ⟨rfl, rfl, rfl, rfl, trivial⟩ ⟨by decide, rfl⟩
        · replace hm := ifF hm hb17
          refine WJ.exit ?_
          refine PJ.then_exit (PJ.then_exit (PJ.block_exit ?_))
          exact PJ.joined sum15 [] hm ⟨rfl, trivial⟩ ⟨List.nodup_nil, rfl⟩
    · rintro sum12 hm
      subst hk14
      refine WJ.seq ?_
      refine WJ.quiet ?_
      refine QJ.step (YldS.yld (y_move rfl)) rfl ?_
      refine QJ.step (YldS.yld (y_assign rfl)) rfl ?_
      refine QJ.step (YldS.yld (y_assign rfl)) rfl ?_
      refine QJ.done ?_
      refine PJ.next ?_
      refine WJ.ret ?_
      obtain rfl := Option.some.inj hm
      refine PJ.sel (L' := []) [] ⟨List.nodup_nil, rfl⟩ ?_
      exact PJ.retn (vs := [.int .i64 sum12, .int .i64 0]) Try.results15 ⟨rfl, rfl, trivial⟩ ⟨rfl, rfl⟩

set_option maxRecDepth 100000 in
set_option maxHeartbeats 1000000 in
theorem ok_w_f6texts {N : Nat} {a1 : List Str} {b4 : List Str} {r : Bool} (hm : w_f6texts N a1 b4 = some r) (w : World) (v2 : Value) (hr3 : RdS w (cx w).Fz v2 fStr.rp a1) (v5 : Value) (hr6 : RdS w (cx w).Fz v5 fStr.rp b4) :
    Calls Try.prog 16 #[v2, v5] w (Ret (cx w) (.bool r)) := by
  unfold w_f6texts at hm
  refine Calls.enter [v2, v5] Try.func16 rfl Try.ntmps16 rfl ?_
  refine WJ.seq ?_
  refine WJ.quiet ?_
  refine QJ.step (YldS.yld (y_assign rfl)) rfl ?_
  refine QJ.done ?_
  refine PJ.next ?_
  refine WJ.seq ?_
  refine WJ.seq ?_
  refine WJ.quiet ?_
  refine QJ.step (YldS.yld (y_move rfl)) rfl ?_
  refine QJ.step (YldS.yld (y_lenS Try.runUnderlying24 hr3 rfl)) rfl ?_
  refine QJ.step (YldS.yld (y_move rfl)) rfl ?_
  refine QJ.step (YldS.yld (y_lenS Try.runUnderlying24 hr6 rfl)) rfl ?_
  refine QJ.step (YldS.yld (y_bin rfl rfl rfl)) rfl ?_
  refine QJ.done ?_
  refine PJ.next ?_
  refine WJ.cond (t := ((List.length a1 : Int) != (List.length b4 : Int))) rfl (fun hb7 => ?_) (fun hb7 => ?_)
  · replace hm := ifT hm hb7
    refine WJ.seq ?_
    refine WJ.quiet ?_
    refine QJ.step (YldS.yld (y_assign rfl)) rfl ?_
    refine QJ.done ?_
    refine PJ.next ?_
    refine WJ.ret ?_
    refine PJ.then_ret ?_
    obtain rfl := Option.some.inj hm
    refine PJ.sel (L' := []) [] ⟨List.nodup_nil, rfl⟩ ?_
    exact PJ.retn (vs := [.bool false]) Try.results16 ⟨rfl, trivial⟩ ⟨rfl, rfl⟩
  · replace hm := ifF hm hb7
    refine WJ.skip ?_
    refine PJ.next ?_
    obtain ⟨kj8, hk9, hm⟩ := withK_open hm
    refine WJ.join (X := Unit) (fun (_ : Unit) => kj8  = some r) (fun (_ : Unit) => []) (fun (_ : Unit) => []) ?_ ?_
    · clear hk9
      refine WJ.seq ?_
      refine WJ.quiet ?_
      refine QJ.step (YldS.yld (y_assign rfl)) rfl ?_
      refine QJ.done ?_
      refine PJ.next ?_
      refine WJ.block ?_
      refine WJ.sel (L' := (fun (x : Int) => []) 0) [] ⟨List.nodup_nil, rfl⟩ ?_
      refine WJ.sub (m' := (fun (x : Int) => [(0, v2), (1, v5), (5, .int .i64 x)]) 0) ⟨rfl, rfl, rfl, trivial⟩ ?_
      refine WJ.loop (X := Int) (fun N (x : Int) => w_f6texts_l1 kj8 a1 b4 N x = some r) (fun (x : Int) => [(0, v2), (1, v5), (5, .int .i64 x)]) (fun (x : Int) => []) ?_ N 0 hm
      · rintro N i10 hI
        have hm := hI; clear hI
        cases N with
        | zero => cases hm
        | succ N =>
        unfold w_f6texts_l1 at hm
        refine WJ.seq ?_
        refine WJ.seq ?_
        refine WJ.quiet ?_
        refine QJ.step (YldS.yld (y_move rfl)) rfl ?_
        refine QJ.step (YldS.yld (y_move rfl)) rfl ?_
        refine QJ.step (YldS.yld (y_lenS Try.runUnderlying24 hr3 rfl)) rfl ?_
        refine QJ.step (YldS.yld (y_bin rfl rfl rfl)) rfl ?_
        refine QJ.done ?_
        refine PJ.next ?_
        refine WJ.cond (t := decide (i10 < (List.length a1 : Int))) rfl (fun hb11 => ?_) (fun hb11 => ?_)
        · replace hm := ifT hm hb11
          refine WJ.skip ?_
          refine PJ.next ?_
          refine WJ.seq ?_
          refine WJ.block ?_
          refine WJ.seq ?_
          refine WJ.quiet_draw follows (by kernel_rfl) ?_
          refine QJ.step (YldS.yld (y_move rfl)) rfl ?_
          refine QJ.step (YldS.yld (y_move rfl)) rfl ?_
          obtain ⟨e12, h13, hm⟩ := bindS hm
          obtain ⟨ad14, _, rfl, ha15, hy16⟩ := hr3.elem h13
          refine QJ.step (YldS.yld (hy16 Try.runUnderlying24 Try.sizeOf9 rfl rfl)) rfl ?_
          refine QJ.step (YldS.yld (y_load1 (v := str e12) Try.isAgg9 ha15 St.frozenC rfl)) rfl ?_
          refine QJ.step (YldS.yld (y_move rfl)) rfl ?_
          refine QJ.step (YldS.yld (y_move rfl)) rfl ?_
          obtain ⟨e17, h18, hm⟩ := bindS hm
          obtain ⟨ad19, _, rfl, ha20, hy21⟩ := hr6.elem h18
          refine QJ.step (YldS.yld (hy21 Try.runUnderlying24 Try.sizeOf9 rfl rfl)) rfl ?_
          refine QJ.step (YldS.yld (y_load1 (v := str e17) Try.isAgg9 ha20 St.frozenC rfl)) rfl ?_
          refine QJ.step (YldS.yld (y_binS rfl rfl rfl)) rfl ?_
          refine QJ.done ?_
          refine PJ.next ?_
          refine WJ.cond (t := (e12 != e17)) rfl (fun hb22 => ?_) (fun hb22 => ?_)
          · replace hm := ifT hm hb22
            refine WJ.seq ?_
            refine WJ.quiet ?_
            refine QJ.step (YldS.yld (y_assign rfl)) rfl ?_
            refine QJ.done ?_
            refine PJ.next ?_
            refine WJ.ret ?_
            refine PJ.block_ret (PJ.then_ret (PJ.then_ret (PJ.block_ret (PJ.then_ret ?_))))
            obtain rfl := Option.some.inj hm
            refine PJ.sel (L' := []) [] ⟨List.nodup_nil, rfl⟩ ?_
            exact PJ.retn (vs := [.bool false]) Try.results16 ⟨rfl, trivial⟩ ⟨rfl, rfl⟩
          · replace hm := ifF hm hb22
            refine WJ.skip ?_
            refine PJ.block_normal (PJ.next ?_)
            refine WJ.quiet ?_
            refine QJ.step (YldS.yld (y_move rfl)) rfl ?_
            refine QJ.step (YldS.yld (y_bin rfl rfl rfl)) rfl ?_
            refine QJ.step (YldS.yld (y_assign rfl)) rfl ?_
            refine QJ.done ?_
            exact PJ.round (w64 (i10 + 1)) [] hm ⟨rfl, rfl, rfl, trivial⟩ ⟨List.nodup_nil, rfl⟩
        · replace hm := ifF hm hb11
          refine WJ.exit ?_
          refine PJ.then_exit (PJ.then_exit (PJ.block_exit ?_))
          exact PJ.joined () [] hm trivial ⟨List.nodup_nil, rfl⟩
    · rintro _ hm
      subst hk9
      refine WJ.seq ?_
      refine WJ.quiet ?_
      refine QJ.step (YldS.yld (y_assign rfl)) rfl ?_
      refine QJ.done ?_
      refine PJ.next ?_
      refine WJ.ret ?_
      obtain rfl := Option.some.inj hm
      refine PJ.sel (L' := []) [] ⟨List.nodup_nil, rfl⟩ ?_
      exact PJ.retn (vs := [.bool true]) Try.results16 ⟨rfl, trivial⟩ ⟨rfl, rfl⟩

set_option maxRecDepth 100000 in
set_option maxHeartbeats 1000000 in
theorem ok_i_SameLayout {N : Nat} {a1 : Layout} {b4 : Layout} {r : Bool} (hm : i_SameLayout N a1 b4 = some r) (w : World) (v2 : Value) (hr3 : RdS w (cx w).Fz v2 fStr.rp a1.rows) (v5 : Value) (hr6 : RdS w (cx w).Fz v5 fStr.rp b4.rows) :
    Calls Try.prog 17 #[.agg #[v2], .agg #[v5]] w (Ret (cx w) (.bool r)) := by
  unfold i_SameLayout at hm
  refine Calls.enter [.agg #[v2], .agg #[v5]] Try.func17 rfl Try.ntmps17 rfl ?_
  refine WJ.seq ?_
  refine WJ.reg ?_
  refine SJ.box (cs := [v2]) rfl rfl rfl fun g7 => ?_
  refine SJ.box (cs := [v5]) rfl rfl rfl fun g8 => ?_
  refine SJ.q (YldS.yld (y_assign rfl)) rfl ?_
  refine SJ.nil ?_
  refine PJ.next ?_
  refine WJ.seq ?_
  refine WJ.seq ?_
  refine WJ.quiet ?_
  refine QJ.step (YldS.yld (y_fldB (o := 0) fld26_0 rfl)) rfl ?_
  refine QJ.step (YldS.yld (y_loadB (k := 1) (off := 0) (v := v2) rfl Try.isAgg24 rfl rfl)) rfl ?_
  refine QJ.step (YldS.yld (y_lenS Try.runUnderlying24 hr3 rfl)) rfl ?_
  refine QJ.step (YldS.yld (y_fldB (o := 0) fld26_0 rfl)) rfl ?_
  refine QJ.step (YldS.yld (y_loadB (k := 0) (off := 0) (v := v5) rfl Try.isAgg24 rfl rfl)) rfl ?_
  refine QJ.step (YldS.yld (y_lenS Try.runUnderlying24 hr6 rfl)) rfl ?_
  refine QJ.step (YldS.yld (y_bin rfl rfl rfl)) rfl ?_
  refine QJ.done ?_
  refine PJ.next ?_
  refine WJ.cond (t := ((List.length a1.rows : Int) != (List.length b4.rows : Int))) rfl (fun hb9 => ?_) (fun hb9 => ?_)
  · replace hm := ifT hm hb9
    refine WJ.seq ?_
    refine WJ.quiet ?_
    refine QJ.step (YldS.yld (y_assign rfl)) rfl ?_
    refine QJ.done ?_
    refine PJ.next ?_
    refine WJ.ret ?_
    refine PJ.then_ret ?_
    obtain rfl := Option.some.inj hm
    refine PJ.sel (L' := []) [] ⟨List.nodup_nil, rfl⟩ ?_
    exact PJ.retn (vs := [.bool false]) Try.results17 ⟨rfl, trivial⟩ ⟨rfl, rfl⟩
  · replace hm := ifF hm hb9
    refine WJ.skip ?_
    refine PJ.next ?_
    obtain ⟨kj10, hk11, hm⟩ := withK_open hm
    refine WJ.join (X := Unit) (fun (_ : Unit) => kj10  = some r) (fun (_ : Unit) => []) (fun (_ : Unit) => []) ?_ ?_
    · clear hk11
      refine WJ.seq ?_
      refine WJ.quiet ?_
      refine QJ.step (YldS.yld (y_fldB (o := 0) fld26_0 rfl)) rfl ?_
      refine QJ.step (YldS.yld (y_loadB (k := 1) (off := 0) (v := v2) rfl Try.isAgg24 rfl rfl)) rfl ?_
      refine QJ.step (YldS.yld (y_lenS Try.runUnderlying24 hr3 rfl)) rfl ?_
      refine QJ.step (YldS.yld (y_move rfl)) rfl ?_
      refine QJ.done ?_
      refine PJ.next ?_
      refine WJ.block ?_
      refine WJ.sel (L' := (fun (x : Int) => [box g8 26 [v5], box g7 26 [v2]]) 0) [0, 1] ⟨by decide, rfl⟩ ?_
      refine WJ.sub (m' := (fun (x : Int) => [(2, pt g7 0), (3, pt g8 0), (15, .int .i64 (List.length a1.rows : Int)), (16, .int .i64 x)]) 0) ⟨rfl, rfl, rfl, rfl, trivial⟩ ?_
      refine WJ.loop (X := Int) (fun N (x : Int) => i_SameLayout_l1 kj10 a1 b4 N x = some r) (fun (x : Int) => [(2, pt g7 0), (3, pt g8 0), (15, .int .i64 (List.length a1.rows : Int)), (16, .int .i64 x)]) (fun (x : Int) => [box g8 26 [v5], box g7 26 [v2]]) ?_ N 0 hm
      · rintro N x12 hI
        have hm := hI; clear hI
        cases N with
        | zero => cases hm
        | succ N =>
        unfold i_SameLayout_l1 at hm
        refine WJ.seq ?_
        refine WJ.quiet ?_
        refine QJ.step (YldS.yld (y_bin rfl rfl rfl)) rfl ?_
        refine QJ.done ?_
        refine PJ.next ?_
        refine WJ.seq ?_
        refine WJ.cond (t := decide (x12 < (List.length a1.rows : Int))) rfl (fun hb13 => ?_) (fun hb13 => ?_)
        · replace hm := ifT hm hb13
          refine WJ.skip ?_
          refine PJ.next ?_
          refine WJ.seq ?_
          refine WJ.block ?_
          refine WJ.seq ?_
          refine WJ.quiet ?_
          refine QJ.step (YldS.yld (y_move rfl)) rfl ?_
          refine QJ.step (YldS.yld (y_assign rfl)) rfl ?_
          refine QJ.done ?_
          refine PJ.next ?_
          refine WJ.seq ?_
          refine WJ.quiet_draw follows (by kernel_rfl) ?_
          refine QJ.step (YldS.yld (y_fldB (o := 0) fld26_0 rfl)) rfl ?_
          refine QJ.step (YldS.yld (y_loadB (k := 1) (off := 0) (v := v2) rfl Try.isAgg24 rfl rfl)) rfl ?_
          refine QJ.step (YldS.yld (y_move rfl)) rfl ?_
          obtain ⟨e14, h15, hm⟩ := bindS hm
          obtain ⟨ad16, _, rfl, ha17, hy18⟩ := hr3.elem h15
          refine QJ.step (YldS.yld (hy18 Try.runUnderlying24 Try.sizeOf9 rfl rfl)) rfl ?_
          refine QJ.step (YldS.yld (y_load1 (v := str e14) Try.isAgg9 ha17 St.frozenC rfl)) rfl ?_
          refine QJ.step (YldS.yld (y_fldB (o := 0) fld26_0 rfl)) rfl ?_
          refine QJ.step (YldS.yld (y_loadB (k := 0) (off := 0) (v := v5) rfl Try.isAgg24 rfl rfl)) rfl ?_
          refine QJ.step (YldS.yld (y_move rfl)) rfl ?_
          obtain ⟨e19, h20, hm⟩ := bindS hm
          obtain ⟨ad21, _, rfl, ha22, hy23⟩ := hr6.elem h20
          refine QJ.step (YldS.yld (hy23 Try.runUnderlying24 Try.sizeOf9 rfl rfl)) rfl ?_
          refine QJ.step (YldS.yld (y_load1 (v := str e19) Try.isAgg9 ha22 St.frozenC rfl)) rfl ?_
          refine QJ.step (YldS.yld (y_binS rfl rfl rfl)) rfl ?_
          refine QJ.done ?_
          refine PJ.next ?_
          refine WJ.cond (t := (e14 != e19)) rfl (fun hb24 => ?_) (fun hb24 => ?_)
          · replace hm := ifT hm hb24
            refine WJ.seq ?_
            refine WJ.quiet ?_
            refine QJ.step (YldS.yld (y_assign rfl)) rfl ?_
            refine QJ.done ?_
            refine PJ.next ?_
            refine WJ.ret ?_
            refine PJ.block_ret (PJ.then_ret (PJ.then_ret (PJ.block_ret (PJ.then_ret ?_))))
            obtain rfl := Option.some.inj hm
            refine PJ.sel (L' := []) [] ⟨List.nodup_nil, rfl⟩ ?_
            exact PJ.retn (vs := [.bool false]) Try.results17 ⟨rfl, trivial⟩ ⟨rfl, rfl⟩
          · replace hm := ifF hm hb24
            refine WJ.skip ?_
            refine PJ.block_normal (PJ.next ?_)
            refine WJ.quiet ?_
            refine QJ.step (YldS.yld (y_bin rfl rfl rfl)) rfl ?_
            refine QJ.step (YldS.yld (y_move rfl)) rfl ?_
            refine QJ.done ?_
            exact PJ.round (w64 (x12 + 1)) [0, 1] hm ⟨rfl, rfl, rfl, rfl, trivial⟩ ⟨by decide, rfl⟩
        · replace hm := ifF hm hb13
          refine WJ.exit ?_
          refine PJ.then_exit (PJ.then_exit (PJ.block_exit ?_))
          exact PJ.joined () [] hm trivial ⟨List.nodup_nil, rfl⟩
    · rintro _ hm
      subst hk11
      refine WJ.seq ?_
      refine WJ.quiet ?_
      refine QJ.step (YldS.yld (y_assign rfl)) rfl ?_
      refine QJ.done ?_
      refine PJ.next ?_
      refine WJ.ret ?_
      obtain rfl := Option.some.inj hm
      refine PJ.sel (L' := []) [] ⟨List.nodup_nil, rfl⟩ ?_
      exact PJ.retn (vs := [.bool true]) Try.results17 ⟨rfl, trivial⟩ ⟨rfl, rfl⟩

set_option maxRecDepth 100000 in
set_option maxHeartbeats 1000000 in
theorem ok_s_SameLayout {N : Nat} {a1 : Layout} {b4 : Layout} {r : Bool} (hm : s_SameLayout N a1 b4 = some r) (w : World) (v2 : Value) (hr3 : RdS w (cx w).Fz v2 fStr.rp a1.rows) (v5 : Value) (hr6 : RdS w (cx w).Fz v5 fStr.rp b4.rows) :
    Calls Try.prog 18 #[.agg #[v2], .agg #[v5]] w (Ret (cx w) (.bool r)) := by
  unfold s_SameLayout at hm
  refine Calls.enter [.agg #[v2], .agg #[v5]] Try.func18 rfl Try.ntmps18 rfl ?_
  refine WJ.seq ?_
  refine WJ.reg ?_
  refine SJ.box (cs := [v2]) rfl rfl rfl fun g7 => ?_
  refine SJ.box (cs := [v5]) rfl rfl rfl fun g8 => ?_
  refine SJ.q (YldS.yld (y_assign rfl)) rfl ?_
  refine SJ.nil ?_
  refine PJ.next ?_
  refine WJ.seq ?_
  refine WJ.seq ?_
  refine WJ.quiet ?_
  refine QJ.step (YldS.yld (y_fldB (o := 0) fld26_0 rfl)) rfl ?_
  refine QJ.step (YldS.yld (y_loadB (k := 1) (off := 0) (v := v2) rfl Try.isAgg24 rfl rfl)) rfl ?_
  refine QJ.step (YldS.yld (y_lenS Try.runUnderlying24 hr3 rfl)) rfl ?_
  refine QJ.step (YldS.yld (y_fldB (o := 0) fld26_0 rfl)) rfl ?_
  refine QJ.step (YldS.yld (y_loadB (k := 0) (off := 0) (v := v5) rfl Try.isAgg24 rfl rfl)) rfl ?_
  refine QJ.step (YldS.yld (y_lenS Try.runUnderlying24 hr6 rfl)) rfl ?_
  refine QJ.step (YldS.yld (y_bin rfl rfl rfl)) rfl ?_
  refine QJ.done ?_
  refine PJ.next ?_
  refine WJ.cond (t := ((List.length a1.rows : Int) != (List.length b4.rows : Int))) rfl (fun hb9 => ?_) (fun hb9 => ?_)
  · replace hm := ifT hm hb9
    refine WJ.seq ?_
    refine WJ.quiet ?_
    refine QJ.step (YldS.yld (y_assign rfl)) rfl ?_
    refine QJ.done ?_
    refine PJ.next ?_
    refine WJ.ret ?_
    refine PJ.then_ret ?_
    obtain rfl := Option.some.inj hm
    refine PJ.sel (L' := []) [] ⟨List.nodup_nil, rfl⟩ ?_
    exact PJ.retn (vs := [.bool false]) Try.results18 ⟨rfl, trivial⟩ ⟨rfl, rfl⟩
  · replace hm := ifF hm hb9
    refine WJ.skip ?_
    refine PJ.next ?_
    obtain ⟨kj10, hk11, hm⟩ := withK_open hm
    refine WJ.join (X := Unit) (fun (_ : Unit) => kj10  = some r) (fun (_ : Unit) => []) (fun (_ : Unit) => []) ?_ ?_
    · clear hk11
      refine WJ.seq ?_
      refine WJ.quiet ?_
      refine QJ.step (YldS.yld (y_assign rfl)) rfl ?_
      refine QJ.done ?_
      refine PJ.next ?_
      refine WJ.block ?_
      refine WJ.sel (L' := (fun (x : Int) => [box g8 26 [v5], box g7 26 [v2]]) 0) [0, 1] ⟨by decide, rfl⟩ ?_
      refine WJ.sub (m' := (fun (x : Int) => [(2, pt g7 0), (3, pt g8 0), (5, .int .i64 x)]) 0) ⟨rfl, rfl, rfl, trivial⟩ ?_
      refine WJ.loop (X := Int) (fun N (x : Int) => s_SameLayout_l1 kj10 a1 b4 N x = some r) (fun (x : Int) => [(2, pt g7 0), (3, pt g8 0), (5, .int .i64 x)]) (fun (x : Int) => [box g8 26 [v5], box g7 26 [v2]]) ?_ N 0 hm
      · rintro N i12 hI
        have hm := hI; clear hI
        cases N with
        | zero => cases hm
        | succ N =>
        unfold s_SameLayout_l1 at hm
        refine WJ.seq ?_
        refine WJ.seq ?_
        refine WJ.quiet ?_
        refine QJ.step (YldS.yld (y_move rfl)) rfl ?_
        refine QJ.step (YldS.yld (y_fldB (o := 0) fld26_0 rfl)) rfl ?_
        refine QJ.step (YldS.yld (y_loadB (k := 1) (off := 0) (v := v2) rfl Try.isAgg24 rfl rfl)) rfl ?_
        refine QJ.step (YldS.yld (y_lenS Try.runUnderlying24 hr3 rfl)) rfl ?_
        refine QJ.step (YldS.yld (y_bin rfl rfl rfl)) rfl ?_
        refine QJ.done ?_
        refine PJ.next ?_
        refine WJ.cond (t := decide (i12 < (List.length a1.rows : Int))) rfl (fun hb13 => ?_) (fun hb13 => ?_)
        · replace hm := ifT hm hb13
          refine WJ.skip ?_
          refine PJ.next ?_
          refine WJ.seq ?_
          refine WJ.block ?_
          refine WJ.seq ?_
          refine WJ.quiet_draw follows (by kernel_rfl) ?_
          refine QJ.step (YldS.yld (y_fldB (o := 0) fld26_0 rfl)) rfl ?_
          refine QJ.step (YldS.yld (y_loadB (k := 1) (off := 0) (v := v2) rfl Try.isAgg24 rfl rfl)) rfl ?_
          refine QJ.step (YldS.yld (y_move rfl)) rfl ?_
          obtain ⟨e14, h15, hm⟩ := bindS hm
          obtain ⟨ad16, _, rfl, ha17, hy18⟩ := hr3.elem h15
          refine QJ.step (YldS.yld (hy18 Try.runUnderlying24 Try.sizeOf9 rfl rfl)) rfl ?_
          refine QJ.step (YldS.yld (y_load1 (v := str e14) Try.isAgg9 ha17 St.frozenC rfl)) rfl ?_
          refine QJ.step (YldS.yld (y_fldB (o := 0) fld26_0 rfl)) rfl ?_
          refine QJ.step (YldS.yld (y_loadB (k := 0) (off := 0) (v := v5) rfl Try.isAgg24 rfl rfl)) rfl ?_
          refine QJ.step (YldS.yld (y_move rfl)) rfl ?_
          obtain ⟨e19, h20, hm⟩ := bindS hm
          obtain ⟨ad21, _, rfl, ha22, hy23⟩ := hr6.elem h20
          refine QJ.step (YldS.yld (hy23 Try.runUnderlying24 Try.sizeOf9 rfl rfl)) rfl ?_
          refine QJ.step (YldS.yld (y_load1 (v := str e19) Try.isAgg9 ha22 St.frozenC rfl)) rfl ?_
          refine QJ.step (YldS.yld (y_binS rfl rfl rfl)) rfl ?_
          refine QJ.done ?_
          refine PJ.next ?_
          refine WJ.cond (t := (e14 != e19)) rfl (fun hb24 => ?_) (fun hb24 => ?_)
          · replace hm := ifT hm hb24
            refine WJ.seq ?_
            refine WJ.quiet ?_
            refine QJ.step (YldS.yld (y_assign rfl)) rfl ?_
            refine QJ.done ?_
            refine PJ.next ?_
            refine WJ.ret ?_
            refine PJ.block_ret (PJ.then_ret (PJ.then_ret (PJ.block_ret (PJ.then_ret ?_))))
            obtain rfl := Option.some.inj hm
            refine PJ.sel (L' := []) [] ⟨List.nodup_nil, rfl⟩ ?_
            exact PJ.retn (vs := [.bool false]) Try.results18 ⟨rfl, trivial⟩ ⟨rfl, rfl⟩
          · replace hm := ifF hm hb24
            refine WJ.skip ?_
            refine PJ.block_normal (PJ.next ?_)
            refine WJ.quiet ?_
            refine QJ.step (YldS.yld (y_move rfl)) rfl ?_
            refine QJ.step (YldS.yld (y_bin rfl rfl rfl)) rfl ?_
            refine QJ.step (YldS.yld (y_assign rfl)) rfl ?_
            refine QJ.done ?_
            exact PJ.round (w64 (i12 + 1)) [0, 1] hm ⟨rfl, rfl, rfl, trivial⟩ ⟨by decide, rfl⟩
        · replace hm := ifF hm hb13
          refine WJ.exit ?_
          refine PJ.then_exit (PJ.then_exit (PJ.block_exit ?_))
          exact PJ.joined () [] hm trivial ⟨List.nodup_nil, rfl⟩
    · rintro _ hm
      subst hk11
      refine WJ.seq ?_
      refine WJ.quiet ?_
      refine QJ.step (YldS.yld (y_assign rfl)) rfl ?_
      refine QJ.done ?_
      refine PJ.next ?_
      refine WJ.ret ?_
      obtain rfl := Option.some.inj hm
      refine PJ.sel (L' := []) [] ⟨List.nodup_nil, rfl⟩ ?_
      exact PJ.retn (vs := [.bool true]) Try.results18 ⟨rfl, trivial⟩ ⟨rfl, rfl⟩

set_option maxRecDepth 100000 in
set_option maxHeartbeats 1000000 in
theorem ok_s_ExchangeLetters {N : Nat} {x1 : Layout} {a4 : Str} {b5 : Str} {r : Layout × Int} (hm : s_ExchangeLetters N x1 a4 b5 = some r) (w : World) (v2 : Value) (hr3 : RdS w (cx w).Fz v2 fStr.rp x1.rows) :
    Calls Try.prog 19 #[.agg #[v2], str a4, str b5] w (RetG (cx w) fun u L => ∃ (u1 : Value), (u = tup [.agg #[u1], .int .i64 r.2] ∧ L = [row u1 9 fStr r.1.rows])) := by
  unfold s_ExchangeLetters at hm
  refine Calls.enter [.agg #[v2], str a4, str b5] Try.func19 rfl Try.ntmps19 rfl ?_
  refine WJ.seq ?_
  refine WJ.reg ?_
  refine SJ.box (cs := [v2]) rfl rfl rfl fun g6 => ?_
  refine SJ.alloc (cs := [.slice none 0 0]) Try.zeroValue26 rfl rfl fun g7 => ?_
  refine SJ.nil_row 9 fStr ?_
  refine SJ.q (YldS.yld (y_assign rfl)) rfl ?_
  refine SJ.nil ?_
  refine PJ.next ?_
  refine WJ.seq ?_
  refine WJ.seq ?_
  refine WJ.quiet ?_
  obtain ⟨r8, h9, hm⟩ := bindS hm
  refine QJ.step (y_call Try.call53 rfl (RetG.quiet fun w hw => ok_s_l06Ok h9 w _ _ (hw.box_at (k := 2) rfl) (hr3.st hw))) rfl ?_
  refine QJ.step (YldS.yld (y_not rfl)) rfl ?_
  refine QJ.done ?_
  refine PJ.next ?_
  refine WJ.cond (t := !r8) rfl (fun hb10 => ?_) (fun hb10 => ?_)
  · replace hm := ifT hm hb10
    refine WJ.seq ?_
    refine WJ.reg ?_
    refine SJ.q (YldS.yld (y_build (parts := []) (places := [(0, 1)]) (r := [.slice none 0 0]) pl26 Try.zeroValue26 rfl rfl rfl rfl)) rfl ?_
    refine SJ.storeL (k := 1) (off := 0) (us := [.slice none 0 0]) rfl rfl rfl rfl Try.sizeOf26 rfl rfl ?_
    refine SJ.nil_row 9 fStr ?_
    refine SJ.erase 1 ?_
    refine SJ.q (YldS.yld (y_assign rfl)) rfl ?_
    refine SJ.nil ?_
    refine PJ.next ?_
    refine WJ.ret ?_
    refine PJ.then_ret ?_
    obtain rfl := Option.some.inj hm
    exact PJ.retn_sel (vs := [.agg #[(.slice none 0 0)], .int .i64 1]) Try.results19 ⟨⟨1, g7, 26, [(.slice none 0 0)], rfl, rfl, .inl ⟨Try.isAgg26, Try.sizeOf26, rfl⟩⟩, rfl, trivial⟩ [0] ⟨by decide, rfl⟩ ⟨_, rfl, rfl⟩
  · replace hm := ifF hm hb10
    refine WJ.skip ?_
    refine PJ.next ?_
    refine WJ.seq ?_
    refine WJ.seq ?_
    refine WJ.quiet ?_
    refine QJ.step (YldS.yld (y_move rfl)) rfl ?_
    obtain ⟨r11, h12, hm⟩ := bindS hm
    refine QJ.step (y_call Try.call54 rfl (RetG.quiet fun w hw => ok_s_l02Letter h12 w )) rfl ?_
    refine QJ.step (YldS.yld (y_not rfl)) rfl ?_
    refine QJ.step (YldS.yld (y_move rfl)) rfl ?_
    obtain ⟨t13, h14, hm⟩ := bindS hm
    refine QJ.cut 4 [(1, str a4), (2, str b5), (3, pt g6 0), (6, pt g7 0), (22, .bool t13)] ?_ ?_
    · rcases Bool.eq_false_or_eq_true (!r11) with hb15 | hb15
      · obtain rfl := orT h14 hb15
        refine QJ.off rfl rfl (cB hb15) rfl rfl ?_
        refine QJ.off rfl rfl (cB hb15) rfl rfl ?_
        refine QJ.off rfl rfl (cB hb15) rfl rfl ?_
        refine QJ.step (YldS.yld (y_pick_t (cB hb15) rfl)) rfl ?_
        exact QJ.cut_end ⟨rfl, rfl, rfl, rfl, rfl, trivial⟩
      · replace h14 := orF h14 hb15
        refine QJ.on rfl rfl (cB hb15) (YldS.yld (y_move rfl)) rfl ?_
        obtain ⟨r16, h17, h14⟩ := bindS h14
        refine QJ.on rfl rfl (cB hb15) (y_call Try.call54 rfl (RetG.quiet fun w hw => ok_s_l02Letter h17 w )) rfl ?_
        refine QJ.on rfl rfl (cB hb15) (YldS.yld (y_not rfl)) rfl ?_
        refine QJ.step (YldS.yld (y_pick_f (cB hb15) rfl)) rfl ?_
        obtain rfl := Option.some.inj h14
        exact QJ.cut_end ⟨rfl, rfl, rfl, rfl, rfl, trivial⟩
    refine QJ.done ?_
    refine PJ.next ?_
    refine WJ.cond (t := t13) rfl (fun hb18 => ?_) (fun hb18 => ?_)
    · replace hm := ifT hm hb18
      refine WJ.seq ?_
      refine WJ.reg ?_
      refine SJ.q (YldS.yld (y_build (parts := []) (places := [(0, 1)]) (r := [.slice none 0 0]) pl26 Try.zeroValue26 rfl rfl rfl rfl)) rfl ?_
      refine SJ.storeL (k := 1) (off := 0) (us := [.slice none 0 0]) rfl rfl rfl rfl Try.sizeOf26 rfl rfl ?_
      refine SJ.nil_row 9 fStr ?_
      refine SJ.erase 1 ?_
      refine SJ.q (YldS.yld (y_assign rfl)) rfl ?_
      refine SJ.nil ?_
      refine PJ.next ?_
      refine WJ.ret ?_
      refine PJ.then_ret ?_
      obtain rfl := Option.some.inj hm
      exact PJ.retn_sel (vs := [.agg #[(.slice none 0 0)], .int .i64 2]) Try.results19 ⟨⟨1, g7, 26, [(.slice none 0 0)], rfl, rfl, .inl ⟨Try.isAgg26, Try.sizeOf26, rfl⟩⟩, rfl, trivial⟩ [0] ⟨by decide, rfl⟩ ⟨_, rfl, rfl⟩
    · replace hm := ifF hm hb18
      refine WJ.skip ?_
      refine PJ.next ?_
      refine WJ.seq ?_
      refine WJ.quiet_draw follows (by kernel_rfl) ?_
      refine QJ.step (YldS.yld (y_fldB (o := 0) fld26_0 rfl)) rfl ?_
      refine QJ.step (YldS.yld (y_loadB (k := 2) (off := 0) (v := v2) rfl Try.isAgg24 rfl rfl)) rfl ?_
      refine QJ.step (YldS.yld (y_move rfl)) rfl ?_
      obtain ⟨c19, h20, hm⟩ := bindS hm
      refine QJ.step (YldS.yld (y_idxStr Try.runUnderlying9 rfl rfl h20)) rfl ?_
      obtain ⟨r21, h22, hm⟩ := bindS hm
      refine QJ.step (y_call Try.call51 rfl (RetG.quiet fun w hw => ok_s_l06At h22 w _ (hr3.st hw))) rfl ?_
      refine QJ.step (YldS.yld (y_move rfl)) rfl ?_
      refine QJ.step (YldS.yld (y_extract rfl rfl)) rfl ?_
      refine QJ.step (YldS.yld (y_extract rfl rfl)) rfl ?_
      refine QJ.step (YldS.yld (y_assign rfl)) rfl ?_
      refine QJ.step (YldS.yld (y_assign rfl)) rfl ?_
      refine QJ.done ?_
      refine PJ.next ?_
      refine WJ.seq ?_
      refine WJ.quiet_draw follows (by kernel_rfl) ?_
      refine QJ.step (YldS.yld (y_fldB (o := 0) fld26_0 rfl)) rfl ?_
      refine QJ.step (YldS.yld (y_loadB (k := 2) (off := 0) (v := v2) rfl Try.isAgg24 rfl rfl)) rfl ?_
      refine QJ.step (YldS.yld (y_move rfl)) rfl ?_
      obtain ⟨c23, h24, hm⟩ := bindS hm
      refine QJ.step (YldS.yld (y_idxStr Try.runUnderlying9 rfl rfl h24)) rfl ?_
      obtain ⟨r25, h26, hm⟩ := bindS hm
      refine QJ.step (y_call Try.call51 rfl (RetG.quiet fun w hw => ok_s_l06At h26 w _ (hr3.st hw))) rfl ?_
      refine QJ.step (YldS.yld (y_move rfl)) rfl ?_
      refine QJ.step (YldS.yld (y_extract rfl rfl)) rfl ?_
      refine QJ.step (YldS.yld (y_extract rfl rfl)) rfl ?_
      refine QJ.step (YldS.yld (y_assign rfl)) rfl ?_
      refine QJ.step (YldS.yld (y_assign rfl)) rfl ?_
      refine QJ.done ?_
      refine PJ.next ?_
      refine WJ.seq ?_
      refine WJ.seq ?_
      refine WJ.quiet ?_
      refine QJ.step (YldS.yld (y_move rfl)) rfl ?_
      refine QJ.step (YldS.yld (y_bin rfl rfl rfl)) rfl ?_
      refine QJ.step (YldS.yld (y_move rfl)) rfl ?_
      obtain ⟨t27, h28, hm⟩ := bindS hm
      refine QJ.cut 3 [(1, str a4), (2, str b5), (3, pt g6 0), (6, pt g7 0), (45, .bool t27)] ?_ ?_
      · rcases Bool.eq_false_or_eq_true (decide (r21.1 < 0)) with hb29 | hb29
        · obtain rfl := orT h28 hb29
          refine QJ.off rfl rfl (cB hb29) rfl rfl ?_
          refine QJ.off rfl rfl (cB hb29) rfl rfl ?_
          refine QJ.step (YldS.yld (y_pick_t (cB hb29) rfl)) rfl ?_
          exact QJ.cut_end ⟨rfl, rfl, rfl, rfl, rfl, trivial⟩
        · replace h28 := orF h28 hb29
          refine QJ.on rfl rfl (cB hb29) (YldS.yld (y_move rfl)) rfl ?_
          refine QJ.on rfl rfl (cB hb29) (YldS.yld (y_bin rfl rfl rfl)) rfl ?_
          refine QJ.step (YldS.yld (y_pick_f (cB hb29) rfl)) rfl ?_
          obtain rfl := Option.some.inj h28
          exact QJ.cut_end ⟨rfl, rfl, rfl, rfl, rfl, trivial⟩
      refine QJ.done ?_
      refine PJ.next ?_
      refine WJ.cond (t := t27) rfl (fun hb30 => ?_) (fun hb30 => ?_)
      · replace hm := ifT hm hb30
        refine WJ.seq ?_
        refine WJ.reg ?_
        refine SJ.q (YldS.yld (y_build (parts := []) (places := [(0, 1)]) (r := [.slice none 0 0]) pl26 Try.zeroValue26 rfl rfl rfl rfl)) rfl ?_
        refine SJ.storeL (k := 1) (off := 0) (us := [.slice none 0 0]) rfl rfl rfl rfl Try.sizeOf26 rfl rfl ?_
        refine SJ.nil_row 9 fStr ?_
        refine SJ.erase 1 ?_
        refine SJ.q (YldS.yld (y_assign rfl)) rfl ?_
        refine SJ.nil ?_
        refine PJ.next ?_
        refine WJ.ret ?_
        refine PJ.then_ret ?_
        obtain rfl := Option.some.inj hm
        exact PJ.retn_sel (vs := [.agg #[(.slice none 0 0)], .int .i64 3]) Try.results19 ⟨⟨1, g7, 26, [(.slice none 0 0)], rfl, rfl, .inl ⟨Try.isAgg26, Try.sizeOf26, rfl⟩⟩, rfl, trivial⟩ [0] ⟨by decide, rfl⟩ ⟨_, rfl, rfl⟩
      · replace hm := ifF hm hb30
        refine WJ.skip ?_
        refine PJ.next ?_
        refine WJ.seq ?_
        obtain ⟨c31, h32, hm⟩ := bindS hm
        obtain ⟨c33, h34, hm⟩ := bindS hm
        obtain ⟨r35, h36, hm⟩ := bindS hm
        refine WJ.draws (N := 7) (listed0 := #[false, false, false, false, false, false, false]) [row (.slice none 0 0) 9 fStr [], box g6 26 [v2]] follows rfl rfl ?_
        refine RJ.first 0 (listed' := #[true, false, false, false, false, false, false]) [0, 2] rfl (by kernel_rfl) rfl ⟨by decide, rfl⟩ (y_move rfl) rfl ?_
        refine RJ.first 1 (listed' := #[true, true, false, false, false, false, false]) [0, 2] rfl (by kernel_rfl) rfl ⟨by decide, rfl⟩ (y_idxStr Try.runUnderlying9 rfl rfl h32) rfl ?_
        refine RJ.first 2 (listed' := #[true, true, true, false, false, false, false]) [0, 2] rfl (by kernel_rfl) rfl ⟨by decide, rfl⟩ (y_move rfl) rfl ?_
        refine RJ.first 3 (listed' := #[true, true, true, true, false, false, false]) [0, 2] rfl (by kernel_rfl) rfl ⟨by decide, rfl⟩ (y_idxStr Try.runUnderlying9 rfl rfl h34) rfl ?_
        refine RJ.step1 4 [0, 2] (by kernel_rfl) ⟨by decide, rfl⟩ ?_
        refine RO.of (listed' := #[true, true, true, true, true, false, false]) rfl rfl ?_
        refine SJ.call Try.call55 rfl (fun w hw => ok_s_l06Change h36 w _ _ (hw.box_at (k := 2) rfl) (hr3.st hw)) rfl ?_
        rintro _ _ ⟨v37, rfl, rfl⟩
        refine SJ.nil ?_
        refine PJ.draw ?_
        refine RJ.step1 5 [1, 3] (by kernel_rfl) ⟨by decide, rfl⟩ ?_
        refine RO.of (listed' := #[true, true, true, true, true, true, false]) rfl rfl ?_
        refine SJ.rowCells (k := 0) rfl fun hc38 => ?_
        refine SJ.storeL (k := 2) (off := 0) (us := [v37]) rfl rfl rfl rfl Try.sizeOf26 rfl (by simp only [List.all_cons, hc38.2]; rfl) ?_
        refine SJ.nil ?_
        refine PJ.draw ?_
        refine RJ.first 6 (listed' := #[true, true, true, true, true, true, true]) [1, 3] rfl (by kernel_rfl) rfl ⟨by decide, rfl⟩ (y_assign rfl) rfl ?_
        refine RJ.fin [1, 3] (by kernel_rfl) ⟨by decide, rfl⟩ ?_
        refine PJ.next ?_
        refine WJ.ret ?_
        obtain rfl := Option.some.inj hm
        exact PJ.retn_sel (vs := [.agg #[v37], .int .i64 0]) Try.results19 ⟨⟨2, g7, 26, [v37], rfl, rfl, .inl ⟨Try.isAgg26, Try.sizeOf26, rfl⟩⟩, rfl, trivial⟩ [0] ⟨by decide, rfl⟩ ⟨_, rfl, rfl⟩

set_option maxRecDepth 100000 in
set_option maxHeartbeats 1000000 in
theorem ok_w_FnExchanges {N : Nat} {code1 : List UInt8} {r : Bool} (hm : w_FnExchanges N code1 = some r) (w : World) (v2 : Value) (hr3 : RdS w (cx w).Fz v2 fByte.rp code1) :
    Calls Try.prog 3 #[v2] w (Ret (cx w) (.bool r)) := by
  unfold w_FnExchanges at hm
  refine Calls.enter [v2] Try.func3 rfl Try.ntmps3 rfl ?_
  refine WJ.seq ?_
  refine WJ.quiet ?_
  refine QJ.step (YldS.yld (y_assign rfl)) rfl ?_
  refine QJ.done ?_
  refine PJ.next ?_
  refine WJ.seq ?_
  refine WJ.seq ?_
  refine WJ.quiet ?_
  refine QJ.step (YldS.yld (y_move rfl)) rfl ?_
  obtain ⟨r4, h5, hm⟩ := bindS hm
  refine QJ.step (y_call Try.call6 rfl (RetG.quiet fun w hw => ok_w_f6big h5 w _ (hr3.st hw))) rfl ?_
  refine QJ.done ?_
  refine PJ.next ?_
  refine WJ.cond (t := r4) rfl (fun hb6 => ?_) (fun hb6 => ?_)
  · replace hm := ifT hm hb6
    refine WJ.seq ?_
    refine WJ.quiet ?_
    refine QJ.step (YldS.yld (y_assign rfl)) rfl ?_
    refine QJ.done ?_
    refine PJ.next ?_
    refine WJ.ret ?_
    refine PJ.then_ret ?_
    obtain rfl := Option.some.inj hm
    refine PJ.sel (L' := []) [] ⟨List.nodup_nil, rfl⟩ ?_
    exact PJ.retn (vs := [.bool true]) Try.results3 ⟨rfl, trivial⟩ ⟨rfl, rfl⟩
  · replace hm := ifF hm hb6
    refine WJ.skip ?_
    refine PJ.next ?_
    refine WJ.seq ?_
    refine WJ.reg ?_
    refine SJ.q (YldS.yld (y_move rfl)) rfl ?_
    obtain ⟨r7, h8, hm⟩ := bindS hm
    refine SJ.call Try.call7 rfl (fun w hw => ok_s_DrawExchangePlan h8 w _ (hr3.st hw)) rfl ?_
    rintro _ _ ⟨v9, v10, rfl, rfl⟩
    refine SJ.q (YldS.yld (y_move rfl)) rfl ?_
    refine SJ.q (YldS.yld (y_extract rfl rfl)) rfl ?_
    refine SJ.q (YldS.yld (y_extract rfl rfl)) rfl ?_
    refine SJ.alloc (cs := [.slice none 0 0]) Try.zeroValue26 rfl rfl fun g11 => ?_
    refine SJ.nil_row 9 fStr ?_
    refine SJ.alloc (cs := [.slice none 0 0]) Try.zeroValue26 rfl rfl fun g12 => ?_
    refine SJ.nil_row 9 fStr ?_
    refine SJ.rowCells (k := 4) rfl fun hc13 => ?_
    refine SJ.storeL (k := 3) (off := 0) (us := [v9]) rfl rfl rfl rfl Try.sizeOf26 rfl (by simp only [List.all_cons, hc13.2]; rfl) ?_
    refine SJ.erase 2 ?_
    refine SJ.rowCells (k := 4) rfl fun hc14 => ?_
    refine SJ.storeL (k := 1) (off := 0) (us := [v10]) rfl rfl rfl rfl Try.sizeOf26 rfl (by simp only [List.all_cons, hc14.2]; rfl) ?_
    refine SJ.erase 0 ?_
    refine SJ.nil ?_
    refine PJ.next ?_
    refine WJ.seq ?_
    refine WJ.reg ?_
    refine SJ.q (YldS.yld (y_loadBN (k := 1) (off := 0) (us := [v9]) rfl Try.isAgg26 Try.sizeOf26 rfl rfl)) rfl ?_
    refine SJ.q (YldS.yld (y_loadBN (k := 0) (off := 0) (us := [v10]) rfl Try.isAgg26 Try.sizeOf26 rfl rfl)) rfl ?_
    obtain ⟨r15, h16, hm⟩ := bindS hm
    refine SJ.call Try.call8 rfl (fun w hw => ok_i_ExchangePlan h16 w _ (hw.row_rd (k := 2) rfl) _ (hw.row_rd (k := 3) rfl)) rfl ?_
    rintro _ _ ⟨v17, rfl, rfl⟩
    refine SJ.q (YldS.yld (y_move rfl)) rfl ?_
    refine SJ.q (YldS.yld (y_extract rfl rfl)) rfl ?_
    refine SJ.q (YldS.yld (y_extract rfl rfl)) rfl ?_
    refine SJ.q (YldS.yld (y_assign rfl)) rfl ?_
    refine SJ.q (YldS.yld (y_assign rfl)) rfl ?_
    refine SJ.nil ?_
    refine PJ.next ?_
    refine WJ.seq ?_
    refine WJ.reg ?_
    refine SJ.q (YldS.yld (y_loadBN (k := 2) (off := 0) (us := [v9]) rfl Try.isAgg26 Try.sizeOf26 rfl rfl)) rfl ?_
    refine SJ.q (YldS.yld (y_loadBN (k := 1) (off := 0) (us := [v10]) rfl Try.isAgg26 Try.sizeOf26 rfl rfl)) rfl ?_
    obtain ⟨r18, h19, hm⟩ := bindS hm
    refine SJ.call Try.call9 rfl (fun w hw => ok_s_ExchangePlan h19 w _ (hw.row_rd (k := 3) rfl) _ (hw.row_rd (k := 4) rfl)) rfl ?_
    rintro _ _ ⟨v20, rfl, rfl⟩
    refine SJ.q (YldS.yld (y_move rfl)) rfl ?_
    refine SJ.q (YldS.yld (y_extract rfl rfl)) rfl ?_
    refine SJ.q (YldS.yld (y_extract rfl rfl)) rfl ?_
    refine SJ.q (YldS.yld (y_assign rfl)) rfl ?_
    refine SJ.q (YldS.yld (y_assign rfl)) rfl ?_
    refine SJ.nil ?_
    refine PJ.next ?_
    refine WJ.seq ?_
    refine WJ.quiet ?_
    refine QJ.step (YldS.yld (y_loadBN (k := 3) (off := 0) (us := [v9]) rfl Try.isAgg26 Try.sizeOf26 rfl rfl)) rfl ?_
    refine QJ.step (YldS.yld (y_loadBN (k := 2) (off := 0) (us := [v10]) rfl Try.isAgg26 Try.sizeOf26 rfl rfl)) rfl ?_
    obtain ⟨r21, h22, hm⟩ := bindS hm
    refine QJ.step (y_call Try.call10 rfl (RetG.quiet fun w hw => ok_i_FewestExchanges h22 w _ (hw.row_rd (k := 4) rfl) _ (hw.row_rd (k := 5) rfl))) rfl ?_
    refine QJ.step (YldS.yld (y_move rfl)) rfl ?_
    refine QJ.step (YldS.yld (y_extract rfl rfl)) rfl ?_
    refine QJ.step (YldS.yld (y_extract rfl rfl)) rfl ?_
    refine QJ.step (YldS.yld (y_assign rfl)) rfl ?_
    refine QJ.step (YldS.yld (y_assign rfl)) rfl ?_
    refine QJ.done ?_
    refine PJ.next ?_
    refine WJ.seq ?_
    refine WJ.quiet ?_
    refine QJ.step (YldS.yld (y_loadBN (k := 3) (off := 0) (us := [v9]) rfl Try.isAgg26 Try.sizeOf26 rfl rfl)) rfl ?_
    refine QJ.step (YldS.yld (y_loadBN (k := 2) (off := 0) (us := [v10]) rfl Try.isAgg26 Try.sizeOf26 rfl rfl)) rfl ?_
    obtain ⟨r23, h24, hm⟩ := bindS hm
    refine QJ.step (y_call Try.call11 rfl (RetG.quiet fun w hw => ok_s_FewestExchanges h24 w _ (hw.row_rd (k := 4) rfl) _ (hw.row_rd (k := 5) rfl))) rfl ?_
    refine QJ.step (YldS.yld (y_move rfl)) rfl ?_
    refine QJ.step (YldS.yld (y_extract rfl rfl)) rfl ?_
    refine QJ.step (YldS.yld (y_extract rfl rfl)) rfl ?_
    refine QJ.step (YldS.yld (y_assign rfl)) rfl ?_
    refine QJ.step (YldS.yld (y_assign rfl)) rfl ?_
    refine QJ.done ?_
    refine PJ.next ?_
    refine WJ.seq ?_
    refine WJ.quiet ?_
    refine QJ.step (YldS.yld (y_loadBN (k := 3) (off := 0) (us := [v9]) rfl Try.isAgg26 Try.sizeOf26 rfl rfl)) rfl ?_
    refine QJ.step (YldS.yld (y_loadBN (k := 2) (off := 0) (us := [v10]) rfl Try.isAgg26 Try.sizeOf26 rfl rfl)) rfl ?_
    obtain ⟨r25, h26, hm⟩ := bindS hm
    refine QJ.step (y_call Try.call12 rfl (RetG.quiet fun w hw => ok_i_MovedLetters h26 w _ (hw.row_rd (k := 4) rfl) _ (hw.row_rd (k := 5) rfl))) rfl ?_
    refine QJ.step (YldS.yld (y_move rfl)) rfl ?_
    refine QJ.step (YldS.yld (y_extract rfl rfl)) rfl ?_
    refine QJ.step (YldS.yld (y_extract rfl rfl)) rfl ?_
    refine QJ.step (YldS.yld (y_assign rfl)) rfl ?_
    refine QJ.step (YldS.yld (y_assign rfl)) rfl ?_
    refine QJ.done ?_
    refine PJ.next ?_
    refine WJ.seq ?_
    refine WJ.quiet ?_
    refine QJ.step (YldS.yld (y_loadBN (k := 3) (off := 0) (us := [v9]) rfl Try.isAgg26 Try.sizeOf26 rfl rfl)) rfl ?_
    refine QJ.step (YldS.yld (y_loadBN (k := 2) (off := 0) (us := [v10]) rfl Try.isAgg26 Try.sizeOf26 rfl rfl)) rfl ?_
    obtain ⟨r27, h28, hm⟩ := bindS hm
    refine QJ.step (y_call Try.call13 rfl (RetG.quiet fun w hw => ok_s_MovedLetters h28 w _ (hw.row_rd (k := 4) rfl) _ (hw.row_rd (k := 5) rfl))) rfl ?_
    refine QJ.step (YldS.yld (y_move rfl)) rfl ?_
    refine QJ.step (YldS.yld (y_extract rfl rfl)) rfl ?_
    refine QJ.step (YldS.yld (y_extract rfl rfl)) rfl ?_
    refine QJ.step (YldS.yld (y_assign rfl)) rfl ?_
    refine QJ.step (YldS.yld (y_assign rfl)) rfl ?_
    refine QJ.done ?_
    refine PJ.next ?_
    refine WJ.seq ?_
    refine WJ.quiet ?_
    refine QJ.step (YldS.yld (y_loadBN (k := 3) (off := 0) (us := [v9]) rfl Try.isAgg26 Try.sizeOf26 rfl rfl)) rfl ?_
    refine QJ.step (YldS.yld (y_loadBN (k := 2) (off := 0) (us := [v10]) rfl Try.isAgg26 Try.sizeOf26 rfl rfl)) rfl ?_
    obtain ⟨r29, h30, hm⟩ := bindS hm
    refine QJ.step (y_call Try.call14 rfl (RetG.quiet fun w hw => ok_i_DistanceOf h30 w _ (hw.row_rd (k := 4) rfl) _ (hw.row_rd (k := 5) rfl))) rfl ?_
    refine QJ.step (YldS.yld (y_move rfl)) rfl ?_
    refine QJ.step (YldS.yld (y_extract rfl rfl)) rfl ?_
    refine QJ.step (YldS.yld (y_extract rfl rfl)) rfl ?_
    refine QJ.step (YldS.yld (y_assign rfl)) rfl ?_
    refine QJ.step (YldS.yld (y_assign rfl)) rfl ?_
    refine QJ.done ?_
    refine PJ.next ?_
    refine WJ.seq ?_
    refine WJ.quiet ?_
    refine QJ.step (YldS.yld (y_loadBN (k := 3) (off := 0) (us := [v9]) rfl Try.isAgg26 Try.sizeOf26 rfl rfl)) rfl ?_
    refine QJ.step (YldS.yld (y_loadBN (k := 2) (off := 0) (us := [v10]) rfl Try.isAgg26 Try.sizeOf26 rfl rfl)) rfl ?_
    obtain ⟨r31, h32, hm⟩ := bindS hm
    refine QJ.step (y_call Try.call15 rfl (RetG.quiet fun w hw => ok_s_DistanceOf h32 w _ (hw.row_rd (k := 4) rfl) _ (hw.row_rd (k := 5) rfl))) rfl ?_
    refine QJ.step (YldS.yld (y_move rfl)) rfl ?_
    refine QJ.step (YldS.yld (y_extract rfl rfl)) rfl ?_
    refine QJ.step (YldS.yld (y_extract rfl rfl)) rfl ?_
    refine QJ.step (YldS.yld (y_assign rfl)) rfl ?_
    refine QJ.step (YldS.yld (y_assign rfl)) rfl ?_
    refine QJ.done ?_
    refine PJ.next ?_
    refine WJ.seq ?_
    refine WJ.seq ?_
    refine WJ.quiet_draw follows (by kernel_rfl) ?_
    refine QJ.step (YldS.yld (y_move rfl)) rfl ?_
    refine QJ.step (YldS.yld (y_move rfl)) rfl ?_
    refine QJ.step (YldS.yld (y_bin rfl rfl rfl)) rfl ?_
    refine QJ.step (YldS.yld (y_move rfl)) rfl ?_
    obtain ⟨t33, h34, hm⟩ := bindS hm
    refine QJ.cut 5 [(3, pt g11 0), (4, pt g12 0), (6, .int .i64 r15.2), (7, v20), (9, .int .i64 r21.1), (10, .int .i64 r21.2), (11, .int .i64 r23.1), (12, .int .i64 r23.2), (13, str r25.1), (14, .int .i64 r25.2), (15, str r27.1), (16, .int .i64 r27.2), (17, .int .i64 r29.1), (18, .int .i64 r29.2), (19, .int .i64 r31.1), (20, .int .i64 r31.2), (88, .bool t33)] ?_ ?_
    · rcases Bool.eq_false_or_eq_true (r15.2 != r18.2) with hb35 | hb35
      · obtain rfl := orT h34 hb35
        refine QJ.off rfl rfl (cB hb35) rfl rfl ?_
        refine QJ.off rfl rfl (cB hb35) rfl rfl ?_
        refine QJ.off rfl rfl (cB hb35) rfl rfl ?_
        refine QJ.off rfl rfl (cB hb35) rfl rfl ?_
        refine QJ.step (YldS.yld (y_pick_t (cB hb35) rfl)) rfl ?_
        exact QJ.cut_end ⟨rfl, rfl, rfl, rfl, rfl, rfl, rfl, rfl, rfl, rfl, rfl, rfl, rfl, rfl, rfl, rfl, rfl, trivial⟩
      · replace h34 := orF h34 hb35
        refine QJ.on rfl rfl (cB hb35) (YldS.yld (y_move rfl)) rfl ?_
        refine QJ.on rfl rfl (cB hb35) (YldS.yld (y_move rfl)) rfl ?_
        obtain ⟨r36, h37, h34⟩ := bindS h34
        refine QJ.on rfl rfl (cB hb35) (y_call Try.call16 rfl (RetG.quiet fun w hw => ok_w_f6texts h37 w _ (hw.row_rd (k := 1) rfl) _ (hw.row_rd (k := 0) rfl))) rfl ?_
        refine QJ.on rfl rfl (cB hb35) (YldS.yld (y_not rfl)) rfl ?_
        refine QJ.step (YldS.yld (y_pick_f (cB hb35) rfl)) rfl ?_
        obtain rfl := Option.some.inj h34
        exact QJ.cut_end ⟨rfl, rfl, rfl, rfl, rfl, rfl, rfl, rfl, rfl, rfl, rfl, rfl, rfl, rfl, rfl, rfl, rfl, trivial⟩
    refine QJ.step (YldS.yld (y_move rfl)) rfl ?_
    obtain ⟨t38, h39, hm⟩ := bindS hm
    refine QJ.cut 4 [(3, pt g11 0), (4, pt g12 0), (6, .int .i64 r15.2), (7, v20), (9, .int .i64 r21.1), (11, .int .i64 r23.1), (13, str r25.1), (14, .int .i64 r25.2), (15, str r27.1), (16, .int .i64 r27.2), (17, .int .i64 r29.1), (18, .int .i64 r29.2), (19, .int .i64 r31.1), (20, .int .i64 r31.2), (93, .bool t38)] ?_ ?_
    · rcases Bool.eq_false_or_eq_true t33 with hb40 | hb40
      · obtain rfl := orT h39 hb40
        refine QJ.off rfl rfl (cB hb40) rfl rfl ?_
        refine QJ.off rfl rfl (cB hb40) rfl rfl ?_
        refine QJ.off rfl rfl (cB hb40) rfl rfl ?_
        refine QJ.step (YldS.yld (y_pick_t (cB hb40) rfl)) rfl ?_
        exact QJ.cut_end ⟨rfl, rfl, rfl, rfl, rfl, rfl, rfl, rfl, rfl, rfl, rfl, rfl, rfl, rfl, rfl, trivial⟩
      · replace h39 := orF h39 hb40
        refine QJ.on rfl rfl (cB hb40) (YldS.yld (y_move rfl)) rfl ?_
        refine QJ.on rfl rfl (cB hb40) (YldS.yld (y_move rfl)) rfl ?_
        refine QJ.on rfl rfl (cB hb40) (YldS.yld (y_bin rfl rfl rfl)) rfl ?_
        refine QJ.step (YldS.yld (y_pick_f (cB hb40) rfl)) rfl ?_
        obtain rfl := Option.some.inj h39
        exact QJ.cut_end ⟨rfl, rfl, rfl, rfl, rfl, rfl, rfl, rfl, rfl, rfl, rfl, rfl, rfl, rfl, rfl, trivial⟩
    refine QJ.step (YldS.yld (y_move rfl)) rfl ?_
    obtain ⟨t41, h42, hm⟩ := bindS hm
    refine QJ.cut 4 [(3, pt g11 0), (4, pt g12 0), (6, .int .i64 r15.2), (7, v20), (9, .int .i64 r21.1), (13, str r25.1), (14, .int .i64 r25.2), (15, str r27.1), (16, .int .i64 r27.2), (17, .int .i64 r29.1), (18, .int .i64 r29.2), (19, .int .i64 r31.1), (20, .int .i64 r31.2), (98, .bool t41)] ?_ ?_
    · rcases Bool.eq_false_or_eq_true t38 with hb43 | hb43
      · obtain rfl := orT h42 hb43
        refine QJ.off rfl rfl (cB hb43) rfl rfl ?_
        refine QJ.off rfl rfl (cB hb43) rfl rfl ?_
        refine QJ.off rfl rfl (cB hb43) rfl rfl ?_
        refine QJ.step (YldS.yld (y_pick_t (cB hb43) rfl)) rfl ?_
        exact QJ.cut_end ⟨rfl, rfl, rfl, rfl, rfl, rfl, rfl, rfl, rfl, rfl, rfl, rfl, rfl, rfl, trivial⟩
      · replace h42 := orF h42 hb43
        refine QJ.on rfl rfl (cB hb43) (YldS.yld (y_move rfl)) rfl ?_
        refine QJ.on rfl rfl (cB hb43) (YldS.yld (y_move rfl)) rfl ?_
        refine QJ.on rfl rfl (cB hb43) (YldS.yld (y_bin rfl rfl rfl)) rfl ?_
        refine QJ.step (YldS.yld (y_pick_f (cB hb43) rfl)) rfl ?_
        obtain rfl := Option.some.inj h42
        exact QJ.cut_end ⟨rfl, rfl, rfl, rfl, rfl, rfl, rfl, rfl, rfl, rfl, rfl, rfl, rfl, rfl, trivial⟩
    refine QJ.step (YldS.yld (y_move rfl)) rfl ?_
    obtain ⟨t44, h45, hm⟩ := bindS hm
    refine QJ.cut 4 [(3, pt g11 0), (4, pt g12 0), (6, .int .i64 r15.2), (7, v20), (9, .int .i64 r21.1), (13, str r25.1), (15, str r27.1), (17, .int .i64 r29.1), (18, .int .i64 r29.2), (19, .int .i64 r31.1), (20, .int .i64 r31.2), (103, .bool t44)] ?_ ?_
    · rcases Bool.eq_false_or_eq_true t41 with hb46 | hb46
      · obtain rfl := orT h45 hb46
        refine QJ.off rfl rfl (cB hb46) rfl rfl ?_
        refine QJ.off rfl rfl (cB hb46) rfl rfl ?_
        refine QJ.off rfl rfl (cB hb46) rfl rfl ?_
        refine QJ.step (YldS.yld (y_pick_t (cB hb46) rfl)) rfl ?_
        exact QJ.cut_end ⟨rfl, rfl, rfl, rfl, rfl, rfl, rfl, rfl, rfl, rfl, rfl, rfl, trivial⟩
      · replace h45 := orF h45 hb46
        refine QJ.on rfl rfl (cB hb46) (YldS.yld (y_move rfl)) rfl ?_
        refine QJ.on rfl rfl (cB hb46) (YldS.yld (y_move rfl)) rfl ?_
        refine QJ.on rfl rfl (cB hb46) (YldS.yld (y_bin rfl rfl rfl)) rfl ?_
        refine QJ.step (YldS.yld (y_pick_f (cB hb46) rfl)) rfl ?_
        obtain rfl := Option.some.inj h45
        exact QJ.cut_end ⟨rfl, rfl, rfl, rfl, rfl, rfl, rfl, rfl, rfl, rfl, rfl, rfl, trivial⟩
    refine QJ.step (YldS.yld (y_move rfl)) rfl ?_
    obtain ⟨t47, h48, hm⟩ := bindS hm
    refine QJ.cut 4 [(3, pt g11 0), (4, pt g12 0), (6, .int .i64 r15.2), (7, v20), (9, .int .i64 r21.1), (13, str r25.1), (17, .int .i64 r29.1), (18, .int .i64 r29.2), (19, .int .i64 r31.1), (20, .int .i64 r31.2), (108, .bool t47)] ?_ ?_
    · rcases Bool.eq_false_or_eq_true t44 with hb49 | hb49
      · obtain rfl := orT h48 hb49
        refine QJ.off rfl rfl (cB hb49) rfl rfl ?_
        refine QJ.off rfl rfl (cB hb49) rfl rfl ?_
        refine QJ.off rfl rfl (cB hb49) rfl rfl ?_
        refine QJ.step (YldS.yld (y_pick_t (cB hb49) rfl)) rfl ?_
        exact QJ.cut_end ⟨rfl, rfl, rfl, rfl, rfl, rfl, rfl, rfl, rfl, rfl, rfl, trivial⟩
      · replace h48 := orF h48 hb49
        refine QJ.on rfl rfl (cB hb49) (YldS.yld (y_move rfl)) rfl ?_
        refine QJ.on rfl rfl (cB hb49) (YldS.yld (y_move rfl)) rfl ?_
        refine QJ.on rfl rfl (cB hb49) (YldS.yld (y_binS rfl rfl rfl)) rfl ?_
        refine QJ.step (YldS.yld (y_pick_f (cB hb49) rfl)) rfl ?_
        obtain rfl := Option.some.inj h48
        exact QJ.cut_end ⟨rfl, rfl, rfl, rfl, rfl, rfl, rfl, rfl, rfl, rfl, rfl, trivial⟩
    refine QJ.step (YldS.yld (y_move rfl)) rfl ?_
    obtain ⟨t50, h51, hm⟩ := bindS hm
    refine QJ.cut 4 [(3, pt g11 0), (4, pt g12 0), (6, .int .i64 r15.2), (7, v20), (9, .int .i64 r21.1), (13, str r25.1), (17, .int .i64 r29.1), (19, .int .i64 r31.1), (113, .bool t50)] ?_ ?_
    · rcases Bool.eq_false_or_eq_true t47 with hb52 | hb52
      · obtain rfl := orT h51 hb52
        refine QJ.off rfl rfl (cB hb52) rfl rfl ?_
        refine QJ.off rfl rfl (cB hb52) rfl rfl ?_
        refine QJ.off rfl rfl (cB hb52) rfl rfl ?_
        refine QJ.step (YldS.yld (y_pick_t (cB hb52) rfl)) rfl ?_
        exact QJ.cut_end ⟨rfl, rfl, rfl, rfl, rfl, rfl, rfl, rfl, rfl, trivial⟩
      · replace h51 := orF h51 hb52
        refine QJ.on rfl rfl (cB hb52) (YldS.yld (y_move rfl)) rfl ?_
        refine QJ.on rfl rfl (cB hb52) (YldS.yld (y_move rfl)) rfl ?_
        refine QJ.on rfl rfl (cB hb52) (YldS.yld (y_bin rfl rfl rfl)) rfl ?_
        refine QJ.step (YldS.yld (y_pick_f (cB hb52) rfl)) rfl ?_
        obtain rfl := Option.some.inj h51
        exact QJ.cut_end ⟨rfl, rfl, rfl, rfl, rfl, rfl, rfl, rfl, rfl, trivial⟩
    refine QJ.step (YldS.yld (y_move rfl)) rfl ?_
    obtain ⟨t53, h54, hm⟩ := bindS hm
    refine QJ.cut 4 [(3, pt g11 0), (4, pt g12 0), (6, .int .i64 r15.2), (7, v20), (9, .int .i64 r21.1), (13, str r25.1), (17, .int .i64 r29.1), (118, .bool t53)] ?_ ?_
    · rcases Bool.eq_false_or_eq_true t50 with hb55 | hb55
      · obtain rfl := orT h54 hb55
        refine QJ.off rfl rfl (cB hb55) rfl rfl ?_
        refine QJ.off rfl rfl (cB hb55) rfl rfl ?_
        refine QJ.off rfl rfl (cB hb55) rfl rfl ?_
        refine QJ.step (YldS.yld (y_pick_t (cB hb55) rfl)) rfl ?_
        exact QJ.cut_end ⟨rfl, rfl, rfl, rfl, rfl, rfl, rfl, rfl, trivial⟩
      · replace h54 := orF h54 hb55
        refine QJ.on rfl rfl (cB hb55) (YldS.yld (y_move rfl)) rfl ?_
        refine QJ.on rfl rfl (cB hb55) (YldS.yld (y_move rfl)) rfl ?_
        refine QJ.on rfl rfl (cB hb55) (YldS.yld (y_bin rfl rfl rfl)) rfl ?_
        refine QJ.step (YldS.yld (y_pick_f (cB hb55) rfl)) rfl ?_
        obtain rfl := Option.some.inj h54
        exact QJ.cut_end ⟨rfl, rfl, rfl, rfl, rfl, rfl, rfl, rfl, trivial⟩
    refine QJ.step (YldS.yld (y_move rfl)) rfl ?_
    obtain ⟨t56, h57, hm⟩ := bindS hm
    refine QJ.cut 8 [(3, pt g11 0), (4, pt g12 0), (6, .int .i64 r15.2), (7, v20), (9, .int .i64 r21.1), (13, str r25.1), (17, .int .i64 r29.1), (127, .bool t56)] ?_ ?_
    · rcases Bool.eq_false_or_eq_true t53 with hb58 | hb58
      · obtain rfl := orT h57 hb58
        refine QJ.off rfl rfl (cB hb58) rfl rfl ?_
        refine QJ.off rfl rfl (cB hb58) rfl rfl ?_
        refine QJ.off rfl rfl (cB hb58) rfl rfl ?_
        refine QJ.off rfl rfl (cB hb58) rfl rfl ?_
        refine QJ.off rfl rfl (cB hb58) rfl rfl ?_
        refine QJ.off rfl rfl (cB hb58) rfl rfl ?_
        refine QJ.off rfl rfl (cB hb58) rfl rfl ?_
        refine QJ.step (YldS.yld (y_pick_t (cB hb58) rfl)) rfl ?_
        exact QJ.cut_end ⟨rfl, rfl, rfl, rfl, rfl, rfl, rfl, rfl, trivial⟩
      · replace h57 := orF h57 hb58
        refine QJ.on rfl rfl (cB hb58) (YldS.yld (y_loadBN (k := 3) (off := 0) (us := [v9]) rfl Try.isAgg26 Try.sizeOf26 rfl rfl)) rfl ?_
        refine QJ.on rfl rfl (cB hb58) (YldS.yld (y_loadBN (k := 2) (off := 0) (us := [v10]) rfl Try.isAgg26 Try.sizeOf26 rfl rfl)) rfl ?_
        obtain ⟨r59, h60, h57⟩ := bindS h57
        refine QJ.on rfl rfl (cB hb58) (y_call Try.call17 rfl (RetG.quiet fun w hw => ok_i_SameLayout h60 w _ (hw.row_rd (k := 4) rfl) _ (hw.row_rd (k := 5) rfl))) rfl ?_
        refine QJ.on rfl rfl (cB hb58) (YldS.yld (y_loadBN (k := 3) (off := 0) (us := [v9]) rfl Try.isAgg26 Try.sizeOf26 rfl rfl)) rfl ?_
        refine QJ.on rfl rfl (cB hb58) (YldS.yld (y_loadBN (k := 2) (off := 0) (us := [v10]) rfl Try.isAgg26 Try.sizeOf26 rfl rfl)) rfl ?_
        obtain ⟨r61, h62, h57⟩ := bindS h57
        refine QJ.on rfl rfl (cB hb58) (y_call Try.call18 rfl (RetG.quiet fun w hw => ok_s_SameLayout h62 w _ (hw.row_rd (k := 4) rfl) _ (hw.row_rd (k := 5) rfl))) rfl ?_
        refine QJ.on rfl rfl (cB hb58) (YldS.yld (y_neB Try.underlying4 rfl rfl rfl)) rfl ?_
        refine QJ.step (YldS.yld (y_pick_f (cB hb58) rfl)) rfl ?_
        obtain rfl := Option.some.inj h57
        exact QJ.cut_end ⟨rfl, rfl, rfl, rfl, rfl, rfl, rfl, rfl, trivial⟩
    refine QJ.done ?_
    refine PJ.next ?_
    refine WJ.cond (t := t56) rfl (fun hb63 => ?_) (fun hb63 => ?_)
    · replace hm := ifT hm hb63
      refine WJ.seq ?_
      refine WJ.quiet ?_
      refine QJ.step (YldS.yld (y_assign rfl)) rfl ?_
      refine QJ.done ?_
      refine PJ.next ?_
      refine WJ.ret ?_
      refine PJ.then_ret ?_
      obtain rfl := Option.some.inj hm
      refine PJ.sel (L' := []) [] ⟨List.nodup_nil, rfl⟩ ?_
      exact PJ.retn (vs := [.bool false]) Try.results3 ⟨rfl, trivial⟩ ⟨rfl, rfl⟩
    · replace hm := ifF hm hb63
      refine WJ.skip ?_
      refine PJ.next ?_
      refine WJ.seq ?_
      refine WJ.seq ?_
      refine WJ.quiet ?_
      refine QJ.step (YldS.yld (y_move rfl)) rfl ?_
      refine QJ.step (YldS.yld (y_bin rfl rfl rfl)) rfl ?_
      refine QJ.done ?_
      refine PJ.next ?_
      refine WJ.cond (t := (r15.2 != 0)) rfl (fun hb64 => ?_) (fun hb64 => ?_)
      · replace hm := ifT hm hb64
        refine WJ.seq ?_
        refine WJ.quiet ?_
        refine QJ.step (YldS.yld (y_assign rfl)) rfl ?_
        refine QJ.done ?_
        refine PJ.next ?_
        refine WJ.ret ?_
        refine PJ.then_ret ?_
        obtain rfl := Option.some.inj hm
        refine PJ.sel (L' := []) [] ⟨List.nodup_nil, rfl⟩ ?_
        exact PJ.retn (vs := [.bool true]) Try.results3 ⟨rfl, trivial⟩ ⟨rfl, rfl⟩
      · replace hm := ifF hm hb64
        refine WJ.skip ?_
        refine PJ.next ?_
        refine WJ.seq ?_
        refine WJ.seq ?_
        refine WJ.quiet ?_
        refine QJ.step (YldS.yld (y_move rfl)) rfl ?_
        refine QJ.step (YldS.yld (y_lenRow (k := 0) rfl Try.runUnderlying24 rfl)) rfl ?_
        refine QJ.step (YldS.yld (y_move rfl)) rfl ?_
        refine QJ.step (YldS.yld (y_bin rfl rfl rfl)) rfl ?_
        refine QJ.step (YldS.yld (y_move rfl)) rfl ?_
        obtain ⟨t65, h66, hm⟩ := bindS hm
        refine QJ.cut 6 [(3, pt g11 0), (4, pt g12 0), (7, v20), (9, .int .i64 r21.1), (13, str r25.1), (17, .int .i64 r29.1), (140, .bool t65)] ?_ ?_
        · rcases Bool.eq_false_or_eq_true ((List.length r18.1 : Int) != r21.1) with hb67 | hb67
          · obtain rfl := orT h66 hb67
            refine QJ.off rfl rfl (cB hb67) rfl rfl ?_
            refine QJ.off rfl rfl (cB hb67) rfl rfl ?_
            refine QJ.off rfl rfl (cB hb67) rfl rfl ?_
            refine QJ.off rfl rfl (cB hb67) rfl rfl ?_
            refine QJ.off rfl rfl (cB hb67) rfl rfl ?_
            refine QJ.step (YldS.yld (y_pick_t (cB hb67) rfl)) rfl ?_
            exact QJ.cut_end ⟨rfl, rfl, rfl, rfl, rfl, rfl, rfl, trivial⟩
          · replace h66 := orF h66 hb67
            refine QJ.on rfl rfl (cB hb67) (YldS.yld (y_move rfl)) rfl ?_
            refine QJ.on rfl rfl (cB hb67) (YldS.yld (y_bin rfl rfl rfl)) rfl ?_
            refine QJ.on rfl rfl (cB hb67) (YldS.yld (y_move rfl)) rfl ?_
            refine QJ.on rfl rfl (cB hb67) (YldS.yld (y_binS rfl rfl rfl)) rfl ?_
            refine QJ.on rfl rfl (cB hb67) (YldS.yld (y_neB Try.underlying4 rfl rfl rfl)) rfl ?_
            refine QJ.step (YldS.yld (y_pick_f (cB hb67) rfl)) rfl ?_
            obtain rfl := Option.some.inj h66
            exact QJ.cut_end ⟨rfl, rfl, rfl, rfl, rfl, rfl, rfl, trivial⟩
        refine QJ.step (YldS.yld (y_move rfl)) rfl ?_
        obtain ⟨t68, h69, hm⟩ := bindS hm
        refine QJ.cut 9 [(3, pt g11 0), (4, pt g12 0), (7, v20), (9, .int .i64 r21.1), (13, str r25.1), (17, .int .i64 r29.1), (150, .bool t68)] ?_ ?_
        · rcases Bool.eq_false_or_eq_true t65 with hb70 | hb70
          · obtain rfl := orT h69 hb70
            refine QJ.off rfl rfl (cB hb70) rfl rfl ?_
            refine QJ.off rfl rfl (cB hb70) rfl rfl ?_
            refine QJ.off rfl rfl (cB hb70) rfl rfl ?_
            refine QJ.off_undef rfl rfl rfl rfl ?_
            refine QJ.off_undef rfl rfl rfl rfl ?_
            refine QJ.off_undef rfl rfl rfl rfl ?_
            refine QJ.off_undef rfl rfl rfl rfl ?_
            refine QJ.off rfl rfl (cB hb70) rfl rfl ?_
            refine QJ.step (YldS.yld (y_pick_t (cB hb70) rfl)) rfl ?_
            exact QJ.cut_end ⟨rfl, rfl, rfl, rfl, rfl, rfl, rfl, trivial⟩
          · replace h69 := orF h69 hb70
            refine QJ.on rfl rfl (cB hb70) (YldS.yld (y_move rfl)) rfl ?_
            refine QJ.on rfl rfl (cB hb70) (YldS.yld (y_bin rfl rfl rfl)) rfl ?_
            refine QJ.on rfl rfl (cB hb70) (YldS.yld (y_move rfl)) rfl ?_
            obtain ⟨t71, h72, h69⟩ := bindS h69
            refine QJ.cut 5 [(3, pt g11 0), (4, pt g12 0), (7, v20), (9, .int .i64 r21.1), (13, str r25.1), (17, .int .i64 r29.1), (141, .bool t65), (149, .bool t71)] ?_ ?_
            · rcases Bool.eq_false_or_eq_true (decide (r21.1 > 0)) with hb73 | hb73
              · replace h72 := andT h72 hb73
                refine QJ.on rfl rfl (cB hb73) (YldS.yld (y_move rfl)) rfl ?_
                refine QJ.on rfl rfl (cB hb73) (YldS.yld (y_move rfl)) rfl ?_
                refine QJ.on rfl rfl (cB hb73) (YldS.yld (y_lenStr Try.runUnderlying9 rfl)) rfl ?_
                refine QJ.on rfl rfl (cB hb73) (YldS.yld (y_bin rfl rfl rfl)) rfl ?_
                refine QJ.on rfl rfl (cB hb70) (YldS.yld (y_pick_t (cB hb73) rfl)) rfl ?_
                obtain rfl := Option.some.inj h72
                exact QJ.cut_end ⟨rfl, rfl, rfl, rfl, rfl, rfl, rfl, rfl, trivial⟩
              · obtain rfl := andF h72 hb73
                refine QJ.off rfl rfl (cB hb73) rfl rfl ?_
                refine QJ.off rfl rfl (cB hb73) rfl rfl ?_
                refine QJ.off rfl rfl (cB hb73) rfl rfl ?_
                refine QJ.off rfl rfl (cB hb73) rfl rfl ?_
                refine QJ.on rfl rfl (cB hb70) (YldS.yld (y_pick_f (cB hb73) rfl)) rfl ?_
                exact QJ.cut_end ⟨rfl, rfl, rfl, rfl, rfl, rfl, rfl, rfl, trivial⟩
            refine QJ.step (YldS.yld (y_pick_f (cB hb70) rfl)) rfl ?_
            obtain rfl := Option.some.inj h69
            exact QJ.cut_end ⟨rfl, rfl, rfl, rfl, rfl, rfl, rfl, trivial⟩
        refine QJ.step (YldS.yld (y_move rfl)) rfl ?_
        obtain ⟨t74, h75, hm⟩ := bindS hm
        refine QJ.cut 6 [(3, pt g11 0), (4, pt g12 0), (7, v20), (9, .int .i64 r21.1), (17, .int .i64 r29.1), (157, .bool t74)] ?_ ?_
        · rcases Bool.eq_false_or_eq_true t68 with hb76 | hb76
          · obtain rfl := orT h75 hb76
            refine QJ.off rfl rfl (cB hb76) rfl rfl ?_
            refine QJ.off rfl rfl (cB hb76) rfl rfl ?_
            refine QJ.off rfl rfl (cB hb76) rfl rfl ?_
            refine QJ.off rfl rfl (cB hb76) rfl rfl ?_
            refine QJ.off rfl rfl (cB hb76) rfl rfl ?_
            refine QJ.step (YldS.yld (y_pick_t (cB hb76) rfl)) rfl ?_
            exact QJ.cut_end ⟨rfl, rfl, rfl, rfl, rfl, rfl, trivial⟩
          · replace h75 := orF h75 hb76
            refine QJ.on rfl rfl (cB hb76) (YldS.yld (y_move rfl)) rfl ?_
            refine QJ.on rfl rfl (cB hb76) (YldS.yld (y_bin rfl rfl rfl)) rfl ?_
            refine QJ.on rfl rfl (cB hb76) (YldS.yld (y_move rfl)) rfl ?_
            refine QJ.on rfl rfl (cB hb76) (YldS.yld (y_lenStr Try.runUnderlying9 rfl)) rfl ?_
            refine QJ.on rfl rfl (cB hb76) (YldS.yld (y_bin rfl rfl rfl)) rfl ?_
            refine QJ.step (YldS.yld (y_pick_f (cB hb76) rfl)) rfl ?_
            obtain rfl := Option.some.inj h75
            exact QJ.cut_end ⟨rfl, rfl, rfl, rfl, rfl, rfl, trivial⟩
        refine QJ.step (YldS.yld (y_move rfl)) rfl ?_
        obtain ⟨t77, h78, hm⟩ := bindS hm
        refine QJ.cut 6 [(3, pt g11 0), (4, pt g12 0), (7, v20), (164, .bool t77)] ?_ ?_
        · rcases Bool.eq_false_or_eq_true t74 with hb79 | hb79
          · obtain rfl := orT h78 hb79
            refine QJ.off rfl rfl (cB hb79) rfl rfl ?_
            refine QJ.off rfl rfl (cB hb79) rfl rfl ?_
            refine QJ.off rfl rfl (cB hb79) rfl rfl ?_
            refine QJ.off rfl rfl (cB hb79) rfl rfl ?_
            refine QJ.off rfl rfl (cB hb79) rfl rfl ?_
            refine QJ.step (YldS.yld (y_pick_t (cB hb79) rfl)) rfl ?_
            exact QJ.cut_end ⟨rfl, rfl, rfl, rfl, trivial⟩
          · replace h78 := orF h78 hb79
            refine QJ.on rfl rfl (cB hb79) (YldS.yld (y_move rfl)) rfl ?_
            refine QJ.on rfl rfl (cB hb79) (YldS.yld (y_bin rfl rfl rfl)) rfl ?_
            refine QJ.on rfl rfl (cB hb79) (YldS.yld (y_move rfl)) rfl ?_
            refine QJ.on rfl rfl (cB hb79) (YldS.yld (y_bin rfl rfl rfl)) rfl ?_
            refine QJ.on rfl rfl (cB hb79) (YldS.yld (y_neB Try.underlying4 rfl rfl rfl)) rfl ?_
            refine QJ.step (YldS.yld (y_pick_f (cB hb79) rfl)) rfl ?_
            obtain rfl := Option.some.inj h78
            exact QJ.cut_end ⟨rfl, rfl, rfl, rfl, trivial⟩
        refine QJ.done ?_
        refine PJ.next ?_
        refine WJ.cond (t := t77) rfl (fun hb80 => ?_) (fun hb80 => ?_)
        · replace hm := ifT hm hb80
          refine WJ.seq ?_
          refine WJ.quiet ?_
          refine QJ.step (YldS.yld (y_assign rfl)) rfl ?_
          refine QJ.done ?_
          refine PJ.next ?_
          refine WJ.ret ?_
          refine PJ.then_ret ?_
          obtain rfl := Option.some.inj hm
          refine PJ.sel (L' := []) [] ⟨List.nodup_nil, rfl⟩ ?_
          exact PJ.retn (vs := [.bool false]) Try.results3 ⟨rfl, trivial⟩ ⟨rfl, rfl⟩
        · replace hm := ifF hm hb80
          refine WJ.skip ?_
          refine PJ.next ?_
          refine WJ.seq ?_
          refine WJ.reg ?_
          refine SJ.q (YldS.yld (y_loadBN (k := 3) (off := 0) (us := [v9]) rfl Try.isAgg26 Try.sizeOf26 rfl rfl)) rfl ?_
          refine SJ.alloc (cs := [.slice none 0 0]) Try.zeroValue26 rfl rfl fun g81 => ?_
          refine SJ.nil_row 9 fStr ?_
          refine SJ.rowCells (k := 6) rfl fun hc82 => ?_
          refine SJ.storeL (k := 1) (off := 0) (us := [v9]) rfl rfl rfl rfl Try.sizeOf26 rfl (by simp only [List.all_cons, hc82.2]; rfl) ?_
          refine SJ.erase 0 ?_
          refine SJ.nil ?_
          refine PJ.next ?_
          obtain ⟨kj85, hk86, hm⟩ := withK_open hm
          refine WJ.join (X := (List Str) × Value) (fun (x : (List Str) × Value) => kj85 x.1 = some r) (fun (x : (List Str) × Value) => [(4, pt g12 0), (21, pt g81 0)]) (fun (x : (List Str) × Value) => [box g81 26 [x.2], box g12 26 [v10], row x.2 9 fStr x.1, row v10 9 fStr r7.2.rows]) ?_ ?_
          · clear hk86
            refine WJ.seq ?_
            refine WJ.quiet ?_
            refine QJ.step (YldS.yld (y_assign rfl)) rfl ?_
            refine QJ.done ?_
            refine PJ.next ?_
            refine WJ.block ?_
            refine WJ.sel (L' := (fun (x : (List Str) × Value × Int) => [box g81 26 [x.2.1], row v20 9 fStr r18.1, box g12 26 [v10], row x.2.1 9 fStr x.1, row v10 9 fStr r7.2.rows]) (r7.1.rows, v9, 0)) [0, 1, 3, 5, 6] ⟨by decide, rfl⟩ ?_
            refine WJ.sub (m' := (fun (x : (List Str) × Value × Int) => [(4, pt g12 0), (7, v20), (21, pt g81 0), (22, .int .i64 x.2.2)]) (r7.1.rows, v9, 0)) ⟨rfl, rfl, rfl, rfl, trivial⟩ ?_
            refine WJ.loop (X := (List Str) × Value × Int) (fun N (x : (List Str) × Value × Int) => w_FnExchanges_l1 kj85 r18 N x.1 x.2.2 = some r) (fun (x : (List Str) × Value × Int) => [(4, pt g12 0), (7, v20), (21, pt g81 0), (22, .int .i64 x.2.2)]) (fun (x : (List Str) × Value × Int) => [box g81 26 [x.2.1], row v20 9 fStr r18.1, box g12 26 [v10], row x.2.1 9 fStr x.1, row v10 9 fStr r7.2.rows]) ?_ N (r7.1.rows, v9, 0) hm
            · rintro N ⟨l87, v88, i89⟩ hI
              have hm := hI; clear hI
              cases N with
              | zero => cases hm
              | succ N =>
              unfold w_FnExchanges_l1 at hm
              refine WJ.seq ?_
              refine WJ.seq ?_
              refine WJ.quiet ?_
              refine QJ.step (YldS.yld (y_move rfl)) rfl ?_
              refine QJ.step (YldS.yld (y_move rfl)) rfl ?_
              refine QJ.step (YldS.yld (y_lenRow (k := 1) rfl Try.runUnderlying24 rfl)) rfl ?_
              refine QJ.step (YldS.yld (y_bin rfl rfl rfl)) rfl ?_
              refine QJ.done ?_
              refine PJ.next ?_
              refine WJ.cond (t := decide (i89 < (List.length r18.1 : Int))) rfl (fun hb90 => ?_) (fun hb90 => ?_)
              · replace hm := ifT hm hb90
                refine WJ.skip ?_
                refine PJ.next ?_
                refine WJ.seq ?_
                refine WJ.block ?_
                refine WJ.seq ?_
                refine WJ.seq ?_
                refine WJ.quiet ?_
                refine QJ.step (YldS.yld (y_move rfl)) rfl ?_
                refine QJ.step (YldS.yld (y_move rfl)) rfl ?_
                obtain ⟨e91, h92, hm⟩ := bindS hm
                refine QJ.step (YldS.yld (y_ixRow (k := 1) (R := fStr) rfl Try.runUnderlying24 Try.sizeOf9 rfl rfl h92)) rfl ?_
                refine QJ.step (YldS.yld (y_loadR (k := 1) (i := (Int.toNat i89)) (off := 0) (u := str e91) rfl Try.isAgg9 rfl (idx_get h92) rfl)) rfl ?_
                refine QJ.step (YldS.yld (y_lenStr Try.runUnderlying9 rfl)) rfl ?_
                refine QJ.step (YldS.yld (y_bin rfl rfl rfl)) rfl ?_
                refine QJ.done ?_
                refine PJ.next ?_
                refine WJ.cond (t := ((List.length e91 : Int) != 2)) rfl (fun hb93 => ?_) (fun hb93 => ?_)
                · replace hm := ifT hm hb93
                  refine WJ.seq ?_
                  refine WJ.quiet ?_
                  refine QJ.step (YldS.yld (y_assign rfl)) rfl ?_
                  refine QJ.done ?_
                  refine PJ.next ?_
                  refine WJ.ret ?_
                  refine PJ.then_ret (PJ.block_ret (PJ.then_ret (PJ.then_ret (PJ.block_ret (PJ.then_ret ?_)))))
                  obtain rfl := Option.some.inj hm
                  refine PJ.sel (L' := []) [] ⟨List.nodup_nil, rfl⟩ ?_
                  exact PJ.retn (vs := [.bool false]) Try.results3 ⟨rfl, trivial⟩ ⟨rfl, rfl⟩
                · replace hm := ifF hm hb93
                  refine WJ.skip ?_
                  refine PJ.next ?_
                  refine WJ.seq ?_
                  obtain ⟨e94, h95, hm⟩ := bindS hm
                  obtain ⟨s96, h97, hm⟩ := bindS hm
                  obtain ⟨e98, h99, hm⟩ := bindS hm
                  obtain ⟨s100, h101, hm⟩ := bindS hm
                  obtain ⟨r102, h103, hm⟩ := bindS hm
                  refine WJ.draws (N := 18) (listed0 := #[false, false, false, false, false, false, false, false, false, false, false, false, false, false, false, false, false, false]) [box g81 26 [v88], row v20 9 fStr r18.1, box g12 26 [v10], row v88 9 fStr l87, row v10 9 fStr r7.2.rows] follows rfl rfl ?_
                  refine RJ.first 0 (listed' := #[true, false, false, false, false, false, false, false, false, false, false, false, false, false, false, false, false, false]) [0, 1, 2, 3, 4] rfl (by kernel_rfl) rfl ⟨by decide, rfl⟩ (y_loadBN (k := 0) (off := 0) (us := [v88]) rfl Try.isAgg26 Try.sizeOf26 rfl rfl) rfl ?_
                  refine RJ.first 1 (listed' := #[true, true, false, false, false, false, false, false, false, false, false, false, false, false, false, false, false, false]) [0, 1, 2, 3, 4] rfl (by kernel_rfl) rfl ⟨by decide, rfl⟩ (y_move rfl) rfl ?_
                  refine RJ.first 2 (listed' := #[true, true, true, false, false, false, false, false, false, false, false, false, false, false, false, false, false, false]) [0, 1, 2, 3, 4] rfl (by kernel_rfl) rfl ⟨by decide, rfl⟩ (y_move rfl) rfl ?_
                  refine RJ.first 3 (listed' := #[true, true, true, true, false, false, false, false, false, false, false, false, false, false, false, false, false, false]) [0, 1, 2, 3, 4] rfl (by kernel_rfl) rfl ⟨by decide, rfl⟩ (y_ixRow (k := 1) (R := fStr) rfl Try.runUnderlying24 Try.sizeOf9 rfl rfl h95) rfl ?_
                  refine RJ.first 4 (listed' := #[true, true, true, true, true, false, false, false, false, false, false, false, false, false, false, false, false, false]) [0, 1, 2, 3, 4] rfl (by kernel_rfl) rfl ⟨by decide, rfl⟩ (y_loadR (k := 1) (i := (Int.toNat i89)) (off := 0) (u := str e94) rfl Try.isAgg9 rfl (idx_get h95) rfl) rfl ?_
                  refine RJ.first 5 (listed' := #[true, true, true, true, true, true, false, false, false, false, false, false, false, false, false, false, false, false]) [0, 1, 2, 3, 4] rfl (by kernel_rfl) rfl ⟨by decide, rfl⟩ (y_subStr (i := none) (j := some 1) h97 Try.runUnderlying9 rfl trivial ⟨_, rfl⟩) rfl ?_
                  refine RJ.first 6 (listed' := #[true, true, true, true, true, true, true, false, false, false, false, false, false, false, false, false, false, false]) [0, 1, 2, 3, 4] rfl (by kernel_rfl) rfl ⟨by decide, rfl⟩ (y_move rfl) rfl ?_
                  refine RJ.first 7 (listed' := #[true, true, true, true, true, true, true, true, false, false, false, false, false, false, false, false, false, false]) [0, 1, 2, 3, 4] rfl (by kernel_rfl) rfl ⟨by decide, rfl⟩ (y_move rfl) rfl ?_
                  refine RJ.first 8 (listed' := #[true, true, true, true, true, true, true, true, true, false, false, false, false, false, false, false, false, false]) [0, 1, 2, 3, 4] rfl (by kernel_rfl) rfl ⟨by decide, rfl⟩ (y_ixRow (k := 1) (R := fStr) rfl Try.runUnderlying24 Try.sizeOf9 rfl rfl h99) rfl ?_
                  refine RJ.first 9 (listed' := #[true, true, true, true, true, true, true, true, true, true, false, false, false, false, false, false, false, false]) [0, 1, 2, 3, 4] rfl (by kernel_rfl) rfl ⟨by decide, rfl⟩ (y_loadR (k := 1) (i := (Int.toNat i89)) (off := 0) (u := str e98) rfl Try.isAgg9 rfl (idx_get h99) rfl) rfl ?_
                  refine RJ.first 10 (listed' := #[true, true, true, true, true, true, true, true, true, true, true, false, false, false, false, false, false, false]) [0, 1, 2, 3, 4] rfl (by kernel_rfl) rfl ⟨by decide, rfl⟩ (y_subStr (i := some 1) (j := none) h101 Try.runUnderlying9 rfl ⟨_, rfl⟩ trivial) rfl ?_
                  refine RJ.hold (X := Nat × Value) 1 #[true, true, true, true, true, true, true, true, true, true, true, true, true, true, true, true, true, false] (fun (x : Nat × Value) => [(4, pt g12 0), (7, v20), (21, pt g81 0), (22, .int .i64 i89), (23, pt x.1 0), (192, .int .i64 r102.2)]) (fun (x : Nat × Value) => [row (.slice none 0 0) 9 fStr [], box x.1 26 [x.2], row x.2 9 fStr r102.1.rows, box g81 26 [v88], row v20 9 fStr r18.1, box g12 26 [v10], row v88 9 fStr l87, row v10 9 fStr r7.2.rows]) ?_ ?_
                  · rintro ⟨g105, v104⟩
                    refine RJ.first 17 (listed' := #[true, true, true, true, true, true, true, true, true, true, true, true, true, true, true, true, true, true]) [3, 4, 5, 6, 7] rfl (by kernel_rfl) rfl ⟨by decide, rfl⟩ (y_assign rfl) rfl ?_
                    refine RJ.fin [3, 4, 5, 6, 7] (by kernel_rfl) ⟨by decide, rfl⟩ ?_
                    refine PJ.next ?_
                    refine WJ.seq ?_
                    refine WJ.seq ?_
                    refine WJ.quiet ?_
                    refine QJ.step (YldS.yld (y_move rfl)) rfl ?_
                    refine QJ.step (YldS.yld (y_bin rfl rfl rfl)) rfl ?_
                    refine QJ.done ?_
                    refine PJ.next ?_
                    refine WJ.cond (t := (r102.2 != 0)) rfl (fun hb108 => ?_) (fun hb108 => ?_)
                    · replace hm := ifT hm hb108
                      refine WJ.seq ?_
                      refine WJ.quiet ?_
                      refine QJ.step (YldS.yld (y_assign rfl)) rfl ?_
                      refine QJ.done ?_
                      refine PJ.next ?_
                      refine WJ.ret ?_
                      refine PJ.then_ret (PJ.block_ret (PJ.then_ret (PJ.then_ret (PJ.block_ret (PJ.then_ret ?_)))))
                      obtain rfl := Option.some.inj hm
                      refine PJ.sel (L' := []) [] ⟨List.nodup_nil, rfl⟩ ?_
                      exact PJ.retn (vs := [.bool false]) Try.results3 ⟨rfl, trivial⟩ ⟨rfl, rfl⟩
                    · replace hm := ifF hm hb108
                      refine WJ.skip ?_
                      refine PJ.next ?_
                      refine WJ.reg ?_
                      refine SJ.q (YldS.yld (y_loadBN (k := 1) (off := 0) (us := [v104]) rfl Try.isAgg26 Try.sizeOf26 rfl rfl)) rfl ?_
                      refine SJ.rowCells (k := 2) rfl fun hc109 => ?_
                      refine SJ.storeL (k := 3) (off := 0) (us := [v104]) rfl rfl rfl rfl Try.sizeOf26 rfl (by simp only [List.all_cons, hc109.2]; rfl) ?_
                      refine SJ.erase 6 ?_
                      refine SJ.nil ?_
                      refine PJ.block_normal (PJ.next ?_)
                      refine WJ.quiet ?_
                      refine QJ.step (YldS.yld (y_move rfl)) rfl ?_
                      refine QJ.step (YldS.yld (y_bin rfl rfl rfl)) rfl ?_
                      refine QJ.step (YldS.yld (y_assign rfl)) rfl ?_
                      refine QJ.done ?_
                      exact PJ.round (r102.1.rows, v104, w64 (i89 + 1)) [3, 4, 5, 2, 6] hm ⟨rfl, rfl, rfl, rfl, trivial⟩ ⟨by decide, rfl⟩
                  · intro hD107
                    refine RJ.step2 11 15 [0, 1, 2, 3, 4] (by kernel_rfl) ⟨by decide, rfl⟩ ?_ ?_
                    · refine RO.of (listed' := #[true, true, true, true, true, true, true, true, true, true, true, true, false, false, false, false, false, false]) rfl rfl ?_
                      refine SJ.call Try.call19 rfl (fun w hw => ok_s_ExchangeLetters h103 w _ (hw.row_rd (k := 3) rfl)) rfl ?_
                      rintro _ _ ⟨v104, rfl, rfl⟩
                      refine SJ.nil ?_
                      refine PJ.draw ?_
                      refine RJ.first 12 (listed' := #[true, true, true, true, true, true, true, true, true, true, true, true, true, false, false, false, false, false]) [1, 2, 3, 4, 5] rfl (by kernel_rfl) rfl ⟨by decide, rfl⟩ (y_move rfl) rfl ?_
                      refine RJ.first 13 (listed' := #[true, true, true, true, true, true, true, true, true, true, true, true, true, true, false, false, false, false]) [1, 2, 3, 4, 5] rfl (by kernel_rfl) rfl ⟨by decide, rfl⟩ (y_extract rfl rfl) rfl ?_
                      refine RJ.first 14 (listed' := #[true, true, true, true, true, true, true, true, true, true, true, true, true, true, true, false, false, false]) [1, 2, 3, 4, 5] rfl (by kernel_rfl) rfl ⟨by decide, rfl⟩ (y_extract rfl rfl) rfl ?_
                      refine RJ.step1 15 [1, 2, 3, 4, 5] (by kernel_rfl) ⟨by decide, rfl⟩ ?_
                      refine RO.of (listed' := #[true, true, true, true, true, true, true, true, true, true, true, true, true, true, true, true, false, false]) rfl rfl ?_
                      refine SJ.alloc (cs := [.slice none 0 0]) Try.zeroValue26 rfl rfl fun g105 => ?_
                      refine SJ.nil_row 9 fStr ?_
                      refine SJ.nil ?_
                      refine PJ.draw ?_
                      refine RJ.step1 16 [3, 4, 5, 6, 7] (by kernel_rfl) ⟨by decide, rfl⟩ ?_
                      refine RO.of (listed' := #[true, true, true, true, true, true, true, true, true, true, true, true, true, true, true, true, true, false]) rfl rfl ?_
                      refine SJ.rowCells (k := 2) rfl fun hc106 => ?_
                      refine SJ.storeL (k := 1) (off := 0) (us := [v104]) rfl rfl rfl rfl Try.sizeOf26 rfl (by simp only [List.all_cons, hc106.2]; rfl) ?_
                      refine SJ.nil ?_
                      refine PJ.draw ?_
                      exact RJ.weak (hD107 (g105, v104)) [0, 1, 2, 3, 4, 5, 6, 7] ⟨rfl, rfl, rfl, rfl, rfl, rfl, trivial⟩ ⟨by decide, rfl⟩
                    · refine RO.of (listed' := #[true, true, true, true, true, true, true, true, true, true, true, false, false, false, false, true, false, false]) rfl rfl ?_
                      refine SJ.alloc (cs := [.slice none 0 0]) Try.zeroValue26 rfl rfl fun g105 => ?_
                      refine SJ.nil_row 9 fStr ?_
                      refine SJ.nil ?_
                      refine PJ.draw ?_
                      refine RJ.step1 11 [2, 3, 4, 5, 6] (by kernel_rfl) ⟨by decide, rfl⟩ ?_
                      refine RO.of (listed' := #[true, true, true, true, true, true, true, true, true, true, true, true, false, false, false, true, false, false]) rfl rfl ?_
                      refine SJ.call Try.call19 rfl (fun w hw => ok_s_ExchangeLetters h103 w _ (hw.row_rd (k := 5) rfl)) rfl ?_
                      rintro _ _ ⟨v104, rfl, rfl⟩
                      refine SJ.nil ?_
                      refine PJ.draw ?_
                      refine RJ.first 12 (listed' := #[true, true, true, true, true, true, true, true, true, true, true, true, true, false, false, true, false, false]) [3, 4, 5, 6, 7] rfl (by kernel_rfl) rfl ⟨by decide, rfl⟩ (y_move rfl) rfl ?_
                      refine RJ.first 13 (listed' := #[true, true, true, true, true, true, true, true, true, true, true, true, true, true, false, true, false, false]) [3, 4, 5, 6, 7] rfl (by kernel_rfl) rfl ⟨by decide, rfl⟩ (y_extract rfl rfl) rfl ?_
                      refine RJ.first 14 (listed' := #[true, true, true, true, true, true, true, true, true, true, true, true, true, true, true, true, false, false]) [3, 4, 5, 6, 7] rfl (by kernel_rfl) rfl ⟨by decide, rfl⟩ (y_extract rfl rfl) rfl ?_
                      refine RJ.step1 16 [3, 4, 5, 6, 7] (by kernel_rfl) ⟨by decide, rfl⟩ ?_
                      refine RO.of (listed' := #[true, true, true, true, true, true, true, true, true, true, true, true, true, true, true, true, true, false]) rfl rfl ?_
                      refine SJ.rowCells (k := 0) rfl fun hc106 => ?_
                      refine SJ.storeL (k := 2) (off := 0) (us := [v104]) rfl rfl rfl rfl Try.sizeOf26 rfl (by simp only [List.all_cons, hc106.2]; rfl) ?_
                      refine SJ.nil ?_
                      refine PJ.draw ?_
                      exact RJ.weak (hD107 (g105, v104)) [1, 2, 0, 3, 4, 5, 6, 7] ⟨rfl, rfl, rfl, rfl, rfl, rfl, trivial⟩ ⟨by decide, rfl⟩
              · replace hm := ifF hm hb90
                refine WJ.exit ?_
                refine PJ.then_exit (PJ.then_exit (PJ.block_exit ?_))
                exact PJ.joined (l87, v88) [0, 2, 3, 4] hm ⟨rfl, rfl, trivial⟩ ⟨by decide, rfl⟩
          · rintro ⟨l83, v84⟩ hm
            subst hk86
            refine WJ.seq ?_
            refine WJ.quiet ?_
            refine QJ.step (YldS.yld (y_loadBN (k := 0) (off := 0) (us := [v84]) rfl Try.isAgg26 Try.sizeOf26 rfl rfl)) rfl ?_
            refine QJ.step (YldS.yld (y_loadBN (k := 1) (off := 0) (us := [v10]) rfl Try.isAgg26 Try.sizeOf26 rfl rfl)) rfl ?_
            obtain ⟨r110, h111, hm⟩ := bindS hm
            refine QJ.step (y_call Try.call18 rfl (RetG.quiet fun w hw => ok_s_SameLayout h111 w _ (hw.row_rd (k := 2) rfl) _ (hw.row_rd (k := 3) rfl))) rfl ?_
            refine QJ.step (YldS.yld (y_assign rfl)) rfl ?_
            refine QJ.done ?_
            refine PJ.next ?_
            refine WJ.ret ?_
            obtain rfl := Option.some.inj hm
            refine PJ.sel (L' := []) [] ⟨List.nodup_nil, rfl⟩ ?_
            exact PJ.retn (vs := [.bool r110]) Try.results3 ⟨rfl, trivial⟩ ⟨rfl, rfl⟩

end Go.Proofs.Ytllaacpkpofbiaa
