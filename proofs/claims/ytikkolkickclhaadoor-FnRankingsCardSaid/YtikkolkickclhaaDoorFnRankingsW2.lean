/-
  The walks: a call hands back what its plain function computes, where that has a value. No other conditions.
-/
import Derived.Test.YtikkolkickclhaaDoorFnRankingsW
import Derived.Test.YtikkolkickclhaaDoorChecked
namespace Go.Proofs.YtikkolkickclhaaDoor
open Go.RowKit Go.Proofs
set_option linter.unusedVariables false
set_option linter.unusedSimpArgs false

set_option maxRecDepth 100000 in
set_option maxHeartbeats 1000000 in
theorem ok_s_l00Put {N : Nat} {list1 : List Int} {n4 : Int} {r : (List Int)} (hm : s_l00Put N list1 n4 = some r) (w : World) (v2 : Value) (hr3 : RdS w (cx w).Fz v2 fI64.rp list1) :
    Calls Tryd.prog 40 #[v2, .int .i64 n4] w (RetG (cx w) fun u L => ∃ (u1 : Value), (u = u1 ∧ L = [row u1 2 fI64 r])) := by
  unfold s_l00Put at hm
  refine Calls.enter [v2, .int .i64 n4] Tryd.func40 rfl Tryd.ntmps40 rfl ?_
  refine WJ.seq ?_
  refine WJ.quiet ?_
  refine QJ.step (YldS.yld (y_assign rfl)) rfl ?_
  refine QJ.done ?_
  refine PJ.next ?_
  refine WJ.seq ?_
  refine WJ.reg ?_
  refine SJ.buildSlice (R := fI64) (os := []) [] Tryd.runUnderlying27 Tryd.sizeOf2 Tryd.zeroValue2 rfl rfl rfl rfl rfl rfl fun v5 => ?_
  refine SJ.q (YldS.yld (y_assign rfl)) rfl ?_
  refine SJ.nil ?_
  refine PJ.next ?_
  refine WJ.seq ?_
  refine WJ.quiet ?_
  refine QJ.step (YldS.yld (y_assign rfl)) rfl ?_
  refine QJ.done ?_
  refine PJ.next ?_
  obtain ⟨kj9, hk10, hm⟩ := withK_open hm
  refine WJ.join (X := (List Int) × Value × Bool) (fun (x : (List Int) × Value × Bool) => kj9 x.1 x.2.2 = some r) (fun (x : (List Int) × Value × Bool) => [(1, .int .i64 n4), (5, x.2.1), (6, .bool x.2.2)]) (fun (x : (List Int) × Value × Bool) => [row x.2.1 2 fI64 x.1]) ?_ ?_
  · clear hk10
    refine WJ.seq ?_
    refine WJ.quiet ?_
    refine QJ.step (YldS.yld (y_assign rfl)) rfl ?_
    refine QJ.done ?_
    refine PJ.next ?_
    refine WJ.block ?_
    refine WJ.sel (L' := (fun (x : (List Int) × Value × Bool × Int) => [row x.2.1 2 fI64 x.1]) ([], v5, false, 0)) [0] ⟨by decide, rfl⟩ ?_
    refine WJ.sub (m' := (fun (x : (List Int) × Value × Bool × Int) => [(0, v2), (1, .int .i64 n4), (5, x.2.1), (6, .bool x.2.2.1), (7, .int .i64 x.2.2.2)]) ([], v5, false, 0)) ⟨rfl, rfl, rfl, rfl, rfl, trivial⟩ ?_
    refine WJ.loop (X := (List Int) × Value × Bool × Int) (fun N (x : (List Int) × Value × Bool × Int) => s_l00Put_l1 kj9 list1 n4 N x.1 x.2.2.1 x.2.2.2 = some r) (fun (x : (List Int) × Value × Bool × Int) => [(0, v2), (1, .int .i64 n4), (5, x.2.1), (6, .bool x.2.2.1), (7, .int .i64 x.2.2.2)]) (fun (x : (List Int) × Value × Bool × Int) => [row x.2.1 2 fI64 x.1]) ?_ N ([], v5, false, 0) hm
    · rintro N ⟨l11, v12, done13, i14⟩ hI
      have hm := hI; clear hI
      cases N with
      | zero => cases hm
      | succ N =>
      unfold s_l00Put_l1 at hm
      refine WJ.seq ?_
      refine WJ.seq ?_
      refine WJ.quiet ?_
      refine QJ.step (YldS.yld (y_move rfl)) rfl ?_
      refine QJ.step (YldS.yld (y_move rfl)) rfl ?_
      refine QJ.step (YldS.yld (y_lenS Tryd.runUnderlying27 hr3 rfl)) rfl ?_
      refine QJ.step (YldS.yld (y_bin rfl rfl rfl)) rfl ?_
      refine QJ.done ?_
      refine PJ.next ?_
      refine WJ.cond (t := decide (i14 < (List.length list1 : Int))) rfl (fun hb15 => ?_) (fun hb15 => ?_)
      · replace hm := ifT hm hb15
        refine WJ.skip ?_
        refine PJ.next ?_
        refine WJ.seq ?_
        refine WJ.block ?_
        obtain ⟨kj19, hk20, hm⟩ := withK_open hm
        refine WJ.join (X := (List Int) × Value × Bool) (fun (x : (List Int) × Value × Bool) => kj19 x.1 x.2.2 = some r) (fun (x : (List Int) × Value × Bool) => [(0, v2), (1, .int .i64 n4), (5, x.2.1), (6, .bool x.2.2), (7, .int .i64 i14)]) (fun (x : (List Int) × Value × Bool) => [row x.2.1 2 fI64 x.1]) ?_ ?_
        · clear hk20
          refine WJ.seq ?_
          refine WJ.quiet ?_
          refine QJ.step (YldS.yld (y_move rfl)) rfl ?_
          refine QJ.step (YldS.yld (y_not rfl)) rfl ?_
          refine QJ.step (YldS.yld (y_move rfl)) rfl ?_
          obtain ⟨t21, h22, hm⟩ := bindS hm
          refine QJ.cut 7 [(0, v2), (1, .int .i64 n4), (5, v12), (6, .bool done13), (7, .int .i64 i14), (24, .bool t21)] ?_ ?_
          · rcases Bool.eq_false_or_eq_true (!done13) with hb23 | hb23
            · replace h22 := andT h22 hb23
              refine QJ.on rfl rfl (cB hb23) (YldS.yld (y_move rfl)) rfl ?_
              refine QJ.on rfl rfl (cB hb23) (YldS.yld (y_move rfl)) rfl ?_
              obtain ⟨e24, h25, h22⟩ := bindS h22
              obtain ⟨ad26, _, rfl, ha27, hy28⟩ := hr3.elem h25
              refine QJ.on rfl rfl (cB hb23) (YldS.yld (hy28 Tryd.runUnderlying27 Tryd.sizeOf2 rfl rfl)) rfl ?_
              refine QJ.on rfl rfl (cB hb23) (YldS.yld (y_load1 (v := .int .i64 e24) Tryd.isAgg2 ha27 St.frozenC rfl)) rfl ?_
              refine QJ.on rfl rfl (cB hb23) (YldS.yld (y_move rfl)) rfl ?_
              refine QJ.on rfl rfl (cB hb23) (YldS.yld (y_bin rfl rfl rfl)) rfl ?_
              refine QJ.step (YldS.yld (y_pick_t (cB hb23) rfl)) rfl ?_
              obtain rfl := Option.some.inj h22
              exact QJ.cut_end ⟨rfl, rfl, rfl, rfl, rfl, rfl, trivial⟩
            · obtain rfl := andF h22 hb23
              refine QJ.off rfl rfl (cB hb23) rfl rfl ?_
              refine QJ.off rfl rfl (cB hb23) rfl rfl ?_
              refine QJ.off rfl rfl (cB hb23) rfl rfl ?_
              refine QJ.off rfl rfl (cB hb23) rfl rfl ?_
              refine QJ.off rfl rfl (cB hb23) rfl rfl ?_
              refine QJ.off rfl rfl (cB hb23) rfl rfl ?_
              refine QJ.step (YldS.yld (y_pick_f (cB hb23) rfl)) rfl ?_
              exact QJ.cut_end ⟨rfl, rfl, rfl, rfl, rfl, rfl, trivial⟩
          refine QJ.done ?_
          refine PJ.next ?_
          refine WJ.cond (t := t21) rfl (fun hb29 => ?_) (fun hb29 => ?_)
          · replace hm := ifT hm hb29
            refine WJ.seq ?_
            refine WJ.quiet ?_
            refine QJ.step (YldS.yld (y_assign rfl)) rfl ?_
            refine QJ.done ?_
            refine PJ.next ?_
            refine WJ.seq ?_
            refine WJ.quiet ?_
            refine QJ.step (YldS.yld (y_move rfl)) rfl ?_
            refine QJ.step (YldS.yld (y_move rfl)) rfl ?_
            obtain ⟨e30, h31, hm⟩ := bindS hm
            obtain ⟨ad32, _, rfl, ha33, hy34⟩ := hr3.elem h31
            refine QJ.step (YldS.yld (hy34 Tryd.runUnderlying27 Tryd.sizeOf2 rfl rfl)) rfl ?_
            refine QJ.step (YldS.yld (y_load1 (v := .int .i64 e30) Tryd.isAgg2 ha33 St.frozenC rfl)) rfl ?_
            refine QJ.step (YldS.yld (y_move rfl)) rfl ?_
            refine QJ.step (YldS.yld (y_bin rfl rfl rfl)) rfl ?_
            refine QJ.done ?_
            refine PJ.next ?_
            refine WJ.cond (t := decide (e30 > n4)) rfl (fun hb35 => ?_) (fun hb35 => ?_)
            · replace hm := ifT hm hb35
              refine WJ.reg ?_
              refine SJ.q (YldS.yld (y_move rfl)) rfl ?_
              refine SJ.q (YldS.yld (y_move rfl)) rfl ?_
              refine SJ.buildSlice (R := fI64) (os := [.tmp 32]) [n4] Tryd.runUnderlying27 Tryd.sizeOf2 Tryd.zeroValue2 rfl rfl rfl rfl rfl rfl fun v36 => ?_
              obtain ⟨l37, h38, hm⟩ := bindS hm
              refine SJ.append (k := 1) (R := fI64) h38 rfl Tryd.underlying27 el2 rfl rfl rfl (fun w hw => (hw.row_rd (k := 0) rfl)) rfl fun v39 => ?_
              refine SJ.q (YldS.yld (y_assign rfl)) rfl ?_
              refine SJ.nil ?_
              exact PJ.joined (l37, v39, true) [1] hm ⟨rfl, rfl, rfl, rfl, rfl, trivial⟩ ⟨by decide, rfl⟩
            · replace hm := ifF hm hb35
              refine WJ.skip ?_
              exact PJ.joined (l11, v12, true) [0] hm ⟨rfl, rfl, rfl, rfl, rfl, trivial⟩ ⟨by decide, rfl⟩
          · replace hm := ifF hm hb29
            refine WJ.skip ?_
            exact PJ.joined (l11, v12, done13) [0] hm ⟨rfl, rfl, rfl, rfl, rfl, trivial⟩ ⟨by decide, rfl⟩
        · rintro ⟨l16, v17, done18⟩ hm
          subst hk20
          refine WJ.reg ?_
          refine SJ.q (YldS.yld (y_move rfl)) rfl ?_
          refine SJ.q (YldS.yld (y_move rfl)) rfl ?_
          refine SJ.q (YldS.yld (y_move rfl)) rfl ?_
          obtain ⟨e40, h41, hm⟩ := bindS hm
          obtain ⟨ad42, _, rfl, ha43, hy44⟩ := hr3.elem h41
          refine SJ.q (YldS.yld (hy44 Tryd.runUnderlying27 Tryd.sizeOf2 rfl rfl)) rfl ?_
          refine SJ.q (YldS.yld (y_load1 (v := .int .i64 e40) Tryd.isAgg2 ha43 St.frozenC rfl)) rfl ?_
          refine SJ.buildSlice (R := fI64) (os := [.tmp 39]) [e40] Tryd.runUnderlying27 Tryd.sizeOf2 Tryd.zeroValue2 rfl rfl rfl rfl rfl rfl fun v45 => ?_
          obtain ⟨l46, h47, hm⟩ := bindS hm
          refine SJ.append (k := 1) (R := fI64) h47 rfl Tryd.underlying27 el2 rfl rfl rfl (fun w hw => (hw.row_rd (k := 0) rfl)) rfl fun v48 => ?_
          refine SJ.q (YldS.yld (y_assign rfl)) rfl ?_
          refine SJ.nil ?_
          refine PJ.block_normal (PJ.next ?_)
          refine WJ.quiet ?_
          refine QJ.step (YldS.yld (y_move rfl)) rfl ?_
          refine QJ.step (YldS.yld (y_bin rfl rfl rfl)) rfl ?_
          refine QJ.step (YldS.yld (y_assign rfl)) rfl ?_
          refine QJ.done ?_
          exact PJ.round (l46, v48, done18, w64 (i14 + 1)) [1] hm ⟨rfl, rfl, rfl, rfl, rfl, trivial⟩ ⟨by decide, rfl⟩
      · replace hm := ifF hm hb15
        refine WJ.exit ?_
        refine PJ.then_exit (PJ.then_exit (PJ.block_exit ?_))
        exact PJ.joined (l11, v12, done13) [0] hm ⟨rfl, rfl, rfl, trivial⟩ ⟨by decide, rfl⟩
  · rintro ⟨l6, v7, done8⟩ hm
    subst hk10
    obtain ⟨kj51, hk52, hm⟩ := withK_open hm
    refine WJ.join (X := (List Int) × Value) (fun (x : (List Int) × Value) => kj51 x.1 = some r) (fun (x : (List Int) × Value) => [(5, x.2)]) (fun (x : (List Int) × Value) => [row x.2 2 fI64 x.1]) ?_ ?_
    · clear hk52
      refine WJ.seq ?_
      refine WJ.quiet ?_
      refine QJ.step (YldS.yld (y_move rfl)) rfl ?_
      refine QJ.step (YldS.yld (y_not rfl)) rfl ?_
      refine QJ.done ?_
      refine PJ.next ?_
      refine WJ.cond (t := !done8) rfl (fun hb53 => ?_) (fun hb53 => ?_)
      · replace hm := ifT hm hb53
        refine WJ.reg ?_
        refine SJ.q (YldS.yld (y_move rfl)) rfl ?_
        refine SJ.q (YldS.yld (y_move rfl)) rfl ?_
        refine SJ.buildSlice (R := fI64) (os := [.tmp 45]) [n4] Tryd.runUnderlying27 Tryd.sizeOf2 Tryd.zeroValue2 rfl rfl rfl rfl rfl rfl fun v54 => ?_
        obtain ⟨l55, h56, hm⟩ := bindS hm
        refine SJ.append (k := 1) (R := fI64) h56 rfl Tryd.underlying27 el2 rfl rfl rfl (fun w hw => (hw.row_rd (k := 0) rfl)) rfl fun v57 => ?_
        refine SJ.q (YldS.yld (y_assign rfl)) rfl ?_
        refine SJ.nil ?_
        exact PJ.joined (l55, v57) [1] hm ⟨rfl, trivial⟩ ⟨by decide, rfl⟩
      · replace hm := ifF hm hb53
        refine WJ.skip ?_
        exact PJ.joined (l6, v7) [0] hm ⟨rfl, trivial⟩ ⟨by decide, rfl⟩
    · rintro ⟨l49, v50⟩ hm
      subst hk52
      refine WJ.seq ?_
      refine WJ.quiet ?_
      refine QJ.step (YldS.yld (y_move rfl)) rfl ?_
      refine QJ.step (YldS.yld (y_assign rfl)) rfl ?_
      refine QJ.done ?_
      refine PJ.next ?_
      refine WJ.ret ?_
      obtain rfl := Option.some.inj hm
      refine PJ.sel (L' := [row v50 2 fI64 l49]) [0] ⟨by decide, rfl⟩ ?_
      exact PJ.retn (vs := [v50]) Tryd.results40 ⟨rfl, trivial⟩ ⟨_, rfl, rfl⟩

set_option maxRecDepth 100000 in
set_option maxHeartbeats 1000000 in
theorem ok_s_QualifyFrom {N : Nat} {list1 : List Result} {heats4 : List Int} {each7 : Int} {rest8 : Int} {r : (List Int) × Int} (hm : s_QualifyFrom N list1 heats4 each7 rest8 = some r) (w : World) (v2 : Value) (hr3 : RdS w (cx w).Fz v2 fResult.rp list1) (v5 : Value) (hr6 : RdS w (cx w).Fz v5 fI64.rp heats4) :
    Calls Tryd.prog 14 #[v2, v5, .int .i64 each7, .int .i64 rest8] w (RetG (cx w) fun u L => ∃ (u1 : Value), (u = tup [u1, .int .i64 r.2] ∧ L = [row u1 2 fI64 r.1])) := by
  unfold s_QualifyFrom at hm
  refine Calls.enter [v2, v5, .int .i64 each7, .int .i64 rest8] Tryd.func14 rfl Tryd.ntmps14 rfl ?_
  refine WJ.seq ?_
  refine WJ.quiet ?_
  refine QJ.step (YldS.yld (y_assign rfl)) rfl ?_
  refine QJ.step (YldS.yld (y_assign rfl)) rfl ?_
  refine QJ.done ?_
  refine PJ.next ?_
  refine WJ.seq ?_
  refine WJ.seq ?_
  refine WJ.quiet ?_
  refine QJ.step (YldS.yld (y_move rfl)) rfl ?_
  obtain ⟨r9, h10, hm⟩ := bindS hm
  refine QJ.step (y_call Tryd.call33 rfl (RetG.quiet fun w hw => ok_s_l22Ok h10 w _ (hr3.st hw))) rfl ?_
  refine QJ.step (YldS.yld (y_not rfl)) rfl ?_
  refine QJ.done ?_
  refine PJ.next ?_
  refine WJ.cond (t := !r9) rfl (fun hb11 => ?_) (fun hb11 => ?_)
  · replace hm := ifT hm hb11
    refine WJ.seq ?_
    refine WJ.quiet ?_
    refine QJ.step (YldS.yld (y_assign rfl)) rfl ?_
    refine QJ.step (YldS.yld (y_assign rfl)) rfl ?_
    refine QJ.done ?_
    refine PJ.next ?_
    refine WJ.ret ?_
    refine PJ.then_ret ?_
    refine PJ.nil_row 2 fI64 ?_
    obtain rfl := Option.some.inj hm
    refine PJ.sel (L' := [row (.slice none 0 0) 2 fI64 []]) [0] ⟨by decide, rfl⟩ ?_
    exact PJ.retn (vs := [(.slice none 0 0), .int .i64 1]) Tryd.results14 ⟨rfl, rfl, trivial⟩ ⟨_, rfl, rfl⟩
  · replace hm := ifF hm hb11
    refine WJ.skip ?_
    refine PJ.next ?_
    obtain ⟨kj12, hk13, hm⟩ := withK_open hm
    refine WJ.join (X := Unit) (fun (_ : Unit) => kj12  = some r) (fun (_ : Unit) => [(0, v2), (1, v5), (2, .int .i64 each7), (3, .int .i64 rest8)]) (fun (_ : Unit) => []) ?_ ?_
    · clear hk13
      refine WJ.seq ?_
      refine WJ.quiet ?_
      refine QJ.step (YldS.yld (y_assign rfl)) rfl ?_
      refine QJ.done ?_
      refine PJ.next ?_
      refine WJ.block ?_
      refine WJ.sel (L' := (fun (x : Int) => []) 0) [] ⟨List.nodup_nil, rfl⟩ ?_
      refine WJ.sub (m' := (fun (x : Int) => [(0, v2), (1, v5), (2, .int .i64 each7), (3, .int .i64 rest8), (10, .int .i64 x)]) 0) ⟨rfl, rfl, rfl, rfl, rfl, trivial⟩ ?_
      refine WJ.loop (X := Int) (fun N (x : Int) => s_QualifyFrom_l1 kj12 heats4 N x = some r) (fun (x : Int) => [(0, v2), (1, v5), (2, .int .i64 each7), (3, .int .i64 rest8), (10, .int .i64 x)]) (fun (x : Int) => []) ?_ N 0 hm
      · rintro N i14 hI
        have hm := hI; clear hI
        cases N with
        | zero => cases hm
        | succ N =>
        unfold s_QualifyFrom_l1 at hm
        refine WJ.seq ?_
        refine WJ.seq ?_
        refine WJ.quiet ?_
        refine QJ.step (YldS.yld (y_move rfl)) rfl ?_
        refine QJ.step (YldS.yld (y_move rfl)) rfl ?_
        refine QJ.step (YldS.yld (y_lenS Tryd.runUnderlying27 hr6 rfl)) rfl ?_
        refine QJ.step (YldS.yld (y_bin rfl rfl rfl)) rfl ?_
        refine QJ.done ?_
        refine PJ.next ?_
        refine WJ.cond (t := decide (i14 < (List.length heats4 : Int))) rfl (fun hb15 => ?_) (fun hb15 => ?_)
        · replace hm := ifT hm hb15
          refine WJ.skip ?_
          refine PJ.next ?_
          refine WJ.seq ?_
          refine WJ.block ?_
          refine WJ.seq ?_
          refine WJ.quiet ?_
          refine QJ.step (YldS.yld (y_move rfl)) rfl ?_
          refine QJ.step (YldS.yld (y_move rfl)) rfl ?_
          obtain ⟨e16, h17, hm⟩ := bindS hm
          obtain ⟨ad18, _, rfl, ha19, hy20⟩ := hr6.elem h17
          refine QJ.step (YldS.yld (hy20 Tryd.runUnderlying27 Tryd.sizeOf2 rfl rfl)) rfl ?_
          refine QJ.step (YldS.yld (y_load1 (v := .int .i64 e16) Tryd.isAgg2 ha19 St.frozenC rfl)) rfl ?_
          obtain ⟨r21, h22, hm⟩ := bindS hm
          refine QJ.step (y_call Tryd.call34 rfl (RetG.quiet fun w hw => ok_s_l00In h22 w )) rfl ?_
          refine QJ.step (YldS.yld (y_not rfl)) rfl ?_
          refine QJ.done ?_
          refine PJ.next ?_
          refine WJ.cond (t := !r21) rfl (fun hb23 => ?_) (fun hb23 => ?_)
          · replace hm := ifT hm hb23
            refine WJ.seq ?_
            refine WJ.quiet ?_
            refine QJ.step (YldS.yld (y_assign rfl)) rfl ?_
            refine QJ.step (YldS.yld (y_assign rfl)) rfl ?_
            refine QJ.done ?_
            refine PJ.next ?_
            refine WJ.ret ?_
            refine PJ.block_ret (PJ.then_ret (PJ.then_ret (PJ.block_ret (PJ.then_ret ?_))))
            refine PJ.nil_row 2 fI64 ?_
            obtain rfl := Option.some.inj hm
            refine PJ.sel (L' := [row (.slice none 0 0) 2 fI64 []]) [0] ⟨by decide, rfl⟩ ?_
            exact PJ.retn (vs := [(.slice none 0 0), .int .i64 2]) Tryd.results14 ⟨rfl, rfl, trivial⟩ ⟨_, rfl, rfl⟩
          · replace hm := ifF hm hb23
            refine WJ.skip ?_
            refine PJ.block_normal (PJ.next ?_)
            refine WJ.quiet ?_
            refine QJ.step (YldS.yld (y_move rfl)) rfl ?_
            refine QJ.step (YldS.yld (y_bin rfl rfl rfl)) rfl ?_
            refine QJ.step (YldS.yld (y_assign rfl)) rfl ?_
            refine QJ.done ?_
            exact PJ.round (w64 (i14 + 1)) [] hm ⟨rfl, rfl, rfl, rfl, rfl, trivial⟩ ⟨List.nodup_nil, rfl⟩
        · replace hm := ifF hm hb15
          refine WJ.exit ?_
          refine PJ.then_exit (PJ.then_exit (PJ.block_exit ?_))
          exact PJ.joined () [] hm ⟨rfl, rfl, rfl, rfl, trivial⟩ ⟨List.nodup_nil, rfl⟩
    · rintro _ hm
      subst hk13
      refine WJ.seq ?_
      refine WJ.seq ?_
      refine WJ.quiet ?_
      refine QJ.step (YldS.yld (y_move rfl)) rfl ?_
      refine QJ.step (YldS.yld (y_lenS Tryd.runUnderlying27 hr6 rfl)) rfl ?_
      refine QJ.step (YldS.yld (y_move rfl)) rfl ?_
      refine QJ.step (YldS.yld (y_lenS Tryd.runUnderlying24 hr3 rfl)) rfl ?_
      refine QJ.step (YldS.yld (y_bin rfl rfl rfl)) rfl ?_
      refine QJ.step (YldS.yld (y_move rfl)) rfl ?_
      obtain ⟨t24, h25, hm⟩ := bindS hm
      refine QJ.cut 4 [(0, v2), (1, v5), (2, .int .i64 each7), (3, .int .i64 rest8), (40, .bool t24)] ?_ ?_
      · rcases Bool.eq_false_or_eq_true ((List.length heats4 : Int) != (List.length list1 : Int)) with hb26 | hb26
        · obtain rfl := orT h25 hb26
          refine QJ.off rfl rfl (cB hb26) rfl rfl ?_
          refine QJ.off rfl rfl (cB hb26) rfl rfl ?_
          refine QJ.off rfl rfl (cB hb26) rfl rfl ?_
          refine QJ.step (YldS.yld (y_pick_t (cB hb26) rfl)) rfl ?_
          exact QJ.cut_end ⟨rfl, rfl, rfl, rfl, rfl, trivial⟩
        · replace h25 := orF h25 hb26
          refine QJ.on rfl rfl (cB hb26) (YldS.yld (y_move rfl)) rfl ?_
          obtain ⟨r27, h28, h25⟩ := bindS h25
          refine QJ.on rfl rfl (cB hb26) (y_call Tryd.call34 rfl (RetG.quiet fun w hw => ok_s_l00In h28 w )) rfl ?_
          refine QJ.on rfl rfl (cB hb26) (YldS.yld (y_not rfl)) rfl ?_
          refine QJ.step (YldS.yld (y_pick_f (cB hb26) rfl)) rfl ?_
          obtain rfl := Option.some.inj h25
          exact QJ.cut_end ⟨rfl, rfl, rfl, rfl, rfl, trivial⟩
      refine QJ.step (YldS.yld (y_move rfl)) rfl ?_
      obtain ⟨t29, h30, hm⟩ := bindS hm
      refine QJ.cut 4 [(0, v2), (1, v5), (2, .int .i64 each7), (3, .int .i64 rest8), (45, .bool t29)] ?_ ?_
      · rcases Bool.eq_false_or_eq_true t24 with hb31 | hb31
        · obtain rfl := orT h30 hb31
          refine QJ.off rfl rfl (cB hb31) rfl rfl ?_
          refine QJ.off rfl rfl (cB hb31) rfl rfl ?_
          refine QJ.off rfl rfl (cB hb31) rfl rfl ?_
          refine QJ.step (YldS.yld (y_pick_t (cB hb31) rfl)) rfl ?_
          exact QJ.cut_end ⟨rfl, rfl, rfl, rfl, rfl, trivial⟩
        · replace h30 := orF h30 hb31
          refine QJ.on rfl rfl (cB hb31) (YldS.yld (y_move rfl)) rfl ?_
          obtain ⟨r32, h33, h30⟩ := bindS h30
          refine QJ.on rfl rfl (cB hb31) (y_call Tryd.call34 rfl (RetG.quiet fun w hw => ok_s_l00In h33 w )) rfl ?_
          refine QJ.on rfl rfl (cB hb31) (YldS.yld (y_not rfl)) rfl ?_
          refine QJ.step (YldS.yld (y_pick_f (cB hb31) rfl)) rfl ?_
          obtain rfl := Option.some.inj h30
          exact QJ.cut_end ⟨rfl, rfl, rfl, rfl, rfl, trivial⟩
      refine QJ.done ?_
      refine PJ.next ?_
      refine WJ.cond (t := t29) rfl (fun hb34 => ?_) (fun hb34 => ?_)
      · replace hm := ifT hm hb34
        refine WJ.seq ?_
        refine WJ.quiet ?_
        refine QJ.step (YldS.yld (y_assign rfl)) rfl ?_
        refine QJ.step (YldS.yld (y_assign rfl)) rfl ?_
        refine QJ.done ?_
        refine PJ.next ?_
        refine WJ.ret ?_
        refine PJ.then_ret ?_
        refine PJ.nil_row 2 fI64 ?_
        obtain rfl := Option.some.inj hm
        refine PJ.sel (L' := [row (.slice none 0 0) 2 fI64 []]) [0] ⟨by decide, rfl⟩ ?_
        exact PJ.retn (vs := [(.slice none 0 0), .int .i64 2]) Tryd.results14 ⟨rfl, rfl, trivial⟩ ⟨_, rfl, rfl⟩
      · replace hm := ifF hm hb34
        refine WJ.skip ?_
        refine PJ.next ?_
        refine WJ.seq ?_
        refine WJ.reg ?_
        refine SJ.buildSlice (R := fI64) (os := []) [] Tryd.runUnderlying27 Tryd.sizeOf2 Tryd.zeroValue2 rfl rfl rfl rfl rfl rfl fun v35 => ?_
        refine SJ.q (YldS.yld (y_assign rfl)) rfl ?_
        refine SJ.nil ?_
        refine PJ.next ?_
        refine WJ.seq ?_
        refine WJ.reg ?_
        obtain ⟨l36, h37, hm⟩ := bindS hm
        refine SJ.makeSlice (R := fI64) (z := 0) h37 Tryd.underlying27 el2 rfl rfl rfl fun v38 => ?_
        refine SJ.q (YldS.yld (y_assign rfl)) rfl ?_
        refine SJ.nil ?_
        refine PJ.next ?_
        refine WJ.seq ?_
        refine WJ.reg ?_
        refine SJ.q (YldS.yld (y_move rfl)) rfl ?_
        obtain ⟨r39, h40, hm⟩ := bindS hm
        refine SJ.call Tryd.call35 rfl (fun w hw => ok_s_l22Rank h40 w _ (hr3.st hw)) rfl ?_
        rintro v41 _ ⟨_, rfl, rfl⟩
        refine SJ.q (YldS.yld (y_assign rfl)) rfl ?_
        refine SJ.nil ?_
        refine PJ.next ?_
        obtain ⟨kj44, hk45, hm⟩ := withK_open hm
        refine WJ.join (X := (List Int) × Value) (fun (x : (List Int) × Value) => kj44 x.1 = some r) (fun (x : (List Int) × Value) => [(11, x.2)]) (fun (x : (List Int) × Value) => [row x.2 2 fI64 x.1]) ?_ ?_
        · clear hk45
          refine WJ.seq ?_
          refine WJ.quiet ?_
          refine QJ.step (YldS.yld (y_assign rfl)) rfl ?_
          refine QJ.done ?_
          refine PJ.next ?_
          refine WJ.block ?_
          refine WJ.sel (L' := (fun (x : (List Int) × (List Int) × Value × Int × Int) => [row v41 2 fI64 r39, row v38 2 fI64 x.1, row x.2.2.1 2 fI64 x.2.1]) (l36, [], v35, rest8, 0)) [0, 1, 2] ⟨by decide, rfl⟩ ?_
          refine WJ.sub (m' := (fun (x : (List Int) × (List Int) × Value × Int × Int) => [(1, v5), (2, .int .i64 each7), (3, .int .i64 x.2.2.2.1), (11, x.2.2.1), (12, v38), (13, v41), (14, .int .i64 x.2.2.2.2)]) (l36, [], v35, rest8, 0)) ⟨rfl, rfl, rfl, rfl, rfl, rfl, rfl, trivial⟩ ?_
          refine WJ.loop (X := (List Int) × (List Int) × Value × Int × Int) (fun N (x : (List Int) × (List Int) × Value × Int × Int) => s_QualifyFrom_l2 kj44 heats4 each7 r39 N x.1 x.2.1 x.2.2.2.1 x.2.2.2.2 = some r) (fun (x : (List Int) × (List Int) × Value × Int × Int) => [(1, v5), (2, .int .i64 each7), (3, .int .i64 x.2.2.2.1), (11, x.2.2.1), (12, v38), (13, v41), (14, .int .i64 x.2.2.2.2)]) (fun (x : (List Int) × (List Int) × Value × Int × Int) => [row v41 2 fI64 r39, row v38 2 fI64 x.1, row x.2.2.1 2 fI64 x.2.1]) ?_ N (l36, [], v35, rest8, 0) hm
          · rintro N ⟨l46, l47, v48, rest49, i50⟩ hI
            have hm := hI; clear hI
            cases N with
            | zero => cases hm
            | succ N =>
            unfold s_QualifyFrom_l2 at hm
            refine WJ.seq ?_
            refine WJ.seq ?_
            refine WJ.quiet ?_
            refine QJ.step (YldS.yld (y_move rfl)) rfl ?_
            refine QJ.step (YldS.yld (y_move rfl)) rfl ?_
            refine QJ.step (YldS.yld (y_lenRow (k := 0) rfl Tryd.runUnderlying27 rfl)) rfl ?_
            refine QJ.step (YldS.yld (y_bin rfl rfl rfl)) rfl ?_
            refine QJ.done ?_
            refine PJ.next ?_
            refine WJ.cond (t := decide (i50 < (List.length r39 : Int))) rfl (fun hb51 => ?_) (fun hb51 => ?_)
            · replace hm := ifT hm hb51
              refine WJ.skip ?_
              refine PJ.next ?_
              obtain ⟨kj56, hk57, hm⟩ := withK_open hm
              refine WJ.join (X := (List Int) × Value × (List Int) × Int) (fun (x : (List Int) × Value × (List Int) × Int) => kj56 x.1 x.2.2.1 x.2.2.2 = some r) (fun (x : (List Int) × Value × (List Int) × Int) => [(1, v5), (2, .int .i64 each7), (3, .int .i64 x.2.2.2), (11, x.2.1), (12, v38), (13, v41), (14, .int .i64 i50)]) (fun (x : (List Int) × Value × (List Int) × Int) => [row x.2.1 2 fI64 x.1, row v41 2 fI64 r39, row v38 2 fI64 x.2.2.1]) ?_ ?_
              · clear hk57
                refine WJ.block ?_
                refine WJ.seq ?_
                refine WJ.quiet ?_
                refine QJ.step (YldS.yld (y_move rfl)) rfl ?_
                refine QJ.step (YldS.yld (y_move rfl)) rfl ?_
                obtain ⟨e58, h59, hm⟩ := bindS hm
                refine QJ.step (YldS.yld (y_ixRow (k := 0) (R := fI64) rfl Tryd.runUnderlying27 Tryd.sizeOf2 rfl rfl h59)) rfl ?_
                refine QJ.step (YldS.yld (y_loadR (k := 0) (i := (Int.toNat i50)) (off := 0) (u := .int .i64 e58) rfl Tryd.isAgg2 rfl (idx_get h59) rfl)) rfl ?_
                refine QJ.step (YldS.yld (y_assign rfl)) rfl ?_
                refine QJ.done ?_
                refine PJ.next ?_
                refine WJ.block ?_
                refine WJ.seq ?_
                refine WJ.quiet ?_
                refine QJ.step (YldS.yld (y_move rfl)) rfl ?_
                refine QJ.step (YldS.yld (y_move rfl)) rfl ?_
                refine QJ.step (YldS.yld (y_move rfl)) rfl ?_
                obtain ⟨e60, h61, hm⟩ := bindS hm
                obtain ⟨ad62, _, rfl, ha63, hy64⟩ := hr6.elem h61
                refine QJ.step (YldS.yld (hy64 Tryd.runUnderlying27 Tryd.sizeOf2 rfl rfl)) rfl ?_
                refine QJ.step (YldS.yld (y_load1 (v := .int .i64 e60) Tryd.isAgg2 ha63 St.frozenC rfl)) rfl ?_
                obtain ⟨e65, h66, hm⟩ := bindS hm
                refine QJ.step (YldS.yld (y_ixRow (k := 1) (R := fI64) rfl Tryd.runUnderlying27 Tryd.sizeOf2 rfl rfl h66)) rfl ?_
                refine QJ.step (YldS.yld (y_loadR (k := 1) (i := (Int.toNat e60)) (off := 0) (u := .int .i64 e65) rfl Tryd.isAgg2 rfl (idx_get h66) rfl)) rfl ?_
                refine QJ.step (YldS.yld (y_move rfl)) rfl ?_
                refine QJ.step (YldS.yld (y_bin rfl rfl rfl)) rfl ?_
                refine QJ.step (YldS.yld (y_assign rfl)) rfl ?_
                refine QJ.done ?_
                refine PJ.next ?_
                refine WJ.cond (t := decide (e65 < each7)) rfl (fun hb67 => ?_) (fun hb67 => ?_)
                · replace hm := ifT hm hb67
                  refine WJ.seq ?_
                  refine WJ.reg ?_
                  refine SJ.q (YldS.yld (y_move rfl)) rfl ?_
                  refine SJ.q (YldS.yld (y_move rfl)) rfl ?_
                  refine SJ.q (YldS.yld (y_move rfl)) rfl ?_
                  obtain ⟨e68, h69, hm⟩ := bindS hm
                  obtain ⟨ad70, _, rfl, ha71, hy72⟩ := hr6.elem h69
                  refine SJ.q (YldS.yld (hy72 Tryd.runUnderlying27 Tryd.sizeOf2 rfl rfl)) rfl ?_
                  refine SJ.q (YldS.yld (y_load1 (v := .int .i64 e68) Tryd.isAgg2 ha71 St.frozenC rfl)) rfl ?_
                  obtain ⟨e73, h74, hm⟩ := bindS hm
                  refine SJ.q (YldS.yld (y_ixRow (k := 1) (R := fI64) rfl Tryd.runUnderlying27 Tryd.sizeOf2 rfl rfl h74)) rfl ?_
                  refine SJ.q (YldS.yld (y_loadR (k := 1) (i := (Int.toNat e68)) (off := 0) (u := .int .i64 e73) rfl Tryd.isAgg2 rfl (idx_get h74) rfl)) rfl ?_
                  refine SJ.q (YldS.yld (y_bin rfl rfl rfl)) rfl ?_
                  obtain ⟨e75, h76, hm⟩ := bindS hm
                  refine SJ.q (YldS.yld (y_ixRow (k := 1) (R := fI64) rfl Tryd.runUnderlying27 Tryd.sizeOf2 rfl rfl h76)) rfl ?_
                  refine SJ.storeRL (k := 1) (i := (Int.toNat e68)) (off := 0) (us := [.int .i64 (w64 (e73 + 1))]) (b := w64 (e73 + 1)) rfl rfl (idx_get h76) rfl rfl Tryd.sizeOf2 rfl rfl rfl ?_
                  refine SJ.nil ?_
                  refine PJ.next ?_
                  refine WJ.reg ?_
                  refine SJ.q (YldS.yld (y_move rfl)) rfl ?_
                  refine SJ.q (YldS.yld (y_move rfl)) rfl ?_
                  obtain ⟨r77, h78, hm⟩ := bindS hm
                  refine SJ.call Tryd.call40 rfl (fun w hw => ok_s_l00Put h78 w _ (hw.row_rd (k := 2) rfl)) rfl ?_
                  rintro v79 _ ⟨_, rfl, rfl⟩
                  refine SJ.q (YldS.yld (y_assign rfl)) rfl ?_
                  refine SJ.nil ?_
                  refine PJ.block_normal (PJ.block_normal ?_)
                  exact PJ.joined (r77, v79, (List.set l46 (Int.toNat e68) (w64 (e73 + 1))), rest49) [0, 1, 2] hm ⟨rfl, rfl, rfl, rfl, rfl, rfl, rfl, trivial⟩ ⟨by decide, rfl⟩
                · replace hm := ifF hm hb67
                  refine WJ.seq ?_
                  refine WJ.quiet ?_
                  refine QJ.step (YldS.yld (y_move rfl)) rfl ?_
                  refine QJ.step (YldS.yld (y_bin rfl rfl rfl)) rfl ?_
                  refine QJ.step (YldS.yld (y_assign rfl)) rfl ?_
                  refine QJ.done ?_
                  refine PJ.next ?_
                  refine WJ.cond (t := decide (rest49 > 0)) rfl (fun hb80 => ?_) (fun hb80 => ?_)
                  · replace hm := ifT hm hb80
                    refine WJ.seq ?_
                    refine WJ.quiet ?_
                    refine QJ.step (YldS.yld (y_move rfl)) rfl ?_
                    refine QJ.step (YldS.yld (y_bin rfl rfl rfl)) rfl ?_
                    refine QJ.step (YldS.yld (y_assign rfl)) rfl ?_
                    refine QJ.done ?_
                    refine PJ.next ?_
                    refine WJ.reg ?_
                    refine SJ.q (YldS.yld (y_move rfl)) rfl ?_
                    refine SJ.q (YldS.yld (y_move rfl)) rfl ?_
                    obtain ⟨r81, h82, hm⟩ := bindS hm
                    refine SJ.call Tryd.call40 rfl (fun w hw => ok_s_l00Put h82 w _ (hw.row_rd (k := 2) rfl)) rfl ?_
                    rintro v83 _ ⟨_, rfl, rfl⟩
                    refine SJ.q (YldS.yld (y_assign rfl)) rfl ?_
                    refine SJ.nil ?_
                    refine PJ.block_normal (PJ.block_normal ?_)
                    exact PJ.joined (r81, v83, l46, w64 (rest49 - 1)) [0, 1, 2] hm ⟨rfl, rfl, rfl, rfl, rfl, rfl, rfl, trivial⟩ ⟨by decide, rfl⟩
                  · replace hm := ifF hm hb80
                    refine WJ.skip ?_
                    refine PJ.block_normal (PJ.block_normal ?_)
                    exact PJ.joined (l47, v48, l46, rest49) [2, 0, 1] hm ⟨rfl, rfl, rfl, rfl, rfl, rfl, rfl, trivial⟩ ⟨by decide, rfl⟩
              · rintro ⟨l52, v53, l54, rest55⟩ hm
                subst hk57
                refine WJ.quiet ?_
                refine QJ.step (YldS.yld (y_move rfl)) rfl ?_
                refine QJ.step (YldS.yld (y_bin rfl rfl rfl)) rfl ?_
                refine QJ.step (YldS.yld (y_assign rfl)) rfl ?_
                refine QJ.done ?_
                exact PJ.round (l54, l52, v53, rest55, w64 (i50 + 1)) [1, 2, 0] hm ⟨rfl, rfl, rfl, rfl, rfl, rfl, rfl, trivial⟩ ⟨by decide, rfl⟩
            · replace hm := ifF hm hb51
              refine WJ.exit ?_
              refine PJ.then_exit (PJ.then_exit (PJ.block_exit ?_))
              exact PJ.joined (l47, v48) [2] hm ⟨rfl, trivial⟩ ⟨by decide, rfl⟩
        · rintro ⟨l42, v43⟩ hm
          subst hk45
          refine WJ.seq ?_
          refine WJ.quiet ?_
          refine QJ.step (YldS.yld (y_move rfl)) rfl ?_
          refine QJ.step (YldS.yld (y_assign rfl)) rfl ?_
          refine QJ.step (YldS.yld (y_assign rfl)) rfl ?_
          refine QJ.done ?_
          refine PJ.next ?_
          refine WJ.ret ?_
          obtain rfl := Option.some.inj hm
          refine PJ.sel (L' := [row v43 2 fI64 l42]) [0] ⟨by decide, rfl⟩ ?_
          exact PJ.retn (vs := [v43, .int .i64 0]) Tryd.results14 ⟨rfl, rfl, trivial⟩ ⟨_, rfl, rfl⟩

set_option maxRecDepth 100000 in
set_option maxHeartbeats 1000000 in
theorem ok_s_DrawBestOfRounds {N : Nat} {code1 : List UInt8} {r : (List (List Result))} (hm : s_DrawBestOfRounds N code1 = some r) (w : World) (v2 : Value) (hr3 : RdS w (cx w).Fz v2 fByte.rp code1) :
    Calls Tryd.prog 15 #[v2] w (RetG (cx w) fun u L => ∃ (u1 : Value) (u2 : List (Raw 1)), (u = u1 ∧ L = [row u1 24 fRaw1 u2, inn (rSl fResult.rp) u2 r])) := by
  unfold s_DrawBestOfRounds at hm
  refine Calls.enter [v2] Tryd.func15 rfl Tryd.ntmps15 rfl ?_
  refine WJ.seq ?_
  refine WJ.quiet ?_
  refine QJ.step (YldS.yld (y_assign rfl)) rfl ?_
  refine QJ.done ?_
  refine PJ.next ?_
  refine WJ.seq ?_
  refine WJ.reg ?_
  refine SJ.q (YldS.yld (y_move rfl)) rfl ?_
  obtain ⟨r4, h5, hm⟩ := bindS hm
  refine SJ.call Tryd.call26 rfl (fun w hw => ok_s_l00From h5 w _ (hr3.st hw)) rfl ?_
  rintro _ _ ⟨g6, rfl, rfl⟩
  refine SJ.q (YldS.yld (y_assign rfl)) rfl ?_
  refine SJ.nil ?_
  refine PJ.next ?_
  refine WJ.seq ?_
  refine WJ.reg ?_
  refine SJ.buildSlice (R := fRaw1) (os := []) ([] : List (Raw 1)) Tryd.runUnderlying34 Tryd.sizeOf24 Tryd.zeroValue24 rfl rfl rfl rfl rfl rfl fun v7 => ?_
  refine SJ.inn_nil (q := 1) (rSl fResult.rp) ?_
  refine SJ.q (YldS.yld (y_assign rfl)) rfl ?_
  refine SJ.nil ?_
  refine PJ.next ?_
  refine WJ.seq ?_
  refine WJ.reg ?_
  refine SJ.q (YldS.yld (y_move rfl)) rfl ?_
  obtain ⟨r8, h9, hm⟩ := bindS hm
  refine SJ.call1 (k := 2) rfl Tryd.call30 rfl (fun w S hw hA hO => ok_s_l00Src_pick h9 w S _ (hr3.st1 hw hO) hA) rfl ?_
  rintro _ _ ⟨rfl, rfl⟩
  refine SJ.q (YldS.yld (y_assign rfl)) rfl ?_
  refine SJ.nil ?_
  refine PJ.next ?_
  obtain ⟨kj13, hk14, hm⟩ := withK_open hm
  refine WJ.join (X := Int × Int × Int) (fun (x : Int × Int × Int) => kj13 x.1 x.2.1 x.2.2 = some r) (fun (x : Int × Int × Int) => [(3, pt g6 0), (4, v7), (5, .int .i64 x.2.2)]) (fun (x : Int × Int × Int) => [box g6 77 [v2, .int .i64 x.1, .int .u64 x.2.1], inn (rSl fResult.rp) ([] : List (Raw 1)) ([] : List (List Result)), row v7 24 fRaw1 ([] : List (Raw 1))]) ?_ ?_
  · clear hk14
    refine WJ.seq ?_
    refine WJ.reg ?_
    refine SJ.q (YldS.yld (y_move rfl)) rfl ?_
    obtain ⟨r15, h16, hm⟩ := bindS hm
    refine SJ.call1 (k := 0) rfl Tryd.call28 rfl (fun w S hw hA hO => ok_s_l00Src_one h16 w S _ (hr3.st1 hw hO) hA) rfl ?_
    rintro _ _ ⟨rfl, rfl⟩
    refine SJ.nil ?_
    refine PJ.next ?_
    refine WJ.cond (t := r15.1) rfl (fun hb17 => ?_) (fun hb17 => ?_)
    · replace hm := ifT hm hb17
      refine WJ.reg ?_
      refine SJ.q (YldS.yld (y_move rfl)) rfl ?_
      obtain ⟨r18, h19, hm⟩ := bindS hm
      refine SJ.call1 (k := 0) rfl Tryd.call30 rfl (fun w S hw hA hO => ok_s_l00Src_pick h19 w S _ (hr3.st1 hw hO) hA) rfl ?_
      rintro _ _ ⟨rfl, rfl⟩
      refine SJ.q (YldS.yld (y_bin rfl rfl rfl)) rfl ?_
      refine SJ.q (YldS.yld (y_assign rfl)) rfl ?_
      refine SJ.nil ?_
      exact PJ.joined (r18.2.at_, r18.2.seed, w64 (10 + r18.1)) [0, 1, 2] hm ⟨rfl, rfl, rfl, trivial⟩ ⟨by decide, rfl⟩
    · replace hm := ifF hm hb17
      refine WJ.skip ?_
      exact PJ.joined (r15.2.at_, r15.2.seed, r8.1) [0, 1, 2] hm ⟨rfl, rfl, rfl, trivial⟩ ⟨by decide, rfl⟩
  · rintro ⟨x10, x11, n12⟩ hm
    subst hk14
    obtain ⟨kj23, hk24, hm⟩ := withK_open hm
    refine WJ.join (X := (List (List Result)) × (List (Raw 1)) × Value) (fun (x : (List (List Result)) × (List (Raw 1)) × Value) => kj23 x.1 = some r) (fun (x : (List (List Result)) × (List (Raw 1)) × Value) => [(4, x.2.2)]) (fun (x : (List (List Result)) × (List (Raw 1)) × Value) => [inn (rSl fResult.rp) x.2.1 x.1, row x.2.2 24 fRaw1 x.2.1]) ?_ ?_
    · clear hk24
      refine WJ.seq ?_
      refine WJ.quiet ?_
      refine QJ.step (YldS.yld (y_move rfl)) rfl ?_
      refine QJ.step (YldS.yld (y_assign rfl)) rfl ?_
      refine QJ.done ?_
      refine PJ.next ?_
      refine WJ.block ?_
      refine WJ.sel (L' := (fun (x : Int × Int × (List (List Result)) × (List (Raw 1)) × Value × Int) => [box g6 77 [v2, .int .i64 x.1, .int .u64 x.2.1], inn (rSl fResult.rp) x.2.2.2.1 x.2.2.1, row x.2.2.2.2.1 24 fRaw1 x.2.2.2.1]) (x10, x11, ([] : List (List Result)), ([] : List (Raw 1)), v7, n12)) [0, 1, 2] ⟨by decide, rfl⟩ ?_
      refine WJ.sub (m' := (fun (x : Int × Int × (List (List Result)) × (List (Raw 1)) × Value × Int) => [(3, pt g6 0), (4, x.2.2.2.2.1), (6, .int .i64 x.2.2.2.2.2)]) (x10, x11, ([] : List (List Result)), ([] : List (Raw 1)), v7, n12)) ⟨rfl, rfl, rfl, trivial⟩ ?_
      refine WJ.loop (X := Int × Int × (List (List Result)) × (List (Raw 1)) × Value × Int) (fun N (x : Int × Int × (List (List Result)) × (List (Raw 1)) × Value × Int) => s_DrawBestOfRounds_l1 kj23 code1 N x.1 x.2.1 x.2.2.1 x.2.2.2.2.2 = some r) (fun (x : Int × Int × (List (List Result)) × (List (Raw 1)) × Value × Int) => [(3, pt g6 0), (4, x.2.2.2.2.1), (6, .int .i64 x.2.2.2.2.2)]) (fun (x : Int × Int × (List (List Result)) × (List (Raw 1)) × Value × Int) => [box g6 77 [v2, .int .i64 x.1, .int .u64 x.2.1], inn (rSl fResult.rp) x.2.2.2.1 x.2.2.1, row x.2.2.2.2.1 24 fRaw1 x.2.2.2.1]) ?_ N (x10, x11, ([] : List (List Result)), ([] : List (Raw 1)), v7, n12) hm
      · rintro N ⟨x25, x26, l27, vs28, v29, k30⟩ hI
        have hm := hI; clear hI
        cases N with
        | zero => cases hm
        | succ N =>
        unfold s_DrawBestOfRounds_l1 at hm
        refine WJ.seq ?_
        refine WJ.seq ?_
        refine WJ.quiet ?_
        refine QJ.step (YldS.yld (y_move rfl)) rfl ?_
        refine QJ.step (YldS.yld (y_bin rfl rfl rfl)) rfl ?_
        refine QJ.done ?_
        refine PJ.next ?_
        refine WJ.cond (t := decide (k30 > 0)) rfl (fun hb31 => ?_) (fun hb31 => ?_)
        · replace hm := ifT hm hb31
          refine WJ.skip ?_
          refine PJ.next ?_
          obtain ⟨kj37, hk38, hm⟩ := withK_open hm
          refine WJ.join (X := (List (List Result)) × Int × Int × (List (Raw 1)) × Value) (fun (x : (List (List Result)) × Int × Int × (List (Raw 1)) × Value) => kj37 x.1 x.2.1 x.2.2.1 = some r) (fun (x : (List (List Result)) × Int × Int × (List (Raw 1)) × Value) => [(3, pt g6 0), (4, x.2.2.2.2), (6, .int .i64 k30)]) (fun (x : (List (List Result)) × Int × Int × (List (Raw 1)) × Value) => [inn (rSl fResult.rp) x.2.2.2.1 x.1, box g6 77 [v2, .int .i64 x.2.1, .int .u64 x.2.2.1], row x.2.2.2.2 24 fRaw1 x.2.2.2.1]) ?_ ?_
          · clear hk38
            refine WJ.block ?_
            refine WJ.seq ?_
            refine WJ.reg ?_
            refine SJ.q (YldS.yld (y_move rfl)) rfl ?_
            obtain ⟨r39, h40, hm⟩ := bindS hm
            refine SJ.call1 (k := 0) rfl Tryd.call28 rfl (fun w S hw hA hO => ok_s_l00Src_one h40 w S _ (hr3.st1 hw hO) hA) rfl ?_
            rintro _ _ ⟨rfl, rfl⟩
            refine SJ.nil ?_
            refine PJ.next ?_
            refine WJ.cond (t := r39.1) rfl (fun hb41 => ?_) (fun hb41 => ?_)
            · replace hm := ifT hm hb41
              refine WJ.reg ?_
              refine SJ.q (YldS.yld (y_move rfl)) rfl ?_
              refine SJ.q (YldS.yld (y_move rfl)) rfl ?_
              obtain ⟨r42, h43, hm⟩ := bindS hm
              refine SJ.call1 (k := 0) rfl Tryd.call27 rfl (fun w S hw hA hO => ok_s_l22Bent h43 w S _ (hr3.st1 hw hO) hA) rfl ?_
              rintro v44 _ ⟨_, rfl, rfl⟩
              refine SJ.rowCells (k := 1) rfl fun hc45 => ?_
              refine SJ.buildSlice (R := fRaw1) (os := [.tmp 26]) ([mkRaw1 v44 hc45.2] : List (Raw 1)) Tryd.runUnderlying34 Tryd.sizeOf24 Tryd.zeroValue24 rfl rfl rfl (by simp only [List.map_cons, List.map_nil, hc45.1]; rfl) rfl rfl fun v46 => ?_
              refine SJ.inn_nil (q := 1) (rSl fResult.rp) ?_
              refine SJ.sel (L' := [row v44 46 fResult r42.1, inn (rSl fResult.rp) [] ([] : List (List Result)), row v46 24 fRaw1 ([mkRaw1 v44 hc45.2] : List (Raw 1)), box g6 77 [v2, .int .i64 r42.2.at_, .int .u64 r42.2.seed], inn (rSl fResult.rp) vs28 l27, row v29 24 fRaw1 vs28]) [3, 0, 1, 2, 4, 5] ⟨by decide, rfl⟩ ?_
              refine SJ.star ?_
              refine SJ.conv0 (fun w S h => inn_push hc45.2 h) ?_
              refine SJ.conv0 (B := inn (rSl fResult.rp) ([mkRaw1 v44 hc45.2] : List (Raw 1)) ([r42.1] : List (List Result))) (fun w S h => h) ?_
              refine SJ.inn_len 3 rfl fun hl47 => ?_
              refine SJ.inn_len 0 rfl fun hl48 => ?_
              obtain ⟨l49, h50, hm⟩ := bindS hm
              refine SJ.append (k := 4) (R := fRaw1) (app_raw h50 hl47 hl48) rfl Tryd.underlying34 el24 rfl rfl rfl (fun w hw => (hw.row_rd (k := 1) rfl)) rfl fun v51 => ?_
              refine SJ.sel (L' := [inn (rSl fResult.rp) vs28 l27, inn (rSl fResult.rp) ([mkRaw1 v44 hc45.2] : List (Raw 1)) ([r42.1] : List (List Result)), row v46 24 fRaw1 ([mkRaw1 v44 hc45.2] : List (Raw 1)), box g6 77 [v2, .int .i64 r42.2.at_, .int .u64 r42.2.seed], row v51 24 fRaw1 (vs28 ++ ([mkRaw1 v44 hc45.2] : List (Raw 1)))]) [3, 0, 1, 2, 4] ⟨by decide, rfl⟩ ?_
              refine SJ.star ?_
              refine SJ.conv0 (fun w S h => inn_app h50 h) ?_
              refine SJ.q (YldS.yld (y_assign rfl)) rfl ?_
              refine SJ.nil ?_
              refine PJ.block_normal ?_
              exact PJ.joined (l49, r42.2.at_, r42.2.seed, (vs28 ++ ([mkRaw1 v44 hc45.2] : List (Raw 1))), v51) [0, 2, 3] hm ⟨rfl, rfl, rfl, trivial⟩ ⟨by decide, rfl⟩
            · replace hm := ifF hm hb41
              refine WJ.reg ?_
              refine SJ.q (YldS.yld (y_move rfl)) rfl ?_
              refine SJ.q (YldS.yld (y_move rfl)) rfl ?_
              obtain ⟨r52, h53, hm⟩ := bindS hm
              refine SJ.call1 (k := 0) rfl Tryd.call41 rfl (fun w S hw hA hO => ok_s_l22Draw h53 w S _ (hr3.st1 hw hO) hA) rfl ?_
              rintro v54 _ ⟨_, rfl, rfl⟩
              refine SJ.rowCells (k := 1) rfl fun hc55 => ?_
              refine SJ.buildSlice (R := fRaw1) (os := [.tmp 31]) ([mkRaw1 v54 hc55.2] : List (Raw 1)) Tryd.runUnderlying34 Tryd.sizeOf24 Tryd.zeroValue24 rfl rfl rfl (by simp only [List.map_cons, List.map_nil, hc55.1]; rfl) rfl rfl fun v56 => ?_
              refine SJ.inn_nil (q := 1) (rSl fResult.rp) ?_
              refine SJ.sel (L' := [row v54 46 fResult r52.1, inn (rSl fResult.rp) [] ([] : List (List Result)), row v56 24 fRaw1 ([mkRaw1 v54 hc55.2] : List (Raw 1)), box g6 77 [v2, .int .i64 r52.2.at_, .int .u64 r52.2.seed], inn (rSl fResult.rp) vs28 l27, row v29 24 fRaw1 vs28]) [3, 0, 1, 2, 4, 5] ⟨by decide, rfl⟩ ?_
              refine SJ.star ?_
              refine SJ.conv0 (fun w S h => inn_push hc55.2 h) ?_
              refine SJ.conv0 (B := inn (rSl fResult.rp) ([mkRaw1 v54 hc55.2] : List (Raw 1)) ([r52.1] : List (List Result))) (fun w S h => h) ?_
              refine SJ.inn_len 3 rfl fun hl57 => ?_
              refine SJ.inn_len 0 rfl fun hl58 => ?_
              obtain ⟨l59, h60, hm⟩ := bindS hm
              refine SJ.append (k := 4) (R := fRaw1) (app_raw h60 hl57 hl58) rfl Tryd.underlying34 el24 rfl rfl rfl (fun w hw => (hw.row_rd (k := 1) rfl)) rfl fun v61 => ?_
              refine SJ.sel (L' := [inn (rSl fResult.rp) vs28 l27, inn (rSl fResult.rp) ([mkRaw1 v54 hc55.2] : List (Raw 1)) ([r52.1] : List (List Result)), row v56 24 fRaw1 ([mkRaw1 v54 hc55.2] : List (Raw 1)), box g6 77 [v2, .int .i64 r52.2.at_, .int .u64 r52.2.seed], row v61 24 fRaw1 (vs28 ++ ([mkRaw1 v54 hc55.2] : List (Raw 1)))]) [3, 0, 1, 2, 4] ⟨by decide, rfl⟩ ?_
              refine SJ.star ?_
              refine SJ.conv0 (fun w S h => inn_app h60 h) ?_
              refine SJ.q (YldS.yld (y_assign rfl)) rfl ?_
              refine SJ.nil ?_
              refine PJ.block_normal ?_
              exact PJ.joined (l59, r52.2.at_, r52.2.seed, (vs28 ++ ([mkRaw1 v54 hc55.2] : List (Raw 1))), v61) [0, 2, 3] hm ⟨rfl, rfl, rfl, trivial⟩ ⟨by decide, rfl⟩
          · rintro ⟨l32, x33, x34, vs35, v36⟩ hm
            subst hk38
            refine WJ.quiet ?_
            refine QJ.step (YldS.yld (y_move rfl)) rfl ?_
            refine QJ.step (YldS.yld (y_bin rfl rfl rfl)) rfl ?_
            refine QJ.step (YldS.yld (y_assign rfl)) rfl ?_
            refine QJ.done ?_
            exact PJ.round (x33, x34, l32, vs35, v36, w64 (k30 - 1)) [1, 0, 2] hm ⟨rfl, rfl, rfl, trivial⟩ ⟨by decide, rfl⟩
        · replace hm := ifF hm hb31
          refine WJ.exit ?_
          refine PJ.then_exit (PJ.then_exit (PJ.block_exit ?_))
          exact PJ.joined (l27, vs28, v29) [1, 2] hm ⟨rfl, trivial⟩ ⟨by decide, rfl⟩
    · rintro ⟨l20, vs21, v22⟩ hm
      subst hk24
      refine WJ.seq ?_
      refine WJ.quiet ?_
      refine QJ.step (YldS.yld (y_move rfl)) rfl ?_
      refine QJ.step (YldS.yld (y_assign rfl)) rfl ?_
      refine QJ.done ?_
      refine PJ.next ?_
      refine WJ.ret ?_
      obtain rfl := Option.some.inj hm
      refine PJ.sel (L' := [row v22 24 fRaw1 vs21, inn (rSl fResult.rp) vs21 l20]) [1, 0] ⟨by decide, rfl⟩ ?_
      exact PJ.retn (vs := [v22]) Tryd.results15 ⟨rfl, trivial⟩ ⟨_, _, rfl, rfl⟩

set_option maxRecDepth 100000 in
set_option maxHeartbeats 1000000 in
theorem ok_i_BestOfRounds {N : Nat} {rounds1 : List (List Result)} {r : (List Result) × Int} (hm : i_BestOfRounds N rounds1 = some r) (w : World) (v2 : Value) (hr3 : RdS w (cx w).Fz v2 (rSl fResult.rp) rounds1) :
    Calls Tryd.prog 16 #[v2] w (RetG (cx w) fun u L => ∃ (u1 : Value), (u = tup [u1, .int .i64 r.2] ∧ L = [row u1 46 fResult r.1])) := by
  unfold i_BestOfRounds at hm
  refine Calls.enter [v2] Tryd.func16 rfl Tryd.ntmps16 rfl ?_
  refine WJ.seq ?_
  refine WJ.quiet ?_
  refine QJ.step (YldS.yld (y_assign rfl)) rfl ?_
  refine QJ.step (YldS.yld (y_assign rfl)) rfl ?_
  refine QJ.done ?_
  refine PJ.next ?_
  obtain ⟨kj4, hk5, hm⟩ := withK_open hm
  refine WJ.join (X := Unit) (fun (_ : Unit) => kj4  = some r) (fun (_ : Unit) => [(0, v2)]) (fun (_ : Unit) => []) ?_ ?_
  · clear hk5
    refine WJ.seq ?_
    refine WJ.quiet ?_
    refine QJ.step (YldS.yld (y_move rfl)) rfl ?_
    refine QJ.step (YldS.yld (y_lenS Tryd.runUnderlying34 hr3 rfl)) rfl ?_
    refine QJ.step (YldS.yld (y_move rfl)) rfl ?_
    refine QJ.done ?_
    refine PJ.next ?_
    refine WJ.block ?_
    refine WJ.sel (L' := (fun (x : Int) => []) 0) [] ⟨List.nodup_nil, rfl⟩ ?_
    refine WJ.sub (m' := (fun (x : Int) => [(0, v2), (14, v2), (15, .int .i64 (List.length rounds1 : Int)), (16, .int .i64 x)]) 0) ⟨rfl, rfl, rfl, rfl, trivial⟩ ?_
    refine WJ.loop (X := Int) (fun N (x : Int) => i_BestOfRounds_l1 kj4 rounds1 N x = some r) (fun (x : Int) => [(0, v2), (14, v2), (15, .int .i64 (List.length rounds1 : Int)), (16, .int .i64 x)]) (fun (x : Int) => []) ?_ N 0 hm
    · rintro N x6 hI
      have hm := hI; clear hI
      cases N with
      | zero => cases hm
      | succ N =>
      unfold i_BestOfRounds_l1 at hm
      refine WJ.seq ?_
      refine WJ.quiet ?_
      refine QJ.step (YldS.yld (y_bin rfl rfl rfl)) rfl ?_
      refine QJ.done ?_
      refine PJ.next ?_
      refine WJ.seq ?_
      refine WJ.cond (t := decide (x6 < (List.length rounds1 : Int))) rfl (fun hb7 => ?_) (fun hb7 => ?_)
      · replace hm := ifT hm hb7
        refine WJ.skip ?_
        refine PJ.next ?_
        refine WJ.seq ?_
        refine WJ.block ?_
        refine WJ.seq ?_
        refine WJ.quiet ?_
        obtain ⟨e8, h9, hm⟩ := bindS hm
        obtain ⟨ad10, _, ⟨v13, rfl, hr14⟩, ha11, hy12⟩ := hr3.elem h9
        refine QJ.step (YldS.yld (hy12 Tryd.runUnderlying34 Tryd.sizeOf24 rfl rfl)) rfl ?_
        refine QJ.step (YldS.yld (y_load1 (v := v13) Tryd.isAgg24 ha11 St.frozenC rfl)) rfl ?_
        refine QJ.step (YldS.yld (y_assign rfl)) rfl ?_
        refine QJ.done ?_
        refine PJ.next ?_
        refine WJ.seq ?_
        refine WJ.quiet ?_
        refine QJ.step (YldS.yld (y_move rfl)) rfl ?_
        obtain ⟨r15, h16, hm⟩ := bindS hm
        refine QJ.step (y_call Tryd.call24 rfl (RetG.quiet fun w hw => ok_i_ValidResults h16 w _ (hr14.st hw))) rfl ?_
        refine QJ.step (YldS.yld (y_not rfl)) rfl ?_
        refine QJ.done ?_
        refine PJ.next ?_
        refine WJ.cond (t := !r15) rfl (fun hb17 => ?_) (fun hb17 => ?_)
        · replace hm := ifT hm hb17
          refine WJ.seq ?_
          refine WJ.quiet ?_
          refine QJ.step (YldS.yld (y_assign rfl)) rfl ?_
          refine QJ.step (YldS.yld (y_assign rfl)) rfl ?_
          refine QJ.done ?_
          refine PJ.next ?_
          refine WJ.ret ?_
          refine PJ.block_ret (PJ.then_ret (PJ.then_ret (PJ.block_ret (PJ.then_ret ?_))))
          refine PJ.nil_row 46 fResult ?_
          obtain rfl := Option.some.inj hm
          refine PJ.sel (L' := [row (.slice none 0 0) 46 fResult []]) [0] ⟨by decide, rfl⟩ ?_
          exact PJ.retn (vs := [(.slice none 0 0), .int .i64 1]) Tryd.results16 ⟨rfl, rfl, trivial⟩ ⟨_, rfl, rfl⟩
        · replace hm := ifF hm hb17
          refine WJ.skip ?_
          refine PJ.block_normal (PJ.next ?_)
          refine WJ.quiet ?_
          refine QJ.step (YldS.yld (y_bin rfl rfl rfl)) rfl ?_
          refine QJ.step (YldS.yld (y_move rfl)) rfl ?_
          refine QJ.done ?_
          exact PJ.round (w64 (x6 + 1)) [] hm ⟨rfl, rfl, rfl, rfl, trivial⟩ ⟨List.nodup_nil, rfl⟩
      · replace hm := ifF hm hb7
        refine WJ.exit ?_
        refine PJ.then_exit (PJ.then_exit (PJ.block_exit ?_))
        exact PJ.joined () [] hm ⟨rfl, trivial⟩ ⟨List.nodup_nil, rfl⟩
  · rintro _ hm
    subst hk5
    refine WJ.seq ?_
    refine WJ.seq ?_
    refine WJ.quiet ?_
    refine QJ.step (YldS.yld (y_move rfl)) rfl ?_
    refine QJ.step (YldS.yld (y_lenS Tryd.runUnderlying34 hr3 rfl)) rfl ?_
    refine QJ.step (YldS.yld (y_bin rfl rfl rfl)) rfl ?_
    refine QJ.done ?_
    refine PJ.next ?_
    refine WJ.cond (t := decide ((List.length rounds1 : Int) > 10)) rfl (fun hb18 => ?_) (fun hb18 => ?_)
    · replace hm := ifT hm hb18
      refine WJ.seq ?_
      refine WJ.quiet ?_
      refine QJ.step (YldS.yld (y_assign rfl)) rfl ?_
      refine QJ.step (YldS.yld (y_assign rfl)) rfl ?_
      refine QJ.done ?_
      refine PJ.next ?_
      refine WJ.ret ?_
      refine PJ.then_ret ?_
      refine PJ.nil_row 46 fResult ?_
      obtain rfl := Option.some.inj hm
      refine PJ.sel (L' := [row (.slice none 0 0) 46 fResult []]) [0] ⟨by decide, rfl⟩ ?_
      exact PJ.retn (vs := [(.slice none 0 0), .int .i64 2]) Tryd.results16 ⟨rfl, rfl, trivial⟩ ⟨_, rfl, rfl⟩
    · replace hm := ifF hm hb18
      refine WJ.skip ?_
      refine PJ.next ?_
      refine WJ.seq ?_
      refine WJ.reg ?_
      refine SJ.makeMapV vI64 rfl fun g19 => ?_
      refine SJ.q (YldS.yld (y_assign rfl)) rfl ?_
      refine SJ.nil ?_
      refine PJ.next ?_
      refine WJ.seq ?_
      refine WJ.reg ?_
      refine SJ.buildSlice (R := fResult) (os := []) [] Tryd.runUnderlying24 Tryd.sizeOf46 Tryd.zeroValue46 rfl rfl rfl rfl rfl rfl fun v20 => ?_
      refine SJ.q (YldS.yld (y_assign rfl)) rfl ?_
      refine SJ.nil ?_
      refine PJ.next ?_
      obtain ⟨kj23, hk24, hm⟩ := withK_open hm
      refine WJ.join (X := (List Result) × Value) (fun (x : (List Result) × Value) => kj23 x.1 = some r) (fun (x : (List Result) × Value) => [(7, x.2)]) (fun (x : (List Result) × Value) => [row x.2 46 fResult x.1]) ?_ ?_
      · clear hk24
        refine WJ.seq ?_
        refine WJ.quiet ?_
        refine QJ.step (YldS.yld (y_move rfl)) rfl ?_
        refine QJ.step (YldS.yld (y_lenS Tryd.runUnderlying34 hr3 rfl)) rfl ?_
        refine QJ.step (YldS.yld (y_move rfl)) rfl ?_
        refine QJ.done ?_
        refine PJ.next ?_
        refine WJ.block ?_
        refine WJ.sel (L' := (fun (x : (List Result) × Value × (List (Str × Int)) × Int) => [row x.2.1 46 fResult x.1, mpV vI64 g19 x.2.2.1]) ([], v20, ([] : List (Str × Int)), 0)) [0, 1] ⟨by decide, rfl⟩ ?_
        refine WJ.sub (m' := (fun (x : (List Result) × Value × (List (Str × Int)) × Int) => [(6, .map (some g19)), (7, x.2.1), (29, v2), (30, .int .i64 (List.length rounds1 : Int)), (31, .int .i64 x.2.2.2)]) ([], v20, ([] : List (Str × Int)), 0)) ⟨rfl, rfl, rfl, rfl, rfl, trivial⟩ ?_
        refine WJ.loop (X := (List Result) × Value × (List (Str × Int)) × Int) (fun N (x : (List Result) × Value × (List (Str × Int)) × Int) => i_BestOfRounds_l2 kj23 rounds1 N x.1 x.2.2.1 x.2.2.2 = some r) (fun (x : (List Result) × Value × (List (Str × Int)) × Int) => [(6, .map (some g19)), (7, x.2.1), (29, v2), (30, .int .i64 (List.length rounds1 : Int)), (31, .int .i64 x.2.2.2)]) (fun (x : (List Result) × Value × (List (Str × Int)) × Int) => [row x.2.1 46 fResult x.1, mpV vI64 g19 x.2.2.1]) ?_ N ([], v20, ([] : List (Str × Int)), 0) hm
        · rintro N ⟨l25, v26, mp27, x28⟩ hI
          have hm := hI; clear hI
          cases N with
          | zero => cases hm
          | succ N =>
          unfold i_BestOfRounds_l2 at hm
          refine WJ.seq ?_
          refine WJ.quiet ?_
          refine QJ.step (YldS.yld (y_bin rfl rfl rfl)) rfl ?_
          refine QJ.done ?_
          refine PJ.next ?_
          refine WJ.seq ?_
          refine WJ.cond (t := decide (x28 < (List.length rounds1 : Int))) rfl (fun hb29 => ?_) (fun hb29 => ?_)
          · replace hm := ifT hm hb29
            refine WJ.skip ?_
            refine PJ.next ?_
            obtain ⟨kj33, hk34, hm⟩ := withK_open hm
            refine WJ.join (X := (List Result) × Value × (List (Str × Int))) (fun (x : (List Result) × Value × (List (Str × Int))) => kj33 x.1 x.2.2 = some r) (fun (x : (List Result) × Value × (List (Str × Int))) => [(6, .map (some g19)), (7, x.2.1), (29, v2), (30, .int .i64 (List.length rounds1 : Int)), (31, .int .i64 x28)]) (fun (x : (List Result) × Value × (List (Str × Int))) => [row x.2.1 46 fResult x.1, mpV vI64 g19 x.2.2]) ?_ ?_
            · clear hk34
              refine WJ.block ?_
              refine WJ.seq ?_
              refine WJ.quiet ?_
              obtain ⟨e35, h36, hm⟩ := bindS hm
              obtain ⟨ad37, _, ⟨v40, rfl, hr41⟩, ha38, hy39⟩ := hr3.elem h36
              refine QJ.step (YldS.yld (hy39 Tryd.runUnderlying34 Tryd.sizeOf24 rfl rfl)) rfl ?_
              refine QJ.step (YldS.yld (y_load1 (v := v40) Tryd.isAgg24 ha38 St.frozenC rfl)) rfl ?_
              refine QJ.step (YldS.yld (y_assign rfl)) rfl ?_
              refine QJ.done ?_
              refine PJ.next ?_
              refine WJ.seq ?_
              refine WJ.quiet ?_
              refine QJ.step (YldS.yld (y_move rfl)) rfl ?_
              refine QJ.step (YldS.yld (y_lenS Tryd.runUnderlying24 hr41 rfl)) rfl ?_
              refine QJ.step (YldS.yld (y_move rfl)) rfl ?_
              refine QJ.done ?_
              refine PJ.next ?_
              refine WJ.block ?_
              refine WJ.sel (L' := (fun (x : (List Result) × Value × (List (Str × Int)) × Int) => [row x.2.1 46 fResult x.1, mpV vI64 g19 x.2.2.1]) (l25, v26, mp27, 0)) [0, 1] ⟨by decide, rfl⟩ ?_
              refine WJ.sub (m' := (fun (x : (List Result) × Value × (List (Str × Int)) × Int) => [(6, .map (some g19)), (7, x.2.1), (29, v2), (30, .int .i64 (List.length rounds1 : Int)), (31, .int .i64 x28), (35, v40), (36, .int .i64 (List.length e35 : Int)), (37, .int .i64 x.2.2.2)]) (l25, v26, mp27, 0)) ⟨rfl, rfl, rfl, rfl, rfl, rfl, rfl, rfl, trivial⟩ ?_
              refine WJ.loop (X := (List Result) × Value × (List (Str × Int)) × Int) (fun N (x : (List Result) × Value × (List (Str × Int)) × Int) => i_BestOfRounds_l3 kj33 e35 N x.1 x.2.2.1 x.2.2.2 = some r) (fun (x : (List Result) × Value × (List (Str × Int)) × Int) => [(6, .map (some g19)), (7, x.2.1), (29, v2), (30, .int .i64 (List.length rounds1 : Int)), (31, .int .i64 x28), (35, v40), (36, .int .i64 (List.length e35 : Int)), (37, .int .i64 x.2.2.2)]) (fun (x : (List Result) × Value × (List (Str × Int)) × Int) => [row x.2.1 46 fResult x.1, mpV vI64 g19 x.2.2.1]) ?_ N (l25, v26, mp27, 0) hm
              · rintro N ⟨l42, v43, mp44, x45⟩ hI
                have hm := hI; clear hI
                cases N with
                | zero => cases hm
                | succ N =>
                unfold i_BestOfRounds_l3 at hm
                refine WJ.seq ?_
                refine WJ.quiet ?_
                refine QJ.step (YldS.yld (y_bin rfl rfl rfl)) rfl ?_
                refine QJ.done ?_
                refine PJ.next ?_
                refine WJ.seq ?_
                refine WJ.cond (t := decide (x45 < (List.length e35 : Int))) rfl (fun hb46 => ?_) (fun hb46 => ?_)
                · replace hm := ifT hm hb46
                  refine WJ.skip ?_
                  refine PJ.next ?_
                  obtain ⟨kj50, hk51, hm⟩ := withK_open hm
                  refine WJ.join (X := (List Result) × Value × (List (Str × Int))) (fun (x : (List Result) × Value × (List (Str × Int))) => kj50 x.1 x.2.2 = some r) (fun (x : (List Result) × Value × (List (Str × Int))) => [(6, .map (some g19)), (7, x.2.1), (29, v2), (30, .int .i64 (List.length rounds1 : Int)), (31, .int .i64 x28), (35, v40), (36, .int .i64 (List.length e35 : Int)), (37, .int .i64 x45)]) (fun (x : (List Result) × Value × (List (Str × Int))) => [row x.2.1 46 fResult x.1, mpV vI64 g19 x.2.2]) ?_ ?_
                  · clear hk51
                    refine WJ.block ?_
                    refine WJ.seq ?_
                    refine WJ.reg ?_
                    obtain ⟨e52, h53, hm⟩ := bindS hm
                    obtain ⟨ad54, _, rfl, ha55, hy56⟩ := hr41.elem h53
                    refine SJ.q (YldS.yld (hy56 Tryd.runUnderlying24 Tryd.sizeOf46 rfl rfl)) rfl ?_
                    refine SJ.q (YldS.yld (y_loadN Tryd.isAgg46 Tryd.sizeOf46 rfl ha55 St.frozenC rfl)) rfl ?_
                    refine SJ.alloc (cs := [str [], .int .i64 0, .int .i64 0]) Tryd.zeroValue46 rfl rfl fun g57 => ?_
                    refine SJ.storeL (k := 0) (off := 0) (us := [str e52.name, .int .i64 e52.net, .int .i64 e52.errors]) rfl rfl rfl rfl Tryd.sizeOf46 rfl rfl ?_
                    refine SJ.nil ?_
                    refine PJ.next ?_
                    refine WJ.seq ?_
                    refine WJ.quiet ?_
                    refine QJ.step (YldS.yld (y_move rfl)) rfl ?_
                    refine QJ.step (YldS.yld (y_fldB (o := 0) fld46_0 rfl)) rfl ?_
                    refine QJ.step (YldS.yld (y_loadB (k := 0) (off := 0) (v := str e52.name) rfl Tryd.isAgg9 rfl rfl)) rfl ?_
                    refine QJ.step (YldS.yld (y_lookupV2 (k := 2) (f := vI64) (z := (0 : Int)) rfl Tryd.underlying65 Tryd.underlying9 Tryd.zeroValue3 rfl rfl)) rfl ?_
                    refine QJ.step (YldS.yld (y_move rfl)) rfl ?_
                    refine QJ.step (YldS.yld (y_extract rfl rfl)) rfl ?_
                    refine QJ.step (YldS.yld (y_extract rfl rfl)) rfl ?_
                    refine QJ.step (YldS.yld (y_assign rfl)) rfl ?_
                    refine QJ.step (YldS.yld (y_assign rfl)) rfl ?_
                    refine QJ.done ?_
                    refine PJ.next ?_
                    refine WJ.block ?_
                    refine WJ.seq ?_
                    refine WJ.quiet ?_
                    refine QJ.step (YldS.yld (y_move rfl)) rfl ?_
                    refine QJ.step (YldS.yld (y_not rfl)) rfl ?_
                    refine QJ.step (YldS.yld (y_assign rfl)) rfl ?_
                    refine QJ.done ?_
                    refine PJ.next ?_
                    refine WJ.cond (t := !(Option.isSome (mgetO mp44 e52.name))) rfl (fun hb58 => ?_) (fun hb58 => ?_)
                    · replace hm := ifT hm hb58
                      refine WJ.seq ?_
                      refine WJ.reg ?_
                      refine SJ.q (YldS.yld (y_move rfl)) rfl ?_
                      refine SJ.q (YldS.yld (y_fldB (o := 0) fld46_0 rfl)) rfl ?_
                      refine SJ.q (YldS.yld (y_loadB (k := 0) (off := 0) (v := str e52.name) rfl Tryd.isAgg9 rfl rfl)) rfl ?_
                      refine SJ.q (YldS.yld (y_move rfl)) rfl ?_
                      refine SJ.q (YldS.yld (y_lenRow (k := 1) rfl Tryd.runUnderlying24 rfl)) rfl ?_
                      refine SJ.mapUpdateV (k := 2) (f := vI64) Tryd.underlying65 Tryd.underlying9 rfl rfl rfl rfl ?_
                      refine SJ.nil ?_
                      refine PJ.next ?_
                      refine WJ.reg ?_
                      refine SJ.q (YldS.yld (y_move rfl)) rfl ?_
                      refine SJ.q (YldS.yld (y_loadBN (k := 0) (off := 0) (us := [str e52.name, .int .i64 e52.net, .int .i64 e52.errors]) rfl Tryd.isAgg46 Tryd.sizeOf46 rfl rfl)) rfl ?_
                      refine SJ.buildSlice (R := fResult) (os := [.tmp 57]) [e52] Tryd.runUnderlying24 Tryd.sizeOf46 Tryd.zeroValue46 rfl rfl rfl rfl rfl rfl fun v59 => ?_
                      obtain ⟨l60, h61, hm⟩ := bindS hm
                      refine SJ.append (k := 2) (R := fResult) h61 rfl Tryd.underlying24 el46 rfl rfl rfl (fun w hw => (hw.row_rd (k := 0) rfl)) rfl fun v62 => ?_
                      refine SJ.q (YldS.yld (y_assign rfl)) rfl ?_
                      refine SJ.nil ?_
                      refine PJ.block_normal (PJ.block_normal ?_)
                      exact PJ.joined (l60, v62, msetV mp44 e52.name (List.length l42 : Int)) [2, 3] hm ⟨rfl, rfl, rfl, rfl, rfl, rfl, rfl, rfl, trivial⟩ ⟨by decide, rfl⟩
                    · replace hm := ifF hm hb58
                      refine WJ.seq ?_
                      refine WJ.quiet_draw follows (by kernel_rfl) ?_
                      refine QJ.step (YldS.yld (y_loadBN (k := 0) (off := 0) (us := [str e52.name, .int .i64 e52.net, .int .i64 e52.errors]) rfl Tryd.isAgg46 Tryd.sizeOf46 rfl rfl)) rfl ?_
                      refine QJ.step (YldS.yld (y_move rfl)) rfl ?_
                      refine QJ.step (YldS.yld (y_move rfl)) rfl ?_
                      obtain ⟨e63, h64, hm⟩ := bindS hm
                      refine QJ.step (YldS.yld (y_ixRow (k := 1) (R := fResult) rfl Tryd.runUnderlying24 Tryd.sizeOf46 rfl rfl h64)) rfl ?_
                      refine QJ.step (YldS.yld (y_loadRN (k := 1) (i := (Int.toNat (Option.getD (mgetO mp44 e52.name) (0 : Int)))) (off := 0) (us := [str e63.name, .int .i64 e63.net, .int .i64 e63.errors]) rfl Tryd.isAgg46 Tryd.sizeOf46 rfl (idx_get h64) rfl)) rfl ?_
                      obtain ⟨r65, h66, hm⟩ := bindS hm
                      refine QJ.step (y_call Tryd.call42 rfl (RetG.quiet fun w hw => ok_i_Result_better h66 w )) rfl ?_
                      refine QJ.step (YldS.yld (y_assign rfl)) rfl ?_
                      refine QJ.done ?_
                      refine PJ.next ?_
                      refine WJ.cond (t := r65) rfl (fun hb67 => ?_) (fun hb67 => ?_)
                      · replace hm := ifT hm hb67
                        refine WJ.reg ?_
                        refine SJ.q (YldS.yld (y_move rfl)) rfl ?_
                        refine SJ.q (YldS.yld (y_move rfl)) rfl ?_
                        refine SJ.q (YldS.yld (y_loadBN (k := 0) (off := 0) (us := [str e52.name, .int .i64 e52.net, .int .i64 e52.errors]) rfl Tryd.isAgg46 Tryd.sizeOf46 rfl rfl)) rfl ?_
                        obtain ⟨e68, h69, hm⟩ := bindS hm
                        refine SJ.q (YldS.yld (y_ixRow (k := 1) (R := fResult) rfl Tryd.runUnderlying24 Tryd.sizeOf46 rfl rfl h69)) rfl ?_
                        refine SJ.storeRL (k := 1) (i := (Int.toNat (Option.getD (mgetO mp44 e52.name) (0 : Int)))) (off := 0) (us := [str e52.name, .int .i64 e52.net, .int .i64 e52.errors]) (b := e52) rfl rfl (idx_get h69) rfl rfl Tryd.sizeOf46 rfl rfl rfl ?_
                        refine SJ.nil ?_
                        refine PJ.block_normal (PJ.block_normal ?_)
                        exact PJ.joined ((List.set l42 (Int.toNat (Option.getD (mgetO mp44 e52.name) (0 : Int))) e52), v43, mp44) [1, 2] hm ⟨rfl, rfl, rfl, rfl, rfl, rfl, rfl, rfl, trivial⟩ ⟨by decide, rfl⟩
                      · replace hm := ifF hm hb67
                        refine WJ.skip ?_
                        refine PJ.block_normal (PJ.block_normal ?_)
                        exact PJ.joined (l42, v43, mp44) [1, 2] hm ⟨rfl, rfl, rfl, rfl, rfl, rfl, rfl, rfl, trivial⟩ ⟨by decide, rfl⟩
                  · rintro ⟨l47, v48, mp49⟩ hm
                    subst hk51
                    refine WJ.quiet ?_
                    refine QJ.step (YldS.yld (y_bin rfl rfl rfl)) rfl ?_
                    refine QJ.step (YldS.yld (y_move rfl)) rfl ?_
                    refine QJ.done ?_
                    exact PJ.round (l47, v48, mp49, w64 (x45 + 1)) [0, 1] hm ⟨rfl, rfl, rfl, rfl, rfl, rfl, rfl, rfl, trivial⟩ ⟨by decide, rfl⟩
                · replace hm := ifF hm hb46
                  refine WJ.exit ?_
                  refine PJ.then_exit (PJ.then_exit (PJ.block_exit (PJ.block_normal ?_)))
                  exact PJ.joined (l42, v43, mp44) [0, 1] hm ⟨rfl, rfl, rfl, rfl, rfl, trivial⟩ ⟨by decide, rfl⟩
            · rintro ⟨l30, v31, mp32⟩ hm
              subst hk34
              refine WJ.quiet ?_
              refine QJ.step (YldS.yld (y_bin rfl rfl rfl)) rfl ?_
              refine QJ.step (YldS.yld (y_move rfl)) rfl ?_
              refine QJ.done ?_
              exact PJ.round (l30, v31, mp32, w64 (x28 + 1)) [0, 1] hm ⟨rfl, rfl, rfl, rfl, rfl, trivial⟩ ⟨by decide, rfl⟩
          · replace hm := ifF hm hb29
            refine WJ.exit ?_
            refine PJ.then_exit (PJ.then_exit (PJ.block_exit ?_))
            exact PJ.joined (l25, v26) [0] hm ⟨rfl, trivial⟩ ⟨by decide, rfl⟩
      · rintro ⟨l21, v22⟩ hm
        subst hk24
        refine WJ.seq ?_
        refine WJ.quiet ?_
        refine QJ.step (YldS.yld (y_move rfl)) rfl ?_
        refine QJ.step (YldS.yld (y_assign rfl)) rfl ?_
        refine QJ.step (YldS.yld (y_assign rfl)) rfl ?_
        refine QJ.done ?_
        refine PJ.next ?_
        refine WJ.ret ?_
        obtain rfl := Option.some.inj hm
        refine PJ.sel (L' := [row v22 46 fResult l21]) [0] ⟨by decide, rfl⟩ ?_
        exact PJ.retn (vs := [v22, .int .i64 0]) Tryd.results16 ⟨rfl, rfl, trivial⟩ ⟨_, rfl, rfl⟩

set_option maxRecDepth 100000 in
set_option maxHeartbeats 1000000 in
theorem ok_s_BestOfRounds {N : Nat} {rounds1 : List (List Result)} {r : (List Result) × Int} (hm : s_BestOfRounds N rounds1 = some r) (w : World) (v2 : Value) (hr3 : RdS w (cx w).Fz v2 (rSl fResult.rp) rounds1) :
    Calls Tryd.prog 17 #[v2] w (RetG (cx w) fun u L => ∃ (u1 : Value), (u = tup [u1, .int .i64 r.2] ∧ L = [row u1 46 fResult r.1])) := by
  unfold s_BestOfRounds at hm
  refine Calls.enter [v2] Tryd.func17 rfl Tryd.ntmps17 rfl ?_
  refine WJ.seq ?_
  refine WJ.quiet ?_
  refine QJ.step (YldS.yld (y_assign rfl)) rfl ?_
  refine QJ.step (YldS.yld (y_assign rfl)) rfl ?_
  refine QJ.done ?_
  refine PJ.next ?_
  obtain ⟨kj4, hk5, hm⟩ := withK_open hm
  refine WJ.join (X := Unit) (fun (_ : Unit) => kj4  = some r) (fun (_ : Unit) => [(0, v2)]) (fun (_ : Unit) => []) ?_ ?_
  · clear hk5
    refine WJ.seq ?_
    refine WJ.quiet ?_
    refine QJ.step (YldS.yld (y_assign rfl)) rfl ?_
    refine QJ.done ?_
    refine PJ.next ?_
    refine WJ.block ?_
    refine WJ.sel (L' := (fun (x : Int) => []) 0) [] ⟨List.nodup_nil, rfl⟩ ?_
    refine WJ.sub (m' := (fun (x : Int) => [(0, v2), (4, .int .i64 x)]) 0) ⟨rfl, rfl, trivial⟩ ?_
    refine WJ.loop (X := Int) (fun N (x : Int) => s_BestOfRounds_l1 kj4 rounds1 N x = some r) (fun (x : Int) => [(0, v2), (4, .int .i64 x)]) (fun (x : Int) => []) ?_ N 0 hm
    · rintro N i6 hI
      have hm := hI; clear hI
      cases N with
      | zero => cases hm
      | succ N =>
      unfold s_BestOfRounds_l1 at hm
      refine WJ.seq ?_
      refine WJ.seq ?_
      refine WJ.quiet ?_
      refine QJ.step (YldS.yld (y_move rfl)) rfl ?_
      refine QJ.step (YldS.yld (y_move rfl)) rfl ?_
      refine QJ.step (YldS.yld (y_lenS Tryd.runUnderlying34 hr3 rfl)) rfl ?_
      refine QJ.step (YldS.yld (y_bin rfl rfl rfl)) rfl ?_
      refine QJ.done ?_
      refine PJ.next ?_
      refine WJ.cond (t := decide (i6 < (List.length rounds1 : Int))) rfl (fun hb7 => ?_) (fun hb7 => ?_)
      · replace hm := ifT hm hb7
        refine WJ.skip ?_
        refine PJ.next ?_
        refine WJ.seq ?_
        refine WJ.block ?_
        refine WJ.seq ?_
        refine WJ.quiet ?_
        refine QJ.step (YldS.yld (y_move rfl)) rfl ?_
        refine QJ.step (YldS.yld (y_move rfl)) rfl ?_
        obtain ⟨e8, h9, hm⟩ := bindS hm
        obtain ⟨ad10, _, ⟨v13, rfl, hr14⟩, ha11, hy12⟩ := hr3.elem h9
        refine QJ.step (YldS.yld (hy12 Tryd.runUnderlying34 Tryd.sizeOf24 rfl rfl)) rfl ?_
        refine QJ.step (YldS.yld (y_load1 (v := v13) Tryd.isAgg24 ha11 St.frozenC rfl)) rfl ?_
        obtain ⟨r15, h16, hm⟩ := bindS hm
        refine QJ.step (y_call Tryd.call33 rfl (RetG.quiet fun w hw => ok_s_l22Ok h16 w _ (hr14.st hw))) rfl ?_
        refine QJ.step (YldS.yld (y_not rfl)) rfl ?_
        refine QJ.done ?_
        refine PJ.next ?_
        refine WJ.cond (t := !r15) rfl (fun hb17 => ?_) (fun hb17 => ?_)
        · replace hm := ifT hm hb17
          refine WJ.seq ?_
          refine WJ.quiet ?_
          refine QJ.step (YldS.yld (y_assign rfl)) rfl ?_
          refine QJ.step (YldS.yld (y_assign rfl)) rfl ?_
          refine QJ.done ?_
          refine PJ.next ?_
          refine WJ.ret ?_
          refine PJ.block_ret (PJ.then_ret (PJ.then_ret (PJ.block_ret (PJ.then_ret ?_))))
          refine PJ.nil_row 46 fResult ?_
          obtain rfl := Option.some.inj hm
          refine PJ.sel (L' := [row (.slice none 0 0) 46 fResult []]) [0] ⟨by decide, rfl⟩ ?_
          exact PJ.retn (vs := [(.slice none 0 0), .int .i64 1]) Tryd.results17 ⟨rfl, rfl, trivial⟩ ⟨_, rfl, rfl⟩
        · replace hm := ifF hm hb17
          refine WJ.skip ?_
          refine PJ.block_normal (PJ.next ?_)
          refine WJ.quiet ?_
          refine QJ.step (YldS.yld (y_move rfl)) rfl ?_
          refine QJ.step (YldS.yld (y_bin rfl rfl rfl)) rfl ?_
          refine QJ.step (YldS.yld (y_assign rfl)) rfl ?_
          refine QJ.done ?_
          exact PJ.round (w64 (i6 + 1)) [] hm ⟨rfl, rfl, trivial⟩ ⟨List.nodup_nil, rfl⟩
      · replace hm := ifF hm hb7
        refine WJ.exit ?_
        refine PJ.then_exit (PJ.then_exit (PJ.block_exit ?_))
        exact PJ.joined () [] hm ⟨rfl, trivial⟩ ⟨List.nodup_nil, rfl⟩
  · rintro _ hm
    subst hk5
    refine WJ.seq ?_
    refine WJ.seq ?_
    refine WJ.quiet ?_
    refine QJ.step (YldS.yld (y_move rfl)) rfl ?_
    refine QJ.step (YldS.yld (y_lenS Tryd.runUnderlying34 hr3 rfl)) rfl ?_
    refine QJ.step (YldS.yld (y_bin rfl rfl rfl)) rfl ?_
    refine QJ.done ?_
    refine PJ.next ?_
    refine WJ.cond (t := decide ((List.length rounds1 : Int) > 10)) rfl (fun hb18 => ?_) (fun hb18 => ?_)
    · replace hm := ifT hm hb18
      refine WJ.seq ?_
      refine WJ.quiet ?_
      refine QJ.step (YldS.yld (y_assign rfl)) rfl ?_
      refine QJ.step (YldS.yld (y_assign rfl)) rfl ?_
      refine QJ.done ?_
      refine PJ.next ?_
      refine WJ.ret ?_
      refine PJ.then_ret ?_
      refine PJ.nil_row 46 fResult ?_
      obtain rfl := Option.some.inj hm
      refine PJ.sel (L' := [row (.slice none 0 0) 46 fResult []]) [0] ⟨by decide, rfl⟩ ?_
      exact PJ.retn (vs := [(.slice none 0 0), .int .i64 2]) Tryd.results17 ⟨rfl, rfl, trivial⟩ ⟨_, rfl, rfl⟩
    · replace hm := ifF hm hb18
      refine WJ.skip ?_
      refine PJ.next ?_
      refine WJ.seq ?_
      refine WJ.reg ?_
      refine SJ.buildSlice (R := fResult) (os := []) [] Tryd.runUnderlying24 Tryd.sizeOf46 Tryd.zeroValue46 rfl rfl rfl rfl rfl rfl fun v19 => ?_
      refine SJ.q (YldS.yld (y_assign rfl)) rfl ?_
      refine SJ.nil ?_
      refine PJ.next ?_
      obtain ⟨kj22, hk23, hm⟩ := withK_open hm
      refine WJ.join (X := (List Result) × Value) (fun (x : (List Result) × Value) => kj22 x.1 = some r) (fun (x : (List Result) × Value) => [(5, x.2)]) (fun (x : (List Result) × Value) => [row x.2 46 fResult x.1]) ?_ ?_
      · clear hk23
        refine WJ.seq ?_
        refine WJ.quiet ?_
        refine QJ.step (YldS.yld (y_assign rfl)) rfl ?_
        refine QJ.done ?_
        refine PJ.next ?_
        refine WJ.block ?_
        refine WJ.sel (L' := (fun (x : (List Result) × Value × Int) => [row x.2.1 46 fResult x.1]) ([], v19, 0)) [0] ⟨by decide, rfl⟩ ?_
        refine WJ.sub (m' := (fun (x : (List Result) × Value × Int) => [(0, v2), (5, x.2.1), (6, .int .i64 x.2.2)]) ([], v19, 0)) ⟨rfl, rfl, rfl, trivial⟩ ?_
        refine WJ.loop (X := (List Result) × Value × Int) (fun N (x : (List Result) × Value × Int) => s_BestOfRounds_l2 kj22 rounds1 N x.1 x.2.2 = some r) (fun (x : (List Result) × Value × Int) => [(0, v2), (5, x.2.1), (6, .int .i64 x.2.2)]) (fun (x : (List Result) × Value × Int) => [row x.2.1 46 fResult x.1]) ?_ N ([], v19, 0) hm
        · rintro N ⟨l24, v25, i26⟩ hI
          have hm := hI; clear hI
          cases N with
          | zero => cases hm
          | succ N =>
          unfold s_BestOfRounds_l2 at hm
          refine WJ.seq ?_
          refine WJ.seq ?_
          refine WJ.quiet ?_
          refine QJ.step (YldS.yld (y_move rfl)) rfl ?_
          refine QJ.step (YldS.yld (y_move rfl)) rfl ?_
          refine QJ.step (YldS.yld (y_lenS Tryd.runUnderlying34 hr3 rfl)) rfl ?_
          refine QJ.step (YldS.yld (y_bin rfl rfl rfl)) rfl ?_
          refine QJ.done ?_
          refine PJ.next ?_
          refine WJ.cond (t := decide (i26 < (List.length rounds1 : Int))) rfl (fun hb27 => ?_) (fun hb27 => ?_)
          · replace hm := ifT hm hb27
            refine WJ.skip ?_
            refine PJ.next ?_
            obtain ⟨kj30, hk31, hm⟩ := withK_open hm
            refine WJ.join (X := (List Result) × Value) (fun (x : (List Result) × Value) => kj30 x.1 = some r) (fun (x : (List Result) × Value) => [(0, v2), (5, x.2), (6, .int .i64 i26)]) (fun (x : (List Result) × Value) => [row x.2 46 fResult x.1]) ?_ ?_
            · clear hk31
              refine WJ.block ?_
              refine WJ.seq ?_
              refine WJ.quiet ?_
              refine QJ.step (YldS.yld (y_assign rfl)) rfl ?_
              refine QJ.done ?_
              refine PJ.next ?_
              refine WJ.block ?_
              refine WJ.sel (L' := (fun (x : (List Result) × Value × Int) => [row x.2.1 46 fResult x.1]) (l24, v25, 0)) [0] ⟨by decide, rfl⟩ ?_
              refine WJ.sub (m' := (fun (x : (List Result) × Value × Int) => [(0, v2), (5, x.2.1), (6, .int .i64 i26), (7, .int .i64 x.2.2)]) (l24, v25, 0)) ⟨rfl, rfl, rfl, rfl, trivial⟩ ?_
              refine WJ.loop (X := (List Result) × Value × Int) (fun N (x : (List Result) × Value × Int) => s_BestOfRounds_l3 kj30 rounds1 i26 N x.1 x.2.2 = some r) (fun (x : (List Result) × Value × Int) => [(0, v2), (5, x.2.1), (6, .int .i64 i26), (7, .int .i64 x.2.2)]) (fun (x : (List Result) × Value × Int) => [row x.2.1 46 fResult x.1]) ?_ N (l24, v25, 0) hm
              · rintro N ⟨l32, v33, k34⟩ hI
                have hm := hI; clear hI
                cases N with
                | zero => cases hm
                | succ N =>
                unfold s_BestOfRounds_l3 at hm
                refine WJ.seq ?_
                refine WJ.seq ?_
                refine WJ.quiet ?_
                refine QJ.step (YldS.yld (y_move rfl)) rfl ?_
                refine QJ.step (YldS.yld (y_move rfl)) rfl ?_
                refine QJ.step (YldS.yld (y_move rfl)) rfl ?_
                obtain ⟨e35, h36, hm⟩ := bindS hm
                obtain ⟨ad37, _, ⟨v40, rfl, hr41⟩, ha38, hy39⟩ := hr3.elem h36
                refine QJ.step (YldS.yld (hy39 Tryd.runUnderlying34 Tryd.sizeOf24 rfl rfl)) rfl ?_
                refine QJ.step (YldS.yld (y_load1 (v := v40) Tryd.isAgg24 ha38 St.frozenC rfl)) rfl ?_
                refine QJ.step (YldS.yld (y_lenS Tryd.runUnderlying24 hr41 rfl)) rfl ?_
                refine QJ.step (YldS.yld (y_bin rfl rfl rfl)) rfl ?_
                refine QJ.done ?_
                refine PJ.next ?_
                refine WJ.cond (t := decide (k34 < (List.length e35 : Int))) rfl (fun hb42 => ?_) (fun hb42 => ?_)
                · replace hm := ifT hm hb42
                  refine WJ.skip ?_
                  refine PJ.next ?_
                  obtain ⟨kj45, hk46, hm⟩ := withK_open hm
                  refine WJ.join (X := (List Result) × Value) (fun (x : (List Result) × Value) => kj45 x.1 = some r) (fun (x : (List Result) × Value) => [(0, v2), (5, x.2), (6, .int .i64 i26), (7, .int .i64 k34)]) (fun (x : (List Result) × Value) => [row x.2 46 fResult x.1]) ?_ ?_
                  · clear hk46
                    refine WJ.block ?_
                    refine WJ.seq ?_
                    refine WJ.reg ?_
                    refine SJ.q (YldS.yld (y_move rfl)) rfl ?_
                    refine SJ.q (YldS.yld (y_move rfl)) rfl ?_
                    obtain ⟨e47, h48, hm⟩ := bindS hm
                    obtain ⟨ad49, _, ⟨v52, rfl, hr53⟩, ha50, hy51⟩ := hr3.elem h48
                    refine SJ.q (YldS.yld (hy51 Tryd.runUnderlying34 Tryd.sizeOf24 rfl rfl)) rfl ?_
                    refine SJ.q (YldS.yld (y_load1 (v := v52) Tryd.isAgg24 ha50 St.frozenC rfl)) rfl ?_
                    refine SJ.q (YldS.yld (y_move rfl)) rfl ?_
                    obtain ⟨e54, h55, hm⟩ := bindS hm
                    obtain ⟨ad56, _, rfl, ha57, hy58⟩ := hr53.elem h55
                    refine SJ.q (YldS.yld (hy58 Tryd.runUnderlying24 Tryd.sizeOf46 rfl rfl)) rfl ?_
                    refine SJ.q (YldS.yld (y_loadN Tryd.isAgg46 Tryd.sizeOf46 rfl ha57 St.frozenC rfl)) rfl ?_
                    refine SJ.alloc (cs := [str [], .int .i64 0, .int .i64 0]) Tryd.zeroValue46 rfl rfl fun g59 => ?_
                    refine SJ.storeL (k := 0) (off := 0) (us := [str e54.name, .int .i64 e54.net, .int .i64 e54.errors]) rfl rfl rfl rfl Tryd.sizeOf46 rfl rfl ?_
                    refine SJ.nil ?_
                    refine PJ.next ?_
                    refine WJ.seq ?_
                    refine WJ.quiet ?_
                    refine QJ.step (YldS.yld (y_assign rfl)) rfl ?_
                    refine QJ.done ?_
                    refine PJ.next ?_
                    obtain ⟨kj61, hk62, hm⟩ := withK_open hm
                    refine WJ.join (X := Int) (fun (x : Int) => kj61 x = some r) (fun (x : Int) => [(0, v2), (5, v33), (6, .int .i64 i26), (7, .int .i64 k34), (8, pt g59 0), (9, .int .i64 x)]) (fun (x : Int) => [box g59 46 [str e54.name, .int .i64 e54.net, .int .i64 e54.errors], row v33 46 fResult l32]) ?_ ?_
                    · clear hk62
                      refine WJ.seq ?_
                      refine WJ.quiet ?_
                      refine QJ.step (YldS.yld (y_assign rfl)) rfl ?_
                      refine QJ.done ?_
                      refine PJ.next ?_
                      refine WJ.block ?_
                      refine WJ.sel (L' := (fun (x : Int × Int) => [box g59 46 [str e54.name, .int .i64 e54.net, .int .i64 e54.errors], row v33 46 fResult l32]) ((-1), 0)) [0, 1] ⟨by decide, rfl⟩ ?_
                      refine WJ.sub (m' := (fun (x : Int × Int) => [(0, v2), (5, v33), (6, .int .i64 i26), (7, .int .i64 k34), (8, pt g59 0), (9, .int .i64 x.1), (10, .int .i64 x.2)]) ((-1), 0)) ⟨rfl, rfl, rfl, rfl, rfl, rfl, rfl, trivial⟩ ?_
                      refine WJ.loop (X := Int × Int) (fun N (x : Int × Int) => s_BestOfRounds_l4 kj61 l32 e54 N x.1 x.2 = some r) (fun (x : Int × Int) => [(0, v2), (5, v33), (6, .int .i64 i26), (7, .int .i64 k34), (8, pt g59 0), (9, .int .i64 x.1), (10, .int .i64 x.2)]) (fun (x : Int × Int) => [box g59 46 [str e54.name, .int .i64 e54.net, .int .i64 e54.errors], row v33 46 fResult l32]) ?_ N ((-1), 0) hm
                      · rintro N ⟨at63, j64⟩ hI
                        have hm := hI; clear hI
                        cases N with
                        | zero => cases hm
                        | succ N =>
                        unfold s_BestOfRounds_l4 at hm
                        refine WJ.seq ?_
                        refine WJ.seq ?_
                        refine WJ.quiet ?_
                        refine QJ.step (YldS.yld (y_move rfl)) rfl ?_
                        refine QJ.step (YldS.yld (y_move rfl)) rfl ?_
                        refine QJ.step (YldS.yld (y_lenRow (k := 1) rfl Tryd.runUnderlying24 rfl)) rfl ?_
                        refine QJ.step (YldS.yld (y_bin rfl rfl rfl)) rfl ?_
                        refine QJ.done ?_
                        refine PJ.next ?_
                        refine WJ.cond (t := decide (j64 < (List.length l32 : Int))) rfl (fun hb65 => ?_) (fun hb65 => ?_)
                        · replace hm := ifT hm hb65
                          refine WJ.skip ?_
                          refine PJ.next ?_
                          obtain ⟨kj67, hk68, hm⟩ := withK_open hm
                          refine WJ.join (X := Int) (fun (x : Int) => kj67 x = some r) (fun (x : Int) => [(0, v2), (5, v33), (6, .int .i64 i26), (7, .int .i64 k34), (8, pt g59 0), (9, .int .i64 x), (10, .int .i64 j64)]) (fun (x : Int) => [box g59 46 [str e54.name, .int .i64 e54.net, .int .i64 e54.errors], row v33 46 fResult l32]) ?_ ?_
                          · clear hk68
                            refine WJ.block ?_
                            refine WJ.seq ?_
                            refine WJ.quiet_draw follows (by kernel_rfl) ?_
                            refine QJ.step (YldS.yld (y_move rfl)) rfl ?_
                            refine QJ.step (YldS.yld (y_move rfl)) rfl ?_
                            obtain ⟨e69, h70, hm⟩ := bindS hm
                            refine QJ.step (YldS.yld (y_ixRow (k := 1) (R := fResult) rfl Tryd.runUnderlying24 Tryd.sizeOf46 rfl rfl h70)) rfl ?_
                            refine QJ.step (YldS.yld (y_fldR fld46_0 rfl)) rfl ?_
                            refine QJ.step (YldS.yld (y_loadR (k := 1) (i := (Int.toNat j64)) (off := 0) (u := str e69.name) rfl Tryd.isAgg9 rfl (idx_get h70) rfl)) rfl ?_
                            refine QJ.step (YldS.yld (y_fldB (o := 0) fld46_0 rfl)) rfl ?_
                            refine QJ.step (YldS.yld (y_loadB (k := 0) (off := 0) (v := str e54.name) rfl Tryd.isAgg9 rfl rfl)) rfl ?_
                            refine QJ.step (YldS.yld (y_binS rfl rfl rfl)) rfl ?_
                            refine QJ.done ?_
                            refine PJ.next ?_
                            refine WJ.cond (t := (e69.name == e54.name)) rfl (fun hb71 => ?_) (fun hb71 => ?_)
                            · replace hm := ifT hm hb71
                              refine WJ.quiet ?_
                              refine QJ.step (YldS.yld (y_move rfl)) rfl ?_
                              refine QJ.step (YldS.yld (y_assign rfl)) rfl ?_
                              refine QJ.done ?_
                              refine PJ.block_normal ?_
                              exact PJ.joined j64 [0, 1] hm ⟨rfl, rfl, rfl, rfl, rfl, rfl, rfl, trivial⟩ ⟨by decide, rfl⟩
                            · replace hm := ifF hm hb71
                              refine WJ.skip ?_
                              refine PJ.block_normal ?_
                              exact PJ.joined at63 [0, 1] hm ⟨rfl, rfl, rfl, rfl, rfl, rfl, rfl, trivial⟩ ⟨by decide, rfl⟩
                          · rintro at66 hm
                            subst hk68
                            refine WJ.quiet ?_
                            refine QJ.step (YldS.yld (y_move rfl)) rfl ?_
                            refine QJ.step (YldS.yld (y_bin rfl rfl rfl)) rfl ?_
                            refine QJ.step (YldS.yld (y_assign rfl)) rfl ?_
                            refine QJ.done ?_
                            exact PJ.round (at66, w64 (j64 + 1)) [0, 1] hm ⟨rfl, rfl, rfl, rfl, rfl, rfl, rfl, trivial⟩ ⟨by decide, rfl⟩
                        · replace hm := ifF hm hb65
                          refine WJ.exit ?_
                          refine PJ.then_exit (PJ.then_exit (PJ.block_exit ?_))
                          exact PJ.joined at63 [0, 1] hm ⟨rfl, rfl, rfl, rfl, rfl, rfl, trivial⟩ ⟨by decide, rfl⟩
                    · rintro at60 hm
                      subst hk62
                      refine WJ.seq ?_
                      refine WJ.quiet ?_
                      refine QJ.step (YldS.yld (y_move rfl)) rfl ?_
                      refine QJ.step (YldS.yld (y_bin rfl rfl rfl)) rfl ?_
                      refine QJ.done ?_
                      refine PJ.next ?_
                      refine WJ.cond (t := decide (at60 < 0)) rfl (fun hb72 => ?_) (fun hb72 => ?_)
                      · replace hm := ifT hm hb72
                        refine WJ.reg ?_
                        refine SJ.q (YldS.yld (y_move rfl)) rfl ?_
                        refine SJ.q (YldS.yld (y_loadBN (k := 0) (off := 0) (us := [str e54.name, .int .i64 e54.net, .int .i64 e54.errors]) rfl Tryd.isAgg46 Tryd.sizeOf46 rfl rfl)) rfl ?_
                        refine SJ.buildSlice (R := fResult) (os := [.tmp 67]) [e54] Tryd.runUnderlying24 Tryd.sizeOf46 Tryd.zeroValue46 rfl rfl rfl rfl rfl rfl fun v73 => ?_
                        obtain ⟨l74, h75, hm⟩ := bindS hm
                        refine SJ.append (k := 2) (R := fResult) h75 rfl Tryd.underlying24 el46 rfl rfl rfl (fun w hw => (hw.row_rd (k := 0) rfl)) rfl fun v76 => ?_
                        refine SJ.q (YldS.yld (y_assign rfl)) rfl ?_
                        refine SJ.nil ?_
                        refine PJ.block_normal ?_
                        exact PJ.joined (l74, v76) [2] hm ⟨rfl, rfl, rfl, rfl, trivial⟩ ⟨by decide, rfl⟩
                      · replace hm := ifF hm hb72
                        refine WJ.seq ?_
                        refine WJ.quiet ?_
                        refine QJ.step (YldS.yld (y_move rfl)) rfl ?_
                        refine QJ.step (YldS.yld (y_move rfl)) rfl ?_
                        obtain ⟨e77, h78, hm⟩ := bindS hm
                        refine QJ.step (YldS.yld (y_ixRow (k := 1) (R := fResult) rfl Tryd.runUnderlying24 Tryd.sizeOf46 rfl rfl h78)) rfl ?_
                        obtain ⟨r79, h80, hm⟩ := bindS hm
                        refine QJ.step (y_call Tryd.call43 rfl (RetG.quiet fun w hw => ok_s_l22Better h80 w _ (hw.box_at (k := 0) rfl) _ (hw.row_elem (k := 1) rfl (idx_get h78)))) rfl ?_
                        refine QJ.done ?_
                        refine PJ.next ?_
                        refine WJ.cond (t := r79) rfl (fun hb81 => ?_) (fun hb81 => ?_)
                        · replace hm := ifT hm hb81
                          refine WJ.reg ?_
                          refine SJ.q (YldS.yld (y_move rfl)) rfl ?_
                          refine SJ.q (YldS.yld (y_move rfl)) rfl ?_
                          refine SJ.q (YldS.yld (y_loadBN (k := 0) (off := 0) (us := [str e54.name, .int .i64 e54.net, .int .i64 e54.errors]) rfl Tryd.isAgg46 Tryd.sizeOf46 rfl rfl)) rfl ?_
                          obtain ⟨e82, h83, hm⟩ := bindS hm
                          refine SJ.q (YldS.yld (y_ixRow (k := 1) (R := fResult) rfl Tryd.runUnderlying24 Tryd.sizeOf46 rfl rfl h83)) rfl ?_
                          refine SJ.storeRL (k := 1) (i := (Int.toNat at60)) (off := 0) (us := [str e54.name, .int .i64 e54.net, .int .i64 e54.errors]) (b := e54) rfl rfl (idx_get h83) rfl rfl Tryd.sizeOf46 rfl rfl rfl ?_
                          refine SJ.nil ?_
                          refine PJ.block_normal ?_
                          exact PJ.joined ((List.set l32 (Int.toNat at60) e54), v33) [1] hm ⟨rfl, rfl, rfl, rfl, trivial⟩ ⟨by decide, rfl⟩
                        · replace hm := ifF hm hb81
                          refine WJ.skip ?_
                          refine PJ.block_normal ?_
                          exact PJ.joined (l32, v33) [1] hm ⟨rfl, rfl, rfl, rfl, trivial⟩ ⟨by decide, rfl⟩
                  · rintro ⟨l43, v44⟩ hm
                    subst hk46
                    refine WJ.quiet ?_
                    refine QJ.step (YldS.yld (y_move rfl)) rfl ?_
                    refine QJ.step (YldS.yld (y_bin rfl rfl rfl)) rfl ?_
                    refine QJ.step (YldS.yld (y_assign rfl)) rfl ?_
                    refine QJ.done ?_
                    exact PJ.round (l43, v44, w64 (k34 + 1)) [0] hm ⟨rfl, rfl, rfl, rfl, trivial⟩ ⟨by decide, rfl⟩
                · replace hm := ifF hm hb42
                  refine WJ.exit ?_
                  refine PJ.then_exit (PJ.then_exit (PJ.block_exit (PJ.block_normal ?_)))
                  exact PJ.joined (l32, v33) [0] hm ⟨rfl, rfl, rfl, trivial⟩ ⟨by decide, rfl⟩
            · rintro ⟨l28, v29⟩ hm
              subst hk31
              refine WJ.quiet ?_
              refine QJ.step (YldS.yld (y_move rfl)) rfl ?_
              refine QJ.step (YldS.yld (y_bin rfl rfl rfl)) rfl ?_
              refine QJ.step (YldS.yld (y_assign rfl)) rfl ?_
              refine QJ.done ?_
              exact PJ.round (l28, v29, w64 (i26 + 1)) [0] hm ⟨rfl, rfl, rfl, trivial⟩ ⟨by decide, rfl⟩
          · replace hm := ifF hm hb27
            refine WJ.exit ?_
            refine PJ.then_exit (PJ.then_exit (PJ.block_exit ?_))
            exact PJ.joined (l24, v25) [0] hm ⟨rfl, trivial⟩ ⟨by decide, rfl⟩
      · rintro ⟨l20, v21⟩ hm
        subst hk23
        refine WJ.seq ?_
        refine WJ.quiet ?_
        refine QJ.step (YldS.yld (y_move rfl)) rfl ?_
        refine QJ.step (YldS.yld (y_assign rfl)) rfl ?_
        refine QJ.step (YldS.yld (y_assign rfl)) rfl ?_
        refine QJ.done ?_
        refine PJ.next ?_
        refine WJ.ret ?_
        obtain rfl := Option.some.inj hm
        refine PJ.sel (L' := [row v21 46 fResult l20]) [0] ⟨by decide, rfl⟩ ?_
        exact PJ.retn (vs := [v21, .int .i64 0]) Tryd.results17 ⟨rfl, rfl, trivial⟩ ⟨_, rfl, rfl⟩

set_option maxRecDepth 100000 in
set_option maxHeartbeats 1000000 in
theorem ok_i_TiedResults {N : Nat} {list1 : List Result} {r : (List (List Int)) × Int} (hm : i_TiedResults N list1 = some r) (w : World) (v2 : Value) (hr3 : RdS w (cx w).Fz v2 fResult.rp list1) :
    Calls Tryd.prog 18 #[v2] w (RetG (cx w) fun u L => ∃ (u1 : Value) (u2 : List (Raw 1)), (u = tup [u1, .int .i64 r.2] ∧ L = [row u1 27 fRaw1 u2, inn (rSl fI64.rp) u2 r.1])) := by
  unfold i_TiedResults at hm
  refine Calls.enter [v2] Tryd.func18 rfl Tryd.ntmps18 rfl ?_
  refine WJ.seq ?_
  refine WJ.quiet ?_
  refine QJ.step (YldS.yld (y_assign rfl)) rfl ?_
  refine QJ.step (YldS.yld (y_assign rfl)) rfl ?_
  refine QJ.done ?_
  refine PJ.next ?_
  refine WJ.seq ?_
  refine WJ.seq ?_
  refine WJ.quiet ?_
  refine QJ.step (YldS.yld (y_move rfl)) rfl ?_
  obtain ⟨r4, h5, hm⟩ := bindS hm
  refine QJ.step (y_call Tryd.call24 rfl (RetG.quiet fun w hw => ok_i_ValidResults h5 w _ (hr3.st hw))) rfl ?_
  refine QJ.step (YldS.yld (y_not rfl)) rfl ?_
  refine QJ.done ?_
  refine PJ.next ?_
  refine WJ.cond (t := !r4) rfl (fun hb6 => ?_) (fun hb6 => ?_)
  · replace hm := ifT hm hb6
    refine WJ.seq ?_
    refine WJ.quiet ?_
    refine QJ.step (YldS.yld (y_assign rfl)) rfl ?_
    refine QJ.step (YldS.yld (y_assign rfl)) rfl ?_
    refine QJ.done ?_
    refine PJ.next ?_
    refine WJ.ret ?_
    refine PJ.then_ret ?_
    refine PJ.nil_row 27 fRaw1 ?_
    refine PJ.inn_nil (q := 1) (rSl fI64.rp) ?_
    obtain rfl := Option.some.inj hm
    refine PJ.sel (L' := [row (.slice none 0 0) 27 fRaw1 ([] : List (Raw 1)), inn (rSl fI64.rp) [] ([] : List (List Int))]) [1, 0] ⟨by decide, rfl⟩ ?_
    exact PJ.retn (vs := [(.slice none 0 0), .int .i64 1]) Tryd.results18 ⟨rfl, rfl, trivial⟩ ⟨_, _, rfl, rfl⟩
  · replace hm := ifF hm hb6
    refine WJ.skip ?_
    refine PJ.next ?_
    refine WJ.seq ?_
    refine WJ.reg ?_
    refine SJ.buildSlice (R := fRaw1) (os := []) ([] : List (Raw 1)) Tryd.runUnderlying37 Tryd.sizeOf27 Tryd.zeroValue27 rfl rfl rfl rfl rfl rfl fun v7 => ?_
    refine SJ.inn_nil (q := 1) (rSl fI64.rp) ?_
    refine SJ.q (YldS.yld (y_assign rfl)) rfl ?_
    refine SJ.nil ?_
    refine PJ.next ?_
    obtain ⟨kj11, hk12, hm⟩ := withK_open hm
    refine WJ.join (X := (List (List Int)) × (List (Raw 1)) × Value) (fun (x : (List (List Int)) × (List (Raw 1)) × Value) => kj11 x.1 = some r) (fun (x : (List (List Int)) × (List (Raw 1)) × Value) => [(4, x.2.2)]) (fun (x : (List (List Int)) × (List (Raw 1)) × Value) => [inn (rSl fI64.rp) x.2.1 x.1, row x.2.2 27 fRaw1 x.2.1]) ?_ ?_
    · clear hk12
      refine WJ.seq ?_
      refine WJ.reg ?_
      refine SJ.q (YldS.yld (y_move rfl)) rfl ?_
      obtain ⟨r13, h14, hm⟩ := bindS hm
      refine SJ.call Tryd.call36 rfl (fun w hw => ok_i_ties h14 w _ (hr3.st hw)) rfl ?_
      rintro v15 _ ⟨_, vs16, rfl, rfl⟩
      refine SJ.q (YldS.yld (y_lenSh (k := 0) (j := 1) rfl rfl Tryd.runUnderlying55 rfl)) rfl ?_
      refine SJ.q (YldS.yld (y_move rfl)) rfl ?_
      refine SJ.nil ?_
      refine PJ.next ?_
      refine WJ.block ?_
      refine WJ.erase 2 ?_
      refine WJ.imp_nil (ins shTied 2 fI64 vs16 r13) fI64 ?_
      refine WJ.sel (L' := (fun (x : (List (List Int)) × (List (Raw 1)) × Value × Int) => [imp (ins shTied 2 fI64 vs16 r13) fI64 x.2.1 x.1, row v15 58 fRaw2 vs16, ins shTied 2 fI64 vs16 r13, row x.2.2.1 27 fRaw1 x.2.1]) (([] : List (List Int)), ([] : List (Raw 1)), v7, 0)) [0, 1, 2, 3] ⟨by decide, rfl⟩ ?_
      refine WJ.sub (m' := (fun (x : (List (List Int)) × (List (Raw 1)) × Value × Int) => [(4, x.2.2.1), (12, v15), (13, .int .i64 (List.length r13 : Int)), (14, .int .i64 x.2.2.2)]) (([] : List (List Int)), ([] : List (Raw 1)), v7, 0)) ⟨rfl, rfl, rfl, rfl, trivial⟩ ?_
      refine WJ.loop (X := (List (List Int)) × (List (Raw 1)) × Value × Int) (fun N (x : (List (List Int)) × (List (Raw 1)) × Value × Int) => i_TiedResults_l1 kj11 r13 N x.1 x.2.2.2 = some r) (fun (x : (List (List Int)) × (List (Raw 1)) × Value × Int) => [(4, x.2.2.1), (12, v15), (13, .int .i64 (List.length r13 : Int)), (14, .int .i64 x.2.2.2)]) (fun (x : (List (List Int)) × (List (Raw 1)) × Value × Int) => [imp (ins shTied 2 fI64 vs16 r13) fI64 x.2.1 x.1, row v15 58 fRaw2 vs16, ins shTied 2 fI64 vs16 r13, row x.2.2.1 27 fRaw1 x.2.1]) ?_ N (([] : List (List Int)), ([] : List (Raw 1)), v7, 0) hm
      · rintro N ⟨l17, vs18, v19, x20⟩ hI
        have hm := hI; clear hI
        cases N with
        | zero => cases hm
        | succ N =>
        unfold i_TiedResults_l1 at hm
        refine WJ.seq ?_
        refine WJ.quiet ?_
        refine QJ.step (YldS.yld (y_bin rfl rfl rfl)) rfl ?_
        refine QJ.done ?_
        refine PJ.next ?_
        refine WJ.seq ?_
        refine WJ.cond (t := decide (x20 < (List.length r13 : Int))) rfl (fun hb21 => ?_) (fun hb21 => ?_)
        · replace hm := ifT hm hb21
          refine WJ.skip ?_
          refine PJ.next ?_
          obtain ⟨kj25, hk26, hm⟩ := withK_open hm
          refine WJ.join (X := (List (List Int)) × (List (Raw 1)) × Value) (fun (x : (List (List Int)) × (List (Raw 1)) × Value) => kj25 x.1 = some r) (fun (x : (List (List Int)) × (List (Raw 1)) × Value) => [(4, x.2.2), (12, v15), (13, .int .i64 (List.length r13 : Int)), (14, .int .i64 x20)]) (fun (x : (List (List Int)) × (List (Raw 1)) × Value) => [imp (ins shTied 2 fI64 vs16 r13) fI64 x.2.1 x.1, row v15 58 fRaw2 vs16, ins shTied 2 fI64 vs16 r13, row x.2.2 27 fRaw1 x.2.1]) ?_ ?_
          · clear hk26
            refine WJ.block ?_
            refine WJ.seq ?_
            refine WJ.imp_len 0 rfl fun hl27 => ?_
            refine WJ.ins_len 2 rfl fun hl28 => ?_
            refine WJ.reg ?_
            obtain ⟨e29, h30, hm⟩ := bindS hm
            obtain ⟨y31, hy32⟩ := inn_idx hl28.1 h30
            obtain hs33 := hl28.2 _ _ _ hy32 h30
            refine SJ.q (YldS.yld (y_ixRow (k := 1) (R := fRaw2) rfl Tryd.runUnderlying55 Tryd.sizeOf58 rfl rfl hy32)) rfl ?_
            refine SJ.q (YldS.yld (y_loadRN (k := 1) (i := (Int.toNat x20)) (off := 0) (us := [.int .i64 e29.place, (shTied.sl y31)]) rfl Tryd.isAgg58 Tryd.sizeOf58 rfl (idx_get hy32) (sh_cells hs33 rfl))) rfl ?_
            refine SJ.alloc (cs := [.int .i64 0, .slice none 0 0]) Tryd.zeroValue58 rfl rfl fun g34 => ?_
            refine SJ.nil_row 2 fI64 ?_
            have hc35 := And.intro True.intro (sh_one hs33)
            refine SJ.storeL (k := 1) (off := 0) (us := [.int .i64 e29.place, (shTied.sl y31)]) rfl rfl rfl rfl Tryd.sizeOf58 rfl (by simp only [List.all_cons, hc35.2]; rfl) ?_
            refine SJ.nil ?_
            refine PJ.next ?_
            refine WJ.seq ?_
            refine WJ.quiet ?_
            refine QJ.step (YldS.yld (y_fldB (o := 0) fld58_1 rfl)) rfl ?_
            refine QJ.step (YldS.yld (y_loadB (k := 1) (off := 1) (v := (shTied.sl y31)) rfl Tryd.isAgg27 rfl rfl)) rfl ?_
            refine QJ.step (YldS.yld (y_lenG (fun w hw => (hw.ins_rd (k := 4) rfl rfl hy32 h30)) Tryd.runUnderlying27 rfl)) rfl ?_
            refine QJ.step (YldS.yld (y_bin rfl rfl rfl)) rfl ?_
            refine QJ.done ?_
            refine PJ.next ?_
            refine WJ.cond (t := decide ((List.length e29.list : Int) > 1)) rfl (fun hb36 => ?_) (fun hb36 => ?_)
            · replace hm := ifT hm hb36
              refine WJ.reg ?_
              refine SJ.q (YldS.yld (y_move rfl)) rfl ?_
              refine SJ.q (YldS.yld (y_fldB (o := 0) fld58_1 rfl)) rfl ?_
              refine SJ.q (YldS.yld (y_loadB (k := 1) (off := 1) (v := (shTied.sl y31)) rfl Tryd.isAgg27 rfl rfl)) rfl ?_
              refine SJ.rdCells (fun w hw => (hw.ins_rd (k := 4) rfl rfl hy32 h30)) fun hc37 => ?_
              refine SJ.buildSlice (R := fRaw1) (os := [.tmp 24]) ([mkRaw1 (shTied.sl y31) hc37.2] : List (Raw 1)) Tryd.runUnderlying37 Tryd.sizeOf27 Tryd.zeroValue27 rfl rfl rfl (by simp only [List.map_cons, List.map_nil, hc37.1]; rfl) rfl rfl fun v38 => ?_
              refine SJ.imp_nil (ins shTied 2 fI64 vs16 r13) fI64 ?_
              refine SJ.conv0 (fun w S h => imp_push hc37.2 (ins_src hy32 h30) h) ?_
              refine SJ.conv0 (B := imp (ins shTied 2 fI64 vs16 r13) fI64 ([mkRaw1 (shTied.sl y31) hc37.2] : List (Raw 1)) ([e29.list] : List (List Int))) (fun w S h => h) ?_
              refine SJ.imp_len 4 rfl fun hl39 => ?_
              refine SJ.imp_len 0 rfl fun hl40 => ?_
              obtain ⟨l41, h42, hm⟩ := bindS hm
              refine SJ.append (k := 7) (R := fRaw1) (app_raw h42 hl39 hl40) rfl Tryd.underlying37 el27 rfl rfl rfl (fun w hw => (hw.row_rd (k := 1) rfl)) rfl fun v43 => ?_
              refine SJ.sel (L' := [imp (ins shTied 2 fI64 vs16 r13) fI64 vs18 l17, imp (ins shTied 2 fI64 vs16 r13) fI64 ([mkRaw1 (shTied.sl y31) hc37.2] : List (Raw 1)) ([e29.list] : List (List Int)), row v38 27 fRaw1 ([mkRaw1 (shTied.sl y31) hc37.2] : List (Raw 1)), row (.slice none 0 0) 2 fI64 [], box g34 58 [.int .i64 e29.place, (shTied.sl y31)], row v15 58 fRaw2 vs16, ins shTied 2 fI64 vs16 r13, row v43 27 fRaw1 (vs18 ++ ([mkRaw1 (shTied.sl y31) hc37.2] : List (Raw 1)))]) [4, 0, 1, 2, 3, 5, 6, 7] ⟨by decide, rfl⟩ ?_
              refine SJ.star ?_
              refine SJ.conv0 (fun w S h => imp_app h42 h) ?_
              refine SJ.q (YldS.yld (y_assign rfl)) rfl ?_
              refine SJ.nil ?_
              refine PJ.block_normal ?_
              exact PJ.joined (l41, (vs18 ++ ([mkRaw1 (shTied.sl y31) hc37.2] : List (Raw 1))), v43) [0, 4, 5, 6] hm ⟨rfl, rfl, rfl, rfl, trivial⟩ ⟨by decide, rfl⟩
            · replace hm := ifF hm hb36
              refine WJ.skip ?_
              refine PJ.block_normal ?_
              exact PJ.joined (l17, vs18, v19) [2, 3, 4, 5] hm ⟨rfl, rfl, rfl, rfl, trivial⟩ ⟨by decide, rfl⟩
          · rintro ⟨l22, vs23, v24⟩ hm
            subst hk26
            refine WJ.quiet ?_
            refine QJ.step (YldS.yld (y_bin rfl rfl rfl)) rfl ?_
            refine QJ.step (YldS.yld (y_move rfl)) rfl ?_
            refine QJ.done ?_
            exact PJ.round (l22, vs23, v24, w64 (x20 + 1)) [0, 1, 2, 3] hm ⟨rfl, rfl, rfl, rfl, trivial⟩ ⟨by decide, rfl⟩
        · replace hm := ifF hm hb21
          refine WJ.exit ?_
          refine PJ.then_exit (PJ.then_exit (PJ.block_exit ?_))
          refine PJ.sel (L' := [ins shTied 2 fI64 vs16 r13, imp (ins shTied 2 fI64 vs16 r13) fI64 vs18 l17, row v15 58 fRaw2 vs16, row v19 27 fRaw1 vs18]) [2, 0, 1, 3] ⟨by decide, rfl⟩ ?_
          refine PJ.star ?_
          refine PJ.conv0 (fun w S h => imp_end h) ?_
          exact PJ.joined (l17, vs18, v19) [0, 2] hm ⟨rfl, trivial⟩ ⟨by decide, rfl⟩
    · rintro ⟨l8, vs9, v10⟩ hm
      subst hk12
      refine WJ.seq ?_
      refine WJ.quiet ?_
      refine QJ.step (YldS.yld (y_move rfl)) rfl ?_
      refine QJ.step (YldS.yld (y_assign rfl)) rfl ?_
      refine QJ.step (YldS.yld (y_assign rfl)) rfl ?_
      refine QJ.done ?_
      refine PJ.next ?_
      refine WJ.ret ?_
      obtain rfl := Option.some.inj hm
      refine PJ.sel (L' := [row v10 27 fRaw1 vs9, inn (rSl fI64.rp) vs9 l8]) [1, 0] ⟨by decide, rfl⟩ ?_
      exact PJ.retn (vs := [v10, .int .i64 0]) Tryd.results18 ⟨rfl, rfl, trivial⟩ ⟨_, _, rfl, rfl⟩

set_option maxRecDepth 100000 in
set_option maxHeartbeats 1000000 in
theorem ok_s_l22Groups {N : Nat} {list1 : List Result} {r : (List (List Int))} (hm : s_l22Groups N list1 = some r) (w : World) (v2 : Value) (hr3 : RdS w (cx w).Fz v2 fResult.rp list1) :
    Calls Tryd.prog 44 #[v2] w (RetG (cx w) fun u L => ∃ (u1 : Value) (u2 : List (Raw 1)), (u = u1 ∧ L = [row u1 27 fRaw1 u2, inn (rSl fI64.rp) u2 r])) := by
  unfold s_l22Groups at hm
  refine Calls.enter [v2] Tryd.func44 rfl Tryd.ntmps44 rfl ?_
  refine WJ.seq ?_
  refine WJ.quiet ?_
  refine QJ.step (YldS.yld (y_assign rfl)) rfl ?_
  refine QJ.done ?_
  refine PJ.next ?_
  refine WJ.seq ?_
  refine WJ.reg ?_
  refine SJ.buildSlice (R := fRaw1) (os := []) ([] : List (Raw 1)) Tryd.runUnderlying37 Tryd.sizeOf27 Tryd.zeroValue27 rfl rfl rfl rfl rfl rfl fun v4 => ?_
  refine SJ.inm_nil 2 fI64 ?_
  refine SJ.q (YldS.yld (y_assign rfl)) rfl ?_
  refine SJ.nil ?_
  refine PJ.next ?_
  refine WJ.seq ?_
  refine WJ.reg ?_
  refine SJ.q (YldS.yld (y_move rfl)) rfl ?_
  obtain ⟨r5, h6, hm⟩ := bindS hm
  refine SJ.call Tryd.call35 rfl (fun w hw => ok_s_l22Rank h6 w _ (hr3.st hw)) rfl ?_
  rintro v7 _ ⟨_, rfl, rfl⟩
  refine SJ.q (YldS.yld (y_assign rfl)) rfl ?_
  refine SJ.nil ?_
  refine PJ.next ?_
  obtain ⟨kj11, hk12, hm⟩ := withK_open hm
  refine WJ.join (X := (List (List Int)) × (List (Raw 1)) × Value) (fun (x : (List (List Int)) × (List (Raw 1)) × Value) => kj11 x.1 = some r) (fun (x : (List (List Int)) × (List (Raw 1)) × Value) => [(3, x.2.2)]) (fun (x : (List (List Int)) × (List (Raw 1)) × Value) => [inm 2 fI64 x.2.1 x.1, row x.2.2 27 fRaw1 x.2.1]) ?_ ?_
  · clear hk12
    refine WJ.seq ?_
    refine WJ.quiet ?_
    refine QJ.step (YldS.yld (y_assign rfl)) rfl ?_
    refine QJ.done ?_
    refine PJ.next ?_
    refine WJ.block ?_
    refine WJ.sel (L' := (fun (x : (List (List Int)) × (List (Raw 1)) × Value × Int) => [row v7 2 fI64 r5, inm 2 fI64 x.2.1 x.1, row x.2.2.1 27 fRaw1 x.2.1]) (([] : List (List Int)), ([] : List (Raw 1)), v4, 0)) [0, 1, 2] ⟨by decide, rfl⟩ ?_
    refine WJ.sub (m' := (fun (x : (List (List Int)) × (List (Raw 1)) × Value × Int) => [(0, v2), (3, x.2.2.1), (4, v7), (5, .int .i64 x.2.2.2)]) (([] : List (List Int)), ([] : List (Raw 1)), v4, 0)) ⟨rfl, rfl, rfl, rfl, trivial⟩ ?_
    refine WJ.loop (X := (List (List Int)) × (List (Raw 1)) × Value × Int) (fun N (x : (List (List Int)) × (List (Raw 1)) × Value × Int) => s_l22Groups_l1 kj11 list1 r5 N x.1 x.2.2.2 = some r) (fun (x : (List (List Int)) × (List (Raw 1)) × Value × Int) => [(0, v2), (3, x.2.2.1), (4, v7), (5, .int .i64 x.2.2.2)]) (fun (x : (List (List Int)) × (List (Raw 1)) × Value × Int) => [row v7 2 fI64 r5, inm 2 fI64 x.2.1 x.1, row x.2.2.1 27 fRaw1 x.2.1]) ?_ N (([] : List (List Int)), ([] : List (Raw 1)), v4, 0) hm
    · rintro N ⟨l13, vs14, v15, i16⟩ hI
      have hm := hI; clear hI
      cases N with
      | zero => cases hm
      | succ N =>
      unfold s_l22Groups_l1 at hm
      refine WJ.seq ?_
      refine WJ.seq ?_
      refine WJ.quiet ?_
      refine QJ.step (YldS.yld (y_move rfl)) rfl ?_
      refine QJ.step (YldS.yld (y_move rfl)) rfl ?_
      refine QJ.step (YldS.yld (y_lenRow (k := 0) rfl Tryd.runUnderlying27 rfl)) rfl ?_
      refine QJ.step (YldS.yld (y_bin rfl rfl rfl)) rfl ?_
      refine QJ.done ?_
      refine PJ.next ?_
      refine WJ.cond (t := decide (i16 < (List.length r5 : Int))) rfl (fun hb17 => ?_) (fun hb17 => ?_)
      · replace hm := ifT hm hb17
        refine WJ.skip ?_
        refine PJ.next ?_
        obtain ⟨kj21, hk22, hm⟩ := withK_open hm
        refine WJ.join (X := (List (List Int)) × (List (Raw 1)) × Value) (fun (x : (List (List Int)) × (List (Raw 1)) × Value) => kj21 x.1 = some r) (fun (x : (List (List Int)) × (List (Raw 1)) × Value) => [(0, v2), (3, x.2.2), (4, v7), (5, .int .i64 i16)]) (fun (x : (List (List Int)) × (List (Raw 1)) × Value) => [inm 2 fI64 x.2.1 x.1, row v7 2 fI64 r5, row x.2.2 27 fRaw1 x.2.1]) ?_ ?_
        · clear hk22
          refine WJ.block ?_
          refine WJ.seq ?_
          refine WJ.quiet_draw follows (by kernel_rfl) ?_
          refine QJ.step (YldS.yld (y_move rfl)) rfl ?_
          refine QJ.step (YldS.yld (y_bin rfl rfl rfl)) rfl ?_
          refine QJ.step (YldS.yld (y_move rfl)) rfl ?_
          obtain ⟨t23, h24, hm⟩ := bindS hm
          refine QJ.cut 16 [(0, v2), (3, v15), (4, v7), (5, .int .i64 i16), (34, .bool t23)] ?_ ?_
          · rcases Bool.eq_false_or_eq_true (decide (i16 > 0)) with hb25 | hb25
            · replace h24 := andT h24 hb25
              refine QJ.on rfl rfl (cB hb25) (YldS.yld (y_move rfl)) rfl ?_
              refine QJ.on rfl rfl (cB hb25) (YldS.yld (y_move rfl)) rfl ?_
              refine QJ.on rfl rfl (cB hb25) (YldS.yld (y_move rfl)) rfl ?_
              refine QJ.on rfl rfl (cB hb25) (YldS.yld (y_bin rfl rfl rfl)) rfl ?_
              obtain ⟨e26, h27, h24⟩ := bindS h24
              refine QJ.on rfl rfl (cB hb25) (YldS.yld (y_ixRow (k := 0) (R := fI64) rfl Tryd.runUnderlying27 Tryd.sizeOf2 rfl rfl h27)) rfl ?_
              refine QJ.on rfl rfl (cB hb25) (YldS.yld (y_loadR (k := 0) (i := (Int.toNat (w64 (i16 - 1)))) (off := 0) (u := .int .i64 e26) rfl Tryd.isAgg2 rfl (idx_get h27) rfl)) rfl ?_
              obtain ⟨e28, h29, h24⟩ := bindS h24
              obtain ⟨ad30, _, rfl, ha31, hy32⟩ := hr3.elem h29
              refine QJ.on rfl rfl (cB hb25) (YldS.yld (hy32 Tryd.runUnderlying24 Tryd.sizeOf46 rfl rfl)) rfl ?_
              refine QJ.on rfl rfl (cB hb25) (YldS.yld (y_move rfl)) rfl ?_
              refine QJ.on rfl rfl (cB hb25) (YldS.yld (y_move rfl)) rfl ?_
              refine QJ.on rfl rfl (cB hb25) (YldS.yld (y_move rfl)) rfl ?_
              obtain ⟨e33, h34, h24⟩ := bindS h24
              refine QJ.on rfl rfl (cB hb25) (YldS.yld (y_ixRow (k := 0) (R := fI64) rfl Tryd.runUnderlying27 Tryd.sizeOf2 rfl rfl h34)) rfl ?_
              refine QJ.on rfl rfl (cB hb25) (YldS.yld (y_loadR (k := 0) (i := (Int.toNat i16)) (off := 0) (u := .int .i64 e33) rfl Tryd.isAgg2 rfl (idx_get h34) rfl)) rfl ?_
              obtain ⟨e35, h36, h24⟩ := bindS h24
              obtain ⟨ad37, _, rfl, ha38, hy39⟩ := hr3.elem h36
              refine QJ.on rfl rfl (cB hb25) (YldS.yld (hy39 Tryd.runUnderlying24 Tryd.sizeOf46 rfl rfl)) rfl ?_
              obtain ⟨r40, h41, h24⟩ := bindS h24
              refine QJ.on rfl rfl (cB hb25) (y_call Tryd.call43 rfl (RetG.quiet fun w hw => ok_s_l22Better h41 w _ (ha31.st hw) _ (ha38.st hw))) rfl ?_
              refine QJ.on rfl rfl (cB hb25) (YldS.yld (y_not rfl)) rfl ?_
              refine QJ.step (YldS.yld (y_pick_t (cB hb25) rfl)) rfl ?_
              obtain rfl := Option.some.inj h24
              exact QJ.cut_end ⟨rfl, rfl, rfl, rfl, rfl, trivial⟩
            · obtain rfl := andF h24 hb25
              refine QJ.off rfl rfl (cB hb25) rfl rfl ?_
              refine QJ.off rfl rfl (cB hb25) rfl rfl ?_
              refine QJ.off rfl rfl (cB hb25) rfl rfl ?_
              refine QJ.off rfl rfl (cB hb25) rfl rfl ?_
              refine QJ.off rfl rfl (cB hb25) rfl rfl ?_
              refine QJ.off rfl rfl (cB hb25) rfl rfl ?_
              refine QJ.off rfl rfl (cB hb25) rfl rfl ?_
              refine QJ.off rfl rfl (cB hb25) rfl rfl ?_
              refine QJ.off rfl rfl (cB hb25) rfl rfl ?_
              refine QJ.off rfl rfl (cB hb25) rfl rfl ?_
              refine QJ.off rfl rfl (cB hb25) rfl rfl ?_
              refine QJ.off rfl rfl (cB hb25) rfl rfl ?_
              refine QJ.off rfl rfl (cB hb25) rfl rfl ?_
              refine QJ.off rfl rfl (cB hb25) rfl rfl ?_
              refine QJ.off rfl rfl (cB hb25) rfl rfl ?_
              refine QJ.step (YldS.yld (y_pick_f (cB hb25) rfl)) rfl ?_
              exact QJ.cut_end ⟨rfl, rfl, rfl, rfl, rfl, trivial⟩
          refine QJ.done ?_
          refine PJ.next ?_
          refine WJ.cond (t := t23) rfl (fun hb42 => ?_) (fun hb42 => ?_)
          · replace hm := ifT hm hb42
            refine WJ.seq ?_
            refine WJ.quiet ?_
            refine QJ.step (YldS.yld (y_move rfl)) rfl ?_
            refine QJ.step (YldS.yld (y_lenG (fun w hw => (hw.nsm_rd (k := 2) (j := 1) rfl rfl)) Tryd.runUnderlying37 rfl)) rfl ?_
            refine QJ.step (YldS.yld (y_bin rfl rfl rfl)) rfl ?_
            refine QJ.step (YldS.yld (y_assign rfl)) rfl ?_
            refine QJ.done ?_
            refine PJ.next ?_
            refine WJ.inm_len 1 rfl fun hl43 => ?_
            obtain ⟨e44, h45, hm⟩ := bindS hm
            obtain ⟨y46, hy47⟩ := inn_idx hl43 h45
            obtain ⟨e48, h49, hm⟩ := bindS hm
            obtain ⟨l51, h52, hm⟩ := bindS hm
            obtain ⟨e54, h55, hm⟩ := bindS hm
            obtain ⟨y56, hy57⟩ := inn_idx hl43 h55
            refine WJ.draws (N := 14) (listed0 := #[false, false, false, false, false, false, false, false, false, false, false, false, false, false]) [row v7 2 fI64 r5] follows rfl rfl ?_
            refine RJ.first 0 (listed' := #[true, false, false, false, false, false, false, false, false, false, false, false, false, false]) [0] rfl (by kernel_rfl) rfl ⟨by decide, rfl⟩ (y_move rfl) rfl ?_
            refine RJ.first 1 (listed' := #[true, true, false, false, false, false, false, false, false, false, false, false, false, false]) [0] rfl (by kernel_rfl) rfl ⟨by decide, rfl⟩ (y_move rfl) rfl ?_
            refine RJ.first 2 (listed' := #[true, true, true, false, false, false, false, false, false, false, false, false, false, false]) [0] rfl (by kernel_rfl) rfl ⟨by decide, rfl⟩ (y_move rfl) rfl ?_
            refine RJ.first 3 (listed' := #[true, true, true, true, false, false, false, false, false, false, false, false, false, false]) [0] rfl (by kernel_rfl) rfl ⟨by decide, rfl⟩ (y_move rfl) rfl ?_
            refine RJ.first 6 (listed' := #[true, true, true, true, false, false, true, false, false, false, false, false, false, false]) [0] rfl (by kernel_rfl) rfl ⟨by decide, rfl⟩ (y_move rfl) rfl ?_
            refine RJ.first 7 (listed' := #[true, true, true, true, false, false, true, true, false, false, false, false, false, false]) [0] rfl (by kernel_rfl) rfl ⟨by decide, rfl⟩ (y_move rfl) rfl ?_
            refine RJ.first 8 (listed' := #[true, true, true, true, false, false, true, true, true, false, false, false, false, false]) [0] rfl (by kernel_rfl) rfl ⟨by decide, rfl⟩ (y_ixRow (k := 0) (R := fI64) rfl Tryd.runUnderlying27 Tryd.sizeOf2 rfl rfl h49) rfl ?_
            refine RJ.first 9 (listed' := #[true, true, true, true, false, false, true, true, true, true, false, false, false, false]) [0] rfl (by kernel_rfl) rfl ⟨by decide, rfl⟩ (y_loadR (k := 0) (i := (Int.toNat i16)) (off := 0) (u := .int .i64 e48) rfl Tryd.isAgg2 rfl (idx_get h49) rfl) rfl ?_
            refine RJ.hold (X := Value) 3 #[true, true, true, true, true, true, true, true, true, true, true, false, false, false] (fun (x : Value) => [(0, v2), (3, v15), (4, v7), (5, .int .i64 i16), (38, v15), (39, .int .i64 (w64 ((List.length l13 : Int) - 1))), (43, (raw0 y46)), (48, x)]) (fun (x : Value) => [row x 2 fI64 [e48], row v7 2 fI64 r5, inm 2 fI64 vs14 l13, row v15 27 fRaw1 vs14]) ?_ ?_
            · rintro v50
              refine RJ.step1 11 [1] (by kernel_rfl) ⟨by decide, rfl⟩ ?_
              refine RO.of (listed' := #[true, true, true, true, true, true, true, true, true, true, true, true, false, false]) rfl rfl ?_
              refine SJ.sel (L' := [inm 2 fI64 vs14 l13, row v50 2 fI64 [e48], row v7 2 fI64 r5, row v15 27 fRaw1 vs14]) [2, 0, 1, 3] ⟨by decide, rfl⟩ ?_
              refine SJ.conv0 (fun w S h => inm_take (idx_get hy47) (idx_get h45) h) ?_
              refine SJ.unstar ?_
              refine SJ.append (k := 0) (R := fI64) h52 rfl Tryd.underlying27 el2 rfl rfl rfl (fun w hw => (hw.row_rd (k := 2) rfl)) rfl fun v53 => ?_
              refine SJ.nil ?_
              refine PJ.draw ?_
              refine RJ.step1 12 [3] (by kernel_rfl) ⟨by decide, rfl⟩ ?_
              refine RO.of (listed' := #[true, true, true, true, true, true, true, true, true, true, true, true, true, false]) rfl rfl ?_
              refine SJ.q (YldS.yld (y_ixRow (k := 4) (R := fRaw1) rfl Tryd.runUnderlying37 Tryd.sizeOf27 rfl rfl hy57)) rfl ?_
              refine SJ.nil ?_
              refine PJ.draw ?_
              refine RJ.step1 13 [3] (by kernel_rfl) ⟨by decide, rfl⟩ ?_
              refine RO.of (listed' := #[true, true, true, true, true, true, true, true, true, true, true, true, true, true]) rfl rfl ?_
              refine SJ.rowCells (k := 0) rfl fun hc58 => ?_
              refine SJ.storeRL (k := 4) (i := (Int.toNat (w64 ((List.length l13 : Int) - 1)))) (off := 0) (us := [v53]) (b := (mkRaw1 v53 hc58.2)) rfl rfl (idx_get hy57) rfl hc58.1 Tryd.sizeOf27 rfl (by simp [hc58.2]) (raw_put _ _) ?_
              refine SJ.sel (L' := [row v53 2 fI64 l51, inm 2 fI64 (List.set vs14 (Int.toNat (w64 ((List.length l13 : Int) - 1))) rawNil) (List.set l13 (Int.toNat (w64 ((List.length l13 : Int) - 1))) []), row v50 2 fI64 [e48], row v7 2 fI64 r5, row v15 27 fRaw1 (List.set vs14 (Int.toNat (w64 ((List.length l13 : Int) - 1))) (mkRaw1 v53 hc58.2))]) [0, 1, 2, 3, 4] ⟨by decide, rfl⟩ ?_
              refine SJ.star ?_
              refine SJ.conv0 (fun w S h => inm_put hc58.2 (i0 := (Int.toNat (w64 ((List.length l13 : Int) - 1)))) h) ?_
              refine SJ.nil ?_
              refine PJ.draw ?_
              refine RJ.fin [2] (by kernel_rfl) ⟨by decide, rfl⟩ ?_
              refine PJ.block_normal ?_
              exact PJ.joined ((List.set l13 (Int.toNat (w64 ((List.length l13 : Int) - 1))) l51), (List.set vs14 (Int.toNat (w64 ((List.length l13 : Int) - 1))) (mkRaw1 v53 hc58.2)), v15) [0, 2, 3] hm ⟨rfl, rfl, rfl, rfl, trivial⟩ ⟨by decide, rfl⟩
            · intro hD59
              refine RJ.step2 4 10 [0] (by kernel_rfl) ⟨by decide, rfl⟩ ?_ ?_
              · refine RO.of (listed' := #[true, true, true, true, true, false, true, true, true, true, false, false, false, false]) rfl rfl ?_
                refine SJ.q (YldS.yld (y_ixRow (k := 2) (R := fRaw1) rfl Tryd.runUnderlying37 Tryd.sizeOf27 rfl rfl hy47)) rfl ?_
                refine SJ.nil ?_
                refine PJ.draw ?_
                refine RJ.step2 5 10 [0] (by kernel_rfl) ⟨by decide, rfl⟩ ?_ ?_
                · refine RO.of (listed' := #[true, true, true, true, true, true, true, true, true, true, false, false, false, false]) rfl rfl ?_
                  refine SJ.q (YldS.yld (y_loadR (k := 2) (i := (Int.toNat (w64 ((List.length l13 : Int) - 1)))) (off := 0) rfl Tryd.isAgg27 rfl (idx_get hy47) (raw_get y46))) rfl ?_
                  refine SJ.nil ?_
                  refine PJ.draw ?_
                  refine RJ.step1 10 [0] (by kernel_rfl) ⟨by decide, rfl⟩ ?_
                  refine RO.of (listed' := #[true, true, true, true, true, true, true, true, true, true, true, false, false, false]) rfl rfl ?_
                  refine SJ.buildSlice (R := fI64) (os := [.tmp 47]) [e48] Tryd.runUnderlying27 Tryd.sizeOf2 Tryd.zeroValue2 rfl rfl rfl rfl rfl rfl fun v50 => ?_
                  refine SJ.nil ?_
                  refine PJ.draw ?_
                  exact RJ.weak (hD59 v50) [0, 1, 2, 3] ⟨rfl, rfl, rfl, rfl, rfl, rfl, rfl, rfl, trivial⟩ ⟨by decide, rfl⟩
                · refine RO.of (listed' := #[true, true, true, true, true, false, true, true, true, true, true, false, false, false]) rfl rfl ?_
                  refine SJ.buildSlice (R := fI64) (os := [.tmp 47]) [e48] Tryd.runUnderlying27 Tryd.sizeOf2 Tryd.zeroValue2 rfl rfl rfl rfl rfl rfl fun v50 => ?_
                  refine SJ.nil ?_
                  refine PJ.draw ?_
                  refine RJ.step1 5 [1] (by kernel_rfl) ⟨by decide, rfl⟩ ?_
                  refine RO.of (listed' := #[true, true, true, true, true, true, true, true, true, true, true, false, false, false]) rfl rfl ?_
                  refine SJ.q (YldS.yld (y_loadR (k := 3) (i := (Int.toNat (w64 ((List.length l13 : Int) - 1)))) (off := 0) rfl Tryd.isAgg27 rfl (idx_get hy47) (raw_get y46))) rfl ?_
                  refine SJ.nil ?_
                  refine PJ.draw ?_
                  exact RJ.weak (hD59 v50) [0, 1, 2, 3] ⟨rfl, rfl, rfl, rfl, rfl, rfl, rfl, rfl, trivial⟩ ⟨by decide, rfl⟩
              · refine RO.of (listed' := #[true, true, true, true, false, false, true, true, true, true, true, false, false, false]) rfl rfl ?_
                refine SJ.buildSlice (R := fI64) (os := [.tmp 47]) [e48] Tryd.runUnderlying27 Tryd.sizeOf2 Tryd.zeroValue2 rfl rfl rfl rfl rfl rfl fun v50 => ?_
                refine SJ.nil ?_
                refine PJ.draw ?_
                refine RJ.step1 4 [1] (by kernel_rfl) ⟨by decide, rfl⟩ ?_
                refine RO.of (listed' := #[true, true, true, true, true, false, true, true, true, true, true, false, false, false]) rfl rfl ?_
                refine SJ.q (YldS.yld (y_ixRow (k := 3) (R := fRaw1) rfl Tryd.runUnderlying37 Tryd.sizeOf27 rfl rfl hy47)) rfl ?_
                refine SJ.nil ?_
                refine PJ.draw ?_
                refine RJ.step1 5 [1] (by kernel_rfl) ⟨by decide, rfl⟩ ?_
                refine RO.of (listed' := #[true, true, true, true, true, true, true, true, true, true, true, false, false, false]) rfl rfl ?_
                refine SJ.q (YldS.yld (y_loadR (k := 3) (i := (Int.toNat (w64 ((List.length l13 : Int) - 1)))) (off := 0) rfl Tryd.isAgg27 rfl (idx_get hy47) (raw_get y46))) rfl ?_
                refine SJ.nil ?_
                refine PJ.draw ?_
                exact RJ.weak (hD59 v50) [0, 1, 2, 3] ⟨rfl, rfl, rfl, rfl, rfl, rfl, rfl, rfl, trivial⟩ ⟨by decide, rfl⟩
          · replace hm := ifF hm hb42
            refine WJ.reg ?_
            refine SJ.q (YldS.yld (y_move rfl)) rfl ?_
            refine SJ.q (YldS.yld (y_move rfl)) rfl ?_
            refine SJ.q (YldS.yld (y_move rfl)) rfl ?_
            obtain ⟨e60, h61, hm⟩ := bindS hm
            refine SJ.q (YldS.yld (y_ixRow (k := 0) (R := fI64) rfl Tryd.runUnderlying27 Tryd.sizeOf2 rfl rfl h61)) rfl ?_
            refine SJ.q (YldS.yld (y_loadR (k := 0) (i := (Int.toNat i16)) (off := 0) (u := .int .i64 e60) rfl Tryd.isAgg2 rfl (idx_get h61) rfl)) rfl ?_
            refine SJ.buildSlice (R := fI64) (os := [.tmp 55]) [e60] Tryd.runUnderlying27 Tryd.sizeOf2 Tryd.zeroValue2 rfl rfl rfl rfl rfl rfl fun v62 => ?_
            refine SJ.rowCells (k := 0) rfl fun hc63 => ?_
            refine SJ.buildSlice (R := fRaw1) (os := [.tmp 56]) ([mkRaw1 v62 hc63.2] : List (Raw 1)) Tryd.runUnderlying37 Tryd.sizeOf27 Tryd.zeroValue27 rfl rfl rfl (by simp only [List.map_cons, List.map_nil, hc63.1]; rfl) rfl rfl fun v64 => ?_
            refine SJ.inm_nil 2 fI64 ?_
            refine SJ.sel (L' := [row v62 2 fI64 [e60], inm 2 fI64 [] ([] : List (List Int)), row v64 27 fRaw1 ([mkRaw1 v62 hc63.2] : List (Raw 1)), row v7 2 fI64 r5, inm 2 fI64 vs14 l13, row v15 27 fRaw1 vs14]) [2, 0, 1, 3, 4, 5] ⟨by decide, rfl⟩ ?_
            refine SJ.star ?_
            refine SJ.conv0 (fun w S h => inm_push hc63.2 h) ?_
            refine SJ.conv0 (B := inm 2 fI64 ([mkRaw1 v62 hc63.2] : List (Raw 1)) ([[e60]] : List (List Int))) (fun w S h => h) ?_
            refine SJ.inm_len 3 rfl fun hl65 => ?_
            refine SJ.inm_len 0 rfl fun hl66 => ?_
            obtain ⟨l67, h68, hm⟩ := bindS hm
            refine SJ.append (k := 4) (R := fRaw1) (app_raw h68 hl65 hl66) rfl Tryd.underlying37 el27 rfl rfl rfl (fun w hw => (hw.row_rd (k := 1) rfl)) rfl fun v69 => ?_
            refine SJ.sel (L' := [inm 2 fI64 vs14 l13, inm 2 fI64 ([mkRaw1 v62 hc63.2] : List (Raw 1)) ([[e60]] : List (List Int)), row v64 27 fRaw1 ([mkRaw1 v62 hc63.2] : List (Raw 1)), row v7 2 fI64 r5, row v69 27 fRaw1 (vs14 ++ ([mkRaw1 v62 hc63.2] : List (Raw 1)))]) [3, 0, 1, 2, 4] ⟨by decide, rfl⟩ ?_
            refine SJ.star ?_
            refine SJ.conv0 (fun w S h => inm_app h68 h) ?_
            refine SJ.q (YldS.yld (y_assign rfl)) rfl ?_
            refine SJ.nil ?_
            refine PJ.block_normal ?_
            exact PJ.joined (l67, (vs14 ++ ([mkRaw1 v62 hc63.2] : List (Raw 1))), v69) [0, 2, 3] hm ⟨rfl, rfl, rfl, rfl, trivial⟩ ⟨by decide, rfl⟩
        · rintro ⟨l18, vs19, v20⟩ hm
          subst hk22
          refine WJ.quiet ?_
          refine QJ.step (YldS.yld (y_move rfl)) rfl ?_
          refine QJ.step (YldS.yld (y_bin rfl rfl rfl)) rfl ?_
          refine QJ.step (YldS.yld (y_assign rfl)) rfl ?_
          refine QJ.done ?_
          exact PJ.round (l18, vs19, v20, w64 (i16 + 1)) [1, 0, 2] hm ⟨rfl, rfl, rfl, rfl, trivial⟩ ⟨by decide, rfl⟩
      · replace hm := ifF hm hb17
        refine WJ.exit ?_
        refine PJ.then_exit (PJ.then_exit (PJ.block_exit ?_))
        exact PJ.joined (l13, vs14, v15) [1, 2] hm ⟨rfl, trivial⟩ ⟨by decide, rfl⟩
  · rintro ⟨l8, vs9, v10⟩ hm
    subst hk12
    refine WJ.seq ?_
    refine WJ.quiet ?_
    refine QJ.step (YldS.yld (y_move rfl)) rfl ?_
    refine QJ.step (YldS.yld (y_assign rfl)) rfl ?_
    refine QJ.done ?_
    refine PJ.next ?_
    refine WJ.ret ?_
    refine PJ.inm_inn 0 rfl ?_
    obtain rfl := Option.some.inj hm
    refine PJ.sel (L' := [row v10 27 fRaw1 vs9, inn (rSl fI64.rp) vs9 l8]) [1, 0] ⟨by decide, rfl⟩ ?_
    exact PJ.retn (vs := [v10]) Tryd.results44 ⟨rfl, trivial⟩ ⟨_, _, rfl, rfl⟩

set_option maxRecDepth 100000 in
set_option maxHeartbeats 1000000 in
theorem ok_s_TiedResults {N : Nat} {list1 : List Result} {r : (List (List Int)) × Int} (hm : s_TiedResults N list1 = some r) (w : World) (v2 : Value) (hr3 : RdS w (cx w).Fz v2 fResult.rp list1) :
    Calls Tryd.prog 19 #[v2] w (RetG (cx w) fun u L => ∃ (u1 : Value) (u2 : List (Raw 1)), (u = tup [u1, .int .i64 r.2] ∧ L = [row u1 27 fRaw1 u2, inn (rSl fI64.rp) u2 r.1])) := by
  unfold s_TiedResults at hm
  refine Calls.enter [v2] Tryd.func19 rfl Tryd.ntmps19 rfl ?_
  refine WJ.seq ?_
  refine WJ.quiet ?_
  refine QJ.step (YldS.yld (y_assign rfl)) rfl ?_
  refine QJ.step (YldS.yld (y_assign rfl)) rfl ?_
  refine QJ.done ?_
  refine PJ.next ?_
  refine WJ.seq ?_
  refine WJ.seq ?_
  refine WJ.quiet ?_
  refine QJ.step (YldS.yld (y_move rfl)) rfl ?_
  obtain ⟨r4, h5, hm⟩ := bindS hm
  refine QJ.step (y_call Tryd.call33 rfl (RetG.quiet fun w hw => ok_s_l22Ok h5 w _ (hr3.st hw))) rfl ?_
  refine QJ.step (YldS.yld (y_not rfl)) rfl ?_
  refine QJ.done ?_
  refine PJ.next ?_
  refine WJ.cond (t := !r4) rfl (fun hb6 => ?_) (fun hb6 => ?_)
  · replace hm := ifT hm hb6
    refine WJ.seq ?_
    refine WJ.quiet ?_
    refine QJ.step (YldS.yld (y_assign rfl)) rfl ?_
    refine QJ.step (YldS.yld (y_assign rfl)) rfl ?_
    refine QJ.done ?_
    refine PJ.next ?_
    refine WJ.ret ?_
    refine PJ.then_ret ?_
    refine PJ.nil_row 27 fRaw1 ?_
    refine PJ.inn_nil (q := 1) (rSl fI64.rp) ?_
    obtain rfl := Option.some.inj hm
    refine PJ.sel (L' := [row (.slice none 0 0) 27 fRaw1 ([] : List (Raw 1)), inn (rSl fI64.rp) [] ([] : List (List Int))]) [1, 0] ⟨by decide, rfl⟩ ?_
    exact PJ.retn (vs := [(.slice none 0 0), .int .i64 1]) Tryd.results19 ⟨rfl, rfl, trivial⟩ ⟨_, _, rfl, rfl⟩
  · replace hm := ifF hm hb6
    refine WJ.skip ?_
    refine PJ.next ?_
    refine WJ.seq ?_
    refine WJ.reg ?_
    refine SJ.q (YldS.yld (y_move rfl)) rfl ?_
    obtain ⟨r7, h8, hm⟩ := bindS hm
    refine SJ.call Tryd.call44 rfl (fun w hw => ok_s_l22Groups h8 w _ (hr3.st hw)) rfl ?_
    rintro v9 _ ⟨_, vs10, rfl, rfl⟩
    refine SJ.q (YldS.yld (y_assign rfl)) rfl ?_
    refine SJ.nil ?_
    refine PJ.next ?_
    refine WJ.seq ?_
    refine WJ.reg ?_
    refine SJ.buildSlice (R := fRaw1) (os := []) ([] : List (Raw 1)) Tryd.runUnderlying37 Tryd.sizeOf27 Tryd.zeroValue27 rfl rfl rfl rfl rfl rfl fun v11 => ?_
    refine SJ.imp_nil (inn (rSl fI64.rp) vs10 r7) fI64 ?_
    refine SJ.q (YldS.yld (y_assign rfl)) rfl ?_
    refine SJ.nil ?_
    refine PJ.next ?_
    obtain ⟨kj15, hk16, hm⟩ := withK_open hm
    refine WJ.join (X := (List (List Int)) × (List (Raw 1)) × Value) (fun (x : (List (List Int)) × (List (Raw 1)) × Value) => kj15 x.1 = some r) (fun (x : (List (List Int)) × (List (Raw 1)) × Value) => [(5, x.2.2)]) (fun (x : (List (List Int)) × (List (Raw 1)) × Value) => [imp (inn (rSl fI64.rp) vs10 r7) fI64 x.2.1 x.1, row x.2.2 27 fRaw1 x.2.1, row v9 27 fRaw1 vs10, inn (rSl fI64.rp) vs10 r7]) ?_ ?_
    · clear hk16
      refine WJ.seq ?_
      refine WJ.quiet ?_
      refine QJ.step (YldS.yld (y_assign rfl)) rfl ?_
      refine QJ.done ?_
      refine PJ.next ?_
      refine WJ.block ?_
      refine WJ.sel (L' := (fun (x : (List (List Int)) × (List (Raw 1)) × Value × Int) => [imp (inn (rSl fI64.rp) vs10 r7) fI64 x.2.1 x.1, row x.2.2.1 27 fRaw1 x.2.1, row v9 27 fRaw1 vs10, inn (rSl fI64.rp) vs10 r7]) (([] : List (List Int)), ([] : List (Raw 1)), v11, 0)) [0, 1, 2, 3] ⟨by decide, rfl⟩ ?_
      refine WJ.sub (m' := (fun (x : (List (List Int)) × (List (Raw 1)) × Value × Int) => [(4, v9), (5, x.2.2.1), (6, .int .i64 x.2.2.2)]) (([] : List (List Int)), ([] : List (Raw 1)), v11, 0)) ⟨rfl, rfl, rfl, trivial⟩ ?_
      refine WJ.loop (X := (List (List Int)) × (List (Raw 1)) × Value × Int) (fun N (x : (List (List Int)) × (List (Raw 1)) × Value × Int) => s_TiedResults_l1 kj15 r7 N x.1 x.2.2.2 = some r) (fun (x : (List (List Int)) × (List (Raw 1)) × Value × Int) => [(4, v9), (5, x.2.2.1), (6, .int .i64 x.2.2.2)]) (fun (x : (List (List Int)) × (List (Raw 1)) × Value × Int) => [imp (inn (rSl fI64.rp) vs10 r7) fI64 x.2.1 x.1, row x.2.2.1 27 fRaw1 x.2.1, row v9 27 fRaw1 vs10, inn (rSl fI64.rp) vs10 r7]) ?_ N (([] : List (List Int)), ([] : List (Raw 1)), v11, 0) hm
      · rintro N ⟨l17, vs18, v19, i20⟩ hI
        have hm := hI; clear hI
        cases N with
        | zero => cases hm
        | succ N =>
        unfold s_TiedResults_l1 at hm
        refine WJ.seq ?_
        refine WJ.seq ?_
        refine WJ.quiet ?_
        refine QJ.step (YldS.yld (y_move rfl)) rfl ?_
        refine QJ.step (YldS.yld (y_move rfl)) rfl ?_
        refine QJ.step (YldS.yld (y_lenG (fun w hw => (hw.nst_rd (k := 2) (j := 3) rfl rfl)) Tryd.runUnderlying37 rfl)) rfl ?_
        refine QJ.step (YldS.yld (y_bin rfl rfl rfl)) rfl ?_
        refine QJ.done ?_
        refine PJ.next ?_
        refine WJ.cond (t := decide (i20 < (List.length r7 : Int))) rfl (fun hb21 => ?_) (fun hb21 => ?_)
        · replace hm := ifT hm hb21
          refine WJ.skip ?_
          refine PJ.next ?_
          obtain ⟨kj25, hk26, hm⟩ := withK_open hm
          refine WJ.join (X := (List (List Int)) × (List (Raw 1)) × Value) (fun (x : (List (List Int)) × (List (Raw 1)) × Value) => kj25 x.1 = some r) (fun (x : (List (List Int)) × (List (Raw 1)) × Value) => [(4, v9), (5, x.2.2), (6, .int .i64 i20)]) (fun (x : (List (List Int)) × (List (Raw 1)) × Value) => [imp (inn (rSl fI64.rp) vs10 r7) fI64 x.2.1 x.1, row x.2.2 27 fRaw1 x.2.1, row v9 27 fRaw1 vs10, inn (rSl fI64.rp) vs10 r7]) ?_ ?_
          · clear hk26
            refine WJ.block ?_
            refine WJ.seq ?_
            refine WJ.imp_len 0 rfl fun hl27 => ?_
            refine WJ.inn_len 3 rfl fun hl28 => ?_
            refine WJ.quiet ?_
            refine QJ.step (YldS.yld (y_move rfl)) rfl ?_
            refine QJ.step (YldS.yld (y_move rfl)) rfl ?_
            obtain ⟨e29, h30, hm⟩ := bindS hm
            obtain ⟨y31, hy32⟩ := inn_idx hl28 h30
            refine QJ.step (YldS.yld (y_ixRow (k := 2) (R := fRaw1) rfl Tryd.runUnderlying37 Tryd.sizeOf27 rfl rfl hy32)) rfl ?_
            refine QJ.step (YldS.yld (y_loadR (k := 2) (i := (Int.toNat i20)) (off := 0) rfl Tryd.isAgg27 rfl (idx_get hy32) (raw_get y31))) rfl ?_
            refine QJ.step (YldS.yld (y_lenG (fun w hw => (hw.inn_rd (k := 3) rfl rfl hy32 h30)) Tryd.runUnderlying27 rfl)) rfl ?_
            refine QJ.step (YldS.yld (y_bin rfl rfl rfl)) rfl ?_
            refine QJ.done ?_
            refine PJ.next ?_
            refine WJ.cond (t := decide ((List.length e29 : Int) > 1)) rfl (fun hb33 => ?_) (fun hb33 => ?_)
            · replace hm := ifT hm hb33
              refine WJ.imp_len 0 rfl fun hl34 => ?_
              refine WJ.inn_len 3 rfl fun hl35 => ?_
              refine WJ.reg ?_
              refine SJ.q (YldS.yld (y_move rfl)) rfl ?_
              refine SJ.q (YldS.yld (y_move rfl)) rfl ?_
              refine SJ.q (YldS.yld (y_move rfl)) rfl ?_
              obtain ⟨e36, h37, hm⟩ := bindS hm
              obtain ⟨y38, hy39⟩ := inn_idx hl35 h37
              refine SJ.q (YldS.yld (y_ixRow (k := 2) (R := fRaw1) rfl Tryd.runUnderlying37 Tryd.sizeOf27 rfl rfl hy39)) rfl ?_
              refine SJ.q (YldS.yld (y_loadR (k := 2) (i := (Int.toNat i20)) (off := 0) rfl Tryd.isAgg27 rfl (idx_get hy39) (raw_get y38))) rfl ?_
              refine SJ.rdCells (fun w hw => (hw.inn_rd (k := 3) rfl rfl hy39 h37)) fun hc40 => ?_
              refine SJ.buildSlice (R := fRaw1) (os := [.tmp 29]) ([mkRaw1 (raw0 y38) hc40.2] : List (Raw 1)) Tryd.runUnderlying37 Tryd.sizeOf27 Tryd.zeroValue27 rfl rfl rfl (by simp only [List.map_cons, List.map_nil, hc40.1]; rfl) rfl rfl fun v41 => ?_
              refine SJ.imp_nil (inn (rSl fI64.rp) vs10 r7) fI64 ?_
              refine SJ.conv0 (fun w S h => imp_push hc40.2 (inn_src hy39 h37) h) ?_
              refine SJ.conv0 (B := imp (inn (rSl fI64.rp) vs10 r7) fI64 ([mkRaw1 (raw0 y38) hc40.2] : List (Raw 1)) ([e36] : List (List Int))) (fun w S h => h) ?_
              refine SJ.imp_len 2 rfl fun hl42 => ?_
              refine SJ.imp_len 0 rfl fun hl43 => ?_
              obtain ⟨l44, h45, hm⟩ := bindS hm
              refine SJ.append (k := 3) (R := fRaw1) (app_raw h45 hl42 hl43) rfl Tryd.underlying37 el27 rfl rfl rfl (fun w hw => (hw.row_rd (k := 1) rfl)) rfl fun v46 => ?_
              refine SJ.sel (L' := [imp (inn (rSl fI64.rp) vs10 r7) fI64 vs18 l17, imp (inn (rSl fI64.rp) vs10 r7) fI64 ([mkRaw1 (raw0 y38) hc40.2] : List (Raw 1)) ([e36] : List (List Int)), row v41 27 fRaw1 ([mkRaw1 (raw0 y38) hc40.2] : List (Raw 1)), row v46 27 fRaw1 (vs18 ++ ([mkRaw1 (raw0 y38) hc40.2] : List (Raw 1))), row v9 27 fRaw1 vs10, inn (rSl fI64.rp) vs10 r7]) [2, 0, 1, 3, 4, 5] ⟨by decide, rfl⟩ ?_
              refine SJ.star ?_
              refine SJ.conv0 (fun w S h => imp_app h45 h) ?_
              refine SJ.q (YldS.yld (y_assign rfl)) rfl ?_
              refine SJ.nil ?_
              refine PJ.block_normal ?_
              exact PJ.joined (l44, (vs18 ++ ([mkRaw1 (raw0 y38) hc40.2] : List (Raw 1))), v46) [0, 2, 3, 4] hm ⟨rfl, rfl, rfl, trivial⟩ ⟨by decide, rfl⟩
            · replace hm := ifF hm hb33
              refine WJ.skip ?_
              refine PJ.block_normal ?_
              exact PJ.joined (l17, vs18, v19) [0, 1, 2, 3] hm ⟨rfl, rfl, rfl, trivial⟩ ⟨by decide, rfl⟩
          · rintro ⟨l22, vs23, v24⟩ hm
            subst hk26
            refine WJ.quiet ?_
            refine QJ.step (YldS.yld (y_move rfl)) rfl ?_
            refine QJ.step (YldS.yld (y_bin rfl rfl rfl)) rfl ?_
            refine QJ.step (YldS.yld (y_assign rfl)) rfl ?_
            refine QJ.done ?_
            exact PJ.round (l22, vs23, v24, w64 (i20 + 1)) [0, 1, 2, 3] hm ⟨rfl, rfl, rfl, trivial⟩ ⟨by decide, rfl⟩
        · replace hm := ifF hm hb21
          refine WJ.exit ?_
          refine PJ.then_exit (PJ.then_exit (PJ.block_exit ?_))
          exact PJ.joined (l17, vs18, v19) [0, 1, 2, 3] hm ⟨rfl, trivial⟩ ⟨by decide, rfl⟩
    · rintro ⟨l12, vs13, v14⟩ hm
      subst hk16
      refine WJ.seq ?_
      refine WJ.quiet ?_
      refine QJ.step (YldS.yld (y_move rfl)) rfl ?_
      refine QJ.step (YldS.yld (y_assign rfl)) rfl ?_
      refine QJ.step (YldS.yld (y_assign rfl)) rfl ?_
      refine QJ.done ?_
      refine PJ.next ?_
      refine WJ.ret ?_
      refine PJ.sel (L' := [inn (rSl fI64.rp) vs10 r7, imp (inn (rSl fI64.rp) vs10 r7) fI64 vs13 l12, row v14 27 fRaw1 vs13, row v9 27 fRaw1 vs10]) [3, 0, 1, 2] ⟨by decide, rfl⟩ ?_
      refine PJ.star ?_
      refine PJ.conv0 (fun w S h => imp_end h) ?_
      obtain rfl := Option.some.inj hm
      refine PJ.sel (L' := [row v14 27 fRaw1 vs13, inn (rSl fI64.rp) vs13 l12]) [1, 0] ⟨by decide, rfl⟩ ?_
      exact PJ.retn (vs := [v14, .int .i64 0]) Tryd.results19 ⟨rfl, rfl, trivial⟩ ⟨_, _, rfl, rfl⟩

set_option maxRecDepth 100000 in
set_option maxHeartbeats 1000000 in
theorem ok_w_f6ints {N : Nat} {a1 : List Int} {b4 : List Int} {r : Bool} (hm : w_f6ints N a1 b4 = some r) (w : World) (v2 : Value) (hr3 : RdS w (cx w).Fz v2 fI64.rp a1) (v5 : Value) (hr6 : RdS w (cx w).Fz v5 fI64.rp b4) :
    Calls Tryd.prog 20 #[v2, v5] w (Ret (cx w) (.bool r)) := by
  unfold w_f6ints at hm
  refine Calls.enter [v2, v5] Tryd.func20 rfl Tryd.ntmps20 rfl ?_
  refine WJ.seq ?_
  refine WJ.quiet ?_
  refine QJ.step (YldS.yld (y_assign rfl)) rfl ?_
  refine QJ.done ?_
  refine PJ.next ?_
  refine WJ.seq ?_
  refine WJ.seq ?_
  refine WJ.quiet ?_
  refine QJ.step (YldS.yld (y_move rfl)) rfl ?_
  refine QJ.step (YldS.yld (y_lenS Tryd.runUnderlying27 hr3 rfl)) rfl ?_
  refine QJ.step (YldS.yld (y_move rfl)) rfl ?_
  refine QJ.step (YldS.yld (y_lenS Tryd.runUnderlying27 hr6 rfl)) rfl ?_
  refine QJ.step (YldS.yld (y_bin rfl rfl rfl)) rfl ?_
  refine QJ.done ?_
  refine PJ.next ?_
  refine WJ.cond (t := ((List.length a1 : Int) != (List.length b4 : Int))) rfl (fun hb7 => ?_) (fun hb7 => ?_)
  · replace hm := ifT hm hb7
    refine WJ.seq ?_
    refine WJ.quiet ?_
    refine QJ.step (YldS.yld (y_assign rfl)) rfl ?_
    refine QJ.done ?_
    refine PJ.next ?_
    refine WJ.ret ?_
    refine PJ.then_ret ?_
    obtain rfl := Option.some.inj hm
    refine PJ.sel (L' := []) [] ⟨List.nodup_nil, rfl⟩ ?_
    exact PJ.retn (vs := [.bool false]) Tryd.results20 ⟨rfl, trivial⟩ ⟨rfl, rfl⟩
  · replace hm := ifF hm hb7
    refine WJ.skip ?_
    refine PJ.next ?_
    obtain ⟨kj8, hk9, hm⟩ := withK_open hm
    refine WJ.join (X := Unit) (fun (_ : Unit) => kj8  = some r) (fun (_ : Unit) => []) (fun (_ : Unit) => []) ?_ ?_
    · clear hk9
      refine WJ.seq ?_
      refine WJ.quiet ?_
      refine QJ.step (YldS.yld (y_assign rfl)) rfl ?_
      refine QJ.done ?_
      refine PJ.next ?_
      refine WJ.block ?_
      refine WJ.sel (L' := (fun (x : Int) => []) 0) [] ⟨List.nodup_nil, rfl⟩ ?_
      refine WJ.sub (m' := (fun (x : Int) => [(0, v2), (1, v5), (5, .int .i64 x)]) 0) ⟨rfl, rfl, rfl, trivial⟩ ?_
      refine WJ.loop (X := Int) (fun N (x : Int) => w_f6ints_l1 kj8 a1 b4 N x = some r) (fun (x : Int) => [(0, v2), (1, v5), (5, .int .i64 x)]) (fun (x : Int) => []) ?_ N 0 hm
      · rintro N i10 hI
        have hm := hI; clear hI
        cases N with
        | zero => cases hm
        | succ N =>
        unfold w_f6ints_l1 at hm
        refine WJ.seq ?_
        refine WJ.seq ?_
        refine WJ.quiet ?_
        refine QJ.step (YldS.yld (y_move rfl)) rfl ?_
        refine QJ.step (YldS.yld (y_move rfl)) rfl ?_
        refine QJ.step (YldS.yld (y_lenS Tryd.runUnderlying27 hr3 rfl)) rfl ?_
        refine QJ.step (YldS.yld (y_bin rfl rfl rfl)) rfl ?_
        refine QJ.done ?_
        refine PJ.next ?_
        refine WJ.cond (t := decide (i10 < (List.length a1 : Int))) rfl (fun hb11 => ?_) (fun hb11 => ?_)
        · replace hm := ifT hm hb11
          refine WJ.skip ?_
          refine PJ.next ?_
          refine WJ.seq ?_
          refine WJ.block ?_
          refine WJ.seq ?_
          refine WJ.quiet_draw follows (by kernel_rfl) ?_
          refine QJ.step (YldS.yld (y_move rfl)) rfl ?_
          refine QJ.step (YldS.yld (y_move rfl)) rfl ?_
          obtain ⟨e12, h13, hm⟩ := bindS hm
          obtain ⟨ad14, _, rfl, ha15, hy16⟩ := hr3.elem h13
          refine QJ.step (YldS.yld (hy16 Tryd.runUnderlying27 Tryd.sizeOf2 rfl rfl)) rfl ?_
          refine QJ.step (YldS.yld (y_load1 (v := .int .i64 e12) Tryd.isAgg2 ha15 St.frozenC rfl)) rfl ?_
          refine QJ.step (YldS.yld (y_move rfl)) rfl ?_
          refine QJ.step (YldS.yld (y_move rfl)) rfl ?_
          obtain ⟨e17, h18, hm⟩ := bindS hm
          obtain ⟨ad19, _, rfl, ha20, hy21⟩ := hr6.elem h18
          refine QJ.step (YldS.yld (hy21 Tryd.runUnderlying27 Tryd.sizeOf2 rfl rfl)) rfl ?_
          refine QJ.step (YldS.yld (y_load1 (v := .int .i64 e17) Tryd.isAgg2 ha20 St.frozenC rfl)) rfl ?_
          refine QJ.step (YldS.yld (y_bin rfl rfl rfl)) rfl ?_
          refine QJ.done ?_
          refine PJ.next ?_
          refine WJ.cond (t := (e12 != e17)) rfl (fun hb22 => ?_) (fun hb22 => ?_)
          · replace hm := ifT hm hb22
            refine WJ.seq ?_
            refine WJ.quiet ?_
            refine QJ.step (YldS.yld (y_assign rfl)) rfl ?_
            refine QJ.done ?_
            refine PJ.next ?_
            refine WJ.ret ?_
            refine PJ.block_ret (PJ.then_ret (PJ.then_ret (PJ.block_ret (PJ.then_ret ?_))))
            obtain rfl := Option.some.inj hm
            refine PJ.sel (L' := []) [] ⟨List.nodup_nil, rfl⟩ ?_
            exact PJ.retn (vs := [.bool false]) Tryd.results20 ⟨rfl, trivial⟩ ⟨rfl, rfl⟩
          · replace hm := ifF hm hb22
            refine WJ.skip ?_
            refine PJ.block_normal (PJ.next ?_)
            refine WJ.quiet ?_
            refine QJ.step (YldS.yld (y_move rfl)) rfl ?_
            refine QJ.step (YldS.yld (y_bin rfl rfl rfl)) rfl ?_
            refine QJ.step (YldS.yld (y_assign rfl)) rfl ?_
            refine QJ.done ?_
            exact PJ.round (w64 (i10 + 1)) [] hm ⟨rfl, rfl, rfl, trivial⟩ ⟨List.nodup_nil, rfl⟩
        · replace hm := ifF hm hb11
          refine WJ.exit ?_
          refine PJ.then_exit (PJ.then_exit (PJ.block_exit ?_))
          exact PJ.joined () [] hm trivial ⟨List.nodup_nil, rfl⟩
    · rintro _ hm
      subst hk9
      refine WJ.seq ?_
      refine WJ.quiet ?_
      refine QJ.step (YldS.yld (y_assign rfl)) rfl ?_
      refine QJ.done ?_
      refine PJ.next ?_
      refine WJ.ret ?_
      obtain rfl := Option.some.inj hm
      refine PJ.sel (L' := []) [] ⟨List.nodup_nil, rfl⟩ ?_
      exact PJ.retn (vs := [.bool true]) Tryd.results20 ⟨rfl, trivial⟩ ⟨rfl, rfl⟩

set_option maxRecDepth 100000 in
set_option maxHeartbeats 1000000 in
theorem ok_s_SameResults {N : Nat} {a1 : List Result} {b4 : List Result} {r : Bool} (hm : s_SameResults N a1 b4 = some r) (w : World) (v2 : Value) (hr3 : RdS w (cx w).Fz v2 fResult.rp a1) (v5 : Value) (hr6 : RdS w (cx w).Fz v5 fResult.rp b4) :
    Calls Tryd.prog 21 #[v2, v5] w (Ret (cx w) (.bool r)) := by
  unfold s_SameResults at hm
  refine Calls.enter [v2, v5] Tryd.func21 rfl Tryd.ntmps21 rfl ?_
  refine WJ.seq ?_
  refine WJ.quiet ?_
  refine QJ.step (YldS.yld (y_assign rfl)) rfl ?_
  refine QJ.done ?_
  refine PJ.next ?_
  refine WJ.seq ?_
  refine WJ.seq ?_
  refine WJ.quiet ?_
  refine QJ.step (YldS.yld (y_move rfl)) rfl ?_
  refine QJ.step (YldS.yld (y_lenS Tryd.runUnderlying24 hr3 rfl)) rfl ?_
  refine QJ.step (YldS.yld (y_move rfl)) rfl ?_
  refine QJ.step (YldS.yld (y_lenS Tryd.runUnderlying24 hr6 rfl)) rfl ?_
  refine QJ.step (YldS.yld (y_bin rfl rfl rfl)) rfl ?_
  refine QJ.done ?_
  refine PJ.next ?_
  refine WJ.cond (t := ((List.length a1 : Int) != (List.length b4 : Int))) rfl (fun hb7 => ?_) (fun hb7 => ?_)
  · replace hm := ifT hm hb7
    refine WJ.seq ?_
    refine WJ.quiet ?_
    refine QJ.step (YldS.yld (y_assign rfl)) rfl ?_
    refine QJ.done ?_
    refine PJ.next ?_
    refine WJ.ret ?_
    refine PJ.then_ret ?_
    obtain rfl := Option.some.inj hm
    refine PJ.sel (L' := []) [] ⟨List.nodup_nil, rfl⟩ ?_
    exact PJ.retn (vs := [.bool false]) Tryd.results21 ⟨rfl, trivial⟩ ⟨rfl, rfl⟩
  · replace hm := ifF hm hb7
    refine WJ.skip ?_
    refine PJ.next ?_
    obtain ⟨kj8, hk9, hm⟩ := withK_open hm
    refine WJ.join (X := Unit) (fun (_ : Unit) => kj8  = some r) (fun (_ : Unit) => []) (fun (_ : Unit) => []) ?_ ?_
    · clear hk9
      refine WJ.seq ?_
      refine WJ.quiet ?_
      refine QJ.step (YldS.yld (y_assign rfl)) rfl ?_
      refine QJ.done ?_
      refine PJ.next ?_
      refine WJ.block ?_
      refine WJ.sel (L' := (fun (x : Int) => []) 0) [] ⟨List.nodup_nil, rfl⟩ ?_
      refine WJ.sub (m' := (fun (x : Int) => [(0, v2), (1, v5), (5, .int .i64 x)]) 0) ⟨rfl, rfl, rfl, trivial⟩ ?_
      refine WJ.loop (X := Int) (fun N (x : Int) => s_SameResults_l1 kj8 a1 b4 N x = some r) (fun (x : Int) => [(0, v2), (1, v5), (5, .int .i64 x)]) (fun (x : Int) => []) ?_ N 0 hm
      · rintro N i10 hI
        have hm := hI; clear hI
        cases N with
        | zero => cases hm
        | succ N =>
        unfold s_SameResults_l1 at hm
        refine WJ.seq ?_
        refine WJ.seq ?_
        refine WJ.quiet ?_
        refine QJ.step (YldS.yld (y_move rfl)) rfl ?_
        refine QJ.step (YldS.yld (y_move rfl)) rfl ?_
        refine QJ.step (YldS.yld (y_lenS Tryd.runUnderlying24 hr3 rfl)) rfl ?_
        refine QJ.step (YldS.yld (y_bin rfl rfl rfl)) rfl ?_
        refine QJ.done ?_
        refine PJ.next ?_
        refine WJ.cond (t := decide (i10 < (List.length a1 : Int))) rfl (fun hb11 => ?_) (fun hb11 => ?_)
        · replace hm := ifT hm hb11
          refine WJ.skip ?_
          refine PJ.next ?_
          refine WJ.seq ?_
          refine WJ.block ?_
          refine WJ.seq ?_
          refine WJ.quiet_draw follows (by kernel_rfl) ?_
          refine QJ.step (YldS.yld (y_move rfl)) rfl ?_
          refine QJ.step (YldS.yld (y_move rfl)) rfl ?_
          obtain ⟨e12, h13, hm⟩ := bindS hm
          obtain ⟨ad14, _, rfl, ha15, hy16⟩ := hr3.elem h13
          refine QJ.step (YldS.yld (hy16 Tryd.runUnderlying24 Tryd.sizeOf46 rfl rfl)) rfl ?_
          refine QJ.step (YldS.yld (y_loadN Tryd.isAgg46 Tryd.sizeOf46 rfl ha15 St.frozenC rfl)) rfl ?_
          refine QJ.step (YldS.yld (y_move rfl)) rfl ?_
          refine QJ.step (YldS.yld (y_move rfl)) rfl ?_
          obtain ⟨e17, h18, hm⟩ := bindS hm
          obtain ⟨ad19, _, rfl, ha20, hy21⟩ := hr6.elem h18
          refine QJ.step (YldS.yld (hy21 Tryd.runUnderlying24 Tryd.sizeOf46 rfl rfl)) rfl ?_
          refine QJ.step (YldS.yld (y_loadN Tryd.isAgg46 Tryd.sizeOf46 rfl ha20 St.frozenC rfl)) rfl ?_
          refine QJ.step (YldS.yld (y_neT e12 e17 eq46 rfl rfl)) rfl ?_
          refine QJ.done ?_
          refine PJ.next ?_
          refine WJ.cond (t := !(Result.beq e12 e17)) rfl (fun hb22 => ?_) (fun hb22 => ?_)
          · replace hm := ifT hm hb22
            refine WJ.seq ?_
            refine WJ.quiet ?_
            refine QJ.step (YldS.yld (y_assign rfl)) rfl ?_
            refine QJ.done ?_
            refine PJ.next ?_
            refine WJ.ret ?_
            refine PJ.block_ret (PJ.then_ret (PJ.then_ret (PJ.block_ret (PJ.then_ret ?_))))
            obtain rfl := Option.some.inj hm
            refine PJ.sel (L' := []) [] ⟨List.nodup_nil, rfl⟩ ?_
            exact PJ.retn (vs := [.bool false]) Tryd.results21 ⟨rfl, trivial⟩ ⟨rfl, rfl⟩
          · replace hm := ifF hm hb22
            refine WJ.skip ?_
            refine PJ.block_normal (PJ.next ?_)
            refine WJ.quiet ?_
            refine QJ.step (YldS.yld (y_move rfl)) rfl ?_
            refine QJ.step (YldS.yld (y_bin rfl rfl rfl)) rfl ?_
            refine QJ.step (YldS.yld (y_assign rfl)) rfl ?_
            refine QJ.done ?_
            exact PJ.round (w64 (i10 + 1)) [] hm ⟨rfl, rfl, rfl, trivial⟩ ⟨List.nodup_nil, rfl⟩
        · replace hm := ifF hm hb11
          refine WJ.exit ?_
          refine PJ.then_exit (PJ.then_exit (PJ.block_exit ?_))
          exact PJ.joined () [] hm trivial ⟨List.nodup_nil, rfl⟩
    · rintro _ hm
      subst hk9
      refine WJ.seq ?_
      refine WJ.quiet ?_
      refine QJ.step (YldS.yld (y_assign rfl)) rfl ?_
      refine QJ.done ?_
      refine PJ.next ?_
      refine WJ.ret ?_
      obtain rfl := Option.some.inj hm
      refine PJ.sel (L' := []) [] ⟨List.nodup_nil, rfl⟩ ?_
      exact PJ.retn (vs := [.bool true]) Tryd.results21 ⟨rfl, trivial⟩ ⟨rfl, rfl⟩

theorem ok_fmtI {a b : Int} {r : Str} (hm : fmtI a b = some r) (w : World) (hT : Tab Tryd.prog tabNm w (cx w).Fz) :
    Calls Tryd.prog 56 #[.int .i64 a, .int .i64 b] w (Ret (cx w) (str r)) :=
  fmtI_ok (fun n h0 h1 w h => Any.strconv_FormatInt_10 Tryd.laysM173 n h0 h1 w h) hm w hT

set_option maxRecDepth 100000 in
set_option maxHeartbeats 1000000 in
theorem ok_i_Decimal {n1 : Int} {r : Str} (hm : i_Decimal n1 = some r) (w : World) (hT : Tab Tryd.prog tabNm w (cx w).Fz) :
    Calls Tryd.prog 45 #[.int .i64 n1] w (Ret (cx w) (str r)) := by
  unfold i_Decimal at hm
  refine Calls.enter [.int .i64 n1] Tryd.func45 rfl Tryd.ntmps45 rfl ?_
  refine WJ.seq ?_
  refine WJ.quiet ?_
  refine QJ.step (YldS.yld (y_assign rfl)) rfl ?_
  refine QJ.done ?_
  refine PJ.next ?_
  refine WJ.seq ?_
  refine WJ.quiet ?_
  refine QJ.step (YldS.yld (y_move rfl)) rfl ?_
  obtain ⟨r2, h3, hm⟩ := bindS hm
  refine QJ.step (y_call Tryd.call56 rfl (RetG.quiet fun w hw => ok_fmtI h3 w (hT.st hw))) rfl ?_
  refine QJ.step (YldS.yld (y_assign rfl)) rfl ?_
  refine QJ.done ?_
  refine PJ.next ?_
  refine WJ.ret ?_
  obtain rfl := Option.some.inj hm
  refine PJ.sel (L' := []) [] ⟨List.nodup_nil, rfl⟩ ?_
  exact PJ.retn (vs := [str r2]) Tryd.results45 ⟨rfl, trivial⟩ ⟨rfl, rfl⟩

theorem ok_joinO {xs : List Str} {sep r : Str} (hm : joinO xs sep = some r) (w : World) (v : Value) (hr : RdS w (cx w).Fz v fStr.rp xs) (hsp : SpN v) :
    Calls Tryd.prog 46 #[v, str sep] w (Ret (cx w) (str r)) :=
  joinO_ok Tryd.strings_Join Tryd.strings_Join_none hm w hr hsp

set_option maxRecDepth 100000 in
set_option maxHeartbeats 1000000 in
theorem ok_i_RankText {N : Nat} {list1 : List Result} {r : Str} (hm : i_RankText N list1 = some r) (w : World) (hT : Tab Tryd.prog tabNm w (cx w).Fz) (v2 : Value) (hr3 : RdS w (cx w).Fz v2 fResult.rp list1) :
    Calls Tryd.prog 22 #[v2] w (Ret (cx w) (str r)) := by
  unfold i_RankText at hm
  refine Calls.enter [v2] Tryd.func22 rfl Tryd.ntmps22 rfl ?_
  refine WJ.seq ?_
  refine WJ.quiet ?_
  refine QJ.step (YldS.yld (y_assign rfl)) rfl ?_
  refine QJ.done ?_
  refine PJ.next ?_
  refine WJ.seq ?_
  refine WJ.seq ?_
  refine WJ.quiet ?_
  refine QJ.step (YldS.yld (y_move rfl)) rfl ?_
  obtain ⟨r4, h5, hm⟩ := bindS hm
  refine QJ.step (y_call Tryd.call24 rfl (RetG.quiet fun w hw => ok_i_ValidResults h5 w _ (hr3.st hw))) rfl ?_
  refine QJ.step (YldS.yld (y_not rfl)) rfl ?_
  refine QJ.done ?_
  refine PJ.next ?_
  refine WJ.cond (t := !r4) rfl (fun hb6 => ?_) (fun hb6 => ?_)
  · replace hm := ifT hm hb6
    refine WJ.seq ?_
    refine WJ.quiet ?_
    refine QJ.step (YldS.yld (y_assign rfl)) rfl ?_
    refine QJ.done ?_
    refine PJ.next ?_
    refine WJ.ret ?_
    refine PJ.then_ret ?_
    obtain rfl := Option.some.inj hm
    refine PJ.sel (L' := []) [] ⟨List.nodup_nil, rfl⟩ ?_
    exact PJ.retn (vs := [str []]) Tryd.results22 ⟨rfl, trivial⟩ ⟨rfl, rfl⟩
  · replace hm := ifF hm hb6
    refine WJ.skip ?_
    refine PJ.next ?_
    refine WJ.seq ?_
    refine WJ.reg ?_
    refine SJ.buildSlice (R := fStr) (os := []) [] Tryd.runUnderlying70 Tryd.sizeOf9 Tryd.zeroValue9 rfl rfl rfl rfl rfl rfl fun v7 => ?_
    refine SJ.q (YldS.yld (y_assign rfl)) rfl ?_
    refine SJ.nil ?_
    refine PJ.next ?_
    obtain ⟨kj10, hk11, hm⟩ := withK_open hm
    refine WJ.join (X := (List Str) × Value) (fun (x : (List Str) × Value) => kj10 x.1 = some r) (fun (x : (List Str) × Value) => [(3, x.2)]) (fun (x : (List Str) × Value) => [row x.2 9 fStr x.1]) ?_ ?_
    · clear hk11
      refine WJ.seq ?_
      refine WJ.reg ?_
      refine SJ.q (YldS.yld (y_move rfl)) rfl ?_
      obtain ⟨r12, h13, hm⟩ := bindS hm
      refine SJ.call Tryd.call36 rfl (fun w hw => ok_i_ties h13 w _ (hr3.st hw)) rfl ?_
      rintro v14 _ ⟨_, vs15, rfl, rfl⟩
      refine SJ.q (YldS.yld (y_lenSh (k := 0) (j := 1) rfl rfl Tryd.runUnderlying55 rfl)) rfl ?_
      refine SJ.q (YldS.yld (y_move rfl)) rfl ?_
      refine SJ.nil ?_
      refine PJ.next ?_
      refine WJ.block ?_
      refine WJ.sel (L' := (fun (x : (List Str) × Value × Int) => [row v14 58 fRaw2 vs15, ins shTied 2 fI64 vs15 r12, row x.2.1 9 fStr x.1]) ([], v7, 0)) [0, 1, 2] ⟨by decide, rfl⟩ ?_
      refine WJ.sub (m' := (fun (x : (List Str) × Value × Int) => [(0, v2), (3, x.2.1), (13, v14), (14, .int .i64 (List.length r12 : Int)), (15, .int .i64 x.2.2)]) ([], v7, 0)) ⟨rfl, rfl, rfl, rfl, rfl, trivial⟩ ?_
      refine WJ.loop (X := (List Str) × Value × Int) (fun N (x : (List Str) × Value × Int) => i_RankText_l1 kj10 list1 r12 N x.1 x.2.2 = some r) (fun (x : (List Str) × Value × Int) => [(0, v2), (3, x.2.1), (13, v14), (14, .int .i64 (List.length r12 : Int)), (15, .int .i64 x.2.2)]) (fun (x : (List Str) × Value × Int) => [row v14 58 fRaw2 vs15, ins shTied 2 fI64 vs15 r12, row x.2.1 9 fStr x.1]) ?_ N ([], v7, 0) hm
      · rintro N ⟨l16, v17, x18⟩ hI
        have hm := hI; clear hI
        cases N with
        | zero => cases hm
        | succ N =>
        unfold i_RankText_l1 at hm
        refine WJ.seq ?_
        refine WJ.quiet ?_
        refine QJ.step (YldS.yld (y_bin rfl rfl rfl)) rfl ?_
        refine QJ.done ?_
        refine PJ.next ?_
        refine WJ.seq ?_
        refine WJ.cond (t := decide (x18 < (List.length r12 : Int))) rfl (fun hb19 => ?_) (fun hb19 => ?_)
        · replace hm := ifT hm hb19
          refine WJ.skip ?_
          refine PJ.next ?_
          obtain ⟨kj22, hk23, hm⟩ := withK_open hm
          refine WJ.join (X := (List Str) × Value) (fun (x : (List Str) × Value) => kj22 x.1 = some r) (fun (x : (List Str) × Value) => [(0, v2), (3, x.2), (13, v14), (14, .int .i64 (List.length r12 : Int)), (15, .int .i64 x18)]) (fun (x : (List Str) × Value) => [row v14 58 fRaw2 vs15, ins shTied 2 fI64 vs15 r12, row x.2 9 fStr x.1]) ?_ ?_
          · clear hk23
            refine WJ.block ?_
            refine WJ.seq ?_
            refine WJ.ins_len 1 rfl fun hl24 => ?_
            refine WJ.reg ?_
            obtain ⟨e25, h26, hm⟩ := bindS hm
            obtain ⟨y27, hy28⟩ := inn_idx hl24.1 h26
            obtain hs29 := hl24.2 _ _ _ hy28 h26
            refine SJ.q (YldS.yld (y_ixRow (k := 0) (R := fRaw2) rfl Tryd.runUnderlying55 Tryd.sizeOf58 rfl rfl hy28)) rfl ?_
            refine SJ.q (YldS.yld (y_loadRN (k := 0) (i := (Int.toNat x18)) (off := 0) (us := [.int .i64 e25.place, (shTied.sl y27)]) rfl Tryd.isAgg58 Tryd.sizeOf58 rfl (idx_get hy28) (sh_cells hs29 rfl))) rfl ?_
            refine SJ.alloc (cs := [.int .i64 0, .slice none 0 0]) Tryd.zeroValue58 rfl rfl fun g30 => ?_
            refine SJ.nil_row 2 fI64 ?_
            have hc31 := And.intro True.intro (sh_one hs29)
            refine SJ.storeL (k := 1) (off := 0) (us := [.int .i64 e25.place, (shTied.sl y27)]) rfl rfl rfl rfl Tryd.sizeOf58 rfl (by simp only [List.all_cons, hc31.2]; rfl) ?_
            refine SJ.nil ?_
            refine PJ.next ?_
            refine WJ.seq ?_
            refine WJ.quiet ?_
            refine QJ.step (YldS.yld (y_fldB (o := 0) fld58_1 rfl)) rfl ?_
            refine QJ.step (YldS.yld (y_loadB (k := 1) (off := 1) (v := (shTied.sl y27)) rfl Tryd.isAgg27 rfl rfl)) rfl ?_
            refine QJ.step (YldS.yld (y_lenG (fun w hw => (hw.ins_rd (k := 3) rfl rfl hy28 h26)) Tryd.runUnderlying27 rfl)) rfl ?_
            refine QJ.step (YldS.yld (y_move rfl)) rfl ?_
            refine QJ.done ?_
            refine PJ.next ?_
            refine WJ.block ?_
            refine WJ.sel (L' := (fun (x : (List Str) × Value × Int) => [box g30 58 [.int .i64 e25.place, (shTied.sl y27)], row v14 58 fRaw2 vs15, ins shTied 2 fI64 vs15 r12, row x.2.1 9 fStr x.1]) (l16, v17, 0)) [1, 2, 3, 4] ⟨by decide, rfl⟩ ?_
            refine WJ.sub (m' := (fun (x : (List Str) × Value × Int) => [(0, v2), (3, x.2.1), (5, pt g30 0), (13, v14), (14, .int .i64 (List.length r12 : Int)), (15, .int .i64 x18), (20, (shTied.sl y27)), (21, .int .i64 (List.length e25.list : Int)), (22, .int .i64 x.2.2)]) (l16, v17, 0)) ⟨rfl, rfl, rfl, rfl, rfl, rfl, rfl, rfl, rfl, trivial⟩ ?_
            refine WJ.loop (X := (List Str) × Value × Int) (fun N (x : (List Str) × Value × Int) => i_RankText_l2 kj22 list1 e25 N x.1 x.2.2 = some r) (fun (x : (List Str) × Value × Int) => [(0, v2), (3, x.2.1), (5, pt g30 0), (13, v14), (14, .int .i64 (List.length r12 : Int)), (15, .int .i64 x18), (20, (shTied.sl y27)), (21, .int .i64 (List.length e25.list : Int)), (22, .int .i64 x.2.2)]) (fun (x : (List Str) × Value × Int) => [box g30 58 [.int .i64 e25.place, (shTied.sl y27)], row v14 58 fRaw2 vs15, ins shTied 2 fI64 vs15 r12, row x.2.1 9 fStr x.1]) ?_ N (l16, v17, 0) hm
            · rintro N ⟨l32, v33, x34⟩ hI
              have hm := hI; clear hI
              cases N with
              | zero => cases hm
              | succ N =>
              unfold i_RankText_l2 at hm
              refine WJ.seq ?_
              refine WJ.quiet ?_
              refine QJ.step (YldS.yld (y_bin rfl rfl rfl)) rfl ?_
              refine QJ.done ?_
              refine PJ.next ?_
              refine WJ.seq ?_
              refine WJ.cond (t := decide (x34 < (List.length e25.list : Int))) rfl (fun hb35 => ?_) (fun hb35 => ?_)
              · replace hm := ifT hm hb35
                refine WJ.skip ?_
                refine PJ.next ?_
                refine WJ.seq ?_
                refine WJ.block ?_
                refine WJ.seq ?_
                refine WJ.quiet ?_
                obtain ⟨e36, h37, hm⟩ := bindS hm
                refine QJ.step (YldS.yld (y_ixG (R := fI64) (fun w hw => (hw.ins_rd (k := 2) rfl rfl hy28 h26)) Tryd.runUnderlying27 Tryd.sizeOf2 rfl rfl h37)) rfl ?_
                refine QJ.step (YldS.yld (y_loadG (R := fI64) (i := (Int.toNat x34)) (off := 0) (fun w hw => (hw.ins_rd (k := 2) rfl rfl hy28 h26)) Tryd.isAgg2 rfl (idx_get h37) rfl)) rfl ?_
                refine QJ.step (YldS.yld (y_assign rfl)) rfl ?_
                refine QJ.done ?_
                refine PJ.next ?_
                obtain ⟨r38, h39, hm⟩ := bindS hm
                obtain ⟨s40, h41, hm⟩ := bindS hm
                obtain ⟨e42, h43, hm⟩ := bindS hm
                obtain ⟨ad44, _, rfl, ha45, hy46⟩ := hr3.elem h43
                obtain ⟨s47, h48, hm⟩ := bindS hm
                obtain ⟨l50, h51, hm⟩ := bindS hm
                refine WJ.draws (N := 14) (listed0 := #[false, false, false, false, false, false, false, false, false, false, false, false, false, false]) [box g30 58 [.int .i64 e25.place, (shTied.sl y27)], row v14 58 fRaw2 vs15, ins shTied 2 fI64 vs15 r12] follows rfl rfl ?_
                refine RJ.first 0 (listed' := #[true, false, false, false, false, false, false, false, false, false, false, false, false, false]) [0, 1, 2] rfl (by kernel_rfl) rfl ⟨by decide, rfl⟩ (y_move rfl) rfl ?_
                refine RJ.first 1 (listed' := #[true, true, false, false, false, false, false, false, false, false, false, false, false, false]) [0, 1, 2] rfl (by kernel_rfl) rfl ⟨by decide, rfl⟩ (y_fldB (o := 0) fld58_0 rfl) rfl ?_
                refine RJ.first 2 (listed' := #[true, true, true, false, false, false, false, false, false, false, false, false, false, false]) [0, 1, 2] rfl (by kernel_rfl) rfl ⟨by decide, rfl⟩ (y_loadB (k := 0) (off := 0) (v := .int .i64 e25.place) rfl Tryd.isAgg2 rfl rfl) rfl ?_
                refine RJ.first 5 (listed' := #[true, true, true, false, false, true, false, false, false, false, false, false, false, false]) [0, 1, 2] rfl (by kernel_rfl) rfl ⟨by decide, rfl⟩ (y_move rfl) rfl ?_
                refine RJ.first 6 (listed' := #[true, true, true, false, false, true, true, false, false, false, false, false, false, false]) [0, 1, 2] rfl (by kernel_rfl) rfl ⟨by decide, rfl⟩ (y_move rfl) rfl ?_
                refine RJ.first 7 (listed' := #[true, true, true, false, false, true, true, true, false, false, false, false, false, false]) [0, 1, 2] rfl (by kernel_rfl) rfl ⟨by decide, rfl⟩ (hy46 Tryd.runUnderlying24 Tryd.sizeOf46 rfl rfl) rfl ?_
                refine RJ.first 8 (listed' := #[true, true, true, false, false, true, true, true, true, false, false, false, false, false]) [0, 1, 2] rfl (by kernel_rfl) rfl ⟨by decide, rfl⟩ (y_fld (ad := ad44) fld46_0 rfl) rfl ?_
                refine RJ.first 9 (listed' := #[true, true, true, false, false, true, true, true, true, true, false, false, false, false]) [0, 1, 2] rfl (by kernel_rfl) rfl ⟨by decide, rfl⟩ (y_load1 (v := str e42.name) Tryd.isAgg9 (ha45.sub 0 1) St.frozenC rfl) rfl ?_
                refine RJ.step1 3 [0, 1, 2] (by kernel_rfl) ⟨by decide, rfl⟩ ?_
                refine RO.of (listed' := #[true, true, true, true, false, true, true, true, true, true, false, false, false, false]) rfl rfl ?_
                refine SJ.q (y_call Tryd.call45 rfl (RetG.quiet fun w hw => ok_i_Decimal h39 w (hT.st hw))) rfl ?_
                refine SJ.nil ?_
                refine PJ.draw ?_
                refine RJ.first 4 (listed' := #[true, true, true, true, true, true, true, true, true, true, false, false, false, false]) [0, 1, 2] rfl (by kernel_rfl) rfl ⟨by decide, rfl⟩ (y_cat h41 rfl rfl) rfl ?_
                refine RJ.first 10 (listed' := #[true, true, true, true, true, true, true, true, true, true, true, false, false, false]) [0, 1, 2] rfl (by kernel_rfl) rfl ⟨by decide, rfl⟩ (y_cat h48 rfl rfl) rfl ?_
                refine RJ.step1 11 [0, 1, 2] (by kernel_rfl) ⟨by decide, rfl⟩ ?_
                refine RO.of (listed' := #[true, true, true, true, true, true, true, true, true, true, true, true, false, false]) rfl rfl ?_
                refine SJ.buildSlice (R := fStr) (os := [.tmp 36]) [s47] Tryd.runUnderlying70 Tryd.sizeOf9 Tryd.zeroValue9 rfl rfl rfl rfl rfl rfl fun v49 => ?_
                refine SJ.nil ?_
                refine PJ.draw ?_
                refine RJ.step1 12 [1, 2, 3] (by kernel_rfl) ⟨by decide, rfl⟩ ?_
                refine RO.of (listed' := #[true, true, true, true, true, true, true, true, true, true, true, true, true, false]) rfl rfl ?_
                refine SJ.append (k := 4) (R := fStr) h51 rfl Tryd.underlying70 el9 rfl rfl rfl (fun w hw => (hw.row_rd (k := 0) rfl)) rfl fun v52 => ?_
                refine SJ.nil ?_
                refine PJ.draw ?_
                refine RJ.first 13 (listed' := #[true, true, true, true, true, true, true, true, true, true, true, true, true, true]) [1, 2, 3] rfl (by kernel_rfl) rfl ⟨by decide, rfl⟩ (y_assign rfl) rfl ?_
                refine RJ.fin [1, 2, 3] (by kernel_rfl) ⟨by decide, rfl⟩ ?_
                refine PJ.block_normal (PJ.next ?_)
                refine WJ.quiet ?_
                refine QJ.step (YldS.yld (y_bin rfl rfl rfl)) rfl ?_
                refine QJ.step (YldS.yld (y_move rfl)) rfl ?_
                refine QJ.done ?_
                exact PJ.round (l50, v52, w64 (x34 + 1)) [1, 2, 3, 4] hm ⟨rfl, rfl, rfl, rfl, rfl, rfl, rfl, rfl, rfl, trivial⟩ ⟨by decide, rfl⟩
              · replace hm := ifF hm hb35
                refine WJ.exit ?_
                refine PJ.then_exit (PJ.then_exit (PJ.block_exit (PJ.block_normal ?_)))
                exact PJ.joined (l32, v33) [1, 2, 3] hm ⟨rfl, rfl, rfl, rfl, rfl, trivial⟩ ⟨by decide, rfl⟩
          · rintro ⟨l20, v21⟩ hm
            subst hk23
            refine WJ.quiet ?_
            refine QJ.step (YldS.yld (y_bin rfl rfl rfl)) rfl ?_
            refine QJ.step (YldS.yld (y_move rfl)) rfl ?_
            refine QJ.done ?_
            exact PJ.round (l20, v21, w64 (x18 + 1)) [0, 1, 2] hm ⟨rfl, rfl, rfl, rfl, rfl, trivial⟩ ⟨by decide, rfl⟩
        · replace hm := ifF hm hb19
          refine WJ.exit ?_
          refine PJ.then_exit (PJ.then_exit (PJ.block_exit ?_))
          exact PJ.joined (l16, v17) [2] hm ⟨rfl, trivial⟩ ⟨by decide, rfl⟩
    · rintro ⟨l8, v9⟩ hm
      subst hk11
      refine WJ.seq ?_
      refine WJ.quiet ?_
      refine QJ.step (YldS.yld (y_move rfl)) rfl ?_
      obtain ⟨r53, h54, hm⟩ := bindS hm
      refine QJ.step (y_call Tryd.call46 rfl (RetG.quiet fun w hw => ok_joinO h54 w _ (hw.row_rd (k := 0) rfl) (hw.row_sp (k := 0) rfl))) rfl ?_
      refine QJ.step (YldS.yld (y_assign rfl)) rfl ?_
      refine QJ.done ?_
      refine PJ.next ?_
      refine WJ.ret ?_
      obtain rfl := Option.some.inj hm
      refine PJ.sel (L' := []) [] ⟨List.nodup_nil, rfl⟩ ?_
      exact PJ.retn (vs := [str r53]) Tryd.results22 ⟨rfl, trivial⟩ ⟨rfl, rfl⟩

set_option maxRecDepth 100000 in
set_option maxHeartbeats 1000000 in
theorem ok_s_l01Dec {N : Nat} {n1 : Int} {r : Str} (hm : s_l01Dec N n1 = some r) (w : World)  :
    Calls Tryd.prog 47 #[.int .i64 n1] w (Ret (cx w) (str r)) := by
  unfold s_l01Dec at hm
  refine Calls.enter [.int .i64 n1] Tryd.func47 rfl Tryd.ntmps47 rfl ?_
  refine WJ.seq ?_
  refine WJ.quiet ?_
  refine QJ.step (YldS.yld (y_assign rfl)) rfl ?_
  refine QJ.done ?_
  refine PJ.next ?_
  refine WJ.seq ?_
  refine WJ.reg ?_
  refine SJ.buildSlice (R := fByte) (os := []) [] Tryd.runUnderlying22 Tryd.sizeOf5 Tryd.zeroValue5 rfl rfl rfl rfl rfl rfl fun v2 => ?_
  refine SJ.q (YldS.yld (y_assign rfl)) rfl ?_
  refine SJ.nil ?_
  refine PJ.next ?_
  obtain ⟨kj5, hk6, hm⟩ := withK_open hm
  refine WJ.join (X := (List UInt8) × Value) (fun (x : (List UInt8) × Value) => kj5 x.1 = some r) (fun (x : (List UInt8) × Value) => [(0, .int .i64 n1), (3, x.2)]) (fun (x : (List UInt8) × Value) => [row x.2 5 fByte x.1]) ?_ ?_
  · clear hk6
    refine WJ.seq ?_
    refine WJ.quiet ?_
    refine QJ.step (YldS.yld (y_move rfl)) rfl ?_
    refine QJ.step (YldS.yld (y_assign rfl)) rfl ?_
    refine QJ.done ?_
    refine PJ.next ?_
    refine WJ.block ?_
    refine WJ.sel (L' := (fun (x : (List UInt8) × Value × Int) => [row x.2.1 5 fByte x.1]) ([], v2, n1)) [0] ⟨by decide, rfl⟩ ?_
    refine WJ.sub (m' := (fun (x : (List UInt8) × Value × Int) => [(0, .int .i64 n1), (3, x.2.1), (4, .int .i64 x.2.2)]) ([], v2, n1)) ⟨rfl, rfl, rfl, trivial⟩ ?_
    refine WJ.loop (X := (List UInt8) × Value × Int) (fun N (x : (List UInt8) × Value × Int) => s_l01Dec_l1 kj5 N x.1 x.2.2 = some r) (fun (x : (List UInt8) × Value × Int) => [(0, .int .i64 n1), (3, x.2.1), (4, .int .i64 x.2.2)]) (fun (x : (List UInt8) × Value × Int) => [row x.2.1 5 fByte x.1]) ?_ N ([], v2, n1) hm
    · rintro N ⟨l7, v8, k9⟩ hI
      have hm := hI; clear hI
      cases N with
      | zero => cases hm
      | succ N =>
      unfold s_l01Dec_l1 at hm
      refine WJ.seq ?_
      refine WJ.seq ?_
      refine WJ.quiet ?_
      refine QJ.step (YldS.yld (y_move rfl)) rfl ?_
      refine QJ.step (YldS.yld (y_bin rfl rfl rfl)) rfl ?_
      refine QJ.done ?_
      refine PJ.next ?_
      refine WJ.cond (t := (k9 != 0)) rfl (fun hb10 => ?_) (fun hb10 => ?_)
      · replace hm := ifT hm hb10
        refine WJ.skip ?_
        refine PJ.next ?_
        refine WJ.seq ?_
        refine WJ.block ?_
        refine WJ.seq ?_
        refine WJ.quiet ?_
        refine QJ.step (YldS.yld (y_move rfl)) rfl ?_
        refine QJ.step (YldS.yld (y_rem rfl rfl (by decide))) rfl ?_
        refine QJ.step (YldS.yld (y_assign rfl)) rfl ?_
        refine QJ.done ?_
        refine PJ.next ?_
        obtain ⟨kj12, hk13, hm⟩ := withK_open hm
        refine WJ.join (X := Int) (fun (x : Int) => kj12 x = some r) (fun (x : Int) => [(0, .int .i64 n1), (3, v8), (4, .int .i64 k9), (5, .int .i64 x)]) (fun (x : Int) => [row v8 5 fByte l7]) ?_ ?_
        · clear hk13
          refine WJ.seq ?_
          refine WJ.quiet ?_
          refine QJ.step (YldS.yld (y_move rfl)) rfl ?_
          refine QJ.step (YldS.yld (y_bin rfl rfl rfl)) rfl ?_
          refine QJ.done ?_
          refine PJ.next ?_
          refine WJ.cond (t := decide ((Int.tmod k9 10) < 0)) rfl (fun hb14 => ?_) (fun hb14 => ?_)
          · replace hm := ifT hm hb14
            refine WJ.quiet ?_
            refine QJ.step (YldS.yld (y_move rfl)) rfl ?_
            refine QJ.step (YldS.yld (y_neg rfl)) rfl ?_
            refine QJ.step (YldS.yld (y_assign rfl)) rfl ?_
            refine QJ.done ?_
            exact PJ.joined (w64 (0 - (Int.tmod k9 10))) [0] hm ⟨rfl, rfl, rfl, rfl, trivial⟩ ⟨by decide, rfl⟩
          · replace hm := ifF hm hb14
            refine WJ.skip ?_
            exact PJ.joined (Int.tmod k9 10) [0] hm ⟨rfl, rfl, rfl, rfl, trivial⟩ ⟨by decide, rfl⟩
        · rintro d11 hm
          subst hk13
          refine WJ.reg ?_
          refine SJ.q (YldS.yld (y_move rfl)) rfl ?_
          refine SJ.q (YldS.yld (y_bin rfl rfl rfl)) rfl ?_
          refine SJ.q (YldS.yld (y_convTo8 Tryd.runUnderlying2 Tryd.runUnderlying5 rfl)) rfl ?_
          refine SJ.buildSlice (R := fByte) (os := [.tmp 20]) [UInt8.ofInt (w64 (48 + d11))] Tryd.runUnderlying22 Tryd.sizeOf5 Tryd.zeroValue5 rfl rfl rfl rfl rfl rfl fun v15 => ?_
          refine SJ.q (YldS.yld (y_move rfl)) rfl ?_
          obtain ⟨l16, h17, hm⟩ := bindS hm
          refine SJ.append (k := 0) (R := fByte) h17 rfl Tryd.underlying22 el5 rfl rfl rfl (fun w hw => (hw.row_rd (k := 1) rfl)) rfl fun v18 => ?_
          refine SJ.q (YldS.yld (y_assign rfl)) rfl ?_
          refine SJ.nil ?_
          refine PJ.block_normal (PJ.next ?_)
          refine WJ.quiet ?_
          refine QJ.step (YldS.yld (y_move rfl)) rfl ?_
          refine QJ.step (YldS.yld (y_quo rfl rfl (by decide))) rfl ?_
          refine QJ.step (YldS.yld (y_assign rfl)) rfl ?_
          refine QJ.done ?_
          exact PJ.round (l16, v18, w64 (Int.tdiv k9 10)) [0] hm ⟨rfl, rfl, rfl, trivial⟩ ⟨by decide, rfl⟩
      · replace hm := ifF hm hb10
        refine WJ.exit ?_
        refine PJ.then_exit (PJ.then_exit (PJ.block_exit ?_))
        exact PJ.joined (l7, v8) [0] hm ⟨rfl, rfl, trivial⟩ ⟨by decide, rfl⟩
  · rintro ⟨l3, v4⟩ hm
    subst hk6
    refine WJ.seq ?_
    refine WJ.seq ?_
    refine WJ.quiet ?_
    refine QJ.step (YldS.yld (y_move rfl)) rfl ?_
    refine QJ.step (YldS.yld (y_lenRow (k := 0) rfl Tryd.runUnderlying22 rfl)) rfl ?_
    refine QJ.step (YldS.yld (y_bin rfl rfl rfl)) rfl ?_
    refine QJ.done ?_
    refine PJ.next ?_
    refine WJ.cond (t := ((List.length l3 : Int) == 0)) rfl (fun hb19 => ?_) (fun hb19 => ?_)
    · replace hm := ifT hm hb19
      refine WJ.seq ?_
      refine WJ.quiet ?_
      refine QJ.step (YldS.yld (y_assign rfl)) rfl ?_
      refine QJ.done ?_
      refine PJ.next ?_
      refine WJ.ret ?_
      refine PJ.then_ret ?_
      obtain rfl := Option.some.inj hm
      refine PJ.sel (L' := []) [] ⟨List.nodup_nil, rfl⟩ ?_
      exact PJ.retn (vs := [str [48]]) Tryd.results47 ⟨rfl, trivial⟩ ⟨rfl, rfl⟩
    · replace hm := ifF hm hb19
      refine WJ.skip ?_
      refine PJ.next ?_
      refine WJ.seq ?_
      refine WJ.seq ?_
      refine WJ.quiet ?_
      refine QJ.step (YldS.yld (y_move rfl)) rfl ?_
      refine QJ.step (YldS.yld (y_bin rfl rfl rfl)) rfl ?_
      refine QJ.done ?_
      refine PJ.next ?_
      refine WJ.cond (t := decide (n1 < 0)) rfl (fun hb20 => ?_) (fun hb20 => ?_)
      · replace hm := ifT hm hb20
        refine WJ.seq ?_
        refine WJ.quiet ?_
        refine QJ.step (YldS.yld (y_move rfl)) rfl ?_
        refine QJ.step (YldS.yld (y_b2s Tryd.underlying22 Tryd.underlying9 Tryd.underlying5 (fun w hw => ⟨_, (hw.row_rd (k := 0) rfl)⟩) rfl)) rfl ?_
        obtain ⟨s21, h22, hm⟩ := bindS hm
        refine QJ.step (YldS.yld (y_cat h22 rfl rfl)) rfl ?_
        refine QJ.step (YldS.yld (y_assign rfl)) rfl ?_
        refine QJ.done ?_
        refine PJ.next ?_
        refine WJ.ret ?_
        refine PJ.then_ret ?_
        obtain rfl := Option.some.inj hm
        refine PJ.sel (L' := []) [] ⟨List.nodup_nil, rfl⟩ ?_
        exact PJ.retn (vs := [str s21]) Tryd.results47 ⟨rfl, trivial⟩ ⟨rfl, rfl⟩
      · replace hm := ifF hm hb20
        refine WJ.skip ?_
        refine PJ.next ?_
        refine WJ.seq ?_
        refine WJ.quiet ?_
        refine QJ.step (YldS.yld (y_move rfl)) rfl ?_
        refine QJ.step (YldS.yld (y_b2s Tryd.underlying22 Tryd.underlying9 Tryd.underlying5 (fun w hw => ⟨_, (hw.row_rd (k := 0) rfl)⟩) rfl)) rfl ?_
        refine QJ.step (YldS.yld (y_assign rfl)) rfl ?_
        refine QJ.done ?_
        refine PJ.next ?_
        refine WJ.ret ?_
        obtain rfl := Option.some.inj hm
        refine PJ.sel (L' := []) [] ⟨List.nodup_nil, rfl⟩ ?_
        exact PJ.retn (vs := [str l3]) Tryd.results47 ⟨rfl, trivial⟩ ⟨rfl, rfl⟩

set_option maxRecDepth 100000 in
set_option maxHeartbeats 1000000 in
theorem ok_s_RankText {N : Nat} {list1 : List Result} {r : Str} (hm : s_RankText N list1 = some r) (w : World) (v2 : Value) (hr3 : RdS w (cx w).Fz v2 fResult.rp list1) :
    Calls Tryd.prog 23 #[v2] w (Ret (cx w) (str r)) := by
  unfold s_RankText at hm
  refine Calls.enter [v2] Tryd.func23 rfl Tryd.ntmps23 rfl ?_
  refine WJ.seq ?_
  refine WJ.quiet ?_
  refine QJ.step (YldS.yld (y_assign rfl)) rfl ?_
  refine QJ.done ?_
  refine PJ.next ?_
  refine WJ.seq ?_
  refine WJ.seq ?_
  refine WJ.quiet ?_
  refine QJ.step (YldS.yld (y_move rfl)) rfl ?_
  obtain ⟨r4, h5, hm⟩ := bindS hm
  refine QJ.step (y_call Tryd.call33 rfl (RetG.quiet fun w hw => ok_s_l22Ok h5 w _ (hr3.st hw))) rfl ?_
  refine QJ.step (YldS.yld (y_not rfl)) rfl ?_
  refine QJ.done ?_
  refine PJ.next ?_
  refine WJ.cond (t := !r4) rfl (fun hb6 => ?_) (fun hb6 => ?_)
  · replace hm := ifT hm hb6
    refine WJ.seq ?_
    refine WJ.quiet ?_
    refine QJ.step (YldS.yld (y_assign rfl)) rfl ?_
    refine QJ.done ?_
    refine PJ.next ?_
    refine WJ.ret ?_
    refine PJ.then_ret ?_
    obtain rfl := Option.some.inj hm
    refine PJ.sel (L' := []) [] ⟨List.nodup_nil, rfl⟩ ?_
    exact PJ.retn (vs := [str []]) Tryd.results23 ⟨rfl, trivial⟩ ⟨rfl, rfl⟩
  · replace hm := ifF hm hb6
    refine WJ.skip ?_
    refine PJ.next ?_
    refine WJ.seq ?_
    refine WJ.quiet ?_
    refine QJ.step (YldS.yld (y_assign rfl)) rfl ?_
    refine QJ.done ?_
    refine PJ.next ?_
    refine WJ.seq ?_
    refine WJ.reg ?_
    refine SJ.q (YldS.yld (y_move rfl)) rfl ?_
    obtain ⟨r7, h8, hm⟩ := bindS hm
    refine SJ.call Tryd.call35 rfl (fun w hw => ok_s_l22Rank h8 w _ (hr3.st hw)) rfl ?_
    rintro v9 _ ⟨_, rfl, rfl⟩
    refine SJ.q (YldS.yld (y_assign rfl)) rfl ?_
    refine SJ.nil ?_
    refine PJ.next ?_
    obtain ⟨kj11, hk12, hm⟩ := withK_open hm
    refine WJ.join (X := Str) (fun (x : Str) => kj11 x = some r) (fun (x : Str) => [(3, str x)]) (fun (x : Str) => []) ?_ ?_
    · clear hk12
      refine WJ.seq ?_
      refine WJ.quiet ?_
      refine QJ.step (YldS.yld (y_assign rfl)) rfl ?_
      refine QJ.done ?_
      refine PJ.next ?_
      refine WJ.block ?_
      refine WJ.sel (L' := (fun (x : Str × Int) => [row v9 2 fI64 r7]) ([], 0)) [0] ⟨by decide, rfl⟩ ?_
      refine WJ.sub (m' := (fun (x : Str × Int) => [(0, v2), (3, str x.1), (4, v9), (5, .int .i64 x.2)]) ([], 0)) ⟨rfl, rfl, rfl, rfl, trivial⟩ ?_
      refine WJ.loop (X := Str × Int) (fun N (x : Str × Int) => s_RankText_l1 kj11 list1 r7 N x.1 x.2 = some r) (fun (x : Str × Int) => [(0, v2), (3, str x.1), (4, v9), (5, .int .i64 x.2)]) (fun (x : Str × Int) => [row v9 2 fI64 r7]) ?_ N ([], 0) hm
      · rintro N ⟨out13, i14⟩ hI
        have hm := hI; clear hI
        cases N with
        | zero => cases hm
        | succ N =>
        unfold s_RankText_l1 at hm
        refine WJ.seq ?_
        refine WJ.seq ?_
        refine WJ.quiet ?_
        refine QJ.step (YldS.yld (y_move rfl)) rfl ?_
        refine QJ.step (YldS.yld (y_move rfl)) rfl ?_
        refine QJ.step (YldS.yld (y_lenRow (k := 0) rfl Tryd.runUnderlying27 rfl)) rfl ?_
        refine QJ.step (YldS.yld (y_bin rfl rfl rfl)) rfl ?_
        refine QJ.done ?_
        refine PJ.next ?_
        refine WJ.cond (t := decide (i14 < (List.length r7 : Int))) rfl (fun hb15 => ?_) (fun hb15 => ?_)
        · replace hm := ifT hm hb15
          refine WJ.skip ?_
          refine PJ.next ?_
          refine WJ.seq ?_
          refine WJ.block ?_
          obtain ⟨kj17, hk18, hm⟩ := withK_open hm
          refine WJ.join (X := Str) (fun (x : Str) => kj17 x = some r) (fun (x : Str) => [(0, v2), (3, str x), (4, v9), (5, .int .i64 i14)]) (fun (x : Str) => [row v9 2 fI64 r7]) ?_ ?_
          · clear hk18
            refine WJ.seq ?_
            refine WJ.quiet ?_
            refine QJ.step (YldS.yld (y_move rfl)) rfl ?_
            refine QJ.step (YldS.yld (y_bin rfl rfl rfl)) rfl ?_
            refine QJ.done ?_
            refine PJ.next ?_
            refine WJ.cond (t := decide (i14 > 0)) rfl (fun hb19 => ?_) (fun hb19 => ?_)
            · replace hm := ifT hm hb19
              refine WJ.quiet ?_
              refine QJ.step (YldS.yld (y_move rfl)) rfl ?_
              obtain ⟨s20, h21, hm⟩ := bindS hm
              refine QJ.step (YldS.yld (y_cat h21 rfl rfl)) rfl ?_
              refine QJ.step (YldS.yld (y_assign rfl)) rfl ?_
              refine QJ.done ?_
              exact PJ.joined s20 [0] hm ⟨rfl, rfl, rfl, rfl, trivial⟩ ⟨by decide, rfl⟩
            · replace hm := ifF hm hb19
              refine WJ.skip ?_
              exact PJ.joined out13 [0] hm ⟨rfl, rfl, rfl, rfl, trivial⟩ ⟨by decide, rfl⟩
          · rintro out16 hm
            subst hk18
            refine WJ.seq ?_
            refine WJ.quiet ?_
            refine QJ.step (YldS.yld (y_move rfl)) rfl ?_
            refine QJ.step (YldS.yld (y_move rfl)) rfl ?_
            obtain ⟨e22, h23, hm⟩ := bindS hm
            refine QJ.step (YldS.yld (y_ixRow (k := 0) (R := fI64) rfl Tryd.runUnderlying27 Tryd.sizeOf2 rfl rfl h23)) rfl ?_
            refine QJ.step (YldS.yld (y_loadR (k := 0) (i := (Int.toNat i14)) (off := 0) (u := .int .i64 e22) rfl Tryd.isAgg2 rfl (idx_get h23) rfl)) rfl ?_
            refine QJ.step (YldS.yld (y_assign rfl)) rfl ?_
            refine QJ.done ?_
            refine PJ.next ?_
            refine WJ.quiet_draw follows (by kernel_rfl) ?_
            refine QJ.step (YldS.yld (y_move rfl)) rfl ?_
            refine QJ.step (YldS.yld (y_move rfl)) rfl ?_
            refine QJ.step (YldS.yld (y_move rfl)) rfl ?_
            obtain ⟨r24, h25, hm⟩ := bindS hm
            refine QJ.step (y_call Tryd.call37 rfl (RetG.quiet fun w hw => ok_s_l22Place h25 w _ (hr3.st hw))) rfl ?_
            obtain ⟨r26, h27, hm⟩ := bindS hm
            refine QJ.step (y_call Tryd.call47 rfl (RetG.quiet fun w hw => ok_s_l01Dec h27 w )) rfl ?_
            obtain ⟨s28, h29, hm⟩ := bindS hm
            refine QJ.step (YldS.yld (y_cat h29 rfl rfl)) rfl ?_
            refine QJ.step (YldS.yld (y_move rfl)) rfl ?_
            refine QJ.step (YldS.yld (y_move rfl)) rfl ?_
            obtain ⟨e30, h31, hm⟩ := bindS hm
            obtain ⟨ad32, _, rfl, ha33, hy34⟩ := hr3.elem h31
            refine QJ.step (YldS.yld (hy34 Tryd.runUnderlying24 Tryd.sizeOf46 rfl rfl)) rfl ?_
            refine QJ.step (YldS.yld (y_fld (ad := ad32) fld46_0 rfl)) rfl ?_
            refine QJ.step (YldS.yld (y_load1 (v := str e30.name) Tryd.isAgg9 (ha33.sub 0 1) St.frozenC rfl)) rfl ?_
            obtain ⟨s35, h36, hm⟩ := bindS hm
            refine QJ.step (YldS.yld (y_cat h36 rfl rfl)) rfl ?_
            obtain ⟨s37, h38, hm⟩ := bindS hm
            refine QJ.step (YldS.yld (y_cat h38 rfl rfl)) rfl ?_
            refine QJ.step (YldS.yld (y_assign rfl)) rfl ?_
            refine QJ.done ?_
            refine PJ.block_normal (PJ.next ?_)
            refine WJ.quiet ?_
            refine QJ.step (YldS.yld (y_move rfl)) rfl ?_
            refine QJ.step (YldS.yld (y_bin rfl rfl rfl)) rfl ?_
            refine QJ.step (YldS.yld (y_assign rfl)) rfl ?_
            refine QJ.done ?_
            exact PJ.round (s37, w64 (i14 + 1)) [0] hm ⟨rfl, rfl, rfl, rfl, trivial⟩ ⟨by decide, rfl⟩
        · replace hm := ifF hm hb15
          refine WJ.exit ?_
          refine PJ.then_exit (PJ.then_exit (PJ.block_exit ?_))
          exact PJ.joined out13 [] hm ⟨rfl, trivial⟩ ⟨List.nodup_nil, rfl⟩
    · rintro out10 hm
      subst hk12
      refine WJ.seq ?_
      refine WJ.quiet ?_
      refine QJ.step (YldS.yld (y_move rfl)) rfl ?_
      refine QJ.step (YldS.yld (y_assign rfl)) rfl ?_
      refine QJ.done ?_
      refine PJ.next ?_
      refine WJ.ret ?_
      obtain rfl := Option.some.inj hm
      refine PJ.sel (L' := []) [] ⟨List.nodup_nil, rfl⟩ ?_
      exact PJ.retn (vs := [str out10]) Tryd.results23 ⟨rfl, trivial⟩ ⟨rfl, rfl⟩

set_option maxRecDepth 100000 in
set_option maxHeartbeats 1000000 in
theorem ok_s_ValidResults {N : Nat} {list1 : List Result} {r : Bool} (hm : s_ValidResults N list1 = some r) (w : World) (v2 : Value) (hr3 : RdS w (cx w).Fz v2 fResult.rp list1) :
    Calls Tryd.prog 25 #[v2] w (Ret (cx w) (.bool r)) := by
  unfold s_ValidResults at hm
  refine Calls.enter [v2] Tryd.func25 rfl Tryd.ntmps25 rfl ?_
  refine WJ.seq ?_
  refine WJ.quiet ?_
  refine QJ.step (YldS.yld (y_assign rfl)) rfl ?_
  refine QJ.done ?_
  refine PJ.next ?_
  refine WJ.seq ?_
  refine WJ.quiet ?_
  refine QJ.step (YldS.yld (y_move rfl)) rfl ?_
  obtain ⟨r4, h5, hm⟩ := bindS hm
  refine QJ.step (y_call Tryd.call33 rfl (RetG.quiet fun w hw => ok_s_l22Ok h5 w _ (hr3.st hw))) rfl ?_
  refine QJ.step (YldS.yld (y_assign rfl)) rfl ?_
  refine QJ.done ?_
  refine PJ.next ?_
  refine WJ.ret ?_
  obtain rfl := Option.some.inj hm
  refine PJ.sel (L' := []) [] ⟨List.nodup_nil, rfl⟩ ?_
  exact PJ.retn (vs := [.bool r4]) Tryd.results25 ⟨rfl, trivial⟩ ⟨rfl, rfl⟩

end Go.Proofs.YtikkolkickclhaaDoor
