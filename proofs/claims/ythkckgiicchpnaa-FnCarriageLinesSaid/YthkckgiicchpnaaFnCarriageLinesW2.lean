/-
  The walks: a call hands back what its plain function computes, where that has a value. No other conditions.
-/
import Derived.Test.YthkckgiicchpnaaFnCarriageLinesW
import Derived.Test.YthkckgiicchpnaaChecked
namespace Go.Proofs.Ythkckgiicchpnaa
open Go.RowKit Go.Proofs
set_option linter.unusedVariables false
set_option linter.unusedSimpArgs false

set_option maxRecDepth 100000 in
set_option maxHeartbeats 1000000 in
theorem ok_s_l00Put {N : Nat} {list1 : List Int} {n4 : Int} {r : (List Int)} (hm : s_l00Put N list1 n4 = some r) (w : World) (v2 : Value) (hr3 : RdS w (cx w).Fz v2 fI64.rp list1) :
    Calls Try.prog 96 #[v2, .int .i64 n4] w (RetG (cx w) fun u L => ∃ (u1 : Value), (u = u1 ∧ L = [row u1 2 fI64 r])) := by
  unfold s_l00Put at hm
  refine Calls.enter [v2, .int .i64 n4] Try.func96 rfl Try.ntmps96 rfl ?_
  refine WJ.seq ?_
  refine WJ.quiet ?_
  refine QJ.step (YldS.yld (y_assign rfl)) rfl ?_
  refine QJ.done ?_
  refine PJ.next ?_
  refine WJ.seq ?_
  refine WJ.reg ?_
  refine SJ.buildSlice (R := fI64) (os := []) [] Try.runUnderlying69 Try.sizeOf2 Try.zeroValue2 rfl rfl rfl rfl rfl rfl fun v5 => ?_
  refine SJ.q (YldS.yld (y_assign rfl)) rfl ?_
  refine SJ.nil ?_
  refine PJ.next ?_
  refine WJ.seq ?_
  refine WJ.quiet ?_
  refine QJ.step (YldS.yld (y_assign rfl)) rfl ?_
  refine QJ.done ?_
  refine PJ.next ?_
  obtain ⟨kj9, hk10, hm⟩ := withK_open hm
  refine WJ.join (X := (List Int) × Value × Bool) (fun (x : (List Int) × Value × Bool) => kj9 x.1 x.2.2 = some r) (fun (x : (List Int) × Value × Bool) => [(1, .int .i64 n4), (5, x.2.1), (6, .bool x.2.2)]) (fun (x : (List Int) × Value × Bool) => [row x.2.1 2 fI64 x.1]) ?_ ?_
  · clear hk10
    refine WJ.seq ?_
    refine WJ.quiet ?_
    refine QJ.step (YldS.yld (y_assign rfl)) rfl ?_
    refine QJ.done ?_
    refine PJ.next ?_
    refine WJ.block ?_
    refine WJ.sel (L' := (fun (x : (List Int) × Value × Bool × Int) => [row x.2.1 2 fI64 x.1]) ([], v5, false, 0)) [0] ⟨by decide, rfl⟩ ?_
    refine WJ.sub (m' := (fun (x : (List Int) × Value × Bool × Int) => [(0, v2), (1, .int .i64 n4), (5, x.2.1), (6, .bool x.2.2.1), (7, .int .i64 x.2.2.2)]) ([], v5, false, 0)) ⟨rfl, rfl, rfl, rfl, rfl, trivial⟩ ?_
    refine WJ.loop (X := (List Int) × Value × Bool × Int) (fun N (x : (List Int) × Value × Bool × Int) => s_l00Put_l1 kj9 list1 n4 N x.1 x.2.2.1 x.2.2.2 = some r) (fun (x : (List Int) × Value × Bool × Int) => [(0, v2), (1, .int .i64 n4), (5, x.2.1), (6, .bool x.2.2.1), (7, .int .i64 x.2.2.2)]) (fun (x : (List Int) × Value × Bool × Int) => [row x.2.1 2 fI64 x.1]) ?_ N ([], v5, false, 0) hm
    · rintro N ⟨l11, v12, done13, i14⟩ hI
      have hm := hI; clear hI
      cases N with
      | zero => cases hm
      | succ N =>
      unfold s_l00Put_l1 at hm
      refine WJ.seq ?_
      refine WJ.seq ?_
      refine WJ.quiet ?_
      refine QJ.step (YldS.yld (y_move rfl)) rfl ?_
      refine QJ.step (YldS.yld (y_move rfl)) rfl ?_
      refine QJ.step (YldS.yld (y_lenS Try.runUnderlying69 hr3 rfl)) rfl ?_
      refine QJ.step (YldS.yld (y_bin rfl rfl rfl)) rfl ?_
      refine QJ.done ?_
      refine PJ.next ?_
      refine WJ.cond (t := decide (i14 < (List.length list1 : Int))) rfl (fun hb15 => ?_) (fun hb15 => ?_)
      · replace hm := ifT hm hb15
        refine WJ.skip ?_
        refine PJ.next ?_
        refine WJ.seq ?_
        refine WJ.block ?_
        obtain ⟨kj19, hk20, hm⟩ := withK_open hm
        refine WJ.join (X := (List Int) × Value × Bool) (fun (x : (List Int) × Value × Bool) => kj19 x.1 x.2.2 = some r) (fun (x : (List Int) × Value × Bool) => [(0, v2), (1, .int .i64 n4), (5, x.2.1), (6, .bool x.2.2), (7, .int .i64 i14)]) (fun (x : (List Int) × Value × Bool) => [row x.2.1 2 fI64 x.1]) ?_ ?_
        · clear hk20
          refine WJ.seq ?_
          refine WJ.quiet ?_
          refine QJ.step (YldS.yld (y_move rfl)) rfl ?_
          refine QJ.step (YldS.yld (y_not rfl)) rfl ?_
          refine QJ.step (YldS.yld (y_move rfl)) rfl ?_
          obtain ⟨t21, h22, hm⟩ := bindS hm
          refine QJ.cut 7 [(0, v2), (1, .int .i64 n4), (5, v12), (6, .bool done13), (7, .int .i64 i14), (24, .bool t21)] ?_ ?_
          · rcases Bool.eq_false_or_eq_true (!done13) with hb23 | hb23
            · replace h22 := andT h22 hb23
              refine QJ.on rfl rfl (cB hb23) (YldS.yld (y_move rfl)) rfl ?_
              refine QJ.on rfl rfl (cB hb23) (YldS.yld (y_move rfl)) rfl ?_
              obtain ⟨e24, h25, h22⟩ := bindS h22
              obtain ⟨ad26, _, rfl, ha27, hy28⟩ := hr3.elem h25
              refine QJ.on rfl rfl (cB hb23) (YldS.yld (hy28 Try.runUnderlying69 Try.sizeOf2 rfl rfl)) rfl ?_
              refine QJ.on rfl rfl (cB hb23) (YldS.yld (y_load1 (v := .int .i64 e24) Try.isAgg2 ha27 St.frozenC rfl)) rfl ?_
              refine QJ.on rfl rfl (cB hb23) (YldS.yld (y_move rfl)) rfl ?_
              refine QJ.on rfl rfl (cB hb23) (YldS.yld (y_bin rfl rfl rfl)) rfl ?_
              refine QJ.step (YldS.yld (y_pick_t (cB hb23) rfl)) rfl ?_
              obtain rfl := Option.some.inj h22
              exact QJ.cut_end ⟨rfl, rfl, rfl, rfl, rfl, rfl, trivial⟩
            · obtain rfl := andF h22 hb23
              refine QJ.off rfl rfl (cB hb23) rfl rfl ?_
              refine QJ.off rfl rfl (cB hb23) rfl rfl ?_
              refine QJ.off rfl rfl (cB hb23) rfl rfl ?_
              refine QJ.off rfl rfl (cB hb23) rfl rfl ?_
              refine QJ.off rfl rfl (cB hb23) rfl rfl ?_
              refine QJ.off rfl rfl (cB hb23) rfl rfl ?_
              refine QJ.step (YldS.yld (y_pick_f (cB hb23) rfl)) rfl ?_
              exact QJ.cut_end ⟨rfl, rfl, rfl, rfl, rfl, rfl, trivial⟩
          refine QJ.done ?_
          refine PJ.next ?_
          refine WJ.cond (t := t21) rfl (fun hb29 => ?_) (fun hb29 => ?_)
          · replace hm := ifT hm hb29
            refine WJ.seq ?_
            refine WJ.quiet ?_
            refine QJ.step (YldS.yld (y_assign rfl)) rfl ?_
            refine QJ.done ?_
            refine PJ.next ?_
            refine WJ.seq ?_
            refine WJ.quiet ?_
            refine QJ.step (YldS.yld (y_move rfl)) rfl ?_
            refine QJ.step (YldS.yld (y_move rfl)) rfl ?_
            obtain ⟨e30, h31, hm⟩ := bindS hm
            obtain ⟨ad32, _, rfl, ha33, hy34⟩ := hr3.elem h31
            refine QJ.step (YldS.yld (hy34 Try.runUnderlying69 Try.sizeOf2 rfl rfl)) rfl ?_
            refine QJ.step (YldS.yld (y_load1 (v := .int .i64 e30) Try.isAgg2 ha33 St.frozenC rfl)) rfl ?_
            refine QJ.step (YldS.yld (y_move rfl)) rfl ?_
            refine QJ.step (YldS.yld (y_bin rfl rfl rfl)) rfl ?_
            refine QJ.done ?_
            refine PJ.next ?_
            refine WJ.cond (t := decide (e30 > n4)) rfl (fun hb35 => ?_) (fun hb35 => ?_)
            · replace hm := ifT hm hb35
              refine WJ.reg ?_
              refine SJ.q (YldS.yld (y_move rfl)) rfl ?_
              refine SJ.q (YldS.yld (y_move rfl)) rfl ?_
              refine SJ.buildSlice (R := fI64) (os := [.tmp 32]) [n4] Try.runUnderlying69 Try.sizeOf2 Try.zeroValue2 rfl rfl rfl rfl rfl rfl fun v36 => ?_
              obtain ⟨l37, h38, hm⟩ := bindS hm
              refine SJ.append (k := 1) (R := fI64) h38 rfl Try.underlying69 el2 rfl rfl rfl (fun w hw => (hw.row_rd (k := 0) rfl)) rfl fun v39 => ?_
              refine SJ.q (YldS.yld (y_assign rfl)) rfl ?_
              refine SJ.nil ?_
              exact PJ.joined (l37, v39, true) [1] hm ⟨rfl, rfl, rfl, rfl, rfl, trivial⟩ ⟨by decide, rfl⟩
            · replace hm := ifF hm hb35
              refine WJ.skip ?_
              exact PJ.joined (l11, v12, true) [0] hm ⟨rfl, rfl, rfl, rfl, rfl, trivial⟩ ⟨by decide, rfl⟩
          · replace hm := ifF hm hb29
            refine WJ.skip ?_
            exact PJ.joined (l11, v12, done13) [0] hm ⟨rfl, rfl, rfl, rfl, rfl, trivial⟩ ⟨by decide, rfl⟩
        · rintro ⟨l16, v17, done18⟩ hm
          subst hk20
          refine WJ.reg ?_
          refine SJ.q (YldS.yld (y_move rfl)) rfl ?_
          refine SJ.q (YldS.yld (y_move rfl)) rfl ?_
          refine SJ.q (YldS.yld (y_move rfl)) rfl ?_
          obtain ⟨e40, h41, hm⟩ := bindS hm
          obtain ⟨ad42, _, rfl, ha43, hy44⟩ := hr3.elem h41
          refine SJ.q (YldS.yld (hy44 Try.runUnderlying69 Try.sizeOf2 rfl rfl)) rfl ?_
          refine SJ.q (YldS.yld (y_load1 (v := .int .i64 e40) Try.isAgg2 ha43 St.frozenC rfl)) rfl ?_
          refine SJ.buildSlice (R := fI64) (os := [.tmp 39]) [e40] Try.runUnderlying69 Try.sizeOf2 Try.zeroValue2 rfl rfl rfl rfl rfl rfl fun v45 => ?_
          obtain ⟨l46, h47, hm⟩ := bindS hm
          refine SJ.append (k := 1) (R := fI64) h47 rfl Try.underlying69 el2 rfl rfl rfl (fun w hw => (hw.row_rd (k := 0) rfl)) rfl fun v48 => ?_
          refine SJ.q (YldS.yld (y_assign rfl)) rfl ?_
          refine SJ.nil ?_
          refine PJ.block_normal (PJ.next ?_)
          refine WJ.quiet ?_
          refine QJ.step (YldS.yld (y_move rfl)) rfl ?_
          refine QJ.step (YldS.yld (y_bin rfl rfl rfl)) rfl ?_
          refine QJ.step (YldS.yld (y_assign rfl)) rfl ?_
          refine QJ.done ?_
          exact PJ.round (l46, v48, done18, w64 (i14 + 1)) [1] hm ⟨rfl, rfl, rfl, rfl, rfl, trivial⟩ ⟨by decide, rfl⟩
      · replace hm := ifF hm hb15
        refine WJ.exit ?_
        refine PJ.then_exit (PJ.then_exit (PJ.block_exit ?_))
        exact PJ.joined (l11, v12, done13) [0] hm ⟨rfl, rfl, rfl, trivial⟩ ⟨by decide, rfl⟩
  · rintro ⟨l6, v7, done8⟩ hm
    subst hk10
    obtain ⟨kj51, hk52, hm⟩ := withK_open hm
    refine WJ.join (X := (List Int) × Value) (fun (x : (List Int) × Value) => kj51 x.1 = some r) (fun (x : (List Int) × Value) => [(5, x.2)]) (fun (x : (List Int) × Value) => [row x.2 2 fI64 x.1]) ?_ ?_
    · clear hk52
      refine WJ.seq ?_
      refine WJ.quiet ?_
      refine QJ.step (YldS.yld (y_move rfl)) rfl ?_
      refine QJ.step (YldS.yld (y_not rfl)) rfl ?_
      refine QJ.done ?_
      refine PJ.next ?_
      refine WJ.cond (t := !done8) rfl (fun hb53 => ?_) (fun hb53 => ?_)
      · replace hm := ifT hm hb53
        refine WJ.reg ?_
        refine SJ.q (YldS.yld (y_move rfl)) rfl ?_
        refine SJ.q (YldS.yld (y_move rfl)) rfl ?_
        refine SJ.buildSlice (R := fI64) (os := [.tmp 45]) [n4] Try.runUnderlying69 Try.sizeOf2 Try.zeroValue2 rfl rfl rfl rfl rfl rfl fun v54 => ?_
        obtain ⟨l55, h56, hm⟩ := bindS hm
        refine SJ.append (k := 1) (R := fI64) h56 rfl Try.underlying69 el2 rfl rfl rfl (fun w hw => (hw.row_rd (k := 0) rfl)) rfl fun v57 => ?_
        refine SJ.q (YldS.yld (y_assign rfl)) rfl ?_
        refine SJ.nil ?_
        exact PJ.joined (l55, v57) [1] hm ⟨rfl, trivial⟩ ⟨by decide, rfl⟩
      · replace hm := ifF hm hb53
        refine WJ.skip ?_
        exact PJ.joined (l6, v7) [0] hm ⟨rfl, trivial⟩ ⟨by decide, rfl⟩
    · rintro ⟨l49, v50⟩ hm
      subst hk52
      refine WJ.seq ?_
      refine WJ.quiet ?_
      refine QJ.step (YldS.yld (y_move rfl)) rfl ?_
      refine QJ.step (YldS.yld (y_assign rfl)) rfl ?_
      refine QJ.done ?_
      refine PJ.next ?_
      refine WJ.ret ?_
      obtain rfl := Option.some.inj hm
      refine PJ.sel (L' := [row v50 2 fI64 l49]) [0] ⟨by decide, rfl⟩ ?_
      exact PJ.retn (vs := [v50]) Try.results96 ⟨rfl, trivial⟩ ⟨_, rfl, rfl⟩

set_option maxRecDepth 100000 in
set_option maxHeartbeats 1000000 in
theorem ok_s_OvertypedPlaces {N : Nat} {list1 : List Struck} {r : (List Int) × Int} (hm : s_OvertypedPlaces N list1 = some r) (w : World) (v2 : Value) (hr3 : RdS w (cx w).Fz v2 fStruck.rp list1) :
    Calls Try.prog 44 #[v2] w (RetG (cx w) fun u L => ∃ (u1 : Value), (u = tup [u1, .int .i64 r.2] ∧ L = [row u1 2 fI64 r.1])) := by
  unfold s_OvertypedPlaces at hm
  refine Calls.enter [v2] Try.func44 rfl Try.ntmps44 rfl ?_
  refine WJ.seq ?_
  refine WJ.quiet ?_
  refine QJ.step (YldS.yld (y_assign rfl)) rfl ?_
  refine QJ.step (YldS.yld (y_assign rfl)) rfl ?_
  refine QJ.done ?_
  refine PJ.next ?_
  refine WJ.seq ?_
  refine WJ.seq ?_
  refine WJ.quiet ?_
  refine QJ.step (YldS.yld (y_move rfl)) rfl ?_
  obtain ⟨r4, h5, hm⟩ := bindS hm
  refine QJ.step (y_call Try.call95 rfl (RetG.quiet fun w hw => ok_s_l04Struck h5 w _ (hr3.st hw))) rfl ?_
  refine QJ.step (YldS.yld (y_not rfl)) rfl ?_
  refine QJ.done ?_
  refine PJ.next ?_
  refine WJ.cond (t := !r4) rfl (fun hb6 => ?_) (fun hb6 => ?_)
  · replace hm := ifT hm hb6
    refine WJ.seq ?_
    refine WJ.quiet ?_
    refine QJ.step (YldS.yld (y_assign rfl)) rfl ?_
    refine QJ.step (YldS.yld (y_assign rfl)) rfl ?_
    refine QJ.done ?_
    refine PJ.next ?_
    refine WJ.ret ?_
    refine PJ.then_ret ?_
    refine PJ.nil_row 2 fI64 ?_
    obtain rfl := Option.some.inj hm
    refine PJ.sel (L' := [row (.slice none 0 0) 2 fI64 []]) [0] ⟨by decide, rfl⟩ ?_
    exact PJ.retn (vs := [(.slice none 0 0), .int .i64 1]) Try.results44 ⟨rfl, rfl, trivial⟩ ⟨_, rfl, rfl⟩
  · replace hm := ifF hm hb6
    refine WJ.skip ?_
    refine PJ.next ?_
    refine WJ.seq ?_
    refine WJ.reg ?_
    refine SJ.buildSlice (R := fI64) (os := []) [] Try.runUnderlying69 Try.sizeOf2 Try.zeroValue2 rfl rfl rfl rfl rfl rfl fun v7 => ?_
    refine SJ.q (YldS.yld (y_assign rfl)) rfl ?_
    refine SJ.nil ?_
    refine PJ.next ?_
    obtain ⟨kj10, hk11, hm⟩ := withK_open hm
    refine WJ.join (X := (List Int) × Value) (fun (x : (List Int) × Value) => kj10 x.1 = some r) (fun (x : (List Int) × Value) => [(4, x.2)]) (fun (x : (List Int) × Value) => [row x.2 2 fI64 x.1]) ?_ ?_
    · clear hk11
      refine WJ.seq ?_
      refine WJ.quiet ?_
      refine QJ.step (YldS.yld (y_assign rfl)) rfl ?_
      refine QJ.done ?_
      refine PJ.next ?_
      refine WJ.block ?_
      refine WJ.sel (L' := (fun (x : (List Int) × Value × Int) => [row x.2.1 2 fI64 x.1]) ([], v7, 0)) [0] ⟨by decide, rfl⟩ ?_
      refine WJ.sub (m' := (fun (x : (List Int) × Value × Int) => [(0, v2), (4, x.2.1), (5, .int .i64 x.2.2)]) ([], v7, 0)) ⟨rfl, rfl, rfl, trivial⟩ ?_
      refine WJ.loop (X := (List Int) × Value × Int) (fun N (x : (List Int) × Value × Int) => s_OvertypedPlaces_l1 kj10 list1 N x.1 x.2.2 = some r) (fun (x : (List Int) × Value × Int) => [(0, v2), (4, x.2.1), (5, .int .i64 x.2.2)]) (fun (x : (List Int) × Value × Int) => [row x.2.1 2 fI64 x.1]) ?_ N ([], v7, 0) hm
      · rintro N ⟨l12, v13, i14⟩ hI
        have hm := hI; clear hI
        cases N with
        | zero => cases hm
        | succ N =>
        unfold s_OvertypedPlaces_l1 at hm
        refine WJ.seq ?_
        refine WJ.seq ?_
        refine WJ.quiet ?_
        refine QJ.step (YldS.yld (y_move rfl)) rfl ?_
        refine QJ.step (YldS.yld (y_move rfl)) rfl ?_
        refine QJ.step (YldS.yld (y_lenS Try.runUnderlying53 hr3 rfl)) rfl ?_
        refine QJ.step (YldS.yld (y_bin rfl rfl rfl)) rfl ?_
        refine QJ.done ?_
        refine PJ.next ?_
        refine WJ.cond (t := decide (i14 < (List.length list1 : Int))) rfl (fun hb15 => ?_) (fun hb15 => ?_)
        · replace hm := ifT hm hb15
          refine WJ.skip ?_
          refine PJ.next ?_
          obtain ⟨kj18, hk19, hm⟩ := withK_open hm
          refine WJ.join (X := (List Int) × Value) (fun (x : (List Int) × Value) => kj18 x.1 = some r) (fun (x : (List Int) × Value) => [(0, v2), (4, x.2), (5, .int .i64 i14)]) (fun (x : (List Int) × Value) => [row x.2 2 fI64 x.1]) ?_ ?_
          · clear hk19
            refine WJ.block ?_
            refine WJ.seq ?_
            refine WJ.quiet ?_
            refine QJ.step (YldS.yld (y_assign rfl)) rfl ?_
            refine QJ.done ?_
            refine PJ.next ?_
            refine WJ.block ?_
            refine WJ.sel (L' := (fun (x : (List Int) × Value × Int) => [row x.2.1 2 fI64 x.1]) (l12, v13, 0)) [0] ⟨by decide, rfl⟩ ?_
            refine WJ.sub (m' := (fun (x : (List Int) × Value × Int) => [(0, v2), (4, x.2.1), (5, .int .i64 i14), (6, .int .i64 x.2.2)]) (l12, v13, 0)) ⟨rfl, rfl, rfl, rfl, trivial⟩ ?_
            refine WJ.loop (X := (List Int) × Value × Int) (fun N (x : (List Int) × Value × Int) => s_OvertypedPlaces_l2 kj18 list1 i14 N x.1 x.2.2 = some r) (fun (x : (List Int) × Value × Int) => [(0, v2), (4, x.2.1), (5, .int .i64 i14), (6, .int .i64 x.2.2)]) (fun (x : (List Int) × Value × Int) => [row x.2.1 2 fI64 x.1]) ?_ N (l12, v13, 0) hm
            · rintro N ⟨l20, v21, k22⟩ hI
              have hm := hI; clear hI
              cases N with
              | zero => cases hm
              | succ N =>
              unfold s_OvertypedPlaces_l2 at hm
              refine WJ.seq ?_
              refine WJ.seq ?_
              refine WJ.quiet ?_
              refine QJ.step (YldS.yld (y_move rfl)) rfl ?_
              refine QJ.step (YldS.yld (y_move rfl)) rfl ?_
              refine QJ.step (YldS.yld (y_bin rfl rfl rfl)) rfl ?_
              refine QJ.done ?_
              refine PJ.next ?_
              refine WJ.cond (t := decide (k22 < i14)) rfl (fun hb23 => ?_) (fun hb23 => ?_)
              · replace hm := ifT hm hb23
                refine WJ.skip ?_
                refine PJ.next ?_
                obtain ⟨kj26, hk27, hm⟩ := withK_open hm
                refine WJ.join (X := (List Int) × Value) (fun (x : (List Int) × Value) => kj26 x.1 = some r) (fun (x : (List Int) × Value) => [(0, v2), (4, x.2), (5, .int .i64 i14), (6, .int .i64 k22)]) (fun (x : (List Int) × Value) => [row x.2 2 fI64 x.1]) ?_ ?_
                · clear hk27
                  refine WJ.block ?_
                  refine WJ.seq ?_
                  refine WJ.quiet_draw follows (by kernel_rfl) ?_
                  refine QJ.step (YldS.yld (y_move rfl)) rfl ?_
                  refine QJ.step (YldS.yld (y_move rfl)) rfl ?_
                  obtain ⟨e28, h29, hm⟩ := bindS hm
                  obtain ⟨ad30, _, rfl, ha31, hy32⟩ := hr3.elem h29
                  refine QJ.step (YldS.yld (hy32 Try.runUnderlying53 Try.sizeOf76 rfl rfl)) rfl ?_
                  refine QJ.step (YldS.yld (y_fld (ad := ad30) fld76_0 rfl)) rfl ?_
                  refine QJ.step (YldS.yld (y_load1 (v := .int .i64 e28.place) Try.isAgg2 (ha31.sub 0 1) St.frozenC rfl)) rfl ?_
                  refine QJ.step (YldS.yld (y_move rfl)) rfl ?_
                  refine QJ.step (YldS.yld (y_move rfl)) rfl ?_
                  obtain ⟨e33, h34, hm⟩ := bindS hm
                  obtain ⟨ad35, _, rfl, ha36, hy37⟩ := hr3.elem h34
                  refine QJ.step (YldS.yld (hy37 Try.runUnderlying53 Try.sizeOf76 rfl rfl)) rfl ?_
                  refine QJ.step (YldS.yld (y_fld (ad := ad35) fld76_0 rfl)) rfl ?_
                  refine QJ.step (YldS.yld (y_load1 (v := .int .i64 e33.place) Try.isAgg2 (ha36.sub 0 1) St.frozenC rfl)) rfl ?_
                  refine QJ.step (YldS.yld (y_bin rfl rfl rfl)) rfl ?_
                  refine QJ.done ?_
                  refine PJ.next ?_
                  refine WJ.cond (t := (e28.place == e33.place)) rfl (fun hb38 => ?_) (fun hb38 => ?_)
                  · replace hm := ifT hm hb38
                    refine WJ.reg ?_
                    refine SJ.q (YldS.yld (y_move rfl)) rfl ?_
                    refine SJ.q (YldS.yld (y_move rfl)) rfl ?_
                    refine SJ.q (YldS.yld (y_move rfl)) rfl ?_
                    obtain ⟨e39, h40, hm⟩ := bindS hm
                    obtain ⟨ad41, _, rfl, ha42, hy43⟩ := hr3.elem h40
                    refine SJ.q (YldS.yld (hy43 Try.runUnderlying53 Try.sizeOf76 rfl rfl)) rfl ?_
                    refine SJ.q (YldS.yld (y_fld (ad := ad41) fld76_0 rfl)) rfl ?_
                    refine SJ.q (YldS.yld (y_load1 (v := .int .i64 e39.place) Try.isAgg2 (ha42.sub 0 1) St.frozenC rfl)) rfl ?_
                    obtain ⟨r44, h45, hm⟩ := bindS hm
                    refine SJ.call Try.call96 rfl (fun w hw => ok_s_l00Put h45 w _ (hw.row_rd (k := 0) rfl)) rfl ?_
                    rintro v46 _ ⟨_, rfl, rfl⟩
                    refine SJ.q (YldS.yld (y_assign rfl)) rfl ?_
                    refine SJ.nil ?_
                    refine PJ.block_normal ?_
                    exact PJ.joined (r44, v46) [0] hm ⟨rfl, rfl, rfl, rfl, trivial⟩ ⟨by decide, rfl⟩
                  · replace hm := ifF hm hb38
                    refine WJ.skip ?_
                    refine PJ.block_normal ?_
                    exact PJ.joined (l20, v21) [0] hm ⟨rfl, rfl, rfl, rfl, trivial⟩ ⟨by decide, rfl⟩
                · rintro ⟨l24, v25⟩ hm
                  subst hk27
                  refine WJ.quiet ?_
                  refine QJ.step (YldS.yld (y_move rfl)) rfl ?_
                  refine QJ.step (YldS.yld (y_bin rfl rfl rfl)) rfl ?_
                  refine QJ.step (YldS.yld (y_assign rfl)) rfl ?_
                  refine QJ.done ?_
                  exact PJ.round (l24, v25, w64 (k22 + 1)) [0] hm ⟨rfl, rfl, rfl, rfl, trivial⟩ ⟨by decide, rfl⟩
              · replace hm := ifF hm hb23
                refine WJ.exit ?_
                refine PJ.then_exit (PJ.then_exit (PJ.block_exit (PJ.block_normal ?_)))
                exact PJ.joined (l20, v21) [0] hm ⟨rfl, rfl, rfl, trivial⟩ ⟨by decide, rfl⟩
          · rintro ⟨l16, v17⟩ hm
            subst hk19
            refine WJ.quiet ?_
            refine QJ.step (YldS.yld (y_move rfl)) rfl ?_
            refine QJ.step (YldS.yld (y_bin rfl rfl rfl)) rfl ?_
            refine QJ.step (YldS.yld (y_assign rfl)) rfl ?_
            refine QJ.done ?_
            exact PJ.round (l16, v17, w64 (i14 + 1)) [0] hm ⟨rfl, rfl, rfl, trivial⟩ ⟨by decide, rfl⟩
        · replace hm := ifF hm hb15
          refine WJ.exit ?_
          refine PJ.then_exit (PJ.then_exit (PJ.block_exit ?_))
          exact PJ.joined (l12, v13) [0] hm ⟨rfl, trivial⟩ ⟨by decide, rfl⟩
    · rintro ⟨l8, v9⟩ hm
      subst hk11
      refine WJ.seq ?_
      refine WJ.quiet ?_
      refine QJ.step (YldS.yld (y_move rfl)) rfl ?_
      refine QJ.step (YldS.yld (y_assign rfl)) rfl ?_
      refine QJ.step (YldS.yld (y_assign rfl)) rfl ?_
      refine QJ.done ?_
      refine PJ.next ?_
      refine WJ.ret ?_
      obtain rfl := Option.some.inj hm
      refine PJ.sel (L' := [row v9 2 fI64 l8]) [0] ⟨by decide, rfl⟩ ?_
      exact PJ.retn (vs := [v9, .int .i64 0]) Try.results44 ⟨rfl, rfl, trivial⟩ ⟨_, rfl, rfl⟩

set_option maxRecDepth 100000 in
set_option maxHeartbeats 1000000 in
theorem ok_s_DrawSameStruck {N : Nat} {code1 : List UInt8} {r : (List Struck) × (List Struck)} (hm : s_DrawSameStruck N code1 = some r) (w : World) (v2 : Value) (hr3 : RdS w (cx w).Fz v2 fByte.rp code1) :
    Calls Try.prog 45 #[v2] w (RetG (cx w) fun u L => ∃ (u1 : Value) (u2 : Value), (u = tup [u1, u2] ∧ L = [row u1 76 fStruck r.1, row u2 76 fStruck r.2])) := by
  unfold s_DrawSameStruck at hm
  refine Calls.enter [v2] Try.func45 rfl Try.ntmps45 rfl ?_
  refine WJ.seq ?_
  refine WJ.quiet ?_
  refine QJ.step (YldS.yld (y_assign rfl)) rfl ?_
  refine QJ.step (YldS.yld (y_assign rfl)) rfl ?_
  refine QJ.done ?_
  refine PJ.next ?_
  refine WJ.seq ?_
  refine WJ.reg ?_
  refine SJ.q (YldS.yld (y_move rfl)) rfl ?_
  obtain ⟨r4, h5, hm⟩ := bindS hm
  refine SJ.call Try.call94 rfl (fun w hw => ok_s_l04DrawStruck h5 w _ (hr3.st hw)) rfl ?_
  rintro _ _ ⟨v6, rfl, rfl⟩
  refine SJ.q (YldS.yld (y_move rfl)) rfl ?_
  refine SJ.q (YldS.yld (y_extract rfl rfl)) rfl ?_
  refine SJ.q (YldS.yld (y_extract rfl rfl)) rfl ?_
  refine SJ.alloc (cs := [.int .i64 0, .int .i64 0, .int .i64 0]) Try.zeroValue45 rfl rfl fun g7 => ?_
  refine SJ.storeL (k := 0) (off := 0) (us := [.int .i64 r4.1.left, .int .i64 r4.1.right, .int .i64 r4.1.bell]) rfl rfl rfl rfl Try.sizeOf45 rfl rfl ?_
  refine SJ.q (YldS.yld (y_assign rfl)) rfl ?_
  refine SJ.nil ?_
  refine PJ.next ?_
  refine WJ.seq ?_
  refine WJ.reg ?_
  refine SJ.q (YldS.yld (y_move rfl)) rfl ?_
  obtain ⟨r8, h9, hm⟩ := bindS hm
  refine SJ.call Try.call73 rfl (fun w hw => ok_s_l00From h9 w _ (hr3.st hw)) rfl ?_
  rintro _ _ ⟨g10, rfl, rfl⟩
  refine SJ.q (YldS.yld (y_assign rfl)) rfl ?_
  refine SJ.nil ?_
  refine PJ.next ?_
  refine WJ.seq ?_
  refine WJ.reg ?_
  refine SJ.buildSlice (R := fStruck) (os := []) [] Try.runUnderlying53 Try.sizeOf76 Try.zeroValue76 rfl rfl rfl rfl rfl rfl fun v11 => ?_
  refine SJ.q (YldS.yld (y_move rfl)) rfl ?_
  obtain ⟨l12, h13, hm⟩ := bindS hm
  refine SJ.append (k := 0) (R := fStruck) h13 rfl Try.underlying53 el76 rfl rfl rfl (fun w hw => (hw.row_rd (k := 3) rfl)) rfl fun v14 => ?_
  refine SJ.q (YldS.yld (y_assign rfl)) rfl ?_
  refine SJ.nil ?_
  refine PJ.next ?_
  obtain ⟨kj18, hk19, hm⟩ := withK_open hm
  refine WJ.join (X := Int × Int × (List Struck)) (fun (x : Int × Int × (List Struck)) => kj18 x.1 x.2.1 x.2.2 = some r) (fun (x : Int × Int × (List Struck)) => [(5, v6), (6, pt g10 0), (7, v14)]) (fun (x : Int × Int × (List Struck)) => [box g10 157 [v2, .int .i64 x.1, .int .u64 x.2.1], row v14 76 fStruck x.2.2, row v6 76 fStruck r4.2]) ?_ ?_
  · clear hk19
    refine WJ.seq ?_
    refine WJ.reg ?_
    refine SJ.q (YldS.yld (y_move rfl)) rfl ?_
    refine SJ.q (YldS.yld (y_lenRow (k := 0) rfl Try.runUnderlying53 rfl)) rfl ?_
    refine SJ.q (YldS.yld (y_bin rfl rfl rfl)) rfl ?_
    refine SJ.q (YldS.yld (y_move rfl)) rfl ?_
    obtain ⟨x22, h21, hm⟩ := bindS hm
    refine SJ.cut 3 [(5, v6), (6, pt g10 0), (7, v14), (24, .bool x22.1)] [row v14 76 fStruck l12, box g10 157 [v2, .int .i64 x22.2.at_, .int .u64 x22.2.seed], box g7 45 [.int .i64 r4.1.left, .int .i64 r4.1.right, .int .i64 r4.1.bell], row v6 76 fStruck r4.2] ?_ ?_
    · rcases Bool.eq_false_or_eq_true (decide ((List.length l12 : Int) > 0)) with hb23 | hb23
      · replace h21 := ifT h21 hb23
        refine SJ.on rfl rfl (cB hb23) (SJ.q (YldS.yld (y_move rfl)) rfl ?_)
        obtain ⟨r24, h25, h21⟩ := bindS h21
        refine SJ.on rfl rfl (cB hb23) (SJ.call1 (k := 1) rfl Try.call84 rfl (fun w S hw hA hO => ok_s_l00Src_one h25 w S _ (hr3.st1 hw hO) hA) rfl ?_)
        rintro _ _ ⟨rfl, rfl⟩
        refine SJ.q (YldS.yld (y_pick_t (cB hb23) rfl)) rfl ?_
        obtain rfl := Option.some.inj h21
        exact SJ.cut_end [1, 0, 2, 3] ⟨rfl, rfl, rfl, rfl, trivial⟩ ⟨by decide, rfl⟩
      · replace h21 := ifF h21 hb23
        obtain rfl := Option.some.inj h21
        refine SJ.off rfl rfl (cB hb23) rfl rfl ?_
        refine SJ.off rfl rfl (cB hb23) rfl rfl ?_
        refine SJ.q (YldS.yld (y_pick_f (cB hb23) rfl)) rfl ?_
        exact SJ.cut_end [0, 1, 2, 3] ⟨rfl, rfl, rfl, rfl, trivial⟩ ⟨by decide, rfl⟩
    refine SJ.nil ?_
    refine PJ.next ?_
    refine WJ.cond (t := x22.1) rfl (fun hb26 => ?_) (fun hb26 => ?_)
    · replace hm := ifT hm hb26
      obtain ⟨e27, h28, hm⟩ := bindS hm
      obtain ⟨r30, h31, hm⟩ := bindS hm
      obtain ⟨s32, h33, hm⟩ := bindS hm
      obtain ⟨e34, h35, hm⟩ := bindS hm
      refine WJ.draws (N := 11) (listed0 := #[false, false, false, false, false, false, false, false, false, false, false]) [box g7 45 [.int .i64 r4.1.left, .int .i64 r4.1.right, .int .i64 r4.1.bell], row v6 76 fStruck r4.2] follows rfl rfl ?_
      refine RJ.first 0 (listed' := #[true, false, false, false, false, false, false, false, false, false, false]) [2, 3] rfl (by kernel_rfl) rfl ⟨by decide, rfl⟩ (y_move rfl) rfl ?_
      refine RJ.first 4 (listed' := #[true, false, false, false, true, false, false, false, false, false, false]) [2, 3] rfl (by kernel_rfl) rfl ⟨by decide, rfl⟩ (y_move rfl) rfl ?_
      refine RJ.hold (X := Value) 4 #[true, true, true, true, true, true, true, false, false, false, false] (fun (x : Value) => [(5, v6), (6, pt g10 0), (7, v14), (25, v14), (28, str e27.letter), (31, str r30.1)]) (fun (x : Value) => [box g10 157 [v2, .int .i64 r30.2.at_, .int .u64 r30.2.seed], row x 9 fStr [[], [120]], row v14 76 fStruck l12, box g7 45 [.int .i64 r4.1.left, .int .i64 r4.1.right, .int .i64 r4.1.bell], row v6 76 fStruck r4.2]) ?_ ?_
      · rintro v29
        refine RJ.first 7 (listed' := #[true, true, true, true, true, true, true, true, false, false, false]) [3, 4] rfl (by kernel_rfl) rfl ⟨by decide, rfl⟩ (y_cat h33 rfl rfl) rfl ?_
        refine RJ.step1 8 [3, 4] (by kernel_rfl) ⟨by decide, rfl⟩ ?_
        refine RO.of (listed' := #[true, true, true, true, true, true, true, true, true, false, false]) rfl rfl ?_
        refine SJ.q (YldS.yld (y_ixRow (k := 2) (R := fStruck) rfl Try.runUnderlying53 Try.sizeOf76 rfl rfl h35)) rfl ?_
        refine SJ.nil ?_
        refine PJ.draw ?_
        refine RJ.first 9 (listed' := #[true, true, true, true, true, true, true, true, true, true, false]) [3, 4] rfl (by kernel_rfl) rfl ⟨by decide, rfl⟩ (y_fldR fld76_1 rfl) rfl ?_
        refine RJ.step1 10 [3, 4] (by kernel_rfl) ⟨by decide, rfl⟩ ?_
        refine RO.of (listed' := #[true, true, true, true, true, true, true, true, true, true, true]) rfl rfl ?_
        refine SJ.storeRL (k := 2) (i := (Int.toNat 0)) (off := 1) (us := [str s32]) (b := (Struck.mk e34.place s32)) rfl rfl (idx_get h35) rfl rfl Try.sizeOf9 rfl rfl rfl ?_
        refine SJ.nil ?_
        refine PJ.draw ?_
        refine RJ.fin [3, 4] (by kernel_rfl) ⟨by decide, rfl⟩ ?_
        exact PJ.joined (r30.2.at_, r30.2.seed, (List.set l12 (Int.toNat 0) (Struck.mk e34.place s32))) [0, 2, 4] hm ⟨rfl, rfl, rfl, trivial⟩ ⟨by decide, rfl⟩
      · intro hD36
        refine RJ.step2 1 5 [2, 3] (by kernel_rfl) ⟨by decide, rfl⟩ ?_ ?_
        · refine RO.of (listed' := #[true, true, false, false, true, false, false, false, false, false, false]) rfl rfl ?_
          refine SJ.q (YldS.yld (y_ixRow (k := 0) (R := fStruck) rfl Try.runUnderlying53 Try.sizeOf76 rfl rfl h28)) rfl ?_
          refine SJ.nil ?_
          refine PJ.draw ?_
          refine RJ.first 2 (listed' := #[true, true, true, false, true, false, false, false, false, false, false]) [2, 3] rfl (by kernel_rfl) rfl ⟨by decide, rfl⟩ (y_fldR fld76_1 rfl) rfl ?_
          refine RJ.step2 3 5 [2, 3] (by kernel_rfl) ⟨by decide, rfl⟩ ?_ ?_
          · refine RO.of (listed' := #[true, true, true, true, true, false, false, false, false, false, false]) rfl rfl ?_
            refine SJ.q (YldS.yld (y_loadR (k := 0) (i := (Int.toNat 0)) (off := 1) (u := str e27.letter) rfl Try.isAgg9 rfl (idx_get h28) rfl)) rfl ?_
            refine SJ.nil ?_
            refine PJ.draw ?_
            refine RJ.step1 5 [2, 3] (by kernel_rfl) ⟨by decide, rfl⟩ ?_
            refine RO.of (listed' := #[true, true, true, true, true, true, false, false, false, false, false]) rfl rfl ?_
            refine SJ.buildSlice (R := fStr) (os := [.const (str []), .const (str [120])]) [[], [120]] Try.runUnderlying78 Try.sizeOf9 Try.zeroValue9 rfl rfl rfl rfl rfl rfl fun v29 => ?_
            refine SJ.nil ?_
            refine PJ.draw ?_
            refine RJ.step1 6 [3, 4] (by kernel_rfl) ⟨by decide, rfl⟩ ?_
            refine RO.of (listed' := #[true, true, true, true, true, true, true, false, false, false, false]) rfl rfl ?_
            refine SJ.call2 (k := 2) rfl Try.call75 rfl (fun w S hw hA hO hB => ok_s_l00Src_text h31 w S _ (hr3.st1 hw hO) _ (hB.row_rd (j := 0) (k := 2) rfl rfl) hA) rfl ?_
            rintro _ _ ⟨rfl, rfl⟩
            refine SJ.nil ?_
            refine PJ.draw ?_
            exact RJ.weak (hD36 v29) [0, 1, 2, 3, 4] ⟨rfl, rfl, rfl, rfl, rfl, rfl, trivial⟩ ⟨by decide, rfl⟩
          · refine RO.of (listed' := #[true, true, true, false, true, true, false, false, false, false, false]) rfl rfl ?_
            refine SJ.buildSlice (R := fStr) (os := [.const (str []), .const (str [120])]) [[], [120]] Try.runUnderlying78 Try.sizeOf9 Try.zeroValue9 rfl rfl rfl rfl rfl rfl fun v29 => ?_
            refine SJ.nil ?_
            refine PJ.draw ?_
            refine RJ.step2 3 6 [3, 4] (by kernel_rfl) ⟨by decide, rfl⟩ ?_ ?_
            · refine RO.of (listed' := #[true, true, true, true, true, true, false, false, false, false, false]) rfl rfl ?_
              refine SJ.q (YldS.yld (y_loadR (k := 1) (i := (Int.toNat 0)) (off := 1) (u := str e27.letter) rfl Try.isAgg9 rfl (idx_get h28) rfl)) rfl ?_
              refine SJ.nil ?_
              refine PJ.draw ?_
              refine RJ.step1 6 [3, 4] (by kernel_rfl) ⟨by decide, rfl⟩ ?_
              refine RO.of (listed' := #[true, true, true, true, true, true, true, false, false, false, false]) rfl rfl ?_
              refine SJ.call2 (k := 2) rfl Try.call75 rfl (fun w S hw hA hO hB => ok_s_l00Src_text h31 w S _ (hr3.st1 hw hO) _ (hB.row_rd (j := 0) (k := 2) rfl rfl) hA) rfl ?_
              rintro _ _ ⟨rfl, rfl⟩
              refine SJ.nil ?_
              refine PJ.draw ?_
              exact RJ.weak (hD36 v29) [0, 1, 2, 3, 4] ⟨rfl, rfl, rfl, rfl, rfl, rfl, trivial⟩ ⟨by decide, rfl⟩
            · refine RO.of (listed' := #[true, true, true, false, true, true, true, false, false, false, false]) rfl rfl ?_
              refine SJ.call2 (k := 2) rfl Try.call75 rfl (fun w S hw hA hO hB => ok_s_l00Src_text h31 w S _ (hr3.st1 hw hO) _ (hB.row_rd (j := 0) (k := 2) rfl rfl) hA) rfl ?_
              rintro _ _ ⟨rfl, rfl⟩
              refine SJ.nil ?_
              refine PJ.draw ?_
              refine RJ.step1 3 [3, 4] (by kernel_rfl) ⟨by decide, rfl⟩ ?_
              refine RO.of (listed' := #[true, true, true, true, true, true, true, false, false, false, false]) rfl rfl ?_
              refine SJ.q (YldS.yld (y_loadR (k := 2) (i := (Int.toNat 0)) (off := 1) (u := str e27.letter) rfl Try.isAgg9 rfl (idx_get h28) rfl)) rfl ?_
              refine SJ.nil ?_
              refine PJ.draw ?_
              exact RJ.weak (hD36 v29) [0, 1, 2, 3, 4] ⟨rfl, rfl, rfl, rfl, rfl, rfl, trivial⟩ ⟨by decide, rfl⟩
        · refine RO.of (listed' := #[true, false, false, false, true, true, false, false, false, false, false]) rfl rfl ?_
          refine SJ.buildSlice (R := fStr) (os := [.const (str []), .const (str [120])]) [[], [120]] Try.runUnderlying78 Try.sizeOf9 Try.zeroValue9 rfl rfl rfl rfl rfl rfl fun v29 => ?_
          refine SJ.nil ?_
          refine PJ.draw ?_
          refine RJ.step2 1 6 [3, 4] (by kernel_rfl) ⟨by decide, rfl⟩ ?_ ?_
          · refine RO.of (listed' := #[true, true, false, false, true, true, false, false, false, false, false]) rfl rfl ?_
            refine SJ.q (YldS.yld (y_ixRow (k := 1) (R := fStruck) rfl Try.runUnderlying53 Try.sizeOf76 rfl rfl h28)) rfl ?_
            refine SJ.nil ?_
            refine PJ.draw ?_
            refine RJ.first 2 (listed' := #[true, true, true, false, true, true, false, false, false, false, false]) [3, 4] rfl (by kernel_rfl) rfl ⟨by decide, rfl⟩ (y_fldR fld76_1 rfl) rfl ?_
            refine RJ.step2 3 6 [3, 4] (by kernel_rfl) ⟨by decide, rfl⟩ ?_ ?_
            · refine RO.of (listed' := #[true, true, true, true, true, true, false, false, false, false, false]) rfl rfl ?_
              refine SJ.q (YldS.yld (y_loadR (k := 1) (i := (Int.toNat 0)) (off := 1) (u := str e27.letter) rfl Try.isAgg9 rfl (idx_get h28) rfl)) rfl ?_
              refine SJ.nil ?_
              refine PJ.draw ?_
              refine RJ.step1 6 [3, 4] (by kernel_rfl) ⟨by decide, rfl⟩ ?_
              refine RO.of (listed' := #[true, true, true, true, true, true, true, false, false, false, false]) rfl rfl ?_
              refine SJ.call2 (k := 2) rfl Try.call75 rfl (fun w S hw hA hO hB => ok_s_l00Src_text h31 w S _ (hr3.st1 hw hO) _ (hB.row_rd (j := 0) (k := 2) rfl rfl) hA) rfl ?_
              rintro _ _ ⟨rfl, rfl⟩
              refine SJ.nil ?_
              refine PJ.draw ?_
              exact RJ.weak (hD36 v29) [0, 1, 2, 3, 4] ⟨rfl, rfl, rfl, rfl, rfl, rfl, trivial⟩ ⟨by decide, rfl⟩
            · refine RO.of (listed' := #[true, true, true, false, true, true, true, false, false, false, false]) rfl rfl ?_
              refine SJ.call2 (k := 2) rfl Try.call75 rfl (fun w S hw hA hO hB => ok_s_l00Src_text h31 w S _ (hr3.st1 hw hO) _ (hB.row_rd (j := 0) (k := 2) rfl rfl) hA) rfl ?_
              rintro _ _ ⟨rfl, rfl⟩
              refine SJ.nil ?_
              refine PJ.draw ?_
              refine RJ.step1 3 [3, 4] (by kernel_rfl) ⟨by decide, rfl⟩ ?_
              refine RO.of (listed' := #[true, true, true, true, true, true, true, false, false, false, false]) rfl rfl ?_
              refine SJ.q (YldS.yld (y_loadR (k := 2) (i := (Int.toNat 0)) (off := 1) (u := str e27.letter) rfl Try.isAgg9 rfl (idx_get h28) rfl)) rfl ?_
              refine SJ.nil ?_
              refine PJ.draw ?_
              exact RJ.weak (hD36 v29) [0, 1, 2, 3, 4] ⟨rfl, rfl, rfl, rfl, rfl, rfl, trivial⟩ ⟨by decide, rfl⟩
          · refine RO.of (listed' := #[true, false, false, false, true, true, true, false, false, false, false]) rfl rfl ?_
            refine SJ.call2 (k := 2) rfl Try.call75 rfl (fun w S hw hA hO hB => ok_s_l00Src_text h31 w S _ (hr3.st1 hw hO) _ (hB.row_rd (j := 0) (k := 2) rfl rfl) hA) rfl ?_
            rintro _ _ ⟨rfl, rfl⟩
            refine SJ.nil ?_
            refine PJ.draw ?_
            refine RJ.step1 1 [3, 4] (by kernel_rfl) ⟨by decide, rfl⟩ ?_
            refine RO.of (listed' := #[true, true, false, false, true, true, true, false, false, false, false]) rfl rfl ?_
            refine SJ.q (YldS.yld (y_ixRow (k := 2) (R := fStruck) rfl Try.runUnderlying53 Try.sizeOf76 rfl rfl h28)) rfl ?_
            refine SJ.nil ?_
            refine PJ.draw ?_
            refine RJ.first 2 (listed' := #[true, true, true, false, true, true, true, false, false, false, false]) [3, 4] rfl (by kernel_rfl) rfl ⟨by decide, rfl⟩ (y_fldR fld76_1 rfl) rfl ?_
            refine RJ.step1 3 [3, 4] (by kernel_rfl) ⟨by decide, rfl⟩ ?_
            refine RO.of (listed' := #[true, true, true, true, true, true, true, false, false, false, false]) rfl rfl ?_
            refine SJ.q (YldS.yld (y_loadR (k := 2) (i := (Int.toNat 0)) (off := 1) (u := str e27.letter) rfl Try.isAgg9 rfl (idx_get h28) rfl)) rfl ?_
            refine SJ.nil ?_
            refine PJ.draw ?_
            exact RJ.weak (hD36 v29) [0, 1, 2, 3, 4] ⟨rfl, rfl, rfl, rfl, rfl, rfl, trivial⟩ ⟨by decide, rfl⟩
    · replace hm := ifF hm hb26
      refine WJ.skip ?_
      exact PJ.joined (x22.2.at_, x22.2.seed, l12) [1, 0, 3] hm ⟨rfl, rfl, rfl, trivial⟩ ⟨by decide, rfl⟩
  · rintro ⟨x15, x16, l17⟩ hm
    subst hk19
    obtain ⟨kj39, hk40, hm⟩ := withK_open hm
    refine WJ.join (X := (List Struck) × Value) (fun (x : (List Struck) × Value) => kj39 x.1 = some r) (fun (x : (List Struck) × Value) => [(5, v6), (7, x.2)]) (fun (x : (List Struck) × Value) => [row x.2 76 fStruck x.1, row v6 76 fStruck r4.2]) ?_ ?_
    · clear hk40
      refine WJ.seq ?_
      refine WJ.reg ?_
      refine SJ.q (YldS.yld (y_move rfl)) rfl ?_
      obtain ⟨r41, h42, hm⟩ := bindS hm
      refine SJ.call1 (k := 0) rfl Try.call84 rfl (fun w S hw hA hO => ok_s_l00Src_one h42 w S _ (hr3.st1 hw hO) hA) rfl ?_
      rintro _ _ ⟨rfl, rfl⟩
      refine SJ.nil ?_
      refine PJ.next ?_
      refine WJ.cond (t := r41.1) rfl (fun hb43 => ?_) (fun hb43 => ?_)
      · replace hm := ifT hm hb43
        refine WJ.reg ?_
        refine SJ.q (YldS.yld (y_move rfl)) rfl ?_
        refine SJ.q (YldS.yld (y_build (parts := []) (places := [(0, 1), (1, 1)]) (r := [.int .i64 ((Struck.mk 0 []).place), str ((Struck.mk 0 []).letter)]) pl76 Try.zeroValue76 rfl rfl rfl rfl)) rfl ?_
        refine SJ.buildSlice (R := fStruck) (os := [.tmp 38]) [(Struck.mk 0 [])] Try.runUnderlying53 Try.sizeOf76 Try.zeroValue76 rfl rfl rfl rfl rfl rfl fun v44 => ?_
        obtain ⟨l45, h46, hm⟩ := bindS hm
        refine SJ.append (k := 2) (R := fStruck) h46 rfl Try.underlying53 el76 rfl rfl rfl (fun w hw => (hw.row_rd (k := 0) rfl)) rfl fun v47 => ?_
        refine SJ.q (YldS.yld (y_assign rfl)) rfl ?_
        refine SJ.nil ?_
        exact PJ.joined (l45, v47) [2, 3] hm ⟨rfl, rfl, trivial⟩ ⟨by decide, rfl⟩
      · replace hm := ifF hm hb43
        refine WJ.skip ?_
        exact PJ.joined (l17, v14) [1, 2] hm ⟨rfl, rfl, trivial⟩ ⟨by decide, rfl⟩
    · rintro ⟨l37, v38⟩ hm
      subst hk40
      refine WJ.seq ?_
      refine WJ.quiet ?_
      refine QJ.step (YldS.yld (y_move rfl)) rfl ?_
      refine QJ.step (YldS.yld (y_move rfl)) rfl ?_
      refine QJ.step (YldS.yld (y_assign rfl)) rfl ?_
      refine QJ.step (YldS.yld (y_assign rfl)) rfl ?_
      refine QJ.done ?_
      refine PJ.next ?_
      refine WJ.ret ?_
      obtain rfl := Option.some.inj hm
      refine PJ.sel (L' := [row v6 76 fStruck r4.2, row v38 76 fStruck l37]) [1, 0] ⟨by decide, rfl⟩ ?_
      exact PJ.retn (vs := [v6, v38]) Try.results45 ⟨rfl, rfl, trivial⟩ ⟨_, _, rfl, rfl⟩

set_option maxRecDepth 100000 in
set_option maxHeartbeats 1000000 in
theorem ok_w_f6ints {N : Nat} {a1 : List Int} {b4 : List Int} {r : Bool} (hm : w_f6ints N a1 b4 = some r) (w : World) (v2 : Value) (hr3 : RdS w (cx w).Fz v2 fI64.rp a1) (v5 : Value) (hr6 : RdS w (cx w).Fz v5 fI64.rp b4) :
    Calls Try.prog 46 #[v2, v5] w (Ret (cx w) (.bool r)) := by
  unfold w_f6ints at hm
  refine Calls.enter [v2, v5] Try.func46 rfl Try.ntmps46 rfl ?_
  refine WJ.seq ?_
  refine WJ.quiet ?_
  refine QJ.step (YldS.yld (y_assign rfl)) rfl ?_
  refine QJ.done ?_
  refine PJ.next ?_
  refine WJ.seq ?_
  refine WJ.seq ?_
  refine WJ.quiet ?_
  refine QJ.step (YldS.yld (y_move rfl)) rfl ?_
  refine QJ.step (YldS.yld (y_lenS Try.runUnderlying69 hr3 rfl)) rfl ?_
  refine QJ.step (YldS.yld (y_move rfl)) rfl ?_
  refine QJ.step (YldS.yld (y_lenS Try.runUnderlying69 hr6 rfl)) rfl ?_
  refine QJ.step (YldS.yld (y_bin rfl rfl rfl)) rfl ?_
  refine QJ.done ?_
  refine PJ.next ?_
  refine WJ.cond (t := ((List.length a1 : Int) != (List.length b4 : Int))) rfl (fun hb7 => ?_) (fun hb7 => ?_)
  · replace hm := ifT hm hb7
    refine WJ.seq ?_
    refine WJ.quiet ?_
    refine QJ.step (YldS.yld (y_assign rfl)) rfl ?_
    refine QJ.done ?_
    refine PJ.next ?_
    refine WJ.ret ?_
    refine PJ.then_ret ?_
    obtain rfl := Option.some.inj hm
    refine PJ.sel (L' := []) [] ⟨List.nodup_nil, rfl⟩ ?_
    exact PJ.retn (vs := [.bool false]) Try.results46 ⟨rfl, trivial⟩ ⟨rfl, rfl⟩
  · replace hm := ifF hm hb7
    refine WJ.skip ?_
    refine PJ.next ?_
    obtain ⟨kj8, hk9, hm⟩ := withK_open hm
    refine WJ.join (X := Unit) (fun (_ : Unit) => kj8  = some r) (fun (_ : Unit) => []) (fun (_ : Unit) => []) ?_ ?_
    · clear hk9
      refine WJ.seq ?_
      refine WJ.quiet ?_
      refine QJ.step (YldS.yld (y_assign rfl)) rfl ?_
      refine QJ.done ?_
      refine PJ.next ?_
      refine WJ.block ?_
      refine WJ.sel (L' := (fun (x : Int) => []) 0) [] ⟨List.nodup_nil, rfl⟩ ?_
      refine WJ.sub (m' := (fun (x : Int) => [(0, v2), (1, v5), (5, .int .i64 x)]) 0) ⟨rfl, rfl, rfl, trivial⟩ ?_
      refine WJ.loop (X := Int) (fun N (x : Int) => w_f6ints_l1 kj8 a1 b4 N x = some r) (fun (x : Int) => [(0, v2), (1, v5), (5, .int .i64 x)]) (fun (x : Int) => []) ?_ N 0 hm
      · rintro N i10 hI
        have hm := hI; clear hI
        cases N with
        | zero => cases hm
        | succ N =>
        unfold w_f6ints_l1 at hm
        refine WJ.seq ?_
        refine WJ.seq ?_
        refine WJ.quiet ?_
        refine QJ.step (YldS.yld (y_move rfl)) rfl ?_
        refine QJ.step (YldS.yld (y_move rfl)) rfl ?_
        refine QJ.step (YldS.yld (y_lenS Try.runUnderlying69 hr3 rfl)) rfl ?_
        refine QJ.step (YldS.yld (y_bin rfl rfl rfl)) rfl ?_
        refine QJ.done ?_
        refine PJ.next ?_
        refine WJ.cond (t := decide (i10 < (List.length a1 : Int))) rfl (fun hb11 => ?_) (fun hb11 => ?_)
        · replace hm := ifT hm hb11
          refine WJ.skip ?_
          refine PJ.next ?_
          refine WJ.seq ?_
          refine WJ.block ?_
          refine WJ.seq ?_
          refine WJ.quiet_draw follows (by kernel_rfl) ?_
          refine QJ.step (YldS.yld (y_move rfl)) rfl ?_
          refine QJ.step (YldS.yld (y_move rfl)) rfl ?_
          obtain ⟨e12, h13, hm⟩ := bindS hm
          obtain ⟨ad14, _, rfl, ha15, hy16⟩ := hr3.elem h13
          refine QJ.step (YldS.yld (hy16 Try.runUnderlying69 Try.sizeOf2 rfl rfl)) rfl ?_
          refine QJ.step (YldS.yld (y_load1 (v := .int .i64 e12) Try.isAgg2 ha15 St.frozenC rfl)) rfl ?_
          refine QJ.step (YldS.yld (y_move rfl)) rfl ?_
          refine QJ.step (YldS.yld (y_move rfl)) rfl ?_
          obtain ⟨e17, h18, hm⟩ := bindS hm
          obtain ⟨ad19, _, rfl, ha20, hy21⟩ := hr6.elem h18
          refine QJ.step (YldS.yld (hy21 Try.runUnderlying69 Try.sizeOf2 rfl rfl)) rfl ?_
          refine QJ.step (YldS.yld (y_load1 (v := .int .i64 e17) Try.isAgg2 ha20 St.frozenC rfl)) rfl ?_
          refine QJ.step (YldS.yld (y_bin rfl rfl rfl)) rfl ?_
          refine QJ.done ?_
          refine PJ.next ?_
          refine WJ.cond (t := (e12 != e17)) rfl (fun hb22 => ?_) (fun hb22 => ?_)
          · replace hm := ifT hm hb22
            refine WJ.seq ?_
            refine WJ.quiet ?_
            refine QJ.step (YldS.yld (y_assign rfl)) rfl ?_
            refine QJ.done ?_
            refine PJ.next ?_
            refine WJ.ret ?_
            refine PJ.block_ret (PJ.then_ret (PJ.then_ret (PJ.block_ret (PJ.then_ret ?_))))
            obtain rfl := Option.some.inj hm
            refine PJ.sel (L' := []) [] ⟨List.nodup_nil, rfl⟩ ?_
            exact PJ.retn (vs := [.bool false]) Try.results46 ⟨rfl, trivial⟩ ⟨rfl, rfl⟩
          · replace hm := ifF hm hb22
            refine WJ.skip ?_
            refine PJ.block_normal (PJ.next ?_)
            refine WJ.quiet ?_
            refine QJ.step (YldS.yld (y_move rfl)) rfl ?_
            refine QJ.step (YldS.yld (y_bin rfl rfl rfl)) rfl ?_
            refine QJ.step (YldS.yld (y_assign rfl)) rfl ?_
            refine QJ.done ?_
            exact PJ.round (w64 (i10 + 1)) [] hm ⟨rfl, rfl, rfl, trivial⟩ ⟨List.nodup_nil, rfl⟩
        · replace hm := ifF hm hb11
          refine WJ.exit ?_
          refine PJ.then_exit (PJ.then_exit (PJ.block_exit ?_))
          exact PJ.joined () [] hm trivial ⟨List.nodup_nil, rfl⟩
    · rintro _ hm
      subst hk9
      refine WJ.seq ?_
      refine WJ.quiet ?_
      refine QJ.step (YldS.yld (y_assign rfl)) rfl ?_
      refine QJ.done ?_
      refine PJ.next ?_
      refine WJ.ret ?_
      obtain rfl := Option.some.inj hm
      refine PJ.sel (L' := []) [] ⟨List.nodup_nil, rfl⟩ ?_
      exact PJ.retn (vs := [.bool true]) Try.results46 ⟨rfl, trivial⟩ ⟨rfl, rfl⟩

set_option maxRecDepth 100000 in
set_option maxHeartbeats 1000000 in
theorem ok_i_SameStruck {N : Nat} {a1 : List Struck} {b4 : List Struck} {r : Bool} (hm : i_SameStruck N a1 b4 = some r) (w : World) (v2 : Value) (hr3 : RdS w (cx w).Fz v2 fStruck.rp a1) (v5 : Value) (hr6 : RdS w (cx w).Fz v5 fStruck.rp b4) :
    Calls Try.prog 47 #[v2, v5] w (Ret (cx w) (.bool r)) := by
  unfold i_SameStruck at hm
  refine Calls.enter [v2, v5] Try.func47 rfl Try.ntmps47 rfl ?_
  refine WJ.seq ?_
  refine WJ.quiet ?_
  refine QJ.step (YldS.yld (y_assign rfl)) rfl ?_
  refine QJ.done ?_
  refine PJ.next ?_
  refine WJ.seq ?_
  refine WJ.seq ?_
  refine WJ.quiet ?_
  refine QJ.step (YldS.yld (y_move rfl)) rfl ?_
  refine QJ.step (YldS.yld (y_lenS Try.runUnderlying53 hr3 rfl)) rfl ?_
  refine QJ.step (YldS.yld (y_move rfl)) rfl ?_
  refine QJ.step (YldS.yld (y_lenS Try.runUnderlying53 hr6 rfl)) rfl ?_
  refine QJ.step (YldS.yld (y_bin rfl rfl rfl)) rfl ?_
  refine QJ.done ?_
  refine PJ.next ?_
  refine WJ.cond (t := ((List.length a1 : Int) != (List.length b4 : Int))) rfl (fun hb7 => ?_) (fun hb7 => ?_)
  · replace hm := ifT hm hb7
    refine WJ.seq ?_
    refine WJ.quiet ?_
    refine QJ.step (YldS.yld (y_assign rfl)) rfl ?_
    refine QJ.done ?_
    refine PJ.next ?_
    refine WJ.ret ?_
    refine PJ.then_ret ?_
    obtain rfl := Option.some.inj hm
    refine PJ.sel (L' := []) [] ⟨List.nodup_nil, rfl⟩ ?_
    exact PJ.retn (vs := [.bool false]) Try.results47 ⟨rfl, trivial⟩ ⟨rfl, rfl⟩
  · replace hm := ifF hm hb7
    refine WJ.skip ?_
    refine PJ.next ?_
    obtain ⟨kj8, hk9, hm⟩ := withK_open hm
    refine WJ.join (X := Unit) (fun (_ : Unit) => kj8  = some r) (fun (_ : Unit) => []) (fun (_ : Unit) => []) ?_ ?_
    · clear hk9
      refine WJ.seq ?_
      refine WJ.quiet ?_
      refine QJ.step (YldS.yld (y_move rfl)) rfl ?_
      refine QJ.step (YldS.yld (y_lenS Try.runUnderlying53 hr3 rfl)) rfl ?_
      refine QJ.step (YldS.yld (y_move rfl)) rfl ?_
      refine QJ.done ?_
      refine PJ.next ?_
      refine WJ.block ?_
      refine WJ.sel (L' := (fun (x : Int) => []) 0) [] ⟨List.nodup_nil, rfl⟩ ?_
      refine WJ.sub (m' := (fun (x : Int) => [(0, v2), (1, v5), (12, .int .i64 (List.length a1 : Int)), (13, .int .i64 x)]) 0) ⟨rfl, rfl, rfl, rfl, trivial⟩ ?_
      refine WJ.loop (X := Int) (fun N (x : Int) => i_SameStruck_l1 kj8 a1 b4 N x = some r) (fun (x : Int) => [(0, v2), (1, v5), (12, .int .i64 (List.length a1 : Int)), (13, .int .i64 x)]) (fun (x : Int) => []) ?_ N 0 hm
      · rintro N x10 hI
        have hm := hI; clear hI
        cases N with
        | zero => cases hm
        | succ N =>
        unfold i_SameStruck_l1 at hm
        refine WJ.seq ?_
        refine WJ.quiet ?_
        refine QJ.step (YldS.yld (y_bin rfl rfl rfl)) rfl ?_
        refine QJ.done ?_
        refine PJ.next ?_
        refine WJ.seq ?_
        refine WJ.cond (t := decide (x10 < (List.length a1 : Int))) rfl (fun hb11 => ?_) (fun hb11 => ?_)
        · replace hm := ifT hm hb11
          refine WJ.skip ?_
          refine PJ.next ?_
          refine WJ.seq ?_
          refine WJ.block ?_
          refine WJ.seq ?_
          refine WJ.quiet ?_
          refine QJ.step (YldS.yld (y_move rfl)) rfl ?_
          refine QJ.step (YldS.yld (y_assign rfl)) rfl ?_
          refine QJ.done ?_
          refine PJ.next ?_
          refine WJ.seq ?_
          refine WJ.quiet_draw follows (by kernel_rfl) ?_
          refine QJ.step (YldS.yld (y_move rfl)) rfl ?_
          refine QJ.step (YldS.yld (y_move rfl)) rfl ?_
          obtain ⟨e12, h13, hm⟩ := bindS hm
          obtain ⟨ad14, _, rfl, ha15, hy16⟩ := hr3.elem h13
          refine QJ.step (YldS.yld (hy16 Try.runUnderlying53 Try.sizeOf76 rfl rfl)) rfl ?_
          refine QJ.step (YldS.yld (y_loadN Try.isAgg76 Try.sizeOf76 rfl ha15 St.frozenC rfl)) rfl ?_
          refine QJ.step (YldS.yld (y_move rfl)) rfl ?_
          refine QJ.step (YldS.yld (y_move rfl)) rfl ?_
          obtain ⟨e17, h18, hm⟩ := bindS hm
          obtain ⟨ad19, _, rfl, ha20, hy21⟩ := hr6.elem h18
          refine QJ.step (YldS.yld (hy21 Try.runUnderlying53 Try.sizeOf76 rfl rfl)) rfl ?_
          refine QJ.step (YldS.yld (y_loadN Try.isAgg76 Try.sizeOf76 rfl ha20 St.frozenC rfl)) rfl ?_
          refine QJ.step (YldS.yld (y_neT e12 e17 eq76 rfl rfl)) rfl ?_
          refine QJ.done ?_
          refine PJ.next ?_
          refine WJ.cond (t := !(Struck.beq e12 e17)) rfl (fun hb22 => ?_) (fun hb22 => ?_)
          · replace hm := ifT hm hb22
            refine WJ.seq ?_
            refine WJ.quiet ?_
            refine QJ.step (YldS.yld (y_assign rfl)) rfl ?_
            refine QJ.done ?_
            refine PJ.next ?_
            refine WJ.ret ?_
            refine PJ.block_ret (PJ.then_ret (PJ.then_ret (PJ.block_ret (PJ.then_ret ?_))))
            obtain rfl := Option.some.inj hm
            refine PJ.sel (L' := []) [] ⟨List.nodup_nil, rfl⟩ ?_
            exact PJ.retn (vs := [.bool false]) Try.results47 ⟨rfl, trivial⟩ ⟨rfl, rfl⟩
          · replace hm := ifF hm hb22
            refine WJ.skip ?_
            refine PJ.block_normal (PJ.next ?_)
            refine WJ.quiet ?_
            refine QJ.step (YldS.yld (y_bin rfl rfl rfl)) rfl ?_
            refine QJ.step (YldS.yld (y_move rfl)) rfl ?_
            refine QJ.done ?_
            exact PJ.round (w64 (x10 + 1)) [] hm ⟨rfl, rfl, rfl, rfl, trivial⟩ ⟨List.nodup_nil, rfl⟩
        · replace hm := ifF hm hb11
          refine WJ.exit ?_
          refine PJ.then_exit (PJ.then_exit (PJ.block_exit ?_))
          exact PJ.joined () [] hm trivial ⟨List.nodup_nil, rfl⟩
    · rintro _ hm
      subst hk9
      refine WJ.seq ?_
      refine WJ.quiet ?_
      refine QJ.step (YldS.yld (y_assign rfl)) rfl ?_
      refine QJ.done ?_
      refine PJ.next ?_
      refine WJ.ret ?_
      obtain rfl := Option.some.inj hm
      refine PJ.sel (L' := []) [] ⟨List.nodup_nil, rfl⟩ ?_
      exact PJ.retn (vs := [.bool true]) Try.results47 ⟨rfl, trivial⟩ ⟨rfl, rfl⟩

set_option maxRecDepth 100000 in
set_option maxHeartbeats 1000000 in
theorem ok_s_SameStruck {N : Nat} {a1 : List Struck} {b4 : List Struck} {r : Bool} (hm : s_SameStruck N a1 b4 = some r) (w : World) (v2 : Value) (hr3 : RdS w (cx w).Fz v2 fStruck.rp a1) (v5 : Value) (hr6 : RdS w (cx w).Fz v5 fStruck.rp b4) :
    Calls Try.prog 30 #[v2, v5] w (Ret (cx w) (.bool r)) := by
  unfold s_SameStruck at hm
  refine Calls.enter [v2, v5] Try.func30 rfl Try.ntmps30 rfl ?_
  refine WJ.seq ?_
  refine WJ.quiet ?_
  refine QJ.step (YldS.yld (y_assign rfl)) rfl ?_
  refine QJ.done ?_
  refine PJ.next ?_
  refine WJ.seq ?_
  refine WJ.seq ?_
  refine WJ.quiet ?_
  refine QJ.step (YldS.yld (y_move rfl)) rfl ?_
  refine QJ.step (YldS.yld (y_lenS Try.runUnderlying53 hr3 rfl)) rfl ?_
  refine QJ.step (YldS.yld (y_move rfl)) rfl ?_
  refine QJ.step (YldS.yld (y_lenS Try.runUnderlying53 hr6 rfl)) rfl ?_
  refine QJ.step (YldS.yld (y_bin rfl rfl rfl)) rfl ?_
  refine QJ.done ?_
  refine PJ.next ?_
  refine WJ.cond (t := ((List.length a1 : Int) != (List.length b4 : Int))) rfl (fun hb7 => ?_) (fun hb7 => ?_)
  · replace hm := ifT hm hb7
    refine WJ.seq ?_
    refine WJ.quiet ?_
    refine QJ.step (YldS.yld (y_assign rfl)) rfl ?_
    refine QJ.done ?_
    refine PJ.next ?_
    refine WJ.ret ?_
    refine PJ.then_ret ?_
    obtain rfl := Option.some.inj hm
    refine PJ.sel (L' := []) [] ⟨List.nodup_nil, rfl⟩ ?_
    exact PJ.retn (vs := [.bool false]) Try.results30 ⟨rfl, trivial⟩ ⟨rfl, rfl⟩
  · replace hm := ifF hm hb7
    refine WJ.skip ?_
    refine PJ.next ?_
    obtain ⟨kj8, hk9, hm⟩ := withK_open hm
    refine WJ.join (X := Unit) (fun (_ : Unit) => kj8  = some r) (fun (_ : Unit) => []) (fun (_ : Unit) => []) ?_ ?_
    · clear hk9
      refine WJ.seq ?_
      refine WJ.quiet ?_
      refine QJ.step (YldS.yld (y_assign rfl)) rfl ?_
      refine QJ.done ?_
      refine PJ.next ?_
      refine WJ.block ?_
      refine WJ.sel (L' := (fun (x : Int) => []) 0) [] ⟨List.nodup_nil, rfl⟩ ?_
      refine WJ.sub (m' := (fun (x : Int) => [(0, v2), (1, v5), (5, .int .i64 x)]) 0) ⟨rfl, rfl, rfl, trivial⟩ ?_
      refine WJ.loop (X := Int) (fun N (x : Int) => s_SameStruck_l1 kj8 a1 b4 N x = some r) (fun (x : Int) => [(0, v2), (1, v5), (5, .int .i64 x)]) (fun (x : Int) => []) ?_ N 0 hm
      · rintro N i10 hI
        have hm := hI; clear hI
        cases N with
        | zero => cases hm
        | succ N =>
        unfold s_SameStruck_l1 at hm
        refine WJ.seq ?_
        refine WJ.seq ?_
        refine WJ.quiet ?_
        refine QJ.step (YldS.yld (y_move rfl)) rfl ?_
        refine QJ.step (YldS.yld (y_move rfl)) rfl ?_
        refine QJ.step (YldS.yld (y_lenS Try.runUnderlying53 hr3 rfl)) rfl ?_
        refine QJ.step (YldS.yld (y_bin rfl rfl rfl)) rfl ?_
        refine QJ.done ?_
        refine PJ.next ?_
        refine WJ.cond (t := decide (i10 < (List.length a1 : Int))) rfl (fun hb11 => ?_) (fun hb11 => ?_)
        · replace hm := ifT hm hb11
          refine WJ.skip ?_
          refine PJ.next ?_
          refine WJ.seq ?_
          refine WJ.block ?_
          refine WJ.seq ?_
          refine WJ.quiet_draw follows (by kernel_rfl) ?_
          refine QJ.step (YldS.yld (y_move rfl)) rfl ?_
          refine QJ.step (YldS.yld (y_move rfl)) rfl ?_
          obtain ⟨e12, h13, hm⟩ := bindS hm
          obtain ⟨ad14, _, rfl, ha15, hy16⟩ := hr3.elem h13
          refine QJ.step (YldS.yld (hy16 Try.runUnderlying53 Try.sizeOf76 rfl rfl)) rfl ?_
          refine QJ.step (YldS.yld (y_loadN Try.isAgg76 Try.sizeOf76 rfl ha15 St.frozenC rfl)) rfl ?_
          refine QJ.step (YldS.yld (y_move rfl)) rfl ?_
          refine QJ.step (YldS.yld (y_move rfl)) rfl ?_
          obtain ⟨e17, h18, hm⟩ := bindS hm
          obtain ⟨ad19, _, rfl, ha20, hy21⟩ := hr6.elem h18
          refine QJ.step (YldS.yld (hy21 Try.runUnderlying53 Try.sizeOf76 rfl rfl)) rfl ?_
          refine QJ.step (YldS.yld (y_loadN Try.isAgg76 Try.sizeOf76 rfl ha20 St.frozenC rfl)) rfl ?_
          refine QJ.step (YldS.yld (y_neT e12 e17 eq76 rfl rfl)) rfl ?_
          refine QJ.done ?_
          refine PJ.next ?_
          refine WJ.cond (t := !(Struck.beq e12 e17)) rfl (fun hb22 => ?_) (fun hb22 => ?_)
          · replace hm := ifT hm hb22
            refine WJ.seq ?_
            refine WJ.quiet ?_
            refine QJ.step (YldS.yld (y_assign rfl)) rfl ?_
            refine QJ.done ?_
            refine PJ.next ?_
            refine WJ.ret ?_
            refine PJ.block_ret (PJ.then_ret (PJ.then_ret (PJ.block_ret (PJ.then_ret ?_))))
            obtain rfl := Option.some.inj hm
            refine PJ.sel (L' := []) [] ⟨List.nodup_nil, rfl⟩ ?_
            exact PJ.retn (vs := [.bool false]) Try.results30 ⟨rfl, trivial⟩ ⟨rfl, rfl⟩
          · replace hm := ifF hm hb22
            refine WJ.skip ?_
            refine PJ.block_normal (PJ.next ?_)
            refine WJ.quiet ?_
            refine QJ.step (YldS.yld (y_move rfl)) rfl ?_
            refine QJ.step (YldS.yld (y_bin rfl rfl rfl)) rfl ?_
            refine QJ.step (YldS.yld (y_assign rfl)) rfl ?_
            refine QJ.done ?_
            exact PJ.round (w64 (i10 + 1)) [] hm ⟨rfl, rfl, rfl, trivial⟩ ⟨List.nodup_nil, rfl⟩
        · replace hm := ifF hm hb11
          refine WJ.exit ?_
          refine PJ.then_exit (PJ.then_exit (PJ.block_exit ?_))
          exact PJ.joined () [] hm trivial ⟨List.nodup_nil, rfl⟩
    · rintro _ hm
      subst hk9
      refine WJ.seq ?_
      refine WJ.quiet ?_
      refine QJ.step (YldS.yld (y_assign rfl)) rfl ?_
      refine QJ.done ?_
      refine PJ.next ?_
      refine WJ.ret ?_
      obtain rfl := Option.some.inj hm
      refine PJ.sel (L' := []) [] ⟨List.nodup_nil, rfl⟩ ?_
      exact PJ.retn (vs := [.bool true]) Try.results30 ⟨rfl, trivial⟩ ⟨rfl, rfl⟩

set_option maxRecDepth 100000 in
set_option maxHeartbeats 1000000 in
theorem ok_w_FnCarriageLines {N : Nat} {code1 : List UInt8} {r : Bool} (hm : w_FnCarriageLines N code1 = some r) (w : World) (v2 : Value) (hr3 : RdS w (cx w).Fz v2 fByte.rp code1) :
    Calls Try.prog 5 #[v2] w (Ret (cx w) (.bool r)) := by
  unfold w_FnCarriageLines at hm
  refine Calls.enter [v2] Try.func5 rfl Try.ntmps5 rfl ?_
  refine WJ.seq ?_
  refine WJ.quiet ?_
  refine QJ.step (YldS.yld (y_assign rfl)) rfl ?_
  refine QJ.done ?_
  refine PJ.next ?_
  refine WJ.seq ?_
  refine WJ.seq ?_
  refine WJ.quiet ?_
  refine QJ.step (YldS.yld (y_move rfl)) rfl ?_
  obtain ⟨r4, h5, hm⟩ := bindS hm
  refine QJ.step (y_call Try.call9 rfl (RetG.quiet fun w hw => ok_w_f6big h5 w _ (hr3.st hw))) rfl ?_
  refine QJ.done ?_
  refine PJ.next ?_
  refine WJ.cond (t := r4) rfl (fun hb6 => ?_) (fun hb6 => ?_)
  · replace hm := ifT hm hb6
    refine WJ.seq ?_
    refine WJ.quiet ?_
    refine QJ.step (YldS.yld (y_assign rfl)) rfl ?_
    refine QJ.done ?_
    refine PJ.next ?_
    refine WJ.ret ?_
    refine PJ.then_ret ?_
    obtain rfl := Option.some.inj hm
    refine PJ.sel (L' := []) [] ⟨List.nodup_nil, rfl⟩ ?_
    exact PJ.retn (vs := [.bool true]) Try.results5 ⟨rfl, trivial⟩ ⟨rfl, rfl⟩
  · replace hm := ifF hm hb6
    refine WJ.skip ?_
    refine PJ.next ?_
    refine WJ.seq ?_
    refine WJ.reg ?_
    refine SJ.q (YldS.yld (y_move rfl)) rfl ?_
    obtain ⟨r7, h8, hm⟩ := bindS hm
    refine SJ.call Try.call39 rfl (fun w hw => ok_s_DrawLineOf h8 w _ (hr3.st hw)) rfl ?_
    rintro _ _ ⟨v9, rfl, rfl⟩
    refine SJ.q (YldS.yld (y_move rfl)) rfl ?_
    refine SJ.q (YldS.yld (y_extract rfl rfl)) rfl ?_
    refine SJ.q (YldS.yld (y_extract rfl rfl)) rfl ?_
    refine SJ.alloc (cs := [.int .i64 0, .int .i64 0, .int .i64 0]) Try.zeroValue45 rfl rfl fun g10 => ?_
    refine SJ.storeL (k := 0) (off := 0) (us := [.int .i64 r7.1.left, .int .i64 r7.1.right, .int .i64 r7.1.bell]) rfl rfl rfl rfl Try.sizeOf45 rfl rfl ?_
    refine SJ.q (YldS.yld (y_assign rfl)) rfl ?_
    refine SJ.nil ?_
    refine PJ.next ?_
    refine WJ.seq ?_
    refine WJ.quiet ?_
    refine QJ.step (YldS.yld (y_loadBN (k := 0) (off := 0) (us := [.int .i64 r7.1.left, .int .i64 r7.1.right, .int .i64 r7.1.bell]) rfl Try.isAgg45 Try.sizeOf45 rfl rfl)) rfl ?_
    refine QJ.step (YldS.yld (y_move rfl)) rfl ?_
    obtain ⟨r11, h12, hm⟩ := bindS hm
    refine QJ.step (y_call Try.call37 rfl (RetG.quiet fun w hw => ok_i_LineOf h12 w _ (hw.row_rd (k := 1) rfl))) rfl ?_
    refine QJ.step (YldS.yld (y_move rfl)) rfl ?_
    refine QJ.step (YldS.yld (y_extract rfl rfl)) rfl ?_
    refine QJ.step (YldS.yld (y_extract rfl rfl)) rfl ?_
    refine QJ.step (YldS.yld (y_assign rfl)) rfl ?_
    refine QJ.step (YldS.yld (y_assign rfl)) rfl ?_
    refine QJ.done ?_
    refine PJ.next ?_
    refine WJ.seq ?_
    refine WJ.quiet ?_
    refine QJ.step (YldS.yld (y_loadBN (k := 0) (off := 0) (us := [.int .i64 r7.1.left, .int .i64 r7.1.right, .int .i64 r7.1.bell]) rfl Try.isAgg45 Try.sizeOf45 rfl rfl)) rfl ?_
    refine QJ.step (YldS.yld (y_move rfl)) rfl ?_
    obtain ⟨r13, h14, hm⟩ := bindS hm
    refine QJ.step (y_call Try.call40 rfl (RetG.quiet fun w hw => ok_s_LineOf h14 w _ (hw.row_rd (k := 1) rfl))) rfl ?_
    refine QJ.step (YldS.yld (y_move rfl)) rfl ?_
    refine QJ.step (YldS.yld (y_extract rfl rfl)) rfl ?_
    refine QJ.step (YldS.yld (y_extract rfl rfl)) rfl ?_
    refine QJ.step (YldS.yld (y_assign rfl)) rfl ?_
    refine QJ.step (YldS.yld (y_assign rfl)) rfl ?_
    refine QJ.done ?_
    refine PJ.next ?_
    refine WJ.seq ?_
    refine WJ.quiet ?_
    refine QJ.step (YldS.yld (y_loadBN (k := 0) (off := 0) (us := [.int .i64 r7.1.left, .int .i64 r7.1.right, .int .i64 r7.1.bell]) rfl Try.isAgg45 Try.sizeOf45 rfl rfl)) rfl ?_
    refine QJ.step (YldS.yld (y_move rfl)) rfl ?_
    obtain ⟨r15, h16, hm⟩ := bindS hm
    refine QJ.step (y_call Try.call41 rfl (RetG.quiet fun w hw => ok_i_HalfShifted h16 w _ (hw.row_rd (k := 1) rfl))) rfl ?_
    refine QJ.step (YldS.yld (y_move rfl)) rfl ?_
    refine QJ.step (YldS.yld (y_extract rfl rfl)) rfl ?_
    refine QJ.step (YldS.yld (y_extract rfl rfl)) rfl ?_
    refine QJ.step (YldS.yld (y_assign rfl)) rfl ?_
    refine QJ.step (YldS.yld (y_assign rfl)) rfl ?_
    refine QJ.done ?_
    refine PJ.next ?_
    refine WJ.seq ?_
    refine WJ.quiet ?_
    refine QJ.step (YldS.yld (y_loadBN (k := 0) (off := 0) (us := [.int .i64 r7.1.left, .int .i64 r7.1.right, .int .i64 r7.1.bell]) rfl Try.isAgg45 Try.sizeOf45 rfl rfl)) rfl ?_
    refine QJ.step (YldS.yld (y_move rfl)) rfl ?_
    obtain ⟨r17, h18, hm⟩ := bindS hm
    refine QJ.step (y_call Try.call42 rfl (RetG.quiet fun w hw => ok_s_HalfShifted h18 w _ (hw.row_rd (k := 1) rfl))) rfl ?_
    refine QJ.step (YldS.yld (y_move rfl)) rfl ?_
    refine QJ.step (YldS.yld (y_extract rfl rfl)) rfl ?_
    refine QJ.step (YldS.yld (y_extract rfl rfl)) rfl ?_
    refine QJ.step (YldS.yld (y_assign rfl)) rfl ?_
    refine QJ.step (YldS.yld (y_assign rfl)) rfl ?_
    refine QJ.done ?_
    refine PJ.next ?_
    refine WJ.seq ?_
    refine WJ.reg ?_
    refine SJ.q (YldS.yld (y_move rfl)) rfl ?_
    obtain ⟨r19, h20, hm⟩ := bindS hm
    refine SJ.call Try.call43 rfl (fun w hw => ok_i_OvertypedPlaces h20 w _ (hw.row_rd (k := 1) rfl)) rfl ?_
    rintro _ _ ⟨v21, rfl, rfl⟩
    refine SJ.q (YldS.yld (y_move rfl)) rfl ?_
    refine SJ.q (YldS.yld (y_extract rfl rfl)) rfl ?_
    refine SJ.q (YldS.yld (y_extract rfl rfl)) rfl ?_
    refine SJ.q (YldS.yld (y_assign rfl)) rfl ?_
    refine SJ.q (YldS.yld (y_assign rfl)) rfl ?_
    refine SJ.nil ?_
    refine PJ.next ?_
    refine WJ.seq ?_
    refine WJ.reg ?_
    refine SJ.q (YldS.yld (y_move rfl)) rfl ?_
    obtain ⟨r22, h23, hm⟩ := bindS hm
    refine SJ.call Try.call44 rfl (fun w hw => ok_s_OvertypedPlaces h23 w _ (hw.row_rd (k := 2) rfl)) rfl ?_
    rintro _ _ ⟨v24, rfl, rfl⟩
    refine SJ.q (YldS.yld (y_move rfl)) rfl ?_
    refine SJ.q (YldS.yld (y_extract rfl rfl)) rfl ?_
    refine SJ.q (YldS.yld (y_extract rfl rfl)) rfl ?_
    refine SJ.q (YldS.yld (y_assign rfl)) rfl ?_
    refine SJ.q (YldS.yld (y_assign rfl)) rfl ?_
    refine SJ.nil ?_
    refine PJ.next ?_
    refine WJ.seq ?_
    refine WJ.reg ?_
    refine SJ.q (YldS.yld (y_move rfl)) rfl ?_
    obtain ⟨r25, h26, hm⟩ := bindS hm
    refine SJ.call Try.call45 rfl (fun w hw => ok_s_DrawSameStruck h26 w _ (hr3.st hw)) rfl ?_
    rintro _ _ ⟨v27, v28, rfl, rfl⟩
    refine SJ.q (YldS.yld (y_move rfl)) rfl ?_
    refine SJ.q (YldS.yld (y_extract rfl rfl)) rfl ?_
    refine SJ.q (YldS.yld (y_extract rfl rfl)) rfl ?_
    refine SJ.q (YldS.yld (y_assign rfl)) rfl ?_
    refine SJ.q (YldS.yld (y_assign rfl)) rfl ?_
    refine SJ.nil ?_
    refine PJ.next ?_
    refine WJ.seq ?_
    refine WJ.seq ?_
    refine WJ.quiet ?_
    refine QJ.step (YldS.yld (y_move rfl)) rfl ?_
    refine QJ.step (YldS.yld (y_move rfl)) rfl ?_
    refine QJ.step (YldS.yld (y_bin rfl rfl rfl)) rfl ?_
    refine QJ.step (YldS.yld (y_move rfl)) rfl ?_
    obtain ⟨t29, h30, hm⟩ := bindS hm
    refine QJ.cut 4 [(3, pt g10 0), (4, v9), (5, str r11.1), (6, .int .i64 r11.2), (9, .bool r15.1), (10, .int .i64 r15.2), (11, .bool r17.1), (12, .int .i64 r17.2), (13, v21), (14, .int .i64 r19.2), (15, v24), (16, .int .i64 r22.2), (17, v27), (18, v28), (76, .bool t29)] ?_ ?_
    · rcases Bool.eq_false_or_eq_true (r11.2 != r13.2) with hb31 | hb31
      · obtain rfl := orT h30 hb31
        refine QJ.off rfl rfl (cB hb31) rfl rfl ?_
        refine QJ.off rfl rfl (cB hb31) rfl rfl ?_
        refine QJ.off rfl rfl (cB hb31) rfl rfl ?_
        refine QJ.step (YldS.yld (y_pick_t (cB hb31) rfl)) rfl ?_
        exact QJ.cut_end ⟨rfl, rfl, rfl, rfl, rfl, rfl, rfl, rfl, rfl, rfl, rfl, rfl, rfl, rfl, rfl, trivial⟩
      · replace h30 := orF h30 hb31
        refine QJ.on rfl rfl (cB hb31) (YldS.yld (y_move rfl)) rfl ?_
        refine QJ.on rfl rfl (cB hb31) (YldS.yld (y_move rfl)) rfl ?_
        refine QJ.on rfl rfl (cB hb31) (YldS.yld (y_binS rfl rfl rfl)) rfl ?_
        refine QJ.step (YldS.yld (y_pick_f (cB hb31) rfl)) rfl ?_
        obtain rfl := Option.some.inj h30
        exact QJ.cut_end ⟨rfl, rfl, rfl, rfl, rfl, rfl, rfl, rfl, rfl, rfl, rfl, rfl, rfl, rfl, rfl, trivial⟩
    refine QJ.step (YldS.yld (y_move rfl)) rfl ?_
    obtain ⟨t32, h33, hm⟩ := bindS hm
    refine QJ.cut 4 [(3, pt g10 0), (4, v9), (5, str r11.1), (6, .int .i64 r11.2), (9, .bool r15.1), (11, .bool r17.1), (13, v21), (14, .int .i64 r19.2), (15, v24), (16, .int .i64 r22.2), (17, v27), (18, v28), (81, .bool t32)] ?_ ?_
    · rcases Bool.eq_false_or_eq_true t29 with hb34 | hb34
      · obtain rfl := orT h33 hb34
        refine QJ.off rfl rfl (cB hb34) rfl rfl ?_
        refine QJ.off rfl rfl (cB hb34) rfl rfl ?_
        refine QJ.off rfl rfl (cB hb34) rfl rfl ?_
        refine QJ.step (YldS.yld (y_pick_t (cB hb34) rfl)) rfl ?_
        exact QJ.cut_end ⟨rfl, rfl, rfl, rfl, rfl, rfl, rfl, rfl, rfl, rfl, rfl, rfl, rfl, trivial⟩
      · replace h33 := orF h33 hb34
        refine QJ.on rfl rfl (cB hb34) (YldS.yld (y_move rfl)) rfl ?_
        refine QJ.on rfl rfl (cB hb34) (YldS.yld (y_move rfl)) rfl ?_
        refine QJ.on rfl rfl (cB hb34) (YldS.yld (y_bin rfl rfl rfl)) rfl ?_
        refine QJ.step (YldS.yld (y_pick_f (cB hb34) rfl)) rfl ?_
        obtain rfl := Option.some.inj h33
        exact QJ.cut_end ⟨rfl, rfl, rfl, rfl, rfl, rfl, rfl, rfl, rfl, rfl, rfl, rfl, rfl, trivial⟩
    refine QJ.step (YldS.yld (y_move rfl)) rfl ?_
    obtain ⟨t35, h36, hm⟩ := bindS hm
    refine QJ.cut 4 [(3, pt g10 0), (4, v9), (5, str r11.1), (6, .int .i64 r11.2), (11, .bool r17.1), (13, v21), (14, .int .i64 r19.2), (15, v24), (16, .int .i64 r22.2), (17, v27), (18, v28), (86, .bool t35)] ?_ ?_
    · rcases Bool.eq_false_or_eq_true t32 with hb37 | hb37
      · obtain rfl := orT h36 hb37
        refine QJ.off rfl rfl (cB hb37) rfl rfl ?_
        refine QJ.off rfl rfl (cB hb37) rfl rfl ?_
        refine QJ.off rfl rfl (cB hb37) rfl rfl ?_
        refine QJ.step (YldS.yld (y_pick_t (cB hb37) rfl)) rfl ?_
        exact QJ.cut_end ⟨rfl, rfl, rfl, rfl, rfl, rfl, rfl, rfl, rfl, rfl, rfl, rfl, trivial⟩
      · replace h36 := orF h36 hb37
        refine QJ.on rfl rfl (cB hb37) (YldS.yld (y_move rfl)) rfl ?_
        refine QJ.on rfl rfl (cB hb37) (YldS.yld (y_move rfl)) rfl ?_
        refine QJ.on rfl rfl (cB hb37) (YldS.yld (y_neB Try.underlying4 rfl rfl rfl)) rfl ?_
        refine QJ.step (YldS.yld (y_pick_f (cB hb37) rfl)) rfl ?_
        obtain rfl := Option.some.inj h36
        exact QJ.cut_end ⟨rfl, rfl, rfl, rfl, rfl, rfl, rfl, rfl, rfl, rfl, rfl, rfl, trivial⟩
    refine QJ.step (YldS.yld (y_move rfl)) rfl ?_
    obtain ⟨t38, h39, hm⟩ := bindS hm
    refine QJ.cut 4 [(3, pt g10 0), (4, v9), (5, str r11.1), (6, .int .i64 r11.2), (11, .bool r17.1), (13, v21), (15, v24), (17, v27), (18, v28), (91, .bool t38)] ?_ ?_
    · rcases Bool.eq_false_or_eq_true t35 with hb40 | hb40
      · obtain rfl := orT h39 hb40
        refine QJ.off rfl rfl (cB hb40) rfl rfl ?_
        refine QJ.off rfl rfl (cB hb40) rfl rfl ?_
        refine QJ.off rfl rfl (cB hb40) rfl rfl ?_
        refine QJ.step (YldS.yld (y_pick_t (cB hb40) rfl)) rfl ?_
        exact QJ.cut_end ⟨rfl, rfl, rfl, rfl, rfl, rfl, rfl, rfl, rfl, rfl, trivial⟩
      · replace h39 := orF h39 hb40
        refine QJ.on rfl rfl (cB hb40) (YldS.yld (y_move rfl)) rfl ?_
        refine QJ.on rfl rfl (cB hb40) (YldS.yld (y_move rfl)) rfl ?_
        refine QJ.on rfl rfl (cB hb40) (YldS.yld (y_bin rfl rfl rfl)) rfl ?_
        refine QJ.step (YldS.yld (y_pick_f (cB hb40) rfl)) rfl ?_
        obtain rfl := Option.some.inj h39
        exact QJ.cut_end ⟨rfl, rfl, rfl, rfl, rfl, rfl, rfl, rfl, rfl, rfl, trivial⟩
    refine QJ.step (YldS.yld (y_move rfl)) rfl ?_
    obtain ⟨t41, h42, hm⟩ := bindS hm
    refine QJ.cut 5 [(3, pt g10 0), (4, v9), (5, str r11.1), (6, .int .i64 r11.2), (11, .bool r17.1), (15, v24), (17, v27), (18, v28), (97, .bool t41)] ?_ ?_
    · rcases Bool.eq_false_or_eq_true t38 with hb43 | hb43
      · obtain rfl := orT h42 hb43
        refine QJ.off rfl rfl (cB hb43) rfl rfl ?_
        refine QJ.off rfl rfl (cB hb43) rfl rfl ?_
        refine QJ.off rfl rfl (cB hb43) rfl rfl ?_
        refine QJ.off rfl rfl (cB hb43) rfl rfl ?_
        refine QJ.step (YldS.yld (y_pick_t (cB hb43) rfl)) rfl ?_
        exact QJ.cut_end ⟨rfl, rfl, rfl, rfl, rfl, rfl, rfl, rfl, rfl, trivial⟩
      · replace h42 := orF h42 hb43
        refine QJ.on rfl rfl (cB hb43) (YldS.yld (y_move rfl)) rfl ?_
        refine QJ.on rfl rfl (cB hb43) (YldS.yld (y_move rfl)) rfl ?_
        obtain ⟨r44, h45, h42⟩ := bindS h42
        refine QJ.on rfl rfl (cB hb43) (y_call Try.call46 rfl (RetG.quiet fun w hw => ok_w_f6ints h45 w _ (hw.row_rd (k := 3) rfl) _ (hw.row_rd (k := 2) rfl))) rfl ?_
        refine QJ.on rfl rfl (cB hb43) (YldS.yld (y_not rfl)) rfl ?_
        refine QJ.step (YldS.yld (y_pick_f (cB hb43) rfl)) rfl ?_
        obtain rfl := Option.some.inj h42
        exact QJ.cut_end ⟨rfl, rfl, rfl, rfl, rfl, rfl, rfl, rfl, rfl, trivial⟩
    refine QJ.step (YldS.yld (y_move rfl)) rfl ?_
    obtain ⟨t46, h47, hm⟩ := bindS hm
    refine QJ.cut 8 [(3, pt g10 0), (4, v9), (5, str r11.1), (6, .int .i64 r11.2), (11, .bool r17.1), (15, v24), (106, .bool t46)] ?_ ?_
    · rcases Bool.eq_false_or_eq_true t41 with hb48 | hb48
      · obtain rfl := orT h47 hb48
        refine QJ.off rfl rfl (cB hb48) rfl rfl ?_
        refine QJ.off rfl rfl (cB hb48) rfl rfl ?_
        refine QJ.off rfl rfl (cB hb48) rfl rfl ?_
        refine QJ.off rfl rfl (cB hb48) rfl rfl ?_
        refine QJ.off rfl rfl (cB hb48) rfl rfl ?_
        refine QJ.off rfl rfl (cB hb48) rfl rfl ?_
        refine QJ.off rfl rfl (cB hb48) rfl rfl ?_
        refine QJ.step (YldS.yld (y_pick_t (cB hb48) rfl)) rfl ?_
        exact QJ.cut_end ⟨rfl, rfl, rfl, rfl, rfl, rfl, rfl, trivial⟩
      · replace h47 := orF h47 hb48
        refine QJ.on rfl rfl (cB hb48) (YldS.yld (y_move rfl)) rfl ?_
        refine QJ.on rfl rfl (cB hb48) (YldS.yld (y_move rfl)) rfl ?_
        obtain ⟨r49, h50, h47⟩ := bindS h47
        refine QJ.on rfl rfl (cB hb48) (y_call Try.call47 rfl (RetG.quiet fun w hw => ok_i_SameStruck h50 w _ (hw.row_rd (k := 0) rfl) _ (hw.row_rd (k := 1) rfl))) rfl ?_
        refine QJ.on rfl rfl (cB hb48) (YldS.yld (y_move rfl)) rfl ?_
        refine QJ.on rfl rfl (cB hb48) (YldS.yld (y_move rfl)) rfl ?_
        obtain ⟨r51, h52, h47⟩ := bindS h47
        refine QJ.on rfl rfl (cB hb48) (y_call Try.call30 rfl (RetG.quiet fun w hw => ok_s_SameStruck h52 w _ (hw.row_rd (k := 0) rfl) _ (hw.row_rd (k := 1) rfl))) rfl ?_
        refine QJ.on rfl rfl (cB hb48) (YldS.yld (y_neB Try.underlying4 rfl rfl rfl)) rfl ?_
        refine QJ.step (YldS.yld (y_pick_f (cB hb48) rfl)) rfl ?_
        obtain rfl := Option.some.inj h47
        exact QJ.cut_end ⟨rfl, rfl, rfl, rfl, rfl, rfl, rfl, trivial⟩
    refine QJ.done ?_
    refine PJ.next ?_
    refine WJ.cond (t := t46) rfl (fun hb53 => ?_) (fun hb53 => ?_)
    · replace hm := ifT hm hb53
      refine WJ.seq ?_
      refine WJ.quiet ?_
      refine QJ.step (YldS.yld (y_assign rfl)) rfl ?_
      refine QJ.done ?_
      refine PJ.next ?_
      refine WJ.ret ?_
      refine PJ.then_ret ?_
      obtain rfl := Option.some.inj hm
      refine PJ.sel (L' := []) [] ⟨List.nodup_nil, rfl⟩ ?_
      exact PJ.retn (vs := [.bool false]) Try.results5 ⟨rfl, trivial⟩ ⟨rfl, rfl⟩
    · replace hm := ifF hm hb53
      refine WJ.skip ?_
      refine PJ.next ?_
      refine WJ.seq ?_
      refine WJ.seq ?_
      refine WJ.quiet ?_
      refine QJ.step (YldS.yld (y_move rfl)) rfl ?_
      refine QJ.step (YldS.yld (y_bin rfl rfl rfl)) rfl ?_
      refine QJ.done ?_
      refine PJ.next ?_
      refine WJ.cond (t := (r11.2 != 0)) rfl (fun hb54 => ?_) (fun hb54 => ?_)
      · replace hm := ifT hm hb54
        refine WJ.seq ?_
        refine WJ.quiet ?_
        refine QJ.step (YldS.yld (y_move rfl)) rfl ?_
        refine QJ.step (YldS.yld (y_bin rfl rfl rfl)) rfl ?_
        refine QJ.step (YldS.yld (y_move rfl)) rfl ?_
        obtain ⟨t55, h56, hm⟩ := bindS hm
        refine QJ.cut 3 [(15, v24), (114, .bool t55)] ?_ ?_
        · rcases Bool.eq_false_or_eq_true (r11.2 == 1) with hb57 | hb57
          · obtain rfl := orT h56 hb57
            refine QJ.off rfl rfl (cB hb57) rfl rfl ?_
            refine QJ.off rfl rfl (cB hb57) rfl rfl ?_
            refine QJ.step (YldS.yld (y_pick_t (cB hb57) rfl)) rfl ?_
            exact QJ.cut_end ⟨rfl, rfl, trivial⟩
          · replace h56 := orF h56 hb57
            refine QJ.on rfl rfl (cB hb57) (YldS.yld (y_move rfl)) rfl ?_
            refine QJ.on rfl rfl (cB hb57) (YldS.yld (y_bin rfl rfl rfl)) rfl ?_
            refine QJ.step (YldS.yld (y_pick_f (cB hb57) rfl)) rfl ?_
            obtain rfl := Option.some.inj h56
            exact QJ.cut_end ⟨rfl, rfl, trivial⟩
        refine QJ.step (YldS.yld (y_move rfl)) rfl ?_
        obtain ⟨t58, h59, hm⟩ := bindS hm
        refine QJ.cut 4 [(119, .bool t58)] ?_ ?_
        · rcases Bool.eq_false_or_eq_true t55 with hb60 | hb60
          · obtain rfl := orT h59 hb60
            refine QJ.off rfl rfl (cB hb60) rfl rfl ?_
            refine QJ.off rfl rfl (cB hb60) rfl rfl ?_
            refine QJ.off rfl rfl (cB hb60) rfl rfl ?_
            refine QJ.step (YldS.yld (y_pick_t (cB hb60) rfl)) rfl ?_
            exact QJ.cut_end ⟨rfl, trivial⟩
          · replace h59 := orF h59 hb60
            refine QJ.on rfl rfl (cB hb60) (YldS.yld (y_move rfl)) rfl ?_
            refine QJ.on rfl rfl (cB hb60) (YldS.yld (y_lenRow (k := 2) rfl Try.runUnderlying69 rfl)) rfl ?_
            refine QJ.on rfl rfl (cB hb60) (YldS.yld (y_bin rfl rfl rfl)) rfl ?_
            refine QJ.step (YldS.yld (y_pick_f (cB hb60) rfl)) rfl ?_
            obtain rfl := Option.some.inj h59
            exact QJ.cut_end ⟨rfl, trivial⟩
        refine QJ.step (YldS.yld (y_assign rfl)) rfl ?_
        refine QJ.done ?_
        refine PJ.next ?_
        refine WJ.ret ?_
        refine PJ.then_ret ?_
        obtain rfl := Option.some.inj hm
        refine PJ.sel (L' := []) [] ⟨List.nodup_nil, rfl⟩ ?_
        exact PJ.retn (vs := [.bool t58]) Try.results5 ⟨rfl, trivial⟩ ⟨rfl, rfl⟩
      · replace hm := ifF hm hb54
        refine WJ.skip ?_
        refine PJ.next ?_
        refine WJ.seq ?_
        refine WJ.seq ?_
        refine WJ.quiet ?_
        refine QJ.step (YldS.yld (y_move rfl)) rfl ?_
        refine QJ.step (YldS.yld (y_move rfl)) rfl ?_
        obtain ⟨t61, h62, hm⟩ := bindS hm
        refine QJ.cut 4 [(3, pt g10 0), (4, v9), (5, str r11.1), (125, .bool t61)] ?_ ?_
        · rcases Bool.eq_false_or_eq_true r17.1 with hb63 | hb63
          · obtain rfl := orT h62 hb63
            refine QJ.off rfl rfl (cB hb63) rfl rfl ?_
            refine QJ.off rfl rfl (cB hb63) rfl rfl ?_
            refine QJ.off rfl rfl (cB hb63) rfl rfl ?_
            refine QJ.step (YldS.yld (y_pick_t (cB hb63) rfl)) rfl ?_
            exact QJ.cut_end ⟨rfl, rfl, rfl, rfl, trivial⟩
          · replace h62 := orF h62 hb63
            refine QJ.on rfl rfl (cB hb63) (YldS.yld (y_move rfl)) rfl ?_
            refine QJ.on rfl rfl (cB hb63) (YldS.yld (y_lenRow (k := 2) rfl Try.runUnderlying69 rfl)) rfl ?_
            refine QJ.on rfl rfl (cB hb63) (YldS.yld (y_bin rfl rfl rfl)) rfl ?_
            refine QJ.step (YldS.yld (y_pick_f (cB hb63) rfl)) rfl ?_
            obtain rfl := Option.some.inj h62
            exact QJ.cut_end ⟨rfl, rfl, rfl, rfl, trivial⟩
        refine QJ.done ?_
        refine PJ.next ?_
        refine WJ.cond (t := t61) rfl (fun hb64 => ?_) (fun hb64 => ?_)
        · replace hm := ifT hm hb64
          refine WJ.seq ?_
          refine WJ.quiet ?_
          refine QJ.step (YldS.yld (y_assign rfl)) rfl ?_
          refine QJ.done ?_
          refine PJ.next ?_
          refine WJ.ret ?_
          refine PJ.then_ret ?_
          obtain rfl := Option.some.inj hm
          refine PJ.sel (L' := []) [] ⟨List.nodup_nil, rfl⟩ ?_
          exact PJ.retn (vs := [.bool false]) Try.results5 ⟨rfl, trivial⟩ ⟨rfl, rfl⟩
        · replace hm := ifF hm hb64
          refine WJ.skip ?_
          refine PJ.next ?_
          refine WJ.seq ?_
          refine WJ.quiet ?_
          refine QJ.step (YldS.yld (y_assign rfl)) rfl ?_
          refine QJ.done ?_
          refine PJ.next ?_
          obtain ⟨kj66, hk67, hm⟩ := withK_open hm
          refine WJ.join (X := Int) (fun (x : Int) => kj66 x = some r) (fun (x : Int) => [(3, pt g10 0), (4, v9), (5, str r11.1), (19, .int .i64 x)]) (fun (x : Int) => [box g10 45 [.int .i64 r7.1.left, .int .i64 r7.1.right, .int .i64 r7.1.bell], row v9 76 fStruck r7.2]) ?_ ?_
          · clear hk67
            refine WJ.seq ?_
            refine WJ.quiet ?_
            refine QJ.step (YldS.yld (y_assign rfl)) rfl ?_
            refine QJ.done ?_
            refine PJ.next ?_
            refine WJ.block ?_
            refine WJ.sel (L' := (fun (x : Int × Int) => [box g10 45 [.int .i64 r7.1.left, .int .i64 r7.1.right, .int .i64 r7.1.bell], row v9 76 fStruck r7.2]) (0, 0)) [4, 5] ⟨by decide, rfl⟩ ?_
            refine WJ.sub (m' := (fun (x : Int × Int) => [(3, pt g10 0), (4, v9), (5, str r11.1), (19, .int .i64 x.1), (20, .int .i64 x.2)]) (0, 0)) ⟨rfl, rfl, rfl, rfl, rfl, trivial⟩ ?_
            refine WJ.loop (X := Int × Int) (fun N (x : Int × Int) => w_FnCarriageLines_l1 kj66 r11 N x.1 x.2 = some r) (fun (x : Int × Int) => [(3, pt g10 0), (4, v9), (5, str r11.1), (19, .int .i64 x.1), (20, .int .i64 x.2)]) (fun (x : Int × Int) => [box g10 45 [.int .i64 r7.1.left, .int .i64 r7.1.right, .int .i64 r7.1.bell], row v9 76 fStruck r7.2]) ?_ N (0, 0) hm
            · rintro N ⟨letters68, i69⟩ hI
              have hm := hI; clear hI
              cases N with
              | zero => cases hm
              | succ N =>
              unfold w_FnCarriageLines_l1 at hm
              refine WJ.seq ?_
              refine WJ.seq ?_
              refine WJ.quiet ?_
              refine QJ.step (YldS.yld (y_move rfl)) rfl ?_
              refine QJ.step (YldS.yld (y_move rfl)) rfl ?_
              refine QJ.step (YldS.yld (y_lenStr Try.runUnderlying9 rfl)) rfl ?_
              refine QJ.step (YldS.yld (y_bin rfl rfl rfl)) rfl ?_
              refine QJ.done ?_
              refine PJ.next ?_
              refine WJ.cond (t := decide (i69 < (List.length r11.1 : Int))) rfl (fun hb70 => ?_) (fun hb70 => ?_)
              · replace hm := ifT hm hb70
                refine WJ.skip ?_
                refine PJ.next ?_
                obtain ⟨kj72, hk73, hm⟩ := withK_open hm
                refine WJ.join (X := Int) (fun (x : Int) => kj72 x = some r) (fun (x : Int) => [(3, pt g10 0), (4, v9), (5, str r11.1), (19, .int .i64 x), (20, .int .i64 i69)]) (fun (x : Int) => [box g10 45 [.int .i64 r7.1.left, .int .i64 r7.1.right, .int .i64 r7.1.bell], row v9 76 fStruck r7.2]) ?_ ?_
                · clear hk73
                  refine WJ.block ?_
                  refine WJ.seq ?_
                  refine WJ.quiet ?_
                  refine QJ.step (YldS.yld (y_move rfl)) rfl ?_
                  refine QJ.step (YldS.yld (y_move rfl)) rfl ?_
                  obtain ⟨c74, h75, hm⟩ := bindS hm
                  refine QJ.step (YldS.yld (y_idxStr Try.runUnderlying9 rfl rfl h75)) rfl ?_
                  refine QJ.step (YldS.yld (y_bin8 c74 (32 : UInt8) rfl rfl rfl)) rfl ?_
                  refine QJ.done ?_
                  refine PJ.next ?_
                  refine WJ.cond (t := (c74 != (32 : UInt8))) rfl (fun hb76 => ?_) (fun hb76 => ?_)
                  · replace hm := ifT hm hb76
                    refine WJ.quiet ?_
                    refine QJ.step (YldS.yld (y_move rfl)) rfl ?_
                    refine QJ.step (YldS.yld (y_bin rfl rfl rfl)) rfl ?_
                    refine QJ.step (YldS.yld (y_assign rfl)) rfl ?_
                    refine QJ.done ?_
                    refine PJ.block_normal ?_
                    exact PJ.joined (w64 (letters68 + 1)) [0, 1] hm ⟨rfl, rfl, rfl, rfl, rfl, trivial⟩ ⟨by decide, rfl⟩
                  · replace hm := ifF hm hb76
                    refine WJ.skip ?_
                    refine PJ.block_normal ?_
                    exact PJ.joined letters68 [0, 1] hm ⟨rfl, rfl, rfl, rfl, rfl, trivial⟩ ⟨by decide, rfl⟩
                · rintro letters71 hm
                  subst hk73
                  refine WJ.quiet ?_
                  refine QJ.step (YldS.yld (y_move rfl)) rfl ?_
                  refine QJ.step (YldS.yld (y_bin rfl rfl rfl)) rfl ?_
                  refine QJ.step (YldS.yld (y_assign rfl)) rfl ?_
                  refine QJ.done ?_
                  exact PJ.round (letters71, w64 (i69 + 1)) [0, 1] hm ⟨rfl, rfl, rfl, rfl, rfl, trivial⟩ ⟨by decide, rfl⟩
              · replace hm := ifF hm hb70
                refine WJ.exit ?_
                refine PJ.then_exit (PJ.then_exit (PJ.block_exit ?_))
                exact PJ.joined letters68 [0, 1] hm ⟨rfl, rfl, rfl, rfl, trivial⟩ ⟨by decide, rfl⟩
          · rintro letters65 hm
            subst hk67
            obtain ⟨kj77, hk78, hm⟩ := withK_open hm
            refine WJ.join (X := Unit) (fun (_ : Unit) => kj77  = some r) (fun (_ : Unit) => [(4, v9), (19, .int .i64 letters65)]) (fun (_ : Unit) => [row v9 76 fStruck r7.2]) ?_ ?_
            · clear hk78
              refine WJ.seq ?_
              refine WJ.quiet ?_
              refine QJ.step (YldS.yld (y_assign rfl)) rfl ?_
              refine QJ.done ?_
              refine PJ.next ?_
              refine WJ.block ?_
              refine WJ.sel (L' := (fun (x : Int) => [box g10 45 [.int .i64 r7.1.left, .int .i64 r7.1.right, .int .i64 r7.1.bell], row v9 76 fStruck r7.2]) 0) [0, 1] ⟨by decide, rfl⟩ ?_
              refine WJ.sub (m' := (fun (x : Int) => [(3, pt g10 0), (4, v9), (5, str r11.1), (19, .int .i64 letters65), (21, .int .i64 x)]) 0) ⟨rfl, rfl, rfl, rfl, rfl, trivial⟩ ?_
              refine WJ.loop (X := Int) (fun N (x : Int) => w_FnCarriageLines_l2 kj77 r7 r11 N x = some r) (fun (x : Int) => [(3, pt g10 0), (4, v9), (5, str r11.1), (19, .int .i64 letters65), (21, .int .i64 x)]) (fun (x : Int) => [box g10 45 [.int .i64 r7.1.left, .int .i64 r7.1.right, .int .i64 r7.1.bell], row v9 76 fStruck r7.2]) ?_ N 0 hm
              · rintro N i79 hI
                have hm := hI; clear hI
                cases N with
                | zero => cases hm
                | succ N =>
                unfold w_FnCarriageLines_l2 at hm
                refine WJ.seq ?_
                refine WJ.seq ?_
                refine WJ.quiet ?_
                refine QJ.step (YldS.yld (y_move rfl)) rfl ?_
                refine QJ.step (YldS.yld (y_move rfl)) rfl ?_
                refine QJ.step (YldS.yld (y_lenRow (k := 1) rfl Try.runUnderlying53 rfl)) rfl ?_
                refine QJ.step (YldS.yld (y_bin rfl rfl rfl)) rfl ?_
                refine QJ.done ?_
                refine PJ.next ?_
                refine WJ.cond (t := decide (i79 < (List.length r7.2 : Int))) rfl (fun hb80 => ?_) (fun hb80 => ?_)
                · replace hm := ifT hm hb80
                  refine WJ.skip ?_
                  refine PJ.next ?_
                  refine WJ.seq ?_
                  refine WJ.block ?_
                  refine WJ.seq ?_
                  refine WJ.quiet_draw follows (by kernel_rfl) ?_
                  refine QJ.step (YldS.yld (y_move rfl)) rfl ?_
                  refine QJ.step (YldS.yld (y_move rfl)) rfl ?_
                  obtain ⟨e81, h82, hm⟩ := bindS hm
                  refine QJ.step (YldS.yld (y_ixRow (k := 1) (R := fStruck) rfl Try.runUnderlying53 Try.sizeOf76 rfl rfl h82)) rfl ?_
                  refine QJ.step (YldS.yld (y_fldR fld76_0 rfl)) rfl ?_
                  refine QJ.step (YldS.yld (y_loadR (k := 1) (i := (Int.toNat i79)) (off := 0) (u := .int .i64 e81.place) rfl Try.isAgg2 rfl (idx_get h82) rfl)) rfl ?_
                  refine QJ.step (YldS.yld (y_fldB (o := 0) fld45_0 rfl)) rfl ?_
                  refine QJ.step (YldS.yld (y_loadB (k := 0) (off := 0) (v := .int .i64 r7.1.left) rfl Try.isAgg2 rfl rfl)) rfl ?_
                  refine QJ.step (YldS.yld (y_bin rfl rfl rfl)) rfl ?_
                  refine QJ.step (YldS.yld (y_quo rfl rfl (by decide))) rfl ?_
                  refine QJ.step (YldS.yld (y_assign rfl)) rfl ?_
                  refine QJ.done ?_
                  refine PJ.next ?_
                  refine WJ.seq ?_
                  refine WJ.quiet_draw follows (by kernel_rfl) ?_
                  refine QJ.step (YldS.yld (y_move rfl)) rfl ?_
                  refine QJ.step (YldS.yld (y_bin rfl rfl rfl)) rfl ?_
                  refine QJ.step (YldS.yld (y_move rfl)) rfl ?_
                  obtain ⟨t83, h84, hm⟩ := bindS hm
                  refine QJ.cut 5 [(3, pt g10 0), (4, v9), (5, str r11.1), (19, .int .i64 letters65), (21, .int .i64 i79), (22, .int .i64 (w64 (Int.tdiv (w64 (e81.place - r7.1.left)) 2))), (160, .bool t83)] ?_ ?_
                  · rcases Bool.eq_false_or_eq_true (decide ((w64 (Int.tdiv (w64 (e81.place - r7.1.left)) 2)) < 0)) with hb85 | hb85
                    · obtain rfl := orT h84 hb85
                      refine QJ.off rfl rfl (cB hb85) rfl rfl ?_
                      refine QJ.off rfl rfl (cB hb85) rfl rfl ?_
                      refine QJ.off rfl rfl (cB hb85) rfl rfl ?_
                      refine QJ.off rfl rfl (cB hb85) rfl rfl ?_
                      refine QJ.step (YldS.yld (y_pick_t (cB hb85) rfl)) rfl ?_
                      exact QJ.cut_end ⟨rfl, rfl, rfl, rfl, rfl, rfl, rfl, trivial⟩
                    · replace h84 := orF h84 hb85
                      refine QJ.on rfl rfl (cB hb85) (YldS.yld (y_move rfl)) rfl ?_
                      refine QJ.on rfl rfl (cB hb85) (YldS.yld (y_move rfl)) rfl ?_
                      refine QJ.on rfl rfl (cB hb85) (YldS.yld (y_lenStr Try.runUnderlying9 rfl)) rfl ?_
                      refine QJ.on rfl rfl (cB hb85) (YldS.yld (y_bin rfl rfl rfl)) rfl ?_
                      refine QJ.step (YldS.yld (y_pick_f (cB hb85) rfl)) rfl ?_
                      obtain rfl := Option.some.inj h84
                      exact QJ.cut_end ⟨rfl, rfl, rfl, rfl, rfl, rfl, rfl, trivial⟩
                  refine QJ.step (YldS.yld (y_move rfl)) rfl ?_
                  obtain ⟨t86, h87, hm⟩ := bindS hm
                  refine QJ.cut 11 [(3, pt g10 0), (4, v9), (5, str r11.1), (19, .int .i64 letters65), (21, .int .i64 i79), (172, .bool t86)] ?_ ?_
                  · rcases Bool.eq_false_or_eq_true t83 with hb88 | hb88
                    · obtain rfl := orT h87 hb88
                      refine QJ.off rfl rfl (cB hb88) rfl rfl ?_
                      refine QJ.off rfl rfl (cB hb88) rfl rfl ?_
                      refine QJ.off rfl rfl (cB hb88) rfl rfl ?_
                      refine QJ.off rfl rfl (cB hb88) rfl rfl ?_
                      refine QJ.off rfl rfl (cB hb88) rfl rfl ?_
                      refine QJ.off rfl rfl (cB hb88) rfl rfl ?_
                      refine QJ.off rfl rfl (cB hb88) rfl rfl ?_
                      refine QJ.off rfl rfl (cB hb88) rfl rfl ?_
                      refine QJ.off rfl rfl (cB hb88) rfl rfl ?_
                      refine QJ.off rfl rfl (cB hb88) rfl rfl ?_
                      refine QJ.step (YldS.yld (y_pick_t (cB hb88) rfl)) rfl ?_
                      exact QJ.cut_end ⟨rfl, rfl, rfl, rfl, rfl, rfl, trivial⟩
                    · replace h87 := orF h87 hb88
                      refine QJ.on rfl rfl (cB hb88) (YldS.yld (y_move rfl)) rfl ?_
                      refine QJ.on rfl rfl (cB hb88) (YldS.yld (y_move rfl)) rfl ?_
                      obtain ⟨c89, h90, h87⟩ := bindS h87
                      refine QJ.on rfl rfl (cB hb88) (YldS.yld (y_idxStr Try.runUnderlying9 rfl rfl h90)) rfl ?_
                      refine QJ.on rfl rfl (cB hb88) (YldS.yld (y_move rfl)) rfl ?_
                      refine QJ.on rfl rfl (cB hb88) (YldS.yld (y_move rfl)) rfl ?_
                      obtain ⟨e91, h92, h87⟩ := bindS h87
                      refine QJ.on rfl rfl (cB hb88) (YldS.yld (y_ixRow (k := 1) (R := fStruck) rfl Try.runUnderlying53 Try.sizeOf76 rfl rfl h92)) rfl ?_
                      refine QJ.on rfl rfl (cB hb88) (YldS.yld (y_fldR fld76_1 rfl)) rfl ?_
                      refine QJ.on rfl rfl (cB hb88) (YldS.yld (y_loadR (k := 1) (i := (Int.toNat i79)) (off := 1) (u := str e91.letter) rfl Try.isAgg9 rfl (idx_get h92) rfl)) rfl ?_
                      obtain ⟨c93, h94, h87⟩ := bindS h87
                      refine QJ.on rfl rfl (cB hb88) (YldS.yld (y_idxStr Try.runUnderlying9 rfl rfl h94)) rfl ?_
                      refine QJ.on rfl rfl (cB hb88) (YldS.yld (y_bin8 c89 c93 rfl rfl rfl)) rfl ?_
                      refine QJ.step (YldS.yld (y_pick_f (cB hb88) rfl)) rfl ?_
                      obtain rfl := Option.some.inj h87
                      exact QJ.cut_end ⟨rfl, rfl, rfl, rfl, rfl, rfl, trivial⟩
                  refine QJ.done ?_
                  refine PJ.next ?_
                  refine WJ.cond (t := t86) rfl (fun hb95 => ?_) (fun hb95 => ?_)
                  · replace hm := ifT hm hb95
                    refine WJ.seq ?_
                    refine WJ.quiet ?_
                    refine QJ.step (YldS.yld (y_assign rfl)) rfl ?_
                    refine QJ.done ?_
                    refine PJ.next ?_
                    refine WJ.ret ?_
                    refine PJ.block_ret (PJ.then_ret (PJ.then_ret (PJ.block_ret (PJ.then_ret ?_))))
                    obtain rfl := Option.some.inj hm
                    refine PJ.sel (L' := []) [] ⟨List.nodup_nil, rfl⟩ ?_
                    exact PJ.retn (vs := [.bool false]) Try.results5 ⟨rfl, trivial⟩ ⟨rfl, rfl⟩
                  · replace hm := ifF hm hb95
                    refine WJ.skip ?_
                    refine PJ.block_normal (PJ.next ?_)
                    refine WJ.quiet ?_
                    refine QJ.step (YldS.yld (y_move rfl)) rfl ?_
                    refine QJ.step (YldS.yld (y_bin rfl rfl rfl)) rfl ?_
                    refine QJ.step (YldS.yld (y_assign rfl)) rfl ?_
                    refine QJ.done ?_
                    exact PJ.round (w64 (i79 + 1)) [0, 1] hm ⟨rfl, rfl, rfl, rfl, rfl, trivial⟩ ⟨by decide, rfl⟩
                · replace hm := ifF hm hb80
                  refine WJ.exit ?_
                  refine PJ.then_exit (PJ.then_exit (PJ.block_exit ?_))
                  exact PJ.joined () [1] hm ⟨rfl, rfl, trivial⟩ ⟨by decide, rfl⟩
            · rintro _ hm
              subst hk78
              refine WJ.seq ?_
              refine WJ.quiet ?_
              refine QJ.step (YldS.yld (y_move rfl)) rfl ?_
              refine QJ.step (YldS.yld (y_move rfl)) rfl ?_
              refine QJ.step (YldS.yld (y_lenRow (k := 0) rfl Try.runUnderlying53 rfl)) rfl ?_
              refine QJ.step (YldS.yld (y_bin rfl rfl rfl)) rfl ?_
              refine QJ.step (YldS.yld (y_assign rfl)) rfl ?_
              refine QJ.done ?_
              refine PJ.next ?_
              refine WJ.ret ?_
              obtain rfl := Option.some.inj hm
              refine PJ.sel (L' := []) [] ⟨List.nodup_nil, rfl⟩ ?_
              exact PJ.retn (vs := [.bool (letters65 == (List.length r7.2 : Int))]) Try.results5 ⟨rfl, trivial⟩ ⟨rfl, rfl⟩

end Go.Proofs.Ythkckgiicchpnaa
