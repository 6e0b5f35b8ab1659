/-
  The walks: a call hands back what its plain function computes, where that has a value. No other conditions.
-/
import Derived.Test.YtpdcifgphocllaaFnAbbreviationsW
import Derived.Test.YtpdcifgphocllaaChecked
namespace Go.Proofs.Ytpdcifgphocllaa
open Go.RowKit Go.Proofs
set_option linter.unusedVariables false
set_option linter.unusedSimpArgs false

set_option maxRecDepth 100000 in
set_option maxHeartbeats 1000000 in
theorem ok_i_UsefulAbbrs {N : Nat} {list1 : List Abbr} {text4 : Str} {r : (List Int) × Int} (hm : i_UsefulAbbrs N list1 text4 = some r) (w : World) (v2 : Value) (hr3 : RdS w (cx w).Fz v2 fAbbr.rp list1) :
    Calls Try.prog 41 #[v2, str text4] w (RetG (cx w) fun u L => ∃ (u1 : Value), (u = tup [u1, .int .i64 r.2] ∧ L = [row u1 2 fI64 r.1])) := by
  unfold i_UsefulAbbrs at hm
  refine Calls.enter [v2, str text4] Try.func41 rfl Try.ntmps41 rfl ?_
  refine WJ.seq ?_
  refine WJ.reg ?_
  refine SJ.box (cs := [v2]) rfl (RdS.cells1 hr3) rfl fun g5 => ?_
  refine SJ.q (YldS.yld (y_assign rfl)) rfl ?_
  refine SJ.q (YldS.yld (y_assign rfl)) rfl ?_
  refine SJ.nil ?_
  refine PJ.next ?_
  refine WJ.seq ?_
  refine WJ.reg ?_
  refine SJ.q (YldS.yld (y_loadB (k := 0) (off := 0) (v := v2) rfl Try.isAgg56 rfl rfl)) rfl ?_
  refine SJ.q (YldS.yld (y_move rfl)) rfl ?_
  obtain ⟨r6, h7, hm⟩ := bindS hm
  refine SJ.call Try.call83 rfl (fun w hw => ok_i_noteCode h7 w _ (hr3.st hw)) rfl ?_
  rintro _ _ ⟨v8, rfl, rfl⟩
  refine SJ.q (YldS.yld (y_move rfl)) rfl ?_
  refine SJ.q (YldS.yld (y_extract rfl rfl)) rfl ?_
  refine SJ.q (YldS.yld (y_extract rfl rfl)) rfl ?_
  refine SJ.q (YldS.yld (y_assign rfl)) rfl ?_
  refine SJ.q (YldS.yld (y_assign rfl)) rfl ?_
  refine SJ.nil ?_
  refine PJ.next ?_
  refine WJ.seq ?_
  refine WJ.seq ?_
  refine WJ.quiet ?_
  refine QJ.step (YldS.yld (y_move rfl)) rfl ?_
  refine QJ.step (YldS.yld (y_bin rfl rfl rfl)) rfl ?_
  refine QJ.done ?_
  refine PJ.next ?_
  refine WJ.cond (t := (r6.2 != 0)) rfl (fun hb9 => ?_) (fun hb9 => ?_)
  · replace hm := ifT hm hb9
    refine WJ.seq ?_
    refine WJ.quiet ?_
    refine QJ.step (YldS.yld (y_move rfl)) rfl ?_
    refine QJ.step (YldS.yld (y_assign rfl)) rfl ?_
    refine QJ.step (YldS.yld (y_assign rfl)) rfl ?_
    refine QJ.done ?_
    refine PJ.next ?_
    refine WJ.ret ?_
    refine PJ.then_ret ?_
    refine PJ.nil_row 2 fI64 ?_
    obtain rfl := Option.some.inj hm
    refine PJ.sel (L' := [row (.slice none 0 0) 2 fI64 []]) [0] ⟨by decide, rfl⟩ ?_
    exact PJ.retn (vs := [(.slice none 0 0), .int .i64 r6.2]) Try.results41 ⟨rfl, rfl, trivial⟩ ⟨_, rfl, rfl⟩
  · replace hm := ifF hm hb9
    refine WJ.skip ?_
    refine PJ.next ?_
    refine WJ.seq ?_
    refine WJ.reg ?_
    refine SJ.makeMapV vI64 rfl fun g10 => ?_
    refine SJ.alloc (cs := [.map none]) Try.zeroValue109 rfl rfl fun g11 => ?_
    refine SJ.storeL (k := 0) (off := 0) (us := [.map (some g10)]) rfl rfl rfl rfl Try.sizeOf109 rfl rfl ?_
    refine SJ.nil ?_
    refine PJ.next ?_
    obtain ⟨kj13, hk14, hm⟩ := withK_open hm
    refine WJ.join (X := (List (Str × Int))) (fun (x : (List (Str × Int))) => kj13 x = some r) (fun (x : (List (Str × Int))) => [(2, pt g5 0), (8, pt g11 0)]) (fun (x : (List (Str × Int))) => [box g11 109 [.map (some g10)], mpV vI64 g10 x, box g5 56 [v2]]) ?_ ?_
    · clear hk14
      refine WJ.seq ?_
      refine WJ.quiet ?_
      refine QJ.step (YldS.yld (y_move rfl)) rfl ?_
      refine QJ.step (YldS.yld (y_lenRow (k := 2) rfl Try.runUnderlying43 rfl)) rfl ?_
      refine QJ.step (YldS.yld (y_move rfl)) rfl ?_
      refine QJ.done ?_
      refine PJ.next ?_
      refine WJ.block ?_
      refine WJ.sel (L' := (fun (x : (List (Str × Int)) × Int) => [box g11 109 [.map (some g10)], mpV vI64 g10 x.1, row v8 9 fStr r6.1, box g5 56 [v2]]) (([] : List (Str × Int)), 0)) [0, 1, 2, 3] ⟨by decide, rfl⟩ ?_
      refine WJ.sub (m' := (fun (x : (List (Str × Int)) × Int) => [(2, pt g5 0), (8, pt g11 0), (24, v8), (25, .int .i64 (List.length r6.1 : Int)), (26, .int .i64 x.2)]) (([] : List (Str × Int)), 0)) ⟨rfl, rfl, rfl, rfl, rfl, trivial⟩ ?_
      refine WJ.loop (X := (List (Str × Int)) × Int) (fun N (x : (List (Str × Int)) × Int) => i_UsefulAbbrs_l1 kj13 r6 N x.1 x.2 = some r) (fun (x : (List (Str × Int)) × Int) => [(2, pt g5 0), (8, pt g11 0), (24, v8), (25, .int .i64 (List.length r6.1 : Int)), (26, .int .i64 x.2)]) (fun (x : (List (Str × Int)) × Int) => [box g11 109 [.map (some g10)], mpV vI64 g10 x.1, row v8 9 fStr r6.1, box g5 56 [v2]]) ?_ N (([] : List (Str × Int)), 0) hm
      · rintro N ⟨mp15, x16⟩ hI
        have hm := hI; clear hI
        cases N with
        | zero => cases hm
        | succ N =>
        unfold i_UsefulAbbrs_l1 at hm
        refine WJ.seq ?_
        refine WJ.quiet ?_
        refine QJ.step (YldS.yld (y_bin rfl rfl rfl)) rfl ?_
        refine QJ.done ?_
        refine PJ.next ?_
        refine WJ.seq ?_
        refine WJ.cond (t := decide (x16 < (List.length r6.1 : Int))) rfl (fun hb17 => ?_) (fun hb17 => ?_)
        · replace hm := ifT hm hb17
          refine WJ.skip ?_
          refine PJ.next ?_
          refine WJ.seq ?_
          refine WJ.block ?_
          refine WJ.seq ?_
          refine WJ.quiet ?_
          obtain ⟨e18, h19, hm⟩ := bindS hm
          refine QJ.step (YldS.yld (y_ixRow (k := 2) (R := fStr) rfl Try.runUnderlying43 Try.sizeOf9 rfl rfl h19)) rfl ?_
          refine QJ.step (YldS.yld (y_loadR (k := 2) (i := (Int.toNat x16)) (off := 0) (u := str e18) rfl Try.isAgg9 rfl (idx_get h19) rfl)) rfl ?_
          refine QJ.step (YldS.yld (y_assign rfl)) rfl ?_
          refine QJ.done ?_
          refine PJ.next ?_
          refine WJ.reg ?_
          refine SJ.q (YldS.yld (y_loadB (k := 0) (off := 0) (v := .map (some g10)) rfl Try.isAgg109 rfl rfl)) rfl ?_
          refine SJ.q (YldS.yld (y_move rfl)) rfl ?_
          refine SJ.q (YldS.yld (y_lookupV (k := 1) (f := vI64) (z := (0 : Int)) rfl Try.underlying109 Try.underlying9 Try.zeroValue3 rfl rfl)) rfl ?_
          refine SJ.q (YldS.yld (y_bin rfl rfl rfl)) rfl ?_
          refine SJ.mapUpdateV (k := 1) (f := vI64) Try.underlying109 Try.underlying9 rfl rfl rfl rfl ?_
          refine SJ.nil ?_
          refine PJ.block_normal (PJ.next ?_)
          refine WJ.quiet ?_
          refine QJ.step (YldS.yld (y_bin rfl rfl rfl)) rfl ?_
          refine QJ.step (YldS.yld (y_move rfl)) rfl ?_
          refine QJ.done ?_
          exact PJ.round (msetV mp15 e18 (w64 ((Option.getD (mgetO mp15 e18) (0 : Int)) + 1)), w64 (x16 + 1)) [0, 1, 2, 3] hm ⟨rfl, rfl, rfl, rfl, rfl, trivial⟩ ⟨by decide, rfl⟩
        · replace hm := ifF hm hb17
          refine WJ.exit ?_
          refine PJ.then_exit (PJ.then_exit (PJ.block_exit ?_))
          exact PJ.joined mp15 [0, 1, 3] hm ⟨rfl, rfl, trivial⟩ ⟨by decide, rfl⟩
    · rintro mp12 hm
      subst hk14
      refine WJ.seq ?_
      refine WJ.reg ?_
      refine SJ.q (YldS.yld (y_func (bs := [.tmp 8, .tmp 2]) rfl)) rfl ?_
      refine SJ.alloc (cs := [.nilFunc]) Try.zeroValue110 rfl rfl fun g20 => ?_
      refine SJ.storeL (k := 0) (off := 0) (us := [.func (.func 90) #[] (List.toArray [pt g11 0, pt g5 0])]) rfl rfl rfl rfl Try.sizeOf110 rfl rfl ?_
      refine SJ.nil ?_
      refine PJ.next ?_
      refine WJ.seq ?_
      refine WJ.reg ?_
      refine SJ.buildSlice (R := fI64) (os := []) [] Try.runUnderlying27 Try.sizeOf2 Try.zeroValue2 rfl rfl rfl rfl rfl rfl fun v21 => ?_
      refine SJ.alloc (cs := [.slice none 0 0]) Try.zeroValue27 rfl rfl fun g22 => ?_
      refine SJ.rowCells (k := 1) rfl fun hc23 => ?_
      refine SJ.storeL (k := 0) (off := 0) (us := [v21]) rfl rfl rfl hc23.1 Try.sizeOf27 rfl (by simp [hc23.2]) ?_
      refine SJ.nil ?_
      refine PJ.next ?_
      obtain ⟨kj26, hk27, hm⟩ := withK_open hm
      refine WJ.join (X := (List Int) × Value) (fun (x : (List Int) × Value) => kj26 x.1 = some r) (fun (x : (List Int) × Value) => [(11, pt g20 0), (12, pt g22 0)]) (fun (x : (List Int) × Value) => [box g22 27 [x.2], row x.2 2 fI64 x.1, box g20 110 [.func (.func 90) #[] (List.toArray [pt g11 0, pt g5 0])], box g11 109 [.map (some g10)], mpV vI64 g10 mp12, box g5 56 [v2]]) ?_ ?_
      · clear hk27
        refine WJ.seq ?_
        refine WJ.quiet ?_
        refine QJ.step (YldS.yld (y_loadB (k := 5) (off := 0) (v := v2) rfl Try.isAgg56 rfl rfl)) rfl ?_
        refine QJ.step (YldS.yld (y_lenS Try.runUnderlying56 hr3 rfl)) rfl ?_
        refine QJ.step (YldS.yld (y_move rfl)) rfl ?_
        refine QJ.done ?_
        refine PJ.next ?_
        refine WJ.block ?_
        refine WJ.sel (L' := (fun (x : (List Int) × Value × Int) => [box g22 27 [x.2.1], row x.2.1 2 fI64 x.1, box g20 110 [.func (.func 90) #[] (List.toArray [pt g11 0, pt g5 0])], box g11 109 [.map (some g10)], mpV vI64 g10 mp12, box g5 56 [v2]]) ([], v21, 0)) [0, 1, 2, 3, 4, 5] ⟨by decide, rfl⟩ ?_
        refine WJ.sub (m' := (fun (x : (List Int) × Value × Int) => [(11, pt g20 0), (12, pt g22 0), (38, .int .i64 (List.length list1 : Int)), (39, .int .i64 x.2.2)]) ([], v21, 0)) ⟨rfl, rfl, rfl, rfl, trivial⟩ ?_
        refine WJ.loop (X := (List Int) × Value × Int) (fun N (x : (List Int) × Value × Int) => i_UsefulAbbrs_l2 kj26 list1 mp12 N x.1 x.2.2 = some r) (fun (x : (List Int) × Value × Int) => [(11, pt g20 0), (12, pt g22 0), (38, .int .i64 (List.length list1 : Int)), (39, .int .i64 x.2.2)]) (fun (x : (List Int) × Value × Int) => [box g22 27 [x.2.1], row x.2.1 2 fI64 x.1, box g20 110 [.func (.func 90) #[] (List.toArray [pt g11 0, pt g5 0])], box g11 109 [.map (some g10)], mpV vI64 g10 mp12, box g5 56 [v2]]) ?_ N ([], v21, 0) hm
        · rintro N ⟨l28, v29, x30⟩ hI
          have hm := hI; clear hI
          cases N with
          | zero => cases hm
          | succ N =>
          unfold i_UsefulAbbrs_l2 at hm
          refine WJ.seq ?_
          refine WJ.quiet ?_
          refine QJ.step (YldS.yld (y_bin rfl rfl rfl)) rfl ?_
          refine QJ.done ?_
          refine PJ.next ?_
          refine WJ.seq ?_
          refine WJ.cond (t := decide (x30 < (List.length list1 : Int))) rfl (fun hb31 => ?_) (fun hb31 => ?_)
          · replace hm := ifT hm hb31
            refine WJ.skip ?_
            refine PJ.next ?_
            obtain ⟨kj34, hk35, hm⟩ := withK_open hm
            refine WJ.join (X := (List Int) × Value) (fun (x : (List Int) × Value) => kj34 x.1 = some r) (fun (x : (List Int) × Value) => [(11, pt g20 0), (12, pt g22 0), (38, .int .i64 (List.length list1 : Int)), (39, .int .i64 x30)]) (fun (x : (List Int) × Value) => [box g22 27 [x.2], row x.2 2 fI64 x.1, box g20 110 [.func (.func 90) #[] (List.toArray [pt g11 0, pt g5 0])], box g11 109 [.map (some g10)], mpV vI64 g10 mp12, box g5 56 [v2]]) ?_ ?_
            · clear hk35
              refine WJ.block ?_
              refine WJ.seq ?_
              refine WJ.quiet ?_
              refine QJ.step (YldS.yld (y_move rfl)) rfl ?_
              refine QJ.step (YldS.yld (y_assign rfl)) rfl ?_
              refine QJ.done ?_
              refine PJ.next ?_
              refine WJ.seq ?_
              refine WJ.quiet ?_
              refine QJ.step (YldS.yld (y_loadB (k := 2) (off := 0) (v := .func (.func 90) #[] (List.toArray [pt g11 0, pt g5 0])) rfl Try.isAgg110 rfl rfl)) rfl ?_
              refine QJ.step (YldS.yld (y_move rfl)) rfl ?_
              obtain ⟨r36, h37, hm⟩ := bindS hm
              refine QJ.step (y_callV [.int .i64 x30] [pt g11 0, pt g5 0] [.int .i64 x30, pt g11 0, pt g5 0] rfl rfl Try.call90 rfl (RetG.quiet fun w hw => ok_i_UsefulAbbrs_c1 h37 w _ _ (hw.box_at (k := 3) rfl) (hw.map_at (k := 4) rfl) _ _ (hw.box_at (k := 5) rfl) (hr3.st hw))) rfl ?_
              refine QJ.step (YldS.yld (y_bin rfl rfl rfl)) rfl ?_
              refine QJ.done ?_
              refine PJ.next ?_
              refine WJ.cond (t := decide (r36 > 0)) rfl (fun hb38 => ?_) (fun hb38 => ?_)
              · replace hm := ifT hm hb38
                refine WJ.reg ?_
                refine SJ.q (YldS.yld (y_loadB (k := 0) (off := 0) (v := v29) rfl Try.isAgg27 rfl rfl)) rfl ?_
                refine SJ.q (YldS.yld (y_move rfl)) rfl ?_
                refine SJ.buildSlice (R := fI64) (os := [.tmp 47]) [x30] Try.runUnderlying27 Try.sizeOf2 Try.zeroValue2 rfl rfl rfl rfl rfl rfl fun v39 => ?_
                obtain ⟨l40, h41, hm⟩ := bindS hm
                refine SJ.append (k := 2) (R := fI64) h41 rfl Try.underlying27 el2 rfl rfl rfl (fun w hw => (hw.row_rd (k := 0) rfl)) rfl fun v42 => ?_
                refine SJ.rowCells (k := 2) rfl fun hc43 => ?_
                refine SJ.storeL (k := 1) (off := 0) (us := [v42]) rfl rfl rfl hc43.1 Try.sizeOf27 rfl (by simp [hc43.2]) ?_
                refine SJ.nil ?_
                refine PJ.block_normal ?_
                exact PJ.joined (l40, v42) [1, 2, 3, 4, 5, 6] hm ⟨rfl, rfl, rfl, rfl, trivial⟩ ⟨by decide, rfl⟩
              · replace hm := ifF hm hb38
                refine WJ.skip ?_
                refine PJ.block_normal ?_
                exact PJ.joined (l28, v29) [0, 1, 2, 3, 4, 5] hm ⟨rfl, rfl, rfl, rfl, trivial⟩ ⟨by decide, rfl⟩
            · rintro ⟨l32, v33⟩ hm
              subst hk35
              refine WJ.quiet ?_
              refine QJ.step (YldS.yld (y_bin rfl rfl rfl)) rfl ?_
              refine QJ.step (YldS.yld (y_move rfl)) rfl ?_
              refine QJ.done ?_
              exact PJ.round (l32, v33, w64 (x30 + 1)) [0, 1, 2, 3, 4, 5] hm ⟨rfl, rfl, rfl, rfl, trivial⟩ ⟨by decide, rfl⟩
          · replace hm := ifF hm hb31
            refine WJ.exit ?_
            refine PJ.then_exit (PJ.then_exit (PJ.block_exit ?_))
            exact PJ.joined (l28, v29) [0, 1, 2, 3, 4, 5] hm ⟨rfl, rfl, trivial⟩ ⟨by decide, rfl⟩
      · rintro ⟨l24, v25⟩ hm
        subst hk27
        refine WJ.seq ?_
        refine WJ.reg ?_
        refine SJ.q (YldS.yld (y_loadB (k := 0) (off := 0) (v := v25) rfl Try.isAgg27 rfl rfl)) rfl ?_
        refine SJ.q (YldS.yld (y_iface Try.runUnderlying27 rfl)) rfl ?_
        refine SJ.q (YldS.yld (y_func (bs := [.tmp 11, .tmp 12]) rfl)) rfl ?_
        obtain ⟨l44, h45, hm⟩ := bindS hm
        refine SJ.sortS (k := 1) (less := fun i j dk => i_UsefulAbbrs_c2 i j mp12 list1 dk) (lb := [pt g20 0, pt g22 0]) sortS65_27 Try.call65 Try.call91 h45 (fun dk i j x y hx hy => by simp only [i_UsefulAbbrs_c2, hx, hy, idx2_0, idx2_1]) rfl rfl (fun w dk hw i j b hm => Ret.same (ok_i_UsefulAbbrs_c2 hm w _ _ _ (hw.box_at (k := 3) rfl) (hw.map_at (k := 4) rfl) _ _ (hw.box_at (k := 5) rfl) (hr3.st hw) (hw.box_at (k := 2) rfl) _ _ (hw.box_at (k := 0) rfl) (hw.row_rd (k := 1) rfl))) rfl ?_
        refine SJ.nil ?_
        refine PJ.next ?_
        refine WJ.seq ?_
        refine WJ.quiet ?_
        refine QJ.step (YldS.yld (y_loadB (k := 0) (off := 0) (v := v25) rfl Try.isAgg27 rfl rfl)) rfl ?_
        refine QJ.step (YldS.yld (y_assign rfl)) rfl ?_
        refine QJ.step (YldS.yld (y_assign rfl)) rfl ?_
        refine QJ.done ?_
        refine PJ.next ?_
        refine WJ.ret ?_
        obtain rfl := Option.some.inj hm
        refine PJ.sel (L' := [row v25 2 fI64 l44]) [1] ⟨by decide, rfl⟩ ?_
        exact PJ.retn (vs := [v25, .int .i64 0]) Try.results41 ⟨rfl, rfl, trivial⟩ ⟨_, rfl, rfl⟩

set_option maxRecDepth 100000 in
set_option maxHeartbeats 1000000 in
theorem ok_s_l00Own {list1 : List Int} {r : (List Int)} (hm : s_l00Own list1 = some r) (w : World) (v2 : Value) (hr3 : RdS w (cx w).Fz v2 fI64.rp list1) :
    Calls Try.prog 67 #[v2] w (RetG (cx w) fun u L => ∃ (u1 : Value), (u = u1 ∧ L = [row u1 2 fI64 r])) := by
  unfold s_l00Own at hm
  refine Calls.enter [v2] Try.func67 rfl Try.ntmps67 rfl ?_
  refine WJ.seq ?_
  refine WJ.quiet ?_
  refine QJ.step (YldS.yld (y_assign rfl)) rfl ?_
  refine QJ.done ?_
  refine PJ.next ?_
  refine WJ.seq ?_
  refine WJ.reg ?_
  refine SJ.buildSlice (R := fI64) (os := []) [] Try.runUnderlying27 Try.sizeOf2 Try.zeroValue2 rfl rfl rfl rfl rfl rfl fun v4 => ?_
  refine SJ.q (YldS.yld (y_move rfl)) rfl ?_
  obtain ⟨l5, h6, hm⟩ := bindS hm
  refine SJ.append (k := 0) (R := fI64) h6 rfl Try.underlying27 el2 rfl rfl rfl (fun w hw => (hr3.st hw)) rfl fun v7 => ?_
  refine SJ.q (YldS.yld (y_assign rfl)) rfl ?_
  refine SJ.nil ?_
  refine PJ.next ?_
  refine WJ.ret ?_
  obtain rfl := Option.some.inj hm
  refine PJ.sel (L' := [row v7 2 fI64 l5]) [0] ⟨by decide, rfl⟩ ?_
  exact PJ.retn (vs := [v7]) Try.results67 ⟨rfl, trivial⟩ ⟨_, rfl, rfl⟩

set_option maxRecDepth 100000 in
set_option maxHeartbeats 1000000 in
theorem ok_s_UsefulAbbrs {N : Nat} {list1 : List Abbr} {text4 : Str} {r : (List Int) × Int} (hm : s_UsefulAbbrs N list1 text4 = some r) (w : World) (v2 : Value) (hr3 : RdS w (cx w).Fz v2 fAbbr.rp list1) :
    Calls Try.prog 42 #[v2, str text4] w (RetG (cx w) fun u L => ∃ (u1 : Value), (u = tup [u1, .int .i64 r.2] ∧ L = [row u1 2 fI64 r.1])) := by
  unfold s_UsefulAbbrs at hm
  refine Calls.enter [v2, str text4] Try.func42 rfl Try.ntmps42 rfl ?_
  refine WJ.seq ?_
  refine WJ.quiet ?_
  refine QJ.step (YldS.yld (y_assign rfl)) rfl ?_
  refine QJ.step (YldS.yld (y_assign rfl)) rfl ?_
  refine QJ.done ?_
  refine PJ.next ?_
  refine WJ.seq ?_
  refine WJ.reg ?_
  refine SJ.q (YldS.yld (y_move rfl)) rfl ?_
  refine SJ.q (YldS.yld (y_move rfl)) rfl ?_
  obtain ⟨r5, h6, hm⟩ := bindS hm
  refine SJ.call Try.call86 rfl (fun w hw => ok_s_l16Code h6 w _ (hr3.st hw)) rfl ?_
  rintro _ _ ⟨v7, rfl, rfl⟩
  refine SJ.q (YldS.yld (y_move rfl)) rfl ?_
  refine SJ.q (YldS.yld (y_extract rfl rfl)) rfl ?_
  refine SJ.q (YldS.yld (y_extract rfl rfl)) rfl ?_
  refine SJ.q (YldS.yld (y_assign rfl)) rfl ?_
  refine SJ.q (YldS.yld (y_assign rfl)) rfl ?_
  refine SJ.nil ?_
  refine PJ.next ?_
  refine WJ.seq ?_
  refine WJ.seq ?_
  refine WJ.quiet ?_
  refine QJ.step (YldS.yld (y_move rfl)) rfl ?_
  refine QJ.step (YldS.yld (y_bin rfl rfl rfl)) rfl ?_
  refine QJ.done ?_
  refine PJ.next ?_
  refine WJ.cond (t := (r5.2 != 0)) rfl (fun hb8 => ?_) (fun hb8 => ?_)
  · replace hm := ifT hm hb8
    refine WJ.seq ?_
    refine WJ.quiet ?_
    refine QJ.step (YldS.yld (y_move rfl)) rfl ?_
    refine QJ.step (YldS.yld (y_assign rfl)) rfl ?_
    refine QJ.step (YldS.yld (y_assign rfl)) rfl ?_
    refine QJ.done ?_
    refine PJ.next ?_
    refine WJ.ret ?_
    refine PJ.then_ret ?_
    refine PJ.nil_row 2 fI64 ?_
    obtain rfl := Option.some.inj hm
    refine PJ.sel (L' := [row (.slice none 0 0) 2 fI64 []]) [0] ⟨by decide, rfl⟩ ?_
    exact PJ.retn (vs := [(.slice none 0 0), .int .i64 r5.2]) Try.results42 ⟨rfl, rfl, trivial⟩ ⟨_, rfl, rfl⟩
  · replace hm := ifF hm hb8
    refine WJ.skip ?_
    refine PJ.next ?_
    refine WJ.seq ?_
    refine WJ.reg ?_
    refine SJ.buildSlice (R := fI64) (os := []) [] Try.runUnderlying27 Try.sizeOf2 Try.zeroValue2 rfl rfl rfl rfl rfl rfl fun v9 => ?_
    refine SJ.q (YldS.yld (y_assign rfl)) rfl ?_
    refine SJ.nil ?_
    refine PJ.next ?_
    obtain ⟨kj12, hk13, hm⟩ := withK_open hm
    refine WJ.join (X := (List Int) × Value) (fun (x : (List Int) × Value) => kj12 x.1 = some r) (fun (x : (List Int) × Value) => [(0, v2), (8, x.2)]) (fun (x : (List Int) × Value) => [row x.2 2 fI64 x.1]) ?_ ?_
    · clear hk13
      refine WJ.seq ?_
      refine WJ.quiet ?_
      refine QJ.step (YldS.yld (y_assign rfl)) rfl ?_
      refine QJ.done ?_
      refine PJ.next ?_
      refine WJ.block ?_
      refine WJ.sel (L' := (fun (x : (List Int) × Value × Int) => [row x.2.1 2 fI64 x.1, row v7 9 fStr r5.1]) ([], v9, 0)) [0, 1] ⟨by decide, rfl⟩ ?_
      refine WJ.sub (m' := (fun (x : (List Int) × Value × Int) => [(0, v2), (6, v7), (8, x.2.1), (9, .int .i64 x.2.2)]) ([], v9, 0)) ⟨rfl, rfl, rfl, rfl, trivial⟩ ?_
      refine WJ.loop (X := (List Int) × Value × Int) (fun N (x : (List Int) × Value × Int) => s_UsefulAbbrs_l1 kj12 list1 r5 N x.1 x.2.2 = some r) (fun (x : (List Int) × Value × Int) => [(0, v2), (6, v7), (8, x.2.1), (9, .int .i64 x.2.2)]) (fun (x : (List Int) × Value × Int) => [row x.2.1 2 fI64 x.1, row v7 9 fStr r5.1]) ?_ N ([], v9, 0) hm
      · rintro N ⟨l14, v15, i16⟩ hI
        have hm := hI; clear hI
        cases N with
        | zero => cases hm
        | succ N =>
        unfold s_UsefulAbbrs_l1 at hm
        refine WJ.seq ?_
        refine WJ.seq ?_
        refine WJ.quiet ?_
        refine QJ.step (YldS.yld (y_move rfl)) rfl ?_
        refine QJ.step (YldS.yld (y_move rfl)) rfl ?_
        refine QJ.step (YldS.yld (y_lenS Try.runUnderlying56 hr3 rfl)) rfl ?_
        refine QJ.step (YldS.yld (y_bin rfl rfl rfl)) rfl ?_
        refine QJ.done ?_
        refine PJ.next ?_
        refine WJ.cond (t := decide (i16 < (List.length list1 : Int))) rfl (fun hb17 => ?_) (fun hb17 => ?_)
        · replace hm := ifT hm hb17
          refine WJ.skip ?_
          refine PJ.next ?_
          obtain ⟨kj20, hk21, hm⟩ := withK_open hm
          refine WJ.join (X := (List Int) × Value) (fun (x : (List Int) × Value) => kj20 x.1 = some r) (fun (x : (List Int) × Value) => [(0, v2), (6, v7), (8, x.2), (9, .int .i64 i16)]) (fun (x : (List Int) × Value) => [row x.2 2 fI64 x.1, row v7 9 fStr r5.1]) ?_ ?_
          · clear hk21
            refine WJ.block ?_
            refine WJ.seq ?_
            refine WJ.quiet ?_
            refine QJ.step (YldS.yld (y_assign rfl)) rfl ?_
            refine QJ.done ?_
            refine PJ.next ?_
            obtain ⟨kj23, hk24, hm⟩ := withK_open hm
            refine WJ.join (X := Int) (fun (x : Int) => kj23 x = some r) (fun (x : Int) => [(0, v2), (6, v7), (8, v15), (9, .int .i64 i16), (10, .int .i64 x)]) (fun (x : Int) => [row v15 2 fI64 l14, row v7 9 fStr r5.1]) ?_ ?_
            · clear hk24
              refine WJ.seq ?_
              refine WJ.quiet ?_
              refine QJ.step (YldS.yld (y_assign rfl)) rfl ?_
              refine QJ.done ?_
              refine PJ.next ?_
              refine WJ.block ?_
              refine WJ.sel (L' := (fun (x : Int × Int) => [row v15 2 fI64 l14, row v7 9 fStr r5.1]) (0, 0)) [0, 1] ⟨by decide, rfl⟩ ?_
              refine WJ.sub (m' := (fun (x : Int × Int) => [(0, v2), (6, v7), (8, v15), (9, .int .i64 i16), (10, .int .i64 x.1), (11, .int .i64 x.2)]) (0, 0)) ⟨rfl, rfl, rfl, rfl, rfl, rfl, trivial⟩ ?_
              refine WJ.loop (X := Int × Int) (fun N (x : Int × Int) => s_UsefulAbbrs_l2 kj23 list1 r5 i16 N x.1 x.2 = some r) (fun (x : Int × Int) => [(0, v2), (6, v7), (8, v15), (9, .int .i64 i16), (10, .int .i64 x.1), (11, .int .i64 x.2)]) (fun (x : Int × Int) => [row v15 2 fI64 l14, row v7 9 fStr r5.1]) ?_ N (0, 0) hm
              · rintro N ⟨n25, k26⟩ hI
                have hm := hI; clear hI
                cases N with
                | zero => cases hm
                | succ N =>
                unfold s_UsefulAbbrs_l2 at hm
                refine WJ.seq ?_
                refine WJ.seq ?_
                refine WJ.quiet ?_
                refine QJ.step (YldS.yld (y_move rfl)) rfl ?_
                refine QJ.step (YldS.yld (y_move rfl)) rfl ?_
                refine QJ.step (YldS.yld (y_lenRow (k := 1) rfl Try.runUnderlying43 rfl)) rfl ?_
                refine QJ.step (YldS.yld (y_bin rfl rfl rfl)) rfl ?_
                refine QJ.done ?_
                refine PJ.next ?_
                refine WJ.cond (t := decide (k26 < (List.length r5.1 : Int))) rfl (fun hb27 => ?_) (fun hb27 => ?_)
                · replace hm := ifT hm hb27
                  refine WJ.skip ?_
                  refine PJ.next ?_
                  obtain ⟨kj29, hk30, hm⟩ := withK_open hm
                  refine WJ.join (X := Int) (fun (x : Int) => kj29 x = some r) (fun (x : Int) => [(0, v2), (6, v7), (8, v15), (9, .int .i64 i16), (10, .int .i64 x), (11, .int .i64 k26)]) (fun (x : Int) => [row v15 2 fI64 l14, row v7 9 fStr r5.1]) ?_ ?_
                  · clear hk30
                    refine WJ.block ?_
                    refine WJ.seq ?_
                    refine WJ.quiet_draw follows (by kernel_rfl) ?_
                    refine QJ.step (YldS.yld (y_move rfl)) rfl ?_
                    refine QJ.step (YldS.yld (y_move rfl)) rfl ?_
                    obtain ⟨e31, h32, hm⟩ := bindS hm
                    refine QJ.step (YldS.yld (y_ixRow (k := 1) (R := fStr) rfl Try.runUnderlying43 Try.sizeOf9 rfl rfl h32)) rfl ?_
                    refine QJ.step (YldS.yld (y_loadR (k := 1) (i := (Int.toNat k26)) (off := 0) (u := str e31) rfl Try.isAgg9 rfl (idx_get h32) rfl)) rfl ?_
                    refine QJ.step (YldS.yld (y_move rfl)) rfl ?_
                    refine QJ.step (YldS.yld (y_move rfl)) rfl ?_
                    obtain ⟨e33, h34, hm⟩ := bindS hm
                    obtain ⟨ad35, _, rfl, ha36, hy37⟩ := hr3.elem h34
                    refine QJ.step (YldS.yld (hy37 Try.runUnderlying56 Try.sizeOf64 rfl rfl)) rfl ?_
                    refine QJ.step (YldS.yld (y_fld (ad := ad35) fld64_1 rfl)) rfl ?_
                    refine QJ.step (YldS.yld (y_load1 (v := str e33.long) Try.isAgg9 (ha36.sub 1 1) St.frozenC rfl)) rfl ?_
                    refine QJ.step (YldS.yld (y_binS rfl rfl rfl)) rfl ?_
                    refine QJ.done ?_
                    refine PJ.next ?_
                    refine WJ.cond (t := (e31 == e33.long)) rfl (fun hb38 => ?_) (fun hb38 => ?_)
                    · replace hm := ifT hm hb38
                      refine WJ.quiet_draw follows (by kernel_rfl) ?_
                      refine QJ.step (YldS.yld (y_move rfl)) rfl ?_
                      refine QJ.step (YldS.yld (y_move rfl)) rfl ?_
                      refine QJ.step (YldS.yld (y_move rfl)) rfl ?_
                      obtain ⟨e39, h40, hm⟩ := bindS hm
                      obtain ⟨ad41, _, rfl, ha42, hy43⟩ := hr3.elem h40
                      refine QJ.step (YldS.yld (hy43 Try.runUnderlying56 Try.sizeOf64 rfl rfl)) rfl ?_
                      refine QJ.step (YldS.yld (y_fld (ad := ad41) fld64_1 rfl)) rfl ?_
                      refine QJ.step (YldS.yld (y_load1 (v := str e39.long) Try.isAgg9 (ha42.sub 1 1) St.frozenC rfl)) rfl ?_
                      refine QJ.step (YldS.yld (y_lenStr Try.runUnderlying9 rfl)) rfl ?_
                      refine QJ.step (YldS.yld (y_move rfl)) rfl ?_
                      refine QJ.step (YldS.yld (y_move rfl)) rfl ?_
                      obtain ⟨e44, h45, hm⟩ := bindS hm
                      obtain ⟨ad46, _, rfl, ha47, hy48⟩ := hr3.elem h45
                      refine QJ.step (YldS.yld (hy48 Try.runUnderlying56 Try.sizeOf64 rfl rfl)) rfl ?_
                      refine QJ.step (YldS.yld (y_fld (ad := ad46) fld64_0 rfl)) rfl ?_
                      refine QJ.step (YldS.yld (y_load1 (v := str e44.short) Try.isAgg9 (ha47.sub 0 1) St.frozenC rfl)) rfl ?_
                      refine QJ.step (YldS.yld (y_lenStr Try.runUnderlying9 rfl)) rfl ?_
                      refine QJ.step (YldS.yld (y_bin rfl rfl rfl)) rfl ?_
                      refine QJ.step (YldS.yld (y_bin rfl rfl rfl)) rfl ?_
                      refine QJ.step (YldS.yld (y_assign rfl)) rfl ?_
                      refine QJ.done ?_
                      refine PJ.block_normal ?_
                      exact PJ.joined (w64 (n25 + (w64 ((List.length e39.long : Int) - (List.length e44.short : Int))))) [0, 1] hm ⟨rfl, rfl, rfl, rfl, rfl, rfl, trivial⟩ ⟨by decide, rfl⟩
                    · replace hm := ifF hm hb38
                      refine WJ.skip ?_
                      refine PJ.block_normal ?_
                      exact PJ.joined n25 [0, 1] hm ⟨rfl, rfl, rfl, rfl, rfl, rfl, trivial⟩ ⟨by decide, rfl⟩
                  · rintro n28 hm
                    subst hk30
                    refine WJ.quiet ?_
                    refine QJ.step (YldS.yld (y_move rfl)) rfl ?_
                    refine QJ.step (YldS.yld (y_bin rfl rfl rfl)) rfl ?_
                    refine QJ.step (YldS.yld (y_assign rfl)) rfl ?_
                    refine QJ.done ?_
                    exact PJ.round (n28, w64 (k26 + 1)) [0, 1] hm ⟨rfl, rfl, rfl, rfl, rfl, rfl, trivial⟩ ⟨by decide, rfl⟩
                · replace hm := ifF hm hb27
                  refine WJ.exit ?_
                  refine PJ.then_exit (PJ.then_exit (PJ.block_exit ?_))
                  exact PJ.joined n25 [0, 1] hm ⟨rfl, rfl, rfl, rfl, rfl, trivial⟩ ⟨by decide, rfl⟩
            · rintro n22 hm
              subst hk24
              refine WJ.reg ?_
              refine SJ.q (YldS.yld (y_move rfl)) rfl ?_
              refine SJ.q (YldS.yld (y_move rfl)) rfl ?_
              refine SJ.buildSlice (R := fI64) (os := [.tmp 64]) [n22] Try.runUnderlying27 Try.sizeOf2 Try.zeroValue2 rfl rfl rfl rfl rfl rfl fun v49 => ?_
              obtain ⟨l50, h51, hm⟩ := bindS hm
              refine SJ.append (k := 1) (R := fI64) h51 rfl Try.underlying27 el2 rfl rfl rfl (fun w hw => (hw.row_rd (k := 0) rfl)) rfl fun v52 => ?_
              refine SJ.q (YldS.yld (y_assign rfl)) rfl ?_
              refine SJ.nil ?_
              refine PJ.block_normal ?_
              exact PJ.joined (l50, v52) [1, 2] hm ⟨rfl, rfl, rfl, rfl, trivial⟩ ⟨by decide, rfl⟩
          · rintro ⟨l18, v19⟩ hm
            subst hk21
            refine WJ.quiet ?_
            refine QJ.step (YldS.yld (y_move rfl)) rfl ?_
            refine QJ.step (YldS.yld (y_bin rfl rfl rfl)) rfl ?_
            refine QJ.step (YldS.yld (y_assign rfl)) rfl ?_
            refine QJ.done ?_
            exact PJ.round (l18, v19, w64 (i16 + 1)) [0, 1] hm ⟨rfl, rfl, rfl, rfl, trivial⟩ ⟨by decide, rfl⟩
        · replace hm := ifF hm hb17
          refine WJ.exit ?_
          refine PJ.then_exit (PJ.then_exit (PJ.block_exit ?_))
          exact PJ.joined (l14, v15) [0] hm ⟨rfl, rfl, trivial⟩ ⟨by decide, rfl⟩
    · rintro ⟨l10, v11⟩ hm
      subst hk13
      refine WJ.seq ?_
      refine WJ.reg ?_
      refine SJ.buildSlice (R := fI64) (os := []) [] Try.runUnderlying27 Try.sizeOf2 Try.zeroValue2 rfl rfl rfl rfl rfl rfl fun v53 => ?_
      refine SJ.q (YldS.yld (y_assign rfl)) rfl ?_
      refine SJ.nil ?_
      refine PJ.next ?_
      obtain ⟨kj56, hk57, hm⟩ := withK_open hm
      refine WJ.join (X := (List Int) × Value) (fun (x : (List Int) × Value) => kj56 x.1 = some r) (fun (x : (List Int) × Value) => [(12, x.2)]) (fun (x : (List Int) × Value) => [row x.2 2 fI64 x.1]) ?_ ?_
      · clear hk57
        refine WJ.seq ?_
        refine WJ.quiet ?_
        refine QJ.step (YldS.yld (y_assign rfl)) rfl ?_
        refine QJ.done ?_
        refine PJ.next ?_
        refine WJ.block ?_
        refine WJ.sel (L' := (fun (x : (List Int) × Value × Int) => [row x.2.1 2 fI64 x.1, row v11 2 fI64 l10]) ([], v53, 0)) [0, 1] ⟨by decide, rfl⟩ ?_
        refine WJ.sub (m' := (fun (x : (List Int) × Value × Int) => [(0, v2), (8, v11), (12, x.2.1), (13, .int .i64 x.2.2)]) ([], v53, 0)) ⟨rfl, rfl, rfl, rfl, trivial⟩ ?_
        refine WJ.loop (X := (List Int) × Value × Int) (fun N (x : (List Int) × Value × Int) => s_UsefulAbbrs_l3 kj56 list1 l10 N x.1 x.2.2 = some r) (fun (x : (List Int) × Value × Int) => [(0, v2), (8, v11), (12, x.2.1), (13, .int .i64 x.2.2)]) (fun (x : (List Int) × Value × Int) => [row x.2.1 2 fI64 x.1, row v11 2 fI64 l10]) ?_ N ([], v53, 0) hm
        · rintro N ⟨l58, v59, i60⟩ hI
          have hm := hI; clear hI
          cases N with
          | zero => cases hm
          | succ N =>
          unfold s_UsefulAbbrs_l3 at hm
          refine WJ.seq ?_
          refine WJ.seq ?_
          refine WJ.quiet ?_
          refine QJ.step (YldS.yld (y_move rfl)) rfl ?_
          refine QJ.step (YldS.yld (y_move rfl)) rfl ?_
          refine QJ.step (YldS.yld (y_lenS Try.runUnderlying56 hr3 rfl)) rfl ?_
          refine QJ.step (YldS.yld (y_bin rfl rfl rfl)) rfl ?_
          refine QJ.done ?_
          refine PJ.next ?_
          refine WJ.cond (t := decide (i60 < (List.length list1 : Int))) rfl (fun hb61 => ?_) (fun hb61 => ?_)
          · replace hm := ifT hm hb61
            refine WJ.skip ?_
            refine PJ.next ?_
            obtain ⟨kj64, hk65, hm⟩ := withK_open hm
            refine WJ.join (X := (List Int) × Value) (fun (x : (List Int) × Value) => kj64 x.1 = some r) (fun (x : (List Int) × Value) => [(0, v2), (8, v11), (12, x.2), (13, .int .i64 i60)]) (fun (x : (List Int) × Value) => [row x.2 2 fI64 x.1, row v11 2 fI64 l10]) ?_ ?_
            · clear hk65
              refine WJ.block ?_
              refine WJ.seq ?_
              refine WJ.seq ?_
              refine WJ.quiet ?_
              refine QJ.step (YldS.yld (y_move rfl)) rfl ?_
              refine QJ.step (YldS.yld (y_move rfl)) rfl ?_
              obtain ⟨e66, h67, hm⟩ := bindS hm
              refine QJ.step (YldS.yld (y_ixRow (k := 1) (R := fI64) rfl Try.runUnderlying27 Try.sizeOf2 rfl rfl h67)) rfl ?_
              refine QJ.step (YldS.yld (y_loadR (k := 1) (i := (Int.toNat i60)) (off := 0) (u := .int .i64 e66) rfl Try.isAgg2 rfl (idx_get h67) rfl)) rfl ?_
              refine QJ.step (YldS.yld (y_bin rfl rfl rfl)) rfl ?_
              refine QJ.done ?_
              refine PJ.next ?_
              refine WJ.cond (t := (e66 == 0)) rfl (fun hb68 => ?_) (fun hb68 => ?_)
              · replace hm := ifT hm hb68
                refine WJ.exit ?_
                refine PJ.then_exit (PJ.block_exit ?_)
                exact PJ.joined (l58, v59) [0, 1] hm ⟨rfl, rfl, rfl, rfl, trivial⟩ ⟨by decide, rfl⟩
              · replace hm := ifF hm hb68
                refine WJ.skip ?_
                refine PJ.next ?_
                refine WJ.seq ?_
                refine WJ.quiet ?_
                refine QJ.step (YldS.yld (y_move rfl)) rfl ?_
                refine QJ.step (YldS.yld (y_lenRow (k := 0) rfl Try.runUnderlying27 rfl)) rfl ?_
                refine QJ.step (YldS.yld (y_assign rfl)) rfl ?_
                refine QJ.done ?_
                refine PJ.next ?_
                obtain ⟨kj70, hk71, hm⟩ := withK_open hm
                refine WJ.join (X := Int) (fun (x : Int) => kj70 x = some r) (fun (x : Int) => [(0, v2), (8, v11), (12, v59), (13, .int .i64 i60), (14, .int .i64 x)]) (fun (x : Int) => [row v59 2 fI64 l58, row v11 2 fI64 l10]) ?_ ?_
                · clear hk71
                  refine WJ.block ?_
                  refine WJ.sel (L' := (fun (x : Int) => [row v59 2 fI64 l58, row v11 2 fI64 l10]) (List.length l58 : Int)) [0, 1] ⟨by decide, rfl⟩ ?_
                  refine WJ.sub (m' := (fun (x : Int) => [(0, v2), (8, v11), (12, v59), (13, .int .i64 i60), (14, .int .i64 x)]) (List.length l58 : Int)) ⟨rfl, rfl, rfl, rfl, rfl, trivial⟩ ?_
                  refine WJ.loop (X := Int) (fun N (x : Int) => s_UsefulAbbrs_l4 kj70 l10 l58 i60 N x = some r) (fun (x : Int) => [(0, v2), (8, v11), (12, v59), (13, .int .i64 i60), (14, .int .i64 x)]) (fun (x : Int) => [row v59 2 fI64 l58, row v11 2 fI64 l10]) ?_ N (List.length l58 : Int) hm
                  · rintro N k72 hI
                    have hm := hI; clear hI
                    cases N with
                    | zero => cases hm
                    | succ N =>
                    unfold s_UsefulAbbrs_l4 at hm
                    refine WJ.seq ?_
                    refine WJ.seq ?_
                    refine WJ.quiet_draw follows (by kernel_rfl) ?_
                    refine QJ.step (YldS.yld (y_move rfl)) rfl ?_
                    refine QJ.step (YldS.yld (y_bin rfl rfl rfl)) rfl ?_
                    refine QJ.step (YldS.yld (y_move rfl)) rfl ?_
                    obtain ⟨t73, h74, hm⟩ := bindS hm
                    refine QJ.cut 14 [(0, v2), (8, v11), (12, v59), (13, .int .i64 i60), (14, .int .i64 k72), (97, .bool t73)] ?_ ?_
                    · rcases Bool.eq_false_or_eq_true (decide (k72 > 0)) with hb75 | hb75
                      · replace h74 := andT h74 hb75
                        refine QJ.on rfl rfl (cB hb75) (YldS.yld (y_move rfl)) rfl ?_
                        refine QJ.on rfl rfl (cB hb75) (YldS.yld (y_move rfl)) rfl ?_
                        refine QJ.on rfl rfl (cB hb75) (YldS.yld (y_move rfl)) rfl ?_
                        refine QJ.on rfl rfl (cB hb75) (YldS.yld (y_bin rfl rfl rfl)) rfl ?_
                        obtain ⟨e76, h77, h74⟩ := bindS h74
                        refine QJ.on rfl rfl (cB hb75) (YldS.yld (y_ixRow (k := 0) (R := fI64) rfl Try.runUnderlying27 Try.sizeOf2 rfl rfl h77)) rfl ?_
                        refine QJ.on rfl rfl (cB hb75) (YldS.yld (y_loadR (k := 0) (i := (Int.toNat (w64 (k72 - 1)))) (off := 0) (u := .int .i64 e76) rfl Try.isAgg2 rfl (idx_get h77) rfl)) rfl ?_
                        obtain ⟨e78, h79, h74⟩ := bindS h74
                        refine QJ.on rfl rfl (cB hb75) (YldS.yld (y_ixRow (k := 1) (R := fI64) rfl Try.runUnderlying27 Try.sizeOf2 rfl rfl h79)) rfl ?_
                        refine QJ.on rfl rfl (cB hb75) (YldS.yld (y_loadR (k := 1) (i := (Int.toNat e76)) (off := 0) (u := .int .i64 e78) rfl Try.isAgg2 rfl (idx_get h79) rfl)) rfl ?_
                        refine QJ.on rfl rfl (cB hb75) (YldS.yld (y_move rfl)) rfl ?_
                        refine QJ.on rfl rfl (cB hb75) (YldS.yld (y_move rfl)) rfl ?_
                        obtain ⟨e80, h81, h74⟩ := bindS h74
                        refine QJ.on rfl rfl (cB hb75) (YldS.yld (y_ixRow (k := 1) (R := fI64) rfl Try.runUnderlying27 Try.sizeOf2 rfl rfl h81)) rfl ?_
                        refine QJ.on rfl rfl (cB hb75) (YldS.yld (y_loadR (k := 1) (i := (Int.toNat i60)) (off := 0) (u := .int .i64 e80) rfl Try.isAgg2 rfl (idx_get h81) rfl)) rfl ?_
                        refine QJ.on rfl rfl (cB hb75) (YldS.yld (y_bin rfl rfl rfl)) rfl ?_
                        refine QJ.step (YldS.yld (y_pick_t (cB hb75) rfl)) rfl ?_
                        obtain rfl := Option.some.inj h74
                        exact QJ.cut_end ⟨rfl, rfl, rfl, rfl, rfl, rfl, trivial⟩
                      · obtain rfl := andF h74 hb75
                        refine QJ.off rfl rfl (cB hb75) rfl rfl ?_
                        refine QJ.off rfl rfl (cB hb75) rfl rfl ?_
                        refine QJ.off rfl rfl (cB hb75) rfl rfl ?_
                        refine QJ.off rfl rfl (cB hb75) rfl rfl ?_
                        refine QJ.off rfl rfl (cB hb75) rfl rfl ?_
                        refine QJ.off rfl rfl (cB hb75) rfl rfl ?_
                        refine QJ.off rfl rfl (cB hb75) rfl rfl ?_
                        refine QJ.off rfl rfl (cB hb75) rfl rfl ?_
                        refine QJ.off rfl rfl (cB hb75) rfl rfl ?_
                        refine QJ.off rfl rfl (cB hb75) rfl rfl ?_
                        refine QJ.off rfl rfl (cB hb75) rfl rfl ?_
                        refine QJ.off rfl rfl (cB hb75) rfl rfl ?_
                        refine QJ.off rfl rfl (cB hb75) rfl rfl ?_
                        refine QJ.step (YldS.yld (y_pick_f (cB hb75) rfl)) rfl ?_
                        exact QJ.cut_end ⟨rfl, rfl, rfl, rfl, rfl, rfl, trivial⟩
                    refine QJ.done ?_
                    refine PJ.next ?_
                    refine WJ.cond (t := t73) rfl (fun hb82 => ?_) (fun hb82 => ?_)
                    · replace hm := ifT hm hb82
                      refine WJ.skip ?_
                      refine PJ.next ?_
                      refine WJ.block ?_
                      refine WJ.quiet ?_
                      refine QJ.step (YldS.yld (y_move rfl)) rfl ?_
                      refine QJ.step (YldS.yld (y_bin rfl rfl rfl)) rfl ?_
                      refine QJ.step (YldS.yld (y_assign rfl)) rfl ?_
                      refine QJ.done ?_
                      refine PJ.block_normal ?_
                      exact PJ.round (w64 (k72 - 1)) [0, 1] hm ⟨rfl, rfl, rfl, rfl, rfl, trivial⟩ ⟨by decide, rfl⟩
                    · replace hm := ifF hm hb82
                      refine WJ.exit ?_
                      refine PJ.then_exit (PJ.then_exit (PJ.block_exit ?_))
                      exact PJ.joined k72 [0, 1] hm ⟨rfl, rfl, rfl, rfl, rfl, trivial⟩ ⟨by decide, rfl⟩
                · rintro k69 hm
                  subst hk71
                  refine WJ.seq ?_
                  refine WJ.reg ?_
                  refine SJ.q (YldS.yld (y_move rfl)) rfl ?_
                  refine SJ.q (YldS.yld (y_move rfl)) rfl ?_
                  obtain ⟨l83, h84, hm⟩ := bindS hm
                  refine SJ.q (YldS.yld (y_slcRow (i := none) (j := some k69) (k := 0) h84 rfl Try.runUnderlying27 Try.sizeOf2 rfl trivial ⟨_, rfl⟩)) rfl ?_
                  obtain ⟨r85, h86, hm⟩ := bindS hm
                  refine SJ.call Try.call67 rfl (fun w hw => ok_s_l00Own h86 w _ (hw.slc_rd (k := 0) (i := none) (j := some k69) rfl h84)) rfl ?_
                  rintro v87 _ ⟨_, rfl, rfl⟩
                  refine SJ.q (YldS.yld (y_move rfl)) rfl ?_
                  refine SJ.buildSlice (R := fI64) (os := [.tmp 104]) [i60] Try.runUnderlying27 Try.sizeOf2 Try.zeroValue2 rfl rfl rfl rfl rfl rfl fun v88 => ?_
                  obtain ⟨l89, h90, hm⟩ := bindS hm
                  refine SJ.append (k := 1) (R := fI64) h90 rfl Try.underlying27 el2 rfl rfl rfl (fun w hw => (hw.row_rd (k := 0) rfl)) rfl fun v91 => ?_
                  refine SJ.q (YldS.yld (y_assign rfl)) rfl ?_
                  refine SJ.nil ?_
                  refine PJ.next ?_
                  refine WJ.reg ?_
                  refine SJ.q (YldS.yld (y_move rfl)) rfl ?_
                  refine SJ.q (YldS.yld (y_move rfl)) rfl ?_
                  refine SJ.q (YldS.yld (y_move rfl)) rfl ?_
                  obtain ⟨l92, h93, hm⟩ := bindS hm
                  refine SJ.q (YldS.yld (y_slcRow (i := some k69) (j := none) (k := 2) h93 rfl Try.runUnderlying27 Try.sizeOf2 rfl ⟨_, rfl⟩ trivial)) rfl ?_
                  obtain ⟨l94, h95, hm⟩ := bindS hm
                  refine SJ.append (k := 1) (R := fI64) h95 rfl Try.underlying27 el2 rfl rfl rfl (fun w hw => (hw.slc_rd (k := 2) (i := some k69) (j := none) rfl h93)) rfl fun v96 => ?_
                  refine SJ.q (YldS.yld (y_assign rfl)) rfl ?_
                  refine SJ.nil ?_
                  refine PJ.block_normal ?_
                  exact PJ.joined (l94, v96) [1, 3] hm ⟨rfl, rfl, rfl, rfl, trivial⟩ ⟨by decide, rfl⟩
            · rintro ⟨l62, v63⟩ hm
              subst hk65
              refine WJ.quiet ?_
              refine QJ.step (YldS.yld (y_move rfl)) rfl ?_
              refine QJ.step (YldS.yld (y_bin rfl rfl rfl)) rfl ?_
              refine QJ.step (YldS.yld (y_assign rfl)) rfl ?_
              refine QJ.done ?_
              exact PJ.round (l62, v63, w64 (i60 + 1)) [0, 1] hm ⟨rfl, rfl, rfl, rfl, trivial⟩ ⟨by decide, rfl⟩
          · replace hm := ifF hm hb61
            refine WJ.exit ?_
            refine PJ.then_exit (PJ.then_exit (PJ.block_exit ?_))
            exact PJ.joined (l58, v59) [0] hm ⟨rfl, trivial⟩ ⟨by decide, rfl⟩
      · rintro ⟨l54, v55⟩ hm
        subst hk57
        refine WJ.seq ?_
        refine WJ.quiet ?_
        refine QJ.step (YldS.yld (y_move rfl)) rfl ?_
        refine QJ.step (YldS.yld (y_assign rfl)) rfl ?_
        refine QJ.step (YldS.yld (y_assign rfl)) rfl ?_
        refine QJ.done ?_
        refine PJ.next ?_
        refine WJ.ret ?_
        obtain rfl := Option.some.inj hm
        refine PJ.sel (L' := [row v55 2 fI64 l54]) [0] ⟨by decide, rfl⟩ ?_
        exact PJ.retn (vs := [v55, .int .i64 0]) Try.results42 ⟨rfl, rfl, trivial⟩ ⟨_, rfl, rfl⟩

set_option maxRecDepth 100000 in
set_option maxHeartbeats 1000000 in
theorem ok_i_DoubtfulAbbrs {N : Nat} {list1 : List Abbr} {r : (List Int) × Int} (hm : i_DoubtfulAbbrs N list1 = some r) (w : World) (v2 : Value) (hr3 : RdS w (cx w).Fz v2 fAbbr.rp list1) :
    Calls Try.prog 43 #[v2] w (RetG (cx w) fun u L => ∃ (u1 : Value), (u = tup [u1, .int .i64 r.2] ∧ L = [row u1 2 fI64 r.1])) := by
  unfold i_DoubtfulAbbrs at hm
  refine Calls.enter [v2] Try.func43 rfl Try.ntmps43 rfl ?_
  refine WJ.seq ?_
  refine WJ.quiet ?_
  refine QJ.step (YldS.yld (y_assign rfl)) rfl ?_
  refine QJ.step (YldS.yld (y_assign rfl)) rfl ?_
  refine QJ.done ?_
  refine PJ.next ?_
  refine WJ.seq ?_
  refine WJ.seq ?_
  refine WJ.quiet ?_
  refine QJ.step (YldS.yld (y_move rfl)) rfl ?_
  obtain ⟨r4, h5, hm⟩ := bindS hm
  refine QJ.step (y_call Try.call57 rfl (RetG.quiet fun w hw => ok_i_ValidAbbrs h5 w _ (hr3.st hw))) rfl ?_
  refine QJ.step (YldS.yld (y_not rfl)) rfl ?_
  refine QJ.done ?_
  refine PJ.next ?_
  refine WJ.cond (t := !r4) rfl (fun hb6 => ?_) (fun hb6 => ?_)
  · replace hm := ifT hm hb6
    refine WJ.seq ?_
    refine WJ.quiet ?_
    refine QJ.step (YldS.yld (y_assign rfl)) rfl ?_
    refine QJ.step (YldS.yld (y_assign rfl)) rfl ?_
    refine QJ.done ?_
    refine PJ.next ?_
    refine WJ.ret ?_
    refine PJ.then_ret ?_
    refine PJ.nil_row 2 fI64 ?_
    obtain rfl := Option.some.inj hm
    refine PJ.sel (L' := [row (.slice none 0 0) 2 fI64 []]) [0] ⟨by decide, rfl⟩ ?_
    exact PJ.retn (vs := [(.slice none 0 0), .int .i64 1]) Try.results43 ⟨rfl, rfl, trivial⟩ ⟨_, rfl, rfl⟩
  · replace hm := ifF hm hb6
    refine WJ.skip ?_
    refine PJ.next ?_
    refine WJ.seq ?_
    refine WJ.reg ?_
    refine SJ.makeMap rfl fun g7 => ?_
    refine SJ.q (YldS.yld (y_assign rfl)) rfl ?_
    refine SJ.nil ?_
    refine PJ.next ?_
    obtain ⟨kj9, hk10, hm⟩ := withK_open hm
    refine WJ.join (X := (List (Str × Bool))) (fun (x : (List (Str × Bool))) => kj9 x = some r) (fun (x : (List (Str × Bool))) => [(0, v2), (4, .map (some g7))]) (fun (x : (List (Str × Bool))) => [mp g7 x]) ?_ ?_
    · clear hk10
      refine WJ.seq ?_
      refine WJ.quiet ?_
      refine QJ.step (YldS.yld (y_move rfl)) rfl ?_
      refine QJ.step (YldS.yld (y_lenS Try.runUnderlying56 hr3 rfl)) rfl ?_
      refine QJ.step (YldS.yld (y_move rfl)) rfl ?_
      refine QJ.done ?_
      refine PJ.next ?_
      refine WJ.block ?_
      refine WJ.sel (L' := (fun (x : (List (Str × Bool)) × Int) => [mp g7 x.1]) ([], 0)) [0] ⟨by decide, rfl⟩ ?_
      refine WJ.sub (m' := (fun (x : (List (Str × Bool)) × Int) => [(0, v2), (4, .map (some g7)), (14, v2), (15, .int .i64 (List.length list1 : Int)), (16, .int .i64 x.2)]) ([], 0)) ⟨rfl, rfl, rfl, rfl, rfl, trivial⟩ ?_
      refine WJ.loop (X := (List (Str × Bool)) × Int) (fun N (x : (List (Str × Bool)) × Int) => i_DoubtfulAbbrs_l1 kj9 list1 N x.1 x.2 = some r) (fun (x : (List (Str × Bool)) × Int) => [(0, v2), (4, .map (some g7)), (14, v2), (15, .int .i64 (List.length list1 : Int)), (16, .int .i64 x.2)]) (fun (x : (List (Str × Bool)) × Int) => [mp g7 x.1]) ?_ N ([], 0) hm
      · rintro N ⟨mp11, x12⟩ hI
        have hm := hI; clear hI
        cases N with
        | zero => cases hm
        | succ N =>
        unfold i_DoubtfulAbbrs_l1 at hm
        refine WJ.seq ?_
        refine WJ.quiet ?_
        refine QJ.step (YldS.yld (y_bin rfl rfl rfl)) rfl ?_
        refine QJ.done ?_
        refine PJ.next ?_
        refine WJ.seq ?_
        refine WJ.cond (t := decide (x12 < (List.length list1 : Int))) rfl (fun hb13 => ?_) (fun hb13 => ?_)
        · replace hm := ifT hm hb13
          refine WJ.skip ?_
          refine PJ.next ?_
          refine WJ.seq ?_
          refine WJ.block ?_
          refine WJ.seq ?_
          refine WJ.reg ?_
          obtain ⟨e14, h15, hm⟩ := bindS hm
          obtain ⟨ad16, _, rfl, ha17, hy18⟩ := hr3.elem h15
          refine SJ.q (YldS.yld (hy18 Try.runUnderlying56 Try.sizeOf64 rfl rfl)) rfl ?_
          refine SJ.q (YldS.yld (y_loadN Try.isAgg64 Try.sizeOf64 rfl ha17 St.frozenC rfl)) rfl ?_
          refine SJ.alloc (cs := [str [], str []]) Try.zeroValue64 rfl rfl fun g19 => ?_
          refine SJ.storeL (k := 0) (off := 0) (us := [str e14.short, str e14.long]) rfl rfl rfl rfl Try.sizeOf64 rfl rfl ?_
          refine SJ.nil ?_
          refine PJ.next ?_
          refine WJ.reg ?_
          refine SJ.q (YldS.yld (y_move rfl)) rfl ?_
          refine SJ.q (YldS.yld (y_fldB (o := 0) fld64_1 rfl)) rfl ?_
          refine SJ.q (YldS.yld (y_loadB (k := 0) (off := 1) (v := str e14.long) rfl Try.isAgg9 rfl rfl)) rfl ?_
          refine SJ.mapUpdateSB (k := 1) Try.underlying111 Try.underlying9 rfl rfl rfl rfl ?_
          refine SJ.nil ?_
          refine PJ.block_normal (PJ.next ?_)
          refine WJ.quiet ?_
          refine QJ.step (YldS.yld (y_bin rfl rfl rfl)) rfl ?_
          refine QJ.step (YldS.yld (y_move rfl)) rfl ?_
          refine QJ.done ?_
          exact PJ.round (mset mp11 e14.long true, w64 (x12 + 1)) [1] hm ⟨rfl, rfl, rfl, rfl, rfl, trivial⟩ ⟨by decide, rfl⟩
        · replace hm := ifF hm hb13
          refine WJ.exit ?_
          refine PJ.then_exit (PJ.then_exit (PJ.block_exit ?_))
          exact PJ.joined mp11 [0] hm ⟨rfl, rfl, trivial⟩ ⟨by decide, rfl⟩
    · rintro mp8 hm
      subst hk10
      refine WJ.seq ?_
      refine WJ.reg ?_
      refine SJ.buildSlice (R := fI64) (os := []) [] Try.runUnderlying27 Try.sizeOf2 Try.zeroValue2 rfl rfl rfl rfl rfl rfl fun v20 => ?_
      refine SJ.q (YldS.yld (y_assign rfl)) rfl ?_
      refine SJ.nil ?_
      refine PJ.next ?_
      obtain ⟨kj23, hk24, hm⟩ := withK_open hm
      refine WJ.join (X := (List Int) × Value) (fun (x : (List Int) × Value) => kj23 x.1 = some r) (fun (x : (List Int) × Value) => [(7, x.2)]) (fun (x : (List Int) × Value) => [row x.2 2 fI64 x.1]) ?_ ?_
      · clear hk24
        refine WJ.seq ?_
        refine WJ.quiet ?_
        refine QJ.step (YldS.yld (y_move rfl)) rfl ?_
        refine QJ.step (YldS.yld (y_lenS Try.runUnderlying56 hr3 rfl)) rfl ?_
        refine QJ.step (YldS.yld (y_move rfl)) rfl ?_
        refine QJ.done ?_
        refine PJ.next ?_
        refine WJ.block ?_
        refine WJ.sel (L' := (fun (x : (List Int) × Value × Int) => [row x.2.1 2 fI64 x.1, mp g7 mp8]) ([], v20, 0)) [0, 1] ⟨by decide, rfl⟩ ?_
        refine WJ.sub (m' := (fun (x : (List Int) × Value × Int) => [(4, .map (some g7)), (7, x.2.1), (25, v2), (26, .int .i64 (List.length list1 : Int)), (27, .int .i64 x.2.2)]) ([], v20, 0)) ⟨rfl, rfl, rfl, rfl, rfl, trivial⟩ ?_
        refine WJ.loop (X := (List Int) × Value × Int) (fun N (x : (List Int) × Value × Int) => i_DoubtfulAbbrs_l2 kj23 list1 mp8 N x.1 x.2.2 = some r) (fun (x : (List Int) × Value × Int) => [(4, .map (some g7)), (7, x.2.1), (25, v2), (26, .int .i64 (List.length list1 : Int)), (27, .int .i64 x.2.2)]) (fun (x : (List Int) × Value × Int) => [row x.2.1 2 fI64 x.1, mp g7 mp8]) ?_ N ([], v20, 0) hm
        · rintro N ⟨l25, v26, x27⟩ hI
          have hm := hI; clear hI
          cases N with
          | zero => cases hm
          | succ N =>
          unfold i_DoubtfulAbbrs_l2 at hm
          refine WJ.seq ?_
          refine WJ.quiet ?_
          refine QJ.step (YldS.yld (y_bin rfl rfl rfl)) rfl ?_
          refine QJ.done ?_
          refine PJ.next ?_
          refine WJ.seq ?_
          refine WJ.cond (t := decide (x27 < (List.length list1 : Int))) rfl (fun hb28 => ?_) (fun hb28 => ?_)
          · replace hm := ifT hm hb28
            refine WJ.skip ?_
            refine PJ.next ?_
            obtain ⟨kj31, hk32, hm⟩ := withK_open hm
            refine WJ.join (X := (List Int) × Value) (fun (x : (List Int) × Value) => kj31 x.1 = some r) (fun (x : (List Int) × Value) => [(4, .map (some g7)), (7, x.2), (25, v2), (26, .int .i64 (List.length list1 : Int)), (27, .int .i64 x27)]) (fun (x : (List Int) × Value) => [row x.2 2 fI64 x.1, mp g7 mp8]) ?_ ?_
            · clear hk32
              refine WJ.block ?_
              refine WJ.seq ?_
              refine WJ.reg ?_
              refine SJ.q (YldS.yld (y_move rfl)) rfl ?_
              obtain ⟨e33, h34, hm⟩ := bindS hm
              obtain ⟨ad35, _, rfl, ha36, hy37⟩ := hr3.elem h34
              refine SJ.q (YldS.yld (hy37 Try.runUnderlying56 Try.sizeOf64 rfl rfl)) rfl ?_
              refine SJ.q (YldS.yld (y_loadN Try.isAgg64 Try.sizeOf64 rfl ha36 St.frozenC rfl)) rfl ?_
              refine SJ.alloc (cs := [str [], str []]) Try.zeroValue64 rfl rfl fun g38 => ?_
              refine SJ.q (YldS.yld (y_assign rfl)) rfl ?_
              refine SJ.storeL (k := 0) (off := 0) (us := [str e33.short, str e33.long]) rfl rfl rfl rfl Try.sizeOf64 rfl rfl ?_
              refine SJ.nil ?_
              refine PJ.next ?_
              refine WJ.seq ?_
              refine WJ.quiet ?_
              refine QJ.step (YldS.yld (y_move rfl)) rfl ?_
              refine QJ.step (YldS.yld (y_fldB (o := 0) fld64_0 rfl)) rfl ?_
              refine QJ.step (YldS.yld (y_loadB (k := 0) (off := 0) (v := str e33.short) rfl Try.isAgg9 rfl rfl)) rfl ?_
              refine QJ.step (YldS.yld (y_lookupSB (k := 2) rfl Try.underlying111 Try.underlying9 Try.zeroValue4 rfl rfl)) rfl ?_
              refine QJ.done ?_
              refine PJ.next ?_
              refine WJ.cond (t := mget mp8 e33.short) rfl (fun hb39 => ?_) (fun hb39 => ?_)
              · replace hm := ifT hm hb39
                refine WJ.reg ?_
                refine SJ.q (YldS.yld (y_move rfl)) rfl ?_
                refine SJ.q (YldS.yld (y_move rfl)) rfl ?_
                refine SJ.buildSlice (R := fI64) (os := [.tmp 37]) [x27] Try.runUnderlying27 Try.sizeOf2 Try.zeroValue2 rfl rfl rfl rfl rfl rfl fun v40 => ?_
                obtain ⟨l41, h42, hm⟩ := bindS hm
                refine SJ.append (k := 2) (R := fI64) h42 rfl Try.underlying27 el2 rfl rfl rfl (fun w hw => (hw.row_rd (k := 0) rfl)) rfl fun v43 => ?_
                refine SJ.q (YldS.yld (y_assign rfl)) rfl ?_
                refine SJ.nil ?_
                refine PJ.block_normal ?_
                exact PJ.joined (l41, v43) [2, 3] hm ⟨rfl, rfl, rfl, rfl, rfl, trivial⟩ ⟨by decide, rfl⟩
              · replace hm := ifF hm hb39
                refine WJ.skip ?_
                refine PJ.block_normal ?_
                exact PJ.joined (l25, v26) [1, 2] hm ⟨rfl, rfl, rfl, rfl, rfl, trivial⟩ ⟨by decide, rfl⟩
            · rintro ⟨l29, v30⟩ hm
              subst hk32
              refine WJ.quiet ?_
              refine QJ.step (YldS.yld (y_bin rfl rfl rfl)) rfl ?_
              refine QJ.step (YldS.yld (y_move rfl)) rfl ?_
              refine QJ.done ?_
              exact PJ.round (l29, v30, w64 (x27 + 1)) [0, 1] hm ⟨rfl, rfl, rfl, rfl, rfl, trivial⟩ ⟨by decide, rfl⟩
          · replace hm := ifF hm hb28
            refine WJ.exit ?_
            refine PJ.then_exit (PJ.then_exit (PJ.block_exit ?_))
            exact PJ.joined (l25, v26) [0] hm ⟨rfl, trivial⟩ ⟨by decide, rfl⟩
      · rintro ⟨l21, v22⟩ hm
        subst hk24
        refine WJ.seq ?_
        refine WJ.quiet ?_
        refine QJ.step (YldS.yld (y_move rfl)) rfl ?_
        refine QJ.step (YldS.yld (y_assign rfl)) rfl ?_
        refine QJ.step (YldS.yld (y_assign rfl)) rfl ?_
        refine QJ.done ?_
        refine PJ.next ?_
        refine WJ.ret ?_
        obtain rfl := Option.some.inj hm
        refine PJ.sel (L' := [row v22 2 fI64 l21]) [0] ⟨by decide, rfl⟩ ?_
        exact PJ.retn (vs := [v22, .int .i64 0]) Try.results43 ⟨rfl, rfl, trivial⟩ ⟨_, rfl, rfl⟩

set_option maxRecDepth 100000 in
set_option maxHeartbeats 1000000 in
theorem ok_s_DoubtfulAbbrs {N : Nat} {list1 : List Abbr} {r : (List Int) × Int} (hm : s_DoubtfulAbbrs N list1 = some r) (w : World) (v2 : Value) (hr3 : RdS w (cx w).Fz v2 fAbbr.rp list1) :
    Calls Try.prog 44 #[v2] w (RetG (cx w) fun u L => ∃ (u1 : Value), (u = tup [u1, .int .i64 r.2] ∧ L = [row u1 2 fI64 r.1])) := by
  unfold s_DoubtfulAbbrs at hm
  refine Calls.enter [v2] Try.func44 rfl Try.ntmps44 rfl ?_
  refine WJ.seq ?_
  refine WJ.quiet ?_
  refine QJ.step (YldS.yld (y_assign rfl)) rfl ?_
  refine QJ.step (YldS.yld (y_assign rfl)) rfl ?_
  refine QJ.done ?_
  refine PJ.next ?_
  refine WJ.seq ?_
  refine WJ.seq ?_
  refine WJ.quiet ?_
  refine QJ.step (YldS.yld (y_move rfl)) rfl ?_
  obtain ⟨r4, h5, hm⟩ := bindS hm
  refine QJ.step (y_call Try.call92 rfl (RetG.quiet fun w hw => ok_s_l16Ok h5 w _ (hr3.st hw))) rfl ?_
  refine QJ.step (YldS.yld (y_not rfl)) rfl ?_
  refine QJ.done ?_
  refine PJ.next ?_
  refine WJ.cond (t := !r4) rfl (fun hb6 => ?_) (fun hb6 => ?_)
  · replace hm := ifT hm hb6
    refine WJ.seq ?_
    refine WJ.quiet ?_
    refine QJ.step (YldS.yld (y_assign rfl)) rfl ?_
    refine QJ.step (YldS.yld (y_assign rfl)) rfl ?_
    refine QJ.done ?_
    refine PJ.next ?_
    refine WJ.ret ?_
    refine PJ.then_ret ?_
    refine PJ.nil_row 2 fI64 ?_
    obtain rfl := Option.some.inj hm
    refine PJ.sel (L' := [row (.slice none 0 0) 2 fI64 []]) [0] ⟨by decide, rfl⟩ ?_
    exact PJ.retn (vs := [(.slice none 0 0), .int .i64 1]) Try.results44 ⟨rfl, rfl, trivial⟩ ⟨_, rfl, rfl⟩
  · replace hm := ifF hm hb6
    refine WJ.skip ?_
    refine PJ.next ?_
    refine WJ.seq ?_
    refine WJ.reg ?_
    refine SJ.buildSlice (R := fI64) (os := []) [] Try.runUnderlying27 Try.sizeOf2 Try.zeroValue2 rfl rfl rfl rfl rfl rfl fun v7 => ?_
    refine SJ.q (YldS.yld (y_assign rfl)) rfl ?_
    refine SJ.nil ?_
    refine PJ.next ?_
    obtain ⟨kj10, hk11, hm⟩ := withK_open hm
    refine WJ.join (X := (List Int) × Value) (fun (x : (List Int) × Value) => kj10 x.1 = some r) (fun (x : (List Int) × Value) => [(4, x.2)]) (fun (x : (List Int) × Value) => [row x.2 2 fI64 x.1]) ?_ ?_
    · clear hk11
      refine WJ.seq ?_
      refine WJ.quiet ?_
      refine QJ.step (YldS.yld (y_assign rfl)) rfl ?_
      refine QJ.done ?_
      refine PJ.next ?_
      refine WJ.block ?_
      refine WJ.sel (L' := (fun (x : (List Int) × Value × Int) => [row x.2.1 2 fI64 x.1]) ([], v7, 0)) [0] ⟨by decide, rfl⟩ ?_
      refine WJ.sub (m' := (fun (x : (List Int) × Value × Int) => [(0, v2), (4, x.2.1), (5, .int .i64 x.2.2)]) ([], v7, 0)) ⟨rfl, rfl, rfl, trivial⟩ ?_
      refine WJ.loop (X := (List Int) × Value × Int) (fun N (x : (List Int) × Value × Int) => s_DoubtfulAbbrs_l1 kj10 list1 N x.1 x.2.2 = some r) (fun (x : (List Int) × Value × Int) => [(0, v2), (4, x.2.1), (5, .int .i64 x.2.2)]) (fun (x : (List Int) × Value × Int) => [row x.2.1 2 fI64 x.1]) ?_ N ([], v7, 0) hm
      · rintro N ⟨l12, v13, i14⟩ hI
        have hm := hI; clear hI
        cases N with
        | zero => cases hm
        | succ N =>
        unfold s_DoubtfulAbbrs_l1 at hm
        refine WJ.seq ?_
        refine WJ.seq ?_
        refine WJ.quiet ?_
        refine QJ.step (YldS.yld (y_move rfl)) rfl ?_
        refine QJ.step (YldS.yld (y_move rfl)) rfl ?_
        refine QJ.step (YldS.yld (y_lenS Try.runUnderlying56 hr3 rfl)) rfl ?_
        refine QJ.step (YldS.yld (y_bin rfl rfl rfl)) rfl ?_
        refine QJ.done ?_
        refine PJ.next ?_
        refine WJ.cond (t := decide (i14 < (List.length list1 : Int))) rfl (fun hb15 => ?_) (fun hb15 => ?_)
        · replace hm := ifT hm hb15
          refine WJ.skip ?_
          refine PJ.next ?_
          obtain ⟨kj18, hk19, hm⟩ := withK_open hm
          refine WJ.join (X := (List Int) × Value) (fun (x : (List Int) × Value) => kj18 x.1 = some r) (fun (x : (List Int) × Value) => [(0, v2), (4, x.2), (5, .int .i64 i14)]) (fun (x : (List Int) × Value) => [row x.2 2 fI64 x.1]) ?_ ?_
          · clear hk19
            refine WJ.block ?_
            refine WJ.seq ?_
            refine WJ.quiet ?_
            refine QJ.step (YldS.yld (y_assign rfl)) rfl ?_
            refine QJ.done ?_
            refine PJ.next ?_
            obtain ⟨kj21, hk22, hm⟩ := withK_open hm
            refine WJ.join (X := Bool) (fun (x : Bool) => kj21 x = some r) (fun (x : Bool) => [(0, v2), (4, v13), (5, .int .i64 i14), (6, .bool x)]) (fun (x : Bool) => [row v13 2 fI64 l12]) ?_ ?_
            · clear hk22
              refine WJ.seq ?_
              refine WJ.quiet ?_
              refine QJ.step (YldS.yld (y_assign rfl)) rfl ?_
              refine QJ.done ?_
              refine PJ.next ?_
              refine WJ.block ?_
              refine WJ.sel (L' := (fun (x : Bool × Int) => [row v13 2 fI64 l12]) (false, 0)) [0] ⟨by decide, rfl⟩ ?_
              refine WJ.sub (m' := (fun (x : Bool × Int) => [(0, v2), (4, v13), (5, .int .i64 i14), (6, .bool x.1), (7, .int .i64 x.2)]) (false, 0)) ⟨rfl, rfl, rfl, rfl, rfl, trivial⟩ ?_
              refine WJ.loop (X := Bool × Int) (fun N (x : Bool × Int) => s_DoubtfulAbbrs_l2 kj21 list1 i14 N x.1 x.2 = some r) (fun (x : Bool × Int) => [(0, v2), (4, v13), (5, .int .i64 i14), (6, .bool x.1), (7, .int .i64 x.2)]) (fun (x : Bool × Int) => [row v13 2 fI64 l12]) ?_ N (false, 0) hm
              · rintro N ⟨found23, k24⟩ hI
                have hm := hI; clear hI
                cases N with
                | zero => cases hm
                | succ N =>
                unfold s_DoubtfulAbbrs_l2 at hm
                refine WJ.seq ?_
                refine WJ.seq ?_
                refine WJ.quiet ?_
                refine QJ.step (YldS.yld (y_move rfl)) rfl ?_
                refine QJ.step (YldS.yld (y_move rfl)) rfl ?_
                refine QJ.step (YldS.yld (y_lenS Try.runUnderlying56 hr3 rfl)) rfl ?_
                refine QJ.step (YldS.yld (y_bin rfl rfl rfl)) rfl ?_
                refine QJ.done ?_
                refine PJ.next ?_
                refine WJ.cond (t := decide (k24 < (List.length list1 : Int))) rfl (fun hb25 => ?_) (fun hb25 => ?_)
                · replace hm := ifT hm hb25
                  refine WJ.skip ?_
                  refine PJ.next ?_
                  refine WJ.seq ?_
                  refine WJ.block ?_
                  refine WJ.quiet_draw follows (by kernel_rfl) ?_
                  refine QJ.step (YldS.yld (y_move rfl)) rfl ?_
                  refine QJ.step (YldS.yld (y_move rfl)) rfl ?_
                  obtain ⟨t26, h27, hm⟩ := bindS hm
                  refine QJ.cut 12 [(0, v2), (4, v13), (5, .int .i64 i14), (7, .int .i64 k24), (37, .bool t26)] ?_ ?_
                  · rcases Bool.eq_false_or_eq_true found23 with hb28 | hb28
                    · obtain rfl := orT h27 hb28
                      refine QJ.off rfl rfl (cB hb28) rfl rfl ?_
                      refine QJ.off rfl rfl (cB hb28) rfl rfl ?_
                      refine QJ.off rfl rfl (cB hb28) rfl rfl ?_
                      refine QJ.off rfl rfl (cB hb28) rfl rfl ?_
                      refine QJ.off rfl rfl (cB hb28) rfl rfl ?_
                      refine QJ.off rfl rfl (cB hb28) rfl rfl ?_
                      refine QJ.off rfl rfl (cB hb28) rfl rfl ?_
                      refine QJ.off rfl rfl (cB hb28) rfl rfl ?_
                      refine QJ.off rfl rfl (cB hb28) rfl rfl ?_
                      refine QJ.off rfl rfl (cB hb28) rfl rfl ?_
                      refine QJ.off rfl rfl (cB hb28) rfl rfl ?_
                      refine QJ.step (YldS.yld (y_pick_t (cB hb28) rfl)) rfl ?_
                      exact QJ.cut_end ⟨rfl, rfl, rfl, rfl, rfl, trivial⟩
                    · replace h27 := orF h27 hb28
                      refine QJ.on rfl rfl (cB hb28) (YldS.yld (y_move rfl)) rfl ?_
                      refine QJ.on rfl rfl (cB hb28) (YldS.yld (y_move rfl)) rfl ?_
                      obtain ⟨e29, h30, h27⟩ := bindS h27
                      obtain ⟨ad31, _, rfl, ha32, hy33⟩ := hr3.elem h30
                      refine QJ.on rfl rfl (cB hb28) (YldS.yld (hy33 Try.runUnderlying56 Try.sizeOf64 rfl rfl)) rfl ?_
                      refine QJ.on rfl rfl (cB hb28) (YldS.yld (y_fld (ad := ad31) fld64_1 rfl)) rfl ?_
                      refine QJ.on rfl rfl (cB hb28) (YldS.yld (y_load1 (v := str e29.long) Try.isAgg9 (ha32.sub 1 1) St.frozenC rfl)) rfl ?_
                      refine QJ.on rfl rfl (cB hb28) (YldS.yld (y_move rfl)) rfl ?_
                      refine QJ.on rfl rfl (cB hb28) (YldS.yld (y_move rfl)) rfl ?_
                      obtain ⟨e34, h35, h27⟩ := bindS h27
                      obtain ⟨ad36, _, rfl, ha37, hy38⟩ := hr3.elem h35
                      refine QJ.on rfl rfl (cB hb28) (YldS.yld (hy38 Try.runUnderlying56 Try.sizeOf64 rfl rfl)) rfl ?_
                      refine QJ.on rfl rfl (cB hb28) (YldS.yld (y_fld (ad := ad36) fld64_0 rfl)) rfl ?_
                      refine QJ.on rfl rfl (cB hb28) (YldS.yld (y_load1 (v := str e34.short) Try.isAgg9 (ha37.sub 0 1) St.frozenC rfl)) rfl ?_
                      refine QJ.on rfl rfl (cB hb28) (YldS.yld (y_binS rfl rfl rfl)) rfl ?_
                      refine QJ.step (YldS.yld (y_pick_f (cB hb28) rfl)) rfl ?_
                      obtain rfl := Option.some.inj h27
                      exact QJ.cut_end ⟨rfl, rfl, rfl, rfl, rfl, trivial⟩
                  refine QJ.step (YldS.yld (y_assign rfl)) rfl ?_
                  refine QJ.done ?_
                  refine PJ.block_normal (PJ.next ?_)
                  refine WJ.quiet ?_
                  refine QJ.step (YldS.yld (y_move rfl)) rfl ?_
                  refine QJ.step (YldS.yld (y_bin rfl rfl rfl)) rfl ?_
                  refine QJ.step (YldS.yld (y_assign rfl)) rfl ?_
                  refine QJ.done ?_
                  exact PJ.round (t26, w64 (k24 + 1)) [0] hm ⟨rfl, rfl, rfl, rfl, rfl, trivial⟩ ⟨by decide, rfl⟩
                · replace hm := ifF hm hb25
                  refine WJ.exit ?_
                  refine PJ.then_exit (PJ.then_exit (PJ.block_exit ?_))
                  exact PJ.joined found23 [0] hm ⟨rfl, rfl, rfl, rfl, trivial⟩ ⟨by decide, rfl⟩
            · rintro found20 hm
              subst hk22
              refine WJ.seq ?_
              refine WJ.quiet ?_
              refine QJ.step (YldS.yld (y_move rfl)) rfl ?_
              refine QJ.done ?_
              refine PJ.next ?_
              refine WJ.cond (t := found20) rfl (fun hb39 => ?_) (fun hb39 => ?_)
              · replace hm := ifT hm hb39
                refine WJ.reg ?_
                refine SJ.q (YldS.yld (y_move rfl)) rfl ?_
                refine SJ.q (YldS.yld (y_move rfl)) rfl ?_
                refine SJ.buildSlice (R := fI64) (os := [.tmp 40]) [i14] Try.runUnderlying27 Try.sizeOf2 Try.zeroValue2 rfl rfl rfl rfl rfl rfl fun v40 => ?_
                obtain ⟨l41, h42, hm⟩ := bindS hm
                refine SJ.append (k := 1) (R := fI64) h42 rfl Try.underlying27 el2 rfl rfl rfl (fun w hw => (hw.row_rd (k := 0) rfl)) rfl fun v43 => ?_
                refine SJ.q (YldS.yld (y_assign rfl)) rfl ?_
                refine SJ.nil ?_
                refine PJ.block_normal ?_
                exact PJ.joined (l41, v43) [1] hm ⟨rfl, rfl, rfl, trivial⟩ ⟨by decide, rfl⟩
              · replace hm := ifF hm hb39
                refine WJ.skip ?_
                refine PJ.block_normal ?_
                exact PJ.joined (l12, v13) [0] hm ⟨rfl, rfl, rfl, trivial⟩ ⟨by decide, rfl⟩
          · rintro ⟨l16, v17⟩ hm
            subst hk19
            refine WJ.quiet ?_
            refine QJ.step (YldS.yld (y_move rfl)) rfl ?_
            refine QJ.step (YldS.yld (y_bin rfl rfl rfl)) rfl ?_
            refine QJ.step (YldS.yld (y_assign rfl)) rfl ?_
            refine QJ.done ?_
            exact PJ.round (l16, v17, w64 (i14 + 1)) [0] hm ⟨rfl, rfl, rfl, trivial⟩ ⟨by decide, rfl⟩
        · replace hm := ifF hm hb15
          refine WJ.exit ?_
          refine PJ.then_exit (PJ.then_exit (PJ.block_exit ?_))
          exact PJ.joined (l12, v13) [0] hm ⟨rfl, trivial⟩ ⟨by decide, rfl⟩
    · rintro ⟨l8, v9⟩ hm
      subst hk11
      refine WJ.seq ?_
      refine WJ.quiet ?_
      refine QJ.step (YldS.yld (y_move rfl)) rfl ?_
      refine QJ.step (YldS.yld (y_assign rfl)) rfl ?_
      refine QJ.step (YldS.yld (y_assign rfl)) rfl ?_
      refine QJ.done ?_
      refine PJ.next ?_
      refine WJ.ret ?_
      obtain rfl := Option.some.inj hm
      refine PJ.sel (L' := [row v9 2 fI64 l8]) [0] ⟨by decide, rfl⟩ ?_
      exact PJ.retn (vs := [v9, .int .i64 0]) Try.results44 ⟨rfl, rfl, trivial⟩ ⟨_, rfl, rfl⟩

set_option maxRecDepth 100000 in
set_option maxHeartbeats 1000000 in
theorem ok_s_DrawAddAbbr {N : Nat} {code1 : List UInt8} {r : (List Abbr) × Abbr} (hm : s_DrawAddAbbr N code1 = some r) (w : World) (v2 : Value) (hr3 : RdS w (cx w).Fz v2 fByte.rp code1) :
    Calls Try.prog 45 #[v2] w (RetG (cx w) fun u L => ∃ (u1 : Value), (u = tup [u1, .agg (Abbr.enc r.2).toArray] ∧ L = [row u1 64 fAbbr r.1])) := by
  unfold s_DrawAddAbbr at hm
  refine Calls.enter [v2] Try.func45 rfl Try.ntmps45 rfl ?_
  refine WJ.seq ?_
  refine WJ.reg ?_
  refine SJ.q (YldS.yld (y_assign rfl)) rfl ?_
  refine SJ.alloc (cs := [str [], str []]) Try.zeroValue64 rfl rfl fun g4 => ?_
  refine SJ.nil ?_
  refine PJ.next ?_
  refine WJ.seq ?_
  refine WJ.reg ?_
  refine SJ.q (YldS.yld (y_move rfl)) rfl ?_
  obtain ⟨r5, h6, hm⟩ := bindS hm
  refine SJ.call Try.call68 rfl (fun w hw => ok_s_l00From h6 w _ (hr3.st hw)) rfl ?_
  rintro _ _ ⟨g7, rfl, rfl⟩
  refine SJ.q (YldS.yld (y_assign rfl)) rfl ?_
  refine SJ.nil ?_
  refine PJ.next ?_
  refine WJ.seq ?_
  refine WJ.reg ?_
  refine SJ.q (YldS.yld (y_move rfl)) rfl ?_
  obtain ⟨r8, h9, hm⟩ := bindS hm
  refine SJ.call1 (k := 0) rfl Try.call93 rfl (fun w S hw hA hO => ok_s_l16Bent h9 w S _ (hr3.st1 hw hO) hA) rfl ?_
  rintro v10 _ ⟨_, rfl, rfl⟩
  refine SJ.q (YldS.yld (y_assign rfl)) rfl ?_
  refine SJ.nil ?_
  refine PJ.next ?_
  refine WJ.seq ?_
  refine WJ.reg ?_
  refine SJ.q (YldS.yld (y_move rfl)) rfl ?_
  obtain ⟨r11, h12, hm⟩ := bindS hm
  refine SJ.call1 (k := 0) rfl Try.call94 rfl (fun w S hw hA hO => ok_s_l16New h12 w S _ (hr3.st1 hw hO) hA) rfl ?_
  rintro _ _ ⟨rfl, rfl⟩
  refine SJ.alloc (cs := [str [], str []]) Try.zeroValue64 rfl rfl fun g13 => ?_
  refine SJ.storeL (k := 0) (off := 0) (us := [str r11.1.short, str r11.1.long]) rfl rfl rfl rfl Try.sizeOf64 rfl rfl ?_
  refine SJ.nil ?_
  refine PJ.next ?_
  obtain ⟨kj16, hk17, hm⟩ := withK_open hm
  refine WJ.join (X := Str × Str) (fun (x : Str × Str) => kj16 x.1 x.2 = some r) (fun (x : Str × Str) => [(3, pt g4 0), (5, v10), (6, pt g13 0)]) (fun (x : Str × Str) => [box g13 64 [str x.1, str x.2], row v10 64 fAbbr r8.1, box g4 64 [str [], str []]]) ?_ ?_
  · clear hk17
    refine WJ.seq ?_
    refine WJ.quiet ?_
    refine QJ.step (YldS.yld (y_move rfl)) rfl ?_
    refine QJ.step (YldS.yld (y_lenRow (k := 2) rfl Try.runUnderlying56 rfl)) rfl ?_
    refine QJ.step (YldS.yld (y_bin rfl rfl rfl)) rfl ?_
    refine QJ.done ?_
    refine PJ.next ?_
    refine WJ.cond (t := decide ((List.length r8.1 : Int) ≥ 30)) rfl (fun hb18 => ?_) (fun hb18 => ?_)
    · replace hm := ifT hm hb18
      refine WJ.reg ?_
      refine SJ.q (YldS.yld (y_build (parts := [(0, .const (str [122, 122])), (1, .const (str [122, 101, 98, 114, 97]))]) (places := [(0, 1), (1, 1)]) (r := [str ((Abbr.mk [122, 122] [122, 101, 98, 114, 97]).short), str ((Abbr.mk [122, 122] [122, 101, 98, 114, 97]).long)]) pl64 Try.zeroValue64 rfl rfl rfl rfl)) rfl ?_
      refine SJ.storeL (k := 0) (off := 0) (us := [str ((Abbr.mk [122, 122] [122, 101, 98, 114, 97]).short), str ((Abbr.mk [122, 122] [122, 101, 98, 114, 97]).long)]) rfl rfl rfl rfl Try.sizeOf64 rfl rfl ?_
      refine SJ.nil ?_
      exact PJ.joined ((Abbr.mk [122, 122] [122, 101, 98, 114, 97]).short, (Abbr.mk [122, 122] [122, 101, 98, 114, 97]).long) [0, 2, 3] hm ⟨rfl, rfl, rfl, trivial⟩ ⟨by decide, rfl⟩
    · replace hm := ifF hm hb18
      refine WJ.skip ?_
      exact PJ.joined (r11.1.short, r11.1.long) [0, 2, 3] hm ⟨rfl, rfl, rfl, trivial⟩ ⟨by decide, rfl⟩
  · rintro ⟨x14, x15⟩ hm
    subst hk17
    refine WJ.seq ?_
    refine WJ.draws (N := 4) (listed0 := #[false, false, false, false]) [box g13 64 [str x14, str x15], row v10 64 fAbbr r8.1] follows rfl rfl ?_
    refine RJ.first 0 (listed' := #[true, false, false, false]) [0, 1] rfl (by kernel_rfl) rfl ⟨by decide, rfl⟩ (y_move rfl) rfl ?_
    refine RJ.first 1 (listed' := #[true, true, false, false]) [0, 1] rfl (by kernel_rfl) rfl ⟨by decide, rfl⟩ (y_loadBN (k := 0) (off := 0) (us := [str x14, str x15]) rfl Try.isAgg64 Try.sizeOf64 rfl rfl) rfl ?_
    refine RJ.first 2 (listed' := #[true, true, true, false]) [0, 1] rfl (by kernel_rfl) rfl ⟨by decide, rfl⟩ (y_assign rfl) rfl ?_
    refine RJ.step1 3 [0, 1] (by kernel_rfl) ⟨by decide, rfl⟩ ?_
    refine RO.of (listed' := #[true, true, true, true]) rfl rfl ?_
    refine SJ.storeL (k := 2) (off := 0) (us := [str x14, str x15]) rfl rfl rfl rfl Try.sizeOf64 rfl rfl ?_
    refine SJ.nil ?_
    refine PJ.draw ?_
    refine RJ.fin [0, 1] (by kernel_rfl) ⟨by decide, rfl⟩ ?_
    refine PJ.next ?_
    refine WJ.ret ?_
    obtain rfl := Option.some.inj hm
    exact PJ.retn_sel (vs := [v10, .agg #[str x14, str x15]]) Try.results45 ⟨rfl, ⟨2, g4, 64, [str x14, str x15], rfl, rfl, .inl ⟨Try.isAgg64, Try.sizeOf64, rfl⟩⟩, trivial⟩ [1] ⟨by decide, rfl⟩ ⟨_, rfl, rfl⟩

set_option maxRecDepth 100000 in
set_option maxHeartbeats 1000000 in
theorem ok_i_AddAbbr {N : Nat} {list1 : List Abbr} {x4 : Abbr} {r : (List Abbr) × Int} (hm : i_AddAbbr N list1 x4 = some r) (w : World) (v2 : Value) (hr3 : RdS w (cx w).Fz v2 fAbbr.rp list1) :
    Calls Try.prog 46 #[v2, .agg (Abbr.enc x4).toArray] w (RetG (cx w) fun u L => ∃ (u1 : Value), (u = tup [u1, .int .i64 r.2] ∧ L = [row u1 64 fAbbr r.1])) := by
  unfold i_AddAbbr at hm
  refine Calls.enter [v2, .agg (Abbr.enc x4).toArray] Try.func46 rfl Try.ntmps46 rfl ?_
  refine WJ.seq ?_
  refine WJ.reg ?_
  refine SJ.box (cs := [str x4.short, str x4.long]) rfl rfl rfl fun g5 => ?_
  refine SJ.q (YldS.yld (y_assign rfl)) rfl ?_
  refine SJ.q (YldS.yld (y_assign rfl)) rfl ?_
  refine SJ.nil ?_
  refine PJ.next ?_
  refine WJ.seq ?_
  refine WJ.seq ?_
  refine WJ.quiet ?_
  refine QJ.step (YldS.yld (y_move rfl)) rfl ?_
  obtain ⟨r6, h7, hm⟩ := bindS hm
  refine QJ.step (y_call Try.call57 rfl (RetG.quiet fun w hw => ok_i_ValidAbbrs h7 w _ (hr3.st hw))) rfl ?_
  refine QJ.step (YldS.yld (y_not rfl)) rfl ?_
  refine QJ.done ?_
  refine PJ.next ?_
  refine WJ.cond (t := !r6) rfl (fun hb8 => ?_) (fun hb8 => ?_)
  · replace hm := ifT hm hb8
    refine WJ.seq ?_
    refine WJ.quiet ?_
    refine QJ.step (YldS.yld (y_assign rfl)) rfl ?_
    refine QJ.step (YldS.yld (y_assign rfl)) rfl ?_
    refine QJ.done ?_
    refine PJ.next ?_
    refine WJ.ret ?_
    refine PJ.then_ret ?_
    refine PJ.nil_row 64 fAbbr ?_
    obtain rfl := Option.some.inj hm
    refine PJ.sel (L' := [row (.slice none 0 0) 64 fAbbr []]) [0] ⟨by decide, rfl⟩ ?_
    exact PJ.retn (vs := [(.slice none 0 0), .int .i64 1]) Try.results46 ⟨rfl, rfl, trivial⟩ ⟨_, rfl, rfl⟩
  · replace hm := ifF hm hb8
    refine WJ.skip ?_
    refine PJ.next ?_
    refine WJ.seq ?_
    refine WJ.seq ?_
    refine WJ.quiet ?_
    refine QJ.step (YldS.yld (y_loadBN (k := 0) (off := 0) (us := [str x4.short, str x4.long]) rfl Try.isAgg64 Try.sizeOf64 rfl rfl)) rfl ?_
    obtain ⟨r9, h10, hm⟩ := bindS hm
    refine QJ.step (y_call Try.call95 rfl (RetG.quiet fun w hw => ok_i_validAbbr h10 w )) rfl ?_
    refine QJ.step (YldS.yld (y_not rfl)) rfl ?_
    refine QJ.done ?_
    refine PJ.next ?_
    refine WJ.cond (t := !r9) rfl (fun hb11 => ?_) (fun hb11 => ?_)
    · replace hm := ifT hm hb11
      refine WJ.seq ?_
      refine WJ.quiet ?_
      refine QJ.step (YldS.yld (y_assign rfl)) rfl ?_
      refine QJ.step (YldS.yld (y_assign rfl)) rfl ?_
      refine QJ.done ?_
      refine PJ.next ?_
      refine WJ.ret ?_
      refine PJ.then_ret ?_
      refine PJ.nil_row 64 fAbbr ?_
      obtain rfl := Option.some.inj hm
      refine PJ.sel (L' := [row (.slice none 0 0) 64 fAbbr []]) [0] ⟨by decide, rfl⟩ ?_
      exact PJ.retn (vs := [(.slice none 0 0), .int .i64 2]) Try.results46 ⟨rfl, rfl, trivial⟩ ⟨_, rfl, rfl⟩
    · replace hm := ifF hm hb11
      refine WJ.skip ?_
      refine PJ.next ?_
      refine WJ.seq ?_
      refine WJ.quiet ?_
      refine QJ.step (YldS.yld (y_assign rfl)) rfl ?_
      refine QJ.done ?_
      refine PJ.next ?_
      obtain ⟨kj13, hk14, hm⟩ := withK_open hm
      refine WJ.join (X := Int) (fun (x : Int) => kj13 x = some r) (fun (x : Int) => [(0, v2), (3, pt g5 0), (6, .int .i64 x)]) (fun (x : Int) => [box g5 64 [str x4.short, str x4.long]]) ?_ ?_
      · clear hk14
        refine WJ.block ?_
        refine WJ.sel (L' := (fun (x : Int) => [box g5 64 [str x4.short, str x4.long]]) 0) [0] ⟨by decide, rfl⟩ ?_
        refine WJ.sub (m' := (fun (x : Int) => [(0, v2), (3, pt g5 0), (6, .int .i64 x)]) 0) ⟨rfl, rfl, rfl, trivial⟩ ?_
        refine WJ.loop (X := Int) (fun N (x : Int) => i_AddAbbr_l1 kj13 list1 x4 N x = some r) (fun (x : Int) => [(0, v2), (3, pt g5 0), (6, .int .i64 x)]) (fun (x : Int) => [box g5 64 [str x4.short, str x4.long]]) ?_ N 0 hm
        · rintro N at15 hI
          have hm := hI; clear hI
          cases N with
          | zero => cases hm
          | succ N =>
          unfold i_AddAbbr_l1 at hm
          refine WJ.seq ?_
          refine WJ.seq ?_
          refine WJ.quiet_draw follows (by kernel_rfl) ?_
          refine QJ.step (YldS.yld (y_move rfl)) rfl ?_
          refine QJ.step (YldS.yld (y_move rfl)) rfl ?_
          refine QJ.step (YldS.yld (y_lenS Try.runUnderlying56 hr3 rfl)) rfl ?_
          refine QJ.step (YldS.yld (y_bin rfl rfl rfl)) rfl ?_
          refine QJ.step (YldS.yld (y_move rfl)) rfl ?_
          obtain ⟨t16, h17, hm⟩ := bindS hm
          refine QJ.cut 9 [(0, v2), (3, pt g5 0), (6, .int .i64 at15), (27, .bool t16)] ?_ ?_
          · rcases Bool.eq_false_or_eq_true (decide (at15 < (List.length list1 : Int))) with hb18 | hb18
            · replace h17 := andT h17 hb18
              refine QJ.on rfl rfl (cB hb18) (YldS.yld (y_move rfl)) rfl ?_
              refine QJ.on rfl rfl (cB hb18) (YldS.yld (y_move rfl)) rfl ?_
              obtain ⟨e19, h20, h17⟩ := bindS h17
              obtain ⟨ad21, _, rfl, ha22, hy23⟩ := hr3.elem h20
              refine QJ.on rfl rfl (cB hb18) (YldS.yld (hy23 Try.runUnderlying56 Try.sizeOf64 rfl rfl)) rfl ?_
              refine QJ.on rfl rfl (cB hb18) (YldS.yld (y_fld (ad := ad21) fld64_0 rfl)) rfl ?_
              refine QJ.on rfl rfl (cB hb18) (YldS.yld (y_load1 (v := str e19.short) Try.isAgg9 (ha22.sub 0 1) St.frozenC rfl)) rfl ?_
              refine QJ.on rfl rfl (cB hb18) (YldS.yld (y_fldB (o := 0) fld64_0 rfl)) rfl ?_
              refine QJ.on rfl rfl (cB hb18) (YldS.yld (y_loadB (k := 0) (off := 0) (v := str x4.short) rfl Try.isAgg9 rfl rfl)) rfl ?_
              refine QJ.on rfl rfl (cB hb18) (YldS.yld (y_binS rfl rfl rfl)) rfl ?_
              refine QJ.step (YldS.yld (y_pick_t (cB hb18) rfl)) rfl ?_
              obtain rfl := Option.some.inj h17
              exact QJ.cut_end ⟨rfl, rfl, rfl, rfl, trivial⟩
            · obtain rfl := andF h17 hb18
              refine QJ.off rfl rfl (cB hb18) rfl rfl ?_
              refine QJ.off rfl rfl (cB hb18) rfl rfl ?_
              refine QJ.off rfl rfl (cB hb18) rfl rfl ?_
              refine QJ.off rfl rfl (cB hb18) rfl rfl ?_
              refine QJ.off rfl rfl (cB hb18) rfl rfl ?_
              refine QJ.off rfl rfl (cB hb18) rfl rfl ?_
              refine QJ.off rfl rfl (cB hb18) rfl rfl ?_
              refine QJ.off rfl rfl (cB hb18) rfl rfl ?_
              refine QJ.step (YldS.yld (y_pick_f (cB hb18) rfl)) rfl ?_
              exact QJ.cut_end ⟨rfl, rfl, rfl, rfl, trivial⟩
          refine QJ.done ?_
          refine PJ.next ?_
          refine WJ.cond (t := t16) rfl (fun hb24 => ?_) (fun hb24 => ?_)
          · replace hm := ifT hm hb24
            refine WJ.skip ?_
            refine PJ.next ?_
            refine WJ.block ?_
            refine WJ.quiet ?_
            refine QJ.step (YldS.yld (y_move rfl)) rfl ?_
            refine QJ.step (YldS.yld (y_bin rfl rfl rfl)) rfl ?_
            refine QJ.step (YldS.yld (y_assign rfl)) rfl ?_
            refine QJ.done ?_
            refine PJ.block_normal ?_
            exact PJ.round (w64 (at15 + 1)) [0] hm ⟨rfl, rfl, rfl, trivial⟩ ⟨by decide, rfl⟩
          · replace hm := ifF hm hb24
            refine WJ.exit ?_
            refine PJ.then_exit (PJ.then_exit (PJ.block_exit ?_))
            exact PJ.joined at15 [0] hm ⟨rfl, rfl, rfl, trivial⟩ ⟨by decide, rfl⟩
      · rintro at12 hm
        subst hk14
        refine WJ.seq ?_
        refine WJ.seq ?_
        refine WJ.quiet_draw follows (by kernel_rfl) ?_
        refine QJ.step (YldS.yld (y_move rfl)) rfl ?_
        refine QJ.step (YldS.yld (y_move rfl)) rfl ?_
        refine QJ.step (YldS.yld (y_lenS Try.runUnderlying56 hr3 rfl)) rfl ?_
        refine QJ.step (YldS.yld (y_bin rfl rfl rfl)) rfl ?_
        refine QJ.step (YldS.yld (y_move rfl)) rfl ?_
        obtain ⟨t25, h26, hm⟩ := bindS hm
        refine QJ.cut 9 [(0, v2), (3, pt g5 0), (6, .int .i64 at12), (43, .bool t25)] ?_ ?_
        · rcases Bool.eq_false_or_eq_true (decide (at12 < (List.length list1 : Int))) with hb27 | hb27
          · replace h26 := andT h26 hb27
            refine QJ.on rfl rfl (cB hb27) (YldS.yld (y_move rfl)) rfl ?_
            refine QJ.on rfl rfl (cB hb27) (YldS.yld (y_move rfl)) rfl ?_
            obtain ⟨e28, h29, h26⟩ := bindS h26
            obtain ⟨ad30, _, rfl, ha31, hy32⟩ := hr3.elem h29
            refine QJ.on rfl rfl (cB hb27) (YldS.yld (hy32 Try.runUnderlying56 Try.sizeOf64 rfl rfl)) rfl ?_
            refine QJ.on rfl rfl (cB hb27) (YldS.yld (y_fld (ad := ad30) fld64_0 rfl)) rfl ?_
            refine QJ.on rfl rfl (cB hb27) (YldS.yld (y_load1 (v := str e28.short) Try.isAgg9 (ha31.sub 0 1) St.frozenC rfl)) rfl ?_
            refine QJ.on rfl rfl (cB hb27) (YldS.yld (y_fldB (o := 0) fld64_0 rfl)) rfl ?_
            refine QJ.on rfl rfl (cB hb27) (YldS.yld (y_loadB (k := 0) (off := 0) (v := str x4.short) rfl Try.isAgg9 rfl rfl)) rfl ?_
            refine QJ.on rfl rfl (cB hb27) (YldS.yld (y_binS rfl rfl rfl)) rfl ?_
            refine QJ.step (YldS.yld (y_pick_t (cB hb27) rfl)) rfl ?_
            obtain rfl := Option.some.inj h26
            exact QJ.cut_end ⟨rfl, rfl, rfl, rfl, trivial⟩
          · obtain rfl := andF h26 hb27
            refine QJ.off rfl rfl (cB hb27) rfl rfl ?_
            refine QJ.off rfl rfl (cB hb27) rfl rfl ?_
            refine QJ.off rfl rfl (cB hb27) rfl rfl ?_
            refine QJ.off rfl rfl (cB hb27) rfl rfl ?_
            refine QJ.off rfl rfl (cB hb27) rfl rfl ?_
            refine QJ.off rfl rfl (cB hb27) rfl rfl ?_
            refine QJ.off rfl rfl (cB hb27) rfl rfl ?_
            refine QJ.off rfl rfl (cB hb27) rfl rfl ?_
            refine QJ.step (YldS.yld (y_pick_f (cB hb27) rfl)) rfl ?_
            exact QJ.cut_end ⟨rfl, rfl, rfl, rfl, trivial⟩
        refine QJ.done ?_
        refine PJ.next ?_
        refine WJ.cond (t := t25) rfl (fun hb33 => ?_) (fun hb33 => ?_)
        · replace hm := ifT hm hb33
          refine WJ.seq ?_
          refine WJ.quiet ?_
          refine QJ.step (YldS.yld (y_assign rfl)) rfl ?_
          refine QJ.step (YldS.yld (y_assign rfl)) rfl ?_
          refine QJ.done ?_
          refine PJ.next ?_
          refine WJ.ret ?_
          refine PJ.then_ret ?_
          refine PJ.nil_row 64 fAbbr ?_
          obtain rfl := Option.some.inj hm
          refine PJ.sel (L' := [row (.slice none 0 0) 64 fAbbr []]) [0] ⟨by decide, rfl⟩ ?_
          exact PJ.retn (vs := [(.slice none 0 0), .int .i64 4]) Try.results46 ⟨rfl, rfl, trivial⟩ ⟨_, rfl, rfl⟩
        · replace hm := ifF hm hb33
          refine WJ.skip ?_
          refine PJ.next ?_
          refine WJ.seq ?_
          refine WJ.seq ?_
          refine WJ.quiet ?_
          refine QJ.step (YldS.yld (y_move rfl)) rfl ?_
          refine QJ.step (YldS.yld (y_lenS Try.runUnderlying56 hr3 rfl)) rfl ?_
          refine QJ.step (YldS.yld (y_bin rfl rfl rfl)) rfl ?_
          refine QJ.done ?_
          refine PJ.next ?_
          refine WJ.cond (t := ((List.length list1 : Int) == 30)) rfl (fun hb34 => ?_) (fun hb34 => ?_)
          · replace hm := ifT hm hb34
            refine WJ.seq ?_
            refine WJ.quiet ?_
            refine QJ.step (YldS.yld (y_assign rfl)) rfl ?_
            refine QJ.step (YldS.yld (y_assign rfl)) rfl ?_
            refine QJ.done ?_
            refine PJ.next ?_
            refine WJ.ret ?_
            refine PJ.then_ret ?_
            refine PJ.nil_row 64 fAbbr ?_
            obtain rfl := Option.some.inj hm
            refine PJ.sel (L' := [row (.slice none 0 0) 64 fAbbr []]) [0] ⟨by decide, rfl⟩ ?_
            exact PJ.retn (vs := [(.slice none 0 0), .int .i64 5]) Try.results46 ⟨rfl, rfl, trivial⟩ ⟨_, rfl, rfl⟩
          · replace hm := ifF hm hb34
            refine WJ.skip ?_
            refine PJ.next ?_
            refine WJ.seq ?_
            refine WJ.reg ?_
            refine SJ.buildSlice (R := fAbbr) (os := []) [] Try.runUnderlying56 Try.sizeOf64 Try.zeroValue64 rfl rfl rfl rfl rfl rfl fun v35 => ?_
            refine SJ.q (YldS.yld (y_move rfl)) rfl ?_
            refine SJ.q (YldS.yld (y_move rfl)) rfl ?_
            obtain ⟨l36, h37, hm⟩ := bindS hm
            obtain ⟨v38, hr39, hy40⟩ := RdS.part (i := none) (j := some at12) hr3 h37
            refine SJ.q (YldS.yld (hy40 Try.runUnderlying56 Try.sizeOf64 rfl trivial ⟨_, rfl⟩)) rfl ?_
            obtain ⟨l41, h42, hm⟩ := bindS hm
            refine SJ.append (k := 0) (R := fAbbr) h42 rfl Try.underlying56 el64 rfl rfl rfl (fun w hw => (hr39.st hw)) rfl fun v43 => ?_
            refine SJ.q (YldS.yld (y_assign rfl)) rfl ?_
            refine SJ.nil ?_
            refine PJ.next ?_
            refine WJ.seq ?_
            obtain ⟨l45, h46, hm⟩ := bindS hm
            obtain ⟨l48, h49, hm⟩ := bindS hm
            obtain ⟨v50, hr51, hy52⟩ := RdS.part (i := some at12) (j := none) hr3 h49
            obtain ⟨l53, h54, hm⟩ := bindS hm
            refine WJ.draws (N := 10) (listed0 := #[false, false, false, false, false, false, false, false, false, false]) [box g5 64 [str x4.short, str x4.long]] follows rfl rfl ?_
            refine RJ.first 0 (listed' := #[true, false, false, false, false, false, false, false, false, false]) [1] rfl (by kernel_rfl) rfl ⟨by decide, rfl⟩ (y_move rfl) rfl ?_
            refine RJ.first 1 (listed' := #[true, true, false, false, false, false, false, false, false, false]) [1] rfl (by kernel_rfl) rfl ⟨by decide, rfl⟩ (y_loadBN (k := 0) (off := 0) (us := [str x4.short, str x4.long]) rfl Try.isAgg64 Try.sizeOf64 rfl rfl) rfl ?_
            refine RJ.first 4 (listed' := #[true, true, false, false, true, false, false, false, false, false]) [1] rfl (by kernel_rfl) rfl ⟨by decide, rfl⟩ (y_move rfl) rfl ?_
            refine RJ.first 5 (listed' := #[true, true, false, false, true, true, false, false, false, false]) [1] rfl (by kernel_rfl) rfl ⟨by decide, rfl⟩ (y_move rfl) rfl ?_
            refine RJ.first 6 (listed' := #[true, true, false, false, true, true, true, false, false, false]) [1] rfl (by kernel_rfl) rfl ⟨by decide, rfl⟩ (hy52 Try.runUnderlying56 Try.sizeOf64 rfl ⟨_, rfl⟩ trivial) rfl ?_
            refine RJ.step1 2 [1] (by kernel_rfl) ⟨by decide, rfl⟩ ?_
            refine RO.of (listed' := #[true, true, true, false, true, true, true, false, false, false]) rfl rfl ?_
            refine SJ.buildSlice (R := fAbbr) (os := [.tmp 53]) [x4] Try.runUnderlying56 Try.sizeOf64 Try.zeroValue64 rfl rfl rfl rfl rfl rfl fun v44 => ?_
            refine SJ.nil ?_
            refine PJ.draw ?_
            refine RJ.step1 3 [2] (by kernel_rfl) ⟨by decide, rfl⟩ ?_
            refine RO.of (listed' := #[true, true, true, true, true, true, true, false, false, false]) rfl rfl ?_
            refine SJ.append (k := 1) (R := fAbbr) h46 rfl Try.underlying56 el64 rfl rfl rfl (fun w hw => (hw.row_rd (k := 0) rfl)) rfl fun v47 => ?_
            refine SJ.nil ?_
            refine PJ.draw ?_
            refine RJ.step1 7 [2] (by kernel_rfl) ⟨by decide, rfl⟩ ?_
            refine RO.of (listed' := #[true, true, true, true, true, true, true, true, false, false]) rfl rfl ?_
            refine SJ.append (k := 1) (R := fAbbr) h54 rfl Try.underlying56 el64 rfl rfl rfl (fun w hw => (hr51.st hw)) rfl fun v55 => ?_
            refine SJ.nil ?_
            refine PJ.draw ?_
            refine RJ.first 8 (listed' := #[true, true, true, true, true, true, true, true, true, false]) [2] rfl (by kernel_rfl) rfl ⟨by decide, rfl⟩ (y_assign rfl) rfl ?_
            refine RJ.first 9 (listed' := #[true, true, true, true, true, true, true, true, true, true]) [2] rfl (by kernel_rfl) rfl ⟨by decide, rfl⟩ (y_assign rfl) rfl ?_
            refine RJ.fin [2] (by kernel_rfl) ⟨by decide, rfl⟩ ?_
            refine PJ.next ?_
            refine WJ.ret ?_
            obtain rfl := Option.some.inj hm
            refine PJ.sel (L' := [row v55 64 fAbbr l53]) [1] ⟨by decide, rfl⟩ ?_
            exact PJ.retn (vs := [v55, .int .i64 0]) Try.results46 ⟨rfl, rfl, trivial⟩ ⟨_, rfl, rfl⟩

set_option maxRecDepth 100000 in
set_option maxHeartbeats 1000000 in
theorem ok_s_DrawAbbrText {code1 : List UInt8} {r : Abbr} (hm : s_DrawAbbrText code1 = some r) (w : World) (v2 : Value) (hr3 : RdS w (cx w).Fz v2 fByte.rp code1) :
    Calls Try.prog 48 #[v2] w (Ret (cx w) (.agg (Abbr.enc r).toArray)) := by
  unfold s_DrawAbbrText at hm
  refine Calls.enter [v2] Try.func48 rfl Try.ntmps48 rfl ?_
  refine WJ.seq ?_
  refine WJ.reg ?_
  refine SJ.alloc (cs := [str [], str []]) Try.zeroValue64 rfl rfl fun g4 => ?_
  refine SJ.nil ?_
  refine PJ.next ?_
  refine WJ.seq ?_
  refine WJ.reg ?_
  refine SJ.q (YldS.yld (y_move rfl)) rfl ?_
  obtain ⟨r5, h6, hm⟩ := bindS hm
  refine SJ.call Try.call68 rfl (fun w hw => ok_s_l00From h6 w _ (hr3.st hw)) rfl ?_
  rintro _ _ ⟨g7, rfl, rfl⟩
  obtain ⟨r8, h9, hm⟩ := bindS hm
  refine SJ.call1 (k := 0) rfl Try.call94 rfl (fun w S hw hA hO => ok_s_l16New h9 w S _ (hr3.st1 hw hO) hA) rfl ?_
  rintro _ _ ⟨rfl, rfl⟩
  refine SJ.storeL (k := 1) (off := 0) (us := [str r8.1.short, str r8.1.long]) rfl rfl rfl rfl Try.sizeOf64 rfl rfl ?_
  refine SJ.nil ?_
  refine PJ.next ?_
  refine WJ.ret ?_
  obtain rfl := Option.some.inj hm
  exact PJ.retn_sel (vs := [.agg (Abbr.enc r8.1).toArray]) Try.results48 ⟨⟨1, g4, 64, [str r8.1.short, str r8.1.long], rfl, rfl, .inl ⟨Try.isAgg64, Try.sizeOf64, rfl⟩⟩, trivial⟩ [] ⟨List.nodup_nil, rfl⟩ ⟨rfl, rfl⟩

set_option maxRecDepth 100000 in
set_option maxHeartbeats 1000000 in
theorem ok_i_AbbrText {N : Nat} {x1 : Abbr} {r : Str} (hm : i_AbbrText N x1 = some r) (w : World)  :
    Calls Try.prog 49 #[.agg (Abbr.enc x1).toArray] w (Ret (cx w) (str r)) := by
  unfold i_AbbrText at hm
  refine Calls.enter [.agg (Abbr.enc x1).toArray] Try.func49 rfl Try.ntmps49 rfl ?_
  refine WJ.seq ?_
  refine WJ.reg ?_
  refine SJ.box (cs := [str x1.short, str x1.long]) rfl rfl rfl fun g2 => ?_
  refine SJ.q (YldS.yld (y_assign rfl)) rfl ?_
  refine SJ.nil ?_
  refine PJ.next ?_
  refine WJ.seq ?_
  refine WJ.seq ?_
  refine WJ.quiet ?_
  refine QJ.step (YldS.yld (y_loadBN (k := 0) (off := 0) (us := [str x1.short, str x1.long]) rfl Try.isAgg64 Try.sizeOf64 rfl rfl)) rfl ?_
  obtain ⟨r3, h4, hm⟩ := bindS hm
  refine QJ.step (y_call Try.call95 rfl (RetG.quiet fun w hw => ok_i_validAbbr h4 w )) rfl ?_
  refine QJ.step (YldS.yld (y_not rfl)) rfl ?_
  refine QJ.done ?_
  refine PJ.next ?_
  refine WJ.cond (t := !r3) rfl (fun hb5 => ?_) (fun hb5 => ?_)
  · replace hm := ifT hm hb5
    refine WJ.seq ?_
    refine WJ.quiet ?_
    refine QJ.step (YldS.yld (y_assign rfl)) rfl ?_
    refine QJ.done ?_
    refine PJ.next ?_
    refine WJ.ret ?_
    refine PJ.then_ret ?_
    obtain rfl := Option.some.inj hm
    refine PJ.sel (L' := []) [] ⟨List.nodup_nil, rfl⟩ ?_
    exact PJ.retn (vs := [str []]) Try.results49 ⟨rfl, trivial⟩ ⟨rfl, rfl⟩
  · replace hm := ifF hm hb5
    refine WJ.skip ?_
    refine PJ.next ?_
    refine WJ.seq ?_
    refine WJ.quiet ?_
    refine QJ.step (YldS.yld (y_fldB (o := 0) fld64_0 rfl)) rfl ?_
    refine QJ.step (YldS.yld (y_loadB (k := 0) (off := 0) (v := str x1.short) rfl Try.isAgg9 rfl rfl)) rfl ?_
    obtain ⟨s6, h7, hm⟩ := bindS hm
    refine QJ.step (YldS.yld (y_cat h7 rfl rfl)) rfl ?_
    refine QJ.step (YldS.yld (y_fldB (o := 0) fld64_1 rfl)) rfl ?_
    refine QJ.step (YldS.yld (y_loadB (k := 0) (off := 1) (v := str x1.long) rfl Try.isAgg9 rfl rfl)) rfl ?_
    obtain ⟨s8, h9, hm⟩ := bindS hm
    refine QJ.step (YldS.yld (y_cat h9 rfl rfl)) rfl ?_
    refine QJ.step (YldS.yld (y_assign rfl)) rfl ?_
    refine QJ.done ?_
    refine PJ.next ?_
    refine WJ.ret ?_
    obtain rfl := Option.some.inj hm
    refine PJ.sel (L' := []) [] ⟨List.nodup_nil, rfl⟩ ?_
    exact PJ.retn (vs := [str s8]) Try.results49 ⟨rfl, trivial⟩ ⟨rfl, rfl⟩

set_option maxRecDepth 100000 in
set_option maxHeartbeats 1000000 in
theorem ok_i_ReadAbbr {N : Nat} {s1 : Str} {r : Abbr × Bool} (hm : i_ReadAbbr N s1 = some r) (w : World)  :
    Calls Try.prog 50 #[str s1] w (Ret (cx w) (tup [.agg (Abbr.enc r.1).toArray, .bool r.2])) := by
  unfold i_ReadAbbr at hm
  refine Calls.enter [str s1] Try.func50 rfl Try.ntmps50 rfl ?_
  refine WJ.seq ?_
  refine WJ.reg ?_
  refine SJ.alloc (cs := [str [], str []]) Try.zeroValue64 rfl rfl fun g2 => ?_
  refine SJ.q (YldS.yld (y_assign rfl)) rfl ?_
  refine SJ.nil ?_
  refine PJ.next ?_
  obtain ⟨kj5, hk6, hm⟩ := withK_open hm
  refine WJ.join (X := Str × Str) (fun (x : Str × Str) => kj5 x.1 x.2 = some r) (fun (x : Str × Str) => [(2, pt g2 0)]) (fun (x : Str × Str) => [box g2 64 [str x.1, str x.2]]) ?_ ?_
  · clear hk6
    refine WJ.seq ?_
    refine WJ.quiet ?_
    refine QJ.step (YldS.yld (y_move rfl)) rfl ?_
    refine QJ.step (YldS.yld (y_lenStr Try.runUnderlying9 rfl)) rfl ?_
    refine QJ.step (YldS.yld (y_move rfl)) rfl ?_
    refine QJ.done ?_
    refine PJ.next ?_
    refine WJ.block ?_
    refine WJ.sel (L' := (fun (x : Str × Str × Int) => [box g2 64 [str x.1, str x.2.1]]) ([], [], 0)) [0] ⟨by decide, rfl⟩ ?_
    refine WJ.sub (m' := (fun (x : Str × Str × Int) => [(0, str s1), (2, pt g2 0), (7, .int .i64 (List.length s1 : Int)), (8, .int .i64 x.2.2)]) ([], [], 0)) ⟨rfl, rfl, rfl, rfl, trivial⟩ ?_
    refine WJ.loop (X := Str × Str × Int) (fun N (x : Str × Str × Int) => i_ReadAbbr_l1 kj5 s1 N x.1 x.2.1 x.2.2 = some r) (fun (x : Str × Str × Int) => [(0, str s1), (2, pt g2 0), (7, .int .i64 (List.length s1 : Int)), (8, .int .i64 x.2.2)]) (fun (x : Str × Str × Int) => [box g2 64 [str x.1, str x.2.1]]) ?_ N ([], [], 0) hm
    · rintro N ⟨x7, x8, x9⟩ hI
      have hm := hI; clear hI
      cases N with
      | zero => cases hm
      | succ N =>
      unfold i_ReadAbbr_l1 at hm
      refine WJ.seq ?_
      refine WJ.quiet ?_
      refine QJ.step (YldS.yld (y_bin rfl rfl rfl)) rfl ?_
      refine QJ.done ?_
      refine PJ.next ?_
      refine WJ.seq ?_
      refine WJ.cond (t := decide (x9 < (List.length s1 : Int))) rfl (fun hb10 => ?_) (fun hb10 => ?_)
      · replace hm := ifT hm hb10
        refine WJ.skip ?_
        refine PJ.next ?_
        obtain ⟨kj13, hk14, hm⟩ := withK_open hm
        refine WJ.join (X := Str × Str) (fun (x : Str × Str) => kj13 x.1 x.2 = some r) (fun (x : Str × Str) => [(0, str s1), (2, pt g2 0), (7, .int .i64 (List.length s1 : Int)), (8, .int .i64 x9)]) (fun (x : Str × Str) => [box g2 64 [str x.1, str x.2]]) ?_ ?_
        · clear hk14
          refine WJ.block ?_
          refine WJ.seq ?_
          refine WJ.quiet ?_
          refine QJ.step (YldS.yld (y_move rfl)) rfl ?_
          refine QJ.step (YldS.yld (y_assign rfl)) rfl ?_
          refine QJ.done ?_
          refine PJ.next ?_
          refine WJ.seq ?_
          refine WJ.quiet ?_
          refine QJ.step (YldS.yld (y_move rfl)) rfl ?_
          refine QJ.step (YldS.yld (y_move rfl)) rfl ?_
          obtain ⟨c15, h16, hm⟩ := bindS hm
          refine QJ.step (YldS.yld (y_idxStr Try.runUnderlying9 rfl rfl h16)) rfl ?_
          refine QJ.step (YldS.yld (y_bin8 c15 (61 : UInt8) rfl rfl rfl)) rfl ?_
          refine QJ.done ?_
          refine PJ.next ?_
          refine WJ.cond (t := (c15 == (61 : UInt8))) rfl (fun hb17 => ?_) (fun hb17 => ?_)
          · replace hm := ifT hm hb17
            refine WJ.seq ?_
            obtain ⟨s18, h19, hm⟩ := bindS hm
            obtain ⟨s20, h21, hm⟩ := bindS hm
            refine WJ.draws (N := 10) (listed0 := #[false, false, false, false, false, false, false, false, false, false]) [box g2 64 [str x7, str x8]] follows rfl rfl ?_
            refine RJ.first 0 (listed' := #[true, false, false, false, false, false, false, false, false, false]) [0] rfl (by kernel_rfl) rfl ⟨by decide, rfl⟩ (y_move rfl) rfl ?_
            refine RJ.first 1 (listed' := #[true, true, false, false, false, false, false, false, false, false]) [0] rfl (by kernel_rfl) rfl ⟨by decide, rfl⟩ (y_move rfl) rfl ?_
            refine RJ.first 2 (listed' := #[true, true, true, false, false, false, false, false, false, false]) [0] rfl (by kernel_rfl) rfl ⟨by decide, rfl⟩ (y_subStr (i := none) (j := some x9) h19 Try.runUnderlying9 rfl trivial ⟨_, rfl⟩) rfl ?_
            refine RJ.first 3 (listed' := #[true, true, true, true, false, false, false, false, false, false]) [0] rfl (by kernel_rfl) rfl ⟨by decide, rfl⟩ (y_move rfl) rfl ?_
            refine RJ.first 4 (listed' := #[true, true, true, true, true, false, false, false, false, false]) [0] rfl (by kernel_rfl) rfl ⟨by decide, rfl⟩ (y_move rfl) rfl ?_
            refine RJ.first 5 (listed' := #[true, true, true, true, true, true, false, false, false, false]) [0] rfl (by kernel_rfl) rfl ⟨by decide, rfl⟩ (y_bin rfl rfl rfl) rfl ?_
            refine RJ.first 6 (listed' := #[true, true, true, true, true, true, true, false, false, false]) [0] rfl (by kernel_rfl) rfl ⟨by decide, rfl⟩ (y_subStr (i := some (w64 (x9 + 1))) (j := none) h21 Try.runUnderlying9 rfl ⟨_, rfl⟩ trivial) rfl ?_
            refine RJ.first 7 (listed' := #[true, true, true, true, true, true, true, true, false, false]) [0] rfl (by kernel_rfl) rfl ⟨by decide, rfl⟩ (y_build (parts := [(0, .tmp 17), (1, .tmp 21)]) (places := [(0, 1), (1, 1)]) (r := [str ((Abbr.mk s18 s20).short), str ((Abbr.mk s18 s20).long)]) pl64 Try.zeroValue64 rfl rfl rfl rfl) rfl ?_
            refine RJ.step1 8 [0] (by kernel_rfl) ⟨by decide, rfl⟩ ?_
            refine RO.of (listed' := #[true, true, true, true, true, true, true, true, true, false]) rfl rfl ?_
            refine SJ.alloc (cs := [str [], str []]) Try.zeroValue64 rfl rfl fun g22 => ?_
            refine SJ.nil ?_
            refine PJ.draw ?_
            refine RJ.step1 9 [1] (by kernel_rfl) ⟨by decide, rfl⟩ ?_
            refine RO.of (listed' := #[true, true, true, true, true, true, true, true, true, true]) rfl rfl ?_
            refine SJ.storeL (k := 0) (off := 0) (us := [str ((Abbr.mk s18 s20).short), str ((Abbr.mk s18 s20).long)]) rfl rfl rfl rfl Try.sizeOf64 rfl rfl ?_
            refine SJ.nil ?_
            refine PJ.draw ?_
            refine RJ.fin [1] (by kernel_rfl) ⟨by decide, rfl⟩ ?_
            refine PJ.next ?_
            refine WJ.seq ?_
            refine WJ.quiet ?_
            refine QJ.step (YldS.yld (y_loadBN (k := 0) (off := 0) (us := [str ((Abbr.mk s18 s20).short), str ((Abbr.mk s18 s20).long)]) rfl Try.isAgg64 Try.sizeOf64 rfl rfl)) rfl ?_
            obtain ⟨r23, h24, hm⟩ := bindS hm
            refine QJ.step (y_call Try.call95 rfl (RetG.quiet fun w hw => ok_i_validAbbr h24 w )) rfl ?_
            refine QJ.done ?_
            refine PJ.next ?_
            refine WJ.cond (t := r23) rfl (fun hb25 => ?_) (fun hb25 => ?_)
            · replace hm := ifT hm hb25
              refine WJ.seq ?_
              refine WJ.reg ?_
              refine SJ.q (YldS.yld (y_loadBN (k := 0) (off := 0) (us := [str ((Abbr.mk s18 s20).short), str ((Abbr.mk s18 s20).long)]) rfl Try.isAgg64 Try.sizeOf64 rfl rfl)) rfl ?_
              refine SJ.storeL (k := 1) (off := 0) (us := [str ((Abbr.mk s18 s20).short), str ((Abbr.mk s18 s20).long)]) rfl rfl rfl rfl Try.sizeOf64 rfl rfl ?_
              refine SJ.q (YldS.yld (y_assign rfl)) rfl ?_
              refine SJ.nil ?_
              refine PJ.next ?_
              refine WJ.ret ?_
              refine PJ.block_ret (PJ.then_ret (PJ.then_ret (PJ.block_ret (PJ.then_ret ?_))))
              obtain rfl := Option.some.inj hm
              exact PJ.retn_sel (vs := [.agg (Abbr.enc (Abbr.mk s18 s20)).toArray, .bool true]) Try.results50 ⟨⟨1, g2, 64, [str ((Abbr.mk s18 s20).short), str ((Abbr.mk s18 s20).long)], rfl, rfl, .inl ⟨Try.isAgg64, Try.sizeOf64, rfl⟩⟩, rfl, trivial⟩ [] ⟨List.nodup_nil, rfl⟩ ⟨rfl, rfl⟩
            · replace hm := ifF hm hb25
              refine WJ.skip ?_
              refine PJ.block_normal ?_
              exact PJ.joined (x7, x8) [1] hm ⟨rfl, rfl, rfl, rfl, trivial⟩ ⟨by decide, rfl⟩
          · replace hm := ifF hm hb17
            refine WJ.skip ?_
            refine PJ.block_normal ?_
            exact PJ.joined (x7, x8) [0] hm ⟨rfl, rfl, rfl, rfl, trivial⟩ ⟨by decide, rfl⟩
        · rintro ⟨x11, x12⟩ hm
          subst hk14
          refine WJ.quiet ?_
          refine QJ.step (YldS.yld (y_bin rfl rfl rfl)) rfl ?_
          refine QJ.step (YldS.yld (y_move rfl)) rfl ?_
          refine QJ.done ?_
          exact PJ.round (x11, x12, w64 (x9 + 1)) [0] hm ⟨rfl, rfl, rfl, rfl, trivial⟩ ⟨by decide, rfl⟩
      · replace hm := ifF hm hb10
        refine WJ.exit ?_
        refine PJ.then_exit (PJ.then_exit (PJ.block_exit ?_))
        exact PJ.joined (x7, x8) [0] hm ⟨rfl, trivial⟩ ⟨by decide, rfl⟩
  · rintro ⟨x3, x4⟩ hm
    subst hk6
    refine WJ.seq ?_
    refine WJ.reg ?_
    refine SJ.q (YldS.yld (y_build (parts := []) (places := [(0, 1), (1, 1)]) (r := [str ((Abbr.mk [] []).short), str ((Abbr.mk [] []).long)]) pl64 Try.zeroValue64 rfl rfl rfl rfl)) rfl ?_
    refine SJ.storeL (k := 0) (off := 0) (us := [str ((Abbr.mk [] []).short), str ((Abbr.mk [] []).long)]) rfl rfl rfl rfl Try.sizeOf64 rfl rfl ?_
    refine SJ.q (YldS.yld (y_assign rfl)) rfl ?_
    refine SJ.nil ?_
    refine PJ.next ?_
    refine WJ.ret ?_
    obtain rfl := Option.some.inj hm
    exact PJ.retn_sel (vs := [.agg (Abbr.enc (Abbr.mk [] [])).toArray, .bool false]) Try.results50 ⟨⟨0, g2, 64, [str ((Abbr.mk [] []).short), str ((Abbr.mk [] []).long)], rfl, rfl, .inl ⟨Try.isAgg64, Try.sizeOf64, rfl⟩⟩, rfl, trivial⟩ [] ⟨List.nodup_nil, rfl⟩ ⟨rfl, rfl⟩

set_option maxRecDepth 100000 in
set_option maxHeartbeats 1000000 in
theorem ok_s_l01Spoil {s1 : L00Src} {t5 : Str} {g2 : Nat} {r : Str × L00Src} (hm : s_l01Spoil s1 t5 = some r) (w : World) (S : Nat → Prop) (v3 : Value) (hr4 : RdS w (Cx.Fz ⟨w, S⟩) v3 fByte.rp s1.code) (hA : (box g2 134 [v3, .int .i64 s1.at_, .int .u64 s1.seed]).holds w S) :
    Calls Try.prog 97 #[pt g2 0, str t5] w (RetG ⟨w, S⟩ fun u L => (u = str r.1 ∧ L = [box g2 134 [v3, .int .i64 r.2.at_, .int .u64 r.2.seed]])) := by
  unfold s_l01Spoil at hm
  refine Calls.enter1 hA [pt g2 0, str t5] Try.func97 rfl Try.ntmps97 rfl ?_
  refine WJ.seq ?_
  refine WJ.quiet ?_
  refine QJ.step (YldS.yld (y_assign rfl)) rfl ?_
  refine QJ.done ?_
  refine PJ.next ?_
  obtain ⟨kj9, hk10, hm⟩ := withK_open hm
  refine WJ.join (X := Int × Int × Str) (fun (x : Int × Int × Str) => kj9 x.1 x.2.1 x.2.2 = some r) (fun (x : Int × Int × Str) => [(1, str x.2.2)]) (fun (x : Int × Int × Str) => [box g2 134 [v3, .int .i64 x.1, .int .u64 x.2.1]]) ?_ ?_
  · clear hk10
    refine WJ.seq ?_
    refine WJ.reg ?_
    refine SJ.q (YldS.yld (y_move rfl)) rfl ?_
    obtain ⟨r11, h12, hm⟩ := bindS hm
    refine SJ.call1 (k := 0) rfl Try.call71 rfl (fun w S hw hA hO => ok_s_l00Src_pick h12 w S _ (hr4.st1 hw hO) hA) rfl ?_
    rintro _ _ ⟨rfl, rfl⟩
    refine SJ.nil ?_
    refine PJ.next ?_
    refine WJ.block ?_
    refine WJ.seq ?_
    refine WJ.quiet ?_
    refine QJ.step (YldS.yld (y_bin rfl rfl rfl)) rfl ?_
    refine QJ.step (YldS.yld (y_assign rfl)) rfl ?_
    refine QJ.done ?_
    refine PJ.next ?_
    refine WJ.cond (t := (r11.1 == 0)) rfl (fun hb13 => ?_) (fun hb13 => ?_)
    · replace hm := ifT hm hb13
      refine WJ.seq ?_
      refine WJ.reg ?_
      refine SJ.q (YldS.yld (y_move rfl)) rfl ?_
      refine SJ.q (YldS.yld (y_move rfl)) rfl ?_
      refine SJ.q (YldS.yld (y_lenStr Try.runUnderlying9 rfl)) rfl ?_
      refine SJ.q (YldS.yld (y_bin rfl rfl rfl)) rfl ?_
      obtain ⟨r14, h15, hm⟩ := bindS hm
      refine SJ.call1 (k := 0) rfl Try.call71 rfl (fun w S hw hA hO => ok_s_l00Src_pick h15 w S _ (hr4.st1 hw hO) hA) rfl ?_
      rintro _ _ ⟨rfl, rfl⟩
      refine SJ.q (YldS.yld (y_assign rfl)) rfl ?_
      refine SJ.nil ?_
      refine PJ.next ?_
      obtain ⟨s16, h17, hm⟩ := bindS hm
      obtain ⟨r19, h20, hm⟩ := bindS hm
      obtain ⟨s21, h22, hm⟩ := bindS hm
      obtain ⟨s23, h24, hm⟩ := bindS hm
      obtain ⟨s25, h26, hm⟩ := bindS hm
      refine WJ.draws (N := 12) (listed0 := #[false, false, false, false, false, false, false, false, false, false, false, false]) [] follows rfl rfl ?_
      refine RJ.first 0 (listed' := #[true, false, false, false, false, false, false, false, false, false, false, false]) [] rfl (by kernel_rfl) rfl ⟨List.nodup_nil, rfl⟩ (y_move rfl) rfl ?_
      refine RJ.first 1 (listed' := #[true, true, false, false, false, false, false, false, false, false, false, false]) [] rfl (by kernel_rfl) rfl ⟨List.nodup_nil, rfl⟩ (y_move rfl) rfl ?_
      refine RJ.first 2 (listed' := #[true, true, true, false, false, false, false, false, false, false, false, false]) [] rfl (by kernel_rfl) rfl ⟨List.nodup_nil, rfl⟩ (y_subStr (i := none) (j := some r14.1) h17 Try.runUnderlying9 rfl trivial ⟨_, rfl⟩) rfl ?_
      refine RJ.first 3 (listed' := #[true, true, true, true, false, false, false, false, false, false, false, false]) [] rfl (by kernel_rfl) rfl ⟨List.nodup_nil, rfl⟩ (y_move rfl) rfl ?_
      refine RJ.first 7 (listed' := #[true, true, true, true, false, false, false, true, false, false, false, false]) [] rfl (by kernel_rfl) rfl ⟨List.nodup_nil, rfl⟩ (y_move rfl) rfl ?_
      refine RJ.first 8 (listed' := #[true, true, true, true, false, false, false, true, true, false, false, false]) [] rfl (by kernel_rfl) rfl ⟨List.nodup_nil, rfl⟩ (y_move rfl) rfl ?_
      refine RJ.first 9 (listed' := #[true, true, true, true, false, false, false, true, true, true, false, false]) [] rfl (by kernel_rfl) rfl ⟨List.nodup_nil, rfl⟩ (y_subStr (i := some r14.1) (j := none) h24 Try.runUnderlying9 rfl ⟨_, rfl⟩ trivial) rfl ?_
      refine RJ.step1 4 [] (by kernel_rfl) ⟨List.nodup_nil, rfl⟩ ?_
      refine RO.of (listed' := #[true, true, true, true, true, false, false, true, true, true, false, false]) rfl rfl ?_
      refine SJ.buildSlice (R := fStr) (os := [.const (str [32]), .const (str [48]), .const (str [45]), .const (str [120]), .const (str [49]), .const (str [57]), .const (str [46])]) ([[32], [48], [45], [120], [49], [57], [46]] : List Str) Try.runUnderlying43 Try.sizeOf9 Try.zeroValue9 rfl rfl rfl rfl rfl rfl fun v18 => ?_
      refine SJ.nil ?_
      refine PJ.draw ?_
      refine RJ.step1 5 [] (by kernel_rfl) ⟨List.nodup_nil, rfl⟩ ?_
      refine RO.of (listed' := #[true, true, true, true, true, true, false, true, true, true, false, false]) rfl rfl ?_
      refine SJ.call2 (k := 1) rfl Try.call100 rfl (fun w S hw hA hO hB => ok_s_l00Src_text h20 w S _ (hr4.st1 hw hO) _ (hB.row_rd (j := 0) (k := 1) rfl rfl) hA) rfl ?_
      rintro _ _ ⟨rfl, rfl⟩
      refine SJ.nil ?_
      refine PJ.draw ?_
      refine RJ.first 6 (listed' := #[true, true, true, true, true, true, true, true, true, true, false, false]) [] rfl (by kernel_rfl) rfl ⟨List.nodup_nil, rfl⟩ (y_cat h22 rfl rfl) rfl ?_
      refine RJ.first 10 (listed' := #[true, true, true, true, true, true, true, true, true, true, true, false]) [] rfl (by kernel_rfl) rfl ⟨List.nodup_nil, rfl⟩ (y_cat h26 rfl rfl) rfl ?_
      refine RJ.first 11 (listed' := #[true, true, true, true, true, true, true, true, true, true, true, true]) [] rfl (by kernel_rfl) rfl ⟨List.nodup_nil, rfl⟩ (y_assign rfl) rfl ?_
      refine RJ.fin [] (by kernel_rfl) ⟨List.nodup_nil, rfl⟩ ?_
      refine PJ.block_normal ?_
      exact PJ.joined (r19.2.at_, r19.2.seed, s25) [0] hm ⟨rfl, trivial⟩ ⟨by decide, rfl⟩
    · replace hm := ifF hm hb13
      refine WJ.seq ?_
      refine WJ.quiet ?_
      refine QJ.step (YldS.yld (y_bin rfl rfl rfl)) rfl ?_
      refine QJ.step (YldS.yld (y_assign rfl)) rfl ?_
      refine QJ.done ?_
      refine PJ.next ?_
      refine WJ.cond (t := (r11.1 == 1)) rfl (fun hb27 => ?_) (fun hb27 => ?_)
      · replace hm := ifT hm hb27
        refine WJ.seq ?_
        refine WJ.quiet ?_
        refine QJ.step (YldS.yld (y_move rfl)) rfl ?_
        refine QJ.step (YldS.yld (y_binS rfl rfl rfl)) rfl ?_
        refine QJ.done ?_
        refine PJ.next ?_
        refine WJ.cond (t := (t5 != [])) rfl (fun hb28 => ?_) (fun hb28 => ?_)
        · replace hm := ifT hm hb28
          refine WJ.seq ?_
          refine WJ.reg ?_
          refine SJ.q (YldS.yld (y_move rfl)) rfl ?_
          refine SJ.q (YldS.yld (y_move rfl)) rfl ?_
          refine SJ.q (YldS.yld (y_lenStr Try.runUnderlying9 rfl)) rfl ?_
          obtain ⟨r29, h30, hm⟩ := bindS hm
          refine SJ.call1 (k := 0) rfl Try.call71 rfl (fun w S hw hA hO => ok_s_l00Src_pick h30 w S _ (hr4.st1 hw hO) hA) rfl ?_
          rintro _ _ ⟨rfl, rfl⟩
          refine SJ.q (YldS.yld (y_assign rfl)) rfl ?_
          refine SJ.nil ?_
          refine PJ.next ?_
          refine WJ.quiet_draw follows (by kernel_rfl) ?_
          refine QJ.step (YldS.yld (y_move rfl)) rfl ?_
          refine QJ.step (YldS.yld (y_move rfl)) rfl ?_
          obtain ⟨s31, h32, hm⟩ := bindS hm
          refine QJ.step (YldS.yld (y_subStr (i := none) (j := some r29.1) h32 Try.runUnderlying9 rfl trivial ⟨_, rfl⟩)) rfl ?_
          refine QJ.step (YldS.yld (y_move rfl)) rfl ?_
          refine QJ.step (YldS.yld (y_move rfl)) rfl ?_
          refine QJ.step (YldS.yld (y_bin rfl rfl rfl)) rfl ?_
          obtain ⟨s33, h34, hm⟩ := bindS hm
          refine QJ.step (YldS.yld (y_subStr (i := some (w64 (r29.1 + 1))) (j := none) h34 Try.runUnderlying9 rfl ⟨_, rfl⟩ trivial)) rfl ?_
          obtain ⟨s35, h36, hm⟩ := bindS hm
          refine QJ.step (YldS.yld (y_cat h36 rfl rfl)) rfl ?_
          refine QJ.step (YldS.yld (y_assign rfl)) rfl ?_
          refine QJ.done ?_
          refine PJ.block_normal ?_
          exact PJ.joined (r29.2.at_, r29.2.seed, s35) [0] hm ⟨rfl, trivial⟩ ⟨by decide, rfl⟩
        · replace hm := ifF hm hb28
          refine WJ.skip ?_
          refine PJ.block_normal ?_
          exact PJ.joined (r11.2.at_, r11.2.seed, t5) [0] hm ⟨rfl, trivial⟩ ⟨by decide, rfl⟩
      · replace hm := ifF hm hb27
        refine WJ.skip ?_
        refine PJ.block_normal ?_
        exact PJ.joined (r11.2.at_, r11.2.seed, t5) [0] hm ⟨rfl, trivial⟩ ⟨by decide, rfl⟩
  · rintro ⟨x6, x7, t8⟩ hm
    subst hk10
    refine WJ.seq ?_
    refine WJ.quiet ?_
    refine QJ.step (YldS.yld (y_move rfl)) rfl ?_
    refine QJ.step (YldS.yld (y_assign rfl)) rfl ?_
    refine QJ.done ?_
    refine PJ.next ?_
    refine WJ.ret ?_
    obtain rfl := Option.some.inj hm
    refine PJ.sel (L' := [box g2 134 [v3, .int .i64 x6, .int .u64 x7]]) [0] ⟨by decide, rfl⟩ ?_
    exact PJ.retn (vs := [str t8]) Try.results97 ⟨rfl, trivial⟩ ⟨rfl, rfl⟩

set_option maxRecDepth 100000 in
set_option maxHeartbeats 1000000 in
theorem ok_s_DrawReadAbbr {code1 : List UInt8} {r : Str} (hm : s_DrawReadAbbr code1 = some r) (w : World) (v2 : Value) (hr3 : RdS w (cx w).Fz v2 fByte.rp code1) :
    Calls Try.prog 51 #[v2] w (Ret (cx w) (str r)) := by
  unfold s_DrawReadAbbr at hm
  refine Calls.enter [v2] Try.func51 rfl Try.ntmps51 rfl ?_
  refine WJ.seq ?_
  refine WJ.quiet ?_
  refine QJ.step (YldS.yld (y_assign rfl)) rfl ?_
  refine QJ.done ?_
  refine PJ.next ?_
  refine WJ.seq ?_
  refine WJ.reg ?_
  refine SJ.q (YldS.yld (y_move rfl)) rfl ?_
  obtain ⟨r4, h5, hm⟩ := bindS hm
  refine SJ.call Try.call68 rfl (fun w hw => ok_s_l00From h5 w _ (hr3.st hw)) rfl ?_
  rintro _ _ ⟨g6, rfl, rfl⟩
  refine SJ.q (YldS.yld (y_assign rfl)) rfl ?_
  refine SJ.nil ?_
  refine PJ.next ?_
  refine WJ.seq ?_
  refine WJ.reg ?_
  refine SJ.q (YldS.yld (y_move rfl)) rfl ?_
  obtain ⟨r7, h8, hm⟩ := bindS hm
  refine SJ.call1 (k := 0) rfl Try.call94 rfl (fun w S hw hA hO => ok_s_l16New h8 w S _ (hr3.st1 hw hO) hA) rfl ?_
  rintro _ _ ⟨rfl, rfl⟩
  refine SJ.alloc (cs := [str [], str []]) Try.zeroValue64 rfl rfl fun g9 => ?_
  refine SJ.storeL (k := 0) (off := 0) (us := [str r7.1.short, str r7.1.long]) rfl rfl rfl rfl Try.sizeOf64 rfl rfl ?_
  refine SJ.nil ?_
  refine PJ.next ?_
  refine WJ.seq ?_
  refine WJ.quiet ?_
  refine QJ.step (YldS.yld (y_fldB (o := 0) fld64_0 rfl)) rfl ?_
  refine QJ.step (YldS.yld (y_loadB (k := 0) (off := 0) (v := str r7.1.short) rfl Try.isAgg9 rfl rfl)) rfl ?_
  obtain ⟨s10, h11, hm⟩ := bindS hm
  refine QJ.step (YldS.yld (y_cat h11 rfl rfl)) rfl ?_
  refine QJ.step (YldS.yld (y_fldB (o := 0) fld64_1 rfl)) rfl ?_
  refine QJ.step (YldS.yld (y_loadB (k := 0) (off := 1) (v := str r7.1.long) rfl Try.isAgg9 rfl rfl)) rfl ?_
  obtain ⟨s12, h13, hm⟩ := bindS hm
  refine QJ.step (YldS.yld (y_cat h13 rfl rfl)) rfl ?_
  refine QJ.step (YldS.yld (y_assign rfl)) rfl ?_
  refine QJ.done ?_
  refine PJ.next ?_
  refine WJ.seq ?_
  refine WJ.seq ?_
  refine WJ.reg ?_
  refine SJ.q (YldS.yld (y_move rfl)) rfl ?_
  obtain ⟨r14, h15, hm⟩ := bindS hm
  refine SJ.call1 (k := 1) rfl Try.call70 rfl (fun w S hw hA hO => ok_s_l00Src_one h15 w S _ (hr3.st1 hw hO) hA) rfl ?_
  rintro _ _ ⟨rfl, rfl⟩
  refine SJ.nil ?_
  refine PJ.next ?_
  refine WJ.cond (t := r14.1) rfl (fun hb16 => ?_) (fun hb16 => ?_)
  · replace hm := ifT hm hb16
    refine WJ.seq ?_
    refine WJ.reg ?_
    refine SJ.q (YldS.yld (y_move rfl)) rfl ?_
    refine SJ.q (YldS.yld (y_move rfl)) rfl ?_
    obtain ⟨r17, h18, hm⟩ := bindS hm
    refine SJ.call1 (k := 0) rfl Try.call97 rfl (fun w S hw hA hO => ok_s_l01Spoil h18 w S _ (hr3.st1 hw hO) hA) rfl ?_
    rintro _ _ ⟨rfl, rfl⟩
    refine SJ.q (YldS.yld (y_assign rfl)) rfl ?_
    refine SJ.nil ?_
    refine PJ.next ?_
    refine WJ.ret ?_
    refine PJ.then_ret ?_
    obtain rfl := Option.some.inj hm
    refine PJ.sel (L' := []) [] ⟨List.nodup_nil, rfl⟩ ?_
    exact PJ.retn (vs := [str r17.1]) Try.results51 ⟨rfl, trivial⟩ ⟨rfl, rfl⟩
  · replace hm := ifF hm hb16
    refine WJ.skip ?_
    refine PJ.next ?_
    refine WJ.seq ?_
    refine WJ.quiet ?_
    refine QJ.step (YldS.yld (y_move rfl)) rfl ?_
    refine QJ.step (YldS.yld (y_assign rfl)) rfl ?_
    refine QJ.done ?_
    refine PJ.next ?_
    refine WJ.ret ?_
    obtain rfl := Option.some.inj hm
    refine PJ.sel (L' := []) [] ⟨List.nodup_nil, rfl⟩ ?_
    exact PJ.retn (vs := [str s12]) Try.results51 ⟨rfl, trivial⟩ ⟨rfl, rfl⟩

set_option maxRecDepth 100000 in
set_option maxHeartbeats 1000000 in
theorem ok_s_ReadAbbr {N : Nat} {s1 : Str} {r : Abbr × Bool} (hm : s_ReadAbbr N s1 = some r) (w : World)  :
    Calls Try.prog 52 #[str s1] w (Ret (cx w) (tup [.agg (Abbr.enc r.1).toArray, .bool r.2])) := by
  unfold s_ReadAbbr at hm
  refine Calls.enter [str s1] Try.func52 rfl Try.ntmps52 rfl ?_
  refine WJ.seq ?_
  refine WJ.reg ?_
  refine SJ.alloc (cs := [str [], str []]) Try.zeroValue64 rfl rfl fun g2 => ?_
  refine SJ.q (YldS.yld (y_assign rfl)) rfl ?_
  refine SJ.nil ?_
  refine PJ.next ?_
  refine WJ.seq ?_
  refine WJ.reg ?_
  refine SJ.q (YldS.yld (y_move rfl)) rfl ?_
  obtain ⟨r3, h4, hm⟩ := bindS hm
  refine SJ.call Try.call98 rfl (fun w hw => ok_s_l01Split h4 w ) rfl ?_
  rintro v5 _ ⟨_, rfl, rfl⟩
  refine SJ.q (YldS.yld (y_assign rfl)) rfl ?_
  refine SJ.nil ?_
  refine PJ.next ?_
  refine WJ.seq ?_
  refine WJ.seq ?_
  refine WJ.quiet ?_
  refine QJ.step (YldS.yld (y_move rfl)) rfl ?_
  refine QJ.step (YldS.yld (y_lenRow (k := 0) rfl Try.runUnderlying43 rfl)) rfl ?_
  refine QJ.step (YldS.yld (y_bin rfl rfl rfl)) rfl ?_
  refine QJ.done ?_
  refine PJ.next ?_
  refine WJ.cond (t := ((List.length r3 : Int) != 2)) rfl (fun hb6 => ?_) (fun hb6 => ?_)
  · replace hm := ifT hm hb6
    refine WJ.seq ?_
    refine WJ.reg ?_
    refine SJ.q (YldS.yld (y_build (parts := []) (places := [(0, 1), (1, 1)]) (r := [str ((Abbr.mk [] []).short), str ((Abbr.mk [] []).long)]) pl64 Try.zeroValue64 rfl rfl rfl rfl)) rfl ?_
    refine SJ.storeL (k := 1) (off := 0) (us := [str ((Abbr.mk [] []).short), str ((Abbr.mk [] []).long)]) rfl rfl rfl rfl Try.sizeOf64 rfl rfl ?_
    refine SJ.q (YldS.yld (y_assign rfl)) rfl ?_
    refine SJ.nil ?_
    refine PJ.next ?_
    refine WJ.ret ?_
    refine PJ.then_ret ?_
    obtain rfl := Option.some.inj hm
    exact PJ.retn_sel (vs := [.agg (Abbr.enc (Abbr.mk [] [])).toArray, .bool false]) Try.results52 ⟨⟨1, g2, 64, [str ((Abbr.mk [] []).short), str ((Abbr.mk [] []).long)], rfl, rfl, .inl ⟨Try.isAgg64, Try.sizeOf64, rfl⟩⟩, rfl, trivial⟩ [] ⟨List.nodup_nil, rfl⟩ ⟨rfl, rfl⟩
  · replace hm := ifF hm hb6
    refine WJ.skip ?_
    refine PJ.next ?_
    refine WJ.seq ?_
    obtain ⟨e7, h8, hm⟩ := bindS hm
    obtain ⟨e9, h10, hm⟩ := bindS hm
    refine WJ.draws (N := 9) (listed0 := #[false, false, false, false, false, false, false, false, false]) [row v5 9 fStr r3, box g2 64 [str [], str []]] follows rfl rfl ?_
    refine RJ.first 0 (listed' := #[true, false, false, false, false, false, false, false, false]) [0, 1] rfl (by kernel_rfl) rfl ⟨by decide, rfl⟩ (y_move rfl) rfl ?_
    refine RJ.first 1 (listed' := #[true, true, false, false, false, false, false, false, false]) [0, 1] rfl (by kernel_rfl) rfl ⟨by decide, rfl⟩ (y_ixRow (k := 0) (R := fStr) rfl Try.runUnderlying43 Try.sizeOf9 rfl rfl h8) rfl ?_
    refine RJ.first 2 (listed' := #[true, true, true, false, false, false, false, false, false]) [0, 1] rfl (by kernel_rfl) rfl ⟨by decide, rfl⟩ (y_loadR (k := 0) (i := (Int.toNat 0)) (off := 0) (u := str e7) rfl Try.isAgg9 rfl (idx_get h8) rfl) rfl ?_
    refine RJ.first 3 (listed' := #[true, true, true, true, false, false, false, false, false]) [0, 1] rfl (by kernel_rfl) rfl ⟨by decide, rfl⟩ (y_move rfl) rfl ?_
    refine RJ.first 4 (listed' := #[true, true, true, true, true, false, false, false, false]) [0, 1] rfl (by kernel_rfl) rfl ⟨by decide, rfl⟩ (y_ixRow (k := 0) (R := fStr) rfl Try.runUnderlying43 Try.sizeOf9 rfl rfl h10) rfl ?_
    refine RJ.first 5 (listed' := #[true, true, true, true, true, true, false, false, false]) [0, 1] rfl (by kernel_rfl) rfl ⟨by decide, rfl⟩ (y_loadR (k := 0) (i := (Int.toNat 1)) (off := 0) (u := str e9) rfl Try.isAgg9 rfl (idx_get h10) rfl) rfl ?_
    refine RJ.first 6 (listed' := #[true, true, true, true, true, true, true, false, false]) [0, 1] rfl (by kernel_rfl) rfl ⟨by decide, rfl⟩ (y_build (parts := [(0, .tmp 14), (1, .tmp 17)]) (places := [(0, 1), (1, 1)]) (r := [str ((Abbr.mk e7 e9).short), str ((Abbr.mk e7 e9).long)]) pl64 Try.zeroValue64 rfl rfl rfl rfl) rfl ?_
    refine RJ.step1 7 [0, 1] (by kernel_rfl) ⟨by decide, rfl⟩ ?_
    refine RO.of (listed' := #[true, true, true, true, true, true, true, true, false]) rfl rfl ?_
    refine SJ.alloc (cs := [str [], str []]) Try.zeroValue64 rfl rfl fun g11 => ?_
    refine SJ.nil ?_
    refine PJ.draw ?_
    refine RJ.step1 8 [1, 2] (by kernel_rfl) ⟨by decide, rfl⟩ ?_
    refine RO.of (listed' := #[true, true, true, true, true, true, true, true, true]) rfl rfl ?_
    refine SJ.storeL (k := 0) (off := 0) (us := [str ((Abbr.mk e7 e9).short), str ((Abbr.mk e7 e9).long)]) rfl rfl rfl rfl Try.sizeOf64 rfl rfl ?_
    refine SJ.nil ?_
    refine PJ.draw ?_
    refine RJ.fin [1, 2] (by kernel_rfl) ⟨by decide, rfl⟩ ?_
    refine PJ.next ?_
    refine WJ.seq ?_
    refine WJ.seq ?_
    refine WJ.quiet ?_
    obtain ⟨r12, h13, hm⟩ := bindS hm
    refine QJ.step (y_call Try.call96 rfl (RetG.quiet fun w hw => ok_s_l16One h13 w _ (hw.box_at (k := 0) rfl))) rfl ?_
    refine QJ.step (YldS.yld (y_not rfl)) rfl ?_
    refine QJ.done ?_
    refine PJ.next ?_
    refine WJ.cond (t := !r12) rfl (fun hb14 => ?_) (fun hb14 => ?_)
    · replace hm := ifT hm hb14
      refine WJ.seq ?_
      refine WJ.reg ?_
      refine SJ.q (YldS.yld (y_build (parts := []) (places := [(0, 1), (1, 1)]) (r := [str ((Abbr.mk [] []).short), str ((Abbr.mk [] []).long)]) pl64 Try.zeroValue64 rfl rfl rfl rfl)) rfl ?_
      refine SJ.storeL (k := 2) (off := 0) (us := [str ((Abbr.mk [] []).short), str ((Abbr.mk [] []).long)]) rfl rfl rfl rfl Try.sizeOf64 rfl rfl ?_
      refine SJ.q (YldS.yld (y_assign rfl)) rfl ?_
      refine SJ.nil ?_
      refine PJ.next ?_
      refine WJ.ret ?_
      refine PJ.then_ret ?_
      obtain rfl := Option.some.inj hm
      exact PJ.retn_sel (vs := [.agg (Abbr.enc (Abbr.mk [] [])).toArray, .bool false]) Try.results52 ⟨⟨2, g2, 64, [str ((Abbr.mk [] []).short), str ((Abbr.mk [] []).long)], rfl, rfl, .inl ⟨Try.isAgg64, Try.sizeOf64, rfl⟩⟩, rfl, trivial⟩ [] ⟨List.nodup_nil, rfl⟩ ⟨rfl, rfl⟩
    · replace hm := ifF hm hb14
      refine WJ.skip ?_
      refine PJ.next ?_
      refine WJ.seq ?_
      refine WJ.reg ?_
      refine SJ.q (YldS.yld (y_loadBN (k := 0) (off := 0) (us := [str ((Abbr.mk e7 e9).short), str ((Abbr.mk e7 e9).long)]) rfl Try.isAgg64 Try.sizeOf64 rfl rfl)) rfl ?_
      refine SJ.storeL (k := 2) (off := 0) (us := [str ((Abbr.mk e7 e9).short), str ((Abbr.mk e7 e9).long)]) rfl rfl rfl rfl Try.sizeOf64 rfl rfl ?_
      refine SJ.q (YldS.yld (y_assign rfl)) rfl ?_
      refine SJ.nil ?_
      refine PJ.next ?_
      refine WJ.ret ?_
      obtain rfl := Option.some.inj hm
      exact PJ.retn_sel (vs := [.agg (Abbr.enc (Abbr.mk e7 e9)).toArray, .bool true]) Try.results52 ⟨⟨2, g2, 64, [str ((Abbr.mk e7 e9).short), str ((Abbr.mk e7 e9).long)], rfl, rfl, .inl ⟨Try.isAgg64, Try.sizeOf64, rfl⟩⟩, rfl, trivial⟩ [] ⟨List.nodup_nil, rfl⟩ ⟨rfl, rfl⟩

set_option maxRecDepth 100000 in
set_option maxHeartbeats 1000000 in
theorem ok_s_DrawSameAbbrs {N : Nat} {code1 : List UInt8} {r : (List Abbr) × (List Abbr)} (hm : s_DrawSameAbbrs N code1 = some r) (w : World) (v2 : Value) (hr3 : RdS w (cx w).Fz v2 fByte.rp code1) :
    Calls Try.prog 53 #[v2] w (RetG (cx w) fun u L => ∃ (u1 : Value) (u2 : Value), (u = tup [u1, u2] ∧ L = [row u1 64 fAbbr r.1, row u2 64 fAbbr r.2])) := by
  unfold s_DrawSameAbbrs at hm
  refine Calls.enter [v2] Try.func53 rfl Try.ntmps53 rfl ?_
  refine WJ.seq ?_
  refine WJ.quiet ?_
  refine QJ.step (YldS.yld (y_assign rfl)) rfl ?_
  refine QJ.step (YldS.yld (y_assign rfl)) rfl ?_
  refine QJ.done ?_
  refine PJ.next ?_
  refine WJ.seq ?_
  refine WJ.reg ?_
  refine SJ.q (YldS.yld (y_move rfl)) rfl ?_
  obtain ⟨r4, h5, hm⟩ := bindS hm
  refine SJ.call Try.call68 rfl (fun w hw => ok_s_l00From h5 w _ (hr3.st hw)) rfl ?_
  rintro _ _ ⟨g6, rfl, rfl⟩
  refine SJ.q (YldS.yld (y_assign rfl)) rfl ?_
  refine SJ.nil ?_
  refine PJ.next ?_
  refine WJ.seq ?_
  refine WJ.reg ?_
  refine SJ.q (YldS.yld (y_move rfl)) rfl ?_
  obtain ⟨r7, h8, hm⟩ := bindS hm
  refine SJ.call1 (k := 0) rfl Try.call99 rfl (fun w S hw hA hO => ok_s_l16Draw h8 w S _ (hr3.st1 hw hO) hA) rfl ?_
  rintro v9 _ ⟨_, rfl, rfl⟩
  refine SJ.q (YldS.yld (y_assign rfl)) rfl ?_
  refine SJ.nil ?_
  refine PJ.next ?_
  refine WJ.seq ?_
  refine WJ.reg ?_
  refine SJ.buildSlice (R := fAbbr) (os := []) [] Try.runUnderlying56 Try.sizeOf64 Try.zeroValue64 rfl rfl rfl rfl rfl rfl fun v10 => ?_
  refine SJ.q (YldS.yld (y_move rfl)) rfl ?_
  obtain ⟨l11, h12, hm⟩ := bindS hm
  refine SJ.append (k := 0) (R := fAbbr) h12 rfl Try.underlying56 el64 rfl rfl rfl (fun w hw => (hw.row_rd (k := 2) rfl)) rfl fun v13 => ?_
  refine SJ.q (YldS.yld (y_assign rfl)) rfl ?_
  refine SJ.nil ?_
  refine PJ.next ?_
  obtain ⟨kj17, hk18, hm⟩ := withK_open hm
  refine WJ.join (X := Int × Int × (List Abbr)) (fun (x : Int × Int × (List Abbr)) => kj17 x.1 x.2.1 x.2.2 = some r) (fun (x : Int × Int × (List Abbr)) => [(4, pt g6 0), (5, v9), (6, v13)]) (fun (x : Int × Int × (List Abbr)) => [box g6 134 [v2, .int .i64 x.1, .int .u64 x.2.1], row v13 64 fAbbr x.2.2, row v9 64 fAbbr r7.1]) ?_ ?_
  · clear hk18
    refine WJ.seq ?_
    refine WJ.reg ?_
    refine SJ.q (YldS.yld (y_move rfl)) rfl ?_
    refine SJ.q (YldS.yld (y_lenRow (k := 0) rfl Try.runUnderlying56 rfl)) rfl ?_
    refine SJ.q (YldS.yld (y_bin rfl rfl rfl)) rfl ?_
    refine SJ.q (YldS.yld (y_move rfl)) rfl ?_
    obtain ⟨x21, h20, hm⟩ := bindS hm
    refine SJ.cut 3 [(4, pt g6 0), (5, v9), (6, v13), (20, .bool x21.1)] [row v13 64 fAbbr l11, box g6 134 [v2, .int .i64 x21.2.at_, .int .u64 x21.2.seed], row v9 64 fAbbr r7.1] ?_ ?_
    · rcases Bool.eq_false_or_eq_true (decide ((List.length l11 : Int) > 0)) with hb22 | hb22
      · replace h20 := ifT h20 hb22
        refine SJ.on rfl rfl (cB hb22) (SJ.q (YldS.yld (y_move rfl)) rfl ?_)
        obtain ⟨r23, h24, h20⟩ := bindS h20
        refine SJ.on rfl rfl (cB hb22) (SJ.call1 (k := 1) rfl Try.call70 rfl (fun w S hw hA hO => ok_s_l00Src_one h24 w S _ (hr3.st1 hw hO) hA) rfl ?_)
        rintro _ _ ⟨rfl, rfl⟩
        refine SJ.q (YldS.yld (y_pick_t (cB hb22) rfl)) rfl ?_
        obtain rfl := Option.some.inj h20
        exact SJ.cut_end [1, 0, 2] ⟨rfl, rfl, rfl, rfl, trivial⟩ ⟨by decide, rfl⟩
      · replace h20 := ifF h20 hb22
        obtain rfl := Option.some.inj h20
        refine SJ.off rfl rfl (cB hb22) rfl rfl ?_
        refine SJ.off rfl rfl (cB hb22) rfl rfl ?_
        refine SJ.q (YldS.yld (y_pick_f (cB hb22) rfl)) rfl ?_
        exact SJ.cut_end [0, 1, 2] ⟨rfl, rfl, rfl, rfl, trivial⟩ ⟨by decide, rfl⟩
    refine SJ.nil ?_
    refine PJ.next ?_
    refine WJ.cond (t := x21.1) rfl (fun hb25 => ?_) (fun hb25 => ?_)
    · replace hm := ifT hm hb25
      obtain ⟨e26, h27, hm⟩ := bindS hm
      obtain ⟨r29, h30, hm⟩ := bindS hm
      obtain ⟨s31, h32, hm⟩ := bindS hm
      obtain ⟨e33, h34, hm⟩ := bindS hm
      refine WJ.draws (N := 11) (listed0 := #[false, false, false, false, false, false, false, false, false, false, false]) [row v9 64 fAbbr r7.1] follows rfl rfl ?_
      refine RJ.first 0 (listed' := #[true, false, false, false, false, false, false, false, false, false, false]) [2] rfl (by kernel_rfl) rfl ⟨by decide, rfl⟩ (y_move rfl) rfl ?_
      refine RJ.first 4 (listed' := #[true, false, false, false, true, false, false, false, false, false, false]) [2] rfl (by kernel_rfl) rfl ⟨by decide, rfl⟩ (y_move rfl) rfl ?_
      refine RJ.hold (X := Value) 4 #[true, true, true, true, true, true, true, false, false, false, false] (fun (x : Value) => [(4, pt g6 0), (5, v9), (6, v13), (21, v13), (24, str e26.long), (27, str r29.1)]) (fun (x : Value) => [box g6 134 [v2, .int .i64 r29.2.at_, .int .u64 r29.2.seed], row x 9 fStr ([[], [115]] : List Str), row v13 64 fAbbr l11, row v9 64 fAbbr r7.1]) ?_ ?_
      · rintro v28
        refine RJ.first 7 (listed' := #[true, true, true, true, true, true, true, true, false, false, false]) [3] rfl (by kernel_rfl) rfl ⟨by decide, rfl⟩ (y_cat h32 rfl rfl) rfl ?_
        refine RJ.step1 8 [3] (by kernel_rfl) ⟨by decide, rfl⟩ ?_
        refine RO.of (listed' := #[true, true, true, true, true, true, true, true, true, false, false]) rfl rfl ?_
        refine SJ.q (YldS.yld (y_ixRow (k := 2) (R := fAbbr) rfl Try.runUnderlying56 Try.sizeOf64 rfl rfl h34)) rfl ?_
        refine SJ.nil ?_
        refine PJ.draw ?_
        refine RJ.first 9 (listed' := #[true, true, true, true, true, true, true, true, true, true, false]) [3] rfl (by kernel_rfl) rfl ⟨by decide, rfl⟩ (y_fldR fld64_1 rfl) rfl ?_
        refine RJ.step1 10 [3] (by kernel_rfl) ⟨by decide, rfl⟩ ?_
        refine RO.of (listed' := #[true, true, true, true, true, true, true, true, true, true, true]) rfl rfl ?_
        refine SJ.storeRL (k := 2) (i := (Int.toNat 0)) (off := 1) (us := [str s31]) (b := (Abbr.mk e33.short s31)) rfl rfl (idx_get h34) rfl rfl Try.sizeOf9 rfl rfl rfl ?_
        refine SJ.nil ?_
        refine PJ.draw ?_
        refine RJ.fin [3] (by kernel_rfl) ⟨by decide, rfl⟩ ?_
        exact PJ.joined (r29.2.at_, r29.2.seed, (List.set l11 (Int.toNat 0) (Abbr.mk e33.short s31))) [0, 2, 3] hm ⟨rfl, rfl, rfl, trivial⟩ ⟨by decide, rfl⟩
      · intro hD35
        refine RJ.step2 1 5 [2] (by kernel_rfl) ⟨by decide, rfl⟩ ?_ ?_
        · refine RO.of (listed' := #[true, true, false, false, true, false, false, false, false, false, false]) rfl rfl ?_
          refine SJ.q (YldS.yld (y_ixRow (k := 0) (R := fAbbr) rfl Try.runUnderlying56 Try.sizeOf64 rfl rfl h27)) rfl ?_
          refine SJ.nil ?_
          refine PJ.draw ?_
          refine RJ.first 2 (listed' := #[true, true, true, false, true, false, false, false, false, false, false]) [2] rfl (by kernel_rfl) rfl ⟨by decide, rfl⟩ (y_fldR fld64_1 rfl) rfl ?_
          refine RJ.step2 3 5 [2] (by kernel_rfl) ⟨by decide, rfl⟩ ?_ ?_
          · refine RO.of (listed' := #[true, true, true, true, true, false, false, false, false, false, false]) rfl rfl ?_
            refine SJ.q (YldS.yld (y_loadR (k := 0) (i := (Int.toNat 0)) (off := 1) (u := str e26.long) rfl Try.isAgg9 rfl (idx_get h27) rfl)) rfl ?_
            refine SJ.nil ?_
            refine PJ.draw ?_
            refine RJ.step1 5 [2] (by kernel_rfl) ⟨by decide, rfl⟩ ?_
            refine RO.of (listed' := #[true, true, true, true, true, true, false, false, false, false, false]) rfl rfl ?_
            refine SJ.buildSlice (R := fStr) (os := [.const (str []), .const (str [115])]) ([[], [115]] : List Str) Try.runUnderlying43 Try.sizeOf9 Try.zeroValue9 rfl rfl rfl rfl rfl rfl fun v28 => ?_
            refine SJ.nil ?_
            refine PJ.draw ?_
            refine RJ.step1 6 [3] (by kernel_rfl) ⟨by decide, rfl⟩ ?_
            refine RO.of (listed' := #[true, true, true, true, true, true, true, false, false, false, false]) rfl rfl ?_
            refine SJ.call2 (k := 2) rfl Try.call100 rfl (fun w S hw hA hO hB => ok_s_l00Src_text h30 w S _ (hr3.st1 hw hO) _ (hB.row_rd (j := 0) (k := 2) rfl rfl) hA) rfl ?_
            rintro _ _ ⟨rfl, rfl⟩
            refine SJ.nil ?_
            refine PJ.draw ?_
            exact RJ.weak (hD35 v28) [0, 1, 2, 3] ⟨rfl, rfl, rfl, rfl, rfl, rfl, trivial⟩ ⟨by decide, rfl⟩
          · refine RO.of (listed' := #[true, true, true, false, true, true, false, false, false, false, false]) rfl rfl ?_
            refine SJ.buildSlice (R := fStr) (os := [.const (str []), .const (str [115])]) ([[], [115]] : List Str) Try.runUnderlying43 Try.sizeOf9 Try.zeroValue9 rfl rfl rfl rfl rfl rfl fun v28 => ?_
            refine SJ.nil ?_
            refine PJ.draw ?_
            refine RJ.step2 3 6 [3] (by kernel_rfl) ⟨by decide, rfl⟩ ?_ ?_
            · refine RO.of (listed' := #[true, true, true, true, true, true, false, false, false, false, false]) rfl rfl ?_
              refine SJ.q (YldS.yld (y_loadR (k := 1) (i := (Int.toNat 0)) (off := 1) (u := str e26.long) rfl Try.isAgg9 rfl (idx_get h27) rfl)) rfl ?_
              refine SJ.nil ?_
              refine PJ.draw ?_
              refine RJ.step1 6 [3] (by kernel_rfl) ⟨by decide, rfl⟩ ?_
              refine RO.of (listed' := #[true, true, true, true, true, true, true, false, false, false, false]) rfl rfl ?_
              refine SJ.call2 (k := 2) rfl Try.call100 rfl (fun w S hw hA hO hB => ok_s_l00Src_text h30 w S _ (hr3.st1 hw hO) _ (hB.row_rd (j := 0) (k := 2) rfl rfl) hA) rfl ?_
              rintro _ _ ⟨rfl, rfl⟩
              refine SJ.nil ?_
              refine PJ.draw ?_
              exact RJ.weak (hD35 v28) [0, 1, 2, 3] ⟨rfl, rfl, rfl, rfl, rfl, rfl, trivial⟩ ⟨by decide, rfl⟩
            · refine RO.of (listed' := #[true, true, true, false, true, true, true, false, false, false, false]) rfl rfl ?_
              refine SJ.call2 (k := 2) rfl Try.call100 rfl (fun w S hw hA hO hB => ok_s_l00Src_text h30 w S _ (hr3.st1 hw hO) _ (hB.row_rd (j := 0) (k := 2) rfl rfl) hA) rfl ?_
              rintro _ _ ⟨rfl, rfl⟩
              refine SJ.nil ?_
              refine PJ.draw ?_
              refine RJ.step1 3 [3] (by kernel_rfl) ⟨by decide, rfl⟩ ?_
              refine RO.of (listed' := #[true, true, true, true, true, true, true, false, false, false, false]) rfl rfl ?_
              refine SJ.q (YldS.yld (y_loadR (k := 2) (i := (Int.toNat 0)) (off := 1) (u := str e26.long) rfl Try.isAgg9 rfl (idx_get h27) rfl)) rfl ?_
              refine SJ.nil ?_
              refine PJ.draw ?_
              exact RJ.weak (hD35 v28) [0, 1, 2, 3] ⟨rfl, rfl, rfl, rfl, rfl, rfl, trivial⟩ ⟨by decide, rfl⟩
        · refine RO.of (listed' := #[true, false, false, false, true, true, false, false, false, false, false]) rfl rfl ?_
          refine SJ.buildSlice (R := fStr) (os := [.const (str []), .const (str [115])]) ([[], [115]] : List Str) Try.runUnderlying43 Try.sizeOf9 Try.zeroValue9 rfl rfl rfl rfl rfl rfl fun v28 => ?_
          refine SJ.nil ?_
          refine PJ.draw ?_
          refine RJ.step2 1 6 [3] (by kernel_rfl) ⟨by decide, rfl⟩ ?_ ?_
          · refine RO.of (listed' := #[true, true, false, false, true, true, false, false, false, false, false]) rfl rfl ?_
            refine SJ.q (YldS.yld (y_ixRow (k := 1) (R := fAbbr) rfl Try.runUnderlying56 Try.sizeOf64 rfl rfl h27)) rfl ?_
            refine SJ.nil ?_
            refine PJ.draw ?_
            refine RJ.first 2 (listed' := #[true, true, true, false, true, true, false, false, false, false, false]) [3] rfl (by kernel_rfl) rfl ⟨by decide, rfl⟩ (y_fldR fld64_1 rfl) rfl ?_
            refine RJ.step2 3 6 [3] (by kernel_rfl) ⟨by decide, rfl⟩ ?_ ?_
            · refine RO.of (listed' := #[true, true, true, true, true, true, false, false, false, false, false]) rfl rfl ?_
              refine SJ.q (YldS.yld (y_loadR (k := 1) (i := (Int.toNat 0)) (off := 1) (u := str e26.long) rfl Try.isAgg9 rfl (idx_get h27) rfl)) rfl ?_
              refine SJ.nil ?_
              refine PJ.draw ?_
              refine RJ.step1 6 [3] (by kernel_rfl) ⟨by decide, rfl⟩ ?_
              refine RO.of (listed' := #[true, true, true, true, true, true, true, false, false, false, false]) rfl rfl ?_
              refine SJ.call2 (k := 2) rfl Try.call100 rfl (fun w S hw hA hO hB => ok_s_l00Src_text h30 w S _ (hr3.st1 hw hO) _ (hB.row_rd (j := 0) (k := 2) rfl rfl) hA) rfl ?_
              rintro _ _ ⟨rfl, rfl⟩
              refine SJ.nil ?_
              refine PJ.draw ?_
              exact RJ.weak (hD35 v28) [0, 1, 2, 3] ⟨rfl, rfl, rfl, rfl, rfl, rfl, trivial⟩ ⟨by decide, rfl⟩
            · refine RO.of (listed' := #[true, true, true, false, true, true, true, false, false, false, false]) rfl rfl ?_
              refine SJ.call2 (k := 2) rfl Try.call100 rfl (fun w S hw hA hO hB => ok_s_l00Src_text h30 w S _ (hr3.st1 hw hO) _ (hB.row_rd (j := 0) (k := 2) rfl rfl) hA) rfl ?_
              rintro _ _ ⟨rfl, rfl⟩
              refine SJ.nil ?_
              refine PJ.draw ?_
              refine RJ.step1 3 [3] (by kernel_rfl) ⟨by decide, rfl⟩ ?_
              refine RO.of (listed' := #[true, true, true, true, true, true, true, false, false, false, false]) rfl rfl ?_
              refine SJ.q (YldS.yld (y_loadR (k := 2) (i := (Int.toNat 0)) (off := 1) (u := str e26.long) rfl Try.isAgg9 rfl (idx_get h27) rfl)) rfl ?_
              refine SJ.nil ?_
              refine PJ.draw ?_
              exact RJ.weak (hD35 v28) [0, 1, 2, 3] ⟨rfl, rfl, rfl, rfl, rfl, rfl, trivial⟩ ⟨by decide, rfl⟩
          · refine RO.of (listed' := #[true, false, false, false, true, true, true, false, false, false, false]) rfl rfl ?_
            refine SJ.call2 (k := 2) rfl Try.call100 rfl (fun w S hw hA hO hB => ok_s_l00Src_text h30 w S _ (hr3.st1 hw hO) _ (hB.row_rd (j := 0) (k := 2) rfl rfl) hA) rfl ?_
            rintro _ _ ⟨rfl, rfl⟩
            refine SJ.nil ?_
            refine PJ.draw ?_
            refine RJ.step1 1 [3] (by kernel_rfl) ⟨by decide, rfl⟩ ?_
            refine RO.of (listed' := #[true, true, false, false, true, true, true, false, false, false, false]) rfl rfl ?_
            refine SJ.q (YldS.yld (y_ixRow (k := 2) (R := fAbbr) rfl Try.runUnderlying56 Try.sizeOf64 rfl rfl h27)) rfl ?_
            refine SJ.nil ?_
            refine PJ.draw ?_
            refine RJ.first 2 (listed' := #[true, true, true, false, true, true, true, false, false, false, false]) [3] rfl (by kernel_rfl) rfl ⟨by decide, rfl⟩ (y_fldR fld64_1 rfl) rfl ?_
            refine RJ.step1 3 [3] (by kernel_rfl) ⟨by decide, rfl⟩ ?_
            refine RO.of (listed' := #[true, true, true, true, true, true, true, false, false, false, false]) rfl rfl ?_
            refine SJ.q (YldS.yld (y_loadR (k := 2) (i := (Int.toNat 0)) (off := 1) (u := str e26.long) rfl Try.isAgg9 rfl (idx_get h27) rfl)) rfl ?_
            refine SJ.nil ?_
            refine PJ.draw ?_
            exact RJ.weak (hD35 v28) [0, 1, 2, 3] ⟨rfl, rfl, rfl, rfl, rfl, rfl, trivial⟩ ⟨by decide, rfl⟩
    · replace hm := ifF hm hb25
      refine WJ.skip ?_
      exact PJ.joined (x21.2.at_, x21.2.seed, l11) [1, 0, 2] hm ⟨rfl, rfl, rfl, trivial⟩ ⟨by decide, rfl⟩
  · rintro ⟨x14, x15, l16⟩ hm
    subst hk18
    obtain ⟨kj38, hk39, hm⟩ := withK_open hm
    refine WJ.join (X := (List Abbr) × Value) (fun (x : (List Abbr) × Value) => kj38 x.1 = some r) (fun (x : (List Abbr) × Value) => [(5, v9), (6, x.2)]) (fun (x : (List Abbr) × Value) => [row x.2 64 fAbbr x.1, row v9 64 fAbbr r7.1]) ?_ ?_
    · clear hk39
      refine WJ.seq ?_
      refine WJ.reg ?_
      refine SJ.q (YldS.yld (y_move rfl)) rfl ?_
      obtain ⟨r40, h41, hm⟩ := bindS hm
      refine SJ.call1 (k := 0) rfl Try.call70 rfl (fun w S hw hA hO => ok_s_l00Src_one h41 w S _ (hr3.st1 hw hO) hA) rfl ?_
      rintro _ _ ⟨rfl, rfl⟩
      refine SJ.nil ?_
      refine PJ.next ?_
      refine WJ.cond (t := r40.1) rfl (fun hb42 => ?_) (fun hb42 => ?_)
      · replace hm := ifT hm hb42
        refine WJ.reg ?_
        refine SJ.q (YldS.yld (y_move rfl)) rfl ?_
        refine SJ.q (YldS.yld (y_build (parts := []) (places := [(0, 1), (1, 1)]) (r := [str ((Abbr.mk [] []).short), str ((Abbr.mk [] []).long)]) pl64 Try.zeroValue64 rfl rfl rfl rfl)) rfl ?_
        refine SJ.buildSlice (R := fAbbr) (os := [.tmp 34]) [(Abbr.mk [] [])] Try.runUnderlying56 Try.sizeOf64 Try.zeroValue64 rfl rfl rfl rfl rfl rfl fun v43 => ?_
        obtain ⟨l44, h45, hm⟩ := bindS hm
        refine SJ.append (k := 2) (R := fAbbr) h45 rfl Try.underlying56 el64 rfl rfl rfl (fun w hw => (hw.row_rd (k := 0) rfl)) rfl fun v46 => ?_
        refine SJ.q (YldS.yld (y_assign rfl)) rfl ?_
        refine SJ.nil ?_
        exact PJ.joined (l44, v46) [2, 3] hm ⟨rfl, rfl, trivial⟩ ⟨by decide, rfl⟩
      · replace hm := ifF hm hb42
        refine WJ.skip ?_
        exact PJ.joined (l16, v13) [1, 2] hm ⟨rfl, rfl, trivial⟩ ⟨by decide, rfl⟩
    · rintro ⟨l36, v37⟩ hm
      subst hk39
      refine WJ.seq ?_
      refine WJ.quiet ?_
      refine QJ.step (YldS.yld (y_move rfl)) rfl ?_
      refine QJ.step (YldS.yld (y_move rfl)) rfl ?_
      refine QJ.step (YldS.yld (y_assign rfl)) rfl ?_
      refine QJ.step (YldS.yld (y_assign rfl)) rfl ?_
      refine QJ.done ?_
      refine PJ.next ?_
      refine WJ.ret ?_
      obtain rfl := Option.some.inj hm
      refine PJ.sel (L' := [row v9 64 fAbbr r7.1, row v37 64 fAbbr l36]) [1, 0] ⟨by decide, rfl⟩ ?_
      exact PJ.retn (vs := [v9, v37]) Try.results53 ⟨rfl, rfl, trivial⟩ ⟨_, _, rfl, rfl⟩

set_option maxRecDepth 100000 in
set_option maxHeartbeats 1000000 in
theorem ok_w_f6ints {N : Nat} {a1 : List Int} {b4 : List Int} {r : Bool} (hm : w_f6ints N a1 b4 = some r) (w : World) (v2 : Value) (hr3 : RdS w (cx w).Fz v2 fI64.rp a1) (v5 : Value) (hr6 : RdS w (cx w).Fz v5 fI64.rp b4) :
    Calls Try.prog 17 #[v2, v5] w (Ret (cx w) (.bool r)) := by
  unfold w_f6ints at hm
  refine Calls.enter [v2, v5] Try.func17 rfl Try.ntmps17 rfl ?_
  refine WJ.seq ?_
  refine WJ.quiet ?_
  refine QJ.step (YldS.yld (y_assign rfl)) rfl ?_
  refine QJ.done ?_
  refine PJ.next ?_
  refine WJ.seq ?_
  refine WJ.seq ?_
  refine WJ.quiet ?_
  refine QJ.step (YldS.yld (y_move rfl)) rfl ?_
  refine QJ.step (YldS.yld (y_lenS Try.runUnderlying27 hr3 rfl)) rfl ?_
  refine QJ.step (YldS.yld (y_move rfl)) rfl ?_
  refine QJ.step (YldS.yld (y_lenS Try.runUnderlying27 hr6 rfl)) rfl ?_
  refine QJ.step (YldS.yld (y_bin rfl rfl rfl)) rfl ?_
  refine QJ.done ?_
  refine PJ.next ?_
  refine WJ.cond (t := ((List.length a1 : Int) != (List.length b4 : Int))) rfl (fun hb7 => ?_) (fun hb7 => ?_)
  · replace hm := ifT hm hb7
    refine WJ.seq ?_
    refine WJ.quiet ?_
    refine QJ.step (YldS.yld (y_assign rfl)) rfl ?_
    refine QJ.done ?_
    refine PJ.next ?_
    refine WJ.ret ?_
    refine PJ.then_ret ?_
    obtain rfl := Option.some.inj hm
    refine PJ.sel (L' := []) [] ⟨List.nodup_nil, rfl⟩ ?_
    exact PJ.retn (vs := [.bool false]) Try.results17 ⟨rfl, trivial⟩ ⟨rfl, rfl⟩
  · replace hm := ifF hm hb7
    refine WJ.skip ?_
    refine PJ.next ?_
    obtain ⟨kj8, hk9, hm⟩ := withK_open hm
    refine WJ.join (X := Unit) (fun (_ : Unit) => kj8  = some r) (fun (_ : Unit) => []) (fun (_ : Unit) => []) ?_ ?_
    · clear hk9
      refine WJ.seq ?_
      refine WJ.quiet ?_
      refine QJ.step (YldS.yld (y_assign rfl)) rfl ?_
      refine QJ.done ?_
      refine PJ.next ?_
      refine WJ.block ?_
      refine WJ.sel (L' := (fun (x : Int) => []) 0) [] ⟨List.nodup_nil, rfl⟩ ?_
      refine WJ.sub (m' := (fun (x : Int) => [(0, v2), (1, v5), (5, .int .i64 x)]) 0) ⟨rfl, rfl, rfl, trivial⟩ ?_
      refine WJ.loop (X := Int) (fun N (x : Int) => w_f6ints_l1 kj8 a1 b4 N x = some r) (fun (x : Int) => [(0, v2), (1, v5), (5, .int .i64 x)]) (fun (x : Int) => []) ?_ N 0 hm
      · rintro N i10 hI
        have hm := hI; clear hI
        cases N with
        | zero => cases hm
        | succ N =>
        unfold w_f6ints_l1 at hm
        refine WJ.seq ?_
        refine WJ.seq ?_
        refine WJ.quiet ?_
        refine QJ.step (YldS.yld (y_move rfl)) rfl ?_
        refine QJ.step (YldS.yld (y_move rfl)) rfl ?_
        refine QJ.step (YldS.yld (y_lenS Try.runUnderlying27 hr3 rfl)) rfl ?_
        refine QJ.step (YldS.yld (y_bin rfl rfl rfl)) rfl ?_
        refine QJ.done ?_
        refine PJ.next ?_
        refine WJ.cond (t := decide (i10 < (List.length a1 : Int))) rfl (fun hb11 => ?_) (fun hb11 => ?_)
        · replace hm := ifT hm hb11
          refine WJ.skip ?_
          refine PJ.next ?_
          refine WJ.seq ?_
          refine WJ.block ?_
          refine WJ.seq ?_
          refine WJ.quiet_draw follows (by kernel_rfl) ?_
          refine QJ.step (YldS.yld (y_move rfl)) rfl ?_
          refine QJ.step (YldS.yld (y_move rfl)) rfl ?_
          obtain ⟨e12, h13, hm⟩ := bindS hm
          obtain ⟨ad14, _, rfl, ha15, hy16⟩ := hr3.elem h13
          refine QJ.step (YldS.yld (hy16 Try.runUnderlying27 Try.sizeOf2 rfl rfl)) rfl ?_
          refine QJ.step (YldS.yld (y_load1 (v := .int .i64 e12) Try.isAgg2 ha15 St.frozenC rfl)) rfl ?_
          refine QJ.step (YldS.yld (y_move rfl)) rfl ?_
          refine QJ.step (YldS.yld (y_move rfl)) rfl ?_
          obtain ⟨e17, h18, hm⟩ := bindS hm
          obtain ⟨ad19, _, rfl, ha20, hy21⟩ := hr6.elem h18
          refine QJ.step (YldS.yld (hy21 Try.runUnderlying27 Try.sizeOf2 rfl rfl)) rfl ?_
          refine QJ.step (YldS.yld (y_load1 (v := .int .i64 e17) Try.isAgg2 ha20 St.frozenC rfl)) rfl ?_
          refine QJ.step (YldS.yld (y_bin rfl rfl rfl)) rfl ?_
          refine QJ.done ?_
          refine PJ.next ?_
          refine WJ.cond (t := (e12 != e17)) rfl (fun hb22 => ?_) (fun hb22 => ?_)
          · replace hm := ifT hm hb22
            refine WJ.seq ?_
            refine WJ.quiet ?_
            refine QJ.step (YldS.yld (y_assign rfl)) rfl ?_
            refine QJ.done ?_
            refine PJ.next ?_
            refine WJ.ret ?_
            refine PJ.block_ret (PJ.then_ret (PJ.then_ret (PJ.block_ret (PJ.then_ret ?_))))
            obtain rfl := Option.some.inj hm
            refine PJ.sel (L' := []) [] ⟨List.nodup_nil, rfl⟩ ?_
            exact PJ.retn (vs := [.bool false]) Try.results17 ⟨rfl, trivial⟩ ⟨rfl, rfl⟩
          · replace hm := ifF hm hb22
            refine WJ.skip ?_
            refine PJ.block_normal (PJ.next ?_)
            refine WJ.quiet ?_
            refine QJ.step (YldS.yld (y_move rfl)) rfl ?_
            refine QJ.step (YldS.yld (y_bin rfl rfl rfl)) rfl ?_
            refine QJ.step (YldS.yld (y_assign rfl)) rfl ?_
            refine QJ.done ?_
            exact PJ.round (w64 (i10 + 1)) [] hm ⟨rfl, rfl, rfl, trivial⟩ ⟨List.nodup_nil, rfl⟩
        · replace hm := ifF hm hb11
          refine WJ.exit ?_
          refine PJ.then_exit (PJ.then_exit (PJ.block_exit ?_))
          exact PJ.joined () [] hm trivial ⟨List.nodup_nil, rfl⟩
    · rintro _ hm
      subst hk9
      refine WJ.seq ?_
      refine WJ.quiet ?_
      refine QJ.step (YldS.yld (y_assign rfl)) rfl ?_
      refine QJ.done ?_
      refine PJ.next ?_
      refine WJ.ret ?_
      obtain rfl := Option.some.inj hm
      refine PJ.sel (L' := []) [] ⟨List.nodup_nil, rfl⟩ ?_
      exact PJ.retn (vs := [.bool true]) Try.results17 ⟨rfl, trivial⟩ ⟨rfl, rfl⟩

set_option maxRecDepth 100000 in
set_option maxHeartbeats 1000000 in
theorem ok_s_SameAbbrs {N : Nat} {a1 : List Abbr} {b4 : List Abbr} {r : Bool} (hm : s_SameAbbrs N a1 b4 = some r) (w : World) (v2 : Value) (hr3 : RdS w (cx w).Fz v2 fAbbr.rp a1) (v5 : Value) (hr6 : RdS w (cx w).Fz v5 fAbbr.rp b4) :
    Calls Try.prog 54 #[v2, v5] w (Ret (cx w) (.bool r)) := by
  unfold s_SameAbbrs at hm
  refine Calls.enter [v2, v5] Try.func54 rfl Try.ntmps54 rfl ?_
  refine WJ.seq ?_
  refine WJ.quiet ?_
  refine QJ.step (YldS.yld (y_assign rfl)) rfl ?_
  refine QJ.done ?_
  refine PJ.next ?_
  refine WJ.seq ?_
  refine WJ.seq ?_
  refine WJ.quiet ?_
  refine QJ.step (YldS.yld (y_move rfl)) rfl ?_
  refine QJ.step (YldS.yld (y_lenS Try.runUnderlying56 hr3 rfl)) rfl ?_
  refine QJ.step (YldS.yld (y_move rfl)) rfl ?_
  refine QJ.step (YldS.yld (y_lenS Try.runUnderlying56 hr6 rfl)) rfl ?_
  refine QJ.step (YldS.yld (y_bin rfl rfl rfl)) rfl ?_
  refine QJ.done ?_
  refine PJ.next ?_
  refine WJ.cond (t := ((List.length a1 : Int) != (List.length b4 : Int))) rfl (fun hb7 => ?_) (fun hb7 => ?_)
  · replace hm := ifT hm hb7
    refine WJ.seq ?_
    refine WJ.quiet ?_
    refine QJ.step (YldS.yld (y_assign rfl)) rfl ?_
    refine QJ.done ?_
    refine PJ.next ?_
    refine WJ.ret ?_
    refine PJ.then_ret ?_
    obtain rfl := Option.some.inj hm
    refine PJ.sel (L' := []) [] ⟨List.nodup_nil, rfl⟩ ?_
    exact PJ.retn (vs := [.bool false]) Try.results54 ⟨rfl, trivial⟩ ⟨rfl, rfl⟩
  · replace hm := ifF hm hb7
    refine WJ.skip ?_
    refine PJ.next ?_
    obtain ⟨kj8, hk9, hm⟩ := withK_open hm
    refine WJ.join (X := Unit) (fun (_ : Unit) => kj8  = some r) (fun (_ : Unit) => []) (fun (_ : Unit) => []) ?_ ?_
    · clear hk9
      refine WJ.seq ?_
      refine WJ.quiet ?_
      refine QJ.step (YldS.yld (y_assign rfl)) rfl ?_
      refine QJ.done ?_
      refine PJ.next ?_
      refine WJ.block ?_
      refine WJ.sel (L' := (fun (x : Int) => []) 0) [] ⟨List.nodup_nil, rfl⟩ ?_
      refine WJ.sub (m' := (fun (x : Int) => [(0, v2), (1, v5), (5, .int .i64 x)]) 0) ⟨rfl, rfl, rfl, trivial⟩ ?_
      refine WJ.loop (X := Int) (fun N (x : Int) => s_SameAbbrs_l1 kj8 a1 b4 N x = some r) (fun (x : Int) => [(0, v2), (1, v5), (5, .int .i64 x)]) (fun (x : Int) => []) ?_ N 0 hm
      · rintro N i10 hI
        have hm := hI; clear hI
        cases N with
        | zero => cases hm
        | succ N =>
        unfold s_SameAbbrs_l1 at hm
        refine WJ.seq ?_
        refine WJ.seq ?_
        refine WJ.quiet ?_
        refine QJ.step (YldS.yld (y_move rfl)) rfl ?_
        refine QJ.step (YldS.yld (y_move rfl)) rfl ?_
        refine QJ.step (YldS.yld (y_lenS Try.runUnderlying56 hr3 rfl)) rfl ?_
        refine QJ.step (YldS.yld (y_bin rfl rfl rfl)) rfl ?_
        refine QJ.done ?_
        refine PJ.next ?_
        refine WJ.cond (t := decide (i10 < (List.length a1 : Int))) rfl (fun hb11 => ?_) (fun hb11 => ?_)
        · replace hm := ifT hm hb11
          refine WJ.skip ?_
          refine PJ.next ?_
          refine WJ.seq ?_
          refine WJ.block ?_
          refine WJ.seq ?_
          refine WJ.quiet_draw follows (by kernel_rfl) ?_
          refine QJ.step (YldS.yld (y_move rfl)) rfl ?_
          refine QJ.step (YldS.yld (y_move rfl)) rfl ?_
          obtain ⟨e12, h13, hm⟩ := bindS hm
          obtain ⟨ad14, _, rfl, ha15, hy16⟩ := hr3.elem h13
          refine QJ.step (YldS.yld (hy16 Try.runUnderlying56 Try.sizeOf64 rfl rfl)) rfl ?_
          refine QJ.step (YldS.yld (y_loadN Try.isAgg64 Try.sizeOf64 rfl ha15 St.frozenC rfl)) rfl ?_
          refine QJ.step (YldS.yld (y_move rfl)) rfl ?_
          refine QJ.step (YldS.yld (y_move rfl)) rfl ?_
          obtain ⟨e17, h18, hm⟩ := bindS hm
          obtain ⟨ad19, _, rfl, ha20, hy21⟩ := hr6.elem h18
          refine QJ.step (YldS.yld (hy21 Try.runUnderlying56 Try.sizeOf64 rfl rfl)) rfl ?_
          refine QJ.step (YldS.yld (y_loadN Try.isAgg64 Try.sizeOf64 rfl ha20 St.frozenC rfl)) rfl ?_
          refine QJ.step (YldS.yld (y_neT e12 e17 eq64 rfl rfl)) rfl ?_
          refine QJ.done ?_
          refine PJ.next ?_
          refine WJ.cond (t := !(Abbr.beq e12 e17)) rfl (fun hb22 => ?_) (fun hb22 => ?_)
          · replace hm := ifT hm hb22
            refine WJ.seq ?_
            refine WJ.quiet ?_
            refine QJ.step (YldS.yld (y_assign rfl)) rfl ?_
            refine QJ.done ?_
            refine PJ.next ?_
            refine WJ.ret ?_
            refine PJ.block_ret (PJ.then_ret (PJ.then_ret (PJ.block_ret (PJ.then_ret ?_))))
            obtain rfl := Option.some.inj hm
            refine PJ.sel (L' := []) [] ⟨List.nodup_nil, rfl⟩ ?_
            exact PJ.retn (vs := [.bool false]) Try.results54 ⟨rfl, trivial⟩ ⟨rfl, rfl⟩
          · replace hm := ifF hm hb22
            refine WJ.skip ?_
            refine PJ.block_normal (PJ.next ?_)
            refine WJ.quiet ?_
            refine QJ.step (YldS.yld (y_move rfl)) rfl ?_
            refine QJ.step (YldS.yld (y_bin rfl rfl rfl)) rfl ?_
            refine QJ.step (YldS.yld (y_assign rfl)) rfl ?_
            refine QJ.done ?_
            exact PJ.round (w64 (i10 + 1)) [] hm ⟨rfl, rfl, rfl, trivial⟩ ⟨List.nodup_nil, rfl⟩
        · replace hm := ifF hm hb11
          refine WJ.exit ?_
          refine PJ.then_exit (PJ.then_exit (PJ.block_exit ?_))
          exact PJ.joined () [] hm trivial ⟨List.nodup_nil, rfl⟩
    · rintro _ hm
      subst hk9
      refine WJ.seq ?_
      refine WJ.quiet ?_
      refine QJ.step (YldS.yld (y_assign rfl)) rfl ?_
      refine QJ.done ?_
      refine PJ.next ?_
      refine WJ.ret ?_
      obtain rfl := Option.some.inj hm
      refine PJ.sel (L' := []) [] ⟨List.nodup_nil, rfl⟩ ?_
      exact PJ.retn (vs := [.bool true]) Try.results54 ⟨rfl, trivial⟩ ⟨rfl, rfl⟩

set_option maxRecDepth 100000 in
set_option maxHeartbeats 1000000 in
theorem ok_s_AbbrText {N : Nat} {x1 : Abbr} {r : Str} (hm : s_AbbrText N x1 = some r) (w : World)  :
    Calls Try.prog 55 #[.agg (Abbr.enc x1).toArray] w (Ret (cx w) (str r)) := by
  unfold s_AbbrText at hm
  refine Calls.enter [.agg (Abbr.enc x1).toArray] Try.func55 rfl Try.ntmps55 rfl ?_
  refine WJ.seq ?_
  refine WJ.reg ?_
  refine SJ.box (cs := [str x1.short, str x1.long]) rfl rfl rfl fun g2 => ?_
  refine SJ.q (YldS.yld (y_assign rfl)) rfl ?_
  refine SJ.nil ?_
  refine PJ.next ?_
  refine WJ.seq ?_
  refine WJ.seq ?_
  refine WJ.quiet ?_
  obtain ⟨r3, h4, hm⟩ := bindS hm
  refine QJ.step (y_call Try.call96 rfl (RetG.quiet fun w hw => ok_s_l16One h4 w _ (hw.box_at (k := 0) rfl))) rfl ?_
  refine QJ.step (YldS.yld (y_not rfl)) rfl ?_
  refine QJ.done ?_
  refine PJ.next ?_
  refine WJ.cond (t := !r3) rfl (fun hb5 => ?_) (fun hb5 => ?_)
  · replace hm := ifT hm hb5
    refine WJ.seq ?_
    refine WJ.quiet ?_
    refine QJ.step (YldS.yld (y_assign rfl)) rfl ?_
    refine QJ.done ?_
    refine PJ.next ?_
    refine WJ.ret ?_
    refine PJ.then_ret ?_
    obtain rfl := Option.some.inj hm
    refine PJ.sel (L' := []) [] ⟨List.nodup_nil, rfl⟩ ?_
    exact PJ.retn (vs := [str []]) Try.results55 ⟨rfl, trivial⟩ ⟨rfl, rfl⟩
  · replace hm := ifF hm hb5
    refine WJ.skip ?_
    refine PJ.next ?_
    refine WJ.seq ?_
    refine WJ.quiet ?_
    refine QJ.step (YldS.yld (y_fldB (o := 0) fld64_0 rfl)) rfl ?_
    refine QJ.step (YldS.yld (y_loadB (k := 0) (off := 0) (v := str x1.short) rfl Try.isAgg9 rfl rfl)) rfl ?_
    obtain ⟨s6, h7, hm⟩ := bindS hm
    refine QJ.step (YldS.yld (y_cat h7 rfl rfl)) rfl ?_
    refine QJ.step (YldS.yld (y_fldB (o := 0) fld64_1 rfl)) rfl ?_
    refine QJ.step (YldS.yld (y_loadB (k := 0) (off := 1) (v := str x1.long) rfl Try.isAgg9 rfl rfl)) rfl ?_
    obtain ⟨s8, h9, hm⟩ := bindS hm
    refine QJ.step (YldS.yld (y_cat h9 rfl rfl)) rfl ?_
    refine QJ.step (YldS.yld (y_assign rfl)) rfl ?_
    refine QJ.done ?_
    refine PJ.next ?_
    refine WJ.ret ?_
    obtain rfl := Option.some.inj hm
    refine PJ.sel (L' := []) [] ⟨List.nodup_nil, rfl⟩ ?_
    exact PJ.retn (vs := [str s8]) Try.results55 ⟨rfl, trivial⟩ ⟨rfl, rfl⟩

set_option maxRecDepth 100000 in
set_option maxHeartbeats 1000000 in
theorem ok_i_SameAbbrs {N : Nat} {a1 : List Abbr} {b4 : List Abbr} {r : Bool} (hm : i_SameAbbrs N a1 b4 = some r) (w : World) (v2 : Value) (hr3 : RdS w (cx w).Fz v2 fAbbr.rp a1) (v5 : Value) (hr6 : RdS w (cx w).Fz v5 fAbbr.rp b4) :
    Calls Try.prog 56 #[v2, v5] w (Ret (cx w) (.bool r)) := by
  unfold i_SameAbbrs at hm
  refine Calls.enter [v2, v5] Try.func56 rfl Try.ntmps56 rfl ?_
  refine WJ.seq ?_
  refine WJ.quiet ?_
  refine QJ.step (YldS.yld (y_assign rfl)) rfl ?_
  refine QJ.done ?_
  refine PJ.next ?_
  refine WJ.seq ?_
  refine WJ.seq ?_
  refine WJ.quiet ?_
  refine QJ.step (YldS.yld (y_move rfl)) rfl ?_
  refine QJ.step (YldS.yld (y_lenS Try.runUnderlying56 hr3 rfl)) rfl ?_
  refine QJ.step (YldS.yld (y_move rfl)) rfl ?_
  refine QJ.step (YldS.yld (y_lenS Try.runUnderlying56 hr6 rfl)) rfl ?_
  refine QJ.step (YldS.yld (y_bin rfl rfl rfl)) rfl ?_
  refine QJ.done ?_
  refine PJ.next ?_
  refine WJ.cond (t := ((List.length a1 : Int) != (List.length b4 : Int))) rfl (fun hb7 => ?_) (fun hb7 => ?_)
  · replace hm := ifT hm hb7
    refine WJ.seq ?_
    refine WJ.quiet ?_
    refine QJ.step (YldS.yld (y_assign rfl)) rfl ?_
    refine QJ.done ?_
    refine PJ.next ?_
    refine WJ.ret ?_
    refine PJ.then_ret ?_
    obtain rfl := Option.some.inj hm
    refine PJ.sel (L' := []) [] ⟨List.nodup_nil, rfl⟩ ?_
    exact PJ.retn (vs := [.bool false]) Try.results56 ⟨rfl, trivial⟩ ⟨rfl, rfl⟩
  · replace hm := ifF hm hb7
    refine WJ.skip ?_
    refine PJ.next ?_
    obtain ⟨kj8, hk9, hm⟩ := withK_open hm
    refine WJ.join (X := Unit) (fun (_ : Unit) => kj8  = some r) (fun (_ : Unit) => []) (fun (_ : Unit) => []) ?_ ?_
    · clear hk9
      refine WJ.seq ?_
      refine WJ.quiet ?_
      refine QJ.step (YldS.yld (y_move rfl)) rfl ?_
      refine QJ.step (YldS.yld (y_lenS Try.runUnderlying56 hr3 rfl)) rfl ?_
      refine QJ.step (YldS.yld (y_move rfl)) rfl ?_
      refine QJ.done ?_
      refine PJ.next ?_
      refine WJ.block ?_
      refine WJ.sel (L' := (fun (x : Int) => []) 0) [] ⟨List.nodup_nil, rfl⟩ ?_
      refine WJ.sub (m' := (fun (x : Int) => [(0, v2), (1, v5), (12, .int .i64 (List.length a1 : Int)), (13, .int .i64 x)]) 0) ⟨rfl, rfl, rfl, rfl, trivial⟩ ?_
      refine WJ.loop (X := Int) (fun N (x : Int) => i_SameAbbrs_l1 kj8 a1 b4 N x = some r) (fun (x : Int) => [(0, v2), (1, v5), (12, .int .i64 (List.length a1 : Int)), (13, .int .i64 x)]) (fun (x : Int) => []) ?_ N 0 hm
      · rintro N x10 hI
        have hm := hI; clear hI
        cases N with
        | zero => cases hm
        | succ N =>
        unfold i_SameAbbrs_l1 at hm
        refine WJ.seq ?_
        refine WJ.quiet ?_
        refine QJ.step (YldS.yld (y_bin rfl rfl rfl)) rfl ?_
        refine QJ.done ?_
        refine PJ.next ?_
        refine WJ.seq ?_
        refine WJ.cond (t := decide (x10 < (List.length a1 : Int))) rfl (fun hb11 => ?_) (fun hb11 => ?_)
        · replace hm := ifT hm hb11
          refine WJ.skip ?_
          refine PJ.next ?_
          refine WJ.seq ?_
          refine WJ.block ?_
          refine WJ.seq ?_
          refine WJ.quiet ?_
          refine QJ.step (YldS.yld (y_move rfl)) rfl ?_
          refine QJ.step (YldS.yld (y_assign rfl)) rfl ?_
          refine QJ.done ?_
          refine PJ.next ?_
          refine WJ.seq ?_
          refine WJ.quiet_draw follows (by kernel_rfl) ?_
          refine QJ.step (YldS.yld (y_move rfl)) rfl ?_
          refine QJ.step (YldS.yld (y_move rfl)) rfl ?_
          obtain ⟨e12, h13, hm⟩ := bindS hm
          obtain ⟨ad14, _, rfl, ha15, hy16⟩ := hr3.elem h13
          refine QJ.step (YldS.yld (hy16 Try.runUnderlying56 Try.sizeOf64 rfl rfl)) rfl ?_
          refine QJ.step (YldS.yld (y_loadN Try.isAgg64 Try.sizeOf64 rfl ha15 St.frozenC rfl)) rfl ?_
          refine QJ.step (YldS.yld (y_move rfl)) rfl ?_
          refine QJ.step (YldS.yld (y_move rfl)) rfl ?_
          obtain ⟨e17, h18, hm⟩ := bindS hm
          obtain ⟨ad19, _, rfl, ha20, hy21⟩ := hr6.elem h18
          refine QJ.step (YldS.yld (hy21 Try.runUnderlying56 Try.sizeOf64 rfl rfl)) rfl ?_
          refine QJ.step (YldS.yld (y_loadN Try.isAgg64 Try.sizeOf64 rfl ha20 St.frozenC rfl)) rfl ?_
          refine QJ.step (YldS.yld (y_neT e12 e17 eq64 rfl rfl)) rfl ?_
          refine QJ.done ?_
          refine PJ.next ?_
          refine WJ.cond (t := !(Abbr.beq e12 e17)) rfl (fun hb22 => ?_) (fun hb22 => ?_)
          · replace hm := ifT hm hb22
            refine WJ.seq ?_
            refine WJ.quiet ?_
            refine QJ.step (YldS.yld (y_assign rfl)) rfl ?_
            refine QJ.done ?_
            refine PJ.next ?_
            refine WJ.ret ?_
            refine PJ.block_ret (PJ.then_ret (PJ.then_ret (PJ.block_ret (PJ.then_ret ?_))))
            obtain rfl := Option.some.inj hm
            refine PJ.sel (L' := []) [] ⟨List.nodup_nil, rfl⟩ ?_
            exact PJ.retn (vs := [.bool false]) Try.results56 ⟨rfl, trivial⟩ ⟨rfl, rfl⟩
          · replace hm := ifF hm hb22
            refine WJ.skip ?_
            refine PJ.block_normal (PJ.next ?_)
            refine WJ.quiet ?_
            refine QJ.step (YldS.yld (y_bin rfl rfl rfl)) rfl ?_
            refine QJ.step (YldS.yld (y_move rfl)) rfl ?_
            refine QJ.done ?_
            exact PJ.round (w64 (x10 + 1)) [] hm ⟨rfl, rfl, rfl, rfl, trivial⟩ ⟨List.nodup_nil, rfl⟩
        · replace hm := ifF hm hb11
          refine WJ.exit ?_
          refine PJ.then_exit (PJ.then_exit (PJ.block_exit ?_))
          exact PJ.joined () [] hm trivial ⟨List.nodup_nil, rfl⟩
    · rintro _ hm
      subst hk9
      refine WJ.seq ?_
      refine WJ.quiet ?_
      refine QJ.step (YldS.yld (y_assign rfl)) rfl ?_
      refine QJ.done ?_
      refine PJ.next ?_
      refine WJ.ret ?_
      obtain rfl := Option.some.inj hm
      refine PJ.sel (L' := []) [] ⟨List.nodup_nil, rfl⟩ ?_
      exact PJ.retn (vs := [.bool true]) Try.results56 ⟨rfl, trivial⟩ ⟨rfl, rfl⟩

set_option maxRecDepth 100000 in
set_option maxHeartbeats 1000000 in
theorem ok_s_ValidAbbrs {N : Nat} {list1 : List Abbr} {r : Bool} (hm : s_ValidAbbrs N list1 = some r) (w : World) (v2 : Value) (hr3 : RdS w (cx w).Fz v2 fAbbr.rp list1) :
    Calls Try.prog 58 #[v2] w (Ret (cx w) (.bool r)) := by
  unfold s_ValidAbbrs at hm
  refine Calls.enter [v2] Try.func58 rfl Try.ntmps58 rfl ?_
  refine WJ.seq ?_
  refine WJ.quiet ?_
  refine QJ.step (YldS.yld (y_assign rfl)) rfl ?_
  refine QJ.done ?_
  refine PJ.next ?_
  refine WJ.seq ?_
  refine WJ.quiet ?_
  refine QJ.step (YldS.yld (y_move rfl)) rfl ?_
  obtain ⟨r4, h5, hm⟩ := bindS hm
  refine QJ.step (y_call Try.call92 rfl (RetG.quiet fun w hw => ok_s_l16Ok h5 w _ (hr3.st hw))) rfl ?_
  refine QJ.step (YldS.yld (y_assign rfl)) rfl ?_
  refine QJ.done ?_
  refine PJ.next ?_
  refine WJ.ret ?_
  obtain rfl := Option.some.inj hm
  refine PJ.sel (L' := []) [] ⟨List.nodup_nil, rfl⟩ ?_
  exact PJ.retn (vs := [.bool r4]) Try.results58 ⟨rfl, trivial⟩ ⟨rfl, rfl⟩

set_option maxRecDepth 100000 in
set_option maxHeartbeats 1000000 in
theorem ok_w_FnAbbreviations {N : Nat} {code1 : List UInt8} {r : Bool} (hm : w_FnAbbreviations N code1 = some r) (w : World) (v2 : Value) (hr3 : RdS w (cx w).Fz v2 fByte.rp code1) :
    Calls Try.prog 5 #[v2] w (Ret (cx w) (.bool r)) := by
  unfold w_FnAbbreviations at hm
  refine Calls.enter [v2] Try.func5 rfl Try.ntmps5 rfl ?_
  refine WJ.seq ?_
  refine WJ.quiet ?_
  refine QJ.step (YldS.yld (y_assign rfl)) rfl ?_
  refine QJ.done ?_
  refine PJ.next ?_
  refine WJ.seq ?_
  refine WJ.seq ?_
  refine WJ.quiet ?_
  refine QJ.step (YldS.yld (y_move rfl)) rfl ?_
  obtain ⟨r4, h5, hm⟩ := bindS hm
  refine QJ.step (y_call Try.call6 rfl (RetG.quiet fun w hw => ok_w_f6big h5 w _ (hr3.st hw))) rfl ?_
  refine QJ.done ?_
  refine PJ.next ?_
  refine WJ.cond (t := r4) rfl (fun hb6 => ?_) (fun hb6 => ?_)
  · replace hm := ifT hm hb6
    refine WJ.seq ?_
    refine WJ.quiet ?_
    refine QJ.step (YldS.yld (y_assign rfl)) rfl ?_
    refine QJ.done ?_
    refine PJ.next ?_
    refine WJ.ret ?_
    refine PJ.then_ret ?_
    obtain rfl := Option.some.inj hm
    refine PJ.sel (L' := []) [] ⟨List.nodup_nil, rfl⟩ ?_
    exact PJ.retn (vs := [.bool true]) Try.results5 ⟨rfl, trivial⟩ ⟨rfl, rfl⟩
  · replace hm := ifF hm hb6
    refine WJ.skip ?_
    refine PJ.next ?_
    refine WJ.seq ?_
    refine WJ.reg ?_
    refine SJ.q (YldS.yld (y_move rfl)) rfl ?_
    obtain ⟨r7, h8, hm⟩ := bindS hm
    refine SJ.call Try.call34 rfl (fun w hw => ok_s_DrawShortenText h8 w _ (hr3.st hw)) rfl ?_
    rintro _ _ ⟨v9, rfl, rfl⟩
    refine SJ.q (YldS.yld (y_move rfl)) rfl ?_
    refine SJ.q (YldS.yld (y_extract rfl rfl)) rfl ?_
    refine SJ.q (YldS.yld (y_extract rfl rfl)) rfl ?_
    refine SJ.q (YldS.yld (y_assign rfl)) rfl ?_
    refine SJ.q (YldS.yld (y_assign rfl)) rfl ?_
    refine SJ.nil ?_
    refine PJ.next ?_
    refine WJ.seq ?_
    refine WJ.quiet ?_
    refine QJ.step (YldS.yld (y_move rfl)) rfl ?_
    refine QJ.step (YldS.yld (y_move rfl)) rfl ?_
    obtain ⟨r10, h11, hm⟩ := bindS hm
    refine QJ.step (y_call Try.call35 rfl (RetG.quiet fun w hw => ok_i_ShortenText h11 w _ (hw.row_rd (k := 0) rfl))) rfl ?_
    refine QJ.step (YldS.yld (y_move rfl)) rfl ?_
    refine QJ.step (YldS.yld (y_extract rfl rfl)) rfl ?_
    refine QJ.step (YldS.yld (y_extract rfl rfl)) rfl ?_
    refine QJ.step (YldS.yld (y_assign rfl)) rfl ?_
    refine QJ.step (YldS.yld (y_assign rfl)) rfl ?_
    refine QJ.done ?_
    refine PJ.next ?_
    refine WJ.seq ?_
    refine WJ.quiet ?_
    refine QJ.step (YldS.yld (y_move rfl)) rfl ?_
    refine QJ.step (YldS.yld (y_move rfl)) rfl ?_
    obtain ⟨r12, h13, hm⟩ := bindS hm
    refine QJ.step (y_call Try.call36 rfl (RetG.quiet fun w hw => ok_s_ShortenText h13 w _ (hw.row_rd (k := 0) rfl))) rfl ?_
    refine QJ.step (YldS.yld (y_move rfl)) rfl ?_
    refine QJ.step (YldS.yld (y_extract rfl rfl)) rfl ?_
    refine QJ.step (YldS.yld (y_extract rfl rfl)) rfl ?_
    refine QJ.step (YldS.yld (y_assign rfl)) rfl ?_
    refine QJ.step (YldS.yld (y_assign rfl)) rfl ?_
    refine QJ.done ?_
    refine PJ.next ?_
    refine WJ.seq ?_
    refine WJ.quiet ?_
    refine QJ.step (YldS.yld (y_move rfl)) rfl ?_
    refine QJ.step (YldS.yld (y_move rfl)) rfl ?_
    obtain ⟨r14, h15, hm⟩ := bindS hm
    refine QJ.step (y_call Try.call37 rfl (RetG.quiet fun w hw => ok_i_SavedLetters h15 w _ (hw.row_rd (k := 0) rfl))) rfl ?_
    refine QJ.step (YldS.yld (y_move rfl)) rfl ?_
    refine QJ.step (YldS.yld (y_extract rfl rfl)) rfl ?_
    refine QJ.step (YldS.yld (y_extract rfl rfl)) rfl ?_
    refine QJ.step (YldS.yld (y_assign rfl)) rfl ?_
    refine QJ.step (YldS.yld (y_assign rfl)) rfl ?_
    refine QJ.done ?_
    refine PJ.next ?_
    refine WJ.seq ?_
    refine WJ.quiet ?_
    refine QJ.step (YldS.yld (y_move rfl)) rfl ?_
    refine QJ.step (YldS.yld (y_move rfl)) rfl ?_
    obtain ⟨r16, h17, hm⟩ := bindS hm
    refine QJ.step (y_call Try.call38 rfl (RetG.quiet fun w hw => ok_s_SavedLetters h17 w _ (hw.row_rd (k := 0) rfl))) rfl ?_
    refine QJ.step (YldS.yld (y_move rfl)) rfl ?_
    refine QJ.step (YldS.yld (y_extract rfl rfl)) rfl ?_
    refine QJ.step (YldS.yld (y_extract rfl rfl)) rfl ?_
    refine QJ.step (YldS.yld (y_assign rfl)) rfl ?_
    refine QJ.step (YldS.yld (y_assign rfl)) rfl ?_
    refine QJ.done ?_
    refine PJ.next ?_
    refine WJ.seq ?_
    refine WJ.quiet ?_
    refine QJ.step (YldS.yld (y_move rfl)) rfl ?_
    refine QJ.step (YldS.yld (y_move rfl)) rfl ?_
    obtain ⟨r18, h19, hm⟩ := bindS hm
    refine QJ.step (y_call Try.call39 rfl (RetG.quiet fun w hw => ok_i_ExpandText h19 w _ (hw.row_rd (k := 0) rfl))) rfl ?_
    refine QJ.step (YldS.yld (y_move rfl)) rfl ?_
    refine QJ.step (YldS.yld (y_extract rfl rfl)) rfl ?_
    refine QJ.step (YldS.yld (y_extract rfl rfl)) rfl ?_
    refine QJ.step (YldS.yld (y_assign rfl)) rfl ?_
    refine QJ.step (YldS.yld (y_assign rfl)) rfl ?_
    refine QJ.done ?_
    refine PJ.next ?_
    refine WJ.seq ?_
    refine WJ.quiet ?_
    refine QJ.step (YldS.yld (y_move rfl)) rfl ?_
    refine QJ.step (YldS.yld (y_move rfl)) rfl ?_
    obtain ⟨r20, h21, hm⟩ := bindS hm
    refine QJ.step (y_call Try.call40 rfl (RetG.quiet fun w hw => ok_s_ExpandText h21 w _ (hw.row_rd (k := 0) rfl))) rfl ?_
    refine QJ.step (YldS.yld (y_move rfl)) rfl ?_
    refine QJ.step (YldS.yld (y_extract rfl rfl)) rfl ?_
    refine QJ.step (YldS.yld (y_extract rfl rfl)) rfl ?_
    refine QJ.step (YldS.yld (y_assign rfl)) rfl ?_
    refine QJ.step (YldS.yld (y_assign rfl)) rfl ?_
    refine QJ.done ?_
    refine PJ.next ?_
    refine WJ.seq ?_
    refine WJ.reg ?_
    refine SJ.q (YldS.yld (y_move rfl)) rfl ?_
    refine SJ.q (YldS.yld (y_move rfl)) rfl ?_
    obtain ⟨r22, h23, hm⟩ := bindS hm
    refine SJ.call Try.call41 rfl (fun w hw => ok_i_UsefulAbbrs h23 w _ (hw.row_rd (k := 0) rfl)) rfl ?_
    rintro _ _ ⟨v24, rfl, rfl⟩
    refine SJ.q (YldS.yld (y_move rfl)) rfl ?_
    refine SJ.q (YldS.yld (y_extract rfl rfl)) rfl ?_
    refine SJ.q (YldS.yld (y_extract rfl rfl)) rfl ?_
    refine SJ.q (YldS.yld (y_assign rfl)) rfl ?_
    refine SJ.q (YldS.yld (y_assign rfl)) rfl ?_
    refine SJ.nil ?_
    refine PJ.next ?_
    refine WJ.seq ?_
    refine WJ.reg ?_
    refine SJ.q (YldS.yld (y_move rfl)) rfl ?_
    refine SJ.q (YldS.yld (y_move rfl)) rfl ?_
    obtain ⟨r25, h26, hm⟩ := bindS hm
    refine SJ.call Try.call42 rfl (fun w hw => ok_s_UsefulAbbrs h26 w _ (hw.row_rd (k := 1) rfl)) rfl ?_
    rintro _ _ ⟨v27, rfl, rfl⟩
    refine SJ.q (YldS.yld (y_move rfl)) rfl ?_
    refine SJ.q (YldS.yld (y_extract rfl rfl)) rfl ?_
    refine SJ.q (YldS.yld (y_extract rfl rfl)) rfl ?_
    refine SJ.q (YldS.yld (y_assign rfl)) rfl ?_
    refine SJ.q (YldS.yld (y_assign rfl)) rfl ?_
    refine SJ.nil ?_
    refine PJ.next ?_
    refine WJ.seq ?_
    refine WJ.reg ?_
    refine SJ.q (YldS.yld (y_move rfl)) rfl ?_
    obtain ⟨r28, h29, hm⟩ := bindS hm
    refine SJ.call Try.call43 rfl (fun w hw => ok_i_DoubtfulAbbrs h29 w _ (hw.row_rd (k := 2) rfl)) rfl ?_
    rintro _ _ ⟨v30, rfl, rfl⟩
    refine SJ.q (YldS.yld (y_move rfl)) rfl ?_
    refine SJ.q (YldS.yld (y_extract rfl rfl)) rfl ?_
    refine SJ.q (YldS.yld (y_extract rfl rfl)) rfl ?_
    refine SJ.q (YldS.yld (y_assign rfl)) rfl ?_
    refine SJ.q (YldS.yld (y_assign rfl)) rfl ?_
    refine SJ.nil ?_
    refine PJ.next ?_
    refine WJ.seq ?_
    refine WJ.reg ?_
    refine SJ.q (YldS.yld (y_move rfl)) rfl ?_
    obtain ⟨r31, h32, hm⟩ := bindS hm
    refine SJ.call Try.call44 rfl (fun w hw => ok_s_DoubtfulAbbrs h32 w _ (hw.row_rd (k := 3) rfl)) rfl ?_
    rintro _ _ ⟨v33, rfl, rfl⟩
    refine SJ.q (YldS.yld (y_move rfl)) rfl ?_
    refine SJ.q (YldS.yld (y_extract rfl rfl)) rfl ?_
    refine SJ.q (YldS.yld (y_extract rfl rfl)) rfl ?_
    refine SJ.q (YldS.yld (y_assign rfl)) rfl ?_
    refine SJ.q (YldS.yld (y_assign rfl)) rfl ?_
    refine SJ.nil ?_
    refine PJ.next ?_
    refine WJ.seq ?_
    refine WJ.reg ?_
    refine SJ.q (YldS.yld (y_move rfl)) rfl ?_
    obtain ⟨r34, h35, hm⟩ := bindS hm
    refine SJ.call Try.call45 rfl (fun w hw => ok_s_DrawAddAbbr h35 w _ (hr3.st hw)) rfl ?_
    rintro _ _ ⟨v36, rfl, rfl⟩
    refine SJ.q (YldS.yld (y_move rfl)) rfl ?_
    refine SJ.q (YldS.yld (y_extract rfl rfl)) rfl ?_
    refine SJ.q (YldS.yld (y_extract rfl rfl)) rfl ?_
    refine SJ.alloc (cs := [str [], str []]) Try.zeroValue64 rfl rfl fun g37 => ?_
    refine SJ.q (YldS.yld (y_assign rfl)) rfl ?_
    refine SJ.storeL (k := 0) (off := 0) (us := [str r34.2.short, str r34.2.long]) rfl rfl rfl rfl Try.sizeOf64 rfl rfl ?_
    refine SJ.nil ?_
    refine PJ.next ?_
    refine WJ.seq ?_
    refine WJ.reg ?_
    refine SJ.q (YldS.yld (y_move rfl)) rfl ?_
    refine SJ.q (YldS.yld (y_loadBN (k := 0) (off := 0) (us := [str r34.2.short, str r34.2.long]) rfl Try.isAgg64 Try.sizeOf64 rfl rfl)) rfl ?_
    obtain ⟨r38, h39, hm⟩ := bindS hm
    refine SJ.call Try.call46 rfl (fun w hw => ok_i_AddAbbr h39 w _ (hw.row_rd (k := 1) rfl)) rfl ?_
    rintro _ _ ⟨v40, rfl, rfl⟩
    refine SJ.q (YldS.yld (y_move rfl)) rfl ?_
    refine SJ.q (YldS.yld (y_extract rfl rfl)) rfl ?_
    refine SJ.q (YldS.yld (y_extract rfl rfl)) rfl ?_
    refine SJ.q (YldS.yld (y_assign rfl)) rfl ?_
    refine SJ.q (YldS.yld (y_assign rfl)) rfl ?_
    refine SJ.nil ?_
    refine PJ.next ?_
    refine WJ.seq ?_
    refine WJ.reg ?_
    refine SJ.q (YldS.yld (y_move rfl)) rfl ?_
    refine SJ.q (YldS.yld (y_loadBN (k := 1) (off := 0) (us := [str r34.2.short, str r34.2.long]) rfl Try.isAgg64 Try.sizeOf64 rfl rfl)) rfl ?_
    obtain ⟨r41, h42, hm⟩ := bindS hm
    refine SJ.call Try.call47 rfl (fun w hw => ok_s_AddAbbr h42 w _ (hw.row_rd (k := 2) rfl)) rfl ?_
    rintro _ _ ⟨v43, rfl, rfl⟩
    refine SJ.q (YldS.yld (y_move rfl)) rfl ?_
    refine SJ.q (YldS.yld (y_extract rfl rfl)) rfl ?_
    refine SJ.q (YldS.yld (y_extract rfl rfl)) rfl ?_
    refine SJ.q (YldS.yld (y_assign rfl)) rfl ?_
    refine SJ.q (YldS.yld (y_assign rfl)) rfl ?_
    refine SJ.nil ?_
    refine PJ.next ?_
    refine WJ.seq ?_
    refine WJ.reg ?_
    refine SJ.q (YldS.yld (y_move rfl)) rfl ?_
    obtain ⟨r44, h45, hm⟩ := bindS hm
    refine SJ.q (y_call Try.call48 rfl (RetG.quiet fun w hw => ok_s_DrawAbbrText h45 w _ (hr3.st hw))) rfl ?_
    refine SJ.alloc (cs := [str [], str []]) Try.zeroValue64 rfl rfl fun g46 => ?_
    refine SJ.storeL (k := 0) (off := 0) (us := [str r44.short, str r44.long]) rfl rfl rfl rfl Try.sizeOf64 rfl rfl ?_
    refine SJ.nil ?_
    refine PJ.next ?_
    refine WJ.seq ?_
    refine WJ.quiet ?_
    refine QJ.step (YldS.yld (y_loadBN (k := 0) (off := 0) (us := [str r44.short, str r44.long]) rfl Try.isAgg64 Try.sizeOf64 rfl rfl)) rfl ?_
    obtain ⟨r47, h48, hm⟩ := bindS hm
    refine QJ.step (y_call Try.call49 rfl (RetG.quiet fun w hw => ok_i_AbbrText h48 w )) rfl ?_
    refine QJ.step (YldS.yld (y_assign rfl)) rfl ?_
    refine QJ.done ?_
    refine PJ.next ?_
    refine WJ.seq ?_
    refine WJ.reg ?_
    refine SJ.q (YldS.yld (y_move rfl)) rfl ?_
    obtain ⟨r49, h50, hm⟩ := bindS hm
    refine SJ.q (y_call Try.call50 rfl (RetG.quiet fun w hw => ok_i_ReadAbbr h50 w )) rfl ?_
    refine SJ.q (YldS.yld (y_move rfl)) rfl ?_
    refine SJ.q (YldS.yld (y_extract rfl rfl)) rfl ?_
    refine SJ.q (YldS.yld (y_extract rfl rfl)) rfl ?_
    refine SJ.alloc (cs := [str [], str []]) Try.zeroValue64 rfl rfl fun g51 => ?_
    refine SJ.storeL (k := 0) (off := 0) (us := [str r49.1.short, str r49.1.long]) rfl rfl rfl rfl Try.sizeOf64 rfl rfl ?_
    refine SJ.q (YldS.yld (y_assign rfl)) rfl ?_
    refine SJ.nil ?_
    refine PJ.next ?_
    refine WJ.seq ?_
    refine WJ.quiet ?_
    refine QJ.step (YldS.yld (y_move rfl)) rfl ?_
    obtain ⟨r52, h53, hm⟩ := bindS hm
    refine QJ.step (y_call Try.call51 rfl (RetG.quiet fun w hw => ok_s_DrawReadAbbr h53 w _ (hr3.st hw))) rfl ?_
    refine QJ.step (YldS.yld (y_assign rfl)) rfl ?_
    refine QJ.done ?_
    refine PJ.next ?_
    refine WJ.seq ?_
    refine WJ.reg ?_
    refine SJ.q (YldS.yld (y_move rfl)) rfl ?_
    obtain ⟨r54, h55, hm⟩ := bindS hm
    refine SJ.q (y_call Try.call50 rfl (RetG.quiet fun w hw => ok_i_ReadAbbr h55 w )) rfl ?_
    refine SJ.q (YldS.yld (y_move rfl)) rfl ?_
    refine SJ.q (YldS.yld (y_extract rfl rfl)) rfl ?_
    refine SJ.q (YldS.yld (y_extract rfl rfl)) rfl ?_
    refine SJ.alloc (cs := [str [], str []]) Try.zeroValue64 rfl rfl fun g56 => ?_
    refine SJ.storeL (k := 0) (off := 0) (us := [str r54.1.short, str r54.1.long]) rfl rfl rfl rfl Try.sizeOf64 rfl rfl ?_
    refine SJ.q (YldS.yld (y_assign rfl)) rfl ?_
    refine SJ.nil ?_
    refine PJ.next ?_
    refine WJ.seq ?_
    refine WJ.reg ?_
    refine SJ.q (YldS.yld (y_move rfl)) rfl ?_
    obtain ⟨r57, h58, hm⟩ := bindS hm
    refine SJ.q (y_call Try.call52 rfl (RetG.quiet fun w hw => ok_s_ReadAbbr h58 w )) rfl ?_
    refine SJ.q (YldS.yld (y_move rfl)) rfl ?_
    refine SJ.q (YldS.yld (y_extract rfl rfl)) rfl ?_
    refine SJ.q (YldS.yld (y_extract rfl rfl)) rfl ?_
    refine SJ.alloc (cs := [str [], str []]) Try.zeroValue64 rfl rfl fun g59 => ?_
    refine SJ.storeL (k := 0) (off := 0) (us := [str r57.1.short, str r57.1.long]) rfl rfl rfl rfl Try.sizeOf64 rfl rfl ?_
    refine SJ.q (YldS.yld (y_assign rfl)) rfl ?_
    refine SJ.nil ?_
    refine PJ.next ?_
    refine WJ.seq ?_
    refine WJ.reg ?_
    refine SJ.q (YldS.yld (y_move rfl)) rfl ?_
    obtain ⟨r60, h61, hm⟩ := bindS hm
    refine SJ.call Try.call53 rfl (fun w hw => ok_s_DrawSameAbbrs h61 w _ (hr3.st hw)) rfl ?_
    rintro _ _ ⟨v62, v63, rfl, rfl⟩
    refine SJ.q (YldS.yld (y_move rfl)) rfl ?_
    refine SJ.q (YldS.yld (y_extract rfl rfl)) rfl ?_
    refine SJ.q (YldS.yld (y_extract rfl rfl)) rfl ?_
    refine SJ.q (YldS.yld (y_assign rfl)) rfl ?_
    refine SJ.q (YldS.yld (y_assign rfl)) rfl ?_
    refine SJ.nil ?_
    refine PJ.next ?_
    refine WJ.seq ?_
    refine WJ.seq ?_
    refine WJ.quiet ?_
    refine QJ.step (YldS.yld (y_move rfl)) rfl ?_
    refine QJ.step (YldS.yld (y_move rfl)) rfl ?_
    refine QJ.step (YldS.yld (y_bin rfl rfl rfl)) rfl ?_
    refine QJ.step (YldS.yld (y_move rfl)) rfl ?_
    obtain ⟨t64, h65, hm⟩ := bindS hm
    refine QJ.cut 4 [(3, v9), (4, str r7.2), (5, str r10.1), (6, .int .i64 r10.2), (9, .int .i64 r14.1), (10, .int .i64 r14.2), (11, .int .i64 r16.1), (12, .int .i64 r16.2), (13, str r18.1), (14, .int .i64 r18.2), (15, str r20.1), (16, .int .i64 r20.2), (17, v24), (18, .int .i64 r22.2), (19, v27), (20, .int .i64 r25.2), (21, v30), (22, .int .i64 r28.2), (23, v33), (24, .int .i64 r31.2), (25, v36), (27, v40), (28, .int .i64 r38.2), (29, v43), (30, .int .i64 r41.2), (31, pt g46 0), (32, str r47), (33, pt g51 0), (34, .bool r49.2), (36, pt g56 0), (37, .bool r54.2), (38, pt g59 0), (39, .bool r57.2), (40, v62), (41, v63), (159, .bool t64)] ?_ ?_
    · rcases Bool.eq_false_or_eq_true (r10.2 != r12.2) with hb66 | hb66
      · obtain rfl := orT h65 hb66
        refine QJ.off rfl rfl (cB hb66) rfl rfl ?_
        refine QJ.off rfl rfl (cB hb66) rfl rfl ?_
        refine QJ.off rfl rfl (cB hb66) rfl rfl ?_
        refine QJ.step (YldS.yld (y_pick_t (cB hb66) rfl)) rfl ?_
        exact QJ.cut_end ⟨rfl, rfl, rfl, rfl, rfl, rfl, rfl, rfl, rfl, rfl, rfl, rfl, rfl, rfl, rfl, rfl, rfl, rfl, rfl, rfl, rfl, rfl, rfl, rfl, rfl, rfl, rfl, rfl, rfl, rfl, rfl, rfl, rfl, rfl, rfl, rfl, trivial⟩
      · replace h65 := orF h65 hb66
        refine QJ.on rfl rfl (cB hb66) (YldS.yld (y_move rfl)) rfl ?_
        refine QJ.on rfl rfl (cB hb66) (YldS.yld (y_move rfl)) rfl ?_
        refine QJ.on rfl rfl (cB hb66) (YldS.yld (y_binS rfl rfl rfl)) rfl ?_
        refine QJ.step (YldS.yld (y_pick_f (cB hb66) rfl)) rfl ?_
        obtain rfl := Option.some.inj h65
        exact QJ.cut_end ⟨rfl, rfl, rfl, rfl, rfl, rfl, rfl, rfl, rfl, rfl, rfl, rfl, rfl, rfl, rfl, rfl, rfl, rfl, rfl, rfl, rfl, rfl, rfl, rfl, rfl, rfl, rfl, rfl, rfl, rfl, rfl, rfl, rfl, rfl, rfl, rfl, trivial⟩
    refine QJ.step (YldS.yld (y_move rfl)) rfl ?_
    obtain ⟨t67, h68, hm⟩ := bindS hm
    refine QJ.cut 4 [(3, v9), (4, str r7.2), (5, str r10.1), (6, .int .i64 r10.2), (9, .int .i64 r14.1), (11, .int .i64 r16.1), (13, str r18.1), (14, .int .i64 r18.2), (15, str r20.1), (16, .int .i64 r20.2), (17, v24), (18, .int .i64 r22.2), (19, v27), (20, .int .i64 r25.2), (21, v30), (22, .int .i64 r28.2), (23, v33), (24, .int .i64 r31.2), (25, v36), (27, v40), (28, .int .i64 r38.2), (29, v43), (30, .int .i64 r41.2), (31, pt g46 0), (32, str r47), (33, pt g51 0), (34, .bool r49.2), (36, pt g56 0), (37, .bool r54.2), (38, pt g59 0), (39, .bool r57.2), (40, v62), (41, v63), (164, .bool t67)] ?_ ?_
    · rcases Bool.eq_false_or_eq_true t64 with hb69 | hb69
      · obtain rfl := orT h68 hb69
        refine QJ.off rfl rfl (cB hb69) rfl rfl ?_
        refine QJ.off rfl rfl (cB hb69) rfl rfl ?_
        refine QJ.off rfl rfl (cB hb69) rfl rfl ?_
        refine QJ.step (YldS.yld (y_pick_t (cB hb69) rfl)) rfl ?_
        exact QJ.cut_end ⟨rfl, rfl, rfl, rfl, rfl, rfl, rfl, rfl, rfl, rfl, rfl, rfl, rfl, rfl, rfl, rfl, rfl, rfl, rfl, rfl, rfl, rfl, rfl, rfl, rfl, rfl, rfl, rfl, rfl, rfl, rfl, rfl, rfl, rfl, trivial⟩
      · replace h68 := orF h68 hb69
        refine QJ.on rfl rfl (cB hb69) (YldS.yld (y_move rfl)) rfl ?_
        refine QJ.on rfl rfl (cB hb69) (YldS.yld (y_move rfl)) rfl ?_
        refine QJ.on rfl rfl (cB hb69) (YldS.yld (y_bin rfl rfl rfl)) rfl ?_
        refine QJ.step (YldS.yld (y_pick_f (cB hb69) rfl)) rfl ?_
        obtain rfl := Option.some.inj h68
        exact QJ.cut_end ⟨rfl, rfl, rfl, rfl, rfl, rfl, rfl, rfl, rfl, rfl, rfl, rfl, rfl, rfl, rfl, rfl, rfl, rfl, rfl, rfl, rfl, rfl, rfl, rfl, rfl, rfl, rfl, rfl, rfl, rfl, rfl, rfl, rfl, rfl, trivial⟩
    refine QJ.step (YldS.yld (y_move rfl)) rfl ?_
    obtain ⟨t70, h71, hm⟩ := bindS hm
    refine QJ.cut 4 [(3, v9), (4, str r7.2), (5, str r10.1), (6, .int .i64 r10.2), (9, .int .i64 r14.1), (13, str r18.1), (14, .int .i64 r18.2), (15, str r20.1), (16, .int .i64 r20.2), (17, v24), (18, .int .i64 r22.2), (19, v27), (20, .int .i64 r25.2), (21, v30), (22, .int .i64 r28.2), (23, v33), (24, .int .i64 r31.2), (25, v36), (27, v40), (28, .int .i64 r38.2), (29, v43), (30, .int .i64 r41.2), (31, pt g46 0), (32, str r47), (33, pt g51 0), (34, .bool r49.2), (36, pt g56 0), (37, .bool r54.2), (38, pt g59 0), (39, .bool r57.2), (40, v62), (41, v63), (169, .bool t70)] ?_ ?_
    · rcases Bool.eq_false_or_eq_true t67 with hb72 | hb72
      · obtain rfl := orT h71 hb72
        refine QJ.off rfl rfl (cB hb72) rfl rfl ?_
        refine QJ.off rfl rfl (cB hb72) rfl rfl ?_
        refine QJ.off rfl rfl (cB hb72) rfl rfl ?_
        refine QJ.step (YldS.yld (y_pick_t (cB hb72) rfl)) rfl ?_
        exact QJ.cut_end ⟨rfl, rfl, rfl, rfl, rfl, rfl, rfl, rfl, rfl, rfl, rfl, rfl, rfl, rfl, rfl, rfl, rfl, rfl, rfl, rfl, rfl, rfl, rfl, rfl, rfl, rfl, rfl, rfl, rfl, rfl, rfl, rfl, rfl, trivial⟩
      · replace h71 := orF h71 hb72
        refine QJ.on rfl rfl (cB hb72) (YldS.yld (y_move rfl)) rfl ?_
        refine QJ.on rfl rfl (cB hb72) (YldS.yld (y_move rfl)) rfl ?_
        refine QJ.on rfl rfl (cB hb72) (YldS.yld (y_bin rfl rfl rfl)) rfl ?_
        refine QJ.step (YldS.yld (y_pick_f (cB hb72) rfl)) rfl ?_
        obtain rfl := Option.some.inj h71
        exact QJ.cut_end ⟨rfl, rfl, rfl, rfl, rfl, rfl, rfl, rfl, rfl, rfl, rfl, rfl, rfl, rfl, rfl, rfl, rfl, rfl, rfl, rfl, rfl, rfl, rfl, rfl, rfl, rfl, rfl, rfl, rfl, rfl, rfl, rfl, rfl, trivial⟩
    refine QJ.step (YldS.yld (y_move rfl)) rfl ?_
    obtain ⟨t73, h74, hm⟩ := bindS hm
    refine QJ.cut 4 [(3, v9), (4, str r7.2), (5, str r10.1), (6, .int .i64 r10.2), (9, .int .i64 r14.1), (13, str r18.1), (15, str r20.1), (17, v24), (18, .int .i64 r22.2), (19, v27), (20, .int .i64 r25.2), (21, v30), (22, .int .i64 r28.2), (23, v33), (24, .int .i64 r31.2), (25, v36), (27, v40), (28, .int .i64 r38.2), (29, v43), (30, .int .i64 r41.2), (31, pt g46 0), (32, str r47), (33, pt g51 0), (34, .bool r49.2), (36, pt g56 0), (37, .bool r54.2), (38, pt g59 0), (39, .bool r57.2), (40, v62), (41, v63), (174, .bool t73)] ?_ ?_
    · rcases Bool.eq_false_or_eq_true t70 with hb75 | hb75
      · obtain rfl := orT h74 hb75
        refine QJ.off rfl rfl (cB hb75) rfl rfl ?_
        refine QJ.off rfl rfl (cB hb75) rfl rfl ?_
        refine QJ.off rfl rfl (cB hb75) rfl rfl ?_
        refine QJ.step (YldS.yld (y_pick_t (cB hb75) rfl)) rfl ?_
        exact QJ.cut_end ⟨rfl, rfl, rfl, rfl, rfl, rfl, rfl, rfl, rfl, rfl, rfl, rfl, rfl, rfl, rfl, rfl, rfl, rfl, rfl, rfl, rfl, rfl, rfl, rfl, rfl, rfl, rfl, rfl, rfl, rfl, rfl, trivial⟩
      · replace h74 := orF h74 hb75
        refine QJ.on rfl rfl (cB hb75) (YldS.yld (y_move rfl)) rfl ?_
        refine QJ.on rfl rfl (cB hb75) (YldS.yld (y_move rfl)) rfl ?_
        refine QJ.on rfl rfl (cB hb75) (YldS.yld (y_bin rfl rfl rfl)) rfl ?_
        refine QJ.step (YldS.yld (y_pick_f (cB hb75) rfl)) rfl ?_
        obtain rfl := Option.some.inj h74
        exact QJ.cut_end ⟨rfl, rfl, rfl, rfl, rfl, rfl, rfl, rfl, rfl, rfl, rfl, rfl, rfl, rfl, rfl, rfl, rfl, rfl, rfl, rfl, rfl, rfl, rfl, rfl, rfl, rfl, rfl, rfl, rfl, rfl, rfl, trivial⟩
    refine QJ.step (YldS.yld (y_move rfl)) rfl ?_
    obtain ⟨t76, h77, hm⟩ := bindS hm
    refine QJ.cut 4 [(3, v9), (4, str r7.2), (5, str r10.1), (6, .int .i64 r10.2), (9, .int .i64 r14.1), (17, v24), (18, .int .i64 r22.2), (19, v27), (20, .int .i64 r25.2), (21, v30), (22, .int .i64 r28.2), (23, v33), (24, .int .i64 r31.2), (25, v36), (27, v40), (28, .int .i64 r38.2), (29, v43), (30, .int .i64 r41.2), (31, pt g46 0), (32, str r47), (33, pt g51 0), (34, .bool r49.2), (36, pt g56 0), (37, .bool r54.2), (38, pt g59 0), (39, .bool r57.2), (40, v62), (41, v63), (179, .bool t76)] ?_ ?_
    · rcases Bool.eq_false_or_eq_true t73 with hb78 | hb78
      · obtain rfl := orT h77 hb78
        refine QJ.off rfl rfl (cB hb78) rfl rfl ?_
        refine QJ.off rfl rfl (cB hb78) rfl rfl ?_
        refine QJ.off rfl rfl (cB hb78) rfl rfl ?_
        refine QJ.step (YldS.yld (y_pick_t (cB hb78) rfl)) rfl ?_
        exact QJ.cut_end ⟨rfl, rfl, rfl, rfl, rfl, rfl, rfl, rfl, rfl, rfl, rfl, rfl, rfl, rfl, rfl, rfl, rfl, rfl, rfl, rfl, rfl, rfl, rfl, rfl, rfl, rfl, rfl, rfl, rfl, trivial⟩
      · replace h77 := orF h77 hb78
        refine QJ.on rfl rfl (cB hb78) (YldS.yld (y_move rfl)) rfl ?_
        refine QJ.on rfl rfl (cB hb78) (YldS.yld (y_move rfl)) rfl ?_
        refine QJ.on rfl rfl (cB hb78) (YldS.yld (y_binS rfl rfl rfl)) rfl ?_
        refine QJ.step (YldS.yld (y_pick_f (cB hb78) rfl)) rfl ?_
        obtain rfl := Option.some.inj h77
        exact QJ.cut_end ⟨rfl, rfl, rfl, rfl, rfl, rfl, rfl, rfl, rfl, rfl, rfl, rfl, rfl, rfl, rfl, rfl, rfl, rfl, rfl, rfl, rfl, rfl, rfl, rfl, rfl, rfl, rfl, rfl, rfl, trivial⟩
    refine QJ.step (YldS.yld (y_move rfl)) rfl ?_
    obtain ⟨t79, h80, hm⟩ := bindS hm
    refine QJ.cut 4 [(3, v9), (4, str r7.2), (5, str r10.1), (6, .int .i64 r10.2), (9, .int .i64 r14.1), (17, v24), (19, v27), (21, v30), (22, .int .i64 r28.2), (23, v33), (24, .int .i64 r31.2), (25, v36), (27, v40), (28, .int .i64 r38.2), (29, v43), (30, .int .i64 r41.2), (31, pt g46 0), (32, str r47), (33, pt g51 0), (34, .bool r49.2), (36, pt g56 0), (37, .bool r54.2), (38, pt g59 0), (39, .bool r57.2), (40, v62), (41, v63), (184, .bool t79)] ?_ ?_
    · rcases Bool.eq_false_or_eq_true t76 with hb81 | hb81
      · obtain rfl := orT h80 hb81
        refine QJ.off rfl rfl (cB hb81) rfl rfl ?_
        refine QJ.off rfl rfl (cB hb81) rfl rfl ?_
        refine QJ.off rfl rfl (cB hb81) rfl rfl ?_
        refine QJ.step (YldS.yld (y_pick_t (cB hb81) rfl)) rfl ?_
        exact QJ.cut_end ⟨rfl, rfl, rfl, rfl, rfl, rfl, rfl, rfl, rfl, rfl, rfl, rfl, rfl, rfl, rfl, rfl, rfl, rfl, rfl, rfl, rfl, rfl, rfl, rfl, rfl, rfl, rfl, trivial⟩
      · replace h80 := orF h80 hb81
        refine QJ.on rfl rfl (cB hb81) (YldS.yld (y_move rfl)) rfl ?_
        refine QJ.on rfl rfl (cB hb81) (YldS.yld (y_move rfl)) rfl ?_
        refine QJ.on rfl rfl (cB hb81) (YldS.yld (y_bin rfl rfl rfl)) rfl ?_
        refine QJ.step (YldS.yld (y_pick_f (cB hb81) rfl)) rfl ?_
        obtain rfl := Option.some.inj h80
        exact QJ.cut_end ⟨rfl, rfl, rfl, rfl, rfl, rfl, rfl, rfl, rfl, rfl, rfl, rfl, rfl, rfl, rfl, rfl, rfl, rfl, rfl, rfl, rfl, rfl, rfl, rfl, rfl, rfl, rfl, trivial⟩
    refine QJ.step (YldS.yld (y_move rfl)) rfl ?_
    obtain ⟨t82, h83, hm⟩ := bindS hm
    refine QJ.cut 5 [(3, v9), (4, str r7.2), (5, str r10.1), (6, .int .i64 r10.2), (9, .int .i64 r14.1), (21, v30), (22, .int .i64 r28.2), (23, v33), (24, .int .i64 r31.2), (25, v36), (27, v40), (28, .int .i64 r38.2), (29, v43), (30, .int .i64 r41.2), (31, pt g46 0), (32, str r47), (33, pt g51 0), (34, .bool r49.2), (36, pt g56 0), (37, .bool r54.2), (38, pt g59 0), (39, .bool r57.2), (40, v62), (41, v63), (190, .bool t82)] ?_ ?_
    · rcases Bool.eq_false_or_eq_true t79 with hb84 | hb84
      · obtain rfl := orT h83 hb84
        refine QJ.off rfl rfl (cB hb84) rfl rfl ?_
        refine QJ.off rfl rfl (cB hb84) rfl rfl ?_
        refine QJ.off rfl rfl (cB hb84) rfl rfl ?_
        refine QJ.off rfl rfl (cB hb84) rfl rfl ?_
        refine QJ.step (YldS.yld (y_pick_t (cB hb84) rfl)) rfl ?_
        exact QJ.cut_end ⟨rfl, rfl, rfl, rfl, rfl, rfl, rfl, rfl, rfl, rfl, rfl, rfl, rfl, rfl, rfl, rfl, rfl, rfl, rfl, rfl, rfl, rfl, rfl, rfl, rfl, trivial⟩
      · replace h83 := orF h83 hb84
        refine QJ.on rfl rfl (cB hb84) (YldS.yld (y_move rfl)) rfl ?_
        refine QJ.on rfl rfl (cB hb84) (YldS.yld (y_move rfl)) rfl ?_
        obtain ⟨r85, h86, h83⟩ := bindS h83
        refine QJ.on rfl rfl (cB hb84) (y_call Try.call17 rfl (RetG.quiet fun w hw => ok_w_f6ints h86 w _ (hw.row_rd (k := 13) rfl) _ (hw.row_rd (k := 12) rfl))) rfl ?_
        refine QJ.on rfl rfl (cB hb84) (YldS.yld (y_not rfl)) rfl ?_
        refine QJ.step (YldS.yld (y_pick_f (cB hb84) rfl)) rfl ?_
        obtain rfl := Option.some.inj h83
        exact QJ.cut_end ⟨rfl, rfl, rfl, rfl, rfl, rfl, rfl, rfl, rfl, rfl, rfl, rfl, rfl, rfl, rfl, rfl, rfl, rfl, rfl, rfl, rfl, rfl, rfl, rfl, rfl, trivial⟩
    refine QJ.step (YldS.yld (y_move rfl)) rfl ?_
    obtain ⟨t87, h88, hm⟩ := bindS hm
    refine QJ.cut 4 [(3, v9), (4, str r7.2), (5, str r10.1), (6, .int .i64 r10.2), (9, .int .i64 r14.1), (21, v30), (23, v33), (25, v36), (27, v40), (28, .int .i64 r38.2), (29, v43), (30, .int .i64 r41.2), (31, pt g46 0), (32, str r47), (33, pt g51 0), (34, .bool r49.2), (36, pt g56 0), (37, .bool r54.2), (38, pt g59 0), (39, .bool r57.2), (40, v62), (41, v63), (195, .bool t87)] ?_ ?_
    · rcases Bool.eq_false_or_eq_true t82 with hb89 | hb89
      · obtain rfl := orT h88 hb89
        refine QJ.off rfl rfl (cB hb89) rfl rfl ?_
        refine QJ.off rfl rfl (cB hb89) rfl rfl ?_
        refine QJ.off rfl rfl (cB hb89) rfl rfl ?_
        refine QJ.step (YldS.yld (y_pick_t (cB hb89) rfl)) rfl ?_
        exact QJ.cut_end ⟨rfl, rfl, rfl, rfl, rfl, rfl, rfl, rfl, rfl, rfl, rfl, rfl, rfl, rfl, rfl, rfl, rfl, rfl, rfl, rfl, rfl, rfl, rfl, trivial⟩
      · replace h88 := orF h88 hb89
        refine QJ.on rfl rfl (cB hb89) (YldS.yld (y_move rfl)) rfl ?_
        refine QJ.on rfl rfl (cB hb89) (YldS.yld (y_move rfl)) rfl ?_
        refine QJ.on rfl rfl (cB hb89) (YldS.yld (y_bin rfl rfl rfl)) rfl ?_
        refine QJ.step (YldS.yld (y_pick_f (cB hb89) rfl)) rfl ?_
        obtain rfl := Option.some.inj h88
        exact QJ.cut_end ⟨rfl, rfl, rfl, rfl, rfl, rfl, rfl, rfl, rfl, rfl, rfl, rfl, rfl, rfl, rfl, rfl, rfl, rfl, rfl, rfl, rfl, rfl, rfl, trivial⟩
    refine QJ.step (YldS.yld (y_move rfl)) rfl ?_
    obtain ⟨t90, h91, hm⟩ := bindS hm
    refine QJ.cut 5 [(3, v9), (4, str r7.2), (5, str r10.1), (6, .int .i64 r10.2), (9, .int .i64 r14.1), (25, v36), (27, v40), (28, .int .i64 r38.2), (29, v43), (30, .int .i64 r41.2), (31, pt g46 0), (32, str r47), (33, pt g51 0), (34, .bool r49.2), (36, pt g56 0), (37, .bool r54.2), (38, pt g59 0), (39, .bool r57.2), (40, v62), (41, v63), (201, .bool t90)] ?_ ?_
    · rcases Bool.eq_false_or_eq_true t87 with hb92 | hb92
      · obtain rfl := orT h91 hb92
        refine QJ.off rfl rfl (cB hb92) rfl rfl ?_
        refine QJ.off rfl rfl (cB hb92) rfl rfl ?_
        refine QJ.off rfl rfl (cB hb92) rfl rfl ?_
        refine QJ.off rfl rfl (cB hb92) rfl rfl ?_
        refine QJ.step (YldS.yld (y_pick_t (cB hb92) rfl)) rfl ?_
        exact QJ.cut_end ⟨rfl, rfl, rfl, rfl, rfl, rfl, rfl, rfl, rfl, rfl, rfl, rfl, rfl, rfl, rfl, rfl, rfl, rfl, rfl, rfl, rfl, trivial⟩
      · replace h91 := orF h91 hb92
        refine QJ.on rfl rfl (cB hb92) (YldS.yld (y_move rfl)) rfl ?_
        refine QJ.on rfl rfl (cB hb92) (YldS.yld (y_move rfl)) rfl ?_
        obtain ⟨r93, h94, h91⟩ := bindS h91
        refine QJ.on rfl rfl (cB hb92) (y_call Try.call17 rfl (RetG.quiet fun w hw => ok_w_f6ints h94 w _ (hw.row_rd (k := 11) rfl) _ (hw.row_rd (k := 10) rfl))) rfl ?_
        refine QJ.on rfl rfl (cB hb92) (YldS.yld (y_not rfl)) rfl ?_
        refine QJ.step (YldS.yld (y_pick_f (cB hb92) rfl)) rfl ?_
        obtain rfl := Option.some.inj h91
        exact QJ.cut_end ⟨rfl, rfl, rfl, rfl, rfl, rfl, rfl, rfl, rfl, rfl, rfl, rfl, rfl, rfl, rfl, rfl, rfl, rfl, rfl, rfl, rfl, trivial⟩
    refine QJ.step (YldS.yld (y_move rfl)) rfl ?_
    obtain ⟨t95, h96, hm⟩ := bindS hm
    refine QJ.cut 4 [(3, v9), (4, str r7.2), (5, str r10.1), (6, .int .i64 r10.2), (9, .int .i64 r14.1), (25, v36), (27, v40), (28, .int .i64 r38.2), (29, v43), (31, pt g46 0), (32, str r47), (33, pt g51 0), (34, .bool r49.2), (36, pt g56 0), (37, .bool r54.2), (38, pt g59 0), (39, .bool r57.2), (40, v62), (41, v63), (206, .bool t95)] ?_ ?_
    · rcases Bool.eq_false_or_eq_true t90 with hb97 | hb97
      · obtain rfl := orT h96 hb97
        refine QJ.off rfl rfl (cB hb97) rfl rfl ?_
        refine QJ.off rfl rfl (cB hb97) rfl rfl ?_
        refine QJ.off rfl rfl (cB hb97) rfl rfl ?_
        refine QJ.step (YldS.yld (y_pick_t (cB hb97) rfl)) rfl ?_
        exact QJ.cut_end ⟨rfl, rfl, rfl, rfl, rfl, rfl, rfl, rfl, rfl, rfl, rfl, rfl, rfl, rfl, rfl, rfl, rfl, rfl, rfl, rfl, trivial⟩
      · replace h96 := orF h96 hb97
        refine QJ.on rfl rfl (cB hb97) (YldS.yld (y_move rfl)) rfl ?_
        refine QJ.on rfl rfl (cB hb97) (YldS.yld (y_move rfl)) rfl ?_
        refine QJ.on rfl rfl (cB hb97) (YldS.yld (y_bin rfl rfl rfl)) rfl ?_
        refine QJ.step (YldS.yld (y_pick_f (cB hb97) rfl)) rfl ?_
        obtain rfl := Option.some.inj h96
        exact QJ.cut_end ⟨rfl, rfl, rfl, rfl, rfl, rfl, rfl, rfl, rfl, rfl, rfl, rfl, rfl, rfl, rfl, rfl, rfl, rfl, rfl, rfl, trivial⟩
    refine QJ.step (YldS.yld (y_move rfl)) rfl ?_
    obtain ⟨t98, h99, hm⟩ := bindS hm
    refine QJ.cut 5 [(3, v9), (4, str r7.2), (5, str r10.1), (6, .int .i64 r10.2), (9, .int .i64 r14.1), (25, v36), (27, v40), (28, .int .i64 r38.2), (29, v43), (31, pt g46 0), (32, str r47), (33, pt g51 0), (34, .bool r49.2), (36, pt g56 0), (37, .bool r54.2), (38, pt g59 0), (39, .bool r57.2), (40, v62), (41, v63), (212, .bool t98)] ?_ ?_
    · rcases Bool.eq_false_or_eq_true t95 with hb100 | hb100
      · obtain rfl := orT h99 hb100
        refine QJ.off rfl rfl (cB hb100) rfl rfl ?_
        refine QJ.off rfl rfl (cB hb100) rfl rfl ?_
        refine QJ.off rfl rfl (cB hb100) rfl rfl ?_
        refine QJ.off rfl rfl (cB hb100) rfl rfl ?_
        refine QJ.step (YldS.yld (y_pick_t (cB hb100) rfl)) rfl ?_
        exact QJ.cut_end ⟨rfl, rfl, rfl, rfl, rfl, rfl, rfl, rfl, rfl, rfl, rfl, rfl, rfl, rfl, rfl, rfl, rfl, rfl, rfl, rfl, trivial⟩
      · replace h99 := orF h99 hb100
        refine QJ.on rfl rfl (cB hb100) (YldS.yld (y_move rfl)) rfl ?_
        refine QJ.on rfl rfl (cB hb100) (YldS.yld (y_move rfl)) rfl ?_
        obtain ⟨r101, h102, h99⟩ := bindS h99
        refine QJ.on rfl rfl (cB hb100) (y_call Try.call54 rfl (RetG.quiet fun w hw => ok_s_SameAbbrs h102 w _ (hw.row_rd (k := 7) rfl) _ (hw.row_rd (k := 6) rfl))) rfl ?_
        refine QJ.on rfl rfl (cB hb100) (YldS.yld (y_not rfl)) rfl ?_
        refine QJ.step (YldS.yld (y_pick_f (cB hb100) rfl)) rfl ?_
        obtain rfl := Option.some.inj h99
        exact QJ.cut_end ⟨rfl, rfl, rfl, rfl, rfl, rfl, rfl, rfl, rfl, rfl, rfl, rfl, rfl, rfl, rfl, rfl, rfl, rfl, rfl, rfl, trivial⟩
    refine QJ.step (YldS.yld (y_move rfl)) rfl ?_
    obtain ⟨t103, h104, hm⟩ := bindS hm
    refine QJ.cut 5 [(3, v9), (4, str r7.2), (5, str r10.1), (6, .int .i64 r10.2), (9, .int .i64 r14.1), (25, v36), (27, v40), (28, .int .i64 r38.2), (29, v43), (31, pt g46 0), (32, str r47), (33, pt g51 0), (34, .bool r49.2), (36, pt g56 0), (37, .bool r54.2), (38, pt g59 0), (39, .bool r57.2), (40, v62), (41, v63), (218, .bool t103)] ?_ ?_
    · rcases Bool.eq_false_or_eq_true t98 with hb105 | hb105
      · obtain rfl := orT h104 hb105
        refine QJ.off rfl rfl (cB hb105) rfl rfl ?_
        refine QJ.off rfl rfl (cB hb105) rfl rfl ?_
        refine QJ.off rfl rfl (cB hb105) rfl rfl ?_
        refine QJ.off rfl rfl (cB hb105) rfl rfl ?_
        refine QJ.step (YldS.yld (y_pick_t (cB hb105) rfl)) rfl ?_
        exact QJ.cut_end ⟨rfl, rfl, rfl, rfl, rfl, rfl, rfl, rfl, rfl, rfl, rfl, rfl, rfl, rfl, rfl, rfl, rfl, rfl, rfl, rfl, trivial⟩
      · replace h104 := orF h104 hb105
        refine QJ.on rfl rfl (cB hb105) (YldS.yld (y_move rfl)) rfl ?_
        refine QJ.on rfl rfl (cB hb105) (YldS.yld (y_loadBN (k := 5) (off := 0) (us := [str r44.short, str r44.long]) rfl Try.isAgg64 Try.sizeOf64 rfl rfl)) rfl ?_
        obtain ⟨r106, h107, h104⟩ := bindS h104
        refine QJ.on rfl rfl (cB hb105) (y_call Try.call55 rfl (RetG.quiet fun w hw => ok_s_AbbrText h107 w )) rfl ?_
        refine QJ.on rfl rfl (cB hb105) (YldS.yld (y_binS rfl rfl rfl)) rfl ?_
        refine QJ.step (YldS.yld (y_pick_f (cB hb105) rfl)) rfl ?_
        obtain rfl := Option.some.inj h104
        exact QJ.cut_end ⟨rfl, rfl, rfl, rfl, rfl, rfl, rfl, rfl, rfl, rfl, rfl, rfl, rfl, rfl, rfl, rfl, rfl, rfl, rfl, rfl, trivial⟩
    refine QJ.step (YldS.yld (y_move rfl)) rfl ?_
    obtain ⟨t108, h109, hm⟩ := bindS hm
    refine QJ.cut 5 [(3, v9), (4, str r7.2), (5, str r10.1), (6, .int .i64 r10.2), (9, .int .i64 r14.1), (25, v36), (27, v40), (28, .int .i64 r38.2), (29, v43), (31, pt g46 0), (33, pt g51 0), (34, .bool r49.2), (36, pt g56 0), (37, .bool r54.2), (38, pt g59 0), (39, .bool r57.2), (40, v62), (41, v63), (224, .bool t108)] ?_ ?_
    · rcases Bool.eq_false_or_eq_true t103 with hb110 | hb110
      · obtain rfl := orT h109 hb110
        refine QJ.off rfl rfl (cB hb110) rfl rfl ?_
        refine QJ.off rfl rfl (cB hb110) rfl rfl ?_
        refine QJ.off rfl rfl (cB hb110) rfl rfl ?_
        refine QJ.off rfl rfl (cB hb110) rfl rfl ?_
        refine QJ.step (YldS.yld (y_pick_t (cB hb110) rfl)) rfl ?_
        exact QJ.cut_end ⟨rfl, rfl, rfl, rfl, rfl, rfl, rfl, rfl, rfl, rfl, rfl, rfl, rfl, rfl, rfl, rfl, rfl, rfl, rfl, trivial⟩
      · replace h109 := orF h109 hb110
        refine QJ.on rfl rfl (cB hb110) (YldS.yld (y_move rfl)) rfl ?_
        refine QJ.on rfl rfl (cB hb110) (YldS.yld (y_move rfl)) rfl ?_
        refine QJ.on rfl rfl (cB hb110) (YldS.yld (y_binS rfl rfl rfl)) rfl ?_
        refine QJ.on rfl rfl (cB hb110) (YldS.yld (y_neB Try.underlying4 rfl rfl rfl)) rfl ?_
        refine QJ.step (YldS.yld (y_pick_f (cB hb110) rfl)) rfl ?_
        obtain rfl := Option.some.inj h109
        exact QJ.cut_end ⟨rfl, rfl, rfl, rfl, rfl, rfl, rfl, rfl, rfl, rfl, rfl, rfl, rfl, rfl, rfl, rfl, rfl, rfl, rfl, trivial⟩
    refine QJ.step (YldS.yld (y_move rfl)) rfl ?_
    obtain ⟨t111, h112, hm⟩ := bindS hm
    refine QJ.cut 7 [(3, v9), (4, str r7.2), (5, str r10.1), (6, .int .i64 r10.2), (9, .int .i64 r14.1), (25, v36), (27, v40), (28, .int .i64 r38.2), (29, v43), (36, pt g56 0), (37, .bool r54.2), (38, pt g59 0), (39, .bool r57.2), (40, v62), (41, v63), (232, .bool t111)] ?_ ?_
    · rcases Bool.eq_false_or_eq_true t108 with hb113 | hb113
      · obtain rfl := orT h112 hb113
        refine QJ.off rfl rfl (cB hb113) rfl rfl ?_
        refine QJ.off rfl rfl (cB hb113) rfl rfl ?_
        refine QJ.off_undef rfl rfl rfl rfl ?_
        refine QJ.off_undef rfl rfl rfl rfl ?_
        refine QJ.off_undef rfl rfl rfl rfl ?_
        refine QJ.off rfl rfl (cB hb113) rfl rfl ?_
        refine QJ.step (YldS.yld (y_pick_t (cB hb113) rfl)) rfl ?_
        exact QJ.cut_end ⟨rfl, rfl, rfl, rfl, rfl, rfl, rfl, rfl, rfl, rfl, rfl, rfl, rfl, rfl, rfl, rfl, trivial⟩
      · replace h112 := orF h112 hb113
        refine QJ.on rfl rfl (cB hb113) (YldS.yld (y_move rfl)) rfl ?_
        refine QJ.on rfl rfl (cB hb113) (YldS.yld (y_move rfl)) rfl ?_
        obtain ⟨t114, h115, h112⟩ := bindS h112
        refine QJ.cut 4 [(3, v9), (4, str r7.2), (5, str r10.1), (6, .int .i64 r10.2), (9, .int .i64 r14.1), (25, v36), (27, v40), (28, .int .i64 r38.2), (29, v43), (36, pt g56 0), (37, .bool r54.2), (38, pt g59 0), (39, .bool r57.2), (40, v62), (41, v63), (225, .bool t108), (231, .bool t114)] ?_ ?_
        · rcases Bool.eq_false_or_eq_true r49.2 with hb116 | hb116
          · replace h115 := andT h115 hb116
            refine QJ.on rfl rfl (cB hb116) (YldS.yld (y_loadBN (k := 4) (off := 0) (us := [str r49.1.short, str r49.1.long]) rfl Try.isAgg64 Try.sizeOf64 rfl rfl)) rfl ?_
            refine QJ.on rfl rfl (cB hb116) (YldS.yld (y_loadBN (k := 5) (off := 0) (us := [str r44.short, str r44.long]) rfl Try.isAgg64 Try.sizeOf64 rfl rfl)) rfl ?_
            refine QJ.on rfl rfl (cB hb116) (YldS.yld (y_neT r49.1 r44 eq64 rfl rfl)) rfl ?_
            refine QJ.on rfl rfl (cB hb113) (YldS.yld (y_pick_t (cB hb116) rfl)) rfl ?_
            obtain rfl := Option.some.inj h115
            exact QJ.cut_end ⟨rfl, rfl, rfl, rfl, rfl, rfl, rfl, rfl, rfl, rfl, rfl, rfl, rfl, rfl, rfl, rfl, rfl, trivial⟩
          · obtain rfl := andF h115 hb116
            refine QJ.off rfl rfl (cB hb116) rfl rfl ?_
            refine QJ.off rfl rfl (cB hb116) rfl rfl ?_
            refine QJ.off rfl rfl (cB hb116) rfl rfl ?_
            refine QJ.on rfl rfl (cB hb113) (YldS.yld (y_pick_f (cB hb116) rfl)) rfl ?_
            exact QJ.cut_end ⟨rfl, rfl, rfl, rfl, rfl, rfl, rfl, rfl, rfl, rfl, rfl, rfl, rfl, rfl, rfl, rfl, rfl, trivial⟩
        refine QJ.step (YldS.yld (y_pick_f (cB hb113) rfl)) rfl ?_
        obtain rfl := Option.some.inj h112
        exact QJ.cut_end ⟨rfl, rfl, rfl, rfl, rfl, rfl, rfl, rfl, rfl, rfl, rfl, rfl, rfl, rfl, rfl, rfl, trivial⟩
    refine QJ.step (YldS.yld (y_move rfl)) rfl ?_
    obtain ⟨t117, h118, hm⟩ := bindS hm
    refine QJ.cut 4 [(3, v9), (4, str r7.2), (5, str r10.1), (6, .int .i64 r10.2), (9, .int .i64 r14.1), (25, v36), (27, v40), (28, .int .i64 r38.2), (29, v43), (36, pt g56 0), (38, pt g59 0), (40, v62), (41, v63), (237, .bool t117)] ?_ ?_
    · rcases Bool.eq_false_or_eq_true t111 with hb119 | hb119
      · obtain rfl := orT h118 hb119
        refine QJ.off rfl rfl (cB hb119) rfl rfl ?_
        refine QJ.off rfl rfl (cB hb119) rfl rfl ?_
        refine QJ.off rfl rfl (cB hb119) rfl rfl ?_
        refine QJ.step (YldS.yld (y_pick_t (cB hb119) rfl)) rfl ?_
        exact QJ.cut_end ⟨rfl, rfl, rfl, rfl, rfl, rfl, rfl, rfl, rfl, rfl, rfl, rfl, rfl, rfl, trivial⟩
      · replace h118 := orF h118 hb119
        refine QJ.on rfl rfl (cB hb119) (YldS.yld (y_move rfl)) rfl ?_
        refine QJ.on rfl rfl (cB hb119) (YldS.yld (y_move rfl)) rfl ?_
        refine QJ.on rfl rfl (cB hb119) (YldS.yld (y_neB Try.underlying4 rfl rfl rfl)) rfl ?_
        refine QJ.step (YldS.yld (y_pick_f (cB hb119) rfl)) rfl ?_
        obtain rfl := Option.some.inj h118
        exact QJ.cut_end ⟨rfl, rfl, rfl, rfl, rfl, rfl, rfl, rfl, rfl, rfl, rfl, rfl, rfl, rfl, trivial⟩
    refine QJ.step (YldS.yld (y_move rfl)) rfl ?_
    obtain ⟨t120, h121, hm⟩ := bindS hm
    refine QJ.cut 4 [(3, v9), (4, str r7.2), (5, str r10.1), (6, .int .i64 r10.2), (9, .int .i64 r14.1), (25, v36), (27, v40), (28, .int .i64 r38.2), (29, v43), (40, v62), (41, v63), (242, .bool t120)] ?_ ?_
    · rcases Bool.eq_false_or_eq_true t117 with hb122 | hb122
      · obtain rfl := orT h121 hb122
        refine QJ.off rfl rfl (cB hb122) rfl rfl ?_
        refine QJ.off rfl rfl (cB hb122) rfl rfl ?_
        refine QJ.off rfl rfl (cB hb122) rfl rfl ?_
        refine QJ.step (YldS.yld (y_pick_t (cB hb122) rfl)) rfl ?_
        exact QJ.cut_end ⟨rfl, rfl, rfl, rfl, rfl, rfl, rfl, rfl, rfl, rfl, rfl, rfl, trivial⟩
      · replace h121 := orF h121 hb122
        refine QJ.on rfl rfl (cB hb122) (YldS.yld (y_loadBN (k := 3) (off := 0) (us := [str r54.1.short, str r54.1.long]) rfl Try.isAgg64 Try.sizeOf64 rfl rfl)) rfl ?_
        refine QJ.on rfl rfl (cB hb122) (YldS.yld (y_loadBN (k := 2) (off := 0) (us := [str r57.1.short, str r57.1.long]) rfl Try.isAgg64 Try.sizeOf64 rfl rfl)) rfl ?_
        refine QJ.on rfl rfl (cB hb122) (YldS.yld (y_neT r54.1 r57.1 eq64 rfl rfl)) rfl ?_
        refine QJ.step (YldS.yld (y_pick_f (cB hb122) rfl)) rfl ?_
        obtain rfl := Option.some.inj h121
        exact QJ.cut_end ⟨rfl, rfl, rfl, rfl, rfl, rfl, rfl, rfl, rfl, rfl, rfl, rfl, trivial⟩
    refine QJ.step (YldS.yld (y_move rfl)) rfl ?_
    obtain ⟨t123, h124, hm⟩ := bindS hm
    refine QJ.cut 8 [(3, v9), (4, str r7.2), (5, str r10.1), (6, .int .i64 r10.2), (9, .int .i64 r14.1), (25, v36), (27, v40), (28, .int .i64 r38.2), (29, v43), (251, .bool t123)] ?_ ?_
    · rcases Bool.eq_false_or_eq_true t120 with hb125 | hb125
      · obtain rfl := orT h124 hb125
        refine QJ.off rfl rfl (cB hb125) rfl rfl ?_
        refine QJ.off rfl rfl (cB hb125) rfl rfl ?_
        refine QJ.off rfl rfl (cB hb125) rfl rfl ?_
        refine QJ.off rfl rfl (cB hb125) rfl rfl ?_
        refine QJ.off rfl rfl (cB hb125) rfl rfl ?_
        refine QJ.off rfl rfl (cB hb125) rfl rfl ?_
        refine QJ.off rfl rfl (cB hb125) rfl rfl ?_
        refine QJ.step (YldS.yld (y_pick_t (cB hb125) rfl)) rfl ?_
        exact QJ.cut_end ⟨rfl, rfl, rfl, rfl, rfl, rfl, rfl, rfl, rfl, rfl, trivial⟩
      · replace h124 := orF h124 hb125
        refine QJ.on rfl rfl (cB hb125) (YldS.yld (y_move rfl)) rfl ?_
        refine QJ.on rfl rfl (cB hb125) (YldS.yld (y_move rfl)) rfl ?_
        obtain ⟨r126, h127, h124⟩ := bindS h124
        refine QJ.on rfl rfl (cB hb125) (y_call Try.call56 rfl (RetG.quiet fun w hw => ok_i_SameAbbrs h127 w _ (hw.row_rd (k := 0) rfl) _ (hw.row_rd (k := 1) rfl))) rfl ?_
        refine QJ.on rfl rfl (cB hb125) (YldS.yld (y_move rfl)) rfl ?_
        refine QJ.on rfl rfl (cB hb125) (YldS.yld (y_move rfl)) rfl ?_
        obtain ⟨r128, h129, h124⟩ := bindS h124
        refine QJ.on rfl rfl (cB hb125) (y_call Try.call54 rfl (RetG.quiet fun w hw => ok_s_SameAbbrs h129 w _ (hw.row_rd (k := 0) rfl) _ (hw.row_rd (k := 1) rfl))) rfl ?_
        refine QJ.on rfl rfl (cB hb125) (YldS.yld (y_neB Try.underlying4 rfl rfl rfl)) rfl ?_
        refine QJ.step (YldS.yld (y_pick_f (cB hb125) rfl)) rfl ?_
        obtain rfl := Option.some.inj h124
        exact QJ.cut_end ⟨rfl, rfl, rfl, rfl, rfl, rfl, rfl, rfl, rfl, rfl, trivial⟩
    refine QJ.step (YldS.yld (y_move rfl)) rfl ?_
    obtain ⟨t130, h131, hm⟩ := bindS hm
    refine QJ.cut 6 [(3, v9), (4, str r7.2), (5, str r10.1), (6, .int .i64 r10.2), (9, .int .i64 r14.1), (25, v36), (27, v40), (28, .int .i64 r38.2), (29, v43), (258, .bool t130)] ?_ ?_
    · rcases Bool.eq_false_or_eq_true t123 with hb132 | hb132
      · obtain rfl := orT h131 hb132
        refine QJ.off rfl rfl (cB hb132) rfl rfl ?_
        refine QJ.off rfl rfl (cB hb132) rfl rfl ?_
        refine QJ.off rfl rfl (cB hb132) rfl rfl ?_
        refine QJ.off rfl rfl (cB hb132) rfl rfl ?_
        refine QJ.off rfl rfl (cB hb132) rfl rfl ?_
        refine QJ.step (YldS.yld (y_pick_t (cB hb132) rfl)) rfl ?_
        exact QJ.cut_end ⟨rfl, rfl, rfl, rfl, rfl, rfl, rfl, rfl, rfl, rfl, trivial⟩
      · replace h131 := orF h131 hb132
        refine QJ.on rfl rfl (cB hb132) (YldS.yld (y_move rfl)) rfl ?_
        obtain ⟨r133, h134, h131⟩ := bindS h131
        refine QJ.on rfl rfl (cB hb132) (y_call Try.call57 rfl (RetG.quiet fun w hw => ok_i_ValidAbbrs h134 w _ (hw.row_rd (k := 14) rfl))) rfl ?_
        refine QJ.on rfl rfl (cB hb132) (YldS.yld (y_move rfl)) rfl ?_
        obtain ⟨r135, h136, h131⟩ := bindS h131
        refine QJ.on rfl rfl (cB hb132) (y_call Try.call58 rfl (RetG.quiet fun w hw => ok_s_ValidAbbrs h136 w _ (hw.row_rd (k := 14) rfl))) rfl ?_
        refine QJ.on rfl rfl (cB hb132) (YldS.yld (y_neB Try.underlying4 rfl rfl rfl)) rfl ?_
        refine QJ.step (YldS.yld (y_pick_f (cB hb132) rfl)) rfl ?_
        obtain rfl := Option.some.inj h131
        exact QJ.cut_end ⟨rfl, rfl, rfl, rfl, rfl, rfl, rfl, rfl, rfl, rfl, trivial⟩
    refine QJ.done ?_
    refine PJ.next ?_
    refine WJ.cond (t := t130) rfl (fun hb137 => ?_) (fun hb137 => ?_)
    · replace hm := ifT hm hb137
      refine WJ.seq ?_
      refine WJ.quiet ?_
      refine QJ.step (YldS.yld (y_assign rfl)) rfl ?_
      refine QJ.done ?_
      refine PJ.next ?_
      refine WJ.ret ?_
      refine PJ.then_ret ?_
      obtain rfl := Option.some.inj hm
      refine PJ.sel (L' := []) [] ⟨List.nodup_nil, rfl⟩ ?_
      exact PJ.retn (vs := [.bool false]) Try.results5 ⟨rfl, trivial⟩ ⟨rfl, rfl⟩
    · replace hm := ifF hm hb137
      refine WJ.skip ?_
      refine PJ.next ?_
      refine WJ.seq ?_
      refine WJ.seq ?_
      refine WJ.quiet ?_
      refine QJ.step (YldS.yld (y_move rfl)) rfl ?_
      refine QJ.step (YldS.yld (y_bin rfl rfl rfl)) rfl ?_
      refine QJ.step (YldS.yld (y_move rfl)) rfl ?_
      obtain ⟨t138, h139, hm⟩ := bindS hm
      refine QJ.cut 12 [(3, v9), (4, str r7.2), (5, str r10.1), (6, .int .i64 r10.2), (9, .int .i64 r14.1), (273, .bool t138)] ?_ ?_
      · rcases Bool.eq_false_or_eq_true (r38.2 == 0) with hb140 | hb140
        · replace h139 := andT h139 hb140
          refine QJ.on rfl rfl (cB hb140) (YldS.yld (y_move rfl)) rfl ?_
          refine QJ.on rfl rfl (cB hb140) (YldS.yld (y_lenRow (k := 6) rfl Try.runUnderlying56 rfl)) rfl ?_
          refine QJ.on rfl rfl (cB hb140) (YldS.yld (y_move rfl)) rfl ?_
          refine QJ.on rfl rfl (cB hb140) (YldS.yld (y_lenRow (k := 9) rfl Try.runUnderlying56 rfl)) rfl ?_
          refine QJ.on rfl rfl (cB hb140) (YldS.yld (y_bin rfl rfl rfl)) rfl ?_
          refine QJ.on rfl rfl (cB hb140) (YldS.yld (y_bin rfl rfl rfl)) rfl ?_
          refine QJ.on rfl rfl (cB hb140) (YldS.yld (y_move rfl)) rfl ?_
          obtain ⟨t141, h142, h139⟩ := bindS h139
          refine QJ.cut 4 [(3, v9), (4, str r7.2), (5, str r10.1), (6, .int .i64 r10.2), (9, .int .i64 r14.1), (261, .bool (r38.2 == 0)), (272, .bool t141)] ?_ ?_
          · rcases Bool.eq_false_or_eq_true ((List.length r41.1 : Int) != (w64 ((List.length r34.1 : Int) + 1))) with hb143 | hb143
            · obtain rfl := orT h142 hb143
              refine QJ.off rfl rfl (cB hb143) rfl rfl ?_
              refine QJ.off rfl rfl (cB hb143) rfl rfl ?_
              refine QJ.off rfl rfl (cB hb143) rfl rfl ?_
              refine QJ.on rfl rfl (cB hb140) (YldS.yld (y_pick_t (cB hb143) rfl)) rfl ?_
              exact QJ.cut_end ⟨rfl, rfl, rfl, rfl, rfl, rfl, rfl, trivial⟩
            · replace h142 := orF h142 hb143
              refine QJ.on rfl rfl (cB hb143) (YldS.yld (y_move rfl)) rfl ?_
              obtain ⟨r144, h145, h142⟩ := bindS h142
              refine QJ.on rfl rfl (cB hb143) (y_call Try.call57 rfl (RetG.quiet fun w hw => ok_i_ValidAbbrs h145 w _ (hw.row_rd (k := 7) rfl))) rfl ?_
              refine QJ.on rfl rfl (cB hb143) (YldS.yld (y_not rfl)) rfl ?_
              refine QJ.on rfl rfl (cB hb140) (YldS.yld (y_pick_f (cB hb143) rfl)) rfl ?_
              obtain rfl := Option.some.inj h142
              exact QJ.cut_end ⟨rfl, rfl, rfl, rfl, rfl, rfl, rfl, trivial⟩
          refine QJ.step (YldS.yld (y_pick_t (cB hb140) rfl)) rfl ?_
          obtain rfl := Option.some.inj h139
          exact QJ.cut_end ⟨rfl, rfl, rfl, rfl, rfl, rfl, trivial⟩
        · obtain rfl := andF h139 hb140
          refine QJ.off rfl rfl (cB hb140) rfl rfl ?_
          refine QJ.off rfl rfl (cB hb140) rfl rfl ?_
          refine QJ.off rfl rfl (cB hb140) rfl rfl ?_
          refine QJ.off rfl rfl (cB hb140) rfl rfl ?_
          refine QJ.off rfl rfl (cB hb140) rfl rfl ?_
          refine QJ.off rfl rfl (cB hb140) rfl rfl ?_
          refine QJ.off rfl rfl (cB hb140) rfl rfl ?_
          refine QJ.off_undef rfl rfl rfl rfl ?_
          refine QJ.off_undef rfl rfl rfl rfl ?_
          refine QJ.off_undef rfl rfl rfl rfl ?_
          refine QJ.off rfl rfl (cB hb140) rfl rfl ?_
          refine QJ.step (YldS.yld (y_pick_f (cB hb140) rfl)) rfl ?_
          exact QJ.cut_end ⟨rfl, rfl, rfl, rfl, rfl, rfl, trivial⟩
      refine QJ.done ?_
      refine PJ.next ?_
      refine WJ.cond (t := t138) rfl (fun hb146 => ?_) (fun hb146 => ?_)
      · replace hm := ifT hm hb146
        refine WJ.seq ?_
        refine WJ.quiet ?_
        refine QJ.step (YldS.yld (y_assign rfl)) rfl ?_
        refine QJ.done ?_
        refine PJ.next ?_
        refine WJ.ret ?_
        refine PJ.then_ret ?_
        obtain rfl := Option.some.inj hm
        refine PJ.sel (L' := []) [] ⟨List.nodup_nil, rfl⟩ ?_
        exact PJ.retn (vs := [.bool false]) Try.results5 ⟨rfl, trivial⟩ ⟨rfl, rfl⟩
      · replace hm := ifF hm hb146
        refine WJ.skip ?_
        refine PJ.next ?_
        refine WJ.seq ?_
        refine WJ.seq ?_
        refine WJ.quiet ?_
        refine QJ.step (YldS.yld (y_move rfl)) rfl ?_
        refine QJ.step (YldS.yld (y_bin rfl rfl rfl)) rfl ?_
        refine QJ.done ?_
        refine PJ.next ?_
        refine WJ.cond (t := (r10.2 != 0)) rfl (fun hb147 => ?_) (fun hb147 => ?_)
        · replace hm := ifT hm hb147
          refine WJ.seq ?_
          refine WJ.quiet ?_
          refine QJ.step (YldS.yld (y_assign rfl)) rfl ?_
          refine QJ.done ?_
          refine PJ.next ?_
          refine WJ.ret ?_
          refine PJ.then_ret ?_
          obtain rfl := Option.some.inj hm
          refine PJ.sel (L' := []) [] ⟨List.nodup_nil, rfl⟩ ?_
          exact PJ.retn (vs := [.bool true]) Try.results5 ⟨rfl, trivial⟩ ⟨rfl, rfl⟩
        · replace hm := ifF hm hb147
          refine WJ.skip ?_
          refine PJ.next ?_
          refine WJ.seq ?_
          refine WJ.quiet ?_
          refine QJ.step (YldS.yld (y_move rfl)) rfl ?_
          refine QJ.step (YldS.yld (y_move rfl)) rfl ?_
          obtain ⟨r148, h149, hm⟩ := bindS hm
          refine QJ.step (y_call Try.call39 rfl (RetG.quiet fun w hw => ok_i_ExpandText h149 w _ (hw.row_rd (k := 14) rfl))) rfl ?_
          refine QJ.step (YldS.yld (y_move rfl)) rfl ?_
          refine QJ.step (YldS.yld (y_extract rfl rfl)) rfl ?_
          refine QJ.step (YldS.yld (y_extract rfl rfl)) rfl ?_
          refine QJ.step (YldS.yld (y_assign rfl)) rfl ?_
          refine QJ.step (YldS.yld (y_assign rfl)) rfl ?_
          refine QJ.done ?_
          refine PJ.next ?_
          refine WJ.seq ?_
          refine WJ.quiet ?_
          refine QJ.step (YldS.yld (y_move rfl)) rfl ?_
          refine QJ.step (YldS.yld (y_bin rfl rfl rfl)) rfl ?_
          refine QJ.step (YldS.yld (y_move rfl)) rfl ?_
          obtain ⟨t150, h151, hm⟩ := bindS hm
          refine QJ.cut 4 [(4, str r7.2), (5, str r10.1), (9, .int .i64 r14.1), (288, .bool t150)] ?_ ?_
          · rcases Bool.eq_false_or_eq_true (r148.2 == 0) with hb152 | hb152
            · replace h151 := andT h151 hb152
              refine QJ.on rfl rfl (cB hb152) (YldS.yld (y_move rfl)) rfl ?_
              refine QJ.on rfl rfl (cB hb152) (YldS.yld (y_move rfl)) rfl ?_
              refine QJ.on rfl rfl (cB hb152) (YldS.yld (y_binS rfl rfl rfl)) rfl ?_
              refine QJ.step (YldS.yld (y_pick_t (cB hb152) rfl)) rfl ?_
              obtain rfl := Option.some.inj h151
              exact QJ.cut_end ⟨rfl, rfl, rfl, rfl, trivial⟩
            · obtain rfl := andF h151 hb152
              refine QJ.off rfl rfl (cB hb152) rfl rfl ?_
              refine QJ.off rfl rfl (cB hb152) rfl rfl ?_
              refine QJ.off rfl rfl (cB hb152) rfl rfl ?_
              refine QJ.step (YldS.yld (y_pick_f (cB hb152) rfl)) rfl ?_
              exact QJ.cut_end ⟨rfl, rfl, rfl, rfl, trivial⟩
          refine QJ.step (YldS.yld (y_move rfl)) rfl ?_
          obtain ⟨t153, h154, hm⟩ := bindS hm
          refine QJ.cut 6 [(4, str r7.2), (5, str r10.1), (9, .int .i64 r14.1), (295, .bool t153)] ?_ ?_
          · rcases Bool.eq_false_or_eq_true t150 with hb155 | hb155
            · replace h154 := andT h154 hb155
              refine QJ.on rfl rfl (cB hb155) (YldS.yld (y_move rfl)) rfl ?_
              refine QJ.on rfl rfl (cB hb155) (YldS.yld (y_lenStr Try.runUnderlying9 rfl)) rfl ?_
              refine QJ.on rfl rfl (cB hb155) (YldS.yld (y_move rfl)) rfl ?_
              refine QJ.on rfl rfl (cB hb155) (YldS.yld (y_lenStr Try.runUnderlying9 rfl)) rfl ?_
              refine QJ.on rfl rfl (cB hb155) (YldS.yld (y_bin rfl rfl rfl)) rfl ?_
              refine QJ.step (YldS.yld (y_pick_t (cB hb155) rfl)) rfl ?_
              obtain rfl := Option.some.inj h154
              exact QJ.cut_end ⟨rfl, rfl, rfl, rfl, trivial⟩
            · obtain rfl := andF h154 hb155
              refine QJ.off rfl rfl (cB hb155) rfl rfl ?_
              refine QJ.off rfl rfl (cB hb155) rfl rfl ?_
              refine QJ.off rfl rfl (cB hb155) rfl rfl ?_
              refine QJ.off rfl rfl (cB hb155) rfl rfl ?_
              refine QJ.off rfl rfl (cB hb155) rfl rfl ?_
              refine QJ.step (YldS.yld (y_pick_f (cB hb155) rfl)) rfl ?_
              exact QJ.cut_end ⟨rfl, rfl, rfl, rfl, trivial⟩
          refine QJ.step (YldS.yld (y_move rfl)) rfl ?_
          obtain ⟨t156, h157, hm⟩ := bindS hm
          refine QJ.cut 8 [(304, .bool t156)] ?_ ?_
          · rcases Bool.eq_false_or_eq_true t153 with hb158 | hb158
            · replace h157 := andT h157 hb158
              refine QJ.on rfl rfl (cB hb158) (YldS.yld (y_move rfl)) rfl ?_
              refine QJ.on rfl rfl (cB hb158) (YldS.yld (y_move rfl)) rfl ?_
              refine QJ.on rfl rfl (cB hb158) (YldS.yld (y_lenStr Try.runUnderlying9 rfl)) rfl ?_
              refine QJ.on rfl rfl (cB hb158) (YldS.yld (y_move rfl)) rfl ?_
              refine QJ.on rfl rfl (cB hb158) (YldS.yld (y_lenStr Try.runUnderlying9 rfl)) rfl ?_
              refine QJ.on rfl rfl (cB hb158) (YldS.yld (y_bin rfl rfl rfl)) rfl ?_
              refine QJ.on rfl rfl (cB hb158) (YldS.yld (y_bin rfl rfl rfl)) rfl ?_
              refine QJ.step (YldS.yld (y_pick_t (cB hb158) rfl)) rfl ?_
              obtain rfl := Option.some.inj h157
              exact QJ.cut_end ⟨rfl, trivial⟩
            · obtain rfl := andF h157 hb158
              refine QJ.off rfl rfl (cB hb158) rfl rfl ?_
              refine QJ.off rfl rfl (cB hb158) rfl rfl ?_
              refine QJ.off rfl rfl (cB hb158) rfl rfl ?_
              refine QJ.off rfl rfl (cB hb158) rfl rfl ?_
              refine QJ.off rfl rfl (cB hb158) rfl rfl ?_
              refine QJ.off rfl rfl (cB hb158) rfl rfl ?_
              refine QJ.off rfl rfl (cB hb158) rfl rfl ?_
              refine QJ.step (YldS.yld (y_pick_f (cB hb158) rfl)) rfl ?_
              exact QJ.cut_end ⟨rfl, trivial⟩
          refine QJ.step (YldS.yld (y_assign rfl)) rfl ?_
          refine QJ.done ?_
          refine PJ.next ?_
          refine WJ.ret ?_
          obtain rfl := Option.some.inj hm
          refine PJ.sel (L' := []) [] ⟨List.nodup_nil, rfl⟩ ?_
          exact PJ.retn (vs := [.bool t156]) Try.results5 ⟨rfl, trivial⟩ ⟨rfl, rfl⟩

end Go.Proofs.Ytpdcifgphocllaa
