/-
  The walks: a call hands back what its plain function computes, where that has a value. No other conditions.
-/
import Derived.Test.YtikkolkickclhaaFnPrizesW
import Derived.Test.YtikkolkickclhaaChecked
namespace Go.Proofs.Ytikkolkickclhaa
open Go.RowKit Go.Proofs
set_option linter.unusedVariables false
set_option linter.unusedSimpArgs false

set_option maxRecDepth 100000 in
set_option maxHeartbeats 1000000 in
theorem ok_i_lowest {N : Nat} {num1 : Int} {den2 : Int} {r : Fraction} (hm : i_lowest N num1 den2 = some r) (w : World)  :
    Calls Try.prog 51 #[.int .i64 num1, .int .i64 den2] w (Ret (cx w) (.agg (Fraction.enc r).toArray)) := by
  unfold i_lowest at hm
  refine Calls.enter [.int .i64 num1, .int .i64 den2] Try.func51 rfl Try.ntmps51 rfl ?_
  refine WJ.seq ?_
  refine WJ.reg ?_
  refine SJ.alloc (cs := [.int .i64 0, .int .i64 0]) Try.zeroValue55 rfl rfl fun g3 => ?_
  refine SJ.nil ?_
  refine PJ.next ?_
  refine WJ.seq ?_
  refine WJ.quiet ?_
  refine QJ.step (YldS.yld (y_move rfl)) rfl ?_
  obtain ⟨r4, h5, hm⟩ := bindS hm
  refine QJ.step (y_call Try.call76 rfl (RetG.quiet fun w hw => ok_i_absolute h5 w )) rfl ?_
  refine QJ.step (YldS.yld (y_move rfl)) rfl ?_
  obtain ⟨r6, h7, hm⟩ := bindS hm
  refine QJ.step (y_call Try.call75 rfl (RetG.quiet fun w hw => ok_i_divisor h7 w )) rfl ?_
  refine QJ.step (YldS.yld (y_assign rfl)) rfl ?_
  refine QJ.done ?_
  refine PJ.next ?_
  refine WJ.seq ?_
  obtain ⟨q8, h9, hm⟩ := bindS hm
  obtain ⟨q10, h11, hm⟩ := bindS hm
  refine WJ.draws (N := 8) (listed0 := #[false, false, false, false, false, false, false, false]) [] follows rfl rfl ?_
  refine RJ.first 0 (listed' := #[true, false, false, false, false, false, false, false]) [] rfl (by kernel_rfl) rfl ⟨List.nodup_nil, rfl⟩ (y_move rfl) rfl ?_
  refine RJ.first 1 (listed' := #[true, true, false, false, false, false, false, false]) [] rfl (by kernel_rfl) rfl ⟨List.nodup_nil, rfl⟩ (y_move rfl) rfl ?_
  refine RJ.first 2 (listed' := #[true, true, true, false, false, false, false, false]) [] rfl (by kernel_rfl) rfl ⟨List.nodup_nil, rfl⟩ (y_quo' h9 rfl rfl) rfl ?_
  refine RJ.first 3 (listed' := #[true, true, true, true, false, false, false, false]) [] rfl (by kernel_rfl) rfl ⟨List.nodup_nil, rfl⟩ (y_move rfl) rfl ?_
  refine RJ.first 4 (listed' := #[true, true, true, true, true, false, false, false]) [] rfl (by kernel_rfl) rfl ⟨List.nodup_nil, rfl⟩ (y_move rfl) rfl ?_
  refine RJ.first 5 (listed' := #[true, true, true, true, true, true, false, false]) [] rfl (by kernel_rfl) rfl ⟨List.nodup_nil, rfl⟩ (y_quo' h11 rfl rfl) rfl ?_
  refine RJ.first 6 (listed' := #[true, true, true, true, true, true, true, false]) [] rfl (by kernel_rfl) rfl ⟨List.nodup_nil, rfl⟩ (y_build (parts := [(0, .tmp 12), (1, .tmp 15)]) (places := [(0, 1), (1, 1)]) (r := [.int .i64 ((Fraction.mk q8 q10).num), .int .i64 ((Fraction.mk q8 q10).den)]) pl55 Try.zeroValue55 rfl rfl rfl rfl) rfl ?_
  refine RJ.step1 7 [] (by kernel_rfl) ⟨List.nodup_nil, rfl⟩ ?_
  refine RO.of (listed' := #[true, true, true, true, true, true, true, true]) rfl rfl ?_
  refine SJ.storeL (k := 0) (off := 0) (us := [.int .i64 ((Fraction.mk q8 q10).num), .int .i64 ((Fraction.mk q8 q10).den)]) rfl rfl rfl rfl Try.sizeOf55 rfl rfl ?_
  refine SJ.nil ?_
  refine PJ.draw ?_
  refine RJ.fin [] (by kernel_rfl) ⟨List.nodup_nil, rfl⟩ ?_
  refine PJ.next ?_
  refine WJ.ret ?_
  obtain rfl := Option.some.inj hm
  exact PJ.retn_sel (vs := [.agg (Fraction.enc (Fraction.mk q8 q10)).toArray]) Try.results51 ⟨⟨0, g3, 55, [.int .i64 ((Fraction.mk q8 q10).num), .int .i64 ((Fraction.mk q8 q10).den)], rfl, rfl, .inl ⟨Try.isAgg55, Try.sizeOf55, rfl⟩⟩, trivial⟩ [] ⟨List.nodup_nil, rfl⟩ ⟨rfl, rfl⟩

set_option maxRecDepth 100000 in
set_option maxHeartbeats 1000000 in
theorem ok_i_pointsOf {N : Nat} {list1 : List Result} {table4 : List Int} {r : (List Fraction)} (hm : i_pointsOf N list1 table4 = some r) (w : World) (v2 : Value) (hr3 : RdS w (cx w).Fz v2 fResult.rp list1) (v5 : Value) (hr6 : RdS w (cx w).Fz v5 fI64.rp table4) :
    Calls Try.prog 45 #[v2, v5] w (RetG (cx w) fun u L => ∃ (u1 : Value), (u = u1 ∧ L = [row u1 55 fFraction r])) := by
  unfold i_pointsOf at hm
  refine Calls.enter [v2, v5] Try.func45 rfl Try.ntmps45 rfl ?_
  refine WJ.seq ?_
  refine WJ.quiet ?_
  refine QJ.step (YldS.yld (y_assign rfl)) rfl ?_
  refine QJ.done ?_
  refine PJ.next ?_
  refine WJ.seq ?_
  refine WJ.reg ?_
  refine SJ.q (YldS.yld (y_move rfl)) rfl ?_
  refine SJ.q (YldS.yld (y_lenS Try.runUnderlying41 hr3 rfl)) rfl ?_
  obtain ⟨l7, h8, hm⟩ := bindS hm
  refine SJ.makeSlice (R := fFraction) (z := (Fraction.mk 0 0)) h8 Try.underlying47 el55 rfl rfl rfl fun v9 => ?_
  refine SJ.q (YldS.yld (y_assign rfl)) rfl ?_
  refine SJ.nil ?_
  refine PJ.next ?_
  obtain ⟨kj11, hk12, hm⟩ := withK_open hm
  refine WJ.join (X := (List Fraction)) (fun (x : (List Fraction)) => kj11 x = some r) (fun (x : (List Fraction)) => [(5, v9)]) (fun (x : (List Fraction)) => [row v9 55 fFraction x]) ?_ ?_
  · clear hk12
    refine WJ.seq ?_
    refine WJ.reg ?_
    refine SJ.q (YldS.yld (y_move rfl)) rfl ?_
    obtain ⟨r13, h14, hm⟩ := bindS hm
    refine SJ.call Try.call39 rfl (fun w hw => ok_i_ties h14 w _ (hr3.st hw)) rfl ?_
    rintro v15 _ ⟨_, vs16, rfl, rfl⟩
    refine SJ.q (YldS.yld (y_lenSh (k := 0) (j := 1) rfl rfl Try.runUnderlying78 rfl)) rfl ?_
    refine SJ.q (YldS.yld (y_move rfl)) rfl ?_
    refine SJ.nil ?_
    refine PJ.next ?_
    refine WJ.block ?_
    refine WJ.sel (L' := (fun (x : (List Fraction) × Int) => [row v15 81 fRaw2 vs16, ins shTied 2 fI64 vs16 r13, row v9 55 fFraction x.1]) (l7, 0)) [0, 1, 2] ⟨by decide, rfl⟩ ?_
    refine WJ.sub (m' := (fun (x : (List Fraction) × Int) => [(1, v5), (5, v9), (14, v15), (15, .int .i64 (List.length r13 : Int)), (16, .int .i64 x.2)]) (l7, 0)) ⟨rfl, rfl, rfl, rfl, rfl, trivial⟩ ?_
    refine WJ.loop (X := (List Fraction) × Int) (fun N (x : (List Fraction) × Int) => i_pointsOf_l1 kj11 table4 r13 N x.1 x.2 = some r) (fun (x : (List Fraction) × Int) => [(1, v5), (5, v9), (14, v15), (15, .int .i64 (List.length r13 : Int)), (16, .int .i64 x.2)]) (fun (x : (List Fraction) × Int) => [row v15 81 fRaw2 vs16, ins shTied 2 fI64 vs16 r13, row v9 55 fFraction x.1]) ?_ N (l7, 0) hm
    · rintro N ⟨l17, x18⟩ hI
      have hm := hI; clear hI
      cases N with
      | zero => cases hm
      | succ N =>
      unfold i_pointsOf_l1 at hm
      refine WJ.seq ?_
      refine WJ.quiet ?_
      refine QJ.step (YldS.yld (y_bin rfl rfl rfl)) rfl ?_
      refine QJ.done ?_
      refine PJ.next ?_
      refine WJ.seq ?_
      refine WJ.cond (t := decide (x18 < (List.length r13 : Int))) rfl (fun hb19 => ?_) (fun hb19 => ?_)
      · replace hm := ifT hm hb19
        refine WJ.skip ?_
        refine PJ.next ?_
        obtain ⟨kj21, hk22, hm⟩ := withK_open hm
        refine WJ.join (X := (List Fraction)) (fun (x : (List Fraction)) => kj21 x = some r) (fun (x : (List Fraction)) => [(1, v5), (5, v9), (14, v15), (15, .int .i64 (List.length r13 : Int)), (16, .int .i64 x18)]) (fun (x : (List Fraction)) => [row v15 81 fRaw2 vs16, ins shTied 2 fI64 vs16 r13, row v9 55 fFraction x]) ?_ ?_
        · clear hk22
          refine WJ.block ?_
          refine WJ.seq ?_
          refine WJ.ins_len 1 rfl fun hl23 => ?_
          refine WJ.reg ?_
          obtain ⟨e24, h25, hm⟩ := bindS hm
          obtain ⟨y26, hy27⟩ := inn_idx hl23.1 h25
          obtain hs28 := hl23.2 _ _ _ hy27 h25
          refine SJ.q (YldS.yld (y_ixRow (k := 0) (R := fRaw2) rfl Try.runUnderlying78 Try.sizeOf81 rfl rfl hy27)) rfl ?_
          refine SJ.q (YldS.yld (y_loadRN (k := 0) (i := (Int.toNat x18)) (off := 0) (us := [.int .i64 e24.place, (shTied.sl y26)]) rfl Try.isAgg81 Try.sizeOf81 rfl (idx_get hy27) (sh_cells hs28 rfl))) rfl ?_
          refine SJ.alloc (cs := [.int .i64 0, .slice none 0 0]) Try.zeroValue81 rfl rfl fun g29 => ?_
          refine SJ.nil_row 2 fI64 ?_
          have hc30 := And.intro True.intro (sh_one hs28)
          refine SJ.storeL (k := 1) (off := 0) (us := [.int .i64 e24.place, (shTied.sl y26)]) rfl rfl rfl rfl Try.sizeOf81 rfl (by simp only [List.all_cons, hc30.2]; rfl) ?_
          refine SJ.nil ?_
          refine PJ.next ?_
          refine WJ.seq ?_
          refine WJ.quiet ?_
          refine QJ.step (YldS.yld (y_fldB (o := 0) fld81_1 rfl)) rfl ?_
          refine QJ.step (YldS.yld (y_loadB (k := 1) (off := 1) (v := (shTied.sl y26)) rfl Try.isAgg42 rfl rfl)) rfl ?_
          refine QJ.step (YldS.yld (y_lenG (fun w hw => (hw.ins_rd (k := 3) rfl rfl hy27 h25)) Try.runUnderlying42 rfl)) rfl ?_
          refine QJ.step (YldS.yld (y_move rfl)) rfl ?_
          refine QJ.done ?_
          refine PJ.next ?_
          refine WJ.block ?_
          refine WJ.sel (L' := (fun (x : (List Fraction) × Int) => [box g29 81 [.int .i64 e24.place, (shTied.sl y26)], row v15 81 fRaw2 vs16, ins shTied 2 fI64 vs16 r13, row v9 55 fFraction x.1]) (l17, 0)) [1, 2, 3, 4] ⟨by decide, rfl⟩ ?_
          refine WJ.sub (m' := (fun (x : (List Fraction) × Int) => [(1, v5), (5, v9), (7, pt g29 0), (14, v15), (15, .int .i64 (List.length r13 : Int)), (16, .int .i64 x18), (21, (shTied.sl y26)), (22, .int .i64 (List.length e24.list : Int)), (23, .int .i64 x.2)]) (l17, 0)) ⟨rfl, rfl, rfl, rfl, rfl, rfl, rfl, rfl, rfl, trivial⟩ ?_
          refine WJ.loop (X := (List Fraction) × Int) (fun N (x : (List Fraction) × Int) => i_pointsOf_l2 kj21 table4 e24 N x.1 x.2 = some r) (fun (x : (List Fraction) × Int) => [(1, v5), (5, v9), (7, pt g29 0), (14, v15), (15, .int .i64 (List.length r13 : Int)), (16, .int .i64 x18), (21, (shTied.sl y26)), (22, .int .i64 (List.length e24.list : Int)), (23, .int .i64 x.2)]) (fun (x : (List Fraction) × Int) => [box g29 81 [.int .i64 e24.place, (shTied.sl y26)], row v15 81 fRaw2 vs16, ins shTied 2 fI64 vs16 r13, row v9 55 fFraction x.1]) ?_ N (l17, 0) hm
          · rintro N ⟨l31, x32⟩ hI
            have hm := hI; clear hI
            cases N with
            | zero => cases hm
            | succ N =>
            unfold i_pointsOf_l2 at hm
            refine WJ.seq ?_
            refine WJ.quiet ?_
            refine QJ.step (YldS.yld (y_bin rfl rfl rfl)) rfl ?_
            refine QJ.done ?_
            refine PJ.next ?_
            refine WJ.seq ?_
            refine WJ.cond (t := decide (x32 < (List.length e24.list : Int))) rfl (fun hb33 => ?_) (fun hb33 => ?_)
            · replace hm := ifT hm hb33
              refine WJ.skip ?_
              refine PJ.next ?_
              refine WJ.seq ?_
              refine WJ.block ?_
              refine WJ.seq ?_
              refine WJ.quiet ?_
              obtain ⟨e34, h35, hm⟩ := bindS hm
              refine QJ.step (YldS.yld (y_ixG (R := fI64) (fun w hw => (hw.ins_rd (k := 2) rfl rfl hy27 h25)) Try.runUnderlying42 Try.sizeOf2 rfl rfl h35)) rfl ?_
              refine QJ.step (YldS.yld (y_loadG (R := fI64) (i := (Int.toNat x32)) (off := 0) (fun w hw => (hw.ins_rd (k := 2) rfl rfl hy27 h25)) Try.isAgg2 rfl (idx_get h35) rfl)) rfl ?_
              refine QJ.step (YldS.yld (y_assign rfl)) rfl ?_
              refine QJ.done ?_
              refine PJ.next ?_
              obtain ⟨r36, h37, hm⟩ := bindS hm
              obtain ⟨r38, h39, hm⟩ := bindS hm
              obtain ⟨e40, h41, hm⟩ := bindS hm
              refine WJ.draws (N := 11) (listed0 := #[false, false, false, false, false, false, false, false, false, false, false]) [box g29 81 [.int .i64 e24.place, (shTied.sl y26)], row v15 81 fRaw2 vs16, ins shTied 2 fI64 vs16 r13] follows rfl rfl ?_
              refine RJ.first 0 (listed' := #[true, false, false, false, false, false, false, false, false, false, false]) [0, 1, 2] rfl (by kernel_rfl) rfl ⟨by decide, rfl⟩ (y_move rfl) rfl ?_
              refine RJ.first 1 (listed' := #[true, true, false, false, false, false, false, false, false, false, false]) [0, 1, 2] rfl (by kernel_rfl) rfl ⟨by decide, rfl⟩ (y_move rfl) rfl ?_
              refine RJ.first 2 (listed' := #[true, true, true, false, false, false, false, false, false, false, false]) [0, 1, 2] rfl (by kernel_rfl) rfl ⟨by decide, rfl⟩ (y_loadBN (k := 0) (off := 0) (us := [.int .i64 e24.place, (shTied.sl y26)]) rfl Try.isAgg81 Try.sizeOf81 rfl rfl) rfl ?_
              refine RJ.first 3 (listed' := #[true, true, true, true, false, false, false, false, false, false, false]) [0, 1, 2] rfl (by kernel_rfl) rfl ⟨by decide, rfl⟩ (y_move rfl) rfl ?_
              refine RJ.first 5 (listed' := #[true, true, true, true, false, true, false, false, false, false, false]) [0, 1, 2] rfl (by kernel_rfl) rfl ⟨by decide, rfl⟩ (y_fldB (o := 0) fld81_1 rfl) rfl ?_
              refine RJ.first 6 (listed' := #[true, true, true, true, false, true, true, false, false, false, false]) [0, 1, 2] rfl (by kernel_rfl) rfl ⟨by decide, rfl⟩ (y_loadB (k := 0) (off := 1) (v := (shTied.sl y26)) rfl Try.isAgg42 rfl rfl) rfl ?_
              refine RJ.first 7 (listed' := #[true, true, true, true, false, true, true, true, false, false, false]) [0, 1, 2] rfl (by kernel_rfl) rfl ⟨by decide, rfl⟩ (y_lenG (fun w hw => (hw.ins_rd (k := 2) rfl rfl hy27 h25)) Try.runUnderlying42 rfl) rfl ?_
              refine RJ.step1 4 [0, 1, 2] (by kernel_rfl) ⟨by decide, rfl⟩ ?_
              refine RO.of (listed' := #[true, true, true, true, true, true, true, true, false, false, false]) rfl rfl ?_
              refine SJ.q (y_call Try.call40 rfl (RetG.quiet fun w hw => ok_i_tied_total h37 w _ (hw.ins_rd (k := 2) rfl rfl hy27 h25) _ (hr6.st hw))) rfl ?_
              refine SJ.nil ?_
              refine PJ.draw ?_
              refine RJ.step1 8 [0, 1, 2] (by kernel_rfl) ⟨by decide, rfl⟩ ?_
              refine RO.of (listed' := #[true, true, true, true, true, true, true, true, true, false, false]) rfl rfl ?_
              refine SJ.q (y_call Try.call51 rfl (RetG.quiet fun w hw => ok_i_lowest h39 w )) rfl ?_
              refine SJ.nil ?_
              refine PJ.draw ?_
              refine RJ.step1 9 [0, 1, 2] (by kernel_rfl) ⟨by decide, rfl⟩ ?_
              refine RO.of (listed' := #[true, true, true, true, true, true, true, true, true, true, false]) rfl rfl ?_
              refine SJ.q (YldS.yld (y_ixRow (k := 3) (R := fFraction) rfl Try.runUnderlying47 Try.sizeOf55 rfl rfl h41)) rfl ?_
              refine SJ.nil ?_
              refine PJ.draw ?_
              refine RJ.step1 10 [0, 1, 2] (by kernel_rfl) ⟨by decide, rfl⟩ ?_
              refine RO.of (listed' := #[true, true, true, true, true, true, true, true, true, true, true]) rfl rfl ?_
              refine SJ.storeRL (k := 3) (i := (Int.toNat e34)) (off := 0) (us := [.int .i64 r38.num, .int .i64 r38.den]) (b := r38) rfl rfl (idx_get h41) rfl rfl Try.sizeOf55 rfl rfl rfl ?_
              refine SJ.nil ?_
              refine PJ.draw ?_
              refine RJ.fin [0, 1, 2] (by kernel_rfl) ⟨by decide, rfl⟩ ?_
              refine PJ.block_normal (PJ.next ?_)
              refine WJ.quiet ?_
              refine QJ.step (YldS.yld (y_bin rfl rfl rfl)) rfl ?_
              refine QJ.step (YldS.yld (y_move rfl)) rfl ?_
              refine QJ.done ?_
              exact PJ.round ((List.set l31 (Int.toNat e34) r38), w64 (x32 + 1)) [0, 1, 2, 3] hm ⟨rfl, rfl, rfl, rfl, rfl, rfl, rfl, rfl, rfl, trivial⟩ ⟨by decide, rfl⟩
            · replace hm := ifF hm hb33
              refine WJ.exit ?_
              refine PJ.then_exit (PJ.then_exit (PJ.block_exit (PJ.block_normal ?_)))
              exact PJ.joined l31 [1, 2, 3] hm ⟨rfl, rfl, rfl, rfl, rfl, trivial⟩ ⟨by decide, rfl⟩
        · rintro l20 hm
          subst hk22
          refine WJ.quiet ?_
          refine QJ.step (YldS.yld (y_bin rfl rfl rfl)) rfl ?_
          refine QJ.step (YldS.yld (y_move rfl)) rfl ?_
          refine QJ.done ?_
          exact PJ.round (l20, w64 (x18 + 1)) [0, 1, 2] hm ⟨rfl, rfl, rfl, rfl, rfl, trivial⟩ ⟨by decide, rfl⟩
      · replace hm := ifF hm hb19
        refine WJ.exit ?_
        refine PJ.then_exit (PJ.then_exit (PJ.block_exit ?_))
        exact PJ.joined l17 [2] hm ⟨rfl, trivial⟩ ⟨by decide, rfl⟩
  · rintro l10 hm
    subst hk12
    refine WJ.seq ?_
    refine WJ.quiet ?_
    refine QJ.step (YldS.yld (y_move rfl)) rfl ?_
    refine QJ.step (YldS.yld (y_assign rfl)) rfl ?_
    refine QJ.done ?_
    refine PJ.next ?_
    refine WJ.ret ?_
    obtain rfl := Option.some.inj hm
    refine PJ.sel (L' := [row v9 55 fFraction l10]) [0] ⟨by decide, rfl⟩ ?_
    exact PJ.retn (vs := [v9]) Try.results45 ⟨rfl, trivial⟩ ⟨_, rfl, rfl⟩

set_option maxRecDepth 100000 in
set_option maxHeartbeats 1000000 in
theorem ok_i_PointsFor {N : Nat} {list1 : List Result} {table4 : List Int} {r : (List Fraction) × Int} (hm : i_PointsFor N list1 table4 = some r) (w : World) (v2 : Value) (hr3 : RdS w (cx w).Fz v2 fResult.rp list1) (v5 : Value) (hr6 : RdS w (cx w).Fz v5 fI64.rp table4) :
    Calls Try.prog 16 #[v2, v5] w (RetG (cx w) fun u L => ∃ (u1 : Value), (u = tup [u1, .int .i64 r.2] ∧ L = [row u1 55 fFraction r.1])) := by
  unfold i_PointsFor at hm
  refine Calls.enter [v2, v5] Try.func16 rfl Try.ntmps16 rfl ?_
  refine WJ.seq ?_
  refine WJ.quiet ?_
  refine QJ.step (YldS.yld (y_assign rfl)) rfl ?_
  refine QJ.step (YldS.yld (y_assign rfl)) rfl ?_
  refine QJ.done ?_
  refine PJ.next ?_
  refine WJ.seq ?_
  refine WJ.seq ?_
  refine WJ.quiet ?_
  refine QJ.step (YldS.yld (y_move rfl)) rfl ?_
  obtain ⟨r7, h8, hm⟩ := bindS hm
  refine QJ.step (y_call Try.call37 rfl (RetG.quiet fun w hw => ok_i_ValidResults h8 w _ (hr3.st hw))) rfl ?_
  refine QJ.step (YldS.yld (y_not rfl)) rfl ?_
  refine QJ.done ?_
  refine PJ.next ?_
  refine WJ.cond (t := !r7) rfl (fun hb9 => ?_) (fun hb9 => ?_)
  · replace hm := ifT hm hb9
    refine WJ.seq ?_
    refine WJ.quiet ?_
    refine QJ.step (YldS.yld (y_assign rfl)) rfl ?_
    refine QJ.step (YldS.yld (y_assign rfl)) rfl ?_
    refine QJ.done ?_
    refine PJ.next ?_
    refine WJ.ret ?_
    refine PJ.then_ret ?_
    refine PJ.nil_row 55 fFraction ?_
    obtain rfl := Option.some.inj hm
    refine PJ.sel (L' := [row (.slice none 0 0) 55 fFraction []]) [0] ⟨by decide, rfl⟩ ?_
    exact PJ.retn (vs := [(.slice none 0 0), .int .i64 1]) Try.results16 ⟨rfl, rfl, trivial⟩ ⟨_, rfl, rfl⟩
  · replace hm := ifF hm hb9
    refine WJ.skip ?_
    refine PJ.next ?_
    refine WJ.seq ?_
    refine WJ.seq ?_
    refine WJ.quiet ?_
    refine QJ.step (YldS.yld (y_move rfl)) rfl ?_
    obtain ⟨r10, h11, hm⟩ := bindS hm
    refine QJ.step (y_call Try.call38 rfl (RetG.quiet fun w hw => ok_i_isPointTable h11 w _ (hr6.st hw))) rfl ?_
    refine QJ.step (YldS.yld (y_not rfl)) rfl ?_
    refine QJ.done ?_
    refine PJ.next ?_
    refine WJ.cond (t := !r10) rfl (fun hb12 => ?_) (fun hb12 => ?_)
    · replace hm := ifT hm hb12
      refine WJ.seq ?_
      refine WJ.quiet ?_
      refine QJ.step (YldS.yld (y_assign rfl)) rfl ?_
      refine QJ.step (YldS.yld (y_assign rfl)) rfl ?_
      refine QJ.done ?_
      refine PJ.next ?_
      refine WJ.ret ?_
      refine PJ.then_ret ?_
      refine PJ.nil_row 55 fFraction ?_
      obtain rfl := Option.some.inj hm
      refine PJ.sel (L' := [row (.slice none 0 0) 55 fFraction []]) [0] ⟨by decide, rfl⟩ ?_
      exact PJ.retn (vs := [(.slice none 0 0), .int .i64 2]) Try.results16 ⟨rfl, rfl, trivial⟩ ⟨_, rfl, rfl⟩
    · replace hm := ifF hm hb12
      refine WJ.skip ?_
      refine PJ.next ?_
      refine WJ.seq ?_
      refine WJ.reg ?_
      refine SJ.q (YldS.yld (y_move rfl)) rfl ?_
      refine SJ.q (YldS.yld (y_move rfl)) rfl ?_
      obtain ⟨r13, h14, hm⟩ := bindS hm
      refine SJ.call Try.call45 rfl (fun w hw => ok_i_pointsOf h14 w _ (hr3.st hw) _ (hr6.st hw)) rfl ?_
      rintro v15 _ ⟨_, rfl, rfl⟩
      refine SJ.q (YldS.yld (y_assign rfl)) rfl ?_
      refine SJ.q (YldS.yld (y_assign rfl)) rfl ?_
      refine SJ.nil ?_
      refine PJ.next ?_
      refine WJ.ret ?_
      obtain rfl := Option.some.inj hm
      refine PJ.sel (L' := [row v15 55 fFraction r13]) [0] ⟨by decide, rfl⟩ ?_
      exact PJ.retn (vs := [v15, .int .i64 0]) Try.results16 ⟨rfl, rfl, trivial⟩ ⟨_, rfl, rfl⟩

set_option maxRecDepth 100000 in
set_option maxHeartbeats 1000000 in
theorem ok_s_l00Size {n1 : Int} {r : Int} (hm : s_l00Size n1 = some r) (w : World)  :
    Calls Try.prog 103 #[.int .i64 n1] w (Ret (cx w) (.int .i64 r)) := by
  unfold s_l00Size at hm
  refine Calls.enter [.int .i64 n1] Try.func103 rfl Try.ntmps103 rfl ?_
  refine WJ.seq ?_
  refine WJ.quiet ?_
  refine QJ.step (YldS.yld (y_assign rfl)) rfl ?_
  refine QJ.done ?_
  refine PJ.next ?_
  refine WJ.seq ?_
  refine WJ.seq ?_
  refine WJ.quiet ?_
  refine QJ.step (YldS.yld (y_move rfl)) rfl ?_
  refine QJ.step (YldS.yld (y_bin rfl rfl rfl)) rfl ?_
  refine QJ.done ?_
  refine PJ.next ?_
  refine WJ.cond (t := decide (n1 < 0)) rfl (fun hb2 => ?_) (fun hb2 => ?_)
  · replace hm := ifT hm hb2
    refine WJ.seq ?_
    refine WJ.quiet ?_
    refine QJ.step (YldS.yld (y_move rfl)) rfl ?_
    refine QJ.step (YldS.yld (y_neg rfl)) rfl ?_
    refine QJ.step (YldS.yld (y_assign rfl)) rfl ?_
    refine QJ.done ?_
    refine PJ.next ?_
    refine WJ.ret ?_
    refine PJ.then_ret ?_
    obtain rfl := Option.some.inj hm
    refine PJ.sel (L' := []) [] ⟨List.nodup_nil, rfl⟩ ?_
    exact PJ.retn (vs := [.int .i64 (w64 (0 - n1))]) Try.results103 ⟨rfl, trivial⟩ ⟨rfl, rfl⟩
  · replace hm := ifF hm hb2
    refine WJ.skip ?_
    refine PJ.next ?_
    refine WJ.seq ?_
    refine WJ.quiet ?_
    refine QJ.step (YldS.yld (y_move rfl)) rfl ?_
    refine QJ.step (YldS.yld (y_assign rfl)) rfl ?_
    refine QJ.done ?_
    refine PJ.next ?_
    refine WJ.ret ?_
    obtain rfl := Option.some.inj hm
    refine PJ.sel (L' := []) [] ⟨List.nodup_nil, rfl⟩ ?_
    exact PJ.retn (vs := [.int .i64 n1]) Try.results103 ⟨rfl, trivial⟩ ⟨rfl, rfl⟩

set_option maxRecDepth 100000 in
set_option maxHeartbeats 1000000 in
theorem ok_s_l00Gcd {N : Nat} {a1 : Int} {b2 : Int} {r : Int} (hm : s_l00Gcd N a1 b2 = some r) (w : World)  :
    Calls Try.prog 77 #[.int .i64 a1, .int .i64 b2] w (Ret (cx w) (.int .i64 r)) := by
  unfold s_l00Gcd at hm
  refine Calls.enter [.int .i64 a1, .int .i64 b2] Try.func77 rfl Try.ntmps77 rfl ?_
  refine WJ.seq ?_
  refine WJ.quiet ?_
  refine QJ.step (YldS.yld (y_assign rfl)) rfl ?_
  refine QJ.done ?_
  refine PJ.next ?_
  obtain ⟨kj4, hk5, hm⟩ := withK_open hm
  refine WJ.join (X := Int) (fun (x : Int) => kj4 x = some r) (fun (x : Int) => [(0, .int .i64 x)]) (fun (x : Int) => []) ?_ ?_
  · clear hk5
    refine WJ.block ?_
    refine WJ.sel (L' := (fun (x : Int × Int) => []) (a1, b2)) [] ⟨List.nodup_nil, rfl⟩ ?_
    refine WJ.sub (m' := (fun (x : Int × Int) => [(0, .int .i64 x.1), (1, .int .i64 x.2)]) (a1, b2)) ⟨rfl, rfl, trivial⟩ ?_
    refine WJ.loop (X := Int × Int) (fun N (x : Int × Int) => s_l00Gcd_l1 kj4 N x.1 x.2 = some r) (fun (x : Int × Int) => [(0, .int .i64 x.1), (1, .int .i64 x.2)]) (fun (x : Int × Int) => []) ?_ N (a1, b2) hm
    · rintro N ⟨a6, b7⟩ hI
      have hm := hI; clear hI
      cases N with
      | zero => cases hm
      | succ N =>
      unfold s_l00Gcd_l1 at hm
      refine WJ.seq ?_
      refine WJ.seq ?_
      refine WJ.quiet ?_
      refine QJ.step (YldS.yld (y_move rfl)) rfl ?_
      refine QJ.step (YldS.yld (y_bin rfl rfl rfl)) rfl ?_
      refine QJ.done ?_
      refine PJ.next ?_
      refine WJ.cond (t := (b7 != 0)) rfl (fun hb8 => ?_) (fun hb8 => ?_)
      · replace hm := ifT hm hb8
        refine WJ.skip ?_
        refine PJ.next ?_
        refine WJ.block ?_
        refine WJ.seq ?_
        refine WJ.quiet ?_
        refine QJ.step (YldS.yld (y_move rfl)) rfl ?_
        refine QJ.step (YldS.yld (y_move rfl)) rfl ?_
        obtain ⟨q9, h10, hm⟩ := bindS hm
        refine QJ.step (YldS.yld (y_rem' h10 rfl rfl)) rfl ?_
        refine QJ.step (YldS.yld (y_assign rfl)) rfl ?_
        refine QJ.done ?_
        refine PJ.next ?_
        refine WJ.seq ?_
        refine WJ.quiet ?_
        refine QJ.step (YldS.yld (y_move rfl)) rfl ?_
        refine QJ.step (YldS.yld (y_assign rfl)) rfl ?_
        refine QJ.done ?_
        refine PJ.next ?_
        refine WJ.quiet ?_
        refine QJ.step (YldS.yld (y_move rfl)) rfl ?_
        refine QJ.step (YldS.yld (y_assign rfl)) rfl ?_
        refine QJ.done ?_
        refine PJ.block_normal ?_
        exact PJ.round (b7, q9) [] hm ⟨rfl, rfl, trivial⟩ ⟨List.nodup_nil, rfl⟩
      · replace hm := ifF hm hb8
        refine WJ.exit ?_
        refine PJ.then_exit (PJ.then_exit (PJ.block_exit ?_))
        exact PJ.joined a6 [] hm ⟨rfl, trivial⟩ ⟨List.nodup_nil, rfl⟩
  · rintro a3 hm
    subst hk5
    refine WJ.seq ?_
    refine WJ.quiet ?_
    refine QJ.step (YldS.yld (y_move rfl)) rfl ?_
    refine QJ.step (YldS.yld (y_assign rfl)) rfl ?_
    refine QJ.done ?_
    refine PJ.next ?_
    refine WJ.ret ?_
    obtain rfl := Option.some.inj hm
    refine PJ.sel (L' := []) [] ⟨List.nodup_nil, rfl⟩ ?_
    exact PJ.retn (vs := [.int .i64 a3]) Try.results77 ⟨rfl, trivial⟩ ⟨rfl, rfl⟩

set_option maxRecDepth 100000 in
set_option maxHeartbeats 1000000 in
theorem ok_s_l02Make {N : Nat} {num1 : Int} {den2 : Int} {r : Fraction} (hm : s_l02Make N num1 den2 = some r) (w : World)  :
    Calls Try.prog 69 #[.int .i64 num1, .int .i64 den2] w (Ret (cx w) (.agg (Fraction.enc r).toArray)) := by
  unfold s_l02Make at hm
  refine Calls.enter [.int .i64 num1, .int .i64 den2] Try.func69 rfl Try.ntmps69 rfl ?_
  refine WJ.seq ?_
  refine WJ.reg ?_
  refine SJ.alloc (cs := [.int .i64 0, .int .i64 0]) Try.zeroValue55 rfl rfl fun g3 => ?_
  refine SJ.nil ?_
  refine PJ.next ?_
  refine WJ.seq ?_
  refine WJ.quiet ?_
  refine QJ.step (YldS.yld (y_move rfl)) rfl ?_
  obtain ⟨r4, h5, hm⟩ := bindS hm
  refine QJ.step (y_call Try.call103 rfl (RetG.quiet fun w hw => ok_s_l00Size h5 w )) rfl ?_
  refine QJ.step (YldS.yld (y_move rfl)) rfl ?_
  obtain ⟨r6, h7, hm⟩ := bindS hm
  refine QJ.step (y_call Try.call77 rfl (RetG.quiet fun w hw => ok_s_l00Gcd h7 w )) rfl ?_
  refine QJ.step (YldS.yld (y_assign rfl)) rfl ?_
  refine QJ.done ?_
  refine PJ.next ?_
  refine WJ.seq ?_
  obtain ⟨q8, h9, hm⟩ := bindS hm
  obtain ⟨q10, h11, hm⟩ := bindS hm
  refine WJ.draws (N := 8) (listed0 := #[false, false, false, false, false, false, false, false]) [] follows rfl rfl ?_
  refine RJ.first 0 (listed' := #[true, false, false, false, false, false, false, false]) [] rfl (by kernel_rfl) rfl ⟨List.nodup_nil, rfl⟩ (y_move rfl) rfl ?_
  refine RJ.first 1 (listed' := #[true, true, false, false, false, false, false, false]) [] rfl (by kernel_rfl) rfl ⟨List.nodup_nil, rfl⟩ (y_move rfl) rfl ?_
  refine RJ.first 2 (listed' := #[true, true, true, false, false, false, false, false]) [] rfl (by kernel_rfl) rfl ⟨List.nodup_nil, rfl⟩ (y_quo' h9 rfl rfl) rfl ?_
  refine RJ.first 3 (listed' := #[true, true, true, true, false, false, false, false]) [] rfl (by kernel_rfl) rfl ⟨List.nodup_nil, rfl⟩ (y_move rfl) rfl ?_
  refine RJ.first 4 (listed' := #[true, true, true, true, true, false, false, false]) [] rfl (by kernel_rfl) rfl ⟨List.nodup_nil, rfl⟩ (y_move rfl) rfl ?_
  refine RJ.first 5 (listed' := #[true, true, true, true, true, true, false, false]) [] rfl (by kernel_rfl) rfl ⟨List.nodup_nil, rfl⟩ (y_quo' h11 rfl rfl) rfl ?_
  refine RJ.first 6 (listed' := #[true, true, true, true, true, true, true, false]) [] rfl (by kernel_rfl) rfl ⟨List.nodup_nil, rfl⟩ (y_build (parts := [(0, .tmp 12), (1, .tmp 15)]) (places := [(0, 1), (1, 1)]) (r := [.int .i64 ((Fraction.mk q8 q10).num), .int .i64 ((Fraction.mk q8 q10).den)]) pl55 Try.zeroValue55 rfl rfl rfl rfl) rfl ?_
  refine RJ.step1 7 [] (by kernel_rfl) ⟨List.nodup_nil, rfl⟩ ?_
  refine RO.of (listed' := #[true, true, true, true, true, true, true, true]) rfl rfl ?_
  refine SJ.storeL (k := 0) (off := 0) (us := [.int .i64 ((Fraction.mk q8 q10).num), .int .i64 ((Fraction.mk q8 q10).den)]) rfl rfl rfl rfl Try.sizeOf55 rfl rfl ?_
  refine SJ.nil ?_
  refine PJ.draw ?_
  refine RJ.fin [] (by kernel_rfl) ⟨List.nodup_nil, rfl⟩ ?_
  refine PJ.next ?_
  refine WJ.ret ?_
  obtain rfl := Option.some.inj hm
  exact PJ.retn_sel (vs := [.agg (Fraction.enc (Fraction.mk q8 q10)).toArray]) Try.results69 ⟨⟨0, g3, 55, [.int .i64 ((Fraction.mk q8 q10).num), .int .i64 ((Fraction.mk q8 q10).den)], rfl, rfl, .inl ⟨Try.isAgg55, Try.sizeOf55, rfl⟩⟩, trivial⟩ [] ⟨List.nodup_nil, rfl⟩ ⟨rfl, rfl⟩

set_option maxRecDepth 100000 in
set_option maxHeartbeats 1000000 in
theorem ok_s_l22Points {N : Nat} {list1 : List Result} {table4 : List Int} {r : (List Fraction)} (hm : s_l22Points N list1 table4 = some r) (w : World) (v2 : Value) (hr3 : RdS w (cx w).Fz v2 fResult.rp list1) (v5 : Value) (hr6 : RdS w (cx w).Fz v5 fI64.rp table4) :
    Calls Try.prog 46 #[v2, v5] w (RetG (cx w) fun u L => ∃ (u1 : Value), (u = u1 ∧ L = [row u1 55 fFraction r])) := by
  unfold s_l22Points at hm
  refine Calls.enter [v2, v5] Try.func46 rfl Try.ntmps46 rfl ?_
  refine WJ.seq ?_
  refine WJ.quiet ?_
  refine QJ.step (YldS.yld (y_assign rfl)) rfl ?_
  refine QJ.done ?_
  refine PJ.next ?_
  refine WJ.seq ?_
  refine WJ.reg ?_
  refine SJ.q (YldS.yld (y_move rfl)) rfl ?_
  refine SJ.q (YldS.yld (y_lenS Try.runUnderlying41 hr3 rfl)) rfl ?_
  obtain ⟨l7, h8, hm⟩ := bindS hm
  refine SJ.makeSlice (R := fFraction) (z := (Fraction.mk 0 0)) h8 Try.underlying47 el55 rfl rfl rfl fun v9 => ?_
  refine SJ.q (YldS.yld (y_assign rfl)) rfl ?_
  refine SJ.nil ?_
  refine PJ.next ?_
  refine WJ.seq ?_
  refine WJ.reg ?_
  refine SJ.q (YldS.yld (y_move rfl)) rfl ?_
  obtain ⟨r10, h11, hm⟩ := bindS hm
  refine SJ.call Try.call43 rfl (fun w hw => ok_s_l22Groups h11 w _ (hr3.st hw)) rfl ?_
  rintro v12 _ ⟨_, vs13, rfl, rfl⟩
  refine SJ.q (YldS.yld (y_assign rfl)) rfl ?_
  refine SJ.nil ?_
  refine PJ.next ?_
  refine WJ.seq ?_
  refine WJ.quiet ?_
  refine QJ.step (YldS.yld (y_assign rfl)) rfl ?_
  refine QJ.done ?_
  refine PJ.next ?_
  obtain ⟨kj15, hk16, hm⟩ := withK_open hm
  refine WJ.join (X := (List Fraction)) (fun (x : (List Fraction)) => kj15 x = some r) (fun (x : (List Fraction)) => [(5, v9)]) (fun (x : (List Fraction)) => [row v9 55 fFraction x]) ?_ ?_
  · clear hk16
    refine WJ.seq ?_
    refine WJ.quiet ?_
    refine QJ.step (YldS.yld (y_assign rfl)) rfl ?_
    refine QJ.done ?_
    refine PJ.next ?_
    refine WJ.block ?_
    refine WJ.sel (L' := (fun (x : (List Fraction) × Int × Int) => [row v12 42 fRaw1 vs13, inn (rSl fI64.rp) vs13 r10, row v9 55 fFraction x.1]) (l7, 0, 0)) [0, 1, 2] ⟨by decide, rfl⟩ ?_
    refine WJ.sub (m' := (fun (x : (List Fraction) × Int × Int) => [(1, v5), (5, v9), (6, v12), (7, .int .i64 x.2.1), (8, .int .i64 x.2.2)]) (l7, 0, 0)) ⟨rfl, rfl, rfl, rfl, rfl, trivial⟩ ?_
    refine WJ.loop (X := (List Fraction) × Int × Int) (fun N (x : (List Fraction) × Int × Int) => s_l22Points_l1 kj15 table4 r10 N x.1 x.2.1 x.2.2 = some r) (fun (x : (List Fraction) × Int × Int) => [(1, v5), (5, v9), (6, v12), (7, .int .i64 x.2.1), (8, .int .i64 x.2.2)]) (fun (x : (List Fraction) × Int × Int) => [row v12 42 fRaw1 vs13, inn (rSl fI64.rp) vs13 r10, row v9 55 fFraction x.1]) ?_ N (l7, 0, 0) hm
    · rintro N ⟨l17, at18, i19⟩ hI
      have hm := hI; clear hI
      cases N with
      | zero => cases hm
      | succ N =>
      unfold s_l22Points_l1 at hm
      refine WJ.seq ?_
      refine WJ.seq ?_
      refine WJ.quiet ?_
      refine QJ.step (YldS.yld (y_move rfl)) rfl ?_
      refine QJ.step (YldS.yld (y_move rfl)) rfl ?_
      refine QJ.step (YldS.yld (y_lenG (fun w hw => (hw.nst_rd (k := 0) (j := 1) rfl rfl)) Try.runUnderlying82 rfl)) rfl ?_
      refine QJ.step (YldS.yld (y_bin rfl rfl rfl)) rfl ?_
      refine QJ.done ?_
      refine PJ.next ?_
      refine WJ.cond (t := decide (i19 < (List.length r10 : Int))) rfl (fun hb20 => ?_) (fun hb20 => ?_)
      · replace hm := ifT hm hb20
        refine WJ.skip ?_
        refine PJ.next ?_
        obtain ⟨kj23, hk24, hm⟩ := withK_open hm
        refine WJ.join (X := (List Fraction) × Int) (fun (x : (List Fraction) × Int) => kj23 x.1 x.2 = some r) (fun (x : (List Fraction) × Int) => [(1, v5), (5, v9), (6, v12), (7, .int .i64 x.2), (8, .int .i64 i19)]) (fun (x : (List Fraction) × Int) => [row v12 42 fRaw1 vs13, inn (rSl fI64.rp) vs13 r10, row v9 55 fFraction x.1]) ?_ ?_
        · clear hk24
          refine WJ.block ?_
          refine WJ.seq ?_
          refine WJ.inn_len 1 rfl fun hl25 => ?_
          refine WJ.quiet ?_
          refine QJ.step (YldS.yld (y_move rfl)) rfl ?_
          refine QJ.step (YldS.yld (y_move rfl)) rfl ?_
          obtain ⟨e26, h27, hm⟩ := bindS hm
          obtain ⟨y28, hy29⟩ := inn_idx hl25 h27
          refine QJ.step (YldS.yld (y_ixRow (k := 0) (R := fRaw1) rfl Try.runUnderlying82 Try.sizeOf42 rfl rfl hy29)) rfl ?_
          refine QJ.step (YldS.yld (y_loadR (k := 0) (i := (Int.toNat i19)) (off := 0) rfl Try.isAgg42 rfl (idx_get hy29) (raw_get y28))) rfl ?_
          refine QJ.step (YldS.yld (y_lenG (fun w hw => (hw.inn_rd (k := 1) rfl rfl hy29 h27)) Try.runUnderlying42 rfl)) rfl ?_
          refine QJ.step (YldS.yld (y_assign rfl)) rfl ?_
          refine QJ.done ?_
          refine PJ.next ?_
          refine WJ.seq ?_
          refine WJ.reg ?_
          refine SJ.q (YldS.yld (y_move rfl)) rfl ?_
          refine SJ.q (YldS.yld (y_move rfl)) rfl ?_
          refine SJ.q (YldS.yld (y_move rfl)) rfl ?_
          refine SJ.q (YldS.yld (y_move rfl)) rfl ?_
          refine SJ.q (YldS.yld (y_bin rfl rfl rfl)) rfl ?_
          obtain ⟨r30, h31, hm⟩ := bindS hm
          refine SJ.q (y_call Try.call44 rfl (RetG.quiet fun w hw => ok_s_l22Sum h31 w _ (hr6.st hw))) rfl ?_
          refine SJ.q (YldS.yld (y_move rfl)) rfl ?_
          obtain ⟨r32, h33, hm⟩ := bindS hm
          refine SJ.q (y_call Try.call69 rfl (RetG.quiet fun w hw => ok_s_l02Make h33 w )) rfl ?_
          refine SJ.alloc (cs := [.int .i64 0, .int .i64 0]) Try.zeroValue55 rfl rfl fun g34 => ?_
          refine SJ.storeL (k := 0) (off := 0) (us := [.int .i64 r32.num, .int .i64 r32.den]) rfl rfl rfl rfl Try.sizeOf55 rfl rfl ?_
          refine SJ.nil ?_
          refine PJ.next ?_
          obtain ⟨kj36, hk37, hm⟩ := withK_open hm
          refine WJ.join (X := (List Fraction)) (fun (x : (List Fraction)) => kj36 x = some r) (fun (x : (List Fraction)) => [(1, v5), (5, v9), (6, v12), (7, .int .i64 at18), (8, .int .i64 i19), (9, .int .i64 (List.length e26 : Int))]) (fun (x : (List Fraction)) => [row v12 42 fRaw1 vs13, inn (rSl fI64.rp) vs13 r10, row v9 55 fFraction x]) ?_ ?_
          · clear hk37
            refine WJ.seq ?_
            refine WJ.quiet ?_
            refine QJ.step (YldS.yld (y_assign rfl)) rfl ?_
            refine QJ.done ?_
            refine PJ.next ?_
            refine WJ.block ?_
            refine WJ.sel (L' := (fun (x : (List Fraction) × Int) => [box g34 55 [.int .i64 r32.num, .int .i64 r32.den], row v12 42 fRaw1 vs13, inn (rSl fI64.rp) vs13 r10, row v9 55 fFraction x.1]) (l17, 0)) [0, 1, 2, 3] ⟨by decide, rfl⟩ ?_
            refine WJ.sub (m' := (fun (x : (List Fraction) × Int) => [(1, v5), (5, v9), (6, v12), (7, .int .i64 at18), (8, .int .i64 i19), (9, .int .i64 (List.length e26 : Int)), (10, pt g34 0), (11, .int .i64 x.2)]) (l17, 0)) ⟨rfl, rfl, rfl, rfl, rfl, rfl, rfl, rfl, trivial⟩ ?_
            refine WJ.loop (X := (List Fraction) × Int) (fun N (x : (List Fraction) × Int) => s_l22Points_l2 kj36 r10 i19 e26 r32 N x.1 x.2 = some r) (fun (x : (List Fraction) × Int) => [(1, v5), (5, v9), (6, v12), (7, .int .i64 at18), (8, .int .i64 i19), (9, .int .i64 (List.length e26 : Int)), (10, pt g34 0), (11, .int .i64 x.2)]) (fun (x : (List Fraction) × Int) => [box g34 55 [.int .i64 r32.num, .int .i64 r32.den], row v12 42 fRaw1 vs13, inn (rSl fI64.rp) vs13 r10, row v9 55 fFraction x.1]) ?_ N (l17, 0) hm
            · rintro N ⟨l38, k39⟩ hI
              have hm := hI; clear hI
              cases N with
              | zero => cases hm
              | succ N =>
              unfold s_l22Points_l2 at hm
              refine WJ.seq ?_
              refine WJ.seq ?_
              refine WJ.quiet ?_
              refine QJ.step (YldS.yld (y_move rfl)) rfl ?_
              refine QJ.step (YldS.yld (y_move rfl)) rfl ?_
              refine QJ.step (YldS.yld (y_bin rfl rfl rfl)) rfl ?_
              refine QJ.done ?_
              refine PJ.next ?_
              refine WJ.cond (t := decide (k39 < (List.length e26 : Int))) rfl (fun hb40 => ?_) (fun hb40 => ?_)
              · replace hm := ifT hm hb40
                refine WJ.skip ?_
                refine PJ.next ?_
                refine WJ.seq ?_
                refine WJ.block ?_
                refine WJ.inn_len 2 rfl fun hl41 => ?_
                obtain ⟨e42, h43, hm⟩ := bindS hm
                obtain ⟨y44, hy45⟩ := inn_idx hl41 h43
                obtain ⟨e46, h47, hm⟩ := bindS hm
                obtain ⟨e48, h49, hm⟩ := bindS hm
                refine WJ.draws (N := 11) (listed0 := #[false, false, false, false, false, false, false, false, false, false, false]) [box g34 55 [.int .i64 r32.num, .int .i64 r32.den], row v12 42 fRaw1 vs13, inn (rSl fI64.rp) vs13 r10] follows rfl rfl ?_
                refine RJ.first 0 (listed' := #[true, false, false, false, false, false, false, false, false, false, false]) [0, 1, 2] rfl (by kernel_rfl) rfl ⟨by decide, rfl⟩ (y_move rfl) rfl ?_
                refine RJ.first 1 (listed' := #[true, true, false, false, false, false, false, false, false, false, false]) [0, 1, 2] rfl (by kernel_rfl) rfl ⟨by decide, rfl⟩ (y_move rfl) rfl ?_
                refine RJ.first 2 (listed' := #[true, true, true, false, false, false, false, false, false, false, false]) [0, 1, 2] rfl (by kernel_rfl) rfl ⟨by decide, rfl⟩ (y_move rfl) rfl ?_
                refine RJ.first 3 (listed' := #[true, true, true, true, false, false, false, false, false, false, false]) [0, 1, 2] rfl (by kernel_rfl) rfl ⟨by decide, rfl⟩ (y_ixRow (k := 1) (R := fRaw1) rfl Try.runUnderlying82 Try.sizeOf42 rfl rfl hy45) rfl ?_
                refine RJ.first 4 (listed' := #[true, true, true, true, true, false, false, false, false, false, false]) [0, 1, 2] rfl (by kernel_rfl) rfl ⟨by decide, rfl⟩ (y_loadR (k := 1) (i := (Int.toNat i19)) (off := 0) rfl Try.isAgg42 rfl (idx_get hy45) (raw_get y44)) rfl ?_
                refine RJ.first 5 (listed' := #[true, true, true, true, true, true, false, false, false, false, false]) [0, 1, 2] rfl (by kernel_rfl) rfl ⟨by decide, rfl⟩ (y_move rfl) rfl ?_
                refine RJ.first 6 (listed' := #[true, true, true, true, true, true, true, false, false, false, false]) [0, 1, 2] rfl (by kernel_rfl) rfl ⟨by decide, rfl⟩ (y_ixG (R := fI64) (fun w hw => (hw.inn_rd (k := 2) rfl rfl hy45 h43)) Try.runUnderlying42 Try.sizeOf2 rfl rfl h47) rfl ?_
                refine RJ.first 7 (listed' := #[true, true, true, true, true, true, true, true, false, false, false]) [0, 1, 2] rfl (by kernel_rfl) rfl ⟨by decide, rfl⟩ (y_loadG (R := fI64) (i := (Int.toNat k39)) (off := 0) (fun w hw => (hw.inn_rd (k := 2) rfl rfl hy45 h43)) Try.isAgg2 rfl (idx_get h47) rfl) rfl ?_
                refine RJ.first 8 (listed' := #[true, true, true, true, true, true, true, true, true, false, false]) [0, 1, 2] rfl (by kernel_rfl) rfl ⟨by decide, rfl⟩ (y_loadBN (k := 0) (off := 0) (us := [.int .i64 r32.num, .int .i64 r32.den]) rfl Try.isAgg55 Try.sizeOf55 rfl rfl) rfl ?_
                refine RJ.step1 9 [0, 1, 2] (by kernel_rfl) ⟨by decide, rfl⟩ ?_
                refine RO.of (listed' := #[true, true, true, true, true, true, true, true, true, true, false]) rfl rfl ?_
                refine SJ.q (YldS.yld (y_ixRow (k := 3) (R := fFraction) rfl Try.runUnderlying47 Try.sizeOf55 rfl rfl h49)) rfl ?_
                refine SJ.nil ?_
                refine PJ.draw ?_
                refine RJ.step1 10 [0, 1, 2] (by kernel_rfl) ⟨by decide, rfl⟩ ?_
                refine RO.of (listed' := #[true, true, true, true, true, true, true, true, true, true, true]) rfl rfl ?_
                refine SJ.storeRL (k := 3) (i := (Int.toNat e46)) (off := 0) (us := [.int .i64 r32.num, .int .i64 r32.den]) (b := r32) rfl rfl (idx_get h49) rfl rfl Try.sizeOf55 rfl rfl rfl ?_
                refine SJ.nil ?_
                refine PJ.draw ?_
                refine RJ.fin [0, 1, 2] (by kernel_rfl) ⟨by decide, rfl⟩ ?_
                refine PJ.block_normal (PJ.next ?_)
                refine WJ.quiet ?_
                refine QJ.step (YldS.yld (y_move rfl)) rfl ?_
                refine QJ.step (YldS.yld (y_bin rfl rfl rfl)) rfl ?_
                refine QJ.step (YldS.yld (y_assign rfl)) rfl ?_
                refine QJ.done ?_
                exact PJ.round ((List.set l38 (Int.toNat e46) r32), w64 (k39 + 1)) [0, 1, 2, 3] hm ⟨rfl, rfl, rfl, rfl, rfl, rfl, rfl, rfl, trivial⟩ ⟨by decide, rfl⟩
              · replace hm := ifF hm hb40
                refine WJ.exit ?_
                refine PJ.then_exit (PJ.then_exit (PJ.block_exit ?_))
                exact PJ.joined l38 [1, 2, 3] hm ⟨rfl, rfl, rfl, rfl, rfl, rfl, trivial⟩ ⟨by decide, rfl⟩
          · rintro l35 hm
            subst hk37
            refine WJ.quiet ?_
            refine QJ.step (YldS.yld (y_move rfl)) rfl ?_
            refine QJ.step (YldS.yld (y_move rfl)) rfl ?_
            refine QJ.step (YldS.yld (y_bin rfl rfl rfl)) rfl ?_
            refine QJ.step (YldS.yld (y_assign rfl)) rfl ?_
            refine QJ.done ?_
            refine PJ.block_normal ?_
            exact PJ.joined (l35, w64 (at18 + (List.length e26 : Int))) [0, 1, 2] hm ⟨rfl, rfl, rfl, rfl, rfl, trivial⟩ ⟨by decide, rfl⟩
        · rintro ⟨l21, at22⟩ hm
          subst hk24
          refine WJ.quiet ?_
          refine QJ.step (YldS.yld (y_move rfl)) rfl ?_
          refine QJ.step (YldS.yld (y_bin rfl rfl rfl)) rfl ?_
          refine QJ.step (YldS.yld (y_assign rfl)) rfl ?_
          refine QJ.done ?_
          exact PJ.round (l21, at22, w64 (i19 + 1)) [0, 1, 2] hm ⟨rfl, rfl, rfl, rfl, rfl, trivial⟩ ⟨by decide, rfl⟩
      · replace hm := ifF hm hb20
        refine WJ.exit ?_
        refine PJ.then_exit (PJ.then_exit (PJ.block_exit ?_))
        exact PJ.joined l17 [2] hm ⟨rfl, trivial⟩ ⟨by decide, rfl⟩
  · rintro l14 hm
    subst hk16
    refine WJ.seq ?_
    refine WJ.quiet ?_
    refine QJ.step (YldS.yld (y_move rfl)) rfl ?_
    refine QJ.step (YldS.yld (y_assign rfl)) rfl ?_
    refine QJ.done ?_
    refine PJ.next ?_
    refine WJ.ret ?_
    obtain rfl := Option.some.inj hm
    refine PJ.sel (L' := [row v9 55 fFraction l14]) [0] ⟨by decide, rfl⟩ ?_
    exact PJ.retn (vs := [v9]) Try.results46 ⟨rfl, trivial⟩ ⟨_, rfl, rfl⟩

set_option maxRecDepth 100000 in
set_option maxHeartbeats 1000000 in
theorem ok_s_PointsFor {N : Nat} {list1 : List Result} {table4 : List Int} {r : (List Fraction) × Int} (hm : s_PointsFor N list1 table4 = some r) (w : World) (v2 : Value) (hr3 : RdS w (cx w).Fz v2 fResult.rp list1) (v5 : Value) (hr6 : RdS w (cx w).Fz v5 fI64.rp table4) :
    Calls Try.prog 17 #[v2, v5] w (RetG (cx w) fun u L => ∃ (u1 : Value), (u = tup [u1, .int .i64 r.2] ∧ L = [row u1 55 fFraction r.1])) := by
  unfold s_PointsFor at hm
  refine Calls.enter [v2, v5] Try.func17 rfl Try.ntmps17 rfl ?_
  refine WJ.seq ?_
  refine WJ.quiet ?_
  refine QJ.step (YldS.yld (y_assign rfl)) rfl ?_
  refine QJ.step (YldS.yld (y_assign rfl)) rfl ?_
  refine QJ.done ?_
  refine PJ.next ?_
  refine WJ.seq ?_
  refine WJ.seq ?_
  refine WJ.quiet ?_
  refine QJ.step (YldS.yld (y_move rfl)) rfl ?_
  obtain ⟨r7, h8, hm⟩ := bindS hm
  refine QJ.step (y_call Try.call41 rfl (RetG.quiet fun w hw => ok_s_l22Ok h8 w _ (hr3.st hw))) rfl ?_
  refine QJ.step (YldS.yld (y_not rfl)) rfl ?_
  refine QJ.done ?_
  refine PJ.next ?_
  refine WJ.cond (t := !r7) rfl (fun hb9 => ?_) (fun hb9 => ?_)
  · replace hm := ifT hm hb9
    refine WJ.seq ?_
    refine WJ.quiet ?_
    refine QJ.step (YldS.yld (y_assign rfl)) rfl ?_
    refine QJ.step (YldS.yld (y_assign rfl)) rfl ?_
    refine QJ.done ?_
    refine PJ.next ?_
    refine WJ.ret ?_
    refine PJ.then_ret ?_
    refine PJ.nil_row 55 fFraction ?_
    obtain rfl := Option.some.inj hm
    refine PJ.sel (L' := [row (.slice none 0 0) 55 fFraction []]) [0] ⟨by decide, rfl⟩ ?_
    exact PJ.retn (vs := [(.slice none 0 0), .int .i64 1]) Try.results17 ⟨rfl, rfl, trivial⟩ ⟨_, rfl, rfl⟩
  · replace hm := ifF hm hb9
    refine WJ.skip ?_
    refine PJ.next ?_
    refine WJ.seq ?_
    refine WJ.seq ?_
    refine WJ.quiet ?_
    refine QJ.step (YldS.yld (y_move rfl)) rfl ?_
    obtain ⟨r10, h11, hm⟩ := bindS hm
    refine QJ.step (y_call Try.call42 rfl (RetG.quiet fun w hw => ok_s_l22Table h11 w _ (hr6.st hw))) rfl ?_
    refine QJ.step (YldS.yld (y_not rfl)) rfl ?_
    refine QJ.done ?_
    refine PJ.next ?_
    refine WJ.cond (t := !r10) rfl (fun hb12 => ?_) (fun hb12 => ?_)
    · replace hm := ifT hm hb12
      refine WJ.seq ?_
      refine WJ.quiet ?_
      refine QJ.step (YldS.yld (y_assign rfl)) rfl ?_
      refine QJ.step (YldS.yld (y_assign rfl)) rfl ?_
      refine QJ.done ?_
      refine PJ.next ?_
      refine WJ.ret ?_
      refine PJ.then_ret ?_
      refine PJ.nil_row 55 fFraction ?_
      obtain rfl := Option.some.inj hm
      refine PJ.sel (L' := [row (.slice none 0 0) 55 fFraction []]) [0] ⟨by decide, rfl⟩ ?_
      exact PJ.retn (vs := [(.slice none 0 0), .int .i64 2]) Try.results17 ⟨rfl, rfl, trivial⟩ ⟨_, rfl, rfl⟩
    · replace hm := ifF hm hb12
      refine WJ.skip ?_
      refine PJ.next ?_
      refine WJ.seq ?_
      refine WJ.reg ?_
      refine SJ.q (YldS.yld (y_move rfl)) rfl ?_
      refine SJ.q (YldS.yld (y_move rfl)) rfl ?_
      obtain ⟨r13, h14, hm⟩ := bindS hm
      refine SJ.call Try.call46 rfl (fun w hw => ok_s_l22Points h14 w _ (hr3.st hw) _ (hr6.st hw)) rfl ?_
      rintro v15 _ ⟨_, rfl, rfl⟩
      refine SJ.q (YldS.yld (y_assign rfl)) rfl ?_
      refine SJ.q (YldS.yld (y_assign rfl)) rfl ?_
      refine SJ.nil ?_
      refine PJ.next ?_
      refine WJ.ret ?_
      obtain rfl := Option.some.inj hm
      refine PJ.sel (L' := [row v15 55 fFraction r13]) [0] ⟨by decide, rfl⟩ ?_
      exact PJ.retn (vs := [v15, .int .i64 0]) Try.results17 ⟨rfl, rfl, trivial⟩ ⟨_, rfl, rfl⟩

set_option maxRecDepth 100000 in
set_option maxHeartbeats 1000000 in
theorem ok_s_l22DrawHeats {N : Nat} {s1 : L00Src} {list5 : List Result} {g2 : Nat} {r : (List Int) × L00Src} (hm : s_l22DrawHeats N s1 list5 = some r) (w : World) (S : Nat → Prop) (v3 : Value) (hr4 : RdS w (Cx.Fz ⟨w, S⟩) v3 fByte.rp s1.code) (v6 : Value) (hr7 : RdS w (Cx.Fz ⟨w, S⟩) v6 fResult.rp list5) (hA : (box g2 97 [v3, .int .i64 s1.at_, .int .u64 s1.seed]).holds w S) :
    Calls Try.prog 48 #[pt g2 0, v6] w (RetG ⟨w, S⟩ fun u L => ∃ (u1 : Value), (u = u1 ∧ L = [box g2 97 [v3, .int .i64 r.2.at_, .int .u64 r.2.seed], row u1 2 fI64 r.1])) := by
  unfold s_l22DrawHeats at hm
  refine Calls.enter1 hA [pt g2 0, v6] Try.func48 rfl Try.ntmps48 rfl ?_
  refine WJ.seq ?_
  refine WJ.quiet ?_
  refine QJ.step (YldS.yld (y_assign rfl)) rfl ?_
  refine QJ.done ?_
  refine PJ.next ?_
  refine WJ.seq ?_
  refine WJ.reg ?_
  refine SJ.buildSlice (R := fI64) (os := []) [] Try.runUnderlying42 Try.sizeOf2 Try.zeroValue2 rfl rfl rfl rfl rfl rfl fun v8 => ?_
  refine SJ.q (YldS.yld (y_assign rfl)) rfl ?_
  refine SJ.nil ?_
  refine PJ.next ?_
  obtain ⟨kj13, hk14, hm⟩ := withK_open hm
  refine WJ.join (X := (List Int) × Value × Int × Int) (fun (x : (List Int) × Value × Int × Int) => kj13 x.1 x.2.2.1 x.2.2.2 = some r) (fun (x : (List Int) × Value × Int × Int) => [(0, pt g2 0), (5, x.2.1)]) (fun (x : (List Int) × Value × Int × Int) => [row x.2.1 2 fI64 x.1, box g2 97 [v3, .int .i64 x.2.2.1, .int .u64 x.2.2.2]]) ?_ ?_
  · clear hk14
    refine WJ.seq ?_
    refine WJ.quiet ?_
    refine QJ.step (YldS.yld (y_assign rfl)) rfl ?_
    refine QJ.done ?_
    refine PJ.next ?_
    refine WJ.block ?_
    refine WJ.sel (L' := (fun (x : (List Int) × Value × Int × Int × Int) => [row x.2.1 2 fI64 x.1, box g2 97 [v3, .int .i64 x.2.2.1, .int .u64 x.2.2.2.1]]) ([], v8, s1.at_, s1.seed, 0)) [0, 1] ⟨by decide, rfl⟩ ?_
    refine WJ.sub (m' := (fun (x : (List Int) × Value × Int × Int × Int) => [(0, pt g2 0), (1, v6), (5, x.2.1), (6, .int .i64 x.2.2.2.2)]) ([], v8, s1.at_, s1.seed, 0)) ⟨rfl, rfl, rfl, rfl, trivial⟩ ?_
    refine WJ.loop (X := (List Int) × Value × Int × Int × Int) (fun N (x : (List Int) × Value × Int × Int × Int) => s_l22DrawHeats_l1 kj13 s1 list5 N x.1 x.2.2.1 x.2.2.2.1 x.2.2.2.2 = some r) (fun (x : (List Int) × Value × Int × Int × Int) => [(0, pt g2 0), (1, v6), (5, x.2.1), (6, .int .i64 x.2.2.2.2)]) (fun (x : (List Int) × Value × Int × Int × Int) => [row x.2.1 2 fI64 x.1, box g2 97 [v3, .int .i64 x.2.2.1, .int .u64 x.2.2.2.1]]) ?_ N ([], v8, s1.at_, s1.seed, 0) hm
    · rintro N ⟨l15, v16, x17, x18, i19⟩ hI
      have hm := hI; clear hI
      cases N with
      | zero => cases hm
      | succ N =>
      unfold s_l22DrawHeats_l1 at hm
      refine WJ.seq ?_
      refine WJ.seq ?_
      refine WJ.quiet ?_
      refine QJ.step (YldS.yld (y_move rfl)) rfl ?_
      refine QJ.step (YldS.yld (y_move rfl)) rfl ?_
      refine QJ.step (YldS.yld (y_lenS Try.runUnderlying41 hr7 rfl)) rfl ?_
      refine QJ.step (YldS.yld (y_bin rfl rfl rfl)) rfl ?_
      refine QJ.done ?_
      refine PJ.next ?_
      refine WJ.cond (t := decide (i19 < (List.length list5 : Int))) rfl (fun hb20 => ?_) (fun hb20 => ?_)
      · replace hm := ifT hm hb20
        refine WJ.skip ?_
        refine PJ.next ?_
        refine WJ.seq ?_
        refine WJ.block ?_
        refine WJ.reg ?_
        refine SJ.q (YldS.yld (y_move rfl)) rfl ?_
        refine SJ.q (YldS.yld (y_move rfl)) rfl ?_
        obtain ⟨r21, h22, hm⟩ := bindS hm
        refine SJ.call1 (k := 1) rfl Try.call54 rfl (fun w S hw hA hO => ok_s_l00Src_pick h22 w S _ (hr4.st1 hw hO) hA) rfl ?_
        rintro _ _ ⟨rfl, rfl⟩
        refine SJ.buildSlice (R := fI64) (os := [.tmp 16]) [r21.1] Try.runUnderlying42 Try.sizeOf2 Try.zeroValue2 rfl rfl rfl rfl rfl rfl fun v23 => ?_
        obtain ⟨l24, h25, hm⟩ := bindS hm
        refine SJ.append (k := 2) (R := fI64) h25 rfl Try.underlying42 el2 rfl rfl rfl (fun w hw => (hw.row_rd (k := 0) rfl)) rfl fun v26 => ?_
        refine SJ.q (YldS.yld (y_assign rfl)) rfl ?_
        refine SJ.nil ?_
        refine PJ.block_normal (PJ.next ?_)
        refine WJ.quiet ?_
        refine QJ.step (YldS.yld (y_move rfl)) rfl ?_
        refine QJ.step (YldS.yld (y_bin rfl rfl rfl)) rfl ?_
        refine QJ.step (YldS.yld (y_assign rfl)) rfl ?_
        refine QJ.done ?_
        exact PJ.round (l24, v26, r21.2.at_, r21.2.seed, w64 (i19 + 1)) [2, 1] hm ⟨rfl, rfl, rfl, rfl, trivial⟩ ⟨by decide, rfl⟩
      · replace hm := ifF hm hb20
        refine WJ.exit ?_
        refine PJ.then_exit (PJ.then_exit (PJ.block_exit ?_))
        exact PJ.joined (l15, v16, x17, x18) [0, 1] hm ⟨rfl, rfl, trivial⟩ ⟨by decide, rfl⟩
  · rintro ⟨l9, v10, x11, x12⟩ hm
    subst hk14
    obtain ⟨kj31, hk32, hm⟩ := withK_open hm
    refine WJ.join (X := Int × Int × (List Int) × Value) (fun (x : Int × Int × (List Int) × Value) => kj31 x.1 x.2.1 x.2.2.1 = some r) (fun (x : Int × Int × (List Int) × Value) => [(5, x.2.2.2)]) (fun (x : Int × Int × (List Int) × Value) => [box g2 97 [v3, .int .i64 x.1, .int .u64 x.2.1], row x.2.2.2 2 fI64 x.2.2.1]) ?_ ?_
    · clear hk32
      refine WJ.seq ?_
      refine WJ.reg ?_
      refine SJ.q (YldS.yld (y_move rfl)) rfl ?_
      obtain ⟨r33, h34, hm⟩ := bindS hm
      refine SJ.call1 (k := 1) rfl Try.call54 rfl (fun w S hw hA hO => ok_s_l00Src_pick h34 w S _ (hr4.st1 hw hO) hA) rfl ?_
      rintro _ _ ⟨rfl, rfl⟩
      refine SJ.nil ?_
      refine PJ.next ?_
      refine WJ.block ?_
      refine WJ.seq ?_
      refine WJ.quiet ?_
      refine QJ.step (YldS.yld (y_bin rfl rfl rfl)) rfl ?_
      refine QJ.step (YldS.yld (y_assign rfl)) rfl ?_
      refine QJ.done ?_
      refine PJ.next ?_
      refine WJ.cond (t := (r33.1 == 0)) rfl (fun hb35 => ?_) (fun hb35 => ?_)
      · replace hm := ifT hm hb35
        refine WJ.reg ?_
        refine SJ.q (YldS.yld (y_move rfl)) rfl ?_
        refine SJ.buildSlice (R := fI64) (os := [.const (.int .i64 0)]) [0] Try.runUnderlying42 Try.sizeOf2 Try.zeroValue2 rfl rfl rfl rfl rfl rfl fun v36 => ?_
        obtain ⟨l37, h38, hm⟩ := bindS hm
        refine SJ.append (k := 2) (R := fI64) h38 rfl Try.underlying42 el2 rfl rfl rfl (fun w hw => (hw.row_rd (k := 0) rfl)) rfl fun v39 => ?_
        refine SJ.q (YldS.yld (y_assign rfl)) rfl ?_
        refine SJ.nil ?_
        refine PJ.block_normal ?_
        exact PJ.joined (r33.2.at_, r33.2.seed, l37, v39) [1, 2] hm ⟨rfl, trivial⟩ ⟨by decide, rfl⟩
      · replace hm := ifF hm hb35
        refine WJ.seq ?_
        refine WJ.quiet ?_
        refine QJ.step (YldS.yld (y_bin rfl rfl rfl)) rfl ?_
        refine QJ.step (YldS.yld (y_assign rfl)) rfl ?_
        refine QJ.done ?_
        refine PJ.next ?_
        refine WJ.cond (t := (r33.1 == 1)) rfl (fun hb40 => ?_) (fun hb40 => ?_)
        · replace hm := ifT hm hb40
          refine WJ.seq ?_
          refine WJ.quiet ?_
          refine QJ.step (YldS.yld (y_move rfl)) rfl ?_
          refine QJ.step (YldS.yld (y_lenRow (k := 1) rfl Try.runUnderlying42 rfl)) rfl ?_
          refine QJ.step (YldS.yld (y_bin rfl rfl rfl)) rfl ?_
          refine QJ.done ?_
          refine PJ.next ?_
          refine WJ.cond (t := decide ((List.length l9 : Int) > 0)) rfl (fun hb41 => ?_) (fun hb41 => ?_)
          · replace hm := ifT hm hb41
            refine WJ.reg ?_
            refine SJ.q (YldS.yld (y_move rfl)) rfl ?_
            refine SJ.q (YldS.yld (y_move rfl)) rfl ?_
            refine SJ.buildSlice (R := fI64) (os := [.const (.int .i64 (-1)), .const (.int .i64 0), .const (.int .i64 9), .const (.int .i64 10)]) [(-1), 0, 9, 10] Try.runUnderlying42 Try.sizeOf2 Try.zeroValue2 rfl rfl rfl rfl rfl rfl fun v42 => ?_
            obtain ⟨r43, h44, hm⟩ := bindS hm
            refine SJ.call2 (k := 1) rfl Try.call73 rfl (fun w S hw hA hO hB => ok_s_l00Src_among h44 w S _ (hr4.st1 hw hO) _ (hB.row_rd (j := 0) (k := 1) rfl rfl) hA) rfl ?_
            rintro _ _ ⟨rfl, rfl⟩
            obtain ⟨e45, h46, hm⟩ := bindS hm
            refine SJ.q (YldS.yld (y_ixRow (k := 2) (R := fI64) rfl Try.runUnderlying42 Try.sizeOf2 rfl rfl h46)) rfl ?_
            refine SJ.storeRL (k := 2) (i := (Int.toNat 0)) (off := 0) (us := [.int .i64 r43.1]) (b := r43.1) rfl rfl (idx_get h46) rfl rfl Try.sizeOf2 rfl rfl rfl ?_
            refine SJ.nil ?_
            refine PJ.block_normal ?_
            exact PJ.joined (r43.2.at_, r43.2.seed, (List.set l9 (Int.toNat 0) r43.1), v10) [0, 2] hm ⟨rfl, trivial⟩ ⟨by decide, rfl⟩
          · replace hm := ifF hm hb41
            refine WJ.skip ?_
            refine PJ.block_normal ?_
            exact PJ.joined (r33.2.at_, r33.2.seed, l9, v10) [0, 1] hm ⟨rfl, trivial⟩ ⟨by decide, rfl⟩
        · replace hm := ifF hm hb40
          refine WJ.skip ?_
          refine PJ.block_normal ?_
          exact PJ.joined (r33.2.at_, r33.2.seed, l9, v10) [0, 1] hm ⟨rfl, trivial⟩ ⟨by decide, rfl⟩
    · rintro ⟨x27, x28, l29, v30⟩ hm
      subst hk32
      refine WJ.seq ?_
      refine WJ.quiet ?_
      refine QJ.step (YldS.yld (y_move rfl)) rfl ?_
      refine QJ.step (YldS.yld (y_assign rfl)) rfl ?_
      refine QJ.done ?_
      refine PJ.next ?_
      refine WJ.ret ?_
      obtain rfl := Option.some.inj hm
      refine PJ.sel (L' := [box g2 97 [v3, .int .i64 x27, .int .u64 x28], row v30 2 fI64 l29]) [0, 1] ⟨by decide, rfl⟩ ?_
      exact PJ.retn (vs := [v30]) Try.results48 ⟨rfl, trivial⟩ ⟨_, rfl, rfl⟩

set_option maxRecDepth 100000 in
set_option maxHeartbeats 1000000 in
theorem ok_s_DrawTeamTotals {N : Nat} {code1 : List UInt8} {r : (List Result) × (List Int) × (List Int)} (hm : s_DrawTeamTotals N code1 = some r) (w : World) (v2 : Value) (hr3 : RdS w (cx w).Fz v2 fByte.rp code1) :
    Calls Try.prog 18 #[v2] w (RetG (cx w) fun u L => ∃ (u1 : Value) (u2 : Value) (u3 : Value), (u = tup [u1, u2, u3] ∧ L = [row u1 114 fResult r.1, row u2 2 fI64 r.2.1, row u3 2 fI64 r.2.2])) := by
  unfold s_DrawTeamTotals at hm
  refine Calls.enter [v2] Try.func18 rfl Try.ntmps18 rfl ?_
  refine WJ.seq ?_
  refine WJ.quiet ?_
  refine QJ.step (YldS.yld (y_assign rfl)) rfl ?_
  refine QJ.step (YldS.yld (y_assign rfl)) rfl ?_
  refine QJ.step (YldS.yld (y_assign rfl)) rfl ?_
  refine QJ.done ?_
  refine PJ.next ?_
  refine WJ.seq ?_
  refine WJ.reg ?_
  refine SJ.q (YldS.yld (y_move rfl)) rfl ?_
  obtain ⟨r4, h5, hm⟩ := bindS hm
  refine SJ.call Try.call24 rfl (fun w hw => ok_s_l00From h5 w _ (hr3.st hw)) rfl ?_
  rintro _ _ ⟨g6, rfl, rfl⟩
  refine SJ.q (YldS.yld (y_assign rfl)) rfl ?_
  refine SJ.nil ?_
  refine PJ.next ?_
  refine WJ.seq ?_
  refine WJ.reg ?_
  refine SJ.q (YldS.yld (y_move rfl)) rfl ?_
  obtain ⟨r7, h8, hm⟩ := bindS hm
  refine SJ.call1 (k := 0) rfl Try.call47 rfl (fun w S hw hA hO => ok_s_l22Bent h8 w S _ (hr3.st1 hw hO) hA) rfl ?_
  rintro v9 _ ⟨_, rfl, rfl⟩
  refine SJ.q (YldS.yld (y_assign rfl)) rfl ?_
  refine SJ.nil ?_
  refine PJ.next ?_
  refine WJ.seq ?_
  refine WJ.reg ?_
  refine SJ.q (YldS.yld (y_move rfl)) rfl ?_
  refine SJ.q (YldS.yld (y_move rfl)) rfl ?_
  obtain ⟨r10, h11, hm⟩ := bindS hm
  refine SJ.call2 (k := 0) rfl Try.call48 rfl (fun w S hw hA hO hB => ok_s_l22DrawHeats h11 w S _ (hr3.st1 hw hO) _ (hB.row_rd (j := 1) (k := 0) rfl rfl) hA) rfl ?_
  rintro v12 _ ⟨_, rfl, rfl⟩
  refine SJ.q (YldS.yld (y_assign rfl)) rfl ?_
  refine SJ.nil ?_
  refine PJ.next ?_
  refine WJ.seq ?_
  refine WJ.reg ?_
  refine SJ.q (YldS.yld (y_move rfl)) rfl ?_
  refine SJ.q (YldS.yld (y_move rfl)) rfl ?_
  refine SJ.q (YldS.yld (y_move rfl)) rfl ?_
  obtain ⟨r13, h14, hm⟩ := bindS hm
  refine SJ.call1 (k := 0) rfl Try.call49 rfl (fun w S hw hA hO => ok_s_l22DrawTable h14 w S _ (hr3.st1 hw hO) hA) rfl ?_
  rintro v15 _ ⟨_, rfl, rfl⟩
  refine SJ.q (YldS.yld (y_assign rfl)) rfl ?_
  refine SJ.q (YldS.yld (y_assign rfl)) rfl ?_
  refine SJ.q (YldS.yld (y_assign rfl)) rfl ?_
  refine SJ.nil ?_
  refine PJ.next ?_
  refine WJ.ret ?_
  obtain rfl := Option.some.inj hm
  refine PJ.sel (L' := [row v9 114 fResult r7.1, row v12 2 fI64 r10.1, row v15 2 fI64 r13.1]) [3, 2, 1] ⟨by decide, rfl⟩ ?_
  exact PJ.retn (vs := [v9, v12, v15]) Try.results18 ⟨rfl, rfl, rfl, trivial⟩ ⟨_, _, _, rfl, rfl⟩

set_option maxRecDepth 100000 in
set_option maxHeartbeats 1000000 in
theorem ok_i_areHeats {N : Nat} {heats1 : List Int} {n4 : Int} {r : Bool} (hm : i_areHeats N heats1 n4 = some r) (w : World) (v2 : Value) (hr3 : RdS w (cx w).Fz v2 fI64.rp heats1) :
    Calls Try.prog 50 #[v2, .int .i64 n4] w (Ret (cx w) (.bool r)) := by
  unfold i_areHeats at hm
  refine Calls.enter [v2, .int .i64 n4] Try.func50 rfl Try.ntmps50 rfl ?_
  refine WJ.seq ?_
  refine WJ.quiet ?_
  refine QJ.step (YldS.yld (y_assign rfl)) rfl ?_
  refine QJ.done ?_
  refine PJ.next ?_
  obtain ⟨kj5, hk6, hm⟩ := withK_open hm
  refine WJ.join (X := Unit) (fun (_ : Unit) => kj5  = some r) (fun (_ : Unit) => [(0, v2), (1, .int .i64 n4)]) (fun (_ : Unit) => []) ?_ ?_
  · clear hk6
    refine WJ.seq ?_
    refine WJ.quiet ?_
    refine QJ.step (YldS.yld (y_move rfl)) rfl ?_
    refine QJ.step (YldS.yld (y_lenS Try.runUnderlying42 hr3 rfl)) rfl ?_
    refine QJ.step (YldS.yld (y_move rfl)) rfl ?_
    refine QJ.done ?_
    refine PJ.next ?_
    refine WJ.block ?_
    refine WJ.sel (L' := (fun (x : Int) => []) 0) [] ⟨List.nodup_nil, rfl⟩ ?_
    refine WJ.sub (m' := (fun (x : Int) => [(0, v2), (1, .int .i64 n4), (7, v2), (8, .int .i64 (List.length heats1 : Int)), (9, .int .i64 x)]) 0) ⟨rfl, rfl, rfl, rfl, rfl, trivial⟩ ?_
    refine WJ.loop (X := Int) (fun N (x : Int) => i_areHeats_l1 kj5 heats1 N x = some r) (fun (x : Int) => [(0, v2), (1, .int .i64 n4), (7, v2), (8, .int .i64 (List.length heats1 : Int)), (9, .int .i64 x)]) (fun (x : Int) => []) ?_ N 0 hm
    · rintro N x7 hI
      have hm := hI; clear hI
      cases N with
      | zero => cases hm
      | succ N =>
      unfold i_areHeats_l1 at hm
      refine WJ.seq ?_
      refine WJ.quiet ?_
      refine QJ.step (YldS.yld (y_bin rfl rfl rfl)) rfl ?_
      refine QJ.done ?_
      refine PJ.next ?_
      refine WJ.seq ?_
      refine WJ.cond (t := decide (x7 < (List.length heats1 : Int))) rfl (fun hb8 => ?_) (fun hb8 => ?_)
      · replace hm := ifT hm hb8
        refine WJ.skip ?_
        refine PJ.next ?_
        refine WJ.seq ?_
        refine WJ.block ?_
        refine WJ.seq ?_
        refine WJ.quiet ?_
        obtain ⟨e9, h10, hm⟩ := bindS hm
        obtain ⟨ad11, _, rfl, ha12, hy13⟩ := hr3.elem h10
        refine QJ.step (YldS.yld (hy13 Try.runUnderlying42 Try.sizeOf2 rfl rfl)) rfl ?_
        refine QJ.step (YldS.yld (y_load1 (v := .int .i64 e9) Try.isAgg2 ha12 St.frozenC rfl)) rfl ?_
        refine QJ.step (YldS.yld (y_assign rfl)) rfl ?_
        refine QJ.done ?_
        refine PJ.next ?_
        refine WJ.seq ?_
        refine WJ.quiet ?_
        refine QJ.step (YldS.yld (y_move rfl)) rfl ?_
        obtain ⟨r14, h15, hm⟩ := bindS hm
        refine QJ.step (y_call Try.call62 rfl (RetG.quiet fun w hw => ok_i_between h15 w )) rfl ?_
        refine QJ.step (YldS.yld (y_not rfl)) rfl ?_
        refine QJ.done ?_
        refine PJ.next ?_
        refine WJ.cond (t := !r14) rfl (fun hb16 => ?_) (fun hb16 => ?_)
        · replace hm := ifT hm hb16
          refine WJ.seq ?_
          refine WJ.quiet ?_
          refine QJ.step (YldS.yld (y_assign rfl)) rfl ?_
          refine QJ.done ?_
          refine PJ.next ?_
          refine WJ.ret ?_
          refine PJ.block_ret (PJ.then_ret (PJ.then_ret (PJ.block_ret (PJ.then_ret ?_))))
          obtain rfl := Option.some.inj hm
          refine PJ.sel (L' := []) [] ⟨List.nodup_nil, rfl⟩ ?_
          exact PJ.retn (vs := [.bool false]) Try.results50 ⟨rfl, trivial⟩ ⟨rfl, rfl⟩
        · replace hm := ifF hm hb16
          refine WJ.skip ?_
          refine PJ.block_normal (PJ.next ?_)
          refine WJ.quiet ?_
          refine QJ.step (YldS.yld (y_bin rfl rfl rfl)) rfl ?_
          refine QJ.step (YldS.yld (y_move rfl)) rfl ?_
          refine QJ.done ?_
          exact PJ.round (w64 (x7 + 1)) [] hm ⟨rfl, rfl, rfl, rfl, rfl, trivial⟩ ⟨List.nodup_nil, rfl⟩
      · replace hm := ifF hm hb8
        refine WJ.exit ?_
        refine PJ.then_exit (PJ.then_exit (PJ.block_exit ?_))
        exact PJ.joined () [] hm ⟨rfl, rfl, trivial⟩ ⟨List.nodup_nil, rfl⟩
  · rintro _ hm
    subst hk6
    refine WJ.seq ?_
    refine WJ.quiet ?_
    refine QJ.step (YldS.yld (y_move rfl)) rfl ?_
    refine QJ.step (YldS.yld (y_lenS Try.runUnderlying42 hr3 rfl)) rfl ?_
    refine QJ.step (YldS.yld (y_move rfl)) rfl ?_
    refine QJ.step (YldS.yld (y_bin rfl rfl rfl)) rfl ?_
    refine QJ.step (YldS.yld (y_assign rfl)) rfl ?_
    refine QJ.done ?_
    refine PJ.next ?_
    refine WJ.ret ?_
    obtain rfl := Option.some.inj hm
    refine PJ.sel (L' := []) [] ⟨List.nodup_nil, rfl⟩ ?_
    exact PJ.retn (vs := [.bool ((List.length heats1 : Int) == n4)]) Try.results50 ⟨rfl, trivial⟩ ⟨rfl, rfl⟩

set_option maxRecDepth 100000 in
set_option maxHeartbeats 1000000 in
theorem ok_i_TeamTotals {N : Nat} {list1 : List Result} {teams4 : List Int} {table7 : List Int} {r : (List Fraction) × Int} (hm : i_TeamTotals N list1 teams4 table7 = some r) (w : World) (v2 : Value) (hr3 : RdS w (cx w).Fz v2 fResult.rp list1) (v5 : Value) (hr6 : RdS w (cx w).Fz v5 fI64.rp teams4) (v8 : Value) (hr9 : RdS w (cx w).Fz v8 fI64.rp table7) :
    Calls Try.prog 19 #[v2, v5, v8] w (RetG (cx w) fun u L => ∃ (u1 : Value), (u = tup [u1, .int .i64 r.2] ∧ L = [row u1 55 fFraction r.1])) := by
  unfold i_TeamTotals at hm
  refine Calls.enter [v2, v5, v8] Try.func19 rfl Try.ntmps19 rfl ?_
  refine WJ.seq ?_
  refine WJ.quiet ?_
  refine QJ.step (YldS.yld (y_assign rfl)) rfl ?_
  refine QJ.step (YldS.yld (y_assign rfl)) rfl ?_
  refine QJ.done ?_
  refine PJ.next ?_
  refine WJ.seq ?_
  refine WJ.seq ?_
  refine WJ.quiet ?_
  refine QJ.step (YldS.yld (y_move rfl)) rfl ?_
  obtain ⟨r10, h11, hm⟩ := bindS hm
  refine QJ.step (y_call Try.call37 rfl (RetG.quiet fun w hw => ok_i_ValidResults h11 w _ (hr3.st hw))) rfl ?_
  refine QJ.step (YldS.yld (y_not rfl)) rfl ?_
  refine QJ.done ?_
  refine PJ.next ?_
  refine WJ.cond (t := !r10) rfl (fun hb12 => ?_) (fun hb12 => ?_)
  · replace hm := ifT hm hb12
    refine WJ.seq ?_
    refine WJ.quiet ?_
    refine QJ.step (YldS.yld (y_assign rfl)) rfl ?_
    refine QJ.step (YldS.yld (y_assign rfl)) rfl ?_
    refine QJ.done ?_
    refine PJ.next ?_
    refine WJ.ret ?_
    refine PJ.then_ret ?_
    refine PJ.nil_row 55 fFraction ?_
    obtain rfl := Option.some.inj hm
    refine PJ.sel (L' := [row (.slice none 0 0) 55 fFraction []]) [0] ⟨by decide, rfl⟩ ?_
    exact PJ.retn (vs := [(.slice none 0 0), .int .i64 1]) Try.results19 ⟨rfl, rfl, trivial⟩ ⟨_, rfl, rfl⟩
  · replace hm := ifF hm hb12
    refine WJ.skip ?_
    refine PJ.next ?_
    refine WJ.seq ?_
    refine WJ.seq ?_
    refine WJ.quiet ?_
    refine QJ.step (YldS.yld (y_move rfl)) rfl ?_
    refine QJ.step (YldS.yld (y_move rfl)) rfl ?_
    refine QJ.step (YldS.yld (y_lenS Try.runUnderlying41 hr3 rfl)) rfl ?_
    obtain ⟨r13, h14, hm⟩ := bindS hm
    refine QJ.step (y_call Try.call50 rfl (RetG.quiet fun w hw => ok_i_areHeats h14 w _ (hr6.st hw))) rfl ?_
    refine QJ.step (YldS.yld (y_not rfl)) rfl ?_
    refine QJ.step (YldS.yld (y_move rfl)) rfl ?_
    obtain ⟨t15, h16, hm⟩ := bindS hm
    refine QJ.cut 4 [(0, v2), (1, v5), (2, v8), (25, .bool t15)] ?_ ?_
    · rcases Bool.eq_false_or_eq_true (!r13) with hb17 | hb17
      · obtain rfl := orT h16 hb17
        refine QJ.off rfl rfl (cB hb17) rfl rfl ?_
        refine QJ.off rfl rfl (cB hb17) rfl rfl ?_
        refine QJ.off rfl rfl (cB hb17) rfl rfl ?_
        refine QJ.step (YldS.yld (y_pick_t (cB hb17) rfl)) rfl ?_
        exact QJ.cut_end ⟨rfl, rfl, rfl, rfl, trivial⟩
      · replace h16 := orF h16 hb17
        refine QJ.on rfl rfl (cB hb17) (YldS.yld (y_move rfl)) rfl ?_
        obtain ⟨r18, h19, h16⟩ := bindS h16
        refine QJ.on rfl rfl (cB hb17) (y_call Try.call38 rfl (RetG.quiet fun w hw => ok_i_isPointTable h19 w _ (hr9.st hw))) rfl ?_
        refine QJ.on rfl rfl (cB hb17) (YldS.yld (y_not rfl)) rfl ?_
        refine QJ.step (YldS.yld (y_pick_f (cB hb17) rfl)) rfl ?_
        obtain rfl := Option.some.inj h16
        exact QJ.cut_end ⟨rfl, rfl, rfl, rfl, trivial⟩
    refine QJ.done ?_
    refine PJ.next ?_
    refine WJ.cond (t := t15) rfl (fun hb20 => ?_) (fun hb20 => ?_)
    · replace hm := ifT hm hb20
      refine WJ.seq ?_
      refine WJ.quiet ?_
      refine QJ.step (YldS.yld (y_assign rfl)) rfl ?_
      refine QJ.step (YldS.yld (y_assign rfl)) rfl ?_
      refine QJ.done ?_
      refine PJ.next ?_
      refine WJ.ret ?_
      refine PJ.then_ret ?_
      refine PJ.nil_row 55 fFraction ?_
      obtain rfl := Option.some.inj hm
      refine PJ.sel (L' := [row (.slice none 0 0) 55 fFraction []]) [0] ⟨by decide, rfl⟩ ?_
      exact PJ.retn (vs := [(.slice none 0 0), .int .i64 2]) Try.results19 ⟨rfl, rfl, trivial⟩ ⟨_, rfl, rfl⟩
    · replace hm := ifF hm hb20
      refine WJ.skip ?_
      refine PJ.next ?_
      refine WJ.seq ?_
      refine WJ.reg ?_
      obtain ⟨l21, h22, hm⟩ := bindS hm
      refine SJ.makeSlice (R := fFraction) (z := (Fraction.mk 0 0)) h22 Try.underlying47 el55 rfl rfl rfl fun v23 => ?_
      refine SJ.q (YldS.yld (y_assign rfl)) rfl ?_
      refine SJ.nil ?_
      refine PJ.next ?_
      obtain ⟨kj25, hk26, hm⟩ := withK_open hm
      refine WJ.join (X := (List Fraction)) (fun (x : (List Fraction)) => kj25 x = some r) (fun (x : (List Fraction)) => [(0, v2), (1, v5), (2, v8), (8, v23)]) (fun (x : (List Fraction)) => [row v23 55 fFraction x]) ?_ ?_
      · clear hk26
        refine WJ.seq ?_
        refine WJ.quiet ?_
        refine QJ.step (YldS.yld (y_move rfl)) rfl ?_
        refine QJ.step (YldS.yld (y_lenRow (k := 0) rfl Try.runUnderlying47 rfl)) rfl ?_
        refine QJ.step (YldS.yld (y_move rfl)) rfl ?_
        refine QJ.done ?_
        refine PJ.next ?_
        refine WJ.block ?_
        refine WJ.sel (L' := (fun (x : (List Fraction) × Int) => [row v23 55 fFraction x.1]) (l21, 0)) [0] ⟨by decide, rfl⟩ ?_
        refine WJ.sub (m' := (fun (x : (List Fraction) × Int) => [(0, v2), (1, v5), (2, v8), (8, v23), (28, .int .i64 (List.length l21 : Int)), (29, .int .i64 x.2)]) (l21, 0)) ⟨rfl, rfl, rfl, rfl, rfl, rfl, trivial⟩ ?_
        refine WJ.loop (X := (List Fraction) × Int) (fun N (x : (List Fraction) × Int) => i_TeamTotals_l1 kj25 l21 N x.1 x.2 = some r) (fun (x : (List Fraction) × Int) => [(0, v2), (1, v5), (2, v8), (8, v23), (28, .int .i64 (List.length l21 : Int)), (29, .int .i64 x.2)]) (fun (x : (List Fraction) × Int) => [row v23 55 fFraction x.1]) ?_ N (l21, 0) hm
        · rintro N ⟨l27, x28⟩ hI
          have hm := hI; clear hI
          cases N with
          | zero => cases hm
          | succ N =>
          unfold i_TeamTotals_l1 at hm
          refine WJ.seq ?_
          refine WJ.quiet ?_
          refine QJ.step (YldS.yld (y_bin rfl rfl rfl)) rfl ?_
          refine QJ.done ?_
          refine PJ.next ?_
          refine WJ.seq ?_
          refine WJ.cond (t := decide (x28 < (List.length l21 : Int))) rfl (fun hb29 => ?_) (fun hb29 => ?_)
          · replace hm := ifT hm hb29
            refine WJ.skip ?_
            refine PJ.next ?_
            refine WJ.seq ?_
            refine WJ.block ?_
            refine WJ.seq ?_
            refine WJ.quiet ?_
            refine QJ.step (YldS.yld (y_move rfl)) rfl ?_
            refine QJ.step (YldS.yld (y_assign rfl)) rfl ?_
            refine QJ.done ?_
            refine PJ.next ?_
            refine WJ.reg ?_
            refine SJ.q (YldS.yld (y_move rfl)) rfl ?_
            refine SJ.q (YldS.yld (y_move rfl)) rfl ?_
            obtain ⟨e30, h31, hm⟩ := bindS hm
            refine SJ.q (YldS.yld (y_ixRow (k := 0) (R := fFraction) rfl Try.runUnderlying47 Try.sizeOf55 rfl rfl h31)) rfl ?_
            refine SJ.q (YldS.yld (y_fldR fld55_1 rfl)) rfl ?_
            refine SJ.storeRL (k := 0) (i := (Int.toNat x28)) (off := 1) (us := [.int .i64 1]) (b := (Fraction.mk e30.num 1)) rfl rfl (idx_get h31) rfl rfl Try.sizeOf2 rfl rfl rfl ?_
            refine SJ.nil ?_
            refine PJ.block_normal (PJ.next ?_)
            refine WJ.quiet ?_
            refine QJ.step (YldS.yld (y_bin rfl rfl rfl)) rfl ?_
            refine QJ.step (YldS.yld (y_move rfl)) rfl ?_
            refine QJ.done ?_
            exact PJ.round ((List.set l27 (Int.toNat x28) (Fraction.mk e30.num 1)), w64 (x28 + 1)) [0] hm ⟨rfl, rfl, rfl, rfl, rfl, rfl, trivial⟩ ⟨by decide, rfl⟩
          · replace hm := ifF hm hb29
            refine WJ.exit ?_
            refine PJ.then_exit (PJ.then_exit (PJ.block_exit ?_))
            exact PJ.joined l27 [0] hm ⟨rfl, rfl, rfl, rfl, trivial⟩ ⟨by decide, rfl⟩
      · rintro l24 hm
        subst hk26
        obtain ⟨kj33, hk34, hm⟩ := withK_open hm
        refine WJ.join (X := (List Fraction)) (fun (x : (List Fraction)) => kj33 x = some r) (fun (x : (List Fraction)) => [(8, v23)]) (fun (x : (List Fraction)) => [row v23 55 fFraction x]) ?_ ?_
        · clear hk34
          refine WJ.seq ?_
          refine WJ.reg ?_
          refine SJ.q (YldS.yld (y_move rfl)) rfl ?_
          refine SJ.q (YldS.yld (y_move rfl)) rfl ?_
          obtain ⟨r35, h36, hm⟩ := bindS hm
          refine SJ.call Try.call45 rfl (fun w hw => ok_i_pointsOf h36 w _ (hr3.st hw) _ (hr9.st hw)) rfl ?_
          rintro v37 _ ⟨_, rfl, rfl⟩
          refine SJ.q (YldS.yld (y_lenRow (k := 0) rfl Try.runUnderlying47 rfl)) rfl ?_
          refine SJ.q (YldS.yld (y_move rfl)) rfl ?_
          refine SJ.nil ?_
          refine PJ.next ?_
          refine WJ.block ?_
          refine WJ.sel (L' := (fun (x : (List Fraction) × Int) => [row v37 55 fFraction r35, row v23 55 fFraction x.1]) (l24, 0)) [0, 1] ⟨by decide, rfl⟩ ?_
          refine WJ.sub (m' := (fun (x : (List Fraction) × Int) => [(1, v5), (8, v23), (39, v37), (40, .int .i64 (List.length r35 : Int)), (41, .int .i64 x.2)]) (l24, 0)) ⟨rfl, rfl, rfl, rfl, rfl, trivial⟩ ?_
          refine WJ.loop (X := (List Fraction) × Int) (fun N (x : (List Fraction) × Int) => i_TeamTotals_l2 kj33 teams4 r35 N x.1 x.2 = some r) (fun (x : (List Fraction) × Int) => [(1, v5), (8, v23), (39, v37), (40, .int .i64 (List.length r35 : Int)), (41, .int .i64 x.2)]) (fun (x : (List Fraction) × Int) => [row v37 55 fFraction r35, row v23 55 fFraction x.1]) ?_ N (l24, 0) hm
          · rintro N ⟨l38, x39⟩ hI
            have hm := hI; clear hI
            cases N with
            | zero => cases hm
            | succ N =>
            unfold i_TeamTotals_l2 at hm
            refine WJ.seq ?_
            refine WJ.quiet ?_
            refine QJ.step (YldS.yld (y_bin rfl rfl rfl)) rfl ?_
            refine QJ.done ?_
            refine PJ.next ?_
            refine WJ.seq ?_
            refine WJ.cond (t := decide (x39 < (List.length r35 : Int))) rfl (fun hb40 => ?_) (fun hb40 => ?_)
            · replace hm := ifT hm hb40
              refine WJ.skip ?_
              refine PJ.next ?_
              refine WJ.seq ?_
              refine WJ.block ?_
              refine WJ.seq ?_
              refine WJ.reg ?_
              refine SJ.q (YldS.yld (y_move rfl)) rfl ?_
              obtain ⟨e41, h42, hm⟩ := bindS hm
              refine SJ.q (YldS.yld (y_ixRow (k := 0) (R := fFraction) rfl Try.runUnderlying47 Try.sizeOf55 rfl rfl h42)) rfl ?_
              refine SJ.q (YldS.yld (y_loadRN (k := 0) (i := (Int.toNat x39)) (off := 0) (us := [.int .i64 e41.num, .int .i64 e41.den]) rfl Try.isAgg55 Try.sizeOf55 rfl (idx_get h42) rfl)) rfl ?_
              refine SJ.alloc (cs := [.int .i64 0, .int .i64 0]) Try.zeroValue55 rfl rfl fun g43 => ?_
              refine SJ.q (YldS.yld (y_assign rfl)) rfl ?_
              refine SJ.storeL (k := 0) (off := 0) (us := [.int .i64 e41.num, .int .i64 e41.den]) rfl rfl rfl rfl Try.sizeOf55 rfl rfl ?_
              refine SJ.nil ?_
              refine PJ.next ?_
              refine WJ.seq ?_
              refine WJ.reg ?_
              refine SJ.q (YldS.yld (y_move rfl)) rfl ?_
              refine SJ.q (YldS.yld (y_move rfl)) rfl ?_
              refine SJ.q (YldS.yld (y_move rfl)) rfl ?_
              obtain ⟨e44, h45, hm⟩ := bindS hm
              obtain ⟨ad46, _, rfl, ha47, hy48⟩ := hr6.elem h45
              refine SJ.q (YldS.yld (hy48 Try.runUnderlying42 Try.sizeOf2 rfl rfl)) rfl ?_
              refine SJ.q (YldS.yld (y_load1 (v := .int .i64 e44) Try.isAgg2 ha47 St.frozenC rfl)) rfl ?_
              obtain ⟨e49, h50, hm⟩ := bindS hm
              refine SJ.q (YldS.yld (y_ixRow (k := 2) (R := fFraction) rfl Try.runUnderlying47 Try.sizeOf55 rfl rfl h50)) rfl ?_
              refine SJ.q (YldS.yld (y_loadRN (k := 2) (i := (Int.toNat e44)) (off := 0) (us := [.int .i64 e49.num, .int .i64 e49.den]) rfl Try.isAgg55 Try.sizeOf55 rfl (idx_get h50) rfl)) rfl ?_
              refine SJ.alloc (cs := [.int .i64 0, .int .i64 0]) Try.zeroValue55 rfl rfl fun g51 => ?_
              refine SJ.storeL (k := 0) (off := 0) (us := [.int .i64 e49.num, .int .i64 e49.den]) rfl rfl rfl rfl Try.sizeOf55 rfl rfl ?_
              refine SJ.nil ?_
              refine PJ.next ?_
              obtain ⟨e52, h53, hm⟩ := bindS hm
              obtain ⟨ad54, _, rfl, ha55, hy56⟩ := hr6.elem h53
              obtain ⟨r57, h58, hm⟩ := bindS hm
              obtain ⟨e59, h60, hm⟩ := bindS hm
              refine WJ.draws (N := 24) (listed0 := #[false, false, false, false, false, false, false, false, false, false, false, false, false, false, false, false, false, false, false, false, false, false, false, false]) [box g51 55 [.int .i64 e49.num, .int .i64 e49.den], box g43 55 [.int .i64 e41.num, .int .i64 e41.den], row v37 55 fFraction r35] follows rfl rfl ?_
              refine RJ.first 0 (listed' := #[true, false, false, false, false, false, false, false, false, false, false, false, false, false, false, false, false, false, false, false, false, false, false, false]) [0, 1, 2] rfl (by kernel_rfl) rfl ⟨by decide, rfl⟩ (y_move rfl) rfl ?_
              refine RJ.first 1 (listed' := #[true, true, false, false, false, false, false, false, false, false, false, false, false, false, false, false, false, false, false, false, false, false, false, false]) [0, 1, 2] rfl (by kernel_rfl) rfl ⟨by decide, rfl⟩ (y_move rfl) rfl ?_
              refine RJ.first 2 (listed' := #[true, true, true, false, false, false, false, false, false, false, false, false, false, false, false, false, false, false, false, false, false, false, false, false]) [0, 1, 2] rfl (by kernel_rfl) rfl ⟨by decide, rfl⟩ (y_move rfl) rfl ?_
              refine RJ.first 3 (listed' := #[true, true, true, true, false, false, false, false, false, false, false, false, false, false, false, false, false, false, false, false, false, false, false, false]) [0, 1, 2] rfl (by kernel_rfl) rfl ⟨by decide, rfl⟩ (hy56 Try.runUnderlying42 Try.sizeOf2 rfl rfl) rfl ?_
              refine RJ.first 4 (listed' := #[true, true, true, true, true, false, false, false, false, false, false, false, false, false, false, false, false, false, false, false, false, false, false, false]) [0, 1, 2] rfl (by kernel_rfl) rfl ⟨by decide, rfl⟩ (y_load1 (v := .int .i64 e52) Try.isAgg2 ha55 St.frozenC rfl) rfl ?_
              refine RJ.first 5 (listed' := #[true, true, true, true, true, true, false, false, false, false, false, false, false, false, false, false, false, false, false, false, false, false, false, false]) [0, 1, 2] rfl (by kernel_rfl) rfl ⟨by decide, rfl⟩ (y_fldB (o := 0) fld55_0 rfl) rfl ?_
              refine RJ.first 6 (listed' := #[true, true, true, true, true, true, true, false, false, false, false, false, false, false, false, false, false, false, false, false, false, false, false, false]) [0, 1, 2] rfl (by kernel_rfl) rfl ⟨by decide, rfl⟩ (y_loadB (k := 0) (off := 0) (v := .int .i64 e49.num) rfl Try.isAgg2 rfl rfl) rfl ?_
              refine RJ.first 7 (listed' := #[true, true, true, true, true, true, true, true, false, false, false, false, false, false, false, false, false, false, false, false, false, false, false, false]) [0, 1, 2] rfl (by kernel_rfl) rfl ⟨by decide, rfl⟩ (y_fldB (o := 0) fld55_1 rfl) rfl ?_
              refine RJ.first 8 (listed' := #[true, true, true, true, true, true, true, true, true, false, false, false, false, false, false, false, false, false, false, false, false, false, false, false]) [0, 1, 2] rfl (by kernel_rfl) rfl ⟨by decide, rfl⟩ (y_loadB (k := 1) (off := 1) (v := .int .i64 e41.den) rfl Try.isAgg2 rfl rfl) rfl ?_
              refine RJ.first 9 (listed' := #[true, true, true, true, true, true, true, true, true, true, false, false, false, false, false, false, false, false, false, false, false, false, false, false]) [0, 1, 2] rfl (by kernel_rfl) rfl ⟨by decide, rfl⟩ (y_bin rfl rfl rfl) rfl ?_
              refine RJ.first 10 (listed' := #[true, true, true, true, true, true, true, true, true, true, true, false, false, false, false, false, false, false, false, false, false, false, false, false]) [0, 1, 2] rfl (by kernel_rfl) rfl ⟨by decide, rfl⟩ (y_fldB (o := 0) fld55_0 rfl) rfl ?_
              refine RJ.first 11 (listed' := #[true, true, true, true, true, true, true, true, true, true, true, true, false, false, false, false, false, false, false, false, false, false, false, false]) [0, 1, 2] rfl (by kernel_rfl) rfl ⟨by decide, rfl⟩ (y_loadB (k := 1) (off := 0) (v := .int .i64 e41.num) rfl Try.isAgg2 rfl rfl) rfl ?_
              refine RJ.first 12 (listed' := #[true, true, true, true, true, true, true, true, true, true, true, true, true, false, false, false, false, false, false, false, false, false, false, false]) [0, 1, 2] rfl (by kernel_rfl) rfl ⟨by decide, rfl⟩ (y_fldB (o := 0) fld55_1 rfl) rfl ?_
              refine RJ.first 13 (listed' := #[true, true, true, true, true, true, true, true, true, true, true, true, true, true, false, false, false, false, false, false, false, false, false, false]) [0, 1, 2] rfl (by kernel_rfl) rfl ⟨by decide, rfl⟩ (y_loadB (k := 0) (off := 1) (v := .int .i64 e49.den) rfl Try.isAgg2 rfl rfl) rfl ?_
              refine RJ.first 14 (listed' := #[true, true, true, true, true, true, true, true, true, true, true, true, true, true, true, false, false, false, false, false, false, false, false, false]) [0, 1, 2] rfl (by kernel_rfl) rfl ⟨by decide, rfl⟩ (y_bin rfl rfl rfl) rfl ?_
              refine RJ.first 15 (listed' := #[true, true, true, true, true, true, true, true, true, true, true, true, true, true, true, true, false, false, false, false, false, false, false, false]) [0, 1, 2] rfl (by kernel_rfl) rfl ⟨by decide, rfl⟩ (y_bin rfl rfl rfl) rfl ?_
              refine RJ.first 16 (listed' := #[true, true, true, true, true, true, true, true, true, true, true, true, true, true, true, true, true, false, false, false, false, false, false, false]) [0, 1, 2] rfl (by kernel_rfl) rfl ⟨by decide, rfl⟩ (y_fldB (o := 0) fld55_1 rfl) rfl ?_
              refine RJ.first 17 (listed' := #[true, true, true, true, true, true, true, true, true, true, true, true, true, true, true, true, true, true, false, false, false, false, false, false]) [0, 1, 2] rfl (by kernel_rfl) rfl ⟨by decide, rfl⟩ (y_loadB (k := 0) (off := 1) (v := .int .i64 e49.den) rfl Try.isAgg2 rfl rfl) rfl ?_
              refine RJ.first 18 (listed' := #[true, true, true, true, true, true, true, true, true, true, true, true, true, true, true, true, true, true, true, false, false, false, false, false]) [0, 1, 2] rfl (by kernel_rfl) rfl ⟨by decide, rfl⟩ (y_fldB (o := 0) fld55_1 rfl) rfl ?_
              refine RJ.first 19 (listed' := #[true, true, true, true, true, true, true, true, true, true, true, true, true, true, true, true, true, true, true, true, false, false, false, false]) [0, 1, 2] rfl (by kernel_rfl) rfl ⟨by decide, rfl⟩ (y_loadB (k := 1) (off := 1) (v := .int .i64 e41.den) rfl Try.isAgg2 rfl rfl) rfl ?_
              refine RJ.first 20 (listed' := #[true, true, true, true, true, true, true, true, true, true, true, true, true, true, true, true, true, true, true, true, true, false, false, false]) [0, 1, 2] rfl (by kernel_rfl) rfl ⟨by decide, rfl⟩ (y_bin rfl rfl rfl) rfl ?_
              refine RJ.step1 21 [0, 1, 2] (by kernel_rfl) ⟨by decide, rfl⟩ ?_
              refine RO.of (listed' := #[true, true, true, true, true, true, true, true, true, true, true, true, true, true, true, true, true, true, true, true, true, true, false, false]) rfl rfl ?_
              refine SJ.q (y_call Try.call51 rfl (RetG.quiet fun w hw => ok_i_lowest h58 w )) rfl ?_
              refine SJ.nil ?_
              refine PJ.draw ?_
              refine RJ.step1 22 [0, 1, 2] (by kernel_rfl) ⟨by decide, rfl⟩ ?_
              refine RO.of (listed' := #[true, true, true, true, true, true, true, true, true, true, true, true, true, true, true, true, true, true, true, true, true, true, true, false]) rfl rfl ?_
              refine SJ.q (YldS.yld (y_ixRow (k := 3) (R := fFraction) rfl Try.runUnderlying47 Try.sizeOf55 rfl rfl h60)) rfl ?_
              refine SJ.nil ?_
              refine PJ.draw ?_
              refine RJ.step1 23 [0, 1, 2] (by kernel_rfl) ⟨by decide, rfl⟩ ?_
              refine RO.of (listed' := #[true, true, true, true, true, true, true, true, true, true, true, true, true, true, true, true, true, true, true, true, true, true, true, true]) rfl rfl ?_
              refine SJ.storeRL (k := 3) (i := (Int.toNat e52)) (off := 0) (us := [.int .i64 r57.num, .int .i64 r57.den]) (b := r57) rfl rfl (idx_get h60) rfl rfl Try.sizeOf55 rfl rfl rfl ?_
              refine SJ.nil ?_
              refine PJ.draw ?_
              refine RJ.fin [0, 1, 2] (by kernel_rfl) ⟨by decide, rfl⟩ ?_
              refine PJ.block_normal (PJ.next ?_)
              refine WJ.quiet ?_
              refine QJ.step (YldS.yld (y_bin rfl rfl rfl)) rfl ?_
              refine QJ.step (YldS.yld (y_move rfl)) rfl ?_
              refine QJ.done ?_
              exact PJ.round ((List.set l38 (Int.toNat e52) r57), w64 (x39 + 1)) [2, 3] hm ⟨rfl, rfl, rfl, rfl, rfl, trivial⟩ ⟨by decide, rfl⟩
            · replace hm := ifF hm hb40
              refine WJ.exit ?_
              refine PJ.then_exit (PJ.then_exit (PJ.block_exit ?_))
              exact PJ.joined l38 [1] hm ⟨rfl, trivial⟩ ⟨by decide, rfl⟩
        · rintro l32 hm
          subst hk34
          refine WJ.seq ?_
          refine WJ.quiet ?_
          refine QJ.step (YldS.yld (y_move rfl)) rfl ?_
          refine QJ.step (YldS.yld (y_assign rfl)) rfl ?_
          refine QJ.step (YldS.yld (y_assign rfl)) rfl ?_
          refine QJ.done ?_
          refine PJ.next ?_
          refine WJ.ret ?_
          obtain rfl := Option.some.inj hm
          refine PJ.sel (L' := [row v23 55 fFraction l32]) [0] ⟨by decide, rfl⟩ ?_
          exact PJ.retn (vs := [v23, .int .i64 0]) Try.results19 ⟨rfl, rfl, trivial⟩ ⟨_, rfl, rfl⟩

set_option maxRecDepth 100000 in
set_option maxHeartbeats 1000000 in
theorem ok_s_l22Add {N : Nat} {a1 : Fraction} {b2 : Fraction} {r : Fraction} (hm : s_l22Add N a1 b2 = some r) (w : World)  :
    Calls Try.prog 53 #[.agg (Fraction.enc a1).toArray, .agg (Fraction.enc b2).toArray] w (Ret (cx w) (.agg (Fraction.enc r).toArray)) := by
  unfold s_l22Add at hm
  refine Calls.enter [.agg (Fraction.enc a1).toArray, .agg (Fraction.enc b2).toArray] Try.func53 rfl Try.ntmps53 rfl ?_
  refine WJ.seq ?_
  refine WJ.reg ?_
  refine SJ.box (cs := [.int .i64 a1.num, .int .i64 a1.den]) rfl rfl rfl fun g3 => ?_
  refine SJ.box (cs := [.int .i64 b2.num, .int .i64 b2.den]) rfl rfl rfl fun g4 => ?_
  refine SJ.alloc (cs := [.int .i64 0, .int .i64 0]) Try.zeroValue55 rfl rfl fun g5 => ?_
  refine SJ.nil ?_
  refine PJ.next ?_
  refine WJ.seq ?_
  refine WJ.quiet ?_
  refine QJ.step (YldS.yld (y_fldB (o := 0) fld55_1 rfl)) rfl ?_
  refine QJ.step (YldS.yld (y_loadB (k := 2) (off := 1) (v := .int .i64 a1.den) rfl Try.isAgg2 rfl rfl)) rfl ?_
  refine QJ.step (YldS.yld (y_fldB (o := 0) fld55_1 rfl)) rfl ?_
  refine QJ.step (YldS.yld (y_loadB (k := 1) (off := 1) (v := .int .i64 b2.den) rfl Try.isAgg2 rfl rfl)) rfl ?_
  obtain ⟨r6, h7, hm⟩ := bindS hm
  refine QJ.step (y_call Try.call77 rfl (RetG.quiet fun w hw => ok_s_l00Gcd h7 w )) rfl ?_
  refine QJ.step (YldS.yld (y_assign rfl)) rfl ?_
  refine QJ.done ?_
  refine PJ.next ?_
  refine WJ.seq ?_
  obtain ⟨q8, h9, hm⟩ := bindS hm
  obtain ⟨q10, h11, hm⟩ := bindS hm
  obtain ⟨q12, h13, hm⟩ := bindS hm
  obtain ⟨r14, h15, hm⟩ := bindS hm
  refine WJ.draws (N := 24) (listed0 := #[false, false, false, false, false, false, false, false, false, false, false, false, false, false, false, false, false, false, false, false, false, false, false, false]) [box g4 55 [.int .i64 b2.num, .int .i64 b2.den], box g3 55 [.int .i64 a1.num, .int .i64 a1.den]] follows rfl rfl ?_
  refine RJ.first 0 (listed' := #[true, false, false, false, false, false, false, false, false, false, false, false, false, false, false, false, false, false, false, false, false, false, false, false]) [1, 2] rfl (by kernel_rfl) rfl ⟨by decide, rfl⟩ (y_fldB (o := 0) fld55_0 rfl) rfl ?_
  refine RJ.first 1 (listed' := #[true, true, false, false, false, false, false, false, false, false, false, false, false, false, false, false, false, false, false, false, false, false, false, false]) [1, 2] rfl (by kernel_rfl) rfl ⟨by decide, rfl⟩ (y_loadB (k := 1) (off := 0) (v := .int .i64 a1.num) rfl Try.isAgg2 rfl rfl) rfl ?_
  refine RJ.first 2 (listed' := #[true, true, true, false, false, false, false, false, false, false, false, false, false, false, false, false, false, false, false, false, false, false, false, false]) [1, 2] rfl (by kernel_rfl) rfl ⟨by decide, rfl⟩ (y_fldB (o := 0) fld55_1 rfl) rfl ?_
  refine RJ.first 3 (listed' := #[true, true, true, true, false, false, false, false, false, false, false, false, false, false, false, false, false, false, false, false, false, false, false, false]) [1, 2] rfl (by kernel_rfl) rfl ⟨by decide, rfl⟩ (y_loadB (k := 0) (off := 1) (v := .int .i64 b2.den) rfl Try.isAgg2 rfl rfl) rfl ?_
  refine RJ.first 4 (listed' := #[true, true, true, true, true, false, false, false, false, false, false, false, false, false, false, false, false, false, false, false, false, false, false, false]) [1, 2] rfl (by kernel_rfl) rfl ⟨by decide, rfl⟩ (y_move rfl) rfl ?_
  refine RJ.first 5 (listed' := #[true, true, true, true, true, true, false, false, false, false, false, false, false, false, false, false, false, false, false, false, false, false, false, false]) [1, 2] rfl (by kernel_rfl) rfl ⟨by decide, rfl⟩ (y_quo' h9 rfl rfl) rfl ?_
  refine RJ.first 6 (listed' := #[true, true, true, true, true, true, true, false, false, false, false, false, false, false, false, false, false, false, false, false, false, false, false, false]) [1, 2] rfl (by kernel_rfl) rfl ⟨by decide, rfl⟩ (y_bin rfl rfl rfl) rfl ?_
  refine RJ.first 7 (listed' := #[true, true, true, true, true, true, true, true, false, false, false, false, false, false, false, false, false, false, false, false, false, false, false, false]) [1, 2] rfl (by kernel_rfl) rfl ⟨by decide, rfl⟩ (y_fldB (o := 0) fld55_0 rfl) rfl ?_
  refine RJ.first 8 (listed' := #[true, true, true, true, true, true, true, true, true, false, false, false, false, false, false, false, false, false, false, false, false, false, false, false]) [1, 2] rfl (by kernel_rfl) rfl ⟨by decide, rfl⟩ (y_loadB (k := 0) (off := 0) (v := .int .i64 b2.num) rfl Try.isAgg2 rfl rfl) rfl ?_
  refine RJ.first 9 (listed' := #[true, true, true, true, true, true, true, true, true, true, false, false, false, false, false, false, false, false, false, false, false, false, false, false]) [1, 2] rfl (by kernel_rfl) rfl ⟨by decide, rfl⟩ (y_fldB (o := 0) fld55_1 rfl) rfl ?_
  refine RJ.first 10 (listed' := #[true, true, true, true, true, true, true, true, true, true, true, false, false, false, false, false, false, false, false, false, false, false, false, false]) [1, 2] rfl (by kernel_rfl) rfl ⟨by decide, rfl⟩ (y_loadB (k := 1) (off := 1) (v := .int .i64 a1.den) rfl Try.isAgg2 rfl rfl) rfl ?_
  refine RJ.first 11 (listed' := #[true, true, true, true, true, true, true, true, true, true, true, true, false, false, false, false, false, false, false, false, false, false, false, false]) [1, 2] rfl (by kernel_rfl) rfl ⟨by decide, rfl⟩ (y_move rfl) rfl ?_
  refine RJ.first 12 (listed' := #[true, true, true, true, true, true, true, true, true, true, true, true, true, false, false, false, false, false, false, false, false, false, false, false]) [1, 2] rfl (by kernel_rfl) rfl ⟨by decide, rfl⟩ (y_quo' h11 rfl rfl) rfl ?_
  refine RJ.first 13 (listed' := #[true, true, true, true, true, true, true, true, true, true, true, true, true, true, false, false, false, false, false, false, false, false, false, false]) [1, 2] rfl (by kernel_rfl) rfl ⟨by decide, rfl⟩ (y_bin rfl rfl rfl) rfl ?_
  refine RJ.first 14 (listed' := #[true, true, true, true, true, true, true, true, true, true, true, true, true, true, true, false, false, false, false, false, false, false, false, false]) [1, 2] rfl (by kernel_rfl) rfl ⟨by decide, rfl⟩ (y_bin rfl rfl rfl) rfl ?_
  refine RJ.first 15 (listed' := #[true, true, true, true, true, true, true, true, true, true, true, true, true, true, true, true, false, false, false, false, false, false, false, false]) [1, 2] rfl (by kernel_rfl) rfl ⟨by decide, rfl⟩ (y_fldB (o := 0) fld55_1 rfl) rfl ?_
  refine RJ.first 16 (listed' := #[true, true, true, true, true, true, true, true, true, true, true, true, true, true, true, true, true, false, false, false, false, false, false, false]) [1, 2] rfl (by kernel_rfl) rfl ⟨by decide, rfl⟩ (y_loadB (k := 1) (off := 1) (v := .int .i64 a1.den) rfl Try.isAgg2 rfl rfl) rfl ?_
  refine RJ.first 17 (listed' := #[true, true, true, true, true, true, true, true, true, true, true, true, true, true, true, true, true, true, false, false, false, false, false, false]) [1, 2] rfl (by kernel_rfl) rfl ⟨by decide, rfl⟩ (y_move rfl) rfl ?_
  refine RJ.first 18 (listed' := #[true, true, true, true, true, true, true, true, true, true, true, true, true, true, true, true, true, true, true, false, false, false, false, false]) [1, 2] rfl (by kernel_rfl) rfl ⟨by decide, rfl⟩ (y_quo' h13 rfl rfl) rfl ?_
  refine RJ.first 19 (listed' := #[true, true, true, true, true, true, true, true, true, true, true, true, true, true, true, true, true, true, true, true, false, false, false, false]) [1, 2] rfl (by kernel_rfl) rfl ⟨by decide, rfl⟩ (y_fldB (o := 0) fld55_1 rfl) rfl ?_
  refine RJ.first 20 (listed' := #[true, true, true, true, true, true, true, true, true, true, true, true, true, true, true, true, true, true, true, true, true, false, false, false]) [1, 2] rfl (by kernel_rfl) rfl ⟨by decide, rfl⟩ (y_loadB (k := 0) (off := 1) (v := .int .i64 b2.den) rfl Try.isAgg2 rfl rfl) rfl ?_
  refine RJ.first 21 (listed' := #[true, true, true, true, true, true, true, true, true, true, true, true, true, true, true, true, true, true, true, true, true, true, false, false]) [1, 2] rfl (by kernel_rfl) rfl ⟨by decide, rfl⟩ (y_bin rfl rfl rfl) rfl ?_
  refine RJ.step1 22 [1, 2] (by kernel_rfl) ⟨by decide, rfl⟩ ?_
  refine RO.of (listed' := #[true, true, true, true, true, true, true, true, true, true, true, true, true, true, true, true, true, true, true, true, true, true, true, false]) rfl rfl ?_
  refine SJ.q (y_call Try.call69 rfl (RetG.quiet fun w hw => ok_s_l02Make h15 w )) rfl ?_
  refine SJ.nil ?_
  refine PJ.draw ?_
  refine RJ.step1 23 [1, 2] (by kernel_rfl) ⟨by decide, rfl⟩ ?_
  refine RO.of (listed' := #[true, true, true, true, true, true, true, true, true, true, true, true, true, true, true, true, true, true, true, true, true, true, true, true]) rfl rfl ?_
  refine SJ.storeL (k := 0) (off := 0) (us := [.int .i64 r14.num, .int .i64 r14.den]) rfl rfl rfl rfl Try.sizeOf55 rfl rfl ?_
  refine SJ.nil ?_
  refine PJ.draw ?_
  refine RJ.fin [1, 2] (by kernel_rfl) ⟨by decide, rfl⟩ ?_
  refine PJ.next ?_
  refine WJ.ret ?_
  obtain rfl := Option.some.inj hm
  exact PJ.retn_sel (vs := [.agg (Fraction.enc r14).toArray]) Try.results53 ⟨⟨0, g5, 55, [.int .i64 r14.num, .int .i64 r14.den], rfl, rfl, .inl ⟨Try.isAgg55, Try.sizeOf55, rfl⟩⟩, trivial⟩ [] ⟨List.nodup_nil, rfl⟩ ⟨rfl, rfl⟩

set_option maxRecDepth 100000 in
set_option maxHeartbeats 1000000 in
theorem ok_s_TeamTotals {N : Nat} {list1 : List Result} {teams4 : List Int} {table7 : List Int} {r : (List Fraction) × Int} (hm : s_TeamTotals N list1 teams4 table7 = some r) (w : World) (v2 : Value) (hr3 : RdS w (cx w).Fz v2 fResult.rp list1) (v5 : Value) (hr6 : RdS w (cx w).Fz v5 fI64.rp teams4) (v8 : Value) (hr9 : RdS w (cx w).Fz v8 fI64.rp table7) :
    Calls Try.prog 20 #[v2, v5, v8] w (RetG (cx w) fun u L => ∃ (u1 : Value), (u = tup [u1, .int .i64 r.2] ∧ L = [row u1 55 fFraction r.1])) := by
  unfold s_TeamTotals at hm
  refine Calls.enter [v2, v5, v8] Try.func20 rfl Try.ntmps20 rfl ?_
  refine WJ.seq ?_
  refine WJ.quiet ?_
  refine QJ.step (YldS.yld (y_assign rfl)) rfl ?_
  refine QJ.step (YldS.yld (y_assign rfl)) rfl ?_
  refine QJ.done ?_
  refine PJ.next ?_
  refine WJ.seq ?_
  refine WJ.seq ?_
  refine WJ.quiet ?_
  refine QJ.step (YldS.yld (y_move rfl)) rfl ?_
  obtain ⟨r10, h11, hm⟩ := bindS hm
  refine QJ.step (y_call Try.call41 rfl (RetG.quiet fun w hw => ok_s_l22Ok h11 w _ (hr3.st hw))) rfl ?_
  refine QJ.step (YldS.yld (y_not rfl)) rfl ?_
  refine QJ.done ?_
  refine PJ.next ?_
  refine WJ.cond (t := !r10) rfl (fun hb12 => ?_) (fun hb12 => ?_)
  · replace hm := ifT hm hb12
    refine WJ.seq ?_
    refine WJ.quiet ?_
    refine QJ.step (YldS.yld (y_assign rfl)) rfl ?_
    refine QJ.step (YldS.yld (y_assign rfl)) rfl ?_
    refine QJ.done ?_
    refine PJ.next ?_
    refine WJ.ret ?_
    refine PJ.then_ret ?_
    refine PJ.nil_row 55 fFraction ?_
    obtain rfl := Option.some.inj hm
    refine PJ.sel (L' := [row (.slice none 0 0) 55 fFraction []]) [0] ⟨by decide, rfl⟩ ?_
    exact PJ.retn (vs := [(.slice none 0 0), .int .i64 1]) Try.results20 ⟨rfl, rfl, trivial⟩ ⟨_, rfl, rfl⟩
  · replace hm := ifF hm hb12
    refine WJ.skip ?_
    refine PJ.next ?_
    obtain ⟨kj13, hk14, hm⟩ := withK_open hm
    refine WJ.join (X := Unit) (fun (_ : Unit) => kj13  = some r) (fun (_ : Unit) => [(0, v2), (1, v5), (2, v8)]) (fun (_ : Unit) => []) ?_ ?_
    · clear hk14
      refine WJ.seq ?_
      refine WJ.quiet ?_
      refine QJ.step (YldS.yld (y_assign rfl)) rfl ?_
      refine QJ.done ?_
      refine PJ.next ?_
      refine WJ.block ?_
      refine WJ.sel (L' := (fun (x : Int) => []) 0) [] ⟨List.nodup_nil, rfl⟩ ?_
      refine WJ.sub (m' := (fun (x : Int) => [(0, v2), (1, v5), (2, v8), (8, .int .i64 x)]) 0) ⟨rfl, rfl, rfl, rfl, trivial⟩ ?_
      refine WJ.loop (X := Int) (fun N (x : Int) => s_TeamTotals_l1 kj13 teams4 N x = some r) (fun (x : Int) => [(0, v2), (1, v5), (2, v8), (8, .int .i64 x)]) (fun (x : Int) => []) ?_ N 0 hm
      · rintro N i15 hI
        have hm := hI; clear hI
        cases N with
        | zero => cases hm
        | succ N =>
        unfold s_TeamTotals_l1 at hm
        refine WJ.seq ?_
        refine WJ.seq ?_
        refine WJ.quiet ?_
        refine QJ.step (YldS.yld (y_move rfl)) rfl ?_
        refine QJ.step (YldS.yld (y_move rfl)) rfl ?_
        refine QJ.step (YldS.yld (y_lenS Try.runUnderlying42 hr6 rfl)) rfl ?_
        refine QJ.step (YldS.yld (y_bin rfl rfl rfl)) rfl ?_
        refine QJ.done ?_
        refine PJ.next ?_
        refine WJ.cond (t := decide (i15 < (List.length teams4 : Int))) rfl (fun hb16 => ?_) (fun hb16 => ?_)
        · replace hm := ifT hm hb16
          refine WJ.skip ?_
          refine PJ.next ?_
          refine WJ.seq ?_
          refine WJ.block ?_
          refine WJ.seq ?_
          refine WJ.quiet ?_
          refine QJ.step (YldS.yld (y_move rfl)) rfl ?_
          refine QJ.step (YldS.yld (y_move rfl)) rfl ?_
          obtain ⟨e17, h18, hm⟩ := bindS hm
          obtain ⟨ad19, _, rfl, ha20, hy21⟩ := hr6.elem h18
          refine QJ.step (YldS.yld (hy21 Try.runUnderlying42 Try.sizeOf2 rfl rfl)) rfl ?_
          refine QJ.step (YldS.yld (y_load1 (v := .int .i64 e17) Try.isAgg2 ha20 St.frozenC rfl)) rfl ?_
          obtain ⟨r22, h23, hm⟩ := bindS hm
          refine QJ.step (y_call Try.call52 rfl (RetG.quiet fun w hw => ok_s_l00In h23 w )) rfl ?_
          refine QJ.step (YldS.yld (y_not rfl)) rfl ?_
          refine QJ.done ?_
          refine PJ.next ?_
          refine WJ.cond (t := !r22) rfl (fun hb24 => ?_) (fun hb24 => ?_)
          · replace hm := ifT hm hb24
            refine WJ.seq ?_
            refine WJ.quiet ?_
            refine QJ.step (YldS.yld (y_assign rfl)) rfl ?_
            refine QJ.step (YldS.yld (y_assign rfl)) rfl ?_
            refine QJ.done ?_
            refine PJ.next ?_
            refine WJ.ret ?_
            refine PJ.block_ret (PJ.then_ret (PJ.then_ret (PJ.block_ret (PJ.then_ret ?_))))
            refine PJ.nil_row 55 fFraction ?_
            obtain rfl := Option.some.inj hm
            refine PJ.sel (L' := [row (.slice none 0 0) 55 fFraction []]) [0] ⟨by decide, rfl⟩ ?_
            exact PJ.retn (vs := [(.slice none 0 0), .int .i64 2]) Try.results20 ⟨rfl, rfl, trivial⟩ ⟨_, rfl, rfl⟩
          · replace hm := ifF hm hb24
            refine WJ.skip ?_
            refine PJ.block_normal (PJ.next ?_)
            refine WJ.quiet ?_
            refine QJ.step (YldS.yld (y_move rfl)) rfl ?_
            refine QJ.step (YldS.yld (y_bin rfl rfl rfl)) rfl ?_
            refine QJ.step (YldS.yld (y_assign rfl)) rfl ?_
            refine QJ.done ?_
            exact PJ.round (w64 (i15 + 1)) [] hm ⟨rfl, rfl, rfl, rfl, trivial⟩ ⟨List.nodup_nil, rfl⟩
        · replace hm := ifF hm hb16
          refine WJ.exit ?_
          refine PJ.then_exit (PJ.then_exit (PJ.block_exit ?_))
          exact PJ.joined () [] hm ⟨rfl, rfl, rfl, trivial⟩ ⟨List.nodup_nil, rfl⟩
    · rintro _ hm
      subst hk14
      refine WJ.seq ?_
      refine WJ.seq ?_
      refine WJ.quiet ?_
      refine QJ.step (YldS.yld (y_move rfl)) rfl ?_
      refine QJ.step (YldS.yld (y_lenS Try.runUnderlying42 hr6 rfl)) rfl ?_
      refine QJ.step (YldS.yld (y_move rfl)) rfl ?_
      refine QJ.step (YldS.yld (y_lenS Try.runUnderlying41 hr3 rfl)) rfl ?_
      refine QJ.step (YldS.yld (y_bin rfl rfl rfl)) rfl ?_
      refine QJ.step (YldS.yld (y_move rfl)) rfl ?_
      obtain ⟨t25, h26, hm⟩ := bindS hm
      refine QJ.cut 4 [(0, v2), (1, v5), (2, v8), (37, .bool t25)] ?_ ?_
      · rcases Bool.eq_false_or_eq_true ((List.length teams4 : Int) != (List.length list1 : Int)) with hb27 | hb27
        · obtain rfl := orT h26 hb27
          refine QJ.off rfl rfl (cB hb27) rfl rfl ?_
          refine QJ.off rfl rfl (cB hb27) rfl rfl ?_
          refine QJ.off rfl rfl (cB hb27) rfl rfl ?_
          refine QJ.step (YldS.yld (y_pick_t (cB hb27) rfl)) rfl ?_
          exact QJ.cut_end ⟨rfl, rfl, rfl, rfl, trivial⟩
        · replace h26 := orF h26 hb27
          refine QJ.on rfl rfl (cB hb27) (YldS.yld (y_move rfl)) rfl ?_
          obtain ⟨r28, h29, h26⟩ := bindS h26
          refine QJ.on rfl rfl (cB hb27) (y_call Try.call42 rfl (RetG.quiet fun w hw => ok_s_l22Table h29 w _ (hr9.st hw))) rfl ?_
          refine QJ.on rfl rfl (cB hb27) (YldS.yld (y_not rfl)) rfl ?_
          refine QJ.step (YldS.yld (y_pick_f (cB hb27) rfl)) rfl ?_
          obtain rfl := Option.some.inj h26
          exact QJ.cut_end ⟨rfl, rfl, rfl, rfl, trivial⟩
      refine QJ.done ?_
      refine PJ.next ?_
      refine WJ.cond (t := t25) rfl (fun hb30 => ?_) (fun hb30 => ?_)
      · replace hm := ifT hm hb30
        refine WJ.seq ?_
        refine WJ.quiet ?_
        refine QJ.step (YldS.yld (y_assign rfl)) rfl ?_
        refine QJ.step (YldS.yld (y_assign rfl)) rfl ?_
        refine QJ.done ?_
        refine PJ.next ?_
        refine WJ.ret ?_
        refine PJ.then_ret ?_
        refine PJ.nil_row 55 fFraction ?_
        obtain rfl := Option.some.inj hm
        refine PJ.sel (L' := [row (.slice none 0 0) 55 fFraction []]) [0] ⟨by decide, rfl⟩ ?_
        exact PJ.retn (vs := [(.slice none 0 0), .int .i64 2]) Try.results20 ⟨rfl, rfl, trivial⟩ ⟨_, rfl, rfl⟩
      · replace hm := ifF hm hb30
        refine WJ.skip ?_
        refine PJ.next ?_
        refine WJ.seq ?_
        refine WJ.reg ?_
        refine SJ.buildSlice (R := fFraction) (os := []) [] Try.runUnderlying47 Try.sizeOf55 Try.zeroValue55 rfl rfl rfl rfl rfl rfl fun v31 => ?_
        refine SJ.q (YldS.yld (y_assign rfl)) rfl ?_
        refine SJ.nil ?_
        refine PJ.next ?_
        obtain ⟨kj34, hk35, hm⟩ := withK_open hm
        refine WJ.join (X := (List Fraction) × Value) (fun (x : (List Fraction) × Value) => kj34 x.1 = some r) (fun (x : (List Fraction) × Value) => [(0, v2), (1, v5), (2, v8), (9, x.2)]) (fun (x : (List Fraction) × Value) => [row x.2 55 fFraction x.1]) ?_ ?_
        · clear hk35
          refine WJ.seq ?_
          refine WJ.quiet ?_
          refine QJ.step (YldS.yld (y_assign rfl)) rfl ?_
          refine QJ.done ?_
          refine PJ.next ?_
          refine WJ.block ?_
          refine WJ.sel (L' := (fun (x : (List Fraction) × Value × Int) => [row x.2.1 55 fFraction x.1]) ([], v31, 0)) [0] ⟨by decide, rfl⟩ ?_
          refine WJ.sub (m' := (fun (x : (List Fraction) × Value × Int) => [(0, v2), (1, v5), (2, v8), (9, x.2.1), (10, .int .i64 x.2.2)]) ([], v31, 0)) ⟨rfl, rfl, rfl, rfl, rfl, trivial⟩ ?_
          refine WJ.loop (X := (List Fraction) × Value × Int) (fun N (x : (List Fraction) × Value × Int) => s_TeamTotals_l2 kj34 N x.1 x.2.2 = some r) (fun (x : (List Fraction) × Value × Int) => [(0, v2), (1, v5), (2, v8), (9, x.2.1), (10, .int .i64 x.2.2)]) (fun (x : (List Fraction) × Value × Int) => [row x.2.1 55 fFraction x.1]) ?_ N ([], v31, 0) hm
          · rintro N ⟨l36, v37, k38⟩ hI
            have hm := hI; clear hI
            cases N with
            | zero => cases hm
            | succ N =>
            unfold s_TeamTotals_l2 at hm
            refine WJ.seq ?_
            refine WJ.seq ?_
            refine WJ.quiet ?_
            refine QJ.step (YldS.yld (y_move rfl)) rfl ?_
            refine QJ.step (YldS.yld (y_bin rfl rfl rfl)) rfl ?_
            refine QJ.done ?_
            refine PJ.next ?_
            refine WJ.cond (t := decide (k38 < 10)) rfl (fun hb39 => ?_) (fun hb39 => ?_)
            · replace hm := ifT hm hb39
              refine WJ.skip ?_
              refine PJ.next ?_
              refine WJ.seq ?_
              refine WJ.block ?_
              refine WJ.reg ?_
              refine SJ.q (YldS.yld (y_move rfl)) rfl ?_
              refine SJ.q (YldS.yld (y_build (parts := [(1, .const (.int .i64 1))]) (places := [(0, 1), (1, 1)]) (r := [.int .i64 ((Fraction.mk 0 1).num), .int .i64 ((Fraction.mk 0 1).den)]) pl55 Try.zeroValue55 rfl rfl rfl rfl)) rfl ?_
              refine SJ.buildSlice (R := fFraction) (os := [.tmp 44]) [(Fraction.mk 0 1)] Try.runUnderlying47 Try.sizeOf55 Try.zeroValue55 rfl rfl rfl rfl rfl rfl fun v40 => ?_
              obtain ⟨l41, h42, hm⟩ := bindS hm
              refine SJ.append (k := 1) (R := fFraction) h42 rfl Try.underlying47 el55 rfl rfl rfl (fun w hw => (hw.row_rd (k := 0) rfl)) rfl fun v43 => ?_
              refine SJ.q (YldS.yld (y_assign rfl)) rfl ?_
              refine SJ.nil ?_
              refine PJ.block_normal (PJ.next ?_)
              refine WJ.quiet ?_
              refine QJ.step (YldS.yld (y_move rfl)) rfl ?_
              refine QJ.step (YldS.yld (y_bin rfl rfl rfl)) rfl ?_
              refine QJ.step (YldS.yld (y_assign rfl)) rfl ?_
              refine QJ.done ?_
              exact PJ.round (l41, v43, w64 (k38 + 1)) [1] hm ⟨rfl, rfl, rfl, rfl, rfl, trivial⟩ ⟨by decide, rfl⟩
            · replace hm := ifF hm hb39
              refine WJ.exit ?_
              refine PJ.then_exit (PJ.then_exit (PJ.block_exit ?_))
              exact PJ.joined (l36, v37) [0] hm ⟨rfl, rfl, rfl, rfl, trivial⟩ ⟨by decide, rfl⟩
        · rintro ⟨l32, v33⟩ hm
          subst hk35
          refine WJ.seq ?_
          refine WJ.reg ?_
          refine SJ.q (YldS.yld (y_move rfl)) rfl ?_
          refine SJ.q (YldS.yld (y_move rfl)) rfl ?_
          obtain ⟨r44, h45, hm⟩ := bindS hm
          refine SJ.call Try.call46 rfl (fun w hw => ok_s_l22Points h45 w _ (hr3.st hw) _ (hr9.st hw)) rfl ?_
          rintro v46 _ ⟨_, rfl, rfl⟩
          refine SJ.q (YldS.yld (y_assign rfl)) rfl ?_
          refine SJ.nil ?_
          refine PJ.next ?_
          obtain ⟨kj48, hk49, hm⟩ := withK_open hm
          refine WJ.join (X := (List Fraction)) (fun (x : (List Fraction)) => kj48 x = some r) (fun (x : (List Fraction)) => [(9, v33)]) (fun (x : (List Fraction)) => [row v33 55 fFraction x]) ?_ ?_
          · clear hk49
            refine WJ.seq ?_
            refine WJ.quiet ?_
            refine QJ.step (YldS.yld (y_assign rfl)) rfl ?_
            refine QJ.done ?_
            refine PJ.next ?_
            refine WJ.block ?_
            refine WJ.sel (L' := (fun (x : (List Fraction) × Int) => [row v46 55 fFraction r44, row v33 55 fFraction x.1]) (l32, 0)) [0, 1] ⟨by decide, rfl⟩ ?_
            refine WJ.sub (m' := (fun (x : (List Fraction) × Int) => [(0, v2), (1, v5), (9, v33), (11, v46), (12, .int .i64 x.2)]) (l32, 0)) ⟨rfl, rfl, rfl, rfl, rfl, trivial⟩ ?_
            refine WJ.loop (X := (List Fraction) × Int) (fun N (x : (List Fraction) × Int) => s_TeamTotals_l3 kj48 list1 teams4 r44 N x.1 x.2 = some r) (fun (x : (List Fraction) × Int) => [(0, v2), (1, v5), (9, v33), (11, v46), (12, .int .i64 x.2)]) (fun (x : (List Fraction) × Int) => [row v46 55 fFraction r44, row v33 55 fFraction x.1]) ?_ N (l32, 0) hm
            · rintro N ⟨l50, i51⟩ hI
              have hm := hI; clear hI
              cases N with
              | zero => cases hm
              | succ N =>
              unfold s_TeamTotals_l3 at hm
              refine WJ.seq ?_
              refine WJ.seq ?_
              refine WJ.quiet ?_
              refine QJ.step (YldS.yld (y_move rfl)) rfl ?_
              refine QJ.step (YldS.yld (y_move rfl)) rfl ?_
              refine QJ.step (YldS.yld (y_lenS Try.runUnderlying41 hr3 rfl)) rfl ?_
              refine QJ.step (YldS.yld (y_bin rfl rfl rfl)) rfl ?_
              refine QJ.done ?_
              refine PJ.next ?_
              refine WJ.cond (t := decide (i51 < (List.length list1 : Int))) rfl (fun hb52 => ?_) (fun hb52 => ?_)
              · replace hm := ifT hm hb52
                refine WJ.skip ?_
                refine PJ.next ?_
                refine WJ.seq ?_
                refine WJ.block ?_
                obtain ⟨e53, h54, hm⟩ := bindS hm
                obtain ⟨ad55, _, rfl, ha56, hy57⟩ := hr6.elem h54
                obtain ⟨e58, h59, hm⟩ := bindS hm
                obtain ⟨ad60, _, rfl, ha61, hy62⟩ := hr6.elem h59
                obtain ⟨e63, h64, hm⟩ := bindS hm
                obtain ⟨e65, h66, hm⟩ := bindS hm
                obtain ⟨r67, h68, hm⟩ := bindS hm
                obtain ⟨e69, h70, hm⟩ := bindS hm
                refine WJ.draws (N := 19) (listed0 := #[false, false, false, false, false, false, false, false, false, false, false, false, false, false, false, false, false, false, false]) [row v46 55 fFraction r44] follows rfl rfl ?_
                refine RJ.first 0 (listed' := #[true, false, false, false, false, false, false, false, false, false, false, false, false, false, false, false, false, false, false]) [0] rfl (by kernel_rfl) rfl ⟨by decide, rfl⟩ (y_move rfl) rfl ?_
                refine RJ.first 1 (listed' := #[true, true, false, false, false, false, false, false, false, false, false, false, false, false, false, false, false, false, false]) [0] rfl (by kernel_rfl) rfl ⟨by decide, rfl⟩ (y_move rfl) rfl ?_
                refine RJ.first 2 (listed' := #[true, true, true, false, false, false, false, false, false, false, false, false, false, false, false, false, false, false, false]) [0] rfl (by kernel_rfl) rfl ⟨by decide, rfl⟩ (y_move rfl) rfl ?_
                refine RJ.first 3 (listed' := #[true, true, true, true, false, false, false, false, false, false, false, false, false, false, false, false, false, false, false]) [0] rfl (by kernel_rfl) rfl ⟨by decide, rfl⟩ (hy57 Try.runUnderlying42 Try.sizeOf2 rfl rfl) rfl ?_
                refine RJ.first 4 (listed' := #[true, true, true, true, true, false, false, false, false, false, false, false, false, false, false, false, false, false, false]) [0] rfl (by kernel_rfl) rfl ⟨by decide, rfl⟩ (y_load1 (v := .int .i64 e53) Try.isAgg2 ha56 St.frozenC rfl) rfl ?_
                refine RJ.first 5 (listed' := #[true, true, true, true, true, true, false, false, false, false, false, false, false, false, false, false, false, false, false]) [0] rfl (by kernel_rfl) rfl ⟨by decide, rfl⟩ (y_move rfl) rfl ?_
                refine RJ.first 6 (listed' := #[true, true, true, true, true, true, true, false, false, false, false, false, false, false, false, false, false, false, false]) [0] rfl (by kernel_rfl) rfl ⟨by decide, rfl⟩ (y_move rfl) rfl ?_
                refine RJ.first 7 (listed' := #[true, true, true, true, true, true, true, true, false, false, false, false, false, false, false, false, false, false, false]) [0] rfl (by kernel_rfl) rfl ⟨by decide, rfl⟩ (y_move rfl) rfl ?_
                refine RJ.first 8 (listed' := #[true, true, true, true, true, true, true, true, true, false, false, false, false, false, false, false, false, false, false]) [0] rfl (by kernel_rfl) rfl ⟨by decide, rfl⟩ (hy62 Try.runUnderlying42 Try.sizeOf2 rfl rfl) rfl ?_
                refine RJ.first 9 (listed' := #[true, true, true, true, true, true, true, true, true, true, false, false, false, false, false, false, false, false, false]) [0] rfl (by kernel_rfl) rfl ⟨by decide, rfl⟩ (y_load1 (v := .int .i64 e58) Try.isAgg2 ha61 St.frozenC rfl) rfl ?_
                refine RJ.first 12 (listed' := #[true, true, true, true, true, true, true, true, true, true, false, false, true, false, false, false, false, false, false]) [0] rfl (by kernel_rfl) rfl ⟨by decide, rfl⟩ (y_move rfl) rfl ?_
                refine RJ.first 13 (listed' := #[true, true, true, true, true, true, true, true, true, true, false, false, true, true, false, false, false, false, false]) [0] rfl (by kernel_rfl) rfl ⟨by decide, rfl⟩ (y_move rfl) rfl ?_
                refine RJ.first 14 (listed' := #[true, true, true, true, true, true, true, true, true, true, false, false, true, true, true, false, false, false, false]) [0] rfl (by kernel_rfl) rfl ⟨by decide, rfl⟩ (y_ixRow (k := 0) (R := fFraction) rfl Try.runUnderlying47 Try.sizeOf55 rfl rfl h66) rfl ?_
                refine RJ.first 15 (listed' := #[true, true, true, true, true, true, true, true, true, true, false, false, true, true, true, true, false, false, false]) [0] rfl (by kernel_rfl) rfl ⟨by decide, rfl⟩ (y_loadRN (k := 0) (i := (Int.toNat i51)) (off := 0) (us := [.int .i64 e65.num, .int .i64 e65.den]) rfl Try.isAgg55 Try.sizeOf55 rfl (idx_get h66) rfl) rfl ?_
                refine RJ.step1 10 [0] (by kernel_rfl) ⟨by decide, rfl⟩ ?_
                refine RO.of (listed' := #[true, true, true, true, true, true, true, true, true, true, true, false, true, true, true, true, false, false, false]) rfl rfl ?_
                refine SJ.q (YldS.yld (y_ixRow (k := 1) (R := fFraction) rfl Try.runUnderlying47 Try.sizeOf55 rfl rfl h64)) rfl ?_
                refine SJ.nil ?_
                refine PJ.draw ?_
                refine RJ.step1 11 [0] (by kernel_rfl) ⟨by decide, rfl⟩ ?_
                refine RO.of (listed' := #[true, true, true, true, true, true, true, true, true, true, true, true, true, true, true, true, false, false, false]) rfl rfl ?_
                refine SJ.q (YldS.yld (y_loadRN (k := 1) (i := (Int.toNat e58)) (off := 0) (us := [.int .i64 e63.num, .int .i64 e63.den]) rfl Try.isAgg55 Try.sizeOf55 rfl (idx_get h64) rfl)) rfl ?_
                refine SJ.nil ?_
                refine PJ.draw ?_
                refine RJ.step1 16 [0] (by kernel_rfl) ⟨by decide, rfl⟩ ?_
                refine RO.of (listed' := #[true, true, true, true, true, true, true, true, true, true, true, true, true, true, true, true, true, false, false]) rfl rfl ?_
                refine SJ.q (y_call Try.call53 rfl (RetG.quiet fun w hw => ok_s_l22Add h68 w )) rfl ?_
                refine SJ.nil ?_
                refine PJ.draw ?_
                refine RJ.step1 17 [0] (by kernel_rfl) ⟨by decide, rfl⟩ ?_
                refine RO.of (listed' := #[true, true, true, true, true, true, true, true, true, true, true, true, true, true, true, true, true, true, false]) rfl rfl ?_
                refine SJ.q (YldS.yld (y_ixRow (k := 1) (R := fFraction) rfl Try.runUnderlying47 Try.sizeOf55 rfl rfl h70)) rfl ?_
                refine SJ.nil ?_
                refine PJ.draw ?_
                refine RJ.step1 18 [0] (by kernel_rfl) ⟨by decide, rfl⟩ ?_
                refine RO.of (listed' := #[true, true, true, true, true, true, true, true, true, true, true, true, true, true, true, true, true, true, true]) rfl rfl ?_
                refine SJ.storeRL (k := 1) (i := (Int.toNat e53)) (off := 0) (us := [.int .i64 r67.num, .int .i64 r67.den]) (b := r67) rfl rfl (idx_get h70) rfl rfl Try.sizeOf55 rfl rfl rfl ?_
                refine SJ.nil ?_
                refine PJ.draw ?_
                refine RJ.fin [0] (by kernel_rfl) ⟨by decide, rfl⟩ ?_
                refine PJ.block_normal (PJ.next ?_)
                refine WJ.quiet ?_
                refine QJ.step (YldS.yld (y_move rfl)) rfl ?_
                refine QJ.step (YldS.yld (y_bin rfl rfl rfl)) rfl ?_
                refine QJ.step (YldS.yld (y_assign rfl)) rfl ?_
                refine QJ.done ?_
                exact PJ.round ((List.set l50 (Int.toNat e53) r67), w64 (i51 + 1)) [0, 1] hm ⟨rfl, rfl, rfl, rfl, rfl, trivial⟩ ⟨by decide, rfl⟩
              · replace hm := ifF hm hb52
                refine WJ.exit ?_
                refine PJ.then_exit (PJ.then_exit (PJ.block_exit ?_))
                exact PJ.joined l50 [1] hm ⟨rfl, trivial⟩ ⟨by decide, rfl⟩
          · rintro l47 hm
            subst hk49
            refine WJ.seq ?_
            refine WJ.quiet ?_
            refine QJ.step (YldS.yld (y_move rfl)) rfl ?_
            refine QJ.step (YldS.yld (y_assign rfl)) rfl ?_
            refine QJ.step (YldS.yld (y_assign rfl)) rfl ?_
            refine QJ.done ?_
            refine PJ.next ?_
            refine WJ.ret ?_
            obtain rfl := Option.some.inj hm
            refine PJ.sel (L' := [row v33 55 fFraction l47]) [0] ⟨by decide, rfl⟩ ?_
            exact PJ.retn (vs := [v33, .int .i64 0]) Try.results20 ⟨rfl, rfl, trivial⟩ ⟨_, rfl, rfl⟩

set_option maxRecDepth 100000 in
set_option maxHeartbeats 1000000 in
theorem ok_w_f6ints {N : Nat} {a1 : List Int} {b4 : List Int} {r : Bool} (hm : w_f6ints N a1 b4 = some r) (w : World) (v2 : Value) (hr3 : RdS w (cx w).Fz v2 fI64.rp a1) (v5 : Value) (hr6 : RdS w (cx w).Fz v5 fI64.rp b4) :
    Calls Try.prog 21 #[v2, v5] w (Ret (cx w) (.bool r)) := by
  unfold w_f6ints at hm
  refine Calls.enter [v2, v5] Try.func21 rfl Try.ntmps21 rfl ?_
  refine WJ.seq ?_
  refine WJ.quiet ?_
  refine QJ.step (YldS.yld (y_assign rfl)) rfl ?_
  refine QJ.done ?_
  refine PJ.next ?_
  refine WJ.seq ?_
  refine WJ.seq ?_
  refine WJ.quiet ?_
  refine QJ.step (YldS.yld (y_move rfl)) rfl ?_
  refine QJ.step (YldS.yld (y_lenS Try.runUnderlying42 hr3 rfl)) rfl ?_
  refine QJ.step (YldS.yld (y_move rfl)) rfl ?_
  refine QJ.step (YldS.yld (y_lenS Try.runUnderlying42 hr6 rfl)) rfl ?_
  refine QJ.step (YldS.yld (y_bin rfl rfl rfl)) rfl ?_
  refine QJ.done ?_
  refine PJ.next ?_
  refine WJ.cond (t := ((List.length a1 : Int) != (List.length b4 : Int))) rfl (fun hb7 => ?_) (fun hb7 => ?_)
  · replace hm := ifT hm hb7
    refine WJ.seq ?_
    refine WJ.quiet ?_
    refine QJ.step (YldS.yld (y_assign rfl)) rfl ?_
    refine QJ.done ?_
    refine PJ.next ?_
    refine WJ.ret ?_
    refine PJ.then_ret ?_
    obtain rfl := Option.some.inj hm
    refine PJ.sel (L' := []) [] ⟨List.nodup_nil, rfl⟩ ?_
    exact PJ.retn (vs := [.bool false]) Try.results21 ⟨rfl, trivial⟩ ⟨rfl, rfl⟩
  · replace hm := ifF hm hb7
    refine WJ.skip ?_
    refine PJ.next ?_
    obtain ⟨kj8, hk9, hm⟩ := withK_open hm
    refine WJ.join (X := Unit) (fun (_ : Unit) => kj8  = some r) (fun (_ : Unit) => []) (fun (_ : Unit) => []) ?_ ?_
    · clear hk9
      refine WJ.seq ?_
      refine WJ.quiet ?_
      refine QJ.step (YldS.yld (y_assign rfl)) rfl ?_
      refine QJ.done ?_
      refine PJ.next ?_
      refine WJ.block ?_
      refine WJ.sel (L' := (fun (x : Int) => []) 0) [] ⟨List.nodup_nil, rfl⟩ ?_
      refine WJ.sub (m' := (fun (x : Int) => [(0, v2), (1, v5), (5, .int .i64 x)]) 0) ⟨rfl, rfl, rfl, trivial⟩ ?_
      refine WJ.loop (X := Int) (fun N (x : Int) => w_f6ints_l1 kj8 a1 b4 N x = some r) (fun (x : Int) => [(0, v2), (1, v5), (5, .int .i64 x)]) (fun (x : Int) => []) ?_ N 0 hm
      · rintro N i10 hI
        have hm := hI; clear hI
        cases N with
        | zero => cases hm
        | succ N =>
        unfold w_f6ints_l1 at hm
        refine WJ.seq ?_
        refine WJ.seq ?_
        refine WJ.quiet ?_
        refine QJ.step (YldS.yld (y_move rfl)) rfl ?_
        refine QJ.step (YldS.yld (y_move rfl)) rfl ?_
        refine QJ.step (YldS.yld (y_lenS Try.runUnderlying42 hr3 rfl)) rfl ?_
        refine QJ.step (YldS.yld (y_bin rfl rfl rfl)) rfl ?_
        refine QJ.done ?_
        refine PJ.next ?_
        refine WJ.cond (t := decide (i10 < (List.length a1 : Int))) rfl (fun hb11 => ?_) (fun hb11 => ?_)
        · replace hm := ifT hm hb11
          refine WJ.skip ?_
          refine PJ.next ?_
          refine WJ.seq ?_
          refine WJ.block ?_
          refine WJ.seq ?_
          refine WJ.quiet_draw follows (by kernel_rfl) ?_
          refine QJ.step (YldS.yld (y_move rfl)) rfl ?_
          refine QJ.step (YldS.yld (y_move rfl)) rfl ?_
          obtain ⟨e12, h13, hm⟩ := bindS hm
          obtain ⟨ad14, _, rfl, ha15, hy16⟩ := hr3.elem h13
          refine QJ.step (YldS.yld (hy16 Try.runUnderlying42 Try.sizeOf2 rfl rfl)) rfl ?_
          refine QJ.step (YldS.yld (y_load1 (v := .int .i64 e12) Try.isAgg2 ha15 St.frozenC rfl)) rfl ?_
          refine QJ.step (YldS.yld (y_move rfl)) rfl ?_
          refine QJ.step (YldS.yld (y_move rfl)) rfl ?_
          obtain ⟨e17, h18, hm⟩ := bindS hm
          obtain ⟨ad19, _, rfl, ha20, hy21⟩ := hr6.elem h18
          refine QJ.step (YldS.yld (hy21 Try.runUnderlying42 Try.sizeOf2 rfl rfl)) rfl ?_
          refine QJ.step (YldS.yld (y_load1 (v := .int .i64 e17) Try.isAgg2 ha20 St.frozenC rfl)) rfl ?_
          refine QJ.step (YldS.yld (y_bin rfl rfl rfl)) rfl ?_
          refine QJ.done ?_
          refine PJ.next ?_
          refine WJ.cond (t := (e12 != e17)) rfl (fun hb22 => ?_) (fun hb22 => ?_)
          · replace hm := ifT hm hb22
            refine WJ.seq ?_
            refine WJ.quiet ?_
            refine QJ.step (YldS.yld (y_assign rfl)) rfl ?_
            refine QJ.done ?_
            refine PJ.next ?_
            refine WJ.ret ?_
            refine PJ.block_ret (PJ.then_ret (PJ.then_ret (PJ.block_ret (PJ.then_ret ?_))))
            obtain rfl := Option.some.inj hm
            refine PJ.sel (L' := []) [] ⟨List.nodup_nil, rfl⟩ ?_
            exact PJ.retn (vs := [.bool false]) Try.results21 ⟨rfl, trivial⟩ ⟨rfl, rfl⟩
          · replace hm := ifF hm hb22
            refine WJ.skip ?_
            refine PJ.block_normal (PJ.next ?_)
            refine WJ.quiet ?_
            refine QJ.step (YldS.yld (y_move rfl)) rfl ?_
            refine QJ.step (YldS.yld (y_bin rfl rfl rfl)) rfl ?_
            refine QJ.step (YldS.yld (y_assign rfl)) rfl ?_
            refine QJ.done ?_
            exact PJ.round (w64 (i10 + 1)) [] hm ⟨rfl, rfl, rfl, trivial⟩ ⟨List.nodup_nil, rfl⟩
        · replace hm := ifF hm hb11
          refine WJ.exit ?_
          refine PJ.then_exit (PJ.then_exit (PJ.block_exit ?_))
          exact PJ.joined () [] hm trivial ⟨List.nodup_nil, rfl⟩
    · rintro _ hm
      subst hk9
      refine WJ.seq ?_
      refine WJ.quiet ?_
      refine QJ.step (YldS.yld (y_assign rfl)) rfl ?_
      refine QJ.done ?_
      refine PJ.next ?_
      refine WJ.ret ?_
      obtain rfl := Option.some.inj hm
      refine PJ.sel (L' := []) [] ⟨List.nodup_nil, rfl⟩ ?_
      exact PJ.retn (vs := [.bool true]) Try.results21 ⟨rfl, trivial⟩ ⟨rfl, rfl⟩

set_option maxRecDepth 100000 in
set_option maxHeartbeats 1000000 in
theorem ok_w_f6sum {N : Nat} {list1 : List Int} {r : Int} (hm : w_f6sum N list1 = some r) (w : World) (v2 : Value) (hr3 : RdS w (cx w).Fz v2 fI64.rp list1) :
    Calls Try.prog 22 #[v2] w (Ret (cx w) (.int .i64 r)) := by
  unfold w_f6sum at hm
  refine Calls.enter [v2] Try.func22 rfl Try.ntmps22 rfl ?_
  refine WJ.seq ?_
  refine WJ.quiet ?_
  refine QJ.step (YldS.yld (y_assign rfl)) rfl ?_
  refine QJ.done ?_
  refine PJ.next ?_
  refine WJ.seq ?_
  refine WJ.quiet ?_
  refine QJ.step (YldS.yld (y_assign rfl)) rfl ?_
  refine QJ.done ?_
  refine PJ.next ?_
  obtain ⟨kj5, hk6, hm⟩ := withK_open hm
  refine WJ.join (X := Int) (fun (x : Int) => kj5 x = some r) (fun (x : Int) => [(3, .int .i64 x)]) (fun (x : Int) => []) ?_ ?_
  · clear hk6
    refine WJ.seq ?_
    refine WJ.quiet ?_
    refine QJ.step (YldS.yld (y_assign rfl)) rfl ?_
    refine QJ.done ?_
    refine PJ.next ?_
    refine WJ.block ?_
    refine WJ.sel (L' := (fun (x : Int × Int) => []) (0, 0)) [] ⟨List.nodup_nil, rfl⟩ ?_
    refine WJ.sub (m' := (fun (x : Int × Int) => [(0, v2), (3, .int .i64 x.1), (4, .int .i64 x.2)]) (0, 0)) ⟨rfl, rfl, rfl, trivial⟩ ?_
    refine WJ.loop (X := Int × Int) (fun N (x : Int × Int) => w_f6sum_l1 kj5 list1 N x.1 x.2 = some r) (fun (x : Int × Int) => [(0, v2), (3, .int .i64 x.1), (4, .int .i64 x.2)]) (fun (x : Int × Int) => []) ?_ N (0, 0) hm
    · rintro N ⟨sum7, i8⟩ hI
      have hm := hI; clear hI
      cases N with
      | zero => cases hm
      | succ N =>
      unfold w_f6sum_l1 at hm
      refine WJ.seq ?_
      refine WJ.seq ?_
      refine WJ.quiet ?_
      refine QJ.step (YldS.yld (y_move rfl)) rfl ?_
      refine QJ.step (YldS.yld (y_move rfl)) rfl ?_
      refine QJ.step (YldS.yld (y_lenS Try.runUnderlying42 hr3 rfl)) rfl ?_
      refine QJ.step (YldS.yld (y_bin rfl rfl rfl)) rfl ?_
      refine QJ.done ?_
      refine PJ.next ?_
      refine WJ.cond (t := decide (i8 < (List.length list1 : Int))) rfl (fun hb9 => ?_) (fun hb9 => ?_)
      · replace hm := ifT hm hb9
        refine WJ.skip ?_
        refine PJ.next ?_
        refine WJ.seq ?_
        refine WJ.block ?_
        refine WJ.quiet ?_
        refine QJ.step (YldS.yld (y_move rfl)) rfl ?_
        refine QJ.step (YldS.yld (y_move rfl)) rfl ?_
        refine QJ.step (YldS.yld (y_move rfl)) rfl ?_
        obtain ⟨e10, h11, hm⟩ := bindS hm
        obtain ⟨ad12, _, rfl, ha13, hy14⟩ := hr3.elem h11
        refine QJ.step (YldS.yld (hy14 Try.runUnderlying42 Try.sizeOf2 rfl rfl)) rfl ?_
        refine QJ.step (YldS.yld (y_load1 (v := .int .i64 e10) Try.isAgg2 ha13 St.frozenC rfl)) rfl ?_
        refine QJ.step (YldS.yld (y_bin rfl rfl rfl)) rfl ?_
        refine QJ.step (YldS.yld (y_assign rfl)) rfl ?_
        refine QJ.done ?_
        refine PJ.block_normal (PJ.next ?_)
        refine WJ.quiet ?_
        refine QJ.step (YldS.yld (y_move rfl)) rfl ?_
        refine QJ.step (YldS.yld (y_bin rfl rfl rfl)) rfl ?_
        refine QJ.step (YldS.yld (y_assign rfl)) rfl ?_
        refine QJ.done ?_
        exact PJ.round (w64 (sum7 + e10), w64 (i8 + 1)) [] hm ⟨rfl, rfl, rfl, trivial⟩ ⟨List.nodup_nil, rfl⟩
      · replace hm := ifF hm hb9
        refine WJ.exit ?_
        refine PJ.then_exit (PJ.then_exit (PJ.block_exit ?_))
        exact PJ.joined sum7 [] hm ⟨rfl, trivial⟩ ⟨List.nodup_nil, rfl⟩
  · rintro sum4 hm
    subst hk6
    refine WJ.seq ?_
    refine WJ.quiet ?_
    refine QJ.step (YldS.yld (y_move rfl)) rfl ?_
    refine QJ.step (YldS.yld (y_assign rfl)) rfl ?_
    refine QJ.done ?_
    refine PJ.next ?_
    refine WJ.ret ?_
    obtain rfl := Option.some.inj hm
    refine PJ.sel (L' := []) [] ⟨List.nodup_nil, rfl⟩ ?_
    exact PJ.retn (vs := [.int .i64 sum4]) Try.results22 ⟨rfl, trivial⟩ ⟨rfl, rfl⟩

set_option maxRecDepth 100000 in
set_option maxHeartbeats 1000000 in
theorem ok_w_FnPrizes {N : Nat} {code1 : List UInt8} {r : Bool} (hm : w_FnPrizes N code1 = some r) (w : World) (v2 : Value) (hr3 : RdS w (cx w).Fz v2 fByte.rp code1) :
    Calls Try.prog 4 #[v2] w (Ret (cx w) (.bool r)) := by
  unfold w_FnPrizes at hm
  refine Calls.enter [v2] Try.func4 rfl Try.ntmps4 rfl ?_
  refine WJ.seq ?_
  refine WJ.quiet ?_
  refine QJ.step (YldS.yld (y_assign rfl)) rfl ?_
  refine QJ.done ?_
  refine PJ.next ?_
  refine WJ.seq ?_
  refine WJ.seq ?_
  refine WJ.quiet ?_
  refine QJ.step (YldS.yld (y_move rfl)) rfl ?_
  obtain ⟨r4, h5, hm⟩ := bindS hm
  refine QJ.step (y_call Try.call12 rfl (RetG.quiet fun w hw => ok_w_f6big h5 w _ (hr3.st hw))) rfl ?_
  refine QJ.done ?_
  refine PJ.next ?_
  refine WJ.cond (t := r4) rfl (fun hb6 => ?_) (fun hb6 => ?_)
  · replace hm := ifT hm hb6
    refine WJ.seq ?_
    refine WJ.quiet ?_
    refine QJ.step (YldS.yld (y_assign rfl)) rfl ?_
    refine QJ.done ?_
    refine PJ.next ?_
    refine WJ.ret ?_
    refine PJ.then_ret ?_
    obtain rfl := Option.some.inj hm
    refine PJ.sel (L' := []) [] ⟨List.nodup_nil, rfl⟩ ?_
    exact PJ.retn (vs := [.bool true]) Try.results4 ⟨rfl, trivial⟩ ⟨rfl, rfl⟩
  · replace hm := ifF hm hb6
    refine WJ.skip ?_
    refine PJ.next ?_
    refine WJ.seq ?_
    refine WJ.reg ?_
    refine SJ.q (YldS.yld (y_move rfl)) rfl ?_
    obtain ⟨r7, h8, hm⟩ := bindS hm
    refine SJ.call Try.call13 rfl (fun w hw => ok_s_DrawPrizesFor h8 w _ (hr3.st hw)) rfl ?_
    rintro _ _ ⟨v9, v10, rfl, rfl⟩
    refine SJ.q (YldS.yld (y_move rfl)) rfl ?_
    refine SJ.q (YldS.yld (y_extract rfl rfl)) rfl ?_
    refine SJ.q (YldS.yld (y_extract rfl rfl)) rfl ?_
    refine SJ.q (YldS.yld (y_assign rfl)) rfl ?_
    refine SJ.q (YldS.yld (y_assign rfl)) rfl ?_
    refine SJ.nil ?_
    refine PJ.next ?_
    refine WJ.seq ?_
    refine WJ.reg ?_
    refine SJ.q (YldS.yld (y_move rfl)) rfl ?_
    refine SJ.q (YldS.yld (y_move rfl)) rfl ?_
    obtain ⟨r11, h12, hm⟩ := bindS hm
    refine SJ.call Try.call14 rfl (fun w hw => ok_i_PrizesFor h12 w _ (hw.row_rd (k := 0) rfl) _ (hw.row_rd (k := 1) rfl)) rfl ?_
    rintro _ _ ⟨v13, rfl, rfl⟩
    refine SJ.q (YldS.yld (y_move rfl)) rfl ?_
    refine SJ.q (YldS.yld (y_extract rfl rfl)) rfl ?_
    refine SJ.q (YldS.yld (y_extract rfl rfl)) rfl ?_
    refine SJ.q (YldS.yld (y_assign rfl)) rfl ?_
    refine SJ.q (YldS.yld (y_assign rfl)) rfl ?_
    refine SJ.nil ?_
    refine PJ.next ?_
    refine WJ.seq ?_
    refine WJ.reg ?_
    refine SJ.q (YldS.yld (y_move rfl)) rfl ?_
    refine SJ.q (YldS.yld (y_move rfl)) rfl ?_
    obtain ⟨r14, h15, hm⟩ := bindS hm
    refine SJ.call Try.call15 rfl (fun w hw => ok_s_PrizesFor h15 w _ (hw.row_rd (k := 1) rfl) _ (hw.row_rd (k := 2) rfl)) rfl ?_
    rintro _ _ ⟨v16, rfl, rfl⟩
    refine SJ.q (YldS.yld (y_move rfl)) rfl ?_
    refine SJ.q (YldS.yld (y_extract rfl rfl)) rfl ?_
    refine SJ.q (YldS.yld (y_extract rfl rfl)) rfl ?_
    refine SJ.q (YldS.yld (y_assign rfl)) rfl ?_
    refine SJ.q (YldS.yld (y_assign rfl)) rfl ?_
    refine SJ.nil ?_
    refine PJ.next ?_
    refine WJ.seq ?_
    refine WJ.reg ?_
    refine SJ.q (YldS.yld (y_move rfl)) rfl ?_
    refine SJ.q (YldS.yld (y_move rfl)) rfl ?_
    obtain ⟨r17, h18, hm⟩ := bindS hm
    refine SJ.call Try.call16 rfl (fun w hw => ok_i_PointsFor h18 w _ (hw.row_rd (k := 2) rfl) _ (hw.row_rd (k := 3) rfl)) rfl ?_
    rintro _ _ ⟨v19, rfl, rfl⟩
    refine SJ.q (YldS.yld (y_move rfl)) rfl ?_
    refine SJ.q (YldS.yld (y_extract rfl rfl)) rfl ?_
    refine SJ.q (YldS.yld (y_extract rfl rfl)) rfl ?_
    refine SJ.q (YldS.yld (y_assign rfl)) rfl ?_
    refine SJ.q (YldS.yld (y_assign rfl)) rfl ?_
    refine SJ.nil ?_
    refine PJ.next ?_
    refine WJ.seq ?_
    refine WJ.reg ?_
    refine SJ.q (YldS.yld (y_move rfl)) rfl ?_
    refine SJ.q (YldS.yld (y_move rfl)) rfl ?_
    obtain ⟨r20, h21, hm⟩ := bindS hm
    refine SJ.call Try.call17 rfl (fun w hw => ok_s_PointsFor h21 w _ (hw.row_rd (k := 3) rfl) _ (hw.row_rd (k := 4) rfl)) rfl ?_
    rintro _ _ ⟨v22, rfl, rfl⟩
    refine SJ.q (YldS.yld (y_move rfl)) rfl ?_
    refine SJ.q (YldS.yld (y_extract rfl rfl)) rfl ?_
    refine SJ.q (YldS.yld (y_extract rfl rfl)) rfl ?_
    refine SJ.q (YldS.yld (y_assign rfl)) rfl ?_
    refine SJ.q (YldS.yld (y_assign rfl)) rfl ?_
    refine SJ.nil ?_
    refine PJ.next ?_
    refine WJ.seq ?_
    refine WJ.reg ?_
    refine SJ.q (YldS.yld (y_move rfl)) rfl ?_
    obtain ⟨r23, h24, hm⟩ := bindS hm
    refine SJ.call Try.call18 rfl (fun w hw => ok_s_DrawTeamTotals h24 w _ (hr3.st hw)) rfl ?_
    rintro _ _ ⟨v25, v26, v27, rfl, rfl⟩
    refine SJ.q (YldS.yld (y_move rfl)) rfl ?_
    refine SJ.q (YldS.yld (y_extract rfl rfl)) rfl ?_
    refine SJ.q (YldS.yld (y_extract rfl rfl)) rfl ?_
    refine SJ.q (YldS.yld (y_extract rfl rfl)) rfl ?_
    refine SJ.q (YldS.yld (y_assign rfl)) rfl ?_
    refine SJ.q (YldS.yld (y_assign rfl)) rfl ?_
    refine SJ.q (YldS.yld (y_assign rfl)) rfl ?_
    refine SJ.nil ?_
    refine PJ.next ?_
    refine WJ.seq ?_
    refine WJ.reg ?_
    refine SJ.q (YldS.yld (y_move rfl)) rfl ?_
    refine SJ.q (YldS.yld (y_move rfl)) rfl ?_
    refine SJ.q (YldS.yld (y_move rfl)) rfl ?_
    obtain ⟨r28, h29, hm⟩ := bindS hm
    refine SJ.call Try.call19 rfl (fun w hw => ok_i_TeamTotals h29 w _ (hw.row_rd (k := 0) rfl) _ (hw.row_rd (k := 1) rfl) _ (hw.row_rd (k := 2) rfl)) rfl ?_
    rintro _ _ ⟨v30, rfl, rfl⟩
    refine SJ.q (YldS.yld (y_move rfl)) rfl ?_
    refine SJ.q (YldS.yld (y_extract rfl rfl)) rfl ?_
    refine SJ.q (YldS.yld (y_extract rfl rfl)) rfl ?_
    refine SJ.q (YldS.yld (y_assign rfl)) rfl ?_
    refine SJ.q (YldS.yld (y_assign rfl)) rfl ?_
    refine SJ.nil ?_
    refine PJ.next ?_
    refine WJ.seq ?_
    refine WJ.reg ?_
    refine SJ.q (YldS.yld (y_move rfl)) rfl ?_
    refine SJ.q (YldS.yld (y_move rfl)) rfl ?_
    refine SJ.q (YldS.yld (y_move rfl)) rfl ?_
    obtain ⟨r31, h32, hm⟩ := bindS hm
    refine SJ.call Try.call20 rfl (fun w hw => ok_s_TeamTotals h32 w _ (hw.row_rd (k := 1) rfl) _ (hw.row_rd (k := 2) rfl) _ (hw.row_rd (k := 3) rfl)) rfl ?_
    rintro _ _ ⟨v33, rfl, rfl⟩
    refine SJ.q (YldS.yld (y_move rfl)) rfl ?_
    refine SJ.q (YldS.yld (y_extract rfl rfl)) rfl ?_
    refine SJ.q (YldS.yld (y_extract rfl rfl)) rfl ?_
    refine SJ.q (YldS.yld (y_assign rfl)) rfl ?_
    refine SJ.q (YldS.yld (y_assign rfl)) rfl ?_
    refine SJ.nil ?_
    refine PJ.next ?_
    refine WJ.seq ?_
    refine WJ.seq ?_
    refine WJ.quiet ?_
    refine QJ.step (YldS.yld (y_move rfl)) rfl ?_
    refine QJ.step (YldS.yld (y_move rfl)) rfl ?_
    refine QJ.step (YldS.yld (y_bin rfl rfl rfl)) rfl ?_
    refine QJ.step (YldS.yld (y_move rfl)) rfl ?_
    obtain ⟨t34, h35, hm⟩ := bindS hm
    refine QJ.cut 5 [(3, v9), (4, v10), (6, .int .i64 r11.2), (7, v16), (9, v19), (10, .int .i64 r17.2), (11, v22), (12, .int .i64 r20.2), (16, v30), (17, .int .i64 r28.2), (18, v33), (19, .int .i64 r31.2), (85, .bool t34)] ?_ ?_
    · rcases Bool.eq_false_or_eq_true (r11.2 != r14.2) with hb36 | hb36
      · obtain rfl := orT h35 hb36
        refine QJ.off rfl rfl (cB hb36) rfl rfl ?_
        refine QJ.off rfl rfl (cB hb36) rfl rfl ?_
        refine QJ.off rfl rfl (cB hb36) rfl rfl ?_
        refine QJ.off rfl rfl (cB hb36) rfl rfl ?_
        refine QJ.step (YldS.yld (y_pick_t (cB hb36) rfl)) rfl ?_
        exact QJ.cut_end ⟨rfl, rfl, rfl, rfl, rfl, rfl, rfl, rfl, rfl, rfl, rfl, rfl, rfl, trivial⟩
      · replace h35 := orF h35 hb36
        refine QJ.on rfl rfl (cB hb36) (YldS.yld (y_move rfl)) rfl ?_
        refine QJ.on rfl rfl (cB hb36) (YldS.yld (y_move rfl)) rfl ?_
        obtain ⟨r37, h38, h35⟩ := bindS h35
        refine QJ.on rfl rfl (cB hb36) (y_call Try.call21 rfl (RetG.quiet fun w hw => ok_w_f6ints h38 w _ (hw.row_rd (k := 8) rfl) _ (hw.row_rd (k := 7) rfl))) rfl ?_
        refine QJ.on rfl rfl (cB hb36) (YldS.yld (y_not rfl)) rfl ?_
        refine QJ.step (YldS.yld (y_pick_f (cB hb36) rfl)) rfl ?_
        obtain rfl := Option.some.inj h35
        exact QJ.cut_end ⟨rfl, rfl, rfl, rfl, rfl, rfl, rfl, rfl, rfl, rfl, rfl, rfl, rfl, trivial⟩
    refine QJ.step (YldS.yld (y_move rfl)) rfl ?_
    obtain ⟨t39, h40, hm⟩ := bindS hm
    refine QJ.cut 4 [(3, v9), (4, v10), (6, .int .i64 r11.2), (7, v16), (9, v19), (11, v22), (16, v30), (17, .int .i64 r28.2), (18, v33), (19, .int .i64 r31.2), (90, .bool t39)] ?_ ?_
    · rcases Bool.eq_false_or_eq_true t34 with hb41 | hb41
      · obtain rfl := orT h40 hb41
        refine QJ.off rfl rfl (cB hb41) rfl rfl ?_
        refine QJ.off rfl rfl (cB hb41) rfl rfl ?_
        refine QJ.off rfl rfl (cB hb41) rfl rfl ?_
        refine QJ.step (YldS.yld (y_pick_t (cB hb41) rfl)) rfl ?_
        exact QJ.cut_end ⟨rfl, rfl, rfl, rfl, rfl, rfl, rfl, rfl, rfl, rfl, rfl, trivial⟩
      · replace h40 := orF h40 hb41
        refine QJ.on rfl rfl (cB hb41) (YldS.yld (y_move rfl)) rfl ?_
        refine QJ.on rfl rfl (cB hb41) (YldS.yld (y_move rfl)) rfl ?_
        refine QJ.on rfl rfl (cB hb41) (YldS.yld (y_bin rfl rfl rfl)) rfl ?_
        refine QJ.step (YldS.yld (y_pick_f (cB hb41) rfl)) rfl ?_
        obtain rfl := Option.some.inj h40
        exact QJ.cut_end ⟨rfl, rfl, rfl, rfl, rfl, rfl, rfl, rfl, rfl, rfl, rfl, trivial⟩
    refine QJ.step (YldS.yld (y_move rfl)) rfl ?_
    obtain ⟨t42, h43, hm⟩ := bindS hm
    refine QJ.cut 6 [(3, v9), (4, v10), (6, .int .i64 r11.2), (7, v16), (9, v19), (11, v22), (16, v30), (17, .int .i64 r28.2), (18, v33), (19, .int .i64 r31.2), (97, .bool t42)] ?_ ?_
    · rcases Bool.eq_false_or_eq_true t39 with hb44 | hb44
      · obtain rfl := orT h43 hb44
        refine QJ.off rfl rfl (cB hb44) rfl rfl ?_
        refine QJ.off rfl rfl (cB hb44) rfl rfl ?_
        refine QJ.off rfl rfl (cB hb44) rfl rfl ?_
        refine QJ.off rfl rfl (cB hb44) rfl rfl ?_
        refine QJ.off rfl rfl (cB hb44) rfl rfl ?_
        refine QJ.step (YldS.yld (y_pick_t (cB hb44) rfl)) rfl ?_
        exact QJ.cut_end ⟨rfl, rfl, rfl, rfl, rfl, rfl, rfl, rfl, rfl, rfl, rfl, trivial⟩
      · replace h43 := orF h43 hb44
        refine QJ.on rfl rfl (cB hb44) (YldS.yld (y_move rfl)) rfl ?_
        refine QJ.on rfl rfl (cB hb44) (YldS.yld (y_lenRow (k := 6) rfl Try.runUnderlying47 rfl)) rfl ?_
        refine QJ.on rfl rfl (cB hb44) (YldS.yld (y_move rfl)) rfl ?_
        refine QJ.on rfl rfl (cB hb44) (YldS.yld (y_lenRow (k := 5) rfl Try.runUnderlying47 rfl)) rfl ?_
        refine QJ.on rfl rfl (cB hb44) (YldS.yld (y_bin rfl rfl rfl)) rfl ?_
        refine QJ.step (YldS.yld (y_pick_f (cB hb44) rfl)) rfl ?_
        obtain rfl := Option.some.inj h43
        exact QJ.cut_end ⟨rfl, rfl, rfl, rfl, rfl, rfl, rfl, rfl, rfl, rfl, rfl, trivial⟩
    refine QJ.step (YldS.yld (y_move rfl)) rfl ?_
    obtain ⟨t45, h46, hm⟩ := bindS hm
    refine QJ.cut 4 [(3, v9), (4, v10), (6, .int .i64 r11.2), (7, v16), (9, v19), (11, v22), (16, v30), (18, v33), (102, .bool t45)] ?_ ?_
    · rcases Bool.eq_false_or_eq_true t42 with hb47 | hb47
      · obtain rfl := orT h46 hb47
        refine QJ.off rfl rfl (cB hb47) rfl rfl ?_
        refine QJ.off rfl rfl (cB hb47) rfl rfl ?_
        refine QJ.off rfl rfl (cB hb47) rfl rfl ?_
        refine QJ.step (YldS.yld (y_pick_t (cB hb47) rfl)) rfl ?_
        exact QJ.cut_end ⟨rfl, rfl, rfl, rfl, rfl, rfl, rfl, rfl, rfl, trivial⟩
      · replace h46 := orF h46 hb47
        refine QJ.on rfl rfl (cB hb47) (YldS.yld (y_move rfl)) rfl ?_
        refine QJ.on rfl rfl (cB hb47) (YldS.yld (y_move rfl)) rfl ?_
        refine QJ.on rfl rfl (cB hb47) (YldS.yld (y_bin rfl rfl rfl)) rfl ?_
        refine QJ.step (YldS.yld (y_pick_f (cB hb47) rfl)) rfl ?_
        obtain rfl := Option.some.inj h46
        exact QJ.cut_end ⟨rfl, rfl, rfl, rfl, rfl, rfl, rfl, rfl, rfl, trivial⟩
    refine QJ.step (YldS.yld (y_move rfl)) rfl ?_
    obtain ⟨t48, h49, hm⟩ := bindS hm
    refine QJ.cut 6 [(3, v9), (4, v10), (6, .int .i64 r11.2), (7, v16), (9, v19), (11, v22), (16, v30), (18, v33), (109, .bool t48)] ?_ ?_
    · rcases Bool.eq_false_or_eq_true t45 with hb50 | hb50
      · obtain rfl := orT h49 hb50
        refine QJ.off rfl rfl (cB hb50) rfl rfl ?_
        refine QJ.off rfl rfl (cB hb50) rfl rfl ?_
        refine QJ.off rfl rfl (cB hb50) rfl rfl ?_
        refine QJ.off rfl rfl (cB hb50) rfl rfl ?_
        refine QJ.off rfl rfl (cB hb50) rfl rfl ?_
        refine QJ.step (YldS.yld (y_pick_t (cB hb50) rfl)) rfl ?_
        exact QJ.cut_end ⟨rfl, rfl, rfl, rfl, rfl, rfl, rfl, rfl, rfl, trivial⟩
      · replace h49 := orF h49 hb50
        refine QJ.on rfl rfl (cB hb50) (YldS.yld (y_move rfl)) rfl ?_
        refine QJ.on rfl rfl (cB hb50) (YldS.yld (y_lenRow (k := 1) rfl Try.runUnderlying47 rfl)) rfl ?_
        refine QJ.on rfl rfl (cB hb50) (YldS.yld (y_move rfl)) rfl ?_
        refine QJ.on rfl rfl (cB hb50) (YldS.yld (y_lenRow (k := 0) rfl Try.runUnderlying47 rfl)) rfl ?_
        refine QJ.on rfl rfl (cB hb50) (YldS.yld (y_bin rfl rfl rfl)) rfl ?_
        refine QJ.step (YldS.yld (y_pick_f (cB hb50) rfl)) rfl ?_
        obtain rfl := Option.some.inj h49
        exact QJ.cut_end ⟨rfl, rfl, rfl, rfl, rfl, rfl, rfl, rfl, rfl, trivial⟩
    refine QJ.done ?_
    refine PJ.next ?_
    refine WJ.cond (t := t48) rfl (fun hb51 => ?_) (fun hb51 => ?_)
    · replace hm := ifT hm hb51
      refine WJ.seq ?_
      refine WJ.quiet ?_
      refine QJ.step (YldS.yld (y_assign rfl)) rfl ?_
      refine QJ.done ?_
      refine PJ.next ?_
      refine WJ.ret ?_
      refine PJ.then_ret ?_
      obtain rfl := Option.some.inj hm
      refine PJ.sel (L' := []) [] ⟨List.nodup_nil, rfl⟩ ?_
      exact PJ.retn (vs := [.bool false]) Try.results4 ⟨rfl, trivial⟩ ⟨rfl, rfl⟩
    · replace hm := ifF hm hb51
      refine WJ.skip ?_
      refine PJ.next ?_
      obtain ⟨kj52, hk53, hm⟩ := withK_open hm
      refine WJ.join (X := Unit) (fun (_ : Unit) => kj52  = some r) (fun (_ : Unit) => [(3, v9), (4, v10), (6, .int .i64 r11.2), (7, v16), (11, v22), (16, v30), (18, v33)]) (fun (_ : Unit) => [row v33 55 fFraction r31.1, row v30 55 fFraction r28.1, row v22 55 fFraction r20.1, row v16 2 fI64 r14.1, row v9 114 fResult r7.1, row v10 2 fI64 r7.2]) ?_ ?_
      · clear hk53
        refine WJ.seq ?_
        refine WJ.quiet ?_
        refine QJ.step (YldS.yld (y_assign rfl)) rfl ?_
        refine QJ.done ?_
        refine PJ.next ?_
        refine WJ.block ?_
        refine WJ.sel (L' := (fun (x : Int) => [row v33 55 fFraction r31.1, row v30 55 fFraction r28.1, row v22 55 fFraction r20.1, row v19 55 fFraction r17.1, row v16 2 fI64 r14.1, row v9 114 fResult r7.1, row v10 2 fI64 r7.2]) 0) [0, 1, 5, 6, 7, 9, 10] ⟨by decide, rfl⟩ ?_
        refine WJ.sub (m' := (fun (x : Int) => [(3, v9), (4, v10), (6, .int .i64 r11.2), (7, v16), (9, v19), (11, v22), (16, v30), (18, v33), (20, .int .i64 x)]) 0) ⟨rfl, rfl, rfl, rfl, rfl, rfl, rfl, rfl, rfl, trivial⟩ ?_
        refine WJ.loop (X := Int) (fun N (x : Int) => w_FnPrizes_l1 kj52 r17 r20 N x = some r) (fun (x : Int) => [(3, v9), (4, v10), (6, .int .i64 r11.2), (7, v16), (9, v19), (11, v22), (16, v30), (18, v33), (20, .int .i64 x)]) (fun (x : Int) => [row v33 55 fFraction r31.1, row v30 55 fFraction r28.1, row v22 55 fFraction r20.1, row v19 55 fFraction r17.1, row v16 2 fI64 r14.1, row v9 114 fResult r7.1, row v10 2 fI64 r7.2]) ?_ N 0 hm
        · rintro N i54 hI
          have hm := hI; clear hI
          cases N with
          | zero => cases hm
          | succ N =>
          unfold w_FnPrizes_l1 at hm
          refine WJ.seq ?_
          refine WJ.seq ?_
          refine WJ.quiet ?_
          refine QJ.step (YldS.yld (y_move rfl)) rfl ?_
          refine QJ.step (YldS.yld (y_move rfl)) rfl ?_
          refine QJ.step (YldS.yld (y_lenRow (k := 2) rfl Try.runUnderlying47 rfl)) rfl ?_
          refine QJ.step (YldS.yld (y_bin rfl rfl rfl)) rfl ?_
          refine QJ.done ?_
          refine PJ.next ?_
          refine WJ.cond (t := decide (i54 < (List.length r20.1 : Int))) rfl (fun hb55 => ?_) (fun hb55 => ?_)
          · replace hm := ifT hm hb55
            refine WJ.skip ?_
            refine PJ.next ?_
            refine WJ.seq ?_
            refine WJ.block ?_
            refine WJ.seq ?_
            refine WJ.quiet_draw follows (by kernel_rfl) ?_
            refine QJ.step (YldS.yld (y_move rfl)) rfl ?_
            refine QJ.step (YldS.yld (y_move rfl)) rfl ?_
            obtain ⟨e56, h57, hm⟩ := bindS hm
            refine QJ.step (YldS.yld (y_ixRow (k := 3) (R := fFraction) rfl Try.runUnderlying47 Try.sizeOf55 rfl rfl h57)) rfl ?_
            refine QJ.step (YldS.yld (y_loadRN (k := 3) (i := (Int.toNat i54)) (off := 0) (us := [.int .i64 e56.num, .int .i64 e56.den]) rfl Try.isAgg55 Try.sizeOf55 rfl (idx_get h57) rfl)) rfl ?_
            refine QJ.step (YldS.yld (y_move rfl)) rfl ?_
            refine QJ.step (YldS.yld (y_move rfl)) rfl ?_
            obtain ⟨e58, h59, hm⟩ := bindS hm
            refine QJ.step (YldS.yld (y_ixRow (k := 2) (R := fFraction) rfl Try.runUnderlying47 Try.sizeOf55 rfl rfl h59)) rfl ?_
            refine QJ.step (YldS.yld (y_loadRN (k := 2) (i := (Int.toNat i54)) (off := 0) (us := [.int .i64 e58.num, .int .i64 e58.den]) rfl Try.isAgg55 Try.sizeOf55 rfl (idx_get h59) rfl)) rfl ?_
            refine QJ.step (YldS.yld (y_neT e56 e58 eq55 rfl rfl)) rfl ?_
            refine QJ.done ?_
            refine PJ.next ?_
            refine WJ.cond (t := !(Fraction.beq e56 e58)) rfl (fun hb60 => ?_) (fun hb60 => ?_)
            · replace hm := ifT hm hb60
              refine WJ.seq ?_
              refine WJ.quiet ?_
              refine QJ.step (YldS.yld (y_assign rfl)) rfl ?_
              refine QJ.done ?_
              refine PJ.next ?_
              refine WJ.ret ?_
              refine PJ.block_ret (PJ.then_ret (PJ.then_ret (PJ.block_ret (PJ.then_ret ?_))))
              obtain rfl := Option.some.inj hm
              refine PJ.sel (L' := []) [] ⟨List.nodup_nil, rfl⟩ ?_
              exact PJ.retn (vs := [.bool false]) Try.results4 ⟨rfl, trivial⟩ ⟨rfl, rfl⟩
            · replace hm := ifF hm hb60
              refine WJ.skip ?_
              refine PJ.block_normal (PJ.next ?_)
              refine WJ.quiet ?_
              refine QJ.step (YldS.yld (y_move rfl)) rfl ?_
              refine QJ.step (YldS.yld (y_bin rfl rfl rfl)) rfl ?_
              refine QJ.step (YldS.yld (y_assign rfl)) rfl ?_
              refine QJ.done ?_
              exact PJ.round (w64 (i54 + 1)) [0, 1, 2, 3, 4, 5, 6] hm ⟨rfl, rfl, rfl, rfl, rfl, rfl, rfl, rfl, rfl, trivial⟩ ⟨by decide, rfl⟩
          · replace hm := ifF hm hb55
            refine WJ.exit ?_
            refine PJ.then_exit (PJ.then_exit (PJ.block_exit ?_))
            exact PJ.joined () [0, 1, 2, 4, 5, 6] hm ⟨rfl, rfl, rfl, rfl, rfl, rfl, rfl, trivial⟩ ⟨by decide, rfl⟩
      · rintro _ hm
        subst hk53
        obtain ⟨kj61, hk62, hm⟩ := withK_open hm
        refine WJ.join (X := Unit) (fun (_ : Unit) => kj61  = some r) (fun (_ : Unit) => [(3, v9), (4, v10), (6, .int .i64 r11.2), (7, v16), (11, v22)]) (fun (_ : Unit) => [row v22 55 fFraction r20.1, row v16 2 fI64 r14.1, row v9 114 fResult r7.1, row v10 2 fI64 r7.2]) ?_ ?_
        · clear hk62
          refine WJ.seq ?_
          refine WJ.quiet ?_
          refine QJ.step (YldS.yld (y_assign rfl)) rfl ?_
          refine QJ.done ?_
          refine PJ.next ?_
          refine WJ.block ?_
          refine WJ.sel (L' := (fun (x : Int) => [row v33 55 fFraction r31.1, row v30 55 fFraction r28.1, row v22 55 fFraction r20.1, row v16 2 fI64 r14.1, row v9 114 fResult r7.1, row v10 2 fI64 r7.2]) 0) [0, 1, 2, 3, 4, 5] ⟨by decide, rfl⟩ ?_
          refine WJ.sub (m' := (fun (x : Int) => [(3, v9), (4, v10), (6, .int .i64 r11.2), (7, v16), (11, v22), (16, v30), (18, v33), (21, .int .i64 x)]) 0) ⟨rfl, rfl, rfl, rfl, rfl, rfl, rfl, rfl, trivial⟩ ?_
          refine WJ.loop (X := Int) (fun N (x : Int) => w_FnPrizes_l2 kj61 r28 r31 N x = some r) (fun (x : Int) => [(3, v9), (4, v10), (6, .int .i64 r11.2), (7, v16), (11, v22), (16, v30), (18, v33), (21, .int .i64 x)]) (fun (x : Int) => [row v33 55 fFraction r31.1, row v30 55 fFraction r28.1, row v22 55 fFraction r20.1, row v16 2 fI64 r14.1, row v9 114 fResult r7.1, row v10 2 fI64 r7.2]) ?_ N 0 hm
          · rintro N i63 hI
            have hm := hI; clear hI
            cases N with
            | zero => cases hm
            | succ N =>
            unfold w_FnPrizes_l2 at hm
            refine WJ.seq ?_
            refine WJ.seq ?_
            refine WJ.quiet ?_
            refine QJ.step (YldS.yld (y_move rfl)) rfl ?_
            refine QJ.step (YldS.yld (y_move rfl)) rfl ?_
            refine QJ.step (YldS.yld (y_lenRow (k := 0) rfl Try.runUnderlying47 rfl)) rfl ?_
            refine QJ.step (YldS.yld (y_bin rfl rfl rfl)) rfl ?_
            refine QJ.done ?_
            refine PJ.next ?_
            refine WJ.cond (t := decide (i63 < (List.length r31.1 : Int))) rfl (fun hb64 => ?_) (fun hb64 => ?_)
            · replace hm := ifT hm hb64
              refine WJ.skip ?_
              refine PJ.next ?_
              refine WJ.seq ?_
              refine WJ.block ?_
              refine WJ.seq ?_
              refine WJ.quiet_draw follows (by kernel_rfl) ?_
              refine QJ.step (YldS.yld (y_move rfl)) rfl ?_
              refine QJ.step (YldS.yld (y_move rfl)) rfl ?_
              obtain ⟨e65, h66, hm⟩ := bindS hm
              refine QJ.step (YldS.yld (y_ixRow (k := 1) (R := fFraction) rfl Try.runUnderlying47 Try.sizeOf55 rfl rfl h66)) rfl ?_
              refine QJ.step (YldS.yld (y_loadRN (k := 1) (i := (Int.toNat i63)) (off := 0) (us := [.int .i64 e65.num, .int .i64 e65.den]) rfl Try.isAgg55 Try.sizeOf55 rfl (idx_get h66) rfl)) rfl ?_
              refine QJ.step (YldS.yld (y_move rfl)) rfl ?_
              refine QJ.step (YldS.yld (y_move rfl)) rfl ?_
              obtain ⟨e67, h68, hm⟩ := bindS hm
              refine QJ.step (YldS.yld (y_ixRow (k := 0) (R := fFraction) rfl Try.runUnderlying47 Try.sizeOf55 rfl rfl h68)) rfl ?_
              refine QJ.step (YldS.yld (y_loadRN (k := 0) (i := (Int.toNat i63)) (off := 0) (us := [.int .i64 e67.num, .int .i64 e67.den]) rfl Try.isAgg55 Try.sizeOf55 rfl (idx_get h68) rfl)) rfl ?_
              refine QJ.step (YldS.yld (y_neT e65 e67 eq55 rfl rfl)) rfl ?_
              refine QJ.step (YldS.yld (y_move rfl)) rfl ?_
              obtain ⟨t69, h70, hm⟩ := bindS hm
              refine QJ.cut 7 [(3, v9), (4, v10), (6, .int .i64 r11.2), (7, v16), (11, v22), (16, v30), (18, v33), (21, .int .i64 i63), (147, .bool t69)] ?_ ?_
              · rcases Bool.eq_false_or_eq_true (!(Fraction.beq e65 e67)) with hb71 | hb71
                · obtain rfl := orT h70 hb71
                  refine QJ.off rfl rfl (cB hb71) rfl rfl ?_
                  refine QJ.off rfl rfl (cB hb71) rfl rfl ?_
                  refine QJ.off rfl rfl (cB hb71) rfl rfl ?_
                  refine QJ.off rfl rfl (cB hb71) rfl rfl ?_
                  refine QJ.off rfl rfl (cB hb71) rfl rfl ?_
                  refine QJ.off rfl rfl (cB hb71) rfl rfl ?_
                  refine QJ.step (YldS.yld (y_pick_t (cB hb71) rfl)) rfl ?_
                  exact QJ.cut_end ⟨rfl, rfl, rfl, rfl, rfl, rfl, rfl, rfl, rfl, trivial⟩
                · replace h70 := orF h70 hb71
                  refine QJ.on rfl rfl (cB hb71) (YldS.yld (y_move rfl)) rfl ?_
                  refine QJ.on rfl rfl (cB hb71) (YldS.yld (y_move rfl)) rfl ?_
                  obtain ⟨e72, h73, h70⟩ := bindS h70
                  refine QJ.on rfl rfl (cB hb71) (YldS.yld (y_ixRow (k := 0) (R := fFraction) rfl Try.runUnderlying47 Try.sizeOf55 rfl rfl h73)) rfl ?_
                  refine QJ.on rfl rfl (cB hb71) (YldS.yld (y_fldR fld55_0 rfl)) rfl ?_
                  refine QJ.on rfl rfl (cB hb71) (YldS.yld (y_loadR (k := 0) (i := (Int.toNat i63)) (off := 0) (u := .int .i64 e72.num) rfl Try.isAgg2 rfl (idx_get h73) rfl)) rfl ?_
                  refine QJ.on rfl rfl (cB hb71) (YldS.yld (y_bin rfl rfl rfl)) rfl ?_
                  refine QJ.step (YldS.yld (y_pick_f (cB hb71) rfl)) rfl ?_
                  obtain rfl := Option.some.inj h70
                  exact QJ.cut_end ⟨rfl, rfl, rfl, rfl, rfl, rfl, rfl, rfl, rfl, trivial⟩
              refine QJ.done ?_
              refine PJ.next ?_
              refine WJ.cond (t := t69) rfl (fun hb74 => ?_) (fun hb74 => ?_)
              · replace hm := ifT hm hb74
                refine WJ.seq ?_
                refine WJ.quiet ?_
                refine QJ.step (YldS.yld (y_assign rfl)) rfl ?_
                refine QJ.done ?_
                refine PJ.next ?_
                refine WJ.ret ?_
                refine PJ.block_ret (PJ.then_ret (PJ.then_ret (PJ.block_ret (PJ.then_ret ?_))))
                obtain rfl := Option.some.inj hm
                refine PJ.sel (L' := []) [] ⟨List.nodup_nil, rfl⟩ ?_
                exact PJ.retn (vs := [.bool false]) Try.results4 ⟨rfl, trivial⟩ ⟨rfl, rfl⟩
              · replace hm := ifF hm hb74
                refine WJ.skip ?_
                refine PJ.block_normal (PJ.next ?_)
                refine WJ.quiet ?_
                refine QJ.step (YldS.yld (y_move rfl)) rfl ?_
                refine QJ.step (YldS.yld (y_bin rfl rfl rfl)) rfl ?_
                refine QJ.step (YldS.yld (y_assign rfl)) rfl ?_
                refine QJ.done ?_
                exact PJ.round (w64 (i63 + 1)) [0, 1, 2, 3, 4, 5] hm ⟨rfl, rfl, rfl, rfl, rfl, rfl, rfl, rfl, trivial⟩ ⟨by decide, rfl⟩
            · replace hm := ifF hm hb64
              refine WJ.exit ?_
              refine PJ.then_exit (PJ.then_exit (PJ.block_exit ?_))
              exact PJ.joined () [2, 3, 4, 5] hm ⟨rfl, rfl, rfl, rfl, rfl, trivial⟩ ⟨by decide, rfl⟩
        · rintro _ hm
          subst hk62
          refine WJ.seq ?_
          refine WJ.seq ?_
          refine WJ.quiet ?_
          refine QJ.step (YldS.yld (y_move rfl)) rfl ?_
          refine QJ.step (YldS.yld (y_bin rfl rfl rfl)) rfl ?_
          refine QJ.done ?_
          refine PJ.next ?_
          refine WJ.cond (t := (r11.2 != 0)) rfl (fun hb75 => ?_) (fun hb75 => ?_)
          · replace hm := ifT hm hb75
            refine WJ.seq ?_
            refine WJ.quiet ?_
            refine QJ.step (YldS.yld (y_assign rfl)) rfl ?_
            refine QJ.done ?_
            refine PJ.next ?_
            refine WJ.ret ?_
            refine PJ.then_ret ?_
            obtain rfl := Option.some.inj hm
            refine PJ.sel (L' := []) [] ⟨List.nodup_nil, rfl⟩ ?_
            exact PJ.retn (vs := [.bool true]) Try.results4 ⟨rfl, trivial⟩ ⟨rfl, rfl⟩
          · replace hm := ifF hm hb75
            refine WJ.skip ?_
            refine PJ.next ?_
            refine WJ.seq ?_
            refine WJ.quiet ?_
            refine QJ.step (YldS.yld (y_assign rfl)) rfl ?_
            refine QJ.done ?_
            refine PJ.next ?_
            obtain ⟨kj77, hk78, hm⟩ := withK_open hm
            refine WJ.join (X := Int) (fun (x : Int) => kj77 x = some r) (fun (x : Int) => [(3, v9), (7, v16), (11, v22), (22, .int .i64 x)]) (fun (x : Int) => [row v22 55 fFraction r20.1, row v16 2 fI64 r14.1, row v9 114 fResult r7.1]) ?_ ?_
            · clear hk78
              refine WJ.seq ?_
              refine WJ.quiet ?_
              refine QJ.step (YldS.yld (y_assign rfl)) rfl ?_
              refine QJ.done ?_
              refine PJ.next ?_
              refine WJ.block ?_
              refine WJ.sel (L' := (fun (x : Int × Int) => [row v22 55 fFraction r20.1, row v16 2 fI64 r14.1, row v9 114 fResult r7.1, row v10 2 fI64 r7.2]) (0, 0)) [0, 1, 2, 3] ⟨by decide, rfl⟩ ?_
              refine WJ.sub (m' := (fun (x : Int × Int) => [(3, v9), (4, v10), (7, v16), (11, v22), (22, .int .i64 x.1), (23, .int .i64 x.2)]) (0, 0)) ⟨rfl, rfl, rfl, rfl, rfl, rfl, trivial⟩ ?_
              refine WJ.loop (X := Int × Int) (fun N (x : Int × Int) => w_FnPrizes_l3 kj77 r7 N x.1 x.2 = some r) (fun (x : Int × Int) => [(3, v9), (4, v10), (7, v16), (11, v22), (22, .int .i64 x.1), (23, .int .i64 x.2)]) (fun (x : Int × Int) => [row v22 55 fFraction r20.1, row v16 2 fI64 r14.1, row v9 114 fResult r7.1, row v10 2 fI64 r7.2]) ?_ N (0, 0) hm
              · rintro N ⟨sum79, i80⟩ hI
                have hm := hI; clear hI
                cases N with
                | zero => cases hm
                | succ N =>
                unfold w_FnPrizes_l3 at hm
                refine WJ.seq ?_
                refine WJ.seq ?_
                refine WJ.quiet ?_
                refine QJ.step (YldS.yld (y_move rfl)) rfl ?_
                refine QJ.step (YldS.yld (y_move rfl)) rfl ?_
                refine QJ.step (YldS.yld (y_lenRow (k := 2) rfl Try.runUnderlying41 rfl)) rfl ?_
                refine QJ.step (YldS.yld (y_bin rfl rfl rfl)) rfl ?_
                refine QJ.step (YldS.yld (y_move rfl)) rfl ?_
                obtain ⟨t81, h82, hm⟩ := bindS hm
                refine QJ.cut 5 [(3, v9), (4, v10), (7, v16), (11, v22), (22, .int .i64 sum79), (23, .int .i64 i80), (159, .bool t81)] ?_ ?_
                · rcases Bool.eq_false_or_eq_true (decide (i80 < (List.length r7.1 : Int))) with hb83 | hb83
                  · replace h82 := andT h82 hb83
                    refine QJ.on rfl rfl (cB hb83) (YldS.yld (y_move rfl)) rfl ?_
                    refine QJ.on rfl rfl (cB hb83) (YldS.yld (y_move rfl)) rfl ?_
                    refine QJ.on rfl rfl (cB hb83) (YldS.yld (y_lenRow (k := 3) rfl Try.runUnderlying42 rfl)) rfl ?_
                    refine QJ.on rfl rfl (cB hb83) (YldS.yld (y_bin rfl rfl rfl)) rfl ?_
                    refine QJ.step (YldS.yld (y_pick_t (cB hb83) rfl)) rfl ?_
                    obtain rfl := Option.some.inj h82
                    exact QJ.cut_end ⟨rfl, rfl, rfl, rfl, rfl, rfl, rfl, trivial⟩
                  · obtain rfl := andF h82 hb83
                    refine QJ.off rfl rfl (cB hb83) rfl rfl ?_
                    refine QJ.off rfl rfl (cB hb83) rfl rfl ?_
                    refine QJ.off rfl rfl (cB hb83) rfl rfl ?_
                    refine QJ.off rfl rfl (cB hb83) rfl rfl ?_
                    refine QJ.step (YldS.yld (y_pick_f (cB hb83) rfl)) rfl ?_
                    exact QJ.cut_end ⟨rfl, rfl, rfl, rfl, rfl, rfl, rfl, trivial⟩
                refine QJ.done ?_
                refine PJ.next ?_
                refine WJ.cond (t := t81) rfl (fun hb84 => ?_) (fun hb84 => ?_)
                · replace hm := ifT hm hb84
                  refine WJ.skip ?_
                  refine PJ.next ?_
                  refine WJ.seq ?_
                  refine WJ.block ?_
                  refine WJ.quiet ?_
                  refine QJ.step (YldS.yld (y_move rfl)) rfl ?_
                  refine QJ.step (YldS.yld (y_move rfl)) rfl ?_
                  refine QJ.step (YldS.yld (y_move rfl)) rfl ?_
                  obtain ⟨e85, h86, hm⟩ := bindS hm
                  refine QJ.step (YldS.yld (y_ixRow (k := 3) (R := fI64) rfl Try.runUnderlying42 Try.sizeOf2 rfl rfl h86)) rfl ?_
                  refine QJ.step (YldS.yld (y_loadR (k := 3) (i := (Int.toNat i80)) (off := 0) (u := .int .i64 e85) rfl Try.isAgg2 rfl (idx_get h86) rfl)) rfl ?_
                  refine QJ.step (YldS.yld (y_bin rfl rfl rfl)) rfl ?_
                  refine QJ.step (YldS.yld (y_assign rfl)) rfl ?_
                  refine QJ.done ?_
                  refine PJ.block_normal (PJ.next ?_)
                  refine WJ.quiet ?_
                  refine QJ.step (YldS.yld (y_move rfl)) rfl ?_
                  refine QJ.step (YldS.yld (y_bin rfl rfl rfl)) rfl ?_
                  refine QJ.step (YldS.yld (y_assign rfl)) rfl ?_
                  refine QJ.done ?_
                  exact PJ.round (w64 (sum79 + e85), w64 (i80 + 1)) [0, 1, 2, 3] hm ⟨rfl, rfl, rfl, rfl, rfl, rfl, trivial⟩ ⟨by decide, rfl⟩
                · replace hm := ifF hm hb84
                  refine WJ.exit ?_
                  refine PJ.then_exit (PJ.then_exit (PJ.block_exit ?_))
                  exact PJ.joined sum79 [0, 1, 2] hm ⟨rfl, rfl, rfl, rfl, trivial⟩ ⟨by decide, rfl⟩
            · rintro sum76 hm
              subst hk78
              obtain ⟨kj87, hk88, hm⟩ := withK_open hm
              refine WJ.join (X := Unit) (fun (_ : Unit) => kj87  = some r) (fun (_ : Unit) => [(7, v16), (22, .int .i64 sum76)]) (fun (_ : Unit) => [row v16 2 fI64 r14.1]) ?_ ?_
              · clear hk88
                refine WJ.seq ?_
                refine WJ.quiet ?_
                refine QJ.step (YldS.yld (y_assign rfl)) rfl ?_
                refine QJ.done ?_
                refine PJ.next ?_
                refine WJ.block ?_
                refine WJ.sel (L' := (fun (x : Int) => [row v22 55 fFraction r20.1, row v16 2 fI64 r14.1, row v9 114 fResult r7.1]) 0) [0, 1, 2] ⟨by decide, rfl⟩ ?_
                refine WJ.sub (m' := (fun (x : Int) => [(3, v9), (7, v16), (11, v22), (22, .int .i64 sum76), (24, .int .i64 x)]) 0) ⟨rfl, rfl, rfl, rfl, rfl, trivial⟩ ?_
                refine WJ.loop (X := Int) (fun N (x : Int) => w_FnPrizes_l4 kj87 r7 r14 r20 N x = some r) (fun (x : Int) => [(3, v9), (7, v16), (11, v22), (22, .int .i64 sum76), (24, .int .i64 x)]) (fun (x : Int) => [row v22 55 fFraction r20.1, row v16 2 fI64 r14.1, row v9 114 fResult r7.1]) ?_ N 0 hm
                · rintro N i89 hI
                  have hm := hI; clear hI
                  cases N with
                  | zero => cases hm
                  | succ N =>
                  unfold w_FnPrizes_l4 at hm
                  refine WJ.seq ?_
                  refine WJ.seq ?_
                  refine WJ.quiet ?_
                  refine QJ.step (YldS.yld (y_move rfl)) rfl ?_
                  refine QJ.step (YldS.yld (y_move rfl)) rfl ?_
                  refine QJ.step (YldS.yld (y_lenRow (k := 2) rfl Try.runUnderlying41 rfl)) rfl ?_
                  refine QJ.step (YldS.yld (y_bin rfl rfl rfl)) rfl ?_
                  refine QJ.done ?_
                  refine PJ.next ?_
                  refine WJ.cond (t := decide (i89 < (List.length r7.1 : Int))) rfl (fun hb90 => ?_) (fun hb90 => ?_)
                  · replace hm := ifT hm hb90
                    refine WJ.skip ?_
                    refine PJ.next ?_
                    refine WJ.seq ?_
                    refine WJ.block ?_
                    refine WJ.seq ?_
                    refine WJ.reg ?_
                    refine SJ.q (YldS.yld (y_move rfl)) rfl ?_
                    refine SJ.q (YldS.yld (y_move rfl)) rfl ?_
                    obtain ⟨e91, h92, hm⟩ := bindS hm
                    refine SJ.q (YldS.yld (y_ixRow (k := 0) (R := fFraction) rfl Try.runUnderlying47 Try.sizeOf55 rfl rfl h92)) rfl ?_
                    refine SJ.q (YldS.yld (y_loadRN (k := 0) (i := (Int.toNat i89)) (off := 0) (us := [.int .i64 e91.num, .int .i64 e91.den]) rfl Try.isAgg55 Try.sizeOf55 rfl (idx_get h92) rfl)) rfl ?_
                    refine SJ.alloc (cs := [.int .i64 0, .int .i64 0]) Try.zeroValue55 rfl rfl fun g93 => ?_
                    refine SJ.storeL (k := 0) (off := 0) (us := [.int .i64 e91.num, .int .i64 e91.den]) rfl rfl rfl rfl Try.sizeOf55 rfl rfl ?_
                    refine SJ.nil ?_
                    refine PJ.next ?_
                    refine WJ.seq ?_
                    refine WJ.quiet_draw follows (by kernel_rfl) ?_
                    refine QJ.step (YldS.yld (y_move rfl)) rfl ?_
                    refine QJ.step (YldS.yld (y_move rfl)) rfl ?_
                    obtain ⟨e94, h95, hm⟩ := bindS hm
                    refine QJ.step (YldS.yld (y_ixRow (k := 2) (R := fI64) rfl Try.runUnderlying42 Try.sizeOf2 rfl rfl h95)) rfl ?_
                    refine QJ.step (YldS.yld (y_loadR (k := 2) (i := (Int.toNat i89)) (off := 0) (u := .int .i64 e94) rfl Try.isAgg2 rfl (idx_get h95) rfl)) rfl ?_
                    refine QJ.step (YldS.yld (y_fldB (o := 0) fld55_1 rfl)) rfl ?_
                    refine QJ.step (YldS.yld (y_loadB (k := 0) (off := 1) (v := .int .i64 e91.den) rfl Try.isAgg2 rfl rfl)) rfl ?_
                    refine QJ.step (YldS.yld (y_bin rfl rfl rfl)) rfl ?_
                    refine QJ.step (YldS.yld (y_fldB (o := 0) fld55_0 rfl)) rfl ?_
                    refine QJ.step (YldS.yld (y_loadB (k := 0) (off := 0) (v := .int .i64 e91.num) rfl Try.isAgg2 rfl rfl)) rfl ?_
                    refine QJ.step (YldS.yld (y_fldB (o := 0) fld55_1 rfl)) rfl ?_
                    refine QJ.step (YldS.yld (y_loadB (k := 0) (off := 1) (v := .int .i64 e91.den) rfl Try.isAgg2 rfl rfl)) rfl ?_
                    refine QJ.step (YldS.yld (y_bin rfl rfl rfl)) rfl ?_
                    refine QJ.step (YldS.yld (y_bin rfl rfl rfl)) rfl ?_
                    refine QJ.step (YldS.yld (y_bin rfl rfl rfl)) rfl ?_
                    refine QJ.step (YldS.yld (y_move rfl)) rfl ?_
                    obtain ⟨t96, h97, hm⟩ := bindS hm
                    refine QJ.cut 15 [(3, v9), (7, v16), (11, v22), (22, .int .i64 sum76), (24, .int .i64 i89), (207, .bool t96)] ?_ ?_
                    · rcases Bool.eq_false_or_eq_true (decide ((w64 (e94 * e91.den)) < (w64 ((w64 (e91.num - e91.den)) + 1)))) with hb98 | hb98
                      · obtain rfl := orT h97 hb98
                        refine QJ.off rfl rfl (cB hb98) rfl rfl ?_
                        refine QJ.off rfl rfl (cB hb98) rfl rfl ?_
                        refine QJ.off rfl rfl (cB hb98) rfl rfl ?_
                        refine QJ.off rfl rfl (cB hb98) rfl rfl ?_
                        refine QJ.off rfl rfl (cB hb98) rfl rfl ?_
                        refine QJ.off rfl rfl (cB hb98) rfl rfl ?_
                        refine QJ.off rfl rfl (cB hb98) rfl rfl ?_
                        refine QJ.off rfl rfl (cB hb98) rfl rfl ?_
                        refine QJ.off rfl rfl (cB hb98) rfl rfl ?_
                        refine QJ.off rfl rfl (cB hb98) rfl rfl ?_
                        refine QJ.off rfl rfl (cB hb98) rfl rfl ?_
                        refine QJ.off rfl rfl (cB hb98) rfl rfl ?_
                        refine QJ.off rfl rfl (cB hb98) rfl rfl ?_
                        refine QJ.off rfl rfl (cB hb98) rfl rfl ?_
                        refine QJ.step (YldS.yld (y_pick_t (cB hb98) rfl)) rfl ?_
                        exact QJ.cut_end ⟨rfl, rfl, rfl, rfl, rfl, rfl, trivial⟩
                      · replace h97 := orF h97 hb98
                        refine QJ.on rfl rfl (cB hb98) (YldS.yld (y_move rfl)) rfl ?_
                        refine QJ.on rfl rfl (cB hb98) (YldS.yld (y_move rfl)) rfl ?_
                        obtain ⟨e99, h100, h97⟩ := bindS h97
                        refine QJ.on rfl rfl (cB hb98) (YldS.yld (y_ixRow (k := 2) (R := fI64) rfl Try.runUnderlying42 Try.sizeOf2 rfl rfl h100)) rfl ?_
                        refine QJ.on rfl rfl (cB hb98) (YldS.yld (y_loadR (k := 2) (i := (Int.toNat i89)) (off := 0) (u := .int .i64 e99) rfl Try.isAgg2 rfl (idx_get h100) rfl)) rfl ?_
                        refine QJ.on rfl rfl (cB hb98) (YldS.yld (y_fldB (o := 0) fld55_1 rfl)) rfl ?_
                        refine QJ.on rfl rfl (cB hb98) (YldS.yld (y_loadB (k := 0) (off := 1) (v := .int .i64 e91.den) rfl Try.isAgg2 rfl rfl)) rfl ?_
                        refine QJ.on rfl rfl (cB hb98) (YldS.yld (y_bin rfl rfl rfl)) rfl ?_
                        refine QJ.on rfl rfl (cB hb98) (YldS.yld (y_fldB (o := 0) fld55_0 rfl)) rfl ?_
                        refine QJ.on rfl rfl (cB hb98) (YldS.yld (y_loadB (k := 0) (off := 0) (v := .int .i64 e91.num) rfl Try.isAgg2 rfl rfl)) rfl ?_
                        refine QJ.on rfl rfl (cB hb98) (YldS.yld (y_fldB (o := 0) fld55_1 rfl)) rfl ?_
                        refine QJ.on rfl rfl (cB hb98) (YldS.yld (y_loadB (k := 0) (off := 1) (v := .int .i64 e91.den) rfl Try.isAgg2 rfl rfl)) rfl ?_
                        refine QJ.on rfl rfl (cB hb98) (YldS.yld (y_bin rfl rfl rfl)) rfl ?_
                        refine QJ.on rfl rfl (cB hb98) (YldS.yld (y_bin rfl rfl rfl)) rfl ?_
                        refine QJ.on rfl rfl (cB hb98) (YldS.yld (y_bin rfl rfl rfl)) rfl ?_
                        refine QJ.step (YldS.yld (y_pick_f (cB hb98) rfl)) rfl ?_
                        obtain rfl := Option.some.inj h97
                        exact QJ.cut_end ⟨rfl, rfl, rfl, rfl, rfl, rfl, trivial⟩
                    refine QJ.done ?_
                    refine PJ.next ?_
                    refine WJ.cond (t := t96) rfl (fun hb101 => ?_) (fun hb101 => ?_)
                    · replace hm := ifT hm hb101
                      refine WJ.seq ?_
                      refine WJ.quiet ?_
                      refine QJ.step (YldS.yld (y_assign rfl)) rfl ?_
                      refine QJ.done ?_
                      refine PJ.next ?_
                      refine WJ.ret ?_
                      refine PJ.block_ret (PJ.then_ret (PJ.then_ret (PJ.block_ret (PJ.then_ret ?_))))
                      obtain rfl := Option.some.inj hm
                      refine PJ.sel (L' := []) [] ⟨List.nodup_nil, rfl⟩ ?_
                      exact PJ.retn (vs := [.bool false]) Try.results4 ⟨rfl, trivial⟩ ⟨rfl, rfl⟩
                    · replace hm := ifF hm hb101
                      refine WJ.skip ?_
                      refine PJ.block_normal (PJ.next ?_)
                      refine WJ.quiet ?_
                      refine QJ.step (YldS.yld (y_move rfl)) rfl ?_
                      refine QJ.step (YldS.yld (y_bin rfl rfl rfl)) rfl ?_
                      refine QJ.step (YldS.yld (y_assign rfl)) rfl ?_
                      refine QJ.done ?_
                      exact PJ.round (w64 (i89 + 1)) [1, 2, 3] hm ⟨rfl, rfl, rfl, rfl, rfl, trivial⟩ ⟨by decide, rfl⟩
                  · replace hm := ifF hm hb90
                    refine WJ.exit ?_
                    refine PJ.then_exit (PJ.then_exit (PJ.block_exit ?_))
                    exact PJ.joined () [1] hm ⟨rfl, rfl, trivial⟩ ⟨by decide, rfl⟩
              · rintro _ hm
                subst hk88
                refine WJ.seq ?_
                refine WJ.quiet ?_
                refine QJ.step (YldS.yld (y_move rfl)) rfl ?_
                obtain ⟨r102, h103, hm⟩ := bindS hm
                refine QJ.step (y_call Try.call22 rfl (RetG.quiet fun w hw => ok_w_f6sum h103 w _ (hw.row_rd (k := 0) rfl))) rfl ?_
                refine QJ.step (YldS.yld (y_move rfl)) rfl ?_
                refine QJ.step (YldS.yld (y_bin rfl rfl rfl)) rfl ?_
                refine QJ.step (YldS.yld (y_assign rfl)) rfl ?_
                refine QJ.done ?_
                refine PJ.next ?_
                refine WJ.ret ?_
                obtain rfl := Option.some.inj hm
                refine PJ.sel (L' := []) [] ⟨List.nodup_nil, rfl⟩ ?_
                exact PJ.retn (vs := [.bool (r102 == sum76)]) Try.results4 ⟨rfl, trivial⟩ ⟨rfl, rfl⟩

end Go.Proofs.Ytikkolkickclhaa
