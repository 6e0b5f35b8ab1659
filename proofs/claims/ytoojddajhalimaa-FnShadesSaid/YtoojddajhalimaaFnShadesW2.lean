/-
  The walks: a call hands back what its plain function computes, where that has a value. No other conditions.
-/
import Derived.Test.YtoojddajhalimaaFnShadesW
import Derived.Test.YtoojddajhalimaaChecked
namespace Go.Proofs.Ytoojddajhalimaa
open Go.RowKit Go.Proofs
set_option linter.unusedVariables false
set_option linter.unusedSimpArgs false

set_option maxRecDepth 100000 in
set_option maxHeartbeats 1000000 in
theorem ok_s_BestRibbon {N : Nat} {list1 : List Ribbon} {prices4 : List Int} {strokes7 : Int} {least8 : Int} {r : Int × Int × Int} (hm : s_BestRibbon N list1 prices4 strokes7 least8 = some r) (w : World) (v2 : Value) (hr3 : RdS w (cx w).Fz v2 fRibbon.rp list1) (v5 : Value) (hr6 : RdS w (cx w).Fz v5 fI64.rp prices4) :
    Calls Try.prog 44 #[v2, v5, .int .i64 strokes7, .int .i64 least8] w (Ret (cx w) (tup [.int .i64 r.1, .int .i64 r.2.1, .int .i64 r.2.2])) := by
  unfold s_BestRibbon at hm
  refine Calls.enter [v2, v5, .int .i64 strokes7, .int .i64 least8] Try.func44 rfl Try.ntmps44 rfl ?_
  refine WJ.seq ?_
  refine WJ.quiet ?_
  refine QJ.step (YldS.yld (y_assign rfl)) rfl ?_
  refine QJ.step (YldS.yld (y_assign rfl)) rfl ?_
  refine QJ.step (YldS.yld (y_assign rfl)) rfl ?_
  refine QJ.done ?_
  refine PJ.next ?_
  obtain ⟨kj9, hk10, hm⟩ := withK_open hm
  refine WJ.join (X := Unit) (fun (_ : Unit) => kj9  = some r) (fun (_ : Unit) => [(0, v2), (1, v5), (2, .int .i64 strokes7), (3, .int .i64 least8)]) (fun (_ : Unit) => []) ?_ ?_
  · clear hk10
    refine WJ.seq ?_
    refine WJ.quiet ?_
    refine QJ.step (YldS.yld (y_assign rfl)) rfl ?_
    refine QJ.done ?_
    refine PJ.next ?_
    refine WJ.block ?_
    refine WJ.sel (L' := (fun (x : Int) => []) 0) [] ⟨List.nodup_nil, rfl⟩ ?_
    refine WJ.sub (m' := (fun (x : Int) => [(0, v2), (1, v5), (2, .int .i64 strokes7), (3, .int .i64 least8), (11, .int .i64 x)]) 0) ⟨rfl, rfl, rfl, rfl, rfl, trivial⟩ ?_
    refine WJ.loop (X := Int) (fun N (x : Int) => s_BestRibbon_l1 kj9 list1 N x = some r) (fun (x : Int) => [(0, v2), (1, v5), (2, .int .i64 strokes7), (3, .int .i64 least8), (11, .int .i64 x)]) (fun (x : Int) => []) ?_ N 0 hm
    · rintro N i11 hI
      have hm := hI; clear hI
      cases N with
      | zero => cases hm
      | succ N =>
      unfold s_BestRibbon_l1 at hm
      refine WJ.seq ?_
      refine WJ.seq ?_
      refine WJ.quiet ?_
      refine QJ.step (YldS.yld (y_move rfl)) rfl ?_
      refine QJ.step (YldS.yld (y_move rfl)) rfl ?_
      refine QJ.step (YldS.yld (y_lenS Try.runUnderlying69 hr3 rfl)) rfl ?_
      refine QJ.step (YldS.yld (y_bin rfl rfl rfl)) rfl ?_
      refine QJ.done ?_
      refine PJ.next ?_
      refine WJ.cond (t := decide (i11 < (List.length list1 : Int))) rfl (fun hb12 => ?_) (fun hb12 => ?_)
      · replace hm := ifT hm hb12
        refine WJ.skip ?_
        refine PJ.next ?_
        refine WJ.seq ?_
        refine WJ.block ?_
        refine WJ.seq ?_
        refine WJ.quiet ?_
        refine QJ.step (YldS.yld (y_move rfl)) rfl ?_
        refine QJ.step (YldS.yld (y_move rfl)) rfl ?_
        obtain ⟨e13, h14, hm⟩ := bindS hm
        obtain ⟨ad15, _, rfl, ha16, hy17⟩ := hr3.elem h14
        refine QJ.step (YldS.yld (hy17 Try.runUnderlying69 Try.sizeOf59 rfl rfl)) rfl ?_
        refine QJ.step (YldS.yld (y_loadN Try.isAgg59 Try.sizeOf59 rfl ha16 St.frozenC rfl)) rfl ?_
        obtain ⟨r18, h19, hm⟩ := bindS hm
        refine QJ.step (y_call Try.call137 rfl (RetG.quiet fun w hw => ok_s_l14Ok h19 w )) rfl ?_
        refine QJ.step (YldS.yld (y_not rfl)) rfl ?_
        refine QJ.done ?_
        refine PJ.next ?_
        refine WJ.cond (t := !r18) rfl (fun hb20 => ?_) (fun hb20 => ?_)
        · replace hm := ifT hm hb20
          refine WJ.seq ?_
          refine WJ.quiet ?_
          refine QJ.step (YldS.yld (y_assign rfl)) rfl ?_
          refine QJ.step (YldS.yld (y_assign rfl)) rfl ?_
          refine QJ.step (YldS.yld (y_assign rfl)) rfl ?_
          refine QJ.done ?_
          refine PJ.next ?_
          refine WJ.ret ?_
          refine PJ.block_ret (PJ.then_ret (PJ.then_ret (PJ.block_ret (PJ.then_ret ?_))))
          obtain rfl := Option.some.inj hm
          refine PJ.sel (L' := []) [] ⟨List.nodup_nil, rfl⟩ ?_
          exact PJ.retn (vs := [.int .i64 0, .int .i64 0, .int .i64 1]) Try.results44 ⟨rfl, rfl, rfl, trivial⟩ ⟨rfl, rfl⟩
        · replace hm := ifF hm hb20
          refine WJ.skip ?_
          refine PJ.block_normal (PJ.next ?_)
          refine WJ.quiet ?_
          refine QJ.step (YldS.yld (y_move rfl)) rfl ?_
          refine QJ.step (YldS.yld (y_bin rfl rfl rfl)) rfl ?_
          refine QJ.step (YldS.yld (y_assign rfl)) rfl ?_
          refine QJ.done ?_
          exact PJ.round (w64 (i11 + 1)) [] hm ⟨rfl, rfl, rfl, rfl, rfl, trivial⟩ ⟨List.nodup_nil, rfl⟩
      · replace hm := ifF hm hb12
        refine WJ.exit ?_
        refine PJ.then_exit (PJ.then_exit (PJ.block_exit ?_))
        exact PJ.joined () [] hm ⟨rfl, rfl, rfl, rfl, trivial⟩ ⟨List.nodup_nil, rfl⟩
  · rintro _ hm
    subst hk10
    obtain ⟨kj21, hk22, hm⟩ := withK_open hm
    refine WJ.join (X := Unit) (fun (_ : Unit) => kj21  = some r) (fun (_ : Unit) => [(0, v2), (1, v5), (2, .int .i64 strokes7), (3, .int .i64 least8)]) (fun (_ : Unit) => []) ?_ ?_
    · clear hk22
      refine WJ.seq ?_
      refine WJ.quiet ?_
      refine QJ.step (YldS.yld (y_assign rfl)) rfl ?_
      refine QJ.done ?_
      refine PJ.next ?_
      refine WJ.block ?_
      refine WJ.sel (L' := (fun (x : Int) => []) 0) [] ⟨List.nodup_nil, rfl⟩ ?_
      refine WJ.sub (m' := (fun (x : Int) => [(0, v2), (1, v5), (2, .int .i64 strokes7), (3, .int .i64 least8), (12, .int .i64 x)]) 0) ⟨rfl, rfl, rfl, rfl, rfl, trivial⟩ ?_
      refine WJ.loop (X := Int) (fun N (x : Int) => s_BestRibbon_l2 kj21 prices4 N x = some r) (fun (x : Int) => [(0, v2), (1, v5), (2, .int .i64 strokes7), (3, .int .i64 least8), (12, .int .i64 x)]) (fun (x : Int) => []) ?_ N 0 hm
      · rintro N i23 hI
        have hm := hI; clear hI
        cases N with
        | zero => cases hm
        | succ N =>
        unfold s_BestRibbon_l2 at hm
        refine WJ.seq ?_
        refine WJ.seq ?_
        refine WJ.quiet ?_
        refine QJ.step (YldS.yld (y_move rfl)) rfl ?_
        refine QJ.step (YldS.yld (y_move rfl)) rfl ?_
        refine QJ.step (YldS.yld (y_lenS Try.runUnderlying66 hr6 rfl)) rfl ?_
        refine QJ.step (YldS.yld (y_bin rfl rfl rfl)) rfl ?_
        refine QJ.done ?_
        refine PJ.next ?_
        refine WJ.cond (t := decide (i23 < (List.length prices4 : Int))) rfl (fun hb24 => ?_) (fun hb24 => ?_)
        · replace hm := ifT hm hb24
          refine WJ.skip ?_
          refine PJ.next ?_
          refine WJ.seq ?_
          refine WJ.block ?_
          refine WJ.seq ?_
          refine WJ.quiet ?_
          refine QJ.step (YldS.yld (y_move rfl)) rfl ?_
          refine QJ.step (YldS.yld (y_move rfl)) rfl ?_
          obtain ⟨e25, h26, hm⟩ := bindS hm
          obtain ⟨ad27, _, rfl, ha28, hy29⟩ := hr6.elem h26
          refine QJ.step (YldS.yld (hy29 Try.runUnderlying66 Try.sizeOf2 rfl rfl)) rfl ?_
          refine QJ.step (YldS.yld (y_load1 (v := .int .i64 e25) Try.isAgg2 ha28 St.frozenC rfl)) rfl ?_
          obtain ⟨r30, h31, hm⟩ := bindS hm
          refine QJ.step (y_call Try.call110 rfl (RetG.quiet fun w hw => ok_s_l00In h31 w )) rfl ?_
          refine QJ.step (YldS.yld (y_not rfl)) rfl ?_
          refine QJ.done ?_
          refine PJ.next ?_
          refine WJ.cond (t := !r30) rfl (fun hb32 => ?_) (fun hb32 => ?_)
          · replace hm := ifT hm hb32
            refine WJ.seq ?_
            refine WJ.quiet ?_
            refine QJ.step (YldS.yld (y_assign rfl)) rfl ?_
            refine QJ.step (YldS.yld (y_assign rfl)) rfl ?_
            refine QJ.step (YldS.yld (y_assign rfl)) rfl ?_
            refine QJ.done ?_
            refine PJ.next ?_
            refine WJ.ret ?_
            refine PJ.block_ret (PJ.then_ret (PJ.then_ret (PJ.block_ret (PJ.then_ret ?_))))
            obtain rfl := Option.some.inj hm
            refine PJ.sel (L' := []) [] ⟨List.nodup_nil, rfl⟩ ?_
            exact PJ.retn (vs := [.int .i64 0, .int .i64 0, .int .i64 2]) Try.results44 ⟨rfl, rfl, rfl, trivial⟩ ⟨rfl, rfl⟩
          · replace hm := ifF hm hb32
            refine WJ.skip ?_
            refine PJ.block_normal (PJ.next ?_)
            refine WJ.quiet ?_
            refine QJ.step (YldS.yld (y_move rfl)) rfl ?_
            refine QJ.step (YldS.yld (y_bin rfl rfl rfl)) rfl ?_
            refine QJ.step (YldS.yld (y_assign rfl)) rfl ?_
            refine QJ.done ?_
            exact PJ.round (w64 (i23 + 1)) [] hm ⟨rfl, rfl, rfl, rfl, rfl, trivial⟩ ⟨List.nodup_nil, rfl⟩
        · replace hm := ifF hm hb24
          refine WJ.exit ?_
          refine PJ.then_exit (PJ.then_exit (PJ.block_exit ?_))
          exact PJ.joined () [] hm ⟨rfl, rfl, rfl, rfl, trivial⟩ ⟨List.nodup_nil, rfl⟩
    · rintro _ hm
      subst hk22
      refine WJ.seq ?_
      refine WJ.seq ?_
      refine WJ.quiet ?_
      refine QJ.step (YldS.yld (y_move rfl)) rfl ?_
      refine QJ.step (YldS.yld (y_lenS Try.runUnderlying69 hr3 rfl)) rfl ?_
      refine QJ.step (YldS.yld (y_bin rfl rfl rfl)) rfl ?_
      refine QJ.step (YldS.yld (y_move rfl)) rfl ?_
      obtain ⟨t33, h34, hm⟩ := bindS hm
      refine QJ.cut 6 [(0, v2), (1, v5), (2, .int .i64 strokes7), (3, .int .i64 least8), (50, .bool t33)] ?_ ?_
      · rcases Bool.eq_false_or_eq_true (decide ((List.length list1 : Int) > 20)) with hb35 | hb35
        · obtain rfl := orT h34 hb35
          refine QJ.off rfl rfl (cB hb35) rfl rfl ?_
          refine QJ.off rfl rfl (cB hb35) rfl rfl ?_
          refine QJ.off rfl rfl (cB hb35) rfl rfl ?_
          refine QJ.off rfl rfl (cB hb35) rfl rfl ?_
          refine QJ.off rfl rfl (cB hb35) rfl rfl ?_
          refine QJ.step (YldS.yld (y_pick_t (cB hb35) rfl)) rfl ?_
          exact QJ.cut_end ⟨rfl, rfl, rfl, rfl, rfl, trivial⟩
        · replace h34 := orF h34 hb35
          refine QJ.on rfl rfl (cB hb35) (YldS.yld (y_move rfl)) rfl ?_
          refine QJ.on rfl rfl (cB hb35) (YldS.yld (y_lenS Try.runUnderlying66 hr6 rfl)) rfl ?_
          refine QJ.on rfl rfl (cB hb35) (YldS.yld (y_move rfl)) rfl ?_
          refine QJ.on rfl rfl (cB hb35) (YldS.yld (y_lenS Try.runUnderlying69 hr3 rfl)) rfl ?_
          refine QJ.on rfl rfl (cB hb35) (YldS.yld (y_bin rfl rfl rfl)) rfl ?_
          refine QJ.step (YldS.yld (y_pick_f (cB hb35) rfl)) rfl ?_
          obtain rfl := Option.some.inj h34
          exact QJ.cut_end ⟨rfl, rfl, rfl, rfl, rfl, trivial⟩
      refine QJ.step (YldS.yld (y_move rfl)) rfl ?_
      obtain ⟨t36, h37, hm⟩ := bindS hm
      refine QJ.cut 4 [(0, v2), (1, v5), (2, .int .i64 strokes7), (3, .int .i64 least8), (55, .bool t36)] ?_ ?_
      · rcases Bool.eq_false_or_eq_true t33 with hb38 | hb38
        · obtain rfl := orT h37 hb38
          refine QJ.off rfl rfl (cB hb38) rfl rfl ?_
          refine QJ.off rfl rfl (cB hb38) rfl rfl ?_
          refine QJ.off rfl rfl (cB hb38) rfl rfl ?_
          refine QJ.step (YldS.yld (y_pick_t (cB hb38) rfl)) rfl ?_
          exact QJ.cut_end ⟨rfl, rfl, rfl, rfl, rfl, trivial⟩
        · replace h37 := orF h37 hb38
          refine QJ.on rfl rfl (cB hb38) (YldS.yld (y_move rfl)) rfl ?_
          obtain ⟨r39, h40, h37⟩ := bindS h37
          refine QJ.on rfl rfl (cB hb38) (y_call Try.call110 rfl (RetG.quiet fun w hw => ok_s_l00In h40 w )) rfl ?_
          refine QJ.on rfl rfl (cB hb38) (YldS.yld (y_not rfl)) rfl ?_
          refine QJ.step (YldS.yld (y_pick_f (cB hb38) rfl)) rfl ?_
          obtain rfl := Option.some.inj h37
          exact QJ.cut_end ⟨rfl, rfl, rfl, rfl, rfl, trivial⟩
      refine QJ.step (YldS.yld (y_move rfl)) rfl ?_
      obtain ⟨t41, h42, hm⟩ := bindS hm
      refine QJ.cut 4 [(0, v2), (1, v5), (2, .int .i64 strokes7), (3, .int .i64 least8), (60, .bool t41)] ?_ ?_
      · rcases Bool.eq_false_or_eq_true t36 with hb43 | hb43
        · obtain rfl := orT h42 hb43
          refine QJ.off rfl rfl (cB hb43) rfl rfl ?_
          refine QJ.off rfl rfl (cB hb43) rfl rfl ?_
          refine QJ.off rfl rfl (cB hb43) rfl rfl ?_
          refine QJ.step (YldS.yld (y_pick_t (cB hb43) rfl)) rfl ?_
          exact QJ.cut_end ⟨rfl, rfl, rfl, rfl, rfl, trivial⟩
        · replace h42 := orF h42 hb43
          refine QJ.on rfl rfl (cB hb43) (YldS.yld (y_move rfl)) rfl ?_
          obtain ⟨r44, h45, h42⟩ := bindS h42
          refine QJ.on rfl rfl (cB hb43) (y_call Try.call110 rfl (RetG.quiet fun w hw => ok_s_l00In h45 w )) rfl ?_
          refine QJ.on rfl rfl (cB hb43) (YldS.yld (y_not rfl)) rfl ?_
          refine QJ.step (YldS.yld (y_pick_f (cB hb43) rfl)) rfl ?_
          obtain rfl := Option.some.inj h42
          exact QJ.cut_end ⟨rfl, rfl, rfl, rfl, rfl, trivial⟩
      refine QJ.done ?_
      refine PJ.next ?_
      refine WJ.cond (t := t41) rfl (fun hb46 => ?_) (fun hb46 => ?_)
      · replace hm := ifT hm hb46
        refine WJ.seq ?_
        refine WJ.quiet ?_
        refine QJ.step (YldS.yld (y_assign rfl)) rfl ?_
        refine QJ.step (YldS.yld (y_assign rfl)) rfl ?_
        refine QJ.step (YldS.yld (y_assign rfl)) rfl ?_
        refine QJ.done ?_
        refine PJ.next ?_
        refine WJ.ret ?_
        refine PJ.then_ret ?_
        obtain rfl := Option.some.inj hm
        refine PJ.sel (L' := []) [] ⟨List.nodup_nil, rfl⟩ ?_
        exact PJ.retn (vs := [.int .i64 0, .int .i64 0, .int .i64 2]) Try.results44 ⟨rfl, rfl, rfl, trivial⟩ ⟨rfl, rfl⟩
      · replace hm := ifF hm hb46
        refine WJ.skip ?_
        refine PJ.next ?_
        refine WJ.seq ?_
        refine WJ.quiet ?_
        refine QJ.step (YldS.yld (y_assign rfl)) rfl ?_
        refine QJ.done ?_
        refine PJ.next ?_
        refine WJ.seq ?_
        refine WJ.quiet ?_
        refine QJ.step (YldS.yld (y_assign rfl)) rfl ?_
        refine QJ.done ?_
        refine PJ.next ?_
        obtain ⟨kj49, hk50, hm⟩ := withK_open hm
        refine WJ.join (X := Int × Int) (fun (x : Int × Int) => kj49 x.1 x.2 = some r) (fun (x : Int × Int) => [(13, .int .i64 x.1), (14, .int .i64 x.2)]) (fun (x : Int × Int) => []) ?_ ?_
        · clear hk50
          refine WJ.seq ?_
          refine WJ.quiet ?_
          refine QJ.step (YldS.yld (y_assign rfl)) rfl ?_
          refine QJ.done ?_
          refine PJ.next ?_
          refine WJ.block ?_
          refine WJ.sel (L' := (fun (x : Int × Int × Int) => []) ((-1), 0, 0)) [] ⟨List.nodup_nil, rfl⟩ ?_
          refine WJ.sub (m' := (fun (x : Int × Int × Int) => [(0, v2), (1, v5), (2, .int .i64 strokes7), (3, .int .i64 least8), (13, .int .i64 x.1), (14, .int .i64 x.2.1), (15, .int .i64 x.2.2)]) ((-1), 0, 0)) ⟨rfl, rfl, rfl, rfl, rfl, rfl, rfl, trivial⟩ ?_
          refine WJ.loop (X := Int × Int × Int) (fun N (x : Int × Int × Int) => s_BestRibbon_l3 kj49 list1 prices4 strokes7 least8 N x.1 x.2.1 x.2.2 = some r) (fun (x : Int × Int × Int) => [(0, v2), (1, v5), (2, .int .i64 strokes7), (3, .int .i64 least8), (13, .int .i64 x.1), (14, .int .i64 x.2.1), (15, .int .i64 x.2.2)]) (fun (x : Int × Int × Int) => []) ?_ N ((-1), 0, 0) hm
          · rintro N ⟨best51, cost52, i53⟩ hI
            have hm := hI; clear hI
            cases N with
            | zero => cases hm
            | succ N =>
            unfold s_BestRibbon_l3 at hm
            refine WJ.seq ?_
            refine WJ.seq ?_
            refine WJ.quiet ?_
            refine QJ.step (YldS.yld (y_move rfl)) rfl ?_
            refine QJ.step (YldS.yld (y_move rfl)) rfl ?_
            refine QJ.step (YldS.yld (y_lenS Try.runUnderlying69 hr3 rfl)) rfl ?_
            refine QJ.step (YldS.yld (y_bin rfl rfl rfl)) rfl ?_
            refine QJ.done ?_
            refine PJ.next ?_
            refine WJ.cond (t := decide (i53 < (List.length list1 : Int))) rfl (fun hb54 => ?_) (fun hb54 => ?_)
            · replace hm := ifT hm hb54
              refine WJ.skip ?_
              refine PJ.next ?_
              obtain ⟨kj57, hk58, hm⟩ := withK_open hm
              refine WJ.join (X := Int × Int) (fun (x : Int × Int) => kj57 x.1 x.2 = some r) (fun (x : Int × Int) => [(0, v2), (1, v5), (2, .int .i64 strokes7), (3, .int .i64 least8), (13, .int .i64 x.1), (14, .int .i64 x.2), (15, .int .i64 i53)]) (fun (x : Int × Int) => []) ?_ ?_
              · clear hk58
                refine WJ.block ?_
                refine WJ.seq ?_
                refine WJ.seq ?_
                refine WJ.quiet ?_
                refine QJ.step (YldS.yld (y_move rfl)) rfl ?_
                refine QJ.step (YldS.yld (y_move rfl)) rfl ?_
                refine QJ.step (YldS.yld (y_move rfl)) rfl ?_
                obtain ⟨e59, h60, hm⟩ := bindS hm
                obtain ⟨ad61, _, rfl, ha62, hy63⟩ := hr3.elem h60
                refine QJ.step (YldS.yld (hy63 Try.runUnderlying69 Try.sizeOf59 rfl rfl)) rfl ?_
                refine QJ.step (YldS.yld (y_fld (ad := ad61) fld59_1 rfl)) rfl ?_
                refine QJ.step (YldS.yld (y_load1 (v := .int .i64 e59.ink) Try.isAgg2 (ha62.sub 1 1) St.frozenC rfl)) rfl ?_
                refine QJ.step (YldS.yld (y_bin rfl rfl rfl)) rfl ?_
                refine QJ.done ?_
                refine PJ.next ?_
                refine WJ.cond (t := decide (least8 > e59.ink)) rfl (fun hb64 => ?_) (fun hb64 => ?_)
                · replace hm := ifT hm hb64
                  refine WJ.exit ?_
                  refine PJ.then_exit (PJ.block_exit ?_)
                  exact PJ.joined (best51, cost52) [] hm ⟨rfl, rfl, rfl, rfl, rfl, rfl, rfl, trivial⟩ ⟨List.nodup_nil, rfl⟩
                · replace hm := ifF hm hb64
                  refine WJ.skip ?_
                  refine PJ.next ?_
                  refine WJ.seq ?_
                  refine WJ.quiet_draw follows (by kernel_rfl) ?_
                  refine QJ.step (YldS.yld (y_move rfl)) rfl ?_
                  refine QJ.step (YldS.yld (y_move rfl)) rfl ?_
                  obtain ⟨e65, h66, hm⟩ := bindS hm
                  obtain ⟨ad67, _, rfl, ha68, hy69⟩ := hr6.elem h66
                  refine QJ.step (YldS.yld (hy69 Try.runUnderlying66 Try.sizeOf2 rfl rfl)) rfl ?_
                  refine QJ.step (YldS.yld (y_load1 (v := .int .i64 e65) Try.isAgg2 ha68 St.frozenC rfl)) rfl ?_
                  refine QJ.step (YldS.yld (y_move rfl)) rfl ?_
                  refine QJ.step (YldS.yld (y_move rfl)) rfl ?_
                  obtain ⟨e70, h71, hm⟩ := bindS hm
                  obtain ⟨ad72, _, rfl, ha73, hy74⟩ := hr3.elem h71
                  refine QJ.step (YldS.yld (hy74 Try.runUnderlying69 Try.sizeOf59 rfl rfl)) rfl ?_
                  refine QJ.step (YldS.yld (y_loadN Try.isAgg59 Try.sizeOf59 rfl ha73 St.frozenC rfl)) rfl ?_
                  refine QJ.step (YldS.yld (y_move rfl)) rfl ?_
                  refine QJ.step (YldS.yld (y_move rfl)) rfl ?_
                  obtain ⟨r75, h76, hm⟩ := bindS hm
                  refine QJ.step (y_call Try.call138 rfl (RetG.quiet fun w hw => ok_s_l14Many h76 w )) rfl ?_
                  refine QJ.step (YldS.yld (y_bin rfl rfl rfl)) rfl ?_
                  refine QJ.step (YldS.yld (y_assign rfl)) rfl ?_
                  refine QJ.done ?_
                  refine PJ.next ?_
                  refine WJ.seq ?_
                  refine WJ.quiet ?_
                  refine QJ.step (YldS.yld (y_move rfl)) rfl ?_
                  refine QJ.step (YldS.yld (y_bin rfl rfl rfl)) rfl ?_
                  refine QJ.step (YldS.yld (y_move rfl)) rfl ?_
                  obtain ⟨t77, h78, hm⟩ := bindS hm
                  refine QJ.cut 4 [(0, v2), (1, v5), (2, .int .i64 strokes7), (3, .int .i64 least8), (13, .int .i64 best51), (14, .int .i64 cost52), (15, .int .i64 i53), (16, .int .i64 (w64 (e65 * r75))), (92, .bool t77)] ?_ ?_
                  · rcases Bool.eq_false_or_eq_true (decide (best51 < 0)) with hb79 | hb79
                    · obtain rfl := orT h78 hb79
                      refine QJ.off rfl rfl (cB hb79) rfl rfl ?_
                      refine QJ.off rfl rfl (cB hb79) rfl rfl ?_
                      refine QJ.off rfl rfl (cB hb79) rfl rfl ?_
                      refine QJ.step (YldS.yld (y_pick_t (cB hb79) rfl)) rfl ?_
                      exact QJ.cut_end ⟨rfl, rfl, rfl, rfl, rfl, rfl, rfl, rfl, rfl, trivial⟩
                    · replace h78 := orF h78 hb79
                      refine QJ.on rfl rfl (cB hb79) (YldS.yld (y_move rfl)) rfl ?_
                      refine QJ.on rfl rfl (cB hb79) (YldS.yld (y_move rfl)) rfl ?_
                      refine QJ.on rfl rfl (cB hb79) (YldS.yld (y_bin rfl rfl rfl)) rfl ?_
                      refine QJ.step (YldS.yld (y_pick_f (cB hb79) rfl)) rfl ?_
                      obtain rfl := Option.some.inj h78
                      exact QJ.cut_end ⟨rfl, rfl, rfl, rfl, rfl, rfl, rfl, rfl, rfl, trivial⟩
                  refine QJ.done ?_
                  refine PJ.next ?_
                  refine WJ.cond (t := t77) rfl (fun hb80 => ?_) (fun hb80 => ?_)
                  · replace hm := ifT hm hb80
                    refine WJ.seq ?_
                    refine WJ.quiet ?_
                    refine QJ.step (YldS.yld (y_move rfl)) rfl ?_
                    refine QJ.step (YldS.yld (y_assign rfl)) rfl ?_
                    refine QJ.done ?_
                    refine PJ.next ?_
                    refine WJ.quiet ?_
                    refine QJ.step (YldS.yld (y_move rfl)) rfl ?_
                    refine QJ.step (YldS.yld (y_assign rfl)) rfl ?_
                    refine QJ.done ?_
                    refine PJ.block_normal ?_
                    exact PJ.joined (i53, w64 (e65 * r75)) [] hm ⟨rfl, rfl, rfl, rfl, rfl, rfl, rfl, trivial⟩ ⟨List.nodup_nil, rfl⟩
                  · replace hm := ifF hm hb80
                    refine WJ.skip ?_
                    refine PJ.block_normal ?_
                    exact PJ.joined (best51, cost52) [] hm ⟨rfl, rfl, rfl, rfl, rfl, rfl, rfl, trivial⟩ ⟨List.nodup_nil, rfl⟩
              · rintro ⟨best55, cost56⟩ hm
                subst hk58
                refine WJ.quiet ?_
                refine QJ.step (YldS.yld (y_move rfl)) rfl ?_
                refine QJ.step (YldS.yld (y_bin rfl rfl rfl)) rfl ?_
                refine QJ.step (YldS.yld (y_assign rfl)) rfl ?_
                refine QJ.done ?_
                exact PJ.round (best55, cost56, w64 (i53 + 1)) [] hm ⟨rfl, rfl, rfl, rfl, rfl, rfl, rfl, trivial⟩ ⟨List.nodup_nil, rfl⟩
            · replace hm := ifF hm hb54
              refine WJ.exit ?_
              refine PJ.then_exit (PJ.then_exit (PJ.block_exit ?_))
              exact PJ.joined (best51, cost52) [] hm ⟨rfl, rfl, trivial⟩ ⟨List.nodup_nil, rfl⟩
        · rintro ⟨best47, cost48⟩ hm
          subst hk50
          refine WJ.seq ?_
          refine WJ.seq ?_
          refine WJ.quiet ?_
          refine QJ.step (YldS.yld (y_move rfl)) rfl ?_
          refine QJ.step (YldS.yld (y_bin rfl rfl rfl)) rfl ?_
          refine QJ.done ?_
          refine PJ.next ?_
          refine WJ.cond (t := decide (best47 < 0)) rfl (fun hb81 => ?_) (fun hb81 => ?_)
          · replace hm := ifT hm hb81
            refine WJ.seq ?_
            refine WJ.quiet ?_
            refine QJ.step (YldS.yld (y_assign rfl)) rfl ?_
            refine QJ.step (YldS.yld (y_assign rfl)) rfl ?_
            refine QJ.step (YldS.yld (y_assign rfl)) rfl ?_
            refine QJ.done ?_
            refine PJ.next ?_
            refine WJ.ret ?_
            refine PJ.then_ret ?_
            obtain rfl := Option.some.inj hm
            refine PJ.sel (L' := []) [] ⟨List.nodup_nil, rfl⟩ ?_
            exact PJ.retn (vs := [.int .i64 0, .int .i64 0, .int .i64 3]) Try.results44 ⟨rfl, rfl, rfl, trivial⟩ ⟨rfl, rfl⟩
          · replace hm := ifF hm hb81
            refine WJ.skip ?_
            refine PJ.next ?_
            refine WJ.seq ?_
            refine WJ.quiet ?_
            refine QJ.step (YldS.yld (y_move rfl)) rfl ?_
            refine QJ.step (YldS.yld (y_move rfl)) rfl ?_
            refine QJ.step (YldS.yld (y_assign rfl)) rfl ?_
            refine QJ.step (YldS.yld (y_assign rfl)) rfl ?_
            refine QJ.step (YldS.yld (y_assign rfl)) rfl ?_
            refine QJ.done ?_
            refine PJ.next ?_
            refine WJ.ret ?_
            obtain rfl := Option.some.inj hm
            refine PJ.sel (L' := []) [] ⟨List.nodup_nil, rfl⟩ ?_
            exact PJ.retn (vs := [.int .i64 best47, .int .i64 cost48, .int .i64 0]) Try.results44 ⟨rfl, rfl, rfl, trivial⟩ ⟨rfl, rfl⟩

set_option maxRecDepth 100000 in
set_option maxHeartbeats 1000000 in
theorem ok_s_DrawRibbonsFor {code1 : List UInt8} {r : Ribbon × Int × Int} (hm : s_DrawRibbonsFor code1 = some r) (w : World) (v2 : Value) (hr3 : RdS w (cx w).Fz v2 fByte.rp code1) :
    Calls Try.prog 45 #[v2] w (Ret (cx w) (tup [.agg (Ribbon.enc r.1).toArray, .int .i64 r.2.1, .int .i64 r.2.2])) := by
  unfold s_DrawRibbonsFor at hm
  refine Calls.enter [v2] Try.func45 rfl Try.ntmps45 rfl ?_
  refine WJ.seq ?_
  refine WJ.reg ?_
  refine SJ.alloc (cs := [.int .i64 0, .int .i64 0, .int .i64 0]) Try.zeroValue59 rfl rfl fun g4 => ?_
  refine SJ.q (YldS.yld (y_assign rfl)) rfl ?_
  refine SJ.q (YldS.yld (y_assign rfl)) rfl ?_
  refine SJ.nil ?_
  refine PJ.next ?_
  refine WJ.seq ?_
  refine WJ.reg ?_
  refine SJ.q (YldS.yld (y_move rfl)) rfl ?_
  obtain ⟨r5, h6, hm⟩ := bindS hm
  refine SJ.call Try.call95 rfl (fun w hw => ok_s_l00From h6 w _ (hr3.st hw)) rfl ?_
  rintro _ _ ⟨g7, rfl, rfl⟩
  refine SJ.q (YldS.yld (y_assign rfl)) rfl ?_
  refine SJ.nil ?_
  refine PJ.next ?_
  refine WJ.seq ?_
  refine WJ.reg ?_
  refine SJ.q (YldS.yld (y_move rfl)) rfl ?_
  obtain ⟨r8, h9, hm⟩ := bindS hm
  refine SJ.call1 (k := 0) rfl Try.call120 rfl (fun w S hw hA hO => ok_s_l14Bent h9 w S _ (hr3.st1 hw hO) hA) rfl ?_
  rintro _ _ ⟨rfl, rfl⟩
  refine SJ.alloc (cs := [.int .i64 0, .int .i64 0, .int .i64 0]) Try.zeroValue59 rfl rfl fun g10 => ?_
  refine SJ.storeL (k := 0) (off := 0) (us := [.int .i64 r8.1.spots, .int .i64 r8.1.ink, .int .i64 r8.1.takes]) rfl rfl rfl rfl Try.sizeOf59 rfl rfl ?_
  refine SJ.nil ?_
  refine PJ.next ?_
  refine WJ.seq ?_
  refine WJ.reg ?_
  refine SJ.q (YldS.yld (y_move rfl)) rfl ?_
  obtain ⟨r11, h12, hm⟩ := bindS hm
  refine SJ.call1 (k := 1) rfl Try.call127 rfl (fun w S hw hA hO => ok_s_l14Strokes h12 w S _ (hr3.st1 hw hO) hA) rfl ?_
  rintro _ _ ⟨rfl, rfl⟩
  refine SJ.q (YldS.yld (y_assign rfl)) rfl ?_
  refine SJ.nil ?_
  refine PJ.next ?_
  refine WJ.seq ?_
  obtain ⟨r13, h14, hm⟩ := bindS hm
  refine WJ.draws (N := 8) (listed0 := #[false, false, false, false, false, false, false, false]) [box g10 59 [.int .i64 r8.1.spots, .int .i64 r8.1.ink, .int .i64 r8.1.takes]] follows rfl rfl ?_
  refine RJ.first 0 (listed' := #[true, false, false, false, false, false, false, false]) [1] rfl (by kernel_rfl) rfl ⟨by decide, rfl⟩ (y_loadBN (k := 0) (off := 0) (us := [.int .i64 r8.1.spots, .int .i64 r8.1.ink, .int .i64 r8.1.takes]) rfl Try.isAgg59 Try.sizeOf59 rfl rfl) rfl ?_
  refine RJ.first 1 (listed' := #[true, true, false, false, false, false, false, false]) [1] rfl (by kernel_rfl) rfl ⟨by decide, rfl⟩ (y_move rfl) rfl ?_
  refine RJ.first 2 (listed' := #[true, true, true, false, false, false, false, false]) [1] rfl (by kernel_rfl) rfl ⟨by decide, rfl⟩ (y_move rfl) rfl ?_
  refine RJ.first 3 (listed' := #[true, true, true, true, false, false, false, false]) [1] rfl (by kernel_rfl) rfl ⟨by decide, rfl⟩ (y_loadBN (k := 0) (off := 0) (us := [.int .i64 r8.1.spots, .int .i64 r8.1.ink, .int .i64 r8.1.takes]) rfl Try.isAgg59 Try.sizeOf59 rfl rfl) rfl ?_
  refine RJ.step1 4 [1] (by kernel_rfl) ⟨by decide, rfl⟩ ?_
  refine RO.of (listed' := #[true, true, true, true, true, false, false, false]) rfl rfl ?_
  refine SJ.call1 (k := 0) rfl Try.call122 rfl (fun w S hw hA hO => ok_s_l14DrawLeast h14 w S _ (hr3.st1 hw hO) hA) rfl ?_
  rintro _ _ ⟨rfl, rfl⟩
  refine SJ.nil ?_
  refine PJ.draw ?_
  refine RJ.step1 5 [1] (by kernel_rfl) ⟨by decide, rfl⟩ ?_
  refine RO.of (listed' := #[true, true, true, true, true, true, false, false]) rfl rfl ?_
  refine SJ.storeL (k := 2) (off := 0) (us := [.int .i64 r8.1.spots, .int .i64 r8.1.ink, .int .i64 r8.1.takes]) rfl rfl rfl rfl Try.sizeOf59 rfl rfl ?_
  refine SJ.nil ?_
  refine PJ.draw ?_
  refine RJ.first 6 (listed' := #[true, true, true, true, true, true, true, false]) [1] rfl (by kernel_rfl) rfl ⟨by decide, rfl⟩ (y_assign rfl) rfl ?_
  refine RJ.first 7 (listed' := #[true, true, true, true, true, true, true, true]) [1] rfl (by kernel_rfl) rfl ⟨by decide, rfl⟩ (y_assign rfl) rfl ?_
  refine RJ.fin [1] (by kernel_rfl) ⟨by decide, rfl⟩ ?_
  refine PJ.next ?_
  refine WJ.ret ?_
  obtain rfl := Option.some.inj hm
  exact PJ.retn_sel (vs := [.agg (Ribbon.enc r8.1).toArray, .int .i64 r11.1, .int .i64 r13.1]) Try.results45 ⟨⟨2, g4, 59, [.int .i64 r8.1.spots, .int .i64 r8.1.ink, .int .i64 r8.1.takes], rfl, rfl, .inl ⟨Try.isAgg59, Try.sizeOf59, rfl⟩⟩, rfl, rfl, trivial⟩ [] ⟨List.nodup_nil, rfl⟩ ⟨rfl, rfl⟩

set_option maxRecDepth 100000 in
set_option maxHeartbeats 1000000 in
theorem ok_i_RibbonsFor {N : Nat} {r1 : Ribbon} {strokes2 : Int} {least3 : Int} {r : Int × Int} (hm : i_RibbonsFor N r1 strokes2 least3 = some r) (w : World)  :
    Calls Try.prog 46 #[.agg (Ribbon.enc r1).toArray, .int .i64 strokes2, .int .i64 least3] w (Ret (cx w) (tup [.int .i64 r.1, .int .i64 r.2])) := by
  unfold i_RibbonsFor at hm
  refine Calls.enter [.agg (Ribbon.enc r1).toArray, .int .i64 strokes2, .int .i64 least3] Try.func46 rfl Try.ntmps46 rfl ?_
  refine WJ.seq ?_
  refine WJ.reg ?_
  refine SJ.box (cs := [.int .i64 r1.spots, .int .i64 r1.ink, .int .i64 r1.takes]) rfl rfl rfl fun g4 => ?_
  refine SJ.q (YldS.yld (y_assign rfl)) rfl ?_
  refine SJ.q (YldS.yld (y_assign rfl)) rfl ?_
  refine SJ.nil ?_
  refine PJ.next ?_
  refine WJ.seq ?_
  refine WJ.seq ?_
  refine WJ.quiet ?_
  refine QJ.step (YldS.yld (y_loadBN (k := 0) (off := 0) (us := [.int .i64 r1.spots, .int .i64 r1.ink, .int .i64 r1.takes]) rfl Try.isAgg59 Try.sizeOf59 rfl rfl)) rfl ?_
  obtain ⟨r5, h6, hm⟩ := bindS hm
  refine QJ.step (y_call Try.call123 rfl (RetG.quiet fun w hw => ok_i_ValidRibbon h6 w )) rfl ?_
  refine QJ.step (YldS.yld (y_not rfl)) rfl ?_
  refine QJ.done ?_
  refine PJ.next ?_
  refine WJ.cond (t := !r5) rfl (fun hb7 => ?_) (fun hb7 => ?_)
  · replace hm := ifT hm hb7
    refine WJ.seq ?_
    refine WJ.quiet ?_
    refine QJ.step (YldS.yld (y_assign rfl)) rfl ?_
    refine QJ.step (YldS.yld (y_assign rfl)) rfl ?_
    refine QJ.done ?_
    refine PJ.next ?_
    refine WJ.ret ?_
    refine PJ.then_ret ?_
    obtain rfl := Option.some.inj hm
    refine PJ.sel (L' := []) [] ⟨List.nodup_nil, rfl⟩ ?_
    exact PJ.retn (vs := [.int .i64 0, .int .i64 1]) Try.results46 ⟨rfl, rfl, trivial⟩ ⟨rfl, rfl⟩
  · replace hm := ifF hm hb7
    refine WJ.skip ?_
    refine PJ.next ?_
    refine WJ.seq ?_
    refine WJ.seq ?_
    refine WJ.quiet ?_
    refine QJ.step (YldS.yld (y_move rfl)) rfl ?_
    obtain ⟨r8, h9, hm⟩ := bindS hm
    refine QJ.step (y_call Try.call135 rfl (RetG.quiet fun w hw => ok_i_isUse h9 w )) rfl ?_
    refine QJ.step (YldS.yld (y_not rfl)) rfl ?_
    refine QJ.step (YldS.yld (y_move rfl)) rfl ?_
    obtain ⟨t10, h11, hm⟩ := bindS hm
    refine QJ.cut 6 [(1, .int .i64 strokes2), (2, .int .i64 least3), (3, pt g4 0), (20, .bool t10)] ?_ ?_
    · rcases Bool.eq_false_or_eq_true (!r8) with hb12 | hb12
      · obtain rfl := orT h11 hb12
        refine QJ.off rfl rfl (cB hb12) rfl rfl ?_
        refine QJ.off rfl rfl (cB hb12) rfl rfl ?_
        refine QJ.off rfl rfl (cB hb12) rfl rfl ?_
        refine QJ.off rfl rfl (cB hb12) rfl rfl ?_
        refine QJ.off rfl rfl (cB hb12) rfl rfl ?_
        refine QJ.step (YldS.yld (y_pick_t (cB hb12) rfl)) rfl ?_
        exact QJ.cut_end ⟨rfl, rfl, rfl, rfl, trivial⟩
      · replace h11 := orF h11 hb12
        refine QJ.on rfl rfl (cB hb12) (YldS.yld (y_move rfl)) rfl ?_
        refine QJ.on rfl rfl (cB hb12) (YldS.yld (y_fldB (o := 0) fld59_1 rfl)) rfl ?_
        refine QJ.on rfl rfl (cB hb12) (YldS.yld (y_loadB (k := 0) (off := 1) (v := .int .i64 r1.ink) rfl Try.isAgg2 rfl rfl)) rfl ?_
        obtain ⟨r13, h14, h11⟩ := bindS h11
        refine QJ.on rfl rfl (cB hb12) (y_call Try.call107 rfl (RetG.quiet fun w hw => ok_i_between h14 w )) rfl ?_
        refine QJ.on rfl rfl (cB hb12) (YldS.yld (y_not rfl)) rfl ?_
        refine QJ.step (YldS.yld (y_pick_f (cB hb12) rfl)) rfl ?_
        obtain rfl := Option.some.inj h11
        exact QJ.cut_end ⟨rfl, rfl, rfl, rfl, trivial⟩
    refine QJ.done ?_
    refine PJ.next ?_
    refine WJ.cond (t := t10) rfl (fun hb15 => ?_) (fun hb15 => ?_)
    · replace hm := ifT hm hb15
      refine WJ.seq ?_
      refine WJ.quiet ?_
      refine QJ.step (YldS.yld (y_assign rfl)) rfl ?_
      refine QJ.step (YldS.yld (y_assign rfl)) rfl ?_
      refine QJ.done ?_
      refine PJ.next ?_
      refine WJ.ret ?_
      refine PJ.then_ret ?_
      obtain rfl := Option.some.inj hm
      refine PJ.sel (L' := []) [] ⟨List.nodup_nil, rfl⟩ ?_
      exact PJ.retn (vs := [.int .i64 0, .int .i64 2]) Try.results46 ⟨rfl, rfl, trivial⟩ ⟨rfl, rfl⟩
    · replace hm := ifF hm hb15
      refine WJ.skip ?_
      refine PJ.next ?_
      refine WJ.seq ?_
      refine WJ.quiet ?_
      refine QJ.step (YldS.yld (y_loadBN (k := 0) (off := 0) (us := [.int .i64 r1.spots, .int .i64 r1.ink, .int .i64 r1.takes]) rfl Try.isAgg59 Try.sizeOf59 rfl rfl)) rfl ?_
      refine QJ.step (YldS.yld (y_move rfl)) rfl ?_
      refine QJ.step (YldS.yld (y_move rfl)) rfl ?_
      obtain ⟨r16, h17, hm⟩ := bindS hm
      refine QJ.step (y_call Try.call136 rfl (RetG.quiet fun w hw => ok_i_Ribbon_needed h17 w )) rfl ?_
      refine QJ.step (YldS.yld (y_assign rfl)) rfl ?_
      refine QJ.step (YldS.yld (y_assign rfl)) rfl ?_
      refine QJ.done ?_
      refine PJ.next ?_
      refine WJ.ret ?_
      obtain rfl := Option.some.inj hm
      refine PJ.sel (L' := []) [] ⟨List.nodup_nil, rfl⟩ ?_
      exact PJ.retn (vs := [.int .i64 r16, .int .i64 0]) Try.results46 ⟨rfl, rfl, trivial⟩ ⟨rfl, rfl⟩

set_option maxRecDepth 100000 in
set_option maxHeartbeats 1000000 in
theorem ok_s_RibbonsFor {N : Nat} {r1 : Ribbon} {strokes2 : Int} {least3 : Int} {r : Int × Int} (hm : s_RibbonsFor N r1 strokes2 least3 = some r) (w : World)  :
    Calls Try.prog 47 #[.agg (Ribbon.enc r1).toArray, .int .i64 strokes2, .int .i64 least3] w (Ret (cx w) (tup [.int .i64 r.1, .int .i64 r.2])) := by
  unfold s_RibbonsFor at hm
  refine Calls.enter [.agg (Ribbon.enc r1).toArray, .int .i64 strokes2, .int .i64 least3] Try.func47 rfl Try.ntmps47 rfl ?_
  refine WJ.seq ?_
  refine WJ.reg ?_
  refine SJ.box (cs := [.int .i64 r1.spots, .int .i64 r1.ink, .int .i64 r1.takes]) rfl rfl rfl fun g4 => ?_
  refine SJ.q (YldS.yld (y_assign rfl)) rfl ?_
  refine SJ.q (YldS.yld (y_assign rfl)) rfl ?_
  refine SJ.nil ?_
  refine PJ.next ?_
  refine WJ.seq ?_
  refine WJ.quiet ?_
  refine QJ.step (YldS.yld (y_loadBN (k := 0) (off := 0) (us := [.int .i64 r1.spots, .int .i64 r1.ink, .int .i64 r1.takes]) rfl Try.isAgg59 Try.sizeOf59 rfl rfl)) rfl ?_
  refine QJ.step (YldS.yld (y_move rfl)) rfl ?_
  obtain ⟨r5, h6, hm⟩ := bindS hm
  refine QJ.step (y_call Try.call125 rfl (RetG.quiet fun w hw => ok_s_l14Least h6 w )) rfl ?_
  refine QJ.step (YldS.yld (y_assign rfl)) rfl ?_
  refine QJ.done ?_
  refine PJ.next ?_
  obtain ⟨kj8, hk9, hm⟩ := withK_open hm
  refine WJ.join (X := Int) (fun (x : Int) => kj8 x = some r) (fun (x : Int) => [(1, .int .i64 strokes2), (2, .int .i64 least3), (3, pt g4 0), (8, .int .i64 x)]) (fun (x : Int) => [box g4 59 [.int .i64 r1.spots, .int .i64 r1.ink, .int .i64 r1.takes]]) ?_ ?_
  · clear hk9
    refine WJ.seq ?_
    refine WJ.quiet ?_
    refine QJ.step (YldS.yld (y_move rfl)) rfl ?_
    refine QJ.step (YldS.yld (y_bin rfl rfl rfl)) rfl ?_
    refine QJ.done ?_
    refine PJ.next ?_
    refine WJ.cond (t := (r5 == 0)) rfl (fun hb10 => ?_) (fun hb10 => ?_)
    · replace hm := ifT hm hb10
      refine WJ.quiet ?_
      refine QJ.step (YldS.yld (y_loadBN (k := 0) (off := 0) (us := [.int .i64 r1.spots, .int .i64 r1.ink, .int .i64 r1.takes]) rfl Try.isAgg59 Try.sizeOf59 rfl rfl)) rfl ?_
      refine QJ.step (YldS.yld (y_move rfl)) rfl ?_
      obtain ⟨r11, h12, hm⟩ := bindS hm
      refine QJ.step (y_call Try.call139 rfl (RetG.quiet fun w hw => ok_s_l14Code h12 w )) rfl ?_
      refine QJ.step (YldS.yld (y_assign rfl)) rfl ?_
      refine QJ.done ?_
      exact PJ.joined r11 [0] hm ⟨rfl, rfl, rfl, rfl, trivial⟩ ⟨by decide, rfl⟩
    · replace hm := ifF hm hb10
      refine WJ.skip ?_
      exact PJ.joined r5 [0] hm ⟨rfl, rfl, rfl, rfl, trivial⟩ ⟨by decide, rfl⟩
  · rintro code7 hm
    subst hk9
    refine WJ.seq ?_
    refine WJ.seq ?_
    refine WJ.quiet ?_
    refine QJ.step (YldS.yld (y_move rfl)) rfl ?_
    refine QJ.step (YldS.yld (y_bin rfl rfl rfl)) rfl ?_
    refine QJ.done ?_
    refine PJ.next ?_
    refine WJ.cond (t := (code7 != 0)) rfl (fun hb13 => ?_) (fun hb13 => ?_)
    · replace hm := ifT hm hb13
      refine WJ.seq ?_
      refine WJ.quiet ?_
      refine QJ.step (YldS.yld (y_move rfl)) rfl ?_
      refine QJ.step (YldS.yld (y_assign rfl)) rfl ?_
      refine QJ.step (YldS.yld (y_assign rfl)) rfl ?_
      refine QJ.done ?_
      refine PJ.next ?_
      refine WJ.ret ?_
      refine PJ.then_ret ?_
      obtain rfl := Option.some.inj hm
      refine PJ.sel (L' := []) [] ⟨List.nodup_nil, rfl⟩ ?_
      exact PJ.retn (vs := [.int .i64 0, .int .i64 code7]) Try.results47 ⟨rfl, rfl, trivial⟩ ⟨rfl, rfl⟩
    · replace hm := ifF hm hb13
      refine WJ.skip ?_
      refine PJ.next ?_
      refine WJ.seq ?_
      refine WJ.quiet ?_
      refine QJ.step (YldS.yld (y_loadBN (k := 0) (off := 0) (us := [.int .i64 r1.spots, .int .i64 r1.ink, .int .i64 r1.takes]) rfl Try.isAgg59 Try.sizeOf59 rfl rfl)) rfl ?_
      refine QJ.step (YldS.yld (y_move rfl)) rfl ?_
      refine QJ.step (YldS.yld (y_move rfl)) rfl ?_
      obtain ⟨r14, h15, hm⟩ := bindS hm
      refine QJ.step (y_call Try.call138 rfl (RetG.quiet fun w hw => ok_s_l14Many h15 w )) rfl ?_
      refine QJ.step (YldS.yld (y_assign rfl)) rfl ?_
      refine QJ.step (YldS.yld (y_assign rfl)) rfl ?_
      refine QJ.done ?_
      refine PJ.next ?_
      refine WJ.ret ?_
      obtain rfl := Option.some.inj hm
      refine PJ.sel (L' := []) [] ⟨List.nodup_nil, rfl⟩ ?_
      exact PJ.retn (vs := [.int .i64 r14, .int .i64 0]) Try.results47 ⟨rfl, rfl, trivial⟩ ⟨rfl, rfl⟩

set_option maxRecDepth 100000 in
set_option maxHeartbeats 1000000 in
theorem ok_s_DrawColourRuns {N : Nat} {code1 : List UInt8} {r : Str} (hm : s_DrawColourRuns N code1 = some r) (w : World) (v2 : Value) (hr3 : RdS w (cx w).Fz v2 fByte.rp code1) :
    Calls Try.prog 48 #[v2] w (Ret (cx w) (str r)) := by
  unfold s_DrawColourRuns at hm
  refine Calls.enter [v2] Try.func48 rfl Try.ntmps48 rfl ?_
  refine WJ.seq ?_
  refine WJ.quiet ?_
  refine QJ.step (YldS.yld (y_assign rfl)) rfl ?_
  refine QJ.done ?_
  refine PJ.next ?_
  refine WJ.seq ?_
  refine WJ.reg ?_
  refine SJ.q (YldS.yld (y_move rfl)) rfl ?_
  obtain ⟨r4, h5, hm⟩ := bindS hm
  refine SJ.call Try.call95 rfl (fun w hw => ok_s_l00From h5 w _ (hr3.st hw)) rfl ?_
  rintro _ _ ⟨g6, rfl, rfl⟩
  refine SJ.q (YldS.yld (y_assign rfl)) rfl ?_
  refine SJ.nil ?_
  refine PJ.next ?_
  refine WJ.seq ?_
  refine WJ.reg ?_
  refine SJ.buildSlice (R := fByte) (os := []) [] Try.runUnderlying22 Try.sizeOf5 Try.zeroValue5 rfl rfl rfl rfl rfl rfl fun v7 => ?_
  refine SJ.q (YldS.yld (y_assign rfl)) rfl ?_
  refine SJ.nil ?_
  refine PJ.next ?_
  refine WJ.seq ?_
  refine WJ.reg ?_
  refine SJ.q (YldS.yld (y_move rfl)) rfl ?_
  obtain ⟨r8, h9, hm⟩ := bindS hm
  refine SJ.call1 (k := 1) rfl Try.call97 rfl (fun w S hw hA hO => ok_s_l00Src_pick h9 w S _ (hr3.st1 hw hO) hA) rfl ?_
  rintro _ _ ⟨rfl, rfl⟩
  refine SJ.q (YldS.yld (y_assign rfl)) rfl ?_
  refine SJ.nil ?_
  refine PJ.next ?_
  obtain ⟨kj13, hk14, hm⟩ := withK_open hm
  refine WJ.join (X := Int × Int × Int) (fun (x : Int × Int × Int) => kj13 x.1 x.2.1 x.2.2 = some r) (fun (x : Int × Int × Int) => [(3, pt g6 0), (4, v7), (5, .int .i64 x.2.2)]) (fun (x : Int × Int × Int) => [box g6 185 [v2, .int .i64 x.1, .int .u64 x.2.1], row v7 5 fByte []]) ?_ ?_
  · clear hk14
    refine WJ.seq ?_
    refine WJ.reg ?_
    refine SJ.q (YldS.yld (y_move rfl)) rfl ?_
    obtain ⟨r15, h16, hm⟩ := bindS hm
    refine SJ.call1 (k := 0) rfl Try.call121 rfl (fun w S hw hA hO => ok_s_l00Src_one h16 w S _ (hr3.st1 hw hO) hA) rfl ?_
    rintro _ _ ⟨rfl, rfl⟩
    refine SJ.nil ?_
    refine PJ.next ?_
    refine WJ.cond (t := r15.1) rfl (fun hb17 => ?_) (fun hb17 => ?_)
    · replace hm := ifT hm hb17
      refine WJ.reg ?_
      refine SJ.q (YldS.yld (y_move rfl)) rfl ?_
      obtain ⟨r18, h19, hm⟩ := bindS hm
      refine SJ.call1 (k := 0) rfl Try.call97 rfl (fun w S hw hA hO => ok_s_l00Src_pick h19 w S _ (hr3.st1 hw hO) hA) rfl ?_
      rintro _ _ ⟨rfl, rfl⟩
      refine SJ.q (YldS.yld (y_bin rfl rfl rfl)) rfl ?_
      refine SJ.q (YldS.yld (y_assign rfl)) rfl ?_
      refine SJ.nil ?_
      exact PJ.joined (r18.2.at_, r18.2.seed, w64 (1000 + r18.1)) [0, 1] hm ⟨rfl, rfl, rfl, trivial⟩ ⟨by decide, rfl⟩
    · replace hm := ifF hm hb17
      refine WJ.skip ?_
      exact PJ.joined (r15.2.at_, r15.2.seed, r8.1) [0, 1] hm ⟨rfl, rfl, rfl, trivial⟩ ⟨by decide, rfl⟩
  · rintro ⟨x10, x11, n12⟩ hm
    subst hk14
    obtain ⟨kj24, hk25, hm⟩ := withK_open hm
    refine WJ.join (X := Int × Int × (List UInt8) × Value) (fun (x : Int × Int × (List UInt8) × Value) => kj24 x.1 x.2.1 x.2.2.1 = some r) (fun (x : Int × Int × (List UInt8) × Value) => [(3, pt g6 0), (4, x.2.2.2), (5, .int .i64 n12)]) (fun (x : Int × Int × (List UInt8) × Value) => [box g6 185 [v2, .int .i64 x.1, .int .u64 x.2.1], row x.2.2.2 5 fByte x.2.2.1]) ?_ ?_
    · clear hk25
      refine WJ.seq ?_
      refine WJ.quiet ?_
      refine QJ.step (YldS.yld (y_move rfl)) rfl ?_
      refine QJ.step (YldS.yld (y_assign rfl)) rfl ?_
      refine QJ.done ?_
      refine PJ.next ?_
      refine WJ.block ?_
      refine WJ.sel (L' := (fun (x : Int × Int × (List UInt8) × Value × Int) => [box g6 185 [v2, .int .i64 x.1, .int .u64 x.2.1], row x.2.2.2.1 5 fByte x.2.2.1]) (x10, x11, [], v7, n12)) [0, 1] ⟨by decide, rfl⟩ ?_
      refine WJ.sub (m' := (fun (x : Int × Int × (List UInt8) × Value × Int) => [(3, pt g6 0), (4, x.2.2.2.1), (5, .int .i64 n12), (6, .int .i64 x.2.2.2.2)]) (x10, x11, [], v7, n12)) ⟨rfl, rfl, rfl, rfl, trivial⟩ ?_
      refine WJ.loop (X := Int × Int × (List UInt8) × Value × Int) (fun N (x : Int × Int × (List UInt8) × Value × Int) => s_DrawColourRuns_l1 kj24 code1 N x.1 x.2.1 x.2.2.1 x.2.2.2.2 = some r) (fun (x : Int × Int × (List UInt8) × Value × Int) => [(3, pt g6 0), (4, x.2.2.2.1), (5, .int .i64 n12), (6, .int .i64 x.2.2.2.2)]) (fun (x : Int × Int × (List UInt8) × Value × Int) => [box g6 185 [v2, .int .i64 x.1, .int .u64 x.2.1], row x.2.2.2.1 5 fByte x.2.2.1]) ?_ N (x10, x11, [], v7, n12) hm
      · rintro N ⟨x26, x27, l28, v29, k30⟩ hI
        have hm := hI; clear hI
        cases N with
        | zero => cases hm
        | succ N =>
        unfold s_DrawColourRuns_l1 at hm
        refine WJ.seq ?_
        refine WJ.seq ?_
        refine WJ.quiet ?_
        refine QJ.step (YldS.yld (y_move rfl)) rfl ?_
        refine QJ.step (YldS.yld (y_bin rfl rfl rfl)) rfl ?_
        refine QJ.done ?_
        refine PJ.next ?_
        refine WJ.cond (t := decide (k30 > 0)) rfl (fun hb31 => ?_) (fun hb31 => ?_)
        · replace hm := ifT hm hb31
          refine WJ.skip ?_
          refine PJ.next ?_
          refine WJ.seq ?_
          refine WJ.block ?_
          refine WJ.reg ?_
          refine SJ.q (YldS.yld (y_move rfl)) rfl ?_
          refine SJ.q (YldS.yld (y_move rfl)) rfl ?_
          obtain ⟨r32, h33, hm⟩ := bindS hm
          refine SJ.call1 (k := 0) rfl Try.call97 rfl (fun w S hw hA hO => ok_s_l00Src_pick h33 w S _ (hr3.st1 hw hO) hA) rfl ?_
          rintro _ _ ⟨rfl, rfl⟩
          obtain ⟨c34, h35, hm⟩ := bindS hm
          refine SJ.q (YldS.yld (y_idxStr Try.runUnderlying9 rfl rfl h35)) rfl ?_
          refine SJ.buildSlice (R := fByte) (os := [.tmp 25]) [c34] Try.runUnderlying22 Try.sizeOf5 Try.zeroValue5 rfl rfl rfl rfl rfl rfl fun v36 => ?_
          obtain ⟨l37, h38, hm⟩ := bindS hm
          refine SJ.append (k := 2) (R := fByte) h38 rfl Try.underlying22 el5 rfl rfl rfl (fun w hw => (hw.row_rd (k := 0) rfl)) rfl fun v39 => ?_
          refine SJ.q (YldS.yld (y_assign rfl)) rfl ?_
          refine SJ.nil ?_
          refine PJ.block_normal (PJ.next ?_)
          refine WJ.quiet ?_
          refine QJ.step (YldS.yld (y_move rfl)) rfl ?_
          refine QJ.step (YldS.yld (y_bin rfl rfl rfl)) rfl ?_
          refine QJ.step (YldS.yld (y_assign rfl)) rfl ?_
          refine QJ.done ?_
          exact PJ.round (r32.2.at_, r32.2.seed, l37, v39, w64 (k30 - 1)) [1, 2] hm ⟨rfl, rfl, rfl, rfl, trivial⟩ ⟨by decide, rfl⟩
        · replace hm := ifF hm hb31
          refine WJ.exit ?_
          refine PJ.then_exit (PJ.then_exit (PJ.block_exit ?_))
          exact PJ.joined (x26, x27, l28, v29) [0, 1] hm ⟨rfl, rfl, rfl, trivial⟩ ⟨by decide, rfl⟩
    · rintro ⟨x20, x21, l22, v23⟩ hm
      subst hk25
      obtain ⟨kj41, hk42, hm⟩ := withK_open hm
      refine WJ.join (X := (List UInt8)) (fun (x : (List UInt8)) => kj41 x = some r) (fun (x : (List UInt8)) => [(4, v23)]) (fun (x : (List UInt8)) => [row v23 5 fByte x]) ?_ ?_
      · clear hk42
        refine WJ.seq ?_
        refine WJ.reg ?_
        refine SJ.q (YldS.yld (y_move rfl)) rfl ?_
        refine SJ.q (YldS.yld (y_bin rfl rfl rfl)) rfl ?_
        refine SJ.q (YldS.yld (y_move rfl)) rfl ?_
        obtain ⟨x45, h44, hm⟩ := bindS hm
        refine SJ.cut 3 [(4, v23), (33, .bool x45.1)] [box g6 185 [v2, .int .i64 x45.2.at_, .int .u64 x45.2.seed], row v23 5 fByte l22] ?_ ?_
        · rcases Bool.eq_false_or_eq_true (decide (n12 > 0)) with hb46 | hb46
          · replace h44 := ifT h44 hb46
            refine SJ.on rfl rfl (cB hb46) (SJ.q (YldS.yld (y_move rfl)) rfl ?_)
            obtain ⟨r47, h48, h44⟩ := bindS h44
            refine SJ.on rfl rfl (cB hb46) (SJ.call1 (k := 0) rfl Try.call121 rfl (fun w S hw hA hO => ok_s_l00Src_one h48 w S _ (hr3.st1 hw hO) hA) rfl ?_)
            rintro _ _ ⟨rfl, rfl⟩
            refine SJ.q (YldS.yld (y_pick_t (cB hb46) rfl)) rfl ?_
            obtain rfl := Option.some.inj h44
            exact SJ.cut_end [0, 1] ⟨rfl, rfl, trivial⟩ ⟨by decide, rfl⟩
          · replace h44 := ifF h44 hb46
            obtain rfl := Option.some.inj h44
            refine SJ.off rfl rfl (cB hb46) rfl rfl ?_
            refine SJ.off rfl rfl (cB hb46) rfl rfl ?_
            refine SJ.q (YldS.yld (y_pick_f (cB hb46) rfl)) rfl ?_
            exact SJ.cut_end [0, 1] ⟨rfl, rfl, trivial⟩ ⟨by decide, rfl⟩
        refine SJ.nil ?_
        refine PJ.next ?_
        refine WJ.cond (t := x45.1) rfl (fun hb49 => ?_) (fun hb49 => ?_)
        · replace hm := ifT hm hb49
          refine WJ.reg ?_
          refine SJ.q (YldS.yld (y_move rfl)) rfl ?_
          obtain ⟨e50, h51, hm⟩ := bindS hm
          refine SJ.q (YldS.yld (y_ixRow (k := 1) (R := fByte) rfl Try.runUnderlying22 Try.sizeOf5 rfl rfl h51)) rfl ?_
          refine SJ.storeRL (k := 1) (i := (Int.toNat 0)) (off := 0) (us := [.int .u8 (UInt8.toNat 103 : Int)]) (b := 103) rfl rfl (idx_get h51) rfl rfl Try.sizeOf5 rfl rfl rfl ?_
          refine SJ.nil ?_
          exact PJ.joined (List.set l22 (Int.toNat 0) 103) [1] hm ⟨rfl, trivial⟩ ⟨by decide, rfl⟩
        · replace hm := ifF hm hb49
          refine WJ.skip ?_
          exact PJ.joined l22 [1] hm ⟨rfl, trivial⟩ ⟨by decide, rfl⟩
      · rintro l40 hm
        subst hk42
        refine WJ.seq ?_
        refine WJ.quiet ?_
        refine QJ.step (YldS.yld (y_move rfl)) rfl ?_
        refine QJ.step (YldS.yld (y_b2s Try.underlying22 Try.underlying9 Try.underlying5 (fun w hw => ⟨_, (hw.row_rd (k := 0) rfl)⟩) rfl)) rfl ?_
        refine QJ.step (YldS.yld (y_assign rfl)) rfl ?_
        refine QJ.done ?_
        refine PJ.next ?_
        refine WJ.ret ?_
        obtain rfl := Option.some.inj hm
        refine PJ.sel (L' := []) [] ⟨List.nodup_nil, rfl⟩ ?_
        exact PJ.retn (vs := [str l40]) Try.results48 ⟨rfl, trivial⟩ ⟨rfl, rfl⟩

set_option maxRecDepth 100000 in
set_option maxHeartbeats 1000000 in
theorem ok_i_ColourRuns {N : Nat} {colours1 : Str} {r : Int × Int} (hm : i_ColourRuns N colours1 = some r) (w : World)  :
    Calls Try.prog 49 #[str colours1] w (Ret (cx w) (tup [.int .i64 r.1, .int .i64 r.2])) := by
  unfold i_ColourRuns at hm
  refine Calls.enter [str colours1] Try.func49 rfl Try.ntmps49 rfl ?_
  refine WJ.seq ?_
  refine WJ.quiet ?_
  refine QJ.step (YldS.yld (y_assign rfl)) rfl ?_
  refine QJ.step (YldS.yld (y_assign rfl)) rfl ?_
  refine QJ.done ?_
  refine PJ.next ?_
  obtain ⟨kj2, hk3, hm⟩ := withK_open hm
  refine WJ.join (X := Unit) (fun (_ : Unit) => kj2  = some r) (fun (_ : Unit) => [(0, str colours1)]) (fun (_ : Unit) => []) ?_ ?_
  · clear hk3
    refine WJ.seq ?_
    refine WJ.quiet ?_
    refine QJ.step (YldS.yld (y_move rfl)) rfl ?_
    refine QJ.step (YldS.yld (y_lenStr Try.runUnderlying9 rfl)) rfl ?_
    refine QJ.step (YldS.yld (y_move rfl)) rfl ?_
    refine QJ.done ?_
    refine PJ.next ?_
    refine WJ.block ?_
    refine WJ.sel (L' := (fun (x : Int) => []) 0) [] ⟨List.nodup_nil, rfl⟩ ?_
    refine WJ.sub (m' := (fun (x : Int) => [(0, str colours1), (11, .int .i64 (List.length colours1 : Int)), (12, .int .i64 x)]) 0) ⟨rfl, rfl, rfl, trivial⟩ ?_
    refine WJ.loop (X := Int) (fun N (x : Int) => i_ColourRuns_l1 kj2 colours1 N x = some r) (fun (x : Int) => [(0, str colours1), (11, .int .i64 (List.length colours1 : Int)), (12, .int .i64 x)]) (fun (x : Int) => []) ?_ N 0 hm
    · rintro N x4 hI
      have hm := hI; clear hI
      cases N with
      | zero => cases hm
      | succ N =>
      unfold i_ColourRuns_l1 at hm
      refine WJ.seq ?_
      refine WJ.quiet ?_
      refine QJ.step (YldS.yld (y_bin rfl rfl rfl)) rfl ?_
      refine QJ.done ?_
      refine PJ.next ?_
      refine WJ.seq ?_
      refine WJ.cond (t := decide (x4 < (List.length colours1 : Int))) rfl (fun hb5 => ?_) (fun hb5 => ?_)
      · replace hm := ifT hm hb5
        refine WJ.skip ?_
        refine PJ.next ?_
        refine WJ.seq ?_
        refine WJ.block ?_
        refine WJ.seq ?_
        refine WJ.quiet ?_
        refine QJ.step (YldS.yld (y_move rfl)) rfl ?_
        refine QJ.step (YldS.yld (y_assign rfl)) rfl ?_
        refine QJ.done ?_
        refine PJ.next ?_
        refine WJ.seq ?_
        refine WJ.quiet ?_
        refine QJ.step (YldS.yld (y_move rfl)) rfl ?_
        refine QJ.step (YldS.yld (y_move rfl)) rfl ?_
        obtain ⟨c6, h7, hm⟩ := bindS hm
        refine QJ.step (YldS.yld (y_idxStr Try.runUnderlying9 rfl rfl h7)) rfl ?_
        refine QJ.step (YldS.yld (y_assign rfl)) rfl ?_
        refine QJ.done ?_
        refine PJ.next ?_
        refine WJ.seq ?_
        refine WJ.quiet ?_
        refine QJ.step (YldS.yld (y_move rfl)) rfl ?_
        refine QJ.step (YldS.yld (y_bin8 c6 (98 : UInt8) rfl rfl rfl)) rfl ?_
        refine QJ.step (YldS.yld (y_move rfl)) rfl ?_
        obtain ⟨t8, h9, hm⟩ := bindS hm
        refine QJ.cut 3 [(0, str colours1), (5, .int .u8 (UInt8.toNat c6 : Int)), (11, .int .i64 (List.length colours1 : Int)), (12, .int .i64 x4), (23, .bool t8)] ?_ ?_
        · rcases Bool.eq_false_or_eq_true (c6 != (98 : UInt8)) with hb10 | hb10
          · replace h9 := andT h9 hb10
            refine QJ.on rfl rfl (cB hb10) (YldS.yld (y_move rfl)) rfl ?_
            refine QJ.on rfl rfl (cB hb10) (YldS.yld (y_bin8 c6 (114 : UInt8) rfl rfl rfl)) rfl ?_
            refine QJ.step (YldS.yld (y_pick_t (cB hb10) rfl)) rfl ?_
            obtain rfl := Option.some.inj h9
            exact QJ.cut_end ⟨rfl, rfl, rfl, rfl, rfl, trivial⟩
          · obtain rfl := andF h9 hb10
            refine QJ.off rfl rfl (cB hb10) rfl rfl ?_
            refine QJ.off rfl rfl (cB hb10) rfl rfl ?_
            refine QJ.step (YldS.yld (y_pick_f (cB hb10) rfl)) rfl ?_
            exact QJ.cut_end ⟨rfl, rfl, rfl, rfl, rfl, trivial⟩
        refine QJ.step (YldS.yld (y_move rfl)) rfl ?_
        obtain ⟨t11, h12, hm⟩ := bindS hm
        refine QJ.cut 3 [(0, str colours1), (11, .int .i64 (List.length colours1 : Int)), (12, .int .i64 x4), (27, .bool t11)] ?_ ?_
        · rcases Bool.eq_false_or_eq_true t8 with hb13 | hb13
          · replace h12 := andT h12 hb13
            refine QJ.on rfl rfl (cB hb13) (YldS.yld (y_move rfl)) rfl ?_
            refine QJ.on rfl rfl (cB hb13) (YldS.yld (y_bin8 c6 (32 : UInt8) rfl rfl rfl)) rfl ?_
            refine QJ.step (YldS.yld (y_pick_t (cB hb13) rfl)) rfl ?_
            obtain rfl := Option.some.inj h12
            exact QJ.cut_end ⟨rfl, rfl, rfl, rfl, trivial⟩
          · obtain rfl := andF h12 hb13
            refine QJ.off rfl rfl (cB hb13) rfl rfl ?_
            refine QJ.off rfl rfl (cB hb13) rfl rfl ?_
            refine QJ.step (YldS.yld (y_pick_f (cB hb13) rfl)) rfl ?_
            exact QJ.cut_end ⟨rfl, rfl, rfl, rfl, trivial⟩
        refine QJ.done ?_
        refine PJ.next ?_
        refine WJ.cond (t := t11) rfl (fun hb14 => ?_) (fun hb14 => ?_)
        · replace hm := ifT hm hb14
          refine WJ.seq ?_
          refine WJ.quiet ?_
          refine QJ.step (YldS.yld (y_assign rfl)) rfl ?_
          refine QJ.step (YldS.yld (y_assign rfl)) rfl ?_
          refine QJ.done ?_
          refine PJ.next ?_
          refine WJ.ret ?_
          refine PJ.block_ret (PJ.then_ret (PJ.then_ret (PJ.block_ret (PJ.then_ret ?_))))
          obtain rfl := Option.some.inj hm
          refine PJ.sel (L' := []) [] ⟨List.nodup_nil, rfl⟩ ?_
          exact PJ.retn (vs := [.int .i64 0, .int .i64 7]) Try.results49 ⟨rfl, rfl, trivial⟩ ⟨rfl, rfl⟩
        · replace hm := ifF hm hb14
          refine WJ.skip ?_
          refine PJ.block_normal (PJ.next ?_)
          refine WJ.quiet ?_
          refine QJ.step (YldS.yld (y_bin rfl rfl rfl)) rfl ?_
          refine QJ.step (YldS.yld (y_move rfl)) rfl ?_
          refine QJ.done ?_
          exact PJ.round (w64 (x4 + 1)) [] hm ⟨rfl, rfl, rfl, trivial⟩ ⟨List.nodup_nil, rfl⟩
      · replace hm := ifF hm hb5
        refine WJ.exit ?_
        refine PJ.then_exit (PJ.then_exit (PJ.block_exit ?_))
        exact PJ.joined () [] hm ⟨rfl, trivial⟩ ⟨List.nodup_nil, rfl⟩
  · rintro _ hm
    subst hk3
    refine WJ.seq ?_
    refine WJ.seq ?_
    refine WJ.quiet ?_
    refine QJ.step (YldS.yld (y_move rfl)) rfl ?_
    refine QJ.step (YldS.yld (y_lenStr Try.runUnderlying9 rfl)) rfl ?_
    refine QJ.step (YldS.yld (y_bin rfl rfl rfl)) rfl ?_
    refine QJ.done ?_
    refine PJ.next ?_
    refine WJ.cond (t := decide ((List.length colours1 : Int) > 1000)) rfl (fun hb15 => ?_) (fun hb15 => ?_)
    · replace hm := ifT hm hb15
      refine WJ.seq ?_
      refine WJ.quiet ?_
      refine QJ.step (YldS.yld (y_assign rfl)) rfl ?_
      refine QJ.step (YldS.yld (y_assign rfl)) rfl ?_
      refine QJ.done ?_
      refine PJ.next ?_
      refine WJ.ret ?_
      refine PJ.then_ret ?_
      obtain rfl := Option.some.inj hm
      refine PJ.sel (L' := []) [] ⟨List.nodup_nil, rfl⟩ ?_
      exact PJ.retn (vs := [.int .i64 0, .int .i64 2]) Try.results49 ⟨rfl, rfl, trivial⟩ ⟨rfl, rfl⟩
    · replace hm := ifF hm hb15
      refine WJ.skip ?_
      refine PJ.next ?_
      refine WJ.seq ?_
      refine WJ.quiet ?_
      refine QJ.step (YldS.yld (y_assign rfl)) rfl ?_
      refine QJ.step (YldS.yld (y_assign rfl)) rfl ?_
      refine QJ.done ?_
      refine PJ.next ?_
      obtain ⟨kj17, hk18, hm⟩ := withK_open hm
      refine WJ.join (X := Int) (fun (x : Int) => kj17 x = some r) (fun (x : Int) => [(7, .int .i64 x)]) (fun (x : Int) => []) ?_ ?_
      · clear hk18
        refine WJ.seq ?_
        refine WJ.quiet ?_
        refine QJ.step (YldS.yld (y_move rfl)) rfl ?_
        refine QJ.step (YldS.yld (y_lenStr Try.runUnderlying9 rfl)) rfl ?_
        refine QJ.step (YldS.yld (y_move rfl)) rfl ?_
        refine QJ.done ?_
        refine PJ.next ?_
        refine WJ.block ?_
        refine WJ.sel (L' := (fun (x : UInt8 × Int × Int) => []) (98, 0, 0)) [] ⟨List.nodup_nil, rfl⟩ ?_
        refine WJ.sub (m' := (fun (x : UInt8 × Int × Int) => [(0, str colours1), (6, .int .u8 (UInt8.toNat x.1 : Int)), (7, .int .i64 x.2.1), (33, .int .i64 (List.length colours1 : Int)), (34, .int .i64 x.2.2)]) (98, 0, 0)) ⟨rfl, rfl, rfl, rfl, rfl, trivial⟩ ?_
        refine WJ.loop (X := UInt8 × Int × Int) (fun N (x : UInt8 × Int × Int) => i_ColourRuns_l2 kj17 colours1 N x.1 x.2.1 x.2.2 = some r) (fun (x : UInt8 × Int × Int) => [(0, str colours1), (6, .int .u8 (UInt8.toNat x.1 : Int)), (7, .int .i64 x.2.1), (33, .int .i64 (List.length colours1 : Int)), (34, .int .i64 x.2.2)]) (fun (x : UInt8 × Int × Int) => []) ?_ N (98, 0, 0) hm
        · rintro N ⟨now19, changes20, x21⟩ hI
          have hm := hI; clear hI
          cases N with
          | zero => cases hm
          | succ N =>
          unfold i_ColourRuns_l2 at hm
          refine WJ.seq ?_
          refine WJ.quiet ?_
          refine QJ.step (YldS.yld (y_bin rfl rfl rfl)) rfl ?_
          refine QJ.done ?_
          refine PJ.next ?_
          refine WJ.seq ?_
          refine WJ.cond (t := decide (x21 < (List.length colours1 : Int))) rfl (fun hb22 => ?_) (fun hb22 => ?_)
          · replace hm := ifT hm hb22
            refine WJ.skip ?_
            refine PJ.next ?_
            obtain ⟨kj25, hk26, hm⟩ := withK_open hm
            refine WJ.join (X := UInt8 × Int) (fun (x : UInt8 × Int) => kj25 x.1 x.2 = some r) (fun (x : UInt8 × Int) => [(0, str colours1), (6, .int .u8 (UInt8.toNat x.1 : Int)), (7, .int .i64 x.2), (33, .int .i64 (List.length colours1 : Int)), (34, .int .i64 x21)]) (fun (x : UInt8 × Int) => []) ?_ ?_
            · clear hk26
              refine WJ.block ?_
              refine WJ.seq ?_
              refine WJ.quiet ?_
              refine QJ.step (YldS.yld (y_move rfl)) rfl ?_
              refine QJ.step (YldS.yld (y_assign rfl)) rfl ?_
              refine QJ.done ?_
              refine PJ.next ?_
              refine WJ.seq ?_
              refine WJ.quiet ?_
              refine QJ.step (YldS.yld (y_move rfl)) rfl ?_
              refine QJ.step (YldS.yld (y_move rfl)) rfl ?_
              obtain ⟨c27, h28, hm⟩ := bindS hm
              refine QJ.step (YldS.yld (y_idxStr Try.runUnderlying9 rfl rfl h28)) rfl ?_
              refine QJ.step (YldS.yld (y_assign rfl)) rfl ?_
              refine QJ.done ?_
              refine PJ.next ?_
              refine WJ.seq ?_
              refine WJ.quiet ?_
              refine QJ.step (YldS.yld (y_move rfl)) rfl ?_
              refine QJ.step (YldS.yld (y_bin8 c27 (32 : UInt8) rfl rfl rfl)) rfl ?_
              refine QJ.step (YldS.yld (y_move rfl)) rfl ?_
              obtain ⟨t29, h30, hm⟩ := bindS hm
              refine QJ.cut 4 [(0, str colours1), (6, .int .u8 (UInt8.toNat now19 : Int)), (7, .int .i64 changes20), (9, .int .u8 (UInt8.toNat c27 : Int)), (33, .int .i64 (List.length colours1 : Int)), (34, .int .i64 x21), (46, .bool t29)] ?_ ?_
              · rcases Bool.eq_false_or_eq_true (c27 != (32 : UInt8)) with hb31 | hb31
                · replace h30 := andT h30 hb31
                  refine QJ.on rfl rfl (cB hb31) (YldS.yld (y_move rfl)) rfl ?_
                  refine QJ.on rfl rfl (cB hb31) (YldS.yld (y_move rfl)) rfl ?_
                  refine QJ.on rfl rfl (cB hb31) (YldS.yld (y_bin8 c27 now19 rfl rfl rfl)) rfl ?_
                  refine QJ.step (YldS.yld (y_pick_t (cB hb31) rfl)) rfl ?_
                  obtain rfl := Option.some.inj h30
                  exact QJ.cut_end ⟨rfl, rfl, rfl, rfl, rfl, rfl, rfl, trivial⟩
                · obtain rfl := andF h30 hb31
                  refine QJ.off rfl rfl (cB hb31) rfl rfl ?_
                  refine QJ.off rfl rfl (cB hb31) rfl rfl ?_
                  refine QJ.off rfl rfl (cB hb31) rfl rfl ?_
                  refine QJ.step (YldS.yld (y_pick_f (cB hb31) rfl)) rfl ?_
                  exact QJ.cut_end ⟨rfl, rfl, rfl, rfl, rfl, rfl, rfl, trivial⟩
              refine QJ.done ?_
              refine PJ.next ?_
              refine WJ.cond (t := t29) rfl (fun hb32 => ?_) (fun hb32 => ?_)
              · replace hm := ifT hm hb32
                refine WJ.seq ?_
                refine WJ.quiet ?_
                refine QJ.step (YldS.yld (y_move rfl)) rfl ?_
                refine QJ.step (YldS.yld (y_assign rfl)) rfl ?_
                refine QJ.done ?_
                refine PJ.next ?_
                refine WJ.quiet ?_
                refine QJ.step (YldS.yld (y_move rfl)) rfl ?_
                refine QJ.step (YldS.yld (y_bin rfl rfl rfl)) rfl ?_
                refine QJ.step (YldS.yld (y_assign rfl)) rfl ?_
                refine QJ.done ?_
                refine PJ.block_normal ?_
                exact PJ.joined (c27, w64 (changes20 + 1)) [] hm ⟨rfl, rfl, rfl, rfl, rfl, trivial⟩ ⟨List.nodup_nil, rfl⟩
              · replace hm := ifF hm hb32
                refine WJ.skip ?_
                refine PJ.block_normal ?_
                exact PJ.joined (now19, changes20) [] hm ⟨rfl, rfl, rfl, rfl, rfl, trivial⟩ ⟨List.nodup_nil, rfl⟩
            · rintro ⟨now23, changes24⟩ hm
              subst hk26
              refine WJ.quiet ?_
              refine QJ.step (YldS.yld (y_bin rfl rfl rfl)) rfl ?_
              refine QJ.step (YldS.yld (y_move rfl)) rfl ?_
              refine QJ.done ?_
              exact PJ.round (now23, changes24, w64 (x21 + 1)) [] hm ⟨rfl, rfl, rfl, rfl, rfl, trivial⟩ ⟨List.nodup_nil, rfl⟩
          · replace hm := ifF hm hb22
            refine WJ.exit ?_
            refine PJ.then_exit (PJ.then_exit (PJ.block_exit ?_))
            exact PJ.joined changes20 [] hm ⟨rfl, trivial⟩ ⟨List.nodup_nil, rfl⟩
      · rintro changes16 hm
        subst hk18
        refine WJ.seq ?_
        refine WJ.quiet ?_
        refine QJ.step (YldS.yld (y_move rfl)) rfl ?_
        refine QJ.step (YldS.yld (y_assign rfl)) rfl ?_
        refine QJ.step (YldS.yld (y_assign rfl)) rfl ?_
        refine QJ.done ?_
        refine PJ.next ?_
        refine WJ.ret ?_
        obtain rfl := Option.some.inj hm
        refine PJ.sel (L' := []) [] ⟨List.nodup_nil, rfl⟩ ?_
        exact PJ.retn (vs := [.int .i64 changes16, .int .i64 0]) Try.results49 ⟨rfl, rfl, trivial⟩ ⟨rfl, rfl⟩

set_option maxRecDepth 100000 in
set_option maxHeartbeats 1000000 in
theorem ok_s_ColourRuns {N : Nat} {colours1 : Str} {r : Int × Int} (hm : s_ColourRuns N colours1 = some r) (w : World)  :
    Calls Try.prog 50 #[str colours1] w (Ret (cx w) (tup [.int .i64 r.1, .int .i64 r.2])) := by
  unfold s_ColourRuns at hm
  refine Calls.enter [str colours1] Try.func50 rfl Try.ntmps50 rfl ?_
  refine WJ.seq ?_
  refine WJ.quiet ?_
  refine QJ.step (YldS.yld (y_assign rfl)) rfl ?_
  refine QJ.step (YldS.yld (y_assign rfl)) rfl ?_
  refine QJ.done ?_
  refine PJ.next ?_
  obtain ⟨kj2, hk3, hm⟩ := withK_open hm
  refine WJ.join (X := Unit) (fun (_ : Unit) => kj2  = some r) (fun (_ : Unit) => [(0, str colours1)]) (fun (_ : Unit) => []) ?_ ?_
  · clear hk3
    refine WJ.seq ?_
    refine WJ.quiet ?_
    refine QJ.step (YldS.yld (y_assign rfl)) rfl ?_
    refine QJ.done ?_
    refine PJ.next ?_
    refine WJ.block ?_
    refine WJ.sel (L' := (fun (x : Int) => []) 0) [] ⟨List.nodup_nil, rfl⟩ ?_
    refine WJ.sub (m' := (fun (x : Int) => [(0, str colours1), (4, .int .i64 x)]) 0) ⟨rfl, rfl, trivial⟩ ?_
    refine WJ.loop (X := Int) (fun N (x : Int) => s_ColourRuns_l1 kj2 colours1 N x = some r) (fun (x : Int) => [(0, str colours1), (4, .int .i64 x)]) (fun (x : Int) => []) ?_ N 0 hm
    · rintro N i4 hI
      have hm := hI; clear hI
      cases N with
      | zero => cases hm
      | succ N =>
      unfold s_ColourRuns_l1 at hm
      refine WJ.seq ?_
      refine WJ.seq ?_
      refine WJ.quiet ?_
      refine QJ.step (YldS.yld (y_move rfl)) rfl ?_
      refine QJ.step (YldS.yld (y_move rfl)) rfl ?_
      refine QJ.step (YldS.yld (y_lenStr Try.runUnderlying9 rfl)) rfl ?_
      refine QJ.step (YldS.yld (y_bin rfl rfl rfl)) rfl ?_
      refine QJ.done ?_
      refine PJ.next ?_
      refine WJ.cond (t := decide (i4 < (List.length colours1 : Int))) rfl (fun hb5 => ?_) (fun hb5 => ?_)
      · replace hm := ifT hm hb5
        refine WJ.skip ?_
        refine PJ.next ?_
        refine WJ.seq ?_
        refine WJ.block ?_
        refine WJ.seq ?_
        refine WJ.quiet ?_
        refine QJ.step (YldS.yld (y_move rfl)) rfl ?_
        refine QJ.step (YldS.yld (y_move rfl)) rfl ?_
        obtain ⟨c6, h7, hm⟩ := bindS hm
        refine QJ.step (YldS.yld (y_idxStr Try.runUnderlying9 rfl rfl h7)) rfl ?_
        refine QJ.step (YldS.yld (y_bin8 c6 (98 : UInt8) rfl rfl rfl)) rfl ?_
        refine QJ.step (YldS.yld (y_move rfl)) rfl ?_
        obtain ⟨t8, h9, hm⟩ := bindS hm
        refine QJ.cut 5 [(0, str colours1), (4, .int .i64 i4), (23, .bool t8)] ?_ ?_
        · rcases Bool.eq_false_or_eq_true (c6 != (98 : UInt8)) with hb10 | hb10
          · replace h9 := andT h9 hb10
            refine QJ.on rfl rfl (cB hb10) (YldS.yld (y_move rfl)) rfl ?_
            refine QJ.on rfl rfl (cB hb10) (YldS.yld (y_move rfl)) rfl ?_
            obtain ⟨c11, h12, h9⟩ := bindS h9
            refine QJ.on rfl rfl (cB hb10) (YldS.yld (y_idxStr Try.runUnderlying9 rfl rfl h12)) rfl ?_
            refine QJ.on rfl rfl (cB hb10) (YldS.yld (y_bin8 c11 (114 : UInt8) rfl rfl rfl)) rfl ?_
            refine QJ.step (YldS.yld (y_pick_t (cB hb10) rfl)) rfl ?_
            obtain rfl := Option.some.inj h9
            exact QJ.cut_end ⟨rfl, rfl, rfl, trivial⟩
          · obtain rfl := andF h9 hb10
            refine QJ.off rfl rfl (cB hb10) rfl rfl ?_
            refine QJ.off rfl rfl (cB hb10) rfl rfl ?_
            refine QJ.off rfl rfl (cB hb10) rfl rfl ?_
            refine QJ.off rfl rfl (cB hb10) rfl rfl ?_
            refine QJ.step (YldS.yld (y_pick_f (cB hb10) rfl)) rfl ?_
            exact QJ.cut_end ⟨rfl, rfl, rfl, trivial⟩
        refine QJ.step (YldS.yld (y_move rfl)) rfl ?_
        obtain ⟨t13, h14, hm⟩ := bindS hm
        refine QJ.cut 5 [(0, str colours1), (4, .int .i64 i4), (29, .bool t13)] ?_ ?_
        · rcases Bool.eq_false_or_eq_true t8 with hb15 | hb15
          · replace h14 := andT h14 hb15
            refine QJ.on rfl rfl (cB hb15) (YldS.yld (y_move rfl)) rfl ?_
            refine QJ.on rfl rfl (cB hb15) (YldS.yld (y_move rfl)) rfl ?_
            obtain ⟨c16, h17, h14⟩ := bindS h14
            refine QJ.on rfl rfl (cB hb15) (YldS.yld (y_idxStr Try.runUnderlying9 rfl rfl h17)) rfl ?_
            refine QJ.on rfl rfl (cB hb15) (YldS.yld (y_bin8 c16 (32 : UInt8) rfl rfl rfl)) rfl ?_
            refine QJ.step (YldS.yld (y_pick_t (cB hb15) rfl)) rfl ?_
            obtain rfl := Option.some.inj h14
            exact QJ.cut_end ⟨rfl, rfl, rfl, trivial⟩
          · obtain rfl := andF h14 hb15
            refine QJ.off rfl rfl (cB hb15) rfl rfl ?_
            refine QJ.off rfl rfl (cB hb15) rfl rfl ?_
            refine QJ.off rfl rfl (cB hb15) rfl rfl ?_
            refine QJ.off rfl rfl (cB hb15) rfl rfl ?_
            refine QJ.step (YldS.yld (y_pick_f (cB hb15) rfl)) rfl ?_
            exact QJ.cut_end ⟨rfl, rfl, rfl, trivial⟩
        refine QJ.done ?_
        refine PJ.next ?_
        refine WJ.cond (t := t13) rfl (fun hb18 => ?_) (fun hb18 => ?_)
        · replace hm := ifT hm hb18
          refine WJ.seq ?_
          refine WJ.quiet ?_
          refine QJ.step (YldS.yld (y_assign rfl)) rfl ?_
          refine QJ.step (YldS.yld (y_assign rfl)) rfl ?_
          refine QJ.done ?_
          refine PJ.next ?_
          refine WJ.ret ?_
          refine PJ.block_ret (PJ.then_ret (PJ.then_ret (PJ.block_ret (PJ.then_ret ?_))))
          obtain rfl := Option.some.inj hm
          refine PJ.sel (L' := []) [] ⟨List.nodup_nil, rfl⟩ ?_
          exact PJ.retn (vs := [.int .i64 0, .int .i64 7]) Try.results50 ⟨rfl, rfl, trivial⟩ ⟨rfl, rfl⟩
        · replace hm := ifF hm hb18
          refine WJ.skip ?_
          refine PJ.block_normal (PJ.next ?_)
          refine WJ.quiet ?_
          refine QJ.step (YldS.yld (y_move rfl)) rfl ?_
          refine QJ.step (YldS.yld (y_bin rfl rfl rfl)) rfl ?_
          refine QJ.step (YldS.yld (y_assign rfl)) rfl ?_
          refine QJ.done ?_
          exact PJ.round (w64 (i4 + 1)) [] hm ⟨rfl, rfl, trivial⟩ ⟨List.nodup_nil, rfl⟩
      · replace hm := ifF hm hb5
        refine WJ.exit ?_
        refine PJ.then_exit (PJ.then_exit (PJ.block_exit ?_))
        exact PJ.joined () [] hm ⟨rfl, trivial⟩ ⟨List.nodup_nil, rfl⟩
  · rintro _ hm
    subst hk3
    refine WJ.seq ?_
    refine WJ.seq ?_
    refine WJ.quiet ?_
    refine QJ.step (YldS.yld (y_move rfl)) rfl ?_
    refine QJ.step (YldS.yld (y_lenStr Try.runUnderlying9 rfl)) rfl ?_
    refine QJ.step (YldS.yld (y_bin rfl rfl rfl)) rfl ?_
    refine QJ.done ?_
    refine PJ.next ?_
    refine WJ.cond (t := decide ((List.length colours1 : Int) > 1000)) rfl (fun hb19 => ?_) (fun hb19 => ?_)
    · replace hm := ifT hm hb19
      refine WJ.seq ?_
      refine WJ.quiet ?_
      refine QJ.step (YldS.yld (y_assign rfl)) rfl ?_
      refine QJ.step (YldS.yld (y_assign rfl)) rfl ?_
      refine QJ.done ?_
      refine PJ.next ?_
      refine WJ.ret ?_
      refine PJ.then_ret ?_
      obtain rfl := Option.some.inj hm
      refine PJ.sel (L' := []) [] ⟨List.nodup_nil, rfl⟩ ?_
      exact PJ.retn (vs := [.int .i64 0, .int .i64 2]) Try.results50 ⟨rfl, rfl, trivial⟩ ⟨rfl, rfl⟩
    · replace hm := ifF hm hb19
      refine WJ.skip ?_
      refine PJ.next ?_
      refine WJ.seq ?_
      refine WJ.quiet ?_
      refine QJ.step (YldS.yld (y_assign rfl)) rfl ?_
      refine QJ.done ?_
      refine PJ.next ?_
      refine WJ.seq ?_
      refine WJ.quiet ?_
      refine QJ.step (YldS.yld (y_assign rfl)) rfl ?_
      refine QJ.done ?_
      refine PJ.next ?_
      obtain ⟨kj21, hk22, hm⟩ := withK_open hm
      refine WJ.join (X := Int) (fun (x : Int) => kj21 x = some r) (fun (x : Int) => [(5, .int .i64 x)]) (fun (x : Int) => []) ?_ ?_
      · clear hk22
        refine WJ.seq ?_
        refine WJ.quiet ?_
        refine QJ.step (YldS.yld (y_assign rfl)) rfl ?_
        refine QJ.done ?_
        refine PJ.next ?_
        refine WJ.block ?_
        refine WJ.sel (L' := (fun (x : Int × UInt8 × Int) => []) (0, 98, 0)) [] ⟨List.nodup_nil, rfl⟩ ?_
        refine WJ.sub (m' := (fun (x : Int × UInt8 × Int) => [(0, str colours1), (5, .int .i64 x.1), (6, .int .u8 (UInt8.toNat x.2.1 : Int)), (7, .int .i64 x.2.2)]) (0, 98, 0)) ⟨rfl, rfl, rfl, rfl, trivial⟩ ?_
        refine WJ.loop (X := Int × UInt8 × Int) (fun N (x : Int × UInt8 × Int) => s_ColourRuns_l2 kj21 colours1 N x.1 x.2.1 x.2.2 = some r) (fun (x : Int × UInt8 × Int) => [(0, str colours1), (5, .int .i64 x.1), (6, .int .u8 (UInt8.toNat x.2.1 : Int)), (7, .int .i64 x.2.2)]) (fun (x : Int × UInt8 × Int) => []) ?_ N (0, 98, 0) hm
        · rintro N ⟨n23, now24, i25⟩ hI
          have hm := hI; clear hI
          cases N with
          | zero => cases hm
          | succ N =>
          unfold s_ColourRuns_l2 at hm
          refine WJ.seq ?_
          refine WJ.seq ?_
          refine WJ.quiet ?_
          refine QJ.step (YldS.yld (y_move rfl)) rfl ?_
          refine QJ.step (YldS.yld (y_move rfl)) rfl ?_
          refine QJ.step (YldS.yld (y_lenStr Try.runUnderlying9 rfl)) rfl ?_
          refine QJ.step (YldS.yld (y_bin rfl rfl rfl)) rfl ?_
          refine QJ.done ?_
          refine PJ.next ?_
          refine WJ.cond (t := decide (i25 < (List.length colours1 : Int))) rfl (fun hb26 => ?_) (fun hb26 => ?_)
          · replace hm := ifT hm hb26
            refine WJ.skip ?_
            refine PJ.next ?_
            obtain ⟨kj29, hk30, hm⟩ := withK_open hm
            refine WJ.join (X := Int × UInt8) (fun (x : Int × UInt8) => kj29 x.1 x.2 = some r) (fun (x : Int × UInt8) => [(0, str colours1), (5, .int .i64 x.1), (6, .int .u8 (UInt8.toNat x.2 : Int)), (7, .int .i64 i25)]) (fun (x : Int × UInt8) => []) ?_ ?_
            · clear hk30
              refine WJ.block ?_
              refine WJ.seq ?_
              refine WJ.quiet ?_
              refine QJ.step (YldS.yld (y_move rfl)) rfl ?_
              refine QJ.step (YldS.yld (y_move rfl)) rfl ?_
              obtain ⟨c31, h32, hm⟩ := bindS hm
              refine QJ.step (YldS.yld (y_idxStr Try.runUnderlying9 rfl rfl h32)) rfl ?_
              refine QJ.step (YldS.yld (y_bin8 c31 (32 : UInt8) rfl rfl rfl)) rfl ?_
              refine QJ.step (YldS.yld (y_move rfl)) rfl ?_
              obtain ⟨t33, h34, hm⟩ := bindS hm
              refine QJ.cut 6 [(0, str colours1), (5, .int .i64 n23), (6, .int .u8 (UInt8.toNat now24 : Int)), (7, .int .i64 i25), (49, .bool t33)] ?_ ?_
              · rcases Bool.eq_false_or_eq_true (c31 != (32 : UInt8)) with hb35 | hb35
                · replace h34 := andT h34 hb35
                  refine QJ.on rfl rfl (cB hb35) (YldS.yld (y_move rfl)) rfl ?_
                  refine QJ.on rfl rfl (cB hb35) (YldS.yld (y_move rfl)) rfl ?_
                  obtain ⟨c36, h37, h34⟩ := bindS h34
                  refine QJ.on rfl rfl (cB hb35) (YldS.yld (y_idxStr Try.runUnderlying9 rfl rfl h37)) rfl ?_
                  refine QJ.on rfl rfl (cB hb35) (YldS.yld (y_move rfl)) rfl ?_
                  refine QJ.on rfl rfl (cB hb35) (YldS.yld (y_bin8 c36 now24 rfl rfl rfl)) rfl ?_
                  refine QJ.step (YldS.yld (y_pick_t (cB hb35) rfl)) rfl ?_
                  obtain rfl := Option.some.inj h34
                  exact QJ.cut_end ⟨rfl, rfl, rfl, rfl, rfl, trivial⟩
                · obtain rfl := andF h34 hb35
                  refine QJ.off rfl rfl (cB hb35) rfl rfl ?_
                  refine QJ.off rfl rfl (cB hb35) rfl rfl ?_
                  refine QJ.off rfl rfl (cB hb35) rfl rfl ?_
                  refine QJ.off rfl rfl (cB hb35) rfl rfl ?_
                  refine QJ.off rfl rfl (cB hb35) rfl rfl ?_
                  refine QJ.step (YldS.yld (y_pick_f (cB hb35) rfl)) rfl ?_
                  exact QJ.cut_end ⟨rfl, rfl, rfl, rfl, rfl, trivial⟩
              refine QJ.done ?_
              refine PJ.next ?_
              refine WJ.cond (t := t33) rfl (fun hb38 => ?_) (fun hb38 => ?_)
              · replace hm := ifT hm hb38
                refine WJ.seq ?_
                refine WJ.quiet ?_
                refine QJ.step (YldS.yld (y_move rfl)) rfl ?_
                refine QJ.step (YldS.yld (y_bin rfl rfl rfl)) rfl ?_
                refine QJ.step (YldS.yld (y_assign rfl)) rfl ?_
                refine QJ.done ?_
                refine PJ.next ?_
                refine WJ.quiet ?_
                refine QJ.step (YldS.yld (y_move rfl)) rfl ?_
                refine QJ.step (YldS.yld (y_move rfl)) rfl ?_
                obtain ⟨c39, h40, hm⟩ := bindS hm
                refine QJ.step (YldS.yld (y_idxStr Try.runUnderlying9 rfl rfl h40)) rfl ?_
                refine QJ.step (YldS.yld (y_assign rfl)) rfl ?_
                refine QJ.done ?_
                refine PJ.block_normal ?_
                exact PJ.joined (w64 (n23 + 1), c39) [] hm ⟨rfl, rfl, rfl, rfl, trivial⟩ ⟨List.nodup_nil, rfl⟩
              · replace hm := ifF hm hb38
                refine WJ.skip ?_
                refine PJ.block_normal ?_
                exact PJ.joined (n23, now24) [] hm ⟨rfl, rfl, rfl, rfl, trivial⟩ ⟨List.nodup_nil, rfl⟩
            · rintro ⟨n27, now28⟩ hm
              subst hk30
              refine WJ.quiet ?_
              refine QJ.step (YldS.yld (y_move rfl)) rfl ?_
              refine QJ.step (YldS.yld (y_bin rfl rfl rfl)) rfl ?_
              refine QJ.step (YldS.yld (y_assign rfl)) rfl ?_
              refine QJ.done ?_
              exact PJ.round (n27, now28, w64 (i25 + 1)) [] hm ⟨rfl, rfl, rfl, rfl, trivial⟩ ⟨List.nodup_nil, rfl⟩
          · replace hm := ifF hm hb26
            refine WJ.exit ?_
            refine PJ.then_exit (PJ.then_exit (PJ.block_exit ?_))
            exact PJ.joined n23 [] hm ⟨rfl, trivial⟩ ⟨List.nodup_nil, rfl⟩
      · rintro n20 hm
        subst hk22
        refine WJ.seq ?_
        refine WJ.quiet ?_
        refine QJ.step (YldS.yld (y_move rfl)) rfl ?_
        refine QJ.step (YldS.yld (y_assign rfl)) rfl ?_
        refine QJ.step (YldS.yld (y_assign rfl)) rfl ?_
        refine QJ.done ?_
        refine PJ.next ?_
        refine WJ.ret ?_
        obtain rfl := Option.some.inj hm
        refine PJ.sel (L' := []) [] ⟨List.nodup_nil, rfl⟩ ?_
        exact PJ.retn (vs := [.int .i64 n20, .int .i64 0]) Try.results50 ⟨rfl, rfl, trivial⟩ ⟨rfl, rfl⟩

set_option maxRecDepth 100000 in
set_option maxHeartbeats 1000000 in
theorem ok_w_f6ints {N : Nat} {a1 : List Int} {b4 : List Int} {r : Bool} (hm : w_f6ints N a1 b4 = some r) (w : World) (v2 : Value) (hr3 : RdS w (cx w).Fz v2 fI64.rp a1) (v5 : Value) (hr6 : RdS w (cx w).Fz v5 fI64.rp b4) :
    Calls Try.prog 51 #[v2, v5] w (Ret (cx w) (.bool r)) := by
  unfold w_f6ints at hm
  refine Calls.enter [v2, v5] Try.func51 rfl Try.ntmps51 rfl ?_
  refine WJ.seq ?_
  refine WJ.quiet ?_
  refine QJ.step (YldS.yld (y_assign rfl)) rfl ?_
  refine QJ.done ?_
  refine PJ.next ?_
  refine WJ.seq ?_
  refine WJ.seq ?_
  refine WJ.quiet ?_
  refine QJ.step (YldS.yld (y_move rfl)) rfl ?_
  refine QJ.step (YldS.yld (y_lenS Try.runUnderlying66 hr3 rfl)) rfl ?_
  refine QJ.step (YldS.yld (y_move rfl)) rfl ?_
  refine QJ.step (YldS.yld (y_lenS Try.runUnderlying66 hr6 rfl)) rfl ?_
  refine QJ.step (YldS.yld (y_bin rfl rfl rfl)) rfl ?_
  refine QJ.done ?_
  refine PJ.next ?_
  refine WJ.cond (t := ((List.length a1 : Int) != (List.length b4 : Int))) rfl (fun hb7 => ?_) (fun hb7 => ?_)
  · replace hm := ifT hm hb7
    refine WJ.seq ?_
    refine WJ.quiet ?_
    refine QJ.step (YldS.yld (y_assign rfl)) rfl ?_
    refine QJ.done ?_
    refine PJ.next ?_
    refine WJ.ret ?_
    refine PJ.then_ret ?_
    obtain rfl := Option.some.inj hm
    refine PJ.sel (L' := []) [] ⟨List.nodup_nil, rfl⟩ ?_
    exact PJ.retn (vs := [.bool false]) Try.results51 ⟨rfl, trivial⟩ ⟨rfl, rfl⟩
  · replace hm := ifF hm hb7
    refine WJ.skip ?_
    refine PJ.next ?_
    obtain ⟨kj8, hk9, hm⟩ := withK_open hm
    refine WJ.join (X := Unit) (fun (_ : Unit) => kj8  = some r) (fun (_ : Unit) => []) (fun (_ : Unit) => []) ?_ ?_
    · clear hk9
      refine WJ.seq ?_
      refine WJ.quiet ?_
      refine QJ.step (YldS.yld (y_assign rfl)) rfl ?_
      refine QJ.done ?_
      refine PJ.next ?_
      refine WJ.block ?_
      refine WJ.sel (L' := (fun (x : Int) => []) 0) [] ⟨List.nodup_nil, rfl⟩ ?_
      refine WJ.sub (m' := (fun (x : Int) => [(0, v2), (1, v5), (5, .int .i64 x)]) 0) ⟨rfl, rfl, rfl, trivial⟩ ?_
      refine WJ.loop (X := Int) (fun N (x : Int) => w_f6ints_l1 kj8 a1 b4 N x = some r) (fun (x : Int) => [(0, v2), (1, v5), (5, .int .i64 x)]) (fun (x : Int) => []) ?_ N 0 hm
      · rintro N i10 hI
        have hm := hI; clear hI
        cases N with
        | zero => cases hm
        | succ N =>
        unfold w_f6ints_l1 at hm
        refine WJ.seq ?_
        refine WJ.seq ?_
        refine WJ.quiet ?_
        refine QJ.step (YldS.yld (y_move rfl)) rfl ?_
        refine QJ.step (YldS.yld (y_move rfl)) rfl ?_
        refine QJ.step (YldS.yld (y_lenS Try.runUnderlying66 hr3 rfl)) rfl ?_
        refine QJ.step (YldS.yld (y_bin rfl rfl rfl)) rfl ?_
        refine QJ.done ?_
        refine PJ.next ?_
        refine WJ.cond (t := decide (i10 < (List.length a1 : Int))) rfl (fun hb11 => ?_) (fun hb11 => ?_)
        · replace hm := ifT hm hb11
          refine WJ.skip ?_
          refine PJ.next ?_
          refine WJ.seq ?_
          refine WJ.block ?_
          refine WJ.seq ?_
          refine WJ.quiet_draw follows (by kernel_rfl) ?_
          refine QJ.step (YldS.yld (y_move rfl)) rfl ?_
          refine QJ.step (YldS.yld (y_move rfl)) rfl ?_
          obtain ⟨e12, h13, hm⟩ := bindS hm
          obtain ⟨ad14, _, rfl, ha15, hy16⟩ := hr3.elem h13
          refine QJ.step (YldS.yld (hy16 Try.runUnderlying66 Try.sizeOf2 rfl rfl)) rfl ?_
          refine QJ.step (YldS.yld (y_load1 (v := .int .i64 e12) Try.isAgg2 ha15 St.frozenC rfl)) rfl ?_
          refine QJ.step (YldS.yld (y_move rfl)) rfl ?_
          refine QJ.step (YldS.yld (y_move rfl)) rfl ?_
          obtain ⟨e17, h18, hm⟩ := bindS hm
          obtain ⟨ad19, _, rfl, ha20, hy21⟩ := hr6.elem h18
          refine QJ.step (YldS.yld (hy21 Try.runUnderlying66 Try.sizeOf2 rfl rfl)) rfl ?_
          refine QJ.step (YldS.yld (y_load1 (v := .int .i64 e17) Try.isAgg2 ha20 St.frozenC rfl)) rfl ?_
          refine QJ.step (YldS.yld (y_bin rfl rfl rfl)) rfl ?_
          refine QJ.done ?_
          refine PJ.next ?_
          refine WJ.cond (t := (e12 != e17)) rfl (fun hb22 => ?_) (fun hb22 => ?_)
          · replace hm := ifT hm hb22
            refine WJ.seq ?_
            refine WJ.quiet ?_
            refine QJ.step (YldS.yld (y_assign rfl)) rfl ?_
            refine QJ.done ?_
            refine PJ.next ?_
            refine WJ.ret ?_
            refine PJ.block_ret (PJ.then_ret (PJ.then_ret (PJ.block_ret (PJ.then_ret ?_))))
            obtain rfl := Option.some.inj hm
            refine PJ.sel (L' := []) [] ⟨List.nodup_nil, rfl⟩ ?_
            exact PJ.retn (vs := [.bool false]) Try.results51 ⟨rfl, trivial⟩ ⟨rfl, rfl⟩
          · replace hm := ifF hm hb22
            refine WJ.skip ?_
            refine PJ.block_normal (PJ.next ?_)
            refine WJ.quiet ?_
            refine QJ.step (YldS.yld (y_move rfl)) rfl ?_
            refine QJ.step (YldS.yld (y_bin rfl rfl rfl)) rfl ?_
            refine QJ.step (YldS.yld (y_assign rfl)) rfl ?_
            refine QJ.done ?_
            exact PJ.round (w64 (i10 + 1)) [] hm ⟨rfl, rfl, rfl, trivial⟩ ⟨List.nodup_nil, rfl⟩
        · replace hm := ifF hm hb11
          refine WJ.exit ?_
          refine PJ.then_exit (PJ.then_exit (PJ.block_exit ?_))
          exact PJ.joined () [] hm trivial ⟨List.nodup_nil, rfl⟩
    · rintro _ hm
      subst hk9
      refine WJ.seq ?_
      refine WJ.quiet ?_
      refine QJ.step (YldS.yld (y_assign rfl)) rfl ?_
      refine QJ.done ?_
      refine PJ.next ?_
      refine WJ.ret ?_
      obtain rfl := Option.some.inj hm
      refine PJ.sel (L' := []) [] ⟨List.nodup_nil, rfl⟩ ?_
      exact PJ.retn (vs := [.bool true]) Try.results51 ⟨rfl, trivial⟩ ⟨rfl, rfl⟩

set_option maxRecDepth 100000 in
set_option maxHeartbeats 1000000 in
theorem ok_i_ShadeAt {r1 : Ribbon} {stroke2 : Int} {r : Int × Int} (hm : i_ShadeAt r1 stroke2 = some r) (w : World)  :
    Calls Try.prog 52 #[.agg (Ribbon.enc r1).toArray, .int .i64 stroke2] w (Ret (cx w) (tup [.int .i64 r.1, .int .i64 r.2])) := by
  unfold i_ShadeAt at hm
  refine Calls.enter [.agg (Ribbon.enc r1).toArray, .int .i64 stroke2] Try.func52 rfl Try.ntmps52 rfl ?_
  refine WJ.seq ?_
  refine WJ.reg ?_
  refine SJ.box (cs := [.int .i64 r1.spots, .int .i64 r1.ink, .int .i64 r1.takes]) rfl rfl rfl fun g3 => ?_
  refine SJ.q (YldS.yld (y_assign rfl)) rfl ?_
  refine SJ.q (YldS.yld (y_assign rfl)) rfl ?_
  refine SJ.nil ?_
  refine PJ.next ?_
  refine WJ.seq ?_
  refine WJ.seq ?_
  refine WJ.quiet ?_
  refine QJ.step (YldS.yld (y_loadBN (k := 0) (off := 0) (us := [.int .i64 r1.spots, .int .i64 r1.ink, .int .i64 r1.takes]) rfl Try.isAgg59 Try.sizeOf59 rfl rfl)) rfl ?_
  obtain ⟨r4, h5, hm⟩ := bindS hm
  refine QJ.step (y_call Try.call123 rfl (RetG.quiet fun w hw => ok_i_ValidRibbon h5 w )) rfl ?_
  refine QJ.step (YldS.yld (y_not rfl)) rfl ?_
  refine QJ.done ?_
  refine PJ.next ?_
  refine WJ.cond (t := !r4) rfl (fun hb6 => ?_) (fun hb6 => ?_)
  · replace hm := ifT hm hb6
    refine WJ.seq ?_
    refine WJ.quiet ?_
    refine QJ.step (YldS.yld (y_assign rfl)) rfl ?_
    refine QJ.step (YldS.yld (y_assign rfl)) rfl ?_
    refine QJ.done ?_
    refine PJ.next ?_
    refine WJ.ret ?_
    refine PJ.then_ret ?_
    obtain rfl := Option.some.inj hm
    refine PJ.sel (L' := []) [] ⟨List.nodup_nil, rfl⟩ ?_
    exact PJ.retn (vs := [.int .i64 0, .int .i64 1]) Try.results52 ⟨rfl, rfl, trivial⟩ ⟨rfl, rfl⟩
  · replace hm := ifF hm hb6
    refine WJ.skip ?_
    refine PJ.next ?_
    refine WJ.seq ?_
    refine WJ.seq ?_
    refine WJ.quiet ?_
    refine QJ.step (YldS.yld (y_move rfl)) rfl ?_
    obtain ⟨r7, h8, hm⟩ := bindS hm
    refine QJ.step (y_call Try.call135 rfl (RetG.quiet fun w hw => ok_i_isUse h8 w )) rfl ?_
    refine QJ.step (YldS.yld (y_not rfl)) rfl ?_
    refine QJ.done ?_
    refine PJ.next ?_
    refine WJ.cond (t := !r7) rfl (fun hb9 => ?_) (fun hb9 => ?_)
    · replace hm := ifT hm hb9
      refine WJ.seq ?_
      refine WJ.quiet ?_
      refine QJ.step (YldS.yld (y_assign rfl)) rfl ?_
      refine QJ.step (YldS.yld (y_assign rfl)) rfl ?_
      refine QJ.done ?_
      refine PJ.next ?_
      refine WJ.ret ?_
      refine PJ.then_ret ?_
      obtain rfl := Option.some.inj hm
      refine PJ.sel (L' := []) [] ⟨List.nodup_nil, rfl⟩ ?_
      exact PJ.retn (vs := [.int .i64 0, .int .i64 2]) Try.results52 ⟨rfl, rfl, trivial⟩ ⟨rfl, rfl⟩
    · replace hm := ifF hm hb9
      refine WJ.skip ?_
      refine PJ.next ?_
      refine WJ.seq ?_
      refine WJ.quiet ?_
      refine QJ.step (YldS.yld (y_loadBN (k := 0) (off := 0) (us := [.int .i64 r1.spots, .int .i64 r1.ink, .int .i64 r1.takes]) rfl Try.isAgg59 Try.sizeOf59 rfl rfl)) rfl ?_
      refine QJ.step (YldS.yld (y_move rfl)) rfl ?_
      obtain ⟨r10, h11, hm⟩ := bindS hm
      refine QJ.step (y_call Try.call140 rfl (RetG.quiet fun w hw => ok_i_Ribbon_shade h11 w )) rfl ?_
      refine QJ.step (YldS.yld (y_assign rfl)) rfl ?_
      refine QJ.step (YldS.yld (y_assign rfl)) rfl ?_
      refine QJ.done ?_
      refine PJ.next ?_
      refine WJ.ret ?_
      obtain rfl := Option.some.inj hm
      refine PJ.sel (L' := []) [] ⟨List.nodup_nil, rfl⟩ ?_
      exact PJ.retn (vs := [.int .i64 r10, .int .i64 0]) Try.results52 ⟨rfl, rfl, trivial⟩ ⟨rfl, rfl⟩

set_option maxRecDepth 100000 in
set_option maxHeartbeats 1000000 in
theorem ok_w_FnShades {N : Nat} {code1 : List UInt8} {r : Bool} (hm : w_FnShades N code1 = some r) (w : World) (v2 : Value) (hr3 : RdS w (cx w).Fz v2 fByte.rp code1) :
    Calls Try.prog 5 #[v2] w (Ret (cx w) (.bool r)) := by
  unfold w_FnShades at hm
  refine Calls.enter [v2] Try.func5 rfl Try.ntmps5 rfl ?_
  refine WJ.seq ?_
  refine WJ.quiet ?_
  refine QJ.step (YldS.yld (y_assign rfl)) rfl ?_
  refine QJ.done ?_
  refine PJ.next ?_
  refine WJ.seq ?_
  refine WJ.seq ?_
  refine WJ.quiet ?_
  refine QJ.step (YldS.yld (y_move rfl)) rfl ?_
  obtain ⟨r4, h5, hm⟩ := bindS hm
  refine QJ.step (y_call Try.call10 rfl (RetG.quiet fun w hw => ok_w_f6big h5 w _ (hr3.st hw))) rfl ?_
  refine QJ.done ?_
  refine PJ.next ?_
  refine WJ.cond (t := r4) rfl (fun hb6 => ?_) (fun hb6 => ?_)
  · replace hm := ifT hm hb6
    refine WJ.seq ?_
    refine WJ.quiet ?_
    refine QJ.step (YldS.yld (y_assign rfl)) rfl ?_
    refine QJ.done ?_
    refine PJ.next ?_
    refine WJ.ret ?_
    refine PJ.then_ret ?_
    obtain rfl := Option.some.inj hm
    refine PJ.sel (L' := []) [] ⟨List.nodup_nil, rfl⟩ ?_
    exact PJ.retn (vs := [.bool true]) Try.results5 ⟨rfl, trivial⟩ ⟨rfl, rfl⟩
  · replace hm := ifF hm hb6
    refine WJ.skip ?_
    refine PJ.next ?_
    refine WJ.seq ?_
    refine WJ.reg ?_
    refine SJ.q (YldS.yld (y_move rfl)) rfl ?_
    obtain ⟨r7, h8, hm⟩ := bindS hm
    refine SJ.q (y_call Try.call34 rfl (RetG.quiet fun w hw => ok_s_DrawStrokesUntil h8 w _ (hr3.st hw))) rfl ?_
    refine SJ.q (YldS.yld (y_move rfl)) rfl ?_
    refine SJ.q (YldS.yld (y_extract rfl rfl)) rfl ?_
    refine SJ.q (YldS.yld (y_extract rfl rfl)) rfl ?_
    refine SJ.alloc (cs := [.int .i64 0, .int .i64 0, .int .i64 0]) Try.zeroValue59 rfl rfl fun g9 => ?_
    refine SJ.storeL (k := 0) (off := 0) (us := [.int .i64 r7.1.spots, .int .i64 r7.1.ink, .int .i64 r7.1.takes]) rfl rfl rfl rfl Try.sizeOf59 rfl rfl ?_
    refine SJ.q (YldS.yld (y_assign rfl)) rfl ?_
    refine SJ.nil ?_
    refine PJ.next ?_
    refine WJ.seq ?_
    refine WJ.quiet ?_
    refine QJ.step (YldS.yld (y_loadBN (k := 0) (off := 0) (us := [.int .i64 r7.1.spots, .int .i64 r7.1.ink, .int .i64 r7.1.takes]) rfl Try.isAgg59 Try.sizeOf59 rfl rfl)) rfl ?_
    refine QJ.step (YldS.yld (y_move rfl)) rfl ?_
    obtain ⟨r10, h11, hm⟩ := bindS hm
    refine QJ.step (y_call Try.call35 rfl (RetG.quiet fun w hw => ok_i_StrokesUntil h11 w )) rfl ?_
    refine QJ.step (YldS.yld (y_move rfl)) rfl ?_
    refine QJ.step (YldS.yld (y_extract rfl rfl)) rfl ?_
    refine QJ.step (YldS.yld (y_extract rfl rfl)) rfl ?_
    refine QJ.step (YldS.yld (y_assign rfl)) rfl ?_
    refine QJ.step (YldS.yld (y_assign rfl)) rfl ?_
    refine QJ.done ?_
    refine PJ.next ?_
    refine WJ.seq ?_
    refine WJ.quiet ?_
    refine QJ.step (YldS.yld (y_loadBN (k := 0) (off := 0) (us := [.int .i64 r7.1.spots, .int .i64 r7.1.ink, .int .i64 r7.1.takes]) rfl Try.isAgg59 Try.sizeOf59 rfl rfl)) rfl ?_
    refine QJ.step (YldS.yld (y_move rfl)) rfl ?_
    obtain ⟨r12, h13, hm⟩ := bindS hm
    refine QJ.step (y_call Try.call36 rfl (RetG.quiet fun w hw => ok_s_StrokesUntil h13 w )) rfl ?_
    refine QJ.step (YldS.yld (y_move rfl)) rfl ?_
    refine QJ.step (YldS.yld (y_extract rfl rfl)) rfl ?_
    refine QJ.step (YldS.yld (y_extract rfl rfl)) rfl ?_
    refine QJ.step (YldS.yld (y_assign rfl)) rfl ?_
    refine QJ.step (YldS.yld (y_assign rfl)) rfl ?_
    refine QJ.done ?_
    refine PJ.next ?_
    refine WJ.seq ?_
    refine WJ.reg ?_
    refine SJ.q (YldS.yld (y_move rfl)) rfl ?_
    obtain ⟨r14, h15, hm⟩ := bindS hm
    refine SJ.q (y_call Try.call37 rfl (RetG.quiet fun w hw => ok_s_DrawPalestLetter h15 w _ (hr3.st hw))) rfl ?_
    refine SJ.q (YldS.yld (y_move rfl)) rfl ?_
    refine SJ.q (YldS.yld (y_extract rfl rfl)) rfl ?_
    refine SJ.q (YldS.yld (y_extract rfl rfl)) rfl ?_
    refine SJ.q (YldS.yld (y_extract rfl rfl)) rfl ?_
    refine SJ.q (YldS.yld (y_extract rfl rfl)) rfl ?_
    refine SJ.alloc (cs := [.int .i64 0, .int .i64 0, .int .i64 0]) Try.zeroValue59 rfl rfl fun g16 => ?_
    refine SJ.storeL (k := 0) (off := 0) (us := [.int .i64 r14.1.spots, .int .i64 r14.1.ink, .int .i64 r14.1.takes]) rfl rfl rfl rfl Try.sizeOf59 rfl rfl ?_
    refine SJ.q (YldS.yld (y_assign rfl)) rfl ?_
    refine SJ.q (YldS.yld (y_assign rfl)) rfl ?_
    refine SJ.q (YldS.yld (y_assign rfl)) rfl ?_
    refine SJ.nil ?_
    refine PJ.next ?_
    refine WJ.seq ?_
    refine WJ.quiet ?_
    refine QJ.step (YldS.yld (y_loadBN (k := 0) (off := 0) (us := [.int .i64 r14.1.spots, .int .i64 r14.1.ink, .int .i64 r14.1.takes]) rfl Try.isAgg59 Try.sizeOf59 rfl rfl)) rfl ?_
    refine QJ.step (YldS.yld (y_move rfl)) rfl ?_
    refine QJ.step (YldS.yld (y_move rfl)) rfl ?_
    refine QJ.step (YldS.yld (y_move rfl)) rfl ?_
    obtain ⟨r17, h18, hm⟩ := bindS hm
    refine QJ.step (y_call Try.call38 rfl (RetG.quiet fun w hw => ok_i_PalestLetter h18 w )) rfl ?_
    refine QJ.step (YldS.yld (y_move rfl)) rfl ?_
    refine QJ.step (YldS.yld (y_extract rfl rfl)) rfl ?_
    refine QJ.step (YldS.yld (y_extract rfl rfl)) rfl ?_
    refine QJ.step (YldS.yld (y_assign rfl)) rfl ?_
    refine QJ.step (YldS.yld (y_assign rfl)) rfl ?_
    refine QJ.done ?_
    refine PJ.next ?_
    refine WJ.seq ?_
    refine WJ.quiet ?_
    refine QJ.step (YldS.yld (y_loadBN (k := 0) (off := 0) (us := [.int .i64 r14.1.spots, .int .i64 r14.1.ink, .int .i64 r14.1.takes]) rfl Try.isAgg59 Try.sizeOf59 rfl rfl)) rfl ?_
    refine QJ.step (YldS.yld (y_move rfl)) rfl ?_
    refine QJ.step (YldS.yld (y_move rfl)) rfl ?_
    refine QJ.step (YldS.yld (y_move rfl)) rfl ?_
    obtain ⟨r19, h20, hm⟩ := bindS hm
    refine QJ.step (y_call Try.call39 rfl (RetG.quiet fun w hw => ok_s_PalestLetter h20 w )) rfl ?_
    refine QJ.step (YldS.yld (y_move rfl)) rfl ?_
    refine QJ.step (YldS.yld (y_extract rfl rfl)) rfl ?_
    refine QJ.step (YldS.yld (y_extract rfl rfl)) rfl ?_
    refine QJ.step (YldS.yld (y_assign rfl)) rfl ?_
    refine QJ.step (YldS.yld (y_assign rfl)) rfl ?_
    refine QJ.done ?_
    refine PJ.next ?_
    refine WJ.seq ?_
    refine WJ.reg ?_
    refine SJ.q (YldS.yld (y_loadBN (k := 0) (off := 0) (us := [.int .i64 r14.1.spots, .int .i64 r14.1.ink, .int .i64 r14.1.takes]) rfl Try.isAgg59 Try.sizeOf59 rfl rfl)) rfl ?_
    refine SJ.q (YldS.yld (y_move rfl)) rfl ?_
    refine SJ.q (YldS.yld (y_move rfl)) rfl ?_
    obtain ⟨r21, h22, hm⟩ := bindS hm
    refine SJ.call Try.call40 rfl (fun w hw => ok_i_ShadesOf h22 w ) rfl ?_
    rintro _ _ ⟨v23, rfl, rfl⟩
    refine SJ.q (YldS.yld (y_move rfl)) rfl ?_
    refine SJ.q (YldS.yld (y_extract rfl rfl)) rfl ?_
    refine SJ.q (YldS.yld (y_extract rfl rfl)) rfl ?_
    refine SJ.q (YldS.yld (y_assign rfl)) rfl ?_
    refine SJ.q (YldS.yld (y_assign rfl)) rfl ?_
    refine SJ.nil ?_
    refine PJ.next ?_
    refine WJ.seq ?_
    refine WJ.reg ?_
    refine SJ.q (YldS.yld (y_loadBN (k := 1) (off := 0) (us := [.int .i64 r14.1.spots, .int .i64 r14.1.ink, .int .i64 r14.1.takes]) rfl Try.isAgg59 Try.sizeOf59 rfl rfl)) rfl ?_
    refine SJ.q (YldS.yld (y_move rfl)) rfl ?_
    refine SJ.q (YldS.yld (y_move rfl)) rfl ?_
    obtain ⟨r24, h25, hm⟩ := bindS hm
    refine SJ.call Try.call41 rfl (fun w hw => ok_s_ShadesOf h25 w ) rfl ?_
    rintro _ _ ⟨v26, rfl, rfl⟩
    refine SJ.q (YldS.yld (y_move rfl)) rfl ?_
    refine SJ.q (YldS.yld (y_extract rfl rfl)) rfl ?_
    refine SJ.q (YldS.yld (y_extract rfl rfl)) rfl ?_
    refine SJ.q (YldS.yld (y_assign rfl)) rfl ?_
    refine SJ.q (YldS.yld (y_assign rfl)) rfl ?_
    refine SJ.nil ?_
    refine PJ.next ?_
    refine WJ.seq ?_
    refine WJ.reg ?_
    refine SJ.q (YldS.yld (y_move rfl)) rfl ?_
    obtain ⟨r27, h28, hm⟩ := bindS hm
    refine SJ.call Try.call42 rfl (fun w hw => ok_s_DrawBestRibbon h28 w _ (hr3.st hw)) rfl ?_
    rintro _ _ ⟨v29, v30, rfl, rfl⟩
    refine SJ.q (YldS.yld (y_move rfl)) rfl ?_
    refine SJ.q (YldS.yld (y_extract rfl rfl)) rfl ?_
    refine SJ.q (YldS.yld (y_extract rfl rfl)) rfl ?_
    refine SJ.q (YldS.yld (y_extract rfl rfl)) rfl ?_
    refine SJ.q (YldS.yld (y_extract rfl rfl)) rfl ?_
    refine SJ.q (YldS.yld (y_assign rfl)) rfl ?_
    refine SJ.q (YldS.yld (y_assign rfl)) rfl ?_
    refine SJ.q (YldS.yld (y_assign rfl)) rfl ?_
    refine SJ.q (YldS.yld (y_assign rfl)) rfl ?_
    refine SJ.nil ?_
    refine PJ.next ?_
    refine WJ.seq ?_
    refine WJ.quiet ?_
    refine QJ.step (YldS.yld (y_move rfl)) rfl ?_
    refine QJ.step (YldS.yld (y_move rfl)) rfl ?_
    refine QJ.step (YldS.yld (y_move rfl)) rfl ?_
    refine QJ.step (YldS.yld (y_move rfl)) rfl ?_
    obtain ⟨r31, h32, hm⟩ := bindS hm
    refine QJ.step (y_call Try.call43 rfl (RetG.quiet fun w hw => ok_i_BestRibbon h32 w _ (hw.row_rd (k := 0) rfl) _ (hw.vw_rd (k := 1) rfl))) rfl ?_
    refine QJ.step (YldS.yld (y_move rfl)) rfl ?_
    refine QJ.step (YldS.yld (y_extract rfl rfl)) rfl ?_
    refine QJ.step (YldS.yld (y_extract rfl rfl)) rfl ?_
    refine QJ.step (YldS.yld (y_extract rfl rfl)) rfl ?_
    refine QJ.step (YldS.yld (y_assign rfl)) rfl ?_
    refine QJ.step (YldS.yld (y_assign rfl)) rfl ?_
    refine QJ.step (YldS.yld (y_assign rfl)) rfl ?_
    refine QJ.done ?_
    refine PJ.next ?_
    refine WJ.seq ?_
    refine WJ.quiet ?_
    refine QJ.step (YldS.yld (y_move rfl)) rfl ?_
    refine QJ.step (YldS.yld (y_move rfl)) rfl ?_
    refine QJ.step (YldS.yld (y_move rfl)) rfl ?_
    refine QJ.step (YldS.yld (y_move rfl)) rfl ?_
    obtain ⟨r33, h34, hm⟩ := bindS hm
    refine QJ.step (y_call Try.call44 rfl (RetG.quiet fun w hw => ok_s_BestRibbon h34 w _ (hw.row_rd (k := 0) rfl) _ (hw.vw_rd (k := 1) rfl))) rfl ?_
    refine QJ.step (YldS.yld (y_move rfl)) rfl ?_
    refine QJ.step (YldS.yld (y_extract rfl rfl)) rfl ?_
    refine QJ.step (YldS.yld (y_extract rfl rfl)) rfl ?_
    refine QJ.step (YldS.yld (y_extract rfl rfl)) rfl ?_
    refine QJ.step (YldS.yld (y_assign rfl)) rfl ?_
    refine QJ.step (YldS.yld (y_assign rfl)) rfl ?_
    refine QJ.step (YldS.yld (y_assign rfl)) rfl ?_
    refine QJ.done ?_
    refine PJ.next ?_
    refine WJ.seq ?_
    refine WJ.reg ?_
    refine SJ.q (YldS.yld (y_move rfl)) rfl ?_
    obtain ⟨r35, h36, hm⟩ := bindS hm
    refine SJ.q (y_call Try.call45 rfl (RetG.quiet fun w hw => ok_s_DrawRibbonsFor h36 w _ (hr3.st hw))) rfl ?_
    refine SJ.q (YldS.yld (y_move rfl)) rfl ?_
    refine SJ.q (YldS.yld (y_extract rfl rfl)) rfl ?_
    refine SJ.q (YldS.yld (y_extract rfl rfl)) rfl ?_
    refine SJ.q (YldS.yld (y_extract rfl rfl)) rfl ?_
    refine SJ.alloc (cs := [.int .i64 0, .int .i64 0, .int .i64 0]) Try.zeroValue59 rfl rfl fun g37 => ?_
    refine SJ.storeL (k := 0) (off := 0) (us := [.int .i64 r35.1.spots, .int .i64 r35.1.ink, .int .i64 r35.1.takes]) rfl rfl rfl rfl Try.sizeOf59 rfl rfl ?_
    refine SJ.q (YldS.yld (y_assign rfl)) rfl ?_
    refine SJ.q (YldS.yld (y_assign rfl)) rfl ?_
    refine SJ.nil ?_
    refine PJ.next ?_
    refine WJ.seq ?_
    refine WJ.quiet ?_
    refine QJ.step (YldS.yld (y_loadBN (k := 0) (off := 0) (us := [.int .i64 r35.1.spots, .int .i64 r35.1.ink, .int .i64 r35.1.takes]) rfl Try.isAgg59 Try.sizeOf59 rfl rfl)) rfl ?_
    refine QJ.step (YldS.yld (y_move rfl)) rfl ?_
    refine QJ.step (YldS.yld (y_move rfl)) rfl ?_
    obtain ⟨r38, h39, hm⟩ := bindS hm
    refine QJ.step (y_call Try.call46 rfl (RetG.quiet fun w hw => ok_i_RibbonsFor h39 w )) rfl ?_
    refine QJ.step (YldS.yld (y_move rfl)) rfl ?_
    refine QJ.step (YldS.yld (y_extract rfl rfl)) rfl ?_
    refine QJ.step (YldS.yld (y_extract rfl rfl)) rfl ?_
    refine QJ.step (YldS.yld (y_assign rfl)) rfl ?_
    refine QJ.step (YldS.yld (y_assign rfl)) rfl ?_
    refine QJ.done ?_
    refine PJ.next ?_
    refine WJ.seq ?_
    refine WJ.quiet ?_
    refine QJ.step (YldS.yld (y_loadBN (k := 0) (off := 0) (us := [.int .i64 r35.1.spots, .int .i64 r35.1.ink, .int .i64 r35.1.takes]) rfl Try.isAgg59 Try.sizeOf59 rfl rfl)) rfl ?_
    refine QJ.step (YldS.yld (y_move rfl)) rfl ?_
    refine QJ.step (YldS.yld (y_move rfl)) rfl ?_
    obtain ⟨r40, h41, hm⟩ := bindS hm
    refine QJ.step (y_call Try.call47 rfl (RetG.quiet fun w hw => ok_s_RibbonsFor h41 w )) rfl ?_
    refine QJ.step (YldS.yld (y_move rfl)) rfl ?_
    refine QJ.step (YldS.yld (y_extract rfl rfl)) rfl ?_
    refine QJ.step (YldS.yld (y_extract rfl rfl)) rfl ?_
    refine QJ.step (YldS.yld (y_assign rfl)) rfl ?_
    refine QJ.step (YldS.yld (y_assign rfl)) rfl ?_
    refine QJ.done ?_
    refine PJ.next ?_
    refine WJ.seq ?_
    refine WJ.quiet ?_
    refine QJ.step (YldS.yld (y_move rfl)) rfl ?_
    obtain ⟨r42, h43, hm⟩ := bindS hm
    refine QJ.step (y_call Try.call48 rfl (RetG.quiet fun w hw => ok_s_DrawColourRuns h43 w _ (hr3.st hw))) rfl ?_
    refine QJ.step (YldS.yld (y_assign rfl)) rfl ?_
    refine QJ.done ?_
    refine PJ.next ?_
    refine WJ.seq ?_
    refine WJ.quiet ?_
    refine QJ.step (YldS.yld (y_move rfl)) rfl ?_
    obtain ⟨r44, h45, hm⟩ := bindS hm
    refine QJ.step (y_call Try.call49 rfl (RetG.quiet fun w hw => ok_i_ColourRuns h45 w )) rfl ?_
    refine QJ.step (YldS.yld (y_move rfl)) rfl ?_
    refine QJ.step (YldS.yld (y_extract rfl rfl)) rfl ?_
    refine QJ.step (YldS.yld (y_extract rfl rfl)) rfl ?_
    refine QJ.step (YldS.yld (y_assign rfl)) rfl ?_
    refine QJ.step (YldS.yld (y_assign rfl)) rfl ?_
    refine QJ.done ?_
    refine PJ.next ?_
    refine WJ.seq ?_
    refine WJ.quiet ?_
    refine QJ.step (YldS.yld (y_move rfl)) rfl ?_
    obtain ⟨r46, h47, hm⟩ := bindS hm
    refine QJ.step (y_call Try.call50 rfl (RetG.quiet fun w hw => ok_s_ColourRuns h47 w )) rfl ?_
    refine QJ.step (YldS.yld (y_move rfl)) rfl ?_
    refine QJ.step (YldS.yld (y_extract rfl rfl)) rfl ?_
    refine QJ.step (YldS.yld (y_extract rfl rfl)) rfl ?_
    refine QJ.step (YldS.yld (y_assign rfl)) rfl ?_
    refine QJ.step (YldS.yld (y_assign rfl)) rfl ?_
    refine QJ.done ?_
    refine PJ.next ?_
    refine WJ.seq ?_
    refine WJ.seq ?_
    refine WJ.quiet ?_
    refine QJ.step (YldS.yld (y_move rfl)) rfl ?_
    refine QJ.step (YldS.yld (y_move rfl)) rfl ?_
    refine QJ.step (YldS.yld (y_bin rfl rfl rfl)) rfl ?_
    refine QJ.step (YldS.yld (y_move rfl)) rfl ?_
    obtain ⟨t48, h49, hm⟩ := bindS hm
    refine QJ.cut 4 [(3, pt g9 0), (4, .int .i64 r7.2), (6, .int .i64 r10.2), (7, .int .i64 r12.1), (11, str r14.2.2.1), (12, .int .i64 r14.2.2.2), (13, .int .i64 r17.1), (14, .int .i64 r17.2), (15, .int .i64 r19.1), (16, .int .i64 r19.2), (17, v23), (18, .int .i64 r21.2), (19, v26), (20, .int .i64 r24.2), (21, v29), (22, v30), (23, .int .i64 r27.2.2.1), (24, .int .i64 r27.2.2.2), (25, .int .i64 r31.1), (26, .int .i64 r31.2.1), (27, .int .i64 r31.2.2), (28, .int .i64 r33.1), (29, .int .i64 r33.2.1), (30, .int .i64 r33.2.2), (34, .int .i64 r38.1), (35, .int .i64 r38.2), (36, .int .i64 r40.1), (37, .int .i64 r40.2), (38, str r42), (39, .int .i64 r44.1), (40, .int .i64 r44.2), (41, .int .i64 r46.1), (42, .int .i64 r46.2), (171, .bool t48)] ?_ ?_
    · rcases Bool.eq_false_or_eq_true (r10.2 != r12.2) with hb50 | hb50
      · obtain rfl := orT h49 hb50
        refine QJ.off rfl rfl (cB hb50) rfl rfl ?_
        refine QJ.off rfl rfl (cB hb50) rfl rfl ?_
        refine QJ.off rfl rfl (cB hb50) rfl rfl ?_
        refine QJ.step (YldS.yld (y_pick_t (cB hb50) rfl)) rfl ?_
        exact QJ.cut_end ⟨rfl, rfl, rfl, rfl, rfl, rfl, rfl, rfl, rfl, rfl, rfl, rfl, rfl, rfl, rfl, rfl, rfl, rfl, rfl, rfl, rfl, rfl, rfl, rfl, rfl, rfl, rfl, rfl, rfl, rfl, rfl, rfl, rfl, rfl, trivial⟩
      · replace h49 := orF h49 hb50
        refine QJ.on rfl rfl (cB hb50) (YldS.yld (y_move rfl)) rfl ?_
        refine QJ.on rfl rfl (cB hb50) (YldS.yld (y_move rfl)) rfl ?_
        refine QJ.on rfl rfl (cB hb50) (YldS.yld (y_bin rfl rfl rfl)) rfl ?_
        refine QJ.step (YldS.yld (y_pick_f (cB hb50) rfl)) rfl ?_
        obtain rfl := Option.some.inj h49
        exact QJ.cut_end ⟨rfl, rfl, rfl, rfl, rfl, rfl, rfl, rfl, rfl, rfl, rfl, rfl, rfl, rfl, rfl, rfl, rfl, rfl, rfl, rfl, rfl, rfl, rfl, rfl, rfl, rfl, rfl, rfl, rfl, rfl, rfl, rfl, rfl, rfl, trivial⟩
    refine QJ.step (YldS.yld (y_move rfl)) rfl ?_
    obtain ⟨t51, h52, hm⟩ := bindS hm
    refine QJ.cut 4 [(3, pt g9 0), (4, .int .i64 r7.2), (6, .int .i64 r10.2), (7, .int .i64 r12.1), (11, str r14.2.2.1), (12, .int .i64 r14.2.2.2), (13, .int .i64 r17.1), (14, .int .i64 r17.2), (15, .int .i64 r19.1), (17, v23), (18, .int .i64 r21.2), (19, v26), (20, .int .i64 r24.2), (21, v29), (22, v30), (23, .int .i64 r27.2.2.1), (24, .int .i64 r27.2.2.2), (25, .int .i64 r31.1), (26, .int .i64 r31.2.1), (27, .int .i64 r31.2.2), (28, .int .i64 r33.1), (29, .int .i64 r33.2.1), (30, .int .i64 r33.2.2), (34, .int .i64 r38.1), (35, .int .i64 r38.2), (36, .int .i64 r40.1), (37, .int .i64 r40.2), (38, str r42), (39, .int .i64 r44.1), (40, .int .i64 r44.2), (41, .int .i64 r46.1), (42, .int .i64 r46.2), (176, .bool t51)] ?_ ?_
    · rcases Bool.eq_false_or_eq_true t48 with hb53 | hb53
      · obtain rfl := orT h52 hb53
        refine QJ.off rfl rfl (cB hb53) rfl rfl ?_
        refine QJ.off rfl rfl (cB hb53) rfl rfl ?_
        refine QJ.off rfl rfl (cB hb53) rfl rfl ?_
        refine QJ.step (YldS.yld (y_pick_t (cB hb53) rfl)) rfl ?_
        exact QJ.cut_end ⟨rfl, rfl, rfl, rfl, rfl, rfl, rfl, rfl, rfl, rfl, rfl, rfl, rfl, rfl, rfl, rfl, rfl, rfl, rfl, rfl, rfl, rfl, rfl, rfl, rfl, rfl, rfl, rfl, rfl, rfl, rfl, rfl, rfl, trivial⟩
      · replace h52 := orF h52 hb53
        refine QJ.on rfl rfl (cB hb53) (YldS.yld (y_move rfl)) rfl ?_
        refine QJ.on rfl rfl (cB hb53) (YldS.yld (y_move rfl)) rfl ?_
        refine QJ.on rfl rfl (cB hb53) (YldS.yld (y_bin rfl rfl rfl)) rfl ?_
        refine QJ.step (YldS.yld (y_pick_f (cB hb53) rfl)) rfl ?_
        obtain rfl := Option.some.inj h52
        exact QJ.cut_end ⟨rfl, rfl, rfl, rfl, rfl, rfl, rfl, rfl, rfl, rfl, rfl, rfl, rfl, rfl, rfl, rfl, rfl, rfl, rfl, rfl, rfl, rfl, rfl, rfl, rfl, rfl, rfl, rfl, rfl, rfl, rfl, rfl, rfl, trivial⟩
    refine QJ.step (YldS.yld (y_move rfl)) rfl ?_
    obtain ⟨t54, h55, hm⟩ := bindS hm
    refine QJ.cut 4 [(3, pt g9 0), (4, .int .i64 r7.2), (6, .int .i64 r10.2), (7, .int .i64 r12.1), (11, str r14.2.2.1), (12, .int .i64 r14.2.2.2), (14, .int .i64 r17.2), (15, .int .i64 r19.1), (17, v23), (18, .int .i64 r21.2), (19, v26), (20, .int .i64 r24.2), (21, v29), (22, v30), (23, .int .i64 r27.2.2.1), (24, .int .i64 r27.2.2.2), (25, .int .i64 r31.1), (26, .int .i64 r31.2.1), (27, .int .i64 r31.2.2), (28, .int .i64 r33.1), (29, .int .i64 r33.2.1), (30, .int .i64 r33.2.2), (34, .int .i64 r38.1), (35, .int .i64 r38.2), (36, .int .i64 r40.1), (37, .int .i64 r40.2), (38, str r42), (39, .int .i64 r44.1), (40, .int .i64 r44.2), (41, .int .i64 r46.1), (42, .int .i64 r46.2), (181, .bool t54)] ?_ ?_
    · rcases Bool.eq_false_or_eq_true t51 with hb56 | hb56
      · obtain rfl := orT h55 hb56
        refine QJ.off rfl rfl (cB hb56) rfl rfl ?_
        refine QJ.off rfl rfl (cB hb56) rfl rfl ?_
        refine QJ.off rfl rfl (cB hb56) rfl rfl ?_
        refine QJ.step (YldS.yld (y_pick_t (cB hb56) rfl)) rfl ?_
        exact QJ.cut_end ⟨rfl, rfl, rfl, rfl, rfl, rfl, rfl, rfl, rfl, rfl, rfl, rfl, rfl, rfl, rfl, rfl, rfl, rfl, rfl, rfl, rfl, rfl, rfl, rfl, rfl, rfl, rfl, rfl, rfl, rfl, rfl, rfl, trivial⟩
      · replace h55 := orF h55 hb56
        refine QJ.on rfl rfl (cB hb56) (YldS.yld (y_move rfl)) rfl ?_
        refine QJ.on rfl rfl (cB hb56) (YldS.yld (y_move rfl)) rfl ?_
        refine QJ.on rfl rfl (cB hb56) (YldS.yld (y_bin rfl rfl rfl)) rfl ?_
        refine QJ.step (YldS.yld (y_pick_f (cB hb56) rfl)) rfl ?_
        obtain rfl := Option.some.inj h55
        exact QJ.cut_end ⟨rfl, rfl, rfl, rfl, rfl, rfl, rfl, rfl, rfl, rfl, rfl, rfl, rfl, rfl, rfl, rfl, rfl, rfl, rfl, rfl, rfl, rfl, rfl, rfl, rfl, rfl, rfl, rfl, rfl, rfl, rfl, rfl, trivial⟩
    refine QJ.step (YldS.yld (y_move rfl)) rfl ?_
    obtain ⟨t57, h58, hm⟩ := bindS hm
    refine QJ.cut 4 [(3, pt g9 0), (4, .int .i64 r7.2), (6, .int .i64 r10.2), (7, .int .i64 r12.1), (11, str r14.2.2.1), (12, .int .i64 r14.2.2.2), (14, .int .i64 r17.2), (15, .int .i64 r19.1), (17, v23), (19, v26), (21, v29), (22, v30), (23, .int .i64 r27.2.2.1), (24, .int .i64 r27.2.2.2), (25, .int .i64 r31.1), (26, .int .i64 r31.2.1), (27, .int .i64 r31.2.2), (28, .int .i64 r33.1), (29, .int .i64 r33.2.1), (30, .int .i64 r33.2.2), (34, .int .i64 r38.1), (35, .int .i64 r38.2), (36, .int .i64 r40.1), (37, .int .i64 r40.2), (38, str r42), (39, .int .i64 r44.1), (40, .int .i64 r44.2), (41, .int .i64 r46.1), (42, .int .i64 r46.2), (186, .bool t57)] ?_ ?_
    · rcases Bool.eq_false_or_eq_true t54 with hb59 | hb59
      · obtain rfl := orT h58 hb59
        refine QJ.off rfl rfl (cB hb59) rfl rfl ?_
        refine QJ.off rfl rfl (cB hb59) rfl rfl ?_
        refine QJ.off rfl rfl (cB hb59) rfl rfl ?_
        refine QJ.step (YldS.yld (y_pick_t (cB hb59) rfl)) rfl ?_
        exact QJ.cut_end ⟨rfl, rfl, rfl, rfl, rfl, rfl, rfl, rfl, rfl, rfl, rfl, rfl, rfl, rfl, rfl, rfl, rfl, rfl, rfl, rfl, rfl, rfl, rfl, rfl, rfl, rfl, rfl, rfl, rfl, rfl, trivial⟩
      · replace h58 := orF h58 hb59
        refine QJ.on rfl rfl (cB hb59) (YldS.yld (y_move rfl)) rfl ?_
        refine QJ.on rfl rfl (cB hb59) (YldS.yld (y_move rfl)) rfl ?_
        refine QJ.on rfl rfl (cB hb59) (YldS.yld (y_bin rfl rfl rfl)) rfl ?_
        refine QJ.step (YldS.yld (y_pick_f (cB hb59) rfl)) rfl ?_
        obtain rfl := Option.some.inj h58
        exact QJ.cut_end ⟨rfl, rfl, rfl, rfl, rfl, rfl, rfl, rfl, rfl, rfl, rfl, rfl, rfl, rfl, rfl, rfl, rfl, rfl, rfl, rfl, rfl, rfl, rfl, rfl, rfl, rfl, rfl, rfl, rfl, rfl, trivial⟩
    refine QJ.step (YldS.yld (y_move rfl)) rfl ?_
    obtain ⟨t60, h61, hm⟩ := bindS hm
    refine QJ.cut 5 [(3, pt g9 0), (4, .int .i64 r7.2), (6, .int .i64 r10.2), (7, .int .i64 r12.1), (11, str r14.2.2.1), (12, .int .i64 r14.2.2.2), (14, .int .i64 r17.2), (15, .int .i64 r19.1), (19, v26), (21, v29), (22, v30), (23, .int .i64 r27.2.2.1), (24, .int .i64 r27.2.2.2), (25, .int .i64 r31.1), (26, .int .i64 r31.2.1), (27, .int .i64 r31.2.2), (28, .int .i64 r33.1), (29, .int .i64 r33.2.1), (30, .int .i64 r33.2.2), (34, .int .i64 r38.1), (35, .int .i64 r38.2), (36, .int .i64 r40.1), (37, .int .i64 r40.2), (38, str r42), (39, .int .i64 r44.1), (40, .int .i64 r44.2), (41, .int .i64 r46.1), (42, .int .i64 r46.2), (192, .bool t60)] ?_ ?_
    · rcases Bool.eq_false_or_eq_true t57 with hb62 | hb62
      · obtain rfl := orT h61 hb62
        refine QJ.off rfl rfl (cB hb62) rfl rfl ?_
        refine QJ.off rfl rfl (cB hb62) rfl rfl ?_
        refine QJ.off rfl rfl (cB hb62) rfl rfl ?_
        refine QJ.off rfl rfl (cB hb62) rfl rfl ?_
        refine QJ.step (YldS.yld (y_pick_t (cB hb62) rfl)) rfl ?_
        exact QJ.cut_end ⟨rfl, rfl, rfl, rfl, rfl, rfl, rfl, rfl, rfl, rfl, rfl, rfl, rfl, rfl, rfl, rfl, rfl, rfl, rfl, rfl, rfl, rfl, rfl, rfl, rfl, rfl, rfl, rfl, rfl, trivial⟩
      · replace h61 := orF h61 hb62
        refine QJ.on rfl rfl (cB hb62) (YldS.yld (y_move rfl)) rfl ?_
        refine QJ.on rfl rfl (cB hb62) (YldS.yld (y_move rfl)) rfl ?_
        obtain ⟨r63, h64, h61⟩ := bindS h61
        refine QJ.on rfl rfl (cB hb62) (y_call Try.call51 rfl (RetG.quiet fun w hw => ok_w_f6ints h64 w _ (hw.row_rd (k := 4) rfl) _ (hw.row_rd (k := 3) rfl))) rfl ?_
        refine QJ.on rfl rfl (cB hb62) (YldS.yld (y_not rfl)) rfl ?_
        refine QJ.step (YldS.yld (y_pick_f (cB hb62) rfl)) rfl ?_
        obtain rfl := Option.some.inj h61
        exact QJ.cut_end ⟨rfl, rfl, rfl, rfl, rfl, rfl, rfl, rfl, rfl, rfl, rfl, rfl, rfl, rfl, rfl, rfl, rfl, rfl, rfl, rfl, rfl, rfl, rfl, rfl, rfl, rfl, rfl, rfl, rfl, trivial⟩
    refine QJ.step (YldS.yld (y_move rfl)) rfl ?_
    obtain ⟨t65, h66, hm⟩ := bindS hm
    refine QJ.cut 4 [(3, pt g9 0), (4, .int .i64 r7.2), (6, .int .i64 r10.2), (7, .int .i64 r12.1), (11, str r14.2.2.1), (12, .int .i64 r14.2.2.2), (14, .int .i64 r17.2), (15, .int .i64 r19.1), (19, v26), (21, v29), (22, v30), (23, .int .i64 r27.2.2.1), (24, .int .i64 r27.2.2.2), (25, .int .i64 r31.1), (26, .int .i64 r31.2.1), (27, .int .i64 r31.2.2), (28, .int .i64 r33.1), (29, .int .i64 r33.2.1), (34, .int .i64 r38.1), (35, .int .i64 r38.2), (36, .int .i64 r40.1), (37, .int .i64 r40.2), (38, str r42), (39, .int .i64 r44.1), (40, .int .i64 r44.2), (41, .int .i64 r46.1), (42, .int .i64 r46.2), (197, .bool t65)] ?_ ?_
    · rcases Bool.eq_false_or_eq_true t60 with hb67 | hb67
      · obtain rfl := orT h66 hb67
        refine QJ.off rfl rfl (cB hb67) rfl rfl ?_
        refine QJ.off rfl rfl (cB hb67) rfl rfl ?_
        refine QJ.off rfl rfl (cB hb67) rfl rfl ?_
        refine QJ.step (YldS.yld (y_pick_t (cB hb67) rfl)) rfl ?_
        exact QJ.cut_end ⟨rfl, rfl, rfl, rfl, rfl, rfl, rfl, rfl, rfl, rfl, rfl, rfl, rfl, rfl, rfl, rfl, rfl, rfl, rfl, rfl, rfl, rfl, rfl, rfl, rfl, rfl, rfl, rfl, trivial⟩
      · replace h66 := orF h66 hb67
        refine QJ.on rfl rfl (cB hb67) (YldS.yld (y_move rfl)) rfl ?_
        refine QJ.on rfl rfl (cB hb67) (YldS.yld (y_move rfl)) rfl ?_
        refine QJ.on rfl rfl (cB hb67) (YldS.yld (y_bin rfl rfl rfl)) rfl ?_
        refine QJ.step (YldS.yld (y_pick_f (cB hb67) rfl)) rfl ?_
        obtain rfl := Option.some.inj h66
        exact QJ.cut_end ⟨rfl, rfl, rfl, rfl, rfl, rfl, rfl, rfl, rfl, rfl, rfl, rfl, rfl, rfl, rfl, rfl, rfl, rfl, rfl, rfl, rfl, rfl, rfl, rfl, rfl, rfl, rfl, rfl, trivial⟩
    refine QJ.step (YldS.yld (y_move rfl)) rfl ?_
    obtain ⟨t68, h69, hm⟩ := bindS hm
    refine QJ.cut 4 [(3, pt g9 0), (4, .int .i64 r7.2), (6, .int .i64 r10.2), (7, .int .i64 r12.1), (11, str r14.2.2.1), (12, .int .i64 r14.2.2.2), (14, .int .i64 r17.2), (15, .int .i64 r19.1), (19, v26), (21, v29), (22, v30), (23, .int .i64 r27.2.2.1), (24, .int .i64 r27.2.2.2), (26, .int .i64 r31.2.1), (27, .int .i64 r31.2.2), (29, .int .i64 r33.2.1), (34, .int .i64 r38.1), (35, .int .i64 r38.2), (36, .int .i64 r40.1), (37, .int .i64 r40.2), (38, str r42), (39, .int .i64 r44.1), (40, .int .i64 r44.2), (41, .int .i64 r46.1), (42, .int .i64 r46.2), (202, .bool t68)] ?_ ?_
    · rcases Bool.eq_false_or_eq_true t65 with hb70 | hb70
      · obtain rfl := orT h69 hb70
        refine QJ.off rfl rfl (cB hb70) rfl rfl ?_
        refine QJ.off rfl rfl (cB hb70) rfl rfl ?_
        refine QJ.off rfl rfl (cB hb70) rfl rfl ?_
        refine QJ.step (YldS.yld (y_pick_t (cB hb70) rfl)) rfl ?_
        exact QJ.cut_end ⟨rfl, rfl, rfl, rfl, rfl, rfl, rfl, rfl, rfl, rfl, rfl, rfl, rfl, rfl, rfl, rfl, rfl, rfl, rfl, rfl, rfl, rfl, rfl, rfl, rfl, rfl, trivial⟩
      · replace h69 := orF h69 hb70
        refine QJ.on rfl rfl (cB hb70) (YldS.yld (y_move rfl)) rfl ?_
        refine QJ.on rfl rfl (cB hb70) (YldS.yld (y_move rfl)) rfl ?_
        refine QJ.on rfl rfl (cB hb70) (YldS.yld (y_bin rfl rfl rfl)) rfl ?_
        refine QJ.step (YldS.yld (y_pick_f (cB hb70) rfl)) rfl ?_
        obtain rfl := Option.some.inj h69
        exact QJ.cut_end ⟨rfl, rfl, rfl, rfl, rfl, rfl, rfl, rfl, rfl, rfl, rfl, rfl, rfl, rfl, rfl, rfl, rfl, rfl, rfl, rfl, rfl, rfl, rfl, rfl, rfl, rfl, trivial⟩
    refine QJ.step (YldS.yld (y_move rfl)) rfl ?_
    obtain ⟨t71, h72, hm⟩ := bindS hm
    refine QJ.cut 4 [(3, pt g9 0), (4, .int .i64 r7.2), (6, .int .i64 r10.2), (7, .int .i64 r12.1), (11, str r14.2.2.1), (12, .int .i64 r14.2.2.2), (14, .int .i64 r17.2), (15, .int .i64 r19.1), (19, v26), (21, v29), (22, v30), (23, .int .i64 r27.2.2.1), (24, .int .i64 r27.2.2.2), (27, .int .i64 r31.2.2), (29, .int .i64 r33.2.1), (34, .int .i64 r38.1), (35, .int .i64 r38.2), (36, .int .i64 r40.1), (37, .int .i64 r40.2), (38, str r42), (39, .int .i64 r44.1), (40, .int .i64 r44.2), (41, .int .i64 r46.1), (42, .int .i64 r46.2), (207, .bool t71)] ?_ ?_
    · rcases Bool.eq_false_or_eq_true t68 with hb73 | hb73
      · obtain rfl := orT h72 hb73
        refine QJ.off rfl rfl (cB hb73) rfl rfl ?_
        refine QJ.off rfl rfl (cB hb73) rfl rfl ?_
        refine QJ.off rfl rfl (cB hb73) rfl rfl ?_
        refine QJ.step (YldS.yld (y_pick_t (cB hb73) rfl)) rfl ?_
        exact QJ.cut_end ⟨rfl, rfl, rfl, rfl, rfl, rfl, rfl, rfl, rfl, rfl, rfl, rfl, rfl, rfl, rfl, rfl, rfl, rfl, rfl, rfl, rfl, rfl, rfl, rfl, rfl, trivial⟩
      · replace h72 := orF h72 hb73
        refine QJ.on rfl rfl (cB hb73) (YldS.yld (y_move rfl)) rfl ?_
        refine QJ.on rfl rfl (cB hb73) (YldS.yld (y_move rfl)) rfl ?_
        refine QJ.on rfl rfl (cB hb73) (YldS.yld (y_bin rfl rfl rfl)) rfl ?_
        refine QJ.step (YldS.yld (y_pick_f (cB hb73) rfl)) rfl ?_
        obtain rfl := Option.some.inj h72
        exact QJ.cut_end ⟨rfl, rfl, rfl, rfl, rfl, rfl, rfl, rfl, rfl, rfl, rfl, rfl, rfl, rfl, rfl, rfl, rfl, rfl, rfl, rfl, rfl, rfl, rfl, rfl, rfl, trivial⟩
    refine QJ.step (YldS.yld (y_move rfl)) rfl ?_
    obtain ⟨t74, h75, hm⟩ := bindS hm
    refine QJ.cut 4 [(3, pt g9 0), (4, .int .i64 r7.2), (6, .int .i64 r10.2), (7, .int .i64 r12.1), (11, str r14.2.2.1), (12, .int .i64 r14.2.2.2), (14, .int .i64 r17.2), (15, .int .i64 r19.1), (19, v26), (21, v29), (22, v30), (23, .int .i64 r27.2.2.1), (24, .int .i64 r27.2.2.2), (27, .int .i64 r31.2.2), (29, .int .i64 r33.2.1), (34, .int .i64 r38.1), (36, .int .i64 r40.1), (38, str r42), (39, .int .i64 r44.1), (40, .int .i64 r44.2), (41, .int .i64 r46.1), (42, .int .i64 r46.2), (212, .bool t74)] ?_ ?_
    · rcases Bool.eq_false_or_eq_true t71 with hb76 | hb76
      · obtain rfl := orT h75 hb76
        refine QJ.off rfl rfl (cB hb76) rfl rfl ?_
        refine QJ.off rfl rfl (cB hb76) rfl rfl ?_
        refine QJ.off rfl rfl (cB hb76) rfl rfl ?_
        refine QJ.step (YldS.yld (y_pick_t (cB hb76) rfl)) rfl ?_
        exact QJ.cut_end ⟨rfl, rfl, rfl, rfl, rfl, rfl, rfl, rfl, rfl, rfl, rfl, rfl, rfl, rfl, rfl, rfl, rfl, rfl, rfl, rfl, rfl, rfl, rfl, trivial⟩
      · replace h75 := orF h75 hb76
        refine QJ.on rfl rfl (cB hb76) (YldS.yld (y_move rfl)) rfl ?_
        refine QJ.on rfl rfl (cB hb76) (YldS.yld (y_move rfl)) rfl ?_
        refine QJ.on rfl rfl (cB hb76) (YldS.yld (y_bin rfl rfl rfl)) rfl ?_
        refine QJ.step (YldS.yld (y_pick_f (cB hb76) rfl)) rfl ?_
        obtain rfl := Option.some.inj h75
        exact QJ.cut_end ⟨rfl, rfl, rfl, rfl, rfl, rfl, rfl, rfl, rfl, rfl, rfl, rfl, rfl, rfl, rfl, rfl, rfl, rfl, rfl, rfl, rfl, rfl, rfl, trivial⟩
    refine QJ.step (YldS.yld (y_move rfl)) rfl ?_
    obtain ⟨t77, h78, hm⟩ := bindS hm
    refine QJ.cut 4 [(3, pt g9 0), (4, .int .i64 r7.2), (6, .int .i64 r10.2), (7, .int .i64 r12.1), (11, str r14.2.2.1), (12, .int .i64 r14.2.2.2), (14, .int .i64 r17.2), (15, .int .i64 r19.1), (19, v26), (21, v29), (22, v30), (23, .int .i64 r27.2.2.1), (24, .int .i64 r27.2.2.2), (27, .int .i64 r31.2.2), (29, .int .i64 r33.2.1), (38, str r42), (39, .int .i64 r44.1), (40, .int .i64 r44.2), (41, .int .i64 r46.1), (42, .int .i64 r46.2), (217, .bool t77)] ?_ ?_
    · rcases Bool.eq_false_or_eq_true t74 with hb79 | hb79
      · obtain rfl := orT h78 hb79
        refine QJ.off rfl rfl (cB hb79) rfl rfl ?_
        refine QJ.off rfl rfl (cB hb79) rfl rfl ?_
        refine QJ.off rfl rfl (cB hb79) rfl rfl ?_
        refine QJ.step (YldS.yld (y_pick_t (cB hb79) rfl)) rfl ?_
        exact QJ.cut_end ⟨rfl, rfl, rfl, rfl, rfl, rfl, rfl, rfl, rfl, rfl, rfl, rfl, rfl, rfl, rfl, rfl, rfl, rfl, rfl, rfl, rfl, trivial⟩
      · replace h78 := orF h78 hb79
        refine QJ.on rfl rfl (cB hb79) (YldS.yld (y_move rfl)) rfl ?_
        refine QJ.on rfl rfl (cB hb79) (YldS.yld (y_move rfl)) rfl ?_
        refine QJ.on rfl rfl (cB hb79) (YldS.yld (y_bin rfl rfl rfl)) rfl ?_
        refine QJ.step (YldS.yld (y_pick_f (cB hb79) rfl)) rfl ?_
        obtain rfl := Option.some.inj h78
        exact QJ.cut_end ⟨rfl, rfl, rfl, rfl, rfl, rfl, rfl, rfl, rfl, rfl, rfl, rfl, rfl, rfl, rfl, rfl, rfl, rfl, rfl, rfl, rfl, trivial⟩
    refine QJ.step (YldS.yld (y_move rfl)) rfl ?_
    obtain ⟨t80, h81, hm⟩ := bindS hm
    refine QJ.cut 4 [(3, pt g9 0), (4, .int .i64 r7.2), (6, .int .i64 r10.2), (7, .int .i64 r12.1), (11, str r14.2.2.1), (12, .int .i64 r14.2.2.2), (14, .int .i64 r17.2), (15, .int .i64 r19.1), (19, v26), (21, v29), (22, v30), (23, .int .i64 r27.2.2.1), (24, .int .i64 r27.2.2.2), (27, .int .i64 r31.2.2), (29, .int .i64 r33.2.1), (38, str r42), (39, .int .i64 r44.1), (40, .int .i64 r44.2), (41, .int .i64 r46.1), (222, .bool t80)] ?_ ?_
    · rcases Bool.eq_false_or_eq_true t77 with hb82 | hb82
      · obtain rfl := orT h81 hb82
        refine QJ.off rfl rfl (cB hb82) rfl rfl ?_
        refine QJ.off rfl rfl (cB hb82) rfl rfl ?_
        refine QJ.off rfl rfl (cB hb82) rfl rfl ?_
        refine QJ.step (YldS.yld (y_pick_t (cB hb82) rfl)) rfl ?_
        exact QJ.cut_end ⟨rfl, rfl, rfl, rfl, rfl, rfl, rfl, rfl, rfl, rfl, rfl, rfl, rfl, rfl, rfl, rfl, rfl, rfl, rfl, rfl, trivial⟩
      · replace h81 := orF h81 hb82
        refine QJ.on rfl rfl (cB hb82) (YldS.yld (y_move rfl)) rfl ?_
        refine QJ.on rfl rfl (cB hb82) (YldS.yld (y_move rfl)) rfl ?_
        refine QJ.on rfl rfl (cB hb82) (YldS.yld (y_bin rfl rfl rfl)) rfl ?_
        refine QJ.step (YldS.yld (y_pick_f (cB hb82) rfl)) rfl ?_
        obtain rfl := Option.some.inj h81
        exact QJ.cut_end ⟨rfl, rfl, rfl, rfl, rfl, rfl, rfl, rfl, rfl, rfl, rfl, rfl, rfl, rfl, rfl, rfl, rfl, rfl, rfl, rfl, trivial⟩
    refine QJ.step (YldS.yld (y_move rfl)) rfl ?_
    obtain ⟨t83, h84, hm⟩ := bindS hm
    refine QJ.cut 4 [(3, pt g9 0), (4, .int .i64 r7.2), (6, .int .i64 r10.2), (7, .int .i64 r12.1), (11, str r14.2.2.1), (12, .int .i64 r14.2.2.2), (14, .int .i64 r17.2), (15, .int .i64 r19.1), (19, v26), (21, v29), (22, v30), (23, .int .i64 r27.2.2.1), (24, .int .i64 r27.2.2.2), (27, .int .i64 r31.2.2), (29, .int .i64 r33.2.1), (38, str r42), (39, .int .i64 r44.1), (40, .int .i64 r44.2), (227, .bool t83)] ?_ ?_
    · rcases Bool.eq_false_or_eq_true t80 with hb85 | hb85
      · obtain rfl := orT h84 hb85
        refine QJ.off rfl rfl (cB hb85) rfl rfl ?_
        refine QJ.off rfl rfl (cB hb85) rfl rfl ?_
        refine QJ.off rfl rfl (cB hb85) rfl rfl ?_
        refine QJ.step (YldS.yld (y_pick_t (cB hb85) rfl)) rfl ?_
        exact QJ.cut_end ⟨rfl, rfl, rfl, rfl, rfl, rfl, rfl, rfl, rfl, rfl, rfl, rfl, rfl, rfl, rfl, rfl, rfl, rfl, rfl, trivial⟩
      · replace h84 := orF h84 hb85
        refine QJ.on rfl rfl (cB hb85) (YldS.yld (y_move rfl)) rfl ?_
        refine QJ.on rfl rfl (cB hb85) (YldS.yld (y_move rfl)) rfl ?_
        refine QJ.on rfl rfl (cB hb85) (YldS.yld (y_bin rfl rfl rfl)) rfl ?_
        refine QJ.step (YldS.yld (y_pick_f (cB hb85) rfl)) rfl ?_
        obtain rfl := Option.some.inj h84
        exact QJ.cut_end ⟨rfl, rfl, rfl, rfl, rfl, rfl, rfl, rfl, rfl, rfl, rfl, rfl, rfl, rfl, rfl, rfl, rfl, rfl, rfl, trivial⟩
    refine QJ.done ?_
    refine PJ.next ?_
    refine WJ.cond (t := t83) rfl (fun hb86 => ?_) (fun hb86 => ?_)
    · replace hm := ifT hm hb86
      refine WJ.seq ?_
      refine WJ.quiet ?_
      refine QJ.step (YldS.yld (y_assign rfl)) rfl ?_
      refine QJ.done ?_
      refine PJ.next ?_
      refine WJ.ret ?_
      refine PJ.then_ret ?_
      obtain rfl := Option.some.inj hm
      refine PJ.sel (L' := []) [] ⟨List.nodup_nil, rfl⟩ ?_
      exact PJ.retn (vs := [.bool false]) Try.results5 ⟨rfl, trivial⟩ ⟨rfl, rfl⟩
    · replace hm := ifF hm hb86
      refine WJ.skip ?_
      refine PJ.next ?_
      obtain ⟨kj87, hk88, hm⟩ := withK_open hm
      refine WJ.join (X := Unit) (fun (_ : Unit) => kj87  = some r) (fun (_ : Unit) => [(3, pt g9 0), (4, .int .i64 r7.2), (6, .int .i64 r10.2), (7, .int .i64 r12.1), (21, v29), (22, v30), (23, .int .i64 r27.2.2.1), (24, .int .i64 r27.2.2.2), (27, .int .i64 r31.2.2), (29, .int .i64 r33.2.1), (38, str r42), (39, .int .i64 r44.1), (40, .int .i64 r44.2)]) (fun (_ : Unit) => [row v29 59 fRibbon r27.1, vw v30 fI64.rp r27.2.1, box g9 59 [.int .i64 r7.1.spots, .int .i64 r7.1.ink, .int .i64 r7.1.takes]]) ?_ ?_
      · clear hk88
        refine WJ.seq ?_
        refine WJ.quiet ?_
        refine QJ.step (YldS.yld (y_move rfl)) rfl ?_
        refine QJ.step (YldS.yld (y_bin rfl rfl rfl)) rfl ?_
        refine QJ.done ?_
        refine PJ.next ?_
        refine WJ.cond (t := (r17.2 == 0)) rfl (fun hb89 => ?_) (fun hb89 => ?_)
        · replace hm := ifT hm hb89
          refine WJ.seq ?_
          refine WJ.quiet ?_
          refine QJ.step (YldS.yld (y_assign rfl)) rfl ?_
          refine QJ.done ?_
          refine PJ.next ?_
          refine WJ.block ?_
          refine WJ.sel (L' := (fun (x : Int) => [row v29 59 fRibbon r27.1, vw v30 fI64.rp r27.2.1, row v26 2 fI64 r24.1, box g9 59 [.int .i64 r7.1.spots, .int .i64 r7.1.ink, .int .i64 r7.1.takes]]) 0) [1, 2, 3, 6] ⟨by decide, rfl⟩ ?_
          refine WJ.sub (m' := (fun (x : Int) => [(3, pt g9 0), (4, .int .i64 r7.2), (6, .int .i64 r10.2), (7, .int .i64 r12.1), (11, str r14.2.2.1), (12, .int .i64 r14.2.2.2), (15, .int .i64 r19.1), (19, v26), (21, v29), (22, v30), (23, .int .i64 r27.2.2.1), (24, .int .i64 r27.2.2.2), (27, .int .i64 r31.2.2), (29, .int .i64 r33.2.1), (38, str r42), (39, .int .i64 r44.1), (40, .int .i64 r44.2), (43, .int .i64 x)]) 0) ⟨rfl, rfl, rfl, rfl, rfl, rfl, rfl, rfl, rfl, rfl, rfl, rfl, rfl, rfl, rfl, rfl, rfl, rfl, trivial⟩ ?_
          refine WJ.loop (X := Int) (fun N (x : Int) => w_FnShades_l1 kj87 r14 r19 r24 N x = some r) (fun (x : Int) => [(3, pt g9 0), (4, .int .i64 r7.2), (6, .int .i64 r10.2), (7, .int .i64 r12.1), (11, str r14.2.2.1), (12, .int .i64 r14.2.2.2), (15, .int .i64 r19.1), (19, v26), (21, v29), (22, v30), (23, .int .i64 r27.2.2.1), (24, .int .i64 r27.2.2.2), (27, .int .i64 r31.2.2), (29, .int .i64 r33.2.1), (38, str r42), (39, .int .i64 r44.1), (40, .int .i64 r44.2), (43, .int .i64 x)]) (fun (x : Int) => [row v29 59 fRibbon r27.1, vw v30 fI64.rp r27.2.1, row v26 2 fI64 r24.1, box g9 59 [.int .i64 r7.1.spots, .int .i64 r7.1.ink, .int .i64 r7.1.takes]]) ?_ N 0 hm
          · rintro N i90 hI
            have hm := hI; clear hI
            cases N with
            | zero => cases hm
            | succ N =>
            unfold w_FnShades_l1 at hm
            refine WJ.seq ?_
            refine WJ.seq ?_
            refine WJ.quiet ?_
            refine QJ.step (YldS.yld (y_move rfl)) rfl ?_
            refine QJ.step (YldS.yld (y_move rfl)) rfl ?_
            refine QJ.step (YldS.yld (y_bin rfl rfl rfl)) rfl ?_
            refine QJ.done ?_
            refine PJ.next ?_
            refine WJ.cond (t := decide (i90 ≤ r19.1)) rfl (fun hb91 => ?_) (fun hb91 => ?_)
            · replace hm := ifT hm hb91
              refine WJ.skip ?_
              refine PJ.next ?_
              refine WJ.seq ?_
              refine WJ.block ?_
              refine WJ.seq ?_
              refine WJ.quiet ?_
              refine QJ.step (YldS.yld (y_move rfl)) rfl ?_
              refine QJ.step (YldS.yld (y_move rfl)) rfl ?_
              obtain ⟨c92, h93, hm⟩ := bindS hm
              refine QJ.step (YldS.yld (y_idxStr Try.runUnderlying9 rfl rfl h93)) rfl ?_
              refine QJ.step (YldS.yld (y_bin8 c92 (32 : UInt8) rfl rfl rfl)) rfl ?_
              refine QJ.step (YldS.yld (y_move rfl)) rfl ?_
              obtain ⟨t94, h95, hm⟩ := bindS hm
              refine QJ.cut 11 [(3, pt g9 0), (4, .int .i64 r7.2), (6, .int .i64 r10.2), (7, .int .i64 r12.1), (11, str r14.2.2.1), (12, .int .i64 r14.2.2.2), (15, .int .i64 r19.1), (19, v26), (21, v29), (22, v30), (23, .int .i64 r27.2.2.1), (24, .int .i64 r27.2.2.2), (27, .int .i64 r31.2.2), (29, .int .i64 r33.2.1), (38, str r42), (39, .int .i64 r44.1), (40, .int .i64 r44.2), (43, .int .i64 i90), (250, .bool t94)] ?_ ?_
              · rcases Bool.eq_false_or_eq_true (c92 != (32 : UInt8)) with hb96 | hb96
                · replace h95 := andT h95 hb96
                  refine QJ.on rfl rfl (cB hb96) (YldS.yld (y_move rfl)) rfl ?_
                  refine QJ.on rfl rfl (cB hb96) (YldS.yld (y_move rfl)) rfl ?_
                  obtain ⟨e97, h98, h95⟩ := bindS h95
                  refine QJ.on rfl rfl (cB hb96) (YldS.yld (y_ixRow (k := 2) (R := fI64) rfl Try.runUnderlying66 Try.sizeOf2 rfl rfl h98)) rfl ?_
                  refine QJ.on rfl rfl (cB hb96) (YldS.yld (y_loadR (k := 2) (i := (Int.toNat i90)) (off := 0) (u := .int .i64 e97) rfl Try.isAgg2 rfl (idx_get h98) rfl)) rfl ?_
                  refine QJ.on rfl rfl (cB hb96) (YldS.yld (y_move rfl)) rfl ?_
                  refine QJ.on rfl rfl (cB hb96) (YldS.yld (y_bin rfl rfl rfl)) rfl ?_
                  refine QJ.on rfl rfl (cB hb96) (YldS.yld (y_move rfl)) rfl ?_
                  refine QJ.on rfl rfl (cB hb96) (YldS.yld (y_move rfl)) rfl ?_
                  refine QJ.on rfl rfl (cB hb96) (YldS.yld (y_bin rfl rfl rfl)) rfl ?_
                  refine QJ.on rfl rfl (cB hb96) (YldS.yld (y_neB Try.underlying4 rfl rfl rfl)) rfl ?_
                  refine QJ.step (YldS.yld (y_pick_t (cB hb96) rfl)) rfl ?_
                  obtain rfl := Option.some.inj h95
                  exact QJ.cut_end ⟨rfl, rfl, rfl, rfl, rfl, rfl, rfl, rfl, rfl, rfl, rfl, rfl, rfl, rfl, rfl, rfl, rfl, rfl, rfl, trivial⟩
                · obtain rfl := andF h95 hb96
                  refine QJ.off rfl rfl (cB hb96) rfl rfl ?_
                  refine QJ.off rfl rfl (cB hb96) rfl rfl ?_
                  refine QJ.off rfl rfl (cB hb96) rfl rfl ?_
                  refine QJ.off rfl rfl (cB hb96) rfl rfl ?_
                  refine QJ.off rfl rfl (cB hb96) rfl rfl ?_
                  refine QJ.off rfl rfl (cB hb96) rfl rfl ?_
                  refine QJ.off rfl rfl (cB hb96) rfl rfl ?_
                  refine QJ.off rfl rfl (cB hb96) rfl rfl ?_
                  refine QJ.off rfl rfl (cB hb96) rfl rfl ?_
                  refine QJ.off rfl rfl (cB hb96) rfl rfl ?_
                  refine QJ.step (YldS.yld (y_pick_f (cB hb96) rfl)) rfl ?_
                  exact QJ.cut_end ⟨rfl, rfl, rfl, rfl, rfl, rfl, rfl, rfl, rfl, rfl, rfl, rfl, rfl, rfl, rfl, rfl, rfl, rfl, rfl, trivial⟩
              refine QJ.done ?_
              refine PJ.next ?_
              refine WJ.cond (t := t94) rfl (fun hb99 => ?_) (fun hb99 => ?_)
              · replace hm := ifT hm hb99
                refine WJ.seq ?_
                refine WJ.quiet ?_
                refine QJ.step (YldS.yld (y_assign rfl)) rfl ?_
                refine QJ.done ?_
                refine PJ.next ?_
                refine WJ.ret ?_
                refine PJ.block_ret (PJ.then_ret (PJ.then_ret (PJ.block_ret (PJ.then_ret ?_))))
                obtain rfl := Option.some.inj hm
                refine PJ.sel (L' := []) [] ⟨List.nodup_nil, rfl⟩ ?_
                exact PJ.retn (vs := [.bool false]) Try.results5 ⟨rfl, trivial⟩ ⟨rfl, rfl⟩
              · replace hm := ifF hm hb99
                refine WJ.skip ?_
                refine PJ.block_normal (PJ.next ?_)
                refine WJ.quiet ?_
                refine QJ.step (YldS.yld (y_move rfl)) rfl ?_
                refine QJ.step (YldS.yld (y_bin rfl rfl rfl)) rfl ?_
                refine QJ.step (YldS.yld (y_assign rfl)) rfl ?_
                refine QJ.done ?_
                exact PJ.round (w64 (i90 + 1)) [0, 1, 2, 3] hm ⟨rfl, rfl, rfl, rfl, rfl, rfl, rfl, rfl, rfl, rfl, rfl, rfl, rfl, rfl, rfl, rfl, rfl, rfl, trivial⟩ ⟨by decide, rfl⟩
            · replace hm := ifF hm hb91
              refine WJ.exit ?_
              refine PJ.then_exit (PJ.then_exit (PJ.block_exit ?_))
              exact PJ.joined () [0, 1, 3] hm ⟨rfl, rfl, rfl, rfl, rfl, rfl, rfl, rfl, rfl, rfl, rfl, rfl, rfl, trivial⟩ ⟨by decide, rfl⟩
        · replace hm := ifF hm hb89
          refine WJ.skip ?_
          exact PJ.joined () [1, 2, 6] hm ⟨rfl, rfl, rfl, rfl, rfl, rfl, rfl, rfl, rfl, rfl, rfl, rfl, rfl, trivial⟩ ⟨by decide, rfl⟩
      · rintro _ hm
        subst hk88
        obtain ⟨kj100, hk101, hm⟩ := withK_open hm
        refine WJ.join (X := Unit) (fun (_ : Unit) => kj100  = some r) (fun (_ : Unit) => [(3, pt g9 0), (4, .int .i64 r7.2), (6, .int .i64 r10.2), (7, .int .i64 r12.1), (38, str r42), (39, .int .i64 r44.1), (40, .int .i64 r44.2)]) (fun (_ : Unit) => [box g9 59 [.int .i64 r7.1.spots, .int .i64 r7.1.ink, .int .i64 r7.1.takes]]) ?_ ?_
        · clear hk101
          refine WJ.seq ?_
          refine WJ.quiet ?_
          refine QJ.step (YldS.yld (y_move rfl)) rfl ?_
          refine QJ.step (YldS.yld (y_bin rfl rfl rfl)) rfl ?_
          refine QJ.done ?_
          refine PJ.next ?_
          refine WJ.cond (t := (r31.2.2 == 0)) rfl (fun hb102 => ?_) (fun hb102 => ?_)
          · replace hm := ifT hm hb102
            refine WJ.seq ?_
            refine WJ.quiet ?_
            refine QJ.step (YldS.yld (y_assign rfl)) rfl ?_
            refine QJ.done ?_
            refine PJ.next ?_
            refine WJ.block ?_
            refine WJ.sel (L' := (fun (x : Int) => [row v29 59 fRibbon r27.1, vw v30 fI64.rp r27.2.1, box g9 59 [.int .i64 r7.1.spots, .int .i64 r7.1.ink, .int .i64 r7.1.takes]]) 0) [0, 1, 2] ⟨by decide, rfl⟩ ?_
            refine WJ.sub (m' := (fun (x : Int) => [(3, pt g9 0), (4, .int .i64 r7.2), (6, .int .i64 r10.2), (7, .int .i64 r12.1), (21, v29), (22, v30), (23, .int .i64 r27.2.2.1), (24, .int .i64 r27.2.2.2), (29, .int .i64 r33.2.1), (38, str r42), (39, .int .i64 r44.1), (40, .int .i64 r44.2), (44, .int .i64 x)]) 0) ⟨rfl, rfl, rfl, rfl, rfl, rfl, rfl, rfl, rfl, rfl, rfl, rfl, rfl, trivial⟩ ?_
            refine WJ.loop (X := Int) (fun N (x : Int) => w_FnShades_l2 kj100 r27 r33 N x = some r) (fun (x : Int) => [(3, pt g9 0), (4, .int .i64 r7.2), (6, .int .i64 r10.2), (7, .int .i64 r12.1), (21, v29), (22, v30), (23, .int .i64 r27.2.2.1), (24, .int .i64 r27.2.2.2), (29, .int .i64 r33.2.1), (38, str r42), (39, .int .i64 r44.1), (40, .int .i64 r44.2), (44, .int .i64 x)]) (fun (x : Int) => [row v29 59 fRibbon r27.1, vw v30 fI64.rp r27.2.1, box g9 59 [.int .i64 r7.1.spots, .int .i64 r7.1.ink, .int .i64 r7.1.takes]]) ?_ N 0 hm
            · rintro N i103 hI
              have hm := hI; clear hI
              cases N with
              | zero => cases hm
              | succ N =>
              unfold w_FnShades_l2 at hm
              refine WJ.seq ?_
              refine WJ.seq ?_
              refine WJ.quiet ?_
              refine QJ.step (YldS.yld (y_move rfl)) rfl ?_
              refine QJ.step (YldS.yld (y_move rfl)) rfl ?_
              refine QJ.step (YldS.yld (y_lenRow (k := 0) rfl Try.runUnderlying69 rfl)) rfl ?_
              refine QJ.step (YldS.yld (y_bin rfl rfl rfl)) rfl ?_
              refine QJ.done ?_
              refine PJ.next ?_
              refine WJ.cond (t := decide (i103 < (List.length r27.1 : Int))) rfl (fun hb104 => ?_) (fun hb104 => ?_)
              · replace hm := ifT hm hb104
                refine WJ.skip ?_
                refine PJ.next ?_
                obtain ⟨kj105, hk106, hm⟩ := withK_open hm
                refine WJ.join (X := Unit) (fun (_ : Unit) => kj105  = some r) (fun (_ : Unit) => [(3, pt g9 0), (4, .int .i64 r7.2), (6, .int .i64 r10.2), (7, .int .i64 r12.1), (21, v29), (22, v30), (23, .int .i64 r27.2.2.1), (24, .int .i64 r27.2.2.2), (29, .int .i64 r33.2.1), (38, str r42), (39, .int .i64 r44.1), (40, .int .i64 r44.2), (44, .int .i64 i103)]) (fun (_ : Unit) => [row v29 59 fRibbon r27.1, vw v30 fI64.rp r27.2.1, box g9 59 [.int .i64 r7.1.spots, .int .i64 r7.1.ink, .int .i64 r7.1.takes]]) ?_ ?_
                · clear hk106
                  refine WJ.block ?_
                  refine WJ.seq ?_
                  refine WJ.seq ?_
                  refine WJ.quiet ?_
                  refine QJ.step (YldS.yld (y_move rfl)) rfl ?_
                  refine QJ.step (YldS.yld (y_move rfl)) rfl ?_
                  refine QJ.step (YldS.yld (y_move rfl)) rfl ?_
                  obtain ⟨e107, h108, hm⟩ := bindS hm
                  refine QJ.step (YldS.yld (y_ixRow (k := 0) (R := fRibbon) rfl Try.runUnderlying69 Try.sizeOf59 rfl rfl h108)) rfl ?_
                  refine QJ.step (YldS.yld (y_fldR fld59_1 rfl)) rfl ?_
                  refine QJ.step (YldS.yld (y_loadR (k := 0) (i := (Int.toNat i103)) (off := 1) (u := .int .i64 e107.ink) rfl Try.isAgg2 rfl (idx_get h108) rfl)) rfl ?_
                  refine QJ.step (YldS.yld (y_bin rfl rfl rfl)) rfl ?_
                  refine QJ.done ?_
                  refine PJ.next ?_
                  refine WJ.cond (t := decide (r27.2.2.2 > e107.ink)) rfl (fun hb109 => ?_) (fun hb109 => ?_)
                  · replace hm := ifT hm hb109
                    refine WJ.exit ?_
                    refine PJ.then_exit (PJ.block_exit ?_)
                    exact PJ.joined () [0, 1, 2] hm ⟨rfl, rfl, rfl, rfl, rfl, rfl, rfl, rfl, rfl, rfl, rfl, rfl, rfl, trivial⟩ ⟨by decide, rfl⟩
                  · replace hm := ifF hm hb109
                    refine WJ.skip ?_
                    refine PJ.next ?_
                    refine WJ.seq ?_
                    refine WJ.quiet ?_
                    refine QJ.step (YldS.yld (y_move rfl)) rfl ?_
                    refine QJ.step (YldS.yld (y_move rfl)) rfl ?_
                    obtain ⟨e110, h111, hm⟩ := bindS hm
                    refine QJ.step (YldS.yld (y_ixRow (k := 0) (R := fRibbon) rfl Try.runUnderlying69 Try.sizeOf59 rfl rfl h111)) rfl ?_
                    refine QJ.step (YldS.yld (y_loadRN (k := 0) (i := (Int.toNat i103)) (off := 0) (us := [.int .i64 e110.spots, .int .i64 e110.ink, .int .i64 e110.takes]) rfl Try.isAgg59 Try.sizeOf59 rfl (idx_get h111) rfl)) rfl ?_
                    refine QJ.step (YldS.yld (y_move rfl)) rfl ?_
                    refine QJ.step (YldS.yld (y_move rfl)) rfl ?_
                    obtain ⟨r112, h113, hm⟩ := bindS hm
                    refine QJ.step (y_call Try.call46 rfl (RetG.quiet fun w hw => ok_i_RibbonsFor h113 w )) rfl ?_
                    refine QJ.step (YldS.yld (y_move rfl)) rfl ?_
                    refine QJ.step (YldS.yld (y_extract rfl rfl)) rfl ?_
                    refine QJ.step (YldS.yld (y_extract rfl rfl)) rfl ?_
                    refine QJ.step (YldS.yld (y_assign rfl)) rfl ?_
                    refine QJ.step (YldS.yld (y_assign rfl)) rfl ?_
                    refine QJ.done ?_
                    refine PJ.next ?_
                    refine WJ.seq ?_
                    refine WJ.quiet ?_
                    refine QJ.step (YldS.yld (y_move rfl)) rfl ?_
                    refine QJ.step (YldS.yld (y_bin rfl rfl rfl)) rfl ?_
                    refine QJ.step (YldS.yld (y_move rfl)) rfl ?_
                    obtain ⟨t114, h115, hm⟩ := bindS hm
                    refine QJ.cut 9 [(3, pt g9 0), (4, .int .i64 r7.2), (6, .int .i64 r10.2), (7, .int .i64 r12.1), (21, v29), (22, v30), (23, .int .i64 r27.2.2.1), (24, .int .i64 r27.2.2.2), (29, .int .i64 r33.2.1), (38, str r42), (39, .int .i64 r44.1), (40, .int .i64 r44.2), (44, .int .i64 i103), (287, .bool t114)] ?_ ?_
                    · rcases Bool.eq_false_or_eq_true (r112.2 != 0) with hb116 | hb116
                      · obtain rfl := orT h115 hb116
                        refine QJ.off rfl rfl (cB hb116) rfl rfl ?_
                        refine QJ.off rfl rfl (cB hb116) rfl rfl ?_
                        refine QJ.off rfl rfl (cB hb116) rfl rfl ?_
                        refine QJ.off rfl rfl (cB hb116) rfl rfl ?_
                        refine QJ.off rfl rfl (cB hb116) rfl rfl ?_
                        refine QJ.off rfl rfl (cB hb116) rfl rfl ?_
                        refine QJ.off rfl rfl (cB hb116) rfl rfl ?_
                        refine QJ.off rfl rfl (cB hb116) rfl rfl ?_
                        refine QJ.step (YldS.yld (y_pick_t (cB hb116) rfl)) rfl ?_
                        exact QJ.cut_end ⟨rfl, rfl, rfl, rfl, rfl, rfl, rfl, rfl, rfl, rfl, rfl, rfl, rfl, rfl, trivial⟩
                      · replace h115 := orF h115 hb116
                        refine QJ.on rfl rfl (cB hb116) (YldS.yld (y_move rfl)) rfl ?_
                        refine QJ.on rfl rfl (cB hb116) (YldS.yld (y_move rfl)) rfl ?_
                        obtain ⟨e117, h118, h115⟩ := bindS h115
                        refine QJ.on rfl rfl (cB hb116) (YldS.yld (y_ixRowV (k := 1) (R := fI64) rfl Try.runUnderlying66 Try.sizeOf2 rfl rfl h118)) rfl ?_
                        refine QJ.on rfl rfl (cB hb116) (YldS.yld (y_loadRV (k := 1) (i := (Int.toNat i103)) (off := 0) (u := .int .i64 e117) rfl Try.isAgg2 rfl (idx_get h118) rfl)) rfl ?_
                        refine QJ.on rfl rfl (cB hb116) (YldS.yld (y_move rfl)) rfl ?_
                        refine QJ.on rfl rfl (cB hb116) (YldS.yld (y_bin rfl rfl rfl)) rfl ?_
                        refine QJ.on rfl rfl (cB hb116) (YldS.yld (y_move rfl)) rfl ?_
                        refine QJ.on rfl rfl (cB hb116) (YldS.yld (y_bin rfl rfl rfl)) rfl ?_
                        refine QJ.step (YldS.yld (y_pick_f (cB hb116) rfl)) rfl ?_
                        obtain rfl := Option.some.inj h115
                        exact QJ.cut_end ⟨rfl, rfl, rfl, rfl, rfl, rfl, rfl, rfl, rfl, rfl, rfl, rfl, rfl, rfl, trivial⟩
                    refine QJ.done ?_
                    refine PJ.next ?_
                    refine WJ.cond (t := t114) rfl (fun hb119 => ?_) (fun hb119 => ?_)
                    · replace hm := ifT hm hb119
                      refine WJ.seq ?_
                      refine WJ.quiet ?_
                      refine QJ.step (YldS.yld (y_assign rfl)) rfl ?_
                      refine QJ.done ?_
                      refine PJ.next ?_
                      refine WJ.ret ?_
                      refine PJ.block_ret (PJ.then_ret (PJ.then_ret (PJ.block_ret (PJ.then_ret ?_))))
                      obtain rfl := Option.some.inj hm
                      refine PJ.sel (L' := []) [] ⟨List.nodup_nil, rfl⟩ ?_
                      exact PJ.retn (vs := [.bool false]) Try.results5 ⟨rfl, trivial⟩ ⟨rfl, rfl⟩
                    · replace hm := ifF hm hb119
                      refine WJ.skip ?_
                      refine PJ.block_normal ?_
                      exact PJ.joined () [0, 1, 2] hm ⟨rfl, rfl, rfl, rfl, rfl, rfl, rfl, rfl, rfl, rfl, rfl, rfl, rfl, trivial⟩ ⟨by decide, rfl⟩
                · rintro _ hm
                  subst hk106
                  refine WJ.quiet ?_
                  refine QJ.step (YldS.yld (y_move rfl)) rfl ?_
                  refine QJ.step (YldS.yld (y_bin rfl rfl rfl)) rfl ?_
                  refine QJ.step (YldS.yld (y_assign rfl)) rfl ?_
                  refine QJ.done ?_
                  exact PJ.round (w64 (i103 + 1)) [0, 1, 2] hm ⟨rfl, rfl, rfl, rfl, rfl, rfl, rfl, rfl, rfl, rfl, rfl, rfl, rfl, trivial⟩ ⟨by decide, rfl⟩
              · replace hm := ifF hm hb104
                refine WJ.exit ?_
                refine PJ.then_exit (PJ.then_exit (PJ.block_exit ?_))
                exact PJ.joined () [2] hm ⟨rfl, rfl, rfl, rfl, rfl, rfl, rfl, trivial⟩ ⟨by decide, rfl⟩
          · replace hm := ifF hm hb102
            refine WJ.skip ?_
            exact PJ.joined () [2] hm ⟨rfl, rfl, rfl, rfl, rfl, rfl, rfl, trivial⟩ ⟨by decide, rfl⟩
        · rintro _ hm
          subst hk101
          refine WJ.seq ?_
          refine WJ.seq ?_
          refine WJ.quiet ?_
          refine QJ.step (YldS.yld (y_move rfl)) rfl ?_
          refine QJ.step (YldS.yld (y_bin rfl rfl rfl)) rfl ?_
          refine QJ.step (YldS.yld (y_move rfl)) rfl ?_
          obtain ⟨t120, h121, hm⟩ := bindS hm
          refine QJ.cut 9 [(3, pt g9 0), (4, .int .i64 r7.2), (6, .int .i64 r10.2), (7, .int .i64 r12.1), (299, .bool t120)] ?_ ?_
          · rcases Bool.eq_false_or_eq_true (r44.2 == 0) with hb122 | hb122
            · replace h121 := andT h121 hb122
              refine QJ.on rfl rfl (cB hb122) (YldS.yld (y_move rfl)) rfl ?_
              refine QJ.on rfl rfl (cB hb122) (YldS.yld (y_bin rfl rfl rfl)) rfl ?_
              refine QJ.on rfl rfl (cB hb122) (YldS.yld (y_move rfl)) rfl ?_
              obtain ⟨t123, h124, h121⟩ := bindS h121
              refine QJ.cut 5 [(3, pt g9 0), (4, .int .i64 r7.2), (6, .int .i64 r10.2), (7, .int .i64 r12.1), (290, .bool (r44.2 == 0)), (298, .bool t123)] ?_ ?_
              · rcases Bool.eq_false_or_eq_true (decide (r44.1 < 0)) with hb125 | hb125
                · obtain rfl := orT h124 hb125
                  refine QJ.off rfl rfl (cB hb125) rfl rfl ?_
                  refine QJ.off rfl rfl (cB hb125) rfl rfl ?_
                  refine QJ.off rfl rfl (cB hb125) rfl rfl ?_
                  refine QJ.off rfl rfl (cB hb125) rfl rfl ?_
                  refine QJ.on rfl rfl (cB hb122) (YldS.yld (y_pick_t (cB hb125) rfl)) rfl ?_
                  exact QJ.cut_end ⟨rfl, rfl, rfl, rfl, rfl, rfl, trivial⟩
                · replace h124 := orF h124 hb125
                  refine QJ.on rfl rfl (cB hb125) (YldS.yld (y_move rfl)) rfl ?_
                  refine QJ.on rfl rfl (cB hb125) (YldS.yld (y_move rfl)) rfl ?_
                  refine QJ.on rfl rfl (cB hb125) (YldS.yld (y_lenStr Try.runUnderlying9 rfl)) rfl ?_
                  refine QJ.on rfl rfl (cB hb125) (YldS.yld (y_bin rfl rfl rfl)) rfl ?_
                  refine QJ.on rfl rfl (cB hb122) (YldS.yld (y_pick_f (cB hb125) rfl)) rfl ?_
                  obtain rfl := Option.some.inj h124
                  exact QJ.cut_end ⟨rfl, rfl, rfl, rfl, rfl, rfl, trivial⟩
              refine QJ.step (YldS.yld (y_pick_t (cB hb122) rfl)) rfl ?_
              obtain rfl := Option.some.inj h121
              exact QJ.cut_end ⟨rfl, rfl, rfl, rfl, rfl, trivial⟩
            · obtain rfl := andF h121 hb122
              refine QJ.off rfl rfl (cB hb122) rfl rfl ?_
              refine QJ.off rfl rfl (cB hb122) rfl rfl ?_
              refine QJ.off rfl rfl (cB hb122) rfl rfl ?_
              refine QJ.off_undef rfl rfl rfl rfl ?_
              refine QJ.off_undef rfl rfl rfl rfl ?_
              refine QJ.off_undef rfl rfl rfl rfl ?_
              refine QJ.off_undef rfl rfl rfl rfl ?_
              refine QJ.off rfl rfl (cB hb122) rfl rfl ?_
              refine QJ.step (YldS.yld (y_pick_f (cB hb122) rfl)) rfl ?_
              exact QJ.cut_end ⟨rfl, rfl, rfl, rfl, rfl, trivial⟩
          refine QJ.done ?_
          refine PJ.next ?_
          refine WJ.cond (t := t120) rfl (fun hb126 => ?_) (fun hb126 => ?_)
          · replace hm := ifT hm hb126
            refine WJ.seq ?_
            refine WJ.quiet ?_
            refine QJ.step (YldS.yld (y_assign rfl)) rfl ?_
            refine QJ.done ?_
            refine PJ.next ?_
            refine WJ.ret ?_
            refine PJ.then_ret ?_
            obtain rfl := Option.some.inj hm
            refine PJ.sel (L' := []) [] ⟨List.nodup_nil, rfl⟩ ?_
            exact PJ.retn (vs := [.bool false]) Try.results5 ⟨rfl, trivial⟩ ⟨rfl, rfl⟩
          · replace hm := ifF hm hb126
            refine WJ.skip ?_
            refine PJ.next ?_
            refine WJ.seq ?_
            refine WJ.seq ?_
            refine WJ.quiet ?_
            refine QJ.step (YldS.yld (y_move rfl)) rfl ?_
            refine QJ.step (YldS.yld (y_bin rfl rfl rfl)) rfl ?_
            refine QJ.done ?_
            refine PJ.next ?_
            refine WJ.cond (t := (r10.2 != 0)) rfl (fun hb127 => ?_) (fun hb127 => ?_)
            · replace hm := ifT hm hb127
              refine WJ.seq ?_
              refine WJ.quiet ?_
              refine QJ.step (YldS.yld (y_assign rfl)) rfl ?_
              refine QJ.done ?_
              refine PJ.next ?_
              refine WJ.ret ?_
              refine PJ.then_ret ?_
              obtain rfl := Option.some.inj hm
              refine PJ.sel (L' := []) [] ⟨List.nodup_nil, rfl⟩ ?_
              exact PJ.retn (vs := [.bool true]) Try.results5 ⟨rfl, trivial⟩ ⟨rfl, rfl⟩
            · replace hm := ifF hm hb127
              refine WJ.skip ?_
              refine PJ.next ?_
              refine WJ.seq ?_
              refine WJ.quiet ?_
              refine QJ.step (YldS.yld (y_loadBN (k := 0) (off := 0) (us := [.int .i64 r7.1.spots, .int .i64 r7.1.ink, .int .i64 r7.1.takes]) rfl Try.isAgg59 Try.sizeOf59 rfl rfl)) rfl ?_
              refine QJ.step (YldS.yld (y_move rfl)) rfl ?_
              obtain ⟨r128, h129, hm⟩ := bindS hm
              refine QJ.step (y_call Try.call52 rfl (RetG.quiet fun w hw => ok_i_ShadeAt h129 w )) rfl ?_
              refine QJ.step (YldS.yld (y_move rfl)) rfl ?_
              refine QJ.step (YldS.yld (y_extract rfl rfl)) rfl ?_
              refine QJ.step (YldS.yld (y_extract rfl rfl)) rfl ?_
              refine QJ.step (YldS.yld (y_assign rfl)) rfl ?_
              refine QJ.step (YldS.yld (y_assign rfl)) rfl ?_
              refine QJ.done ?_
              refine PJ.next ?_
              refine WJ.seq ?_
              refine WJ.seq ?_
              refine WJ.quiet ?_
              refine QJ.step (YldS.yld (y_move rfl)) rfl ?_
              refine QJ.step (YldS.yld (y_bin rfl rfl rfl)) rfl ?_
              refine QJ.step (YldS.yld (y_move rfl)) rfl ?_
              obtain ⟨t130, h131, hm⟩ := bindS hm
              refine QJ.cut 4 [(3, pt g9 0), (4, .int .i64 r7.2), (7, .int .i64 r12.1), (314, .bool t130)] ?_ ?_
              · rcases Bool.eq_false_or_eq_true (r128.2 != 0) with hb132 | hb132
                · obtain rfl := orT h131 hb132
                  refine QJ.off rfl rfl (cB hb132) rfl rfl ?_
                  refine QJ.off rfl rfl (cB hb132) rfl rfl ?_
                  refine QJ.off rfl rfl (cB hb132) rfl rfl ?_
                  refine QJ.step (YldS.yld (y_pick_t (cB hb132) rfl)) rfl ?_
                  exact QJ.cut_end ⟨rfl, rfl, rfl, rfl, trivial⟩
                · replace h131 := orF h131 hb132
                  refine QJ.on rfl rfl (cB hb132) (YldS.yld (y_move rfl)) rfl ?_
                  refine QJ.on rfl rfl (cB hb132) (YldS.yld (y_move rfl)) rfl ?_
                  refine QJ.on rfl rfl (cB hb132) (YldS.yld (y_bin rfl rfl rfl)) rfl ?_
                  refine QJ.step (YldS.yld (y_pick_f (cB hb132) rfl)) rfl ?_
                  obtain rfl := Option.some.inj h131
                  exact QJ.cut_end ⟨rfl, rfl, rfl, rfl, trivial⟩
              refine QJ.step (YldS.yld (y_move rfl)) rfl ?_
              obtain ⟨t133, h134, hm⟩ := bindS hm
              refine QJ.cut 3 [(3, pt g9 0), (4, .int .i64 r7.2), (7, .int .i64 r12.1), (318, .bool t133)] ?_ ?_
              · rcases Bool.eq_false_or_eq_true t130 with hb135 | hb135
                · obtain rfl := orT h134 hb135
                  refine QJ.off rfl rfl (cB hb135) rfl rfl ?_
                  refine QJ.off rfl rfl (cB hb135) rfl rfl ?_
                  refine QJ.step (YldS.yld (y_pick_t (cB hb135) rfl)) rfl ?_
                  exact QJ.cut_end ⟨rfl, rfl, rfl, rfl, trivial⟩
                · replace h134 := orF h134 hb135
                  refine QJ.on rfl rfl (cB hb135) (YldS.yld (y_move rfl)) rfl ?_
                  refine QJ.on rfl rfl (cB hb135) (YldS.yld (y_bin rfl rfl rfl)) rfl ?_
                  refine QJ.step (YldS.yld (y_pick_f (cB hb135) rfl)) rfl ?_
                  obtain rfl := Option.some.inj h134
                  exact QJ.cut_end ⟨rfl, rfl, rfl, rfl, trivial⟩
              refine QJ.done ?_
              refine PJ.next ?_
              refine WJ.cond (t := t133) rfl (fun hb136 => ?_) (fun hb136 => ?_)
              · replace hm := ifT hm hb136
                refine WJ.seq ?_
                refine WJ.quiet ?_
                refine QJ.step (YldS.yld (y_assign rfl)) rfl ?_
                refine QJ.done ?_
                refine PJ.next ?_
                refine WJ.ret ?_
                refine PJ.then_ret ?_
                obtain rfl := Option.some.inj hm
                refine PJ.sel (L' := []) [] ⟨List.nodup_nil, rfl⟩ ?_
                exact PJ.retn (vs := [.bool false]) Try.results5 ⟨rfl, trivial⟩ ⟨rfl, rfl⟩
              · replace hm := ifF hm hb136
                refine WJ.skip ?_
                refine PJ.next ?_
                refine WJ.seq ?_
                refine WJ.quiet ?_
                refine QJ.step (YldS.yld (y_loadBN (k := 0) (off := 0) (us := [.int .i64 r7.1.spots, .int .i64 r7.1.ink, .int .i64 r7.1.takes]) rfl Try.isAgg59 Try.sizeOf59 rfl rfl)) rfl ?_
                refine QJ.step (YldS.yld (y_move rfl)) rfl ?_
                refine QJ.step (YldS.yld (y_bin rfl rfl rfl)) rfl ?_
                obtain ⟨r137, h138, hm⟩ := bindS hm
                refine QJ.step (y_call Try.call52 rfl (RetG.quiet fun w hw => ok_i_ShadeAt h138 w )) rfl ?_
                refine QJ.step (YldS.yld (y_move rfl)) rfl ?_
                refine QJ.step (YldS.yld (y_extract rfl rfl)) rfl ?_
                refine QJ.step (YldS.yld (y_extract rfl rfl)) rfl ?_
                refine QJ.step (YldS.yld (y_assign rfl)) rfl ?_
                refine QJ.step (YldS.yld (y_assign rfl)) rfl ?_
                refine QJ.done ?_
                refine PJ.next ?_
                refine WJ.seq ?_
                refine WJ.quiet ?_
                refine QJ.step (YldS.yld (y_move rfl)) rfl ?_
                refine QJ.step (YldS.yld (y_bin rfl rfl rfl)) rfl ?_
                refine QJ.step (YldS.yld (y_move rfl)) rfl ?_
                obtain ⟨t139, h140, hm⟩ := bindS hm
                refine QJ.cut 4 [(332, .bool t139)] ?_ ?_
                · rcases Bool.eq_false_or_eq_true (r137.2 == 0) with hb141 | hb141
                  · replace h140 := andT h140 hb141
                    refine QJ.on rfl rfl (cB hb141) (YldS.yld (y_move rfl)) rfl ?_
                    refine QJ.on rfl rfl (cB hb141) (YldS.yld (y_move rfl)) rfl ?_
                    refine QJ.on rfl rfl (cB hb141) (YldS.yld (y_bin rfl rfl rfl)) rfl ?_
                    refine QJ.step (YldS.yld (y_pick_t (cB hb141) rfl)) rfl ?_
                    obtain rfl := Option.some.inj h140
                    exact QJ.cut_end ⟨rfl, trivial⟩
                  · obtain rfl := andF h140 hb141
                    refine QJ.off rfl rfl (cB hb141) rfl rfl ?_
                    refine QJ.off rfl rfl (cB hb141) rfl rfl ?_
                    refine QJ.off rfl rfl (cB hb141) rfl rfl ?_
                    refine QJ.step (YldS.yld (y_pick_f (cB hb141) rfl)) rfl ?_
                    exact QJ.cut_end ⟨rfl, trivial⟩
                refine QJ.step (YldS.yld (y_assign rfl)) rfl ?_
                refine QJ.done ?_
                refine PJ.next ?_
                refine WJ.ret ?_
                obtain rfl := Option.some.inj hm
                refine PJ.sel (L' := []) [] ⟨List.nodup_nil, rfl⟩ ?_
                exact PJ.retn (vs := [.bool t139]) Try.results5 ⟨rfl, trivial⟩ ⟨rfl, rfl⟩

end Go.Proofs.Ytoojddajhalimaa
