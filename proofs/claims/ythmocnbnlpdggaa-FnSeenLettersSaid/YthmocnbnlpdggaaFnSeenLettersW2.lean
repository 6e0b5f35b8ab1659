/-
  The walks: a call hands back what its plain function computes, where that has a value. No other conditions.
-/
import Derived.Test.YthmocnbnlpdggaaFnSeenLettersW
import Derived.Test.YthmocnbnlpdggaaChecked
namespace Go.Proofs.Ythmocnbnlpdggaa
open Go.RowKit Go.Proofs
set_option linter.unusedVariables false
set_option linter.unusedSimpArgs false

set_option maxRecDepth 100000 in
set_option maxHeartbeats 1000000 in
theorem ok_i_isPlan {N : Nat} {plan1 : Str} {r : Bool} (hm : i_isPlan N plan1 = some r) (w : World)  :
    Calls Try.prog 56 #[str plan1] w (Ret (cx w) (.bool r)) := by
  unfold i_isPlan at hm
  refine Calls.enter [str plan1] Try.func56 rfl Try.ntmps56 rfl ?_
  refine WJ.seq ?_
  refine WJ.quiet ?_
  refine QJ.step (YldS.yld (y_assign rfl)) rfl ?_
  refine QJ.done ?_
  refine PJ.next ?_
  obtain ⟨k2, hk3, hm⟩ := withK_open hm
  refine WJ.join (X := Unit) (fun (_ : Unit) => k2  = some r) (fun (_ : Unit) => [(0, str plan1)]) (fun (_ : Unit) => []) ?_ ?_
  · clear hk3
    refine WJ.seq ?_
    refine WJ.quiet ?_
    refine QJ.step (YldS.yld (y_move rfl)) rfl ?_
    refine QJ.step (YldS.yld (y_lenStr Try.runUnderlying9 rfl)) rfl ?_
    refine QJ.step (YldS.yld (y_move rfl)) rfl ?_
    refine QJ.done ?_
    refine PJ.next ?_
    refine WJ.block ?_
    refine WJ.sel (L' := (fun (x : Int) => []) 0) [] ⟨List.nodup_nil, rfl⟩ ?_
    refine WJ.sub (m' := (fun (x : Int) => [(0, str plan1), (5, .int .i64 (List.length plan1 : Int)), (6, .int .i64 x)]) 0) ⟨rfl, rfl, rfl, trivial⟩ ?_
    refine WJ.loop (X := Int) (fun N (x : Int) => i_isPlan_l1 k2 plan1 N x = some r) (fun (x : Int) => [(0, str plan1), (5, .int .i64 (List.length plan1 : Int)), (6, .int .i64 x)]) (fun (x : Int) => []) ?_ N 0 hm
    · rintro N x4 hI
      have hm := hI; clear hI
      cases N with
      | zero => cases hm
      | succ N =>
      unfold i_isPlan_l1 at hm
      refine WJ.seq ?_
      refine WJ.quiet ?_
      refine QJ.step (YldS.yld (y_bin rfl rfl rfl)) rfl ?_
      refine QJ.done ?_
      refine PJ.next ?_
      refine WJ.seq ?_
      refine WJ.cond (t := decide (x4 < (List.length plan1 : Int))) rfl (fun hb5 => ?_) (fun hb5 => ?_)
      · replace hm := ifT hm hb5
        refine WJ.skip ?_
        refine PJ.next ?_
        refine WJ.seq ?_
        refine WJ.block ?_
        refine WJ.seq ?_
        refine WJ.quiet ?_
        refine QJ.step (YldS.yld (y_move rfl)) rfl ?_
        refine QJ.step (YldS.yld (y_assign rfl)) rfl ?_
        refine QJ.done ?_
        refine PJ.next ?_
        refine WJ.seq ?_
        refine WJ.quiet ?_
        refine QJ.step (YldS.yld (y_move rfl)) rfl ?_
        refine QJ.step (YldS.yld (y_move rfl)) rfl ?_
        obtain ⟨c6, h7, hm⟩ := bindS hm
        refine QJ.step (YldS.yld (y_idxStr Try.runUnderlying9 rfl rfl h7)) rfl ?_
        refine QJ.step (YldS.yld (y_bin8 c6 (46 : UInt8) rfl rfl rfl)) rfl ?_
        refine QJ.step (YldS.yld (y_move rfl)) rfl ?_
        obtain ⟨t8, h9, hm⟩ := bindS hm
        refine QJ.cut 5 [(0, str plan1), (3, .int .i64 x4), (5, .int .i64 (List.length plan1 : Int)), (6, .int .i64 x4), (18, .bool t8)] ?_ ?_
        · rcases Bool.eq_false_or_eq_true (c6 != (46 : UInt8)) with hb10 | hb10
          · replace h9 := andT h9 hb10
            refine QJ.on rfl rfl (cB hb10) (YldS.yld (y_move rfl)) rfl ?_
            refine QJ.on rfl rfl (cB hb10) (YldS.yld (y_move rfl)) rfl ?_
            obtain ⟨c11, h12, h9⟩ := bindS h9
            refine QJ.on rfl rfl (cB hb10) (YldS.yld (y_idxStr Try.runUnderlying9 rfl rfl h12)) rfl ?_
            refine QJ.on rfl rfl (cB hb10) (YldS.yld (y_bin8 c11 (43 : UInt8) rfl rfl rfl)) rfl ?_
            refine QJ.step (YldS.yld (y_pick_t (cB hb10) rfl)) rfl ?_
            obtain rfl := Option.some.inj h9
            exact QJ.cut_end ⟨rfl, rfl, rfl, rfl, rfl, trivial⟩
          · obtain rfl := andF h9 hb10
            refine QJ.off rfl rfl (cB hb10) rfl rfl ?_
            refine QJ.off rfl rfl (cB hb10) rfl rfl ?_
            refine QJ.off rfl rfl (cB hb10) rfl rfl ?_
            refine QJ.off rfl rfl (cB hb10) rfl rfl ?_
            refine QJ.step (YldS.yld (y_pick_f (cB hb10) rfl)) rfl ?_
            exact QJ.cut_end ⟨rfl, rfl, rfl, rfl, rfl, trivial⟩
        refine QJ.step (YldS.yld (y_move rfl)) rfl ?_
        obtain ⟨t13, h14, hm⟩ := bindS hm
        refine QJ.cut 5 [(0, str plan1), (5, .int .i64 (List.length plan1 : Int)), (6, .int .i64 x4), (24, .bool t13)] ?_ ?_
        · rcases Bool.eq_false_or_eq_true t8 with hb15 | hb15
          · replace h14 := andT h14 hb15
            refine QJ.on rfl rfl (cB hb15) (YldS.yld (y_move rfl)) rfl ?_
            refine QJ.on rfl rfl (cB hb15) (YldS.yld (y_move rfl)) rfl ?_
            obtain ⟨c16, h17, h14⟩ := bindS h14
            refine QJ.on rfl rfl (cB hb15) (YldS.yld (y_idxStr Try.runUnderlying9 rfl rfl h17)) rfl ?_
            refine QJ.on rfl rfl (cB hb15) (YldS.yld (y_bin8 c16 (35 : UInt8) rfl rfl rfl)) rfl ?_
            refine QJ.step (YldS.yld (y_pick_t (cB hb15) rfl)) rfl ?_
            obtain rfl := Option.some.inj h14
            exact QJ.cut_end ⟨rfl, rfl, rfl, rfl, trivial⟩
          · obtain rfl := andF h14 hb15
            refine QJ.off rfl rfl (cB hb15) rfl rfl ?_
            refine QJ.off rfl rfl (cB hb15) rfl rfl ?_
            refine QJ.off rfl rfl (cB hb15) rfl rfl ?_
            refine QJ.off rfl rfl (cB hb15) rfl rfl ?_
            refine QJ.step (YldS.yld (y_pick_f (cB hb15) rfl)) rfl ?_
            exact QJ.cut_end ⟨rfl, rfl, rfl, rfl, trivial⟩
        refine QJ.done ?_
        refine PJ.next ?_
        refine WJ.cond (t := t13) rfl (fun hb18 => ?_) (fun hb18 => ?_)
        · replace hm := ifT hm hb18
          refine WJ.seq ?_
          refine WJ.quiet ?_
          refine QJ.step (YldS.yld (y_assign rfl)) rfl ?_
          refine QJ.done ?_
          refine PJ.next ?_
          refine WJ.ret ?_
          refine PJ.block_ret (PJ.then_ret (PJ.then_ret (PJ.block_ret (PJ.then_ret ?_))))
          obtain rfl := Option.some.inj hm
          refine PJ.sel (L' := []) [] ⟨List.nodup_nil, rfl⟩ ?_
          exact PJ.retn (vs := [.bool false]) Try.results56 ⟨rfl, trivial⟩ ⟨rfl, rfl⟩
        · replace hm := ifF hm hb18
          refine WJ.skip ?_
          refine PJ.block_normal (PJ.next ?_)
          refine WJ.quiet ?_
          refine QJ.step (YldS.yld (y_bin rfl rfl rfl)) rfl ?_
          refine QJ.step (YldS.yld (y_move rfl)) rfl ?_
          refine QJ.done ?_
          exact PJ.round (w64 (x4 + 1)) [] hm ⟨rfl, rfl, rfl, trivial⟩ ⟨List.nodup_nil, rfl⟩
      · replace hm := ifF hm hb5
        refine WJ.exit ?_
        refine PJ.then_exit (PJ.then_exit (PJ.block_exit ?_))
        exact PJ.joined () [] hm ⟨rfl, trivial⟩ ⟨List.nodup_nil, rfl⟩
  · rintro _ hm
    subst hk3
    refine WJ.seq ?_
    refine WJ.quiet ?_
    refine QJ.step (YldS.yld (y_move rfl)) rfl ?_
    refine QJ.step (YldS.yld (y_lenStr Try.runUnderlying9 rfl)) rfl ?_
    refine QJ.step (YldS.yld (y_bin rfl rfl rfl)) rfl ?_
    refine QJ.step (YldS.yld (y_assign rfl)) rfl ?_
    refine QJ.done ?_
    refine PJ.next ?_
    refine WJ.ret ?_
    obtain rfl := Option.some.inj hm
    refine PJ.sel (L' := []) [] ⟨List.nodup_nil, rfl⟩ ?_
    exact PJ.retn (vs := [.bool (decide ((List.length plan1 : Int) ≤ 60))]) Try.results56 ⟨rfl, trivial⟩ ⟨rfl, rfl⟩

set_option maxRecDepth 100000 in
set_option maxHeartbeats 1000000 in
theorem ok_i_WornPlaces {N : Nat} {plans1 : List Str} {r : (List Int) × Int} (hm : i_WornPlaces N plans1 = some r) (w : World) (v2 : Value) (hr3 : RdS w (cx w).Fz v2 fStr.rp plans1) :
    Calls Try.prog 16 #[v2] w (RetG (cx w) fun u L => ∃ (u1 : Value), (u = tup [u1, .int .i64 r.2] ∧ L = [row u1 2 fI64 r.1])) := by
  unfold i_WornPlaces at hm
  refine Calls.enter [v2] Try.func16 rfl Try.ntmps16 rfl ?_
  refine WJ.seq ?_
  refine WJ.quiet ?_
  refine QJ.step (YldS.yld (y_assign rfl)) rfl ?_
  refine QJ.step (YldS.yld (y_assign rfl)) rfl ?_
  refine QJ.done ?_
  refine PJ.next ?_
  obtain ⟨k4, hk5, hm⟩ := withK_open hm
  refine WJ.join (X := Unit) (fun (_ : Unit) => k4  = some r) (fun (_ : Unit) => [(0, v2)]) (fun (_ : Unit) => []) ?_ ?_
  · clear hk5
    refine WJ.seq ?_
    refine WJ.quiet ?_
    refine QJ.step (YldS.yld (y_move rfl)) rfl ?_
    refine QJ.step (YldS.yld (y_lenS Try.runUnderlying38 hr3 rfl)) rfl ?_
    refine QJ.step (YldS.yld (y_move rfl)) rfl ?_
    refine QJ.done ?_
    refine PJ.next ?_
    refine WJ.block ?_
    refine WJ.sel (L' := (fun (x : Int) => []) 0) [] ⟨List.nodup_nil, rfl⟩ ?_
    refine WJ.sub (m' := (fun (x : Int) => [(0, v2), (13, v2), (14, .int .i64 (List.length plans1 : Int)), (15, .int .i64 x)]) 0) ⟨rfl, rfl, rfl, rfl, trivial⟩ ?_
    refine WJ.loop (X := Int) (fun N (x : Int) => i_WornPlaces_l1 k4 plans1 N x = some r) (fun (x : Int) => [(0, v2), (13, v2), (14, .int .i64 (List.length plans1 : Int)), (15, .int .i64 x)]) (fun (x : Int) => []) ?_ N 0 hm
    · rintro N x6 hI
      have hm := hI; clear hI
      cases N with
      | zero => cases hm
      | succ N =>
      unfold i_WornPlaces_l1 at hm
      refine WJ.seq ?_
      refine WJ.quiet ?_
      refine QJ.step (YldS.yld (y_bin rfl rfl rfl)) rfl ?_
      refine QJ.done ?_
      refine PJ.next ?_
      refine WJ.seq ?_
      refine WJ.cond (t := decide (x6 < (List.length plans1 : Int))) rfl (fun hb7 => ?_) (fun hb7 => ?_)
      · replace hm := ifT hm hb7
        refine WJ.skip ?_
        refine PJ.next ?_
        refine WJ.seq ?_
        refine WJ.block ?_
        refine WJ.seq ?_
        refine WJ.quiet ?_
        obtain ⟨e8, h9, hm⟩ := bindS hm
        obtain ⟨ad10, _, rfl, ha11, hy12⟩ := hr3.elem h9
        refine QJ.step (YldS.yld (hy12 Try.runUnderlying38 Try.sizeOf9 rfl rfl)) rfl ?_
        refine QJ.step (YldS.yld (y_load1 (v := str e8) Try.isAgg9 ha11 St.frozenC rfl)) rfl ?_
        refine QJ.step (YldS.yld (y_assign rfl)) rfl ?_
        refine QJ.done ?_
        refine PJ.next ?_
        refine WJ.seq ?_
        refine WJ.quiet ?_
        refine QJ.step (YldS.yld (y_move rfl)) rfl ?_
        obtain ⟨r13, h14, hm⟩ := bindS hm
        refine QJ.step (y_call Try.call56 rfl (RetG.quiet fun w hw => ok_i_isPlan h14 w )) rfl ?_
        refine QJ.step (YldS.yld (y_not rfl)) rfl ?_
        refine QJ.done ?_
        refine PJ.next ?_
        refine WJ.cond (t := !r13) rfl (fun hb15 => ?_) (fun hb15 => ?_)
        · replace hm := ifT hm hb15
          refine WJ.seq ?_
          refine WJ.quiet ?_
          refine QJ.step (YldS.yld (y_assign rfl)) rfl ?_
          refine QJ.step (YldS.yld (y_assign rfl)) rfl ?_
          refine QJ.done ?_
          refine PJ.next ?_
          refine WJ.ret ?_
          refine PJ.block_ret (PJ.then_ret (PJ.then_ret (PJ.block_ret (PJ.then_ret ?_))))
          refine PJ.nil_row 2 fI64 ?_
          obtain rfl := Option.some.inj hm
          refine PJ.sel (L' := [row (.slice none 0 0) 2 fI64 []]) [0] ⟨by decide, rfl⟩ ?_
          exact PJ.retn (vs := [(.slice none 0 0), .int .i64 7]) Try.results16 ⟨rfl, rfl, trivial⟩ ⟨_, rfl, rfl⟩
        · replace hm := ifF hm hb15
          refine WJ.skip ?_
          refine PJ.block_normal (PJ.next ?_)
          refine WJ.quiet ?_
          refine QJ.step (YldS.yld (y_bin rfl rfl rfl)) rfl ?_
          refine QJ.step (YldS.yld (y_move rfl)) rfl ?_
          refine QJ.done ?_
          exact PJ.round (w64 (x6 + 1)) [] hm ⟨rfl, rfl, rfl, rfl, trivial⟩ ⟨List.nodup_nil, rfl⟩
      · replace hm := ifF hm hb7
        refine WJ.exit ?_
        refine PJ.then_exit (PJ.then_exit (PJ.block_exit ?_))
        exact PJ.joined () [] hm ⟨rfl, trivial⟩ ⟨List.nodup_nil, rfl⟩
  · rintro _ hm
    subst hk5
    refine WJ.seq ?_
    refine WJ.seq ?_
    refine WJ.quiet ?_
    refine QJ.step (YldS.yld (y_move rfl)) rfl ?_
    refine QJ.step (YldS.yld (y_lenS Try.runUnderlying38 hr3 rfl)) rfl ?_
    refine QJ.step (YldS.yld (y_bin rfl rfl rfl)) rfl ?_
    refine QJ.done ?_
    refine PJ.next ?_
    refine WJ.cond (t := decide ((List.length plans1 : Int) > 20)) rfl (fun hb16 => ?_) (fun hb16 => ?_)
    · replace hm := ifT hm hb16
      refine WJ.seq ?_
      refine WJ.quiet ?_
      refine QJ.step (YldS.yld (y_assign rfl)) rfl ?_
      refine QJ.step (YldS.yld (y_assign rfl)) rfl ?_
      refine QJ.done ?_
      refine PJ.next ?_
      refine WJ.ret ?_
      refine PJ.then_ret ?_
      refine PJ.nil_row 2 fI64 ?_
      obtain rfl := Option.some.inj hm
      refine PJ.sel (L' := [row (.slice none 0 0) 2 fI64 []]) [0] ⟨by decide, rfl⟩ ?_
      exact PJ.retn (vs := [(.slice none 0 0), .int .i64 2]) Try.results16 ⟨rfl, rfl, trivial⟩ ⟨_, rfl, rfl⟩
    · replace hm := ifF hm hb16
      refine WJ.skip ?_
      refine PJ.next ?_
      refine WJ.seq ?_
      refine WJ.reg ?_
      refine SJ.q (YldS.yld (y_build0 Try.runUnderlying74 zv74 Try.sizeOf3)) rfl ?_
      refine SJ.allocA (R := fI64) (xs := List.replicate 60 (0 : Int)) 60 zv74 rfl rfl rfl rfl fun g17 => ?_
      refine SJ.storeA (k := 0) (ys := (List.replicate 60 (0 : Int))) rfl rfl rfl rfl (by simp) Try.sizeOf74 (by simp [length_encs, fI64]) ?_
      refine SJ.nil ?_
      refine PJ.next ?_
      obtain ⟨k19, hk20, hm⟩ := withK_open hm
      refine WJ.join (X := (List Int)) (fun (x : (List Int)) => k19 x = some r) (fun (x : (List Int)) => [(6, pt g17 0)]) (fun (x : (List Int)) => [row (av g17 60) 74 fI64 x]) ?_ ?_
      · clear hk20
        refine WJ.seq ?_
        refine WJ.quiet ?_
        refine QJ.step (YldS.yld (y_move rfl)) rfl ?_
        refine QJ.step (YldS.yld (y_lenS Try.runUnderlying38 hr3 rfl)) rfl ?_
        refine QJ.step (YldS.yld (y_move rfl)) rfl ?_
        refine QJ.done ?_
        refine PJ.next ?_
        refine WJ.block ?_
        refine WJ.sel (L' := (fun (x : (List Int) × Int) => [row (av g17 60) 74 fI64 x.1]) ((List.replicate 60 (0 : Int)), 0)) [0] ⟨by decide, rfl⟩ ?_
        refine WJ.sub (m' := (fun (x : (List Int) × Int) => [(6, pt g17 0), (27, v2), (28, .int .i64 (List.length plans1 : Int)), (29, .int .i64 x.2)]) ((List.replicate 60 (0 : Int)), 0)) ⟨rfl, rfl, rfl, rfl, trivial⟩ ?_
        refine WJ.loop (X := (List Int) × Int) (fun N (x : (List Int) × Int) => i_WornPlaces_l2 k19 plans1 N x.1 x.2 = some r) (fun (x : (List Int) × Int) => [(6, pt g17 0), (27, v2), (28, .int .i64 (List.length plans1 : Int)), (29, .int .i64 x.2)]) (fun (x : (List Int) × Int) => [row (av g17 60) 74 fI64 x.1]) ?_ N ((List.replicate 60 (0 : Int)), 0) hm
        · rintro N ⟨l21, x22⟩ hI
          have hm := hI; clear hI
          cases N with
          | zero => cases hm
          | succ N =>
          unfold i_WornPlaces_l2 at hm
          refine WJ.seq ?_
          refine WJ.quiet ?_
          refine QJ.step (YldS.yld (y_bin rfl rfl rfl)) rfl ?_
          refine QJ.done ?_
          refine PJ.next ?_
          refine WJ.seq ?_
          refine WJ.cond (t := decide (x22 < (List.length plans1 : Int))) rfl (fun hb23 => ?_) (fun hb23 => ?_)
          · replace hm := ifT hm hb23
            refine WJ.skip ?_
            refine PJ.next ?_
            obtain ⟨k26, hk26, hm⟩ := withK_open hm
            refine WJ.join (X := (List Int)) (fun (x : (List Int)) => k26 x = some r) (fun (x : (List Int)) => [(6, pt g17 0), (27, v2), (28, .int .i64 (List.length plans1 : Int)), (29, .int .i64 x22)]) (fun (x : (List Int)) => [row (av g17 60) 74 fI64 x]) ?_ ?_
            · clear hk26
              refine WJ.block ?_
              refine WJ.seq ?_
              refine WJ.quiet ?_
              obtain ⟨e27, h28, hm⟩ := bindS hm
              obtain ⟨ad29, _, rfl, ha30, hy31⟩ := hr3.elem h28
              refine QJ.step (YldS.yld (hy31 Try.runUnderlying38 Try.sizeOf9 rfl rfl)) rfl ?_
              refine QJ.step (YldS.yld (y_load1 (v := str e27) Try.isAgg9 ha30 St.frozenC rfl)) rfl ?_
              refine QJ.step (YldS.yld (y_assign rfl)) rfl ?_
              refine QJ.done ?_
              refine PJ.next ?_
              refine WJ.seq ?_
              refine WJ.quiet ?_
              refine QJ.step (YldS.yld (y_move rfl)) rfl ?_
              refine QJ.step (YldS.yld (y_lenStr Try.runUnderlying9 rfl)) rfl ?_
              refine QJ.step (YldS.yld (y_move rfl)) rfl ?_
              refine QJ.done ?_
              refine PJ.next ?_
              refine WJ.block ?_
              refine WJ.sel (L' := (fun (x : (List Int) × Int) => [row (av g17 60) 74 fI64 x.1]) (l21, 0)) [0] ⟨by decide, rfl⟩ ?_
              refine WJ.sub (m' := (fun (x : (List Int) × Int) => [(6, pt g17 0), (8, str e27), (27, v2), (28, .int .i64 (List.length plans1 : Int)), (29, .int .i64 x22), (34, .int .i64 (List.length e27 : Int)), (35, .int .i64 x.2)]) (l21, 0)) ⟨rfl, rfl, rfl, rfl, rfl, rfl, rfl, trivial⟩ ?_
              refine WJ.loop (X := (List Int) × Int) (fun N (x : (List Int) × Int) => i_WornPlaces_l3 k26 e27 N x.1 x.2 = some r) (fun (x : (List Int) × Int) => [(6, pt g17 0), (8, str e27), (27, v2), (28, .int .i64 (List.length plans1 : Int)), (29, .int .i64 x22), (34, .int .i64 (List.length e27 : Int)), (35, .int .i64 x.2)]) (fun (x : (List Int) × Int) => [row (av g17 60) 74 fI64 x.1]) ?_ N (l21, 0) hm
              · rintro N ⟨l32, x33⟩ hI
                have hm := hI; clear hI
                cases N with
                | zero => cases hm
                | succ N =>
                unfold i_WornPlaces_l3 at hm
                refine WJ.seq ?_
                refine WJ.quiet ?_
                refine QJ.step (YldS.yld (y_bin rfl rfl rfl)) rfl ?_
                refine QJ.done ?_
                refine PJ.next ?_
                refine WJ.seq ?_
                refine WJ.cond (t := decide (x33 < (List.length e27 : Int))) rfl (fun hb34 => ?_) (fun hb34 => ?_)
                · replace hm := ifT hm hb34
                  refine WJ.skip ?_
                  refine PJ.next ?_
                  obtain ⟨k38, hk37, hm⟩ := withK_open hm
                  refine WJ.join (X := (List Int)) (fun (x : (List Int)) => k38 x = some r) (fun (x : (List Int)) => [(6, pt g17 0), (8, str e27), (27, v2), (28, .int .i64 (List.length plans1 : Int)), (29, .int .i64 x22), (34, .int .i64 (List.length e27 : Int)), (35, .int .i64 x33)]) (fun (x : (List Int)) => [row (av g17 60) 74 fI64 x]) ?_ ?_
                  · clear hk37
                    refine WJ.block ?_
                    refine WJ.seq ?_
                    refine WJ.quiet ?_
                    refine QJ.step (YldS.yld (y_move rfl)) rfl ?_
                    refine QJ.step (YldS.yld (y_assign rfl)) rfl ?_
                    refine QJ.done ?_
                    refine PJ.next ?_
                    refine WJ.seq ?_
                    refine WJ.quiet ?_
                    refine QJ.step (YldS.yld (y_move rfl)) rfl ?_
                    refine QJ.step (YldS.yld (y_move rfl)) rfl ?_
                    obtain ⟨c38, h39, hm⟩ := bindS hm
                    refine QJ.step (YldS.yld (y_idxStr Try.runUnderlying9 rfl rfl h39)) rfl ?_
                    refine QJ.step (YldS.yld (y_bin8 c38 (35 : UInt8) rfl rfl rfl)) rfl ?_
                    refine QJ.done ?_
                    refine PJ.next ?_
                    refine WJ.cond (t := (c38 == (35 : UInt8))) rfl (fun hb40 => ?_) (fun hb40 => ?_)
                    · replace hm := ifT hm hb40
                      refine WJ.reg ?_
                      refine SJ.q (YldS.yld (y_move rfl)) rfl ?_
                      obtain ⟨e41, h42, hm⟩ := bindS hm
                      refine SJ.q (YldS.yld (y_ixArr (k := 0) (R := fI64) rfl Try.runUnderlying74 Try.sizeOf3 rfl rfl h42)) rfl ?_
                      refine SJ.q (YldS.yld (y_loadR (k := 0) (i := (Int.toNat x33)) (off := 0) (u := .int .i64 e41) rfl Try.isAgg3 rfl (idx_get h42) rfl)) rfl ?_
                      refine SJ.q (YldS.yld (y_bin rfl rfl rfl)) rfl ?_
                      obtain ⟨e43, h44, hm⟩ := bindS hm
                      refine SJ.q (YldS.yld (y_ixArr (k := 0) (R := fI64) rfl Try.runUnderlying74 Try.sizeOf3 rfl rfl h44)) rfl ?_
                      refine SJ.storeRL (k := 0) (i := (Int.toNat x33)) (off := 0) (us := [.int .i64 (w64 (e41 + 1))]) (b := w64 (e41 + 1)) rfl rfl (idx_get h44) rfl rfl Try.sizeOf3 rfl rfl rfl ?_
                      refine SJ.nil ?_
                      refine PJ.block_normal ?_
                      exact PJ.joined (List.set l32 (Int.toNat x33) (w64 (e41 + 1))) [0] hm ⟨rfl, rfl, rfl, rfl, rfl, rfl, rfl, trivial⟩ ⟨by decide, rfl⟩
                    · replace hm := ifF hm hb40
                      refine WJ.skip ?_
                      refine PJ.block_normal ?_
                      exact PJ.joined l32 [0] hm ⟨rfl, rfl, rfl, rfl, rfl, rfl, rfl, trivial⟩ ⟨by decide, rfl⟩
                  · rintro l35 hm
                    subst hk37
                    refine WJ.quiet ?_
                    refine QJ.step (YldS.yld (y_bin rfl rfl rfl)) rfl ?_
                    refine QJ.step (YldS.yld (y_move rfl)) rfl ?_
                    refine QJ.done ?_
                    exact PJ.round (l35, w64 (x33 + 1)) [0] hm ⟨rfl, rfl, rfl, rfl, rfl, rfl, rfl, trivial⟩ ⟨by decide, rfl⟩
                · replace hm := ifF hm hb34
                  refine WJ.exit ?_
                  refine PJ.then_exit (PJ.then_exit (PJ.block_exit (PJ.block_normal ?_)))
                  exact PJ.joined l32 [0] hm ⟨rfl, rfl, rfl, rfl, trivial⟩ ⟨by decide, rfl⟩
            · rintro l24 hm
              subst hk26
              refine WJ.quiet ?_
              refine QJ.step (YldS.yld (y_bin rfl rfl rfl)) rfl ?_
              refine QJ.step (YldS.yld (y_move rfl)) rfl ?_
              refine QJ.done ?_
              exact PJ.round (l24, w64 (x22 + 1)) [0] hm ⟨rfl, rfl, rfl, rfl, trivial⟩ ⟨by decide, rfl⟩
          · replace hm := ifF hm hb23
            refine WJ.exit ?_
            refine PJ.then_exit (PJ.then_exit (PJ.block_exit ?_))
            exact PJ.joined l21 [0] hm ⟨rfl, trivial⟩ ⟨by decide, rfl⟩
      · rintro l18 hm
        subst hk20
        refine WJ.seq ?_
        refine WJ.reg ?_
        refine SJ.buildSlice (R := fI64) (os := []) [] Try.runUnderlying31 Try.sizeOf2 Try.zeroValue2 rfl rfl rfl rfl rfl rfl fun v45 => ?_
        refine SJ.q (YldS.yld (y_assign rfl)) rfl ?_
        refine SJ.nil ?_
        refine PJ.next ?_
        obtain ⟨k48, hk49, hm⟩ := withK_open hm
        refine WJ.join (X := (List Int) × Value) (fun (x : (List Int) × Value) => k48 x.1 = some r) (fun (x : (List Int) × Value) => [(10, x.2)]) (fun (x : (List Int) × Value) => [row x.2 2 fI64 x.1]) ?_ ?_
        · clear hk49
          refine WJ.seq ?_
          refine WJ.quiet ?_
          refine QJ.step (YldS.yld (y_loadA (k := 1) (R := fI64) rfl Try.isAgg74 Try.sizeOf74 rfl rfl)) rfl ?_
          refine QJ.step (YldS.yld (y_move rfl)) rfl ?_
          refine QJ.done ?_
          refine PJ.next ?_
          refine WJ.block ?_
          refine WJ.sel (L' := (fun (x : (List Int) × Value × Int) => [row x.2.1 2 fI64 x.1]) ([], v45, 0)) [0] ⟨by decide, rfl⟩ ?_
          refine WJ.sub (m' := (fun (x : (List Int) × Value × Int) => [(10, x.2.1), (50, .agg (List.toArray (encs fI64 l18))), (51, .int .i64 x.2.2)]) ([], v45, 0)) ⟨rfl, rfl, rfl, trivial⟩ ?_
          refine WJ.loop (X := (List Int) × Value × Int) (fun N (x : (List Int) × Value × Int) => i_WornPlaces_l4 k48 l18 N x.1 x.2.2 = some r) (fun (x : (List Int) × Value × Int) => [(10, x.2.1), (50, .agg (List.toArray (encs fI64 l18))), (51, .int .i64 x.2.2)]) (fun (x : (List Int) × Value × Int) => [row x.2.1 2 fI64 x.1]) ?_ N ([], v45, 0) hm
          · rintro N ⟨l50, v51, x52⟩ hI
            have hm := hI; clear hI
            cases N with
            | zero => cases hm
            | succ N =>
            unfold i_WornPlaces_l4 at hm
            refine WJ.seq ?_
            refine WJ.quiet ?_
            refine QJ.step (YldS.yld (y_bin rfl rfl rfl)) rfl ?_
            refine QJ.done ?_
            refine PJ.next ?_
            refine WJ.seq ?_
            refine WJ.cond (t := decide (x52 < 60)) rfl (fun hb53 => ?_) (fun hb53 => ?_)
            · replace hm := ifT hm hb53
              refine WJ.skip ?_
              refine PJ.next ?_
              obtain ⟨k57, hk57, hm⟩ := withK_open hm
              refine WJ.join (X := (List Int) × Value) (fun (x : (List Int) × Value) => k57 x.1 = some r) (fun (x : (List Int) × Value) => [(10, x.2), (50, .agg (List.toArray (encs fI64 l18))), (51, .int .i64 x52)]) (fun (x : (List Int) × Value) => [row x.2 2 fI64 x.1]) ?_ ?_
              · clear hk57
                refine WJ.block ?_
                refine WJ.seq ?_
                refine WJ.quiet ?_
                refine QJ.step (YldS.yld (y_move rfl)) rfl ?_
                obtain ⟨e58, h59, hm⟩ := bindS hm
                refine QJ.step (YldS.yld (y_ixAgg (R := fI64) (y := e58) Try.runUnderlying74 Try.sizeOf3 Try.isAgg3 rfl rfl rfl h59 rfl)) rfl ?_
                refine QJ.step (YldS.yld (y_assign rfl)) rfl ?_
                refine QJ.step (YldS.yld (y_assign rfl)) rfl ?_
                refine QJ.done ?_
                refine PJ.next ?_
                refine WJ.seq ?_
                refine WJ.quiet ?_
                refine QJ.step (YldS.yld (y_move rfl)) rfl ?_
                refine QJ.step (YldS.yld (y_bin rfl rfl rfl)) rfl ?_
                refine QJ.done ?_
                refine PJ.next ?_
                refine WJ.cond (t := decide (e58 > 3)) rfl (fun hb60 => ?_) (fun hb60 => ?_)
                · replace hm := ifT hm hb60
                  refine WJ.reg ?_
                  refine SJ.q (YldS.yld (y_move rfl)) rfl ?_
                  refine SJ.q (YldS.yld (y_move rfl)) rfl ?_
                  refine SJ.buildSlice (R := fI64) (os := [.tmp 58]) [x52] Try.runUnderlying31 Try.sizeOf2 Try.zeroValue2 rfl rfl rfl rfl rfl rfl fun v61 => ?_
                  obtain ⟨l62, h63, hm⟩ := bindS hm
                  refine SJ.append (k := 1) (R := fI64) h63 rfl Try.underlying31 el2 rfl rfl rfl (fun w hw => (hw.row_rd (k := 0) rfl)) rfl fun v64 => ?_
                  refine SJ.q (YldS.yld (y_assign rfl)) rfl ?_
                  refine SJ.nil ?_
                  refine PJ.block_normal ?_
                  exact PJ.joined (l62, v64) [1] hm ⟨rfl, rfl, rfl, trivial⟩ ⟨by decide, rfl⟩
                · replace hm := ifF hm hb60
                  refine WJ.skip ?_
                  refine PJ.block_normal ?_
                  exact PJ.joined (l50, v51) [0] hm ⟨rfl, rfl, rfl, trivial⟩ ⟨by decide, rfl⟩
              · rintro ⟨l54, v55⟩ hm
                subst hk57
                refine WJ.quiet ?_
                refine QJ.step (YldS.yld (y_bin rfl rfl rfl)) rfl ?_
                refine QJ.step (YldS.yld (y_move rfl)) rfl ?_
                refine QJ.done ?_
                exact PJ.round (l54, v55, w64 (x52 + 1)) [0] hm ⟨rfl, rfl, rfl, trivial⟩ ⟨by decide, rfl⟩
            · replace hm := ifF hm hb53
              refine WJ.exit ?_
              refine PJ.then_exit (PJ.then_exit (PJ.block_exit ?_))
              exact PJ.joined (l50, v51) [0] hm ⟨rfl, trivial⟩ ⟨by decide, rfl⟩
        · rintro ⟨l46, v47⟩ hm
          subst hk49
          refine WJ.seq ?_
          refine WJ.quiet ?_
          refine QJ.step (YldS.yld (y_move rfl)) rfl ?_
          refine QJ.step (YldS.yld (y_assign rfl)) rfl ?_
          refine QJ.step (YldS.yld (y_assign rfl)) rfl ?_
          refine QJ.done ?_
          refine PJ.next ?_
          refine WJ.ret ?_
          obtain rfl := Option.some.inj hm
          refine PJ.sel (L' := [row v47 2 fI64 l46]) [0] ⟨by decide, rfl⟩ ?_
          exact PJ.retn (vs := [v47, .int .i64 0]) Try.results16 ⟨rfl, rfl, trivial⟩ ⟨_, rfl, rfl⟩

set_option maxRecDepth 100000 in
set_option maxHeartbeats 1000000 in
theorem ok_s_l12IsPlan {N : Nat} {plan1 : Str} {r : Bool} (hm : s_l12IsPlan N plan1 = some r) (w : World)  :
    Calls Try.prog 57 #[str plan1] w (Ret (cx w) (.bool r)) := by
  unfold s_l12IsPlan at hm
  refine Calls.enter [str plan1] Try.func57 rfl Try.ntmps57 rfl ?_
  refine WJ.seq ?_
  refine WJ.quiet ?_
  refine QJ.step (YldS.yld (y_assign rfl)) rfl ?_
  refine QJ.done ?_
  refine PJ.next ?_
  obtain ⟨k2, hk3, hm⟩ := withK_open hm
  refine WJ.join (X := Unit) (fun (_ : Unit) => k2  = some r) (fun (_ : Unit) => [(0, str plan1)]) (fun (_ : Unit) => []) ?_ ?_
  · clear hk3
    refine WJ.seq ?_
    refine WJ.quiet ?_
    refine QJ.step (YldS.yld (y_assign rfl)) rfl ?_
    refine QJ.done ?_
    refine PJ.next ?_
    refine WJ.block ?_
    refine WJ.sel (L' := (fun (x : Int) => []) 0) [] ⟨List.nodup_nil, rfl⟩ ?_
    refine WJ.sub (m' := (fun (x : Int) => [(0, str plan1), (3, .int .i64 x)]) 0) ⟨rfl, rfl, trivial⟩ ?_
    refine WJ.loop (X := Int) (fun N (x : Int) => s_l12IsPlan_l1 k2 plan1 N x = some r) (fun (x : Int) => [(0, str plan1), (3, .int .i64 x)]) (fun (x : Int) => []) ?_ N 0 hm
    · rintro N i4 hI
      have hm := hI; clear hI
      cases N with
      | zero => cases hm
      | succ N =>
      unfold s_l12IsPlan_l1 at hm
      refine WJ.seq ?_
      refine WJ.seq ?_
      refine WJ.quiet ?_
      refine QJ.step (YldS.yld (y_move rfl)) rfl ?_
      refine QJ.step (YldS.yld (y_move rfl)) rfl ?_
      refine QJ.step (YldS.yld (y_lenStr Try.runUnderlying9 rfl)) rfl ?_
      refine QJ.step (YldS.yld (y_bin rfl rfl rfl)) rfl ?_
      refine QJ.done ?_
      refine PJ.next ?_
      refine WJ.cond (t := decide (i4 < (List.length plan1 : Int))) rfl (fun hb5 => ?_) (fun hb5 => ?_)
      · replace hm := ifT hm hb5
        refine WJ.skip ?_
        refine PJ.next ?_
        refine WJ.seq ?_
        refine WJ.block ?_
        refine WJ.seq ?_
        refine WJ.quiet ?_
        refine QJ.step (YldS.yld (y_move rfl)) rfl ?_
        refine QJ.step (YldS.yld (y_move rfl)) rfl ?_
        obtain ⟨c6, h7, hm⟩ := bindS hm
        refine QJ.step (YldS.yld (y_idxStr Try.runUnderlying9 rfl rfl h7)) rfl ?_
        refine QJ.step (YldS.yld (y_bin8 c6 (46 : UInt8) rfl rfl rfl)) rfl ?_
        refine QJ.step (YldS.yld (y_move rfl)) rfl ?_
        obtain ⟨t8, h9, hm⟩ := bindS hm
        refine QJ.cut 5 [(0, str plan1), (3, .int .i64 i4), (19, .bool t8)] ?_ ?_
        · rcases Bool.eq_false_or_eq_true (c6 != (46 : UInt8)) with hb10 | hb10
          · replace h9 := andT h9 hb10
            refine QJ.on rfl rfl (cB hb10) (YldS.yld (y_move rfl)) rfl ?_
            refine QJ.on rfl rfl (cB hb10) (YldS.yld (y_move rfl)) rfl ?_
            obtain ⟨c11, h12, h9⟩ := bindS h9
            refine QJ.on rfl rfl (cB hb10) (YldS.yld (y_idxStr Try.runUnderlying9 rfl rfl h12)) rfl ?_
            refine QJ.on rfl rfl (cB hb10) (YldS.yld (y_bin8 c11 (43 : UInt8) rfl rfl rfl)) rfl ?_
            refine QJ.step (YldS.yld (y_pick_t (cB hb10) rfl)) rfl ?_
            obtain rfl := Option.some.inj h9
            exact QJ.cut_end ⟨rfl, rfl, rfl, trivial⟩
          · obtain rfl := andF h9 hb10
            refine QJ.off rfl rfl (cB hb10) rfl rfl ?_
            refine QJ.off rfl rfl (cB hb10) rfl rfl ?_
            refine QJ.off rfl rfl (cB hb10) rfl rfl ?_
            refine QJ.off rfl rfl (cB hb10) rfl rfl ?_
            refine QJ.step (YldS.yld (y_pick_f (cB hb10) rfl)) rfl ?_
            exact QJ.cut_end ⟨rfl, rfl, rfl, trivial⟩
        refine QJ.step (YldS.yld (y_move rfl)) rfl ?_
        obtain ⟨t13, h14, hm⟩ := bindS hm
        refine QJ.cut 5 [(0, str plan1), (3, .int .i64 i4), (25, .bool t13)] ?_ ?_
        · rcases Bool.eq_false_or_eq_true t8 with hb15 | hb15
          · replace h14 := andT h14 hb15
            refine QJ.on rfl rfl (cB hb15) (YldS.yld (y_move rfl)) rfl ?_
            refine QJ.on rfl rfl (cB hb15) (YldS.yld (y_move rfl)) rfl ?_
            obtain ⟨c16, h17, h14⟩ := bindS h14
            refine QJ.on rfl rfl (cB hb15) (YldS.yld (y_idxStr Try.runUnderlying9 rfl rfl h17)) rfl ?_
            refine QJ.on rfl rfl (cB hb15) (YldS.yld (y_bin8 c16 (35 : UInt8) rfl rfl rfl)) rfl ?_
            refine QJ.step (YldS.yld (y_pick_t (cB hb15) rfl)) rfl ?_
            obtain rfl := Option.some.inj h14
            exact QJ.cut_end ⟨rfl, rfl, rfl, trivial⟩
          · obtain rfl := andF h14 hb15
            refine QJ.off rfl rfl (cB hb15) rfl rfl ?_
            refine QJ.off rfl rfl (cB hb15) rfl rfl ?_
            refine QJ.off rfl rfl (cB hb15) rfl rfl ?_
            refine QJ.off rfl rfl (cB hb15) rfl rfl ?_
            refine QJ.step (YldS.yld (y_pick_f (cB hb15) rfl)) rfl ?_
            exact QJ.cut_end ⟨rfl, rfl, rfl, trivial⟩
        refine QJ.done ?_
        refine PJ.next ?_
        refine WJ.cond (t := t13) rfl (fun hb18 => ?_) (fun hb18 => ?_)
        · replace hm := ifT hm hb18
          refine WJ.seq ?_
          refine WJ.quiet ?_
          refine QJ.step (YldS.yld (y_assign rfl)) rfl ?_
          refine QJ.done ?_
          refine PJ.next ?_
          refine WJ.ret ?_
          refine PJ.block_ret (PJ.then_ret (PJ.then_ret (PJ.block_ret (PJ.then_ret ?_))))
          obtain rfl := Option.some.inj hm
          refine PJ.sel (L' := []) [] ⟨List.nodup_nil, rfl⟩ ?_
          exact PJ.retn (vs := [.bool false]) Try.results57 ⟨rfl, trivial⟩ ⟨rfl, rfl⟩
        · replace hm := ifF hm hb18
          refine WJ.skip ?_
          refine PJ.block_normal (PJ.next ?_)
          refine WJ.quiet ?_
          refine QJ.step (YldS.yld (y_move rfl)) rfl ?_
          refine QJ.step (YldS.yld (y_bin rfl rfl rfl)) rfl ?_
          refine QJ.step (YldS.yld (y_assign rfl)) rfl ?_
          refine QJ.done ?_
          exact PJ.round (w64 (i4 + 1)) [] hm ⟨rfl, rfl, trivial⟩ ⟨List.nodup_nil, rfl⟩
      · replace hm := ifF hm hb5
        refine WJ.exit ?_
        refine PJ.then_exit (PJ.then_exit (PJ.block_exit ?_))
        exact PJ.joined () [] hm ⟨rfl, trivial⟩ ⟨List.nodup_nil, rfl⟩
  · rintro _ hm
    subst hk3
    refine WJ.seq ?_
    refine WJ.quiet ?_
    refine QJ.step (YldS.yld (y_move rfl)) rfl ?_
    refine QJ.step (YldS.yld (y_lenStr Try.runUnderlying9 rfl)) rfl ?_
    refine QJ.step (YldS.yld (y_bin rfl rfl rfl)) rfl ?_
    refine QJ.step (YldS.yld (y_assign rfl)) rfl ?_
    refine QJ.done ?_
    refine PJ.next ?_
    refine WJ.ret ?_
    obtain rfl := Option.some.inj hm
    refine PJ.sel (L' := []) [] ⟨List.nodup_nil, rfl⟩ ?_
    exact PJ.retn (vs := [.bool (decide ((List.length plan1 : Int) ≤ 60))]) Try.results57 ⟨rfl, trivial⟩ ⟨rfl, rfl⟩

set_option maxRecDepth 100000 in
set_option maxHeartbeats 1000000 in
theorem ok_s_WornPlaces {N : Nat} {plans1 : List Str} {r : (List Int) × Int} (hm : s_WornPlaces N plans1 = some r) (w : World) (v2 : Value) (hr3 : RdS w (cx w).Fz v2 fStr.rp plans1) :
    Calls Try.prog 17 #[v2] w (RetG (cx w) fun u L => ∃ (u1 : Value), (u = tup [u1, .int .i64 r.2] ∧ L = [row u1 2 fI64 r.1])) := by
  unfold s_WornPlaces at hm
  refine Calls.enter [v2] Try.func17 rfl Try.ntmps17 rfl ?_
  refine WJ.seq ?_
  refine WJ.quiet ?_
  refine QJ.step (YldS.yld (y_assign rfl)) rfl ?_
  refine QJ.step (YldS.yld (y_assign rfl)) rfl ?_
  refine QJ.done ?_
  refine PJ.next ?_
  obtain ⟨k4, hk5, hm⟩ := withK_open hm
  refine WJ.join (X := Unit) (fun (_ : Unit) => k4  = some r) (fun (_ : Unit) => [(0, v2)]) (fun (_ : Unit) => []) ?_ ?_
  · clear hk5
    refine WJ.seq ?_
    refine WJ.quiet ?_
    refine QJ.step (YldS.yld (y_assign rfl)) rfl ?_
    refine QJ.done ?_
    refine PJ.next ?_
    refine WJ.block ?_
    refine WJ.sel (L' := (fun (x : Int) => []) 0) [] ⟨List.nodup_nil, rfl⟩ ?_
    refine WJ.sub (m' := (fun (x : Int) => [(0, v2), (4, .int .i64 x)]) 0) ⟨rfl, rfl, trivial⟩ ?_
    refine WJ.loop (X := Int) (fun N (x : Int) => s_WornPlaces_l1 k4 plans1 N x = some r) (fun (x : Int) => [(0, v2), (4, .int .i64 x)]) (fun (x : Int) => []) ?_ N 0 hm
    · rintro N i6 hI
      have hm := hI; clear hI
      cases N with
      | zero => cases hm
      | succ N =>
      unfold s_WornPlaces_l1 at hm
      refine WJ.seq ?_
      refine WJ.seq ?_
      refine WJ.quiet ?_
      refine QJ.step (YldS.yld (y_move rfl)) rfl ?_
      refine QJ.step (YldS.yld (y_move rfl)) rfl ?_
      refine QJ.step (YldS.yld (y_lenS Try.runUnderlying38 hr3 rfl)) rfl ?_
      refine QJ.step (YldS.yld (y_bin rfl rfl rfl)) rfl ?_
      refine QJ.done ?_
      refine PJ.next ?_
      refine WJ.cond (t := decide (i6 < (List.length plans1 : Int))) rfl (fun hb7 => ?_) (fun hb7 => ?_)
      · replace hm := ifT hm hb7
        refine WJ.skip ?_
        refine PJ.next ?_
        refine WJ.seq ?_
        refine WJ.block ?_
        refine WJ.seq ?_
        refine WJ.quiet ?_
        refine QJ.step (YldS.yld (y_move rfl)) rfl ?_
        refine QJ.step (YldS.yld (y_move rfl)) rfl ?_
        obtain ⟨e8, h9, hm⟩ := bindS hm
        obtain ⟨ad10, _, rfl, ha11, hy12⟩ := hr3.elem h9
        refine QJ.step (YldS.yld (hy12 Try.runUnderlying38 Try.sizeOf9 rfl rfl)) rfl ?_
        refine QJ.step (YldS.yld (y_load1 (v := str e8) Try.isAgg9 ha11 St.frozenC rfl)) rfl ?_
        obtain ⟨r13, h14, hm⟩ := bindS hm
        refine QJ.step (y_call Try.call57 rfl (RetG.quiet fun w hw => ok_s_l12IsPlan h14 w )) rfl ?_
        refine QJ.step (YldS.yld (y_not rfl)) rfl ?_
        refine QJ.done ?_
        refine PJ.next ?_
        refine WJ.cond (t := !r13) rfl (fun hb15 => ?_) (fun hb15 => ?_)
        · replace hm := ifT hm hb15
          refine WJ.seq ?_
          refine WJ.quiet ?_
          refine QJ.step (YldS.yld (y_assign rfl)) rfl ?_
          refine QJ.step (YldS.yld (y_assign rfl)) rfl ?_
          refine QJ.done ?_
          refine PJ.next ?_
          refine WJ.ret ?_
          refine PJ.block_ret (PJ.then_ret (PJ.then_ret (PJ.block_ret (PJ.then_ret ?_))))
          refine PJ.nil_row 2 fI64 ?_
          obtain rfl := Option.some.inj hm
          refine PJ.sel (L' := [row (.slice none 0 0) 2 fI64 []]) [0] ⟨by decide, rfl⟩ ?_
          exact PJ.retn (vs := [(.slice none 0 0), .int .i64 7]) Try.results17 ⟨rfl, rfl, trivial⟩ ⟨_, rfl, rfl⟩
        · replace hm := ifF hm hb15
          refine WJ.skip ?_
          refine PJ.block_normal (PJ.next ?_)
          refine WJ.quiet ?_
          refine QJ.step (YldS.yld (y_move rfl)) rfl ?_
          refine QJ.step (YldS.yld (y_bin rfl rfl rfl)) rfl ?_
          refine QJ.step (YldS.yld (y_assign rfl)) rfl ?_
          refine QJ.done ?_
          exact PJ.round (w64 (i6 + 1)) [] hm ⟨rfl, rfl, trivial⟩ ⟨List.nodup_nil, rfl⟩
      · replace hm := ifF hm hb7
        refine WJ.exit ?_
        refine PJ.then_exit (PJ.then_exit (PJ.block_exit ?_))
        exact PJ.joined () [] hm ⟨rfl, trivial⟩ ⟨List.nodup_nil, rfl⟩
  · rintro _ hm
    subst hk5
    refine WJ.seq ?_
    refine WJ.seq ?_
    refine WJ.quiet ?_
    refine QJ.step (YldS.yld (y_move rfl)) rfl ?_
    refine QJ.step (YldS.yld (y_lenS Try.runUnderlying38 hr3 rfl)) rfl ?_
    refine QJ.step (YldS.yld (y_bin rfl rfl rfl)) rfl ?_
    refine QJ.done ?_
    refine PJ.next ?_
    refine WJ.cond (t := decide ((List.length plans1 : Int) > 20)) rfl (fun hb16 => ?_) (fun hb16 => ?_)
    · replace hm := ifT hm hb16
      refine WJ.seq ?_
      refine WJ.quiet ?_
      refine QJ.step (YldS.yld (y_assign rfl)) rfl ?_
      refine QJ.step (YldS.yld (y_assign rfl)) rfl ?_
      refine QJ.done ?_
      refine PJ.next ?_
      refine WJ.ret ?_
      refine PJ.then_ret ?_
      refine PJ.nil_row 2 fI64 ?_
      obtain rfl := Option.some.inj hm
      refine PJ.sel (L' := [row (.slice none 0 0) 2 fI64 []]) [0] ⟨by decide, rfl⟩ ?_
      exact PJ.retn (vs := [(.slice none 0 0), .int .i64 2]) Try.results17 ⟨rfl, rfl, trivial⟩ ⟨_, rfl, rfl⟩
    · replace hm := ifF hm hb16
      refine WJ.skip ?_
      refine PJ.next ?_
      refine WJ.seq ?_
      refine WJ.reg ?_
      refine SJ.buildSlice (R := fI64) (os := []) [] Try.runUnderlying31 Try.sizeOf2 Try.zeroValue2 rfl rfl rfl rfl rfl rfl fun v17 => ?_
      refine SJ.q (YldS.yld (y_assign rfl)) rfl ?_
      refine SJ.nil ?_
      refine PJ.next ?_
      obtain ⟨k20, hk21, hm⟩ := withK_open hm
      refine WJ.join (X := (List Int) × Value) (fun (x : (List Int) × Value) => k20 x.1 = some r) (fun (x : (List Int) × Value) => [(5, x.2)]) (fun (x : (List Int) × Value) => [row x.2 2 fI64 x.1]) ?_ ?_
      · clear hk21
        refine WJ.seq ?_
        refine WJ.quiet ?_
        refine QJ.step (YldS.yld (y_assign rfl)) rfl ?_
        refine QJ.done ?_
        refine PJ.next ?_
        refine WJ.block ?_
        refine WJ.sel (L' := (fun (x : (List Int) × Value × Int) => [row x.2.1 2 fI64 x.1]) ([], v17, 0)) [0] ⟨by decide, rfl⟩ ?_
        refine WJ.sub (m' := (fun (x : (List Int) × Value × Int) => [(0, v2), (5, x.2.1), (6, .int .i64 x.2.2)]) ([], v17, 0)) ⟨rfl, rfl, rfl, trivial⟩ ?_
        refine WJ.loop (X := (List Int) × Value × Int) (fun N (x : (List Int) × Value × Int) => s_WornPlaces_l2 k20 plans1 N x.1 x.2.2 = some r) (fun (x : (List Int) × Value × Int) => [(0, v2), (5, x.2.1), (6, .int .i64 x.2.2)]) (fun (x : (List Int) × Value × Int) => [row x.2.1 2 fI64 x.1]) ?_ N ([], v17, 0) hm
        · rintro N ⟨l22, v23, at24⟩ hI
          have hm := hI; clear hI
          cases N with
          | zero => cases hm
          | succ N =>
          unfold s_WornPlaces_l2 at hm
          refine WJ.seq ?_
          refine WJ.seq ?_
          refine WJ.quiet ?_
          refine QJ.step (YldS.yld (y_move rfl)) rfl ?_
          refine QJ.step (YldS.yld (y_bin rfl rfl rfl)) rfl ?_
          refine QJ.done ?_
          refine PJ.next ?_
          refine WJ.cond (t := decide (at24 < 60)) rfl (fun hb25 => ?_) (fun hb25 => ?_)
          · replace hm := ifT hm hb25
            refine WJ.skip ?_
            refine PJ.next ?_
            obtain ⟨k29, hk29, hm⟩ := withK_open hm
            refine WJ.join (X := (List Int) × Value) (fun (x : (List Int) × Value) => k29 x.1 = some r) (fun (x : (List Int) × Value) => [(0, v2), (5, x.2), (6, .int .i64 at24)]) (fun (x : (List Int) × Value) => [row x.2 2 fI64 x.1]) ?_ ?_
            · clear hk29
              refine WJ.block ?_
              refine WJ.seq ?_
              refine WJ.quiet ?_
              refine QJ.step (YldS.yld (y_assign rfl)) rfl ?_
              refine QJ.done ?_
              refine PJ.next ?_
              obtain ⟨k33, hk32, hm⟩ := withK_open hm
              refine WJ.join (X := Int) (fun (x : Int) => k33 x = some r) (fun (x : Int) => [(0, v2), (5, v23), (6, .int .i64 at24), (7, .int .i64 x)]) (fun (x : Int) => [row v23 2 fI64 l22]) ?_ ?_
              · clear hk32
                refine WJ.seq ?_
                refine WJ.quiet ?_
                refine QJ.step (YldS.yld (y_assign rfl)) rfl ?_
                refine QJ.done ?_
                refine PJ.next ?_
                refine WJ.block ?_
                refine WJ.sel (L' := (fun (x : Int × Int) => [row v23 2 fI64 l22]) (0, 0)) [0] ⟨by decide, rfl⟩ ?_
                refine WJ.sub (m' := (fun (x : Int × Int) => [(0, v2), (5, v23), (6, .int .i64 at24), (7, .int .i64 x.1), (8, .int .i64 x.2)]) (0, 0)) ⟨rfl, rfl, rfl, rfl, rfl, trivial⟩ ?_
                refine WJ.loop (X := Int × Int) (fun N (x : Int × Int) => s_WornPlaces_l3 k33 plans1 at24 N x.1 x.2 = some r) (fun (x : Int × Int) => [(0, v2), (5, v23), (6, .int .i64 at24), (7, .int .i64 x.1), (8, .int .i64 x.2)]) (fun (x : Int × Int) => [row v23 2 fI64 l22]) ?_ N (0, 0) hm
                · rintro N ⟨n33, i34⟩ hI
                  have hm := hI; clear hI
                  cases N with
                  | zero => cases hm
                  | succ N =>
                  unfold s_WornPlaces_l3 at hm
                  refine WJ.seq ?_
                  refine WJ.seq ?_
                  refine WJ.quiet ?_
                  refine QJ.step (YldS.yld (y_move rfl)) rfl ?_
                  refine QJ.step (YldS.yld (y_move rfl)) rfl ?_
                  refine QJ.step (YldS.yld (y_lenS Try.runUnderlying38 hr3 rfl)) rfl ?_
                  refine QJ.step (YldS.yld (y_bin rfl rfl rfl)) rfl ?_
                  refine QJ.done ?_
                  refine PJ.next ?_
                  refine WJ.cond (t := decide (i34 < (List.length plans1 : Int))) rfl (fun hb35 => ?_) (fun hb35 => ?_)
                  · replace hm := ifT hm hb35
                    refine WJ.skip ?_
                    refine PJ.next ?_
                    obtain ⟨k40, hk38, hm⟩ := withK_open hm
                    refine WJ.join (X := Int) (fun (x : Int) => k40 x = some r) (fun (x : Int) => [(0, v2), (5, v23), (6, .int .i64 at24), (7, .int .i64 x), (8, .int .i64 i34)]) (fun (x : Int) => [row v23 2 fI64 l22]) ?_ ?_
                    · clear hk38
                      refine WJ.block ?_
                      refine WJ.seq ?_
                      refine WJ.quiet ?_
                      refine QJ.step (YldS.yld (y_move rfl)) rfl ?_
                      refine QJ.step (YldS.yld (y_move rfl)) rfl ?_
                      refine QJ.step (YldS.yld (y_move rfl)) rfl ?_
                      obtain ⟨e39, h40, hm⟩ := bindS hm
                      obtain ⟨ad41, _, rfl, ha42, hy43⟩ := hr3.elem h40
                      refine QJ.step (YldS.yld (hy43 Try.runUnderlying38 Try.sizeOf9 rfl rfl)) rfl ?_
                      refine QJ.step (YldS.yld (y_load1 (v := str e39) Try.isAgg9 ha42 St.frozenC rfl)) rfl ?_
                      refine QJ.step (YldS.yld (y_lenStr Try.runUnderlying9 rfl)) rfl ?_
                      refine QJ.step (YldS.yld (y_bin rfl rfl rfl)) rfl ?_
                      refine QJ.step (YldS.yld (y_move rfl)) rfl ?_
                      obtain ⟨t44, h45, hm⟩ := bindS hm
                      refine QJ.cut 8 [(0, v2), (5, v23), (6, .int .i64 at24), (7, .int .i64 n33), (8, .int .i64 i34), (50, .bool t44)] ?_ ?_
                      · rcases Bool.eq_false_or_eq_true (decide (at24 < (List.length e39 : Int))) with hb46 | hb46
                        · replace h45 := andT h45 hb46
                          refine QJ.on rfl rfl (cB hb46) (YldS.yld (y_move rfl)) rfl ?_
                          refine QJ.on rfl rfl (cB hb46) (YldS.yld (y_move rfl)) rfl ?_
                          obtain ⟨e47, h48, h45⟩ := bindS h45
                          obtain ⟨ad49, _, rfl, ha50, hy51⟩ := hr3.elem h48
                          refine QJ.on rfl rfl (cB hb46) (YldS.yld (hy51 Try.runUnderlying38 Try.sizeOf9 rfl rfl)) rfl ?_
                          refine QJ.on rfl rfl (cB hb46) (YldS.yld (y_load1 (v := str e47) Try.isAgg9 ha50 St.frozenC rfl)) rfl ?_
                          refine QJ.on rfl rfl (cB hb46) (YldS.yld (y_move rfl)) rfl ?_
                          obtain ⟨c52, h53, h45⟩ := bindS h45
                          refine QJ.on rfl rfl (cB hb46) (YldS.yld (y_idxStr Try.runUnderlying9 rfl rfl h53)) rfl ?_
                          refine QJ.on rfl rfl (cB hb46) (YldS.yld (y_bin8 c52 (35 : UInt8) rfl rfl rfl)) rfl ?_
                          refine QJ.step (YldS.yld (y_pick_t (cB hb46) rfl)) rfl ?_
                          obtain rfl := Option.some.inj h45
                          exact QJ.cut_end ⟨rfl, rfl, rfl, rfl, rfl, rfl, trivial⟩
                        · obtain rfl := andF h45 hb46
                          refine QJ.off rfl rfl (cB hb46) rfl rfl ?_
                          refine QJ.off rfl rfl (cB hb46) rfl rfl ?_
                          refine QJ.off rfl rfl (cB hb46) rfl rfl ?_
                          refine QJ.off rfl rfl (cB hb46) rfl rfl ?_
                          refine QJ.off rfl rfl (cB hb46) rfl rfl ?_
                          refine QJ.off rfl rfl (cB hb46) rfl rfl ?_
                          refine QJ.off rfl rfl (cB hb46) rfl rfl ?_
                          refine QJ.step (YldS.yld (y_pick_f (cB hb46) rfl)) rfl ?_
                          exact QJ.cut_end ⟨rfl, rfl, rfl, rfl, rfl, rfl, trivial⟩
                      refine QJ.done ?_
                      refine PJ.next ?_
                      refine WJ.cond (t := t44) rfl (fun hb54 => ?_) (fun hb54 => ?_)
                      · replace hm := ifT hm hb54
                        refine WJ.quiet ?_
                        refine QJ.step (YldS.yld (y_move rfl)) rfl ?_
                        refine QJ.step (YldS.yld (y_bin rfl rfl rfl)) rfl ?_
                        refine QJ.step (YldS.yld (y_assign rfl)) rfl ?_
                        refine QJ.done ?_
                        refine PJ.block_normal ?_
                        exact PJ.joined (w64 (n33 + 1)) [0] hm ⟨rfl, rfl, rfl, rfl, rfl, trivial⟩ ⟨by decide, rfl⟩
                      · replace hm := ifF hm hb54
                        refine WJ.skip ?_
                        refine PJ.block_normal ?_
                        exact PJ.joined n33 [0] hm ⟨rfl, rfl, rfl, rfl, rfl, trivial⟩ ⟨by decide, rfl⟩
                    · rintro n36 hm
                      subst hk38
                      refine WJ.quiet ?_
                      refine QJ.step (YldS.yld (y_move rfl)) rfl ?_
                      refine QJ.step (YldS.yld (y_bin rfl rfl rfl)) rfl ?_
                      refine QJ.step (YldS.yld (y_assign rfl)) rfl ?_
                      refine QJ.done ?_
                      exact PJ.round (n36, w64 (i34 + 1)) [0] hm ⟨rfl, rfl, rfl, rfl, rfl, trivial⟩ ⟨by decide, rfl⟩
                  · replace hm := ifF hm hb35
                    refine WJ.exit ?_
                    refine PJ.then_exit (PJ.then_exit (PJ.block_exit ?_))
                    exact PJ.joined n33 [0] hm ⟨rfl, rfl, rfl, rfl, trivial⟩ ⟨by decide, rfl⟩
              · rintro n30 hm
                subst hk32
                refine WJ.seq ?_
                refine WJ.quiet ?_
                refine QJ.step (YldS.yld (y_move rfl)) rfl ?_
                refine QJ.step (YldS.yld (y_bin rfl rfl rfl)) rfl ?_
                refine QJ.done ?_
                refine PJ.next ?_
                refine WJ.cond (t := decide (n30 > 3)) rfl (fun hb55 => ?_) (fun hb55 => ?_)
                · replace hm := ifT hm hb55
                  refine WJ.reg ?_
                  refine SJ.q (YldS.yld (y_move rfl)) rfl ?_
                  refine SJ.q (YldS.yld (y_move rfl)) rfl ?_
                  refine SJ.buildSlice (R := fI64) (os := [.tmp 56]) [at24] Try.runUnderlying31 Try.sizeOf2 Try.zeroValue2 rfl rfl rfl rfl rfl rfl fun v56 => ?_
                  obtain ⟨l57, h58, hm⟩ := bindS hm
                  refine SJ.append (k := 1) (R := fI64) h58 rfl Try.underlying31 el2 rfl rfl rfl (fun w hw => (hw.row_rd (k := 0) rfl)) rfl fun v59 => ?_
                  refine SJ.q (YldS.yld (y_assign rfl)) rfl ?_
                  refine SJ.nil ?_
                  refine PJ.block_normal ?_
                  exact PJ.joined (l57, v59) [1] hm ⟨rfl, rfl, rfl, trivial⟩ ⟨by decide, rfl⟩
                · replace hm := ifF hm hb55
                  refine WJ.skip ?_
                  refine PJ.block_normal ?_
                  exact PJ.joined (l22, v23) [0] hm ⟨rfl, rfl, rfl, trivial⟩ ⟨by decide, rfl⟩
            · rintro ⟨l26, v27⟩ hm
              subst hk29
              refine WJ.quiet ?_
              refine QJ.step (YldS.yld (y_move rfl)) rfl ?_
              refine QJ.step (YldS.yld (y_bin rfl rfl rfl)) rfl ?_
              refine QJ.step (YldS.yld (y_assign rfl)) rfl ?_
              refine QJ.done ?_
              exact PJ.round (l26, v27, w64 (at24 + 1)) [0] hm ⟨rfl, rfl, rfl, trivial⟩ ⟨by decide, rfl⟩
          · replace hm := ifF hm hb25
            refine WJ.exit ?_
            refine PJ.then_exit (PJ.then_exit (PJ.block_exit ?_))
            exact PJ.joined (l22, v23) [0] hm ⟨rfl, trivial⟩ ⟨by decide, rfl⟩
      · rintro ⟨l18, v19⟩ hm
        subst hk21
        refine WJ.seq ?_
        refine WJ.quiet ?_
        refine QJ.step (YldS.yld (y_move rfl)) rfl ?_
        refine QJ.step (YldS.yld (y_assign rfl)) rfl ?_
        refine QJ.step (YldS.yld (y_assign rfl)) rfl ?_
        refine QJ.done ?_
        refine PJ.next ?_
        refine WJ.ret ?_
        obtain rfl := Option.some.inj hm
        refine PJ.sel (L' := [row v19 2 fI64 l18]) [0] ⟨by decide, rfl⟩ ?_
        exact PJ.retn (vs := [v19, .int .i64 0]) Try.results17 ⟨rfl, rfl, trivial⟩ ⟨_, rfl, rfl⟩

set_option maxRecDepth 100000 in
set_option maxHeartbeats 1000000 in
theorem ok_s_DrawOverText {code1 : List UInt8} {r : Over} (hm : s_DrawOverText code1 = some r) (w : World) (v2 : Value) (hr3 : RdS w (cx w).Fz v2 fByte.rp code1) :
    Calls Try.prog 18 #[v2] w (Ret (cx w) (.agg (Over.enc r).toArray)) := by
  unfold s_DrawOverText at hm
  refine Calls.enter [v2] Try.func18 rfl Try.ntmps18 rfl ?_
  refine WJ.seq ?_
  refine WJ.reg ?_
  refine SJ.alloc (cs := [str [], str [], str []]) Try.zeroValue42 rfl rfl fun g4 => ?_
  refine SJ.nil ?_
  refine PJ.next ?_
  refine WJ.seq ?_
  refine WJ.reg ?_
  refine SJ.q (YldS.yld (y_move rfl)) rfl ?_
  obtain ⟨r5, h6, hm⟩ := bindS hm
  refine SJ.call Try.call35 rfl (fun w hw => ok_s_l00From h6 w _ (hr3.st hw)) rfl ?_
  rintro _ _ ⟨g7, rfl, rfl⟩
  refine SJ.q (YldS.yld (y_assign rfl)) rfl ?_
  refine SJ.nil ?_
  refine PJ.next ?_
  refine WJ.seq ?_
  refine WJ.reg ?_
  refine SJ.q (YldS.yld (y_move rfl)) rfl ?_
  refine SJ.buildSlice (R := fStr) (os := [.const (str [99]), .const (str [111]), .const (str [32]), .const (str [])]) [[99], [111], [32], []] Try.runUnderlying38 Try.sizeOf9 Try.zeroValue9 rfl rfl rfl rfl rfl rfl fun v8 => ?_
  obtain ⟨r9, h10, hm⟩ := bindS hm
  refine SJ.call2 (k := 1) rfl Try.call37 rfl (fun w S hw hA hO hB => ok_s_l00Src_text h10 w S _ (hr3.st1 hw hO) _ (hB.row_rd (j := 0) (k := 1) rfl rfl) hA) rfl ?_
  rintro _ _ ⟨rfl, rfl⟩
  refine SJ.q (YldS.yld (y_build (parts := [(0, .tmp 9)]) (places := [(0, 1), (1, 1), (2, 1)]) (r := [str ((Over.mk r9.1 [] []).under), str ((Over.mk r9.1 [] []).top), str ((Over.mk r9.1 [] []).seen)]) pl42 Try.zeroValue42 rfl rfl rfl rfl)) rfl ?_
  refine SJ.alloc (cs := [str [], str [], str []]) Try.zeroValue42 rfl rfl fun g11 => ?_
  refine SJ.storeL (k := 0) (off := 0) (us := [str ((Over.mk r9.1 [] []).under), str ((Over.mk r9.1 [] []).top), str ((Over.mk r9.1 [] []).seen)]) rfl rfl rfl rfl Try.sizeOf42 rfl rfl ?_
  refine SJ.nil ?_
  refine PJ.next ?_
  refine WJ.seq ?_
  refine WJ.reg ?_
  refine SJ.q (YldS.yld (y_move rfl)) rfl ?_
  refine SJ.buildSlice (R := fStr) (os := [.const (str [47]), .const (str [45]), .const (str [45, 45])]) [[47], [45], [45, 45]] Try.runUnderlying38 Try.sizeOf9 Try.zeroValue9 rfl rfl rfl rfl rfl rfl fun v12 => ?_
  obtain ⟨r13, h14, hm⟩ := bindS hm
  refine SJ.call2 (k := 2) rfl Try.call37 rfl (fun w S hw hA hO hB => ok_s_l00Src_text h14 w S _ (hr3.st1 hw hO) _ (hB.row_rd (j := 0) (k := 2) rfl rfl) hA) rfl ?_
  rintro _ _ ⟨rfl, rfl⟩
  refine SJ.q (YldS.yld (y_fldB (o := 0) fld42_1 rfl)) rfl ?_
  refine SJ.storeL (k := 2) (off := 1) (us := [str r13.1]) rfl rfl rfl rfl Try.sizeOf9 rfl rfl ?_
  refine SJ.nil ?_
  refine PJ.next ?_
  refine WJ.seq ?_
  refine WJ.reg ?_
  refine SJ.q (YldS.yld (y_move rfl)) rfl ?_
  refine SJ.buildSlice (R := fStr) (os := [.const (str [48]), .const (str [99]), .const (str [47])]) [[48], [99], [47]] Try.runUnderlying38 Try.sizeOf9 Try.zeroValue9 rfl rfl rfl rfl rfl rfl fun v15 => ?_
  obtain ⟨r16, h17, hm⟩ := bindS hm
  refine SJ.call2 (k := 1) rfl Try.call37 rfl (fun w S hw hA hO hB => ok_s_l00Src_text h17 w S _ (hr3.st1 hw hO) _ (hB.row_rd (j := 0) (k := 1) rfl rfl) hA) rfl ?_
  rintro _ _ ⟨rfl, rfl⟩
  refine SJ.q (YldS.yld (y_fldB (o := 0) fld42_2 rfl)) rfl ?_
  refine SJ.storeL (k := 3) (off := 2) (us := [str r16.1]) rfl rfl rfl rfl Try.sizeOf9 rfl rfl ?_
  refine SJ.nil ?_
  refine PJ.next ?_
  refine WJ.seq ?_
  refine WJ.reg ?_
  refine SJ.q (YldS.yld (y_loadBN (k := 3) (off := 0) (us := [str ((Over.mk r9.1 [] []).under), str r13.1, str r16.1]) rfl Try.isAgg42 Try.sizeOf42 rfl rfl)) rfl ?_
  refine SJ.storeL (k := 5) (off := 0) (us := [str ((Over.mk r9.1 [] []).under), str r13.1, str r16.1]) rfl rfl rfl rfl Try.sizeOf42 rfl rfl ?_
  refine SJ.nil ?_
  refine PJ.next ?_
  refine WJ.ret ?_
  obtain rfl := Option.some.inj hm
  exact PJ.retn_sel (vs := [.agg #[str ((Over.mk r9.1 [] []).under), str r13.1, str r16.1]]) Try.results18 ⟨⟨5, g4, 42, [str ((Over.mk r9.1 [] []).under), str r13.1, str r16.1], rfl, rfl, .inl ⟨Try.isAgg42, Try.sizeOf42, rfl⟩⟩, trivial⟩ [] ⟨List.nodup_nil, rfl⟩ ⟨rfl, rfl⟩

set_option maxRecDepth 100000 in
set_option maxHeartbeats 1000000 in
theorem ok_i_OverText {N : Nat} {x1 : Over} {r : Str} (hm : i_OverText N x1 = some r) (w : World)  :
    Calls Try.prog 19 #[.agg (Over.enc x1).toArray] w (Ret (cx w) (str r)) := by
  unfold i_OverText at hm
  refine Calls.enter [.agg (Over.enc x1).toArray] Try.func19 rfl Try.ntmps19 rfl ?_
  refine WJ.seq ?_
  refine WJ.reg ?_
  refine SJ.box (cs := [str x1.under, str x1.top, str x1.seen]) rfl rfl rfl fun g2 => ?_
  refine SJ.q (YldS.yld (y_assign rfl)) rfl ?_
  refine SJ.nil ?_
  refine PJ.next ?_
  refine WJ.seq ?_
  refine WJ.seq ?_
  refine WJ.quiet ?_
  refine QJ.step (YldS.yld (y_loadBN (k := 0) (off := 0) (us := [str x1.under, str x1.top, str x1.seen]) rfl Try.isAgg42 Try.sizeOf42 rfl rfl)) rfl ?_
  obtain ⟨r3, h4, hm⟩ := bindS hm
  refine QJ.step (y_call Try.call58 rfl (RetG.quiet fun w hw => ok_i_validOver h4 w )) rfl ?_
  refine QJ.step (YldS.yld (y_not rfl)) rfl ?_
  refine QJ.done ?_
  refine PJ.next ?_
  refine WJ.cond (t := !r3) rfl (fun hb5 => ?_) (fun hb5 => ?_)
  · replace hm := ifT hm hb5
    refine WJ.seq ?_
    refine WJ.quiet ?_
    refine QJ.step (YldS.yld (y_assign rfl)) rfl ?_
    refine QJ.done ?_
    refine PJ.next ?_
    refine WJ.ret ?_
    refine PJ.then_ret ?_
    obtain rfl := Option.some.inj hm
    refine PJ.sel (L' := []) [] ⟨List.nodup_nil, rfl⟩ ?_
    exact PJ.retn (vs := [str []]) Try.results19 ⟨rfl, trivial⟩ ⟨rfl, rfl⟩
  · replace hm := ifF hm hb5
    refine WJ.skip ?_
    refine PJ.next ?_
    refine WJ.seq ?_
    refine WJ.quiet ?_
    refine QJ.step (YldS.yld (y_fldB (o := 0) fld42_0 rfl)) rfl ?_
    refine QJ.step (YldS.yld (y_loadB (k := 0) (off := 0) (v := str x1.under) rfl Try.isAgg9 rfl rfl)) rfl ?_
    obtain ⟨s6, h7, hm⟩ := bindS hm
    refine QJ.step (YldS.yld (y_cat h7 rfl rfl)) rfl ?_
    refine QJ.step (YldS.yld (y_fldB (o := 0) fld42_1 rfl)) rfl ?_
    refine QJ.step (YldS.yld (y_loadB (k := 0) (off := 1) (v := str x1.top) rfl Try.isAgg9 rfl rfl)) rfl ?_
    obtain ⟨s8, h9, hm⟩ := bindS hm
    refine QJ.step (YldS.yld (y_cat h9 rfl rfl)) rfl ?_
    obtain ⟨s10, h11, hm⟩ := bindS hm
    refine QJ.step (YldS.yld (y_cat h11 rfl rfl)) rfl ?_
    refine QJ.step (YldS.yld (y_fldB (o := 0) fld42_2 rfl)) rfl ?_
    refine QJ.step (YldS.yld (y_loadB (k := 0) (off := 2) (v := str x1.seen) rfl Try.isAgg9 rfl rfl)) rfl ?_
    obtain ⟨s12, h13, hm⟩ := bindS hm
    refine QJ.step (YldS.yld (y_cat h13 rfl rfl)) rfl ?_
    refine QJ.step (YldS.yld (y_assign rfl)) rfl ?_
    refine QJ.done ?_
    refine PJ.next ?_
    refine WJ.ret ?_
    obtain rfl := Option.some.inj hm
    refine PJ.sel (L' := []) [] ⟨List.nodup_nil, rfl⟩ ?_
    exact PJ.retn (vs := [str s12]) Try.results19 ⟨rfl, trivial⟩ ⟨rfl, rfl⟩

set_option maxRecDepth 100000 in
set_option maxHeartbeats 1000000 in
theorem ok_i_ReadOver {N : Nat} {s1 : Str} {r : Over × Bool} (hm : i_ReadOver N s1 = some r) (w : World)  :
    Calls Try.prog 20 #[str s1] w (Ret (cx w) (tup [.agg (Over.enc r.1).toArray, .bool r.2])) := by
  unfold i_ReadOver at hm
  refine Calls.enter [str s1] Try.func20 rfl Try.ntmps20 rfl ?_
  refine WJ.seq ?_
  refine WJ.reg ?_
  refine SJ.alloc (cs := [str [], str [], str []]) Try.zeroValue42 rfl rfl fun g2 => ?_
  refine SJ.q (YldS.yld (y_assign rfl)) rfl ?_
  refine SJ.nil ?_
  refine PJ.next ?_
  refine WJ.seq ?_
  refine WJ.seq ?_
  refine WJ.quiet ?_
  refine QJ.step (YldS.yld (y_move rfl)) rfl ?_
  refine QJ.step (YldS.yld (y_lenStr Try.runUnderlying9 rfl)) rfl ?_
  refine QJ.step (YldS.yld (y_bin rfl rfl rfl)) rfl ?_
  refine QJ.step (YldS.yld (y_move rfl)) rfl ?_
  obtain ⟨t3, h4, hm⟩ := bindS hm
  refine QJ.cut 4 [(0, str s1), (2, pt g2 0), (12, .bool t3)] ?_ ?_
  · rcases Bool.eq_false_or_eq_true ((List.length s1 : Int) != 5) with hb5 | hb5
    · obtain rfl := orT h4 hb5
      refine QJ.off rfl rfl (cB hb5) rfl rfl ?_
      refine QJ.off rfl rfl (cB hb5) rfl rfl ?_
      refine QJ.off rfl rfl (cB hb5) rfl rfl ?_
      refine QJ.step (YldS.yld (y_pick_t (cB hb5) rfl)) rfl ?_
      exact QJ.cut_end ⟨rfl, rfl, rfl, trivial⟩
    · replace h4 := orF h4 hb5
      refine QJ.on rfl rfl (cB hb5) (YldS.yld (y_move rfl)) rfl ?_
      obtain ⟨c6, h7, h4⟩ := bindS h4
      refine QJ.on rfl rfl (cB hb5) (YldS.yld (y_idxStr Try.runUnderlying9 rfl rfl h7)) rfl ?_
      refine QJ.on rfl rfl (cB hb5) (YldS.yld (y_bin8 c6 (60 : UInt8) rfl rfl rfl)) rfl ?_
      refine QJ.step (YldS.yld (y_pick_f (cB hb5) rfl)) rfl ?_
      obtain rfl := Option.some.inj h4
      exact QJ.cut_end ⟨rfl, rfl, rfl, trivial⟩
  refine QJ.step (YldS.yld (y_move rfl)) rfl ?_
  obtain ⟨t8, h9, hm⟩ := bindS hm
  refine QJ.cut 4 [(0, str s1), (2, pt g2 0), (17, .bool t8)] ?_ ?_
  · rcases Bool.eq_false_or_eq_true t3 with hb10 | hb10
    · obtain rfl := orT h9 hb10
      refine QJ.off rfl rfl (cB hb10) rfl rfl ?_
      refine QJ.off rfl rfl (cB hb10) rfl rfl ?_
      refine QJ.off rfl rfl (cB hb10) rfl rfl ?_
      refine QJ.step (YldS.yld (y_pick_t (cB hb10) rfl)) rfl ?_
      exact QJ.cut_end ⟨rfl, rfl, rfl, trivial⟩
    · replace h9 := orF h9 hb10
      refine QJ.on rfl rfl (cB hb10) (YldS.yld (y_move rfl)) rfl ?_
      obtain ⟨c11, h12, h9⟩ := bindS h9
      refine QJ.on rfl rfl (cB hb10) (YldS.yld (y_idxStr Try.runUnderlying9 rfl rfl h12)) rfl ?_
      refine QJ.on rfl rfl (cB hb10) (YldS.yld (y_bin8 c11 (61 : UInt8) rfl rfl rfl)) rfl ?_
      refine QJ.step (YldS.yld (y_pick_f (cB hb10) rfl)) rfl ?_
      obtain rfl := Option.some.inj h9
      exact QJ.cut_end ⟨rfl, rfl, rfl, trivial⟩
  refine QJ.done ?_
  refine PJ.next ?_
  refine WJ.cond (t := t8) rfl (fun hb13 => ?_) (fun hb13 => ?_)
  · replace hm := ifT hm hb13
    refine WJ.seq ?_
    refine WJ.reg ?_
    refine SJ.q (YldS.yld (y_build (parts := []) (places := [(0, 1), (1, 1), (2, 1)]) (r := [str ((Over.mk [] [] []).under), str ((Over.mk [] [] []).top), str ((Over.mk [] [] []).seen)]) pl42 Try.zeroValue42 rfl rfl rfl rfl)) rfl ?_
    refine SJ.storeL (k := 0) (off := 0) (us := [str ((Over.mk [] [] []).under), str ((Over.mk [] [] []).top), str ((Over.mk [] [] []).seen)]) rfl rfl rfl rfl Try.sizeOf42 rfl rfl ?_
    refine SJ.q (YldS.yld (y_assign rfl)) rfl ?_
    refine SJ.nil ?_
    refine PJ.next ?_
    refine WJ.ret ?_
    refine PJ.then_ret ?_
    obtain rfl := Option.some.inj hm
    exact PJ.retn_sel (vs := [.agg (Over.enc (Over.mk [] [] [])).toArray, .bool false]) Try.results20 ⟨⟨0, g2, 42, [str ((Over.mk [] [] []).under), str ((Over.mk [] [] []).top), str ((Over.mk [] [] []).seen)], rfl, rfl, .inl ⟨Try.isAgg42, Try.sizeOf42, rfl⟩⟩, rfl, trivial⟩ [] ⟨List.nodup_nil, rfl⟩ ⟨rfl, rfl⟩
  · replace hm := ifF hm hb13
    refine WJ.skip ?_
    refine PJ.next ?_
    refine WJ.seq ?_
    obtain ⟨s14, h15, hm⟩ := bindS hm
    obtain ⟨s16, h17, hm⟩ := bindS hm
    obtain ⟨s18, h19, hm⟩ := bindS hm
    refine WJ.draws (N := 9) (listed0 := #[false, false, false, false, false, false, false, false, false]) [box g2 42 [str [], str [], str []]] follows rfl rfl ?_
    refine RJ.first 0 (listed' := #[true, false, false, false, false, false, false, false, false]) [0] rfl (by kernel_rfl) rfl ⟨by decide, rfl⟩ (y_move rfl) rfl ?_
    refine RJ.first 1 (listed' := #[true, true, false, false, false, false, false, false, false]) [0] rfl (by kernel_rfl) rfl ⟨by decide, rfl⟩ (y_subStr (i := none) (j := some 1) h15 Try.runUnderlying9 rfl trivial ⟨_, rfl⟩) rfl ?_
    refine RJ.first 2 (listed' := #[true, true, true, false, false, false, false, false, false]) [0] rfl (by kernel_rfl) rfl ⟨by decide, rfl⟩ (y_move rfl) rfl ?_
    refine RJ.first 3 (listed' := #[true, true, true, true, false, false, false, false, false]) [0] rfl (by kernel_rfl) rfl ⟨by decide, rfl⟩ (y_subStr (i := some 2) (j := some 3) h17 Try.runUnderlying9 rfl ⟨_, rfl⟩ ⟨_, rfl⟩) rfl ?_
    refine RJ.first 4 (listed' := #[true, true, true, true, true, false, false, false, false]) [0] rfl (by kernel_rfl) rfl ⟨by decide, rfl⟩ (y_move rfl) rfl ?_
    refine RJ.first 5 (listed' := #[true, true, true, true, true, true, false, false, false]) [0] rfl (by kernel_rfl) rfl ⟨by decide, rfl⟩ (y_subStr (i := some 4) (j := none) h19 Try.runUnderlying9 rfl ⟨_, rfl⟩ trivial) rfl ?_
    refine RJ.first 6 (listed' := #[true, true, true, true, true, true, true, false, false]) [0] rfl (by kernel_rfl) rfl ⟨by decide, rfl⟩ (y_build (parts := [(0, .tmp 20), (1, .tmp 22), (2, .tmp 24)]) (places := [(0, 1), (1, 1), (2, 1)]) (r := [str ((Over.mk s14 s16 s18).under), str ((Over.mk s14 s16 s18).top), str ((Over.mk s14 s16 s18).seen)]) pl42 Try.zeroValue42 rfl rfl rfl rfl) rfl ?_
    refine RJ.step1 7 [0] (by kernel_rfl) ⟨by decide, rfl⟩ ?_
    refine RO.of (listed' := #[true, true, true, true, true, true, true, true, false]) rfl rfl ?_
    refine SJ.alloc (cs := [str [], str [], str []]) Try.zeroValue42 rfl rfl fun g20 => ?_
    refine SJ.nil ?_
    refine PJ.draw ?_
    refine RJ.step1 8 [1] (by kernel_rfl) ⟨by decide, rfl⟩ ?_
    refine RO.of (listed' := #[true, true, true, true, true, true, true, true, true]) rfl rfl ?_
    refine SJ.storeL (k := 0) (off := 0) (us := [str ((Over.mk s14 s16 s18).under), str ((Over.mk s14 s16 s18).top), str ((Over.mk s14 s16 s18).seen)]) rfl rfl rfl rfl Try.sizeOf42 rfl rfl ?_
    refine SJ.nil ?_
    refine PJ.draw ?_
    refine RJ.fin [1] (by kernel_rfl) ⟨by decide, rfl⟩ ?_
    refine PJ.next ?_
    refine WJ.seq ?_
    refine WJ.seq ?_
    refine WJ.quiet ?_
    refine QJ.step (YldS.yld (y_loadBN (k := 0) (off := 0) (us := [str ((Over.mk s14 s16 s18).under), str ((Over.mk s14 s16 s18).top), str ((Over.mk s14 s16 s18).seen)]) rfl Try.isAgg42 Try.sizeOf42 rfl rfl)) rfl ?_
    obtain ⟨r21, h22, hm⟩ := bindS hm
    refine QJ.step (y_call Try.call58 rfl (RetG.quiet fun w hw => ok_i_validOver h22 w )) rfl ?_
    refine QJ.step (YldS.yld (y_not rfl)) rfl ?_
    refine QJ.done ?_
    refine PJ.next ?_
    refine WJ.cond (t := !r21) rfl (fun hb23 => ?_) (fun hb23 => ?_)
    · replace hm := ifT hm hb23
      refine WJ.seq ?_
      refine WJ.reg ?_
      refine SJ.q (YldS.yld (y_build (parts := []) (places := [(0, 1), (1, 1), (2, 1)]) (r := [str ((Over.mk [] [] []).under), str ((Over.mk [] [] []).top), str ((Over.mk [] [] []).seen)]) pl42 Try.zeroValue42 rfl rfl rfl rfl)) rfl ?_
      refine SJ.storeL (k := 1) (off := 0) (us := [str ((Over.mk [] [] []).under), str ((Over.mk [] [] []).top), str ((Over.mk [] [] []).seen)]) rfl rfl rfl rfl Try.sizeOf42 rfl rfl ?_
      refine SJ.q (YldS.yld (y_assign rfl)) rfl ?_
      refine SJ.nil ?_
      refine PJ.next ?_
      refine WJ.ret ?_
      refine PJ.then_ret ?_
      obtain rfl := Option.some.inj hm
      exact PJ.retn_sel (vs := [.agg (Over.enc (Over.mk [] [] [])).toArray, .bool false]) Try.results20 ⟨⟨1, g2, 42, [str ((Over.mk [] [] []).under), str ((Over.mk [] [] []).top), str ((Over.mk [] [] []).seen)], rfl, rfl, .inl ⟨Try.isAgg42, Try.sizeOf42, rfl⟩⟩, rfl, trivial⟩ [] ⟨List.nodup_nil, rfl⟩ ⟨rfl, rfl⟩
    · replace hm := ifF hm hb23
      refine WJ.skip ?_
      refine PJ.next ?_
      refine WJ.seq ?_
      refine WJ.reg ?_
      refine SJ.q (YldS.yld (y_loadBN (k := 0) (off := 0) (us := [str ((Over.mk s14 s16 s18).under), str ((Over.mk s14 s16 s18).top), str ((Over.mk s14 s16 s18).seen)]) rfl Try.isAgg42 Try.sizeOf42 rfl rfl)) rfl ?_
      refine SJ.storeL (k := 1) (off := 0) (us := [str ((Over.mk s14 s16 s18).under), str ((Over.mk s14 s16 s18).top), str ((Over.mk s14 s16 s18).seen)]) rfl rfl rfl rfl Try.sizeOf42 rfl rfl ?_
      refine SJ.q (YldS.yld (y_assign rfl)) rfl ?_
      refine SJ.nil ?_
      refine PJ.next ?_
      refine WJ.ret ?_
      obtain rfl := Option.some.inj hm
      exact PJ.retn_sel (vs := [.agg (Over.enc (Over.mk s14 s16 s18)).toArray, .bool true]) Try.results20 ⟨⟨1, g2, 42, [str ((Over.mk s14 s16 s18).under), str ((Over.mk s14 s16 s18).top), str ((Over.mk s14 s16 s18).seen)], rfl, rfl, .inl ⟨Try.isAgg42, Try.sizeOf42, rfl⟩⟩, rfl, trivial⟩ [] ⟨List.nodup_nil, rfl⟩ ⟨rfl, rfl⟩

set_option maxRecDepth 100000 in
set_option maxHeartbeats 1000000 in
theorem ok_s_l01Spoil {s1 : L00Src} {t5 : Str} {g2 : Nat} {r : Str × L00Src} (hm : s_l01Spoil s1 t5 = some r) (w : World) (S : Nat → Prop) (v3 : Value) (hr4 : RdS w (Cx.Fz ⟨w, S⟩) v3 fByte.rp s1.code) (hA : (box g2 87 [v3, .int .i64 s1.at_, .int .u64 s1.seed]).holds w S) :
    Calls Try.prog 59 #[pt g2 0, str t5] w (RetG ⟨w, S⟩ fun u L => (u = str r.1 ∧ L = [box g2 87 [v3, .int .i64 r.2.at_, .int .u64 r.2.seed]])) := by
  unfold s_l01Spoil at hm
  refine Calls.enter1 hA [pt g2 0, str t5] Try.func59 rfl Try.ntmps59 rfl ?_
  refine WJ.seq ?_
  refine WJ.quiet ?_
  refine QJ.step (YldS.yld (y_assign rfl)) rfl ?_
  refine QJ.done ?_
  refine PJ.next ?_
  obtain ⟨k9, hk10, hm⟩ := withK_open hm
  refine WJ.join (X := Int × Int × Str) (fun (x : Int × Int × Str) => k9 x.1 x.2.1 x.2.2 = some r) (fun (x : Int × Int × Str) => [(1, str x.2.2)]) (fun (x : Int × Int × Str) => [box g2 87 [v3, .int .i64 x.1, .int .u64 x.2.1]]) ?_ ?_
  · clear hk10
    refine WJ.seq ?_
    refine WJ.reg ?_
    refine SJ.q (YldS.yld (y_move rfl)) rfl ?_
    obtain ⟨r11, h12, hm⟩ := bindS hm
    refine SJ.call1 (k := 0) rfl Try.call50 rfl (fun w S hw hA hO => ok_s_l00Src_pick h12 w S _ (hr4.st1 hw hO) hA) rfl ?_
    rintro _ _ ⟨rfl, rfl⟩
    refine SJ.nil ?_
    refine PJ.next ?_
    refine WJ.block ?_
    refine WJ.seq ?_
    refine WJ.quiet ?_
    refine QJ.step (YldS.yld (y_bin rfl rfl rfl)) rfl ?_
    refine QJ.step (YldS.yld (y_assign rfl)) rfl ?_
    refine QJ.done ?_
    refine PJ.next ?_
    refine WJ.cond (t := (r11.1 == 0)) rfl (fun hb13 => ?_) (fun hb13 => ?_)
    · replace hm := ifT hm hb13
      refine WJ.seq ?_
      refine WJ.reg ?_
      refine SJ.q (YldS.yld (y_move rfl)) rfl ?_
      refine SJ.q (YldS.yld (y_move rfl)) rfl ?_
      refine SJ.q (YldS.yld (y_lenStr Try.runUnderlying9 rfl)) rfl ?_
      refine SJ.q (YldS.yld (y_bin rfl rfl rfl)) rfl ?_
      obtain ⟨r14, h15, hm⟩ := bindS hm
      refine SJ.call1 (k := 0) rfl Try.call50 rfl (fun w S hw hA hO => ok_s_l00Src_pick h15 w S _ (hr4.st1 hw hO) hA) rfl ?_
      rintro _ _ ⟨rfl, rfl⟩
      refine SJ.q (YldS.yld (y_assign rfl)) rfl ?_
      refine SJ.nil ?_
      refine PJ.next ?_
      obtain ⟨s16, h17, hm⟩ := bindS hm
      obtain ⟨r19, h20, hm⟩ := bindS hm
      obtain ⟨s21, h22, hm⟩ := bindS hm
      obtain ⟨s23, h24, hm⟩ := bindS hm
      obtain ⟨s25, h26, hm⟩ := bindS hm
      refine WJ.draws (N := 12) (listed0 := #[false, false, false, false, false, false, false, false, false, false, false, false]) [] follows rfl rfl ?_
      refine RJ.first 0 (listed' := #[true, false, false, false, false, false, false, false, false, false, false, false]) [] rfl (by kernel_rfl) rfl ⟨List.nodup_nil, rfl⟩ (y_move rfl) rfl ?_
      refine RJ.first 1 (listed' := #[true, true, false, false, false, false, false, false, false, false, false, false]) [] rfl (by kernel_rfl) rfl ⟨List.nodup_nil, rfl⟩ (y_move rfl) rfl ?_
      refine RJ.first 2 (listed' := #[true, true, true, false, false, false, false, false, false, false, false, false]) [] rfl (by kernel_rfl) rfl ⟨List.nodup_nil, rfl⟩ (y_subStr (i := none) (j := some r14.1) h17 Try.runUnderlying9 rfl trivial ⟨_, rfl⟩) rfl ?_
      refine RJ.first 3 (listed' := #[true, true, true, true, false, false, false, false, false, false, false, false]) [] rfl (by kernel_rfl) rfl ⟨List.nodup_nil, rfl⟩ (y_move rfl) rfl ?_
      refine RJ.first 7 (listed' := #[true, true, true, true, false, false, false, true, false, false, false, false]) [] rfl (by kernel_rfl) rfl ⟨List.nodup_nil, rfl⟩ (y_move rfl) rfl ?_
      refine RJ.first 8 (listed' := #[true, true, true, true, false, false, false, true, true, false, false, false]) [] rfl (by kernel_rfl) rfl ⟨List.nodup_nil, rfl⟩ (y_move rfl) rfl ?_
      refine RJ.first 9 (listed' := #[true, true, true, true, false, false, false, true, true, true, false, false]) [] rfl (by kernel_rfl) rfl ⟨List.nodup_nil, rfl⟩ (y_subStr (i := some r14.1) (j := none) h24 Try.runUnderlying9 rfl ⟨_, rfl⟩ trivial) rfl ?_
      refine RJ.step1 4 [] (by kernel_rfl) ⟨List.nodup_nil, rfl⟩ ?_
      refine RO.of (listed' := #[true, true, true, true, true, false, false, true, true, true, false, false]) rfl rfl ?_
      refine SJ.buildSlice (R := fStr) (os := [.const (str [32]), .const (str [48]), .const (str [45]), .const (str [120]), .const (str [49]), .const (str [57]), .const (str [46])]) [[32], [48], [45], [120], [49], [57], [46]] Try.runUnderlying38 Try.sizeOf9 Try.zeroValue9 rfl rfl rfl rfl rfl rfl fun v18 => ?_
      refine SJ.nil ?_
      refine PJ.draw ?_
      refine RJ.step1 5 [] (by kernel_rfl) ⟨List.nodup_nil, rfl⟩ ?_
      refine RO.of (listed' := #[true, true, true, true, true, true, false, true, true, true, false, false]) rfl rfl ?_
      refine SJ.call2 (k := 1) rfl Try.call37 rfl (fun w S hw hA hO hB => ok_s_l00Src_text h20 w S _ (hr4.st1 hw hO) _ (hB.row_rd (j := 0) (k := 1) rfl rfl) hA) rfl ?_
      rintro _ _ ⟨rfl, rfl⟩
      refine SJ.nil ?_
      refine PJ.draw ?_
      refine RJ.first 6 (listed' := #[true, true, true, true, true, true, true, true, true, true, false, false]) [] rfl (by kernel_rfl) rfl ⟨List.nodup_nil, rfl⟩ (y_cat h22 rfl rfl) rfl ?_
      refine RJ.first 10 (listed' := #[true, true, true, true, true, true, true, true, true, true, true, false]) [] rfl (by kernel_rfl) rfl ⟨List.nodup_nil, rfl⟩ (y_cat h26 rfl rfl) rfl ?_
      refine RJ.first 11 (listed' := #[true, true, true, true, true, true, true, true, true, true, true, true]) [] rfl (by kernel_rfl) rfl ⟨List.nodup_nil, rfl⟩ (y_assign rfl) rfl ?_
      refine RJ.fin [] (by kernel_rfl) ⟨List.nodup_nil, rfl⟩ ?_
      refine PJ.block_normal ?_
      exact PJ.joined (r19.2.at_, r19.2.seed, s25) [0] hm ⟨rfl, trivial⟩ ⟨by decide, rfl⟩
    · replace hm := ifF hm hb13
      refine WJ.seq ?_
      refine WJ.quiet ?_
      refine QJ.step (YldS.yld (y_bin rfl rfl rfl)) rfl ?_
      refine QJ.step (YldS.yld (y_assign rfl)) rfl ?_
      refine QJ.done ?_
      refine PJ.next ?_
      refine WJ.cond (t := (r11.1 == 1)) rfl (fun hb27 => ?_) (fun hb27 => ?_)
      · replace hm := ifT hm hb27
        refine WJ.seq ?_
        refine WJ.quiet ?_
        refine QJ.step (YldS.yld (y_move rfl)) rfl ?_
        refine QJ.step (YldS.yld (y_binS rfl rfl rfl)) rfl ?_
        refine QJ.done ?_
        refine PJ.next ?_
        refine WJ.cond (t := (t5 != [])) rfl (fun hb28 => ?_) (fun hb28 => ?_)
        · replace hm := ifT hm hb28
          refine WJ.seq ?_
          refine WJ.reg ?_
          refine SJ.q (YldS.yld (y_move rfl)) rfl ?_
          refine SJ.q (YldS.yld (y_move rfl)) rfl ?_
          refine SJ.q (YldS.yld (y_lenStr Try.runUnderlying9 rfl)) rfl ?_
          obtain ⟨r29, h30, hm⟩ := bindS hm
          refine SJ.call1 (k := 0) rfl Try.call50 rfl (fun w S hw hA hO => ok_s_l00Src_pick h30 w S _ (hr4.st1 hw hO) hA) rfl ?_
          rintro _ _ ⟨rfl, rfl⟩
          refine SJ.q (YldS.yld (y_assign rfl)) rfl ?_
          refine SJ.nil ?_
          refine PJ.next ?_
          refine WJ.quiet_draw follows (by kernel_rfl) ?_
          refine QJ.step (YldS.yld (y_move rfl)) rfl ?_
          refine QJ.step (YldS.yld (y_move rfl)) rfl ?_
          obtain ⟨s31, h32, hm⟩ := bindS hm
          refine QJ.step (YldS.yld (y_subStr (i := none) (j := some r29.1) h32 Try.runUnderlying9 rfl trivial ⟨_, rfl⟩)) rfl ?_
          refine QJ.step (YldS.yld (y_move rfl)) rfl ?_
          refine QJ.step (YldS.yld (y_move rfl)) rfl ?_
          refine QJ.step (YldS.yld (y_bin rfl rfl rfl)) rfl ?_
          obtain ⟨s33, h34, hm⟩ := bindS hm
          refine QJ.step (YldS.yld (y_subStr (i := some (w64 (r29.1 + 1))) (j := none) h34 Try.runUnderlying9 rfl ⟨_, rfl⟩ trivial)) rfl ?_
          obtain ⟨s35, h36, hm⟩ := bindS hm
          refine QJ.step (YldS.yld (y_cat h36 rfl rfl)) rfl ?_
          refine QJ.step (YldS.yld (y_assign rfl)) rfl ?_
          refine QJ.done ?_
          refine PJ.block_normal ?_
          exact PJ.joined (r29.2.at_, r29.2.seed, s35) [0] hm ⟨rfl, trivial⟩ ⟨by decide, rfl⟩
        · replace hm := ifF hm hb28
          refine WJ.skip ?_
          refine PJ.block_normal ?_
          exact PJ.joined (r11.2.at_, r11.2.seed, t5) [0] hm ⟨rfl, trivial⟩ ⟨by decide, rfl⟩
      · replace hm := ifF hm hb27
        refine WJ.skip ?_
        refine PJ.block_normal ?_
        exact PJ.joined (r11.2.at_, r11.2.seed, t5) [0] hm ⟨rfl, trivial⟩ ⟨by decide, rfl⟩
  · rintro ⟨x6, x7, t8⟩ hm
    subst hk10
    refine WJ.seq ?_
    refine WJ.quiet ?_
    refine QJ.step (YldS.yld (y_move rfl)) rfl ?_
    refine QJ.step (YldS.yld (y_assign rfl)) rfl ?_
    refine QJ.done ?_
    refine PJ.next ?_
    refine WJ.ret ?_
    obtain rfl := Option.some.inj hm
    refine PJ.sel (L' := [box g2 87 [v3, .int .i64 x6, .int .u64 x7]]) [0] ⟨by decide, rfl⟩ ?_
    exact PJ.retn (vs := [str t8]) Try.results59 ⟨rfl, trivial⟩ ⟨rfl, rfl⟩

set_option maxRecDepth 100000 in
set_option maxHeartbeats 1000000 in
theorem ok_s_DrawReadOver {code1 : List UInt8} {r : Str} (hm : s_DrawReadOver code1 = some r) (w : World) (v2 : Value) (hr3 : RdS w (cx w).Fz v2 fByte.rp code1) :
    Calls Try.prog 21 #[v2] w (Ret (cx w) (str r)) := by
  unfold s_DrawReadOver at hm
  refine Calls.enter [v2] Try.func21 rfl Try.ntmps21 rfl ?_
  refine WJ.seq ?_
  refine WJ.quiet ?_
  refine QJ.step (YldS.yld (y_assign rfl)) rfl ?_
  refine QJ.done ?_
  refine PJ.next ?_
  refine WJ.seq ?_
  refine WJ.reg ?_
  refine SJ.q (YldS.yld (y_move rfl)) rfl ?_
  obtain ⟨r4, h5, hm⟩ := bindS hm
  refine SJ.call Try.call35 rfl (fun w hw => ok_s_l00From h5 w _ (hr3.st hw)) rfl ?_
  rintro _ _ ⟨g6, rfl, rfl⟩
  refine SJ.q (YldS.yld (y_assign rfl)) rfl ?_
  refine SJ.nil ?_
  refine PJ.next ?_
  refine WJ.seq ?_
  refine WJ.reg ?_
  refine SJ.q (YldS.yld (y_move rfl)) rfl ?_
  refine SJ.buildSlice (R := fStr) (os := [.const (str [99, 60, 47, 61, 48]), .const (str [111, 60, 45, 61, 116]), .const (str [97, 60, 98, 61, 97]), .const (str [60, 60, 61, 61, 61])]) [[99, 60, 47, 61, 48], [111, 60, 45, 61, 116], [97, 60, 98, 61, 97], [60, 60, 61, 61, 61]] Try.runUnderlying38 Try.sizeOf9 Try.zeroValue9 rfl rfl rfl rfl rfl rfl fun v7 => ?_
  obtain ⟨r8, h9, hm⟩ := bindS hm
  refine SJ.call2 (k := 1) rfl Try.call37 rfl (fun w S hw hA hO hB => ok_s_l00Src_text h9 w S _ (hr3.st1 hw hO) _ (hB.row_rd (j := 0) (k := 1) rfl rfl) hA) rfl ?_
  rintro _ _ ⟨rfl, rfl⟩
  refine SJ.q (YldS.yld (y_assign rfl)) rfl ?_
  refine SJ.nil ?_
  refine PJ.next ?_
  refine WJ.seq ?_
  refine WJ.seq ?_
  refine WJ.reg ?_
  refine SJ.q (YldS.yld (y_move rfl)) rfl ?_
  obtain ⟨r10, h11, hm⟩ := bindS hm
  refine SJ.call1 (k := 0) rfl Try.call49 rfl (fun w S hw hA hO => ok_s_l00Src_one h11 w S _ (hr3.st1 hw hO) hA) rfl ?_
  rintro _ _ ⟨rfl, rfl⟩
  refine SJ.nil ?_
  refine PJ.next ?_
  refine WJ.cond (t := r10.1) rfl (fun hb12 => ?_) (fun hb12 => ?_)
  · replace hm := ifT hm hb12
    refine WJ.seq ?_
    refine WJ.reg ?_
    refine SJ.q (YldS.yld (y_move rfl)) rfl ?_
    refine SJ.q (YldS.yld (y_move rfl)) rfl ?_
    obtain ⟨r13, h14, hm⟩ := bindS hm
    refine SJ.call1 (k := 0) rfl Try.call59 rfl (fun w S hw hA hO => ok_s_l01Spoil h14 w S _ (hr3.st1 hw hO) hA) rfl ?_
    rintro _ _ ⟨rfl, rfl⟩
    refine SJ.q (YldS.yld (y_assign rfl)) rfl ?_
    refine SJ.nil ?_
    refine PJ.next ?_
    refine WJ.ret ?_
    refine PJ.then_ret ?_
    obtain rfl := Option.some.inj hm
    refine PJ.sel (L' := []) [] ⟨List.nodup_nil, rfl⟩ ?_
    exact PJ.retn (vs := [str r13.1]) Try.results21 ⟨rfl, trivial⟩ ⟨rfl, rfl⟩
  · replace hm := ifF hm hb12
    refine WJ.skip ?_
    refine PJ.next ?_
    refine WJ.seq ?_
    refine WJ.quiet ?_
    refine QJ.step (YldS.yld (y_move rfl)) rfl ?_
    refine QJ.step (YldS.yld (y_assign rfl)) rfl ?_
    refine QJ.done ?_
    refine PJ.next ?_
    refine WJ.ret ?_
    obtain rfl := Option.some.inj hm
    refine PJ.sel (L' := []) [] ⟨List.nodup_nil, rfl⟩ ?_
    exact PJ.retn (vs := [str r8.1]) Try.results21 ⟨rfl, trivial⟩ ⟨rfl, rfl⟩

set_option maxRecDepth 100000 in
set_option maxHeartbeats 1000000 in
theorem ok_s_ReadOver {s1 : Str} {r : Over × Bool} (hm : s_ReadOver s1 = some r) (w : World)  :
    Calls Try.prog 22 #[str s1] w (Ret (cx w) (tup [.agg (Over.enc r.1).toArray, .bool r.2])) := by
  unfold s_ReadOver at hm
  refine Calls.enter [str s1] Try.func22 rfl Try.ntmps22 rfl ?_
  refine WJ.seq ?_
  refine WJ.reg ?_
  refine SJ.alloc (cs := [str [], str [], str []]) Try.zeroValue42 rfl rfl fun g2 => ?_
  refine SJ.q (YldS.yld (y_assign rfl)) rfl ?_
  refine SJ.nil ?_
  refine PJ.next ?_
  refine WJ.seq ?_
  refine WJ.seq ?_
  refine WJ.quiet ?_
  refine QJ.step (YldS.yld (y_move rfl)) rfl ?_
  refine QJ.step (YldS.yld (y_lenStr Try.runUnderlying9 rfl)) rfl ?_
  refine QJ.step (YldS.yld (y_bin rfl rfl rfl)) rfl ?_
  refine QJ.step (YldS.yld (y_move rfl)) rfl ?_
  obtain ⟨t3, h4, hm⟩ := bindS hm
  refine QJ.cut 4 [(0, str s1), (2, pt g2 0), (12, .bool t3)] ?_ ?_
  · rcases Bool.eq_false_or_eq_true ((List.length s1 : Int) != 5) with hb5 | hb5
    · obtain rfl := orT h4 hb5
      refine QJ.off rfl rfl (cB hb5) rfl rfl ?_
      refine QJ.off rfl rfl (cB hb5) rfl rfl ?_
      refine QJ.off rfl rfl (cB hb5) rfl rfl ?_
      refine QJ.step (YldS.yld (y_pick_t (cB hb5) rfl)) rfl ?_
      exact QJ.cut_end ⟨rfl, rfl, rfl, trivial⟩
    · replace h4 := orF h4 hb5
      refine QJ.on rfl rfl (cB hb5) (YldS.yld (y_move rfl)) rfl ?_
      obtain ⟨c6, h7, h4⟩ := bindS h4
      refine QJ.on rfl rfl (cB hb5) (YldS.yld (y_idxStr Try.runUnderlying9 rfl rfl h7)) rfl ?_
      refine QJ.on rfl rfl (cB hb5) (YldS.yld (y_bin8 c6 (60 : UInt8) rfl rfl rfl)) rfl ?_
      refine QJ.step (YldS.yld (y_pick_f (cB hb5) rfl)) rfl ?_
      obtain rfl := Option.some.inj h4
      exact QJ.cut_end ⟨rfl, rfl, rfl, trivial⟩
  refine QJ.step (YldS.yld (y_move rfl)) rfl ?_
  obtain ⟨t8, h9, hm⟩ := bindS hm
  refine QJ.cut 4 [(0, str s1), (2, pt g2 0), (17, .bool t8)] ?_ ?_
  · rcases Bool.eq_false_or_eq_true t3 with hb10 | hb10
    · obtain rfl := orT h9 hb10
      refine QJ.off rfl rfl (cB hb10) rfl rfl ?_
      refine QJ.off rfl rfl (cB hb10) rfl rfl ?_
      refine QJ.off rfl rfl (cB hb10) rfl rfl ?_
      refine QJ.step (YldS.yld (y_pick_t (cB hb10) rfl)) rfl ?_
      exact QJ.cut_end ⟨rfl, rfl, rfl, trivial⟩
    · replace h9 := orF h9 hb10
      refine QJ.on rfl rfl (cB hb10) (YldS.yld (y_move rfl)) rfl ?_
      obtain ⟨c11, h12, h9⟩ := bindS h9
      refine QJ.on rfl rfl (cB hb10) (YldS.yld (y_idxStr Try.runUnderlying9 rfl rfl h12)) rfl ?_
      refine QJ.on rfl rfl (cB hb10) (YldS.yld (y_bin8 c11 (61 : UInt8) rfl rfl rfl)) rfl ?_
      refine QJ.step (YldS.yld (y_pick_f (cB hb10) rfl)) rfl ?_
      obtain rfl := Option.some.inj h9
      exact QJ.cut_end ⟨rfl, rfl, rfl, trivial⟩
  refine QJ.done ?_
  refine PJ.next ?_
  refine WJ.cond (t := t8) rfl (fun hb13 => ?_) (fun hb13 => ?_)
  · replace hm := ifT hm hb13
    refine WJ.seq ?_
    refine WJ.reg ?_
    refine SJ.q (YldS.yld (y_build (parts := []) (places := [(0, 1), (1, 1), (2, 1)]) (r := [str ((Over.mk [] [] []).under), str ((Over.mk [] [] []).top), str ((Over.mk [] [] []).seen)]) pl42 Try.zeroValue42 rfl rfl rfl rfl)) rfl ?_
    refine SJ.storeL (k := 0) (off := 0) (us := [str ((Over.mk [] [] []).under), str ((Over.mk [] [] []).top), str ((Over.mk [] [] []).seen)]) rfl rfl rfl rfl Try.sizeOf42 rfl rfl ?_
    refine SJ.q (YldS.yld (y_assign rfl)) rfl ?_
    refine SJ.nil ?_
    refine PJ.next ?_
    refine WJ.ret ?_
    refine PJ.then_ret ?_
    obtain rfl := Option.some.inj hm
    exact PJ.retn_sel (vs := [.agg (Over.enc (Over.mk [] [] [])).toArray, .bool false]) Try.results22 ⟨⟨0, g2, 42, [str ((Over.mk [] [] []).under), str ((Over.mk [] [] []).top), str ((Over.mk [] [] []).seen)], rfl, rfl, .inl ⟨Try.isAgg42, Try.sizeOf42, rfl⟩⟩, rfl, trivial⟩ [] ⟨List.nodup_nil, rfl⟩ ⟨rfl, rfl⟩
  · replace hm := ifF hm hb13
    refine WJ.skip ?_
    refine PJ.next ?_
    refine WJ.seq ?_
    obtain ⟨s14, h15, hm⟩ := bindS hm
    obtain ⟨s16, h17, hm⟩ := bindS hm
    obtain ⟨s18, h19, hm⟩ := bindS hm
    refine WJ.draws (N := 9) (listed0 := #[false, false, false, false, false, false, false, false, false]) [box g2 42 [str [], str [], str []]] follows rfl rfl ?_
    refine RJ.first 0 (listed' := #[true, false, false, false, false, false, false, false, false]) [0] rfl (by kernel_rfl) rfl ⟨by decide, rfl⟩ (y_move rfl) rfl ?_
    refine RJ.first 1 (listed' := #[true, true, false, false, false, false, false, false, false]) [0] rfl (by kernel_rfl) rfl ⟨by decide, rfl⟩ (y_subStr (i := none) (j := some 1) h15 Try.runUnderlying9 rfl trivial ⟨_, rfl⟩) rfl ?_
    refine RJ.first 2 (listed' := #[true, true, true, false, false, false, false, false, false]) [0] rfl (by kernel_rfl) rfl ⟨by decide, rfl⟩ (y_move rfl) rfl ?_
    refine RJ.first 3 (listed' := #[true, true, true, true, false, false, false, false, false]) [0] rfl (by kernel_rfl) rfl ⟨by decide, rfl⟩ (y_subStr (i := some 2) (j := some 3) h17 Try.runUnderlying9 rfl ⟨_, rfl⟩ ⟨_, rfl⟩) rfl ?_
    refine RJ.first 4 (listed' := #[true, true, true, true, true, false, false, false, false]) [0] rfl (by kernel_rfl) rfl ⟨by decide, rfl⟩ (y_move rfl) rfl ?_
    refine RJ.first 5 (listed' := #[true, true, true, true, true, true, false, false, false]) [0] rfl (by kernel_rfl) rfl ⟨by decide, rfl⟩ (y_subStr (i := some 4) (j := none) h19 Try.runUnderlying9 rfl ⟨_, rfl⟩ trivial) rfl ?_
    refine RJ.first 6 (listed' := #[true, true, true, true, true, true, true, false, false]) [0] rfl (by kernel_rfl) rfl ⟨by decide, rfl⟩ (y_build (parts := [(0, .tmp 20), (1, .tmp 22), (2, .tmp 24)]) (places := [(0, 1), (1, 1), (2, 1)]) (r := [str ((Over.mk s14 s16 s18).under), str ((Over.mk s14 s16 s18).top), str ((Over.mk s14 s16 s18).seen)]) pl42 Try.zeroValue42 rfl rfl rfl rfl) rfl ?_
    refine RJ.step1 7 [0] (by kernel_rfl) ⟨by decide, rfl⟩ ?_
    refine RO.of (listed' := #[true, true, true, true, true, true, true, true, false]) rfl rfl ?_
    refine SJ.alloc (cs := [str [], str [], str []]) Try.zeroValue42 rfl rfl fun g20 => ?_
    refine SJ.nil ?_
    refine PJ.draw ?_
    refine RJ.step1 8 [1] (by kernel_rfl) ⟨by decide, rfl⟩ ?_
    refine RO.of (listed' := #[true, true, true, true, true, true, true, true, true]) rfl rfl ?_
    refine SJ.storeL (k := 0) (off := 0) (us := [str ((Over.mk s14 s16 s18).under), str ((Over.mk s14 s16 s18).top), str ((Over.mk s14 s16 s18).seen)]) rfl rfl rfl rfl Try.sizeOf42 rfl rfl ?_
    refine SJ.nil ?_
    refine PJ.draw ?_
    refine RJ.fin [1] (by kernel_rfl) ⟨by decide, rfl⟩ ?_
    refine PJ.next ?_
    refine WJ.seq ?_
    refine WJ.seq ?_
    refine WJ.quiet ?_
    obtain ⟨r21, h22, hm⟩ := bindS hm
    refine QJ.step (y_call Try.call60 rfl (RetG.quiet fun w hw => ok_s_l12One h22 w _ (hw.box_at (k := 0) rfl))) rfl ?_
    refine QJ.step (YldS.yld (y_not rfl)) rfl ?_
    refine QJ.done ?_
    refine PJ.next ?_
    refine WJ.cond (t := !r21) rfl (fun hb23 => ?_) (fun hb23 => ?_)
    · replace hm := ifT hm hb23
      refine WJ.seq ?_
      refine WJ.reg ?_
      refine SJ.q (YldS.yld (y_build (parts := []) (places := [(0, 1), (1, 1), (2, 1)]) (r := [str ((Over.mk [] [] []).under), str ((Over.mk [] [] []).top), str ((Over.mk [] [] []).seen)]) pl42 Try.zeroValue42 rfl rfl rfl rfl)) rfl ?_
      refine SJ.storeL (k := 1) (off := 0) (us := [str ((Over.mk [] [] []).under), str ((Over.mk [] [] []).top), str ((Over.mk [] [] []).seen)]) rfl rfl rfl rfl Try.sizeOf42 rfl rfl ?_
      refine SJ.q (YldS.yld (y_assign rfl)) rfl ?_
      refine SJ.nil ?_
      refine PJ.next ?_
      refine WJ.ret ?_
      refine PJ.then_ret ?_
      obtain rfl := Option.some.inj hm
      exact PJ.retn_sel (vs := [.agg (Over.enc (Over.mk [] [] [])).toArray, .bool false]) Try.results22 ⟨⟨1, g2, 42, [str ((Over.mk [] [] []).under), str ((Over.mk [] [] []).top), str ((Over.mk [] [] []).seen)], rfl, rfl, .inl ⟨Try.isAgg42, Try.sizeOf42, rfl⟩⟩, rfl, trivial⟩ [] ⟨List.nodup_nil, rfl⟩ ⟨rfl, rfl⟩
    · replace hm := ifF hm hb23
      refine WJ.skip ?_
      refine PJ.next ?_
      refine WJ.seq ?_
      refine WJ.reg ?_
      refine SJ.q (YldS.yld (y_loadBN (k := 0) (off := 0) (us := [str ((Over.mk s14 s16 s18).under), str ((Over.mk s14 s16 s18).top), str ((Over.mk s14 s16 s18).seen)]) rfl Try.isAgg42 Try.sizeOf42 rfl rfl)) rfl ?_
      refine SJ.storeL (k := 1) (off := 0) (us := [str ((Over.mk s14 s16 s18).under), str ((Over.mk s14 s16 s18).top), str ((Over.mk s14 s16 s18).seen)]) rfl rfl rfl rfl Try.sizeOf42 rfl rfl ?_
      refine SJ.q (YldS.yld (y_assign rfl)) rfl ?_
      refine SJ.nil ?_
      refine PJ.next ?_
      refine WJ.ret ?_
      obtain rfl := Option.some.inj hm
      exact PJ.retn_sel (vs := [.agg (Over.enc (Over.mk s14 s16 s18)).toArray, .bool true]) Try.results22 ⟨⟨1, g2, 42, [str ((Over.mk s14 s16 s18).under), str ((Over.mk s14 s16 s18).top), str ((Over.mk s14 s16 s18).seen)], rfl, rfl, .inl ⟨Try.isAgg42, Try.sizeOf42, rfl⟩⟩, rfl, trivial⟩ [] ⟨List.nodup_nil, rfl⟩ ⟨rfl, rfl⟩

set_option maxRecDepth 100000 in
set_option maxHeartbeats 1000000 in
theorem ok_w_f6ints {N : Nat} {a1 : List Int} {b4 : List Int} {r : Bool} (hm : w_f6ints N a1 b4 = some r) (w : World) (v2 : Value) (hr3 : RdS w (cx w).Fz v2 fI64.rp a1) (v5 : Value) (hr6 : RdS w (cx w).Fz v5 fI64.rp b4) :
    Calls Try.prog 23 #[v2, v5] w (Ret (cx w) (.bool r)) := by
  unfold w_f6ints at hm
  refine Calls.enter [v2, v5] Try.func23 rfl Try.ntmps23 rfl ?_
  refine WJ.seq ?_
  refine WJ.quiet ?_
  refine QJ.step (YldS.yld (y_assign rfl)) rfl ?_
  refine QJ.done ?_
  refine PJ.next ?_
  refine WJ.seq ?_
  refine WJ.seq ?_
  refine WJ.quiet ?_
  refine QJ.step (YldS.yld (y_move rfl)) rfl ?_
  refine QJ.step (YldS.yld (y_lenS Try.runUnderlying31 hr3 rfl)) rfl ?_
  refine QJ.step (YldS.yld (y_move rfl)) rfl ?_
  refine QJ.step (YldS.yld (y_lenS Try.runUnderlying31 hr6 rfl)) rfl ?_
  refine QJ.step (YldS.yld (y_bin rfl rfl rfl)) rfl ?_
  refine QJ.done ?_
  refine PJ.next ?_
  refine WJ.cond (t := ((List.length a1 : Int) != (List.length b4 : Int))) rfl (fun hb7 => ?_) (fun hb7 => ?_)
  · replace hm := ifT hm hb7
    refine WJ.seq ?_
    refine WJ.quiet ?_
    refine QJ.step (YldS.yld (y_assign rfl)) rfl ?_
    refine QJ.done ?_
    refine PJ.next ?_
    refine WJ.ret ?_
    refine PJ.then_ret ?_
    obtain rfl := Option.some.inj hm
    refine PJ.sel (L' := []) [] ⟨List.nodup_nil, rfl⟩ ?_
    exact PJ.retn (vs := [.bool false]) Try.results23 ⟨rfl, trivial⟩ ⟨rfl, rfl⟩
  · replace hm := ifF hm hb7
    refine WJ.skip ?_
    refine PJ.next ?_
    obtain ⟨k8, hk9, hm⟩ := withK_open hm
    refine WJ.join (X := Unit) (fun (_ : Unit) => k8  = some r) (fun (_ : Unit) => []) (fun (_ : Unit) => []) ?_ ?_
    · clear hk9
      refine WJ.seq ?_
      refine WJ.quiet ?_
      refine QJ.step (YldS.yld (y_assign rfl)) rfl ?_
      refine QJ.done ?_
      refine PJ.next ?_
      refine WJ.block ?_
      refine WJ.sel (L' := (fun (x : Int) => []) 0) [] ⟨List.nodup_nil, rfl⟩ ?_
      refine WJ.sub (m' := (fun (x : Int) => [(0, v2), (1, v5), (5, .int .i64 x)]) 0) ⟨rfl, rfl, rfl, trivial⟩ ?_
      refine WJ.loop (X := Int) (fun N (x : Int) => w_f6ints_l1 k8 a1 b4 N x = some r) (fun (x : Int) => [(0, v2), (1, v5), (5, .int .i64 x)]) (fun (x : Int) => []) ?_ N 0 hm
      · rintro N i10 hI
        have hm := hI; clear hI
        cases N with
        | zero => cases hm
        | succ N =>
        unfold w_f6ints_l1 at hm
        refine WJ.seq ?_
        refine WJ.seq ?_
        refine WJ.quiet ?_
        refine QJ.step (YldS.yld (y_move rfl)) rfl ?_
        refine QJ.step (YldS.yld (y_move rfl)) rfl ?_
        refine QJ.step (YldS.yld (y_lenS Try.runUnderlying31 hr3 rfl)) rfl ?_
        refine QJ.step (YldS.yld (y_bin rfl rfl rfl)) rfl ?_
        refine QJ.done ?_
        refine PJ.next ?_
        refine WJ.cond (t := decide (i10 < (List.length a1 : Int))) rfl (fun hb11 => ?_) (fun hb11 => ?_)
        · replace hm := ifT hm hb11
          refine WJ.skip ?_
          refine PJ.next ?_
          refine WJ.seq ?_
          refine WJ.block ?_
          refine WJ.seq ?_
          refine WJ.quiet_draw follows (by kernel_rfl) ?_
          refine QJ.step (YldS.yld (y_move rfl)) rfl ?_
          refine QJ.step (YldS.yld (y_move rfl)) rfl ?_
          obtain ⟨e12, h13, hm⟩ := bindS hm
          obtain ⟨ad14, _, rfl, ha15, hy16⟩ := hr3.elem h13
          refine QJ.step (YldS.yld (hy16 Try.runUnderlying31 Try.sizeOf2 rfl rfl)) rfl ?_
          refine QJ.step (YldS.yld (y_load1 (v := .int .i64 e12) Try.isAgg2 ha15 St.frozenC rfl)) rfl ?_
          refine QJ.step (YldS.yld (y_move rfl)) rfl ?_
          refine QJ.step (YldS.yld (y_move rfl)) rfl ?_
          obtain ⟨e17, h18, hm⟩ := bindS hm
          obtain ⟨ad19, _, rfl, ha20, hy21⟩ := hr6.elem h18
          refine QJ.step (YldS.yld (hy21 Try.runUnderlying31 Try.sizeOf2 rfl rfl)) rfl ?_
          refine QJ.step (YldS.yld (y_load1 (v := .int .i64 e17) Try.isAgg2 ha20 St.frozenC rfl)) rfl ?_
          refine QJ.step (YldS.yld (y_bin rfl rfl rfl)) rfl ?_
          refine QJ.done ?_
          refine PJ.next ?_
          refine WJ.cond (t := (e12 != e17)) rfl (fun hb22 => ?_) (fun hb22 => ?_)
          · replace hm := ifT hm hb22
            refine WJ.seq ?_
            refine WJ.quiet ?_
            refine QJ.step (YldS.yld (y_assign rfl)) rfl ?_
            refine QJ.done ?_
            refine PJ.next ?_
            refine WJ.ret ?_
            refine PJ.block_ret (PJ.then_ret (PJ.then_ret (PJ.block_ret (PJ.then_ret ?_))))
            obtain rfl := Option.some.inj hm
            refine PJ.sel (L' := []) [] ⟨List.nodup_nil, rfl⟩ ?_
            exact PJ.retn (vs := [.bool false]) Try.results23 ⟨rfl, trivial⟩ ⟨rfl, rfl⟩
          · replace hm := ifF hm hb22
            refine WJ.skip ?_
            refine PJ.block_normal (PJ.next ?_)
            refine WJ.quiet ?_
            refine QJ.step (YldS.yld (y_move rfl)) rfl ?_
            refine QJ.step (YldS.yld (y_bin rfl rfl rfl)) rfl ?_
            refine QJ.step (YldS.yld (y_assign rfl)) rfl ?_
            refine QJ.done ?_
            exact PJ.round (w64 (i10 + 1)) [] hm ⟨rfl, rfl, rfl, trivial⟩ ⟨List.nodup_nil, rfl⟩
        · replace hm := ifF hm hb11
          refine WJ.exit ?_
          refine PJ.then_exit (PJ.then_exit (PJ.block_exit ?_))
          exact PJ.joined () [] hm trivial ⟨List.nodup_nil, rfl⟩
    · rintro _ hm
      subst hk9
      refine WJ.seq ?_
      refine WJ.quiet ?_
      refine QJ.step (YldS.yld (y_assign rfl)) rfl ?_
      refine QJ.done ?_
      refine PJ.next ?_
      refine WJ.ret ?_
      obtain rfl := Option.some.inj hm
      refine PJ.sel (L' := []) [] ⟨List.nodup_nil, rfl⟩ ?_
      exact PJ.retn (vs := [.bool true]) Try.results23 ⟨rfl, trivial⟩ ⟨rfl, rfl⟩

set_option maxRecDepth 100000 in
set_option maxHeartbeats 1000000 in
theorem ok_s_OverText {x1 : Over} {r : Str} (hm : s_OverText x1 = some r) (w : World)  :
    Calls Try.prog 24 #[.agg (Over.enc x1).toArray] w (Ret (cx w) (str r)) := by
  unfold s_OverText at hm
  refine Calls.enter [.agg (Over.enc x1).toArray] Try.func24 rfl Try.ntmps24 rfl ?_
  refine WJ.seq ?_
  refine WJ.reg ?_
  refine SJ.box (cs := [str x1.under, str x1.top, str x1.seen]) rfl rfl rfl fun g2 => ?_
  refine SJ.q (YldS.yld (y_assign rfl)) rfl ?_
  refine SJ.nil ?_
  refine PJ.next ?_
  refine WJ.seq ?_
  refine WJ.seq ?_
  refine WJ.quiet ?_
  obtain ⟨r3, h4, hm⟩ := bindS hm
  refine QJ.step (y_call Try.call60 rfl (RetG.quiet fun w hw => ok_s_l12One h4 w _ (hw.box_at (k := 0) rfl))) rfl ?_
  refine QJ.step (YldS.yld (y_not rfl)) rfl ?_
  refine QJ.done ?_
  refine PJ.next ?_
  refine WJ.cond (t := !r3) rfl (fun hb5 => ?_) (fun hb5 => ?_)
  · replace hm := ifT hm hb5
    refine WJ.seq ?_
    refine WJ.quiet ?_
    refine QJ.step (YldS.yld (y_assign rfl)) rfl ?_
    refine QJ.done ?_
    refine PJ.next ?_
    refine WJ.ret ?_
    refine PJ.then_ret ?_
    obtain rfl := Option.some.inj hm
    refine PJ.sel (L' := []) [] ⟨List.nodup_nil, rfl⟩ ?_
    exact PJ.retn (vs := [str []]) Try.results24 ⟨rfl, trivial⟩ ⟨rfl, rfl⟩
  · replace hm := ifF hm hb5
    refine WJ.skip ?_
    refine PJ.next ?_
    refine WJ.seq ?_
    refine WJ.quiet ?_
    refine QJ.step (YldS.yld (y_fldB (o := 0) fld42_0 rfl)) rfl ?_
    refine QJ.step (YldS.yld (y_loadB (k := 0) (off := 0) (v := str x1.under) rfl Try.isAgg9 rfl rfl)) rfl ?_
    obtain ⟨s6, h7, hm⟩ := bindS hm
    refine QJ.step (YldS.yld (y_cat h7 rfl rfl)) rfl ?_
    refine QJ.step (YldS.yld (y_fldB (o := 0) fld42_1 rfl)) rfl ?_
    refine QJ.step (YldS.yld (y_loadB (k := 0) (off := 1) (v := str x1.top) rfl Try.isAgg9 rfl rfl)) rfl ?_
    obtain ⟨s8, h9, hm⟩ := bindS hm
    refine QJ.step (YldS.yld (y_cat h9 rfl rfl)) rfl ?_
    obtain ⟨s10, h11, hm⟩ := bindS hm
    refine QJ.step (YldS.yld (y_cat h11 rfl rfl)) rfl ?_
    refine QJ.step (YldS.yld (y_fldB (o := 0) fld42_2 rfl)) rfl ?_
    refine QJ.step (YldS.yld (y_loadB (k := 0) (off := 2) (v := str x1.seen) rfl Try.isAgg9 rfl rfl)) rfl ?_
    obtain ⟨s12, h13, hm⟩ := bindS hm
    refine QJ.step (YldS.yld (y_cat h13 rfl rfl)) rfl ?_
    refine QJ.step (YldS.yld (y_assign rfl)) rfl ?_
    refine QJ.done ?_
    refine PJ.next ?_
    refine WJ.ret ?_
    obtain rfl := Option.some.inj hm
    refine PJ.sel (L' := []) [] ⟨List.nodup_nil, rfl⟩ ?_
    exact PJ.retn (vs := [str s12]) Try.results24 ⟨rfl, trivial⟩ ⟨rfl, rfl⟩

set_option maxRecDepth 100000 in
set_option maxHeartbeats 1000000 in
theorem ok_w_FnSeenLetters {N : Nat} {code1 : List UInt8} {r : Bool} (hm : w_FnSeenLetters N code1 = some r) (w : World) (v2 : Value) (hr3 : RdS w (cx w).Fz v2 fByte.rp code1) :
    Calls Try.prog 3 #[v2] w (Ret (cx w) (.bool r)) := by
  unfold w_FnSeenLetters at hm
  refine Calls.enter [v2] Try.func3 rfl Try.ntmps3 rfl ?_
  refine WJ.seq ?_
  refine WJ.quiet ?_
  refine QJ.step (YldS.yld (y_assign rfl)) rfl ?_
  refine QJ.done ?_
  refine PJ.next ?_
  refine WJ.seq ?_
  refine WJ.seq ?_
  refine WJ.quiet ?_
  refine QJ.step (YldS.yld (y_move rfl)) rfl ?_
  obtain ⟨r4, h5, hm⟩ := bindS hm
  refine QJ.step (y_call Try.call5 rfl (RetG.quiet fun w hw => ok_w_f6big h5 w _ (hr3.st hw))) rfl ?_
  refine QJ.done ?_
  refine PJ.next ?_
  refine WJ.cond (t := r4) rfl (fun hb6 => ?_) (fun hb6 => ?_)
  · replace hm := ifT hm hb6
    refine WJ.seq ?_
    refine WJ.quiet ?_
    refine QJ.step (YldS.yld (y_assign rfl)) rfl ?_
    refine QJ.done ?_
    refine PJ.next ?_
    refine WJ.ret ?_
    refine PJ.then_ret ?_
    obtain rfl := Option.some.inj hm
    refine PJ.sel (L' := []) [] ⟨List.nodup_nil, rfl⟩ ?_
    exact PJ.retn (vs := [.bool true]) Try.results3 ⟨rfl, trivial⟩ ⟨rfl, rfl⟩
  · replace hm := ifF hm hb6
    refine WJ.skip ?_
    refine PJ.next ?_
    refine WJ.seq ?_
    refine WJ.reg ?_
    refine SJ.q (YldS.yld (y_move rfl)) rfl ?_
    obtain ⟨r7, h8, hm⟩ := bindS hm
    refine SJ.call Try.call6 rfl (fun w hw => ok_s_DrawSeenOver h8 w _ (hr3.st hw)) rfl ?_
    rintro _ _ ⟨v9, rfl, rfl⟩
    refine SJ.q (YldS.yld (y_move rfl)) rfl ?_
    refine SJ.q (YldS.yld (y_extract rfl rfl)) rfl ?_
    refine SJ.q (YldS.yld (y_extract rfl rfl)) rfl ?_
    refine SJ.q (YldS.yld (y_extract rfl rfl)) rfl ?_
    refine SJ.q (YldS.yld (y_assign rfl)) rfl ?_
    refine SJ.q (YldS.yld (y_assign rfl)) rfl ?_
    refine SJ.q (YldS.yld (y_assign rfl)) rfl ?_
    refine SJ.nil ?_
    refine PJ.next ?_
    refine WJ.seq ?_
    refine WJ.quiet ?_
    refine QJ.step (YldS.yld (y_move rfl)) rfl ?_
    refine QJ.step (YldS.yld (y_move rfl)) rfl ?_
    refine QJ.step (YldS.yld (y_move rfl)) rfl ?_
    obtain ⟨r10, h11, hm⟩ := bindS hm
    refine QJ.step (y_call Try.call7 rfl (RetG.quiet fun w hw => ok_i_SeenOver h11 w _ (hw.row_rd (k := 0) rfl))) rfl ?_
    refine QJ.step (YldS.yld (y_move rfl)) rfl ?_
    refine QJ.step (YldS.yld (y_extract rfl rfl)) rfl ?_
    refine QJ.step (YldS.yld (y_extract rfl rfl)) rfl ?_
    refine QJ.step (YldS.yld (y_assign rfl)) rfl ?_
    refine QJ.step (YldS.yld (y_assign rfl)) rfl ?_
    refine QJ.done ?_
    refine PJ.next ?_
    refine WJ.seq ?_
    refine WJ.quiet ?_
    refine QJ.step (YldS.yld (y_move rfl)) rfl ?_
    refine QJ.step (YldS.yld (y_move rfl)) rfl ?_
    refine QJ.step (YldS.yld (y_move rfl)) rfl ?_
    obtain ⟨r12, h13, hm⟩ := bindS hm
    refine QJ.step (y_call Try.call8 rfl (RetG.quiet fun w hw => ok_s_SeenOver h13 w _ (hw.row_rd (k := 0) rfl))) rfl ?_
    refine QJ.step (YldS.yld (y_move rfl)) rfl ?_
    refine QJ.step (YldS.yld (y_extract rfl rfl)) rfl ?_
    refine QJ.step (YldS.yld (y_extract rfl rfl)) rfl ?_
    refine QJ.step (YldS.yld (y_assign rfl)) rfl ?_
    refine QJ.step (YldS.yld (y_assign rfl)) rfl ?_
    refine QJ.done ?_
    refine PJ.next ?_
    refine WJ.seq ?_
    refine WJ.quiet ?_
    refine QJ.step (YldS.yld (y_move rfl)) rfl ?_
    obtain ⟨r14, h15, hm⟩ := bindS hm
    refine QJ.step (y_call Try.call9 rfl (RetG.quiet fun w hw => ok_s_DrawWrongPlaces h15 w _ (hr3.st hw))) rfl ?_
    refine QJ.step (YldS.yld (y_move rfl)) rfl ?_
    refine QJ.step (YldS.yld (y_extract rfl rfl)) rfl ?_
    refine QJ.step (YldS.yld (y_extract rfl rfl)) rfl ?_
    refine QJ.step (YldS.yld (y_assign rfl)) rfl ?_
    refine QJ.step (YldS.yld (y_assign rfl)) rfl ?_
    refine QJ.done ?_
    refine PJ.next ?_
    refine WJ.seq ?_
    refine WJ.reg ?_
    refine SJ.q (YldS.yld (y_move rfl)) rfl ?_
    refine SJ.q (YldS.yld (y_move rfl)) rfl ?_
    obtain ⟨r16, h17, hm⟩ := bindS hm
    refine SJ.call Try.call10 rfl (fun w hw => ok_i_WrongPlaces h17 w ) rfl ?_
    rintro _ _ ⟨v18, rfl, rfl⟩
    refine SJ.q (YldS.yld (y_move rfl)) rfl ?_
    refine SJ.q (YldS.yld (y_extract rfl rfl)) rfl ?_
    refine SJ.q (YldS.yld (y_extract rfl rfl)) rfl ?_
    refine SJ.q (YldS.yld (y_assign rfl)) rfl ?_
    refine SJ.q (YldS.yld (y_assign rfl)) rfl ?_
    refine SJ.nil ?_
    refine PJ.next ?_
    refine WJ.seq ?_
    refine WJ.reg ?_
    refine SJ.q (YldS.yld (y_move rfl)) rfl ?_
    refine SJ.q (YldS.yld (y_move rfl)) rfl ?_
    obtain ⟨r19, h20, hm⟩ := bindS hm
    refine SJ.call Try.call11 rfl (fun w hw => ok_s_WrongPlaces h20 w ) rfl ?_
    rintro _ _ ⟨v21, rfl, rfl⟩
    refine SJ.q (YldS.yld (y_move rfl)) rfl ?_
    refine SJ.q (YldS.yld (y_extract rfl rfl)) rfl ?_
    refine SJ.q (YldS.yld (y_extract rfl rfl)) rfl ?_
    refine SJ.q (YldS.yld (y_assign rfl)) rfl ?_
    refine SJ.q (YldS.yld (y_assign rfl)) rfl ?_
    refine SJ.nil ?_
    refine PJ.next ?_
    refine WJ.seq ?_
    refine WJ.quiet ?_
    refine QJ.step (YldS.yld (y_move rfl)) rfl ?_
    obtain ⟨r22, h23, hm⟩ := bindS hm
    refine QJ.step (y_call Try.call12 rfl (RetG.quiet fun w hw => ok_s_DrawShiftedMatch h23 w _ (hr3.st hw))) rfl ?_
    refine QJ.step (YldS.yld (y_move rfl)) rfl ?_
    refine QJ.step (YldS.yld (y_extract rfl rfl)) rfl ?_
    refine QJ.step (YldS.yld (y_extract rfl rfl)) rfl ?_
    refine QJ.step (YldS.yld (y_extract rfl rfl)) rfl ?_
    refine QJ.step (YldS.yld (y_assign rfl)) rfl ?_
    refine QJ.step (YldS.yld (y_assign rfl)) rfl ?_
    refine QJ.step (YldS.yld (y_assign rfl)) rfl ?_
    refine QJ.done ?_
    refine PJ.next ?_
    refine WJ.seq ?_
    refine WJ.quiet ?_
    refine QJ.step (YldS.yld (y_move rfl)) rfl ?_
    refine QJ.step (YldS.yld (y_move rfl)) rfl ?_
    refine QJ.step (YldS.yld (y_move rfl)) rfl ?_
    obtain ⟨r24, h25, hm⟩ := bindS hm
    refine QJ.step (y_call Try.call13 rfl (RetG.quiet fun w hw => ok_i_ShiftedMatch h25 w )) rfl ?_
    refine QJ.step (YldS.yld (y_move rfl)) rfl ?_
    refine QJ.step (YldS.yld (y_extract rfl rfl)) rfl ?_
    refine QJ.step (YldS.yld (y_extract rfl rfl)) rfl ?_
    refine QJ.step (YldS.yld (y_extract rfl rfl)) rfl ?_
    refine QJ.step (YldS.yld (y_assign rfl)) rfl ?_
    refine QJ.step (YldS.yld (y_assign rfl)) rfl ?_
    refine QJ.step (YldS.yld (y_assign rfl)) rfl ?_
    refine QJ.done ?_
    refine PJ.next ?_
    refine WJ.seq ?_
    refine WJ.quiet ?_
    refine QJ.step (YldS.yld (y_move rfl)) rfl ?_
    refine QJ.step (YldS.yld (y_move rfl)) rfl ?_
    refine QJ.step (YldS.yld (y_move rfl)) rfl ?_
    obtain ⟨r26, h27, hm⟩ := bindS hm
    refine QJ.step (y_call Try.call14 rfl (RetG.quiet fun w hw => ok_s_ShiftedMatch h27 w )) rfl ?_
    refine QJ.step (YldS.yld (y_move rfl)) rfl ?_
    refine QJ.step (YldS.yld (y_extract rfl rfl)) rfl ?_
    refine QJ.step (YldS.yld (y_extract rfl rfl)) rfl ?_
    refine QJ.step (YldS.yld (y_extract rfl rfl)) rfl ?_
    refine QJ.step (YldS.yld (y_assign rfl)) rfl ?_
    refine QJ.step (YldS.yld (y_assign rfl)) rfl ?_
    refine QJ.step (YldS.yld (y_assign rfl)) rfl ?_
    refine QJ.done ?_
    refine PJ.next ?_
    refine WJ.seq ?_
    refine WJ.reg ?_
    refine SJ.q (YldS.yld (y_move rfl)) rfl ?_
    obtain ⟨r28, h29, hm⟩ := bindS hm
    refine SJ.call Try.call15 rfl (fun w hw => ok_s_DrawWornPlaces h29 w _ (hr3.st hw)) rfl ?_
    rintro v30 _ ⟨_, rfl, rfl⟩
    refine SJ.q (YldS.yld (y_assign rfl)) rfl ?_
    refine SJ.nil ?_
    refine PJ.next ?_
    refine WJ.seq ?_
    refine WJ.reg ?_
    refine SJ.q (YldS.yld (y_move rfl)) rfl ?_
    obtain ⟨r31, h32, hm⟩ := bindS hm
    refine SJ.call Try.call16 rfl (fun w hw => ok_i_WornPlaces h32 w _ (hw.row_rd (k := 0) rfl)) rfl ?_
    rintro _ _ ⟨v33, rfl, rfl⟩
    refine SJ.q (YldS.yld (y_move rfl)) rfl ?_
    refine SJ.q (YldS.yld (y_extract rfl rfl)) rfl ?_
    refine SJ.q (YldS.yld (y_extract rfl rfl)) rfl ?_
    refine SJ.q (YldS.yld (y_assign rfl)) rfl ?_
    refine SJ.q (YldS.yld (y_assign rfl)) rfl ?_
    refine SJ.nil ?_
    refine PJ.next ?_
    refine WJ.seq ?_
    refine WJ.reg ?_
    refine SJ.q (YldS.yld (y_move rfl)) rfl ?_
    obtain ⟨r34, h35, hm⟩ := bindS hm
    refine SJ.call Try.call17 rfl (fun w hw => ok_s_WornPlaces h35 w _ (hw.row_rd (k := 1) rfl)) rfl ?_
    rintro _ _ ⟨v36, rfl, rfl⟩
    refine SJ.q (YldS.yld (y_move rfl)) rfl ?_
    refine SJ.q (YldS.yld (y_extract rfl rfl)) rfl ?_
    refine SJ.q (YldS.yld (y_extract rfl rfl)) rfl ?_
    refine SJ.q (YldS.yld (y_assign rfl)) rfl ?_
    refine SJ.q (YldS.yld (y_assign rfl)) rfl ?_
    refine SJ.nil ?_
    refine PJ.next ?_
    refine WJ.seq ?_
    refine WJ.reg ?_
    refine SJ.q (YldS.yld (y_move rfl)) rfl ?_
    obtain ⟨r37, h38, hm⟩ := bindS hm
    refine SJ.q (y_call Try.call18 rfl (RetG.quiet fun w hw => ok_s_DrawOverText h38 w _ (hr3.st hw))) rfl ?_
    refine SJ.alloc (cs := [str [], str [], str []]) Try.zeroValue42 rfl rfl fun g39 => ?_
    refine SJ.storeL (k := 0) (off := 0) (us := [str r37.under, str r37.top, str r37.seen]) rfl rfl rfl rfl Try.sizeOf42 rfl rfl ?_
    refine SJ.nil ?_
    refine PJ.next ?_
    refine WJ.seq ?_
    refine WJ.quiet ?_
    refine QJ.step (YldS.yld (y_loadBN (k := 0) (off := 0) (us := [str r37.under, str r37.top, str r37.seen]) rfl Try.isAgg42 Try.sizeOf42 rfl rfl)) rfl ?_
    obtain ⟨r40, h41, hm⟩ := bindS hm
    refine QJ.step (y_call Try.call19 rfl (RetG.quiet fun w hw => ok_i_OverText h41 w )) rfl ?_
    refine QJ.step (YldS.yld (y_assign rfl)) rfl ?_
    refine QJ.done ?_
    refine PJ.next ?_
    refine WJ.seq ?_
    refine WJ.reg ?_
    refine SJ.q (YldS.yld (y_move rfl)) rfl ?_
    obtain ⟨r42, h43, hm⟩ := bindS hm
    refine SJ.q (y_call Try.call20 rfl (RetG.quiet fun w hw => ok_i_ReadOver h43 w )) rfl ?_
    refine SJ.q (YldS.yld (y_move rfl)) rfl ?_
    refine SJ.q (YldS.yld (y_extract rfl rfl)) rfl ?_
    refine SJ.q (YldS.yld (y_extract rfl rfl)) rfl ?_
    refine SJ.alloc (cs := [str [], str [], str []]) Try.zeroValue42 rfl rfl fun g44 => ?_
    refine SJ.storeL (k := 0) (off := 0) (us := [str r42.1.under, str r42.1.top, str r42.1.seen]) rfl rfl rfl rfl Try.sizeOf42 rfl rfl ?_
    refine SJ.q (YldS.yld (y_assign rfl)) rfl ?_
    refine SJ.nil ?_
    refine PJ.next ?_
    refine WJ.seq ?_
    refine WJ.quiet ?_
    refine QJ.step (YldS.yld (y_move rfl)) rfl ?_
    obtain ⟨r45, h46, hm⟩ := bindS hm
    refine QJ.step (y_call Try.call21 rfl (RetG.quiet fun w hw => ok_s_DrawReadOver h46 w _ (hr3.st hw))) rfl ?_
    refine QJ.step (YldS.yld (y_assign rfl)) rfl ?_
    refine QJ.done ?_
    refine PJ.next ?_
    refine WJ.seq ?_
    refine WJ.reg ?_
    refine SJ.q (YldS.yld (y_move rfl)) rfl ?_
    obtain ⟨r47, h48, hm⟩ := bindS hm
    refine SJ.q (y_call Try.call20 rfl (RetG.quiet fun w hw => ok_i_ReadOver h48 w )) rfl ?_
    refine SJ.q (YldS.yld (y_move rfl)) rfl ?_
    refine SJ.q (YldS.yld (y_extract rfl rfl)) rfl ?_
    refine SJ.q (YldS.yld (y_extract rfl rfl)) rfl ?_
    refine SJ.alloc (cs := [str [], str [], str []]) Try.zeroValue42 rfl rfl fun g49 => ?_
    refine SJ.storeL (k := 0) (off := 0) (us := [str r47.1.under, str r47.1.top, str r47.1.seen]) rfl rfl rfl rfl Try.sizeOf42 rfl rfl ?_
    refine SJ.q (YldS.yld (y_assign rfl)) rfl ?_
    refine SJ.nil ?_
    refine PJ.next ?_
    refine WJ.seq ?_
    refine WJ.reg ?_
    refine SJ.q (YldS.yld (y_move rfl)) rfl ?_
    obtain ⟨r50, h51, hm⟩ := bindS hm
    refine SJ.q (y_call Try.call22 rfl (RetG.quiet fun w hw => ok_s_ReadOver h51 w )) rfl ?_
    refine SJ.q (YldS.yld (y_move rfl)) rfl ?_
    refine SJ.q (YldS.yld (y_extract rfl rfl)) rfl ?_
    refine SJ.q (YldS.yld (y_extract rfl rfl)) rfl ?_
    refine SJ.alloc (cs := [str [], str [], str []]) Try.zeroValue42 rfl rfl fun g52 => ?_
    refine SJ.storeL (k := 0) (off := 0) (us := [str r50.1.under, str r50.1.top, str r50.1.seen]) rfl rfl rfl rfl Try.sizeOf42 rfl rfl ?_
    refine SJ.q (YldS.yld (y_assign rfl)) rfl ?_
    refine SJ.nil ?_
    refine PJ.next ?_
    refine WJ.seq ?_
    refine WJ.seq ?_
    refine WJ.quiet ?_
    refine QJ.step (YldS.yld (y_move rfl)) rfl ?_
    refine QJ.step (YldS.yld (y_move rfl)) rfl ?_
    refine QJ.step (YldS.yld (y_bin rfl rfl rfl)) rfl ?_
    refine QJ.step (YldS.yld (y_move rfl)) rfl ?_
    obtain ⟨t53, h54, hm⟩ := bindS hm
    refine QJ.cut 4 [(3, v9), (4, str r7.2.1), (5, str r7.2.2), (7, .int .i64 r10.2), (10, str r14.1), (11, str r14.2), (12, v18), (13, .int .i64 r16.2), (14, v21), (15, .int .i64 r19.2), (16, str r22.1), (17, str r22.2.1), (18, .int .i64 r22.2.2), (19, .int .i64 r24.1), (20, .int .i64 r24.2.1), (21, .int .i64 r24.2.2), (22, .int .i64 r26.1), (23, .int .i64 r26.2.1), (24, .int .i64 r26.2.2), (26, v33), (27, .int .i64 r31.2), (28, v36), (29, .int .i64 r34.2), (30, pt g39 0), (31, str r40), (32, pt g44 0), (33, .bool r42.2), (35, pt g49 0), (36, .bool r47.2), (37, pt g52 0), (38, .bool r50.2), (148, .bool t53)] ?_ ?_
    · rcases Bool.eq_false_or_eq_true (r10.2 != r12.2) with hb55 | hb55
      · obtain rfl := orT h54 hb55
        refine QJ.off rfl rfl (cB hb55) rfl rfl ?_
        refine QJ.off rfl rfl (cB hb55) rfl rfl ?_
        refine QJ.off rfl rfl (cB hb55) rfl rfl ?_
        refine QJ.step (YldS.yld (y_pick_t (cB hb55) rfl)) rfl ?_
        exact QJ.cut_end ⟨rfl, rfl, rfl, rfl, rfl, rfl, rfl, rfl, rfl, rfl, rfl, rfl, rfl, rfl, rfl, rfl, rfl, rfl, rfl, rfl, rfl, rfl, rfl, rfl, rfl, rfl, rfl, rfl, rfl, rfl, rfl, rfl, trivial⟩
      · replace h54 := orF h54 hb55
        refine QJ.on rfl rfl (cB hb55) (YldS.yld (y_move rfl)) rfl ?_
        refine QJ.on rfl rfl (cB hb55) (YldS.yld (y_move rfl)) rfl ?_
        refine QJ.on rfl rfl (cB hb55) (YldS.yld (y_binS rfl rfl rfl)) rfl ?_
        refine QJ.step (YldS.yld (y_pick_f (cB hb55) rfl)) rfl ?_
        obtain rfl := Option.some.inj h54
        exact QJ.cut_end ⟨rfl, rfl, rfl, rfl, rfl, rfl, rfl, rfl, rfl, rfl, rfl, rfl, rfl, rfl, rfl, rfl, rfl, rfl, rfl, rfl, rfl, rfl, rfl, rfl, rfl, rfl, rfl, rfl, rfl, rfl, rfl, rfl, trivial⟩
    refine QJ.step (YldS.yld (y_move rfl)) rfl ?_
    obtain ⟨t56, h57, hm⟩ := bindS hm
    refine QJ.cut 4 [(3, v9), (4, str r7.2.1), (5, str r7.2.2), (7, .int .i64 r10.2), (10, str r14.1), (11, str r14.2), (12, v18), (13, .int .i64 r16.2), (14, v21), (16, str r22.1), (17, str r22.2.1), (18, .int .i64 r22.2.2), (19, .int .i64 r24.1), (20, .int .i64 r24.2.1), (21, .int .i64 r24.2.2), (22, .int .i64 r26.1), (23, .int .i64 r26.2.1), (24, .int .i64 r26.2.2), (26, v33), (27, .int .i64 r31.2), (28, v36), (29, .int .i64 r34.2), (30, pt g39 0), (31, str r40), (32, pt g44 0), (33, .bool r42.2), (35, pt g49 0), (36, .bool r47.2), (37, pt g52 0), (38, .bool r50.2), (153, .bool t56)] ?_ ?_
    · rcases Bool.eq_false_or_eq_true t53 with hb58 | hb58
      · obtain rfl := orT h57 hb58
        refine QJ.off rfl rfl (cB hb58) rfl rfl ?_
        refine QJ.off rfl rfl (cB hb58) rfl rfl ?_
        refine QJ.off rfl rfl (cB hb58) rfl rfl ?_
        refine QJ.step (YldS.yld (y_pick_t (cB hb58) rfl)) rfl ?_
        exact QJ.cut_end ⟨rfl, rfl, rfl, rfl, rfl, rfl, rfl, rfl, rfl, rfl, rfl, rfl, rfl, rfl, rfl, rfl, rfl, rfl, rfl, rfl, rfl, rfl, rfl, rfl, rfl, rfl, rfl, rfl, rfl, rfl, rfl, trivial⟩
      · replace h57 := orF h57 hb58
        refine QJ.on rfl rfl (cB hb58) (YldS.yld (y_move rfl)) rfl ?_
        refine QJ.on rfl rfl (cB hb58) (YldS.yld (y_move rfl)) rfl ?_
        refine QJ.on rfl rfl (cB hb58) (YldS.yld (y_bin rfl rfl rfl)) rfl ?_
        refine QJ.step (YldS.yld (y_pick_f (cB hb58) rfl)) rfl ?_
        obtain rfl := Option.some.inj h57
        exact QJ.cut_end ⟨rfl, rfl, rfl, rfl, rfl, rfl, rfl, rfl, rfl, rfl, rfl, rfl, rfl, rfl, rfl, rfl, rfl, rfl, rfl, rfl, rfl, rfl, rfl, rfl, rfl, rfl, rfl, rfl, rfl, rfl, rfl, trivial⟩
    refine QJ.step (YldS.yld (y_move rfl)) rfl ?_
    obtain ⟨t59, h60, hm⟩ := bindS hm
    refine QJ.cut 5 [(3, v9), (4, str r7.2.1), (5, str r7.2.2), (7, .int .i64 r10.2), (10, str r14.1), (11, str r14.2), (13, .int .i64 r16.2), (14, v21), (16, str r22.1), (17, str r22.2.1), (18, .int .i64 r22.2.2), (19, .int .i64 r24.1), (20, .int .i64 r24.2.1), (21, .int .i64 r24.2.2), (22, .int .i64 r26.1), (23, .int .i64 r26.2.1), (24, .int .i64 r26.2.2), (26, v33), (27, .int .i64 r31.2), (28, v36), (29, .int .i64 r34.2), (30, pt g39 0), (31, str r40), (32, pt g44 0), (33, .bool r42.2), (35, pt g49 0), (36, .bool r47.2), (37, pt g52 0), (38, .bool r50.2), (159, .bool t59)] ?_ ?_
    · rcases Bool.eq_false_or_eq_true t56 with hb61 | hb61
      · obtain rfl := orT h60 hb61
        refine QJ.off rfl rfl (cB hb61) rfl rfl ?_
        refine QJ.off rfl rfl (cB hb61) rfl rfl ?_
        refine QJ.off rfl rfl (cB hb61) rfl rfl ?_
        refine QJ.off rfl rfl (cB hb61) rfl rfl ?_
        refine QJ.step (YldS.yld (y_pick_t (cB hb61) rfl)) rfl ?_
        exact QJ.cut_end ⟨rfl, rfl, rfl, rfl, rfl, rfl, rfl, rfl, rfl, rfl, rfl, rfl, rfl, rfl, rfl, rfl, rfl, rfl, rfl, rfl, rfl, rfl, rfl, rfl, rfl, rfl, rfl, rfl, rfl, rfl, trivial⟩
      · replace h60 := orF h60 hb61
        refine QJ.on rfl rfl (cB hb61) (YldS.yld (y_move rfl)) rfl ?_
        refine QJ.on rfl rfl (cB hb61) (YldS.yld (y_move rfl)) rfl ?_
        obtain ⟨r62, h63, h60⟩ := bindS h60
        refine QJ.on rfl rfl (cB hb61) (y_call Try.call23 rfl (RetG.quiet fun w hw => ok_w_f6ints h63 w _ (hw.row_rd (k := 8) rfl) _ (hw.row_rd (k := 7) rfl))) rfl ?_
        refine QJ.on rfl rfl (cB hb61) (YldS.yld (y_not rfl)) rfl ?_
        refine QJ.step (YldS.yld (y_pick_f (cB hb61) rfl)) rfl ?_
        obtain rfl := Option.some.inj h60
        exact QJ.cut_end ⟨rfl, rfl, rfl, rfl, rfl, rfl, rfl, rfl, rfl, rfl, rfl, rfl, rfl, rfl, rfl, rfl, rfl, rfl, rfl, rfl, rfl, rfl, rfl, rfl, rfl, rfl, rfl, rfl, rfl, rfl, trivial⟩
    refine QJ.step (YldS.yld (y_move rfl)) rfl ?_
    obtain ⟨t64, h65, hm⟩ := bindS hm
    refine QJ.cut 4 [(3, v9), (4, str r7.2.1), (5, str r7.2.2), (7, .int .i64 r10.2), (10, str r14.1), (11, str r14.2), (13, .int .i64 r16.2), (14, v21), (16, str r22.1), (17, str r22.2.1), (18, .int .i64 r22.2.2), (19, .int .i64 r24.1), (20, .int .i64 r24.2.1), (21, .int .i64 r24.2.2), (22, .int .i64 r26.1), (23, .int .i64 r26.2.1), (26, v33), (27, .int .i64 r31.2), (28, v36), (29, .int .i64 r34.2), (30, pt g39 0), (31, str r40), (32, pt g44 0), (33, .bool r42.2), (35, pt g49 0), (36, .bool r47.2), (37, pt g52 0), (38, .bool r50.2), (164, .bool t64)] ?_ ?_
    · rcases Bool.eq_false_or_eq_true t59 with hb66 | hb66
      · obtain rfl := orT h65 hb66
        refine QJ.off rfl rfl (cB hb66) rfl rfl ?_
        refine QJ.off rfl rfl (cB hb66) rfl rfl ?_
        refine QJ.off rfl rfl (cB hb66) rfl rfl ?_
        refine QJ.step (YldS.yld (y_pick_t (cB hb66) rfl)) rfl ?_
        exact QJ.cut_end ⟨rfl, rfl, rfl, rfl, rfl, rfl, rfl, rfl, rfl, rfl, rfl, rfl, rfl, rfl, rfl, rfl, rfl, rfl, rfl, rfl, rfl, rfl, rfl, rfl, rfl, rfl, rfl, rfl, rfl, trivial⟩
      · replace h65 := orF h65 hb66
        refine QJ.on rfl rfl (cB hb66) (YldS.yld (y_move rfl)) rfl ?_
        refine QJ.on rfl rfl (cB hb66) (YldS.yld (y_move rfl)) rfl ?_
        refine QJ.on rfl rfl (cB hb66) (YldS.yld (y_bin rfl rfl rfl)) rfl ?_
        refine QJ.step (YldS.yld (y_pick_f (cB hb66) rfl)) rfl ?_
        obtain rfl := Option.some.inj h65
        exact QJ.cut_end ⟨rfl, rfl, rfl, rfl, rfl, rfl, rfl, rfl, rfl, rfl, rfl, rfl, rfl, rfl, rfl, rfl, rfl, rfl, rfl, rfl, rfl, rfl, rfl, rfl, rfl, rfl, rfl, rfl, rfl, trivial⟩
    refine QJ.step (YldS.yld (y_move rfl)) rfl ?_
    obtain ⟨t67, h68, hm⟩ := bindS hm
    refine QJ.cut 4 [(3, v9), (4, str r7.2.1), (5, str r7.2.2), (7, .int .i64 r10.2), (10, str r14.1), (11, str r14.2), (13, .int .i64 r16.2), (14, v21), (16, str r22.1), (17, str r22.2.1), (18, .int .i64 r22.2.2), (19, .int .i64 r24.1), (20, .int .i64 r24.2.1), (21, .int .i64 r24.2.2), (23, .int .i64 r26.2.1), (26, v33), (27, .int .i64 r31.2), (28, v36), (29, .int .i64 r34.2), (30, pt g39 0), (31, str r40), (32, pt g44 0), (33, .bool r42.2), (35, pt g49 0), (36, .bool r47.2), (37, pt g52 0), (38, .bool r50.2), (169, .bool t67)] ?_ ?_
    · rcases Bool.eq_false_or_eq_true t64 with hb69 | hb69
      · obtain rfl := orT h68 hb69
        refine QJ.off rfl rfl (cB hb69) rfl rfl ?_
        refine QJ.off rfl rfl (cB hb69) rfl rfl ?_
        refine QJ.off rfl rfl (cB hb69) rfl rfl ?_
        refine QJ.step (YldS.yld (y_pick_t (cB hb69) rfl)) rfl ?_
        exact QJ.cut_end ⟨rfl, rfl, rfl, rfl, rfl, rfl, rfl, rfl, rfl, rfl, rfl, rfl, rfl, rfl, rfl, rfl, rfl, rfl, rfl, rfl, rfl, rfl, rfl, rfl, rfl, rfl, rfl, rfl, trivial⟩
      · replace h68 := orF h68 hb69
        refine QJ.on rfl rfl (cB hb69) (YldS.yld (y_move rfl)) rfl ?_
        refine QJ.on rfl rfl (cB hb69) (YldS.yld (y_move rfl)) rfl ?_
        refine QJ.on rfl rfl (cB hb69) (YldS.yld (y_bin rfl rfl rfl)) rfl ?_
        refine QJ.step (YldS.yld (y_pick_f (cB hb69) rfl)) rfl ?_
        obtain rfl := Option.some.inj h68
        exact QJ.cut_end ⟨rfl, rfl, rfl, rfl, rfl, rfl, rfl, rfl, rfl, rfl, rfl, rfl, rfl, rfl, rfl, rfl, rfl, rfl, rfl, rfl, rfl, rfl, rfl, rfl, rfl, rfl, rfl, rfl, trivial⟩
    refine QJ.step (YldS.yld (y_move rfl)) rfl ?_
    obtain ⟨t70, h71, hm⟩ := bindS hm
    refine QJ.cut 4 [(3, v9), (4, str r7.2.1), (5, str r7.2.2), (7, .int .i64 r10.2), (10, str r14.1), (11, str r14.2), (13, .int .i64 r16.2), (14, v21), (16, str r22.1), (17, str r22.2.1), (18, .int .i64 r22.2.2), (19, .int .i64 r24.1), (21, .int .i64 r24.2.2), (23, .int .i64 r26.2.1), (26, v33), (27, .int .i64 r31.2), (28, v36), (29, .int .i64 r34.2), (30, pt g39 0), (31, str r40), (32, pt g44 0), (33, .bool r42.2), (35, pt g49 0), (36, .bool r47.2), (37, pt g52 0), (38, .bool r50.2), (174, .bool t70)] ?_ ?_
    · rcases Bool.eq_false_or_eq_true t67 with hb72 | hb72
      · obtain rfl := orT h71 hb72
        refine QJ.off rfl rfl (cB hb72) rfl rfl ?_
        refine QJ.off rfl rfl (cB hb72) rfl rfl ?_
        refine QJ.off rfl rfl (cB hb72) rfl rfl ?_
        refine QJ.step (YldS.yld (y_pick_t (cB hb72) rfl)) rfl ?_
        exact QJ.cut_end ⟨rfl, rfl, rfl, rfl, rfl, rfl, rfl, rfl, rfl, rfl, rfl, rfl, rfl, rfl, rfl, rfl, rfl, rfl, rfl, rfl, rfl, rfl, rfl, rfl, rfl, rfl, rfl, trivial⟩
      · replace h71 := orF h71 hb72
        refine QJ.on rfl rfl (cB hb72) (YldS.yld (y_move rfl)) rfl ?_
        refine QJ.on rfl rfl (cB hb72) (YldS.yld (y_move rfl)) rfl ?_
        refine QJ.on rfl rfl (cB hb72) (YldS.yld (y_bin rfl rfl rfl)) rfl ?_
        refine QJ.step (YldS.yld (y_pick_f (cB hb72) rfl)) rfl ?_
        obtain rfl := Option.some.inj h71
        exact QJ.cut_end ⟨rfl, rfl, rfl, rfl, rfl, rfl, rfl, rfl, rfl, rfl, rfl, rfl, rfl, rfl, rfl, rfl, rfl, rfl, rfl, rfl, rfl, rfl, rfl, rfl, rfl, rfl, rfl, trivial⟩
    refine QJ.step (YldS.yld (y_move rfl)) rfl ?_
    obtain ⟨t73, h74, hm⟩ := bindS hm
    refine QJ.cut 4 [(3, v9), (4, str r7.2.1), (5, str r7.2.2), (7, .int .i64 r10.2), (10, str r14.1), (11, str r14.2), (13, .int .i64 r16.2), (14, v21), (16, str r22.1), (17, str r22.2.1), (18, .int .i64 r22.2.2), (19, .int .i64 r24.1), (21, .int .i64 r24.2.2), (23, .int .i64 r26.2.1), (26, v33), (28, v36), (30, pt g39 0), (31, str r40), (32, pt g44 0), (33, .bool r42.2), (35, pt g49 0), (36, .bool r47.2), (37, pt g52 0), (38, .bool r50.2), (179, .bool t73)] ?_ ?_
    · rcases Bool.eq_false_or_eq_true t70 with hb75 | hb75
      · obtain rfl := orT h74 hb75
        refine QJ.off rfl rfl (cB hb75) rfl rfl ?_
        refine QJ.off rfl rfl (cB hb75) rfl rfl ?_
        refine QJ.off rfl rfl (cB hb75) rfl rfl ?_
        refine QJ.step (YldS.yld (y_pick_t (cB hb75) rfl)) rfl ?_
        exact QJ.cut_end ⟨rfl, rfl, rfl, rfl, rfl, rfl, rfl, rfl, rfl, rfl, rfl, rfl, rfl, rfl, rfl, rfl, rfl, rfl, rfl, rfl, rfl, rfl, rfl, rfl, rfl, trivial⟩
      · replace h74 := orF h74 hb75
        refine QJ.on rfl rfl (cB hb75) (YldS.yld (y_move rfl)) rfl ?_
        refine QJ.on rfl rfl (cB hb75) (YldS.yld (y_move rfl)) rfl ?_
        refine QJ.on rfl rfl (cB hb75) (YldS.yld (y_bin rfl rfl rfl)) rfl ?_
        refine QJ.step (YldS.yld (y_pick_f (cB hb75) rfl)) rfl ?_
        obtain rfl := Option.some.inj h74
        exact QJ.cut_end ⟨rfl, rfl, rfl, rfl, rfl, rfl, rfl, rfl, rfl, rfl, rfl, rfl, rfl, rfl, rfl, rfl, rfl, rfl, rfl, rfl, rfl, rfl, rfl, rfl, rfl, trivial⟩
    refine QJ.step (YldS.yld (y_move rfl)) rfl ?_
    obtain ⟨t76, h77, hm⟩ := bindS hm
    refine QJ.cut 5 [(3, v9), (4, str r7.2.1), (5, str r7.2.2), (7, .int .i64 r10.2), (10, str r14.1), (11, str r14.2), (13, .int .i64 r16.2), (14, v21), (16, str r22.1), (17, str r22.2.1), (18, .int .i64 r22.2.2), (19, .int .i64 r24.1), (21, .int .i64 r24.2.2), (23, .int .i64 r26.2.1), (30, pt g39 0), (31, str r40), (32, pt g44 0), (33, .bool r42.2), (35, pt g49 0), (36, .bool r47.2), (37, pt g52 0), (38, .bool r50.2), (185, .bool t76)] ?_ ?_
    · rcases Bool.eq_false_or_eq_true t73 with hb78 | hb78
      · obtain rfl := orT h77 hb78
        refine QJ.off rfl rfl (cB hb78) rfl rfl ?_
        refine QJ.off rfl rfl (cB hb78) rfl rfl ?_
        refine QJ.off rfl rfl (cB hb78) rfl rfl ?_
        refine QJ.off rfl rfl (cB hb78) rfl rfl ?_
        refine QJ.step (YldS.yld (y_pick_t (cB hb78) rfl)) rfl ?_
        exact QJ.cut_end ⟨rfl, rfl, rfl, rfl, rfl, rfl, rfl, rfl, rfl, rfl, rfl, rfl, rfl, rfl, rfl, rfl, rfl, rfl, rfl, rfl, rfl, rfl, rfl, trivial⟩
      · replace h77 := orF h77 hb78
        refine QJ.on rfl rfl (cB hb78) (YldS.yld (y_move rfl)) rfl ?_
        refine QJ.on rfl rfl (cB hb78) (YldS.yld (y_move rfl)) rfl ?_
        obtain ⟨r79, h80, h77⟩ := bindS h77
        refine QJ.on rfl rfl (cB hb78) (y_call Try.call23 rfl (RetG.quiet fun w hw => ok_w_f6ints h80 w _ (hw.row_rd (k := 5) rfl) _ (hw.row_rd (k := 4) rfl))) rfl ?_
        refine QJ.on rfl rfl (cB hb78) (YldS.yld (y_not rfl)) rfl ?_
        refine QJ.step (YldS.yld (y_pick_f (cB hb78) rfl)) rfl ?_
        obtain rfl := Option.some.inj h77
        exact QJ.cut_end ⟨rfl, rfl, rfl, rfl, rfl, rfl, rfl, rfl, rfl, rfl, rfl, rfl, rfl, rfl, rfl, rfl, rfl, rfl, rfl, rfl, rfl, rfl, rfl, trivial⟩
    refine QJ.step (YldS.yld (y_move rfl)) rfl ?_
    obtain ⟨t81, h82, hm⟩ := bindS hm
    refine QJ.cut 5 [(3, v9), (4, str r7.2.1), (5, str r7.2.2), (7, .int .i64 r10.2), (10, str r14.1), (11, str r14.2), (13, .int .i64 r16.2), (14, v21), (16, str r22.1), (17, str r22.2.1), (18, .int .i64 r22.2.2), (19, .int .i64 r24.1), (21, .int .i64 r24.2.2), (23, .int .i64 r26.2.1), (30, pt g39 0), (31, str r40), (32, pt g44 0), (33, .bool r42.2), (35, pt g49 0), (36, .bool r47.2), (37, pt g52 0), (38, .bool r50.2), (191, .bool t81)] ?_ ?_
    · rcases Bool.eq_false_or_eq_true t76 with hb83 | hb83
      · obtain rfl := orT h82 hb83
        refine QJ.off rfl rfl (cB hb83) rfl rfl ?_
        refine QJ.off rfl rfl (cB hb83) rfl rfl ?_
        refine QJ.off rfl rfl (cB hb83) rfl rfl ?_
        refine QJ.off rfl rfl (cB hb83) rfl rfl ?_
        refine QJ.step (YldS.yld (y_pick_t (cB hb83) rfl)) rfl ?_
        exact QJ.cut_end ⟨rfl, rfl, rfl, rfl, rfl, rfl, rfl, rfl, rfl, rfl, rfl, rfl, rfl, rfl, rfl, rfl, rfl, rfl, rfl, rfl, rfl, rfl, rfl, trivial⟩
      · replace h82 := orF h82 hb83
        refine QJ.on rfl rfl (cB hb83) (YldS.yld (y_move rfl)) rfl ?_
        refine QJ.on rfl rfl (cB hb83) (YldS.yld (y_loadBN (k := 3) (off := 0) (us := [str r37.under, str r37.top, str r37.seen]) rfl Try.isAgg42 Try.sizeOf42 rfl rfl)) rfl ?_
        obtain ⟨r84, h85, h82⟩ := bindS h82
        refine QJ.on rfl rfl (cB hb83) (y_call Try.call24 rfl (RetG.quiet fun w hw => ok_s_OverText h85 w )) rfl ?_
        refine QJ.on rfl rfl (cB hb83) (YldS.yld (y_binS rfl rfl rfl)) rfl ?_
        refine QJ.step (YldS.yld (y_pick_f (cB hb83) rfl)) rfl ?_
        obtain rfl := Option.some.inj h82
        exact QJ.cut_end ⟨rfl, rfl, rfl, rfl, rfl, rfl, rfl, rfl, rfl, rfl, rfl, rfl, rfl, rfl, rfl, rfl, rfl, rfl, rfl, rfl, rfl, rfl, rfl, trivial⟩
    refine QJ.step (YldS.yld (y_move rfl)) rfl ?_
    obtain ⟨t86, h87, hm⟩ := bindS hm
    refine QJ.cut 5 [(3, v9), (4, str r7.2.1), (5, str r7.2.2), (7, .int .i64 r10.2), (10, str r14.1), (11, str r14.2), (13, .int .i64 r16.2), (14, v21), (16, str r22.1), (17, str r22.2.1), (18, .int .i64 r22.2.2), (19, .int .i64 r24.1), (21, .int .i64 r24.2.2), (23, .int .i64 r26.2.1), (30, pt g39 0), (32, pt g44 0), (33, .bool r42.2), (35, pt g49 0), (36, .bool r47.2), (37, pt g52 0), (38, .bool r50.2), (197, .bool t86)] ?_ ?_
    · rcases Bool.eq_false_or_eq_true t81 with hb88 | hb88
      · obtain rfl := orT h87 hb88
        refine QJ.off rfl rfl (cB hb88) rfl rfl ?_
        refine QJ.off rfl rfl (cB hb88) rfl rfl ?_
        refine QJ.off rfl rfl (cB hb88) rfl rfl ?_
        refine QJ.off rfl rfl (cB hb88) rfl rfl ?_
        refine QJ.step (YldS.yld (y_pick_t (cB hb88) rfl)) rfl ?_
        exact QJ.cut_end ⟨rfl, rfl, rfl, rfl, rfl, rfl, rfl, rfl, rfl, rfl, rfl, rfl, rfl, rfl, rfl, rfl, rfl, rfl, rfl, rfl, rfl, rfl, trivial⟩
      · replace h87 := orF h87 hb88
        refine QJ.on rfl rfl (cB hb88) (YldS.yld (y_move rfl)) rfl ?_
        refine QJ.on rfl rfl (cB hb88) (YldS.yld (y_move rfl)) rfl ?_
        refine QJ.on rfl rfl (cB hb88) (YldS.yld (y_binS rfl rfl rfl)) rfl ?_
        refine QJ.on rfl rfl (cB hb88) (YldS.yld (y_neB Try.underlying4 rfl rfl rfl)) rfl ?_
        refine QJ.step (YldS.yld (y_pick_f (cB hb88) rfl)) rfl ?_
        obtain rfl := Option.some.inj h87
        exact QJ.cut_end ⟨rfl, rfl, rfl, rfl, rfl, rfl, rfl, rfl, rfl, rfl, rfl, rfl, rfl, rfl, rfl, rfl, rfl, rfl, rfl, rfl, rfl, rfl, trivial⟩
    refine QJ.step (YldS.yld (y_move rfl)) rfl ?_
    obtain ⟨t89, h90, hm⟩ := bindS hm
    refine QJ.cut 7 [(3, v9), (4, str r7.2.1), (5, str r7.2.2), (7, .int .i64 r10.2), (10, str r14.1), (11, str r14.2), (13, .int .i64 r16.2), (14, v21), (16, str r22.1), (17, str r22.2.1), (18, .int .i64 r22.2.2), (19, .int .i64 r24.1), (21, .int .i64 r24.2.2), (23, .int .i64 r26.2.1), (35, pt g49 0), (36, .bool r47.2), (37, pt g52 0), (38, .bool r50.2), (205, .bool t89)] ?_ ?_
    · rcases Bool.eq_false_or_eq_true t86 with hb91 | hb91
      · obtain rfl := orT h90 hb91
        refine QJ.off rfl rfl (cB hb91) rfl rfl ?_
        refine QJ.off rfl rfl (cB hb91) rfl rfl ?_
        refine QJ.off_undef rfl rfl rfl rfl ?_
        refine QJ.off_undef rfl rfl rfl rfl ?_
        refine QJ.off_undef rfl rfl rfl rfl ?_
        refine QJ.off rfl rfl (cB hb91) rfl rfl ?_
        refine QJ.step (YldS.yld (y_pick_t (cB hb91) rfl)) rfl ?_
        exact QJ.cut_end ⟨rfl, rfl, rfl, rfl, rfl, rfl, rfl, rfl, rfl, rfl, rfl, rfl, rfl, rfl, rfl, rfl, rfl, rfl, rfl, trivial⟩
      · replace h90 := orF h90 hb91
        refine QJ.on rfl rfl (cB hb91) (YldS.yld (y_move rfl)) rfl ?_
        refine QJ.on rfl rfl (cB hb91) (YldS.yld (y_move rfl)) rfl ?_
        obtain ⟨t92, h93, h90⟩ := bindS h90
        refine QJ.cut 4 [(3, v9), (4, str r7.2.1), (5, str r7.2.2), (7, .int .i64 r10.2), (10, str r14.1), (11, str r14.2), (13, .int .i64 r16.2), (14, v21), (16, str r22.1), (17, str r22.2.1), (18, .int .i64 r22.2.2), (19, .int .i64 r24.1), (21, .int .i64 r24.2.2), (23, .int .i64 r26.2.1), (35, pt g49 0), (36, .bool r47.2), (37, pt g52 0), (38, .bool r50.2), (198, .bool t86), (204, .bool t92)] ?_ ?_
        · rcases Bool.eq_false_or_eq_true r42.2 with hb94 | hb94
          · replace h93 := andT h93 hb94
            refine QJ.on rfl rfl (cB hb94) (YldS.yld (y_loadBN (k := 2) (off := 0) (us := [str r42.1.under, str r42.1.top, str r42.1.seen]) rfl Try.isAgg42 Try.sizeOf42 rfl rfl)) rfl ?_
            refine QJ.on rfl rfl (cB hb94) (YldS.yld (y_loadBN (k := 3) (off := 0) (us := [str r37.under, str r37.top, str r37.seen]) rfl Try.isAgg42 Try.sizeOf42 rfl rfl)) rfl ?_
            refine QJ.on rfl rfl (cB hb94) (YldS.yld (y_neT r42.1 r37 eq42 rfl rfl)) rfl ?_
            refine QJ.on rfl rfl (cB hb91) (YldS.yld (y_pick_t (cB hb94) rfl)) rfl ?_
            obtain rfl := Option.some.inj h93
            exact QJ.cut_end ⟨rfl, rfl, rfl, rfl, rfl, rfl, rfl, rfl, rfl, rfl, rfl, rfl, rfl, rfl, rfl, rfl, rfl, rfl, rfl, rfl, trivial⟩
          · obtain rfl := andF h93 hb94
            refine QJ.off rfl rfl (cB hb94) rfl rfl ?_
            refine QJ.off rfl rfl (cB hb94) rfl rfl ?_
            refine QJ.off rfl rfl (cB hb94) rfl rfl ?_
            refine QJ.on rfl rfl (cB hb91) (YldS.yld (y_pick_f (cB hb94) rfl)) rfl ?_
            exact QJ.cut_end ⟨rfl, rfl, rfl, rfl, rfl, rfl, rfl, rfl, rfl, rfl, rfl, rfl, rfl, rfl, rfl, rfl, rfl, rfl, rfl, rfl, trivial⟩
        refine QJ.step (YldS.yld (y_pick_f (cB hb91) rfl)) rfl ?_
        obtain rfl := Option.some.inj h90
        exact QJ.cut_end ⟨rfl, rfl, rfl, rfl, rfl, rfl, rfl, rfl, rfl, rfl, rfl, rfl, rfl, rfl, rfl, rfl, rfl, rfl, rfl, trivial⟩
    refine QJ.step (YldS.yld (y_move rfl)) rfl ?_
    obtain ⟨t95, h96, hm⟩ := bindS hm
    refine QJ.cut 4 [(3, v9), (4, str r7.2.1), (5, str r7.2.2), (7, .int .i64 r10.2), (10, str r14.1), (11, str r14.2), (13, .int .i64 r16.2), (14, v21), (16, str r22.1), (17, str r22.2.1), (18, .int .i64 r22.2.2), (19, .int .i64 r24.1), (21, .int .i64 r24.2.2), (23, .int .i64 r26.2.1), (35, pt g49 0), (37, pt g52 0), (210, .bool t95)] ?_ ?_
    · rcases Bool.eq_false_or_eq_true t89 with hb97 | hb97
      · obtain rfl := orT h96 hb97
        refine QJ.off rfl rfl (cB hb97) rfl rfl ?_
        refine QJ.off rfl rfl (cB hb97) rfl rfl ?_
        refine QJ.off rfl rfl (cB hb97) rfl rfl ?_
        refine QJ.step (YldS.yld (y_pick_t (cB hb97) rfl)) rfl ?_
        exact QJ.cut_end ⟨rfl, rfl, rfl, rfl, rfl, rfl, rfl, rfl, rfl, rfl, rfl, rfl, rfl, rfl, rfl, rfl, rfl, trivial⟩
      · replace h96 := orF h96 hb97
        refine QJ.on rfl rfl (cB hb97) (YldS.yld (y_move rfl)) rfl ?_
        refine QJ.on rfl rfl (cB hb97) (YldS.yld (y_move rfl)) rfl ?_
        refine QJ.on rfl rfl (cB hb97) (YldS.yld (y_neB Try.underlying4 rfl rfl rfl)) rfl ?_
        refine QJ.step (YldS.yld (y_pick_f (cB hb97) rfl)) rfl ?_
        obtain rfl := Option.some.inj h96
        exact QJ.cut_end ⟨rfl, rfl, rfl, rfl, rfl, rfl, rfl, rfl, rfl, rfl, rfl, rfl, rfl, rfl, rfl, rfl, rfl, trivial⟩
    refine QJ.step (YldS.yld (y_move rfl)) rfl ?_
    obtain ⟨t98, h99, hm⟩ := bindS hm
    refine QJ.cut 4 [(3, v9), (4, str r7.2.1), (5, str r7.2.2), (7, .int .i64 r10.2), (10, str r14.1), (11, str r14.2), (13, .int .i64 r16.2), (14, v21), (16, str r22.1), (17, str r22.2.1), (18, .int .i64 r22.2.2), (19, .int .i64 r24.1), (21, .int .i64 r24.2.2), (23, .int .i64 r26.2.1), (215, .bool t98)] ?_ ?_
    · rcases Bool.eq_false_or_eq_true t95 with hb100 | hb100
      · obtain rfl := orT h99 hb100
        refine QJ.off rfl rfl (cB hb100) rfl rfl ?_
        refine QJ.off rfl rfl (cB hb100) rfl rfl ?_
        refine QJ.off rfl rfl (cB hb100) rfl rfl ?_
        refine QJ.step (YldS.yld (y_pick_t (cB hb100) rfl)) rfl ?_
        exact QJ.cut_end ⟨rfl, rfl, rfl, rfl, rfl, rfl, rfl, rfl, rfl, rfl, rfl, rfl, rfl, rfl, rfl, trivial⟩
      · replace h99 := orF h99 hb100
        refine QJ.on rfl rfl (cB hb100) (YldS.yld (y_loadBN (k := 1) (off := 0) (us := [str r47.1.under, str r47.1.top, str r47.1.seen]) rfl Try.isAgg42 Try.sizeOf42 rfl rfl)) rfl ?_
        refine QJ.on rfl rfl (cB hb100) (YldS.yld (y_loadBN (k := 0) (off := 0) (us := [str r50.1.under, str r50.1.top, str r50.1.seen]) rfl Try.isAgg42 Try.sizeOf42 rfl rfl)) rfl ?_
        refine QJ.on rfl rfl (cB hb100) (YldS.yld (y_neT r47.1 r50.1 eq42 rfl rfl)) rfl ?_
        refine QJ.step (YldS.yld (y_pick_f (cB hb100) rfl)) rfl ?_
        obtain rfl := Option.some.inj h99
        exact QJ.cut_end ⟨rfl, rfl, rfl, rfl, rfl, rfl, rfl, rfl, rfl, rfl, rfl, rfl, rfl, rfl, rfl, trivial⟩
    refine QJ.done ?_
    refine PJ.next ?_
    refine WJ.cond (t := t98) rfl (fun hb101 => ?_) (fun hb101 => ?_)
    · replace hm := ifT hm hb101
      refine WJ.seq ?_
      refine WJ.quiet ?_
      refine QJ.step (YldS.yld (y_assign rfl)) rfl ?_
      refine QJ.done ?_
      refine PJ.next ?_
      refine WJ.ret ?_
      refine PJ.then_ret ?_
      obtain rfl := Option.some.inj hm
      refine PJ.sel (L' := []) [] ⟨List.nodup_nil, rfl⟩ ?_
      exact PJ.retn (vs := [.bool false]) Try.results3 ⟨rfl, trivial⟩ ⟨rfl, rfl⟩
    · replace hm := ifF hm hb101
      refine WJ.skip ?_
      refine PJ.next ?_
      obtain ⟨k102, hk103, hm⟩ := withK_open hm
      refine WJ.join (X := Unit) (fun (_ : Unit) => k102  = some r) (fun (_ : Unit) => [(3, v9), (4, str r7.2.1), (5, str r7.2.2), (7, .int .i64 r10.2), (10, str r14.1), (11, str r14.2), (13, .int .i64 r16.2), (14, v21)]) (fun (_ : Unit) => [row v21 2 fI64 r19.1, row v9 42 fOver r7.1]) ?_ ?_
      · clear hk103
        refine WJ.seq ?_
        refine WJ.quiet ?_
        refine QJ.step (YldS.yld (y_move rfl)) rfl ?_
        refine QJ.step (YldS.yld (y_bin rfl rfl rfl)) rfl ?_
        refine QJ.done ?_
        refine PJ.next ?_
        refine WJ.cond (t := (r24.2.2 == 0)) rfl (fun hb104 => ?_) (fun hb104 => ?_)
        · replace hm := ifT hm hb104
          refine WJ.seq ?_
          refine WJ.reg ?_
          refine SJ.q (YldS.yld (y_move rfl)) rfl ?_
          refine SJ.q (YldS.yld (y_move rfl)) rfl ?_
          obtain ⟨r105, h106, hm⟩ := bindS hm
          refine SJ.call Try.call10 rfl (fun w hw => ok_i_WrongPlaces h106 w ) rfl ?_
          rintro _ _ ⟨v107, rfl, rfl⟩
          refine SJ.q (YldS.yld (y_move rfl)) rfl ?_
          refine SJ.q (YldS.yld (y_extract rfl rfl)) rfl ?_
          refine SJ.q (YldS.yld (y_extract rfl rfl)) rfl ?_
          refine SJ.q (YldS.yld (y_assign rfl)) rfl ?_
          refine SJ.q (YldS.yld (y_assign rfl)) rfl ?_
          refine SJ.nil ?_
          refine PJ.next ?_
          refine WJ.seq ?_
          refine WJ.quiet ?_
          refine QJ.step (YldS.yld (y_move rfl)) rfl ?_
          refine QJ.step (YldS.yld (y_bin rfl rfl rfl)) rfl ?_
          refine QJ.step (YldS.yld (y_move rfl)) rfl ?_
          obtain ⟨t108, h109, hm⟩ := bindS hm
          refine QJ.cut 5 [(3, v9), (4, str r7.2.1), (5, str r7.2.2), (7, .int .i64 r10.2), (10, str r14.1), (11, str r14.2), (13, .int .i64 r16.2), (14, v21), (18, .int .i64 r22.2.2), (19, .int .i64 r24.1), (231, .bool t108)] ?_ ?_
          · rcases Bool.eq_false_or_eq_true (r105.2 != 0) with hb110 | hb110
            · obtain rfl := orT h109 hb110
              refine QJ.off rfl rfl (cB hb110) rfl rfl ?_
              refine QJ.off rfl rfl (cB hb110) rfl rfl ?_
              refine QJ.off rfl rfl (cB hb110) rfl rfl ?_
              refine QJ.off rfl rfl (cB hb110) rfl rfl ?_
              refine QJ.step (YldS.yld (y_pick_t (cB hb110) rfl)) rfl ?_
              exact QJ.cut_end ⟨rfl, rfl, rfl, rfl, rfl, rfl, rfl, rfl, rfl, rfl, rfl, trivial⟩
            · replace h109 := orF h109 hb110
              refine QJ.on rfl rfl (cB hb110) (YldS.yld (y_move rfl)) rfl ?_
              refine QJ.on rfl rfl (cB hb110) (YldS.yld (y_move rfl)) rfl ?_
              refine QJ.on rfl rfl (cB hb110) (YldS.yld (y_lenRow (k := 0) rfl Try.runUnderlying31 rfl)) rfl ?_
              refine QJ.on rfl rfl (cB hb110) (YldS.yld (y_bin rfl rfl rfl)) rfl ?_
              refine QJ.step (YldS.yld (y_pick_f (cB hb110) rfl)) rfl ?_
              obtain rfl := Option.some.inj h109
              exact QJ.cut_end ⟨rfl, rfl, rfl, rfl, rfl, rfl, rfl, rfl, rfl, rfl, rfl, trivial⟩
          refine QJ.step (YldS.yld (y_move rfl)) rfl ?_
          obtain ⟨t111, h112, hm⟩ := bindS hm
          refine QJ.cut 5 [(3, v9), (4, str r7.2.1), (5, str r7.2.2), (7, .int .i64 r10.2), (10, str r14.1), (11, str r14.2), (13, .int .i64 r16.2), (14, v21), (18, .int .i64 r22.2.2), (19, .int .i64 r24.1), (237, .bool t111)] ?_ ?_
          · rcases Bool.eq_false_or_eq_true t108 with hb113 | hb113
            · obtain rfl := orT h112 hb113
              refine QJ.off rfl rfl (cB hb113) rfl rfl ?_
              refine QJ.off rfl rfl (cB hb113) rfl rfl ?_
              refine QJ.off rfl rfl (cB hb113) rfl rfl ?_
              refine QJ.off rfl rfl (cB hb113) rfl rfl ?_
              refine QJ.step (YldS.yld (y_pick_t (cB hb113) rfl)) rfl ?_
              exact QJ.cut_end ⟨rfl, rfl, rfl, rfl, rfl, rfl, rfl, rfl, rfl, rfl, rfl, trivial⟩
            · replace h112 := orF h112 hb113
              refine QJ.on rfl rfl (cB hb113) (YldS.yld (y_move rfl)) rfl ?_
              refine QJ.on rfl rfl (cB hb113) (YldS.yld (y_move rfl)) rfl ?_
              refine QJ.on rfl rfl (cB hb113) (YldS.yld (y_neg rfl)) rfl ?_
              refine QJ.on rfl rfl (cB hb113) (YldS.yld (y_bin rfl rfl rfl)) rfl ?_
              refine QJ.step (YldS.yld (y_pick_f (cB hb113) rfl)) rfl ?_
              obtain rfl := Option.some.inj h112
              exact QJ.cut_end ⟨rfl, rfl, rfl, rfl, rfl, rfl, rfl, rfl, rfl, rfl, rfl, trivial⟩
          refine QJ.step (YldS.yld (y_move rfl)) rfl ?_
          obtain ⟨t114, h115, hm⟩ := bindS hm
          refine QJ.cut 4 [(3, v9), (4, str r7.2.1), (5, str r7.2.2), (7, .int .i64 r10.2), (10, str r14.1), (11, str r14.2), (13, .int .i64 r16.2), (14, v21), (242, .bool t114)] ?_ ?_
          · rcases Bool.eq_false_or_eq_true t111 with hb116 | hb116
            · obtain rfl := orT h115 hb116
              refine QJ.off rfl rfl (cB hb116) rfl rfl ?_
              refine QJ.off rfl rfl (cB hb116) rfl rfl ?_
              refine QJ.off rfl rfl (cB hb116) rfl rfl ?_
              refine QJ.step (YldS.yld (y_pick_t (cB hb116) rfl)) rfl ?_
              exact QJ.cut_end ⟨rfl, rfl, rfl, rfl, rfl, rfl, rfl, rfl, rfl, trivial⟩
            · replace h115 := orF h115 hb116
              refine QJ.on rfl rfl (cB hb116) (YldS.yld (y_move rfl)) rfl ?_
              refine QJ.on rfl rfl (cB hb116) (YldS.yld (y_move rfl)) rfl ?_
              refine QJ.on rfl rfl (cB hb116) (YldS.yld (y_bin rfl rfl rfl)) rfl ?_
              refine QJ.step (YldS.yld (y_pick_f (cB hb116) rfl)) rfl ?_
              obtain rfl := Option.some.inj h115
              exact QJ.cut_end ⟨rfl, rfl, rfl, rfl, rfl, rfl, rfl, rfl, rfl, trivial⟩
          refine QJ.done ?_
          refine PJ.next ?_
          refine WJ.cond (t := t114) rfl (fun hb117 => ?_) (fun hb117 => ?_)
          · replace hm := ifT hm hb117
            refine WJ.seq ?_
            refine WJ.quiet ?_
            refine QJ.step (YldS.yld (y_assign rfl)) rfl ?_
            refine QJ.done ?_
            refine PJ.next ?_
            refine WJ.ret ?_
            refine PJ.then_ret ?_
            obtain rfl := Option.some.inj hm
            refine PJ.sel (L' := []) [] ⟨List.nodup_nil, rfl⟩ ?_
            exact PJ.retn (vs := [.bool false]) Try.results3 ⟨rfl, trivial⟩ ⟨rfl, rfl⟩
          · replace hm := ifF hm hb117
            refine WJ.skip ?_
            exact PJ.joined () [8, 10] hm ⟨rfl, rfl, rfl, rfl, rfl, rfl, rfl, rfl, trivial⟩ ⟨by decide, rfl⟩
        · replace hm := ifF hm hb104
          refine WJ.skip ?_
          exact PJ.joined () [7, 9] hm ⟨rfl, rfl, rfl, rfl, rfl, rfl, rfl, rfl, trivial⟩ ⟨by decide, rfl⟩
      · rintro _ hm
        subst hk103
        obtain ⟨k118, hk119, hm⟩ := withK_open hm
        refine WJ.join (X := Unit) (fun (_ : Unit) => k118  = some r) (fun (_ : Unit) => [(3, v9), (4, str r7.2.1), (5, str r7.2.2), (7, .int .i64 r10.2)]) (fun (_ : Unit) => [row v9 42 fOver r7.1]) ?_ ?_
        · clear hk119
          refine WJ.seq ?_
          refine WJ.quiet ?_
          refine QJ.step (YldS.yld (y_move rfl)) rfl ?_
          refine QJ.step (YldS.yld (y_bin rfl rfl rfl)) rfl ?_
          refine QJ.step (YldS.yld (y_move rfl)) rfl ?_
          obtain ⟨t120, h121, hm⟩ := bindS hm
          refine QJ.cut 6 [(3, v9), (4, str r7.2.1), (5, str r7.2.2), (7, .int .i64 r10.2), (10, str r14.1), (11, str r14.2), (14, v21), (251, .bool t120)] ?_ ?_
          · rcases Bool.eq_false_or_eq_true (r16.2 == 0) with hb122 | hb122
            · replace h121 := andT h121 hb122
              refine QJ.on rfl rfl (cB hb122) (YldS.yld (y_move rfl)) rfl ?_
              refine QJ.on rfl rfl (cB hb122) (YldS.yld (y_lenStr Try.runUnderlying9 rfl)) rfl ?_
              refine QJ.on rfl rfl (cB hb122) (YldS.yld (y_move rfl)) rfl ?_
              refine QJ.on rfl rfl (cB hb122) (YldS.yld (y_lenStr Try.runUnderlying9 rfl)) rfl ?_
              refine QJ.on rfl rfl (cB hb122) (YldS.yld (y_bin rfl rfl rfl)) rfl ?_
              refine QJ.step (YldS.yld (y_pick_t (cB hb122) rfl)) rfl ?_
              obtain rfl := Option.some.inj h121
              exact QJ.cut_end ⟨rfl, rfl, rfl, rfl, rfl, rfl, rfl, rfl, trivial⟩
            · obtain rfl := andF h121 hb122
              refine QJ.off rfl rfl (cB hb122) rfl rfl ?_
              refine QJ.off rfl rfl (cB hb122) rfl rfl ?_
              refine QJ.off rfl rfl (cB hb122) rfl rfl ?_
              refine QJ.off rfl rfl (cB hb122) rfl rfl ?_
              refine QJ.off rfl rfl (cB hb122) rfl rfl ?_
              refine QJ.step (YldS.yld (y_pick_f (cB hb122) rfl)) rfl ?_
              exact QJ.cut_end ⟨rfl, rfl, rfl, rfl, rfl, rfl, rfl, rfl, trivial⟩
          refine QJ.done ?_
          refine PJ.next ?_
          refine WJ.cond (t := t120) rfl (fun hb123 => ?_) (fun hb123 => ?_)
          · replace hm := ifT hm hb123
            refine WJ.seq ?_
            refine WJ.quiet ?_
            refine QJ.step (YldS.yld (y_assign rfl)) rfl ?_
            refine QJ.done ?_
            refine PJ.next ?_
            obtain ⟨k126, hk126, hm⟩ := withK_open hm
            refine WJ.join (X := Int) (fun (x : Int) => k126 x = some r) (fun (x : Int) => [(3, v9), (4, str r7.2.1), (5, str r7.2.2), (7, .int .i64 r10.2), (14, v21), (41, .int .i64 x)]) (fun (x : Int) => [row v21 2 fI64 r19.1, row v9 42 fOver r7.1]) ?_ ?_
            · clear hk126
              refine WJ.seq ?_
              refine WJ.quiet ?_
              refine QJ.step (YldS.yld (y_assign rfl)) rfl ?_
              refine QJ.done ?_
              refine PJ.next ?_
              refine WJ.block ?_
              refine WJ.sel (L' := (fun (x : Int × Int) => [row v21 2 fI64 r19.1, row v9 42 fOver r7.1]) (0, 0)) [0, 1] ⟨by decide, rfl⟩ ?_
              refine WJ.sub (m' := (fun (x : Int × Int) => [(3, v9), (4, str r7.2.1), (5, str r7.2.2), (7, .int .i64 r10.2), (10, str r14.1), (11, str r14.2), (14, v21), (41, .int .i64 x.1), (42, .int .i64 x.2)]) (0, 0)) ⟨rfl, rfl, rfl, rfl, rfl, rfl, rfl, rfl, rfl, trivial⟩ ?_
              refine WJ.loop (X := Int × Int) (fun N (x : Int × Int) => w_FnSeenLetters_l1 k126 r14 N x.1 x.2 = some r) (fun (x : Int × Int) => [(3, v9), (4, str r7.2.1), (5, str r7.2.2), (7, .int .i64 r10.2), (10, str r14.1), (11, str r14.2), (14, v21), (41, .int .i64 x.1), (42, .int .i64 x.2)]) (fun (x : Int × Int) => [row v21 2 fI64 r19.1, row v9 42 fOver r7.1]) ?_ N (0, 0) hm
              · rintro N ⟨count127, i128⟩ hI
                have hm := hI; clear hI
                cases N with
                | zero => cases hm
                | succ N =>
                unfold w_FnSeenLetters_l1 at hm
                refine WJ.seq ?_
                refine WJ.seq ?_
                refine WJ.quiet ?_
                refine QJ.step (YldS.yld (y_move rfl)) rfl ?_
                refine QJ.step (YldS.yld (y_move rfl)) rfl ?_
                refine QJ.step (YldS.yld (y_lenStr Try.runUnderlying9 rfl)) rfl ?_
                refine QJ.step (YldS.yld (y_bin rfl rfl rfl)) rfl ?_
                refine QJ.done ?_
                refine PJ.next ?_
                refine WJ.cond (t := decide (i128 < (List.length r14.1 : Int))) rfl (fun hb129 => ?_) (fun hb129 => ?_)
                · replace hm := ifT hm hb129
                  refine WJ.skip ?_
                  refine PJ.next ?_
                  obtain ⟨k133, hk132, hm⟩ := withK_open hm
                  refine WJ.join (X := Int) (fun (x : Int) => k133 x = some r) (fun (x : Int) => [(3, v9), (4, str r7.2.1), (5, str r7.2.2), (7, .int .i64 r10.2), (10, str r14.1), (11, str r14.2), (14, v21), (41, .int .i64 x), (42, .int .i64 i128)]) (fun (x : Int) => [row v21 2 fI64 r19.1, row v9 42 fOver r7.1]) ?_ ?_
                  · clear hk132
                    refine WJ.block ?_
                    refine WJ.seq ?_
                    refine WJ.quiet_draw follows (by kernel_rfl) ?_
                    refine QJ.step (YldS.yld (y_move rfl)) rfl ?_
                    refine QJ.step (YldS.yld (y_move rfl)) rfl ?_
                    obtain ⟨c133, h134, hm⟩ := bindS hm
                    refine QJ.step (YldS.yld (y_idxStr Try.runUnderlying9 rfl rfl h134)) rfl ?_
                    refine QJ.step (YldS.yld (y_move rfl)) rfl ?_
                    refine QJ.step (YldS.yld (y_move rfl)) rfl ?_
                    obtain ⟨c135, h136, hm⟩ := bindS hm
                    refine QJ.step (YldS.yld (y_idxStr Try.runUnderlying9 rfl rfl h136)) rfl ?_
                    refine QJ.step (YldS.yld (y_bin8 c133 c135 rfl rfl rfl)) rfl ?_
                    refine QJ.done ?_
                    refine PJ.next ?_
                    refine WJ.cond (t := (c133 != c135)) rfl (fun hb137 => ?_) (fun hb137 => ?_)
                    · replace hm := ifT hm hb137
                      refine WJ.quiet ?_
                      refine QJ.step (YldS.yld (y_move rfl)) rfl ?_
                      refine QJ.step (YldS.yld (y_bin rfl rfl rfl)) rfl ?_
                      refine QJ.step (YldS.yld (y_assign rfl)) rfl ?_
                      refine QJ.done ?_
                      refine PJ.block_normal ?_
                      exact PJ.joined (w64 (count127 + 1)) [0, 1] hm ⟨rfl, rfl, rfl, rfl, rfl, rfl, rfl, rfl, rfl, trivial⟩ ⟨by decide, rfl⟩
                    · replace hm := ifF hm hb137
                      refine WJ.skip ?_
                      refine PJ.block_normal ?_
                      exact PJ.joined count127 [0, 1] hm ⟨rfl, rfl, rfl, rfl, rfl, rfl, rfl, rfl, rfl, trivial⟩ ⟨by decide, rfl⟩
                  · rintro count130 hm
                    subst hk132
                    refine WJ.quiet ?_
                    refine QJ.step (YldS.yld (y_move rfl)) rfl ?_
                    refine QJ.step (YldS.yld (y_bin rfl rfl rfl)) rfl ?_
                    refine QJ.step (YldS.yld (y_assign rfl)) rfl ?_
                    refine QJ.done ?_
                    exact PJ.round (count130, w64 (i128 + 1)) [0, 1] hm ⟨rfl, rfl, rfl, rfl, rfl, rfl, rfl, rfl, rfl, trivial⟩ ⟨by decide, rfl⟩
                · replace hm := ifF hm hb129
                  refine WJ.exit ?_
                  refine PJ.then_exit (PJ.then_exit (PJ.block_exit ?_))
                  exact PJ.joined count127 [0, 1] hm ⟨rfl, rfl, rfl, rfl, rfl, rfl, trivial⟩ ⟨by decide, rfl⟩
            · rintro count124 hm
              subst hk126
              refine WJ.seq ?_
              refine WJ.quiet ?_
              refine QJ.step (YldS.yld (y_move rfl)) rfl ?_
              refine QJ.step (YldS.yld (y_move rfl)) rfl ?_
              refine QJ.step (YldS.yld (y_lenRow (k := 0) rfl Try.runUnderlying31 rfl)) rfl ?_
              refine QJ.step (YldS.yld (y_bin rfl rfl rfl)) rfl ?_
              refine QJ.done ?_
              refine PJ.next ?_
              refine WJ.cond (t := (count124 != (List.length r19.1 : Int))) rfl (fun hb138 => ?_) (fun hb138 => ?_)
              · replace hm := ifT hm hb138
                refine WJ.seq ?_
                refine WJ.quiet ?_
                refine QJ.step (YldS.yld (y_assign rfl)) rfl ?_
                refine QJ.done ?_
                refine PJ.next ?_
                refine WJ.ret ?_
                refine PJ.then_ret ?_
                obtain rfl := Option.some.inj hm
                refine PJ.sel (L' := []) [] ⟨List.nodup_nil, rfl⟩ ?_
                exact PJ.retn (vs := [.bool false]) Try.results3 ⟨rfl, trivial⟩ ⟨rfl, rfl⟩
              · replace hm := ifF hm hb138
                refine WJ.skip ?_
                exact PJ.joined () [1] hm ⟨rfl, rfl, rfl, rfl, trivial⟩ ⟨by decide, rfl⟩
          · replace hm := ifF hm hb123
            refine WJ.skip ?_
            exact PJ.joined () [1] hm ⟨rfl, rfl, rfl, rfl, trivial⟩ ⟨by decide, rfl⟩
        · rintro _ hm
          subst hk119
          refine WJ.seq ?_
          refine WJ.seq ?_
          refine WJ.quiet ?_
          refine QJ.step (YldS.yld (y_move rfl)) rfl ?_
          refine QJ.step (YldS.yld (y_bin rfl rfl rfl)) rfl ?_
          refine QJ.step (YldS.yld (y_move rfl)) rfl ?_
          obtain ⟨t139, h140, hm⟩ := bindS hm
          refine QJ.cut 3 [(3, v9), (4, str r7.2.1), (5, str r7.2.2), (276, .bool t139)] ?_ ?_
          · rcases Bool.eq_false_or_eq_true (r10.2 == 1) with hb141 | hb141
            · obtain rfl := orT h140 hb141
              refine QJ.off rfl rfl (cB hb141) rfl rfl ?_
              refine QJ.off rfl rfl (cB hb141) rfl rfl ?_
              refine QJ.step (YldS.yld (y_pick_t (cB hb141) rfl)) rfl ?_
              exact QJ.cut_end ⟨rfl, rfl, rfl, rfl, trivial⟩
            · replace h140 := orF h140 hb141
              refine QJ.on rfl rfl (cB hb141) (YldS.yld (y_move rfl)) rfl ?_
              refine QJ.on rfl rfl (cB hb141) (YldS.yld (y_bin rfl rfl rfl)) rfl ?_
              refine QJ.step (YldS.yld (y_pick_f (cB hb141) rfl)) rfl ?_
              obtain rfl := Option.some.inj h140
              exact QJ.cut_end ⟨rfl, rfl, rfl, rfl, trivial⟩
          refine QJ.done ?_
          refine PJ.next ?_
          refine WJ.cond (t := t139) rfl (fun hb142 => ?_) (fun hb142 => ?_)
          · replace hm := ifT hm hb142
            refine WJ.seq ?_
            refine WJ.quiet ?_
            refine QJ.step (YldS.yld (y_assign rfl)) rfl ?_
            refine QJ.done ?_
            refine PJ.next ?_
            refine WJ.ret ?_
            refine PJ.then_ret ?_
            obtain rfl := Option.some.inj hm
            refine PJ.sel (L' := []) [] ⟨List.nodup_nil, rfl⟩ ?_
            exact PJ.retn (vs := [.bool true]) Try.results3 ⟨rfl, trivial⟩ ⟨rfl, rfl⟩
          · replace hm := ifF hm hb142
            refine WJ.skip ?_
            refine PJ.next ?_
            refine WJ.seq ?_
            refine WJ.quiet ?_
            refine QJ.step (YldS.yld (y_move rfl)) rfl ?_
            refine QJ.step (YldS.yld (y_move rfl)) rfl ?_
            refine QJ.step (YldS.yld (y_move rfl)) rfl ?_
            obtain ⟨r143, h144, hm⟩ := bindS hm
            refine QJ.step (y_call Try.call7 rfl (RetG.quiet fun w hw => ok_i_SeenOver h144 w _ (hw.row_rd (k := 0) rfl))) rfl ?_
            refine QJ.step (YldS.yld (y_move rfl)) rfl ?_
            refine QJ.step (YldS.yld (y_extract rfl rfl)) rfl ?_
            refine QJ.step (YldS.yld (y_extract rfl rfl)) rfl ?_
            refine QJ.step (YldS.yld (y_assign rfl)) rfl ?_
            refine QJ.step (YldS.yld (y_assign rfl)) rfl ?_
            refine QJ.done ?_
            refine PJ.next ?_
            refine WJ.seq ?_
            refine WJ.quiet ?_
            refine QJ.step (YldS.yld (y_move rfl)) rfl ?_
            refine QJ.step (YldS.yld (y_move rfl)) rfl ?_
            obtain ⟨r145, h146, hm⟩ := bindS hm
            refine QJ.step (y_call Try.call7 rfl (RetG.quiet fun w hw => ok_i_SeenOver h146 w _ (hw.row_rd (k := 0) rfl))) rfl ?_
            refine QJ.step (YldS.yld (y_move rfl)) rfl ?_
            refine QJ.step (YldS.yld (y_extract rfl rfl)) rfl ?_
            refine QJ.step (YldS.yld (y_extract rfl rfl)) rfl ?_
            refine QJ.step (YldS.yld (y_assign rfl)) rfl ?_
            refine QJ.step (YldS.yld (y_assign rfl)) rfl ?_
            refine QJ.done ?_
            refine PJ.next ?_
            refine WJ.seq ?_
            refine WJ.quiet ?_
            refine QJ.step (YldS.yld (y_move rfl)) rfl ?_
            refine QJ.step (YldS.yld (y_bin rfl rfl rfl)) rfl ?_
            refine QJ.step (YldS.yld (y_move rfl)) rfl ?_
            obtain ⟨t147, h148, hm⟩ := bindS hm
            refine QJ.cut 4 [(5, str r7.2.2), (45, str r145.1), (46, .int .i64 r145.2), (296, .bool t147)] ?_ ?_
            · rcases Bool.eq_false_or_eq_true (r143.2 == 0) with hb149 | hb149
              · replace h148 := andT h148 hb149
                refine QJ.on rfl rfl (cB hb149) (YldS.yld (y_move rfl)) rfl ?_
                refine QJ.on rfl rfl (cB hb149) (YldS.yld (y_move rfl)) rfl ?_
                refine QJ.on rfl rfl (cB hb149) (YldS.yld (y_binS rfl rfl rfl)) rfl ?_
                refine QJ.step (YldS.yld (y_pick_t (cB hb149) rfl)) rfl ?_
                obtain rfl := Option.some.inj h148
                exact QJ.cut_end ⟨rfl, rfl, rfl, rfl, trivial⟩
              · obtain rfl := andF h148 hb149
                refine QJ.off rfl rfl (cB hb149) rfl rfl ?_
                refine QJ.off rfl rfl (cB hb149) rfl rfl ?_
                refine QJ.off rfl rfl (cB hb149) rfl rfl ?_
                refine QJ.step (YldS.yld (y_pick_f (cB hb149) rfl)) rfl ?_
                exact QJ.cut_end ⟨rfl, rfl, rfl, rfl, trivial⟩
            refine QJ.step (YldS.yld (y_move rfl)) rfl ?_
            obtain ⟨t150, h151, hm⟩ := bindS hm
            refine QJ.cut 3 [(5, str r7.2.2), (45, str r145.1), (300, .bool t150)] ?_ ?_
            · rcases Bool.eq_false_or_eq_true t147 with hb152 | hb152
              · replace h151 := andT h151 hb152
                refine QJ.on rfl rfl (cB hb152) (YldS.yld (y_move rfl)) rfl ?_
                refine QJ.on rfl rfl (cB hb152) (YldS.yld (y_bin rfl rfl rfl)) rfl ?_
                refine QJ.step (YldS.yld (y_pick_t (cB hb152) rfl)) rfl ?_
                obtain rfl := Option.some.inj h151
                exact QJ.cut_end ⟨rfl, rfl, rfl, trivial⟩
              · obtain rfl := andF h151 hb152
                refine QJ.off rfl rfl (cB hb152) rfl rfl ?_
                refine QJ.off rfl rfl (cB hb152) rfl rfl ?_
                refine QJ.step (YldS.yld (y_pick_f (cB hb152) rfl)) rfl ?_
                exact QJ.cut_end ⟨rfl, rfl, rfl, trivial⟩
            refine QJ.step (YldS.yld (y_move rfl)) rfl ?_
            obtain ⟨t153, h154, hm⟩ := bindS hm
            refine QJ.cut 4 [(305, .bool t153)] ?_ ?_
            · rcases Bool.eq_false_or_eq_true t150 with hb155 | hb155
              · replace h154 := andT h154 hb155
                refine QJ.on rfl rfl (cB hb155) (YldS.yld (y_move rfl)) rfl ?_
                refine QJ.on rfl rfl (cB hb155) (YldS.yld (y_move rfl)) rfl ?_
                refine QJ.on rfl rfl (cB hb155) (YldS.yld (y_binS rfl rfl rfl)) rfl ?_
                refine QJ.step (YldS.yld (y_pick_t (cB hb155) rfl)) rfl ?_
                obtain rfl := Option.some.inj h154
                exact QJ.cut_end ⟨rfl, trivial⟩
              · obtain rfl := andF h154 hb155
                refine QJ.off rfl rfl (cB hb155) rfl rfl ?_
                refine QJ.off rfl rfl (cB hb155) rfl rfl ?_
                refine QJ.off rfl rfl (cB hb155) rfl rfl ?_
                refine QJ.step (YldS.yld (y_pick_f (cB hb155) rfl)) rfl ?_
                exact QJ.cut_end ⟨rfl, trivial⟩
            refine QJ.step (YldS.yld (y_assign rfl)) rfl ?_
            refine QJ.done ?_
            refine PJ.next ?_
            refine WJ.ret ?_
            obtain rfl := Option.some.inj hm
            refine PJ.sel (L' := []) [] ⟨List.nodup_nil, rfl⟩ ?_
            exact PJ.retn (vs := [.bool t153]) Try.results3 ⟨rfl, trivial⟩ ⟨rfl, rfl⟩

end Go.Proofs.Ythmocnbnlpdggaa
