/-
  The walks: a call hands back what its plain function computes, where that has a value. No other conditions.
-/
import Derived.Test.YthpdpfagfkopnaaFnTopW
import Derived.Test.YthpdpfagfkopnaaChecked
namespace Go.Proofs.Ythpdpfagfkopnaa
open Go.RowKit Go.Proofs
set_option linter.unusedVariables false
set_option linter.unusedSimpArgs false

set_option maxRecDepth 100000 in
set_option maxHeartbeats 1000000 in
theorem ok_i_RunPlan {N : Nat} {stops1 : List Int} {plan4 : Str} {r : Str × Int} (hm : i_RunPlan N stops1 plan4 = some r) (w : World) (v2 : Value) (hr3 : RdS w (cx w).Fz v2 fI64.rp stops1) :
    Calls Try.prog 51 #[v2, str plan4] w (Ret (cx w) (tup [str r.1, .int .i64 r.2])) := by
  unfold i_RunPlan at hm
  refine Calls.enter [v2, str plan4] Try.func51 rfl Try.ntmps51 rfl ?_
  refine WJ.seq ?_
  refine WJ.quiet ?_
  refine QJ.step (YldS.yld (y_assign rfl)) rfl ?_
  refine QJ.step (YldS.yld (y_assign rfl)) rfl ?_
  refine QJ.done ?_
  refine PJ.next ?_
  refine WJ.seq ?_
  refine WJ.seq ?_
  refine WJ.quiet ?_
  refine QJ.step (YldS.yld (y_move rfl)) rfl ?_
  obtain ⟨r5, h6, hm⟩ := bindS hm
  refine QJ.step (y_call Try.call111 rfl (RetG.quiet fun w hw => ok_i_ValidStops h6 w _ (hr3.st hw))) rfl ?_
  refine QJ.step (YldS.yld (y_not rfl)) rfl ?_
  refine QJ.done ?_
  refine PJ.next ?_
  refine WJ.cond (t := !r5) rfl (fun hb7 => ?_) (fun hb7 => ?_)
  · replace hm := ifT hm hb7
    refine WJ.seq ?_
    refine WJ.quiet ?_
    refine QJ.step (YldS.yld (y_assign rfl)) rfl ?_
    refine QJ.step (YldS.yld (y_assign rfl)) rfl ?_
    refine QJ.done ?_
    refine PJ.next ?_
    refine WJ.ret ?_
    refine PJ.then_ret ?_
    obtain rfl := Option.some.inj hm
    refine PJ.sel (L' := []) [] ⟨List.nodup_nil, rfl⟩ ?_
    exact PJ.retn (vs := [str [], .int .i64 1]) Try.results51 ⟨rfl, rfl, trivial⟩ ⟨rfl, rfl⟩
  · replace hm := ifF hm hb7
    refine WJ.skip ?_
    refine PJ.next ?_
    refine WJ.seq ?_
    refine WJ.seq ?_
    refine WJ.quiet ?_
    refine QJ.step (YldS.yld (y_move rfl)) rfl ?_
    refine QJ.step (YldS.yld (y_lenStr Try.runUnderlying9 rfl)) rfl ?_
    refine QJ.step (YldS.yld (y_bin rfl rfl rfl)) rfl ?_
    refine QJ.done ?_
    refine PJ.next ?_
    refine WJ.cond (t := decide ((List.length plan4 : Int) > 200)) rfl (fun hb8 => ?_) (fun hb8 => ?_)
    · replace hm := ifT hm hb8
      refine WJ.seq ?_
      refine WJ.quiet ?_
      refine QJ.step (YldS.yld (y_assign rfl)) rfl ?_
      refine QJ.step (YldS.yld (y_assign rfl)) rfl ?_
      refine QJ.done ?_
      refine PJ.next ?_
      refine WJ.ret ?_
      refine PJ.then_ret ?_
      obtain rfl := Option.some.inj hm
      refine PJ.sel (L' := []) [] ⟨List.nodup_nil, rfl⟩ ?_
      exact PJ.retn (vs := [str [], .int .i64 7]) Try.results51 ⟨rfl, rfl, trivial⟩ ⟨rfl, rfl⟩
    · replace hm := ifF hm hb8
      refine WJ.skip ?_
      refine PJ.next ?_
      refine WJ.seq ?_
      refine WJ.reg ?_
      refine SJ.buildSlice (R := fByte) (os := []) [] Try.runUnderlying22 Try.sizeOf5 Try.zeroValue5 rfl rfl rfl rfl rfl rfl fun v9 => ?_
      refine SJ.q (YldS.yld (y_assign rfl)) rfl ?_
      refine SJ.nil ?_
      refine PJ.next ?_
      refine WJ.seq ?_
      refine WJ.quiet ?_
      refine QJ.step (YldS.yld (y_assign rfl)) rfl ?_
      refine QJ.done ?_
      refine PJ.next ?_
      obtain ⟨kj12, hk13, hm⟩ := withK_open hm
      refine WJ.join (X := (List UInt8) × Value) (fun (x : (List UInt8) × Value) => kj12 x.1 = some r) (fun (x : (List UInt8) × Value) => [(6, x.2)]) (fun (x : (List UInt8) × Value) => [row x.2 5 fByte x.1]) ?_ ?_
      · clear hk13
        refine WJ.seq ?_
        refine WJ.quiet ?_
        refine QJ.step (YldS.yld (y_assign rfl)) rfl ?_
        refine QJ.done ?_
        refine PJ.next ?_
        refine WJ.block ?_
        refine WJ.sel (L' := (fun (x : (List UInt8) × Value × Int × Int) => [row x.2.1 5 fByte x.1]) ([], v9, 0, 0)) [0] ⟨by decide, rfl⟩ ?_
        refine WJ.sub (m' := (fun (x : (List UInt8) × Value × Int × Int) => [(0, v2), (1, str plan4), (6, x.2.1), (7, .int .i64 x.2.2.1), (8, .int .i64 x.2.2.2)]) ([], v9, 0, 0)) ⟨rfl, rfl, rfl, rfl, rfl, trivial⟩ ?_
        refine WJ.loop (X := (List UInt8) × Value × Int × Int) (fun N (x : (List UInt8) × Value × Int × Int) => i_RunPlan_l1 kj12 stops1 plan4 N x.1 x.2.2.1 x.2.2.2 = some r) (fun (x : (List UInt8) × Value × Int × Int) => [(0, v2), (1, str plan4), (6, x.2.1), (7, .int .i64 x.2.2.1), (8, .int .i64 x.2.2.2)]) (fun (x : (List UInt8) × Value × Int × Int) => [row x.2.1 5 fByte x.1]) ?_ N ([], v9, 0, 0) hm
        · rintro N ⟨l14, v15, column16, i17⟩ hI
          have hm := hI; clear hI
          cases N with
          | zero => cases hm
          | succ N =>
          unfold i_RunPlan_l1 at hm
          refine WJ.seq ?_
          refine WJ.seq ?_
          refine WJ.quiet ?_
          refine QJ.step (YldS.yld (y_move rfl)) rfl ?_
          refine QJ.step (YldS.yld (y_move rfl)) rfl ?_
          refine QJ.step (YldS.yld (y_lenStr Try.runUnderlying9 rfl)) rfl ?_
          refine QJ.step (YldS.yld (y_bin rfl rfl rfl)) rfl ?_
          refine QJ.done ?_
          refine PJ.next ?_
          refine WJ.cond (t := decide (i17 < (List.length plan4 : Int))) rfl (fun hb18 => ?_) (fun hb18 => ?_)
          · replace hm := ifT hm hb18
            refine WJ.skip ?_
            refine PJ.next ?_
            obtain ⟨kj23, hk24, hm⟩ := withK_open hm
            refine WJ.join (X := (List UInt8) × Value × Int × Int) (fun (x : (List UInt8) × Value × Int × Int) => kj23 x.1 x.2.2.1 x.2.2.2 = some r) (fun (x : (List UInt8) × Value × Int × Int) => [(0, v2), (1, str plan4), (6, x.2.1), (7, .int .i64 x.2.2.1), (8, .int .i64 x.2.2.2)]) (fun (x : (List UInt8) × Value × Int × Int) => [row x.2.1 5 fByte x.1]) ?_ ?_
            · clear hk24
              refine WJ.block ?_
              refine WJ.seq ?_
              refine WJ.seq ?_
              refine WJ.quiet ?_
              refine QJ.step (YldS.yld (y_move rfl)) rfl ?_
              refine QJ.step (YldS.yld (y_move rfl)) rfl ?_
              obtain ⟨c25, h26, hm⟩ := bindS hm
              refine QJ.step (YldS.yld (y_idxStr Try.runUnderlying9 rfl rfl h26)) rfl ?_
              refine QJ.done ?_
              refine PJ.next ?_
              refine WJ.block ?_
              obtain ⟨kj28, hk29, hm⟩ := withK_open hm
              refine WJ.join (X := Bool) (fun (x : Bool) => kj28 x = some r) (fun (x : Bool) => [(0, v2), (1, str plan4), (6, v15), (7, .int .i64 column16), (8, .int .i64 i17), (26, .int .u8 (UInt8.toNat c25 : Int)), (27, .bool x)]) (fun (x : Bool) => [row v15 5 fByte l14]) ?_ ?_
              · clear hk29
                refine WJ.seq ?_
                refine WJ.quiet ?_
                refine QJ.step (YldS.yld (y_bin8 c25 (62 : UInt8) rfl rfl rfl)) rfl ?_
                refine QJ.step (YldS.yld (y_assign rfl)) rfl ?_
                refine QJ.done ?_
                refine PJ.next ?_
                refine WJ.cond (t := (c25 == (62 : UInt8))) rfl (fun hb30 => ?_) (fun hb30 => ?_)
                · replace hm := ifT hm hb30
                  refine WJ.skip ?_
                  exact PJ.joined (c25 == (62 : UInt8)) [0] hm ⟨rfl, rfl, rfl, rfl, rfl, rfl, rfl, trivial⟩ ⟨by decide, rfl⟩
                · replace hm := ifF hm hb30
                  refine WJ.seq ?_
                  refine WJ.quiet ?_
                  refine QJ.step (YldS.yld (y_bin8 c25 (60 : UInt8) rfl rfl rfl)) rfl ?_
                  refine QJ.step (YldS.yld (y_assign rfl)) rfl ?_
                  refine QJ.done ?_
                  refine PJ.next ?_
                  refine WJ.cond (t := (c25 == (60 : UInt8))) rfl (fun hb31 => ?_) (fun hb31 => ?_)
                  · replace hm := ifT hm hb31
                    refine WJ.skip ?_
                    exact PJ.joined (c25 == (60 : UInt8)) [0] hm ⟨rfl, rfl, rfl, rfl, rfl, rfl, rfl, trivial⟩ ⟨by decide, rfl⟩
                  · replace hm := ifF hm hb31
                    refine WJ.quiet ?_
                    refine QJ.step (YldS.yld (y_bin8 c25 (35 : UInt8) rfl rfl rfl)) rfl ?_
                    refine QJ.step (YldS.yld (y_assign rfl)) rfl ?_
                    refine QJ.done ?_
                    exact PJ.joined (c25 == (35 : UInt8)) [0] hm ⟨rfl, rfl, rfl, rfl, rfl, rfl, rfl, trivial⟩ ⟨by decide, rfl⟩
              · rintro x27 hm
                subst hk29
                refine WJ.cond (t := x27) rfl (fun hb32 => ?_) (fun hb32 => ?_)
                · replace hm := ifT hm hb32
                  refine WJ.seq ?_
                  refine WJ.quiet ?_
                  refine QJ.step (YldS.yld (y_move rfl)) rfl ?_
                  refine QJ.step (YldS.yld (y_move rfl)) rfl ?_
                  refine QJ.step (YldS.yld (y_move rfl)) rfl ?_
                  refine QJ.step (YldS.yld (y_move rfl)) rfl ?_
                  obtain ⟨c33, h34, hm⟩ := bindS hm
                  refine QJ.step (YldS.yld (y_idxStr Try.runUnderlying9 rfl rfl h34)) rfl ?_
                  obtain ⟨r35, h36, hm⟩ := bindS hm
                  refine QJ.step (y_call Try.call114 rfl (RetG.quiet fun w hw => ok_i_moved h36 w _ (hr3.st hw))) rfl ?_
                  refine QJ.step (YldS.yld (y_move rfl)) rfl ?_
                  refine QJ.step (YldS.yld (y_extract rfl rfl)) rfl ?_
                  refine QJ.step (YldS.yld (y_extract rfl rfl)) rfl ?_
                  refine QJ.step (YldS.yld (y_assign rfl)) rfl ?_
                  refine QJ.step (YldS.yld (y_assign rfl)) rfl ?_
                  refine QJ.done ?_
                  refine PJ.next ?_
                  refine WJ.seq ?_
                  refine WJ.seq ?_
                  refine WJ.quiet ?_
                  refine QJ.step (YldS.yld (y_move rfl)) rfl ?_
                  refine QJ.step (YldS.yld (y_not rfl)) rfl ?_
                  refine QJ.done ?_
                  refine PJ.next ?_
                  refine WJ.cond (t := !r35.2) rfl (fun hb37 => ?_) (fun hb37 => ?_)
                  · replace hm := ifT hm hb37
                    refine WJ.seq ?_
                    refine WJ.quiet ?_
                    refine QJ.step (YldS.yld (y_assign rfl)) rfl ?_
                    refine QJ.step (YldS.yld (y_assign rfl)) rfl ?_
                    refine QJ.done ?_
                    refine PJ.next ?_
                    refine WJ.ret ?_
                    refine PJ.then_ret (PJ.block_ret (PJ.then_ret (PJ.block_ret (PJ.then_ret (PJ.then_ret (PJ.block_ret (PJ.then_ret ?_)))))))
                    obtain rfl := Option.some.inj hm
                    refine PJ.sel (L' := []) [] ⟨List.nodup_nil, rfl⟩ ?_
                    exact PJ.retn (vs := [str [], .int .i64 7]) Try.results51 ⟨rfl, rfl, trivial⟩ ⟨rfl, rfl⟩
                  · replace hm := ifF hm hb37
                    refine WJ.skip ?_
                    refine PJ.next ?_
                    refine WJ.seq ?_
                    refine WJ.quiet ?_
                    refine QJ.step (YldS.yld (y_move rfl)) rfl ?_
                    refine QJ.step (YldS.yld (y_assign rfl)) rfl ?_
                    refine QJ.done ?_
                    refine PJ.next ?_
                    refine WJ.exit ?_
                    refine PJ.block_exit_ne rfl (PJ.then_exit (PJ.block_exit ?_))
                    exact PJ.joined (l14, v15, r35.1, i17) [0] hm ⟨rfl, rfl, rfl, rfl, rfl, trivial⟩ ⟨by decide, rfl⟩
                · replace hm := ifF hm hb32
                  refine WJ.seq ?_
                  refine WJ.quiet ?_
                  refine QJ.step (YldS.yld (y_bin8 c25 (39 : UInt8) rfl rfl rfl)) rfl ?_
                  refine QJ.step (YldS.yld (y_assign rfl)) rfl ?_
                  refine QJ.done ?_
                  refine PJ.next ?_
                  refine WJ.cond (t := (c25 == (39 : UInt8))) rfl (fun hb38 => ?_) (fun hb38 => ?_)
                  · replace hm := ifT hm hb38
                    refine WJ.quiet ?_
                    refine QJ.step (YldS.yld (y_move rfl)) rfl ?_
                    refine QJ.step (YldS.yld (y_bin rfl rfl rfl)) rfl ?_
                    refine QJ.step (YldS.yld (y_assign rfl)) rfl ?_
                    refine QJ.done ?_
                    refine PJ.block_normal (PJ.next ?_)
                    refine WJ.seq ?_
                    refine WJ.seq ?_
                    refine WJ.quiet ?_
                    refine QJ.step (YldS.yld (y_move rfl)) rfl ?_
                    refine QJ.step (YldS.yld (y_move rfl)) rfl ?_
                    refine QJ.step (YldS.yld (y_lenStr Try.runUnderlying9 rfl)) rfl ?_
                    refine QJ.step (YldS.yld (y_bin rfl rfl rfl)) rfl ?_
                    refine QJ.step (YldS.yld (y_move rfl)) rfl ?_
                    obtain ⟨t39, h40, hm⟩ := bindS hm
                    refine QJ.cut 8 [(0, v2), (1, str plan4), (6, v15), (7, .int .i64 column16), (8, .int .i64 (w64 (i17 + 1))), (59, .bool t39)] ?_ ?_
                    · rcases Bool.eq_false_or_eq_true (decide ((w64 (i17 + 1)) ≥ (List.length plan4 : Int))) with hb41 | hb41
                      · obtain rfl := orT h40 hb41
                        refine QJ.off rfl rfl (cB hb41) rfl rfl ?_
                        refine QJ.off rfl rfl (cB hb41) rfl rfl ?_
                        refine QJ.off rfl rfl (cB hb41) rfl rfl ?_
                        refine QJ.off rfl rfl (cB hb41) rfl rfl ?_
                        refine QJ.off rfl rfl (cB hb41) rfl rfl ?_
                        refine QJ.off rfl rfl (cB hb41) rfl rfl ?_
                        refine QJ.off rfl rfl (cB hb41) rfl rfl ?_
                        refine QJ.step (YldS.yld (y_pick_t (cB hb41) rfl)) rfl ?_
                        exact QJ.cut_end ⟨rfl, rfl, rfl, rfl, rfl, rfl, trivial⟩
                      · replace h40 := orF h40 hb41
                        refine QJ.on rfl rfl (cB hb41) (YldS.yld (y_move rfl)) rfl ?_
                        refine QJ.on rfl rfl (cB hb41) (YldS.yld (y_move rfl)) rfl ?_
                        refine QJ.on rfl rfl (cB hb41) (YldS.yld (y_move rfl)) rfl ?_
                        refine QJ.on rfl rfl (cB hb41) (YldS.yld (y_bin rfl rfl rfl)) rfl ?_
                        obtain ⟨s42, h43, h40⟩ := bindS h40
                        refine QJ.on rfl rfl (cB hb41) (YldS.yld (y_subStr (i := some (w64 (i17 + 1))) (j := some (w64 ((w64 (i17 + 1)) + 1))) h43 Try.runUnderlying9 rfl ⟨_, rfl⟩ ⟨_, rfl⟩)) rfl ?_
                        obtain ⟨r44, h45, h40⟩ := bindS h40
                        refine QJ.on rfl rfl (cB hb41) (y_call Try.call115 rfl (RetG.quiet fun w hw => ok_i_isLetter h45 w )) rfl ?_
                        refine QJ.on rfl rfl (cB hb41) (YldS.yld (y_not rfl)) rfl ?_
                        refine QJ.step (YldS.yld (y_pick_f (cB hb41) rfl)) rfl ?_
                        obtain rfl := Option.some.inj h40
                        exact QJ.cut_end ⟨rfl, rfl, rfl, rfl, rfl, rfl, trivial⟩
                    refine QJ.step (YldS.yld (y_move rfl)) rfl ?_
                    obtain ⟨t46, h47, hm⟩ := bindS hm
                    refine QJ.cut 3 [(0, v2), (1, str plan4), (6, v15), (7, .int .i64 column16), (8, .int .i64 (w64 (i17 + 1))), (63, .bool t46)] ?_ ?_
                    · rcases Bool.eq_false_or_eq_true t39 with hb48 | hb48
                      · obtain rfl := orT h47 hb48
                        refine QJ.off rfl rfl (cB hb48) rfl rfl ?_
                        refine QJ.off rfl rfl (cB hb48) rfl rfl ?_
                        refine QJ.step (YldS.yld (y_pick_t (cB hb48) rfl)) rfl ?_
                        exact QJ.cut_end ⟨rfl, rfl, rfl, rfl, rfl, rfl, trivial⟩
                      · replace h47 := orF h47 hb48
                        refine QJ.on rfl rfl (cB hb48) (YldS.yld (y_move rfl)) rfl ?_
                        refine QJ.on rfl rfl (cB hb48) (YldS.yld (y_bin rfl rfl rfl)) rfl ?_
                        refine QJ.step (YldS.yld (y_pick_f (cB hb48) rfl)) rfl ?_
                        obtain rfl := Option.some.inj h47
                        exact QJ.cut_end ⟨rfl, rfl, rfl, rfl, rfl, rfl, trivial⟩
                    refine QJ.done ?_
                    refine PJ.next ?_
                    refine WJ.cond (t := t46) rfl (fun hb49 => ?_) (fun hb49 => ?_)
                    · replace hm := ifT hm hb49
                      refine WJ.seq ?_
                      refine WJ.quiet ?_
                      refine QJ.step (YldS.yld (y_assign rfl)) rfl ?_
                      refine QJ.step (YldS.yld (y_assign rfl)) rfl ?_
                      refine QJ.done ?_
                      refine PJ.next ?_
                      refine WJ.ret ?_
                      refine PJ.then_ret (PJ.block_ret (PJ.then_ret (PJ.then_ret (PJ.block_ret (PJ.then_ret ?_)))))
                      obtain rfl := Option.some.inj hm
                      refine PJ.sel (L' := []) [] ⟨List.nodup_nil, rfl⟩ ?_
                      exact PJ.retn (vs := [str [], .int .i64 7]) Try.results51 ⟨rfl, rfl, trivial⟩ ⟨rfl, rfl⟩
                    · replace hm := ifF hm hb49
                      refine WJ.skip ?_
                      refine PJ.next ?_
                      obtain ⟨kj52, hk53, hm⟩ := withK_open hm
                      refine WJ.join (X := (List UInt8) × Value) (fun (x : (List UInt8) × Value) => kj52 x.1 = some r) (fun (x : (List UInt8) × Value) => [(0, v2), (1, str plan4), (6, x.2), (7, .int .i64 column16), (8, .int .i64 (w64 (i17 + 1)))]) (fun (x : (List UInt8) × Value) => [row x.2 5 fByte x.1]) ?_ ?_
                      · clear hk53
                        refine WJ.block ?_
                        refine WJ.sel (L' := (fun (x : (List UInt8) × Value) => [row x.2 5 fByte x.1]) (l14, v15)) [0] ⟨by decide, rfl⟩ ?_
                        refine WJ.sub (m' := (fun (x : (List UInt8) × Value) => [(0, v2), (1, str plan4), (6, x.2), (7, .int .i64 column16), (8, .int .i64 (w64 (i17 + 1)))]) (l14, v15)) ⟨rfl, rfl, rfl, rfl, rfl, trivial⟩ ?_
                        refine WJ.loop (X := (List UInt8) × Value) (fun N (x : (List UInt8) × Value) => i_RunPlan_l2 kj52 column16 N x.1 = some r) (fun (x : (List UInt8) × Value) => [(0, v2), (1, str plan4), (6, x.2), (7, .int .i64 column16), (8, .int .i64 (w64 (i17 + 1)))]) (fun (x : (List UInt8) × Value) => [row x.2 5 fByte x.1]) ?_ N (l14, v15) hm
                        · rintro N ⟨l54, v55⟩ hI
                          have hm := hI; clear hI
                          cases N with
                          | zero => cases hm
                          | succ N =>
                          unfold i_RunPlan_l2 at hm
                          refine WJ.seq ?_
                          refine WJ.seq ?_
                          refine WJ.quiet ?_
                          refine QJ.step (YldS.yld (y_move rfl)) rfl ?_
                          refine QJ.step (YldS.yld (y_lenRow (k := 0) rfl Try.runUnderlying22 rfl)) rfl ?_
                          refine QJ.step (YldS.yld (y_move rfl)) rfl ?_
                          refine QJ.step (YldS.yld (y_bin rfl rfl rfl)) rfl ?_
                          refine QJ.done ?_
                          refine PJ.next ?_
                          refine WJ.cond (t := decide ((List.length l54 : Int) ≤ column16)) rfl (fun hb56 => ?_) (fun hb56 => ?_)
                          · replace hm := ifT hm hb56
                            refine WJ.skip ?_
                            refine PJ.next ?_
                            refine WJ.block ?_
                            refine WJ.reg ?_
                            refine SJ.q (YldS.yld (y_move rfl)) rfl ?_
                            refine SJ.buildSlice (R := fByte) (os := [.const (.int .u8 (UInt8.toNat 32 : Int))]) [32] Try.runUnderlying22 Try.sizeOf5 Try.zeroValue5 rfl rfl rfl rfl rfl rfl fun v57 => ?_
                            obtain ⟨l58, h59, hm⟩ := bindS hm
                            refine SJ.append (k := 1) (R := fByte) h59 rfl Try.underlying22 el5 rfl rfl rfl (fun w hw => (hw.row_rd (k := 0) rfl)) rfl fun v60 => ?_
                            refine SJ.q (YldS.yld (y_assign rfl)) rfl ?_
                            refine SJ.nil ?_
                            refine PJ.block_normal ?_
                            exact PJ.round (l58, v60) [1] hm ⟨rfl, rfl, rfl, rfl, rfl, trivial⟩ ⟨by decide, rfl⟩
                          · replace hm := ifF hm hb56
                            refine WJ.exit ?_
                            refine PJ.then_exit (PJ.then_exit (PJ.block_exit ?_))
                            exact PJ.joined (l54, v55) [0] hm ⟨rfl, rfl, rfl, rfl, rfl, trivial⟩ ⟨by decide, rfl⟩
                      · rintro ⟨l50, v51⟩ hm
                        subst hk53
                        refine WJ.seq ?_
                        refine WJ.seq ?_
                        refine WJ.quiet ?_
                        refine QJ.step (YldS.yld (y_move rfl)) rfl ?_
                        refine QJ.step (YldS.yld (y_move rfl)) rfl ?_
                        obtain ⟨e61, h62, hm⟩ := bindS hm
                        refine QJ.step (YldS.yld (y_ixRow (k := 0) (R := fByte) rfl Try.runUnderlying22 Try.sizeOf5 rfl rfl h62)) rfl ?_
                        refine QJ.step (YldS.yld (y_loadR (k := 0) (i := (Int.toNat column16)) (off := 0) (u := .int .u8 (UInt8.toNat e61 : Int)) rfl Try.isAgg5 rfl (idx_get h62) rfl)) rfl ?_
                        refine QJ.step (YldS.yld (y_bin8 e61 (32 : UInt8) rfl rfl rfl)) rfl ?_
                        refine QJ.done ?_
                        refine PJ.next ?_
                        refine WJ.cond (t := (e61 != (32 : UInt8))) rfl (fun hb63 => ?_) (fun hb63 => ?_)
                        · replace hm := ifT hm hb63
                          refine WJ.seq ?_
                          refine WJ.quiet ?_
                          refine QJ.step (YldS.yld (y_assign rfl)) rfl ?_
                          refine QJ.step (YldS.yld (y_assign rfl)) rfl ?_
                          refine QJ.done ?_
                          refine PJ.next ?_
                          refine WJ.ret ?_
                          refine PJ.then_ret (PJ.block_ret (PJ.then_ret (PJ.then_ret (PJ.block_ret (PJ.then_ret ?_)))))
                          obtain rfl := Option.some.inj hm
                          refine PJ.sel (L' := []) [] ⟨List.nodup_nil, rfl⟩ ?_
                          exact PJ.retn (vs := [str [], .int .i64 7]) Try.results51 ⟨rfl, rfl, trivial⟩ ⟨rfl, rfl⟩
                        · replace hm := ifF hm hb63
                          refine WJ.skip ?_
                          refine PJ.next ?_
                          refine WJ.seq ?_
                          refine WJ.reg ?_
                          refine SJ.q (YldS.yld (y_move rfl)) rfl ?_
                          refine SJ.q (YldS.yld (y_move rfl)) rfl ?_
                          refine SJ.q (YldS.yld (y_move rfl)) rfl ?_
                          refine SJ.q (YldS.yld (y_move rfl)) rfl ?_
                          obtain ⟨c64, h65, hm⟩ := bindS hm
                          refine SJ.q (YldS.yld (y_idxStr Try.runUnderlying9 rfl rfl h65)) rfl ?_
                          obtain ⟨e66, h67, hm⟩ := bindS hm
                          refine SJ.q (YldS.yld (y_ixRow (k := 0) (R := fByte) rfl Try.runUnderlying22 Try.sizeOf5 rfl rfl h67)) rfl ?_
                          refine SJ.storeRL (k := 0) (i := (Int.toNat column16)) (off := 0) (us := [.int .u8 (UInt8.toNat c64 : Int)]) (b := c64) rfl rfl (idx_get h67) rfl rfl Try.sizeOf5 rfl rfl rfl ?_
                          refine SJ.nil ?_
                          refine PJ.next ?_
                          refine WJ.quiet ?_
                          refine QJ.step (YldS.yld (y_move rfl)) rfl ?_
                          refine QJ.step (YldS.yld (y_bin rfl rfl rfl)) rfl ?_
                          refine QJ.step (YldS.yld (y_assign rfl)) rfl ?_
                          refine QJ.done ?_
                          refine PJ.block_normal ?_
                          exact PJ.joined ((List.set l50 (Int.toNat column16) c64), v51, w64 (column16 + 1), w64 (i17 + 1)) [0] hm ⟨rfl, rfl, rfl, rfl, rfl, trivial⟩ ⟨by decide, rfl⟩
                  · replace hm := ifF hm hb38
                    refine WJ.seq ?_
                    refine WJ.quiet ?_
                    refine QJ.step (YldS.yld (y_assign rfl)) rfl ?_
                    refine QJ.step (YldS.yld (y_assign rfl)) rfl ?_
                    refine QJ.done ?_
                    refine PJ.next ?_
                    refine WJ.ret ?_
                    refine PJ.block_ret (PJ.then_ret (PJ.block_ret (PJ.then_ret (PJ.then_ret (PJ.block_ret (PJ.then_ret ?_))))))
                    obtain rfl := Option.some.inj hm
                    refine PJ.sel (L' := []) [] ⟨List.nodup_nil, rfl⟩ ?_
                    exact PJ.retn (vs := [str [], .int .i64 7]) Try.results51 ⟨rfl, rfl, trivial⟩ ⟨rfl, rfl⟩
            · rintro ⟨l19, v20, column21, i22⟩ hm
              subst hk24
              refine WJ.quiet ?_
              refine QJ.step (YldS.yld (y_move rfl)) rfl ?_
              refine QJ.step (YldS.yld (y_bin rfl rfl rfl)) rfl ?_
              refine QJ.step (YldS.yld (y_assign rfl)) rfl ?_
              refine QJ.done ?_
              exact PJ.round (l19, v20, column21, w64 (i22 + 1)) [0] hm ⟨rfl, rfl, rfl, rfl, rfl, trivial⟩ ⟨by decide, rfl⟩
          · replace hm := ifF hm hb18
            refine WJ.exit ?_
            refine PJ.then_exit (PJ.then_exit (PJ.block_exit ?_))
            exact PJ.joined (l14, v15) [0] hm ⟨rfl, trivial⟩ ⟨by decide, rfl⟩
      · rintro ⟨l10, v11⟩ hm
        subst hk13
        refine WJ.seq ?_
        refine WJ.quiet ?_
        refine QJ.step (YldS.yld (y_move rfl)) rfl ?_
        refine QJ.step (YldS.yld (y_b2s Try.underlying22 Try.underlying9 Try.underlying5 (fun w hw => ⟨_, (hw.row_rd (k := 0) rfl)⟩) rfl)) rfl ?_
        refine QJ.step (YldS.yld (y_assign rfl)) rfl ?_
        refine QJ.step (YldS.yld (y_assign rfl)) rfl ?_
        refine QJ.done ?_
        refine PJ.next ?_
        refine WJ.ret ?_
        obtain rfl := Option.some.inj hm
        refine PJ.sel (L' := []) [] ⟨List.nodup_nil, rfl⟩ ?_
        exact PJ.retn (vs := [str l10, .int .i64 0]) Try.results51 ⟨rfl, rfl, trivial⟩ ⟨rfl, rfl⟩

set_option maxRecDepth 100000 in
set_option maxHeartbeats 1000000 in
theorem ok_i_PlanMoves {N : Nat} {plan1 : Str} {r : Int × Int} (hm : i_PlanMoves N plan1 = some r) (w : World)  :
    Calls Try.prog 52 #[str plan1] w (Ret (cx w) (tup [.int .i64 r.1, .int .i64 r.2])) := by
  unfold i_PlanMoves at hm
  refine Calls.enter [str plan1] Try.func52 rfl Try.ntmps52 rfl ?_
  refine WJ.seq ?_
  refine WJ.quiet ?_
  refine QJ.step (YldS.yld (y_assign rfl)) rfl ?_
  refine QJ.step (YldS.yld (y_assign rfl)) rfl ?_
  refine QJ.done ?_
  refine PJ.next ?_
  refine WJ.seq ?_
  refine WJ.seq ?_
  refine WJ.quiet ?_
  refine QJ.step (YldS.yld (y_move rfl)) rfl ?_
  refine QJ.step (YldS.yld (y_lenStr Try.runUnderlying9 rfl)) rfl ?_
  refine QJ.step (YldS.yld (y_bin rfl rfl rfl)) rfl ?_
  refine QJ.done ?_
  refine PJ.next ?_
  refine WJ.cond (t := decide ((List.length plan1 : Int) > 200)) rfl (fun hb2 => ?_) (fun hb2 => ?_)
  · replace hm := ifT hm hb2
    refine WJ.seq ?_
    refine WJ.quiet ?_
    refine QJ.step (YldS.yld (y_assign rfl)) rfl ?_
    refine QJ.step (YldS.yld (y_assign rfl)) rfl ?_
    refine QJ.done ?_
    refine PJ.next ?_
    refine WJ.ret ?_
    refine PJ.then_ret ?_
    obtain rfl := Option.some.inj hm
    refine PJ.sel (L' := []) [] ⟨List.nodup_nil, rfl⟩ ?_
    exact PJ.retn (vs := [.int .i64 0, .int .i64 7]) Try.results52 ⟨rfl, rfl, trivial⟩ ⟨rfl, rfl⟩
  · replace hm := ifF hm hb2
    refine WJ.skip ?_
    refine PJ.next ?_
    refine WJ.seq ?_
    refine WJ.quiet ?_
    refine QJ.step (YldS.yld (y_assign rfl)) rfl ?_
    refine QJ.done ?_
    refine PJ.next ?_
    obtain ⟨kj4, hk5, hm⟩ := withK_open hm
    refine WJ.join (X := Int) (fun (x : Int) => kj4 x = some r) (fun (x : Int) => [(4, .int .i64 x)]) (fun (x : Int) => []) ?_ ?_
    · clear hk5
      refine WJ.seq ?_
      refine WJ.quiet ?_
      refine QJ.step (YldS.yld (y_assign rfl)) rfl ?_
      refine QJ.done ?_
      refine PJ.next ?_
      refine WJ.block ?_
      refine WJ.sel (L' := (fun (x : Int × Int) => []) (0, 0)) [] ⟨List.nodup_nil, rfl⟩ ?_
      refine WJ.sub (m' := (fun (x : Int × Int) => [(0, str plan1), (4, .int .i64 x.1), (5, .int .i64 x.2)]) (0, 0)) ⟨rfl, rfl, rfl, trivial⟩ ?_
      refine WJ.loop (X := Int × Int) (fun N (x : Int × Int) => i_PlanMoves_l1 kj4 plan1 N x.1 x.2 = some r) (fun (x : Int × Int) => [(0, str plan1), (4, .int .i64 x.1), (5, .int .i64 x.2)]) (fun (x : Int × Int) => []) ?_ N (0, 0) hm
      · rintro N ⟨moves6, i7⟩ hI
        have hm := hI; clear hI
        cases N with
        | zero => cases hm
        | succ N =>
        unfold i_PlanMoves_l1 at hm
        refine WJ.seq ?_
        refine WJ.seq ?_
        refine WJ.quiet ?_
        refine QJ.step (YldS.yld (y_move rfl)) rfl ?_
        refine QJ.step (YldS.yld (y_move rfl)) rfl ?_
        refine QJ.step (YldS.yld (y_lenStr Try.runUnderlying9 rfl)) rfl ?_
        refine QJ.step (YldS.yld (y_bin rfl rfl rfl)) rfl ?_
        refine QJ.done ?_
        refine PJ.next ?_
        refine WJ.cond (t := decide (i7 < (List.length plan1 : Int))) rfl (fun hb8 => ?_) (fun hb8 => ?_)
        · replace hm := ifT hm hb8
          refine WJ.skip ?_
          refine PJ.next ?_
          obtain ⟨kj11, hk12, hm⟩ := withK_open hm
          refine WJ.join (X := Int × Int) (fun (x : Int × Int) => kj11 x.1 x.2 = some r) (fun (x : Int × Int) => [(0, str plan1), (4, .int .i64 x.1), (5, .int .i64 x.2)]) (fun (x : Int × Int) => []) ?_ ?_
          · clear hk12
            refine WJ.block ?_
            refine WJ.seq ?_
            refine WJ.quiet ?_
            refine QJ.step (YldS.yld (y_move rfl)) rfl ?_
            refine QJ.step (YldS.yld (y_move rfl)) rfl ?_
            obtain ⟨c13, h14, hm⟩ := bindS hm
            refine QJ.step (YldS.yld (y_idxStr Try.runUnderlying9 rfl rfl h14)) rfl ?_
            refine QJ.done ?_
            refine PJ.next ?_
            refine WJ.block ?_
            obtain ⟨kj16, hk17, hm⟩ := withK_open hm
            refine WJ.join (X := Bool) (fun (x : Bool) => kj16 x = some r) (fun (x : Bool) => [(0, str plan1), (4, .int .i64 moves6), (5, .int .i64 i7), (17, .int .u8 (UInt8.toNat c13 : Int)), (18, .bool x)]) (fun (x : Bool) => []) ?_ ?_
            · clear hk17
              refine WJ.seq ?_
              refine WJ.quiet ?_
              refine QJ.step (YldS.yld (y_bin8 c13 (62 : UInt8) rfl rfl rfl)) rfl ?_
              refine QJ.step (YldS.yld (y_assign rfl)) rfl ?_
              refine QJ.done ?_
              refine PJ.next ?_
              refine WJ.cond (t := (c13 == (62 : UInt8))) rfl (fun hb18 => ?_) (fun hb18 => ?_)
              · replace hm := ifT hm hb18
                refine WJ.skip ?_
                exact PJ.joined (c13 == (62 : UInt8)) [] hm ⟨rfl, rfl, rfl, rfl, rfl, trivial⟩ ⟨List.nodup_nil, rfl⟩
              · replace hm := ifF hm hb18
                refine WJ.seq ?_
                refine WJ.quiet ?_
                refine QJ.step (YldS.yld (y_bin8 c13 (60 : UInt8) rfl rfl rfl)) rfl ?_
                refine QJ.step (YldS.yld (y_assign rfl)) rfl ?_
                refine QJ.done ?_
                refine PJ.next ?_
                refine WJ.cond (t := (c13 == (60 : UInt8))) rfl (fun hb19 => ?_) (fun hb19 => ?_)
                · replace hm := ifT hm hb19
                  refine WJ.skip ?_
                  exact PJ.joined (c13 == (60 : UInt8)) [] hm ⟨rfl, rfl, rfl, rfl, rfl, trivial⟩ ⟨List.nodup_nil, rfl⟩
                · replace hm := ifF hm hb19
                  refine WJ.quiet ?_
                  refine QJ.step (YldS.yld (y_bin8 c13 (35 : UInt8) rfl rfl rfl)) rfl ?_
                  refine QJ.step (YldS.yld (y_assign rfl)) rfl ?_
                  refine QJ.done ?_
                  exact PJ.joined (c13 == (35 : UInt8)) [] hm ⟨rfl, rfl, rfl, rfl, rfl, trivial⟩ ⟨List.nodup_nil, rfl⟩
            · rintro x15 hm
              subst hk17
              refine WJ.cond (t := x15) rfl (fun hb20 => ?_) (fun hb20 => ?_)
              · replace hm := ifT hm hb20
                refine WJ.quiet ?_
                refine QJ.step (YldS.yld (y_move rfl)) rfl ?_
                refine QJ.step (YldS.yld (y_bin rfl rfl rfl)) rfl ?_
                refine QJ.step (YldS.yld (y_assign rfl)) rfl ?_
                refine QJ.done ?_
                refine PJ.block_normal (PJ.block_normal ?_)
                exact PJ.joined (w64 (moves6 + 1), i7) [] hm ⟨rfl, rfl, rfl, trivial⟩ ⟨List.nodup_nil, rfl⟩
              · replace hm := ifF hm hb20
                refine WJ.seq ?_
                refine WJ.quiet ?_
                refine QJ.step (YldS.yld (y_bin8 c13 (39 : UInt8) rfl rfl rfl)) rfl ?_
                refine QJ.step (YldS.yld (y_assign rfl)) rfl ?_
                refine QJ.done ?_
                refine PJ.next ?_
                refine WJ.cond (t := (c13 == (39 : UInt8))) rfl (fun hb21 => ?_) (fun hb21 => ?_)
                · replace hm := ifT hm hb21
                  refine WJ.seq ?_
                  refine WJ.quiet ?_
                  refine QJ.step (YldS.yld (y_move rfl)) rfl ?_
                  refine QJ.step (YldS.yld (y_bin rfl rfl rfl)) rfl ?_
                  refine QJ.step (YldS.yld (y_assign rfl)) rfl ?_
                  refine QJ.done ?_
                  refine PJ.next ?_
                  refine WJ.seq ?_
                  refine WJ.quiet ?_
                  refine QJ.step (YldS.yld (y_move rfl)) rfl ?_
                  refine QJ.step (YldS.yld (y_move rfl)) rfl ?_
                  refine QJ.step (YldS.yld (y_lenStr Try.runUnderlying9 rfl)) rfl ?_
                  refine QJ.step (YldS.yld (y_bin rfl rfl rfl)) rfl ?_
                  refine QJ.step (YldS.yld (y_move rfl)) rfl ?_
                  obtain ⟨t22, h23, hm⟩ := bindS hm
                  refine QJ.cut 8 [(0, str plan1), (4, .int .i64 moves6), (5, .int .i64 (w64 (i7 + 1))), (40, .bool t22)] ?_ ?_
                  · rcases Bool.eq_false_or_eq_true (decide ((w64 (i7 + 1)) ≥ (List.length plan1 : Int))) with hb24 | hb24
                    · obtain rfl := orT h23 hb24
                      refine QJ.off rfl rfl (cB hb24) rfl rfl ?_
                      refine QJ.off rfl rfl (cB hb24) rfl rfl ?_
                      refine QJ.off rfl rfl (cB hb24) rfl rfl ?_
                      refine QJ.off rfl rfl (cB hb24) rfl rfl ?_
                      refine QJ.off rfl rfl (cB hb24) rfl rfl ?_
                      refine QJ.off rfl rfl (cB hb24) rfl rfl ?_
                      refine QJ.off rfl rfl (cB hb24) rfl rfl ?_
                      refine QJ.step (YldS.yld (y_pick_t (cB hb24) rfl)) rfl ?_
                      exact QJ.cut_end ⟨rfl, rfl, rfl, rfl, trivial⟩
                    · replace h23 := orF h23 hb24
                      refine QJ.on rfl rfl (cB hb24) (YldS.yld (y_move rfl)) rfl ?_
                      refine QJ.on rfl rfl (cB hb24) (YldS.yld (y_move rfl)) rfl ?_
                      refine QJ.on rfl rfl (cB hb24) (YldS.yld (y_move rfl)) rfl ?_
                      refine QJ.on rfl rfl (cB hb24) (YldS.yld (y_bin rfl rfl rfl)) rfl ?_
                      obtain ⟨s25, h26, h23⟩ := bindS h23
                      refine QJ.on rfl rfl (cB hb24) (YldS.yld (y_subStr (i := some (w64 (i7 + 1))) (j := some (w64 ((w64 (i7 + 1)) + 1))) h26 Try.runUnderlying9 rfl ⟨_, rfl⟩ ⟨_, rfl⟩)) rfl ?_
                      obtain ⟨r27, h28, h23⟩ := bindS h23
                      refine QJ.on rfl rfl (cB hb24) (y_call Try.call115 rfl (RetG.quiet fun w hw => ok_i_isLetter h28 w )) rfl ?_
                      refine QJ.on rfl rfl (cB hb24) (YldS.yld (y_not rfl)) rfl ?_
                      refine QJ.step (YldS.yld (y_pick_f (cB hb24) rfl)) rfl ?_
                      obtain rfl := Option.some.inj h23
                      exact QJ.cut_end ⟨rfl, rfl, rfl, rfl, trivial⟩
                  refine QJ.done ?_
                  refine PJ.next ?_
                  refine WJ.cond (t := t22) rfl (fun hb29 => ?_) (fun hb29 => ?_)
                  · replace hm := ifT hm hb29
                    refine WJ.seq ?_
                    refine WJ.quiet ?_
                    refine QJ.step (YldS.yld (y_assign rfl)) rfl ?_
                    refine QJ.step (YldS.yld (y_assign rfl)) rfl ?_
                    refine QJ.done ?_
                    refine PJ.next ?_
                    refine WJ.ret ?_
                    refine PJ.block_ret (PJ.block_ret (PJ.then_ret (PJ.then_ret (PJ.block_ret (PJ.then_ret ?_)))))
                    obtain rfl := Option.some.inj hm
                    refine PJ.sel (L' := []) [] ⟨List.nodup_nil, rfl⟩ ?_
                    exact PJ.retn (vs := [.int .i64 0, .int .i64 7]) Try.results52 ⟨rfl, rfl, trivial⟩ ⟨rfl, rfl⟩
                  · replace hm := ifF hm hb29
                    refine WJ.skip ?_
                    refine PJ.block_normal (PJ.block_normal ?_)
                    exact PJ.joined (moves6, w64 (i7 + 1)) [] hm ⟨rfl, rfl, rfl, trivial⟩ ⟨List.nodup_nil, rfl⟩
                · replace hm := ifF hm hb21
                  refine WJ.seq ?_
                  refine WJ.quiet ?_
                  refine QJ.step (YldS.yld (y_assign rfl)) rfl ?_
                  refine QJ.step (YldS.yld (y_assign rfl)) rfl ?_
                  refine QJ.done ?_
                  refine PJ.next ?_
                  refine WJ.ret ?_
                  refine PJ.block_ret (PJ.block_ret (PJ.then_ret (PJ.then_ret (PJ.block_ret (PJ.then_ret ?_)))))
                  obtain rfl := Option.some.inj hm
                  refine PJ.sel (L' := []) [] ⟨List.nodup_nil, rfl⟩ ?_
                  exact PJ.retn (vs := [.int .i64 0, .int .i64 7]) Try.results52 ⟨rfl, rfl, trivial⟩ ⟨rfl, rfl⟩
          · rintro ⟨moves9, i10⟩ hm
            subst hk12
            refine WJ.quiet ?_
            refine QJ.step (YldS.yld (y_move rfl)) rfl ?_
            refine QJ.step (YldS.yld (y_bin rfl rfl rfl)) rfl ?_
            refine QJ.step (YldS.yld (y_assign rfl)) rfl ?_
            refine QJ.done ?_
            exact PJ.round (moves9, w64 (i10 + 1)) [] hm ⟨rfl, rfl, rfl, trivial⟩ ⟨List.nodup_nil, rfl⟩
        · replace hm := ifF hm hb8
          refine WJ.exit ?_
          refine PJ.then_exit (PJ.then_exit (PJ.block_exit ?_))
          exact PJ.joined moves6 [] hm ⟨rfl, trivial⟩ ⟨List.nodup_nil, rfl⟩
    · rintro moves3 hm
      subst hk5
      refine WJ.seq ?_
      refine WJ.quiet ?_
      refine QJ.step (YldS.yld (y_move rfl)) rfl ?_
      refine QJ.step (YldS.yld (y_assign rfl)) rfl ?_
      refine QJ.step (YldS.yld (y_assign rfl)) rfl ?_
      refine QJ.done ?_
      refine PJ.next ?_
      refine WJ.ret ?_
      obtain rfl := Option.some.inj hm
      refine PJ.sel (L' := []) [] ⟨List.nodup_nil, rfl⟩ ?_
      exact PJ.retn (vs := [.int .i64 moves3, .int .i64 0]) Try.results52 ⟨rfl, rfl, trivial⟩ ⟨rfl, rfl⟩

set_option maxRecDepth 100000 in
set_option maxHeartbeats 1000000 in
theorem ok_i_rowsCode {N : Nat} {rows1 : List Str} {r : Int} (hm : i_rowsCode N rows1 = some r) (w : World) (v2 : Value) (hr3 : RdS w (cx w).Fz v2 fStr.rp rows1) :
    Calls Try.prog 116 #[v2] w (Ret (cx w) (.int .i64 r)) := by
  unfold i_rowsCode at hm
  refine Calls.enter [v2] Try.func116 rfl Try.ntmps116 rfl ?_
  refine WJ.seq ?_
  refine WJ.quiet ?_
  refine QJ.step (YldS.yld (y_assign rfl)) rfl ?_
  refine QJ.done ?_
  refine PJ.next ?_
  refine WJ.seq ?_
  refine WJ.seq ?_
  refine WJ.quiet ?_
  refine QJ.step (YldS.yld (y_move rfl)) rfl ?_
  refine QJ.step (YldS.yld (y_lenS Try.runUnderlying78 hr3 rfl)) rfl ?_
  refine QJ.step (YldS.yld (y_bin rfl rfl rfl)) rfl ?_
  refine QJ.done ?_
  refine PJ.next ?_
  refine WJ.cond (t := decide ((List.length rows1 : Int) > 12)) rfl (fun hb4 => ?_) (fun hb4 => ?_)
  · replace hm := ifT hm hb4
    refine WJ.seq ?_
    refine WJ.quiet ?_
    refine QJ.step (YldS.yld (y_assign rfl)) rfl ?_
    refine QJ.done ?_
    refine PJ.next ?_
    refine WJ.ret ?_
    refine PJ.then_ret ?_
    obtain rfl := Option.some.inj hm
    refine PJ.sel (L' := []) [] ⟨List.nodup_nil, rfl⟩ ?_
    exact PJ.retn (vs := [.int .i64 1]) Try.results116 ⟨rfl, trivial⟩ ⟨rfl, rfl⟩
  · replace hm := ifF hm hb4
    refine WJ.skip ?_
    refine PJ.next ?_
    obtain ⟨kj5, hk6, hm⟩ := withK_open hm
    refine WJ.join (X := Unit) (fun (_ : Unit) => kj5  = some r) (fun (_ : Unit) => []) (fun (_ : Unit) => []) ?_ ?_
    · clear hk6
      refine WJ.seq ?_
      refine WJ.quiet ?_
      refine QJ.step (YldS.yld (y_move rfl)) rfl ?_
      refine QJ.step (YldS.yld (y_lenS Try.runUnderlying78 hr3 rfl)) rfl ?_
      refine QJ.step (YldS.yld (y_move rfl)) rfl ?_
      refine QJ.done ?_
      refine PJ.next ?_
      refine WJ.block ?_
      refine WJ.sel (L' := (fun (x : Int) => []) 0) [] ⟨List.nodup_nil, rfl⟩ ?_
      refine WJ.sub (m' := (fun (x : Int) => [(8, v2), (9, .int .i64 (List.length rows1 : Int)), (10, .int .i64 x)]) 0) ⟨rfl, rfl, rfl, trivial⟩ ?_
      refine WJ.loop (X := Int) (fun N (x : Int) => i_rowsCode_l1 kj5 rows1 N x = some r) (fun (x : Int) => [(8, v2), (9, .int .i64 (List.length rows1 : Int)), (10, .int .i64 x)]) (fun (x : Int) => []) ?_ N 0 hm
      · rintro N x7 hI
        have hm := hI; clear hI
        cases N with
        | zero => cases hm
        | succ N =>
        unfold i_rowsCode_l1 at hm
        refine WJ.seq ?_
        refine WJ.quiet ?_
        refine QJ.step (YldS.yld (y_bin rfl rfl rfl)) rfl ?_
        refine QJ.done ?_
        refine PJ.next ?_
        refine WJ.seq ?_
        refine WJ.cond (t := decide (x7 < (List.length rows1 : Int))) rfl (fun hb8 => ?_) (fun hb8 => ?_)
        · replace hm := ifT hm hb8
          refine WJ.skip ?_
          refine PJ.next ?_
          refine WJ.seq ?_
          refine WJ.block ?_
          refine WJ.seq ?_
          refine WJ.quiet ?_
          obtain ⟨e9, h10, hm⟩ := bindS hm
          obtain ⟨ad11, _, rfl, ha12, hy13⟩ := hr3.elem h10
          refine QJ.step (YldS.yld (hy13 Try.runUnderlying78 Try.sizeOf9 rfl rfl)) rfl ?_
          refine QJ.step (YldS.yld (y_load1 (v := str e9) Try.isAgg9 ha12 St.frozenC rfl)) rfl ?_
          refine QJ.step (YldS.yld (y_assign rfl)) rfl ?_
          refine QJ.done ?_
          refine PJ.next ?_
          refine WJ.seq ?_
          refine WJ.quiet ?_
          refine QJ.step (YldS.yld (y_move rfl)) rfl ?_
          obtain ⟨r14, h15, hm⟩ := bindS hm
          refine QJ.step (y_call Try.call112 rfl (RetG.quiet fun w hw => ok_i_isRow h15 w )) rfl ?_
          refine QJ.step (YldS.yld (y_not rfl)) rfl ?_
          refine QJ.done ?_
          refine PJ.next ?_
          refine WJ.cond (t := !r14) rfl (fun hb16 => ?_) (fun hb16 => ?_)
          · replace hm := ifT hm hb16
            refine WJ.seq ?_
            refine WJ.quiet ?_
            refine QJ.step (YldS.yld (y_assign rfl)) rfl ?_
            refine QJ.done ?_
            refine PJ.next ?_
            refine WJ.ret ?_
            refine PJ.block_ret (PJ.then_ret (PJ.then_ret (PJ.block_ret (PJ.then_ret ?_))))
            obtain rfl := Option.some.inj hm
            refine PJ.sel (L' := []) [] ⟨List.nodup_nil, rfl⟩ ?_
            exact PJ.retn (vs := [.int .i64 2]) Try.results116 ⟨rfl, trivial⟩ ⟨rfl, rfl⟩
          · replace hm := ifF hm hb16
            refine WJ.skip ?_
            refine PJ.block_normal (PJ.next ?_)
            refine WJ.quiet ?_
            refine QJ.step (YldS.yld (y_bin rfl rfl rfl)) rfl ?_
            refine QJ.step (YldS.yld (y_move rfl)) rfl ?_
            refine QJ.done ?_
            exact PJ.round (w64 (x7 + 1)) [] hm ⟨rfl, rfl, rfl, trivial⟩ ⟨List.nodup_nil, rfl⟩
        · replace hm := ifF hm hb8
          refine WJ.exit ?_
          refine PJ.then_exit (PJ.then_exit (PJ.block_exit ?_))
          exact PJ.joined () [] hm trivial ⟨List.nodup_nil, rfl⟩
    · rintro _ hm
      subst hk6
      refine WJ.seq ?_
      refine WJ.quiet ?_
      refine QJ.step (YldS.yld (y_assign rfl)) rfl ?_
      refine QJ.done ?_
      refine PJ.next ?_
      refine WJ.ret ?_
      obtain rfl := Option.some.inj hm
      refine PJ.sel (L' := []) [] ⟨List.nodup_nil, rfl⟩ ?_
      exact PJ.retn (vs := [.int .i64 0]) Try.results116 ⟨rfl, trivial⟩ ⟨rfl, rfl⟩

set_option maxRecDepth 100000 in
set_option maxHeartbeats 1000000 in
theorem ok_i_pageMoves {N : Nat} {stops1 : List Int} {rows4 : List Str} {r : Int} (hm : i_pageMoves N stops1 rows4 = some r) (w : World) (v2 : Value) (hr3 : RdS w (cx w).Fz v2 fI64.rp stops1) (v5 : Value) (hr6 : RdS w (cx w).Fz v5 fStr.rp rows4) :
    Calls Try.prog 117 #[v2, v5] w (Ret (cx w) (.int .i64 r)) := by
  unfold i_pageMoves at hm
  refine Calls.enter [v2, v5] Try.func117 rfl Try.ntmps117 rfl ?_
  refine WJ.seq ?_
  refine WJ.quiet ?_
  refine QJ.step (YldS.yld (y_assign rfl)) rfl ?_
  refine QJ.done ?_
  refine PJ.next ?_
  refine WJ.seq ?_
  refine WJ.quiet ?_
  refine QJ.step (YldS.yld (y_assign rfl)) rfl ?_
  refine QJ.done ?_
  refine PJ.next ?_
  obtain ⟨kj8, hk9, hm⟩ := withK_open hm
  refine WJ.join (X := Int) (fun (x : Int) => kj8 x = some r) (fun (x : Int) => [(5, .int .i64 x)]) (fun (x : Int) => []) ?_ ?_
  · clear hk9
    refine WJ.seq ?_
    refine WJ.quiet ?_
    refine QJ.step (YldS.yld (y_move rfl)) rfl ?_
    refine QJ.step (YldS.yld (y_lenS Try.runUnderlying78 hr6 rfl)) rfl ?_
    refine QJ.step (YldS.yld (y_move rfl)) rfl ?_
    refine QJ.done ?_
    refine PJ.next ?_
    refine WJ.block ?_
    refine WJ.sel (L' := (fun (x : Int × Int) => []) (0, 0)) [] ⟨List.nodup_nil, rfl⟩ ?_
    refine WJ.sub (m' := (fun (x : Int × Int) => [(0, v2), (5, .int .i64 x.1), (10, v5), (11, .int .i64 (List.length rows4 : Int)), (12, .int .i64 x.2)]) (0, 0)) ⟨rfl, rfl, rfl, rfl, rfl, trivial⟩ ?_
    refine WJ.loop (X := Int × Int) (fun N (x : Int × Int) => i_pageMoves_l1 kj8 stops1 rows4 N x.1 x.2 = some r) (fun (x : Int × Int) => [(0, v2), (5, .int .i64 x.1), (10, v5), (11, .int .i64 (List.length rows4 : Int)), (12, .int .i64 x.2)]) (fun (x : Int × Int) => []) ?_ N (0, 0) hm
    · rintro N ⟨sum10, x11⟩ hI
      have hm := hI; clear hI
      cases N with
      | zero => cases hm
      | succ N =>
      unfold i_pageMoves_l1 at hm
      refine WJ.seq ?_
      refine WJ.quiet ?_
      refine QJ.step (YldS.yld (y_bin rfl rfl rfl)) rfl ?_
      refine QJ.done ?_
      refine PJ.next ?_
      refine WJ.seq ?_
      refine WJ.cond (t := decide (x11 < (List.length rows4 : Int))) rfl (fun hb12 => ?_) (fun hb12 => ?_)
      · replace hm := ifT hm hb12
        refine WJ.skip ?_
        refine PJ.next ?_
        refine WJ.seq ?_
        refine WJ.block ?_
        refine WJ.seq ?_
        refine WJ.quiet ?_
        obtain ⟨e13, h14, hm⟩ := bindS hm
        obtain ⟨ad15, _, rfl, ha16, hy17⟩ := hr6.elem h14
        refine QJ.step (YldS.yld (hy17 Try.runUnderlying78 Try.sizeOf9 rfl rfl)) rfl ?_
        refine QJ.step (YldS.yld (y_load1 (v := str e13) Try.isAgg9 ha16 St.frozenC rfl)) rfl ?_
        refine QJ.step (YldS.yld (y_assign rfl)) rfl ?_
        refine QJ.done ?_
        refine PJ.next ?_
        refine WJ.seq ?_
        refine WJ.quiet ?_
        refine QJ.step (YldS.yld (y_move rfl)) rfl ?_
        refine QJ.step (YldS.yld (y_move rfl)) rfl ?_
        obtain ⟨r18, h19, hm⟩ := bindS hm
        refine QJ.step (y_call Try.call113 rfl (RetG.quiet fun w hw => ok_i_rowPlan h19 w _ (hr3.st hw))) rfl ?_
        refine QJ.step (YldS.yld (y_move rfl)) rfl ?_
        refine QJ.step (YldS.yld (y_extract rfl rfl)) rfl ?_
        refine QJ.step (YldS.yld (y_extract rfl rfl)) rfl ?_
        refine QJ.step (YldS.yld (y_assign rfl)) rfl ?_
        refine QJ.step (YldS.yld (y_assign rfl)) rfl ?_
        refine QJ.done ?_
        refine PJ.next ?_
        refine WJ.quiet ?_
        refine QJ.step (YldS.yld (y_move rfl)) rfl ?_
        refine QJ.step (YldS.yld (y_move rfl)) rfl ?_
        refine QJ.step (YldS.yld (y_bin rfl rfl rfl)) rfl ?_
        refine QJ.step (YldS.yld (y_assign rfl)) rfl ?_
        refine QJ.done ?_
        refine PJ.block_normal (PJ.next ?_)
        refine WJ.quiet ?_
        refine QJ.step (YldS.yld (y_bin rfl rfl rfl)) rfl ?_
        refine QJ.step (YldS.yld (y_move rfl)) rfl ?_
        refine QJ.done ?_
        exact PJ.round (w64 (sum10 + r18.2), w64 (x11 + 1)) [] hm ⟨rfl, rfl, rfl, rfl, rfl, trivial⟩ ⟨List.nodup_nil, rfl⟩
      · replace hm := ifF hm hb12
        refine WJ.exit ?_
        refine PJ.then_exit (PJ.then_exit (PJ.block_exit ?_))
        exact PJ.joined sum10 [] hm ⟨rfl, trivial⟩ ⟨List.nodup_nil, rfl⟩
  · rintro sum7 hm
    subst hk9
    refine WJ.seq ?_
    refine WJ.quiet ?_
    refine QJ.step (YldS.yld (y_move rfl)) rfl ?_
    refine QJ.step (YldS.yld (y_assign rfl)) rfl ?_
    refine QJ.done ?_
    refine PJ.next ?_
    refine WJ.ret ?_
    obtain rfl := Option.some.inj hm
    refine PJ.sel (L' := []) [] ⟨List.nodup_nil, rfl⟩ ?_
    exact PJ.retn (vs := [.int .i64 sum7]) Try.results117 ⟨rfl, trivial⟩ ⟨rfl, rfl⟩

set_option maxRecDepth 100000 in
set_option maxHeartbeats 1000000 in
theorem ok_i_PageMoves {N : Nat} {stops1 : List Int} {rows4 : List Str} {r : Int × Int} (hm : i_PageMoves N stops1 rows4 = some r) (w : World) (v2 : Value) (hr3 : RdS w (cx w).Fz v2 fI64.rp stops1) (v5 : Value) (hr6 : RdS w (cx w).Fz v5 fStr.rp rows4) :
    Calls Try.prog 53 #[v2, v5] w (Ret (cx w) (tup [.int .i64 r.1, .int .i64 r.2])) := by
  unfold i_PageMoves at hm
  refine Calls.enter [v2, v5] Try.func53 rfl Try.ntmps53 rfl ?_
  refine WJ.seq ?_
  refine WJ.quiet ?_
  refine QJ.step (YldS.yld (y_assign rfl)) rfl ?_
  refine QJ.step (YldS.yld (y_assign rfl)) rfl ?_
  refine QJ.done ?_
  refine PJ.next ?_
  refine WJ.seq ?_
  refine WJ.seq ?_
  refine WJ.quiet ?_
  refine QJ.step (YldS.yld (y_move rfl)) rfl ?_
  obtain ⟨r7, h8, hm⟩ := bindS hm
  refine QJ.step (y_call Try.call111 rfl (RetG.quiet fun w hw => ok_i_ValidStops h8 w _ (hr3.st hw))) rfl ?_
  refine QJ.step (YldS.yld (y_not rfl)) rfl ?_
  refine QJ.done ?_
  refine PJ.next ?_
  refine WJ.cond (t := !r7) rfl (fun hb9 => ?_) (fun hb9 => ?_)
  · replace hm := ifT hm hb9
    refine WJ.seq ?_
    refine WJ.quiet ?_
    refine QJ.step (YldS.yld (y_assign rfl)) rfl ?_
    refine QJ.step (YldS.yld (y_assign rfl)) rfl ?_
    refine QJ.done ?_
    refine PJ.next ?_
    refine WJ.ret ?_
    refine PJ.then_ret ?_
    obtain rfl := Option.some.inj hm
    refine PJ.sel (L' := []) [] ⟨List.nodup_nil, rfl⟩ ?_
    exact PJ.retn (vs := [.int .i64 0, .int .i64 1]) Try.results53 ⟨rfl, rfl, trivial⟩ ⟨rfl, rfl⟩
  · replace hm := ifF hm hb9
    refine WJ.skip ?_
    refine PJ.next ?_
    refine WJ.seq ?_
    refine WJ.seq ?_
    refine WJ.quiet ?_
    refine QJ.step (YldS.yld (y_move rfl)) rfl ?_
    obtain ⟨r10, h11, hm⟩ := bindS hm
    refine QJ.step (y_call Try.call116 rfl (RetG.quiet fun w hw => ok_i_rowsCode h11 w _ (hr6.st hw))) rfl ?_
    refine QJ.step (YldS.yld (y_assign rfl)) rfl ?_
    refine QJ.done ?_
    refine PJ.next ?_
    refine WJ.seq ?_
    refine WJ.quiet ?_
    refine QJ.step (YldS.yld (y_move rfl)) rfl ?_
    refine QJ.step (YldS.yld (y_bin rfl rfl rfl)) rfl ?_
    refine QJ.done ?_
    refine PJ.next ?_
    refine WJ.cond (t := (r10 != 0)) rfl (fun hb12 => ?_) (fun hb12 => ?_)
    · replace hm := ifT hm hb12
      refine WJ.seq ?_
      refine WJ.quiet ?_
      refine QJ.step (YldS.yld (y_move rfl)) rfl ?_
      refine QJ.step (YldS.yld (y_assign rfl)) rfl ?_
      refine QJ.step (YldS.yld (y_assign rfl)) rfl ?_
      refine QJ.done ?_
      refine PJ.next ?_
      refine WJ.ret ?_
      refine PJ.then_ret ?_
      obtain rfl := Option.some.inj hm
      refine PJ.sel (L' := []) [] ⟨List.nodup_nil, rfl⟩ ?_
      exact PJ.retn (vs := [.int .i64 0, .int .i64 r10]) Try.results53 ⟨rfl, rfl, trivial⟩ ⟨rfl, rfl⟩
    · replace hm := ifF hm hb12
      refine WJ.skip ?_
      refine PJ.next ?_
      refine WJ.seq ?_
      refine WJ.quiet ?_
      refine QJ.step (YldS.yld (y_move rfl)) rfl ?_
      refine QJ.step (YldS.yld (y_move rfl)) rfl ?_
      obtain ⟨r13, h14, hm⟩ := bindS hm
      refine QJ.step (y_call Try.call117 rfl (RetG.quiet fun w hw => ok_i_pageMoves h14 w _ (hr3.st hw) _ (hr6.st hw))) rfl ?_
      refine QJ.step (YldS.yld (y_assign rfl)) rfl ?_
      refine QJ.step (YldS.yld (y_assign rfl)) rfl ?_
      refine QJ.done ?_
      refine PJ.next ?_
      refine WJ.ret ?_
      obtain rfl := Option.some.inj hm
      refine PJ.sel (L' := []) [] ⟨List.nodup_nil, rfl⟩ ?_
      exact PJ.retn (vs := [.int .i64 r13, .int .i64 0]) Try.results53 ⟨rfl, rfl, trivial⟩ ⟨rfl, rfl⟩

set_option maxRecDepth 100000 in
set_option maxHeartbeats 1000000 in
theorem ok_i_BestStops {N : Nat} {rows1 : List Str} {many4 : Int} {r : (List Int) × Int × Int} (hm : i_BestStops N rows1 many4 = some r) (w : World) (v2 : Value) (hr3 : RdS w (cx w).Fz v2 fStr.rp rows1) :
    Calls Try.prog 54 #[v2, .int .i64 many4] w (RetG (cx w) fun u L => ∃ (u1 : Value), (u = tup [u1, .int .i64 r.2.1, .int .i64 r.2.2] ∧ L = [vw u1 fI64.rp r.1])) := by
  unfold i_BestStops at hm
  refine Calls.enter [v2, .int .i64 many4] Try.func54 rfl Try.ntmps54 rfl ?_
  refine WJ.seq ?_
  refine WJ.quiet ?_
  refine QJ.step (YldS.yld (y_assign rfl)) rfl ?_
  refine QJ.step (YldS.yld (y_assign rfl)) rfl ?_
  refine QJ.step (YldS.yld (y_assign rfl)) rfl ?_
  refine QJ.done ?_
  refine PJ.next ?_
  refine WJ.seq ?_
  refine WJ.seq ?_
  refine WJ.quiet ?_
  refine QJ.step (YldS.yld (y_move rfl)) rfl ?_
  obtain ⟨r5, h6, hm⟩ := bindS hm
  refine QJ.step (y_call Try.call116 rfl (RetG.quiet fun w hw => ok_i_rowsCode h6 w _ (hr3.st hw))) rfl ?_
  refine QJ.step (YldS.yld (y_assign rfl)) rfl ?_
  refine QJ.done ?_
  refine PJ.next ?_
  refine WJ.seq ?_
  refine WJ.quiet ?_
  refine QJ.step (YldS.yld (y_move rfl)) rfl ?_
  refine QJ.step (YldS.yld (y_bin rfl rfl rfl)) rfl ?_
  refine QJ.done ?_
  refine PJ.next ?_
  refine WJ.cond (t := (r5 != 0)) rfl (fun hb7 => ?_) (fun hb7 => ?_)
  · replace hm := ifT hm hb7
    refine WJ.seq ?_
    refine WJ.quiet ?_
    refine QJ.step (YldS.yld (y_move rfl)) rfl ?_
    refine QJ.step (YldS.yld (y_assign rfl)) rfl ?_
    refine QJ.step (YldS.yld (y_assign rfl)) rfl ?_
    refine QJ.step (YldS.yld (y_assign rfl)) rfl ?_
    refine QJ.done ?_
    refine PJ.next ?_
    refine WJ.ret ?_
    refine PJ.then_ret ?_
    refine PJ.nil_row 2 fI64 ?_
    refine PJ.view 0 rfl ?_
    obtain rfl := Option.some.inj hm
    refine PJ.sel (L' := [vw (.slice none 0 0) fI64.rp []]) [0] ⟨by decide, rfl⟩ ?_
    exact PJ.retn (vs := [(.slice none 0 0), .int .i64 0, .int .i64 r5]) Try.results54 ⟨rfl, rfl, rfl, trivial⟩ ⟨_, rfl, rfl⟩
  · replace hm := ifF hm hb7
    refine WJ.skip ?_
    refine PJ.next ?_
    refine WJ.seq ?_
    refine WJ.seq ?_
    refine WJ.quiet ?_
    refine QJ.step (YldS.yld (y_move rfl)) rfl ?_
    obtain ⟨r8, h9, hm⟩ := bindS hm
    refine QJ.step (y_call Try.call118 rfl (RetG.quiet fun w hw => ok_i_between h9 w )) rfl ?_
    refine QJ.step (YldS.yld (y_not rfl)) rfl ?_
    refine QJ.done ?_
    refine PJ.next ?_
    refine WJ.cond (t := !r8) rfl (fun hb10 => ?_) (fun hb10 => ?_)
    · replace hm := ifT hm hb10
      refine WJ.seq ?_
      refine WJ.quiet ?_
      refine QJ.step (YldS.yld (y_assign rfl)) rfl ?_
      refine QJ.step (YldS.yld (y_assign rfl)) rfl ?_
      refine QJ.step (YldS.yld (y_assign rfl)) rfl ?_
      refine QJ.done ?_
      refine PJ.next ?_
      refine WJ.ret ?_
      refine PJ.then_ret ?_
      refine PJ.nil_row 2 fI64 ?_
      refine PJ.view 0 rfl ?_
      obtain rfl := Option.some.inj hm
      refine PJ.sel (L' := [vw (.slice none 0 0) fI64.rp []]) [0] ⟨by decide, rfl⟩ ?_
      exact PJ.retn (vs := [(.slice none 0 0), .int .i64 0, .int .i64 2]) Try.results54 ⟨rfl, rfl, rfl, trivial⟩ ⟨_, rfl, rfl⟩
    · replace hm := ifF hm hb10
      refine WJ.skip ?_
      refine PJ.next ?_
      refine WJ.seq ?_
      refine WJ.reg ?_
      refine SJ.buildSlice (R := fRaw1) (os := []) ([] : List (Raw 1)) Try.runUnderlying68 Try.sizeOf25 Try.zeroValue25 rfl rfl rfl rfl rfl rfl fun v11 => ?_
      refine SJ.inn_nil (q := 1) (rSl fI64.rp) ?_
      refine SJ.q (YldS.yld (y_assign rfl)) rfl ?_
      refine SJ.nil ?_
      refine PJ.next ?_
      obtain ⟨kj15, hk16, hm⟩ := withK_open hm
      refine WJ.join (X := (List (List Int)) × (List (Raw 1)) × Value) (fun (x : (List (List Int)) × (List (Raw 1)) × Value) => kj15 x.1 = some r) (fun (x : (List (List Int)) × (List (Raw 1)) × Value) => [(0, v2), (1, .int .i64 many4), (8, x.2.2)]) (fun (x : (List (List Int)) × (List (Raw 1)) × Value) => [inn (rSl fI64.rp) x.2.1 x.1, row x.2.2 25 fRaw1 x.2.1]) ?_ ?_
      · clear hk16
        refine WJ.seq ?_
        refine WJ.quiet ?_
        refine QJ.step (YldS.yld (y_assign rfl)) rfl ?_
        refine QJ.done ?_
        refine PJ.next ?_
        refine WJ.block ?_
        refine WJ.sel (L' := (fun (x : (List (List Int)) × (List (Raw 1)) × Value × Int) => [inn (rSl fI64.rp) x.2.1 x.1, row x.2.2.1 25 fRaw1 x.2.1]) (([] : List (List Int)), ([] : List (Raw 1)), v11, 1)) [0, 1] ⟨by decide, rfl⟩ ?_
        refine WJ.sub (m' := (fun (x : (List (List Int)) × (List (Raw 1)) × Value × Int) => [(0, v2), (1, .int .i64 many4), (8, x.2.2.1), (9, .int .i64 x.2.2.2)]) (([] : List (List Int)), ([] : List (Raw 1)), v11, 1)) ⟨rfl, rfl, rfl, rfl, trivial⟩ ?_
        refine WJ.loop (X := (List (List Int)) × (List (Raw 1)) × Value × Int) (fun N (x : (List (List Int)) × (List (Raw 1)) × Value × Int) => i_BestStops_l1 kj15 many4 N x.1 x.2.2.2 = some r) (fun (x : (List (List Int)) × (List (Raw 1)) × Value × Int) => [(0, v2), (1, .int .i64 many4), (8, x.2.2.1), (9, .int .i64 x.2.2.2)]) (fun (x : (List (List Int)) × (List (Raw 1)) × Value × Int) => [inn (rSl fI64.rp) x.2.1 x.1, row x.2.2.1 25 fRaw1 x.2.1]) ?_ N (([] : List (List Int)), ([] : List (Raw 1)), v11, 1) hm
        · rintro N ⟨l17, vs18, v19, first20⟩ hI
          have hm := hI; clear hI
          cases N with
          | zero => cases hm
          | succ N =>
          unfold i_BestStops_l1 at hm
          refine WJ.seq ?_
          refine WJ.seq ?_
          refine WJ.quiet ?_
          refine QJ.step (YldS.yld (y_move rfl)) rfl ?_
          refine QJ.step (YldS.yld (y_bin rfl rfl rfl)) rfl ?_
          refine QJ.done ?_
          refine PJ.next ?_
          refine WJ.cond (t := decide (first20 ≤ 30)) rfl (fun hb21 => ?_) (fun hb21 => ?_)
          · replace hm := ifT hm hb21
            refine WJ.skip ?_
            refine PJ.next ?_
            obtain ⟨kj25, hk26, hm⟩ := withK_open hm
            refine WJ.join (X := (List (List Int)) × (List (Raw 1)) × Value) (fun (x : (List (List Int)) × (List (Raw 1)) × Value) => kj25 x.1 = some r) (fun (x : (List (List Int)) × (List (Raw 1)) × Value) => [(0, v2), (1, .int .i64 many4), (8, x.2.2), (9, .int .i64 first20)]) (fun (x : (List (List Int)) × (List (Raw 1)) × Value) => [inn (rSl fI64.rp) x.2.1 x.1, row x.2.2 25 fRaw1 x.2.1]) ?_ ?_
            · clear hk26
              refine WJ.block ?_
              obtain ⟨kj30, hk31, hm⟩ := withK_open hm
              refine WJ.join (X := (List (List Int)) × (List (Raw 1)) × Value) (fun (x : (List (List Int)) × (List (Raw 1)) × Value) => kj30 x.1 = some r) (fun (x : (List (List Int)) × (List (Raw 1)) × Value) => [(0, v2), (1, .int .i64 many4), (8, x.2.2), (9, .int .i64 first20)]) (fun (x : (List (List Int)) × (List (Raw 1)) × Value) => [inn (rSl fI64.rp) x.2.1 x.1, row x.2.2 25 fRaw1 x.2.1]) ?_ ?_
              · clear hk31
                refine WJ.seq ?_
                refine WJ.quiet ?_
                refine QJ.step (YldS.yld (y_move rfl)) rfl ?_
                refine QJ.step (YldS.yld (y_bin rfl rfl rfl)) rfl ?_
                refine QJ.done ?_
                refine PJ.next ?_
                refine WJ.cond (t := (many4 == 1)) rfl (fun hb32 => ?_) (fun hb32 => ?_)
                · replace hm := ifT hm hb32
                  refine WJ.reg ?_
                  refine SJ.q (YldS.yld (y_move rfl)) rfl ?_
                  refine SJ.q (YldS.yld (y_move rfl)) rfl ?_
                  refine SJ.buildSlice (R := fI64) (os := [.tmp 32]) [first20] Try.runUnderlying25 Try.sizeOf2 Try.zeroValue2 rfl rfl rfl rfl rfl rfl fun v33 => ?_
                  refine SJ.rowCells (k := 0) rfl fun hc34 => ?_
                  refine SJ.buildSlice (R := fRaw1) (os := [.tmp 33]) ([mkRaw1 v33 hc34.2] : List (Raw 1)) Try.runUnderlying68 Try.sizeOf25 Try.zeroValue25 rfl rfl rfl (by simp only [List.map_cons, List.map_nil, hc34.1]; rfl) rfl rfl fun v35 => ?_
                  refine SJ.inn_nil (q := 1) (rSl fI64.rp) ?_
                  refine SJ.sel (L' := [row v33 2 fI64 [first20], inn (rSl fI64.rp) [] ([] : List (List Int)), row v35 25 fRaw1 ([mkRaw1 v33 hc34.2] : List (Raw 1)), inn (rSl fI64.rp) vs18 l17, row v19 25 fRaw1 vs18]) [2, 0, 1, 3, 4] ⟨by decide, rfl⟩ ?_
                  refine SJ.star ?_
                  refine SJ.conv0 (fun w S h => inn_push hc34.2 h) ?_
                  refine SJ.conv0 (B := inn (rSl fI64.rp) ([mkRaw1 v33 hc34.2] : List (Raw 1)) ([[first20]] : List (List Int))) (fun w S h => h) ?_
                  refine SJ.inn_len 2 rfl fun hl36 => ?_
                  refine SJ.inn_len 0 rfl fun hl37 => ?_
                  obtain ⟨l38, h39, hm⟩ := bindS hm
                  refine SJ.append (k := 3) (R := fRaw1) (app_raw h39 hl36 hl37) rfl Try.underlying68 el25 rfl rfl rfl (fun w hw => (hw.row_rd (k := 1) rfl)) rfl fun v40 => ?_
                  refine SJ.sel (L' := [inn (rSl fI64.rp) vs18 l17, inn (rSl fI64.rp) ([mkRaw1 v33 hc34.2] : List (Raw 1)) ([[first20]] : List (List Int)), row v35 25 fRaw1 ([mkRaw1 v33 hc34.2] : List (Raw 1)), row v40 25 fRaw1 (vs18 ++ ([mkRaw1 v33 hc34.2] : List (Raw 1)))]) [2, 0, 1, 3] ⟨by decide, rfl⟩ ?_
                  refine SJ.star ?_
                  refine SJ.conv0 (fun w S h => inn_app h39 h) ?_
                  refine SJ.q (YldS.yld (y_assign rfl)) rfl ?_
                  refine SJ.nil ?_
                  exact PJ.joined (l38, (vs18 ++ ([mkRaw1 v33 hc34.2] : List (Raw 1))), v40) [0, 2] hm ⟨rfl, rfl, rfl, rfl, trivial⟩ ⟨by decide, rfl⟩
                · replace hm := ifF hm hb32
                  refine WJ.skip ?_
                  exact PJ.joined (l17, vs18, v19) [0, 1] hm ⟨rfl, rfl, rfl, rfl, trivial⟩ ⟨by decide, rfl⟩
              · rintro ⟨l27, vs28, v29⟩ hm
                subst hk31
                refine WJ.seq ?_
                refine WJ.quiet ?_
                refine QJ.step (YldS.yld (y_move rfl)) rfl ?_
                refine QJ.step (YldS.yld (y_bin rfl rfl rfl)) rfl ?_
                refine QJ.step (YldS.yld (y_assign rfl)) rfl ?_
                refine QJ.done ?_
                refine PJ.next ?_
                refine WJ.block ?_
                refine WJ.sel (L' := (fun (x : (List (List Int)) × (List (Raw 1)) × Value × Int) => [inn (rSl fI64.rp) x.2.1 x.1, row x.2.2.1 25 fRaw1 x.2.1]) (l27, vs28, v29, w64 (first20 + 1))) [0, 1] ⟨by decide, rfl⟩ ?_
                refine WJ.sub (m' := (fun (x : (List (List Int)) × (List (Raw 1)) × Value × Int) => [(0, v2), (1, .int .i64 many4), (8, x.2.2.1), (9, .int .i64 first20), (10, .int .i64 x.2.2.2)]) (l27, vs28, v29, w64 (first20 + 1))) ⟨rfl, rfl, rfl, rfl, rfl, trivial⟩ ?_
                refine WJ.loop (X := (List (List Int)) × (List (Raw 1)) × Value × Int) (fun N (x : (List (List Int)) × (List (Raw 1)) × Value × Int) => i_BestStops_l2 kj25 many4 first20 N x.1 x.2.2.2 = some r) (fun (x : (List (List Int)) × (List (Raw 1)) × Value × Int) => [(0, v2), (1, .int .i64 many4), (8, x.2.2.1), (9, .int .i64 first20), (10, .int .i64 x.2.2.2)]) (fun (x : (List (List Int)) × (List (Raw 1)) × Value × Int) => [inn (rSl fI64.rp) x.2.1 x.1, row x.2.2.1 25 fRaw1 x.2.1]) ?_ N (l27, vs28, v29, w64 (first20 + 1)) hm
                · rintro N ⟨l41, vs42, v43, second44⟩ hI
                  have hm := hI; clear hI
                  cases N with
                  | zero => cases hm
                  | succ N =>
                  unfold i_BestStops_l2 at hm
                  refine WJ.seq ?_
                  refine WJ.seq ?_
                  refine WJ.quiet ?_
                  refine QJ.step (YldS.yld (y_move rfl)) rfl ?_
                  refine QJ.step (YldS.yld (y_bin rfl rfl rfl)) rfl ?_
                  refine QJ.step (YldS.yld (y_move rfl)) rfl ?_
                  obtain ⟨t45, h46, hm⟩ := bindS hm
                  refine QJ.cut 3 [(0, v2), (1, .int .i64 many4), (8, v43), (9, .int .i64 first20), (10, .int .i64 second44), (43, .bool t45)] ?_ ?_
                  · rcases Bool.eq_false_or_eq_true (many4 == 2) with hb47 | hb47
                    · replace h46 := andT h46 hb47
                      refine QJ.on rfl rfl (cB hb47) (YldS.yld (y_move rfl)) rfl ?_
                      refine QJ.on rfl rfl (cB hb47) (YldS.yld (y_bin rfl rfl rfl)) rfl ?_
                      refine QJ.step (YldS.yld (y_pick_t (cB hb47) rfl)) rfl ?_
                      obtain rfl := Option.some.inj h46
                      exact QJ.cut_end ⟨rfl, rfl, rfl, rfl, rfl, rfl, trivial⟩
                    · obtain rfl := andF h46 hb47
                      refine QJ.off rfl rfl (cB hb47) rfl rfl ?_
                      refine QJ.off rfl rfl (cB hb47) rfl rfl ?_
                      refine QJ.step (YldS.yld (y_pick_f (cB hb47) rfl)) rfl ?_
                      exact QJ.cut_end ⟨rfl, rfl, rfl, rfl, rfl, rfl, trivial⟩
                  refine QJ.done ?_
                  refine PJ.next ?_
                  refine WJ.cond (t := t45) rfl (fun hb48 => ?_) (fun hb48 => ?_)
                  · replace hm := ifT hm hb48
                    refine WJ.skip ?_
                    refine PJ.next ?_
                    refine WJ.seq ?_
                    refine WJ.block ?_
                    refine WJ.reg ?_
                    refine SJ.q (YldS.yld (y_move rfl)) rfl ?_
                    refine SJ.q (YldS.yld (y_move rfl)) rfl ?_
                    refine SJ.q (YldS.yld (y_move rfl)) rfl ?_
                    refine SJ.buildSlice (R := fI64) (os := [.tmp 47, .tmp 48]) [first20, second44] Try.runUnderlying25 Try.sizeOf2 Try.zeroValue2 rfl rfl rfl rfl rfl rfl fun v49 => ?_
                    refine SJ.rowCells (k := 0) rfl fun hc50 => ?_
                    refine SJ.buildSlice (R := fRaw1) (os := [.tmp 49]) ([mkRaw1 v49 hc50.2] : List (Raw 1)) Try.runUnderlying68 Try.sizeOf25 Try.zeroValue25 rfl rfl rfl (by simp only [List.map_cons, List.map_nil, hc50.1]; rfl) rfl rfl fun v51 => ?_
                    refine SJ.inn_nil (q := 1) (rSl fI64.rp) ?_
                    refine SJ.sel (L' := [row v49 2 fI64 [first20, second44], inn (rSl fI64.rp) [] ([] : List (List Int)), row v51 25 fRaw1 ([mkRaw1 v49 hc50.2] : List (Raw 1)), inn (rSl fI64.rp) vs42 l41, row v43 25 fRaw1 vs42]) [2, 0, 1, 3, 4] ⟨by decide, rfl⟩ ?_
                    refine SJ.star ?_
                    refine SJ.conv0 (fun w S h => inn_push hc50.2 h) ?_
                    refine SJ.conv0 (B := inn (rSl fI64.rp) ([mkRaw1 v49 hc50.2] : List (Raw 1)) ([[first20, second44]] : List (List Int))) (fun w S h => h) ?_
                    refine SJ.inn_len 2 rfl fun hl52 => ?_
                    refine SJ.inn_len 0 rfl fun hl53 => ?_
                    obtain ⟨l54, h55, hm⟩ := bindS hm
                    refine SJ.append (k := 3) (R := fRaw1) (app_raw h55 hl52 hl53) rfl Try.underlying68 el25 rfl rfl rfl (fun w hw => (hw.row_rd (k := 1) rfl)) rfl fun v56 => ?_
                    refine SJ.sel (L' := [inn (rSl fI64.rp) vs42 l41, inn (rSl fI64.rp) ([mkRaw1 v49 hc50.2] : List (Raw 1)) ([[first20, second44]] : List (List Int)), row v51 25 fRaw1 ([mkRaw1 v49 hc50.2] : List (Raw 1)), row v56 25 fRaw1 (vs42 ++ ([mkRaw1 v49 hc50.2] : List (Raw 1)))]) [2, 0, 1, 3] ⟨by decide, rfl⟩ ?_
                    refine SJ.star ?_
                    refine SJ.conv0 (fun w S h => inn_app h55 h) ?_
                    refine SJ.q (YldS.yld (y_assign rfl)) rfl ?_
                    refine SJ.nil ?_
                    refine PJ.block_normal (PJ.next ?_)
                    refine WJ.quiet ?_
                    refine QJ.step (YldS.yld (y_move rfl)) rfl ?_
                    refine QJ.step (YldS.yld (y_bin rfl rfl rfl)) rfl ?_
                    refine QJ.step (YldS.yld (y_assign rfl)) rfl ?_
                    refine QJ.done ?_
                    exact PJ.round (l54, (vs42 ++ ([mkRaw1 v49 hc50.2] : List (Raw 1))), v56, w64 (second44 + 1)) [0, 2] hm ⟨rfl, rfl, rfl, rfl, rfl, trivial⟩ ⟨by decide, rfl⟩
                  · replace hm := ifF hm hb48
                    refine WJ.exit ?_
                    refine PJ.then_exit (PJ.then_exit (PJ.block_exit (PJ.block_normal ?_)))
                    exact PJ.joined (l41, vs42, v43) [0, 1] hm ⟨rfl, rfl, rfl, rfl, trivial⟩ ⟨by decide, rfl⟩
            · rintro ⟨l22, vs23, v24⟩ hm
              subst hk26
              refine WJ.quiet ?_
              refine QJ.step (YldS.yld (y_move rfl)) rfl ?_
              refine QJ.step (YldS.yld (y_bin rfl rfl rfl)) rfl ?_
              refine QJ.step (YldS.yld (y_assign rfl)) rfl ?_
              refine QJ.done ?_
              exact PJ.round (l22, vs23, v24, w64 (first20 + 1)) [0, 1] hm ⟨rfl, rfl, rfl, rfl, trivial⟩ ⟨by decide, rfl⟩
          · replace hm := ifF hm hb21
            refine WJ.exit ?_
            refine PJ.then_exit (PJ.then_exit (PJ.block_exit ?_))
            exact PJ.joined (l17, vs18, v19) [0, 1] hm ⟨rfl, rfl, rfl, trivial⟩ ⟨by decide, rfl⟩
      · rintro ⟨l12, vs13, v14⟩ hm
        subst hk16
        obtain ⟨kj60, hk61, hm⟩ := withK_open hm
        refine WJ.join (X := (List (List Int)) × (List (Raw 1)) × Value) (fun (x : (List (List Int)) × (List (Raw 1)) × Value) => kj60 x.1 = some r) (fun (x : (List (List Int)) × (List (Raw 1)) × Value) => [(0, v2), (8, x.2.2)]) (fun (x : (List (List Int)) × (List (Raw 1)) × Value) => [inn (rSl fI64.rp) x.2.1 x.1, row x.2.2 25 fRaw1 x.2.1]) ?_ ?_
        · clear hk61
          refine WJ.seq ?_
          refine WJ.quiet ?_
          refine QJ.step (YldS.yld (y_move rfl)) rfl ?_
          refine QJ.step (YldS.yld (y_bin rfl rfl rfl)) rfl ?_
          refine QJ.done ?_
          refine PJ.next ?_
          refine WJ.cond (t := (many4 == 0)) rfl (fun hb62 => ?_) (fun hb62 => ?_)
          · replace hm := ifT hm hb62
            refine WJ.reg ?_
            refine SJ.buildSlice (R := fI64) (os := []) [] Try.runUnderlying25 Try.sizeOf2 Try.zeroValue2 rfl rfl rfl rfl rfl rfl fun v63 => ?_
            refine SJ.rowCells (k := 0) rfl fun hc64 => ?_
            refine SJ.buildSlice (R := fRaw1) (os := [.tmp 54]) ([mkRaw1 v63 hc64.2] : List (Raw 1)) Try.runUnderlying68 Try.sizeOf25 Try.zeroValue25 rfl rfl rfl (by simp only [List.map_cons, List.map_nil, hc64.1]; rfl) rfl rfl fun v65 => ?_
            refine SJ.inn_nil (q := 1) (rSl fI64.rp) ?_
            refine SJ.sel (L' := [row v63 2 fI64 [], inn (rSl fI64.rp) [] ([] : List (List Int)), row v65 25 fRaw1 ([mkRaw1 v63 hc64.2] : List (Raw 1)), inn (rSl fI64.rp) vs13 l12, row v14 25 fRaw1 vs13]) [2, 0, 1, 3, 4] ⟨by decide, rfl⟩ ?_
            refine SJ.star ?_
            refine SJ.conv0 (fun w S h => inn_push hc64.2 h) ?_
            refine SJ.conv0 (B := inn (rSl fI64.rp) ([mkRaw1 v63 hc64.2] : List (Raw 1)) ([[]] : List (List Int))) (fun w S h => h) ?_
            refine SJ.q (YldS.yld (y_assign rfl)) rfl ?_
            refine SJ.erase 3 ?_
            refine SJ.erase 2 ?_
            refine SJ.nil ?_
            exact PJ.joined (([[]] : List (List Int)), ([mkRaw1 v63 hc64.2] : List (Raw 1)), v65) [0, 1] hm ⟨rfl, rfl, trivial⟩ ⟨by decide, rfl⟩
          · replace hm := ifF hm hb62
            refine WJ.skip ?_
            exact PJ.joined (l12, vs13, v14) [0, 1] hm ⟨rfl, rfl, trivial⟩ ⟨by decide, rfl⟩
        · rintro ⟨l57, vs58, v59⟩ hm
          subst hk61
          refine WJ.seq ?_
          refine WJ.reg ?_
          refine SJ.buildSlice (R := fI64) (os := []) [] Try.runUnderlying25 Try.sizeOf2 Try.zeroValue2 rfl rfl rfl rfl rfl rfl fun v66 => ?_
          refine SJ.q (YldS.yld (y_assign rfl)) rfl ?_
          refine SJ.sel (L' := [row v66 2 fI64 [], inn (rSl fI64.rp) vs58 l57, row v59 25 fRaw1 vs58]) [0, 1, 2] ⟨by decide, rfl⟩ ?_
          refine SJ.star ?_
          refine SJ.conv0 (fun w S h => ext_new h) ?_
          refine SJ.q (YldS.yld (y_assign rfl)) rfl ?_
          refine SJ.nil ?_
          refine PJ.next ?_
          obtain ⟨kj70, hk71, hm⟩ := withK_open hm
          refine WJ.join (X := (List Int) × Value × Int) (fun (x : (List Int) × Value × Int) => kj70 x.1 x.2.2 = some r) (fun (x : (List Int) × Value × Int) => [(11, x.2.1), (12, .int .i64 x.2.2)]) (fun (x : (List Int) × Value × Int) => [ext (inn (rSl fI64.rp) vs58 l57) x.2.1 fI64.rp x.1, row v59 25 fRaw1 vs58]) ?_ ?_
          · clear hk71
            refine WJ.seq ?_
            refine WJ.quiet ?_
            refine QJ.step (YldS.yld (y_move rfl)) rfl ?_
            refine QJ.step (YldS.yld (y_lenG (fun w hw => (hw.nst_rdX (k := 1) (j := 0) rfl rfl)) Try.runUnderlying68 rfl)) rfl ?_
            refine QJ.step (YldS.yld (y_move rfl)) rfl ?_
            refine QJ.done ?_
            refine PJ.next ?_
            refine WJ.block ?_
            refine WJ.sel (L' := (fun (x : (List Int) × Value × Int × Int) => [ext (inn (rSl fI64.rp) vs58 l57) x.2.1 fI64.rp x.1, row v59 25 fRaw1 vs58]) (([] : List Int), v66, (-1), 0)) [0, 1] ⟨by decide, rfl⟩ ?_
            refine WJ.sub (m' := (fun (x : (List Int) × Value × Int × Int) => [(0, v2), (11, x.2.1), (12, .int .i64 x.2.2.1), (57, v59), (58, .int .i64 (List.length l57 : Int)), (59, .int .i64 x.2.2.2)]) (([] : List Int), v66, (-1), 0)) ⟨rfl, rfl, rfl, rfl, rfl, rfl, trivial⟩ ?_
            refine WJ.loop (X := (List Int) × Value × Int × Int) (fun N (x : (List Int) × Value × Int × Int) => i_BestStops_l3 kj70 rows1 l57 N x.1 x.2.2.1 x.2.2.2 = some r) (fun (x : (List Int) × Value × Int × Int) => [(0, v2), (11, x.2.1), (12, .int .i64 x.2.2.1), (57, v59), (58, .int .i64 (List.length l57 : Int)), (59, .int .i64 x.2.2.2)]) (fun (x : (List Int) × Value × Int × Int) => [ext (inn (rSl fI64.rp) vs58 l57) x.2.1 fI64.rp x.1, row v59 25 fRaw1 vs58]) ?_ N (([] : List Int), v66, (-1), 0) hm
            · rintro N ⟨l72, v73, least74, x75⟩ hI
              have hm := hI; clear hI
              cases N with
              | zero => cases hm
              | succ N =>
              unfold i_BestStops_l3 at hm
              refine WJ.seq ?_
              refine WJ.quiet ?_
              refine QJ.step (YldS.yld (y_bin rfl rfl rfl)) rfl ?_
              refine QJ.done ?_
              refine PJ.next ?_
              refine WJ.seq ?_
              refine WJ.cond (t := decide (x75 < (List.length l57 : Int))) rfl (fun hb76 => ?_) (fun hb76 => ?_)
              · replace hm := ifT hm hb76
                refine WJ.skip ?_
                refine PJ.next ?_
                obtain ⟨kj80, hk81, hm⟩ := withK_open hm
                refine WJ.join (X := (List Int) × Value × Int) (fun (x : (List Int) × Value × Int) => kj80 x.1 x.2.2 = some r) (fun (x : (List Int) × Value × Int) => [(0, v2), (11, x.2.1), (12, .int .i64 x.2.2), (57, v59), (58, .int .i64 (List.length l57 : Int)), (59, .int .i64 x75)]) (fun (x : (List Int) × Value × Int) => [ext (inn (rSl fI64.rp) vs58 l57) x.2.1 fI64.rp x.1, row v59 25 fRaw1 vs58]) ?_ ?_
                · clear hk81
                  refine WJ.block ?_
                  refine WJ.seq ?_
                  refine WJ.inn_lenX 0 rfl fun hl82 => ?_
                  refine WJ.quiet ?_
                  obtain ⟨e83, h84, hm⟩ := bindS hm
                  obtain ⟨y85, hy86⟩ := inn_idx hl82 h84
                  refine QJ.step (YldS.yld (y_ixRow (k := 1) (R := fRaw1) rfl Try.runUnderlying68 Try.sizeOf25 rfl rfl hy86)) rfl ?_
                  refine QJ.step (YldS.yld (y_loadR (k := 1) (i := (Int.toNat x75)) (off := 0) rfl Try.isAgg25 rfl (idx_get hy86) (raw_get y85))) rfl ?_
                  refine QJ.step (YldS.yld (y_assign rfl)) rfl ?_
                  refine QJ.done ?_
                  refine PJ.next ?_
                  refine WJ.seq ?_
                  refine WJ.quiet ?_
                  refine QJ.step (YldS.yld (y_move rfl)) rfl ?_
                  refine QJ.step (YldS.yld (y_move rfl)) rfl ?_
                  obtain ⟨r87, h88, hm⟩ := bindS hm
                  refine QJ.step (y_call Try.call117 rfl (RetG.quiet fun w hw => ok_i_pageMoves h88 w _ (hw.inn_rdX (k := 0) rfl rfl hy86 h84) _ (hr3.st hw))) rfl ?_
                  refine QJ.step (YldS.yld (y_assign rfl)) rfl ?_
                  refine QJ.done ?_
                  refine PJ.next ?_
                  refine WJ.seq ?_
                  refine WJ.quiet ?_
                  refine QJ.step (YldS.yld (y_move rfl)) rfl ?_
                  refine QJ.step (YldS.yld (y_bin rfl rfl rfl)) rfl ?_
                  refine QJ.step (YldS.yld (y_move rfl)) rfl ?_
                  obtain ⟨t89, h90, hm⟩ := bindS hm
                  refine QJ.cut 4 [(0, v2), (11, v73), (12, .int .i64 least74), (14, (raw0 y85)), (15, .int .i64 r87), (57, v59), (58, .int .i64 (List.length l57 : Int)), (59, .int .i64 x75), (72, .bool t89)] ?_ ?_
                  · rcases Bool.eq_false_or_eq_true (decide (least74 < 0)) with hb91 | hb91
                    · obtain rfl := orT h90 hb91
                      refine QJ.off rfl rfl (cB hb91) rfl rfl ?_
                      refine QJ.off rfl rfl (cB hb91) rfl rfl ?_
                      refine QJ.off rfl rfl (cB hb91) rfl rfl ?_
                      refine QJ.step (YldS.yld (y_pick_t (cB hb91) rfl)) rfl ?_
                      exact QJ.cut_end ⟨rfl, rfl, rfl, rfl, rfl, rfl, rfl, rfl, rfl, trivial⟩
                    · replace h90 := orF h90 hb91
                      refine QJ.on rfl rfl (cB hb91) (YldS.yld (y_move rfl)) rfl ?_
                      refine QJ.on rfl rfl (cB hb91) (YldS.yld (y_move rfl)) rfl ?_
                      refine QJ.on rfl rfl (cB hb91) (YldS.yld (y_bin rfl rfl rfl)) rfl ?_
                      refine QJ.step (YldS.yld (y_pick_f (cB hb91) rfl)) rfl ?_
                      obtain rfl := Option.some.inj h90
                      exact QJ.cut_end ⟨rfl, rfl, rfl, rfl, rfl, rfl, rfl, rfl, rfl, trivial⟩
                  refine QJ.done ?_
                  refine PJ.next ?_
                  refine WJ.cond (t := t89) rfl (fun hb92 => ?_) (fun hb92 => ?_)
                  · replace hm := ifT hm hb92
                    refine WJ.quiet ?_
                    refine QJ.step (YldS.yld (y_move rfl)) rfl ?_
                    refine QJ.step (YldS.yld (y_move rfl)) rfl ?_
                    refine QJ.step (YldS.yld (y_assign rfl)) rfl ?_
                    refine QJ.step (YldS.yld (y_assign rfl)) rfl ?_
                    refine QJ.done ?_
                    refine PJ.ext_inn 0 rfl hy86 h84 ?_
                    refine PJ.block_normal ?_
                    exact PJ.joined (e83, (raw0 y85), r87) [0, 1] hm ⟨rfl, rfl, rfl, rfl, rfl, rfl, trivial⟩ ⟨by decide, rfl⟩
                  · replace hm := ifF hm hb92
                    refine WJ.skip ?_
                    refine PJ.block_normal ?_
                    exact PJ.joined (l72, v73, least74) [0, 1] hm ⟨rfl, rfl, rfl, rfl, rfl, rfl, trivial⟩ ⟨by decide, rfl⟩
                · rintro ⟨l77, v78, least79⟩ hm
                  subst hk81
                  refine WJ.quiet ?_
                  refine QJ.step (YldS.yld (y_bin rfl rfl rfl)) rfl ?_
                  refine QJ.step (YldS.yld (y_move rfl)) rfl ?_
                  refine QJ.done ?_
                  exact PJ.round (l77, v78, least79, w64 (x75 + 1)) [0, 1] hm ⟨rfl, rfl, rfl, rfl, rfl, rfl, trivial⟩ ⟨by decide, rfl⟩
              · replace hm := ifF hm hb76
                refine WJ.exit ?_
                refine PJ.then_exit (PJ.then_exit (PJ.block_exit ?_))
                exact PJ.joined (l72, v73, least74) [0, 1] hm ⟨rfl, rfl, trivial⟩ ⟨by decide, rfl⟩
          · rintro ⟨l67, v68, least69⟩ hm
            subst hk71
            refine WJ.seq ?_
            refine WJ.quiet ?_
            refine QJ.step (YldS.yld (y_move rfl)) rfl ?_
            refine QJ.step (YldS.yld (y_move rfl)) rfl ?_
            refine QJ.step (YldS.yld (y_assign rfl)) rfl ?_
            refine QJ.step (YldS.yld (y_assign rfl)) rfl ?_
            refine QJ.step (YldS.yld (y_assign rfl)) rfl ?_
            refine QJ.done ?_
            refine PJ.next ?_
            refine WJ.ret ?_
            refine PJ.ext_view 0 rfl ?_
            obtain rfl := Option.some.inj hm
            refine PJ.sel (L' := [vw v68 fI64.rp l67]) [0] ⟨by decide, rfl⟩ ?_
            exact PJ.retn (vs := [v68, .int .i64 least69, .int .i64 0]) Try.results54 ⟨rfl, rfl, rfl, trivial⟩ ⟨_, rfl, rfl⟩

set_option maxRecDepth 100000 in
set_option maxHeartbeats 1000000 in
theorem ok_s_l19Draw {N : Nat} {s1 : L00Src} {g2 : Nat} {r : Str × L00Src} (hm : s_l19Draw N s1 = some r) (w : World) (S : Nat → Prop) (v3 : Value) (hr4 : RdS w (Cx.Fz ⟨w, S⟩) v3 fByte.rp s1.code) (hA : (box g2 157 [v3, .int .i64 s1.at_, .int .u64 s1.seed]).holds w S) :
    Calls Try.prog 119 #[pt g2 0] w (RetG ⟨w, S⟩ fun u L => (u = str r.1 ∧ L = [box g2 157 [v3, .int .i64 r.2.at_, .int .u64 r.2.seed]])) := by
  unfold s_l19Draw at hm
  refine Calls.enter1 hA [pt g2 0] Try.func119 rfl Try.ntmps119 rfl ?_
  refine WJ.seq ?_
  refine WJ.quiet ?_
  refine QJ.step (YldS.yld (y_assign rfl)) rfl ?_
  refine QJ.done ?_
  refine PJ.next ?_
  refine WJ.seq ?_
  refine WJ.reg ?_
  refine SJ.buildSlice (R := fByte) (os := []) [] Try.runUnderlying22 Try.sizeOf5 Try.zeroValue5 rfl rfl rfl rfl rfl rfl fun v5 => ?_
  refine SJ.q (YldS.yld (y_assign rfl)) rfl ?_
  refine SJ.nil ?_
  refine PJ.next ?_
  obtain ⟨kj10, hk11, hm⟩ := withK_open hm
  refine WJ.join (X := Int × Int × (List UInt8) × Value) (fun (x : Int × Int × (List UInt8) × Value) => kj10 x.1 x.2.1 x.2.2.1 = some r) (fun (x : Int × Int × (List UInt8) × Value) => [(3, x.2.2.2)]) (fun (x : Int × Int × (List UInt8) × Value) => [box g2 157 [v3, .int .i64 x.1, .int .u64 x.2.1], row x.2.2.2 5 fByte x.2.2.1]) ?_ ?_
  · clear hk11
    refine WJ.seq ?_
    refine WJ.reg ?_
    refine SJ.q (YldS.yld (y_move rfl)) rfl ?_
    obtain ⟨r12, h13, hm⟩ := bindS hm
    refine SJ.call1 (k := 1) rfl Try.call104 rfl (fun w S hw hA hO => ok_s_l00Src_pick h13 w S _ (hr4.st1 hw hO) hA) rfl ?_
    rintro _ _ ⟨rfl, rfl⟩
    refine SJ.q (YldS.yld (y_assign rfl)) rfl ?_
    refine SJ.nil ?_
    refine PJ.next ?_
    refine WJ.block ?_
    refine WJ.sel (L' := (fun (x : Int × Int × (List UInt8) × Value × Int) => [box g2 157 [v3, .int .i64 x.1, .int .u64 x.2.1], row x.2.2.2.1 5 fByte x.2.2.1]) (r12.2.at_, r12.2.seed, [], v5, r12.1)) [0, 1] ⟨by decide, rfl⟩ ?_
    refine WJ.sub (m' := (fun (x : Int × Int × (List UInt8) × Value × Int) => [(0, pt g2 0), (3, x.2.2.2.1), (4, .int .i64 x.2.2.2.2)]) (r12.2.at_, r12.2.seed, [], v5, r12.1)) ⟨rfl, rfl, rfl, trivial⟩ ?_
    refine WJ.loop (X := Int × Int × (List UInt8) × Value × Int) (fun N (x : Int × Int × (List UInt8) × Value × Int) => s_l19Draw_l1 kj10 s1 N x.1 x.2.1 x.2.2.1 x.2.2.2.2 = some r) (fun (x : Int × Int × (List UInt8) × Value × Int) => [(0, pt g2 0), (3, x.2.2.2.1), (4, .int .i64 x.2.2.2.2)]) (fun (x : Int × Int × (List UInt8) × Value × Int) => [box g2 157 [v3, .int .i64 x.1, .int .u64 x.2.1], row x.2.2.2.1 5 fByte x.2.2.1]) ?_ N (r12.2.at_, r12.2.seed, [], v5, r12.1) hm
    · rintro N ⟨x14, x15, l16, v17, k18⟩ hI
      have hm := hI; clear hI
      cases N with
      | zero => cases hm
      | succ N =>
      unfold s_l19Draw_l1 at hm
      refine WJ.seq ?_
      refine WJ.seq ?_
      refine WJ.quiet ?_
      refine QJ.step (YldS.yld (y_move rfl)) rfl ?_
      refine QJ.step (YldS.yld (y_bin rfl rfl rfl)) rfl ?_
      refine QJ.done ?_
      refine PJ.next ?_
      refine WJ.cond (t := decide (k18 > 0)) rfl (fun hb19 => ?_) (fun hb19 => ?_)
      · replace hm := ifT hm hb19
        refine WJ.skip ?_
        refine PJ.next ?_
        refine WJ.seq ?_
        refine WJ.block ?_
        refine WJ.reg ?_
        refine SJ.q (YldS.yld (y_move rfl)) rfl ?_
        refine SJ.q (YldS.yld (y_move rfl)) rfl ?_
        obtain ⟨r20, h21, hm⟩ := bindS hm
        refine SJ.call1 (k := 0) rfl Try.call104 rfl (fun w S hw hA hO => ok_s_l00Src_pick h21 w S _ (hr4.st1 hw hO) hA) rfl ?_
        rintro _ _ ⟨rfl, rfl⟩
        obtain ⟨c22, h23, hm⟩ := bindS hm
        refine SJ.q (YldS.yld (y_idxStr Try.runUnderlying9 rfl rfl h23)) rfl ?_
        refine SJ.buildSlice (R := fByte) (os := [.tmp 15]) [c22] Try.runUnderlying22 Try.sizeOf5 Try.zeroValue5 rfl rfl rfl rfl rfl rfl fun v24 => ?_
        obtain ⟨l25, h26, hm⟩ := bindS hm
        refine SJ.append (k := 2) (R := fByte) h26 rfl Try.underlying22 el5 rfl rfl rfl (fun w hw => (hw.row_rd (k := 0) rfl)) rfl fun v27 => ?_
        refine SJ.q (YldS.yld (y_assign rfl)) rfl ?_
        refine SJ.nil ?_
        refine PJ.block_normal (PJ.next ?_)
        refine WJ.quiet ?_
        refine QJ.step (YldS.yld (y_move rfl)) rfl ?_
        refine QJ.step (YldS.yld (y_bin rfl rfl rfl)) rfl ?_
        refine QJ.step (YldS.yld (y_assign rfl)) rfl ?_
        refine QJ.done ?_
        exact PJ.round (r20.2.at_, r20.2.seed, l25, v27, w64 (k18 - 1)) [1, 2] hm ⟨rfl, rfl, rfl, trivial⟩ ⟨by decide, rfl⟩
      · replace hm := ifF hm hb19
        refine WJ.exit ?_
        refine PJ.then_exit (PJ.then_exit (PJ.block_exit ?_))
        exact PJ.joined (x14, x15, l16, v17) [0, 1] hm ⟨rfl, trivial⟩ ⟨by decide, rfl⟩
  · rintro ⟨x6, x7, l8, v9⟩ hm
    subst hk11
    refine WJ.seq ?_
    refine WJ.quiet ?_
    refine QJ.step (YldS.yld (y_move rfl)) rfl ?_
    refine QJ.step (YldS.yld (y_b2s Try.underlying22 Try.underlying9 Try.underlying5 (fun w hw => ⟨_, (hw.row_rd (k := 1) rfl)⟩) rfl)) rfl ?_
    refine QJ.step (YldS.yld (y_assign rfl)) rfl ?_
    refine QJ.done ?_
    refine PJ.next ?_
    refine WJ.ret ?_
    obtain rfl := Option.some.inj hm
    refine PJ.sel (L' := [box g2 157 [v3, .int .i64 x6, .int .u64 x7]]) [0] ⟨by decide, rfl⟩ ?_
    exact PJ.retn (vs := [str l8]) Try.results119 ⟨rfl, trivial⟩ ⟨rfl, rfl⟩

set_option maxRecDepth 100000 in
set_option maxHeartbeats 1000000 in
theorem ok_s_l19Near {N : Nat} {s1 : L00Src} {want5 : Str} {g2 : Nat} {r : Str × L00Src} (hm : s_l19Near N s1 want5 = some r) (w : World) (S : Nat → Prop) (v3 : Value) (hr4 : RdS w (Cx.Fz ⟨w, S⟩) v3 fByte.rp s1.code) (hA : (box g2 157 [v3, .int .i64 s1.at_, .int .u64 s1.seed]).holds w S) :
    Calls Try.prog 120 #[pt g2 0, str want5] w (RetG ⟨w, S⟩ fun u L => (u = str r.1 ∧ L = [box g2 157 [v3, .int .i64 r.2.at_, .int .u64 r.2.seed]])) := by
  unfold s_l19Near at hm
  refine Calls.enter1 hA [pt g2 0, str want5] Try.func120 rfl Try.ntmps120 rfl ?_
  refine WJ.seq ?_
  refine WJ.quiet ?_
  refine QJ.step (YldS.yld (y_assign rfl)) rfl ?_
  refine QJ.done ?_
  refine PJ.next ?_
  refine WJ.seq ?_
  refine WJ.reg ?_
  refine SJ.q (YldS.yld (y_move rfl)) rfl ?_
  obtain ⟨l6, h7, hm⟩ := bindS hm
  refine SJ.convBytes h7 Try.underlying9 Try.underlying22 Try.underlying5 rfl rfl fun v8 => ?_
  refine SJ.mixM 0 rfl ?_
  refine SJ.q (YldS.yld (y_assign rfl)) rfl ?_
  refine SJ.nil ?_
  refine PJ.next ?_
  obtain ⟨kj13, hk14, hm⟩ := withK_open hm
  refine WJ.join (X := Int × Int × (List UInt8) × Value) (fun (x : Int × Int × (List UInt8) × Value) => kj13 x.1 x.2.1 x.2.2.1 = some r) (fun (x : Int × Int × (List UInt8) × Value) => [(5, x.2.2.2)]) (fun (x : Int × Int × (List UInt8) × Value) => [box g2 157 [v3, .int .i64 x.1, .int .u64 x.2.1], rowX x.2.2.2 5 fByte x.2.2.1]) ?_ ?_
  · clear hk14
    refine WJ.seq ?_
    refine WJ.reg ?_
    refine SJ.q (YldS.yld (y_move rfl)) rfl ?_
    obtain ⟨r15, h16, hm⟩ := bindS hm
    refine SJ.call1 (k := 1) rfl Try.call104 rfl (fun w S hw hA hO => ok_s_l00Src_pick h16 w S _ (hr4.st1 hw hO) hA) rfl ?_
    rintro _ _ ⟨rfl, rfl⟩
    refine SJ.q (YldS.yld (y_assign rfl)) rfl ?_
    refine SJ.nil ?_
    refine PJ.next ?_
    refine WJ.block ?_
    refine WJ.sel (L' := (fun (x : Int × Int × (List UInt8) × Value × Int) => [box g2 157 [v3, .int .i64 x.1, .int .u64 x.2.1], rowX x.2.2.2.1 5 fByte x.2.2.1]) (r15.2.at_, r15.2.seed, l6, v8, r15.1)) [0, 1] ⟨by decide, rfl⟩ ?_
    refine WJ.sub (m' := (fun (x : Int × Int × (List UInt8) × Value × Int) => [(0, pt g2 0), (5, x.2.2.2.1), (6, .int .i64 x.2.2.2.2)]) (r15.2.at_, r15.2.seed, l6, v8, r15.1)) ⟨rfl, rfl, rfl, trivial⟩ ?_
    refine WJ.loop (X := Int × Int × (List UInt8) × Value × Int) (fun N (x : Int × Int × (List UInt8) × Value × Int) => s_l19Near_l1 kj13 s1 N x.1 x.2.1 x.2.2.1 x.2.2.2.2 = some r) (fun (x : Int × Int × (List UInt8) × Value × Int) => [(0, pt g2 0), (5, x.2.2.2.1), (6, .int .i64 x.2.2.2.2)]) (fun (x : Int × Int × (List UInt8) × Value × Int) => [box g2 157 [v3, .int .i64 x.1, .int .u64 x.2.1], rowX x.2.2.2.1 5 fByte x.2.2.1]) ?_ N (r15.2.at_, r15.2.seed, l6, v8, r15.1) hm
    · rintro N ⟨x17, x18, l19, v20, k21⟩ hI
      have hm := hI; clear hI
      cases N with
      | zero => cases hm
      | succ N =>
      unfold s_l19Near_l1 at hm
      refine WJ.seq ?_
      refine WJ.seq ?_
      refine WJ.quiet ?_
      refine QJ.step (YldS.yld (y_move rfl)) rfl ?_
      refine QJ.step (YldS.yld (y_bin rfl rfl rfl)) rfl ?_
      refine QJ.step (YldS.yld (y_move rfl)) rfl ?_
      obtain ⟨t22, h23, hm⟩ := bindS hm
      refine QJ.cut 4 [(0, pt g2 0), (5, v20), (6, .int .i64 k21), (20, .bool t22)] ?_ ?_
      · rcases Bool.eq_false_or_eq_true (decide (k21 > 0)) with hb24 | hb24
        · replace h23 := andT h23 hb24
          refine QJ.on rfl rfl (cB hb24) (YldS.yld (y_move rfl)) rfl ?_
          refine QJ.on rfl rfl (cB hb24) (YldS.yld (y_lenRowX (k := 1) rfl Try.runUnderlying22 rfl)) rfl ?_
          refine QJ.on rfl rfl (cB hb24) (YldS.yld (y_bin rfl rfl rfl)) rfl ?_
          refine QJ.step (YldS.yld (y_pick_t (cB hb24) rfl)) rfl ?_
          obtain rfl := Option.some.inj h23
          exact QJ.cut_end ⟨rfl, rfl, rfl, rfl, trivial⟩
        · obtain rfl := andF h23 hb24
          refine QJ.off rfl rfl (cB hb24) rfl rfl ?_
          refine QJ.off rfl rfl (cB hb24) rfl rfl ?_
          refine QJ.off rfl rfl (cB hb24) rfl rfl ?_
          refine QJ.step (YldS.yld (y_pick_f (cB hb24) rfl)) rfl ?_
          exact QJ.cut_end ⟨rfl, rfl, rfl, rfl, trivial⟩
      refine QJ.done ?_
      refine PJ.next ?_
      refine WJ.cond (t := t22) rfl (fun hb25 => ?_) (fun hb25 => ?_)
      · replace hm := ifT hm hb25
        refine WJ.skip ?_
        refine PJ.next ?_
        obtain ⟨kj30, hk31, hm⟩ := withK_open hm
        refine WJ.join (X := Int × Int × (List UInt8) × Value) (fun (x : Int × Int × (List UInt8) × Value) => kj30 x.1 x.2.1 x.2.2.1 = some r) (fun (x : Int × Int × (List UInt8) × Value) => [(0, pt g2 0), (5, x.2.2.2), (6, .int .i64 k21)]) (fun (x : Int × Int × (List UInt8) × Value) => [box g2 157 [v3, .int .i64 x.1, .int .u64 x.2.1], rowX x.2.2.2 5 fByte x.2.2.1]) ?_ ?_
        · clear hk31
          refine WJ.block ?_
          refine WJ.seq ?_
          refine WJ.reg ?_
          refine SJ.q (YldS.yld (y_move rfl)) rfl ?_
          refine SJ.q (YldS.yld (y_move rfl)) rfl ?_
          refine SJ.q (YldS.yld (y_lenRowX (k := 1) rfl Try.runUnderlying22 rfl)) rfl ?_
          refine SJ.q (YldS.yld (y_bin rfl rfl rfl)) rfl ?_
          obtain ⟨r32, h33, hm⟩ := bindS hm
          refine SJ.call1 (k := 0) rfl Try.call104 rfl (fun w S hw hA hO => ok_s_l00Src_pick h33 w S _ (hr4.st1 hw hO) hA) rfl ?_
          rintro _ _ ⟨rfl, rfl⟩
          refine SJ.q (YldS.yld (y_assign rfl)) rfl ?_
          refine SJ.nil ?_
          refine PJ.next ?_
          refine WJ.seq ?_
          refine WJ.reg ?_
          refine SJ.q (YldS.yld (y_move rfl)) rfl ?_
          obtain ⟨r34, h35, hm⟩ := bindS hm
          refine SJ.call1 (k := 0) rfl Try.call104 rfl (fun w S hw hA hO => ok_s_l00Src_pick h35 w S _ (hr4.st1 hw hO) hA) rfl ?_
          rintro _ _ ⟨rfl, rfl⟩
          refine SJ.nil ?_
          refine PJ.next ?_
          refine WJ.block ?_
          refine WJ.seq ?_
          refine WJ.quiet ?_
          refine QJ.step (YldS.yld (y_bin rfl rfl rfl)) rfl ?_
          refine QJ.step (YldS.yld (y_assign rfl)) rfl ?_
          refine QJ.done ?_
          refine PJ.next ?_
          refine WJ.cond (t := (r34.1 == 0)) rfl (fun hb36 => ?_) (fun hb36 => ?_)
          · replace hm := ifT hm hb36
            refine WJ.reg ?_
            refine SJ.q (YldS.yld (y_move rfl)) rfl ?_
            refine SJ.q (YldS.yld (y_move rfl)) rfl ?_
            refine SJ.q (YldS.yld (y_move rfl)) rfl ?_
            obtain ⟨r37, h38, hm⟩ := bindS hm
            refine SJ.call1 (k := 0) rfl Try.call104 rfl (fun w S hw hA hO => ok_s_l00Src_pick h38 w S _ (hr4.st1 hw hO) hA) rfl ?_
            rintro _ _ ⟨rfl, rfl⟩
            obtain ⟨c39, h40, hm⟩ := bindS hm
            refine SJ.q (YldS.yld (y_idxStr Try.runUnderlying9 rfl rfl h40)) rfl ?_
            obtain ⟨e41, h42, hm⟩ := bindS hm
            refine SJ.q (YldS.yld (y_ixRowX (k := 1) (R := fByte) rfl Try.runUnderlying22 Try.sizeOf5 rfl rfl h42)) rfl ?_
            refine SJ.storeRLX (k := 1) (i := (Int.toNat r32.1)) (off := 0) (us := [.int .u8 (UInt8.toNat c39 : Int)]) (b := c39) rfl rfl (idx_get h42) rfl rfl Try.sizeOf5 rfl rfl rfl ?_
            refine SJ.nil ?_
            refine PJ.block_normal (PJ.block_normal ?_)
            exact PJ.joined (r37.2.at_, r37.2.seed, (List.set l19 (Int.toNat r32.1) c39), v20) [0, 1] hm ⟨rfl, rfl, rfl, trivial⟩ ⟨by decide, rfl⟩
          · replace hm := ifF hm hb36
            refine WJ.seq ?_
            refine WJ.quiet ?_
            refine QJ.step (YldS.yld (y_bin rfl rfl rfl)) rfl ?_
            refine QJ.step (YldS.yld (y_assign rfl)) rfl ?_
            refine QJ.done ?_
            refine PJ.next ?_
            refine WJ.cond (t := (r34.1 == 1)) rfl (fun hb43 => ?_) (fun hb43 => ?_)
            · replace hm := ifT hm hb43
              refine WJ.seq ?_
              refine WJ.quiet ?_
              refine QJ.step (YldS.yld (y_move rfl)) rfl ?_
              refine QJ.step (YldS.yld (y_move rfl)) rfl ?_
              obtain ⟨e44, h45, hm⟩ := bindS hm
              refine QJ.step (YldS.yld (y_ixRowX (k := 1) (R := fByte) rfl Try.runUnderlying22 Try.sizeOf5 rfl rfl h45)) rfl ?_
              refine QJ.step (YldS.yld (y_loadRX (k := 1) (i := (Int.toNat r32.1)) (off := 0) (u := .int .u8 (UInt8.toNat e44 : Int)) rfl Try.isAgg5 rfl (idx_get h45) rfl)) rfl ?_
              refine QJ.step (YldS.yld (y_assign rfl)) rfl ?_
              refine QJ.done ?_
              refine PJ.next ?_
              refine WJ.seq ?_
              refine WJ.reg ?_
              refine SJ.q (YldS.yld (y_move rfl)) rfl ?_
              refine SJ.q (YldS.yld (y_move rfl)) rfl ?_
              refine SJ.q (YldS.yld (y_move rfl)) rfl ?_
              refine SJ.q (YldS.yld (y_move rfl)) rfl ?_
              refine SJ.q (YldS.yld (y_bin rfl rfl rfl)) rfl ?_
              obtain ⟨e46, h47, hm⟩ := bindS hm
              refine SJ.q (YldS.yld (y_ixRowX (k := 1) (R := fByte) rfl Try.runUnderlying22 Try.sizeOf5 rfl rfl h47)) rfl ?_
              refine SJ.q (YldS.yld (y_loadRX (k := 1) (i := (Int.toNat (w64 (r32.1 + 1)))) (off := 0) (u := .int .u8 (UInt8.toNat e46 : Int)) rfl Try.isAgg5 rfl (idx_get h47) rfl)) rfl ?_
              obtain ⟨e48, h49, hm⟩ := bindS hm
              refine SJ.q (YldS.yld (y_ixRowX (k := 1) (R := fByte) rfl Try.runUnderlying22 Try.sizeOf5 rfl rfl h49)) rfl ?_
              refine SJ.storeRLX (k := 1) (i := (Int.toNat r32.1)) (off := 0) (us := [.int .u8 (UInt8.toNat e46 : Int)]) (b := e46) rfl rfl (idx_get h49) rfl rfl Try.sizeOf5 rfl rfl rfl ?_
              refine SJ.nil ?_
              refine PJ.next ?_
              refine WJ.reg ?_
              refine SJ.q (YldS.yld (y_move rfl)) rfl ?_
              refine SJ.q (YldS.yld (y_move rfl)) rfl ?_
              refine SJ.q (YldS.yld (y_bin rfl rfl rfl)) rfl ?_
              refine SJ.q (YldS.yld (y_move rfl)) rfl ?_
              obtain ⟨e50, h51, hm⟩ := bindS hm
              refine SJ.q (YldS.yld (y_ixRowX (k := 1) (R := fByte) rfl Try.runUnderlying22 Try.sizeOf5 rfl rfl h51)) rfl ?_
              refine SJ.storeRLX (k := 1) (i := (Int.toNat (w64 (r32.1 + 1)))) (off := 0) (us := [.int .u8 (UInt8.toNat e44 : Int)]) (b := e44) rfl rfl (idx_get h51) rfl rfl Try.sizeOf5 rfl rfl rfl ?_
              refine SJ.nil ?_
              refine PJ.block_normal (PJ.block_normal ?_)
              exact PJ.joined (r34.2.at_, r34.2.seed, (List.set (List.set l19 (Int.toNat r32.1) e46) (Int.toNat (w64 (r32.1 + 1))) e44), v20) [0, 1] hm ⟨rfl, rfl, rfl, trivial⟩ ⟨by decide, rfl⟩
            · replace hm := ifF hm hb43
              refine WJ.seq ?_
              refine WJ.quiet ?_
              refine QJ.step (YldS.yld (y_bin rfl rfl rfl)) rfl ?_
              refine QJ.step (YldS.yld (y_assign rfl)) rfl ?_
              refine QJ.done ?_
              refine PJ.next ?_
              refine WJ.cond (t := (r34.1 == 2)) rfl (fun hb52 => ?_) (fun hb52 => ?_)
              · replace hm := ifT hm hb52
                obtain ⟨l54, h55, hm⟩ := bindS hm
                obtain ⟨l56, h57, hm⟩ := bindS hm
                obtain ⟨l59, h60, hm⟩ := bindS hm
                obtain ⟨l61, h62, hm⟩ := bindS hm
                refine WJ.draws (N := 11) (listed0 := #[false, false, false, false, false, false, false, false, false, false, false]) [box g2 157 [v3, .int .i64 r34.2.at_, .int .u64 r34.2.seed], rowX v20 5 fByte l19] follows rfl rfl ?_
                refine RJ.first 1 (listed' := #[false, true, false, false, false, false, false, false, false, false, false]) [0, 1] rfl (by kernel_rfl) rfl ⟨by decide, rfl⟩ (y_move rfl) rfl ?_
                refine RJ.first 2 (listed' := #[false, true, true, false, false, false, false, false, false, false, false]) [0, 1] rfl (by kernel_rfl) rfl ⟨by decide, rfl⟩ (y_move rfl) rfl ?_
                refine RJ.first 3 (listed' := #[false, true, true, true, false, false, false, false, false, false, false]) [0, 1] rfl (by kernel_rfl) rfl ⟨by decide, rfl⟩ (y_slcX (i := none) (j := some r32.1) (k := 1) h55 rfl Try.runUnderlying22 Try.sizeOf5 rfl trivial ⟨_, rfl⟩) rfl ?_
                refine RJ.first 5 (listed' := #[false, true, true, true, false, true, false, false, false, false, false]) [0, 1] rfl (by kernel_rfl) rfl ⟨by decide, rfl⟩ (y_move rfl) rfl ?_
                refine RJ.first 6 (listed' := #[false, true, true, true, false, true, true, false, false, false, false]) [0, 1] rfl (by kernel_rfl) rfl ⟨by decide, rfl⟩ (y_move rfl) rfl ?_
                refine RJ.first 7 (listed' := #[false, true, true, true, false, true, true, true, false, false, false]) [0, 1] rfl (by kernel_rfl) rfl ⟨by decide, rfl⟩ (y_bin rfl rfl rfl) rfl ?_
                refine RJ.first 8 (listed' := #[false, true, true, true, false, true, true, true, true, false, false]) [0, 1] rfl (by kernel_rfl) rfl ⟨by decide, rfl⟩ (y_slcX (i := some (w64 (r32.1 + 1))) (j := none) (k := 1) h60 rfl Try.runUnderlying22 Try.sizeOf5 rfl ⟨_, rfl⟩ trivial) rfl ?_
                refine RJ.step1 0 [0, 1] (by kernel_rfl) ⟨by decide, rfl⟩ ?_
                refine RO.of (listed' := #[true, true, true, true, false, true, true, true, true, false, false]) rfl rfl ?_
                refine SJ.buildSlice (R := fByte) (os := []) [] Try.runUnderlying22 Try.sizeOf5 Try.zeroValue5 rfl rfl rfl rfl rfl rfl fun v53 => ?_
                refine SJ.nil ?_
                refine PJ.draw ?_
                refine RJ.step1 4 [1, 2] (by kernel_rfl) ⟨by decide, rfl⟩ ?_
                refine RO.of (listed' := #[true, true, true, true, true, true, true, true, true, false, false]) rfl rfl ?_
                refine SJ.append (k := 0) (R := fByte) h57 rfl Try.underlying22 el5 rfl rfl rfl (fun w hw => (hw.slcX_rd (k := 2) (i := none) (j := some r32.1) rfl h55)) rfl fun v58 => ?_
                refine SJ.nil ?_
                refine PJ.draw ?_
                refine RJ.step1 9 [1, 2] (by kernel_rfl) ⟨by decide, rfl⟩ ?_
                refine RO.of (listed' := #[true, true, true, true, true, true, true, true, true, true, false]) rfl rfl ?_
                refine SJ.append (k := 0) (R := fByte) h62 rfl Try.underlying22 el5 rfl rfl rfl (fun w hw => (hw.slcX_rd (k := 2) (i := some (w64 (r32.1 + 1))) (j := none) rfl h60)) rfl fun v63 => ?_
                refine SJ.nil ?_
                refine PJ.draw ?_
                refine RJ.first 10 (listed' := #[true, true, true, true, true, true, true, true, true, true, true]) [1, 2] rfl (by kernel_rfl) rfl ⟨by decide, rfl⟩ (y_assign rfl) rfl ?_
                refine RJ.fin [1, 2] (by kernel_rfl) ⟨by decide, rfl⟩ ?_
                refine PJ.block_normal (PJ.block_normal ?_)
                refine PJ.mixR 0 rfl ?_
                exact PJ.joined (r34.2.at_, r34.2.seed, l61, v63) [1, 0] hm ⟨rfl, rfl, rfl, trivial⟩ ⟨by decide, rfl⟩
              · replace hm := ifF hm hb52
                refine WJ.seq ?_
                refine WJ.reg ?_
                refine SJ.buildSlice (R := fByte) (os := []) [] Try.runUnderlying22 Try.sizeOf5 Try.zeroValue5 rfl rfl rfl rfl rfl rfl fun v64 => ?_
                refine SJ.q (YldS.yld (y_move rfl)) rfl ?_
                refine SJ.q (YldS.yld (y_move rfl)) rfl ?_
                obtain ⟨l65, h66, hm⟩ := bindS hm
                refine SJ.q (YldS.yld (y_slcX (i := none) (j := some r32.1) (k := 2) h66 rfl Try.runUnderlying22 Try.sizeOf5 rfl trivial ⟨_, rfl⟩)) rfl ?_
                obtain ⟨l67, h68, hm⟩ := bindS hm
                refine SJ.append (k := 0) (R := fByte) h68 rfl Try.underlying22 el5 rfl rfl rfl (fun w hw => (hw.slcX_rd (k := 2) (i := none) (j := some r32.1) rfl h66)) rfl fun v69 => ?_
                refine SJ.q (YldS.yld (y_move rfl)) rfl ?_
                obtain ⟨r70, h71, hm⟩ := bindS hm
                refine SJ.call1 (k := 1) rfl Try.call104 rfl (fun w S hw hA hO => ok_s_l00Src_pick h71 w S _ (hr4.st1 hw hO) hA) rfl ?_
                rintro _ _ ⟨rfl, rfl⟩
                obtain ⟨c72, h73, hm⟩ := bindS hm
                refine SJ.q (YldS.yld (y_idxStr Try.runUnderlying9 rfl rfl h73)) rfl ?_
                refine SJ.buildSlice (R := fByte) (os := [.tmp 37]) [c72] Try.runUnderlying22 Try.sizeOf5 Try.zeroValue5 rfl rfl rfl rfl rfl rfl fun v74 => ?_
                obtain ⟨l75, h76, hm⟩ := bindS hm
                refine SJ.append (k := 2) (R := fByte) h76 rfl Try.underlying22 el5 rfl rfl rfl (fun w hw => (hw.row_rd (k := 0) rfl)) rfl fun v77 => ?_
                refine SJ.q (YldS.yld (y_assign rfl)) rfl ?_
                refine SJ.nil ?_
                refine PJ.next ?_
                refine WJ.reg ?_
                refine SJ.q (YldS.yld (y_move rfl)) rfl ?_
                refine SJ.q (YldS.yld (y_move rfl)) rfl ?_
                refine SJ.q (YldS.yld (y_move rfl)) rfl ?_
                obtain ⟨l78, h79, hm⟩ := bindS hm
                refine SJ.q (YldS.yld (y_slcX (i := some r32.1) (j := none) (k := 3) h79 rfl Try.runUnderlying22 Try.sizeOf5 rfl ⟨_, rfl⟩ trivial)) rfl ?_
                obtain ⟨l80, h81, hm⟩ := bindS hm
                refine SJ.append (k := 2) (R := fByte) h81 rfl Try.underlying22 el5 rfl rfl rfl (fun w hw => (hw.slcX_rd (k := 3) (i := some r32.1) (j := none) rfl h79)) rfl fun v82 => ?_
                refine SJ.q (YldS.yld (y_assign rfl)) rfl ?_
                refine SJ.nil ?_
                refine PJ.block_normal (PJ.block_normal ?_)
                refine PJ.mixR 2 rfl ?_
                exact PJ.joined (r70.2.at_, r70.2.seed, l80, v82) [1, 2] hm ⟨rfl, rfl, rfl, trivial⟩ ⟨by decide, rfl⟩
        · rintro ⟨x26, x27, l28, v29⟩ hm
          subst hk31
          refine WJ.quiet ?_
          refine QJ.step (YldS.yld (y_move rfl)) rfl ?_
          refine QJ.step (YldS.yld (y_bin rfl rfl rfl)) rfl ?_
          refine QJ.step (YldS.yld (y_assign rfl)) rfl ?_
          refine QJ.done ?_
          exact PJ.round (x26, x27, l28, v29, w64 (k21 - 1)) [0, 1] hm ⟨rfl, rfl, rfl, trivial⟩ ⟨by decide, rfl⟩
      · replace hm := ifF hm hb25
        refine WJ.exit ?_
        refine PJ.then_exit (PJ.then_exit (PJ.block_exit ?_))
        exact PJ.joined (x17, x18, l19, v20) [0, 1] hm ⟨rfl, trivial⟩ ⟨by decide, rfl⟩
  · rintro ⟨x9, x10, l11, v12⟩ hm
    subst hk14
    refine WJ.seq ?_
    refine WJ.quiet ?_
    refine QJ.step (YldS.yld (y_move rfl)) rfl ?_
    refine QJ.step (YldS.yld (y_b2s Try.underlying22 Try.underlying9 Try.underlying5 (fun w hw => ⟨_, (hw.rowX_rd (k := 1) rfl)⟩) rfl)) rfl ?_
    refine QJ.step (YldS.yld (y_assign rfl)) rfl ?_
    refine QJ.done ?_
    refine PJ.next ?_
    refine WJ.ret ?_
    obtain rfl := Option.some.inj hm
    refine PJ.sel (L' := [box g2 157 [v3, .int .i64 x9, .int .u64 x10]]) [0] ⟨by decide, rfl⟩ ?_
    exact PJ.retn (vs := [str l11]) Try.results120 ⟨rfl, trivial⟩ ⟨rfl, rfl⟩

set_option maxRecDepth 100000 in
set_option maxHeartbeats 1000000 in
theorem ok_s_A2Typed {N : Nat} {code1 : List UInt8} {r : Str × Str} (hm : s_A2Typed N code1 = some r) (w : World) (v2 : Value) (hr3 : RdS w (cx w).Fz v2 fByte.rp code1) :
    Calls Try.prog 55 #[v2] w (Ret (cx w) (tup [str r.1, str r.2])) := by
  unfold s_A2Typed at hm
  refine Calls.enter [v2] Try.func55 rfl Try.ntmps55 rfl ?_
  refine WJ.seq ?_
  refine WJ.quiet ?_
  refine QJ.step (YldS.yld (y_assign rfl)) rfl ?_
  refine QJ.step (YldS.yld (y_assign rfl)) rfl ?_
  refine QJ.done ?_
  refine PJ.next ?_
  refine WJ.seq ?_
  refine WJ.reg ?_
  refine SJ.q (YldS.yld (y_move rfl)) rfl ?_
  obtain ⟨r4, h5, hm⟩ := bindS hm
  refine SJ.call Try.call73 rfl (fun w hw => ok_s_l00From h5 w _ (hr3.st hw)) rfl ?_
  rintro _ _ ⟨g6, rfl, rfl⟩
  refine SJ.q (YldS.yld (y_assign rfl)) rfl ?_
  refine SJ.nil ?_
  refine PJ.next ?_
  refine WJ.seq ?_
  refine WJ.reg ?_
  refine SJ.q (YldS.yld (y_move rfl)) rfl ?_
  obtain ⟨r7, h8, hm⟩ := bindS hm
  refine SJ.call1 (k := 0) rfl Try.call119 rfl (fun w S hw hA hO => ok_s_l19Draw h8 w S _ (hr3.st1 hw hO) hA) rfl ?_
  rintro _ _ ⟨rfl, rfl⟩
  refine SJ.q (YldS.yld (y_assign rfl)) rfl ?_
  refine SJ.nil ?_
  refine PJ.next ?_
  refine WJ.seq ?_
  refine WJ.reg ?_
  refine SJ.q (YldS.yld (y_move rfl)) rfl ?_
  refine SJ.q (YldS.yld (y_move rfl)) rfl ?_
  refine SJ.q (YldS.yld (y_move rfl)) rfl ?_
  obtain ⟨r9, h10, hm⟩ := bindS hm
  refine SJ.call1 (k := 0) rfl Try.call120 rfl (fun w S hw hA hO => ok_s_l19Near h10 w S _ (hr3.st1 hw hO) hA) rfl ?_
  rintro _ _ ⟨rfl, rfl⟩
  refine SJ.q (YldS.yld (y_assign rfl)) rfl ?_
  refine SJ.q (YldS.yld (y_assign rfl)) rfl ?_
  refine SJ.nil ?_
  refine PJ.next ?_
  refine WJ.ret ?_
  obtain rfl := Option.some.inj hm
  refine PJ.sel (L' := []) [] ⟨List.nodup_nil, rfl⟩ ?_
  exact PJ.retn (vs := [str r7.1, str r9.1]) Try.results55 ⟨rfl, rfl, trivial⟩ ⟨rfl, rfl⟩

set_option maxRecDepth 100000 in
set_option maxHeartbeats 1000000 in
theorem ok_i_isTyped {N : Nat} {s1 : Str} {r : Bool} (hm : i_isTyped N s1 = some r) (w : World)  :
    Calls Try.prog 121 #[str s1] w (Ret (cx w) (.bool r)) := by
  unfold i_isTyped at hm
  refine Calls.enter [str s1] Try.func121 rfl Try.ntmps121 rfl ?_
  refine WJ.seq ?_
  refine WJ.quiet ?_
  refine QJ.step (YldS.yld (y_assign rfl)) rfl ?_
  refine QJ.done ?_
  refine PJ.next ?_
  refine WJ.seq ?_
  refine WJ.quiet ?_
  refine QJ.step (YldS.yld (y_move rfl)) rfl ?_
  obtain ⟨r2, h3, hm⟩ := bindS hm
  refine QJ.step (y_call Try.call156 rfl (RetG.quiet fun w hw => ok_i_isText h3 w )) rfl ?_
  refine QJ.step (YldS.yld (y_assign rfl)) rfl ?_
  refine QJ.done ?_
  refine PJ.next ?_
  refine WJ.ret ?_
  obtain rfl := Option.some.inj hm
  refine PJ.sel (L' := []) [] ⟨List.nodup_nil, rfl⟩ ?_
  exact PJ.retn (vs := [.bool r2]) Try.results121 ⟨rfl, trivial⟩ ⟨rfl, rfl⟩

set_option maxRecDepth 100000 in
set_option maxHeartbeats 1000000 in
theorem ok_i_stepAt {want1 : Str} {typed2 : Str} {step3 : UInt8} {r : Int × Int × Int × Bool} (hm : i_stepAt want1 typed2 step3 = some r) (w : World)  :
    Calls Try.prog 158 #[str want1, str typed2, .int .u8 (UInt8.toNat step3 : Int)] w (Ret (cx w) (tup [.int .i64 r.1, .int .i64 r.2.1, .int .i64 r.2.2.1, .bool r.2.2.2])) := by
  unfold i_stepAt at hm
  refine Calls.enter [str want1, str typed2, .int .u8 (UInt8.toNat step3 : Int)] Try.func158 rfl Try.ntmps158 rfl ?_
  refine WJ.seq ?_
  refine WJ.quiet ?_
  refine QJ.step (YldS.yld (y_assign rfl)) rfl ?_
  refine QJ.step (YldS.yld (y_assign rfl)) rfl ?_
  refine QJ.step (YldS.yld (y_assign rfl)) rfl ?_
  refine QJ.step (YldS.yld (y_assign rfl)) rfl ?_
  refine QJ.done ?_
  refine PJ.next ?_
  refine WJ.seq ?_
  refine WJ.quiet ?_
  refine QJ.step (YldS.yld (y_move rfl)) rfl ?_
  refine QJ.step (YldS.yld (y_binS rfl rfl rfl)) rfl ?_
  refine QJ.step (YldS.yld (y_move rfl)) rfl ?_
  obtain ⟨t4, h5, hm⟩ := bindS hm
  refine QJ.cut 3 [(0, str want1), (1, str typed2), (2, .int .u8 (UInt8.toNat step3 : Int)), (16, .bool t4)] ?_ ?_
  · rcases Bool.eq_false_or_eq_true (want1 != []) with hb6 | hb6
    · replace h5 := andT h5 hb6
      refine QJ.on rfl rfl (cB hb6) (YldS.yld (y_move rfl)) rfl ?_
      refine QJ.on rfl rfl (cB hb6) (YldS.yld (y_binS rfl rfl rfl)) rfl ?_
      refine QJ.step (YldS.yld (y_pick_t (cB hb6) rfl)) rfl ?_
      obtain rfl := Option.some.inj h5
      exact QJ.cut_end ⟨rfl, rfl, rfl, rfl, trivial⟩
    · obtain rfl := andF h5 hb6
      refine QJ.off rfl rfl (cB hb6) rfl rfl ?_
      refine QJ.off rfl rfl (cB hb6) rfl rfl ?_
      refine QJ.step (YldS.yld (y_pick_f (cB hb6) rfl)) rfl ?_
      exact QJ.cut_end ⟨rfl, rfl, rfl, rfl, trivial⟩
  refine QJ.step (YldS.yld (y_assign rfl)) rfl ?_
  refine QJ.done ?_
  refine PJ.next ?_
  refine WJ.seq ?_
  refine WJ.seq ?_
  refine WJ.quiet ?_
  refine QJ.step (YldS.yld (y_move rfl)) rfl ?_
  refine QJ.done ?_
  refine PJ.next ?_
  refine WJ.block ?_
  refine WJ.seq ?_
  refine WJ.quiet ?_
  refine QJ.step (YldS.yld (y_bin8 step3 (61 : UInt8) rfl rfl rfl)) rfl ?_
  refine QJ.step (YldS.yld (y_assign rfl)) rfl ?_
  refine QJ.done ?_
  refine PJ.next ?_
  refine WJ.cond (t := (step3 == (61 : UInt8))) rfl (fun hb7 => ?_) (fun hb7 => ?_)
  · replace hm := ifT hm hb7
    refine WJ.seq ?_
    refine WJ.quiet_draw follows (by kernel_rfl) ?_
    refine QJ.step (YldS.yld (y_move rfl)) rfl ?_
    refine QJ.step (YldS.yld (y_move rfl)) rfl ?_
    obtain ⟨t8, h9, hm⟩ := bindS hm
    refine QJ.cut 6 [(27, .bool t8)] ?_ ?_
    · rcases Bool.eq_false_or_eq_true t4 with hb10 | hb10
      · replace h9 := andT h9 hb10
        refine QJ.on rfl rfl (cB hb10) (YldS.yld (y_move rfl)) rfl ?_
        obtain ⟨c11, h12, h9⟩ := bindS h9
        refine QJ.on rfl rfl (cB hb10) (YldS.yld (y_idxStr Try.runUnderlying9 rfl rfl h12)) rfl ?_
        refine QJ.on rfl rfl (cB hb10) (YldS.yld (y_move rfl)) rfl ?_
        obtain ⟨c13, h14, h9⟩ := bindS h9
        refine QJ.on rfl rfl (cB hb10) (YldS.yld (y_idxStr Try.runUnderlying9 rfl rfl h14)) rfl ?_
        refine QJ.on rfl rfl (cB hb10) (YldS.yld (y_bin8 c11 c13 rfl rfl rfl)) rfl ?_
        refine QJ.step (YldS.yld (y_pick_t (cB hb10) rfl)) rfl ?_
        obtain rfl := Option.some.inj h9
        exact QJ.cut_end ⟨rfl, trivial⟩
      · obtain rfl := andF h9 hb10
        refine QJ.off rfl rfl (cB hb10) rfl rfl ?_
        refine QJ.off rfl rfl (cB hb10) rfl rfl ?_
        refine QJ.off rfl rfl (cB hb10) rfl rfl ?_
        refine QJ.off rfl rfl (cB hb10) rfl rfl ?_
        refine QJ.off rfl rfl (cB hb10) rfl rfl ?_
        refine QJ.step (YldS.yld (y_pick_f (cB hb10) rfl)) rfl ?_
        exact QJ.cut_end ⟨rfl, trivial⟩
    refine QJ.step (YldS.yld (y_assign rfl)) rfl ?_
    refine QJ.step (YldS.yld (y_assign rfl)) rfl ?_
    refine QJ.step (YldS.yld (y_assign rfl)) rfl ?_
    refine QJ.step (YldS.yld (y_assign rfl)) rfl ?_
    refine QJ.done ?_
    refine PJ.next ?_
    refine WJ.ret ?_
    refine PJ.block_ret (PJ.then_ret ?_)
    obtain rfl := Option.some.inj hm
    refine PJ.sel (L' := []) [] ⟨List.nodup_nil, rfl⟩ ?_
    exact PJ.retn (vs := [.int .i64 1, .int .i64 1, .int .i64 0, .bool t8]) Try.results158 ⟨rfl, rfl, rfl, rfl, trivial⟩ ⟨rfl, rfl⟩
  · replace hm := ifF hm hb7
    refine WJ.seq ?_
    refine WJ.quiet ?_
    refine QJ.step (YldS.yld (y_bin8 step3 (120 : UInt8) rfl rfl rfl)) rfl ?_
    refine QJ.step (YldS.yld (y_assign rfl)) rfl ?_
    refine QJ.done ?_
    refine PJ.next ?_
    refine WJ.cond (t := (step3 == (120 : UInt8))) rfl (fun hb15 => ?_) (fun hb15 => ?_)
    · replace hm := ifT hm hb15
      refine WJ.seq ?_
      refine WJ.quiet_draw follows (by kernel_rfl) ?_
      refine QJ.step (YldS.yld (y_move rfl)) rfl ?_
      refine QJ.step (YldS.yld (y_move rfl)) rfl ?_
      obtain ⟨t16, h17, hm⟩ := bindS hm
      refine QJ.cut 6 [(37, .bool t16)] ?_ ?_
      · rcases Bool.eq_false_or_eq_true t4 with hb18 | hb18
        · replace h17 := andT h17 hb18
          refine QJ.on rfl rfl (cB hb18) (YldS.yld (y_move rfl)) rfl ?_
          obtain ⟨c19, h20, h17⟩ := bindS h17
          refine QJ.on rfl rfl (cB hb18) (YldS.yld (y_idxStr Try.runUnderlying9 rfl rfl h20)) rfl ?_
          refine QJ.on rfl rfl (cB hb18) (YldS.yld (y_move rfl)) rfl ?_
          obtain ⟨c21, h22, h17⟩ := bindS h17
          refine QJ.on rfl rfl (cB hb18) (YldS.yld (y_idxStr Try.runUnderlying9 rfl rfl h22)) rfl ?_
          refine QJ.on rfl rfl (cB hb18) (YldS.yld (y_bin8 c19 c21 rfl rfl rfl)) rfl ?_
          refine QJ.step (YldS.yld (y_pick_t (cB hb18) rfl)) rfl ?_
          obtain rfl := Option.some.inj h17
          exact QJ.cut_end ⟨rfl, trivial⟩
        · obtain rfl := andF h17 hb18
          refine QJ.off rfl rfl (cB hb18) rfl rfl ?_
          refine QJ.off rfl rfl (cB hb18) rfl rfl ?_
          refine QJ.off rfl rfl (cB hb18) rfl rfl ?_
          refine QJ.off rfl rfl (cB hb18) rfl rfl ?_
          refine QJ.off rfl rfl (cB hb18) rfl rfl ?_
          refine QJ.step (YldS.yld (y_pick_f (cB hb18) rfl)) rfl ?_
          exact QJ.cut_end ⟨rfl, trivial⟩
      refine QJ.step (YldS.yld (y_assign rfl)) rfl ?_
      refine QJ.step (YldS.yld (y_assign rfl)) rfl ?_
      refine QJ.step (YldS.yld (y_assign rfl)) rfl ?_
      refine QJ.step (YldS.yld (y_assign rfl)) rfl ?_
      refine QJ.done ?_
      refine PJ.next ?_
      refine WJ.ret ?_
      refine PJ.block_ret (PJ.then_ret ?_)
      obtain rfl := Option.some.inj hm
      refine PJ.sel (L' := []) [] ⟨List.nodup_nil, rfl⟩ ?_
      exact PJ.retn (vs := [.int .i64 1, .int .i64 1, .int .i64 1, .bool t16]) Try.results158 ⟨rfl, rfl, rfl, rfl, trivial⟩ ⟨rfl, rfl⟩
    · replace hm := ifF hm hb15
      refine WJ.seq ?_
      refine WJ.quiet ?_
      refine QJ.step (YldS.yld (y_bin8 step3 (45 : UInt8) rfl rfl rfl)) rfl ?_
      refine QJ.step (YldS.yld (y_assign rfl)) rfl ?_
      refine QJ.done ?_
      refine PJ.next ?_
      refine WJ.cond (t := (step3 == (45 : UInt8))) rfl (fun hb23 => ?_) (fun hb23 => ?_)
      · replace hm := ifT hm hb23
        refine WJ.seq ?_
        refine WJ.quiet ?_
        refine QJ.step (YldS.yld (y_move rfl)) rfl ?_
        refine QJ.step (YldS.yld (y_binS rfl rfl rfl)) rfl ?_
        refine QJ.step (YldS.yld (y_assign rfl)) rfl ?_
        refine QJ.step (YldS.yld (y_assign rfl)) rfl ?_
        refine QJ.step (YldS.yld (y_assign rfl)) rfl ?_
        refine QJ.step (YldS.yld (y_assign rfl)) rfl ?_
        refine QJ.done ?_
        refine PJ.next ?_
        refine WJ.ret ?_
        refine PJ.block_ret (PJ.then_ret ?_)
        obtain rfl := Option.some.inj hm
        refine PJ.sel (L' := []) [] ⟨List.nodup_nil, rfl⟩ ?_
        exact PJ.retn (vs := [.int .i64 1, .int .i64 0, .int .i64 1, .bool (want1 != [])]) Try.results158 ⟨rfl, rfl, rfl, rfl, trivial⟩ ⟨rfl, rfl⟩
      · replace hm := ifF hm hb23
        refine WJ.seq ?_
        refine WJ.quiet ?_
        refine QJ.step (YldS.yld (y_bin8 step3 (43 : UInt8) rfl rfl rfl)) rfl ?_
        refine QJ.step (YldS.yld (y_assign rfl)) rfl ?_
        refine QJ.done ?_
        refine PJ.next ?_
        refine WJ.cond (t := (step3 == (43 : UInt8))) rfl (fun hb24 => ?_) (fun hb24 => ?_)
        · replace hm := ifT hm hb24
          refine WJ.seq ?_
          refine WJ.quiet ?_
          refine QJ.step (YldS.yld (y_move rfl)) rfl ?_
          refine QJ.step (YldS.yld (y_binS rfl rfl rfl)) rfl ?_
          refine QJ.step (YldS.yld (y_assign rfl)) rfl ?_
          refine QJ.step (YldS.yld (y_assign rfl)) rfl ?_
          refine QJ.step (YldS.yld (y_assign rfl)) rfl ?_
          refine QJ.step (YldS.yld (y_assign rfl)) rfl ?_
          refine QJ.done ?_
          refine PJ.next ?_
          refine WJ.ret ?_
          refine PJ.block_ret (PJ.then_ret ?_)
          obtain rfl := Option.some.inj hm
          refine PJ.sel (L' := []) [] ⟨List.nodup_nil, rfl⟩ ?_
          exact PJ.retn (vs := [.int .i64 0, .int .i64 1, .int .i64 1, .bool (typed2 != [])]) Try.results158 ⟨rfl, rfl, rfl, rfl, trivial⟩ ⟨rfl, rfl⟩
        · replace hm := ifF hm hb24
          refine WJ.seq ?_
          refine WJ.quiet ?_
          refine QJ.step (YldS.yld (y_bin8 step3 (126 : UInt8) rfl rfl rfl)) rfl ?_
          refine QJ.step (YldS.yld (y_assign rfl)) rfl ?_
          refine QJ.done ?_
          refine PJ.next ?_
          refine WJ.cond (t := (step3 == (126 : UInt8))) rfl (fun hb25 => ?_) (fun hb25 => ?_)
          · replace hm := ifT hm hb25
            refine WJ.seq ?_
            refine WJ.quiet_draw follows (by kernel_rfl) ?_
            refine QJ.step (YldS.yld (y_move rfl)) rfl ?_
            refine QJ.step (YldS.yld (y_lenStr Try.runUnderlying9 rfl)) rfl ?_
            refine QJ.step (YldS.yld (y_bin rfl rfl rfl)) rfl ?_
            refine QJ.step (YldS.yld (y_move rfl)) rfl ?_
            obtain ⟨t26, h27, hm⟩ := bindS hm
            refine QJ.cut 4 [(0, str want1), (1, str typed2), (55, .bool t26)] ?_ ?_
            · rcases Bool.eq_false_or_eq_true (decide ((List.length want1 : Int) > 1)) with hb28 | hb28
              · replace h27 := andT h27 hb28
                refine QJ.on rfl rfl (cB hb28) (YldS.yld (y_move rfl)) rfl ?_
                refine QJ.on rfl rfl (cB hb28) (YldS.yld (y_lenStr Try.runUnderlying9 rfl)) rfl ?_
                refine QJ.on rfl rfl (cB hb28) (YldS.yld (y_bin rfl rfl rfl)) rfl ?_
                refine QJ.step (YldS.yld (y_pick_t (cB hb28) rfl)) rfl ?_
                obtain rfl := Option.some.inj h27
                exact QJ.cut_end ⟨rfl, rfl, rfl, trivial⟩
              · obtain rfl := andF h27 hb28
                refine QJ.off rfl rfl (cB hb28) rfl rfl ?_
                refine QJ.off rfl rfl (cB hb28) rfl rfl ?_
                refine QJ.off rfl rfl (cB hb28) rfl rfl ?_
                refine QJ.step (YldS.yld (y_pick_f (cB hb28) rfl)) rfl ?_
                exact QJ.cut_end ⟨rfl, rfl, rfl, trivial⟩
            refine QJ.step (YldS.yld (y_move rfl)) rfl ?_
            obtain ⟨t29, h30, hm⟩ := bindS hm
            refine QJ.cut 6 [(0, str want1), (1, str typed2), (62, .bool t29)] ?_ ?_
            · rcases Bool.eq_false_or_eq_true t26 with hb31 | hb31
              · replace h30 := andT h30 hb31
                refine QJ.on rfl rfl (cB hb31) (YldS.yld (y_move rfl)) rfl ?_
                obtain ⟨c32, h33, h30⟩ := bindS h30
                refine QJ.on rfl rfl (cB hb31) (YldS.yld (y_idxStr Try.runUnderlying9 rfl rfl h33)) rfl ?_
                refine QJ.on rfl rfl (cB hb31) (YldS.yld (y_move rfl)) rfl ?_
                obtain ⟨c34, h35, h30⟩ := bindS h30
                refine QJ.on rfl rfl (cB hb31) (YldS.yld (y_idxStr Try.runUnderlying9 rfl rfl h35)) rfl ?_
                refine QJ.on rfl rfl (cB hb31) (YldS.yld (y_bin8 c32 c34 rfl rfl rfl)) rfl ?_
                refine QJ.step (YldS.yld (y_pick_t (cB hb31) rfl)) rfl ?_
                obtain rfl := Option.some.inj h30
                exact QJ.cut_end ⟨rfl, rfl, rfl, trivial⟩
              · obtain rfl := andF h30 hb31
                refine QJ.off rfl rfl (cB hb31) rfl rfl ?_
                refine QJ.off rfl rfl (cB hb31) rfl rfl ?_
                refine QJ.off rfl rfl (cB hb31) rfl rfl ?_
                refine QJ.off rfl rfl (cB hb31) rfl rfl ?_
                refine QJ.off rfl rfl (cB hb31) rfl rfl ?_
                refine QJ.step (YldS.yld (y_pick_f (cB hb31) rfl)) rfl ?_
                exact QJ.cut_end ⟨rfl, rfl, rfl, trivial⟩
            refine QJ.step (YldS.yld (y_move rfl)) rfl ?_
            obtain ⟨t36, h37, hm⟩ := bindS hm
            refine QJ.cut 6 [(0, str want1), (1, str typed2), (69, .bool t36)] ?_ ?_
            · rcases Bool.eq_false_or_eq_true t29 with hb38 | hb38
              · replace h37 := andT h37 hb38
                refine QJ.on rfl rfl (cB hb38) (YldS.yld (y_move rfl)) rfl ?_
                obtain ⟨c39, h40, h37⟩ := bindS h37
                refine QJ.on rfl rfl (cB hb38) (YldS.yld (y_idxStr Try.runUnderlying9 rfl rfl h40)) rfl ?_
                refine QJ.on rfl rfl (cB hb38) (YldS.yld (y_move rfl)) rfl ?_
                obtain ⟨c41, h42, h37⟩ := bindS h37
                refine QJ.on rfl rfl (cB hb38) (YldS.yld (y_idxStr Try.runUnderlying9 rfl rfl h42)) rfl ?_
                refine QJ.on rfl rfl (cB hb38) (YldS.yld (y_bin8 c39 c41 rfl rfl rfl)) rfl ?_
                refine QJ.step (YldS.yld (y_pick_t (cB hb38) rfl)) rfl ?_
                obtain rfl := Option.some.inj h37
                exact QJ.cut_end ⟨rfl, rfl, rfl, trivial⟩
              · obtain rfl := andF h37 hb38
                refine QJ.off rfl rfl (cB hb38) rfl rfl ?_
                refine QJ.off rfl rfl (cB hb38) rfl rfl ?_
                refine QJ.off rfl rfl (cB hb38) rfl rfl ?_
                refine QJ.off rfl rfl (cB hb38) rfl rfl ?_
                refine QJ.off rfl rfl (cB hb38) rfl rfl ?_
                refine QJ.step (YldS.yld (y_pick_f (cB hb38) rfl)) rfl ?_
                exact QJ.cut_end ⟨rfl, rfl, rfl, trivial⟩
            refine QJ.step (YldS.yld (y_move rfl)) rfl ?_
            obtain ⟨t43, h44, hm⟩ := bindS hm
            refine QJ.cut 6 [(76, .bool t43)] ?_ ?_
            · rcases Bool.eq_false_or_eq_true t36 with hb45 | hb45
              · replace h44 := andT h44 hb45
                refine QJ.on rfl rfl (cB hb45) (YldS.yld (y_move rfl)) rfl ?_
                obtain ⟨c46, h47, h44⟩ := bindS h44
                refine QJ.on rfl rfl (cB hb45) (YldS.yld (y_idxStr Try.runUnderlying9 rfl rfl h47)) rfl ?_
                refine QJ.on rfl rfl (cB hb45) (YldS.yld (y_move rfl)) rfl ?_
                obtain ⟨c48, h49, h44⟩ := bindS h44
                refine QJ.on rfl rfl (cB hb45) (YldS.yld (y_idxStr Try.runUnderlying9 rfl rfl h49)) rfl ?_
                refine QJ.on rfl rfl (cB hb45) (YldS.yld (y_bin8 c46 c48 rfl rfl rfl)) rfl ?_
                refine QJ.step (YldS.yld (y_pick_t (cB hb45) rfl)) rfl ?_
                obtain rfl := Option.some.inj h44
                exact QJ.cut_end ⟨rfl, trivial⟩
              · obtain rfl := andF h44 hb45
                refine QJ.off rfl rfl (cB hb45) rfl rfl ?_
                refine QJ.off rfl rfl (cB hb45) rfl rfl ?_
                refine QJ.off rfl rfl (cB hb45) rfl rfl ?_
                refine QJ.off rfl rfl (cB hb45) rfl rfl ?_
                refine QJ.off rfl rfl (cB hb45) rfl rfl ?_
                refine QJ.step (YldS.yld (y_pick_f (cB hb45) rfl)) rfl ?_
                exact QJ.cut_end ⟨rfl, trivial⟩
            refine QJ.step (YldS.yld (y_assign rfl)) rfl ?_
            refine QJ.step (YldS.yld (y_assign rfl)) rfl ?_
            refine QJ.step (YldS.yld (y_assign rfl)) rfl ?_
            refine QJ.step (YldS.yld (y_assign rfl)) rfl ?_
            refine QJ.done ?_
            refine PJ.next ?_
            refine WJ.ret ?_
            refine PJ.block_ret (PJ.then_ret ?_)
            obtain rfl := Option.some.inj hm
            refine PJ.sel (L' := []) [] ⟨List.nodup_nil, rfl⟩ ?_
            exact PJ.retn (vs := [.int .i64 2, .int .i64 2, .int .i64 1, .bool t43]) Try.results158 ⟨rfl, rfl, rfl, rfl, trivial⟩ ⟨rfl, rfl⟩
          · replace hm := ifF hm hb25
            refine WJ.skip ?_
            refine PJ.block_normal (PJ.next ?_)
            refine WJ.seq ?_
            refine WJ.quiet ?_
            refine QJ.step (YldS.yld (y_assign rfl)) rfl ?_
            refine QJ.step (YldS.yld (y_assign rfl)) rfl ?_
            refine QJ.step (YldS.yld (y_assign rfl)) rfl ?_
            refine QJ.step (YldS.yld (y_assign rfl)) rfl ?_
            refine QJ.done ?_
            refine PJ.next ?_
            refine WJ.ret ?_
            obtain rfl := Option.some.inj hm
            refine PJ.sel (L' := []) [] ⟨List.nodup_nil, rfl⟩ ?_
            exact PJ.retn (vs := [.int .i64 0, .int .i64 0, .int .i64 0, .bool false]) Try.results158 ⟨rfl, rfl, rfl, rfl, trivial⟩ ⟨rfl, rfl⟩

set_option maxRecDepth 100000 in
set_option maxHeartbeats 1000000 in
theorem ok_i_leastFrom {N : Nat} {want1 : Str} {typed2 : Str} {r : (List (List Int))} (hm : i_leastFrom N want1 typed2 = some r) (w : World)  :
    Calls Try.prog 125 #[str want1, str typed2] w (RetG (cx w) fun u L => ∃ (u1 : Value) (u2 : List (Raw 1)), (u = u1 ∧ L = [row u1 144 fRaw1 u2, inn (rSl fI64.rp) u2 r])) := by
  unfold i_leastFrom at hm
  refine Calls.enter [str want1, str typed2] Try.func125 rfl Try.ntmps125 rfl ?_
  refine WJ.seq ?_
  refine WJ.quiet ?_
  refine QJ.step (YldS.yld (y_assign rfl)) rfl ?_
  refine QJ.done ?_
  refine PJ.next ?_
  refine WJ.seq ?_
  refine WJ.reg ?_
  refine SJ.q (YldS.yld (y_move rfl)) rfl ?_
  refine SJ.q (YldS.yld (y_lenStr Try.runUnderlying9 rfl)) rfl ?_
  refine SJ.q (YldS.yld (y_bin rfl rfl rfl)) rfl ?_
  obtain ⟨l3, h4, hm⟩ := bindS hm
  refine SJ.makeSlice (R := fRaw1) (z := rawNil) (mk_raw h4) Try.underlying145 el144 rfl rfl rfl fun v5 => ?_
  refine SJ.inm_make 3 fI64 h4 ?_
  refine SJ.q (YldS.yld (y_assign rfl)) rfl ?_
  refine SJ.nil ?_
  refine PJ.next ?_
  obtain ⟨kj8, hk9, hm⟩ := withK_open hm
  refine WJ.join (X := (List (List Int)) × (List (Raw 1))) (fun (x : (List (List Int)) × (List (Raw 1))) => kj8 x.1 = some r) (fun (x : (List (List Int)) × (List (Raw 1))) => [(0, str want1), (1, str typed2), (5, v5)]) (fun (x : (List (List Int)) × (List (Raw 1))) => [inm 3 fI64 x.2 x.1, row v5 144 fRaw1 x.2]) ?_ ?_
  · clear hk9
    refine WJ.seq ?_
    refine WJ.quiet ?_
    refine QJ.step (YldS.yld (y_move rfl)) rfl ?_
    refine QJ.step (YldS.yld (y_lenG (fun w hw => (hw.nsm_rd (k := 1) (j := 0) rfl rfl)) Try.runUnderlying145 rfl)) rfl ?_
    refine QJ.step (YldS.yld (y_move rfl)) rfl ?_
    refine QJ.done ?_
    refine PJ.next ?_
    refine WJ.block ?_
    refine WJ.sel (L' := (fun (x : (List (List Int)) × (List (Raw 1)) × Int) => [inm 3 fI64 x.2.1 x.1, row v5 144 fRaw1 x.2.1]) (l3, (List.replicate (List.length l3) rawNil), 0)) [0, 1] ⟨by decide, rfl⟩ ?_
    refine WJ.sub (m' := (fun (x : (List (List Int)) × (List (Raw 1)) × Int) => [(0, str want1), (1, str typed2), (5, v5), (21, .int .i64 (List.length l3 : Int)), (22, .int .i64 x.2.2)]) (l3, (List.replicate (List.length l3) rawNil), 0)) ⟨rfl, rfl, rfl, rfl, rfl, trivial⟩ ?_
    refine WJ.loop (X := (List (List Int)) × (List (Raw 1)) × Int) (fun N (x : (List (List Int)) × (List (Raw 1)) × Int) => i_leastFrom_l1 kj8 typed2 l3 N x.1 x.2.2 = some r) (fun (x : (List (List Int)) × (List (Raw 1)) × Int) => [(0, str want1), (1, str typed2), (5, v5), (21, .int .i64 (List.length l3 : Int)), (22, .int .i64 x.2.2)]) (fun (x : (List (List Int)) × (List (Raw 1)) × Int) => [inm 3 fI64 x.2.1 x.1, row v5 144 fRaw1 x.2.1]) ?_ N (l3, (List.replicate (List.length l3) rawNil), 0) hm
    · rintro N ⟨l10, vs11, x12⟩ hI
      have hm := hI; clear hI
      cases N with
      | zero => cases hm
      | succ N =>
      unfold i_leastFrom_l1 at hm
      refine WJ.seq ?_
      refine WJ.quiet ?_
      refine QJ.step (YldS.yld (y_bin rfl rfl rfl)) rfl ?_
      refine QJ.done ?_
      refine PJ.next ?_
      refine WJ.seq ?_
      refine WJ.cond (t := decide (x12 < (List.length l3 : Int))) rfl (fun hb13 => ?_) (fun hb13 => ?_)
      · replace hm := ifT hm hb13
        refine WJ.skip ?_
        refine PJ.next ?_
        refine WJ.seq ?_
        refine WJ.block ?_
        refine WJ.seq ?_
        refine WJ.quiet ?_
        refine QJ.step (YldS.yld (y_move rfl)) rfl ?_
        refine QJ.step (YldS.yld (y_assign rfl)) rfl ?_
        refine QJ.done ?_
        refine PJ.next ?_
        refine WJ.inm_len 0 rfl fun hl14 => ?_
        refine WJ.reg ?_
        refine SJ.q (YldS.yld (y_move rfl)) rfl ?_
        refine SJ.q (YldS.yld (y_move rfl)) rfl ?_
        refine SJ.q (YldS.yld (y_move rfl)) rfl ?_
        refine SJ.q (YldS.yld (y_lenStr Try.runUnderlying9 rfl)) rfl ?_
        refine SJ.q (YldS.yld (y_bin rfl rfl rfl)) rfl ?_
        obtain ⟨l15, h16, hm⟩ := bindS hm
        refine SJ.makeSlice (R := fI64) (z := 0) h16 Try.underlying144 el3 rfl rfl rfl fun v17 => ?_
        obtain ⟨e18, h19, hm⟩ := bindS hm
        obtain ⟨y20, hy21⟩ := inn_idx hl14 h19
        refine SJ.q (YldS.yld (y_ixRow (k := 2) (R := fRaw1) rfl Try.runUnderlying145 Try.sizeOf144 rfl rfl hy21)) rfl ?_
        refine SJ.rowCells (k := 0) rfl fun hc22 => ?_
        refine SJ.storeRL (k := 2) (i := (Int.toNat x12)) (off := 0) (us := [v17]) (b := (mkRaw1 v17 hc22.2)) rfl rfl (idx_get hy21) rfl hc22.1 Try.sizeOf144 rfl (by simp [hc22.2]) (raw_put _ _) ?_
        refine SJ.sel (L' := [row v17 3 fI64 l15, inm 3 fI64 vs11 l10, row v5 144 fRaw1 (List.set vs11 (Int.toNat x12) (mkRaw1 v17 hc22.2))]) [0, 1, 2] ⟨by decide, rfl⟩ ?_
        refine SJ.star ?_
        refine SJ.conv0 (fun w S h => inm_set hc22.2 (i0 := (Int.toNat x12)) h) ?_
        refine SJ.nil ?_
        refine PJ.block_normal (PJ.next ?_)
        refine WJ.quiet ?_
        refine QJ.step (YldS.yld (y_bin rfl rfl rfl)) rfl ?_
        refine QJ.step (YldS.yld (y_move rfl)) rfl ?_
        refine QJ.done ?_
        exact PJ.round ((List.set l10 (Int.toNat x12) l15), (List.set vs11 (Int.toNat x12) (mkRaw1 v17 hc22.2)), w64 (x12 + 1)) [0, 1] hm ⟨rfl, rfl, rfl, rfl, rfl, trivial⟩ ⟨by decide, rfl⟩
      · replace hm := ifF hm hb13
        refine WJ.exit ?_
        refine PJ.then_exit (PJ.then_exit (PJ.block_exit ?_))
        exact PJ.joined (l10, vs11) [0, 1] hm ⟨rfl, rfl, rfl, trivial⟩ ⟨by decide, rfl⟩
  · rintro ⟨l6, vs7⟩ hm
    subst hk9
    obtain ⟨kj24, hk25, hm⟩ := withK_open hm
    refine WJ.join (X := (List (List Int))) (fun (x : (List (List Int))) => kj24 x = some r) (fun (x : (List (List Int))) => [(5, v5)]) (fun (x : (List (List Int))) => [inm 3 fI64 vs7 x, row v5 144 fRaw1 vs7]) ?_ ?_
    · clear hk25
      refine WJ.seq ?_
      refine WJ.quiet ?_
      refine QJ.step (YldS.yld (y_move rfl)) rfl ?_
      refine QJ.step (YldS.yld (y_lenStr Try.runUnderlying9 rfl)) rfl ?_
      refine QJ.step (YldS.yld (y_assign rfl)) rfl ?_
      refine QJ.done ?_
      refine PJ.next ?_
      refine WJ.block ?_
      refine WJ.sel (L' := (fun (x : (List (List Int)) × Int) => [inm 3 fI64 vs7 x.1, row v5 144 fRaw1 vs7]) (l6, (List.length want1 : Int))) [0, 1] ⟨by decide, rfl⟩ ?_
      refine WJ.sub (m' := (fun (x : (List (List Int)) × Int) => [(0, str want1), (1, str typed2), (5, v5), (7, .int .i64 x.2)]) (l6, (List.length want1 : Int))) ⟨rfl, rfl, rfl, rfl, trivial⟩ ?_
      refine WJ.loop (X := (List (List Int)) × Int) (fun N (x : (List (List Int)) × Int) => i_leastFrom_l2 kj24 want1 typed2 N x.1 x.2 = some r) (fun (x : (List (List Int)) × Int) => [(0, str want1), (1, str typed2), (5, v5), (7, .int .i64 x.2)]) (fun (x : (List (List Int)) × Int) => [inm 3 fI64 vs7 x.1, row v5 144 fRaw1 vs7]) ?_ N (l6, (List.length want1 : Int)) hm
      · rintro N ⟨l26, i27⟩ hI
        have hm := hI; clear hI
        cases N with
        | zero => cases hm
        | succ N =>
        unfold i_leastFrom_l2 at hm
        refine WJ.seq ?_
        refine WJ.seq ?_
        refine WJ.quiet ?_
        refine QJ.step (YldS.yld (y_move rfl)) rfl ?_
        refine QJ.step (YldS.yld (y_bin rfl rfl rfl)) rfl ?_
        refine QJ.done ?_
        refine PJ.next ?_
        refine WJ.cond (t := decide (i27 ≥ 0)) rfl (fun hb28 => ?_) (fun hb28 => ?_)
        · replace hm := ifT hm hb28
          refine WJ.skip ?_
          refine PJ.next ?_
          obtain ⟨kj30, hk31, hm⟩ := withK_open hm
          refine WJ.join (X := (List (List Int))) (fun (x : (List (List Int))) => kj30 x = some r) (fun (x : (List (List Int))) => [(0, str want1), (1, str typed2), (5, v5), (7, .int .i64 i27)]) (fun (x : (List (List Int))) => [inm 3 fI64 vs7 x, row v5 144 fRaw1 vs7]) ?_ ?_
          · clear hk31
            refine WJ.block ?_
            refine WJ.seq ?_
            refine WJ.quiet ?_
            refine QJ.step (YldS.yld (y_move rfl)) rfl ?_
            refine QJ.step (YldS.yld (y_lenStr Try.runUnderlying9 rfl)) rfl ?_
            refine QJ.step (YldS.yld (y_assign rfl)) rfl ?_
            refine QJ.done ?_
            refine PJ.next ?_
            refine WJ.block ?_
            refine WJ.sel (L' := (fun (x : (List (List Int)) × Int) => [inm 3 fI64 vs7 x.1, row v5 144 fRaw1 vs7]) (l26, (List.length typed2 : Int))) [0, 1] ⟨by decide, rfl⟩ ?_
            refine WJ.sub (m' := (fun (x : (List (List Int)) × Int) => [(0, str want1), (1, str typed2), (5, v5), (7, .int .i64 i27), (8, .int .i64 x.2)]) (l26, (List.length typed2 : Int))) ⟨rfl, rfl, rfl, rfl, rfl, trivial⟩ ?_
            refine WJ.loop (X := (List (List Int)) × Int) (fun N (x : (List (List Int)) × Int) => i_leastFrom_l3 kj30 want1 typed2 i27 N x.1 x.2 = some r) (fun (x : (List (List Int)) × Int) => [(0, str want1), (1, str typed2), (5, v5), (7, .int .i64 i27), (8, .int .i64 x.2)]) (fun (x : (List (List Int)) × Int) => [inm 3 fI64 vs7 x.1, row v5 144 fRaw1 vs7]) ?_ N (l26, (List.length typed2 : Int)) hm
            · rintro N ⟨l32, k33⟩ hI
              have hm := hI; clear hI
              cases N with
              | zero => cases hm
              | succ N =>
              unfold i_leastFrom_l3 at hm
              refine WJ.seq ?_
              refine WJ.seq ?_
              refine WJ.quiet ?_
              refine QJ.step (YldS.yld (y_move rfl)) rfl ?_
              refine QJ.step (YldS.yld (y_bin rfl rfl rfl)) rfl ?_
              refine QJ.done ?_
              refine PJ.next ?_
              refine WJ.cond (t := decide (k33 ≥ 0)) rfl (fun hb34 => ?_) (fun hb34 => ?_)
              · replace hm := ifT hm hb34
                refine WJ.skip ?_
                refine PJ.next ?_
                obtain ⟨kj36, hk37, hm⟩ := withK_open hm
                refine WJ.join (X := (List (List Int))) (fun (x : (List (List Int))) => kj36 x = some r) (fun (x : (List (List Int))) => [(0, str want1), (1, str typed2), (5, v5), (7, .int .i64 i27), (8, .int .i64 k33)]) (fun (x : (List (List Int))) => [inm 3 fI64 vs7 x, row v5 144 fRaw1 vs7]) ?_ ?_
                · clear hk37
                  refine WJ.block ?_
                  refine WJ.seq ?_
                  refine WJ.quiet ?_
                  refine QJ.step (YldS.yld (y_assign rfl)) rfl ?_
                  refine QJ.done ?_
                  refine PJ.next ?_
                  obtain ⟨kj39, hk40, hm⟩ := withK_open hm
                  refine WJ.join (X := Int) (fun (x : Int) => kj39 x = some r) (fun (x : Int) => [(0, str want1), (1, str typed2), (5, v5), (7, .int .i64 i27), (8, .int .i64 k33), (9, .int .i64 x)]) (fun (x : Int) => [inm 3 fI64 vs7 l32, row v5 144 fRaw1 vs7]) ?_ ?_
                  · clear hk40
                    refine WJ.seq ?_
                    refine WJ.reg ?_
                    refine SJ.buildSlice (R := fByte) (os := [.const (.int .u8 (UInt8.toNat 43 : Int)), .const (.int .u8 (UInt8.toNat 45 : Int)), .const (.int .u8 (UInt8.toNat 61 : Int)), .const (.int .u8 (UInt8.toNat 120 : Int)), .const (.int .u8 (UInt8.toNat 126 : Int))]) [43, 45, 61, 120, 126] Try.runUnderlying22 Try.sizeOf5 Try.zeroValue5 rfl rfl rfl rfl rfl rfl fun v41 => ?_
                    refine SJ.convMark (k := 0) rfl Try.underlying22 Try.underlying5 rfl rfl ?_
                    refine SJ.q (YldS.yld (y_lenRowM (k := 0) rfl Try.runUnderlying22 rfl)) rfl ?_
                    refine SJ.q (YldS.yld (y_move rfl)) rfl ?_
                    refine SJ.nil ?_
                    refine PJ.next ?_
                    refine WJ.block ?_
                    refine WJ.sel (L' := (fun (x : Int × Int) => [rowM v41 5 fByte [43, 45, 61, 120, 126], inm 3 fI64 vs7 l32, row v5 144 fRaw1 vs7]) ((-1), 0)) [0, 1, 2] ⟨by decide, rfl⟩ ?_
                    refine WJ.sub (m' := (fun (x : Int × Int) => [(0, str want1), (1, str typed2), (5, v5), (7, .int .i64 i27), (8, .int .i64 k33), (9, .int .i64 x.1), (46, v41), (47, .int .i64 (List.length [43, 45, 61, 120, 126] : Int)), (48, .int .i64 x.2)]) ((-1), 0)) ⟨rfl, rfl, rfl, rfl, rfl, rfl, rfl, rfl, rfl, trivial⟩ ?_
                    refine WJ.loop (X := Int × Int) (fun N (x : Int × Int) => i_leastFrom_l4 kj39 want1 typed2 i27 l32 k33 N x.1 x.2 = some r) (fun (x : Int × Int) => [(0, str want1), (1, str typed2), (5, v5), (7, .int .i64 i27), (8, .int .i64 k33), (9, .int .i64 x.1), (46, v41), (47, .int .i64 (List.length [43, 45, 61, 120, 126] : Int)), (48, .int .i64 x.2)]) (fun (x : Int × Int) => [rowM v41 5 fByte [43, 45, 61, 120, 126], inm 3 fI64 vs7 l32, row v5 144 fRaw1 vs7]) ?_ N ((-1), 0) hm
                    · rintro N ⟨best42, x43⟩ hI
                      have hm := hI; clear hI
                      cases N with
                      | zero => cases hm
                      | succ N =>
                      unfold i_leastFrom_l4 at hm
                      refine WJ.seq ?_
                      refine WJ.quiet ?_
                      refine QJ.step (YldS.yld (y_bin rfl rfl rfl)) rfl ?_
                      refine QJ.done ?_
                      refine PJ.next ?_
                      refine WJ.seq ?_
                      refine WJ.cond (t := decide (x43 < (List.length [43, 45, 61, 120, 126] : Int))) rfl (fun hb44 => ?_) (fun hb44 => ?_)
                      · replace hm := ifT hm hb44
                        refine WJ.skip ?_
                        refine PJ.next ?_
                        obtain ⟨kj46, hk47, hm⟩ := withK_open hm
                        refine WJ.join (X := Int) (fun (x : Int) => kj46 x = some r) (fun (x : Int) => [(0, str want1), (1, str typed2), (5, v5), (7, .int .i64 i27), (8, .int .i64 k33), (9, .int .i64 x), (46, v41), (47, .int .i64 (List.length [43, 45, 61, 120, 126] : Int)), (48, .int .i64 x43)]) (fun (x : Int) => [rowM v41 5 fByte [43, 45, 61, 120, 126], inm 3 fI64 vs7 l32, row v5 144 fRaw1 vs7]) ?_ ?_
                        · clear hk47
                          refine WJ.block ?_
                          refine WJ.seq ?_
                          refine WJ.quiet ?_
                          obtain ⟨e48, h49, hm⟩ := bindS hm
                          refine QJ.step (YldS.yld (y_ixRowM (k := 0) (R := fByte) rfl Try.runUnderlying22 Try.sizeOf5 rfl rfl h49)) rfl ?_
                          refine QJ.step (YldS.yld (y_loadRM (k := 0) (i := (Int.toNat x43)) (off := 0) (u := .int .u8 (UInt8.toNat e48 : Int)) rfl Try.isAgg5 rfl (idx_get h49) rfl)) rfl ?_
                          refine QJ.step (YldS.yld (y_assign rfl)) rfl ?_
                          refine QJ.done ?_
                          refine PJ.next ?_
                          refine WJ.seq ?_
                          refine WJ.quiet_draw follows (by kernel_rfl) ?_
                          refine QJ.step (YldS.yld (y_move rfl)) rfl ?_
                          refine QJ.step (YldS.yld (y_move rfl)) rfl ?_
                          obtain ⟨s50, h51, hm⟩ := bindS hm
                          refine QJ.step (YldS.yld (y_subStr (i := some i27) (j := none) h51 Try.runUnderlying9 rfl ⟨_, rfl⟩ trivial)) rfl ?_
                          refine QJ.step (YldS.yld (y_move rfl)) rfl ?_
                          refine QJ.step (YldS.yld (y_move rfl)) rfl ?_
                          obtain ⟨s52, h53, hm⟩ := bindS hm
                          refine QJ.step (YldS.yld (y_subStr (i := some k33) (j := none) h53 Try.runUnderlying9 rfl ⟨_, rfl⟩ trivial)) rfl ?_
                          refine QJ.step (YldS.yld (y_move rfl)) rfl ?_
                          obtain ⟨r54, h55, hm⟩ := bindS hm
                          refine QJ.step (y_call Try.call158 rfl (RetG.quiet fun w hw => ok_i_stepAt h55 w )) rfl ?_
                          refine QJ.step (YldS.yld (y_move rfl)) rfl ?_
                          refine QJ.step (YldS.yld (y_extract rfl rfl)) rfl ?_
                          refine QJ.step (YldS.yld (y_extract rfl rfl)) rfl ?_
                          refine QJ.step (YldS.yld (y_extract rfl rfl)) rfl ?_
                          refine QJ.step (YldS.yld (y_extract rfl rfl)) rfl ?_
                          refine QJ.step (YldS.yld (y_assign rfl)) rfl ?_
                          refine QJ.step (YldS.yld (y_assign rfl)) rfl ?_
                          refine QJ.step (YldS.yld (y_assign rfl)) rfl ?_
                          refine QJ.step (YldS.yld (y_assign rfl)) rfl ?_
                          refine QJ.done ?_
                          refine PJ.next ?_
                          refine WJ.seq ?_
                          refine WJ.inm_len 1 rfl fun hl56 => ?_
                          refine WJ.quiet ?_
                          refine QJ.step (YldS.yld (y_move rfl)) rfl ?_
                          refine QJ.step (YldS.yld (y_move rfl)) rfl ?_
                          obtain ⟨t57, h58, hm⟩ := bindS hm
                          refine QJ.cut 20 [(0, str want1), (1, str typed2), (5, v5), (7, .int .i64 i27), (8, .int .i64 k33), (9, .int .i64 best42), (12, .int .i64 r54.1), (13, .int .i64 r54.2.1), (14, .int .i64 r54.2.2.1), (46, v41), (47, .int .i64 (List.length [43, 45, 61, 120, 126] : Int)), (48, .int .i64 x43), (86, .bool t57)] ?_ ?_
                          · rcases Bool.eq_false_or_eq_true r54.2.2.2 with hb59 | hb59
                            · replace h58 := andT h58 hb59
                              refine QJ.on rfl rfl (cB hb59) (YldS.yld (y_move rfl)) rfl ?_
                              refine QJ.on rfl rfl (cB hb59) (YldS.yld (y_bin rfl rfl rfl)) rfl ?_
                              refine QJ.on rfl rfl (cB hb59) (YldS.yld (y_move rfl)) rfl ?_
                              obtain ⟨t60, h61, h58⟩ := bindS h58
                              refine QJ.cut 16 [(0, str want1), (1, str typed2), (5, v5), (7, .int .i64 i27), (8, .int .i64 k33), (9, .int .i64 best42), (12, .int .i64 r54.1), (13, .int .i64 r54.2.1), (14, .int .i64 r54.2.2.1), (46, v41), (47, .int .i64 (List.length [43, 45, 61, 120, 126] : Int)), (48, .int .i64 x43), (66, .bool r54.2.2.2), (85, .bool t60)] ?_ ?_
                              · rcases Bool.eq_false_or_eq_true (decide (best42 < 0)) with hb62 | hb62
                                · obtain rfl := orT h61 hb62
                                  refine QJ.off rfl rfl (cB hb62) rfl rfl ?_
                                  refine QJ.off rfl rfl (cB hb62) rfl rfl ?_
                                  refine QJ.off rfl rfl (cB hb62) rfl rfl ?_
                                  refine QJ.off rfl rfl (cB hb62) rfl rfl ?_
                                  refine QJ.off rfl rfl (cB hb62) rfl rfl ?_
                                  refine QJ.off rfl rfl (cB hb62) rfl rfl ?_
                                  refine QJ.off rfl rfl (cB hb62) rfl rfl ?_
                                  refine QJ.off rfl rfl (cB hb62) rfl rfl ?_
                                  refine QJ.off rfl rfl (cB hb62) rfl rfl ?_
                                  refine QJ.off rfl rfl (cB hb62) rfl rfl ?_
                                  refine QJ.off rfl rfl (cB hb62) rfl rfl ?_
                                  refine QJ.off rfl rfl (cB hb62) rfl rfl ?_
                                  refine QJ.off rfl rfl (cB hb62) rfl rfl ?_
                                  refine QJ.off rfl rfl (cB hb62) rfl rfl ?_
                                  refine QJ.off rfl rfl (cB hb62) rfl rfl ?_
                                  refine QJ.on rfl rfl (cB hb59) (YldS.yld (y_pick_t (cB hb62) rfl)) rfl ?_
                                  exact QJ.cut_end ⟨rfl, rfl, rfl, rfl, rfl, rfl, rfl, rfl, rfl, rfl, rfl, rfl, rfl, rfl, trivial⟩
                                · replace h61 := orF h61 hb62
                                  refine QJ.on rfl rfl (cB hb62) (YldS.yld (y_move rfl)) rfl ?_
                                  refine QJ.on rfl rfl (cB hb62) (YldS.yld (y_move rfl)) rfl ?_
                                  refine QJ.on rfl rfl (cB hb62) (YldS.yld (y_move rfl)) rfl ?_
                                  refine QJ.on rfl rfl (cB hb62) (YldS.yld (y_bin rfl rfl rfl)) rfl ?_
                                  obtain ⟨e63, h64, h61⟩ := bindS h61
                                  obtain ⟨y65, hy66⟩ := inn_idx hl56 h64
                                  refine QJ.on rfl rfl (cB hb62) (YldS.yld (y_ixRow (k := 2) (R := fRaw1) rfl Try.runUnderlying145 Try.sizeOf144 rfl rfl hy66)) rfl ?_
                                  refine QJ.on rfl rfl (cB hb62) (YldS.yld (y_loadR (k := 2) (i := (Int.toNat (w64 (i27 + r54.1)))) (off := 0) rfl Try.isAgg144 rfl (idx_get hy66) (raw_get y65))) rfl ?_
                                  refine QJ.on rfl rfl (cB hb62) (YldS.yld (y_move rfl)) rfl ?_
                                  refine QJ.on rfl rfl (cB hb62) (YldS.yld (y_move rfl)) rfl ?_
                                  refine QJ.on rfl rfl (cB hb62) (YldS.yld (y_bin rfl rfl rfl)) rfl ?_
                                  obtain ⟨e67, h68, h61⟩ := bindS h61
                                  refine QJ.on rfl rfl (cB hb62) (YldS.yld (y_ixG (R := fI64) (fun w hw => (hw.inm_rd (k := 1) rfl rfl hy66 h64)) Try.runUnderlying144 Try.sizeOf3 rfl rfl h68)) rfl ?_
                                  refine QJ.on rfl rfl (cB hb62) (YldS.yld (y_loadG (R := fI64) (i := (Int.toNat (w64 (k33 + r54.2.1)))) (off := 0) (fun w hw => (hw.inm_rd (k := 1) rfl rfl hy66 h64)) Try.isAgg3 rfl (idx_get h68) rfl)) rfl ?_
                                  refine QJ.on rfl rfl (cB hb62) (YldS.yld (y_move rfl)) rfl ?_
                                  refine QJ.on rfl rfl (cB hb62) (YldS.yld (y_bin rfl rfl rfl)) rfl ?_
                                  refine QJ.on rfl rfl (cB hb62) (YldS.yld (y_move rfl)) rfl ?_
                                  refine QJ.on rfl rfl (cB hb62) (YldS.yld (y_bin rfl rfl rfl)) rfl ?_
                                  refine QJ.on rfl rfl (cB hb59) (YldS.yld (y_pick_f (cB hb62) rfl)) rfl ?_
                                  obtain rfl := Option.some.inj h61
                                  exact QJ.cut_end ⟨rfl, rfl, rfl, rfl, rfl, rfl, rfl, rfl, rfl, rfl, rfl, rfl, rfl, rfl, trivial⟩
                              refine QJ.step (YldS.yld (y_pick_t (cB hb59) rfl)) rfl ?_
                              obtain rfl := Option.some.inj h58
                              exact QJ.cut_end ⟨rfl, rfl, rfl, rfl, rfl, rfl, rfl, rfl, rfl, rfl, rfl, rfl, rfl, trivial⟩
                            · obtain rfl := andF h58 hb59
                              refine QJ.off rfl rfl (cB hb59) rfl rfl ?_
                              refine QJ.off rfl rfl (cB hb59) rfl rfl ?_
                              refine QJ.off rfl rfl (cB hb59) rfl rfl ?_
                              refine QJ.off_undef rfl rfl rfl rfl ?_
                              refine QJ.off_undef rfl rfl rfl rfl ?_
                              refine QJ.off_undef rfl rfl rfl rfl ?_
                              refine QJ.off_undef rfl rfl rfl rfl ?_
                              refine QJ.off_undef rfl rfl rfl rfl ?_
                              refine QJ.off_undef rfl rfl rfl rfl ?_
                              refine QJ.off_undef rfl rfl rfl rfl ?_
                              refine QJ.off_undef rfl rfl rfl rfl ?_
                              refine QJ.off_undef rfl rfl rfl rfl ?_
                              refine QJ.off_undef rfl rfl rfl rfl ?_
                              refine QJ.off_undef rfl rfl rfl rfl ?_
                              refine QJ.off_undef rfl rfl rfl rfl ?_
                              refine QJ.off_undef rfl rfl rfl rfl ?_
                              refine QJ.off_undef rfl rfl rfl rfl ?_
                              refine QJ.off_undef rfl rfl rfl rfl ?_
                              refine QJ.off rfl rfl (cB hb59) rfl rfl ?_
                              refine QJ.step (YldS.yld (y_pick_f (cB hb59) rfl)) rfl ?_
                              exact QJ.cut_end ⟨rfl, rfl, rfl, rfl, rfl, rfl, rfl, rfl, rfl, rfl, rfl, rfl, rfl, trivial⟩
                          refine QJ.done ?_
                          refine PJ.next ?_
                          refine WJ.cond (t := t57) rfl (fun hb69 => ?_) (fun hb69 => ?_)
                          · replace hm := ifT hm hb69
                            refine WJ.inm_len 1 rfl fun hl70 => ?_
                            refine WJ.quiet ?_
                            refine QJ.step (YldS.yld (y_move rfl)) rfl ?_
                            refine QJ.step (YldS.yld (y_move rfl)) rfl ?_
                            refine QJ.step (YldS.yld (y_move rfl)) rfl ?_
                            refine QJ.step (YldS.yld (y_bin rfl rfl rfl)) rfl ?_
                            obtain ⟨e71, h72, hm⟩ := bindS hm
                            obtain ⟨y73, hy74⟩ := inn_idx hl70 h72
                            refine QJ.step (YldS.yld (y_ixRow (k := 2) (R := fRaw1) rfl Try.runUnderlying145 Try.sizeOf144 rfl rfl hy74)) rfl ?_
                            refine QJ.step (YldS.yld (y_loadR (k := 2) (i := (Int.toNat (w64 (i27 + r54.1)))) (off := 0) rfl Try.isAgg144 rfl (idx_get hy74) (raw_get y73))) rfl ?_
                            refine QJ.step (YldS.yld (y_move rfl)) rfl ?_
                            refine QJ.step (YldS.yld (y_move rfl)) rfl ?_
                            refine QJ.step (YldS.yld (y_bin rfl rfl rfl)) rfl ?_
                            obtain ⟨e75, h76, hm⟩ := bindS hm
                            refine QJ.step (YldS.yld (y_ixG (R := fI64) (fun w hw => (hw.inm_rd (k := 1) rfl rfl hy74 h72)) Try.runUnderlying144 Try.sizeOf3 rfl rfl h76)) rfl ?_
                            refine QJ.step (YldS.yld (y_loadG (R := fI64) (i := (Int.toNat (w64 (k33 + r54.2.1)))) (off := 0) (fun w hw => (hw.inm_rd (k := 1) rfl rfl hy74 h72)) Try.isAgg3 rfl (idx_get h76) rfl)) rfl ?_
                            refine QJ.step (YldS.yld (y_move rfl)) rfl ?_
                            refine QJ.step (YldS.yld (y_bin rfl rfl rfl)) rfl ?_
                            refine QJ.step (YldS.yld (y_assign rfl)) rfl ?_
                            refine QJ.done ?_
                            refine PJ.block_normal ?_
                            exact PJ.joined (w64 (e75 + r54.2.2.1)) [0, 1, 2] hm ⟨rfl, rfl, rfl, rfl, rfl, rfl, rfl, rfl, rfl, trivial⟩ ⟨by decide, rfl⟩
                          · replace hm := ifF hm hb69
                            refine WJ.skip ?_
                            refine PJ.block_normal ?_
                            exact PJ.joined best42 [0, 1, 2] hm ⟨rfl, rfl, rfl, rfl, rfl, rfl, rfl, rfl, rfl, trivial⟩ ⟨by decide, rfl⟩
                        · rintro best45 hm
                          subst hk47
                          refine WJ.quiet ?_
                          refine QJ.step (YldS.yld (y_bin rfl rfl rfl)) rfl ?_
                          refine QJ.step (YldS.yld (y_move rfl)) rfl ?_
                          refine QJ.done ?_
                          exact PJ.round (best45, w64 (x43 + 1)) [0, 1, 2] hm ⟨rfl, rfl, rfl, rfl, rfl, rfl, rfl, rfl, rfl, trivial⟩ ⟨by decide, rfl⟩
                      · replace hm := ifF hm hb44
                        refine WJ.exit ?_
                        refine PJ.then_exit (PJ.then_exit (PJ.block_exit ?_))
                        exact PJ.joined best42 [1, 2] hm ⟨rfl, rfl, rfl, rfl, rfl, rfl, trivial⟩ ⟨by decide, rfl⟩
                  · rintro best38 hm
                    subst hk40
                    refine WJ.inm_len 0 rfl fun hl77 => ?_
                    refine WJ.reg ?_
                    refine SJ.q (YldS.yld (y_move rfl)) rfl ?_
                    refine SJ.q (YldS.yld (y_move rfl)) rfl ?_
                    obtain ⟨e78, h79, hm⟩ := bindS hm
                    obtain ⟨y80, hy81⟩ := inn_idx hl77 h79
                    refine SJ.q (YldS.yld (y_ixRow (k := 1) (R := fRaw1) rfl Try.runUnderlying145 Try.sizeOf144 rfl rfl hy81)) rfl ?_
                    refine SJ.q (YldS.yld (y_loadR (k := 1) (i := (Int.toNat i27)) (off := 0) rfl Try.isAgg144 rfl (idx_get hy81) (raw_get y80))) rfl ?_
                    refine SJ.q (YldS.yld (y_move rfl)) rfl ?_
                    refine SJ.q (YldS.yld (y_move rfl)) rfl ?_
                    refine SJ.q (YldS.yld (y_max rfl rfl)) rfl ?_
                    obtain ⟨e82, h83, hm⟩ := bindS hm
                    refine SJ.q (YldS.yld (y_ixG (R := fI64) (fun w hw => (hw.inm_rd (k := 0) rfl rfl hy81 h79)) Try.runUnderlying144 Try.sizeOf3 rfl rfl h83)) rfl ?_
                    refine SJ.storeG (k := 0) (i := i27) (q := (Int.toNat k33)) (b0 := (imax best38 0)) rfl rfl hy81 h79 rfl (idx_get h83) rfl Try.sizeOf3 rfl rfl rfl ?_
                    refine SJ.nil ?_
                    refine PJ.block_normal ?_
                    exact PJ.joined (List.set l32 (Int.toNat i27) (List.set e78 (Int.toNat k33) (imax best38 0))) [0, 1] hm ⟨rfl, rfl, rfl, rfl, rfl, trivial⟩ ⟨by decide, rfl⟩
                · rintro l35 hm
                  subst hk37
                  refine WJ.quiet ?_
                  refine QJ.step (YldS.yld (y_move rfl)) rfl ?_
                  refine QJ.step (YldS.yld (y_bin rfl rfl rfl)) rfl ?_
                  refine QJ.step (YldS.yld (y_assign rfl)) rfl ?_
                  refine QJ.done ?_
                  exact PJ.round (l35, w64 (k33 - 1)) [0, 1] hm ⟨rfl, rfl, rfl, rfl, rfl, trivial⟩ ⟨by decide, rfl⟩
              · replace hm := ifF hm hb34
                refine WJ.exit ?_
                refine PJ.then_exit (PJ.then_exit (PJ.block_exit (PJ.block_normal ?_)))
                exact PJ.joined l32 [0, 1] hm ⟨rfl, rfl, rfl, rfl, trivial⟩ ⟨by decide, rfl⟩
          · rintro l29 hm
            subst hk31
            refine WJ.quiet ?_
            refine QJ.step (YldS.yld (y_move rfl)) rfl ?_
            refine QJ.step (YldS.yld (y_bin rfl rfl rfl)) rfl ?_
            refine QJ.step (YldS.yld (y_assign rfl)) rfl ?_
            refine QJ.done ?_
            exact PJ.round (l29, w64 (i27 - 1)) [0, 1] hm ⟨rfl, rfl, rfl, rfl, trivial⟩ ⟨by decide, rfl⟩
        · replace hm := ifF hm hb28
          refine WJ.exit ?_
          refine PJ.then_exit (PJ.then_exit (PJ.block_exit ?_))
          exact PJ.joined l26 [0, 1] hm ⟨rfl, trivial⟩ ⟨by decide, rfl⟩
    · rintro l23 hm
      subst hk25
      refine WJ.seq ?_
      refine WJ.quiet ?_
      refine QJ.step (YldS.yld (y_move rfl)) rfl ?_
      refine QJ.step (YldS.yld (y_assign rfl)) rfl ?_
      refine QJ.done ?_
      refine PJ.next ?_
      refine WJ.ret ?_
      refine PJ.inm_inn 0 rfl ?_
      obtain rfl := Option.some.inj hm
      refine PJ.sel (L' := [row v5 144 fRaw1 vs7, inn (rSl fI64.rp) vs7 l23]) [1, 0] ⟨by decide, rfl⟩ ?_
      exact PJ.retn (vs := [v5]) Try.results125 ⟨rfl, trivial⟩ ⟨_, _, rfl, rfl⟩

set_option maxRecDepth 100000 in
set_option maxHeartbeats 1000000 in
theorem ok_i_alignment {N : Nat} {want1 : Str} {typed2 : Str} {r : Str} (hm : i_alignment N want1 typed2 = some r) (w : World)  :
    Calls Try.prog 122 #[str want1, str typed2] w (Ret (cx w) (str r)) := by
  unfold i_alignment at hm
  refine Calls.enter [str want1, str typed2] Try.func122 rfl Try.ntmps122 rfl ?_
  refine WJ.seq ?_
  refine WJ.quiet ?_
  refine QJ.step (YldS.yld (y_assign rfl)) rfl ?_
  refine QJ.done ?_
  refine PJ.next ?_
  refine WJ.seq ?_
  refine WJ.reg ?_
  refine SJ.q (YldS.yld (y_move rfl)) rfl ?_
  refine SJ.q (YldS.yld (y_move rfl)) rfl ?_
  obtain ⟨r3, h4, hm⟩ := bindS hm
  refine SJ.call Try.call125 rfl (fun w hw => ok_i_leastFrom h4 w ) rfl ?_
  rintro v5 _ ⟨_, vs6, rfl, rfl⟩
  refine SJ.q (YldS.yld (y_assign rfl)) rfl ?_
  refine SJ.nil ?_
  refine PJ.next ?_
  refine WJ.seq ?_
  refine WJ.reg ?_
  refine SJ.buildSlice (R := fByte) (os := []) [] Try.runUnderlying22 Try.sizeOf5 Try.zeroValue5 rfl rfl rfl rfl rfl rfl fun v7 => ?_
  refine SJ.q (YldS.yld (y_assign rfl)) rfl ?_
  refine SJ.nil ?_
  refine PJ.next ?_
  obtain ⟨kj10, hk11, hm⟩ := withK_open hm
  refine WJ.join (X := (List UInt8) × Value) (fun (x : (List UInt8) × Value) => kj10 x.1 = some r) (fun (x : (List UInt8) × Value) => [(6, x.2)]) (fun (x : (List UInt8) × Value) => [row x.2 5 fByte x.1]) ?_ ?_
  · clear hk11
    refine WJ.seq ?_
    refine WJ.quiet ?_
    refine QJ.step (YldS.yld (y_assign rfl)) rfl ?_
    refine QJ.step (YldS.yld (y_assign rfl)) rfl ?_
    refine QJ.done ?_
    refine PJ.next ?_
    refine WJ.block ?_
    refine WJ.sel (L' := (fun (x : (List UInt8) × Value × Int × Int) => [row x.2.1 5 fByte x.1, row v5 144 fRaw1 vs6, inn (rSl fI64.rp) vs6 r3]) ([], v7, 0, 0)) [0, 1, 2] ⟨by decide, rfl⟩ ?_
    refine WJ.sub (m' := (fun (x : (List UInt8) × Value × Int × Int) => [(0, str want1), (1, str typed2), (5, v5), (6, x.2.1), (7, .int .i64 x.2.2.1), (8, .int .i64 x.2.2.2)]) ([], v7, 0, 0)) ⟨rfl, rfl, rfl, rfl, rfl, rfl, trivial⟩ ?_
    refine WJ.loop (X := (List UInt8) × Value × Int × Int) (fun N (x : (List UInt8) × Value × Int × Int) => i_alignment_l1 kj10 want1 typed2 r3 N x.1 x.2.2.1 x.2.2.2 = some r) (fun (x : (List UInt8) × Value × Int × Int) => [(0, str want1), (1, str typed2), (5, v5), (6, x.2.1), (7, .int .i64 x.2.2.1), (8, .int .i64 x.2.2.2)]) (fun (x : (List UInt8) × Value × Int × Int) => [row x.2.1 5 fByte x.1, row v5 144 fRaw1 vs6, inn (rSl fI64.rp) vs6 r3]) ?_ N ([], v7, 0, 0) hm
    · rintro N ⟨l12, v13, i14, k15⟩ hI
      have hm := hI; clear hI
      cases N with
      | zero => cases hm
      | succ N =>
      unfold i_alignment_l1 at hm
      obtain ⟨kj20, hk21, hm⟩ := withK_open hm
      refine WJ.joinT (X := (List UInt8) × Value × Int × Int) (fun (x : (List UInt8) × Value × Int × Int) => kj20 x.1 x.2.2.1 x.2.2.2 = some r) (fun (x : (List UInt8) × Value × Int × Int) => [(0, str want1), (1, str typed2), (5, v5), (6, x.2.1), (7, .int .i64 x.2.2.1), (8, .int .i64 x.2.2.2)]) (fun (x : (List UInt8) × Value × Int × Int) => [row x.2.1 5 fByte x.1, row v5 144 fRaw1 vs6, inn (rSl fI64.rp) vs6 r3]) ?_ ?_
      · clear hk21
        refine WJ.seq ?_
        refine WJ.seq ?_
        refine WJ.quiet ?_
        refine QJ.step (YldS.yld (y_move rfl)) rfl ?_
        refine QJ.step (YldS.yld (y_move rfl)) rfl ?_
        refine QJ.step (YldS.yld (y_lenStr Try.runUnderlying9 rfl)) rfl ?_
        refine QJ.step (YldS.yld (y_bin rfl rfl rfl)) rfl ?_
        refine QJ.step (YldS.yld (y_move rfl)) rfl ?_
        obtain ⟨t22, h23, hm⟩ := bindS hm
        refine QJ.cut 5 [(0, str want1), (1, str typed2), (5, v5), (6, v13), (7, .int .i64 i14), (8, .int .i64 k15), (28, .bool t22)] ?_ ?_
        · rcases Bool.eq_false_or_eq_true (decide (i14 < (List.length want1 : Int))) with hb24 | hb24
          · obtain rfl := orT h23 hb24
            refine QJ.off rfl rfl (cB hb24) rfl rfl ?_
            refine QJ.off rfl rfl (cB hb24) rfl rfl ?_
            refine QJ.off rfl rfl (cB hb24) rfl rfl ?_
            refine QJ.off rfl rfl (cB hb24) rfl rfl ?_
            refine QJ.step (YldS.yld (y_pick_t (cB hb24) rfl)) rfl ?_
            exact QJ.cut_end ⟨rfl, rfl, rfl, rfl, rfl, rfl, rfl, trivial⟩
          · replace h23 := orF h23 hb24
            refine QJ.on rfl rfl (cB hb24) (YldS.yld (y_move rfl)) rfl ?_
            refine QJ.on rfl rfl (cB hb24) (YldS.yld (y_move rfl)) rfl ?_
            refine QJ.on rfl rfl (cB hb24) (YldS.yld (y_lenStr Try.runUnderlying9 rfl)) rfl ?_
            refine QJ.on rfl rfl (cB hb24) (YldS.yld (y_bin rfl rfl rfl)) rfl ?_
            refine QJ.step (YldS.yld (y_pick_f (cB hb24) rfl)) rfl ?_
            obtain rfl := Option.some.inj h23
            exact QJ.cut_end ⟨rfl, rfl, rfl, rfl, rfl, rfl, rfl, trivial⟩
        refine QJ.done ?_
        refine PJ.next ?_
        refine WJ.cond (t := t22) rfl (fun hb25 => ?_) (fun hb25 => ?_)
        · replace hm := ifT hm hb25
          refine WJ.skip ?_
          refine PJ.next ?_
          refine WJ.block ?_
          refine WJ.seq ?_
          refine WJ.reg ?_
          refine SJ.buildSlice (R := fByte) (os := [.const (.int .u8 (UInt8.toNat 43 : Int)), .const (.int .u8 (UInt8.toNat 45 : Int)), .const (.int .u8 (UInt8.toNat 61 : Int)), .const (.int .u8 (UInt8.toNat 120 : Int)), .const (.int .u8 (UInt8.toNat 126 : Int))]) [43, 45, 61, 120, 126] Try.runUnderlying22 Try.sizeOf5 Try.zeroValue5 rfl rfl rfl rfl rfl rfl fun v26 => ?_
          refine SJ.convMark (k := 0) rfl Try.underlying22 Try.underlying5 rfl rfl ?_
          refine SJ.q (YldS.yld (y_lenRowM (k := 0) rfl Try.runUnderlying22 rfl)) rfl ?_
          refine SJ.q (YldS.yld (y_move rfl)) rfl ?_
          refine SJ.nil ?_
          refine PJ.next ?_
          refine WJ.block ?_
          refine WJ.sel (L' := (fun (x : (List UInt8) × Value × Int × Int × Int) => [rowM v26 5 fByte [43, 45, 61, 120, 126], row x.2.1 5 fByte x.1, row v5 144 fRaw1 vs6, inn (rSl fI64.rp) vs6 r3]) (l12, v13, i14, k15, 0)) [0, 1, 2, 3] ⟨by decide, rfl⟩ ?_
          refine WJ.sub (m' := (fun (x : (List UInt8) × Value × Int × Int × Int) => [(0, str want1), (1, str typed2), (5, v5), (6, x.2.1), (7, .int .i64 x.2.2.1), (8, .int .i64 x.2.2.2.1), (30, v26), (31, .int .i64 (List.length [43, 45, 61, 120, 126] : Int)), (32, .int .i64 x.2.2.2.2)]) (l12, v13, i14, k15, 0)) ⟨rfl, rfl, rfl, rfl, rfl, rfl, rfl, rfl, rfl, trivial⟩ ?_
          refine WJ.loop (X := (List UInt8) × Value × Int × Int × Int) (fun N (x : (List UInt8) × Value × Int × Int × Int) => i_alignment_l2 kj20 want1 typed2 r3 N x.1 x.2.2.1 x.2.2.2.1 x.2.2.2.2 = some r) (fun (x : (List UInt8) × Value × Int × Int × Int) => [(0, str want1), (1, str typed2), (5, v5), (6, x.2.1), (7, .int .i64 x.2.2.1), (8, .int .i64 x.2.2.2.1), (30, v26), (31, .int .i64 (List.length [43, 45, 61, 120, 126] : Int)), (32, .int .i64 x.2.2.2.2)]) (fun (x : (List UInt8) × Value × Int × Int × Int) => [rowM v26 5 fByte [43, 45, 61, 120, 126], row x.2.1 5 fByte x.1, row v5 144 fRaw1 vs6, inn (rSl fI64.rp) vs6 r3]) ?_ N (l12, v13, i14, k15, 0) hm
          · rintro N ⟨l27, v28, i29, k30, x31⟩ hI
            have hm := hI; clear hI
            cases N with
            | zero => cases hm
            | succ N =>
            unfold i_alignment_l2 at hm
            refine WJ.seq ?_
            refine WJ.quiet ?_
            refine QJ.step (YldS.yld (y_bin rfl rfl rfl)) rfl ?_
            refine QJ.done ?_
            refine PJ.next ?_
            refine WJ.seq ?_
            refine WJ.cond (t := decide (x31 < (List.length [43, 45, 61, 120, 126] : Int))) rfl (fun hb32 => ?_) (fun hb32 => ?_)
            · replace hm := ifT hm hb32
              refine WJ.skip ?_
              refine PJ.next ?_
              refine WJ.seq ?_
              refine WJ.block ?_
              refine WJ.seq ?_
              refine WJ.quiet ?_
              obtain ⟨e33, h34, hm⟩ := bindS hm
              refine QJ.step (YldS.yld (y_ixRowM (k := 0) (R := fByte) rfl Try.runUnderlying22 Try.sizeOf5 rfl rfl h34)) rfl ?_
              refine QJ.step (YldS.yld (y_loadRM (k := 0) (i := (Int.toNat x31)) (off := 0) (u := .int .u8 (UInt8.toNat e33 : Int)) rfl Try.isAgg5 rfl (idx_get h34) rfl)) rfl ?_
              refine QJ.step (YldS.yld (y_assign rfl)) rfl ?_
              refine QJ.done ?_
              refine PJ.next ?_
              refine WJ.seq ?_
              refine WJ.quiet_draw follows (by kernel_rfl) ?_
              refine QJ.step (YldS.yld (y_move rfl)) rfl ?_
              refine QJ.step (YldS.yld (y_move rfl)) rfl ?_
              obtain ⟨s35, h36, hm⟩ := bindS hm
              refine QJ.step (YldS.yld (y_subStr (i := some i29) (j := none) h36 Try.runUnderlying9 rfl ⟨_, rfl⟩ trivial)) rfl ?_
              refine QJ.step (YldS.yld (y_move rfl)) rfl ?_
              refine QJ.step (YldS.yld (y_move rfl)) rfl ?_
              obtain ⟨s37, h38, hm⟩ := bindS hm
              refine QJ.step (YldS.yld (y_subStr (i := some k30) (j := none) h38 Try.runUnderlying9 rfl ⟨_, rfl⟩ trivial)) rfl ?_
              refine QJ.step (YldS.yld (y_move rfl)) rfl ?_
              obtain ⟨r39, h40, hm⟩ := bindS hm
              refine QJ.step (y_call Try.call158 rfl (RetG.quiet fun w hw => ok_i_stepAt h40 w )) rfl ?_
              refine QJ.step (YldS.yld (y_move rfl)) rfl ?_
              refine QJ.step (YldS.yld (y_extract rfl rfl)) rfl ?_
              refine QJ.step (YldS.yld (y_extract rfl rfl)) rfl ?_
              refine QJ.step (YldS.yld (y_extract rfl rfl)) rfl ?_
              refine QJ.step (YldS.yld (y_extract rfl rfl)) rfl ?_
              refine QJ.step (YldS.yld (y_assign rfl)) rfl ?_
              refine QJ.step (YldS.yld (y_assign rfl)) rfl ?_
              refine QJ.step (YldS.yld (y_assign rfl)) rfl ?_
              refine QJ.step (YldS.yld (y_assign rfl)) rfl ?_
              refine QJ.done ?_
              refine PJ.next ?_
              refine WJ.seq ?_
              refine WJ.inn_len 3 rfl fun hl41 => ?_
              refine WJ.quiet_draw follows (by kernel_rfl) ?_
              refine QJ.step (YldS.yld (y_move rfl)) rfl ?_
              refine QJ.step (YldS.yld (y_move rfl)) rfl ?_
              obtain ⟨t42, h43, hm⟩ := bindS hm
              refine QJ.cut 22 [(0, str want1), (1, str typed2), (5, v5), (6, v28), (7, .int .i64 i29), (8, .int .i64 k30), (10, .int .u8 (UInt8.toNat e33 : Int)), (11, .int .i64 r39.1), (12, .int .i64 r39.2.1), (30, v26), (31, .int .i64 (List.length [43, 45, 61, 120, 126] : Int)), (32, .int .i64 x31), (72, .bool t42)] ?_ ?_
              · rcases Bool.eq_false_or_eq_true r39.2.2.2 with hb44 | hb44
                · replace h43 := andT h43 hb44
                  refine QJ.on rfl rfl (cB hb44) (YldS.yld (y_move rfl)) rfl ?_
                  refine QJ.on rfl rfl (cB hb44) (YldS.yld (y_move rfl)) rfl ?_
                  refine QJ.on rfl rfl (cB hb44) (YldS.yld (y_move rfl)) rfl ?_
                  refine QJ.on rfl rfl (cB hb44) (YldS.yld (y_bin rfl rfl rfl)) rfl ?_
                  obtain ⟨e45, h46, h43⟩ := bindS h43
                  obtain ⟨y47, hy48⟩ := inn_idx hl41 h46
                  refine QJ.on rfl rfl (cB hb44) (YldS.yld (y_ixRow (k := 2) (R := fRaw1) rfl Try.runUnderlying145 Try.sizeOf144 rfl rfl hy48)) rfl ?_
                  refine QJ.on rfl rfl (cB hb44) (YldS.yld (y_loadR (k := 2) (i := (Int.toNat (w64 (i29 + r39.1)))) (off := 0) rfl Try.isAgg144 rfl (idx_get hy48) (raw_get y47))) rfl ?_
                  refine QJ.on rfl rfl (cB hb44) (YldS.yld (y_move rfl)) rfl ?_
                  refine QJ.on rfl rfl (cB hb44) (YldS.yld (y_move rfl)) rfl ?_
                  refine QJ.on rfl rfl (cB hb44) (YldS.yld (y_bin rfl rfl rfl)) rfl ?_
                  obtain ⟨e49, h50, h43⟩ := bindS h43
                  refine QJ.on rfl rfl (cB hb44) (YldS.yld (y_ixG (R := fI64) (fun w hw => (hw.inn_rd (k := 3) rfl rfl hy48 h46)) Try.runUnderlying144 Try.sizeOf3 rfl rfl h50)) rfl ?_
                  refine QJ.on rfl rfl (cB hb44) (YldS.yld (y_loadG (R := fI64) (i := (Int.toNat (w64 (k30 + r39.2.1)))) (off := 0) (fun w hw => (hw.inn_rd (k := 3) rfl rfl hy48 h46)) Try.isAgg3 rfl (idx_get h50) rfl)) rfl ?_
                  refine QJ.on rfl rfl (cB hb44) (YldS.yld (y_move rfl)) rfl ?_
                  refine QJ.on rfl rfl (cB hb44) (YldS.yld (y_bin rfl rfl rfl)) rfl ?_
                  refine QJ.on rfl rfl (cB hb44) (YldS.yld (y_move rfl)) rfl ?_
                  refine QJ.on rfl rfl (cB hb44) (YldS.yld (y_move rfl)) rfl ?_
                  obtain ⟨e51, h52, h43⟩ := bindS h43
                  obtain ⟨y53, hy54⟩ := inn_idx hl41 h52
                  refine QJ.on rfl rfl (cB hb44) (YldS.yld (y_ixRow (k := 2) (R := fRaw1) rfl Try.runUnderlying145 Try.sizeOf144 rfl rfl hy54)) rfl ?_
                  refine QJ.on rfl rfl (cB hb44) (YldS.yld (y_loadR (k := 2) (i := (Int.toNat i29)) (off := 0) rfl Try.isAgg144 rfl (idx_get hy54) (raw_get y53))) rfl ?_
                  refine QJ.on rfl rfl (cB hb44) (YldS.yld (y_move rfl)) rfl ?_
                  obtain ⟨e55, h56, h43⟩ := bindS h43
                  refine QJ.on rfl rfl (cB hb44) (YldS.yld (y_ixG (R := fI64) (fun w hw => (hw.inn_rd (k := 3) rfl rfl hy54 h52)) Try.runUnderlying144 Try.sizeOf3 rfl rfl h56)) rfl ?_
                  refine QJ.on rfl rfl (cB hb44) (YldS.yld (y_loadG (R := fI64) (i := (Int.toNat k30)) (off := 0) (fun w hw => (hw.inn_rd (k := 3) rfl rfl hy54 h52)) Try.isAgg3 rfl (idx_get h56) rfl)) rfl ?_
                  refine QJ.on rfl rfl (cB hb44) (YldS.yld (y_bin rfl rfl rfl)) rfl ?_
                  refine QJ.step (YldS.yld (y_pick_t (cB hb44) rfl)) rfl ?_
                  obtain rfl := Option.some.inj h43
                  exact QJ.cut_end ⟨rfl, rfl, rfl, rfl, rfl, rfl, rfl, rfl, rfl, rfl, rfl, rfl, rfl, trivial⟩
                · obtain rfl := andF h43 hb44
                  refine QJ.off rfl rfl (cB hb44) rfl rfl ?_
                  refine QJ.off rfl rfl (cB hb44) rfl rfl ?_
                  refine QJ.off rfl rfl (cB hb44) rfl rfl ?_
                  refine QJ.off rfl rfl (cB hb44) rfl rfl ?_
                  refine QJ.off rfl rfl (cB hb44) rfl rfl ?_
                  refine QJ.off rfl rfl (cB hb44) rfl rfl ?_
                  refine QJ.off rfl rfl (cB hb44) rfl rfl ?_
                  refine QJ.off rfl rfl (cB hb44) rfl rfl ?_
                  refine QJ.off rfl rfl (cB hb44) rfl rfl ?_
                  refine QJ.off rfl rfl (cB hb44) rfl rfl ?_
                  refine QJ.off rfl rfl (cB hb44) rfl rfl ?_
                  refine QJ.off rfl rfl (cB hb44) rfl rfl ?_
                  refine QJ.off rfl rfl (cB hb44) rfl rfl ?_
                  refine QJ.off rfl rfl (cB hb44) rfl rfl ?_
                  refine QJ.off rfl rfl (cB hb44) rfl rfl ?_
                  refine QJ.off rfl rfl (cB hb44) rfl rfl ?_
                  refine QJ.off rfl rfl (cB hb44) rfl rfl ?_
                  refine QJ.off rfl rfl (cB hb44) rfl rfl ?_
                  refine QJ.off rfl rfl (cB hb44) rfl rfl ?_
                  refine QJ.off rfl rfl (cB hb44) rfl rfl ?_
                  refine QJ.off rfl rfl (cB hb44) rfl rfl ?_
                  refine QJ.step (YldS.yld (y_pick_f (cB hb44) rfl)) rfl ?_
                  exact QJ.cut_end ⟨rfl, rfl, rfl, rfl, rfl, rfl, rfl, rfl, rfl, rfl, rfl, rfl, rfl, trivial⟩
              refine QJ.done ?_
              refine PJ.next ?_
              refine WJ.cond (t := t42) rfl (fun hb57 => ?_) (fun hb57 => ?_)
              · replace hm := ifT hm hb57
                refine WJ.seq ?_
                refine WJ.reg ?_
                refine SJ.q (YldS.yld (y_move rfl)) rfl ?_
                refine SJ.q (YldS.yld (y_move rfl)) rfl ?_
                refine SJ.buildSlice (R := fByte) (os := [.tmp 74]) [e33] Try.runUnderlying22 Try.sizeOf5 Try.zeroValue5 rfl rfl rfl rfl rfl rfl fun v58 => ?_
                obtain ⟨l59, h60, hm⟩ := bindS hm
                refine SJ.append (k := 2) (R := fByte) h60 rfl Try.underlying22 el5 rfl rfl rfl (fun w hw => (hw.row_rd (k := 0) rfl)) rfl fun v61 => ?_
                refine SJ.q (YldS.yld (y_assign rfl)) rfl ?_
                refine SJ.nil ?_
                refine PJ.next ?_
                refine WJ.seq ?_
                refine WJ.quiet ?_
                refine QJ.step (YldS.yld (y_move rfl)) rfl ?_
                refine QJ.step (YldS.yld (y_move rfl)) rfl ?_
                refine QJ.step (YldS.yld (y_bin rfl rfl rfl)) rfl ?_
                refine QJ.step (YldS.yld (y_move rfl)) rfl ?_
                refine QJ.step (YldS.yld (y_move rfl)) rfl ?_
                refine QJ.step (YldS.yld (y_bin rfl rfl rfl)) rfl ?_
                refine QJ.step (YldS.yld (y_assign rfl)) rfl ?_
                refine QJ.step (YldS.yld (y_assign rfl)) rfl ?_
                refine QJ.done ?_
                refine PJ.next ?_
                refine WJ.exit ?_
                refine PJ.block_exit_ne rfl (PJ.then_exit (PJ.then_exit (PJ.block_exit (PJ.block_normal ?_))))
                exact PJ.joined (l59, v61, w64 (i29 + r39.1), w64 (k30 + r39.2.1)) [2, 3, 4] hm ⟨rfl, rfl, rfl, rfl, rfl, rfl, trivial⟩ ⟨by decide, rfl⟩
              · replace hm := ifF hm hb57
                refine WJ.skip ?_
                refine PJ.block_normal (PJ.next ?_)
                refine WJ.quiet ?_
                refine QJ.step (YldS.yld (y_bin rfl rfl rfl)) rfl ?_
                refine QJ.step (YldS.yld (y_move rfl)) rfl ?_
                refine QJ.done ?_
                exact PJ.round (l27, v28, i29, k30, w64 (x31 + 1)) [0, 1, 2, 3] hm ⟨rfl, rfl, rfl, rfl, rfl, rfl, rfl, rfl, rfl, trivial⟩ ⟨by decide, rfl⟩
            · replace hm := ifF hm hb32
              refine WJ.exit ?_
              refine PJ.then_exit (PJ.then_exit (PJ.block_exit (PJ.block_normal ?_)))
              exact PJ.joined (l27, v28, i29, k30) [1, 2, 3] hm ⟨rfl, rfl, rfl, rfl, rfl, rfl, trivial⟩ ⟨by decide, rfl⟩
        · replace hm := ifF hm hb25
          refine WJ.exit ?_
          refine PJ.then_exit (PJ.then_exit (PJ.then_exit (PJ.block_exit ?_)))
          exact PJ.joined (l12, v13) [0] hm ⟨rfl, trivial⟩ ⟨by decide, rfl⟩
      · rintro ⟨l16, v17, i18, k19⟩ hm
        subst hk21
        exact PJ.round (l16, v17, i18, k19) [0, 1, 2] hm ⟨rfl, rfl, rfl, rfl, rfl, rfl, trivial⟩ ⟨by decide, rfl⟩
  · rintro ⟨l8, v9⟩ hm
    subst hk11
    refine WJ.seq ?_
    refine WJ.quiet ?_
    refine QJ.step (YldS.yld (y_move rfl)) rfl ?_
    refine QJ.step (YldS.yld (y_b2s Try.underlying22 Try.underlying9 Try.underlying5 (fun w hw => ⟨_, (hw.row_rd (k := 0) rfl)⟩) rfl)) rfl ?_
    refine QJ.step (YldS.yld (y_assign rfl)) rfl ?_
    refine QJ.done ?_
    refine PJ.next ?_
    refine WJ.ret ?_
    obtain rfl := Option.some.inj hm
    refine PJ.sel (L' := []) [] ⟨List.nodup_nil, rfl⟩ ?_
    exact PJ.retn (vs := [str l8]) Try.results122 ⟨rfl, trivial⟩ ⟨rfl, rfl⟩

set_option maxRecDepth 100000 in
set_option maxHeartbeats 1000000 in
theorem ok_i_AlignTexts {N : Nat} {want1 : Str} {typed2 : Str} {r : Str × Int} (hm : i_AlignTexts N want1 typed2 = some r) (w : World)  :
    Calls Try.prog 56 #[str want1, str typed2] w (Ret (cx w) (tup [str r.1, .int .i64 r.2])) := by
  unfold i_AlignTexts at hm
  refine Calls.enter [str want1, str typed2] Try.func56 rfl Try.ntmps56 rfl ?_
  refine WJ.seq ?_
  refine WJ.quiet ?_
  refine QJ.step (YldS.yld (y_assign rfl)) rfl ?_
  refine QJ.step (YldS.yld (y_assign rfl)) rfl ?_
  refine QJ.done ?_
  refine PJ.next ?_
  refine WJ.seq ?_
  refine WJ.seq ?_
  refine WJ.quiet ?_
  refine QJ.step (YldS.yld (y_move rfl)) rfl ?_
  obtain ⟨r3, h4, hm⟩ := bindS hm
  refine QJ.step (y_call Try.call121 rfl (RetG.quiet fun w hw => ok_i_isTyped h4 w )) rfl ?_
  refine QJ.step (YldS.yld (y_not rfl)) rfl ?_
  refine QJ.step (YldS.yld (y_move rfl)) rfl ?_
  obtain ⟨t5, h6, hm⟩ := bindS hm
  refine QJ.cut 4 [(0, str want1), (1, str typed2), (13, .bool t5)] ?_ ?_
  · rcases Bool.eq_false_or_eq_true (!r3) with hb7 | hb7
    · obtain rfl := orT h6 hb7
      refine QJ.off rfl rfl (cB hb7) rfl rfl ?_
      refine QJ.off rfl rfl (cB hb7) rfl rfl ?_
      refine QJ.off rfl rfl (cB hb7) rfl rfl ?_
      refine QJ.step (YldS.yld (y_pick_t (cB hb7) rfl)) rfl ?_
      exact QJ.cut_end ⟨rfl, rfl, rfl, trivial⟩
    · replace h6 := orF h6 hb7
      refine QJ.on rfl rfl (cB hb7) (YldS.yld (y_move rfl)) rfl ?_
      obtain ⟨r8, h9, h6⟩ := bindS h6
      refine QJ.on rfl rfl (cB hb7) (y_call Try.call121 rfl (RetG.quiet fun w hw => ok_i_isTyped h9 w )) rfl ?_
      refine QJ.on rfl rfl (cB hb7) (YldS.yld (y_not rfl)) rfl ?_
      refine QJ.step (YldS.yld (y_pick_f (cB hb7) rfl)) rfl ?_
      obtain rfl := Option.some.inj h6
      exact QJ.cut_end ⟨rfl, rfl, rfl, trivial⟩
  refine QJ.done ?_
  refine PJ.next ?_
  refine WJ.cond (t := t5) rfl (fun hb10 => ?_) (fun hb10 => ?_)
  · replace hm := ifT hm hb10
    refine WJ.seq ?_
    refine WJ.quiet ?_
    refine QJ.step (YldS.yld (y_assign rfl)) rfl ?_
    refine QJ.step (YldS.yld (y_assign rfl)) rfl ?_
    refine QJ.done ?_
    refine PJ.next ?_
    refine WJ.ret ?_
    refine PJ.then_ret ?_
    obtain rfl := Option.some.inj hm
    refine PJ.sel (L' := []) [] ⟨List.nodup_nil, rfl⟩ ?_
    exact PJ.retn (vs := [str [], .int .i64 2]) Try.results56 ⟨rfl, rfl, trivial⟩ ⟨rfl, rfl⟩
  · replace hm := ifF hm hb10
    refine WJ.skip ?_
    refine PJ.next ?_
    refine WJ.seq ?_
    refine WJ.quiet ?_
    refine QJ.step (YldS.yld (y_move rfl)) rfl ?_
    refine QJ.step (YldS.yld (y_move rfl)) rfl ?_
    obtain ⟨r11, h12, hm⟩ := bindS hm
    refine QJ.step (y_call Try.call122 rfl (RetG.quiet fun w hw => ok_i_alignment h12 w )) rfl ?_
    refine QJ.step (YldS.yld (y_assign rfl)) rfl ?_
    refine QJ.step (YldS.yld (y_assign rfl)) rfl ?_
    refine QJ.done ?_
    refine PJ.next ?_
    refine WJ.ret ?_
    obtain rfl := Option.some.inj hm
    refine PJ.sel (L' := []) [] ⟨List.nodup_nil, rfl⟩ ?_
    exact PJ.retn (vs := [str r11, .int .i64 0]) Try.results56 ⟨rfl, rfl, trivial⟩ ⟨rfl, rfl⟩

set_option maxRecDepth 100000 in
set_option maxHeartbeats 1000000 in
theorem ok_i_areSteps {N : Nat} {steps1 : Str} {r : Bool} (hm : i_areSteps N steps1 = some r) (w : World)  :
    Calls Try.prog 123 #[str steps1] w (Ret (cx w) (.bool r)) := by
  unfold i_areSteps at hm
  refine Calls.enter [str steps1] Try.func123 rfl Try.ntmps123 rfl ?_
  refine WJ.seq ?_
  refine WJ.quiet ?_
  refine QJ.step (YldS.yld (y_assign rfl)) rfl ?_
  refine QJ.done ?_
  refine PJ.next ?_
  obtain ⟨kj2, hk3, hm⟩ := withK_open hm
  refine WJ.join (X := Unit) (fun (_ : Unit) => kj2  = some r) (fun (_ : Unit) => [(0, str steps1)]) (fun (_ : Unit) => []) ?_ ?_
  · clear hk3
    refine WJ.seq ?_
    refine WJ.quiet ?_
    refine QJ.step (YldS.yld (y_move rfl)) rfl ?_
    refine QJ.step (YldS.yld (y_lenStr Try.runUnderlying9 rfl)) rfl ?_
    refine QJ.step (YldS.yld (y_move rfl)) rfl ?_
    refine QJ.done ?_
    refine PJ.next ?_
    refine WJ.block ?_
    refine WJ.sel (L' := (fun (x : Int) => []) 0) [] ⟨List.nodup_nil, rfl⟩ ?_
    refine WJ.sub (m' := (fun (x : Int) => [(0, str steps1), (5, .int .i64 (List.length steps1 : Int)), (6, .int .i64 x)]) 0) ⟨rfl, rfl, rfl, trivial⟩ ?_
    refine WJ.loop (X := Int) (fun N (x : Int) => i_areSteps_l1 kj2 steps1 N x = some r) (fun (x : Int) => [(0, str steps1), (5, .int .i64 (List.length steps1 : Int)), (6, .int .i64 x)]) (fun (x : Int) => []) ?_ N 0 hm
    · rintro N x4 hI
      have hm := hI; clear hI
      cases N with
      | zero => cases hm
      | succ N =>
      unfold i_areSteps_l1 at hm
      refine WJ.seq ?_
      refine WJ.quiet ?_
      refine QJ.step (YldS.yld (y_bin rfl rfl rfl)) rfl ?_
      refine QJ.done ?_
      refine PJ.next ?_
      refine WJ.seq ?_
      refine WJ.cond (t := decide (x4 < (List.length steps1 : Int))) rfl (fun hb5 => ?_) (fun hb5 => ?_)
      · replace hm := ifT hm hb5
        refine WJ.skip ?_
        refine PJ.next ?_
        refine WJ.seq ?_
        refine WJ.block ?_
        refine WJ.seq ?_
        refine WJ.quiet ?_
        refine QJ.step (YldS.yld (y_move rfl)) rfl ?_
        refine QJ.step (YldS.yld (y_assign rfl)) rfl ?_
        refine QJ.done ?_
        refine PJ.next ?_
        refine WJ.seq ?_
        refine WJ.quiet ?_
        refine QJ.step (YldS.yld (y_move rfl)) rfl ?_
        refine QJ.step (YldS.yld (y_move rfl)) rfl ?_
        obtain ⟨c6, h7, hm⟩ := bindS hm
        refine QJ.step (YldS.yld (y_idxStr Try.runUnderlying9 rfl rfl h7)) rfl ?_
        refine QJ.done ?_
        refine PJ.next ?_
        refine WJ.block ?_
        obtain ⟨kj9, hk10, hm⟩ := withK_open hm
        refine WJ.join (X := Bool) (fun (x : Bool) => kj9 x = some r) (fun (x : Bool) => [(0, str steps1), (5, .int .i64 (List.length steps1 : Int)), (6, .int .i64 x4), (12, .bool x)]) (fun (x : Bool) => []) ?_ ?_
        · clear hk10
          refine WJ.seq ?_
          refine WJ.quiet ?_
          refine QJ.step (YldS.yld (y_bin8 c6 (61 : UInt8) rfl rfl rfl)) rfl ?_
          refine QJ.step (YldS.yld (y_assign rfl)) rfl ?_
          refine QJ.done ?_
          refine PJ.next ?_
          refine WJ.cond (t := (c6 == (61 : UInt8))) rfl (fun hb11 => ?_) (fun hb11 => ?_)
          · replace hm := ifT hm hb11
            refine WJ.skip ?_
            exact PJ.joined (c6 == (61 : UInt8)) [] hm ⟨rfl, rfl, rfl, rfl, trivial⟩ ⟨List.nodup_nil, rfl⟩
          · replace hm := ifF hm hb11
            refine WJ.seq ?_
            refine WJ.quiet ?_
            refine QJ.step (YldS.yld (y_bin8 c6 (120 : UInt8) rfl rfl rfl)) rfl ?_
            refine QJ.step (YldS.yld (y_assign rfl)) rfl ?_
            refine QJ.done ?_
            refine PJ.next ?_
            refine WJ.cond (t := (c6 == (120 : UInt8))) rfl (fun hb12 => ?_) (fun hb12 => ?_)
            · replace hm := ifT hm hb12
              refine WJ.skip ?_
              exact PJ.joined (c6 == (120 : UInt8)) [] hm ⟨rfl, rfl, rfl, rfl, trivial⟩ ⟨List.nodup_nil, rfl⟩
            · replace hm := ifF hm hb12
              refine WJ.seq ?_
              refine WJ.quiet ?_
              refine QJ.step (YldS.yld (y_bin8 c6 (45 : UInt8) rfl rfl rfl)) rfl ?_
              refine QJ.step (YldS.yld (y_assign rfl)) rfl ?_
              refine QJ.done ?_
              refine PJ.next ?_
              refine WJ.cond (t := (c6 == (45 : UInt8))) rfl (fun hb13 => ?_) (fun hb13 => ?_)
              · replace hm := ifT hm hb13
                refine WJ.skip ?_
                exact PJ.joined (c6 == (45 : UInt8)) [] hm ⟨rfl, rfl, rfl, rfl, trivial⟩ ⟨List.nodup_nil, rfl⟩
              · replace hm := ifF hm hb13
                refine WJ.seq ?_
                refine WJ.quiet ?_
                refine QJ.step (YldS.yld (y_bin8 c6 (43 : UInt8) rfl rfl rfl)) rfl ?_
                refine QJ.step (YldS.yld (y_assign rfl)) rfl ?_
                refine QJ.done ?_
                refine PJ.next ?_
                refine WJ.cond (t := (c6 == (43 : UInt8))) rfl (fun hb14 => ?_) (fun hb14 => ?_)
                · replace hm := ifT hm hb14
                  refine WJ.skip ?_
                  exact PJ.joined (c6 == (43 : UInt8)) [] hm ⟨rfl, rfl, rfl, rfl, trivial⟩ ⟨List.nodup_nil, rfl⟩
                · replace hm := ifF hm hb14
                  refine WJ.quiet ?_
                  refine QJ.step (YldS.yld (y_bin8 c6 (126 : UInt8) rfl rfl rfl)) rfl ?_
                  refine QJ.step (YldS.yld (y_assign rfl)) rfl ?_
                  refine QJ.done ?_
                  exact PJ.joined (c6 == (126 : UInt8)) [] hm ⟨rfl, rfl, rfl, rfl, trivial⟩ ⟨List.nodup_nil, rfl⟩
        · rintro x8 hm
          subst hk10
          refine WJ.cond (t := x8) rfl (fun hb15 => ?_) (fun hb15 => ?_)
          · replace hm := ifT hm hb15
            refine WJ.skip ?_
            refine PJ.block_normal (PJ.block_normal (PJ.next ?_))
            refine WJ.quiet ?_
            refine QJ.step (YldS.yld (y_bin rfl rfl rfl)) rfl ?_
            refine QJ.step (YldS.yld (y_move rfl)) rfl ?_
            refine QJ.done ?_
            exact PJ.round (w64 (x4 + 1)) [] hm ⟨rfl, rfl, rfl, trivial⟩ ⟨List.nodup_nil, rfl⟩
          · replace hm := ifF hm hb15
            refine WJ.seq ?_
            refine WJ.quiet ?_
            refine QJ.step (YldS.yld (y_assign rfl)) rfl ?_
            refine QJ.done ?_
            refine PJ.next ?_
            refine WJ.ret ?_
            refine PJ.block_ret (PJ.block_ret (PJ.then_ret (PJ.then_ret (PJ.block_ret (PJ.then_ret ?_)))))
            obtain rfl := Option.some.inj hm
            refine PJ.sel (L' := []) [] ⟨List.nodup_nil, rfl⟩ ?_
            exact PJ.retn (vs := [.bool false]) Try.results123 ⟨rfl, trivial⟩ ⟨rfl, rfl⟩
      · replace hm := ifF hm hb5
        refine WJ.exit ?_
        refine PJ.then_exit (PJ.then_exit (PJ.block_exit ?_))
        exact PJ.joined () [] hm ⟨rfl, trivial⟩ ⟨List.nodup_nil, rfl⟩
  · rintro _ hm
    subst hk3
    refine WJ.seq ?_
    refine WJ.quiet ?_
    refine QJ.step (YldS.yld (y_move rfl)) rfl ?_
    refine QJ.step (YldS.yld (y_lenStr Try.runUnderlying9 rfl)) rfl ?_
    refine QJ.step (YldS.yld (y_bin rfl rfl rfl)) rfl ?_
    refine QJ.step (YldS.yld (y_assign rfl)) rfl ?_
    refine QJ.done ?_
    refine PJ.next ?_
    refine WJ.ret ?_
    obtain rfl := Option.some.inj hm
    refine PJ.sel (L' := []) [] ⟨List.nodup_nil, rfl⟩ ?_
    exact PJ.retn (vs := [.bool (decide ((List.length steps1 : Int) ≤ 120))]) Try.results123 ⟨rfl, trivial⟩ ⟨rfl, rfl⟩

set_option maxRecDepth 100000 in
set_option maxHeartbeats 1000000 in
theorem ok_i_aligns {N : Nat} {want1 : Str} {typed2 : Str} {steps3 : Str} {r : Bool} (hm : i_aligns N want1 typed2 steps3 = some r) (w : World)  :
    Calls Try.prog 124 #[str want1, str typed2, str steps3] w (Ret (cx w) (.bool r)) := by
  unfold i_aligns at hm
  refine Calls.enter [str want1, str typed2, str steps3] Try.func124 rfl Try.ntmps124 rfl ?_
  refine WJ.seq ?_
  refine WJ.quiet ?_
  refine QJ.step (YldS.yld (y_assign rfl)) rfl ?_
  refine QJ.done ?_
  refine PJ.next ?_
  refine WJ.seq ?_
  refine WJ.quiet ?_
  refine QJ.step (YldS.yld (y_assign rfl)) rfl ?_
  refine QJ.step (YldS.yld (y_assign rfl)) rfl ?_
  refine QJ.done ?_
  refine PJ.next ?_
  obtain ⟨kj6, hk7, hm⟩ := withK_open hm
  refine WJ.join (X := Int × Int) (fun (x : Int × Int) => kj6 x.1 x.2 = some r) (fun (x : Int × Int) => [(0, str want1), (1, str typed2), (7, .int .i64 x.1), (8, .int .i64 x.2)]) (fun (x : Int × Int) => []) ?_ ?_
  · clear hk7
    refine WJ.seq ?_
    refine WJ.quiet ?_
    refine QJ.step (YldS.yld (y_move rfl)) rfl ?_
    refine QJ.step (YldS.yld (y_lenStr Try.runUnderlying9 rfl)) rfl ?_
    refine QJ.step (YldS.yld (y_move rfl)) rfl ?_
    refine QJ.done ?_
    refine PJ.next ?_
    refine WJ.block ?_
    refine WJ.sel (L' := (fun (x : Int × Int × Int) => []) (0, 0, 0)) [] ⟨List.nodup_nil, rfl⟩ ?_
    refine WJ.sub (m' := (fun (x : Int × Int × Int) => [(0, str want1), (1, str typed2), (2, str steps3), (7, .int .i64 x.1), (8, .int .i64 x.2.1), (15, .int .i64 (List.length steps3 : Int)), (16, .int .i64 x.2.2)]) (0, 0, 0)) ⟨rfl, rfl, rfl, rfl, rfl, rfl, rfl, trivial⟩ ?_
    refine WJ.loop (X := Int × Int × Int) (fun N (x : Int × Int × Int) => i_aligns_l1 kj6 want1 typed2 steps3 N x.1 x.2.1 x.2.2 = some r) (fun (x : Int × Int × Int) => [(0, str want1), (1, str typed2), (2, str steps3), (7, .int .i64 x.1), (8, .int .i64 x.2.1), (15, .int .i64 (List.length steps3 : Int)), (16, .int .i64 x.2.2)]) (fun (x : Int × Int × Int) => []) ?_ N (0, 0, 0) hm
    · rintro N ⟨i8, k9, x10⟩ hI
      have hm := hI; clear hI
      cases N with
      | zero => cases hm
      | succ N =>
      unfold i_aligns_l1 at hm
      refine WJ.seq ?_
      refine WJ.quiet ?_
      refine QJ.step (YldS.yld (y_bin rfl rfl rfl)) rfl ?_
      refine QJ.done ?_
      refine PJ.next ?_
      refine WJ.seq ?_
      refine WJ.cond (t := decide (x10 < (List.length steps3 : Int))) rfl (fun hb11 => ?_) (fun hb11 => ?_)
      · replace hm := ifT hm hb11
        refine WJ.skip ?_
        refine PJ.next ?_
        refine WJ.seq ?_
        refine WJ.block ?_
        refine WJ.seq ?_
        refine WJ.quiet ?_
        refine QJ.step (YldS.yld (y_move rfl)) rfl ?_
        refine QJ.step (YldS.yld (y_assign rfl)) rfl ?_
        refine QJ.done ?_
        refine PJ.next ?_
        refine WJ.seq ?_
        refine WJ.quiet_draw follows (by kernel_rfl) ?_
        refine QJ.step (YldS.yld (y_move rfl)) rfl ?_
        refine QJ.step (YldS.yld (y_move rfl)) rfl ?_
        obtain ⟨s12, h13, hm⟩ := bindS hm
        refine QJ.step (YldS.yld (y_subStr (i := some i8) (j := none) h13 Try.runUnderlying9 rfl ⟨_, rfl⟩ trivial)) rfl ?_
        refine QJ.step (YldS.yld (y_move rfl)) rfl ?_
        refine QJ.step (YldS.yld (y_move rfl)) rfl ?_
        obtain ⟨s14, h15, hm⟩ := bindS hm
        refine QJ.step (YldS.yld (y_subStr (i := some k9) (j := none) h15 Try.runUnderlying9 rfl ⟨_, rfl⟩ trivial)) rfl ?_
        refine QJ.step (YldS.yld (y_move rfl)) rfl ?_
        refine QJ.step (YldS.yld (y_move rfl)) rfl ?_
        obtain ⟨c16, h17, hm⟩ := bindS hm
        refine QJ.step (YldS.yld (y_idxStr Try.runUnderlying9 rfl rfl h17)) rfl ?_
        obtain ⟨r18, h19, hm⟩ := bindS hm
        refine QJ.step (y_call Try.call158 rfl (RetG.quiet fun w hw => ok_i_stepAt h19 w )) rfl ?_
        refine QJ.step (YldS.yld (y_move rfl)) rfl ?_
        refine QJ.step (YldS.yld (y_extract rfl rfl)) rfl ?_
        refine QJ.step (YldS.yld (y_extract rfl rfl)) rfl ?_
        refine QJ.step (YldS.yld (y_extract rfl rfl)) rfl ?_
        refine QJ.step (YldS.yld (y_extract rfl rfl)) rfl ?_
        refine QJ.step (YldS.yld (y_assign rfl)) rfl ?_
        refine QJ.step (YldS.yld (y_assign rfl)) rfl ?_
        refine QJ.step (YldS.yld (y_assign rfl)) rfl ?_
        refine QJ.step (YldS.yld (y_assign rfl)) rfl ?_
        refine QJ.done ?_
        refine PJ.next ?_
        refine WJ.seq ?_
        refine WJ.seq ?_
        refine WJ.quiet ?_
        refine QJ.step (YldS.yld (y_move rfl)) rfl ?_
        refine QJ.step (YldS.yld (y_not rfl)) rfl ?_
        refine QJ.done ?_
        refine PJ.next ?_
        refine WJ.cond (t := !r18.2.2.2) rfl (fun hb20 => ?_) (fun hb20 => ?_)
        · replace hm := ifT hm hb20
          refine WJ.seq ?_
          refine WJ.quiet ?_
          refine QJ.step (YldS.yld (y_assign rfl)) rfl ?_
          refine QJ.done ?_
          refine PJ.next ?_
          refine WJ.ret ?_
          refine PJ.then_ret (PJ.block_ret (PJ.then_ret (PJ.then_ret (PJ.block_ret (PJ.then_ret ?_)))))
          obtain rfl := Option.some.inj hm
          refine PJ.sel (L' := []) [] ⟨List.nodup_nil, rfl⟩ ?_
          exact PJ.retn (vs := [.bool false]) Try.results124 ⟨rfl, trivial⟩ ⟨rfl, rfl⟩
        · replace hm := ifF hm hb20
          refine WJ.skip ?_
          refine PJ.next ?_
          refine WJ.quiet ?_
          refine QJ.step (YldS.yld (y_move rfl)) rfl ?_
          refine QJ.step (YldS.yld (y_move rfl)) rfl ?_
          refine QJ.step (YldS.yld (y_bin rfl rfl rfl)) rfl ?_
          refine QJ.step (YldS.yld (y_move rfl)) rfl ?_
          refine QJ.step (YldS.yld (y_move rfl)) rfl ?_
          refine QJ.step (YldS.yld (y_bin rfl rfl rfl)) rfl ?_
          refine QJ.step (YldS.yld (y_assign rfl)) rfl ?_
          refine QJ.step (YldS.yld (y_assign rfl)) rfl ?_
          refine QJ.done ?_
          refine PJ.block_normal (PJ.next ?_)
          refine WJ.quiet ?_
          refine QJ.step (YldS.yld (y_bin rfl rfl rfl)) rfl ?_
          refine QJ.step (YldS.yld (y_move rfl)) rfl ?_
          refine QJ.done ?_
          exact PJ.round (w64 (i8 + r18.1), w64 (k9 + r18.2.1), w64 (x10 + 1)) [] hm ⟨rfl, rfl, rfl, rfl, rfl, rfl, rfl, trivial⟩ ⟨List.nodup_nil, rfl⟩
      · replace hm := ifF hm hb11
        refine WJ.exit ?_
        refine PJ.then_exit (PJ.then_exit (PJ.block_exit ?_))
        exact PJ.joined (i8, k9) [] hm ⟨rfl, rfl, rfl, rfl, trivial⟩ ⟨List.nodup_nil, rfl⟩
  · rintro ⟨i4, k5⟩ hm
    subst hk7
    refine WJ.seq ?_
    refine WJ.quiet ?_
    refine QJ.step (YldS.yld (y_move rfl)) rfl ?_
    refine QJ.step (YldS.yld (y_move rfl)) rfl ?_
    refine QJ.step (YldS.yld (y_lenStr Try.runUnderlying9 rfl)) rfl ?_
    refine QJ.step (YldS.yld (y_bin rfl rfl rfl)) rfl ?_
    refine QJ.step (YldS.yld (y_move rfl)) rfl ?_
    obtain ⟨t21, h22, hm⟩ := bindS hm
    refine QJ.cut 5 [(52, .bool t21)] ?_ ?_
    · rcases Bool.eq_false_or_eq_true (i4 == (List.length want1 : Int)) with hb23 | hb23
      · replace h22 := andT h22 hb23
        refine QJ.on rfl rfl (cB hb23) (YldS.yld (y_move rfl)) rfl ?_
        refine QJ.on rfl rfl (cB hb23) (YldS.yld (y_move rfl)) rfl ?_
        refine QJ.on rfl rfl (cB hb23) (YldS.yld (y_lenStr Try.runUnderlying9 rfl)) rfl ?_
        refine QJ.on rfl rfl (cB hb23) (YldS.yld (y_bin rfl rfl rfl)) rfl ?_
        refine QJ.step (YldS.yld (y_pick_t (cB hb23) rfl)) rfl ?_
        obtain rfl := Option.some.inj h22
        exact QJ.cut_end ⟨rfl, trivial⟩
      · obtain rfl := andF h22 hb23
        refine QJ.off rfl rfl (cB hb23) rfl rfl ?_
        refine QJ.off rfl rfl (cB hb23) rfl rfl ?_
        refine QJ.off rfl rfl (cB hb23) rfl rfl ?_
        refine QJ.off rfl rfl (cB hb23) rfl rfl ?_
        refine QJ.step (YldS.yld (y_pick_f (cB hb23) rfl)) rfl ?_
        exact QJ.cut_end ⟨rfl, trivial⟩
    refine QJ.step (YldS.yld (y_assign rfl)) rfl ?_
    refine QJ.done ?_
    refine PJ.next ?_
    refine WJ.ret ?_
    obtain rfl := Option.some.inj hm
    refine PJ.sel (L' := []) [] ⟨List.nodup_nil, rfl⟩ ?_
    exact PJ.retn (vs := [.bool t21]) Try.results124 ⟨rfl, trivial⟩ ⟨rfl, rfl⟩

set_option maxRecDepth 100000 in
set_option maxHeartbeats 1000000 in
theorem ok_i_IsAlignment {N : Nat} {want1 : Str} {typed2 : Str} {steps3 : Str} {r : Bool × Int} (hm : i_IsAlignment N want1 typed2 steps3 = some r) (w : World)  :
    Calls Try.prog 57 #[str want1, str typed2, str steps3] w (Ret (cx w) (tup [.bool r.1, .int .i64 r.2])) := by
  unfold i_IsAlignment at hm
  refine Calls.enter [str want1, str typed2, str steps3] Try.func57 rfl Try.ntmps57 rfl ?_
  refine WJ.seq ?_
  refine WJ.quiet ?_
  refine QJ.step (YldS.yld (y_assign rfl)) rfl ?_
  refine QJ.step (YldS.yld (y_assign rfl)) rfl ?_
  refine QJ.done ?_
  refine PJ.next ?_
  refine WJ.seq ?_
  refine WJ.seq ?_
  refine WJ.quiet ?_
  refine QJ.step (YldS.yld (y_move rfl)) rfl ?_
  obtain ⟨r4, h5, hm⟩ := bindS hm
  refine QJ.step (y_call Try.call121 rfl (RetG.quiet fun w hw => ok_i_isTyped h5 w )) rfl ?_
  refine QJ.step (YldS.yld (y_not rfl)) rfl ?_
  refine QJ.step (YldS.yld (y_move rfl)) rfl ?_
  obtain ⟨t6, h7, hm⟩ := bindS hm
  refine QJ.cut 4 [(0, str want1), (1, str typed2), (2, str steps3), (15, .bool t6)] ?_ ?_
  · rcases Bool.eq_false_or_eq_true (!r4) with hb8 | hb8
    · obtain rfl := orT h7 hb8
      refine QJ.off rfl rfl (cB hb8) rfl rfl ?_
      refine QJ.off rfl rfl (cB hb8) rfl rfl ?_
      refine QJ.off rfl rfl (cB hb8) rfl rfl ?_
      refine QJ.step (YldS.yld (y_pick_t (cB hb8) rfl)) rfl ?_
      exact QJ.cut_end ⟨rfl, rfl, rfl, rfl, trivial⟩
    · replace h7 := orF h7 hb8
      refine QJ.on rfl rfl (cB hb8) (YldS.yld (y_move rfl)) rfl ?_
      obtain ⟨r9, h10, h7⟩ := bindS h7
      refine QJ.on rfl rfl (cB hb8) (y_call Try.call121 rfl (RetG.quiet fun w hw => ok_i_isTyped h10 w )) rfl ?_
      refine QJ.on rfl rfl (cB hb8) (YldS.yld (y_not rfl)) rfl ?_
      refine QJ.step (YldS.yld (y_pick_f (cB hb8) rfl)) rfl ?_
      obtain rfl := Option.some.inj h7
      exact QJ.cut_end ⟨rfl, rfl, rfl, rfl, trivial⟩
  refine QJ.done ?_
  refine PJ.next ?_
  refine WJ.cond (t := t6) rfl (fun hb11 => ?_) (fun hb11 => ?_)
  · replace hm := ifT hm hb11
    refine WJ.seq ?_
    refine WJ.quiet ?_
    refine QJ.step (YldS.yld (y_assign rfl)) rfl ?_
    refine QJ.step (YldS.yld (y_assign rfl)) rfl ?_
    refine QJ.done ?_
    refine PJ.next ?_
    refine WJ.ret ?_
    refine PJ.then_ret ?_
    obtain rfl := Option.some.inj hm
    refine PJ.sel (L' := []) [] ⟨List.nodup_nil, rfl⟩ ?_
    exact PJ.retn (vs := [.bool false, .int .i64 2]) Try.results57 ⟨rfl, rfl, trivial⟩ ⟨rfl, rfl⟩
  · replace hm := ifF hm hb11
    refine WJ.skip ?_
    refine PJ.next ?_
    refine WJ.seq ?_
    refine WJ.seq ?_
    refine WJ.quiet ?_
    refine QJ.step (YldS.yld (y_move rfl)) rfl ?_
    obtain ⟨r12, h13, hm⟩ := bindS hm
    refine QJ.step (y_call Try.call123 rfl (RetG.quiet fun w hw => ok_i_areSteps h13 w )) rfl ?_
    refine QJ.step (YldS.yld (y_not rfl)) rfl ?_
    refine QJ.done ?_
    refine PJ.next ?_
    refine WJ.cond (t := !r12) rfl (fun hb14 => ?_) (fun hb14 => ?_)
    · replace hm := ifT hm hb14
      refine WJ.seq ?_
      refine WJ.quiet ?_
      refine QJ.step (YldS.yld (y_assign rfl)) rfl ?_
      refine QJ.step (YldS.yld (y_assign rfl)) rfl ?_
      refine QJ.done ?_
      refine PJ.next ?_
      refine WJ.ret ?_
      refine PJ.then_ret ?_
      obtain rfl := Option.some.inj hm
      refine PJ.sel (L' := []) [] ⟨List.nodup_nil, rfl⟩ ?_
      exact PJ.retn (vs := [.bool false, .int .i64 7]) Try.results57 ⟨rfl, rfl, trivial⟩ ⟨rfl, rfl⟩
    · replace hm := ifF hm hb14
      refine WJ.skip ?_
      refine PJ.next ?_
      refine WJ.seq ?_
      refine WJ.quiet ?_
      refine QJ.step (YldS.yld (y_move rfl)) rfl ?_
      refine QJ.step (YldS.yld (y_move rfl)) rfl ?_
      refine QJ.step (YldS.yld (y_move rfl)) rfl ?_
      obtain ⟨r15, h16, hm⟩ := bindS hm
      refine QJ.step (y_call Try.call124 rfl (RetG.quiet fun w hw => ok_i_aligns h16 w )) rfl ?_
      refine QJ.step (YldS.yld (y_assign rfl)) rfl ?_
      refine QJ.step (YldS.yld (y_assign rfl)) rfl ?_
      refine QJ.done ?_
      refine PJ.next ?_
      refine WJ.ret ?_
      obtain rfl := Option.some.inj hm
      refine PJ.sel (L' := []) [] ⟨List.nodup_nil, rfl⟩ ?_
      exact PJ.retn (vs := [.bool r15, .int .i64 0]) Try.results57 ⟨rfl, rfl, trivial⟩ ⟨rfl, rfl⟩

set_option maxRecDepth 100000 in
set_option maxHeartbeats 1000000 in
theorem ok_i_LeastErrors {N : Nat} {want1 : Str} {typed2 : Str} {r : Int × Int} (hm : i_LeastErrors N want1 typed2 = some r) (w : World)  :
    Calls Try.prog 58 #[str want1, str typed2] w (Ret (cx w) (tup [.int .i64 r.1, .int .i64 r.2])) := by
  unfold i_LeastErrors at hm
  refine Calls.enter [str want1, str typed2] Try.func58 rfl Try.ntmps58 rfl ?_
  refine WJ.seq ?_
  refine WJ.quiet ?_
  refine QJ.step (YldS.yld (y_assign rfl)) rfl ?_
  refine QJ.step (YldS.yld (y_assign rfl)) rfl ?_
  refine QJ.done ?_
  refine PJ.next ?_
  refine WJ.seq ?_
  refine WJ.seq ?_
  refine WJ.quiet ?_
  refine QJ.step (YldS.yld (y_move rfl)) rfl ?_
  obtain ⟨r3, h4, hm⟩ := bindS hm
  refine QJ.step (y_call Try.call121 rfl (RetG.quiet fun w hw => ok_i_isTyped h4 w )) rfl ?_
  refine QJ.step (YldS.yld (y_not rfl)) rfl ?_
  refine QJ.step (YldS.yld (y_move rfl)) rfl ?_
  obtain ⟨t5, h6, hm⟩ := bindS hm
  refine QJ.cut 4 [(0, str want1), (1, str typed2), (13, .bool t5)] ?_ ?_
  · rcases Bool.eq_false_or_eq_true (!r3) with hb7 | hb7
    · obtain rfl := orT h6 hb7
      refine QJ.off rfl rfl (cB hb7) rfl rfl ?_
      refine QJ.off rfl rfl (cB hb7) rfl rfl ?_
      refine QJ.off rfl rfl (cB hb7) rfl rfl ?_
      refine QJ.step (YldS.yld (y_pick_t (cB hb7) rfl)) rfl ?_
      exact QJ.cut_end ⟨rfl, rfl, rfl, trivial⟩
    · replace h6 := orF h6 hb7
      refine QJ.on rfl rfl (cB hb7) (YldS.yld (y_move rfl)) rfl ?_
      obtain ⟨r8, h9, h6⟩ := bindS h6
      refine QJ.on rfl rfl (cB hb7) (y_call Try.call121 rfl (RetG.quiet fun w hw => ok_i_isTyped h9 w )) rfl ?_
      refine QJ.on rfl rfl (cB hb7) (YldS.yld (y_not rfl)) rfl ?_
      refine QJ.step (YldS.yld (y_pick_f (cB hb7) rfl)) rfl ?_
      obtain rfl := Option.some.inj h6
      exact QJ.cut_end ⟨rfl, rfl, rfl, trivial⟩
  refine QJ.done ?_
  refine PJ.next ?_
  refine WJ.cond (t := t5) rfl (fun hb10 => ?_) (fun hb10 => ?_)
  · replace hm := ifT hm hb10
    refine WJ.seq ?_
    refine WJ.quiet ?_
    refine QJ.step (YldS.yld (y_assign rfl)) rfl ?_
    refine QJ.step (YldS.yld (y_assign rfl)) rfl ?_
    refine QJ.done ?_
    refine PJ.next ?_
    refine WJ.ret ?_
    refine PJ.then_ret ?_
    obtain rfl := Option.some.inj hm
    refine PJ.sel (L' := []) [] ⟨List.nodup_nil, rfl⟩ ?_
    exact PJ.retn (vs := [.int .i64 0, .int .i64 2]) Try.results58 ⟨rfl, rfl, trivial⟩ ⟨rfl, rfl⟩
  · replace hm := ifF hm hb10
    refine WJ.skip ?_
    refine PJ.next ?_
    refine WJ.seq ?_
    refine WJ.reg ?_
    refine SJ.q (YldS.yld (y_move rfl)) rfl ?_
    refine SJ.q (YldS.yld (y_move rfl)) rfl ?_
    obtain ⟨r11, h12, hm⟩ := bindS hm
    refine SJ.call Try.call125 rfl (fun w hw => ok_i_leastFrom h12 w ) rfl ?_
    rintro v13 _ ⟨_, vs14, rfl, rfl⟩
    refine SJ.inn_len 1 rfl fun hl15 => ?_
    obtain ⟨e16, h17, hm⟩ := bindS hm
    obtain ⟨y18, hy19⟩ := inn_idx hl15 h17
    refine SJ.q (YldS.yld (y_ixRow (k := 0) (R := fRaw1) rfl Try.runUnderlying145 Try.sizeOf144 rfl rfl hy19)) rfl ?_
    refine SJ.q (YldS.yld (y_loadR (k := 0) (i := (Int.toNat 0)) (off := 0) rfl Try.isAgg144 rfl (idx_get hy19) (raw_get y18))) rfl ?_
    obtain ⟨e20, h21, hm⟩ := bindS hm
    refine SJ.q (YldS.yld (y_ixG (R := fI64) (fun w hw => (hw.inn_rd (k := 1) rfl rfl hy19 h17)) Try.runUnderlying144 Try.sizeOf3 rfl rfl h21)) rfl ?_
    refine SJ.q (YldS.yld (y_loadG (R := fI64) (i := (Int.toNat 0)) (off := 0) (fun w hw => (hw.inn_rd (k := 1) rfl rfl hy19 h17)) Try.isAgg3 rfl (idx_get h21) rfl)) rfl ?_
    refine SJ.q (YldS.yld (y_assign rfl)) rfl ?_
    refine SJ.q (YldS.yld (y_assign rfl)) rfl ?_
    refine SJ.nil ?_
    refine PJ.next ?_
    refine WJ.ret ?_
    obtain rfl := Option.some.inj hm
    refine PJ.sel (L' := []) [] ⟨List.nodup_nil, rfl⟩ ?_
    exact PJ.retn (vs := [.int .i64 e20, .int .i64 0]) Try.results58 ⟨rfl, rfl, trivial⟩ ⟨rfl, rfl⟩

set_option maxRecDepth 100000 in
set_option maxHeartbeats 1000000 in
theorem ok_i_countByte {N : Nat} {s1 : Str} {b2 : UInt8} {r : Int} (hm : i_countByte N s1 b2 = some r) (w : World)  :
    Calls Try.prog 126 #[str s1, .int .u8 (UInt8.toNat b2 : Int)] w (Ret (cx w) (.int .i64 r)) := by
  unfold i_countByte at hm
  refine Calls.enter [str s1, .int .u8 (UInt8.toNat b2 : Int)] Try.func126 rfl Try.ntmps126 rfl ?_
  refine WJ.seq ?_
  refine WJ.quiet ?_
  refine QJ.step (YldS.yld (y_assign rfl)) rfl ?_
  refine QJ.done ?_
  refine PJ.next ?_
  refine WJ.seq ?_
  refine WJ.quiet ?_
  refine QJ.step (YldS.yld (y_assign rfl)) rfl ?_
  refine QJ.done ?_
  refine PJ.next ?_
  obtain ⟨kj4, hk5, hm⟩ := withK_open hm
  refine WJ.join (X := Int) (fun (x : Int) => kj4 x = some r) (fun (x : Int) => [(5, .int .i64 x)]) (fun (x : Int) => []) ?_ ?_
  · clear hk5
    refine WJ.seq ?_
    refine WJ.quiet ?_
    refine QJ.step (YldS.yld (y_move rfl)) rfl ?_
    refine QJ.step (YldS.yld (y_lenStr Try.runUnderlying9 rfl)) rfl ?_
    refine QJ.step (YldS.yld (y_move rfl)) rfl ?_
    refine QJ.done ?_
    refine PJ.next ?_
    refine WJ.block ?_
    refine WJ.sel (L' := (fun (x : Int × Int) => []) (0, 0)) [] ⟨List.nodup_nil, rfl⟩ ?_
    refine WJ.sub (m' := (fun (x : Int × Int) => [(0, str s1), (1, .int .u8 (UInt8.toNat b2 : Int)), (5, .int .i64 x.1), (8, .int .i64 (List.length s1 : Int)), (9, .int .i64 x.2)]) (0, 0)) ⟨rfl, rfl, rfl, rfl, rfl, trivial⟩ ?_
    refine WJ.loop (X := Int × Int) (fun N (x : Int × Int) => i_countByte_l1 kj4 s1 b2 N x.1 x.2 = some r) (fun (x : Int × Int) => [(0, str s1), (1, .int .u8 (UInt8.toNat b2 : Int)), (5, .int .i64 x.1), (8, .int .i64 (List.length s1 : Int)), (9, .int .i64 x.2)]) (fun (x : Int × Int) => []) ?_ N (0, 0) hm
    · rintro N ⟨n6, x7⟩ hI
      have hm := hI; clear hI
      cases N with
      | zero => cases hm
      | succ N =>
      unfold i_countByte_l1 at hm
      refine WJ.seq ?_
      refine WJ.quiet ?_
      refine QJ.step (YldS.yld (y_bin rfl rfl rfl)) rfl ?_
      refine QJ.done ?_
      refine PJ.next ?_
      refine WJ.seq ?_
      refine WJ.cond (t := decide (x7 < (List.length s1 : Int))) rfl (fun hb8 => ?_) (fun hb8 => ?_)
      · replace hm := ifT hm hb8
        refine WJ.skip ?_
        refine PJ.next ?_
        obtain ⟨kj10, hk11, hm⟩ := withK_open hm
        refine WJ.join (X := Int) (fun (x : Int) => kj10 x = some r) (fun (x : Int) => [(0, str s1), (1, .int .u8 (UInt8.toNat b2 : Int)), (5, .int .i64 x), (8, .int .i64 (List.length s1 : Int)), (9, .int .i64 x7)]) (fun (x : Int) => []) ?_ ?_
        · clear hk11
          refine WJ.block ?_
          refine WJ.seq ?_
          refine WJ.quiet ?_
          refine QJ.step (YldS.yld (y_move rfl)) rfl ?_
          refine QJ.step (YldS.yld (y_assign rfl)) rfl ?_
          refine QJ.done ?_
          refine PJ.next ?_
          refine WJ.seq ?_
          refine WJ.quiet ?_
          refine QJ.step (YldS.yld (y_move rfl)) rfl ?_
          refine QJ.step (YldS.yld (y_move rfl)) rfl ?_
          obtain ⟨c12, h13, hm⟩ := bindS hm
          refine QJ.step (YldS.yld (y_idxStr Try.runUnderlying9 rfl rfl h13)) rfl ?_
          refine QJ.step (YldS.yld (y_move rfl)) rfl ?_
          refine QJ.step (YldS.yld (y_bin8 c12 b2 rfl rfl rfl)) rfl ?_
          refine QJ.done ?_
          refine PJ.next ?_
          refine WJ.cond (t := (c12 == b2)) rfl (fun hb14 => ?_) (fun hb14 => ?_)
          · replace hm := ifT hm hb14
            refine WJ.quiet ?_
            refine QJ.step (YldS.yld (y_move rfl)) rfl ?_
            refine QJ.step (YldS.yld (y_bin rfl rfl rfl)) rfl ?_
            refine QJ.step (YldS.yld (y_assign rfl)) rfl ?_
            refine QJ.done ?_
            refine PJ.block_normal ?_
            exact PJ.joined (w64 (n6 + 1)) [] hm ⟨rfl, rfl, rfl, rfl, rfl, trivial⟩ ⟨List.nodup_nil, rfl⟩
          · replace hm := ifF hm hb14
            refine WJ.skip ?_
            refine PJ.block_normal ?_
            exact PJ.joined n6 [] hm ⟨rfl, rfl, rfl, rfl, rfl, trivial⟩ ⟨List.nodup_nil, rfl⟩
        · rintro n9 hm
          subst hk11
          refine WJ.quiet ?_
          refine QJ.step (YldS.yld (y_bin rfl rfl rfl)) rfl ?_
          refine QJ.step (YldS.yld (y_move rfl)) rfl ?_
          refine QJ.done ?_
          exact PJ.round (n9, w64 (x7 + 1)) [] hm ⟨rfl, rfl, rfl, rfl, rfl, trivial⟩ ⟨List.nodup_nil, rfl⟩
      · replace hm := ifF hm hb8
        refine WJ.exit ?_
        refine PJ.then_exit (PJ.then_exit (PJ.block_exit ?_))
        exact PJ.joined n6 [] hm ⟨rfl, trivial⟩ ⟨List.nodup_nil, rfl⟩
  · rintro n3 hm
    subst hk5
    refine WJ.seq ?_
    refine WJ.quiet ?_
    refine QJ.step (YldS.yld (y_move rfl)) rfl ?_
    refine QJ.step (YldS.yld (y_assign rfl)) rfl ?_
    refine QJ.done ?_
    refine PJ.next ?_
    refine WJ.ret ?_
    obtain rfl := Option.some.inj hm
    refine PJ.sel (L' := []) [] ⟨List.nodup_nil, rfl⟩ ?_
    exact PJ.retn (vs := [.int .i64 n3]) Try.results126 ⟨rfl, trivial⟩ ⟨rfl, rfl⟩

set_option maxRecDepth 100000 in
set_option maxHeartbeats 1000000 in
theorem ok_i_ErrorsIn {N : Nat} {steps1 : Str} {r : (List Int) × Int} (hm : i_ErrorsIn N steps1 = some r) (w : World)  :
    Calls Try.prog 59 #[str steps1] w (RetG (cx w) fun u L => ∃ (u1 : Value), (u = tup [u1, .int .i64 r.2] ∧ L = [row u1 2 fI64 r.1])) := by
  unfold i_ErrorsIn at hm
  refine Calls.enter [str steps1] Try.func59 rfl Try.ntmps59 rfl ?_
  refine WJ.seq ?_
  refine WJ.quiet ?_
  refine QJ.step (YldS.yld (y_assign rfl)) rfl ?_
  refine QJ.step (YldS.yld (y_assign rfl)) rfl ?_
  refine QJ.done ?_
  refine PJ.next ?_
  refine WJ.seq ?_
  refine WJ.seq ?_
  refine WJ.quiet ?_
  refine QJ.step (YldS.yld (y_move rfl)) rfl ?_
  obtain ⟨r2, h3, hm⟩ := bindS hm
  refine QJ.step (y_call Try.call123 rfl (RetG.quiet fun w hw => ok_i_areSteps h3 w )) rfl ?_
  refine QJ.step (YldS.yld (y_not rfl)) rfl ?_
  refine QJ.done ?_
  refine PJ.next ?_
  refine WJ.cond (t := !r2) rfl (fun hb4 => ?_) (fun hb4 => ?_)
  · replace hm := ifT hm hb4
    refine WJ.seq ?_
    refine WJ.quiet ?_
    refine QJ.step (YldS.yld (y_assign rfl)) rfl ?_
    refine QJ.step (YldS.yld (y_assign rfl)) rfl ?_
    refine QJ.done ?_
    refine PJ.next ?_
    refine WJ.ret ?_
    refine PJ.then_ret ?_
    refine PJ.nil_row 2 fI64 ?_
    obtain rfl := Option.some.inj hm
    refine PJ.sel (L' := [row (.slice none 0 0) 2 fI64 []]) [0] ⟨by decide, rfl⟩ ?_
    exact PJ.retn (vs := [(.slice none 0 0), .int .i64 7]) Try.results59 ⟨rfl, rfl, trivial⟩ ⟨_, rfl, rfl⟩
  · replace hm := ifF hm hb4
    refine WJ.skip ?_
    refine PJ.next ?_
    refine WJ.seq ?_
    refine WJ.reg ?_
    refine SJ.buildSlice (R := fI64) (os := []) [] Try.runUnderlying25 Try.sizeOf2 Try.zeroValue2 rfl rfl rfl rfl rfl rfl fun v5 => ?_
    refine SJ.q (YldS.yld (y_assign rfl)) rfl ?_
    refine SJ.nil ?_
    refine PJ.next ?_
    obtain ⟨kj8, hk9, hm⟩ := withK_open hm
    refine WJ.join (X := (List Int) × Value) (fun (x : (List Int) × Value) => kj8 x.1 = some r) (fun (x : (List Int) × Value) => [(4, x.2)]) (fun (x : (List Int) × Value) => [row x.2 2 fI64 x.1]) ?_ ?_
    · clear hk9
      refine WJ.seq ?_
      refine WJ.reg ?_
      refine SJ.buildSlice (R := fByte) (os := [.const (.int .u8 (UInt8.toNat 43 : Int)), .const (.int .u8 (UInt8.toNat 45 : Int)), .const (.int .u8 (UInt8.toNat 120 : Int)), .const (.int .u8 (UInt8.toNat 126 : Int))]) [43, 45, 120, 126] Try.runUnderlying22 Try.sizeOf5 Try.zeroValue5 rfl rfl rfl rfl rfl rfl fun v10 => ?_
      refine SJ.convMark (k := 0) rfl Try.underlying22 Try.underlying5 rfl rfl ?_
      refine SJ.q (YldS.yld (y_lenRowM (k := 0) rfl Try.runUnderlying22 rfl)) rfl ?_
      refine SJ.q (YldS.yld (y_move rfl)) rfl ?_
      refine SJ.nil ?_
      refine PJ.next ?_
      refine WJ.block ?_
      refine WJ.sel (L' := (fun (x : (List Int) × Value × Int) => [rowM v10 5 fByte [43, 45, 120, 126], row x.2.1 2 fI64 x.1]) ([], v5, 0)) [0, 1] ⟨by decide, rfl⟩ ?_
      refine WJ.sub (m' := (fun (x : (List Int) × Value × Int) => [(0, str steps1), (4, x.2.1), (12, v10), (13, .int .i64 (List.length [43, 45, 120, 126] : Int)), (14, .int .i64 x.2.2)]) ([], v5, 0)) ⟨rfl, rfl, rfl, rfl, rfl, trivial⟩ ?_
      refine WJ.loop (X := (List Int) × Value × Int) (fun N (x : (List Int) × Value × Int) => i_ErrorsIn_l1 kj8 steps1 N x.1 x.2.2 = some r) (fun (x : (List Int) × Value × Int) => [(0, str steps1), (4, x.2.1), (12, v10), (13, .int .i64 (List.length [43, 45, 120, 126] : Int)), (14, .int .i64 x.2.2)]) (fun (x : (List Int) × Value × Int) => [rowM v10 5 fByte [43, 45, 120, 126], row x.2.1 2 fI64 x.1]) ?_ N ([], v5, 0) hm
      · rintro N ⟨l11, v12, x13⟩ hI
        have hm := hI; clear hI
        cases N with
        | zero => cases hm
        | succ N =>
        unfold i_ErrorsIn_l1 at hm
        refine WJ.seq ?_
        refine WJ.quiet ?_
        refine QJ.step (YldS.yld (y_bin rfl rfl rfl)) rfl ?_
        refine QJ.done ?_
        refine PJ.next ?_
        refine WJ.seq ?_
        refine WJ.cond (t := decide (x13 < (List.length [43, 45, 120, 126] : Int))) rfl (fun hb14 => ?_) (fun hb14 => ?_)
        · replace hm := ifT hm hb14
          refine WJ.skip ?_
          refine PJ.next ?_
          refine WJ.seq ?_
          refine WJ.block ?_
          refine WJ.seq ?_
          refine WJ.quiet ?_
          obtain ⟨e15, h16, hm⟩ := bindS hm
          refine QJ.step (YldS.yld (y_ixRowM (k := 0) (R := fByte) rfl Try.runUnderlying22 Try.sizeOf5 rfl rfl h16)) rfl ?_
          refine QJ.step (YldS.yld (y_loadRM (k := 0) (i := (Int.toNat x13)) (off := 0) (u := .int .u8 (UInt8.toNat e15 : Int)) rfl Try.isAgg5 rfl (idx_get h16) rfl)) rfl ?_
          refine QJ.step (YldS.yld (y_assign rfl)) rfl ?_
          refine QJ.done ?_
          refine PJ.next ?_
          refine WJ.reg ?_
          refine SJ.q (YldS.yld (y_move rfl)) rfl ?_
          refine SJ.q (YldS.yld (y_move rfl)) rfl ?_
          refine SJ.q (YldS.yld (y_move rfl)) rfl ?_
          obtain ⟨r17, h18, hm⟩ := bindS hm
          refine SJ.q (y_call Try.call126 rfl (RetG.quiet fun w hw => ok_i_countByte h18 w )) rfl ?_
          refine SJ.buildSlice (R := fI64) (os := [.tmp 21]) [r17] Try.runUnderlying25 Try.sizeOf2 Try.zeroValue2 rfl rfl rfl rfl rfl rfl fun v19 => ?_
          obtain ⟨l20, h21, hm⟩ := bindS hm
          refine SJ.append (k := 2) (R := fI64) h21 rfl Try.underlying25 el2 rfl rfl rfl (fun w hw => (hw.row_rd (k := 0) rfl)) rfl fun v22 => ?_
          refine SJ.q (YldS.yld (y_assign rfl)) rfl ?_
          refine SJ.nil ?_
          refine PJ.block_normal (PJ.next ?_)
          refine WJ.quiet ?_
          refine QJ.step (YldS.yld (y_bin rfl rfl rfl)) rfl ?_
          refine QJ.step (YldS.yld (y_move rfl)) rfl ?_
          refine QJ.done ?_
          exact PJ.round (l20, v22, w64 (x13 + 1)) [1, 2] hm ⟨rfl, rfl, rfl, rfl, rfl, trivial⟩ ⟨by decide, rfl⟩
        · replace hm := ifF hm hb14
          refine WJ.exit ?_
          refine PJ.then_exit (PJ.then_exit (PJ.block_exit ?_))
          exact PJ.joined (l11, v12) [1] hm ⟨rfl, trivial⟩ ⟨by decide, rfl⟩
    · rintro ⟨l6, v7⟩ hm
      subst hk9
      refine WJ.seq ?_
      refine WJ.quiet ?_
      refine QJ.step (YldS.yld (y_move rfl)) rfl ?_
      refine QJ.step (YldS.yld (y_assign rfl)) rfl ?_
      refine QJ.step (YldS.yld (y_assign rfl)) rfl ?_
      refine QJ.done ?_
      refine PJ.next ?_
      refine WJ.ret ?_
      obtain rfl := Option.some.inj hm
      refine PJ.sel (L' := [row v7 2 fI64 l6]) [0] ⟨by decide, rfl⟩ ?_
      exact PJ.retn (vs := [v7, .int .i64 0]) Try.results59 ⟨rfl, rfl, trivial⟩ ⟨_, rfl, rfl⟩

set_option maxRecDepth 100000 in
set_option maxHeartbeats 1000000 in
theorem ok_w_a2Sum {N : Nat} {list1 : List Int} {r : Int} (hm : w_a2Sum N list1 = some r) (w : World) (v2 : Value) (hr3 : RdS w (cx w).Fz v2 fI64.rp list1) :
    Calls Try.prog 60 #[v2] w (Ret (cx w) (.int .i64 r)) := by
  unfold w_a2Sum at hm
  refine Calls.enter [v2] Try.func60 rfl Try.ntmps60 rfl ?_
  refine WJ.seq ?_
  refine WJ.quiet ?_
  refine QJ.step (YldS.yld (y_assign rfl)) rfl ?_
  refine QJ.done ?_
  refine PJ.next ?_
  refine WJ.seq ?_
  refine WJ.quiet ?_
  refine QJ.step (YldS.yld (y_assign rfl)) rfl ?_
  refine QJ.done ?_
  refine PJ.next ?_
  obtain ⟨kj5, hk6, hm⟩ := withK_open hm
  refine WJ.join (X := Int) (fun (x : Int) => kj5 x = some r) (fun (x : Int) => [(3, .int .i64 x)]) (fun (x : Int) => []) ?_ ?_
  · clear hk6
    refine WJ.seq ?_
    refine WJ.quiet ?_
    refine QJ.step (YldS.yld (y_assign rfl)) rfl ?_
    refine QJ.done ?_
    refine PJ.next ?_
    refine WJ.block ?_
    refine WJ.sel (L' := (fun (x : Int × Int) => []) (0, 0)) [] ⟨List.nodup_nil, rfl⟩ ?_
    refine WJ.sub (m' := (fun (x : Int × Int) => [(0, v2), (3, .int .i64 x.1), (4, .int .i64 x.2)]) (0, 0)) ⟨rfl, rfl, rfl, trivial⟩ ?_
    refine WJ.loop (X := Int × Int) (fun N (x : Int × Int) => w_a2Sum_l1 kj5 list1 N x.1 x.2 = some r) (fun (x : Int × Int) => [(0, v2), (3, .int .i64 x.1), (4, .int .i64 x.2)]) (fun (x : Int × Int) => []) ?_ N (0, 0) hm
    · rintro N ⟨sum7, i8⟩ hI
      have hm := hI; clear hI
      cases N with
      | zero => cases hm
      | succ N =>
      unfold w_a2Sum_l1 at hm
      refine WJ.seq ?_
      refine WJ.seq ?_
      refine WJ.quiet ?_
      refine QJ.step (YldS.yld (y_move rfl)) rfl ?_
      refine QJ.step (YldS.yld (y_move rfl)) rfl ?_
      refine QJ.step (YldS.yld (y_lenS Try.runUnderlying25 hr3 rfl)) rfl ?_
      refine QJ.step (YldS.yld (y_bin rfl rfl rfl)) rfl ?_
      refine QJ.done ?_
      refine PJ.next ?_
      refine WJ.cond (t := decide (i8 < (List.length list1 : Int))) rfl (fun hb9 => ?_) (fun hb9 => ?_)
      · replace hm := ifT hm hb9
        refine WJ.skip ?_
        refine PJ.next ?_
        refine WJ.seq ?_
        refine WJ.block ?_
        refine WJ.quiet ?_
        refine QJ.step (YldS.yld (y_move rfl)) rfl ?_
        refine QJ.step (YldS.yld (y_move rfl)) rfl ?_
        refine QJ.step (YldS.yld (y_move rfl)) rfl ?_
        obtain ⟨e10, h11, hm⟩ := bindS hm
        obtain ⟨ad12, _, rfl, ha13, hy14⟩ := hr3.elem h11
        refine QJ.step (YldS.yld (hy14 Try.runUnderlying25 Try.sizeOf2 rfl rfl)) rfl ?_
        refine QJ.step (YldS.yld (y_load1 (v := .int .i64 e10) Try.isAgg2 ha13 St.frozenC rfl)) rfl ?_
        refine QJ.step (YldS.yld (y_bin rfl rfl rfl)) rfl ?_
        refine QJ.step (YldS.yld (y_assign rfl)) rfl ?_
        refine QJ.done ?_
        refine PJ.block_normal (PJ.next ?_)
        refine WJ.quiet ?_
        refine QJ.step (YldS.yld (y_move rfl)) rfl ?_
        refine QJ.step (YldS.yld (y_bin rfl rfl rfl)) rfl ?_
        refine QJ.step (YldS.yld (y_assign rfl)) rfl ?_
        refine QJ.done ?_
        exact PJ.round (w64 (sum7 + e10), w64 (i8 + 1)) [] hm ⟨rfl, rfl, rfl, trivial⟩ ⟨List.nodup_nil, rfl⟩
      · replace hm := ifF hm hb9
        refine WJ.exit ?_
        refine PJ.then_exit (PJ.then_exit (PJ.block_exit ?_))
        exact PJ.joined sum7 [] hm ⟨rfl, trivial⟩ ⟨List.nodup_nil, rfl⟩
  · rintro sum4 hm
    subst hk6
    refine WJ.seq ?_
    refine WJ.quiet ?_
    refine QJ.step (YldS.yld (y_move rfl)) rfl ?_
    refine QJ.step (YldS.yld (y_assign rfl)) rfl ?_
    refine QJ.done ?_
    refine PJ.next ?_
    refine WJ.ret ?_
    obtain rfl := Option.some.inj hm
    refine PJ.sel (L' := []) [] ⟨List.nodup_nil, rfl⟩ ?_
    exact PJ.retn (vs := [.int .i64 sum4]) Try.results60 ⟨rfl, trivial⟩ ⟨rfl, rfl⟩

set_option maxRecDepth 100000 in
set_option maxHeartbeats 1000000 in
theorem ok_w_a2Straight {N : Nat} {a1 : Str} {b2 : Str} {r : Int} (hm : w_a2Straight N a1 b2 = some r) (w : World)  :
    Calls Try.prog 61 #[str a1, str b2] w (Ret (cx w) (.int .i64 r)) := by
  unfold w_a2Straight at hm
  refine Calls.enter [str a1, str b2] Try.func61 rfl Try.ntmps61 rfl ?_
  refine WJ.seq ?_
  refine WJ.quiet ?_
  refine QJ.step (YldS.yld (y_assign rfl)) rfl ?_
  refine QJ.done ?_
  refine PJ.next ?_
  refine WJ.seq ?_
  refine WJ.quiet ?_
  refine QJ.step (YldS.yld (y_assign rfl)) rfl ?_
  refine QJ.done ?_
  refine PJ.next ?_
  obtain ⟨kj4, hk5, hm⟩ := withK_open hm
  refine WJ.join (X := Int) (fun (x : Int) => kj4 x = some r) (fun (x : Int) => [(5, .int .i64 x)]) (fun (x : Int) => []) ?_ ?_
  · clear hk5
    refine WJ.seq ?_
    refine WJ.quiet ?_
    refine QJ.step (YldS.yld (y_assign rfl)) rfl ?_
    refine QJ.done ?_
    refine PJ.next ?_
    refine WJ.block ?_
    refine WJ.sel (L' := (fun (x : Int × Int) => []) (0, 0)) [] ⟨List.nodup_nil, rfl⟩ ?_
    refine WJ.sub (m' := (fun (x : Int × Int) => [(0, str a1), (1, str b2), (5, .int .i64 x.1), (6, .int .i64 x.2)]) (0, 0)) ⟨rfl, rfl, rfl, rfl, trivial⟩ ?_
    refine WJ.loop (X := Int × Int) (fun N (x : Int × Int) => w_a2Straight_l1 kj4 a1 b2 N x.1 x.2 = some r) (fun (x : Int × Int) => [(0, str a1), (1, str b2), (5, .int .i64 x.1), (6, .int .i64 x.2)]) (fun (x : Int × Int) => []) ?_ N (0, 0) hm
    · rintro N ⟨n6, i7⟩ hI
      have hm := hI; clear hI
      cases N with
      | zero => cases hm
      | succ N =>
      unfold w_a2Straight_l1 at hm
      refine WJ.seq ?_
      refine WJ.seq ?_
      refine WJ.quiet ?_
      refine QJ.step (YldS.yld (y_move rfl)) rfl ?_
      refine QJ.step (YldS.yld (y_move rfl)) rfl ?_
      refine QJ.step (YldS.yld (y_lenStr Try.runUnderlying9 rfl)) rfl ?_
      refine QJ.step (YldS.yld (y_bin rfl rfl rfl)) rfl ?_
      refine QJ.step (YldS.yld (y_move rfl)) rfl ?_
      obtain ⟨t8, h9, hm⟩ := bindS hm
      refine QJ.cut 5 [(0, str a1), (1, str b2), (5, .int .i64 n6), (6, .int .i64 i7), (16, .bool t8)] ?_ ?_
      · rcases Bool.eq_false_or_eq_true (decide (i7 < (List.length a1 : Int))) with hb10 | hb10
        · obtain rfl := orT h9 hb10
          refine QJ.off rfl rfl (cB hb10) rfl rfl ?_
          refine QJ.off rfl rfl (cB hb10) rfl rfl ?_
          refine QJ.off rfl rfl (cB hb10) rfl rfl ?_
          refine QJ.off rfl rfl (cB hb10) rfl rfl ?_
          refine QJ.step (YldS.yld (y_pick_t (cB hb10) rfl)) rfl ?_
          exact QJ.cut_end ⟨rfl, rfl, rfl, rfl, rfl, trivial⟩
        · replace h9 := orF h9 hb10
          refine QJ.on rfl rfl (cB hb10) (YldS.yld (y_move rfl)) rfl ?_
          refine QJ.on rfl rfl (cB hb10) (YldS.yld (y_move rfl)) rfl ?_
          refine QJ.on rfl rfl (cB hb10) (YldS.yld (y_lenStr Try.runUnderlying9 rfl)) rfl ?_
          refine QJ.on rfl rfl (cB hb10) (YldS.yld (y_bin rfl rfl rfl)) rfl ?_
          refine QJ.step (YldS.yld (y_pick_f (cB hb10) rfl)) rfl ?_
          obtain rfl := Option.some.inj h9
          exact QJ.cut_end ⟨rfl, rfl, rfl, rfl, rfl, trivial⟩
      refine QJ.done ?_
      refine PJ.next ?_
      refine WJ.cond (t := t8) rfl (fun hb11 => ?_) (fun hb11 => ?_)
      · replace hm := ifT hm hb11
        refine WJ.skip ?_
        refine PJ.next ?_
        obtain ⟨kj13, hk14, hm⟩ := withK_open hm
        refine WJ.join (X := Int) (fun (x : Int) => kj13 x = some r) (fun (x : Int) => [(0, str a1), (1, str b2), (5, .int .i64 x), (6, .int .i64 i7)]) (fun (x : Int) => []) ?_ ?_
        · clear hk14
          refine WJ.block ?_
          refine WJ.seq ?_
          refine WJ.quiet_draw follows (by kernel_rfl) ?_
          refine QJ.step (YldS.yld (y_move rfl)) rfl ?_
          refine QJ.step (YldS.yld (y_move rfl)) rfl ?_
          refine QJ.step (YldS.yld (y_lenStr Try.runUnderlying9 rfl)) rfl ?_
          refine QJ.step (YldS.yld (y_bin rfl rfl rfl)) rfl ?_
          refine QJ.step (YldS.yld (y_move rfl)) rfl ?_
          obtain ⟨t15, h16, hm⟩ := bindS hm
          refine QJ.cut 5 [(0, str a1), (1, str b2), (5, .int .i64 n6), (6, .int .i64 i7), (28, .bool t15)] ?_ ?_
          · rcases Bool.eq_false_or_eq_true (decide (i7 ≥ (List.length a1 : Int))) with hb17 | hb17
            · obtain rfl := orT h16 hb17
              refine QJ.off rfl rfl (cB hb17) rfl rfl ?_
              refine QJ.off rfl rfl (cB hb17) rfl rfl ?_
              refine QJ.off rfl rfl (cB hb17) rfl rfl ?_
              refine QJ.off rfl rfl (cB hb17) rfl rfl ?_
              refine QJ.step (YldS.yld (y_pick_t (cB hb17) rfl)) rfl ?_
              exact QJ.cut_end ⟨rfl, rfl, rfl, rfl, rfl, trivial⟩
            · replace h16 := orF h16 hb17
              refine QJ.on rfl rfl (cB hb17) (YldS.yld (y_move rfl)) rfl ?_
              refine QJ.on rfl rfl (cB hb17) (YldS.yld (y_move rfl)) rfl ?_
              refine QJ.on rfl rfl (cB hb17) (YldS.yld (y_lenStr Try.runUnderlying9 rfl)) rfl ?_
              refine QJ.on rfl rfl (cB hb17) (YldS.yld (y_bin rfl rfl rfl)) rfl ?_
              refine QJ.step (YldS.yld (y_pick_f (cB hb17) rfl)) rfl ?_
              obtain rfl := Option.some.inj h16
              exact QJ.cut_end ⟨rfl, rfl, rfl, rfl, rfl, trivial⟩
          refine QJ.step (YldS.yld (y_move rfl)) rfl ?_
          obtain ⟨t18, h19, hm⟩ := bindS hm
          refine QJ.cut 8 [(0, str a1), (1, str b2), (5, .int .i64 n6), (6, .int .i64 i7), (37, .bool t18)] ?_ ?_
          · rcases Bool.eq_false_or_eq_true t15 with hb20 | hb20
            · obtain rfl := orT h19 hb20
              refine QJ.off rfl rfl (cB hb20) rfl rfl ?_
              refine QJ.off rfl rfl (cB hb20) rfl rfl ?_
              refine QJ.off rfl rfl (cB hb20) rfl rfl ?_
              refine QJ.off rfl rfl (cB hb20) rfl rfl ?_
              refine QJ.off rfl rfl (cB hb20) rfl rfl ?_
              refine QJ.off rfl rfl (cB hb20) rfl rfl ?_
              refine QJ.off rfl rfl (cB hb20) rfl rfl ?_
              refine QJ.step (YldS.yld (y_pick_t (cB hb20) rfl)) rfl ?_
              exact QJ.cut_end ⟨rfl, rfl, rfl, rfl, rfl, trivial⟩
            · replace h19 := orF h19 hb20
              refine QJ.on rfl rfl (cB hb20) (YldS.yld (y_move rfl)) rfl ?_
              refine QJ.on rfl rfl (cB hb20) (YldS.yld (y_move rfl)) rfl ?_
              obtain ⟨c21, h22, h19⟩ := bindS h19
              refine QJ.on rfl rfl (cB hb20) (YldS.yld (y_idxStr Try.runUnderlying9 rfl rfl h22)) rfl ?_
              refine QJ.on rfl rfl (cB hb20) (YldS.yld (y_move rfl)) rfl ?_
              refine QJ.on rfl rfl (cB hb20) (YldS.yld (y_move rfl)) rfl ?_
              obtain ⟨c23, h24, h19⟩ := bindS h19
              refine QJ.on rfl rfl (cB hb20) (YldS.yld (y_idxStr Try.runUnderlying9 rfl rfl h24)) rfl ?_
              refine QJ.on rfl rfl (cB hb20) (YldS.yld (y_bin8 c21 c23 rfl rfl rfl)) rfl ?_
              refine QJ.step (YldS.yld (y_pick_f (cB hb20) rfl)) rfl ?_
              obtain rfl := Option.some.inj h19
              exact QJ.cut_end ⟨rfl, rfl, rfl, rfl, rfl, trivial⟩
          refine QJ.done ?_
          refine PJ.next ?_
          refine WJ.cond (t := t18) rfl (fun hb25 => ?_) (fun hb25 => ?_)
          · replace hm := ifT hm hb25
            refine WJ.quiet ?_
            refine QJ.step (YldS.yld (y_move rfl)) rfl ?_
            refine QJ.step (YldS.yld (y_bin rfl rfl rfl)) rfl ?_
            refine QJ.step (YldS.yld (y_assign rfl)) rfl ?_
            refine QJ.done ?_
            refine PJ.block_normal ?_
            exact PJ.joined (w64 (n6 + 1)) [] hm ⟨rfl, rfl, rfl, rfl, trivial⟩ ⟨List.nodup_nil, rfl⟩
          · replace hm := ifF hm hb25
            refine WJ.skip ?_
            refine PJ.block_normal ?_
            exact PJ.joined n6 [] hm ⟨rfl, rfl, rfl, rfl, trivial⟩ ⟨List.nodup_nil, rfl⟩
        · rintro n12 hm
          subst hk14
          refine WJ.quiet ?_
          refine QJ.step (YldS.yld (y_move rfl)) rfl ?_
          refine QJ.step (YldS.yld (y_bin rfl rfl rfl)) rfl ?_
          refine QJ.step (YldS.yld (y_assign rfl)) rfl ?_
          refine QJ.done ?_
          exact PJ.round (n12, w64 (i7 + 1)) [] hm ⟨rfl, rfl, rfl, rfl, trivial⟩ ⟨List.nodup_nil, rfl⟩
      · replace hm := ifF hm hb11
        refine WJ.exit ?_
        refine PJ.then_exit (PJ.then_exit (PJ.block_exit ?_))
        exact PJ.joined n6 [] hm ⟨rfl, trivial⟩ ⟨List.nodup_nil, rfl⟩
  · rintro n3 hm
    subst hk5
    refine WJ.seq ?_
    refine WJ.quiet ?_
    refine QJ.step (YldS.yld (y_move rfl)) rfl ?_
    refine QJ.step (YldS.yld (y_assign rfl)) rfl ?_
    refine QJ.done ?_
    refine PJ.next ?_
    refine WJ.ret ?_
    obtain rfl := Option.some.inj hm
    refine PJ.sel (L' := []) [] ⟨List.nodup_nil, rfl⟩ ?_
    exact PJ.retn (vs := [.int .i64 n3]) Try.results61 ⟨rfl, trivial⟩ ⟨rfl, rfl⟩

end Go.Proofs.Ythpdpfagfkopnaa
