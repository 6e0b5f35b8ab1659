/-
  The walks: a call hands back what its plain function computes, where that has a value. No other conditions.
-/
import Derived.Test.YthkckgiicchpnaaFnDeadKeysW
import Derived.Test.YthkckgiicchpnaaChecked
namespace Go.Proofs.Ythkckgiicchpnaa
open Go.RowKit Go.Proofs
set_option linter.unusedVariables false
set_option linter.unusedSimpArgs false

set_option maxRecDepth 100000 in
set_option maxHeartbeats 1000000 in
theorem ok_i_ValidKeys {N : Nat} {keys1 : List Key} {accents4 : List Accent} {r : Bool} (hm : i_ValidKeys N keys1 accents4 = some r) (w : World) (v2 : Value) (hr3 : RdS w (cx w).Fz v2 fKey.rp keys1) (v5 : Value) (hr6 : RdS w (cx w).Fz v5 fAccent.rp accents4) :
    Calls Try.prog 67 #[v2, v5] w (Ret (cx w) (.bool r)) := by
  unfold i_ValidKeys at hm
  refine Calls.enter [v2, v5] Try.func67 rfl Try.ntmps67 rfl ?_
  refine WJ.seq ?_
  refine WJ.quiet ?_
  refine QJ.step (YldS.yld (y_assign rfl)) rfl ?_
  refine QJ.done ?_
  refine PJ.next ?_
  refine WJ.seq ?_
  refine WJ.seq ?_
  refine WJ.quiet ?_
  refine QJ.step (YldS.yld (y_move rfl)) rfl ?_
  refine QJ.step (YldS.yld (y_lenS Try.runUnderlying24 hr3 rfl)) rfl ?_
  refine QJ.step (YldS.yld (y_bin rfl rfl rfl)) rfl ?_
  refine QJ.step (YldS.yld (y_move rfl)) rfl ?_
  obtain ⟨t7, h8, hm⟩ := bindS hm
  refine QJ.cut 4 [(0, v2), (1, v5), (22, .bool t7)] ?_ ?_
  · rcases Bool.eq_false_or_eq_true (decide ((List.length keys1 : Int) > 40)) with hb9 | hb9
    · obtain rfl := orT h8 hb9
      refine QJ.off rfl rfl (cB hb9) rfl rfl ?_
      refine QJ.off rfl rfl (cB hb9) rfl rfl ?_
      refine QJ.off rfl rfl (cB hb9) rfl rfl ?_
      refine QJ.step (YldS.yld (y_pick_t (cB hb9) rfl)) rfl ?_
      exact QJ.cut_end ⟨rfl, rfl, rfl, trivial⟩
    · replace h8 := orF h8 hb9
      refine QJ.on rfl rfl (cB hb9) (YldS.yld (y_move rfl)) rfl ?_
      refine QJ.on rfl rfl (cB hb9) (YldS.yld (y_lenS Try.runUnderlying25 hr6 rfl)) rfl ?_
      refine QJ.on rfl rfl (cB hb9) (YldS.yld (y_bin rfl rfl rfl)) rfl ?_
      refine QJ.step (YldS.yld (y_pick_f (cB hb9) rfl)) rfl ?_
      obtain rfl := Option.some.inj h8
      exact QJ.cut_end ⟨rfl, rfl, rfl, trivial⟩
  refine QJ.done ?_
  refine PJ.next ?_
  refine WJ.cond (t := t7) rfl (fun hb10 => ?_) (fun hb10 => ?_)
  · replace hm := ifT hm hb10
    refine WJ.seq ?_
    refine WJ.quiet ?_
    refine QJ.step (YldS.yld (y_assign rfl)) rfl ?_
    refine QJ.done ?_
    refine PJ.next ?_
    refine WJ.ret ?_
    refine PJ.then_ret ?_
    obtain rfl := Option.some.inj hm
    refine PJ.sel (L' := []) [] ⟨List.nodup_nil, rfl⟩ ?_
    exact PJ.retn (vs := [.bool false]) Try.results67 ⟨rfl, trivial⟩ ⟨rfl, rfl⟩
  · replace hm := ifF hm hb10
    refine WJ.skip ?_
    refine PJ.next ?_
    refine WJ.seq ?_
    refine WJ.reg ?_
    refine SJ.makeMap rfl fun g11 => ?_
    refine SJ.q (YldS.yld (y_assign rfl)) rfl ?_
    refine SJ.nil ?_
    refine PJ.next ?_
    refine WJ.seq ?_
    refine WJ.reg ?_
    refine SJ.makeMap rfl fun g12 => ?_
    refine SJ.q (YldS.yld (y_assign rfl)) rfl ?_
    refine SJ.nil ?_
    refine PJ.next ?_
    obtain ⟨kj15, hk16, hm⟩ := withK_open hm
    refine WJ.join (X := (List (Str × Bool)) × (List (Str × Bool))) (fun (x : (List (Str × Bool)) × (List (Str × Bool))) => kj15 x.1 x.2 = some r) (fun (x : (List (Str × Bool)) × (List (Str × Bool))) => [(1, v5), (5, .map (some g11)), (6, .map (some g12))]) (fun (x : (List (Str × Bool)) × (List (Str × Bool))) => [mp g12 x.1, mp g11 x.2]) ?_ ?_
    · clear hk16
      refine WJ.seq ?_
      refine WJ.quiet ?_
      refine QJ.step (YldS.yld (y_move rfl)) rfl ?_
      refine QJ.step (YldS.yld (y_lenS Try.runUnderlying24 hr3 rfl)) rfl ?_
      refine QJ.step (YldS.yld (y_move rfl)) rfl ?_
      refine QJ.done ?_
      refine PJ.next ?_
      refine WJ.block ?_
      refine WJ.sel (L' := (fun (x : (List (Str × Bool)) × (List (Str × Bool)) × Int) => [mp g12 x.1, mp g11 x.2.1]) ([], [], 0)) [0, 1] ⟨by decide, rfl⟩ ?_
      refine WJ.sub (m' := (fun (x : (List (Str × Bool)) × (List (Str × Bool)) × Int) => [(1, v5), (5, .map (some g11)), (6, .map (some g12)), (25, v2), (26, .int .i64 (List.length keys1 : Int)), (27, .int .i64 x.2.2)]) ([], [], 0)) ⟨rfl, rfl, rfl, rfl, rfl, rfl, trivial⟩ ?_
      refine WJ.loop (X := (List (Str × Bool)) × (List (Str × Bool)) × Int) (fun N (x : (List (Str × Bool)) × (List (Str × Bool)) × Int) => i_ValidKeys_l1 kj15 keys1 N x.1 x.2.1 x.2.2 = some r) (fun (x : (List (Str × Bool)) × (List (Str × Bool)) × Int) => [(1, v5), (5, .map (some g11)), (6, .map (some g12)), (25, v2), (26, .int .i64 (List.length keys1 : Int)), (27, .int .i64 x.2.2)]) (fun (x : (List (Str × Bool)) × (List (Str × Bool)) × Int) => [mp g12 x.1, mp g11 x.2.1]) ?_ N ([], [], 0) hm
      · rintro N ⟨mp17, mp18, x19⟩ hI
        have hm := hI; clear hI
        cases N with
        | zero => cases hm
        | succ N =>
        unfold i_ValidKeys_l1 at hm
        refine WJ.seq ?_
        refine WJ.quiet ?_
        refine QJ.step (YldS.yld (y_bin rfl rfl rfl)) rfl ?_
        refine QJ.done ?_
        refine PJ.next ?_
        refine WJ.seq ?_
        refine WJ.cond (t := decide (x19 < (List.length keys1 : Int))) rfl (fun hb20 => ?_) (fun hb20 => ?_)
        · replace hm := ifT hm hb20
          refine WJ.skip ?_
          refine PJ.next ?_
          obtain ⟨kj23, hk24, hm⟩ := withK_open hm
          refine WJ.join (X := (List (Str × Bool)) × (List (Str × Bool))) (fun (x : (List (Str × Bool)) × (List (Str × Bool))) => kj23 x.1 x.2 = some r) (fun (x : (List (Str × Bool)) × (List (Str × Bool))) => [(1, v5), (5, .map (some g11)), (6, .map (some g12)), (25, v2), (26, .int .i64 (List.length keys1 : Int)), (27, .int .i64 x19)]) (fun (x : (List (Str × Bool)) × (List (Str × Bool))) => [mp g12 x.1, mp g11 x.2]) ?_ ?_
          · clear hk24
            refine WJ.block ?_
            refine WJ.seq ?_
            refine WJ.reg ?_
            obtain ⟨e25, h26, hm⟩ := bindS hm
            obtain ⟨ad27, _, rfl, ha28, hy29⟩ := hr3.elem h26
            refine SJ.q (YldS.yld (hy29 Try.runUnderlying24 Try.sizeOf41 rfl rfl)) rfl ?_
            refine SJ.q (YldS.yld (y_loadN Try.isAgg41 Try.sizeOf41 rfl ha28 St.frozenC rfl)) rfl ?_
            refine SJ.alloc (cs := [str [], str [], .bool false]) Try.zeroValue41 rfl rfl fun g30 => ?_
            refine SJ.storeL (k := 0) (off := 0) (us := [str e25.low, str e25.high, .bool e25.dead]) rfl rfl rfl rfl Try.sizeOf41 rfl rfl ?_
            refine SJ.nil ?_
            refine PJ.next ?_
            refine WJ.seq ?_
            refine WJ.reg ?_
            refine SJ.q (YldS.yld (y_fldB (o := 0) fld41_0 rfl)) rfl ?_
            refine SJ.q (YldS.yld (y_loadB (k := 0) (off := 0) (v := str e25.low) rfl Try.isAgg9 rfl rfl)) rfl ?_
            refine SJ.q (YldS.yld (y_fldB (o := 0) fld41_1 rfl)) rfl ?_
            refine SJ.q (YldS.yld (y_loadB (k := 0) (off := 1) (v := str e25.high) rfl Try.isAgg9 rfl rfl)) rfl ?_
            refine SJ.buildSlice (R := fStr) (os := [.tmp 32, .tmp 34]) [e25.low, e25.high] Try.runUnderlying78 Try.sizeOf9 Try.zeroValue9 rfl rfl rfl rfl rfl rfl fun v31 => ?_
            refine SJ.q (YldS.yld (y_lenRow (k := 0) rfl Try.runUnderlying78 rfl)) rfl ?_
            refine SJ.q (YldS.yld (y_move rfl)) rfl ?_
            refine SJ.nil ?_
            refine PJ.next ?_
            refine WJ.block ?_
            refine WJ.sel (L' := (fun (x : (List (Str × Bool)) × (List (Str × Bool)) × Int) => [row v31 9 fStr [e25.low, e25.high], box g30 41 [str e25.low, str e25.high, .bool e25.dead], mp g12 x.1, mp g11 x.2.1]) (mp17, mp18, 0)) [0, 1, 2, 3] ⟨by decide, rfl⟩ ?_
            refine WJ.sub (m' := (fun (x : (List (Str × Bool)) × (List (Str × Bool)) × Int) => [(1, v5), (5, .map (some g11)), (6, .map (some g12)), (8, pt g30 0), (25, v2), (26, .int .i64 (List.length keys1 : Int)), (27, .int .i64 x19), (35, v31), (36, .int .i64 (List.length [e25.low, e25.high] : Int)), (37, .int .i64 x.2.2)]) (mp17, mp18, 0)) ⟨rfl, rfl, rfl, rfl, rfl, rfl, rfl, rfl, rfl, rfl, trivial⟩ ?_
            refine WJ.loop (X := (List (Str × Bool)) × (List (Str × Bool)) × Int) (fun N (x : (List (Str × Bool)) × (List (Str × Bool)) × Int) => i_ValidKeys_l2 kj23 e25 N x.1 x.2.1 x.2.2 = some r) (fun (x : (List (Str × Bool)) × (List (Str × Bool)) × Int) => [(1, v5), (5, .map (some g11)), (6, .map (some g12)), (8, pt g30 0), (25, v2), (26, .int .i64 (List.length keys1 : Int)), (27, .int .i64 x19), (35, v31), (36, .int .i64 (List.length [e25.low, e25.high] : Int)), (37, .int .i64 x.2.2)]) (fun (x : (List (Str × Bool)) × (List (Str × Bool)) × Int) => [row v31 9 fStr [e25.low, e25.high], box g30 41 [str e25.low, str e25.high, .bool e25.dead], mp g12 x.1, mp g11 x.2.1]) ?_ N (mp17, mp18, 0) hm
            · rintro N ⟨mp32, mp33, x34⟩ hI
              have hm := hI; clear hI
              cases N with
              | zero => cases hm
              | succ N =>
              unfold i_ValidKeys_l2 at hm
              refine WJ.seq ?_
              refine WJ.quiet ?_
              refine QJ.step (YldS.yld (y_bin rfl rfl rfl)) rfl ?_
              refine QJ.done ?_
              refine PJ.next ?_
              refine WJ.seq ?_
              refine WJ.cond (t := decide (x34 < (List.length [e25.low, e25.high] : Int))) rfl (fun hb35 => ?_) (fun hb35 => ?_)
              · replace hm := ifT hm hb35
                refine WJ.skip ?_
                refine PJ.next ?_
                refine WJ.seq ?_
                refine WJ.block ?_
                refine WJ.seq ?_
                refine WJ.quiet ?_
                obtain ⟨e36, h37, hm⟩ := bindS hm
                refine QJ.step (YldS.yld (y_ixRow (k := 0) (R := fStr) rfl Try.runUnderlying78 Try.sizeOf9 rfl rfl h37)) rfl ?_
                refine QJ.step (YldS.yld (y_loadR (k := 0) (i := (Int.toNat x34)) (off := 0) (u := str e36) rfl Try.isAgg9 rfl (idx_get h37) rfl)) rfl ?_
                refine QJ.step (YldS.yld (y_assign rfl)) rfl ?_
                refine QJ.done ?_
                refine PJ.next ?_
                refine WJ.seq ?_
                refine WJ.seq ?_
                refine WJ.quiet ?_
                refine QJ.step (YldS.yld (y_move rfl)) rfl ?_
                obtain ⟨r38, h39, hm⟩ := bindS hm
                refine QJ.step (y_call Try.call76 rfl (RetG.quiet fun w hw => ok_i_isLetter h39 w )) rfl ?_
                refine QJ.step (YldS.yld (y_not rfl)) rfl ?_
                refine QJ.step (YldS.yld (y_move rfl)) rfl ?_
                obtain ⟨t40, h41, hm⟩ := bindS hm
                refine QJ.cut 4 [(1, v5), (5, .map (some g11)), (6, .map (some g12)), (8, pt g30 0), (10, str e36), (25, v2), (26, .int .i64 (List.length keys1 : Int)), (27, .int .i64 x19), (35, v31), (36, .int .i64 (List.length [e25.low, e25.high] : Int)), (37, .int .i64 x34), (48, .bool t40)] ?_ ?_
                · rcases Bool.eq_false_or_eq_true (!r38) with hb42 | hb42
                  · obtain rfl := orT h41 hb42
                    refine QJ.off rfl rfl (cB hb42) rfl rfl ?_
                    refine QJ.off rfl rfl (cB hb42) rfl rfl ?_
                    refine QJ.off rfl rfl (cB hb42) rfl rfl ?_
                    refine QJ.step (YldS.yld (y_pick_t (cB hb42) rfl)) rfl ?_
                    exact QJ.cut_end ⟨rfl, rfl, rfl, rfl, rfl, rfl, rfl, rfl, rfl, rfl, rfl, rfl, trivial⟩
                  · replace h41 := orF h41 hb42
                    refine QJ.on rfl rfl (cB hb42) (YldS.yld (y_move rfl)) rfl ?_
                    refine QJ.on rfl rfl (cB hb42) (YldS.yld (y_move rfl)) rfl ?_
                    refine QJ.on rfl rfl (cB hb42) (YldS.yld (y_lookupSB (k := 3) rfl Try.underlying151 Try.underlying9 Try.zeroValue4 rfl rfl)) rfl ?_
                    refine QJ.step (YldS.yld (y_pick_f (cB hb42) rfl)) rfl ?_
                    obtain rfl := Option.some.inj h41
                    exact QJ.cut_end ⟨rfl, rfl, rfl, rfl, rfl, rfl, rfl, rfl, rfl, rfl, rfl, rfl, trivial⟩
                refine QJ.done ?_
                refine PJ.next ?_
                refine WJ.cond (t := t40) rfl (fun hb43 => ?_) (fun hb43 => ?_)
                · replace hm := ifT hm hb43
                  refine WJ.seq ?_
                  refine WJ.quiet ?_
                  refine QJ.step (YldS.yld (y_assign rfl)) rfl ?_
                  refine QJ.done ?_
                  refine PJ.next ?_
                  refine WJ.ret ?_
                  refine PJ.then_ret (PJ.block_ret (PJ.then_ret (PJ.then_ret (PJ.block_ret (PJ.block_ret (PJ.then_ret (PJ.then_ret (PJ.block_ret (PJ.then_ret ?_)))))))))
                  obtain rfl := Option.some.inj hm
                  refine PJ.sel (L' := []) [] ⟨List.nodup_nil, rfl⟩ ?_
                  exact PJ.retn (vs := [.bool false]) Try.results67 ⟨rfl, trivial⟩ ⟨rfl, rfl⟩
                · replace hm := ifF hm hb43
                  refine WJ.skip ?_
                  refine PJ.next ?_
                  refine WJ.seq ?_
                  refine WJ.reg ?_
                  refine SJ.q (YldS.yld (y_move rfl)) rfl ?_
                  refine SJ.q (YldS.yld (y_move rfl)) rfl ?_
                  refine SJ.mapUpdateSB (k := 3) Try.underlying151 Try.underlying9 rfl rfl rfl rfl ?_
                  refine SJ.nil ?_
                  refine PJ.next ?_
                  refine WJ.reg ?_
                  refine SJ.q (YldS.yld (y_move rfl)) rfl ?_
                  refine SJ.q (YldS.yld (y_move rfl)) rfl ?_
                  refine SJ.q (YldS.yld (y_fldB (o := 0) fld41_2 rfl)) rfl ?_
                  refine SJ.q (YldS.yld (y_loadB (k := 1) (off := 2) (v := .bool e25.dead) rfl Try.isAgg4 rfl rfl)) rfl ?_
                  refine SJ.mapUpdateSB (k := 2) Try.underlying151 Try.underlying9 rfl rfl rfl rfl ?_
                  refine SJ.nil ?_
                  refine PJ.block_normal (PJ.next ?_)
                  refine WJ.quiet ?_
                  refine QJ.step (YldS.yld (y_bin rfl rfl rfl)) rfl ?_
                  refine QJ.step (YldS.yld (y_move rfl)) rfl ?_
                  refine QJ.done ?_
                  exact PJ.round (mset mp32 e36 e25.dead, mset mp33 e36 true, w64 (x34 + 1)) [0, 1, 2, 3] hm ⟨rfl, rfl, rfl, rfl, rfl, rfl, rfl, rfl, rfl, rfl, trivial⟩ ⟨by decide, rfl⟩
              · replace hm := ifF hm hb35
                refine WJ.exit ?_
                refine PJ.then_exit (PJ.then_exit (PJ.block_exit (PJ.block_normal ?_)))
                exact PJ.joined (mp32, mp33) [2, 3] hm ⟨rfl, rfl, rfl, rfl, rfl, rfl, trivial⟩ ⟨by decide, rfl⟩
          · rintro ⟨mp21, mp22⟩ hm
            subst hk24
            refine WJ.quiet ?_
            refine QJ.step (YldS.yld (y_bin rfl rfl rfl)) rfl ?_
            refine QJ.step (YldS.yld (y_move rfl)) rfl ?_
            refine QJ.done ?_
            exact PJ.round (mp21, mp22, w64 (x19 + 1)) [0, 1] hm ⟨rfl, rfl, rfl, rfl, rfl, rfl, trivial⟩ ⟨by decide, rfl⟩
        · replace hm := ifF hm hb20
          refine WJ.exit ?_
          refine PJ.then_exit (PJ.then_exit (PJ.block_exit ?_))
          exact PJ.joined (mp17, mp18) [0, 1] hm ⟨rfl, rfl, rfl, trivial⟩ ⟨by decide, rfl⟩
    · rintro ⟨mp13, mp14⟩ hm
      subst hk16
      refine WJ.seq ?_
      refine WJ.reg ?_
      refine SJ.makeMap rfl fun g44 => ?_
      refine SJ.q (YldS.yld (y_assign rfl)) rfl ?_
      refine SJ.nil ?_
      refine PJ.next ?_
      refine WJ.seq ?_
      refine WJ.reg ?_
      refine SJ.makeMap rfl fun g45 => ?_
      refine SJ.q (YldS.yld (y_assign rfl)) rfl ?_
      refine SJ.nil ?_
      refine PJ.next ?_
      obtain ⟨kj46, hk47, hm⟩ := withK_open hm
      refine WJ.join (X := Unit) (fun (_ : Unit) => kj46  = some r) (fun (_ : Unit) => []) (fun (_ : Unit) => []) ?_ ?_
      · clear hk47
        refine WJ.seq ?_
        refine WJ.quiet ?_
        refine QJ.step (YldS.yld (y_move rfl)) rfl ?_
        refine QJ.step (YldS.yld (y_lenS Try.runUnderlying25 hr6 rfl)) rfl ?_
        refine QJ.step (YldS.yld (y_move rfl)) rfl ?_
        refine QJ.done ?_
        refine PJ.next ?_
        refine WJ.block ?_
        refine WJ.sel (L' := (fun (x : (List (Str × Bool)) × (List (Str × Bool)) × Int) => [mp g45 x.1, mp g44 x.2.1, mp g12 mp13, mp g11 mp14]) ([], [], 0)) [0, 1, 2, 3] ⟨by decide, rfl⟩ ?_
        refine WJ.sub (m' := (fun (x : (List (Str × Bool)) × (List (Str × Bool)) × Int) => [(5, .map (some g11)), (6, .map (some g12)), (11, .map (some g44)), (12, .map (some g45)), (59, v5), (60, .int .i64 (List.length accents4 : Int)), (61, .int .i64 x.2.2)]) ([], [], 0)) ⟨rfl, rfl, rfl, rfl, rfl, rfl, rfl, trivial⟩ ?_
        refine WJ.loop (X := (List (Str × Bool)) × (List (Str × Bool)) × Int) (fun N (x : (List (Str × Bool)) × (List (Str × Bool)) × Int) => i_ValidKeys_l3 kj46 accents4 mp13 mp14 N x.1 x.2.1 x.2.2 = some r) (fun (x : (List (Str × Bool)) × (List (Str × Bool)) × Int) => [(5, .map (some g11)), (6, .map (some g12)), (11, .map (some g44)), (12, .map (some g45)), (59, v5), (60, .int .i64 (List.length accents4 : Int)), (61, .int .i64 x.2.2)]) (fun (x : (List (Str × Bool)) × (List (Str × Bool)) × Int) => [mp g45 x.1, mp g44 x.2.1, mp g12 mp13, mp g11 mp14]) ?_ N ([], [], 0) hm
        · rintro N ⟨mp48, mp49, x50⟩ hI
          have hm := hI; clear hI
          cases N with
          | zero => cases hm
          | succ N =>
          unfold i_ValidKeys_l3 at hm
          refine WJ.seq ?_
          refine WJ.quiet ?_
          refine QJ.step (YldS.yld (y_bin rfl rfl rfl)) rfl ?_
          refine QJ.done ?_
          refine PJ.next ?_
          refine WJ.seq ?_
          refine WJ.cond (t := decide (x50 < (List.length accents4 : Int))) rfl (fun hb51 => ?_) (fun hb51 => ?_)
          · replace hm := ifT hm hb51
            refine WJ.skip ?_
            refine PJ.next ?_
            refine WJ.seq ?_
            refine WJ.block ?_
            refine WJ.seq ?_
            refine WJ.reg ?_
            obtain ⟨e52, h53, hm⟩ := bindS hm
            obtain ⟨ad54, _, rfl, ha55, hy56⟩ := hr6.elem h53
            refine SJ.q (YldS.yld (hy56 Try.runUnderlying25 Try.sizeOf101 rfl rfl)) rfl ?_
            refine SJ.q (YldS.yld (y_loadN Try.isAgg101 Try.sizeOf101 rfl ha55 St.frozenC rfl)) rfl ?_
            refine SJ.alloc (cs := [str [], str [], str []]) Try.zeroValue101 rfl rfl fun g57 => ?_
            refine SJ.storeL (k := 0) (off := 0) (us := [str e52.mark, str e52.letter, str e52.made]) rfl rfl rfl rfl Try.sizeOf101 rfl rfl ?_
            refine SJ.nil ?_
            refine PJ.next ?_
            refine WJ.seq ?_
            refine WJ.seq ?_
            refine WJ.quiet ?_
            refine QJ.step (YldS.yld (y_move rfl)) rfl ?_
            refine QJ.step (YldS.yld (y_fldB (o := 0) fld101_0 rfl)) rfl ?_
            refine QJ.step (YldS.yld (y_loadB (k := 0) (off := 0) (v := str e52.mark) rfl Try.isAgg9 rfl rfl)) rfl ?_
            refine QJ.step (YldS.yld (y_lookupSB (k := 4) rfl Try.underlying151 Try.underlying9 Try.zeroValue4 rfl rfl)) rfl ?_
            refine QJ.step (YldS.yld (y_not rfl)) rfl ?_
            refine QJ.step (YldS.yld (y_move rfl)) rfl ?_
            obtain ⟨t58, h59, hm⟩ := bindS hm
            refine QJ.cut 6 [(5, .map (some g11)), (6, .map (some g12)), (11, .map (some g44)), (12, .map (some g45)), (14, pt g57 0), (59, v5), (60, .int .i64 (List.length accents4 : Int)), (61, .int .i64 x50), (76, .bool t58)] ?_ ?_
            · rcases Bool.eq_false_or_eq_true (!(mget mp14 e52.mark)) with hb60 | hb60
              · obtain rfl := orT h59 hb60
                refine QJ.off rfl rfl (cB hb60) rfl rfl ?_
                refine QJ.off rfl rfl (cB hb60) rfl rfl ?_
                refine QJ.off rfl rfl (cB hb60) rfl rfl ?_
                refine QJ.off rfl rfl (cB hb60) rfl rfl ?_
                refine QJ.off rfl rfl (cB hb60) rfl rfl ?_
                refine QJ.step (YldS.yld (y_pick_t (cB hb60) rfl)) rfl ?_
                exact QJ.cut_end ⟨rfl, rfl, rfl, rfl, rfl, rfl, rfl, rfl, rfl, trivial⟩
              · replace h59 := orF h59 hb60
                refine QJ.on rfl rfl (cB hb60) (YldS.yld (y_move rfl)) rfl ?_
                refine QJ.on rfl rfl (cB hb60) (YldS.yld (y_fldB (o := 0) fld101_0 rfl)) rfl ?_
                refine QJ.on rfl rfl (cB hb60) (YldS.yld (y_loadB (k := 0) (off := 0) (v := str e52.mark) rfl Try.isAgg9 rfl rfl)) rfl ?_
                refine QJ.on rfl rfl (cB hb60) (YldS.yld (y_lookupSB (k := 3) rfl Try.underlying151 Try.underlying9 Try.zeroValue4 rfl rfl)) rfl ?_
                refine QJ.on rfl rfl (cB hb60) (YldS.yld (y_not rfl)) rfl ?_
                refine QJ.step (YldS.yld (y_pick_f (cB hb60) rfl)) rfl ?_
                obtain rfl := Option.some.inj h59
                exact QJ.cut_end ⟨rfl, rfl, rfl, rfl, rfl, rfl, rfl, rfl, rfl, trivial⟩
            refine QJ.step (YldS.yld (y_move rfl)) rfl ?_
            obtain ⟨t61, h62, hm⟩ := bindS hm
            refine QJ.cut 6 [(5, .map (some g11)), (6, .map (some g12)), (11, .map (some g44)), (12, .map (some g45)), (14, pt g57 0), (59, v5), (60, .int .i64 (List.length accents4 : Int)), (61, .int .i64 x50), (83, .bool t61)] ?_ ?_
            · rcases Bool.eq_false_or_eq_true t58 with hb63 | hb63
              · obtain rfl := orT h62 hb63
                refine QJ.off rfl rfl (cB hb63) rfl rfl ?_
                refine QJ.off rfl rfl (cB hb63) rfl rfl ?_
                refine QJ.off rfl rfl (cB hb63) rfl rfl ?_
                refine QJ.off rfl rfl (cB hb63) rfl rfl ?_
                refine QJ.off rfl rfl (cB hb63) rfl rfl ?_
                refine QJ.step (YldS.yld (y_pick_t (cB hb63) rfl)) rfl ?_
                exact QJ.cut_end ⟨rfl, rfl, rfl, rfl, rfl, rfl, rfl, rfl, rfl, trivial⟩
              · replace h62 := orF h62 hb63
                refine QJ.on rfl rfl (cB hb63) (YldS.yld (y_move rfl)) rfl ?_
                refine QJ.on rfl rfl (cB hb63) (YldS.yld (y_fldB (o := 0) fld101_1 rfl)) rfl ?_
                refine QJ.on rfl rfl (cB hb63) (YldS.yld (y_loadB (k := 0) (off := 1) (v := str e52.letter) rfl Try.isAgg9 rfl rfl)) rfl ?_
                refine QJ.on rfl rfl (cB hb63) (YldS.yld (y_lookupSB (k := 4) rfl Try.underlying151 Try.underlying9 Try.zeroValue4 rfl rfl)) rfl ?_
                refine QJ.on rfl rfl (cB hb63) (YldS.yld (y_not rfl)) rfl ?_
                refine QJ.step (YldS.yld (y_pick_f (cB hb63) rfl)) rfl ?_
                obtain rfl := Option.some.inj h62
                exact QJ.cut_end ⟨rfl, rfl, rfl, rfl, rfl, rfl, rfl, rfl, rfl, trivial⟩
            refine QJ.step (YldS.yld (y_move rfl)) rfl ?_
            obtain ⟨t64, h65, hm⟩ := bindS hm
            refine QJ.cut 5 [(5, .map (some g11)), (6, .map (some g12)), (11, .map (some g44)), (12, .map (some g45)), (14, pt g57 0), (59, v5), (60, .int .i64 (List.length accents4 : Int)), (61, .int .i64 x50), (89, .bool t64)] ?_ ?_
            · rcases Bool.eq_false_or_eq_true t61 with hb66 | hb66
              · obtain rfl := orT h65 hb66
                refine QJ.off rfl rfl (cB hb66) rfl rfl ?_
                refine QJ.off rfl rfl (cB hb66) rfl rfl ?_
                refine QJ.off rfl rfl (cB hb66) rfl rfl ?_
                refine QJ.off rfl rfl (cB hb66) rfl rfl ?_
                refine QJ.step (YldS.yld (y_pick_t (cB hb66) rfl)) rfl ?_
                exact QJ.cut_end ⟨rfl, rfl, rfl, rfl, rfl, rfl, rfl, rfl, rfl, trivial⟩
              · replace h65 := orF h65 hb66
                refine QJ.on rfl rfl (cB hb66) (YldS.yld (y_move rfl)) rfl ?_
                refine QJ.on rfl rfl (cB hb66) (YldS.yld (y_fldB (o := 0) fld101_1 rfl)) rfl ?_
                refine QJ.on rfl rfl (cB hb66) (YldS.yld (y_loadB (k := 0) (off := 1) (v := str e52.letter) rfl Try.isAgg9 rfl rfl)) rfl ?_
                refine QJ.on rfl rfl (cB hb66) (YldS.yld (y_lookupSB (k := 3) rfl Try.underlying151 Try.underlying9 Try.zeroValue4 rfl rfl)) rfl ?_
                refine QJ.step (YldS.yld (y_pick_f (cB hb66) rfl)) rfl ?_
                obtain rfl := Option.some.inj h65
                exact QJ.cut_end ⟨rfl, rfl, rfl, rfl, rfl, rfl, rfl, rfl, rfl, trivial⟩
            refine QJ.done ?_
            refine PJ.next ?_
            refine WJ.cond (t := t64) rfl (fun hb67 => ?_) (fun hb67 => ?_)
            · replace hm := ifT hm hb67
              refine WJ.seq ?_
              refine WJ.quiet ?_
              refine QJ.step (YldS.yld (y_assign rfl)) rfl ?_
              refine QJ.done ?_
              refine PJ.next ?_
              refine WJ.ret ?_
              refine PJ.then_ret (PJ.block_ret (PJ.then_ret (PJ.then_ret (PJ.block_ret (PJ.then_ret ?_)))))
              obtain rfl := Option.some.inj hm
              refine PJ.sel (L' := []) [] ⟨List.nodup_nil, rfl⟩ ?_
              exact PJ.retn (vs := [.bool false]) Try.results67 ⟨rfl, trivial⟩ ⟨rfl, rfl⟩
            · replace hm := ifF hm hb67
              refine WJ.skip ?_
              refine PJ.next ?_
              refine WJ.seq ?_
              refine WJ.seq ?_
              refine WJ.quiet ?_
              refine QJ.step (YldS.yld (y_fldB (o := 0) fld101_2 rfl)) rfl ?_
              refine QJ.step (YldS.yld (y_loadB (k := 0) (off := 2) (v := str e52.made) rfl Try.isAgg9 rfl rfl)) rfl ?_
              obtain ⟨r68, h69, hm⟩ := bindS hm
              refine QJ.step (y_call Try.call76 rfl (RetG.quiet fun w hw => ok_i_isLetter h69 w )) rfl ?_
              refine QJ.step (YldS.yld (y_not rfl)) rfl ?_
              refine QJ.step (YldS.yld (y_move rfl)) rfl ?_
              obtain ⟨t70, h71, hm⟩ := bindS hm
              refine QJ.cut 5 [(5, .map (some g11)), (6, .map (some g12)), (11, .map (some g44)), (12, .map (some g45)), (14, pt g57 0), (59, v5), (60, .int .i64 (List.length accents4 : Int)), (61, .int .i64 x50), (99, .bool t70)] ?_ ?_
              · rcases Bool.eq_false_or_eq_true (!r68) with hb72 | hb72
                · obtain rfl := orT h71 hb72
                  refine QJ.off rfl rfl (cB hb72) rfl rfl ?_
                  refine QJ.off rfl rfl (cB hb72) rfl rfl ?_
                  refine QJ.off rfl rfl (cB hb72) rfl rfl ?_
                  refine QJ.off rfl rfl (cB hb72) rfl rfl ?_
                  refine QJ.step (YldS.yld (y_pick_t (cB hb72) rfl)) rfl ?_
                  exact QJ.cut_end ⟨rfl, rfl, rfl, rfl, rfl, rfl, rfl, rfl, rfl, trivial⟩
                · replace h71 := orF h71 hb72
                  refine QJ.on rfl rfl (cB hb72) (YldS.yld (y_move rfl)) rfl ?_
                  refine QJ.on rfl rfl (cB hb72) (YldS.yld (y_fldB (o := 0) fld101_2 rfl)) rfl ?_
                  refine QJ.on rfl rfl (cB hb72) (YldS.yld (y_loadB (k := 0) (off := 2) (v := str e52.made) rfl Try.isAgg9 rfl rfl)) rfl ?_
                  refine QJ.on rfl rfl (cB hb72) (YldS.yld (y_lookupSB (k := 4) rfl Try.underlying151 Try.underlying9 Try.zeroValue4 rfl rfl)) rfl ?_
                  refine QJ.step (YldS.yld (y_pick_f (cB hb72) rfl)) rfl ?_
                  obtain rfl := Option.some.inj h71
                  exact QJ.cut_end ⟨rfl, rfl, rfl, rfl, rfl, rfl, rfl, rfl, rfl, trivial⟩
              refine QJ.step (YldS.yld (y_move rfl)) rfl ?_
              obtain ⟨t73, h74, hm⟩ := bindS hm
              refine QJ.cut 5 [(5, .map (some g11)), (6, .map (some g12)), (11, .map (some g44)), (12, .map (some g45)), (14, pt g57 0), (59, v5), (60, .int .i64 (List.length accents4 : Int)), (61, .int .i64 x50), (105, .bool t73)] ?_ ?_
              · rcases Bool.eq_false_or_eq_true t70 with hb75 | hb75
                · obtain rfl := orT h74 hb75
                  refine QJ.off rfl rfl (cB hb75) rfl rfl ?_
                  refine QJ.off rfl rfl (cB hb75) rfl rfl ?_
                  refine QJ.off rfl rfl (cB hb75) rfl rfl ?_
                  refine QJ.off rfl rfl (cB hb75) rfl rfl ?_
                  refine QJ.step (YldS.yld (y_pick_t (cB hb75) rfl)) rfl ?_
                  exact QJ.cut_end ⟨rfl, rfl, rfl, rfl, rfl, rfl, rfl, rfl, rfl, trivial⟩
                · replace h74 := orF h74 hb75
                  refine QJ.on rfl rfl (cB hb75) (YldS.yld (y_move rfl)) rfl ?_
                  refine QJ.on rfl rfl (cB hb75) (YldS.yld (y_fldB (o := 0) fld101_2 rfl)) rfl ?_
                  refine QJ.on rfl rfl (cB hb75) (YldS.yld (y_loadB (k := 0) (off := 2) (v := str e52.made) rfl Try.isAgg9 rfl rfl)) rfl ?_
                  refine QJ.on rfl rfl (cB hb75) (YldS.yld (y_lookupSB (k := 2) rfl Try.underlying151 Try.underlying9 Try.zeroValue4 rfl rfl)) rfl ?_
                  refine QJ.step (YldS.yld (y_pick_f (cB hb75) rfl)) rfl ?_
                  obtain rfl := Option.some.inj h74
                  exact QJ.cut_end ⟨rfl, rfl, rfl, rfl, rfl, rfl, rfl, rfl, rfl, trivial⟩
              refine QJ.step (YldS.yld (y_move rfl)) rfl ?_
              obtain ⟨t76, h77, hm⟩ := bindS hm
              refine QJ.cut 8 [(5, .map (some g11)), (6, .map (some g12)), (11, .map (some g44)), (12, .map (some g45)), (14, pt g57 0), (59, v5), (60, .int .i64 (List.length accents4 : Int)), (61, .int .i64 x50), (114, .bool t76)] ?_ ?_
              · rcases Bool.eq_false_or_eq_true t73 with hb78 | hb78
                · obtain rfl := orT h77 hb78
                  refine QJ.off rfl rfl (cB hb78) rfl rfl ?_
                  refine QJ.off rfl rfl (cB hb78) rfl rfl ?_
                  refine QJ.off rfl rfl (cB hb78) rfl rfl ?_
                  refine QJ.off rfl rfl (cB hb78) rfl rfl ?_
                  refine QJ.off rfl rfl (cB hb78) rfl rfl ?_
                  refine QJ.off rfl rfl (cB hb78) rfl rfl ?_
                  refine QJ.off rfl rfl (cB hb78) rfl rfl ?_
                  refine QJ.step (YldS.yld (y_pick_t (cB hb78) rfl)) rfl ?_
                  exact QJ.cut_end ⟨rfl, rfl, rfl, rfl, rfl, rfl, rfl, rfl, rfl, trivial⟩
                · replace h77 := orF h77 hb78
                  refine QJ.on rfl rfl (cB hb78) (YldS.yld (y_move rfl)) rfl ?_
                  refine QJ.on rfl rfl (cB hb78) (YldS.yld (y_fldB (o := 0) fld101_0 rfl)) rfl ?_
                  refine QJ.on rfl rfl (cB hb78) (YldS.yld (y_loadB (k := 0) (off := 0) (v := str e52.mark) rfl Try.isAgg9 rfl rfl)) rfl ?_
                  refine QJ.on rfl rfl (cB hb78) (YldS.yld (y_fldB (o := 0) fld101_1 rfl)) rfl ?_
                  refine QJ.on rfl rfl (cB hb78) (YldS.yld (y_loadB (k := 0) (off := 1) (v := str e52.letter) rfl Try.isAgg9 rfl rfl)) rfl ?_
                  obtain ⟨s79, h80, h77⟩ := bindS h77
                  refine QJ.on rfl rfl (cB hb78) (YldS.yld (y_cat h80 rfl rfl)) rfl ?_
                  refine QJ.on rfl rfl (cB hb78) (YldS.yld (y_lookupSB (k := 1) rfl Try.underlying151 Try.underlying9 Try.zeroValue4 rfl rfl)) rfl ?_
                  refine QJ.step (YldS.yld (y_pick_f (cB hb78) rfl)) rfl ?_
                  obtain rfl := Option.some.inj h77
                  exact QJ.cut_end ⟨rfl, rfl, rfl, rfl, rfl, rfl, rfl, rfl, rfl, trivial⟩
              refine QJ.done ?_
              refine PJ.next ?_
              refine WJ.cond (t := t76) rfl (fun hb81 => ?_) (fun hb81 => ?_)
              · replace hm := ifT hm hb81
                refine WJ.seq ?_
                refine WJ.quiet ?_
                refine QJ.step (YldS.yld (y_assign rfl)) rfl ?_
                refine QJ.done ?_
                refine PJ.next ?_
                refine WJ.ret ?_
                refine PJ.then_ret (PJ.block_ret (PJ.then_ret (PJ.then_ret (PJ.block_ret (PJ.then_ret ?_)))))
                obtain rfl := Option.some.inj hm
                refine PJ.sel (L' := []) [] ⟨List.nodup_nil, rfl⟩ ?_
                exact PJ.retn (vs := [.bool false]) Try.results67 ⟨rfl, trivial⟩ ⟨rfl, rfl⟩
              · replace hm := ifF hm hb81
                refine WJ.skip ?_
                refine PJ.next ?_
                refine WJ.seq ?_
                refine WJ.reg ?_
                refine SJ.q (YldS.yld (y_move rfl)) rfl ?_
                refine SJ.q (YldS.yld (y_fldB (o := 0) fld101_2 rfl)) rfl ?_
                refine SJ.q (YldS.yld (y_loadB (k := 0) (off := 2) (v := str e52.made) rfl Try.isAgg9 rfl rfl)) rfl ?_
                refine SJ.mapUpdateSB (k := 2) Try.underlying151 Try.underlying9 rfl rfl rfl rfl ?_
                refine SJ.nil ?_
                refine PJ.next ?_
                refine WJ.reg ?_
                refine SJ.q (YldS.yld (y_move rfl)) rfl ?_
                refine SJ.q (YldS.yld (y_fldB (o := 0) fld101_0 rfl)) rfl ?_
                refine SJ.q (YldS.yld (y_loadB (k := 0) (off := 0) (v := str e52.mark) rfl Try.isAgg9 rfl rfl)) rfl ?_
                refine SJ.q (YldS.yld (y_fldB (o := 0) fld101_1 rfl)) rfl ?_
                refine SJ.q (YldS.yld (y_loadB (k := 0) (off := 1) (v := str e52.letter) rfl Try.isAgg9 rfl rfl)) rfl ?_
                obtain ⟨s82, h83, hm⟩ := bindS hm
                refine SJ.q (YldS.yld (y_cat h83 rfl rfl)) rfl ?_
                refine SJ.mapUpdateSB (k := 1) Try.underlying151 Try.underlying9 rfl rfl rfl rfl ?_
                refine SJ.nil ?_
                refine PJ.block_normal (PJ.next ?_)
                refine WJ.quiet ?_
                refine QJ.step (YldS.yld (y_bin rfl rfl rfl)) rfl ?_
                refine QJ.step (YldS.yld (y_move rfl)) rfl ?_
                refine QJ.done ?_
                exact PJ.round (mset mp48 s82 true, mset mp49 e52.made true, w64 (x50 + 1)) [1, 2, 3, 4] hm ⟨rfl, rfl, rfl, rfl, rfl, rfl, rfl, trivial⟩ ⟨by decide, rfl⟩
          · replace hm := ifF hm hb51
            refine WJ.exit ?_
            refine PJ.then_exit (PJ.then_exit (PJ.block_exit ?_))
            exact PJ.joined () [] hm trivial ⟨List.nodup_nil, rfl⟩
      · rintro _ hm
        subst hk47
        refine WJ.seq ?_
        refine WJ.quiet ?_
        refine QJ.step (YldS.yld (y_assign rfl)) rfl ?_
        refine QJ.done ?_
        refine PJ.next ?_
        refine WJ.ret ?_
        obtain rfl := Option.some.inj hm
        refine PJ.sel (L' := []) [] ⟨List.nodup_nil, rfl⟩ ?_
        exact PJ.retn (vs := [.bool true]) Try.results67 ⟨rfl, trivial⟩ ⟨rfl, rfl⟩

set_option maxRecDepth 100000 in
set_option maxHeartbeats 1000000 in
theorem ok_i_between {n1 : Int} {low2 : Int} {high3 : Int} {r : Bool} (hm : i_between n1 low2 high3 = some r) (w : World)  :
    Calls Try.prog 68 #[.int .i64 n1, .int .i64 low2, .int .i64 high3] w (Ret (cx w) (.bool r)) := by
  unfold i_between at hm
  refine Calls.enter [.int .i64 n1, .int .i64 low2, .int .i64 high3] Try.func68 rfl Try.ntmps68 rfl ?_
  refine WJ.seq ?_
  refine WJ.quiet ?_
  refine QJ.step (YldS.yld (y_assign rfl)) rfl ?_
  refine QJ.done ?_
  refine PJ.next ?_
  refine WJ.seq ?_
  refine WJ.quiet ?_
  refine QJ.step (YldS.yld (y_move rfl)) rfl ?_
  refine QJ.step (YldS.yld (y_move rfl)) rfl ?_
  refine QJ.step (YldS.yld (y_bin rfl rfl rfl)) rfl ?_
  refine QJ.step (YldS.yld (y_move rfl)) rfl ?_
  obtain ⟨t4, h5, hm⟩ := bindS hm
  refine QJ.cut 4 [(14, .bool t4)] ?_ ?_
  · rcases Bool.eq_false_or_eq_true (decide (n1 ≥ low2)) with hb6 | hb6
    · replace h5 := andT h5 hb6
      refine QJ.on rfl rfl (cB hb6) (YldS.yld (y_move rfl)) rfl ?_
      refine QJ.on rfl rfl (cB hb6) (YldS.yld (y_move rfl)) rfl ?_
      refine QJ.on rfl rfl (cB hb6) (YldS.yld (y_bin rfl rfl rfl)) rfl ?_
      refine QJ.step (YldS.yld (y_pick_t (cB hb6) rfl)) rfl ?_
      obtain rfl := Option.some.inj h5
      exact QJ.cut_end ⟨rfl, trivial⟩
    · obtain rfl := andF h5 hb6
      refine QJ.off rfl rfl (cB hb6) rfl rfl ?_
      refine QJ.off rfl rfl (cB hb6) rfl rfl ?_
      refine QJ.off rfl rfl (cB hb6) rfl rfl ?_
      refine QJ.step (YldS.yld (y_pick_f (cB hb6) rfl)) rfl ?_
      exact QJ.cut_end ⟨rfl, trivial⟩
  refine QJ.step (YldS.yld (y_assign rfl)) rfl ?_
  refine QJ.done ?_
  refine PJ.next ?_
  refine WJ.ret ?_
  obtain rfl := Option.some.inj hm
  refine PJ.sel (L' := []) [] ⟨List.nodup_nil, rfl⟩ ?_
  exact PJ.retn (vs := [.bool t4]) Try.results68 ⟨rfl, trivial⟩ ⟨rfl, rfl⟩

set_option maxRecDepth 100000 in
set_option maxHeartbeats 1000000 in
theorem ok_i_printed {keys1 : List Key} {p4 : Press} {r : Str} (hm : i_printed keys1 p4 = some r) (w : World) (v2 : Value) (hr3 : RdS w (cx w).Fz v2 fKey.rp keys1) :
    Calls Try.prog 69 #[v2, .agg (Press.enc p4).toArray] w (Ret (cx w) (str r)) := by
  unfold i_printed at hm
  refine Calls.enter [v2, .agg (Press.enc p4).toArray] Try.func69 rfl Try.ntmps69 rfl ?_
  refine WJ.seq ?_
  refine WJ.reg ?_
  refine SJ.box (cs := [.int .i64 p4.key, .bool p4.shift]) rfl rfl rfl fun g5 => ?_
  refine SJ.q (YldS.yld (y_assign rfl)) rfl ?_
  refine SJ.nil ?_
  refine PJ.next ?_
  refine WJ.seq ?_
  refine WJ.seq ?_
  refine WJ.quiet ?_
  refine QJ.step (YldS.yld (y_fldB (o := 0) fld37_1 rfl)) rfl ?_
  refine QJ.step (YldS.yld (y_loadB (k := 0) (off := 1) (v := .bool p4.shift) rfl Try.isAgg4 rfl rfl)) rfl ?_
  refine QJ.done ?_
  refine PJ.next ?_
  refine WJ.cond (t := p4.shift) rfl (fun hb6 => ?_) (fun hb6 => ?_)
  · replace hm := ifT hm hb6
    refine WJ.seq ?_
    refine WJ.quiet ?_
    refine QJ.step (YldS.yld (y_move rfl)) rfl ?_
    refine QJ.step (YldS.yld (y_fldB (o := 0) fld37_0 rfl)) rfl ?_
    refine QJ.step (YldS.yld (y_loadB (k := 0) (off := 0) (v := .int .i64 p4.key) rfl Try.isAgg2 rfl rfl)) rfl ?_
    obtain ⟨e7, h8, hm⟩ := bindS hm
    obtain ⟨ad9, _, rfl, ha10, hy11⟩ := hr3.elem h8
    refine QJ.step (YldS.yld (hy11 Try.runUnderlying24 Try.sizeOf41 rfl rfl)) rfl ?_
    refine QJ.step (YldS.yld (y_fld (ad := ad9) fld41_1 rfl)) rfl ?_
    refine QJ.step (YldS.yld (y_load1 (v := str e7.high) Try.isAgg9 (ha10.sub 1 1) St.frozenC rfl)) rfl ?_
    refine QJ.step (YldS.yld (y_assign rfl)) rfl ?_
    refine QJ.done ?_
    refine PJ.next ?_
    refine WJ.ret ?_
    refine PJ.then_ret ?_
    obtain rfl := Option.some.inj hm
    refine PJ.sel (L' := []) [] ⟨List.nodup_nil, rfl⟩ ?_
    exact PJ.retn (vs := [str e7.high]) Try.results69 ⟨rfl, trivial⟩ ⟨rfl, rfl⟩
  · replace hm := ifF hm hb6
    refine WJ.skip ?_
    refine PJ.next ?_
    refine WJ.seq ?_
    refine WJ.quiet ?_
    refine QJ.step (YldS.yld (y_move rfl)) rfl ?_
    refine QJ.step (YldS.yld (y_fldB (o := 0) fld37_0 rfl)) rfl ?_
    refine QJ.step (YldS.yld (y_loadB (k := 0) (off := 0) (v := .int .i64 p4.key) rfl Try.isAgg2 rfl rfl)) rfl ?_
    obtain ⟨e12, h13, hm⟩ := bindS hm
    obtain ⟨ad14, _, rfl, ha15, hy16⟩ := hr3.elem h13
    refine QJ.step (YldS.yld (hy16 Try.runUnderlying24 Try.sizeOf41 rfl rfl)) rfl ?_
    refine QJ.step (YldS.yld (y_fld (ad := ad14) fld41_0 rfl)) rfl ?_
    refine QJ.step (YldS.yld (y_load1 (v := str e12.low) Try.isAgg9 (ha15.sub 0 1) St.frozenC rfl)) rfl ?_
    refine QJ.step (YldS.yld (y_assign rfl)) rfl ?_
    refine QJ.done ?_
    refine PJ.next ?_
    refine WJ.ret ?_
    obtain rfl := Option.some.inj hm
    refine PJ.sel (L' := []) [] ⟨List.nodup_nil, rfl⟩ ?_
    exact PJ.retn (vs := [str e12.low]) Try.results69 ⟨rfl, trivial⟩ ⟨rfl, rfl⟩

set_option maxRecDepth 100000 in
set_option maxHeartbeats 1000000 in
theorem ok_i_TextOfPresses {N : Nat} {keys1 : List Key} {accents4 : List Accent} {list7 : List Press} {r : Str × Int} (hm : i_TextOfPresses N keys1 accents4 list7 = some r) (w : World) (v2 : Value) (hr3 : RdS w (cx w).Fz v2 fKey.rp keys1) (v5 : Value) (hr6 : RdS w (cx w).Fz v5 fAccent.rp accents4) (v8 : Value) (hr9 : RdS w (cx w).Fz v8 fPress.rp list7) :
    Calls Try.prog 11 #[v2, v5, v8] w (Ret (cx w) (tup [str r.1, .int .i64 r.2])) := by
  unfold i_TextOfPresses at hm
  refine Calls.enter [v2, v5, v8] Try.func11 rfl Try.ntmps11 rfl ?_
  refine WJ.seq ?_
  refine WJ.quiet ?_
  refine QJ.step (YldS.yld (y_assign rfl)) rfl ?_
  refine QJ.step (YldS.yld (y_assign rfl)) rfl ?_
  refine QJ.done ?_
  refine PJ.next ?_
  refine WJ.seq ?_
  refine WJ.seq ?_
  refine WJ.quiet ?_
  refine QJ.step (YldS.yld (y_move rfl)) rfl ?_
  refine QJ.step (YldS.yld (y_move rfl)) rfl ?_
  obtain ⟨r10, h11, hm⟩ := bindS hm
  refine QJ.step (y_call Try.call67 rfl (RetG.quiet fun w hw => ok_i_ValidKeys h11 w _ (hr3.st hw) _ (hr6.st hw))) rfl ?_
  refine QJ.step (YldS.yld (y_not rfl)) rfl ?_
  refine QJ.done ?_
  refine PJ.next ?_
  refine WJ.cond (t := !r10) rfl (fun hb12 => ?_) (fun hb12 => ?_)
  · replace hm := ifT hm hb12
    refine WJ.seq ?_
    refine WJ.quiet ?_
    refine QJ.step (YldS.yld (y_assign rfl)) rfl ?_
    refine QJ.step (YldS.yld (y_assign rfl)) rfl ?_
    refine QJ.done ?_
    refine PJ.next ?_
    refine WJ.ret ?_
    refine PJ.then_ret ?_
    obtain rfl := Option.some.inj hm
    refine PJ.sel (L' := []) [] ⟨List.nodup_nil, rfl⟩ ?_
    exact PJ.retn (vs := [str [], .int .i64 1]) Try.results11 ⟨rfl, rfl, trivial⟩ ⟨rfl, rfl⟩
  · replace hm := ifF hm hb12
    refine WJ.skip ?_
    refine PJ.next ?_
    refine WJ.seq ?_
    refine WJ.seq ?_
    refine WJ.quiet ?_
    refine QJ.step (YldS.yld (y_move rfl)) rfl ?_
    refine QJ.step (YldS.yld (y_lenS Try.runUnderlying26 hr9 rfl)) rfl ?_
    refine QJ.step (YldS.yld (y_bin rfl rfl rfl)) rfl ?_
    refine QJ.done ?_
    refine PJ.next ?_
    refine WJ.cond (t := decide ((List.length list7 : Int) > 200)) rfl (fun hb13 => ?_) (fun hb13 => ?_)
    · replace hm := ifT hm hb13
      refine WJ.seq ?_
      refine WJ.quiet ?_
      refine QJ.step (YldS.yld (y_assign rfl)) rfl ?_
      refine QJ.step (YldS.yld (y_assign rfl)) rfl ?_
      refine QJ.done ?_
      refine PJ.next ?_
      refine WJ.ret ?_
      refine PJ.then_ret ?_
      obtain rfl := Option.some.inj hm
      refine PJ.sel (L' := []) [] ⟨List.nodup_nil, rfl⟩ ?_
      exact PJ.retn (vs := [str [], .int .i64 2]) Try.results11 ⟨rfl, rfl, trivial⟩ ⟨rfl, rfl⟩
    · replace hm := ifF hm hb13
      refine WJ.skip ?_
      refine PJ.next ?_
      obtain ⟨kj14, hk15, hm⟩ := withK_open hm
      refine WJ.join (X := Unit) (fun (_ : Unit) => kj14  = some r) (fun (_ : Unit) => [(0, v2), (1, v5), (2, v8)]) (fun (_ : Unit) => []) ?_ ?_
      · clear hk15
        refine WJ.seq ?_
        refine WJ.quiet ?_
        refine QJ.step (YldS.yld (y_move rfl)) rfl ?_
        refine QJ.step (YldS.yld (y_lenS Try.runUnderlying26 hr9 rfl)) rfl ?_
        refine QJ.step (YldS.yld (y_move rfl)) rfl ?_
        refine QJ.done ?_
        refine PJ.next ?_
        refine WJ.block ?_
        refine WJ.sel (L' := (fun (x : Int) => []) 0) [] ⟨List.nodup_nil, rfl⟩ ?_
        refine WJ.sub (m' := (fun (x : Int) => [(0, v2), (1, v5), (2, v8), (23, v8), (24, .int .i64 (List.length list7 : Int)), (25, .int .i64 x)]) 0) ⟨rfl, rfl, rfl, rfl, rfl, rfl, trivial⟩ ?_
        refine WJ.loop (X := Int) (fun N (x : Int) => i_TextOfPresses_l1 kj14 keys1 list7 N x = some r) (fun (x : Int) => [(0, v2), (1, v5), (2, v8), (23, v8), (24, .int .i64 (List.length list7 : Int)), (25, .int .i64 x)]) (fun (x : Int) => []) ?_ N 0 hm
        · rintro N x16 hI
          have hm := hI; clear hI
          cases N with
          | zero => cases hm
          | succ N =>
          unfold i_TextOfPresses_l1 at hm
          refine WJ.seq ?_
          refine WJ.quiet ?_
          refine QJ.step (YldS.yld (y_bin rfl rfl rfl)) rfl ?_
          refine QJ.done ?_
          refine PJ.next ?_
          refine WJ.seq ?_
          refine WJ.cond (t := decide (x16 < (List.length list7 : Int))) rfl (fun hb17 => ?_) (fun hb17 => ?_)
          · replace hm := ifT hm hb17
            refine WJ.skip ?_
            refine PJ.next ?_
            refine WJ.seq ?_
            refine WJ.block ?_
            refine WJ.seq ?_
            refine WJ.reg ?_
            obtain ⟨e18, h19, hm⟩ := bindS hm
            obtain ⟨ad20, _, rfl, ha21, hy22⟩ := hr9.elem h19
            refine SJ.q (YldS.yld (hy22 Try.runUnderlying26 Try.sizeOf37 rfl rfl)) rfl ?_
            refine SJ.q (YldS.yld (y_loadN Try.isAgg37 Try.sizeOf37 rfl ha21 St.frozenC rfl)) rfl ?_
            refine SJ.alloc (cs := [.int .i64 0, .bool false]) Try.zeroValue37 rfl rfl fun g23 => ?_
            refine SJ.storeL (k := 0) (off := 0) (us := [.int .i64 e18.key, .bool e18.shift]) rfl rfl rfl rfl Try.sizeOf37 rfl rfl ?_
            refine SJ.nil ?_
            refine PJ.next ?_
            refine WJ.seq ?_
            refine WJ.quiet ?_
            refine QJ.step (YldS.yld (y_fldB (o := 0) fld37_0 rfl)) rfl ?_
            refine QJ.step (YldS.yld (y_loadB (k := 0) (off := 0) (v := .int .i64 e18.key) rfl Try.isAgg2 rfl rfl)) rfl ?_
            refine QJ.step (YldS.yld (y_move rfl)) rfl ?_
            refine QJ.step (YldS.yld (y_lenS Try.runUnderlying24 hr3 rfl)) rfl ?_
            refine QJ.step (YldS.yld (y_bin rfl rfl rfl)) rfl ?_
            obtain ⟨r24, h25, hm⟩ := bindS hm
            refine QJ.step (y_call Try.call68 rfl (RetG.quiet fun w hw => ok_i_between h25 w )) rfl ?_
            refine QJ.step (YldS.yld (y_not rfl)) rfl ?_
            refine QJ.done ?_
            refine PJ.next ?_
            refine WJ.cond (t := !r24) rfl (fun hb26 => ?_) (fun hb26 => ?_)
            · replace hm := ifT hm hb26
              refine WJ.seq ?_
              refine WJ.quiet ?_
              refine QJ.step (YldS.yld (y_assign rfl)) rfl ?_
              refine QJ.step (YldS.yld (y_assign rfl)) rfl ?_
              refine QJ.done ?_
              refine PJ.next ?_
              refine WJ.ret ?_
              refine PJ.block_ret (PJ.then_ret (PJ.then_ret (PJ.block_ret (PJ.then_ret ?_))))
              obtain rfl := Option.some.inj hm
              refine PJ.sel (L' := []) [] ⟨List.nodup_nil, rfl⟩ ?_
              exact PJ.retn (vs := [str [], .int .i64 2]) Try.results11 ⟨rfl, rfl, trivial⟩ ⟨rfl, rfl⟩
            · replace hm := ifF hm hb26
              refine WJ.skip ?_
              refine PJ.block_normal (PJ.next ?_)
              refine WJ.quiet ?_
              refine QJ.step (YldS.yld (y_bin rfl rfl rfl)) rfl ?_
              refine QJ.step (YldS.yld (y_move rfl)) rfl ?_
              refine QJ.done ?_
              exact PJ.round (w64 (x16 + 1)) [] hm ⟨rfl, rfl, rfl, rfl, rfl, rfl, trivial⟩ ⟨List.nodup_nil, rfl⟩
          · replace hm := ifF hm hb17
            refine WJ.exit ?_
            refine PJ.then_exit (PJ.then_exit (PJ.block_exit ?_))
            exact PJ.joined () [] hm ⟨rfl, rfl, rfl, trivial⟩ ⟨List.nodup_nil, rfl⟩
      · rintro _ hm
        subst hk15
        refine WJ.seq ?_
        refine WJ.quiet ?_
        refine QJ.step (YldS.yld (y_assign rfl)) rfl ?_
        refine QJ.done ?_
        refine PJ.next ?_
        obtain ⟨kj28, hk29, hm⟩ := withK_open hm
        refine WJ.join (X := Str) (fun (x : Str) => kj28 x = some r) (fun (x : Str) => [(10, str x)]) (fun (x : Str) => []) ?_ ?_
        · clear hk29
          refine WJ.seq ?_
          refine WJ.quiet ?_
          refine QJ.step (YldS.yld (y_assign rfl)) rfl ?_
          refine QJ.done ?_
          refine PJ.next ?_
          refine WJ.block ?_
          refine WJ.sel (L' := (fun (x : Str × Int) => []) ([], 0)) [] ⟨List.nodup_nil, rfl⟩ ?_
          refine WJ.sub (m' := (fun (x : Str × Int) => [(0, v2), (1, v5), (2, v8), (10, str x.1), (11, .int .i64 x.2)]) ([], 0)) ⟨rfl, rfl, rfl, rfl, rfl, trivial⟩ ?_
          refine WJ.loop (X := Str × Int) (fun N (x : Str × Int) => i_TextOfPresses_l2 kj28 keys1 accents4 list7 N x.1 x.2 = some r) (fun (x : Str × Int) => [(0, v2), (1, v5), (2, v8), (10, str x.1), (11, .int .i64 x.2)]) (fun (x : Str × Int) => []) ?_ N ([], 0) hm
          · rintro N ⟨out30, i31⟩ hI
            have hm := hI; clear hI
            cases N with
            | zero => cases hm
            | succ N =>
            unfold i_TextOfPresses_l2 at hm
            refine WJ.seq ?_
            refine WJ.seq ?_
            refine WJ.quiet ?_
            refine QJ.step (YldS.yld (y_move rfl)) rfl ?_
            refine QJ.step (YldS.yld (y_move rfl)) rfl ?_
            refine QJ.step (YldS.yld (y_lenS Try.runUnderlying26 hr9 rfl)) rfl ?_
            refine QJ.step (YldS.yld (y_bin rfl rfl rfl)) rfl ?_
            refine QJ.done ?_
            refine PJ.next ?_
            refine WJ.cond (t := decide (i31 < (List.length list7 : Int))) rfl (fun hb32 => ?_) (fun hb32 => ?_)
            · replace hm := ifT hm hb32
              refine WJ.skip ?_
              refine PJ.next ?_
              obtain ⟨kj35, hk36, hm⟩ := withK_open hm
              refine WJ.join (X := Str × Int) (fun (x : Str × Int) => kj35 x.1 x.2 = some r) (fun (x : Str × Int) => [(0, v2), (1, v5), (2, v8), (10, str x.1), (11, .int .i64 x.2)]) (fun (x : Str × Int) => []) ?_ ?_
              · clear hk36
                refine WJ.block ?_
                refine WJ.seq ?_
                refine WJ.quiet ?_
                refine QJ.step (YldS.yld (y_move rfl)) rfl ?_
                refine QJ.step (YldS.yld (y_move rfl)) rfl ?_
                refine QJ.step (YldS.yld (y_move rfl)) rfl ?_
                obtain ⟨e37, h38, hm⟩ := bindS hm
                obtain ⟨ad39, _, rfl, ha40, hy41⟩ := hr9.elem h38
                refine QJ.step (YldS.yld (hy41 Try.runUnderlying26 Try.sizeOf37 rfl rfl)) rfl ?_
                refine QJ.step (YldS.yld (y_loadN Try.isAgg37 Try.sizeOf37 rfl ha40 St.frozenC rfl)) rfl ?_
                obtain ⟨r42, h43, hm⟩ := bindS hm
                refine QJ.step (y_call Try.call69 rfl (RetG.quiet fun w hw => ok_i_printed h43 w _ (hr3.st hw))) rfl ?_
                refine QJ.step (YldS.yld (y_assign rfl)) rfl ?_
                refine QJ.done ?_
                refine PJ.next ?_
                refine WJ.seq ?_
                refine WJ.seq ?_
                refine WJ.quiet ?_
                refine QJ.step (YldS.yld (y_move rfl)) rfl ?_
                refine QJ.step (YldS.yld (y_move rfl)) rfl ?_
                refine QJ.step (YldS.yld (y_move rfl)) rfl ?_
                obtain ⟨e44, h45, hm⟩ := bindS hm
                obtain ⟨ad46, _, rfl, ha47, hy48⟩ := hr9.elem h45
                refine QJ.step (YldS.yld (hy48 Try.runUnderlying26 Try.sizeOf37 rfl rfl)) rfl ?_
                refine QJ.step (YldS.yld (y_fld (ad := ad46) fld37_0 rfl)) rfl ?_
                refine QJ.step (YldS.yld (y_load1 (v := .int .i64 e44.key) Try.isAgg2 (ha47.sub 0 1) St.frozenC rfl)) rfl ?_
                obtain ⟨e49, h50, hm⟩ := bindS hm
                obtain ⟨ad51, _, rfl, ha52, hy53⟩ := hr3.elem h50
                refine QJ.step (YldS.yld (hy53 Try.runUnderlying24 Try.sizeOf41 rfl rfl)) rfl ?_
                refine QJ.step (YldS.yld (y_fld (ad := ad51) fld41_2 rfl)) rfl ?_
                refine QJ.step (YldS.yld (y_load1 (v := .bool e49.dead) Try.isAgg4 (ha52.sub 2 1) St.frozenC rfl)) rfl ?_
                refine QJ.step (YldS.yld (y_not rfl)) rfl ?_
                refine QJ.done ?_
                refine PJ.next ?_
                refine WJ.cond (t := !e49.dead) rfl (fun hb54 => ?_) (fun hb54 => ?_)
                · replace hm := ifT hm hb54
                  refine WJ.seq ?_
                  refine WJ.quiet ?_
                  refine QJ.step (YldS.yld (y_move rfl)) rfl ?_
                  refine QJ.step (YldS.yld (y_move rfl)) rfl ?_
                  obtain ⟨s55, h56, hm⟩ := bindS hm
                  refine QJ.step (YldS.yld (y_cat h56 rfl rfl)) rfl ?_
                  refine QJ.step (YldS.yld (y_assign rfl)) rfl ?_
                  refine QJ.done ?_
                  refine PJ.next ?_
                  refine WJ.exit ?_
                  refine PJ.then_exit (PJ.block_exit ?_)
                  exact PJ.joined (s55, i31) [] hm ⟨rfl, rfl, rfl, rfl, rfl, trivial⟩ ⟨List.nodup_nil, rfl⟩
                · replace hm := ifF hm hb54
                  refine WJ.skip ?_
                  refine PJ.next ?_
                  refine WJ.seq ?_
                  refine WJ.seq ?_
                  refine WJ.quiet ?_
                  refine QJ.step (YldS.yld (y_move rfl)) rfl ?_
                  refine QJ.step (YldS.yld (y_bin rfl rfl rfl)) rfl ?_
                  refine QJ.step (YldS.yld (y_move rfl)) rfl ?_
                  refine QJ.step (YldS.yld (y_lenS Try.runUnderlying26 hr9 rfl)) rfl ?_
                  refine QJ.step (YldS.yld (y_bin rfl rfl rfl)) rfl ?_
                  refine QJ.done ?_
                  refine PJ.next ?_
                  refine WJ.cond (t := ((w64 (i31 + 1)) == (List.length list7 : Int))) rfl (fun hb57 => ?_) (fun hb57 => ?_)
                  · replace hm := ifT hm hb57
                    refine WJ.seq ?_
                    refine WJ.quiet ?_
                    refine QJ.step (YldS.yld (y_assign rfl)) rfl ?_
                    refine QJ.step (YldS.yld (y_assign rfl)) rfl ?_
                    refine QJ.done ?_
                    refine PJ.next ?_
                    refine WJ.ret ?_
                    refine PJ.then_ret (PJ.block_ret (PJ.then_ret (PJ.then_ret (PJ.block_ret (PJ.then_ret ?_)))))
                    obtain rfl := Option.some.inj hm
                    refine PJ.sel (L' := []) [] ⟨List.nodup_nil, rfl⟩ ?_
                    exact PJ.retn (vs := [str [], .int .i64 6]) Try.results11 ⟨rfl, rfl, trivial⟩ ⟨rfl, rfl⟩
                  · replace hm := ifF hm hb57
                    refine WJ.skip ?_
                    refine PJ.next ?_
                    refine WJ.seq ?_
                    refine WJ.quiet ?_
                    refine QJ.step (YldS.yld (y_assign rfl)) rfl ?_
                    refine QJ.done ?_
                    refine PJ.next ?_
                    obtain ⟨kj59, hk60, hm⟩ := withK_open hm
                    refine WJ.join (X := Str) (fun (x : Str) => kj59 x = some r) (fun (x : Str) => [(0, v2), (1, v5), (2, v8), (10, str out30), (11, .int .i64 i31), (13, str x)]) (fun (x : Str) => []) ?_ ?_
                    · clear hk60
                      refine WJ.seq ?_
                      refine WJ.quiet ?_
                      refine QJ.step (YldS.yld (y_move rfl)) rfl ?_
                      refine QJ.step (YldS.yld (y_lenS Try.runUnderlying25 hr6 rfl)) rfl ?_
                      refine QJ.step (YldS.yld (y_move rfl)) rfl ?_
                      refine QJ.done ?_
                      refine PJ.next ?_
                      refine WJ.block ?_
                      refine WJ.sel (L' := (fun (x : Str × Int) => []) ([], 0)) [] ⟨List.nodup_nil, rfl⟩ ?_
                      refine WJ.sub (m' := (fun (x : Str × Int) => [(0, v2), (1, v5), (2, v8), (10, str out30), (11, .int .i64 i31), (12, str r42), (13, str x.1), (67, v5), (68, .int .i64 (List.length accents4 : Int)), (69, .int .i64 x.2)]) ([], 0)) ⟨rfl, rfl, rfl, rfl, rfl, rfl, rfl, rfl, rfl, rfl, trivial⟩ ?_
                      refine WJ.loop (X := Str × Int) (fun N (x : Str × Int) => i_TextOfPresses_l3 kj59 keys1 accents4 list7 i31 r42 N x.1 x.2 = some r) (fun (x : Str × Int) => [(0, v2), (1, v5), (2, v8), (10, str out30), (11, .int .i64 i31), (12, str r42), (13, str x.1), (67, v5), (68, .int .i64 (List.length accents4 : Int)), (69, .int .i64 x.2)]) (fun (x : Str × Int) => []) ?_ N ([], 0) hm
                      · rintro N ⟨made61, x62⟩ hI
                        have hm := hI; clear hI
                        cases N with
                        | zero => cases hm
                        | succ N =>
                        unfold i_TextOfPresses_l3 at hm
                        refine WJ.seq ?_
                        refine WJ.quiet ?_
                        refine QJ.step (YldS.yld (y_bin rfl rfl rfl)) rfl ?_
                        refine QJ.done ?_
                        refine PJ.next ?_
                        refine WJ.seq ?_
                        refine WJ.cond (t := decide (x62 < (List.length accents4 : Int))) rfl (fun hb63 => ?_) (fun hb63 => ?_)
                        · replace hm := ifT hm hb63
                          refine WJ.skip ?_
                          refine PJ.next ?_
                          obtain ⟨kj65, hk66, hm⟩ := withK_open hm
                          refine WJ.join (X := Str) (fun (x : Str) => kj65 x = some r) (fun (x : Str) => [(0, v2), (1, v5), (2, v8), (10, str out30), (11, .int .i64 i31), (12, str r42), (13, str x), (67, v5), (68, .int .i64 (List.length accents4 : Int)), (69, .int .i64 x62)]) (fun (x : Str) => []) ?_ ?_
                          · clear hk66
                            refine WJ.block ?_
                            refine WJ.seq ?_
                            refine WJ.reg ?_
                            obtain ⟨e67, h68, hm⟩ := bindS hm
                            obtain ⟨ad69, _, rfl, ha70, hy71⟩ := hr6.elem h68
                            refine SJ.q (YldS.yld (hy71 Try.runUnderlying25 Try.sizeOf101 rfl rfl)) rfl ?_
                            refine SJ.q (YldS.yld (y_loadN Try.isAgg101 Try.sizeOf101 rfl ha70 St.frozenC rfl)) rfl ?_
                            refine SJ.alloc (cs := [str [], str [], str []]) Try.zeroValue101 rfl rfl fun g72 => ?_
                            refine SJ.storeL (k := 0) (off := 0) (us := [str e67.mark, str e67.letter, str e67.made]) rfl rfl rfl rfl Try.sizeOf101 rfl rfl ?_
                            refine SJ.nil ?_
                            refine PJ.next ?_
                            refine WJ.seq ?_
                            refine WJ.quiet_draw follows (by kernel_rfl) ?_
                            refine QJ.step (YldS.yld (y_fldB (o := 0) fld101_0 rfl)) rfl ?_
                            refine QJ.step (YldS.yld (y_loadB (k := 0) (off := 0) (v := str e67.mark) rfl Try.isAgg9 rfl rfl)) rfl ?_
                            refine QJ.step (YldS.yld (y_move rfl)) rfl ?_
                            refine QJ.step (YldS.yld (y_binS rfl rfl rfl)) rfl ?_
                            refine QJ.step (YldS.yld (y_move rfl)) rfl ?_
                            obtain ⟨t73, h74, hm⟩ := bindS hm
                            refine QJ.cut 11 [(0, v2), (1, v5), (2, v8), (10, str out30), (11, .int .i64 i31), (12, str r42), (13, str made61), (15, pt g72 0), (67, v5), (68, .int .i64 (List.length accents4 : Int)), (69, .int .i64 x62), (88, .bool t73)] ?_ ?_
                            · rcases Bool.eq_false_or_eq_true (e67.mark == r42) with hb75 | hb75
                              · replace h74 := andT h74 hb75
                                refine QJ.on rfl rfl (cB hb75) (YldS.yld (y_fldB (o := 0) fld101_1 rfl)) rfl ?_
                                refine QJ.on rfl rfl (cB hb75) (YldS.yld (y_loadB (k := 0) (off := 1) (v := str e67.letter) rfl Try.isAgg9 rfl rfl)) rfl ?_
                                refine QJ.on rfl rfl (cB hb75) (YldS.yld (y_move rfl)) rfl ?_
                                refine QJ.on rfl rfl (cB hb75) (YldS.yld (y_move rfl)) rfl ?_
                                refine QJ.on rfl rfl (cB hb75) (YldS.yld (y_move rfl)) rfl ?_
                                refine QJ.on rfl rfl (cB hb75) (YldS.yld (y_bin rfl rfl rfl)) rfl ?_
                                obtain ⟨e76, h77, h74⟩ := bindS h74
                                obtain ⟨ad78, _, rfl, ha79, hy80⟩ := hr9.elem h77
                                refine QJ.on rfl rfl (cB hb75) (YldS.yld (hy80 Try.runUnderlying26 Try.sizeOf37 rfl rfl)) rfl ?_
                                refine QJ.on rfl rfl (cB hb75) (YldS.yld (y_loadN Try.isAgg37 Try.sizeOf37 rfl ha79 St.frozenC rfl)) rfl ?_
                                obtain ⟨r81, h82, h74⟩ := bindS h74
                                refine QJ.on rfl rfl (cB hb75) (y_call Try.call69 rfl (RetG.quiet fun w hw => ok_i_printed h82 w _ (hr3.st hw))) rfl ?_
                                refine QJ.on rfl rfl (cB hb75) (YldS.yld (y_binS rfl rfl rfl)) rfl ?_
                                refine QJ.step (YldS.yld (y_pick_t (cB hb75) rfl)) rfl ?_
                                obtain rfl := Option.some.inj h74
                                exact QJ.cut_end ⟨rfl, rfl, rfl, rfl, rfl, rfl, rfl, rfl, rfl, rfl, rfl, rfl, trivial⟩
                              · obtain rfl := andF h74 hb75
                                refine QJ.off rfl rfl (cB hb75) rfl rfl ?_
                                refine QJ.off rfl rfl (cB hb75) rfl rfl ?_
                                refine QJ.off rfl rfl (cB hb75) rfl rfl ?_
                                refine QJ.off rfl rfl (cB hb75) rfl rfl ?_
                                refine QJ.off rfl rfl (cB hb75) rfl rfl ?_
                                refine QJ.off rfl rfl (cB hb75) rfl rfl ?_
                                refine QJ.off rfl rfl (cB hb75) rfl rfl ?_
                                refine QJ.off rfl rfl (cB hb75) rfl rfl ?_
                                refine QJ.off rfl rfl (cB hb75) rfl rfl ?_
                                refine QJ.off rfl rfl (cB hb75) rfl rfl ?_
                                refine QJ.step (YldS.yld (y_pick_f (cB hb75) rfl)) rfl ?_
                                exact QJ.cut_end ⟨rfl, rfl, rfl, rfl, rfl, rfl, rfl, rfl, rfl, rfl, rfl, rfl, trivial⟩
                            refine QJ.done ?_
                            refine PJ.next ?_
                            refine WJ.cond (t := t73) rfl (fun hb83 => ?_) (fun hb83 => ?_)
                            · replace hm := ifT hm hb83
                              refine WJ.quiet ?_
                              refine QJ.step (YldS.yld (y_fldB (o := 0) fld101_2 rfl)) rfl ?_
                              refine QJ.step (YldS.yld (y_loadB (k := 0) (off := 2) (v := str e67.made) rfl Try.isAgg9 rfl rfl)) rfl ?_
                              refine QJ.step (YldS.yld (y_assign rfl)) rfl ?_
                              refine QJ.done ?_
                              refine PJ.block_normal ?_
                              exact PJ.joined e67.made [] hm ⟨rfl, rfl, rfl, rfl, rfl, rfl, rfl, rfl, rfl, rfl, trivial⟩ ⟨List.nodup_nil, rfl⟩
                            · replace hm := ifF hm hb83
                              refine WJ.skip ?_
                              refine PJ.block_normal ?_
                              exact PJ.joined made61 [] hm ⟨rfl, rfl, rfl, rfl, rfl, rfl, rfl, rfl, rfl, rfl, trivial⟩ ⟨List.nodup_nil, rfl⟩
                          · rintro made64 hm
                            subst hk66
                            refine WJ.quiet ?_
                            refine QJ.step (YldS.yld (y_bin rfl rfl rfl)) rfl ?_
                            refine QJ.step (YldS.yld (y_move rfl)) rfl ?_
                            refine QJ.done ?_
                            exact PJ.round (made64, w64 (x62 + 1)) [] hm ⟨rfl, rfl, rfl, rfl, rfl, rfl, rfl, rfl, rfl, rfl, trivial⟩ ⟨List.nodup_nil, rfl⟩
                        · replace hm := ifF hm hb63
                          refine WJ.exit ?_
                          refine PJ.then_exit (PJ.then_exit (PJ.block_exit ?_))
                          exact PJ.joined made61 [] hm ⟨rfl, rfl, rfl, rfl, rfl, rfl, trivial⟩ ⟨List.nodup_nil, rfl⟩
                    · rintro made58 hm
                      subst hk60
                      refine WJ.seq ?_
                      refine WJ.seq ?_
                      refine WJ.quiet ?_
                      refine QJ.step (YldS.yld (y_move rfl)) rfl ?_
                      refine QJ.step (YldS.yld (y_binS rfl rfl rfl)) rfl ?_
                      refine QJ.done ?_
                      refine PJ.next ?_
                      refine WJ.cond (t := (made58 == [])) rfl (fun hb84 => ?_) (fun hb84 => ?_)
                      · replace hm := ifT hm hb84
                        refine WJ.seq ?_
                        refine WJ.quiet ?_
                        refine QJ.step (YldS.yld (y_assign rfl)) rfl ?_
                        refine QJ.step (YldS.yld (y_assign rfl)) rfl ?_
                        refine QJ.done ?_
                        refine PJ.next ?_
                        refine WJ.ret ?_
                        refine PJ.then_ret (PJ.block_ret (PJ.then_ret (PJ.then_ret (PJ.block_ret (PJ.then_ret ?_)))))
                        obtain rfl := Option.some.inj hm
                        refine PJ.sel (L' := []) [] ⟨List.nodup_nil, rfl⟩ ?_
                        exact PJ.retn (vs := [str [], .int .i64 6]) Try.results11 ⟨rfl, rfl, trivial⟩ ⟨rfl, rfl⟩
                      · replace hm := ifF hm hb84
                        refine WJ.skip ?_
                        refine PJ.next ?_
                        refine WJ.seq ?_
                        refine WJ.quiet ?_
                        refine QJ.step (YldS.yld (y_move rfl)) rfl ?_
                        refine QJ.step (YldS.yld (y_move rfl)) rfl ?_
                        obtain ⟨s85, h86, hm⟩ := bindS hm
                        refine QJ.step (YldS.yld (y_cat h86 rfl rfl)) rfl ?_
                        refine QJ.step (YldS.yld (y_assign rfl)) rfl ?_
                        refine QJ.done ?_
                        refine PJ.next ?_
                        refine WJ.quiet ?_
                        refine QJ.step (YldS.yld (y_move rfl)) rfl ?_
                        refine QJ.step (YldS.yld (y_bin rfl rfl rfl)) rfl ?_
                        refine QJ.step (YldS.yld (y_assign rfl)) rfl ?_
                        refine QJ.done ?_
                        refine PJ.block_normal ?_
                        exact PJ.joined (s85, w64 (i31 + 1)) [] hm ⟨rfl, rfl, rfl, rfl, rfl, trivial⟩ ⟨List.nodup_nil, rfl⟩
              · rintro ⟨out33, i34⟩ hm
                subst hk36
                refine WJ.quiet ?_
                refine QJ.step (YldS.yld (y_move rfl)) rfl ?_
                refine QJ.step (YldS.yld (y_bin rfl rfl rfl)) rfl ?_
                refine QJ.step (YldS.yld (y_assign rfl)) rfl ?_
                refine QJ.done ?_
                exact PJ.round (out33, w64 (i34 + 1)) [] hm ⟨rfl, rfl, rfl, rfl, rfl, trivial⟩ ⟨List.nodup_nil, rfl⟩
            · replace hm := ifF hm hb32
              refine WJ.exit ?_
              refine PJ.then_exit (PJ.then_exit (PJ.block_exit ?_))
              exact PJ.joined out30 [] hm ⟨rfl, trivial⟩ ⟨List.nodup_nil, rfl⟩
        · rintro out27 hm
          subst hk29
          refine WJ.seq ?_
          refine WJ.quiet ?_
          refine QJ.step (YldS.yld (y_move rfl)) rfl ?_
          refine QJ.step (YldS.yld (y_assign rfl)) rfl ?_
          refine QJ.step (YldS.yld (y_assign rfl)) rfl ?_
          refine QJ.done ?_
          refine PJ.next ?_
          refine WJ.ret ?_
          obtain rfl := Option.some.inj hm
          refine PJ.sel (L' := []) [] ⟨List.nodup_nil, rfl⟩ ?_
          exact PJ.retn (vs := [str out27, .int .i64 0]) Try.results11 ⟨rfl, rfl, trivial⟩ ⟨rfl, rfl⟩

set_option maxRecDepth 100000 in
set_option maxHeartbeats 1000000 in
theorem ok_s_l00In {n1 : Int} {low2 : Int} {high3 : Int} {r : Bool} (hm : s_l00In n1 low2 high3 = some r) (w : World)  :
    Calls Try.prog 71 #[.int .i64 n1, .int .i64 low2, .int .i64 high3] w (Ret (cx w) (.bool r)) := by
  unfold s_l00In at hm
  refine Calls.enter [.int .i64 n1, .int .i64 low2, .int .i64 high3] Try.func71 rfl Try.ntmps71 rfl ?_
  refine WJ.seq ?_
  refine WJ.quiet ?_
  refine QJ.step (YldS.yld (y_assign rfl)) rfl ?_
  refine QJ.done ?_
  refine PJ.next ?_
  refine WJ.seq ?_
  refine WJ.quiet ?_
  refine QJ.step (YldS.yld (y_move rfl)) rfl ?_
  refine QJ.step (YldS.yld (y_move rfl)) rfl ?_
  refine QJ.step (YldS.yld (y_bin rfl rfl rfl)) rfl ?_
  refine QJ.step (YldS.yld (y_move rfl)) rfl ?_
  obtain ⟨t4, h5, hm⟩ := bindS hm
  refine QJ.cut 4 [(14, .bool t4)] ?_ ?_
  · rcases Bool.eq_false_or_eq_true (decide (n1 ≥ low2)) with hb6 | hb6
    · replace h5 := andT h5 hb6
      refine QJ.on rfl rfl (cB hb6) (YldS.yld (y_move rfl)) rfl ?_
      refine QJ.on rfl rfl (cB hb6) (YldS.yld (y_move rfl)) rfl ?_
      refine QJ.on rfl rfl (cB hb6) (YldS.yld (y_bin rfl rfl rfl)) rfl ?_
      refine QJ.step (YldS.yld (y_pick_t (cB hb6) rfl)) rfl ?_
      obtain rfl := Option.some.inj h5
      exact QJ.cut_end ⟨rfl, trivial⟩
    · obtain rfl := andF h5 hb6
      refine QJ.off rfl rfl (cB hb6) rfl rfl ?_
      refine QJ.off rfl rfl (cB hb6) rfl rfl ?_
      refine QJ.off rfl rfl (cB hb6) rfl rfl ?_
      refine QJ.step (YldS.yld (y_pick_f (cB hb6) rfl)) rfl ?_
      exact QJ.cut_end ⟨rfl, trivial⟩
  refine QJ.step (YldS.yld (y_assign rfl)) rfl ?_
  refine QJ.done ?_
  refine PJ.next ?_
  refine WJ.ret ?_
  obtain rfl := Option.some.inj hm
  refine PJ.sel (L' := []) [] ⟨List.nodup_nil, rfl⟩ ?_
  exact PJ.retn (vs := [.bool t4]) Try.results71 ⟨rfl, trivial⟩ ⟨rfl, rfl⟩

set_option maxRecDepth 100000 in
set_option maxHeartbeats 1000000 in
theorem ok_s_l02Print {keys1 : List Key} {p4 : Press} {r : Str} (hm : s_l02Print keys1 p4 = some r) (w : World) (v2 : Value) (hr3 : RdS w (cx w).Fz v2 fKey.rp keys1) :
    Calls Try.prog 72 #[v2, .agg (Press.enc p4).toArray] w (Ret (cx w) (str r)) := by
  unfold s_l02Print at hm
  refine Calls.enter [v2, .agg (Press.enc p4).toArray] Try.func72 rfl Try.ntmps72 rfl ?_
  refine WJ.seq ?_
  refine WJ.reg ?_
  refine SJ.box (cs := [.int .i64 p4.key, .bool p4.shift]) rfl rfl rfl fun g5 => ?_
  refine SJ.q (YldS.yld (y_assign rfl)) rfl ?_
  refine SJ.nil ?_
  refine PJ.next ?_
  refine WJ.seq ?_
  refine WJ.seq ?_
  refine WJ.quiet ?_
  refine QJ.step (YldS.yld (y_fldB (o := 0) fld37_1 rfl)) rfl ?_
  refine QJ.step (YldS.yld (y_loadB (k := 0) (off := 1) (v := .bool p4.shift) rfl Try.isAgg4 rfl rfl)) rfl ?_
  refine QJ.done ?_
  refine PJ.next ?_
  refine WJ.cond (t := p4.shift) rfl (fun hb6 => ?_) (fun hb6 => ?_)
  · replace hm := ifT hm hb6
    refine WJ.seq ?_
    refine WJ.quiet ?_
    refine QJ.step (YldS.yld (y_move rfl)) rfl ?_
    refine QJ.step (YldS.yld (y_fldB (o := 0) fld37_0 rfl)) rfl ?_
    refine QJ.step (YldS.yld (y_loadB (k := 0) (off := 0) (v := .int .i64 p4.key) rfl Try.isAgg2 rfl rfl)) rfl ?_
    obtain ⟨e7, h8, hm⟩ := bindS hm
    obtain ⟨ad9, _, rfl, ha10, hy11⟩ := hr3.elem h8
    refine QJ.step (YldS.yld (hy11 Try.runUnderlying24 Try.sizeOf41 rfl rfl)) rfl ?_
    refine QJ.step (YldS.yld (y_fld (ad := ad9) fld41_1 rfl)) rfl ?_
    refine QJ.step (YldS.yld (y_load1 (v := str e7.high) Try.isAgg9 (ha10.sub 1 1) St.frozenC rfl)) rfl ?_
    refine QJ.step (YldS.yld (y_assign rfl)) rfl ?_
    refine QJ.done ?_
    refine PJ.next ?_
    refine WJ.ret ?_
    refine PJ.then_ret ?_
    obtain rfl := Option.some.inj hm
    refine PJ.sel (L' := []) [] ⟨List.nodup_nil, rfl⟩ ?_
    exact PJ.retn (vs := [str e7.high]) Try.results72 ⟨rfl, trivial⟩ ⟨rfl, rfl⟩
  · replace hm := ifF hm hb6
    refine WJ.skip ?_
    refine PJ.next ?_
    refine WJ.seq ?_
    refine WJ.quiet ?_
    refine QJ.step (YldS.yld (y_move rfl)) rfl ?_
    refine QJ.step (YldS.yld (y_fldB (o := 0) fld37_0 rfl)) rfl ?_
    refine QJ.step (YldS.yld (y_loadB (k := 0) (off := 0) (v := .int .i64 p4.key) rfl Try.isAgg2 rfl rfl)) rfl ?_
    obtain ⟨e12, h13, hm⟩ := bindS hm
    obtain ⟨ad14, _, rfl, ha15, hy16⟩ := hr3.elem h13
    refine QJ.step (YldS.yld (hy16 Try.runUnderlying24 Try.sizeOf41 rfl rfl)) rfl ?_
    refine QJ.step (YldS.yld (y_fld (ad := ad14) fld41_0 rfl)) rfl ?_
    refine QJ.step (YldS.yld (y_load1 (v := str e12.low) Try.isAgg9 (ha15.sub 0 1) St.frozenC rfl)) rfl ?_
    refine QJ.step (YldS.yld (y_assign rfl)) rfl ?_
    refine QJ.done ?_
    refine PJ.next ?_
    refine WJ.ret ?_
    obtain rfl := Option.some.inj hm
    refine PJ.sel (L' := []) [] ⟨List.nodup_nil, rfl⟩ ?_
    exact PJ.retn (vs := [str e12.low]) Try.results72 ⟨rfl, trivial⟩ ⟨rfl, rfl⟩

set_option maxRecDepth 100000 in
set_option maxHeartbeats 1000000 in
theorem ok_s_TextOfPresses {N : Nat} {keys1 : List Key} {accents4 : List Accent} {list7 : List Press} {r : Str × Int} (hm : s_TextOfPresses N keys1 accents4 list7 = some r) (w : World) (v2 : Value) (hr3 : RdS w (cx w).Fz v2 fKey.rp keys1) (v5 : Value) (hr6 : RdS w (cx w).Fz v5 fAccent.rp accents4) (v8 : Value) (hr9 : RdS w (cx w).Fz v8 fPress.rp list7) :
    Calls Try.prog 12 #[v2, v5, v8] w (Ret (cx w) (tup [str r.1, .int .i64 r.2])) := by
  unfold s_TextOfPresses at hm
  refine Calls.enter [v2, v5, v8] Try.func12 rfl Try.ntmps12 rfl ?_
  refine WJ.seq ?_
  refine WJ.quiet ?_
  refine QJ.step (YldS.yld (y_assign rfl)) rfl ?_
  refine QJ.step (YldS.yld (y_assign rfl)) rfl ?_
  refine QJ.done ?_
  refine PJ.next ?_
  refine WJ.seq ?_
  refine WJ.seq ?_
  refine WJ.quiet ?_
  refine QJ.step (YldS.yld (y_move rfl)) rfl ?_
  refine QJ.step (YldS.yld (y_move rfl)) rfl ?_
  obtain ⟨r10, h11, hm⟩ := bindS hm
  refine QJ.step (y_call Try.call70 rfl (RetG.quiet fun w hw => ok_s_l02Ok h11 w _ (hr3.st hw) _ (hr6.st hw))) rfl ?_
  refine QJ.step (YldS.yld (y_not rfl)) rfl ?_
  refine QJ.done ?_
  refine PJ.next ?_
  refine WJ.cond (t := !r10) rfl (fun hb12 => ?_) (fun hb12 => ?_)
  · replace hm := ifT hm hb12
    refine WJ.seq ?_
    refine WJ.quiet ?_
    refine QJ.step (YldS.yld (y_assign rfl)) rfl ?_
    refine QJ.step (YldS.yld (y_assign rfl)) rfl ?_
    refine QJ.done ?_
    refine PJ.next ?_
    refine WJ.ret ?_
    refine PJ.then_ret ?_
    obtain rfl := Option.some.inj hm
    refine PJ.sel (L' := []) [] ⟨List.nodup_nil, rfl⟩ ?_
    exact PJ.retn (vs := [str [], .int .i64 1]) Try.results12 ⟨rfl, rfl, trivial⟩ ⟨rfl, rfl⟩
  · replace hm := ifF hm hb12
    refine WJ.skip ?_
    refine PJ.next ?_
    obtain ⟨kj13, hk14, hm⟩ := withK_open hm
    refine WJ.join (X := Unit) (fun (_ : Unit) => kj13  = some r) (fun (_ : Unit) => [(0, v2), (1, v5), (2, v8)]) (fun (_ : Unit) => []) ?_ ?_
    · clear hk14
      refine WJ.seq ?_
      refine WJ.quiet ?_
      refine QJ.step (YldS.yld (y_assign rfl)) rfl ?_
      refine QJ.done ?_
      refine PJ.next ?_
      refine WJ.block ?_
      refine WJ.sel (L' := (fun (x : Int) => []) 0) [] ⟨List.nodup_nil, rfl⟩ ?_
      refine WJ.sub (m' := (fun (x : Int) => [(0, v2), (1, v5), (2, v8), (8, .int .i64 x)]) 0) ⟨rfl, rfl, rfl, rfl, trivial⟩ ?_
      refine WJ.loop (X := Int) (fun N (x : Int) => s_TextOfPresses_l1 kj13 keys1 list7 N x = some r) (fun (x : Int) => [(0, v2), (1, v5), (2, v8), (8, .int .i64 x)]) (fun (x : Int) => []) ?_ N 0 hm
      · rintro N i15 hI
        have hm := hI; clear hI
        cases N with
        | zero => cases hm
        | succ N =>
        unfold s_TextOfPresses_l1 at hm
        refine WJ.seq ?_
        refine WJ.seq ?_
        refine WJ.quiet ?_
        refine QJ.step (YldS.yld (y_move rfl)) rfl ?_
        refine QJ.step (YldS.yld (y_move rfl)) rfl ?_
        refine QJ.step (YldS.yld (y_lenS Try.runUnderlying26 hr9 rfl)) rfl ?_
        refine QJ.step (YldS.yld (y_bin rfl rfl rfl)) rfl ?_
        refine QJ.done ?_
        refine PJ.next ?_
        refine WJ.cond (t := decide (i15 < (List.length list7 : Int))) rfl (fun hb16 => ?_) (fun hb16 => ?_)
        · replace hm := ifT hm hb16
          refine WJ.skip ?_
          refine PJ.next ?_
          refine WJ.seq ?_
          refine WJ.block ?_
          refine WJ.seq ?_
          refine WJ.quiet ?_
          refine QJ.step (YldS.yld (y_move rfl)) rfl ?_
          refine QJ.step (YldS.yld (y_move rfl)) rfl ?_
          obtain ⟨e17, h18, hm⟩ := bindS hm
          obtain ⟨ad19, _, rfl, ha20, hy21⟩ := hr9.elem h18
          refine QJ.step (YldS.yld (hy21 Try.runUnderlying26 Try.sizeOf37 rfl rfl)) rfl ?_
          refine QJ.step (YldS.yld (y_fld (ad := ad19) fld37_0 rfl)) rfl ?_
          refine QJ.step (YldS.yld (y_load1 (v := .int .i64 e17.key) Try.isAgg2 (ha20.sub 0 1) St.frozenC rfl)) rfl ?_
          refine QJ.step (YldS.yld (y_move rfl)) rfl ?_
          refine QJ.step (YldS.yld (y_lenS Try.runUnderlying24 hr3 rfl)) rfl ?_
          refine QJ.step (YldS.yld (y_bin rfl rfl rfl)) rfl ?_
          obtain ⟨r22, h23, hm⟩ := bindS hm
          refine QJ.step (y_call Try.call71 rfl (RetG.quiet fun w hw => ok_s_l00In h23 w )) rfl ?_
          refine QJ.step (YldS.yld (y_not rfl)) rfl ?_
          refine QJ.done ?_
          refine PJ.next ?_
          refine WJ.cond (t := !r22) rfl (fun hb24 => ?_) (fun hb24 => ?_)
          · replace hm := ifT hm hb24
            refine WJ.seq ?_
            refine WJ.quiet ?_
            refine QJ.step (YldS.yld (y_assign rfl)) rfl ?_
            refine QJ.step (YldS.yld (y_assign rfl)) rfl ?_
            refine QJ.done ?_
            refine PJ.next ?_
            refine WJ.ret ?_
            refine PJ.block_ret (PJ.then_ret (PJ.then_ret (PJ.block_ret (PJ.then_ret ?_))))
            obtain rfl := Option.some.inj hm
            refine PJ.sel (L' := []) [] ⟨List.nodup_nil, rfl⟩ ?_
            exact PJ.retn (vs := [str [], .int .i64 2]) Try.results12 ⟨rfl, rfl, trivial⟩ ⟨rfl, rfl⟩
          · replace hm := ifF hm hb24
            refine WJ.skip ?_
            refine PJ.block_normal (PJ.next ?_)
            refine WJ.quiet ?_
            refine QJ.step (YldS.yld (y_move rfl)) rfl ?_
            refine QJ.step (YldS.yld (y_bin rfl rfl rfl)) rfl ?_
            refine QJ.step (YldS.yld (y_assign rfl)) rfl ?_
            refine QJ.done ?_
            exact PJ.round (w64 (i15 + 1)) [] hm ⟨rfl, rfl, rfl, rfl, trivial⟩ ⟨List.nodup_nil, rfl⟩
        · replace hm := ifF hm hb16
          refine WJ.exit ?_
          refine PJ.then_exit (PJ.then_exit (PJ.block_exit ?_))
          exact PJ.joined () [] hm ⟨rfl, rfl, rfl, trivial⟩ ⟨List.nodup_nil, rfl⟩
    · rintro _ hm
      subst hk14
      refine WJ.seq ?_
      refine WJ.seq ?_
      refine WJ.quiet ?_
      refine QJ.step (YldS.yld (y_move rfl)) rfl ?_
      refine QJ.step (YldS.yld (y_lenS Try.runUnderlying26 hr9 rfl)) rfl ?_
      refine QJ.step (YldS.yld (y_bin rfl rfl rfl)) rfl ?_
      refine QJ.done ?_
      refine PJ.next ?_
      refine WJ.cond (t := decide ((List.length list7 : Int) > 200)) rfl (fun hb25 => ?_) (fun hb25 => ?_)
      · replace hm := ifT hm hb25
        refine WJ.seq ?_
        refine WJ.quiet ?_
        refine QJ.step (YldS.yld (y_assign rfl)) rfl ?_
        refine QJ.step (YldS.yld (y_assign rfl)) rfl ?_
        refine QJ.done ?_
        refine PJ.next ?_
        refine WJ.ret ?_
        refine PJ.then_ret ?_
        obtain rfl := Option.some.inj hm
        refine PJ.sel (L' := []) [] ⟨List.nodup_nil, rfl⟩ ?_
        exact PJ.retn (vs := [str [], .int .i64 2]) Try.results12 ⟨rfl, rfl, trivial⟩ ⟨rfl, rfl⟩
      · replace hm := ifF hm hb25
        refine WJ.skip ?_
        refine PJ.next ?_
        refine WJ.seq ?_
        refine WJ.quiet ?_
        refine QJ.step (YldS.yld (y_assign rfl)) rfl ?_
        refine QJ.done ?_
        refine PJ.next ?_
        obtain ⟨kj27, hk28, hm⟩ := withK_open hm
        refine WJ.join (X := Str) (fun (x : Str) => kj27 x = some r) (fun (x : Str) => [(9, str x)]) (fun (x : Str) => []) ?_ ?_
        · clear hk28
          refine WJ.seq ?_
          refine WJ.quiet ?_
          refine QJ.step (YldS.yld (y_assign rfl)) rfl ?_
          refine QJ.done ?_
          refine PJ.next ?_
          refine WJ.block ?_
          refine WJ.sel (L' := (fun (x : Str × Int) => []) ([], 0)) [] ⟨List.nodup_nil, rfl⟩ ?_
          refine WJ.sub (m' := (fun (x : Str × Int) => [(0, v2), (1, v5), (2, v8), (9, str x.1), (10, .int .i64 x.2)]) ([], 0)) ⟨rfl, rfl, rfl, rfl, rfl, trivial⟩ ?_
          refine WJ.loop (X := Str × Int) (fun N (x : Str × Int) => s_TextOfPresses_l2 kj27 keys1 accents4 list7 N x.1 x.2 = some r) (fun (x : Str × Int) => [(0, v2), (1, v5), (2, v8), (9, str x.1), (10, .int .i64 x.2)]) (fun (x : Str × Int) => []) ?_ N ([], 0) hm
          · rintro N ⟨out29, i30⟩ hI
            have hm := hI; clear hI
            cases N with
            | zero => cases hm
            | succ N =>
            unfold s_TextOfPresses_l2 at hm
            refine WJ.seq ?_
            refine WJ.seq ?_
            refine WJ.quiet ?_
            refine QJ.step (YldS.yld (y_move rfl)) rfl ?_
            refine QJ.step (YldS.yld (y_move rfl)) rfl ?_
            refine QJ.step (YldS.yld (y_lenS Try.runUnderlying26 hr9 rfl)) rfl ?_
            refine QJ.step (YldS.yld (y_bin rfl rfl rfl)) rfl ?_
            refine QJ.done ?_
            refine PJ.next ?_
            refine WJ.cond (t := decide (i30 < (List.length list7 : Int))) rfl (fun hb31 => ?_) (fun hb31 => ?_)
            · replace hm := ifT hm hb31
              refine WJ.skip ?_
              refine PJ.next ?_
              obtain ⟨kj34, hk35, hm⟩ := withK_open hm
              refine WJ.join (X := Str × Int) (fun (x : Str × Int) => kj34 x.1 x.2 = some r) (fun (x : Str × Int) => [(0, v2), (1, v5), (2, v8), (9, str x.1), (10, .int .i64 x.2)]) (fun (x : Str × Int) => []) ?_ ?_
              · clear hk35
                refine WJ.block ?_
                refine WJ.seq ?_
                refine WJ.quiet ?_
                refine QJ.step (YldS.yld (y_move rfl)) rfl ?_
                refine QJ.step (YldS.yld (y_move rfl)) rfl ?_
                refine QJ.step (YldS.yld (y_move rfl)) rfl ?_
                obtain ⟨e36, h37, hm⟩ := bindS hm
                obtain ⟨ad38, _, rfl, ha39, hy40⟩ := hr9.elem h37
                refine QJ.step (YldS.yld (hy40 Try.runUnderlying26 Try.sizeOf37 rfl rfl)) rfl ?_
                refine QJ.step (YldS.yld (y_loadN Try.isAgg37 Try.sizeOf37 rfl ha39 St.frozenC rfl)) rfl ?_
                obtain ⟨r41, h42, hm⟩ := bindS hm
                refine QJ.step (y_call Try.call72 rfl (RetG.quiet fun w hw => ok_s_l02Print h42 w _ (hr3.st hw))) rfl ?_
                refine QJ.step (YldS.yld (y_assign rfl)) rfl ?_
                refine QJ.done ?_
                refine PJ.next ?_
                refine WJ.seq ?_
                refine WJ.seq ?_
                refine WJ.quiet ?_
                refine QJ.step (YldS.yld (y_move rfl)) rfl ?_
                refine QJ.step (YldS.yld (y_move rfl)) rfl ?_
                refine QJ.step (YldS.yld (y_move rfl)) rfl ?_
                obtain ⟨e43, h44, hm⟩ := bindS hm
                obtain ⟨ad45, _, rfl, ha46, hy47⟩ := hr9.elem h44
                refine QJ.step (YldS.yld (hy47 Try.runUnderlying26 Try.sizeOf37 rfl rfl)) rfl ?_
                refine QJ.step (YldS.yld (y_fld (ad := ad45) fld37_0 rfl)) rfl ?_
                refine QJ.step (YldS.yld (y_load1 (v := .int .i64 e43.key) Try.isAgg2 (ha46.sub 0 1) St.frozenC rfl)) rfl ?_
                obtain ⟨e48, h49, hm⟩ := bindS hm
                obtain ⟨ad50, _, rfl, ha51, hy52⟩ := hr3.elem h49
                refine QJ.step (YldS.yld (hy52 Try.runUnderlying24 Try.sizeOf41 rfl rfl)) rfl ?_
                refine QJ.step (YldS.yld (y_fld (ad := ad50) fld41_2 rfl)) rfl ?_
                refine QJ.step (YldS.yld (y_load1 (v := .bool e48.dead) Try.isAgg4 (ha51.sub 2 1) St.frozenC rfl)) rfl ?_
                refine QJ.step (YldS.yld (y_not rfl)) rfl ?_
                refine QJ.done ?_
                refine PJ.next ?_
                refine WJ.cond (t := !e48.dead) rfl (fun hb53 => ?_) (fun hb53 => ?_)
                · replace hm := ifT hm hb53
                  refine WJ.seq ?_
                  refine WJ.quiet ?_
                  refine QJ.step (YldS.yld (y_move rfl)) rfl ?_
                  refine QJ.step (YldS.yld (y_move rfl)) rfl ?_
                  obtain ⟨s54, h55, hm⟩ := bindS hm
                  refine QJ.step (YldS.yld (y_cat h55 rfl rfl)) rfl ?_
                  refine QJ.step (YldS.yld (y_assign rfl)) rfl ?_
                  refine QJ.done ?_
                  refine PJ.next ?_
                  refine WJ.exit ?_
                  refine PJ.then_exit (PJ.block_exit ?_)
                  exact PJ.joined (s54, i30) [] hm ⟨rfl, rfl, rfl, rfl, rfl, trivial⟩ ⟨List.nodup_nil, rfl⟩
                · replace hm := ifF hm hb53
                  refine WJ.skip ?_
                  refine PJ.next ?_
                  refine WJ.seq ?_
                  refine WJ.quiet ?_
                  refine QJ.step (YldS.yld (y_move rfl)) rfl ?_
                  refine QJ.step (YldS.yld (y_bin rfl rfl rfl)) rfl ?_
                  refine QJ.step (YldS.yld (y_assign rfl)) rfl ?_
                  refine QJ.done ?_
                  refine PJ.next ?_
                  refine WJ.seq ?_
                  refine WJ.quiet ?_
                  refine QJ.step (YldS.yld (y_assign rfl)) rfl ?_
                  refine QJ.done ?_
                  refine PJ.next ?_
                  obtain ⟨kj57, hk58, hm⟩ := withK_open hm
                  refine WJ.join (X := Str) (fun (x : Str) => kj57 x = some r) (fun (x : Str) => [(0, v2), (1, v5), (2, v8), (9, str out29), (10, .int .i64 (w64 (i30 + 1))), (12, str x)]) (fun (x : Str) => []) ?_ ?_
                  · clear hk58
                    refine WJ.seq ?_
                    refine WJ.quiet ?_
                    refine QJ.step (YldS.yld (y_assign rfl)) rfl ?_
                    refine QJ.done ?_
                    refine PJ.next ?_
                    refine WJ.block ?_
                    refine WJ.sel (L' := (fun (x : Str × Int) => []) ([], 0)) [] ⟨List.nodup_nil, rfl⟩ ?_
                    refine WJ.sub (m' := (fun (x : Str × Int) => [(0, v2), (1, v5), (2, v8), (9, str out29), (10, .int .i64 (w64 (i30 + 1))), (11, str r41), (12, str x.1), (13, .int .i64 x.2)]) ([], 0)) ⟨rfl, rfl, rfl, rfl, rfl, rfl, rfl, rfl, trivial⟩ ?_
                    refine WJ.loop (X := Str × Int) (fun N (x : Str × Int) => s_TextOfPresses_l3 kj57 keys1 accents4 list7 i30 r41 N x.1 x.2 = some r) (fun (x : Str × Int) => [(0, v2), (1, v5), (2, v8), (9, str out29), (10, .int .i64 (w64 (i30 + 1))), (11, str r41), (12, str x.1), (13, .int .i64 x.2)]) (fun (x : Str × Int) => []) ?_ N ([], 0) hm
                    · rintro N ⟨made59, k60⟩ hI
                      have hm := hI; clear hI
                      cases N with
                      | zero => cases hm
                      | succ N =>
                      unfold s_TextOfPresses_l3 at hm
                      refine WJ.seq ?_
                      refine WJ.seq ?_
                      refine WJ.quiet ?_
                      refine QJ.step (YldS.yld (y_move rfl)) rfl ?_
                      refine QJ.step (YldS.yld (y_move rfl)) rfl ?_
                      refine QJ.step (YldS.yld (y_lenS Try.runUnderlying25 hr6 rfl)) rfl ?_
                      refine QJ.step (YldS.yld (y_bin rfl rfl rfl)) rfl ?_
                      refine QJ.step (YldS.yld (y_move rfl)) rfl ?_
                      obtain ⟨t61, h62, hm⟩ := bindS hm
                      refine QJ.cut 5 [(0, v2), (1, v5), (2, v8), (9, str out29), (10, .int .i64 (w64 (i30 + 1))), (11, str r41), (12, str made59), (13, .int .i64 k60), (73, .bool t61)] ?_ ?_
                      · rcases Bool.eq_false_or_eq_true (decide (k60 < (List.length accents4 : Int))) with hb63 | hb63
                        · replace h62 := andT h62 hb63
                          refine QJ.on rfl rfl (cB hb63) (YldS.yld (y_move rfl)) rfl ?_
                          refine QJ.on rfl rfl (cB hb63) (YldS.yld (y_move rfl)) rfl ?_
                          refine QJ.on rfl rfl (cB hb63) (YldS.yld (y_lenS Try.runUnderlying26 hr9 rfl)) rfl ?_
                          refine QJ.on rfl rfl (cB hb63) (YldS.yld (y_bin rfl rfl rfl)) rfl ?_
                          refine QJ.step (YldS.yld (y_pick_t (cB hb63) rfl)) rfl ?_
                          obtain rfl := Option.some.inj h62
                          exact QJ.cut_end ⟨rfl, rfl, rfl, rfl, rfl, rfl, rfl, rfl, rfl, trivial⟩
                        · obtain rfl := andF h62 hb63
                          refine QJ.off rfl rfl (cB hb63) rfl rfl ?_
                          refine QJ.off rfl rfl (cB hb63) rfl rfl ?_
                          refine QJ.off rfl rfl (cB hb63) rfl rfl ?_
                          refine QJ.off rfl rfl (cB hb63) rfl rfl ?_
                          refine QJ.step (YldS.yld (y_pick_f (cB hb63) rfl)) rfl ?_
                          exact QJ.cut_end ⟨rfl, rfl, rfl, rfl, rfl, rfl, rfl, rfl, rfl, trivial⟩
                      refine QJ.done ?_
                      refine PJ.next ?_
                      refine WJ.cond (t := t61) rfl (fun hb64 => ?_) (fun hb64 => ?_)
                      · replace hm := ifT hm hb64
                        refine WJ.skip ?_
                        refine PJ.next ?_
                        obtain ⟨kj66, hk67, hm⟩ := withK_open hm
                        refine WJ.join (X := Str) (fun (x : Str) => kj66 x = some r) (fun (x : Str) => [(0, v2), (1, v5), (2, v8), (9, str out29), (10, .int .i64 (w64 (i30 + 1))), (11, str r41), (12, str x), (13, .int .i64 k60)]) (fun (x : Str) => []) ?_ ?_
                        · clear hk67
                          refine WJ.block ?_
                          refine WJ.seq ?_
                          refine WJ.quiet_draw follows (by kernel_rfl) ?_
                          refine QJ.step (YldS.yld (y_move rfl)) rfl ?_
                          refine QJ.step (YldS.yld (y_move rfl)) rfl ?_
                          obtain ⟨e68, h69, hm⟩ := bindS hm
                          obtain ⟨ad70, _, rfl, ha71, hy72⟩ := hr6.elem h69
                          refine QJ.step (YldS.yld (hy72 Try.runUnderlying25 Try.sizeOf101 rfl rfl)) rfl ?_
                          refine QJ.step (YldS.yld (y_fld (ad := ad70) fld101_0 rfl)) rfl ?_
                          refine QJ.step (YldS.yld (y_load1 (v := str e68.mark) Try.isAgg9 (ha71.sub 0 1) St.frozenC rfl)) rfl ?_
                          refine QJ.step (YldS.yld (y_move rfl)) rfl ?_
                          refine QJ.step (YldS.yld (y_binS rfl rfl rfl)) rfl ?_
                          refine QJ.step (YldS.yld (y_move rfl)) rfl ?_
                          obtain ⟨t73, h74, hm⟩ := bindS hm
                          refine QJ.cut 13 [(0, v2), (1, v5), (2, v8), (9, str out29), (10, .int .i64 (w64 (i30 + 1))), (11, str r41), (12, str made59), (13, .int .i64 k60), (96, .bool t73)] ?_ ?_
                          · rcases Bool.eq_false_or_eq_true (e68.mark == r41) with hb75 | hb75
                            · replace h74 := andT h74 hb75
                              refine QJ.on rfl rfl (cB hb75) (YldS.yld (y_move rfl)) rfl ?_
                              refine QJ.on rfl rfl (cB hb75) (YldS.yld (y_move rfl)) rfl ?_
                              obtain ⟨e76, h77, h74⟩ := bindS h74
                              obtain ⟨ad78, _, rfl, ha79, hy80⟩ := hr6.elem h77
                              refine QJ.on rfl rfl (cB hb75) (YldS.yld (hy80 Try.runUnderlying25 Try.sizeOf101 rfl rfl)) rfl ?_
                              refine QJ.on rfl rfl (cB hb75) (YldS.yld (y_fld (ad := ad78) fld101_1 rfl)) rfl ?_
                              refine QJ.on rfl rfl (cB hb75) (YldS.yld (y_load1 (v := str e76.letter) Try.isAgg9 (ha79.sub 1 1) St.frozenC rfl)) rfl ?_
                              refine QJ.on rfl rfl (cB hb75) (YldS.yld (y_move rfl)) rfl ?_
                              refine QJ.on rfl rfl (cB hb75) (YldS.yld (y_move rfl)) rfl ?_
                              refine QJ.on rfl rfl (cB hb75) (YldS.yld (y_move rfl)) rfl ?_
                              obtain ⟨e81, h82, h74⟩ := bindS h74
                              obtain ⟨ad83, _, rfl, ha84, hy85⟩ := hr9.elem h82
                              refine QJ.on rfl rfl (cB hb75) (YldS.yld (hy85 Try.runUnderlying26 Try.sizeOf37 rfl rfl)) rfl ?_
                              refine QJ.on rfl rfl (cB hb75) (YldS.yld (y_loadN Try.isAgg37 Try.sizeOf37 rfl ha84 St.frozenC rfl)) rfl ?_
                              obtain ⟨r86, h87, h74⟩ := bindS h74
                              refine QJ.on rfl rfl (cB hb75) (y_call Try.call72 rfl (RetG.quiet fun w hw => ok_s_l02Print h87 w _ (hr3.st hw))) rfl ?_
                              refine QJ.on rfl rfl (cB hb75) (YldS.yld (y_binS rfl rfl rfl)) rfl ?_
                              refine QJ.step (YldS.yld (y_pick_t (cB hb75) rfl)) rfl ?_
                              obtain rfl := Option.some.inj h74
                              exact QJ.cut_end ⟨rfl, rfl, rfl, rfl, rfl, rfl, rfl, rfl, rfl, trivial⟩
                            · obtain rfl := andF h74 hb75
                              refine QJ.off rfl rfl (cB hb75) rfl rfl ?_
                              refine QJ.off rfl rfl (cB hb75) rfl rfl ?_
                              refine QJ.off rfl rfl (cB hb75) rfl rfl ?_
                              refine QJ.off rfl rfl (cB hb75) rfl rfl ?_
                              refine QJ.off rfl rfl (cB hb75) rfl rfl ?_
                              refine QJ.off rfl rfl (cB hb75) rfl rfl ?_
                              refine QJ.off rfl rfl (cB hb75) rfl rfl ?_
                              refine QJ.off rfl rfl (cB hb75) rfl rfl ?_
                              refine QJ.off rfl rfl (cB hb75) rfl rfl ?_
                              refine QJ.off rfl rfl (cB hb75) rfl rfl ?_
                              refine QJ.off rfl rfl (cB hb75) rfl rfl ?_
                              refine QJ.off rfl rfl (cB hb75) rfl rfl ?_
                              refine QJ.step (YldS.yld (y_pick_f (cB hb75) rfl)) rfl ?_
                              exact QJ.cut_end ⟨rfl, rfl, rfl, rfl, rfl, rfl, rfl, rfl, rfl, trivial⟩
                          refine QJ.done ?_
                          refine PJ.next ?_
                          refine WJ.cond (t := t73) rfl (fun hb88 => ?_) (fun hb88 => ?_)
                          · replace hm := ifT hm hb88
                            refine WJ.quiet ?_
                            refine QJ.step (YldS.yld (y_move rfl)) rfl ?_
                            refine QJ.step (YldS.yld (y_move rfl)) rfl ?_
                            obtain ⟨e89, h90, hm⟩ := bindS hm
                            obtain ⟨ad91, _, rfl, ha92, hy93⟩ := hr6.elem h90
                            refine QJ.step (YldS.yld (hy93 Try.runUnderlying25 Try.sizeOf101 rfl rfl)) rfl ?_
                            refine QJ.step (YldS.yld (y_fld (ad := ad91) fld101_2 rfl)) rfl ?_
                            refine QJ.step (YldS.yld (y_load1 (v := str e89.made) Try.isAgg9 (ha92.sub 2 1) St.frozenC rfl)) rfl ?_
                            refine QJ.step (YldS.yld (y_assign rfl)) rfl ?_
                            refine QJ.done ?_
                            refine PJ.block_normal ?_
                            exact PJ.joined e89.made [] hm ⟨rfl, rfl, rfl, rfl, rfl, rfl, rfl, rfl, trivial⟩ ⟨List.nodup_nil, rfl⟩
                          · replace hm := ifF hm hb88
                            refine WJ.skip ?_
                            refine PJ.block_normal ?_
                            exact PJ.joined made59 [] hm ⟨rfl, rfl, rfl, rfl, rfl, rfl, rfl, rfl, trivial⟩ ⟨List.nodup_nil, rfl⟩
                        · rintro made65 hm
                          subst hk67
                          refine WJ.quiet ?_
                          refine QJ.step (YldS.yld (y_move rfl)) rfl ?_
                          refine QJ.step (YldS.yld (y_bin rfl rfl rfl)) rfl ?_
                          refine QJ.step (YldS.yld (y_assign rfl)) rfl ?_
                          refine QJ.done ?_
                          exact PJ.round (made65, w64 (k60 + 1)) [] hm ⟨rfl, rfl, rfl, rfl, rfl, rfl, rfl, rfl, trivial⟩ ⟨List.nodup_nil, rfl⟩
                      · replace hm := ifF hm hb64
                        refine WJ.exit ?_
                        refine PJ.then_exit (PJ.then_exit (PJ.block_exit ?_))
                        exact PJ.joined made59 [] hm ⟨rfl, rfl, rfl, rfl, rfl, rfl, trivial⟩ ⟨List.nodup_nil, rfl⟩
                  · rintro made56 hm
                    subst hk58
                    refine WJ.seq ?_
                    refine WJ.seq ?_
                    refine WJ.quiet ?_
                    refine QJ.step (YldS.yld (y_move rfl)) rfl ?_
                    refine QJ.step (YldS.yld (y_binS rfl rfl rfl)) rfl ?_
                    refine QJ.done ?_
                    refine PJ.next ?_
                    refine WJ.cond (t := (made56 == [])) rfl (fun hb94 => ?_) (fun hb94 => ?_)
                    · replace hm := ifT hm hb94
                      refine WJ.seq ?_
                      refine WJ.quiet ?_
                      refine QJ.step (YldS.yld (y_assign rfl)) rfl ?_
                      refine QJ.step (YldS.yld (y_assign rfl)) rfl ?_
                      refine QJ.done ?_
                      refine PJ.next ?_
                      refine WJ.ret ?_
                      refine PJ.then_ret (PJ.block_ret (PJ.then_ret (PJ.then_ret (PJ.block_ret (PJ.then_ret ?_)))))
                      obtain rfl := Option.some.inj hm
                      refine PJ.sel (L' := []) [] ⟨List.nodup_nil, rfl⟩ ?_
                      exact PJ.retn (vs := [str [], .int .i64 6]) Try.results12 ⟨rfl, rfl, trivial⟩ ⟨rfl, rfl⟩
                    · replace hm := ifF hm hb94
                      refine WJ.skip ?_
                      refine PJ.next ?_
                      refine WJ.quiet ?_
                      refine QJ.step (YldS.yld (y_move rfl)) rfl ?_
                      refine QJ.step (YldS.yld (y_move rfl)) rfl ?_
                      obtain ⟨s95, h96, hm⟩ := bindS hm
                      refine QJ.step (YldS.yld (y_cat h96 rfl rfl)) rfl ?_
                      refine QJ.step (YldS.yld (y_assign rfl)) rfl ?_
                      refine QJ.done ?_
                      refine PJ.block_normal ?_
                      exact PJ.joined (s95, w64 (i30 + 1)) [] hm ⟨rfl, rfl, rfl, rfl, rfl, trivial⟩ ⟨List.nodup_nil, rfl⟩
              · rintro ⟨out32, i33⟩ hm
                subst hk35
                refine WJ.quiet ?_
                refine QJ.step (YldS.yld (y_move rfl)) rfl ?_
                refine QJ.step (YldS.yld (y_bin rfl rfl rfl)) rfl ?_
                refine QJ.step (YldS.yld (y_assign rfl)) rfl ?_
                refine QJ.done ?_
                exact PJ.round (out32, w64 (i33 + 1)) [] hm ⟨rfl, rfl, rfl, rfl, rfl, trivial⟩ ⟨List.nodup_nil, rfl⟩
            · replace hm := ifF hm hb31
              refine WJ.exit ?_
              refine PJ.then_exit (PJ.then_exit (PJ.block_exit ?_))
              exact PJ.joined out29 [] hm ⟨rfl, trivial⟩ ⟨List.nodup_nil, rfl⟩
        · rintro out26 hm
          subst hk28
          refine WJ.seq ?_
          refine WJ.quiet ?_
          refine QJ.step (YldS.yld (y_move rfl)) rfl ?_
          refine QJ.step (YldS.yld (y_assign rfl)) rfl ?_
          refine QJ.step (YldS.yld (y_assign rfl)) rfl ?_
          refine QJ.done ?_
          refine PJ.next ?_
          refine WJ.ret ?_
          obtain rfl := Option.some.inj hm
          refine PJ.sel (L' := []) [] ⟨List.nodup_nil, rfl⟩ ?_
          exact PJ.retn (vs := [str out26, .int .i64 0]) Try.results12 ⟨rfl, rfl, trivial⟩ ⟨rfl, rfl⟩

set_option maxRecDepth 100000 in
set_option maxHeartbeats 1000000 in
theorem ok_s_DrawShiftsOf {N : Nat} {code1 : List UInt8} {r : (List Press)} (hm : s_DrawShiftsOf N code1 = some r) (w : World) (v2 : Value) (hr3 : RdS w (cx w).Fz v2 fByte.rp code1) :
    Calls Try.prog 13 #[v2] w (RetG (cx w) fun u L => ∃ (u1 : Value), (u = u1 ∧ L = [row u1 37 fPress r])) := by
  unfold s_DrawShiftsOf at hm
  refine Calls.enter [v2] Try.func13 rfl Try.ntmps13 rfl ?_
  refine WJ.seq ?_
  refine WJ.quiet ?_
  refine QJ.step (YldS.yld (y_assign rfl)) rfl ?_
  refine QJ.done ?_
  refine PJ.next ?_
  refine WJ.seq ?_
  refine WJ.reg ?_
  refine SJ.q (YldS.yld (y_move rfl)) rfl ?_
  obtain ⟨r4, h5, hm⟩ := bindS hm
  refine SJ.call Try.call66 rfl (fun w hw => ok_s_l02DrawPresses h5 w _ (hr3.st hw)) rfl ?_
  rintro _ _ ⟨v6, v7, v8, rfl, rfl⟩
  refine SJ.q (YldS.yld (y_move rfl)) rfl ?_
  refine SJ.q (YldS.yld (y_extract rfl rfl)) rfl ?_
  refine SJ.q (YldS.yld (y_extract rfl rfl)) rfl ?_
  refine SJ.q (YldS.yld (y_extract rfl rfl)) rfl ?_
  refine SJ.q (YldS.yld (y_assign rfl)) rfl ?_
  refine SJ.q (YldS.yld (y_assign rfl)) rfl ?_
  refine SJ.q (YldS.yld (y_assign rfl)) rfl ?_
  refine SJ.nil ?_
  refine PJ.next ?_
  refine WJ.seq ?_
  refine WJ.quiet ?_
  refine QJ.step (YldS.yld (y_move rfl)) rfl ?_
  refine QJ.step (YldS.yld (y_assign rfl)) rfl ?_
  refine QJ.done ?_
  refine PJ.next ?_
  refine WJ.ret ?_
  obtain rfl := Option.some.inj hm
  refine PJ.sel (L' := [row v8 37 fPress r4.2.2]) [2] ⟨by decide, rfl⟩ ?_
  exact PJ.retn (vs := [v8]) Try.results13 ⟨rfl, trivial⟩ ⟨_, rfl, rfl⟩

set_option maxRecDepth 100000 in
set_option maxHeartbeats 1000000 in
theorem ok_i_ShiftsOf {N : Nat} {list1 : List Press} {r : Int × Int} (hm : i_ShiftsOf N list1 = some r) (w : World) (v2 : Value) (hr3 : RdS w (cx w).Fz v2 fPress.rp list1) :
    Calls Try.prog 14 #[v2] w (Ret (cx w) (tup [.int .i64 r.1, .int .i64 r.2])) := by
  unfold i_ShiftsOf at hm
  refine Calls.enter [v2] Try.func14 rfl Try.ntmps14 rfl ?_
  refine WJ.seq ?_
  refine WJ.quiet ?_
  refine QJ.step (YldS.yld (y_assign rfl)) rfl ?_
  refine QJ.step (YldS.yld (y_assign rfl)) rfl ?_
  refine QJ.done ?_
  refine PJ.next ?_
  refine WJ.seq ?_
  refine WJ.seq ?_
  refine WJ.quiet ?_
  refine QJ.step (YldS.yld (y_move rfl)) rfl ?_
  refine QJ.step (YldS.yld (y_lenS Try.runUnderlying26 hr3 rfl)) rfl ?_
  refine QJ.step (YldS.yld (y_bin rfl rfl rfl)) rfl ?_
  refine QJ.done ?_
  refine PJ.next ?_
  refine WJ.cond (t := decide ((List.length list1 : Int) > 200)) rfl (fun hb4 => ?_) (fun hb4 => ?_)
  · replace hm := ifT hm hb4
    refine WJ.seq ?_
    refine WJ.quiet ?_
    refine QJ.step (YldS.yld (y_assign rfl)) rfl ?_
    refine QJ.step (YldS.yld (y_assign rfl)) rfl ?_
    refine QJ.done ?_
    refine PJ.next ?_
    refine WJ.ret ?_
    refine PJ.then_ret ?_
    obtain rfl := Option.some.inj hm
    refine PJ.sel (L' := []) [] ⟨List.nodup_nil, rfl⟩ ?_
    exact PJ.retn (vs := [.int .i64 0, .int .i64 2]) Try.results14 ⟨rfl, rfl, trivial⟩ ⟨rfl, rfl⟩
  · replace hm := ifF hm hb4
    refine WJ.skip ?_
    refine PJ.next ?_
    refine WJ.seq ?_
    refine WJ.quiet ?_
    refine QJ.step (YldS.yld (y_assign rfl)) rfl ?_
    refine QJ.done ?_
    refine PJ.next ?_
    refine WJ.seq ?_
    refine WJ.quiet ?_
    refine QJ.step (YldS.yld (y_assign rfl)) rfl ?_
    refine QJ.done ?_
    refine PJ.next ?_
    obtain ⟨kj7, hk8, hm⟩ := withK_open hm
    refine WJ.join (X := Int × Bool) (fun (x : Int × Bool) => kj7 x.1 x.2 = some r) (fun (x : Int × Bool) => [(4, .int .i64 x.1), (5, .bool x.2)]) (fun (x : Int × Bool) => []) ?_ ?_
    · clear hk8
      refine WJ.seq ?_
      refine WJ.quiet ?_
      refine QJ.step (YldS.yld (y_move rfl)) rfl ?_
      refine QJ.step (YldS.yld (y_lenS Try.runUnderlying26 hr3 rfl)) rfl ?_
      refine QJ.step (YldS.yld (y_move rfl)) rfl ?_
      refine QJ.done ?_
      refine PJ.next ?_
      refine WJ.block ?_
      refine WJ.sel (L' := (fun (x : Int × Bool × Int) => []) (0, false, 0)) [] ⟨List.nodup_nil, rfl⟩ ?_
      refine WJ.sub (m' := (fun (x : Int × Bool × Int) => [(4, .int .i64 x.1), (5, .bool x.2.1), (11, v2), (12, .int .i64 (List.length list1 : Int)), (13, .int .i64 x.2.2)]) (0, false, 0)) ⟨rfl, rfl, rfl, rfl, rfl, trivial⟩ ?_
      refine WJ.loop (X := Int × Bool × Int) (fun N (x : Int × Bool × Int) => i_ShiftsOf_l1 kj7 list1 N x.1 x.2.1 x.2.2 = some r) (fun (x : Int × Bool × Int) => [(4, .int .i64 x.1), (5, .bool x.2.1), (11, v2), (12, .int .i64 (List.length list1 : Int)), (13, .int .i64 x.2.2)]) (fun (x : Int × Bool × Int) => []) ?_ N (0, false, 0) hm
      · rintro N ⟨changes9, down10, x11⟩ hI
        have hm := hI; clear hI
        cases N with
        | zero => cases hm
        | succ N =>
        unfold i_ShiftsOf_l1 at hm
        refine WJ.seq ?_
        refine WJ.quiet ?_
        refine QJ.step (YldS.yld (y_bin rfl rfl rfl)) rfl ?_
        refine QJ.done ?_
        refine PJ.next ?_
        refine WJ.seq ?_
        refine WJ.cond (t := decide (x11 < (List.length list1 : Int))) rfl (fun hb12 => ?_) (fun hb12 => ?_)
        · replace hm := ifT hm hb12
          refine WJ.skip ?_
          refine PJ.next ?_
          obtain ⟨kj15, hk16, hm⟩ := withK_open hm
          refine WJ.join (X := Int × Bool) (fun (x : Int × Bool) => kj15 x.1 x.2 = some r) (fun (x : Int × Bool) => [(4, .int .i64 x.1), (5, .bool x.2), (11, v2), (12, .int .i64 (List.length list1 : Int)), (13, .int .i64 x11)]) (fun (x : Int × Bool) => []) ?_ ?_
          · clear hk16
            refine WJ.block ?_
            refine WJ.seq ?_
            refine WJ.reg ?_
            obtain ⟨e17, h18, hm⟩ := bindS hm
            obtain ⟨ad19, _, rfl, ha20, hy21⟩ := hr3.elem h18
            refine SJ.q (YldS.yld (hy21 Try.runUnderlying26 Try.sizeOf37 rfl rfl)) rfl ?_
            refine SJ.q (YldS.yld (y_loadN Try.isAgg37 Try.sizeOf37 rfl ha20 St.frozenC rfl)) rfl ?_
            refine SJ.alloc (cs := [.int .i64 0, .bool false]) Try.zeroValue37 rfl rfl fun g22 => ?_
            refine SJ.storeL (k := 0) (off := 0) (us := [.int .i64 e17.key, .bool e17.shift]) rfl rfl rfl rfl Try.sizeOf37 rfl rfl ?_
            refine SJ.nil ?_
            refine PJ.next ?_
            refine WJ.seq ?_
            refine WJ.quiet ?_
            refine QJ.step (YldS.yld (y_fldB (o := 0) fld37_1 rfl)) rfl ?_
            refine QJ.step (YldS.yld (y_loadB (k := 0) (off := 1) (v := .bool e17.shift) rfl Try.isAgg4 rfl rfl)) rfl ?_
            refine QJ.step (YldS.yld (y_move rfl)) rfl ?_
            refine QJ.step (YldS.yld (y_neB Try.underlying4 rfl rfl rfl)) rfl ?_
            refine QJ.done ?_
            refine PJ.next ?_
            refine WJ.cond (t := (e17.shift != down10)) rfl (fun hb23 => ?_) (fun hb23 => ?_)
            · replace hm := ifT hm hb23
              refine WJ.seq ?_
              refine WJ.quiet ?_
              refine QJ.step (YldS.yld (y_move rfl)) rfl ?_
              refine QJ.step (YldS.yld (y_bin rfl rfl rfl)) rfl ?_
              refine QJ.step (YldS.yld (y_assign rfl)) rfl ?_
              refine QJ.done ?_
              refine PJ.next ?_
              refine WJ.quiet ?_
              refine QJ.step (YldS.yld (y_fldB (o := 0) fld37_1 rfl)) rfl ?_
              refine QJ.step (YldS.yld (y_loadB (k := 0) (off := 1) (v := .bool e17.shift) rfl Try.isAgg4 rfl rfl)) rfl ?_
              refine QJ.step (YldS.yld (y_assign rfl)) rfl ?_
              refine QJ.done ?_
              refine PJ.block_normal ?_
              exact PJ.joined (w64 (changes9 + 1), e17.shift) [] hm ⟨rfl, rfl, rfl, rfl, rfl, trivial⟩ ⟨List.nodup_nil, rfl⟩
            · replace hm := ifF hm hb23
              refine WJ.skip ?_
              refine PJ.block_normal ?_
              exact PJ.joined (changes9, down10) [] hm ⟨rfl, rfl, rfl, rfl, rfl, trivial⟩ ⟨List.nodup_nil, rfl⟩
          · rintro ⟨changes13, down14⟩ hm
            subst hk16
            refine WJ.quiet ?_
            refine QJ.step (YldS.yld (y_bin rfl rfl rfl)) rfl ?_
            refine QJ.step (YldS.yld (y_move rfl)) rfl ?_
            refine QJ.done ?_
            exact PJ.round (changes13, down14, w64 (x11 + 1)) [] hm ⟨rfl, rfl, rfl, rfl, rfl, trivial⟩ ⟨List.nodup_nil, rfl⟩
        · replace hm := ifF hm hb12
          refine WJ.exit ?_
          refine PJ.then_exit (PJ.then_exit (PJ.block_exit ?_))
          exact PJ.joined (changes9, down10) [] hm ⟨rfl, rfl, trivial⟩ ⟨List.nodup_nil, rfl⟩
    · rintro ⟨changes5, down6⟩ hm
      subst hk8
      obtain ⟨kj25, hk26, hm⟩ := withK_open hm
      refine WJ.join (X := Int) (fun (x : Int) => kj25 x = some r) (fun (x : Int) => [(4, .int .i64 x)]) (fun (x : Int) => []) ?_ ?_
      · clear hk26
        refine WJ.seq ?_
        refine WJ.quiet ?_
        refine QJ.step (YldS.yld (y_move rfl)) rfl ?_
        refine QJ.done ?_
        refine PJ.next ?_
        refine WJ.cond (t := down6) rfl (fun hb27 => ?_) (fun hb27 => ?_)
        · replace hm := ifT hm hb27
          refine WJ.quiet ?_
          refine QJ.step (YldS.yld (y_move rfl)) rfl ?_
          refine QJ.step (YldS.yld (y_bin rfl rfl rfl)) rfl ?_
          refine QJ.step (YldS.yld (y_assign rfl)) rfl ?_
          refine QJ.done ?_
          exact PJ.joined (w64 (changes5 + 1)) [] hm ⟨rfl, trivial⟩ ⟨List.nodup_nil, rfl⟩
        · replace hm := ifF hm hb27
          refine WJ.skip ?_
          exact PJ.joined changes5 [] hm ⟨rfl, trivial⟩ ⟨List.nodup_nil, rfl⟩
      · rintro changes24 hm
        subst hk26
        refine WJ.seq ?_
        refine WJ.quiet ?_
        refine QJ.step (YldS.yld (y_move rfl)) rfl ?_
        refine QJ.step (YldS.yld (y_assign rfl)) rfl ?_
        refine QJ.step (YldS.yld (y_assign rfl)) rfl ?_
        refine QJ.done ?_
        refine PJ.next ?_
        refine WJ.ret ?_
        obtain rfl := Option.some.inj hm
        refine PJ.sel (L' := []) [] ⟨List.nodup_nil, rfl⟩ ?_
        exact PJ.retn (vs := [.int .i64 changes24, .int .i64 0]) Try.results14 ⟨rfl, rfl, trivial⟩ ⟨rfl, rfl⟩

set_option maxRecDepth 100000 in
set_option maxHeartbeats 1000000 in
theorem ok_s_ShiftsOf {N : Nat} {list1 : List Press} {r : Int × Int} (hm : s_ShiftsOf N list1 = some r) (w : World) (v2 : Value) (hr3 : RdS w (cx w).Fz v2 fPress.rp list1) :
    Calls Try.prog 15 #[v2] w (Ret (cx w) (tup [.int .i64 r.1, .int .i64 r.2])) := by
  unfold s_ShiftsOf at hm
  refine Calls.enter [v2] Try.func15 rfl Try.ntmps15 rfl ?_
  refine WJ.seq ?_
  refine WJ.quiet ?_
  refine QJ.step (YldS.yld (y_assign rfl)) rfl ?_
  refine QJ.step (YldS.yld (y_assign rfl)) rfl ?_
  refine QJ.done ?_
  refine PJ.next ?_
  refine WJ.seq ?_
  refine WJ.seq ?_
  refine WJ.quiet ?_
  refine QJ.step (YldS.yld (y_move rfl)) rfl ?_
  refine QJ.step (YldS.yld (y_lenS Try.runUnderlying26 hr3 rfl)) rfl ?_
  refine QJ.step (YldS.yld (y_bin rfl rfl rfl)) rfl ?_
  refine QJ.done ?_
  refine PJ.next ?_
  refine WJ.cond (t := decide ((List.length list1 : Int) > 200)) rfl (fun hb4 => ?_) (fun hb4 => ?_)
  · replace hm := ifT hm hb4
    refine WJ.seq ?_
    refine WJ.quiet ?_
    refine QJ.step (YldS.yld (y_assign rfl)) rfl ?_
    refine QJ.step (YldS.yld (y_assign rfl)) rfl ?_
    refine QJ.done ?_
    refine PJ.next ?_
    refine WJ.ret ?_
    refine PJ.then_ret ?_
    obtain rfl := Option.some.inj hm
    refine PJ.sel (L' := []) [] ⟨List.nodup_nil, rfl⟩ ?_
    exact PJ.retn (vs := [.int .i64 0, .int .i64 2]) Try.results15 ⟨rfl, rfl, trivial⟩ ⟨rfl, rfl⟩
  · replace hm := ifF hm hb4
    refine WJ.skip ?_
    refine PJ.next ?_
    refine WJ.seq ?_
    refine WJ.quiet ?_
    refine QJ.step (YldS.yld (y_assign rfl)) rfl ?_
    refine QJ.done ?_
    refine PJ.next ?_
    refine WJ.seq ?_
    refine WJ.quiet ?_
    refine QJ.step (YldS.yld (y_assign rfl)) rfl ?_
    refine QJ.done ?_
    refine PJ.next ?_
    obtain ⟨kj7, hk8, hm⟩ := withK_open hm
    refine WJ.join (X := Int × Bool) (fun (x : Int × Bool) => kj7 x.1 x.2 = some r) (fun (x : Int × Bool) => [(4, .int .i64 x.1), (5, .bool x.2)]) (fun (x : Int × Bool) => []) ?_ ?_
    · clear hk8
      refine WJ.seq ?_
      refine WJ.quiet ?_
      refine QJ.step (YldS.yld (y_assign rfl)) rfl ?_
      refine QJ.done ?_
      refine PJ.next ?_
      refine WJ.block ?_
      refine WJ.sel (L' := (fun (x : Int × Bool × Int) => []) (0, false, 0)) [] ⟨List.nodup_nil, rfl⟩ ?_
      refine WJ.sub (m' := (fun (x : Int × Bool × Int) => [(0, v2), (4, .int .i64 x.1), (5, .bool x.2.1), (6, .int .i64 x.2.2)]) (0, false, 0)) ⟨rfl, rfl, rfl, rfl, trivial⟩ ?_
      refine WJ.loop (X := Int × Bool × Int) (fun N (x : Int × Bool × Int) => s_ShiftsOf_l1 kj7 list1 N x.1 x.2.1 x.2.2 = some r) (fun (x : Int × Bool × Int) => [(0, v2), (4, .int .i64 x.1), (5, .bool x.2.1), (6, .int .i64 x.2.2)]) (fun (x : Int × Bool × Int) => []) ?_ N (0, false, 0) hm
      · rintro N ⟨n9, last10, i11⟩ hI
        have hm := hI; clear hI
        cases N with
        | zero => cases hm
        | succ N =>
        unfold s_ShiftsOf_l1 at hm
        refine WJ.seq ?_
        refine WJ.seq ?_
        refine WJ.quiet ?_
        refine QJ.step (YldS.yld (y_move rfl)) rfl ?_
        refine QJ.step (YldS.yld (y_move rfl)) rfl ?_
        refine QJ.step (YldS.yld (y_lenS Try.runUnderlying26 hr3 rfl)) rfl ?_
        refine QJ.step (YldS.yld (y_bin rfl rfl rfl)) rfl ?_
        refine QJ.done ?_
        refine PJ.next ?_
        refine WJ.cond (t := decide (i11 < (List.length list1 : Int))) rfl (fun hb12 => ?_) (fun hb12 => ?_)
        · replace hm := ifT hm hb12
          refine WJ.skip ?_
          refine PJ.next ?_
          refine WJ.seq ?_
          refine WJ.block ?_
          obtain ⟨kj14, hk15, hm⟩ := withK_open hm
          refine WJ.join (X := Int) (fun (x : Int) => kj14 x = some r) (fun (x : Int) => [(0, v2), (4, .int .i64 x), (6, .int .i64 i11)]) (fun (x : Int) => []) ?_ ?_
          · clear hk15
            refine WJ.seq ?_
            refine WJ.quiet ?_
            refine QJ.step (YldS.yld (y_move rfl)) rfl ?_
            refine QJ.step (YldS.yld (y_move rfl)) rfl ?_
            obtain ⟨e16, h17, hm⟩ := bindS hm
            obtain ⟨ad18, _, rfl, ha19, hy20⟩ := hr3.elem h17
            refine QJ.step (YldS.yld (hy20 Try.runUnderlying26 Try.sizeOf37 rfl rfl)) rfl ?_
            refine QJ.step (YldS.yld (y_fld (ad := ad18) fld37_1 rfl)) rfl ?_
            refine QJ.step (YldS.yld (y_load1 (v := .bool e16.shift) Try.isAgg4 (ha19.sub 1 1) St.frozenC rfl)) rfl ?_
            refine QJ.step (YldS.yld (y_move rfl)) rfl ?_
            refine QJ.step (YldS.yld (y_neB Try.underlying4 rfl rfl rfl)) rfl ?_
            refine QJ.done ?_
            refine PJ.next ?_
            refine WJ.cond (t := (e16.shift != last10)) rfl (fun hb21 => ?_) (fun hb21 => ?_)
            · replace hm := ifT hm hb21
              refine WJ.quiet ?_
              refine QJ.step (YldS.yld (y_move rfl)) rfl ?_
              refine QJ.step (YldS.yld (y_bin rfl rfl rfl)) rfl ?_
              refine QJ.step (YldS.yld (y_assign rfl)) rfl ?_
              refine QJ.done ?_
              exact PJ.joined (w64 (n9 + 1)) [] hm ⟨rfl, rfl, rfl, trivial⟩ ⟨List.nodup_nil, rfl⟩
            · replace hm := ifF hm hb21
              refine WJ.skip ?_
              exact PJ.joined n9 [] hm ⟨rfl, rfl, rfl, trivial⟩ ⟨List.nodup_nil, rfl⟩
          · rintro n13 hm
            subst hk15
            refine WJ.quiet ?_
            refine QJ.step (YldS.yld (y_move rfl)) rfl ?_
            refine QJ.step (YldS.yld (y_move rfl)) rfl ?_
            obtain ⟨e22, h23, hm⟩ := bindS hm
            obtain ⟨ad24, _, rfl, ha25, hy26⟩ := hr3.elem h23
            refine QJ.step (YldS.yld (hy26 Try.runUnderlying26 Try.sizeOf37 rfl rfl)) rfl ?_
            refine QJ.step (YldS.yld (y_fld (ad := ad24) fld37_1 rfl)) rfl ?_
            refine QJ.step (YldS.yld (y_load1 (v := .bool e22.shift) Try.isAgg4 (ha25.sub 1 1) St.frozenC rfl)) rfl ?_
            refine QJ.step (YldS.yld (y_assign rfl)) rfl ?_
            refine QJ.done ?_
            refine PJ.block_normal (PJ.next ?_)
            refine WJ.quiet ?_
            refine QJ.step (YldS.yld (y_move rfl)) rfl ?_
            refine QJ.step (YldS.yld (y_bin rfl rfl rfl)) rfl ?_
            refine QJ.step (YldS.yld (y_assign rfl)) rfl ?_
            refine QJ.done ?_
            exact PJ.round (n13, e22.shift, w64 (i11 + 1)) [] hm ⟨rfl, rfl, rfl, rfl, trivial⟩ ⟨List.nodup_nil, rfl⟩
        · replace hm := ifF hm hb12
          refine WJ.exit ?_
          refine PJ.then_exit (PJ.then_exit (PJ.block_exit ?_))
          exact PJ.joined (n9, last10) [] hm ⟨rfl, rfl, trivial⟩ ⟨List.nodup_nil, rfl⟩
    · rintro ⟨n5, last6⟩ hm
      subst hk8
      obtain ⟨kj28, hk29, hm⟩ := withK_open hm
      refine WJ.join (X := Int) (fun (x : Int) => kj28 x = some r) (fun (x : Int) => [(4, .int .i64 x)]) (fun (x : Int) => []) ?_ ?_
      · clear hk29
        refine WJ.seq ?_
        refine WJ.quiet ?_
        refine QJ.step (YldS.yld (y_move rfl)) rfl ?_
        refine QJ.done ?_
        refine PJ.next ?_
        refine WJ.cond (t := last6) rfl (fun hb30 => ?_) (fun hb30 => ?_)
        · replace hm := ifT hm hb30
          refine WJ.quiet ?_
          refine QJ.step (YldS.yld (y_move rfl)) rfl ?_
          refine QJ.step (YldS.yld (y_bin rfl rfl rfl)) rfl ?_
          refine QJ.step (YldS.yld (y_assign rfl)) rfl ?_
          refine QJ.done ?_
          exact PJ.joined (w64 (n5 + 1)) [] hm ⟨rfl, trivial⟩ ⟨List.nodup_nil, rfl⟩
        · replace hm := ifF hm hb30
          refine WJ.skip ?_
          exact PJ.joined n5 [] hm ⟨rfl, trivial⟩ ⟨List.nodup_nil, rfl⟩
      · rintro n27 hm
        subst hk29
        refine WJ.seq ?_
        refine WJ.quiet ?_
        refine QJ.step (YldS.yld (y_move rfl)) rfl ?_
        refine QJ.step (YldS.yld (y_assign rfl)) rfl ?_
        refine QJ.step (YldS.yld (y_assign rfl)) rfl ?_
        refine QJ.done ?_
        refine PJ.next ?_
        refine WJ.ret ?_
        obtain rfl := Option.some.inj hm
        refine PJ.sel (L' := []) [] ⟨List.nodup_nil, rfl⟩ ?_
        exact PJ.retn (vs := [.int .i64 n27, .int .i64 0]) Try.results15 ⟨rfl, rfl, trivial⟩ ⟨rfl, rfl⟩

set_option maxRecDepth 100000 in
set_option maxHeartbeats 1000000 in
theorem ok_s_DrawPressFor {N : Nat} {code1 : List UInt8} {r : (List Key) × Str} (hm : s_DrawPressFor N code1 = some r) (w : World) (v2 : Value) (hr3 : RdS w (cx w).Fz v2 fByte.rp code1) :
    Calls Try.prog 16 #[v2] w (RetG (cx w) fun u L => ∃ (u1 : Value), (u = tup [u1, str r.2] ∧ L = [row u1 41 fKey r.1])) := by
  unfold s_DrawPressFor at hm
  refine Calls.enter [v2] Try.func16 rfl Try.ntmps16 rfl ?_
  refine WJ.seq ?_
  refine WJ.quiet ?_
  refine QJ.step (YldS.yld (y_assign rfl)) rfl ?_
  refine QJ.step (YldS.yld (y_assign rfl)) rfl ?_
  refine QJ.done ?_
  refine PJ.next ?_
  refine WJ.seq ?_
  refine WJ.reg ?_
  refine SJ.q (YldS.yld (y_move rfl)) rfl ?_
  obtain ⟨r4, h5, hm⟩ := bindS hm
  refine SJ.call Try.call73 rfl (fun w hw => ok_s_l00From h5 w _ (hr3.st hw)) rfl ?_
  rintro _ _ ⟨g6, rfl, rfl⟩
  refine SJ.q (YldS.yld (y_assign rfl)) rfl ?_
  refine SJ.nil ?_
  refine PJ.next ?_
  refine WJ.seq ?_
  refine WJ.reg ?_
  refine SJ.q (YldS.yld (y_move rfl)) rfl ?_
  obtain ⟨r7, h8, hm⟩ := bindS hm
  refine SJ.call1 (k := 0) rfl Try.call74 rfl (fun w S hw hA hO => ok_s_l02Bent h8 w S _ (hr3.st1 hw hO) hA) rfl ?_
  rintro _ _ ⟨v9, v10, rfl, rfl⟩
  refine SJ.q (YldS.yld (y_move rfl)) rfl ?_
  refine SJ.q (YldS.yld (y_extract rfl rfl)) rfl ?_
  refine SJ.q (YldS.yld (y_extract rfl rfl)) rfl ?_
  refine SJ.q (YldS.yld (y_assign rfl)) rfl ?_
  refine SJ.q (YldS.yld (y_assign rfl)) rfl ?_
  refine SJ.nil ?_
  refine PJ.next ?_
  refine WJ.seq ?_
  refine WJ.reg ?_
  refine SJ.q (YldS.yld (y_move rfl)) rfl ?_
  refine SJ.q (YldS.yld (y_move rfl)) rfl ?_
  refine SJ.buildSlice (R := fStr) (os := [.const (str [97]), .const (str [66]), .const (str [99]), .const (str [39]), .const (str [96]), .const (str [122]), .const (str []), .const (str [97, 98]), .const (str [32])]) [[97], [66], [99], [39], [96], [122], [], [97, 98], [32]] Try.runUnderlying78 Try.sizeOf9 Try.zeroValue9 rfl rfl rfl rfl rfl rfl fun v11 => ?_
  obtain ⟨r12, h13, hm⟩ := bindS hm
  refine SJ.call2 (k := 1) rfl Try.call75 rfl (fun w S hw hA hO hB => ok_s_l00Src_text h13 w S _ (hr3.st1 hw hO) _ (hB.row_rd (j := 0) (k := 1) rfl rfl) hA) rfl ?_
  rintro _ _ ⟨rfl, rfl⟩
  refine SJ.q (YldS.yld (y_assign rfl)) rfl ?_
  refine SJ.q (YldS.yld (y_assign rfl)) rfl ?_
  refine SJ.nil ?_
  refine PJ.next ?_
  refine WJ.ret ?_
  obtain rfl := Option.some.inj hm
  refine PJ.sel (L' := [row v9 41 fKey r7.1]) [2] ⟨by decide, rfl⟩ ?_
  exact PJ.retn (vs := [v9, str r12.1]) Try.results16 ⟨rfl, rfl, trivial⟩ ⟨_, rfl, rfl⟩

set_option maxRecDepth 100000 in
set_option maxHeartbeats 1000000 in
theorem ok_i_pressOf {N : Nat} {keys1 : List Key} {letter4 : Str} {r : Press × Bool} (hm : i_pressOf N keys1 letter4 = some r) (w : World) (v2 : Value) (hr3 : RdS w (cx w).Fz v2 fKey.rp keys1) :
    Calls Try.prog 77 #[v2, str letter4] w (Ret (cx w) (tup [.agg (Press.enc r.1).toArray, .bool r.2])) := by
  unfold i_pressOf at hm
  refine Calls.enter [v2, str letter4] Try.func77 rfl Try.ntmps77 rfl ?_
  refine WJ.seq ?_
  refine WJ.reg ?_
  refine SJ.alloc (cs := [.int .i64 0, .bool false]) Try.zeroValue37 rfl rfl fun g5 => ?_
  refine SJ.q (YldS.yld (y_assign rfl)) rfl ?_
  refine SJ.nil ?_
  refine PJ.next ?_
  obtain ⟨kj8, hk9, hm⟩ := withK_open hm
  refine WJ.join (X := Int × Bool) (fun (x : Int × Bool) => kj8 x.1 x.2 = some r) (fun (x : Int × Bool) => [(4, pt g5 0)]) (fun (x : Int × Bool) => [box g5 37 [.int .i64 x.1, .bool x.2]]) ?_ ?_
  · clear hk9
    refine WJ.seq ?_
    refine WJ.quiet ?_
    refine QJ.step (YldS.yld (y_move rfl)) rfl ?_
    refine QJ.step (YldS.yld (y_lenS Try.runUnderlying24 hr3 rfl)) rfl ?_
    refine QJ.step (YldS.yld (y_move rfl)) rfl ?_
    refine QJ.done ?_
    refine PJ.next ?_
    refine WJ.block ?_
    refine WJ.sel (L' := (fun (x : Int × Bool × Int) => [box g5 37 [.int .i64 x.1, .bool x.2.1]]) (0, false, 0)) [0] ⟨by decide, rfl⟩ ?_
    refine WJ.sub (m' := (fun (x : Int × Bool × Int) => [(1, str letter4), (4, pt g5 0), (8, v2), (9, .int .i64 (List.length keys1 : Int)), (10, .int .i64 x.2.2)]) (0, false, 0)) ⟨rfl, rfl, rfl, rfl, rfl, trivial⟩ ?_
    refine WJ.loop (X := Int × Bool × Int) (fun N (x : Int × Bool × Int) => i_pressOf_l1 kj8 keys1 letter4 N x.1 x.2.1 x.2.2 = some r) (fun (x : Int × Bool × Int) => [(1, str letter4), (4, pt g5 0), (8, v2), (9, .int .i64 (List.length keys1 : Int)), (10, .int .i64 x.2.2)]) (fun (x : Int × Bool × Int) => [box g5 37 [.int .i64 x.1, .bool x.2.1]]) ?_ N (0, false, 0) hm
    · rintro N ⟨x10, x11, x12⟩ hI
      have hm := hI; clear hI
      cases N with
      | zero => cases hm
      | succ N =>
      unfold i_pressOf_l1 at hm
      refine WJ.seq ?_
      refine WJ.quiet ?_
      refine QJ.step (YldS.yld (y_bin rfl rfl rfl)) rfl ?_
      refine QJ.done ?_
      refine PJ.next ?_
      refine WJ.seq ?_
      refine WJ.cond (t := decide (x12 < (List.length keys1 : Int))) rfl (fun hb13 => ?_) (fun hb13 => ?_)
      · replace hm := ifT hm hb13
        refine WJ.skip ?_
        refine PJ.next ?_
        refine WJ.seq ?_
        refine WJ.block ?_
        refine WJ.seq ?_
        refine WJ.reg ?_
        refine SJ.q (YldS.yld (y_move rfl)) rfl ?_
        obtain ⟨e14, h15, hm⟩ := bindS hm
        obtain ⟨ad16, _, rfl, ha17, hy18⟩ := hr3.elem h15
        refine SJ.q (YldS.yld (hy18 Try.runUnderlying24 Try.sizeOf41 rfl rfl)) rfl ?_
        refine SJ.q (YldS.yld (y_loadN Try.isAgg41 Try.sizeOf41 rfl ha17 St.frozenC rfl)) rfl ?_
        refine SJ.alloc (cs := [str [], str [], .bool false]) Try.zeroValue41 rfl rfl fun g19 => ?_
        refine SJ.q (YldS.yld (y_assign rfl)) rfl ?_
        refine SJ.storeL (k := 0) (off := 0) (us := [str e14.low, str e14.high, .bool e14.dead]) rfl rfl rfl rfl Try.sizeOf41 rfl rfl ?_
        refine SJ.nil ?_
        refine PJ.next ?_
        refine WJ.seq ?_
        refine WJ.quiet ?_
        refine QJ.step (YldS.yld (y_fldB (o := 0) fld41_0 rfl)) rfl ?_
        refine QJ.step (YldS.yld (y_loadB (k := 0) (off := 0) (v := str e14.low) rfl Try.isAgg9 rfl rfl)) rfl ?_
        refine QJ.step (YldS.yld (y_move rfl)) rfl ?_
        refine QJ.step (YldS.yld (y_binS rfl rfl rfl)) rfl ?_
        refine QJ.step (YldS.yld (y_move rfl)) rfl ?_
        obtain ⟨t20, h21, hm⟩ := bindS hm
        refine QJ.cut 5 [(1, str letter4), (4, pt g5 0), (6, .int .i64 x12), (7, pt g19 0), (8, v2), (9, .int .i64 (List.length keys1 : Int)), (10, .int .i64 x12), (24, .bool t20)] ?_ ?_
        · rcases Bool.eq_false_or_eq_true (e14.low == letter4) with hb22 | hb22
          · obtain rfl := orT h21 hb22
            refine QJ.off rfl rfl (cB hb22) rfl rfl ?_
            refine QJ.off rfl rfl (cB hb22) rfl rfl ?_
            refine QJ.off rfl rfl (cB hb22) rfl rfl ?_
            refine QJ.off rfl rfl (cB hb22) rfl rfl ?_
            refine QJ.step (YldS.yld (y_pick_t (cB hb22) rfl)) rfl ?_
            exact QJ.cut_end ⟨rfl, rfl, rfl, rfl, rfl, rfl, rfl, rfl, trivial⟩
          · replace h21 := orF h21 hb22
            refine QJ.on rfl rfl (cB hb22) (YldS.yld (y_fldB (o := 0) fld41_1 rfl)) rfl ?_
            refine QJ.on rfl rfl (cB hb22) (YldS.yld (y_loadB (k := 0) (off := 1) (v := str e14.high) rfl Try.isAgg9 rfl rfl)) rfl ?_
            refine QJ.on rfl rfl (cB hb22) (YldS.yld (y_move rfl)) rfl ?_
            refine QJ.on rfl rfl (cB hb22) (YldS.yld (y_binS rfl rfl rfl)) rfl ?_
            refine QJ.step (YldS.yld (y_pick_f (cB hb22) rfl)) rfl ?_
            obtain rfl := Option.some.inj h21
            exact QJ.cut_end ⟨rfl, rfl, rfl, rfl, rfl, rfl, rfl, rfl, trivial⟩
        refine QJ.done ?_
        refine PJ.next ?_
        refine WJ.cond (t := t20) rfl (fun hb23 => ?_) (fun hb23 => ?_)
        · replace hm := ifT hm hb23
          refine WJ.seq ?_
          refine WJ.reg ?_
          refine SJ.q (YldS.yld (y_move rfl)) rfl ?_
          refine SJ.q (YldS.yld (y_fldB (o := 0) fld41_1 rfl)) rfl ?_
          refine SJ.q (YldS.yld (y_loadB (k := 0) (off := 1) (v := str e14.high) rfl Try.isAgg9 rfl rfl)) rfl ?_
          refine SJ.q (YldS.yld (y_move rfl)) rfl ?_
          refine SJ.q (YldS.yld (y_binS rfl rfl rfl)) rfl ?_
          refine SJ.q (YldS.yld (y_build (parts := [(0, .tmp 25), (1, .tmp 29)]) (places := [(0, 1), (1, 1)]) (r := [.int .i64 ((Press.mk x12 (e14.high == letter4)).key), .bool ((Press.mk x12 (e14.high == letter4)).shift)]) pl37 Try.zeroValue37 rfl rfl rfl rfl)) rfl ?_
          refine SJ.storeL (k := 1) (off := 0) (us := [.int .i64 ((Press.mk x12 (e14.high == letter4)).key), .bool ((Press.mk x12 (e14.high == letter4)).shift)]) rfl rfl rfl rfl Try.sizeOf37 rfl rfl ?_
          refine SJ.q (YldS.yld (y_assign rfl)) rfl ?_
          refine SJ.nil ?_
          refine PJ.next ?_
          refine WJ.ret ?_
          refine PJ.block_ret (PJ.then_ret (PJ.then_ret (PJ.block_ret (PJ.then_ret ?_))))
          obtain rfl := Option.some.inj hm
          exact PJ.retn_sel (vs := [.agg (Press.enc (Press.mk x12 (e14.high == letter4))).toArray, .bool true]) Try.results77 ⟨⟨1, g5, 37, [.int .i64 ((Press.mk x12 (e14.high == letter4)).key), .bool ((Press.mk x12 (e14.high == letter4)).shift)], rfl, rfl, .inl ⟨Try.isAgg37, Try.sizeOf37, rfl⟩⟩, rfl, trivial⟩ [] ⟨List.nodup_nil, rfl⟩ ⟨rfl, rfl⟩
        · replace hm := ifF hm hb23
          refine WJ.skip ?_
          refine PJ.block_normal (PJ.next ?_)
          refine WJ.quiet ?_
          refine QJ.step (YldS.yld (y_bin rfl rfl rfl)) rfl ?_
          refine QJ.step (YldS.yld (y_move rfl)) rfl ?_
          refine QJ.done ?_
          exact PJ.round (x10, x11, w64 (x12 + 1)) [1] hm ⟨rfl, rfl, rfl, rfl, rfl, trivial⟩ ⟨by decide, rfl⟩
      · replace hm := ifF hm hb13
        refine WJ.exit ?_
        refine PJ.then_exit (PJ.then_exit (PJ.block_exit ?_))
        exact PJ.joined (x10, x11) [0] hm ⟨rfl, trivial⟩ ⟨by decide, rfl⟩
  · rintro ⟨x6, x7⟩ hm
    subst hk9
    refine WJ.seq ?_
    refine WJ.reg ?_
    refine SJ.q (YldS.yld (y_build (parts := []) (places := [(0, 1), (1, 1)]) (r := [.int .i64 ((Press.mk 0 false).key), .bool ((Press.mk 0 false).shift)]) pl37 Try.zeroValue37 rfl rfl rfl rfl)) rfl ?_
    refine SJ.storeL (k := 0) (off := 0) (us := [.int .i64 ((Press.mk 0 false).key), .bool ((Press.mk 0 false).shift)]) rfl rfl rfl rfl Try.sizeOf37 rfl rfl ?_
    refine SJ.q (YldS.yld (y_assign rfl)) rfl ?_
    refine SJ.nil ?_
    refine PJ.next ?_
    refine WJ.ret ?_
    obtain rfl := Option.some.inj hm
    exact PJ.retn_sel (vs := [.agg (Press.enc (Press.mk 0 false)).toArray, .bool false]) Try.results77 ⟨⟨0, g5, 37, [.int .i64 ((Press.mk 0 false).key), .bool ((Press.mk 0 false).shift)], rfl, rfl, .inl ⟨Try.isAgg37, Try.sizeOf37, rfl⟩⟩, rfl, trivial⟩ [] ⟨List.nodup_nil, rfl⟩ ⟨rfl, rfl⟩

set_option maxRecDepth 100000 in
set_option maxHeartbeats 1000000 in
theorem ok_i_PressFor {N : Nat} {keys1 : List Key} {letter4 : Str} {r : Press × Int} (hm : i_PressFor N keys1 letter4 = some r) (w : World) (v2 : Value) (hr3 : RdS w (cx w).Fz v2 fKey.rp keys1) :
    Calls Try.prog 17 #[v2, str letter4] w (Ret (cx w) (tup [.agg (Press.enc r.1).toArray, .int .i64 r.2])) := by
  unfold i_PressFor at hm
  refine Calls.enter [v2, str letter4] Try.func17 rfl Try.ntmps17 rfl ?_
  refine WJ.seq ?_
  refine WJ.reg ?_
  refine SJ.alloc (cs := [.int .i64 0, .bool false]) Try.zeroValue37 rfl rfl fun g5 => ?_
  refine SJ.q (YldS.yld (y_assign rfl)) rfl ?_
  refine SJ.nil ?_
  refine PJ.next ?_
  refine WJ.seq ?_
  refine WJ.seq ?_
  refine WJ.quiet ?_
  refine QJ.step (YldS.yld (y_move rfl)) rfl ?_
  obtain ⟨r6, h7, hm⟩ := bindS hm
  refine QJ.step (y_call Try.call67 rfl (RetG.quiet fun w hw => ok_i_ValidKeys h7 w _ (hr3.st hw) _ RdS.nil0)) rfl ?_
  refine QJ.step (YldS.yld (y_not rfl)) rfl ?_
  refine QJ.done ?_
  refine PJ.next ?_
  refine WJ.cond (t := !r6) rfl (fun hb8 => ?_) (fun hb8 => ?_)
  · replace hm := ifT hm hb8
    refine WJ.seq ?_
    refine WJ.reg ?_
    refine SJ.q (YldS.yld (y_build (parts := []) (places := [(0, 1), (1, 1)]) (r := [.int .i64 ((Press.mk 0 false).key), .bool ((Press.mk 0 false).shift)]) pl37 Try.zeroValue37 rfl rfl rfl rfl)) rfl ?_
    refine SJ.storeL (k := 0) (off := 0) (us := [.int .i64 ((Press.mk 0 false).key), .bool ((Press.mk 0 false).shift)]) rfl rfl rfl rfl Try.sizeOf37 rfl rfl ?_
    refine SJ.q (YldS.yld (y_assign rfl)) rfl ?_
    refine SJ.nil ?_
    refine PJ.next ?_
    refine WJ.ret ?_
    refine PJ.then_ret ?_
    obtain rfl := Option.some.inj hm
    exact PJ.retn_sel (vs := [.agg (Press.enc (Press.mk 0 false)).toArray, .int .i64 1]) Try.results17 ⟨⟨0, g5, 37, [.int .i64 ((Press.mk 0 false).key), .bool ((Press.mk 0 false).shift)], rfl, rfl, .inl ⟨Try.isAgg37, Try.sizeOf37, rfl⟩⟩, rfl, trivial⟩ [] ⟨List.nodup_nil, rfl⟩ ⟨rfl, rfl⟩
  · replace hm := ifF hm hb8
    refine WJ.skip ?_
    refine PJ.next ?_
    refine WJ.seq ?_
    refine WJ.seq ?_
    refine WJ.quiet ?_
    refine QJ.step (YldS.yld (y_move rfl)) rfl ?_
    obtain ⟨r9, h10, hm⟩ := bindS hm
    refine QJ.step (y_call Try.call76 rfl (RetG.quiet fun w hw => ok_i_isLetter h10 w )) rfl ?_
    refine QJ.step (YldS.yld (y_not rfl)) rfl ?_
    refine QJ.done ?_
    refine PJ.next ?_
    refine WJ.cond (t := !r9) rfl (fun hb11 => ?_) (fun hb11 => ?_)
    · replace hm := ifT hm hb11
      refine WJ.seq ?_
      refine WJ.reg ?_
      refine SJ.q (YldS.yld (y_build (parts := []) (places := [(0, 1), (1, 1)]) (r := [.int .i64 ((Press.mk 0 false).key), .bool ((Press.mk 0 false).shift)]) pl37 Try.zeroValue37 rfl rfl rfl rfl)) rfl ?_
      refine SJ.storeL (k := 0) (off := 0) (us := [.int .i64 ((Press.mk 0 false).key), .bool ((Press.mk 0 false).shift)]) rfl rfl rfl rfl Try.sizeOf37 rfl rfl ?_
      refine SJ.q (YldS.yld (y_assign rfl)) rfl ?_
      refine SJ.nil ?_
      refine PJ.next ?_
      refine WJ.ret ?_
      refine PJ.then_ret ?_
      obtain rfl := Option.some.inj hm
      exact PJ.retn_sel (vs := [.agg (Press.enc (Press.mk 0 false)).toArray, .int .i64 2]) Try.results17 ⟨⟨0, g5, 37, [.int .i64 ((Press.mk 0 false).key), .bool ((Press.mk 0 false).shift)], rfl, rfl, .inl ⟨Try.isAgg37, Try.sizeOf37, rfl⟩⟩, rfl, trivial⟩ [] ⟨List.nodup_nil, rfl⟩ ⟨rfl, rfl⟩
    · replace hm := ifF hm hb11
      refine WJ.skip ?_
      refine PJ.next ?_
      refine WJ.seq ?_
      refine WJ.reg ?_
      refine SJ.q (YldS.yld (y_move rfl)) rfl ?_
      refine SJ.q (YldS.yld (y_move rfl)) rfl ?_
      obtain ⟨r12, h13, hm⟩ := bindS hm
      refine SJ.q (y_call Try.call77 rfl (RetG.quiet fun w hw => ok_i_pressOf h13 w _ (hr3.st hw))) rfl ?_
      refine SJ.q (YldS.yld (y_move rfl)) rfl ?_
      refine SJ.q (YldS.yld (y_extract rfl rfl)) rfl ?_
      refine SJ.q (YldS.yld (y_extract rfl rfl)) rfl ?_
      refine SJ.alloc (cs := [.int .i64 0, .bool false]) Try.zeroValue37 rfl rfl fun g14 => ?_
      refine SJ.storeL (k := 0) (off := 0) (us := [.int .i64 r12.1.key, .bool r12.1.shift]) rfl rfl rfl rfl Try.sizeOf37 rfl rfl ?_
      refine SJ.q (YldS.yld (y_assign rfl)) rfl ?_
      refine SJ.nil ?_
      refine PJ.next ?_
      refine WJ.seq ?_
      refine WJ.seq ?_
      refine WJ.quiet ?_
      refine QJ.step (YldS.yld (y_move rfl)) rfl ?_
      refine QJ.step (YldS.yld (y_not rfl)) rfl ?_
      refine QJ.done ?_
      refine PJ.next ?_
      refine WJ.cond (t := !r12.2) rfl (fun hb15 => ?_) (fun hb15 => ?_)
      · replace hm := ifT hm hb15
        refine WJ.seq ?_
        refine WJ.reg ?_
        refine SJ.q (YldS.yld (y_build (parts := []) (places := [(0, 1), (1, 1)]) (r := [.int .i64 ((Press.mk 0 false).key), .bool ((Press.mk 0 false).shift)]) pl37 Try.zeroValue37 rfl rfl rfl rfl)) rfl ?_
        refine SJ.storeL (k := 1) (off := 0) (us := [.int .i64 ((Press.mk 0 false).key), .bool ((Press.mk 0 false).shift)]) rfl rfl rfl rfl Try.sizeOf37 rfl rfl ?_
        refine SJ.q (YldS.yld (y_assign rfl)) rfl ?_
        refine SJ.nil ?_
        refine PJ.next ?_
        refine WJ.ret ?_
        refine PJ.then_ret ?_
        obtain rfl := Option.some.inj hm
        exact PJ.retn_sel (vs := [.agg (Press.enc (Press.mk 0 false)).toArray, .int .i64 3]) Try.results17 ⟨⟨1, g5, 37, [.int .i64 ((Press.mk 0 false).key), .bool ((Press.mk 0 false).shift)], rfl, rfl, .inl ⟨Try.isAgg37, Try.sizeOf37, rfl⟩⟩, rfl, trivial⟩ [] ⟨List.nodup_nil, rfl⟩ ⟨rfl, rfl⟩
      · replace hm := ifF hm hb15
        refine WJ.skip ?_
        refine PJ.next ?_
        refine WJ.seq ?_
        refine WJ.reg ?_
        refine SJ.q (YldS.yld (y_loadBN (k := 0) (off := 0) (us := [.int .i64 r12.1.key, .bool r12.1.shift]) rfl Try.isAgg37 Try.sizeOf37 rfl rfl)) rfl ?_
        refine SJ.storeL (k := 1) (off := 0) (us := [.int .i64 r12.1.key, .bool r12.1.shift]) rfl rfl rfl rfl Try.sizeOf37 rfl rfl ?_
        refine SJ.q (YldS.yld (y_assign rfl)) rfl ?_
        refine SJ.nil ?_
        refine PJ.next ?_
        refine WJ.ret ?_
        obtain rfl := Option.some.inj hm
        exact PJ.retn_sel (vs := [.agg (Press.enc r12.1).toArray, .int .i64 0]) Try.results17 ⟨⟨1, g5, 37, [.int .i64 r12.1.key, .bool r12.1.shift], rfl, rfl, .inl ⟨Try.isAgg37, Try.sizeOf37, rfl⟩⟩, rfl, trivial⟩ [] ⟨List.nodup_nil, rfl⟩ ⟨rfl, rfl⟩

set_option maxRecDepth 100000 in
set_option maxHeartbeats 1000000 in
theorem ok_s_PressFor {N : Nat} {keys1 : List Key} {letter4 : Str} {r : Press × Int} (hm : s_PressFor N keys1 letter4 = some r) (w : World) (v2 : Value) (hr3 : RdS w (cx w).Fz v2 fKey.rp keys1) :
    Calls Try.prog 18 #[v2, str letter4] w (Ret (cx w) (tup [.agg (Press.enc r.1).toArray, .int .i64 r.2])) := by
  unfold s_PressFor at hm
  refine Calls.enter [v2, str letter4] Try.func18 rfl Try.ntmps18 rfl ?_
  refine WJ.seq ?_
  refine WJ.reg ?_
  refine SJ.alloc (cs := [.int .i64 0, .bool false]) Try.zeroValue37 rfl rfl fun g5 => ?_
  refine SJ.q (YldS.yld (y_assign rfl)) rfl ?_
  refine SJ.nil ?_
  refine PJ.next ?_
  refine WJ.seq ?_
  refine WJ.seq ?_
  refine WJ.reg ?_
  refine SJ.q (YldS.yld (y_move rfl)) rfl ?_
  refine SJ.buildSlice (R := fAccent) (os := []) [] Try.runUnderlying25 Try.sizeOf101 Try.zeroValue101 rfl rfl rfl rfl rfl rfl fun v6 => ?_
  obtain ⟨r7, h8, hm⟩ := bindS hm
  refine SJ.q (y_call Try.call70 rfl (RetG.quiet fun w hw => ok_s_l02Ok h8 w _ (hr3.st hw) _ (hw.row_rd (k := 0) rfl))) rfl ?_
  refine SJ.q (YldS.yld (y_not rfl)) rfl ?_
  refine SJ.nil ?_
  refine PJ.next ?_
  refine WJ.cond (t := !r7) rfl (fun hb9 => ?_) (fun hb9 => ?_)
  · replace hm := ifT hm hb9
    refine WJ.seq ?_
    refine WJ.reg ?_
    refine SJ.q (YldS.yld (y_build (parts := []) (places := [(0, 1), (1, 1)]) (r := [.int .i64 ((Press.mk 0 false).key), .bool ((Press.mk 0 false).shift)]) pl37 Try.zeroValue37 rfl rfl rfl rfl)) rfl ?_
    refine SJ.storeL (k := 1) (off := 0) (us := [.int .i64 ((Press.mk 0 false).key), .bool ((Press.mk 0 false).shift)]) rfl rfl rfl rfl Try.sizeOf37 rfl rfl ?_
    refine SJ.q (YldS.yld (y_assign rfl)) rfl ?_
    refine SJ.nil ?_
    refine PJ.next ?_
    refine WJ.ret ?_
    refine PJ.then_ret ?_
    obtain rfl := Option.some.inj hm
    exact PJ.retn_sel (vs := [.agg (Press.enc (Press.mk 0 false)).toArray, .int .i64 1]) Try.results18 ⟨⟨1, g5, 37, [.int .i64 ((Press.mk 0 false).key), .bool ((Press.mk 0 false).shift)], rfl, rfl, .inl ⟨Try.isAgg37, Try.sizeOf37, rfl⟩⟩, rfl, trivial⟩ [] ⟨List.nodup_nil, rfl⟩ ⟨rfl, rfl⟩
  · replace hm := ifF hm hb9
    refine WJ.skip ?_
    refine PJ.next ?_
    refine WJ.seq ?_
    refine WJ.seq ?_
    refine WJ.quiet ?_
    refine QJ.step (YldS.yld (y_move rfl)) rfl ?_
    obtain ⟨r10, h11, hm⟩ := bindS hm
    refine QJ.step (y_call Try.call78 rfl (RetG.quiet fun w hw => ok_s_l02Letter h11 w )) rfl ?_
    refine QJ.step (YldS.yld (y_not rfl)) rfl ?_
    refine QJ.done ?_
    refine PJ.next ?_
    refine WJ.cond (t := !r10) rfl (fun hb12 => ?_) (fun hb12 => ?_)
    · replace hm := ifT hm hb12
      refine WJ.seq ?_
      refine WJ.reg ?_
      refine SJ.q (YldS.yld (y_build (parts := []) (places := [(0, 1), (1, 1)]) (r := [.int .i64 ((Press.mk 0 false).key), .bool ((Press.mk 0 false).shift)]) pl37 Try.zeroValue37 rfl rfl rfl rfl)) rfl ?_
      refine SJ.storeL (k := 1) (off := 0) (us := [.int .i64 ((Press.mk 0 false).key), .bool ((Press.mk 0 false).shift)]) rfl rfl rfl rfl Try.sizeOf37 rfl rfl ?_
      refine SJ.q (YldS.yld (y_assign rfl)) rfl ?_
      refine SJ.nil ?_
      refine PJ.next ?_
      refine WJ.ret ?_
      refine PJ.then_ret ?_
      obtain rfl := Option.some.inj hm
      exact PJ.retn_sel (vs := [.agg (Press.enc (Press.mk 0 false)).toArray, .int .i64 2]) Try.results18 ⟨⟨1, g5, 37, [.int .i64 ((Press.mk 0 false).key), .bool ((Press.mk 0 false).shift)], rfl, rfl, .inl ⟨Try.isAgg37, Try.sizeOf37, rfl⟩⟩, rfl, trivial⟩ [] ⟨List.nodup_nil, rfl⟩ ⟨rfl, rfl⟩
    · replace hm := ifF hm hb12
      refine WJ.skip ?_
      refine PJ.next ?_
      refine WJ.seq ?_
      refine WJ.quiet ?_
      refine QJ.step (YldS.yld (y_move rfl)) rfl ?_
      refine QJ.step (YldS.yld (y_move rfl)) rfl ?_
      obtain ⟨r13, h14, hm⟩ := bindS hm
      refine QJ.step (y_call Try.call79 rfl (RetG.quiet fun w hw => ok_s_l02Find h14 w _ (hr3.st hw))) rfl ?_
      refine QJ.step (YldS.yld (y_move rfl)) rfl ?_
      refine QJ.step (YldS.yld (y_extract rfl rfl)) rfl ?_
      refine QJ.step (YldS.yld (y_extract rfl rfl)) rfl ?_
      refine QJ.step (YldS.yld (y_assign rfl)) rfl ?_
      refine QJ.step (YldS.yld (y_assign rfl)) rfl ?_
      refine QJ.done ?_
      refine PJ.next ?_
      refine WJ.seq ?_
      refine WJ.seq ?_
      refine WJ.quiet ?_
      refine QJ.step (YldS.yld (y_move rfl)) rfl ?_
      refine QJ.step (YldS.yld (y_bin rfl rfl rfl)) rfl ?_
      refine QJ.done ?_
      refine PJ.next ?_
      refine WJ.cond (t := decide (r13.1 < 0)) rfl (fun hb15 => ?_) (fun hb15 => ?_)
      · replace hm := ifT hm hb15
        refine WJ.seq ?_
        refine WJ.reg ?_
        refine SJ.q (YldS.yld (y_build (parts := []) (places := [(0, 1), (1, 1)]) (r := [.int .i64 ((Press.mk 0 false).key), .bool ((Press.mk 0 false).shift)]) pl37 Try.zeroValue37 rfl rfl rfl rfl)) rfl ?_
        refine SJ.storeL (k := 1) (off := 0) (us := [.int .i64 ((Press.mk 0 false).key), .bool ((Press.mk 0 false).shift)]) rfl rfl rfl rfl Try.sizeOf37 rfl rfl ?_
        refine SJ.q (YldS.yld (y_assign rfl)) rfl ?_
        refine SJ.nil ?_
        refine PJ.next ?_
        refine WJ.ret ?_
        refine PJ.then_ret ?_
        obtain rfl := Option.some.inj hm
        exact PJ.retn_sel (vs := [.agg (Press.enc (Press.mk 0 false)).toArray, .int .i64 3]) Try.results18 ⟨⟨1, g5, 37, [.int .i64 ((Press.mk 0 false).key), .bool ((Press.mk 0 false).shift)], rfl, rfl, .inl ⟨Try.isAgg37, Try.sizeOf37, rfl⟩⟩, rfl, trivial⟩ [] ⟨List.nodup_nil, rfl⟩ ⟨rfl, rfl⟩
      · replace hm := ifF hm hb15
        refine WJ.skip ?_
        refine PJ.next ?_
        refine WJ.seq ?_
        refine WJ.reg ?_
        refine SJ.q (YldS.yld (y_move rfl)) rfl ?_
        refine SJ.q (YldS.yld (y_move rfl)) rfl ?_
        refine SJ.q (YldS.yld (y_build (parts := [(0, .tmp 26), (1, .tmp 27)]) (places := [(0, 1), (1, 1)]) (r := [.int .i64 ((Press.mk r13.1 r13.2).key), .bool ((Press.mk r13.1 r13.2).shift)]) pl37 Try.zeroValue37 rfl rfl rfl rfl)) rfl ?_
        refine SJ.storeL (k := 1) (off := 0) (us := [.int .i64 ((Press.mk r13.1 r13.2).key), .bool ((Press.mk r13.1 r13.2).shift)]) rfl rfl rfl rfl Try.sizeOf37 rfl rfl ?_
        refine SJ.q (YldS.yld (y_assign rfl)) rfl ?_
        refine SJ.nil ?_
        refine PJ.next ?_
        refine WJ.ret ?_
        obtain rfl := Option.some.inj hm
        exact PJ.retn_sel (vs := [.agg (Press.enc (Press.mk r13.1 r13.2)).toArray, .int .i64 0]) Try.results18 ⟨⟨1, g5, 37, [.int .i64 ((Press.mk r13.1 r13.2).key), .bool ((Press.mk r13.1 r13.2).shift)], rfl, rfl, .inl ⟨Try.isAgg37, Try.sizeOf37, rfl⟩⟩, rfl, trivial⟩ [] ⟨List.nodup_nil, rfl⟩ ⟨rfl, rfl⟩

set_option maxRecDepth 100000 in
set_option maxHeartbeats 1000000 in
theorem ok_i_pressesOf {N : Nat} {keys1 : List Key} {accents4 : List Accent} {letter7 : Str} {r : (List Press)} (hm : i_pressesOf N keys1 accents4 letter7 = some r) (w : World) (v2 : Value) (hr3 : RdS w (cx w).Fz v2 fKey.rp keys1) (v5 : Value) (hr6 : RdS w (cx w).Fz v5 fAccent.rp accents4) :
    Calls Try.prog 81 #[v2, v5, str letter7] w (RetG (cx w) fun u L => ∃ (u1 : Value), (u = u1 ∧ L = [row u1 37 fPress r])) := by
  unfold i_pressesOf at hm
  refine Calls.enter [v2, v5, str letter7] Try.func81 rfl Try.ntmps81 rfl ?_
  refine WJ.seq ?_
  refine WJ.quiet ?_
  refine QJ.step (YldS.yld (y_assign rfl)) rfl ?_
  refine QJ.done ?_
  refine PJ.next ?_
  refine WJ.seq ?_
  refine WJ.seq ?_
  refine WJ.reg ?_
  refine SJ.q (YldS.yld (y_move rfl)) rfl ?_
  refine SJ.q (YldS.yld (y_move rfl)) rfl ?_
  obtain ⟨r8, h9, hm⟩ := bindS hm
  refine SJ.q (y_call Try.call77 rfl (RetG.quiet fun w hw => ok_i_pressOf h9 w _ (hr3.st hw))) rfl ?_
  refine SJ.q (YldS.yld (y_move rfl)) rfl ?_
  refine SJ.q (YldS.yld (y_extract rfl rfl)) rfl ?_
  refine SJ.q (YldS.yld (y_extract rfl rfl)) rfl ?_
  refine SJ.alloc (cs := [.int .i64 0, .bool false]) Try.zeroValue37 rfl rfl fun g10 => ?_
  refine SJ.storeL (k := 0) (off := 0) (us := [.int .i64 r8.1.key, .bool r8.1.shift]) rfl rfl rfl rfl Try.sizeOf37 rfl rfl ?_
  refine SJ.q (YldS.yld (y_assign rfl)) rfl ?_
  refine SJ.nil ?_
  refine PJ.next ?_
  refine WJ.seq ?_
  refine WJ.quiet ?_
  refine QJ.step (YldS.yld (y_move rfl)) rfl ?_
  refine QJ.done ?_
  refine PJ.next ?_
  refine WJ.cond (t := r8.2) rfl (fun hb11 => ?_) (fun hb11 => ?_)
  · replace hm := ifT hm hb11
    refine WJ.seq ?_
    refine WJ.seq ?_
    refine WJ.quiet ?_
    refine QJ.step (YldS.yld (y_move rfl)) rfl ?_
    refine QJ.step (YldS.yld (y_fldB (o := 0) fld37_0 rfl)) rfl ?_
    refine QJ.step (YldS.yld (y_loadB (k := 0) (off := 0) (v := .int .i64 r8.1.key) rfl Try.isAgg2 rfl rfl)) rfl ?_
    obtain ⟨e12, h13, hm⟩ := bindS hm
    obtain ⟨ad14, _, rfl, ha15, hy16⟩ := hr3.elem h13
    refine QJ.step (YldS.yld (hy16 Try.runUnderlying24 Try.sizeOf41 rfl rfl)) rfl ?_
    refine QJ.step (YldS.yld (y_fld (ad := ad14) fld41_2 rfl)) rfl ?_
    refine QJ.step (YldS.yld (y_load1 (v := .bool e12.dead) Try.isAgg4 (ha15.sub 2 1) St.frozenC rfl)) rfl ?_
    refine QJ.done ?_
    refine PJ.next ?_
    refine WJ.cond (t := e12.dead) rfl (fun hb17 => ?_) (fun hb17 => ?_)
    · replace hm := ifT hm hb17
      refine WJ.seq ?_
      refine WJ.quiet ?_
      refine QJ.step (YldS.yld (y_assign rfl)) rfl ?_
      refine QJ.done ?_
      refine PJ.next ?_
      refine WJ.ret ?_
      refine PJ.then_ret (PJ.then_ret ?_)
      refine PJ.nil_row 37 fPress ?_
      obtain rfl := Option.some.inj hm
      refine PJ.sel (L' := [row (.slice none 0 0) 37 fPress []]) [0] ⟨by decide, rfl⟩ ?_
      exact PJ.retn (vs := [(.slice none 0 0)]) Try.results81 ⟨rfl, trivial⟩ ⟨_, rfl, rfl⟩
    · replace hm := ifF hm hb17
      refine WJ.skip ?_
      refine PJ.next ?_
      refine WJ.seq ?_
      refine WJ.reg ?_
      refine SJ.q (YldS.yld (y_loadBN (k := 0) (off := 0) (us := [.int .i64 r8.1.key, .bool r8.1.shift]) rfl Try.isAgg37 Try.sizeOf37 rfl rfl)) rfl ?_
      refine SJ.buildSlice (R := fPress) (os := [.tmp 28]) [r8.1] Try.runUnderlying26 Try.sizeOf37 Try.zeroValue37 rfl rfl rfl rfl rfl rfl fun v18 => ?_
      refine SJ.q (YldS.yld (y_assign rfl)) rfl ?_
      refine SJ.nil ?_
      refine PJ.next ?_
      refine WJ.ret ?_
      refine PJ.then_ret ?_
      obtain rfl := Option.some.inj hm
      refine PJ.sel (L' := [row v18 37 fPress [r8.1]]) [0] ⟨by decide, rfl⟩ ?_
      exact PJ.retn (vs := [v18]) Try.results81 ⟨rfl, trivial⟩ ⟨_, rfl, rfl⟩
  · replace hm := ifF hm hb11
    refine WJ.skip ?_
    refine PJ.next ?_
    obtain ⟨kj19, hk20, hm⟩ := withK_open hm
    refine WJ.join (X := Unit) (fun (_ : Unit) => kj19  = some r) (fun (_ : Unit) => []) (fun (_ : Unit) => []) ?_ ?_
    · clear hk20
      refine WJ.seq ?_
      refine WJ.quiet ?_
      refine QJ.step (YldS.yld (y_move rfl)) rfl ?_
      refine QJ.step (YldS.yld (y_lenS Try.runUnderlying25 hr6 rfl)) rfl ?_
      refine QJ.step (YldS.yld (y_move rfl)) rfl ?_
      refine QJ.done ?_
      refine PJ.next ?_
      refine WJ.block ?_
      refine WJ.sel (L' := (fun (x : Int) => []) 0) [] ⟨List.nodup_nil, rfl⟩ ?_
      refine WJ.sub (m' := (fun (x : Int) => [(0, v2), (2, str letter7), (30, v5), (31, .int .i64 (List.length accents4 : Int)), (32, .int .i64 x)]) 0) ⟨rfl, rfl, rfl, rfl, rfl, trivial⟩ ?_
      refine WJ.loop (X := Int) (fun N (x : Int) => i_pressesOf_l1 kj19 keys1 accents4 letter7 N x = some r) (fun (x : Int) => [(0, v2), (2, str letter7), (30, v5), (31, .int .i64 (List.length accents4 : Int)), (32, .int .i64 x)]) (fun (x : Int) => []) ?_ N 0 hm
      · rintro N x21 hI
        have hm := hI; clear hI
        cases N with
        | zero => cases hm
        | succ N =>
        unfold i_pressesOf_l1 at hm
        refine WJ.seq ?_
        refine WJ.quiet ?_
        refine QJ.step (YldS.yld (y_bin rfl rfl rfl)) rfl ?_
        refine QJ.done ?_
        refine PJ.next ?_
        refine WJ.seq ?_
        refine WJ.cond (t := decide (x21 < (List.length accents4 : Int))) rfl (fun hb22 => ?_) (fun hb22 => ?_)
        · replace hm := ifT hm hb22
          refine WJ.skip ?_
          refine PJ.next ?_
          refine WJ.seq ?_
          refine WJ.block ?_
          refine WJ.seq ?_
          refine WJ.reg ?_
          obtain ⟨e23, h24, hm⟩ := bindS hm
          obtain ⟨ad25, _, rfl, ha26, hy27⟩ := hr6.elem h24
          refine SJ.q (YldS.yld (hy27 Try.runUnderlying25 Try.sizeOf101 rfl rfl)) rfl ?_
          refine SJ.q (YldS.yld (y_loadN Try.isAgg101 Try.sizeOf101 rfl ha26 St.frozenC rfl)) rfl ?_
          refine SJ.alloc (cs := [str [], str [], str []]) Try.zeroValue101 rfl rfl fun g28 => ?_
          refine SJ.storeL (k := 0) (off := 0) (us := [str e23.mark, str e23.letter, str e23.made]) rfl rfl rfl rfl Try.sizeOf101 rfl rfl ?_
          refine SJ.nil ?_
          refine PJ.next ?_
          refine WJ.seq ?_
          refine WJ.quiet ?_
          refine QJ.step (YldS.yld (y_fldB (o := 0) fld101_2 rfl)) rfl ?_
          refine QJ.step (YldS.yld (y_loadB (k := 0) (off := 2) (v := str e23.made) rfl Try.isAgg9 rfl rfl)) rfl ?_
          refine QJ.step (YldS.yld (y_move rfl)) rfl ?_
          refine QJ.step (YldS.yld (y_binS rfl rfl rfl)) rfl ?_
          refine QJ.done ?_
          refine PJ.next ?_
          refine WJ.cond (t := (e23.made == letter7)) rfl (fun hb29 => ?_) (fun hb29 => ?_)
          · replace hm := ifT hm hb29
            refine WJ.seq ?_
            refine WJ.reg ?_
            refine SJ.q (YldS.yld (y_move rfl)) rfl ?_
            refine SJ.q (YldS.yld (y_fldB (o := 0) fld101_0 rfl)) rfl ?_
            refine SJ.q (YldS.yld (y_loadB (k := 0) (off := 0) (v := str e23.mark) rfl Try.isAgg9 rfl rfl)) rfl ?_
            obtain ⟨r30, h31, hm⟩ := bindS hm
            refine SJ.q (y_call Try.call77 rfl (RetG.quiet fun w hw => ok_i_pressOf h31 w _ (hr3.st hw))) rfl ?_
            refine SJ.q (YldS.yld (y_move rfl)) rfl ?_
            refine SJ.q (YldS.yld (y_extract rfl rfl)) rfl ?_
            refine SJ.q (YldS.yld (y_extract rfl rfl)) rfl ?_
            refine SJ.alloc (cs := [.int .i64 0, .bool false]) Try.zeroValue37 rfl rfl fun g32 => ?_
            refine SJ.storeL (k := 0) (off := 0) (us := [.int .i64 r30.1.key, .bool r30.1.shift]) rfl rfl rfl rfl Try.sizeOf37 rfl rfl ?_
            refine SJ.q (YldS.yld (y_assign rfl)) rfl ?_
            refine SJ.nil ?_
            refine PJ.next ?_
            refine WJ.seq ?_
            refine WJ.reg ?_
            refine SJ.q (YldS.yld (y_move rfl)) rfl ?_
            refine SJ.q (YldS.yld (y_fldB (o := 0) fld101_1 rfl)) rfl ?_
            refine SJ.q (YldS.yld (y_loadB (k := 1) (off := 1) (v := str e23.letter) rfl Try.isAgg9 rfl rfl)) rfl ?_
            obtain ⟨r33, h34, hm⟩ := bindS hm
            refine SJ.q (y_call Try.call77 rfl (RetG.quiet fun w hw => ok_i_pressOf h34 w _ (hr3.st hw))) rfl ?_
            refine SJ.q (YldS.yld (y_move rfl)) rfl ?_
            refine SJ.q (YldS.yld (y_extract rfl rfl)) rfl ?_
            refine SJ.q (YldS.yld (y_extract rfl rfl)) rfl ?_
            refine SJ.alloc (cs := [.int .i64 0, .bool false]) Try.zeroValue37 rfl rfl fun g35 => ?_
            refine SJ.storeL (k := 0) (off := 0) (us := [.int .i64 r33.1.key, .bool r33.1.shift]) rfl rfl rfl rfl Try.sizeOf37 rfl rfl ?_
            refine SJ.q (YldS.yld (y_assign rfl)) rfl ?_
            refine SJ.nil ?_
            refine PJ.next ?_
            refine WJ.seq ?_
            refine WJ.reg ?_
            refine SJ.q (YldS.yld (y_loadBN (k := 1) (off := 0) (us := [.int .i64 r30.1.key, .bool r30.1.shift]) rfl Try.isAgg37 Try.sizeOf37 rfl rfl)) rfl ?_
            refine SJ.q (YldS.yld (y_loadBN (k := 0) (off := 0) (us := [.int .i64 r33.1.key, .bool r33.1.shift]) rfl Try.isAgg37 Try.sizeOf37 rfl rfl)) rfl ?_
            refine SJ.buildSlice (R := fPress) (os := [.tmp 54, .tmp 55]) [r30.1, r33.1] Try.runUnderlying26 Try.sizeOf37 Try.zeroValue37 rfl rfl rfl rfl rfl rfl fun v36 => ?_
            refine SJ.q (YldS.yld (y_assign rfl)) rfl ?_
            refine SJ.nil ?_
            refine PJ.next ?_
            refine WJ.ret ?_
            refine PJ.block_ret (PJ.then_ret (PJ.then_ret (PJ.block_ret (PJ.then_ret ?_))))
            obtain rfl := Option.some.inj hm
            refine PJ.sel (L' := [row v36 37 fPress [r30.1, r33.1]]) [0] ⟨by decide, rfl⟩ ?_
            exact PJ.retn (vs := [v36]) Try.results81 ⟨rfl, trivial⟩ ⟨_, rfl, rfl⟩
          · replace hm := ifF hm hb29
            refine WJ.skip ?_
            refine PJ.block_normal (PJ.next ?_)
            refine WJ.quiet ?_
            refine QJ.step (YldS.yld (y_bin rfl rfl rfl)) rfl ?_
            refine QJ.step (YldS.yld (y_move rfl)) rfl ?_
            refine QJ.done ?_
            exact PJ.round (w64 (x21 + 1)) [] hm ⟨rfl, rfl, rfl, rfl, rfl, trivial⟩ ⟨List.nodup_nil, rfl⟩
        · replace hm := ifF hm hb22
          refine WJ.exit ?_
          refine PJ.then_exit (PJ.then_exit (PJ.block_exit ?_))
          exact PJ.joined () [] hm trivial ⟨List.nodup_nil, rfl⟩
    · rintro _ hm
      subst hk20
      refine WJ.seq ?_
      refine WJ.quiet ?_
      refine QJ.step (YldS.yld (y_assign rfl)) rfl ?_
      refine QJ.done ?_
      refine PJ.next ?_
      refine WJ.ret ?_
      refine PJ.nil_row 37 fPress ?_
      obtain rfl := Option.some.inj hm
      refine PJ.sel (L' := [row (.slice none 0 0) 37 fPress []]) [0] ⟨by decide, rfl⟩ ?_
      exact PJ.retn (vs := [(.slice none 0 0)]) Try.results81 ⟨rfl, trivial⟩ ⟨_, rfl, rfl⟩

set_option maxRecDepth 100000 in
set_option maxHeartbeats 1000000 in
theorem ok_i_PressesFor {N : Nat} {keys1 : List Key} {accents4 : List Accent} {text7 : Str} {r : (List Press) × Int} (hm : i_PressesFor N keys1 accents4 text7 = some r) (w : World) (v2 : Value) (hr3 : RdS w (cx w).Fz v2 fKey.rp keys1) (v5 : Value) (hr6 : RdS w (cx w).Fz v5 fAccent.rp accents4) :
    Calls Try.prog 19 #[v2, v5, str text7] w (RetG (cx w) fun u L => ∃ (u1 : Value), (u = tup [u1, .int .i64 r.2] ∧ L = [row u1 37 fPress r.1])) := by
  unfold i_PressesFor at hm
  refine Calls.enter [v2, v5, str text7] Try.func19 rfl Try.ntmps19 rfl ?_
  refine WJ.seq ?_
  refine WJ.quiet ?_
  refine QJ.step (YldS.yld (y_assign rfl)) rfl ?_
  refine QJ.step (YldS.yld (y_assign rfl)) rfl ?_
  refine QJ.done ?_
  refine PJ.next ?_
  refine WJ.seq ?_
  refine WJ.seq ?_
  refine WJ.quiet ?_
  refine QJ.step (YldS.yld (y_move rfl)) rfl ?_
  refine QJ.step (YldS.yld (y_move rfl)) rfl ?_
  obtain ⟨r8, h9, hm⟩ := bindS hm
  refine QJ.step (y_call Try.call67 rfl (RetG.quiet fun w hw => ok_i_ValidKeys h9 w _ (hr3.st hw) _ (hr6.st hw))) rfl ?_
  refine QJ.step (YldS.yld (y_not rfl)) rfl ?_
  refine QJ.done ?_
  refine PJ.next ?_
  refine WJ.cond (t := !r8) rfl (fun hb10 => ?_) (fun hb10 => ?_)
  · replace hm := ifT hm hb10
    refine WJ.seq ?_
    refine WJ.quiet ?_
    refine QJ.step (YldS.yld (y_assign rfl)) rfl ?_
    refine QJ.step (YldS.yld (y_assign rfl)) rfl ?_
    refine QJ.done ?_
    refine PJ.next ?_
    refine WJ.ret ?_
    refine PJ.then_ret ?_
    refine PJ.nil_row 37 fPress ?_
    obtain rfl := Option.some.inj hm
    refine PJ.sel (L' := [row (.slice none 0 0) 37 fPress []]) [0] ⟨by decide, rfl⟩ ?_
    exact PJ.retn (vs := [(.slice none 0 0), .int .i64 1]) Try.results19 ⟨rfl, rfl, trivial⟩ ⟨_, rfl, rfl⟩
  · replace hm := ifF hm hb10
    refine WJ.skip ?_
    refine PJ.next ?_
    refine WJ.seq ?_
    refine WJ.seq ?_
    refine WJ.quiet ?_
    refine QJ.step (YldS.yld (y_move rfl)) rfl ?_
    obtain ⟨r11, h12, hm⟩ := bindS hm
    refine QJ.step (y_call Try.call80 rfl (RetG.quiet fun w hw => ok_i_isText h12 w )) rfl ?_
    refine QJ.step (YldS.yld (y_not rfl)) rfl ?_
    refine QJ.done ?_
    refine PJ.next ?_
    refine WJ.cond (t := !r11) rfl (fun hb13 => ?_) (fun hb13 => ?_)
    · replace hm := ifT hm hb13
      refine WJ.seq ?_
      refine WJ.quiet ?_
      refine QJ.step (YldS.yld (y_assign rfl)) rfl ?_
      refine QJ.step (YldS.yld (y_assign rfl)) rfl ?_
      refine QJ.done ?_
      refine PJ.next ?_
      refine WJ.ret ?_
      refine PJ.then_ret ?_
      refine PJ.nil_row 37 fPress ?_
      obtain rfl := Option.some.inj hm
      refine PJ.sel (L' := [row (.slice none 0 0) 37 fPress []]) [0] ⟨by decide, rfl⟩ ?_
      exact PJ.retn (vs := [(.slice none 0 0), .int .i64 2]) Try.results19 ⟨rfl, rfl, trivial⟩ ⟨_, rfl, rfl⟩
    · replace hm := ifF hm hb13
      refine WJ.skip ?_
      refine PJ.next ?_
      refine WJ.seq ?_
      refine WJ.reg ?_
      refine SJ.buildSlice (R := fPress) (os := []) [] Try.runUnderlying26 Try.sizeOf37 Try.zeroValue37 rfl rfl rfl rfl rfl rfl fun v14 => ?_
      refine SJ.q (YldS.yld (y_assign rfl)) rfl ?_
      refine SJ.nil ?_
      refine PJ.next ?_
      obtain ⟨kj17, hk18, hm⟩ := withK_open hm
      refine WJ.join (X := (List Press) × Value) (fun (x : (List Press) × Value) => kj17 x.1 = some r) (fun (x : (List Press) × Value) => [(8, x.2)]) (fun (x : (List Press) × Value) => [row x.2 37 fPress x.1]) ?_ ?_
      · clear hk18
        refine WJ.seq ?_
        refine WJ.quiet ?_
        refine QJ.step (YldS.yld (y_move rfl)) rfl ?_
        refine QJ.step (YldS.yld (y_lenStr Try.runUnderlying9 rfl)) rfl ?_
        refine QJ.step (YldS.yld (y_move rfl)) rfl ?_
        refine QJ.done ?_
        refine PJ.next ?_
        refine WJ.block ?_
        refine WJ.sel (L' := (fun (x : (List Press) × Value × Int) => [row x.2.1 37 fPress x.1]) ([], v14, 0)) [0] ⟨by decide, rfl⟩ ?_
        refine WJ.sub (m' := (fun (x : (List Press) × Value × Int) => [(0, v2), (1, v5), (2, str text7), (8, x.2.1), (20, .int .i64 (List.length text7 : Int)), (21, .int .i64 x.2.2)]) ([], v14, 0)) ⟨rfl, rfl, rfl, rfl, rfl, rfl, trivial⟩ ?_
        refine WJ.loop (X := (List Press) × Value × Int) (fun N (x : (List Press) × Value × Int) => i_PressesFor_l1 kj17 keys1 accents4 text7 N x.1 x.2.2 = some r) (fun (x : (List Press) × Value × Int) => [(0, v2), (1, v5), (2, str text7), (8, x.2.1), (20, .int .i64 (List.length text7 : Int)), (21, .int .i64 x.2.2)]) (fun (x : (List Press) × Value × Int) => [row x.2.1 37 fPress x.1]) ?_ N ([], v14, 0) hm
        · rintro N ⟨l19, v20, x21⟩ hI
          have hm := hI; clear hI
          cases N with
          | zero => cases hm
          | succ N =>
          unfold i_PressesFor_l1 at hm
          refine WJ.seq ?_
          refine WJ.quiet ?_
          refine QJ.step (YldS.yld (y_bin rfl rfl rfl)) rfl ?_
          refine QJ.done ?_
          refine PJ.next ?_
          refine WJ.seq ?_
          refine WJ.cond (t := decide (x21 < (List.length text7 : Int))) rfl (fun hb22 => ?_) (fun hb22 => ?_)
          · replace hm := ifT hm hb22
            refine WJ.skip ?_
            refine PJ.next ?_
            refine WJ.seq ?_
            refine WJ.block ?_
            refine WJ.seq ?_
            refine WJ.quiet ?_
            refine QJ.step (YldS.yld (y_move rfl)) rfl ?_
            refine QJ.step (YldS.yld (y_assign rfl)) rfl ?_
            refine QJ.done ?_
            refine PJ.next ?_
            refine WJ.seq ?_
            refine WJ.reg ?_
            refine SJ.q (YldS.yld (y_move rfl)) rfl ?_
            refine SJ.q (YldS.yld (y_move rfl)) rfl ?_
            refine SJ.q (YldS.yld (y_move rfl)) rfl ?_
            refine SJ.q (YldS.yld (y_move rfl)) rfl ?_
            refine SJ.q (YldS.yld (y_move rfl)) rfl ?_
            refine SJ.q (YldS.yld (y_bin rfl rfl rfl)) rfl ?_
            obtain ⟨s23, h24, hm⟩ := bindS hm
            refine SJ.q (YldS.yld (y_subStr (i := some x21) (j := some (w64 (x21 + 1))) h24 Try.runUnderlying9 rfl ⟨_, rfl⟩ ⟨_, rfl⟩)) rfl ?_
            obtain ⟨r25, h26, hm⟩ := bindS hm
            refine SJ.call Try.call81 rfl (fun w hw => ok_i_pressesOf h26 w _ (hr3.st hw) _ (hr6.st hw)) rfl ?_
            rintro v27 _ ⟨_, rfl, rfl⟩
            refine SJ.q (YldS.yld (y_assign rfl)) rfl ?_
            refine SJ.nil ?_
            refine PJ.next ?_
            refine WJ.seq ?_
            refine WJ.seq ?_
            refine WJ.quiet ?_
            refine QJ.step (YldS.yld (y_move rfl)) rfl ?_
            refine QJ.step (YldS.yld (y_lenRow (k := 0) rfl Try.runUnderlying26 rfl)) rfl ?_
            refine QJ.step (YldS.yld (y_bin rfl rfl rfl)) rfl ?_
            refine QJ.done ?_
            refine PJ.next ?_
            refine WJ.cond (t := ((List.length r25 : Int) == 0)) rfl (fun hb28 => ?_) (fun hb28 => ?_)
            · replace hm := ifT hm hb28
              refine WJ.seq ?_
              refine WJ.quiet ?_
              refine QJ.step (YldS.yld (y_assign rfl)) rfl ?_
              refine QJ.step (YldS.yld (y_assign rfl)) rfl ?_
              refine QJ.done ?_
              refine PJ.next ?_
              refine WJ.ret ?_
              refine PJ.then_ret (PJ.block_ret (PJ.then_ret (PJ.then_ret (PJ.block_ret (PJ.then_ret ?_)))))
              refine PJ.nil_row 37 fPress ?_
              obtain rfl := Option.some.inj hm
              refine PJ.sel (L' := [row (.slice none 0 0) 37 fPress []]) [0] ⟨by decide, rfl⟩ ?_
              exact PJ.retn (vs := [(.slice none 0 0), .int .i64 3]) Try.results19 ⟨rfl, rfl, trivial⟩ ⟨_, rfl, rfl⟩
            · replace hm := ifF hm hb28
              refine WJ.skip ?_
              refine PJ.next ?_
              refine WJ.reg ?_
              refine SJ.q (YldS.yld (y_move rfl)) rfl ?_
              refine SJ.q (YldS.yld (y_move rfl)) rfl ?_
              obtain ⟨l29, h30, hm⟩ := bindS hm
              refine SJ.append (k := 1) (R := fPress) h30 rfl Try.underlying26 el37 rfl rfl rfl (fun w hw => (hw.row_rd (k := 0) rfl)) rfl fun v31 => ?_
              refine SJ.q (YldS.yld (y_assign rfl)) rfl ?_
              refine SJ.nil ?_
              refine PJ.block_normal (PJ.next ?_)
              refine WJ.quiet ?_
              refine QJ.step (YldS.yld (y_bin rfl rfl rfl)) rfl ?_
              refine QJ.step (YldS.yld (y_move rfl)) rfl ?_
              refine QJ.done ?_
              exact PJ.round (l29, v31, w64 (x21 + 1)) [1] hm ⟨rfl, rfl, rfl, rfl, rfl, rfl, trivial⟩ ⟨by decide, rfl⟩
          · replace hm := ifF hm hb22
            refine WJ.exit ?_
            refine PJ.then_exit (PJ.then_exit (PJ.block_exit ?_))
            exact PJ.joined (l19, v20) [0] hm ⟨rfl, trivial⟩ ⟨by decide, rfl⟩
      · rintro ⟨l15, v16⟩ hm
        subst hk18
        refine WJ.seq ?_
        refine WJ.quiet ?_
        refine QJ.step (YldS.yld (y_move rfl)) rfl ?_
        refine QJ.step (YldS.yld (y_assign rfl)) rfl ?_
        refine QJ.step (YldS.yld (y_assign rfl)) rfl ?_
        refine QJ.done ?_
        refine PJ.next ?_
        refine WJ.ret ?_
        obtain rfl := Option.some.inj hm
        refine PJ.sel (L' := [row v16 37 fPress l15]) [0] ⟨by decide, rfl⟩ ?_
        exact PJ.retn (vs := [v16, .int .i64 0]) Try.results19 ⟨rfl, rfl, trivial⟩ ⟨_, rfl, rfl⟩

set_option maxRecDepth 100000 in
set_option maxHeartbeats 1000000 in
theorem ok_w_FnDeadKeys {N : Nat} {code1 : List UInt8} {r : Bool} (hm : w_FnDeadKeys N code1 = some r) (w : World) (v2 : Value) (hr3 : RdS w (cx w).Fz v2 fByte.rp code1) :
    Calls Try.prog 3 #[v2] w (Ret (cx w) (.bool r)) := by
  unfold w_FnDeadKeys at hm
  refine Calls.enter [v2] Try.func3 rfl Try.ntmps3 rfl ?_
  refine WJ.seq ?_
  refine WJ.quiet ?_
  refine QJ.step (YldS.yld (y_assign rfl)) rfl ?_
  refine QJ.done ?_
  refine PJ.next ?_
  refine WJ.seq ?_
  refine WJ.seq ?_
  refine WJ.quiet ?_
  refine QJ.step (YldS.yld (y_move rfl)) rfl ?_
  obtain ⟨r4, h5, hm⟩ := bindS hm
  refine QJ.step (y_call Try.call9 rfl (RetG.quiet fun w hw => ok_w_f6big h5 w _ (hr3.st hw))) rfl ?_
  refine QJ.done ?_
  refine PJ.next ?_
  refine WJ.cond (t := r4) rfl (fun hb6 => ?_) (fun hb6 => ?_)
  · replace hm := ifT hm hb6
    refine WJ.seq ?_
    refine WJ.quiet ?_
    refine QJ.step (YldS.yld (y_assign rfl)) rfl ?_
    refine QJ.done ?_
    refine PJ.next ?_
    refine WJ.ret ?_
    refine PJ.then_ret ?_
    obtain rfl := Option.some.inj hm
    refine PJ.sel (L' := []) [] ⟨List.nodup_nil, rfl⟩ ?_
    exact PJ.retn (vs := [.bool true]) Try.results3 ⟨rfl, trivial⟩ ⟨rfl, rfl⟩
  · replace hm := ifF hm hb6
    refine WJ.skip ?_
    refine PJ.next ?_
    refine WJ.seq ?_
    refine WJ.reg ?_
    refine SJ.q (YldS.yld (y_move rfl)) rfl ?_
    obtain ⟨r7, h8, hm⟩ := bindS hm
    refine SJ.call Try.call10 rfl (fun w hw => ok_s_DrawTextOfPresses h8 w _ (hr3.st hw)) rfl ?_
    rintro _ _ ⟨v9, v10, v11, rfl, rfl⟩
    refine SJ.q (YldS.yld (y_move rfl)) rfl ?_
    refine SJ.q (YldS.yld (y_extract rfl rfl)) rfl ?_
    refine SJ.q (YldS.yld (y_extract rfl rfl)) rfl ?_
    refine SJ.q (YldS.yld (y_extract rfl rfl)) rfl ?_
    refine SJ.q (YldS.yld (y_assign rfl)) rfl ?_
    refine SJ.q (YldS.yld (y_assign rfl)) rfl ?_
    refine SJ.q (YldS.yld (y_assign rfl)) rfl ?_
    refine SJ.nil ?_
    refine PJ.next ?_
    refine WJ.seq ?_
    refine WJ.quiet ?_
    refine QJ.step (YldS.yld (y_move rfl)) rfl ?_
    refine QJ.step (YldS.yld (y_move rfl)) rfl ?_
    refine QJ.step (YldS.yld (y_move rfl)) rfl ?_
    obtain ⟨r12, h13, hm⟩ := bindS hm
    refine QJ.step (y_call Try.call11 rfl (RetG.quiet fun w hw => ok_i_TextOfPresses h13 w _ (hw.row_rd (k := 0) rfl) _ (hw.row_rd (k := 1) rfl) _ (hw.row_rd (k := 2) rfl))) rfl ?_
    refine QJ.step (YldS.yld (y_move rfl)) rfl ?_
    refine QJ.step (YldS.yld (y_extract rfl rfl)) rfl ?_
    refine QJ.step (YldS.yld (y_extract rfl rfl)) rfl ?_
    refine QJ.step (YldS.yld (y_assign rfl)) rfl ?_
    refine QJ.step (YldS.yld (y_assign rfl)) rfl ?_
    refine QJ.done ?_
    refine PJ.next ?_
    refine WJ.seq ?_
    refine WJ.quiet ?_
    refine QJ.step (YldS.yld (y_move rfl)) rfl ?_
    refine QJ.step (YldS.yld (y_move rfl)) rfl ?_
    refine QJ.step (YldS.yld (y_move rfl)) rfl ?_
    obtain ⟨r14, h15, hm⟩ := bindS hm
    refine QJ.step (y_call Try.call12 rfl (RetG.quiet fun w hw => ok_s_TextOfPresses h15 w _ (hw.row_rd (k := 0) rfl) _ (hw.row_rd (k := 1) rfl) _ (hw.row_rd (k := 2) rfl))) rfl ?_
    refine QJ.step (YldS.yld (y_move rfl)) rfl ?_
    refine QJ.step (YldS.yld (y_extract rfl rfl)) rfl ?_
    refine QJ.step (YldS.yld (y_extract rfl rfl)) rfl ?_
    refine QJ.step (YldS.yld (y_assign rfl)) rfl ?_
    refine QJ.step (YldS.yld (y_assign rfl)) rfl ?_
    refine QJ.done ?_
    refine PJ.next ?_
    refine WJ.seq ?_
    refine WJ.reg ?_
    refine SJ.q (YldS.yld (y_move rfl)) rfl ?_
    obtain ⟨r16, h17, hm⟩ := bindS hm
    refine SJ.call Try.call13 rfl (fun w hw => ok_s_DrawShiftsOf h17 w _ (hr3.st hw)) rfl ?_
    rintro v18 _ ⟨_, rfl, rfl⟩
    refine SJ.q (YldS.yld (y_assign rfl)) rfl ?_
    refine SJ.nil ?_
    refine PJ.next ?_
    refine WJ.seq ?_
    refine WJ.quiet ?_
    refine QJ.step (YldS.yld (y_move rfl)) rfl ?_
    obtain ⟨r19, h20, hm⟩ := bindS hm
    refine QJ.step (y_call Try.call14 rfl (RetG.quiet fun w hw => ok_i_ShiftsOf h20 w _ (hw.row_rd (k := 0) rfl))) rfl ?_
    refine QJ.step (YldS.yld (y_move rfl)) rfl ?_
    refine QJ.step (YldS.yld (y_extract rfl rfl)) rfl ?_
    refine QJ.step (YldS.yld (y_extract rfl rfl)) rfl ?_
    refine QJ.step (YldS.yld (y_assign rfl)) rfl ?_
    refine QJ.step (YldS.yld (y_assign rfl)) rfl ?_
    refine QJ.done ?_
    refine PJ.next ?_
    refine WJ.seq ?_
    refine WJ.quiet ?_
    refine QJ.step (YldS.yld (y_move rfl)) rfl ?_
    obtain ⟨r21, h22, hm⟩ := bindS hm
    refine QJ.step (y_call Try.call15 rfl (RetG.quiet fun w hw => ok_s_ShiftsOf h22 w _ (hw.row_rd (k := 0) rfl))) rfl ?_
    refine QJ.step (YldS.yld (y_move rfl)) rfl ?_
    refine QJ.step (YldS.yld (y_extract rfl rfl)) rfl ?_
    refine QJ.step (YldS.yld (y_extract rfl rfl)) rfl ?_
    refine QJ.step (YldS.yld (y_assign rfl)) rfl ?_
    refine QJ.step (YldS.yld (y_assign rfl)) rfl ?_
    refine QJ.done ?_
    refine PJ.next ?_
    refine WJ.seq ?_
    refine WJ.reg ?_
    refine SJ.q (YldS.yld (y_move rfl)) rfl ?_
    obtain ⟨r23, h24, hm⟩ := bindS hm
    refine SJ.call Try.call16 rfl (fun w hw => ok_s_DrawPressFor h24 w _ (hr3.st hw)) rfl ?_
    rintro _ _ ⟨v25, rfl, rfl⟩
    refine SJ.q (YldS.yld (y_move rfl)) rfl ?_
    refine SJ.q (YldS.yld (y_extract rfl rfl)) rfl ?_
    refine SJ.q (YldS.yld (y_extract rfl rfl)) rfl ?_
    refine SJ.q (YldS.yld (y_assign rfl)) rfl ?_
    refine SJ.q (YldS.yld (y_assign rfl)) rfl ?_
    refine SJ.nil ?_
    refine PJ.next ?_
    refine WJ.seq ?_
    refine WJ.reg ?_
    refine SJ.q (YldS.yld (y_move rfl)) rfl ?_
    refine SJ.q (YldS.yld (y_move rfl)) rfl ?_
    obtain ⟨r26, h27, hm⟩ := bindS hm
    refine SJ.q (y_call Try.call17 rfl (RetG.quiet fun w hw => ok_i_PressFor h27 w _ (hw.row_rd (k := 0) rfl))) rfl ?_
    refine SJ.q (YldS.yld (y_move rfl)) rfl ?_
    refine SJ.q (YldS.yld (y_extract rfl rfl)) rfl ?_
    refine SJ.q (YldS.yld (y_extract rfl rfl)) rfl ?_
    refine SJ.alloc (cs := [.int .i64 0, .bool false]) Try.zeroValue37 rfl rfl fun g28 => ?_
    refine SJ.storeL (k := 0) (off := 0) (us := [.int .i64 r26.1.key, .bool r26.1.shift]) rfl rfl rfl rfl Try.sizeOf37 rfl rfl ?_
    refine SJ.q (YldS.yld (y_assign rfl)) rfl ?_
    refine SJ.nil ?_
    refine PJ.next ?_
    refine WJ.seq ?_
    refine WJ.reg ?_
    refine SJ.q (YldS.yld (y_move rfl)) rfl ?_
    refine SJ.q (YldS.yld (y_move rfl)) rfl ?_
    obtain ⟨r29, h30, hm⟩ := bindS hm
    refine SJ.q (y_call Try.call18 rfl (RetG.quiet fun w hw => ok_s_PressFor h30 w _ (hw.row_rd (k := 1) rfl))) rfl ?_
    refine SJ.q (YldS.yld (y_move rfl)) rfl ?_
    refine SJ.q (YldS.yld (y_extract rfl rfl)) rfl ?_
    refine SJ.q (YldS.yld (y_extract rfl rfl)) rfl ?_
    refine SJ.alloc (cs := [.int .i64 0, .bool false]) Try.zeroValue37 rfl rfl fun g31 => ?_
    refine SJ.storeL (k := 0) (off := 0) (us := [.int .i64 r29.1.key, .bool r29.1.shift]) rfl rfl rfl rfl Try.sizeOf37 rfl rfl ?_
    refine SJ.q (YldS.yld (y_assign rfl)) rfl ?_
    refine SJ.nil ?_
    refine PJ.next ?_
    refine WJ.seq ?_
    refine WJ.seq ?_
    refine WJ.quiet ?_
    refine QJ.step (YldS.yld (y_move rfl)) rfl ?_
    refine QJ.step (YldS.yld (y_move rfl)) rfl ?_
    refine QJ.step (YldS.yld (y_bin rfl rfl rfl)) rfl ?_
    refine QJ.step (YldS.yld (y_move rfl)) rfl ?_
    obtain ⟨t32, h33, hm⟩ := bindS hm
    refine QJ.cut 4 [(3, v9), (4, v10), (5, v11), (7, .int .i64 r12.2), (8, str r14.1), (10, v18), (11, .int .i64 r19.1), (12, .int .i64 r19.2), (13, .int .i64 r21.1), (14, .int .i64 r21.2), (15, v25), (16, str r23.2), (17, pt g28 0), (18, .int .i64 r26.2), (19, pt g31 0), (20, .int .i64 r29.2), (81, .bool t32)] ?_ ?_
    · rcases Bool.eq_false_or_eq_true (r12.2 != r14.2) with hb34 | hb34
      · obtain rfl := orT h33 hb34
        refine QJ.off rfl rfl (cB hb34) rfl rfl ?_
        refine QJ.off rfl rfl (cB hb34) rfl rfl ?_
        refine QJ.off rfl rfl (cB hb34) rfl rfl ?_
        refine QJ.step (YldS.yld (y_pick_t (cB hb34) rfl)) rfl ?_
        exact QJ.cut_end ⟨rfl, rfl, rfl, rfl, rfl, rfl, rfl, rfl, rfl, rfl, rfl, rfl, rfl, rfl, rfl, rfl, rfl, trivial⟩
      · replace h33 := orF h33 hb34
        refine QJ.on rfl rfl (cB hb34) (YldS.yld (y_move rfl)) rfl ?_
        refine QJ.on rfl rfl (cB hb34) (YldS.yld (y_move rfl)) rfl ?_
        refine QJ.on rfl rfl (cB hb34) (YldS.yld (y_binS rfl rfl rfl)) rfl ?_
        refine QJ.step (YldS.yld (y_pick_f (cB hb34) rfl)) rfl ?_
        obtain rfl := Option.some.inj h33
        exact QJ.cut_end ⟨rfl, rfl, rfl, rfl, rfl, rfl, rfl, rfl, rfl, rfl, rfl, rfl, rfl, rfl, rfl, rfl, rfl, trivial⟩
    refine QJ.step (YldS.yld (y_move rfl)) rfl ?_
    obtain ⟨t35, h36, hm⟩ := bindS hm
    refine QJ.cut 4 [(3, v9), (4, v10), (5, v11), (7, .int .i64 r12.2), (8, str r14.1), (10, v18), (11, .int .i64 r19.1), (12, .int .i64 r19.2), (13, .int .i64 r21.1), (15, v25), (16, str r23.2), (17, pt g28 0), (18, .int .i64 r26.2), (19, pt g31 0), (20, .int .i64 r29.2), (86, .bool t35)] ?_ ?_
    · rcases Bool.eq_false_or_eq_true t32 with hb37 | hb37
      · obtain rfl := orT h36 hb37
        refine QJ.off rfl rfl (cB hb37) rfl rfl ?_
        refine QJ.off rfl rfl (cB hb37) rfl rfl ?_
        refine QJ.off rfl rfl (cB hb37) rfl rfl ?_
        refine QJ.step (YldS.yld (y_pick_t (cB hb37) rfl)) rfl ?_
        exact QJ.cut_end ⟨rfl, rfl, rfl, rfl, rfl, rfl, rfl, rfl, rfl, rfl, rfl, rfl, rfl, rfl, rfl, rfl, trivial⟩
      · replace h36 := orF h36 hb37
        refine QJ.on rfl rfl (cB hb37) (YldS.yld (y_move rfl)) rfl ?_
        refine QJ.on rfl rfl (cB hb37) (YldS.yld (y_move rfl)) rfl ?_
        refine QJ.on rfl rfl (cB hb37) (YldS.yld (y_bin rfl rfl rfl)) rfl ?_
        refine QJ.step (YldS.yld (y_pick_f (cB hb37) rfl)) rfl ?_
        obtain rfl := Option.some.inj h36
        exact QJ.cut_end ⟨rfl, rfl, rfl, rfl, rfl, rfl, rfl, rfl, rfl, rfl, rfl, rfl, rfl, rfl, rfl, rfl, trivial⟩
    refine QJ.step (YldS.yld (y_move rfl)) rfl ?_
    obtain ⟨t38, h39, hm⟩ := bindS hm
    refine QJ.cut 4 [(3, v9), (4, v10), (5, v11), (7, .int .i64 r12.2), (8, str r14.1), (10, v18), (11, .int .i64 r19.1), (12, .int .i64 r19.2), (15, v25), (16, str r23.2), (17, pt g28 0), (18, .int .i64 r26.2), (19, pt g31 0), (20, .int .i64 r29.2), (91, .bool t38)] ?_ ?_
    · rcases Bool.eq_false_or_eq_true t35 with hb40 | hb40
      · obtain rfl := orT h39 hb40
        refine QJ.off rfl rfl (cB hb40) rfl rfl ?_
        refine QJ.off rfl rfl (cB hb40) rfl rfl ?_
        refine QJ.off rfl rfl (cB hb40) rfl rfl ?_
        refine QJ.step (YldS.yld (y_pick_t (cB hb40) rfl)) rfl ?_
        exact QJ.cut_end ⟨rfl, rfl, rfl, rfl, rfl, rfl, rfl, rfl, rfl, rfl, rfl, rfl, rfl, rfl, rfl, trivial⟩
      · replace h39 := orF h39 hb40
        refine QJ.on rfl rfl (cB hb40) (YldS.yld (y_move rfl)) rfl ?_
        refine QJ.on rfl rfl (cB hb40) (YldS.yld (y_move rfl)) rfl ?_
        refine QJ.on rfl rfl (cB hb40) (YldS.yld (y_bin rfl rfl rfl)) rfl ?_
        refine QJ.step (YldS.yld (y_pick_f (cB hb40) rfl)) rfl ?_
        obtain rfl := Option.some.inj h39
        exact QJ.cut_end ⟨rfl, rfl, rfl, rfl, rfl, rfl, rfl, rfl, rfl, rfl, rfl, rfl, rfl, rfl, rfl, trivial⟩
    refine QJ.step (YldS.yld (y_move rfl)) rfl ?_
    obtain ⟨t41, h42, hm⟩ := bindS hm
    refine QJ.cut 4 [(3, v9), (4, v10), (5, v11), (7, .int .i64 r12.2), (8, str r14.1), (10, v18), (11, .int .i64 r19.1), (12, .int .i64 r19.2), (15, v25), (16, str r23.2), (17, pt g28 0), (18, .int .i64 r26.2), (19, pt g31 0), (96, .bool t41)] ?_ ?_
    · rcases Bool.eq_false_or_eq_true t38 with hb43 | hb43
      · obtain rfl := orT h42 hb43
        refine QJ.off rfl rfl (cB hb43) rfl rfl ?_
        refine QJ.off rfl rfl (cB hb43) rfl rfl ?_
        refine QJ.off rfl rfl (cB hb43) rfl rfl ?_
        refine QJ.step (YldS.yld (y_pick_t (cB hb43) rfl)) rfl ?_
        exact QJ.cut_end ⟨rfl, rfl, rfl, rfl, rfl, rfl, rfl, rfl, rfl, rfl, rfl, rfl, rfl, rfl, trivial⟩
      · replace h42 := orF h42 hb43
        refine QJ.on rfl rfl (cB hb43) (YldS.yld (y_move rfl)) rfl ?_
        refine QJ.on rfl rfl (cB hb43) (YldS.yld (y_move rfl)) rfl ?_
        refine QJ.on rfl rfl (cB hb43) (YldS.yld (y_bin rfl rfl rfl)) rfl ?_
        refine QJ.step (YldS.yld (y_pick_f (cB hb43) rfl)) rfl ?_
        obtain rfl := Option.some.inj h42
        exact QJ.cut_end ⟨rfl, rfl, rfl, rfl, rfl, rfl, rfl, rfl, rfl, rfl, rfl, rfl, rfl, rfl, trivial⟩
    refine QJ.step (YldS.yld (y_move rfl)) rfl ?_
    obtain ⟨t44, h45, hm⟩ := bindS hm
    refine QJ.cut 4 [(3, v9), (4, v10), (5, v11), (7, .int .i64 r12.2), (8, str r14.1), (10, v18), (11, .int .i64 r19.1), (12, .int .i64 r19.2), (15, v25), (16, str r23.2), (18, .int .i64 r26.2), (19, pt g31 0), (101, .bool t44)] ?_ ?_
    · rcases Bool.eq_false_or_eq_true t41 with hb46 | hb46
      · obtain rfl := orT h45 hb46
        refine QJ.off rfl rfl (cB hb46) rfl rfl ?_
        refine QJ.off rfl rfl (cB hb46) rfl rfl ?_
        refine QJ.off rfl rfl (cB hb46) rfl rfl ?_
        refine QJ.step (YldS.yld (y_pick_t (cB hb46) rfl)) rfl ?_
        exact QJ.cut_end ⟨rfl, rfl, rfl, rfl, rfl, rfl, rfl, rfl, rfl, rfl, rfl, rfl, rfl, trivial⟩
      · replace h45 := orF h45 hb46
        refine QJ.on rfl rfl (cB hb46) (YldS.yld (y_loadBN (k := 1) (off := 0) (us := [.int .i64 r26.1.key, .bool r26.1.shift]) rfl Try.isAgg37 Try.sizeOf37 rfl rfl)) rfl ?_
        refine QJ.on rfl rfl (cB hb46) (YldS.yld (y_loadBN (k := 0) (off := 0) (us := [.int .i64 r29.1.key, .bool r29.1.shift]) rfl Try.isAgg37 Try.sizeOf37 rfl rfl)) rfl ?_
        refine QJ.on rfl rfl (cB hb46) (YldS.yld (y_neT r26.1 r29.1 eq37 rfl rfl)) rfl ?_
        refine QJ.step (YldS.yld (y_pick_f (cB hb46) rfl)) rfl ?_
        obtain rfl := Option.some.inj h45
        exact QJ.cut_end ⟨rfl, rfl, rfl, rfl, rfl, rfl, rfl, rfl, rfl, rfl, rfl, rfl, rfl, trivial⟩
    refine QJ.done ?_
    refine PJ.next ?_
    refine WJ.cond (t := t44) rfl (fun hb47 => ?_) (fun hb47 => ?_)
    · replace hm := ifT hm hb47
      refine WJ.seq ?_
      refine WJ.quiet ?_
      refine QJ.step (YldS.yld (y_assign rfl)) rfl ?_
      refine QJ.done ?_
      refine PJ.next ?_
      refine WJ.ret ?_
      refine PJ.then_ret ?_
      obtain rfl := Option.some.inj hm
      refine PJ.sel (L' := []) [] ⟨List.nodup_nil, rfl⟩ ?_
      exact PJ.retn (vs := [.bool false]) Try.results3 ⟨rfl, trivial⟩ ⟨rfl, rfl⟩
    · replace hm := ifF hm hb47
      refine WJ.skip ?_
      refine PJ.next ?_
      refine WJ.seq ?_
      refine WJ.seq ?_
      refine WJ.quiet ?_
      refine QJ.step (YldS.yld (y_move rfl)) rfl ?_
      refine QJ.step (YldS.yld (y_bin rfl rfl rfl)) rfl ?_
      refine QJ.step (YldS.yld (y_move rfl)) rfl ?_
      obtain ⟨t48, h49, hm⟩ := bindS hm
      refine QJ.cut 11 [(3, v9), (4, v10), (5, v11), (7, .int .i64 r12.2), (8, str r14.1), (15, v25), (16, str r23.2), (18, .int .i64 r26.2), (19, pt g31 0), (115, .bool t48)] ?_ ?_
      · rcases Bool.eq_false_or_eq_true (r19.2 == 0) with hb50 | hb50
        · replace h49 := andT h49 hb50
          refine QJ.on rfl rfl (cB hb50) (YldS.yld (y_move rfl)) rfl ?_
          refine QJ.on rfl rfl (cB hb50) (YldS.yld (y_rem rfl rfl (by decide))) rfl ?_
          refine QJ.on rfl rfl (cB hb50) (YldS.yld (y_bin rfl rfl rfl)) rfl ?_
          refine QJ.on rfl rfl (cB hb50) (YldS.yld (y_move rfl)) rfl ?_
          obtain ⟨t51, h52, h49⟩ := bindS h49
          refine QJ.cut 6 [(3, v9), (4, v10), (5, v11), (7, .int .i64 r12.2), (8, str r14.1), (15, v25), (16, str r23.2), (18, .int .i64 r26.2), (19, pt g31 0), (104, .bool (r19.2 == 0)), (114, .bool t51)] ?_ ?_
          · rcases Bool.eq_false_or_eq_true ((Int.tmod r19.1 2) != 0) with hb53 | hb53
            · obtain rfl := orT h52 hb53
              refine QJ.off rfl rfl (cB hb53) rfl rfl ?_
              refine QJ.off rfl rfl (cB hb53) rfl rfl ?_
              refine QJ.off rfl rfl (cB hb53) rfl rfl ?_
              refine QJ.off rfl rfl (cB hb53) rfl rfl ?_
              refine QJ.off rfl rfl (cB hb53) rfl rfl ?_
              refine QJ.on rfl rfl (cB hb50) (YldS.yld (y_pick_t (cB hb53) rfl)) rfl ?_
              exact QJ.cut_end ⟨rfl, rfl, rfl, rfl, rfl, rfl, rfl, rfl, rfl, rfl, rfl, trivial⟩
            · replace h52 := orF h52 hb53
              refine QJ.on rfl rfl (cB hb53) (YldS.yld (y_move rfl)) rfl ?_
              refine QJ.on rfl rfl (cB hb53) (YldS.yld (y_move rfl)) rfl ?_
              refine QJ.on rfl rfl (cB hb53) (YldS.yld (y_lenRow (k := 3) rfl Try.runUnderlying26 rfl)) rfl ?_
              refine QJ.on rfl rfl (cB hb53) (YldS.yld (y_bin rfl rfl rfl)) rfl ?_
              refine QJ.on rfl rfl (cB hb53) (YldS.yld (y_bin rfl rfl rfl)) rfl ?_
              refine QJ.on rfl rfl (cB hb50) (YldS.yld (y_pick_f (cB hb53) rfl)) rfl ?_
              obtain rfl := Option.some.inj h52
              exact QJ.cut_end ⟨rfl, rfl, rfl, rfl, rfl, rfl, rfl, rfl, rfl, rfl, rfl, trivial⟩
          refine QJ.step (YldS.yld (y_pick_t (cB hb50) rfl)) rfl ?_
          obtain rfl := Option.some.inj h49
          exact QJ.cut_end ⟨rfl, rfl, rfl, rfl, rfl, rfl, rfl, rfl, rfl, rfl, trivial⟩
        · obtain rfl := andF h49 hb50
          refine QJ.off rfl rfl (cB hb50) rfl rfl ?_
          refine QJ.off rfl rfl (cB hb50) rfl rfl ?_
          refine QJ.off rfl rfl (cB hb50) rfl rfl ?_
          refine QJ.off rfl rfl (cB hb50) rfl rfl ?_
          refine QJ.off_undef rfl rfl rfl rfl ?_
          refine QJ.off_undef rfl rfl rfl rfl ?_
          refine QJ.off_undef rfl rfl rfl rfl ?_
          refine QJ.off_undef rfl rfl rfl rfl ?_
          refine QJ.off_undef rfl rfl rfl rfl ?_
          refine QJ.off rfl rfl (cB hb50) rfl rfl ?_
          refine QJ.step (YldS.yld (y_pick_f (cB hb50) rfl)) rfl ?_
          exact QJ.cut_end ⟨rfl, rfl, rfl, rfl, rfl, rfl, rfl, rfl, rfl, rfl, trivial⟩
      refine QJ.done ?_
      refine PJ.next ?_
      refine WJ.cond (t := t48) rfl (fun hb54 => ?_) (fun hb54 => ?_)
      · replace hm := ifT hm hb54
        refine WJ.seq ?_
        refine WJ.quiet ?_
        refine QJ.step (YldS.yld (y_assign rfl)) rfl ?_
        refine QJ.done ?_
        refine PJ.next ?_
        refine WJ.ret ?_
        refine PJ.then_ret ?_
        obtain rfl := Option.some.inj hm
        refine PJ.sel (L' := []) [] ⟨List.nodup_nil, rfl⟩ ?_
        exact PJ.retn (vs := [.bool false]) Try.results3 ⟨rfl, trivial⟩ ⟨rfl, rfl⟩
      · replace hm := ifF hm hb54
        refine WJ.skip ?_
        refine PJ.next ?_
        refine WJ.seq ?_
        refine WJ.seq ?_
        refine WJ.quiet ?_
        refine QJ.step (YldS.yld (y_move rfl)) rfl ?_
        refine QJ.step (YldS.yld (y_bin rfl rfl rfl)) rfl ?_
        refine QJ.step (YldS.yld (y_move rfl)) rfl ?_
        obtain ⟨t55, h56, hm⟩ := bindS hm
        refine QJ.cut 28 [(3, v9), (4, v10), (5, v11), (7, .int .i64 r12.2), (8, str r14.1), (146, .bool t55)] ?_ ?_
        · rcases Bool.eq_false_or_eq_true (r26.2 == 0) with hb57 | hb57
          · replace h56 := andT h56 hb57
            refine QJ.on rfl rfl (cB hb57) (YldS.yld (y_fldB (o := 0) fld37_1 rfl)) rfl ?_
            refine QJ.on rfl rfl (cB hb57) (YldS.yld (y_loadB (k := 0) (off := 1) (v := .bool r29.1.shift) rfl Try.isAgg4 rfl rfl)) rfl ?_
            refine QJ.on rfl rfl (cB hb57) (YldS.yld (y_move rfl)) rfl ?_
            obtain ⟨t58, h59, h56⟩ := bindS h56
            refine QJ.cut 9 [(3, v9), (4, v10), (5, v11), (7, .int .i64 r12.2), (8, str r14.1), (15, v25), (16, str r23.2), (19, pt g31 0), (118, .bool (r26.2 == 0)), (130, .bool t58)] ?_ ?_
            · rcases Bool.eq_false_or_eq_true r29.1.shift with hb60 | hb60
              · replace h59 := andT h59 hb60
                refine QJ.on rfl rfl (cB hb60) (YldS.yld (y_move rfl)) rfl ?_
                refine QJ.on rfl rfl (cB hb60) (YldS.yld (y_fldB (o := 0) fld37_0 rfl)) rfl ?_
                refine QJ.on rfl rfl (cB hb60) (YldS.yld (y_loadB (k := 0) (off := 0) (v := .int .i64 r29.1.key) rfl Try.isAgg2 rfl rfl)) rfl ?_
                obtain ⟨e61, h62, h59⟩ := bindS h59
                refine QJ.on rfl rfl (cB hb60) (YldS.yld (y_ixRow (k := 2) (R := fKey) rfl Try.runUnderlying24 Try.sizeOf41 rfl rfl h62)) rfl ?_
                refine QJ.on rfl rfl (cB hb60) (YldS.yld (y_fldR fld41_1 rfl)) rfl ?_
                refine QJ.on rfl rfl (cB hb60) (YldS.yld (y_loadR (k := 2) (i := (Int.toNat r29.1.key)) (off := 1) (u := str e61.high) rfl Try.isAgg9 rfl (idx_get h62) rfl)) rfl ?_
                refine QJ.on rfl rfl (cB hb60) (YldS.yld (y_move rfl)) rfl ?_
                refine QJ.on rfl rfl (cB hb60) (YldS.yld (y_binS rfl rfl rfl)) rfl ?_
                refine QJ.on rfl rfl (cB hb57) (YldS.yld (y_pick_t (cB hb60) rfl)) rfl ?_
                obtain rfl := Option.some.inj h59
                exact QJ.cut_end ⟨rfl, rfl, rfl, rfl, rfl, rfl, rfl, rfl, rfl, rfl, trivial⟩
              · obtain rfl := andF h59 hb60
                refine QJ.off rfl rfl (cB hb60) rfl rfl ?_
                refine QJ.off rfl rfl (cB hb60) rfl rfl ?_
                refine QJ.off rfl rfl (cB hb60) rfl rfl ?_
                refine QJ.off rfl rfl (cB hb60) rfl rfl ?_
                refine QJ.off rfl rfl (cB hb60) rfl rfl ?_
                refine QJ.off rfl rfl (cB hb60) rfl rfl ?_
                refine QJ.off rfl rfl (cB hb60) rfl rfl ?_
                refine QJ.off rfl rfl (cB hb60) rfl rfl ?_
                refine QJ.on rfl rfl (cB hb57) (YldS.yld (y_pick_f (cB hb60) rfl)) rfl ?_
                exact QJ.cut_end ⟨rfl, rfl, rfl, rfl, rfl, rfl, rfl, rfl, rfl, rfl, trivial⟩
            refine QJ.on rfl rfl (cB hb57) (YldS.yld (y_move rfl)) rfl ?_
            obtain ⟨t63, h64, h56⟩ := bindS h56
            refine QJ.cut 14 [(3, v9), (4, v10), (5, v11), (7, .int .i64 r12.2), (8, str r14.1), (118, .bool (r26.2 == 0)), (145, .bool t63)] ?_ ?_
            · rcases Bool.eq_false_or_eq_true t58 with hb65 | hb65
              · obtain rfl := orT h64 hb65
                refine QJ.off rfl rfl (cB hb65) rfl rfl ?_
                refine QJ.off rfl rfl (cB hb65) rfl rfl ?_
                refine QJ.off rfl rfl (cB hb65) rfl rfl ?_
                refine QJ.off rfl rfl (cB hb65) rfl rfl ?_
                refine QJ.off_undef rfl rfl rfl rfl ?_
                refine QJ.off_undef rfl rfl rfl rfl ?_
                refine QJ.off_undef rfl rfl rfl rfl ?_
                refine QJ.off_undef rfl rfl rfl rfl ?_
                refine QJ.off_undef rfl rfl rfl rfl ?_
                refine QJ.off_undef rfl rfl rfl rfl ?_
                refine QJ.off_undef rfl rfl rfl rfl ?_
                refine QJ.off_undef rfl rfl rfl rfl ?_
                refine QJ.off rfl rfl (cB hb65) rfl rfl ?_
                refine QJ.on rfl rfl (cB hb57) (YldS.yld (y_pick_t (cB hb65) rfl)) rfl ?_
                exact QJ.cut_end ⟨rfl, rfl, rfl, rfl, rfl, rfl, rfl, trivial⟩
              · replace h64 := orF h64 hb65
                refine QJ.on rfl rfl (cB hb65) (YldS.yld (y_fldB (o := 0) fld37_1 rfl)) rfl ?_
                refine QJ.on rfl rfl (cB hb65) (YldS.yld (y_loadB (k := 0) (off := 1) (v := .bool r29.1.shift) rfl Try.isAgg4 rfl rfl)) rfl ?_
                refine QJ.on rfl rfl (cB hb65) (YldS.yld (y_not rfl)) rfl ?_
                refine QJ.on rfl rfl (cB hb65) (YldS.yld (y_move rfl)) rfl ?_
                obtain ⟨t66, h67, h64⟩ := bindS h64
                refine QJ.cut 9 [(3, v9), (4, v10), (5, v11), (7, .int .i64 r12.2), (8, str r14.1), (118, .bool (r26.2 == 0)), (131, .bool t58), (144, .bool t66)] ?_ ?_
                · rcases Bool.eq_false_or_eq_true (!r29.1.shift) with hb68 | hb68
                  · replace h67 := andT h67 hb68
                    refine QJ.on rfl rfl (cB hb68) (YldS.yld (y_move rfl)) rfl ?_
                    refine QJ.on rfl rfl (cB hb68) (YldS.yld (y_fldB (o := 0) fld37_0 rfl)) rfl ?_
                    refine QJ.on rfl rfl (cB hb68) (YldS.yld (y_loadB (k := 0) (off := 0) (v := .int .i64 r29.1.key) rfl Try.isAgg2 rfl rfl)) rfl ?_
                    obtain ⟨e69, h70, h67⟩ := bindS h67
                    refine QJ.on rfl rfl (cB hb68) (YldS.yld (y_ixRow (k := 2) (R := fKey) rfl Try.runUnderlying24 Try.sizeOf41 rfl rfl h70)) rfl ?_
                    refine QJ.on rfl rfl (cB hb68) (YldS.yld (y_fldR fld41_0 rfl)) rfl ?_
                    refine QJ.on rfl rfl (cB hb68) (YldS.yld (y_loadR (k := 2) (i := (Int.toNat r29.1.key)) (off := 0) (u := str e69.low) rfl Try.isAgg9 rfl (idx_get h70) rfl)) rfl ?_
                    refine QJ.on rfl rfl (cB hb68) (YldS.yld (y_move rfl)) rfl ?_
                    refine QJ.on rfl rfl (cB hb68) (YldS.yld (y_binS rfl rfl rfl)) rfl ?_
                    refine QJ.on rfl rfl (cB hb65) (YldS.yld (y_pick_t (cB hb68) rfl)) rfl ?_
                    obtain rfl := Option.some.inj h67
                    exact QJ.cut_end ⟨rfl, rfl, rfl, rfl, rfl, rfl, rfl, rfl, trivial⟩
                  · obtain rfl := andF h67 hb68
                    refine QJ.off rfl rfl (cB hb68) rfl rfl ?_
                    refine QJ.off rfl rfl (cB hb68) rfl rfl ?_
                    refine QJ.off rfl rfl (cB hb68) rfl rfl ?_
                    refine QJ.off rfl rfl (cB hb68) rfl rfl ?_
                    refine QJ.off rfl rfl (cB hb68) rfl rfl ?_
                    refine QJ.off rfl rfl (cB hb68) rfl rfl ?_
                    refine QJ.off rfl rfl (cB hb68) rfl rfl ?_
                    refine QJ.off rfl rfl (cB hb68) rfl rfl ?_
                    refine QJ.on rfl rfl (cB hb65) (YldS.yld (y_pick_f (cB hb68) rfl)) rfl ?_
                    exact QJ.cut_end ⟨rfl, rfl, rfl, rfl, rfl, rfl, rfl, rfl, trivial⟩
                refine QJ.on rfl rfl (cB hb57) (YldS.yld (y_pick_f (cB hb65) rfl)) rfl ?_
                obtain rfl := Option.some.inj h64
                exact QJ.cut_end ⟨rfl, rfl, rfl, rfl, rfl, rfl, rfl, trivial⟩
            refine QJ.step (YldS.yld (y_pick_t (cB hb57) rfl)) rfl ?_
            obtain rfl := Option.some.inj h56
            exact QJ.cut_end ⟨rfl, rfl, rfl, rfl, rfl, rfl, trivial⟩
          · obtain rfl := andF h56 hb57
            refine QJ.off rfl rfl (cB hb57) rfl rfl ?_
            refine QJ.off rfl rfl (cB hb57) rfl rfl ?_
            refine QJ.off rfl rfl (cB hb57) rfl rfl ?_
            refine QJ.off_undef rfl rfl rfl rfl ?_
            refine QJ.off_undef rfl rfl rfl rfl ?_
            refine QJ.off_undef rfl rfl rfl rfl ?_
            refine QJ.off_undef rfl rfl rfl rfl ?_
            refine QJ.off_undef rfl rfl rfl rfl ?_
            refine QJ.off_undef rfl rfl rfl rfl ?_
            refine QJ.off_undef rfl rfl rfl rfl ?_
            refine QJ.off_undef rfl rfl rfl rfl ?_
            refine QJ.off rfl rfl (cB hb57) rfl rfl ?_
            refine QJ.off rfl rfl (cB hb57) rfl rfl ?_
            refine QJ.off_undef rfl rfl rfl rfl ?_
            refine QJ.off_undef rfl rfl rfl rfl ?_
            refine QJ.off_undef rfl rfl rfl rfl ?_
            refine QJ.off_undef rfl rfl rfl rfl ?_
            refine QJ.off_undef rfl rfl rfl rfl ?_
            refine QJ.off_undef rfl rfl rfl rfl ?_
            refine QJ.off_undef rfl rfl rfl rfl ?_
            refine QJ.off_undef rfl rfl rfl rfl ?_
            refine QJ.off_undef rfl rfl rfl rfl ?_
            refine QJ.off_undef rfl rfl rfl rfl ?_
            refine QJ.off_undef rfl rfl rfl rfl ?_
            refine QJ.off_undef rfl rfl rfl rfl ?_
            refine QJ.off_undef rfl rfl rfl rfl ?_
            refine QJ.off rfl rfl (cB hb57) rfl rfl ?_
            refine QJ.step (YldS.yld (y_pick_f (cB hb57) rfl)) rfl ?_
            exact QJ.cut_end ⟨rfl, rfl, rfl, rfl, rfl, rfl, trivial⟩
        refine QJ.done ?_
        refine PJ.next ?_
        refine WJ.cond (t := t55) rfl (fun hb71 => ?_) (fun hb71 => ?_)
        · replace hm := ifT hm hb71
          refine WJ.seq ?_
          refine WJ.quiet ?_
          refine QJ.step (YldS.yld (y_assign rfl)) rfl ?_
          refine QJ.done ?_
          refine PJ.next ?_
          refine WJ.ret ?_
          refine PJ.then_ret ?_
          obtain rfl := Option.some.inj hm
          refine PJ.sel (L' := []) [] ⟨List.nodup_nil, rfl⟩ ?_
          exact PJ.retn (vs := [.bool false]) Try.results3 ⟨rfl, trivial⟩ ⟨rfl, rfl⟩
        · replace hm := ifF hm hb71
          refine WJ.skip ?_
          refine PJ.next ?_
          refine WJ.seq ?_
          refine WJ.seq ?_
          refine WJ.quiet ?_
          refine QJ.step (YldS.yld (y_move rfl)) rfl ?_
          refine QJ.step (YldS.yld (y_bin rfl rfl rfl)) rfl ?_
          refine QJ.step (YldS.yld (y_move rfl)) rfl ?_
          obtain ⟨t72, h73, hm⟩ := bindS hm
          refine QJ.cut 4 [(3, v9), (4, v10), (5, v11), (8, str r14.1), (153, .bool t72)] ?_ ?_
          · rcases Bool.eq_false_or_eq_true (r12.2 != 0) with hb74 | hb74
            · obtain rfl := orT h73 hb74
              refine QJ.off rfl rfl (cB hb74) rfl rfl ?_
              refine QJ.off rfl rfl (cB hb74) rfl rfl ?_
              refine QJ.off rfl rfl (cB hb74) rfl rfl ?_
              refine QJ.step (YldS.yld (y_pick_t (cB hb74) rfl)) rfl ?_
              exact QJ.cut_end ⟨rfl, rfl, rfl, rfl, rfl, trivial⟩
            · replace h73 := orF h73 hb74
              refine QJ.on rfl rfl (cB hb74) (YldS.yld (y_move rfl)) rfl ?_
              refine QJ.on rfl rfl (cB hb74) (YldS.yld (y_lenStr Try.runUnderlying9 rfl)) rfl ?_
              refine QJ.on rfl rfl (cB hb74) (YldS.yld (y_bin rfl rfl rfl)) rfl ?_
              refine QJ.step (YldS.yld (y_pick_f (cB hb74) rfl)) rfl ?_
              obtain rfl := Option.some.inj h73
              exact QJ.cut_end ⟨rfl, rfl, rfl, rfl, rfl, trivial⟩
          refine QJ.done ?_
          refine PJ.next ?_
          refine WJ.cond (t := t72) rfl (fun hb75 => ?_) (fun hb75 => ?_)
          · replace hm := ifT hm hb75
            refine WJ.seq ?_
            refine WJ.quiet ?_
            refine QJ.step (YldS.yld (y_assign rfl)) rfl ?_
            refine QJ.done ?_
            refine PJ.next ?_
            refine WJ.ret ?_
            refine PJ.then_ret ?_
            obtain rfl := Option.some.inj hm
            refine PJ.sel (L' := []) [] ⟨List.nodup_nil, rfl⟩ ?_
            exact PJ.retn (vs := [.bool true]) Try.results3 ⟨rfl, trivial⟩ ⟨rfl, rfl⟩
          · replace hm := ifF hm hb75
            refine WJ.skip ?_
            refine PJ.next ?_
            refine WJ.seq ?_
            refine WJ.reg ?_
            refine SJ.q (YldS.yld (y_move rfl)) rfl ?_
            refine SJ.q (YldS.yld (y_move rfl)) rfl ?_
            refine SJ.q (YldS.yld (y_move rfl)) rfl ?_
            obtain ⟨r76, h77, hm⟩ := bindS hm
            refine SJ.call Try.call19 rfl (fun w hw => ok_i_PressesFor h77 w _ (hw.row_rd (k := 4) rfl) _ (hw.row_rd (k := 5) rfl)) rfl ?_
            rintro _ _ ⟨v78, rfl, rfl⟩
            refine SJ.q (YldS.yld (y_move rfl)) rfl ?_
            refine SJ.q (YldS.yld (y_extract rfl rfl)) rfl ?_
            refine SJ.q (YldS.yld (y_extract rfl rfl)) rfl ?_
            refine SJ.q (YldS.yld (y_assign rfl)) rfl ?_
            refine SJ.q (YldS.yld (y_assign rfl)) rfl ?_
            refine SJ.nil ?_
            refine PJ.next ?_
            refine WJ.seq ?_
            refine WJ.quiet ?_
            refine QJ.step (YldS.yld (y_move rfl)) rfl ?_
            refine QJ.step (YldS.yld (y_bin rfl rfl rfl)) rfl ?_
            refine QJ.step (YldS.yld (y_move rfl)) rfl ?_
            obtain ⟨t79, h80, hm⟩ := bindS hm
            refine QJ.cut 6 [(169, .bool t79)] ?_ ?_
            · rcases Bool.eq_false_or_eq_true (r76.2 == 0) with hb81 | hb81
              · replace h80 := andT h80 hb81
                refine QJ.on rfl rfl (cB hb81) (YldS.yld (y_move rfl)) rfl ?_
                refine QJ.on rfl rfl (cB hb81) (YldS.yld (y_lenRow (k := 0) rfl Try.runUnderlying26 rfl)) rfl ?_
                refine QJ.on rfl rfl (cB hb81) (YldS.yld (y_move rfl)) rfl ?_
                refine QJ.on rfl rfl (cB hb81) (YldS.yld (y_lenRow (k := 7) rfl Try.runUnderlying26 rfl)) rfl ?_
                refine QJ.on rfl rfl (cB hb81) (YldS.yld (y_bin rfl rfl rfl)) rfl ?_
                refine QJ.step (YldS.yld (y_pick_t (cB hb81) rfl)) rfl ?_
                obtain rfl := Option.some.inj h80
                exact QJ.cut_end ⟨rfl, trivial⟩
              · obtain rfl := andF h80 hb81
                refine QJ.off rfl rfl (cB hb81) rfl rfl ?_
                refine QJ.off rfl rfl (cB hb81) rfl rfl ?_
                refine QJ.off rfl rfl (cB hb81) rfl rfl ?_
                refine QJ.off rfl rfl (cB hb81) rfl rfl ?_
                refine QJ.off rfl rfl (cB hb81) rfl rfl ?_
                refine QJ.step (YldS.yld (y_pick_f (cB hb81) rfl)) rfl ?_
                exact QJ.cut_end ⟨rfl, trivial⟩
            refine QJ.step (YldS.yld (y_assign rfl)) rfl ?_
            refine QJ.done ?_
            refine PJ.next ?_
            refine WJ.ret ?_
            obtain rfl := Option.some.inj hm
            refine PJ.sel (L' := []) [] ⟨List.nodup_nil, rfl⟩ ?_
            exact PJ.retn (vs := [.bool t79]) Try.results3 ⟨rfl, trivial⟩ ⟨rfl, rfl⟩

end Go.Proofs.Ythkckgiicchpnaa
