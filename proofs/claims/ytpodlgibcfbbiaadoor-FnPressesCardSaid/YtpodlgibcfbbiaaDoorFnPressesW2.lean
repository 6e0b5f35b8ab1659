/-
  The walks: a call hands back what its plain function computes, where that has a value. No other conditions.
-/
import Derived.Test.YtpodlgibcfbbiaaDoorFnPressesW
import Derived.Test.YtpodlgibcfbbiaaDoorChecked
namespace Go.Proofs.YtpodlgibcfbbiaaDoor
open Go.RowKit Go.Proofs
set_option linter.unusedVariables false
set_option linter.unusedSimpArgs false

set_option maxRecDepth 100000 in
set_option maxHeartbeats 1000000 in
theorem ok_i_PressesFor {N : Nat} {keys1 : List Key} {accents4 : List Accent} {text7 : Str} {r : (List Press) × Int} (hm : i_PressesFor N keys1 accents4 text7 = some r) (w : World) (v2 : Value) (hr3 : RdS w (cx w).Fz v2 fKey.rp keys1) (v5 : Value) (hr6 : RdS w (cx w).Fz v5 fAccent.rp accents4) :
    Calls Tryd.prog 6 #[v2, v5, str text7] w (RetG (cx w) fun u L => ∃ (u1 : Value), (u = tup [u1, .int .i64 r.2] ∧ L = [row u1 35 fPress r.1])) := by
  unfold i_PressesFor at hm
  refine Calls.enter [v2, v5, str text7] Tryd.func6 rfl Tryd.ntmps6 rfl ?_
  refine WJ.seq ?_
  refine WJ.quiet ?_
  refine QJ.step (YldS.yld (y_assign rfl)) rfl ?_
  refine QJ.step (YldS.yld (y_assign rfl)) rfl ?_
  refine QJ.done ?_
  refine PJ.next ?_
  refine WJ.seq ?_
  refine WJ.seq ?_
  refine WJ.quiet ?_
  refine QJ.step (YldS.yld (y_move rfl)) rfl ?_
  refine QJ.step (YldS.yld (y_move rfl)) rfl ?_
  obtain ⟨r8, h9, hm⟩ := bindS hm
  refine QJ.step (y_call Tryd.call21 rfl (RetG.quiet fun w hw => ok_i_ValidKeys h9 w _ (hr3.st hw) _ (hr6.st hw))) rfl ?_
  refine QJ.step (YldS.yld (y_not rfl)) rfl ?_
  refine QJ.done ?_
  refine PJ.next ?_
  refine WJ.cond (t := !r8) rfl (fun hb10 => ?_) (fun hb10 => ?_)
  · replace hm := ifT hm hb10
    refine WJ.seq ?_
    refine WJ.quiet ?_
    refine QJ.step (YldS.yld (y_assign rfl)) rfl ?_
    refine QJ.step (YldS.yld (y_assign rfl)) rfl ?_
    refine QJ.done ?_
    refine PJ.next ?_
    refine WJ.ret ?_
    refine PJ.then_ret ?_
    refine PJ.nil_row 35 fPress ?_
    obtain rfl := Option.some.inj hm
    refine PJ.sel (L' := [row (.slice none 0 0) 35 fPress []]) [0] ⟨by decide, rfl⟩ ?_
    exact PJ.retn (vs := [(.slice none 0 0), .int .i64 1]) Tryd.results6 ⟨rfl, rfl, trivial⟩ ⟨_, rfl, rfl⟩
  · replace hm := ifF hm hb10
    refine WJ.skip ?_
    refine PJ.next ?_
    refine WJ.seq ?_
    refine WJ.seq ?_
    refine WJ.quiet ?_
    refine QJ.step (YldS.yld (y_move rfl)) rfl ?_
    obtain ⟨r11, h12, hm⟩ := bindS hm
    refine QJ.step (y_call Tryd.call25 rfl (RetG.quiet fun w hw => ok_i_isText h12 w )) rfl ?_
    refine QJ.step (YldS.yld (y_not rfl)) rfl ?_
    refine QJ.done ?_
    refine PJ.next ?_
    refine WJ.cond (t := !r11) rfl (fun hb13 => ?_) (fun hb13 => ?_)
    · replace hm := ifT hm hb13
      refine WJ.seq ?_
      refine WJ.quiet ?_
      refine QJ.step (YldS.yld (y_assign rfl)) rfl ?_
      refine QJ.step (YldS.yld (y_assign rfl)) rfl ?_
      refine QJ.done ?_
      refine PJ.next ?_
      refine WJ.ret ?_
      refine PJ.then_ret ?_
      refine PJ.nil_row 35 fPress ?_
      obtain rfl := Option.some.inj hm
      refine PJ.sel (L' := [row (.slice none 0 0) 35 fPress []]) [0] ⟨by decide, rfl⟩ ?_
      exact PJ.retn (vs := [(.slice none 0 0), .int .i64 2]) Tryd.results6 ⟨rfl, rfl, trivial⟩ ⟨_, rfl, rfl⟩
    · replace hm := ifF hm hb13
      refine WJ.skip ?_
      refine PJ.next ?_
      refine WJ.seq ?_
      refine WJ.reg ?_
      refine SJ.buildSlice (R := fPress) (os := []) [] Tryd.runUnderlying28 Tryd.sizeOf35 Tryd.zeroValue35 rfl rfl rfl rfl rfl rfl fun v14 => ?_
      refine SJ.q (YldS.yld (y_assign rfl)) rfl ?_
      refine SJ.nil ?_
      refine PJ.next ?_
      obtain ⟨kj17, hk18, hm⟩ := withK_open hm
      refine WJ.join (X := (List Press) × Value) (fun (x : (List Press) × Value) => kj17 x.1 = some r) (fun (x : (List Press) × Value) => [(8, x.2)]) (fun (x : (List Press) × Value) => [row x.2 35 fPress x.1]) ?_ ?_
      · clear hk18
        refine WJ.seq ?_
        refine WJ.quiet ?_
        refine QJ.step (YldS.yld (y_move rfl)) rfl ?_
        refine QJ.step (YldS.yld (y_lenStr Tryd.runUnderlying9 rfl)) rfl ?_
        refine QJ.step (YldS.yld (y_move rfl)) rfl ?_
        refine QJ.done ?_
        refine PJ.next ?_
        refine WJ.block ?_
        refine WJ.sel (L' := (fun (x : (List Press) × Value × Int) => [row x.2.1 35 fPress x.1]) ([], v14, 0)) [0] ⟨by decide, rfl⟩ ?_
        refine WJ.sub (m' := (fun (x : (List Press) × Value × Int) => [(0, v2), (1, v5), (2, str text7), (8, x.2.1), (20, .int .i64 (List.length text7 : Int)), (21, .int .i64 x.2.2)]) ([], v14, 0)) ⟨rfl, rfl, rfl, rfl, rfl, rfl, trivial⟩ ?_
        refine WJ.loop (X := (List Press) × Value × Int) (fun N (x : (List Press) × Value × Int) => i_PressesFor_l1 kj17 keys1 accents4 text7 N x.1 x.2.2 = some r) (fun (x : (List Press) × Value × Int) => [(0, v2), (1, v5), (2, str text7), (8, x.2.1), (20, .int .i64 (List.length text7 : Int)), (21, .int .i64 x.2.2)]) (fun (x : (List Press) × Value × Int) => [row x.2.1 35 fPress x.1]) ?_ N ([], v14, 0) hm
        · rintro N ⟨l19, v20, x21⟩ hI
          have hm := hI; clear hI
          cases N with
          | zero => cases hm
          | succ N =>
          unfold i_PressesFor_l1 at hm
          refine WJ.seq ?_
          refine WJ.quiet ?_
          refine QJ.step (YldS.yld (y_bin rfl rfl rfl)) rfl ?_
          refine QJ.done ?_
          refine PJ.next ?_
          refine WJ.seq ?_
          refine WJ.cond (t := decide (x21 < (List.length text7 : Int))) rfl (fun hb22 => ?_) (fun hb22 => ?_)
          · replace hm := ifT hm hb22
            refine WJ.skip ?_
            refine PJ.next ?_
            refine WJ.seq ?_
            refine WJ.block ?_
            refine WJ.seq ?_
            refine WJ.quiet ?_
            refine QJ.step (YldS.yld (y_move rfl)) rfl ?_
            refine QJ.step (YldS.yld (y_assign rfl)) rfl ?_
            refine QJ.done ?_
            refine PJ.next ?_
            refine WJ.seq ?_
            refine WJ.reg ?_
            refine SJ.q (YldS.yld (y_move rfl)) rfl ?_
            refine SJ.q (YldS.yld (y_move rfl)) rfl ?_
            refine SJ.q (YldS.yld (y_move rfl)) rfl ?_
            refine SJ.q (YldS.yld (y_move rfl)) rfl ?_
            refine SJ.q (YldS.yld (y_move rfl)) rfl ?_
            refine SJ.q (YldS.yld (y_bin rfl rfl rfl)) rfl ?_
            obtain ⟨s23, h24, hm⟩ := bindS hm
            refine SJ.q (YldS.yld (y_subStr (i := some x21) (j := some (w64 (x21 + 1))) h24 Tryd.runUnderlying9 rfl ⟨_, rfl⟩ ⟨_, rfl⟩)) rfl ?_
            obtain ⟨r25, h26, hm⟩ := bindS hm
            refine SJ.call Tryd.call26 rfl (fun w hw => ok_i_pressesOf h26 w _ (hr3.st hw) _ (hr6.st hw)) rfl ?_
            rintro v27 _ ⟨_, rfl, rfl⟩
            refine SJ.q (YldS.yld (y_assign rfl)) rfl ?_
            refine SJ.nil ?_
            refine PJ.next ?_
            refine WJ.seq ?_
            refine WJ.seq ?_
            refine WJ.quiet ?_
            refine QJ.step (YldS.yld (y_move rfl)) rfl ?_
            refine QJ.step (YldS.yld (y_lenRow (k := 0) rfl Tryd.runUnderlying28 rfl)) rfl ?_
            refine QJ.step (YldS.yld (y_bin rfl rfl rfl)) rfl ?_
            refine QJ.done ?_
            refine PJ.next ?_
            refine WJ.cond (t := ((List.length r25 : Int) == 0)) rfl (fun hb28 => ?_) (fun hb28 => ?_)
            · replace hm := ifT hm hb28
              refine WJ.seq ?_
              refine WJ.quiet ?_
              refine QJ.step (YldS.yld (y_assign rfl)) rfl ?_
              refine QJ.step (YldS.yld (y_assign rfl)) rfl ?_
              refine QJ.done ?_
              refine PJ.next ?_
              refine WJ.ret ?_
              refine PJ.then_ret (PJ.block_ret (PJ.then_ret (PJ.then_ret (PJ.block_ret (PJ.then_ret ?_)))))
              refine PJ.nil_row 35 fPress ?_
              obtain rfl := Option.some.inj hm
              refine PJ.sel (L' := [row (.slice none 0 0) 35 fPress []]) [0] ⟨by decide, rfl⟩ ?_
              exact PJ.retn (vs := [(.slice none 0 0), .int .i64 3]) Tryd.results6 ⟨rfl, rfl, trivial⟩ ⟨_, rfl, rfl⟩
            · replace hm := ifF hm hb28
              refine WJ.skip ?_
              refine PJ.next ?_
              refine WJ.reg ?_
              refine SJ.q (YldS.yld (y_move rfl)) rfl ?_
              refine SJ.q (YldS.yld (y_move rfl)) rfl ?_
              obtain ⟨l29, h30, hm⟩ := bindS hm
              refine SJ.append (k := 1) (R := fPress) h30 rfl Tryd.underlying28 el35 rfl rfl rfl (fun w hw => (hw.row_rd (k := 0) rfl)) rfl fun v31 => ?_
              refine SJ.q (YldS.yld (y_assign rfl)) rfl ?_
              refine SJ.nil ?_
              refine PJ.block_normal (PJ.next ?_)
              refine WJ.quiet ?_
              refine QJ.step (YldS.yld (y_bin rfl rfl rfl)) rfl ?_
              refine QJ.step (YldS.yld (y_move rfl)) rfl ?_
              refine QJ.done ?_
              exact PJ.round (l29, v31, w64 (x21 + 1)) [1] hm ⟨rfl, rfl, rfl, rfl, rfl, rfl, trivial⟩ ⟨by decide, rfl⟩
          · replace hm := ifF hm hb22
            refine WJ.exit ?_
            refine PJ.then_exit (PJ.then_exit (PJ.block_exit ?_))
            exact PJ.joined (l19, v20) [0] hm ⟨rfl, trivial⟩ ⟨by decide, rfl⟩
      · rintro ⟨l15, v16⟩ hm
        subst hk18
        refine WJ.seq ?_
        refine WJ.quiet ?_
        refine QJ.step (YldS.yld (y_move rfl)) rfl ?_
        refine QJ.step (YldS.yld (y_assign rfl)) rfl ?_
        refine QJ.step (YldS.yld (y_assign rfl)) rfl ?_
        refine QJ.done ?_
        refine PJ.next ?_
        refine WJ.ret ?_
        obtain rfl := Option.some.inj hm
        refine PJ.sel (L' := [row v16 35 fPress l15]) [0] ⟨by decide, rfl⟩ ?_
        exact PJ.retn (vs := [v16, .int .i64 0]) Tryd.results6 ⟨rfl, rfl, trivial⟩ ⟨_, rfl, rfl⟩

set_option maxRecDepth 100000 in
set_option maxHeartbeats 1000000 in
theorem ok_s_l02Text {N : Nat} {s1 : Str} {r : Bool} (hm : s_l02Text N s1 = some r) (w : World)  :
    Calls Tryd.prog 48 #[str s1] w (Ret (cx w) (.bool r)) := by
  unfold s_l02Text at hm
  refine Calls.enter [str s1] Tryd.func48 rfl Tryd.ntmps48 rfl ?_
  refine WJ.seq ?_
  refine WJ.quiet ?_
  refine QJ.step (YldS.yld (y_assign rfl)) rfl ?_
  refine QJ.done ?_
  refine PJ.next ?_
  obtain ⟨kj2, hk3, hm⟩ := withK_open hm
  refine WJ.join (X := Unit) (fun (_ : Unit) => kj2  = some r) (fun (_ : Unit) => [(0, str s1)]) (fun (_ : Unit) => []) ?_ ?_
  · clear hk3
    refine WJ.seq ?_
    refine WJ.quiet ?_
    refine QJ.step (YldS.yld (y_assign rfl)) rfl ?_
    refine QJ.done ?_
    refine PJ.next ?_
    refine WJ.block ?_
    refine WJ.sel (L' := (fun (x : Int) => []) 0) [] ⟨List.nodup_nil, rfl⟩ ?_
    refine WJ.sub (m' := (fun (x : Int) => [(0, str s1), (3, .int .i64 x)]) 0) ⟨rfl, rfl, trivial⟩ ?_
    refine WJ.loop (X := Int) (fun N (x : Int) => s_l02Text_l1 kj2 s1 N x = some r) (fun (x : Int) => [(0, str s1), (3, .int .i64 x)]) (fun (x : Int) => []) ?_ N 0 hm
    · rintro N i4 hI
      have hm := hI; clear hI
      cases N with
      | zero => cases hm
      | succ N =>
      unfold s_l02Text_l1 at hm
      refine WJ.seq ?_
      refine WJ.seq ?_
      refine WJ.quiet ?_
      refine QJ.step (YldS.yld (y_move rfl)) rfl ?_
      refine QJ.step (YldS.yld (y_move rfl)) rfl ?_
      refine QJ.step (YldS.yld (y_lenStr Tryd.runUnderlying9 rfl)) rfl ?_
      refine QJ.step (YldS.yld (y_bin rfl rfl rfl)) rfl ?_
      refine QJ.done ?_
      refine PJ.next ?_
      refine WJ.cond (t := decide (i4 < (List.length s1 : Int))) rfl (fun hb5 => ?_) (fun hb5 => ?_)
      · replace hm := ifT hm hb5
        refine WJ.skip ?_
        refine PJ.next ?_
        refine WJ.seq ?_
        refine WJ.block ?_
        refine WJ.seq ?_
        refine WJ.quiet ?_
        refine QJ.step (YldS.yld (y_move rfl)) rfl ?_
        refine QJ.step (YldS.yld (y_move rfl)) rfl ?_
        obtain ⟨c6, h7, hm⟩ := bindS hm
        refine QJ.step (YldS.yld (y_idxStr Tryd.runUnderlying9 rfl rfl h7)) rfl ?_
        refine QJ.step (YldS.yld (y_bin8 c6 (33 : UInt8) rfl rfl rfl)) rfl ?_
        refine QJ.step (YldS.yld (y_move rfl)) rfl ?_
        obtain ⟨t8, h9, hm⟩ := bindS hm
        refine QJ.cut 5 [(0, str s1), (3, .int .i64 i4), (19, .bool t8)] ?_ ?_
        · rcases Bool.eq_false_or_eq_true (decide (c6 < (33 : UInt8))) with hb10 | hb10
          · obtain rfl := orT h9 hb10
            refine QJ.off rfl rfl (cB hb10) rfl rfl ?_
            refine QJ.off rfl rfl (cB hb10) rfl rfl ?_
            refine QJ.off rfl rfl (cB hb10) rfl rfl ?_
            refine QJ.off rfl rfl (cB hb10) rfl rfl ?_
            refine QJ.step (YldS.yld (y_pick_t (cB hb10) rfl)) rfl ?_
            exact QJ.cut_end ⟨rfl, rfl, rfl, trivial⟩
          · replace h9 := orF h9 hb10
            refine QJ.on rfl rfl (cB hb10) (YldS.yld (y_move rfl)) rfl ?_
            refine QJ.on rfl rfl (cB hb10) (YldS.yld (y_move rfl)) rfl ?_
            obtain ⟨c11, h12, h9⟩ := bindS h9
            refine QJ.on rfl rfl (cB hb10) (YldS.yld (y_idxStr Tryd.runUnderlying9 rfl rfl h12)) rfl ?_
            refine QJ.on rfl rfl (cB hb10) (YldS.yld (y_bin8 c11 (126 : UInt8) rfl rfl rfl)) rfl ?_
            refine QJ.step (YldS.yld (y_pick_f (cB hb10) rfl)) rfl ?_
            obtain rfl := Option.some.inj h9
            exact QJ.cut_end ⟨rfl, rfl, rfl, trivial⟩
        refine QJ.done ?_
        refine PJ.next ?_
        refine WJ.cond (t := t8) rfl (fun hb13 => ?_) (fun hb13 => ?_)
        · replace hm := ifT hm hb13
          refine WJ.seq ?_
          refine WJ.quiet ?_
          refine QJ.step (YldS.yld (y_assign rfl)) rfl ?_
          refine QJ.done ?_
          refine PJ.next ?_
          refine WJ.ret ?_
          refine PJ.block_ret (PJ.then_ret (PJ.then_ret (PJ.block_ret (PJ.then_ret ?_))))
          obtain rfl := Option.some.inj hm
          refine PJ.sel (L' := []) [] ⟨List.nodup_nil, rfl⟩ ?_
          exact PJ.retn (vs := [.bool false]) Tryd.results48 ⟨rfl, trivial⟩ ⟨rfl, rfl⟩
        · replace hm := ifF hm hb13
          refine WJ.skip ?_
          refine PJ.block_normal (PJ.next ?_)
          refine WJ.quiet ?_
          refine QJ.step (YldS.yld (y_move rfl)) rfl ?_
          refine QJ.step (YldS.yld (y_bin rfl rfl rfl)) rfl ?_
          refine QJ.step (YldS.yld (y_assign rfl)) rfl ?_
          refine QJ.done ?_
          exact PJ.round (w64 (i4 + 1)) [] hm ⟨rfl, rfl, trivial⟩ ⟨List.nodup_nil, rfl⟩
      · replace hm := ifF hm hb5
        refine WJ.exit ?_
        refine PJ.then_exit (PJ.then_exit (PJ.block_exit ?_))
        exact PJ.joined () [] hm ⟨rfl, trivial⟩ ⟨List.nodup_nil, rfl⟩
  · rintro _ hm
    subst hk3
    refine WJ.seq ?_
    refine WJ.quiet ?_
    refine QJ.step (YldS.yld (y_move rfl)) rfl ?_
    refine QJ.step (YldS.yld (y_lenStr Tryd.runUnderlying9 rfl)) rfl ?_
    refine QJ.step (YldS.yld (y_bin rfl rfl rfl)) rfl ?_
    refine QJ.step (YldS.yld (y_assign rfl)) rfl ?_
    refine QJ.done ?_
    refine PJ.next ?_
    refine WJ.ret ?_
    obtain rfl := Option.some.inj hm
    refine PJ.sel (L' := []) [] ⟨List.nodup_nil, rfl⟩ ?_
    exact PJ.retn (vs := [.bool (decide ((List.length s1 : Int) ≤ 100))]) Tryd.results48 ⟨rfl, trivial⟩ ⟨rfl, rfl⟩

set_option maxRecDepth 100000 in
set_option maxHeartbeats 1000000 in
theorem ok_s_l02Code {N : Nat} {keys1 : List Key} {accents4 : List Accent} {text7 : Str} {r : Int} (hm : s_l02Code N keys1 accents4 text7 = some r) (w : World) (v2 : Value) (hr3 : RdS w (cx w).Fz v2 fKey.rp keys1) (v5 : Value) (hr6 : RdS w (cx w).Fz v5 fAccent.rp accents4) :
    Calls Tryd.prog 27 #[v2, v5, str text7] w (Ret (cx w) (.int .i64 r)) := by
  unfold s_l02Code at hm
  refine Calls.enter [v2, v5, str text7] Tryd.func27 rfl Tryd.ntmps27 rfl ?_
  refine WJ.seq ?_
  refine WJ.quiet ?_
  refine QJ.step (YldS.yld (y_assign rfl)) rfl ?_
  refine QJ.done ?_
  refine PJ.next ?_
  refine WJ.seq ?_
  refine WJ.seq ?_
  refine WJ.quiet ?_
  refine QJ.step (YldS.yld (y_move rfl)) rfl ?_
  refine QJ.step (YldS.yld (y_move rfl)) rfl ?_
  obtain ⟨r8, h9, hm⟩ := bindS hm
  refine QJ.step (y_call Tryd.call31 rfl (RetG.quiet fun w hw => ok_s_l02Ok h9 w _ (hr3.st hw) _ (hr6.st hw))) rfl ?_
  refine QJ.step (YldS.yld (y_not rfl)) rfl ?_
  refine QJ.done ?_
  refine PJ.next ?_
  refine WJ.cond (t := !r8) rfl (fun hb10 => ?_) (fun hb10 => ?_)
  · replace hm := ifT hm hb10
    refine WJ.seq ?_
    refine WJ.quiet ?_
    refine QJ.step (YldS.yld (y_assign rfl)) rfl ?_
    refine QJ.done ?_
    refine PJ.next ?_
    refine WJ.ret ?_
    refine PJ.then_ret ?_
    obtain rfl := Option.some.inj hm
    refine PJ.sel (L' := []) [] ⟨List.nodup_nil, rfl⟩ ?_
    exact PJ.retn (vs := [.int .i64 1]) Tryd.results27 ⟨rfl, trivial⟩ ⟨rfl, rfl⟩
  · replace hm := ifF hm hb10
    refine WJ.skip ?_
    refine PJ.next ?_
    refine WJ.seq ?_
    refine WJ.seq ?_
    refine WJ.quiet ?_
    refine QJ.step (YldS.yld (y_move rfl)) rfl ?_
    obtain ⟨r11, h12, hm⟩ := bindS hm
    refine QJ.step (y_call Tryd.call48 rfl (RetG.quiet fun w hw => ok_s_l02Text h12 w )) rfl ?_
    refine QJ.step (YldS.yld (y_not rfl)) rfl ?_
    refine QJ.done ?_
    refine PJ.next ?_
    refine WJ.cond (t := !r11) rfl (fun hb13 => ?_) (fun hb13 => ?_)
    · replace hm := ifT hm hb13
      refine WJ.seq ?_
      refine WJ.quiet ?_
      refine QJ.step (YldS.yld (y_assign rfl)) rfl ?_
      refine QJ.done ?_
      refine PJ.next ?_
      refine WJ.ret ?_
      refine PJ.then_ret ?_
      obtain rfl := Option.some.inj hm
      refine PJ.sel (L' := []) [] ⟨List.nodup_nil, rfl⟩ ?_
      exact PJ.retn (vs := [.int .i64 2]) Tryd.results27 ⟨rfl, trivial⟩ ⟨rfl, rfl⟩
    · replace hm := ifF hm hb13
      refine WJ.skip ?_
      refine PJ.next ?_
      refine WJ.seq ?_
      refine WJ.quiet ?_
      refine QJ.step (YldS.yld (y_assign rfl)) rfl ?_
      refine QJ.done ?_
      refine PJ.next ?_
      refine WJ.ret ?_
      obtain rfl := Option.some.inj hm
      refine PJ.sel (L' := []) [] ⟨List.nodup_nil, rfl⟩ ?_
      exact PJ.retn (vs := [.int .i64 0]) Tryd.results27 ⟨rfl, trivial⟩ ⟨rfl, rfl⟩

set_option maxRecDepth 100000 in
set_option maxHeartbeats 1000000 in
theorem ok_s_l02Presses {N : Nat} {keys1 : List Key} {accents4 : List Accent} {letter7 : Str} {r : (List Press)} (hm : s_l02Presses N keys1 accents4 letter7 = some r) (w : World) (v2 : Value) (hr3 : RdS w (cx w).Fz v2 fKey.rp keys1) (v5 : Value) (hr6 : RdS w (cx w).Fz v5 fAccent.rp accents4) :
    Calls Tryd.prog 28 #[v2, v5, str letter7] w (RetG (cx w) fun u L => ∃ (u1 : Value), (u = u1 ∧ L = [row u1 35 fPress r])) := by
  unfold s_l02Presses at hm
  refine Calls.enter [v2, v5, str letter7] Tryd.func28 rfl Tryd.ntmps28 rfl ?_
  refine WJ.seq ?_
  refine WJ.quiet ?_
  refine QJ.step (YldS.yld (y_assign rfl)) rfl ?_
  refine QJ.done ?_
  refine PJ.next ?_
  refine WJ.seq ?_
  refine WJ.quiet ?_
  refine QJ.step (YldS.yld (y_move rfl)) rfl ?_
  refine QJ.step (YldS.yld (y_move rfl)) rfl ?_
  obtain ⟨r8, h9, hm⟩ := bindS hm
  refine QJ.step (y_call Tryd.call49 rfl (RetG.quiet fun w hw => ok_s_l02Find h9 w _ (hr3.st hw))) rfl ?_
  refine QJ.step (YldS.yld (y_move rfl)) rfl ?_
  refine QJ.step (YldS.yld (y_extract rfl rfl)) rfl ?_
  refine QJ.step (YldS.yld (y_extract rfl rfl)) rfl ?_
  refine QJ.step (YldS.yld (y_assign rfl)) rfl ?_
  refine QJ.step (YldS.yld (y_assign rfl)) rfl ?_
  refine QJ.done ?_
  refine PJ.next ?_
  refine WJ.seq ?_
  refine WJ.seq ?_
  refine WJ.quiet ?_
  refine QJ.step (YldS.yld (y_move rfl)) rfl ?_
  refine QJ.step (YldS.yld (y_bin rfl rfl rfl)) rfl ?_
  refine QJ.step (YldS.yld (y_move rfl)) rfl ?_
  obtain ⟨t10, h11, hm⟩ := bindS hm
  refine QJ.cut 7 [(0, v2), (1, v5), (2, str letter7), (7, .int .i64 r8.1), (8, .bool r8.2), (29, .bool t10)] ?_ ?_
  · rcases Bool.eq_false_or_eq_true (decide (r8.1 ≥ 0)) with hb12 | hb12
    · replace h11 := andT h11 hb12
      refine QJ.on rfl rfl (cB hb12) (YldS.yld (y_move rfl)) rfl ?_
      refine QJ.on rfl rfl (cB hb12) (YldS.yld (y_move rfl)) rfl ?_
      obtain ⟨e13, h14, h11⟩ := bindS h11
      obtain ⟨ad15, _, rfl, ha16, hy17⟩ := hr3.elem h14
      refine QJ.on rfl rfl (cB hb12) (YldS.yld (hy17 Tryd.runUnderlying24 Tryd.sizeOf54 rfl rfl)) rfl ?_
      refine QJ.on rfl rfl (cB hb12) (YldS.yld (y_fld (ad := ad15) fld54_2 rfl)) rfl ?_
      refine QJ.on rfl rfl (cB hb12) (YldS.yld (y_load1 (v := .bool e13.dead) Tryd.isAgg4 (ha16.sub 2 1) St.frozenC rfl)) rfl ?_
      refine QJ.on rfl rfl (cB hb12) (YldS.yld (y_not rfl)) rfl ?_
      refine QJ.step (YldS.yld (y_pick_t (cB hb12) rfl)) rfl ?_
      obtain rfl := Option.some.inj h11
      exact QJ.cut_end ⟨rfl, rfl, rfl, rfl, rfl, rfl, trivial⟩
    · obtain rfl := andF h11 hb12
      refine QJ.off rfl rfl (cB hb12) rfl rfl ?_
      refine QJ.off rfl rfl (cB hb12) rfl rfl ?_
      refine QJ.off rfl rfl (cB hb12) rfl rfl ?_
      refine QJ.off rfl rfl (cB hb12) rfl rfl ?_
      refine QJ.off rfl rfl (cB hb12) rfl rfl ?_
      refine QJ.off rfl rfl (cB hb12) rfl rfl ?_
      refine QJ.step (YldS.yld (y_pick_f (cB hb12) rfl)) rfl ?_
      exact QJ.cut_end ⟨rfl, rfl, rfl, rfl, rfl, rfl, trivial⟩
  refine QJ.done ?_
  refine PJ.next ?_
  refine WJ.cond (t := t10) rfl (fun hb18 => ?_) (fun hb18 => ?_)
  · replace hm := ifT hm hb18
    refine WJ.seq ?_
    refine WJ.reg ?_
    refine SJ.q (YldS.yld (y_move rfl)) rfl ?_
    refine SJ.q (YldS.yld (y_move rfl)) rfl ?_
    refine SJ.q (YldS.yld (y_build (parts := [(0, .tmp 30), (1, .tmp 31)]) (places := [(0, 1), (1, 1)]) (r := [.int .i64 ((Press.mk r8.1 r8.2).key), .bool ((Press.mk r8.1 r8.2).shift)]) pl35 Tryd.zeroValue35 rfl rfl rfl rfl)) rfl ?_
    refine SJ.buildSlice (R := fPress) (os := [.tmp 32]) [(Press.mk r8.1 r8.2)] Tryd.runUnderlying28 Tryd.sizeOf35 Tryd.zeroValue35 rfl rfl rfl rfl rfl rfl fun v19 => ?_
    refine SJ.q (YldS.yld (y_assign rfl)) rfl ?_
    refine SJ.nil ?_
    refine PJ.next ?_
    refine WJ.ret ?_
    refine PJ.then_ret ?_
    obtain rfl := Option.some.inj hm
    refine PJ.sel (L' := [row v19 35 fPress [(Press.mk r8.1 r8.2)]]) [0] ⟨by decide, rfl⟩ ?_
    exact PJ.retn (vs := [v19]) Tryd.results28 ⟨rfl, trivial⟩ ⟨_, rfl, rfl⟩
  · replace hm := ifF hm hb18
    refine WJ.skip ?_
    refine PJ.next ?_
    obtain ⟨kj20, hk21, hm⟩ := withK_open hm
    refine WJ.join (X := Unit) (fun (_ : Unit) => kj20  = some r) (fun (_ : Unit) => []) (fun (_ : Unit) => []) ?_ ?_
    · clear hk21
      refine WJ.seq ?_
      refine WJ.quiet ?_
      refine QJ.step (YldS.yld (y_assign rfl)) rfl ?_
      refine QJ.done ?_
      refine PJ.next ?_
      refine WJ.block ?_
      refine WJ.sel (L' := (fun (x : Int) => []) 0) [] ⟨List.nodup_nil, rfl⟩ ?_
      refine WJ.sub (m' := (fun (x : Int) => [(0, v2), (1, v5), (2, str letter7), (9, .int .i64 x)]) 0) ⟨rfl, rfl, rfl, rfl, trivial⟩ ?_
      refine WJ.loop (X := Int) (fun N (x : Int) => s_l02Presses_l1 kj20 keys1 accents4 letter7 N x = some r) (fun (x : Int) => [(0, v2), (1, v5), (2, str letter7), (9, .int .i64 x)]) (fun (x : Int) => []) ?_ N 0 hm
      · rintro N i22 hI
        have hm := hI; clear hI
        cases N with
        | zero => cases hm
        | succ N =>
        unfold s_l02Presses_l1 at hm
        refine WJ.seq ?_
        refine WJ.seq ?_
        refine WJ.quiet ?_
        refine QJ.step (YldS.yld (y_move rfl)) rfl ?_
        refine QJ.step (YldS.yld (y_move rfl)) rfl ?_
        refine QJ.step (YldS.yld (y_lenS Tryd.runUnderlying25 hr6 rfl)) rfl ?_
        refine QJ.step (YldS.yld (y_bin rfl rfl rfl)) rfl ?_
        refine QJ.done ?_
        refine PJ.next ?_
        refine WJ.cond (t := decide (i22 < (List.length accents4 : Int))) rfl (fun hb23 => ?_) (fun hb23 => ?_)
        · replace hm := ifT hm hb23
          refine WJ.skip ?_
          refine PJ.next ?_
          refine WJ.seq ?_
          refine WJ.block ?_
          refine WJ.seq ?_
          refine WJ.quiet ?_
          refine QJ.step (YldS.yld (y_move rfl)) rfl ?_
          refine QJ.step (YldS.yld (y_move rfl)) rfl ?_
          obtain ⟨e24, h25, hm⟩ := bindS hm
          obtain ⟨ad26, _, rfl, ha27, hy28⟩ := hr6.elem h25
          refine QJ.step (YldS.yld (hy28 Tryd.runUnderlying25 Tryd.sizeOf56 rfl rfl)) rfl ?_
          refine QJ.step (YldS.yld (y_fld (ad := ad26) fld56_2 rfl)) rfl ?_
          refine QJ.step (YldS.yld (y_load1 (v := str e24.made) Tryd.isAgg9 (ha27.sub 2 1) St.frozenC rfl)) rfl ?_
          refine QJ.step (YldS.yld (y_move rfl)) rfl ?_
          refine QJ.step (YldS.yld (y_binS rfl rfl rfl)) rfl ?_
          refine QJ.done ?_
          refine PJ.next ?_
          refine WJ.cond (t := (e24.made == letter7)) rfl (fun hb29 => ?_) (fun hb29 => ?_)
          · replace hm := ifT hm hb29
            refine WJ.seq ?_
            refine WJ.quiet ?_
            refine QJ.step (YldS.yld (y_move rfl)) rfl ?_
            refine QJ.step (YldS.yld (y_move rfl)) rfl ?_
            refine QJ.step (YldS.yld (y_move rfl)) rfl ?_
            obtain ⟨e30, h31, hm⟩ := bindS hm
            obtain ⟨ad32, _, rfl, ha33, hy34⟩ := hr6.elem h31
            refine QJ.step (YldS.yld (hy34 Tryd.runUnderlying25 Tryd.sizeOf56 rfl rfl)) rfl ?_
            refine QJ.step (YldS.yld (y_fld (ad := ad32) fld56_0 rfl)) rfl ?_
            refine QJ.step (YldS.yld (y_load1 (v := str e30.mark) Tryd.isAgg9 (ha33.sub 0 1) St.frozenC rfl)) rfl ?_
            obtain ⟨r35, h36, hm⟩ := bindS hm
            refine QJ.step (y_call Tryd.call49 rfl (RetG.quiet fun w hw => ok_s_l02Find h36 w _ (hr3.st hw))) rfl ?_
            refine QJ.step (YldS.yld (y_move rfl)) rfl ?_
            refine QJ.step (YldS.yld (y_extract rfl rfl)) rfl ?_
            refine QJ.step (YldS.yld (y_extract rfl rfl)) rfl ?_
            refine QJ.step (YldS.yld (y_assign rfl)) rfl ?_
            refine QJ.step (YldS.yld (y_assign rfl)) rfl ?_
            refine QJ.done ?_
            refine PJ.next ?_
            refine WJ.seq ?_
            refine WJ.quiet ?_
            refine QJ.step (YldS.yld (y_move rfl)) rfl ?_
            refine QJ.step (YldS.yld (y_move rfl)) rfl ?_
            refine QJ.step (YldS.yld (y_move rfl)) rfl ?_
            obtain ⟨e37, h38, hm⟩ := bindS hm
            obtain ⟨ad39, _, rfl, ha40, hy41⟩ := hr6.elem h38
            refine QJ.step (YldS.yld (hy41 Tryd.runUnderlying25 Tryd.sizeOf56 rfl rfl)) rfl ?_
            refine QJ.step (YldS.yld (y_fld (ad := ad39) fld56_1 rfl)) rfl ?_
            refine QJ.step (YldS.yld (y_load1 (v := str e37.letter) Tryd.isAgg9 (ha40.sub 1 1) St.frozenC rfl)) rfl ?_
            obtain ⟨r42, h43, hm⟩ := bindS hm
            refine QJ.step (y_call Tryd.call49 rfl (RetG.quiet fun w hw => ok_s_l02Find h43 w _ (hr3.st hw))) rfl ?_
            refine QJ.step (YldS.yld (y_move rfl)) rfl ?_
            refine QJ.step (YldS.yld (y_extract rfl rfl)) rfl ?_
            refine QJ.step (YldS.yld (y_extract rfl rfl)) rfl ?_
            refine QJ.step (YldS.yld (y_assign rfl)) rfl ?_
            refine QJ.step (YldS.yld (y_assign rfl)) rfl ?_
            refine QJ.done ?_
            refine PJ.next ?_
            refine WJ.seq ?_
            refine WJ.reg ?_
            refine SJ.q (YldS.yld (y_move rfl)) rfl ?_
            refine SJ.q (YldS.yld (y_move rfl)) rfl ?_
            refine SJ.q (YldS.yld (y_build (parts := [(0, .tmp 67), (1, .tmp 68)]) (places := [(0, 1), (1, 1)]) (r := [.int .i64 ((Press.mk r35.1 r35.2).key), .bool ((Press.mk r35.1 r35.2).shift)]) pl35 Tryd.zeroValue35 rfl rfl rfl rfl)) rfl ?_
            refine SJ.q (YldS.yld (y_move rfl)) rfl ?_
            refine SJ.q (YldS.yld (y_move rfl)) rfl ?_
            refine SJ.q (YldS.yld (y_build (parts := [(0, .tmp 70), (1, .tmp 71)]) (places := [(0, 1), (1, 1)]) (r := [.int .i64 ((Press.mk r42.1 r42.2).key), .bool ((Press.mk r42.1 r42.2).shift)]) pl35 Tryd.zeroValue35 rfl rfl rfl rfl)) rfl ?_
            refine SJ.buildSlice (R := fPress) (os := [.tmp 69, .tmp 72]) [(Press.mk r35.1 r35.2), (Press.mk r42.1 r42.2)] Tryd.runUnderlying28 Tryd.sizeOf35 Tryd.zeroValue35 rfl rfl rfl rfl rfl rfl fun v44 => ?_
            refine SJ.q (YldS.yld (y_assign rfl)) rfl ?_
            refine SJ.nil ?_
            refine PJ.next ?_
            refine WJ.ret ?_
            refine PJ.block_ret (PJ.then_ret (PJ.then_ret (PJ.block_ret (PJ.then_ret ?_))))
            obtain rfl := Option.some.inj hm
            refine PJ.sel (L' := [row v44 35 fPress [(Press.mk r35.1 r35.2), (Press.mk r42.1 r42.2)]]) [0] ⟨by decide, rfl⟩ ?_
            exact PJ.retn (vs := [v44]) Tryd.results28 ⟨rfl, trivial⟩ ⟨_, rfl, rfl⟩
          · replace hm := ifF hm hb29
            refine WJ.skip ?_
            refine PJ.block_normal (PJ.next ?_)
            refine WJ.quiet ?_
            refine QJ.step (YldS.yld (y_move rfl)) rfl ?_
            refine QJ.step (YldS.yld (y_bin rfl rfl rfl)) rfl ?_
            refine QJ.step (YldS.yld (y_assign rfl)) rfl ?_
            refine QJ.done ?_
            exact PJ.round (w64 (i22 + 1)) [] hm ⟨rfl, rfl, rfl, rfl, trivial⟩ ⟨List.nodup_nil, rfl⟩
        · replace hm := ifF hm hb23
          refine WJ.exit ?_
          refine PJ.then_exit (PJ.then_exit (PJ.block_exit ?_))
          exact PJ.joined () [] hm trivial ⟨List.nodup_nil, rfl⟩
    · rintro _ hm
      subst hk21
      refine WJ.seq ?_
      refine WJ.reg ?_
      refine SJ.buildSlice (R := fPress) (os := []) [] Tryd.runUnderlying28 Tryd.sizeOf35 Tryd.zeroValue35 rfl rfl rfl rfl rfl rfl fun v45 => ?_
      refine SJ.q (YldS.yld (y_assign rfl)) rfl ?_
      refine SJ.nil ?_
      refine PJ.next ?_
      refine WJ.ret ?_
      obtain rfl := Option.some.inj hm
      refine PJ.sel (L' := [row v45 35 fPress []]) [0] ⟨by decide, rfl⟩ ?_
      exact PJ.retn (vs := [v45]) Tryd.results28 ⟨rfl, trivial⟩ ⟨_, rfl, rfl⟩

set_option maxRecDepth 100000 in
set_option maxHeartbeats 1000000 in
theorem ok_s_PressesFor {N : Nat} {keys1 : List Key} {accents4 : List Accent} {text7 : Str} {r : (List Press) × Int} (hm : s_PressesFor N keys1 accents4 text7 = some r) (w : World) (v2 : Value) (hr3 : RdS w (cx w).Fz v2 fKey.rp keys1) (v5 : Value) (hr6 : RdS w (cx w).Fz v5 fAccent.rp accents4) :
    Calls Tryd.prog 7 #[v2, v5, str text7] w (RetG (cx w) fun u L => ∃ (u1 : Value), (u = tup [u1, .int .i64 r.2] ∧ L = [row u1 35 fPress r.1])) := by
  unfold s_PressesFor at hm
  refine Calls.enter [v2, v5, str text7] Tryd.func7 rfl Tryd.ntmps7 rfl ?_
  refine WJ.seq ?_
  refine WJ.quiet ?_
  refine QJ.step (YldS.yld (y_assign rfl)) rfl ?_
  refine QJ.step (YldS.yld (y_assign rfl)) rfl ?_
  refine QJ.done ?_
  refine PJ.next ?_
  refine WJ.seq ?_
  refine WJ.quiet ?_
  refine QJ.step (YldS.yld (y_move rfl)) rfl ?_
  refine QJ.step (YldS.yld (y_move rfl)) rfl ?_
  refine QJ.step (YldS.yld (y_move rfl)) rfl ?_
  obtain ⟨r8, h9, hm⟩ := bindS hm
  refine QJ.step (y_call Tryd.call27 rfl (RetG.quiet fun w hw => ok_s_l02Code h9 w _ (hr3.st hw) _ (hr6.st hw))) rfl ?_
  refine QJ.step (YldS.yld (y_assign rfl)) rfl ?_
  refine QJ.done ?_
  refine PJ.next ?_
  refine WJ.seq ?_
  refine WJ.seq ?_
  refine WJ.quiet ?_
  refine QJ.step (YldS.yld (y_move rfl)) rfl ?_
  refine QJ.step (YldS.yld (y_bin rfl rfl rfl)) rfl ?_
  refine QJ.done ?_
  refine PJ.next ?_
  refine WJ.cond (t := (r8 != 0)) rfl (fun hb10 => ?_) (fun hb10 => ?_)
  · replace hm := ifT hm hb10
    refine WJ.seq ?_
    refine WJ.quiet ?_
    refine QJ.step (YldS.yld (y_move rfl)) rfl ?_
    refine QJ.step (YldS.yld (y_assign rfl)) rfl ?_
    refine QJ.step (YldS.yld (y_assign rfl)) rfl ?_
    refine QJ.done ?_
    refine PJ.next ?_
    refine WJ.ret ?_
    refine PJ.then_ret ?_
    refine PJ.nil_row 35 fPress ?_
    obtain rfl := Option.some.inj hm
    refine PJ.sel (L' := [row (.slice none 0 0) 35 fPress []]) [0] ⟨by decide, rfl⟩ ?_
    exact PJ.retn (vs := [(.slice none 0 0), .int .i64 r8]) Tryd.results7 ⟨rfl, rfl, trivial⟩ ⟨_, rfl, rfl⟩
  · replace hm := ifF hm hb10
    refine WJ.skip ?_
    refine PJ.next ?_
    refine WJ.seq ?_
    refine WJ.reg ?_
    refine SJ.buildSlice (R := fPress) (os := []) [] Tryd.runUnderlying28 Tryd.sizeOf35 Tryd.zeroValue35 rfl rfl rfl rfl rfl rfl fun v11 => ?_
    refine SJ.q (YldS.yld (y_assign rfl)) rfl ?_
    refine SJ.nil ?_
    refine PJ.next ?_
    obtain ⟨kj14, hk15, hm⟩ := withK_open hm
    refine WJ.join (X := (List Press) × Value) (fun (x : (List Press) × Value) => kj14 x.1 = some r) (fun (x : (List Press) × Value) => [(9, x.2)]) (fun (x : (List Press) × Value) => [row x.2 35 fPress x.1]) ?_ ?_
    · clear hk15
      refine WJ.seq ?_
      refine WJ.quiet ?_
      refine QJ.step (YldS.yld (y_assign rfl)) rfl ?_
      refine QJ.done ?_
      refine PJ.next ?_
      refine WJ.block ?_
      refine WJ.sel (L' := (fun (x : (List Press) × Value × Int) => [row x.2.1 35 fPress x.1]) ([], v11, 0)) [0] ⟨by decide, rfl⟩ ?_
      refine WJ.sub (m' := (fun (x : (List Press) × Value × Int) => [(0, v2), (1, v5), (2, str text7), (9, x.2.1), (10, .int .i64 x.2.2)]) ([], v11, 0)) ⟨rfl, rfl, rfl, rfl, rfl, trivial⟩ ?_
      refine WJ.loop (X := (List Press) × Value × Int) (fun N (x : (List Press) × Value × Int) => s_PressesFor_l1 kj14 keys1 accents4 text7 N x.1 x.2.2 = some r) (fun (x : (List Press) × Value × Int) => [(0, v2), (1, v5), (2, str text7), (9, x.2.1), (10, .int .i64 x.2.2)]) (fun (x : (List Press) × Value × Int) => [row x.2.1 35 fPress x.1]) ?_ N ([], v11, 0) hm
      · rintro N ⟨l16, v17, i18⟩ hI
        have hm := hI; clear hI
        cases N with
        | zero => cases hm
        | succ N =>
        unfold s_PressesFor_l1 at hm
        refine WJ.seq ?_
        refine WJ.seq ?_
        refine WJ.quiet ?_
        refine QJ.step (YldS.yld (y_move rfl)) rfl ?_
        refine QJ.step (YldS.yld (y_move rfl)) rfl ?_
        refine QJ.step (YldS.yld (y_lenStr Tryd.runUnderlying9 rfl)) rfl ?_
        refine QJ.step (YldS.yld (y_bin rfl rfl rfl)) rfl ?_
        refine QJ.done ?_
        refine PJ.next ?_
        refine WJ.cond (t := decide (i18 < (List.length text7 : Int))) rfl (fun hb19 => ?_) (fun hb19 => ?_)
        · replace hm := ifT hm hb19
          refine WJ.skip ?_
          refine PJ.next ?_
          refine WJ.seq ?_
          refine WJ.block ?_
          refine WJ.seq ?_
          refine WJ.reg ?_
          refine SJ.q (YldS.yld (y_move rfl)) rfl ?_
          refine SJ.q (YldS.yld (y_move rfl)) rfl ?_
          refine SJ.q (YldS.yld (y_move rfl)) rfl ?_
          refine SJ.q (YldS.yld (y_move rfl)) rfl ?_
          refine SJ.q (YldS.yld (y_move rfl)) rfl ?_
          refine SJ.q (YldS.yld (y_bin rfl rfl rfl)) rfl ?_
          obtain ⟨s20, h21, hm⟩ := bindS hm
          refine SJ.q (YldS.yld (y_subStr (i := some i18) (j := some (w64 (i18 + 1))) h21 Tryd.runUnderlying9 rfl ⟨_, rfl⟩ ⟨_, rfl⟩)) rfl ?_
          obtain ⟨r22, h23, hm⟩ := bindS hm
          refine SJ.call Tryd.call28 rfl (fun w hw => ok_s_l02Presses h23 w _ (hr3.st hw) _ (hr6.st hw)) rfl ?_
          rintro v24 _ ⟨_, rfl, rfl⟩
          refine SJ.q (YldS.yld (y_assign rfl)) rfl ?_
          refine SJ.nil ?_
          refine PJ.next ?_
          refine WJ.seq ?_
          refine WJ.seq ?_
          refine WJ.quiet ?_
          refine QJ.step (YldS.yld (y_move rfl)) rfl ?_
          refine QJ.step (YldS.yld (y_lenRow (k := 0) rfl Tryd.runUnderlying28 rfl)) rfl ?_
          refine QJ.step (YldS.yld (y_bin rfl rfl rfl)) rfl ?_
          refine QJ.done ?_
          refine PJ.next ?_
          refine WJ.cond (t := ((List.length r22 : Int) == 0)) rfl (fun hb25 => ?_) (fun hb25 => ?_)
          · replace hm := ifT hm hb25
            refine WJ.seq ?_
            refine WJ.quiet ?_
            refine QJ.step (YldS.yld (y_assign rfl)) rfl ?_
            refine QJ.step (YldS.yld (y_assign rfl)) rfl ?_
            refine QJ.done ?_
            refine PJ.next ?_
            refine WJ.ret ?_
            refine PJ.then_ret (PJ.block_ret (PJ.then_ret (PJ.then_ret (PJ.block_ret (PJ.then_ret ?_)))))
            refine PJ.nil_row 35 fPress ?_
            obtain rfl := Option.some.inj hm
            refine PJ.sel (L' := [row (.slice none 0 0) 35 fPress []]) [0] ⟨by decide, rfl⟩ ?_
            exact PJ.retn (vs := [(.slice none 0 0), .int .i64 3]) Tryd.results7 ⟨rfl, rfl, trivial⟩ ⟨_, rfl, rfl⟩
          · replace hm := ifF hm hb25
            refine WJ.skip ?_
            refine PJ.next ?_
            refine WJ.reg ?_
            refine SJ.q (YldS.yld (y_move rfl)) rfl ?_
            refine SJ.q (YldS.yld (y_move rfl)) rfl ?_
            obtain ⟨l26, h27, hm⟩ := bindS hm
            refine SJ.append (k := 1) (R := fPress) h27 rfl Tryd.underlying28 el35 rfl rfl rfl (fun w hw => (hw.row_rd (k := 0) rfl)) rfl fun v28 => ?_
            refine SJ.q (YldS.yld (y_assign rfl)) rfl ?_
            refine SJ.nil ?_
            refine PJ.block_normal (PJ.next ?_)
            refine WJ.quiet ?_
            refine QJ.step (YldS.yld (y_move rfl)) rfl ?_
            refine QJ.step (YldS.yld (y_bin rfl rfl rfl)) rfl ?_
            refine QJ.step (YldS.yld (y_assign rfl)) rfl ?_
            refine QJ.done ?_
            exact PJ.round (l26, v28, w64 (i18 + 1)) [1] hm ⟨rfl, rfl, rfl, rfl, rfl, trivial⟩ ⟨by decide, rfl⟩
        · replace hm := ifF hm hb19
          refine WJ.exit ?_
          refine PJ.then_exit (PJ.then_exit (PJ.block_exit ?_))
          exact PJ.joined (l16, v17) [0] hm ⟨rfl, trivial⟩ ⟨by decide, rfl⟩
    · rintro ⟨l12, v13⟩ hm
      subst hk15
      refine WJ.seq ?_
      refine WJ.quiet ?_
      refine QJ.step (YldS.yld (y_move rfl)) rfl ?_
      refine QJ.step (YldS.yld (y_assign rfl)) rfl ?_
      refine QJ.step (YldS.yld (y_assign rfl)) rfl ?_
      refine QJ.done ?_
      refine PJ.next ?_
      refine WJ.ret ?_
      obtain rfl := Option.some.inj hm
      refine PJ.sel (L' := [row v13 35 fPress l12]) [0] ⟨by decide, rfl⟩ ?_
      exact PJ.retn (vs := [v13, .int .i64 0]) Tryd.results7 ⟨rfl, rfl, trivial⟩ ⟨_, rfl, rfl⟩

set_option maxRecDepth 100000 in
set_option maxHeartbeats 1000000 in
theorem ok_i_ascending {N : Nat} {marked1 : List Bool} {r : Str} (hm : i_ascending N marked1 = some r) (w : World) (ad2 : Addr) (ha3 : RdS w (cx w).Fz (.slice (some ad2) 256 256) fBool.rp marked1) :
    Calls Tryd.prog 29 #[.pointer (some ad2)] w (Ret (cx w) (str r)) := by
  unfold i_ascending at hm
  refine Calls.enter [.pointer (some ad2)] Tryd.func29 rfl Tryd.ntmps29 rfl ?_
  refine WJ.seq ?_
  refine WJ.quiet ?_
  refine QJ.step (YldS.yld (y_assign rfl)) rfl ?_
  refine QJ.done ?_
  refine PJ.next ?_
  refine WJ.seq ?_
  refine WJ.reg ?_
  refine SJ.buildSlice (R := fByte) (os := []) [] Tryd.runUnderlying22 Tryd.sizeOf5 Tryd.zeroValue5 rfl rfl rfl rfl rfl rfl fun v4 => ?_
  refine SJ.q (YldS.yld (y_assign rfl)) rfl ?_
  refine SJ.nil ?_
  refine PJ.next ?_
  obtain ⟨kj7, hk8, hm⟩ := withK_open hm
  refine WJ.join (X := (List UInt8) × Value) (fun (x : (List UInt8) × Value) => kj7 x.1 = some r) (fun (x : (List UInt8) × Value) => [(3, x.2)]) (fun (x : (List UInt8) × Value) => [row x.2 5 fByte x.1]) ?_ ?_
  · clear hk8
    refine WJ.seq ?_
    refine WJ.quiet ?_
    refine QJ.step (YldS.yld (y_move rfl)) rfl ?_
    refine QJ.done ?_
    refine PJ.next ?_
    refine WJ.block ?_
    refine WJ.sel (L' := (fun (x : (List UInt8) × Value × Int) => [row x.2.1 5 fByte x.1]) ([], v4, 0)) [0] ⟨by decide, rfl⟩ ?_
    refine WJ.sub (m' := (fun (x : (List UInt8) × Value × Int) => [(0, .pointer (some ad2)), (3, x.2.1), (6, .int .i64 x.2.2)]) ([], v4, 0)) ⟨rfl, rfl, rfl, trivial⟩ ?_
    refine WJ.loop (X := (List UInt8) × Value × Int) (fun N (x : (List UInt8) × Value × Int) => i_ascending_l1 kj7 marked1 N x.1 x.2.2 = some r) (fun (x : (List UInt8) × Value × Int) => [(0, .pointer (some ad2)), (3, x.2.1), (6, .int .i64 x.2.2)]) (fun (x : (List UInt8) × Value × Int) => [row x.2.1 5 fByte x.1]) ?_ N ([], v4, 0) hm
    · rintro N ⟨l9, v10, x11⟩ hI
      have hm := hI; clear hI
      cases N with
      | zero => cases hm
      | succ N =>
      unfold i_ascending_l1 at hm
      refine WJ.seq ?_
      refine WJ.quiet ?_
      refine QJ.step (YldS.yld (y_bin rfl rfl rfl)) rfl ?_
      refine QJ.done ?_
      refine PJ.next ?_
      refine WJ.seq ?_
      refine WJ.cond (t := decide (x11 < 256)) rfl (fun hb12 => ?_) (fun hb12 => ?_)
      · replace hm := ifT hm hb12
        refine WJ.skip ?_
        refine PJ.next ?_
        obtain ⟨kj15, hk16, hm⟩ := withK_open hm
        refine WJ.join (X := (List UInt8) × Value) (fun (x : (List UInt8) × Value) => kj15 x.1 = some r) (fun (x : (List UInt8) × Value) => [(0, .pointer (some ad2)), (3, x.2), (6, .int .i64 x11)]) (fun (x : (List UInt8) × Value) => [row x.2 5 fByte x.1]) ?_ ?_
        · clear hk16
          refine WJ.block ?_
          refine WJ.seq ?_
          refine WJ.quiet ?_
          refine QJ.step (YldS.yld (y_move rfl)) rfl ?_
          refine QJ.step (YldS.yld (y_assign rfl)) rfl ?_
          refine QJ.done ?_
          refine PJ.next ?_
          refine WJ.seq ?_
          refine WJ.quiet ?_
          refine QJ.step (YldS.yld (y_move rfl)) rfl ?_
          refine QJ.step (YldS.yld (y_move rfl)) rfl ?_
          refine QJ.step (YldS.yld (y_nil rfl)) rfl ?_
          obtain ⟨e17, h18, hm⟩ := bindS hm
          obtain ⟨ad19, _, rfl, ha20, hy21⟩ := ha3.elemA h18
          refine QJ.step (YldS.yld (hy21 Tryd.runUnderlying49 Tryd.sizeOf4 rfl rfl)) rfl ?_
          refine QJ.step (YldS.yld (y_load1 (v := .bool e17) Tryd.isAgg4 ha20 St.frozenC rfl)) rfl ?_
          refine QJ.done ?_
          refine PJ.next ?_
          refine WJ.cond (t := e17) rfl (fun hb22 => ?_) (fun hb22 => ?_)
          · replace hm := ifT hm hb22
            refine WJ.reg ?_
            refine SJ.q (YldS.yld (y_move rfl)) rfl ?_
            refine SJ.q (YldS.yld (y_move rfl)) rfl ?_
            refine SJ.q (YldS.yld (y_convTo8 Tryd.runUnderlying3 Tryd.runUnderlying5 rfl)) rfl ?_
            refine SJ.buildSlice (R := fByte) (os := [.tmp 16]) [UInt8.ofInt x11] Tryd.runUnderlying22 Tryd.sizeOf5 Tryd.zeroValue5 rfl rfl rfl rfl rfl rfl fun v23 => ?_
            obtain ⟨l24, h25, hm⟩ := bindS hm
            refine SJ.append (k := 1) (R := fByte) h25 rfl Tryd.underlying22 el5 rfl rfl rfl (fun w hw => (hw.row_rd (k := 0) rfl)) rfl fun v26 => ?_
            refine SJ.q (YldS.yld (y_assign rfl)) rfl ?_
            refine SJ.nil ?_
            refine PJ.block_normal ?_
            exact PJ.joined (l24, v26) [1] hm ⟨rfl, rfl, rfl, trivial⟩ ⟨by decide, rfl⟩
          · replace hm := ifF hm hb22
            refine WJ.skip ?_
            refine PJ.block_normal ?_
            exact PJ.joined (l9, v10) [0] hm ⟨rfl, rfl, rfl, trivial⟩ ⟨by decide, rfl⟩
        · rintro ⟨l13, v14⟩ hm
          subst hk16
          refine WJ.quiet ?_
          refine QJ.step (YldS.yld (y_bin rfl rfl rfl)) rfl ?_
          refine QJ.step (YldS.yld (y_move rfl)) rfl ?_
          refine QJ.done ?_
          exact PJ.round (l13, v14, w64 (x11 + 1)) [0] hm ⟨rfl, rfl, rfl, trivial⟩ ⟨by decide, rfl⟩
      · replace hm := ifF hm hb12
        refine WJ.exit ?_
        refine PJ.then_exit (PJ.then_exit (PJ.block_exit ?_))
        exact PJ.joined (l9, v10) [0] hm ⟨rfl, trivial⟩ ⟨by decide, rfl⟩
  · rintro ⟨l5, v6⟩ hm
    subst hk8
    refine WJ.seq ?_
    refine WJ.quiet ?_
    refine QJ.step (YldS.yld (y_move rfl)) rfl ?_
    refine QJ.step (YldS.yld (y_b2s Tryd.underlying22 Tryd.underlying9 Tryd.underlying5 (fun w hw => ⟨_, (hw.row_rd (k := 0) rfl)⟩) rfl)) rfl ?_
    refine QJ.step (YldS.yld (y_assign rfl)) rfl ?_
    refine QJ.done ?_
    refine PJ.next ?_
    refine WJ.ret ?_
    obtain rfl := Option.some.inj hm
    refine PJ.sel (L' := []) [] ⟨List.nodup_nil, rfl⟩ ?_
    exact PJ.retn (vs := [str l5]) Tryd.results29 ⟨rfl, trivial⟩ ⟨rfl, rfl⟩

set_option maxRecDepth 100000 in
set_option maxHeartbeats 1000000 in
theorem ok_i_MissingLetters {N : Nat} {keys1 : List Key} {accents4 : List Accent} {text7 : Str} {r : Str × Int} (hm : i_MissingLetters N keys1 accents4 text7 = some r) (w : World) (v2 : Value) (hr3 : RdS w (cx w).Fz v2 fKey.rp keys1) (v5 : Value) (hr6 : RdS w (cx w).Fz v5 fAccent.rp accents4) :
    Calls Tryd.prog 8 #[v2, v5, str text7] w (Ret (cx w) (tup [str r.1, .int .i64 r.2])) := by
  unfold i_MissingLetters at hm
  refine Calls.enter [v2, v5, str text7] Tryd.func8 rfl Tryd.ntmps8 rfl ?_
  refine WJ.seq ?_
  refine WJ.quiet ?_
  refine QJ.step (YldS.yld (y_assign rfl)) rfl ?_
  refine QJ.step (YldS.yld (y_assign rfl)) rfl ?_
  refine QJ.done ?_
  refine PJ.next ?_
  refine WJ.seq ?_
  refine WJ.seq ?_
  refine WJ.quiet ?_
  refine QJ.step (YldS.yld (y_move rfl)) rfl ?_
  refine QJ.step (YldS.yld (y_move rfl)) rfl ?_
  obtain ⟨r8, h9, hm⟩ := bindS hm
  refine QJ.step (y_call Tryd.call21 rfl (RetG.quiet fun w hw => ok_i_ValidKeys h9 w _ (hr3.st hw) _ (hr6.st hw))) rfl ?_
  refine QJ.step (YldS.yld (y_not rfl)) rfl ?_
  refine QJ.done ?_
  refine PJ.next ?_
  refine WJ.cond (t := !r8) rfl (fun hb10 => ?_) (fun hb10 => ?_)
  · replace hm := ifT hm hb10
    refine WJ.seq ?_
    refine WJ.quiet ?_
    refine QJ.step (YldS.yld (y_assign rfl)) rfl ?_
    refine QJ.step (YldS.yld (y_assign rfl)) rfl ?_
    refine QJ.done ?_
    refine PJ.next ?_
    refine WJ.ret ?_
    refine PJ.then_ret ?_
    obtain rfl := Option.some.inj hm
    refine PJ.sel (L' := []) [] ⟨List.nodup_nil, rfl⟩ ?_
    exact PJ.retn (vs := [str [], .int .i64 1]) Tryd.results8 ⟨rfl, rfl, trivial⟩ ⟨rfl, rfl⟩
  · replace hm := ifF hm hb10
    refine WJ.skip ?_
    refine PJ.next ?_
    refine WJ.seq ?_
    refine WJ.seq ?_
    refine WJ.quiet ?_
    refine QJ.step (YldS.yld (y_move rfl)) rfl ?_
    obtain ⟨r11, h12, hm⟩ := bindS hm
    refine QJ.step (y_call Tryd.call25 rfl (RetG.quiet fun w hw => ok_i_isText h12 w )) rfl ?_
    refine QJ.step (YldS.yld (y_not rfl)) rfl ?_
    refine QJ.done ?_
    refine PJ.next ?_
    refine WJ.cond (t := !r11) rfl (fun hb13 => ?_) (fun hb13 => ?_)
    · replace hm := ifT hm hb13
      refine WJ.seq ?_
      refine WJ.quiet ?_
      refine QJ.step (YldS.yld (y_assign rfl)) rfl ?_
      refine QJ.step (YldS.yld (y_assign rfl)) rfl ?_
      refine QJ.done ?_
      refine PJ.next ?_
      refine WJ.ret ?_
      refine PJ.then_ret ?_
      obtain rfl := Option.some.inj hm
      refine PJ.sel (L' := []) [] ⟨List.nodup_nil, rfl⟩ ?_
      exact PJ.retn (vs := [str [], .int .i64 2]) Tryd.results8 ⟨rfl, rfl, trivial⟩ ⟨rfl, rfl⟩
    · replace hm := ifF hm hb13
      refine WJ.skip ?_
      refine PJ.next ?_
      refine WJ.seq ?_
      refine WJ.reg ?_
      refine SJ.q (YldS.yld (y_build0 Tryd.runUnderlying49 zv49 Tryd.sizeOf4)) rfl ?_
      refine SJ.allocA (R := fBool) (xs := List.replicate 256 false) 256 zv49 rfl rfl rfl rfl fun g14 => ?_
      refine SJ.storeA (k := 0) (ys := (List.replicate 256 false)) rfl rfl rfl rfl (by simp) Tryd.sizeOf49 (by simp [length_encs, fBool]) ?_
      refine SJ.nil ?_
      refine PJ.next ?_
      obtain ⟨kj16, hk17, hm⟩ := withK_open hm
      refine WJ.join (X := (List Bool)) (fun (x : (List Bool)) => kj16 x = some r) (fun (x : (List Bool)) => [(8, pt g14 0)]) (fun (x : (List Bool)) => [row (av g14 256) 49 fBool x]) ?_ ?_
      · clear hk17
        refine WJ.seq ?_
        refine WJ.quiet ?_
        refine QJ.step (YldS.yld (y_move rfl)) rfl ?_
        refine QJ.step (YldS.yld (y_lenStr Tryd.runUnderlying9 rfl)) rfl ?_
        refine QJ.step (YldS.yld (y_move rfl)) rfl ?_
        refine QJ.done ?_
        refine PJ.next ?_
        refine WJ.block ?_
        refine WJ.sel (L' := (fun (x : (List Bool) × Int) => [row (av g14 256) 49 fBool x.1]) ((List.replicate 256 false), 0)) [0] ⟨by decide, rfl⟩ ?_
        refine WJ.sub (m' := (fun (x : (List Bool) × Int) => [(0, v2), (1, v5), (2, str text7), (8, pt g14 0), (19, .int .i64 (List.length text7 : Int)), (20, .int .i64 x.2)]) ((List.replicate 256 false), 0)) ⟨rfl, rfl, rfl, rfl, rfl, rfl, trivial⟩ ?_
        refine WJ.loop (X := (List Bool) × Int) (fun N (x : (List Bool) × Int) => i_MissingLetters_l1 kj16 keys1 accents4 text7 N x.1 x.2 = some r) (fun (x : (List Bool) × Int) => [(0, v2), (1, v5), (2, str text7), (8, pt g14 0), (19, .int .i64 (List.length text7 : Int)), (20, .int .i64 x.2)]) (fun (x : (List Bool) × Int) => [row (av g14 256) 49 fBool x.1]) ?_ N ((List.replicate 256 false), 0) hm
        · rintro N ⟨l18, x19⟩ hI
          have hm := hI; clear hI
          cases N with
          | zero => cases hm
          | succ N =>
          unfold i_MissingLetters_l1 at hm
          refine WJ.seq ?_
          refine WJ.quiet ?_
          refine QJ.step (YldS.yld (y_bin rfl rfl rfl)) rfl ?_
          refine QJ.done ?_
          refine PJ.next ?_
          refine WJ.seq ?_
          refine WJ.cond (t := decide (x19 < (List.length text7 : Int))) rfl (fun hb20 => ?_) (fun hb20 => ?_)
          · replace hm := ifT hm hb20
            refine WJ.skip ?_
            refine PJ.next ?_
            obtain ⟨kj22, hk23, hm⟩ := withK_open hm
            refine WJ.join (X := (List Bool)) (fun (x : (List Bool)) => kj22 x = some r) (fun (x : (List Bool)) => [(0, v2), (1, v5), (2, str text7), (8, pt g14 0), (19, .int .i64 (List.length text7 : Int)), (20, .int .i64 x19)]) (fun (x : (List Bool)) => [row (av g14 256) 49 fBool x]) ?_ ?_
            · clear hk23
              refine WJ.block ?_
              refine WJ.seq ?_
              refine WJ.quiet ?_
              refine QJ.step (YldS.yld (y_move rfl)) rfl ?_
              refine QJ.step (YldS.yld (y_assign rfl)) rfl ?_
              refine QJ.done ?_
              refine PJ.next ?_
              refine WJ.seq ?_
              refine WJ.reg ?_
              refine SJ.q (YldS.yld (y_move rfl)) rfl ?_
              refine SJ.q (YldS.yld (y_move rfl)) rfl ?_
              refine SJ.q (YldS.yld (y_move rfl)) rfl ?_
              refine SJ.q (YldS.yld (y_move rfl)) rfl ?_
              refine SJ.q (YldS.yld (y_move rfl)) rfl ?_
              refine SJ.q (YldS.yld (y_bin rfl rfl rfl)) rfl ?_
              obtain ⟨s24, h25, hm⟩ := bindS hm
              refine SJ.q (YldS.yld (y_subStr (i := some x19) (j := some (w64 (x19 + 1))) h25 Tryd.runUnderlying9 rfl ⟨_, rfl⟩ ⟨_, rfl⟩)) rfl ?_
              obtain ⟨r26, h27, hm⟩ := bindS hm
              refine SJ.call Tryd.call26 rfl (fun w hw => ok_i_pressesOf h27 w _ (hr3.st hw) _ (hr6.st hw)) rfl ?_
              rintro v28 _ ⟨_, rfl, rfl⟩
              refine SJ.q (YldS.yld (y_lenRow (k := 0) rfl Tryd.runUnderlying28 rfl)) rfl ?_
              refine SJ.q (YldS.yld (y_bin rfl rfl rfl)) rfl ?_
              refine SJ.nil ?_
              refine PJ.next ?_
              refine WJ.cond (t := ((List.length r26 : Int) == 0)) rfl (fun hb29 => ?_) (fun hb29 => ?_)
              · replace hm := ifT hm hb29
                refine WJ.reg ?_
                refine SJ.q (YldS.yld (y_move rfl)) rfl ?_
                refine SJ.q (YldS.yld (y_move rfl)) rfl ?_
                obtain ⟨c30, h31, hm⟩ := bindS hm
                refine SJ.q (YldS.yld (y_idxStr Tryd.runUnderlying9 rfl rfl h31)) rfl ?_
                obtain ⟨e32, h33, hm⟩ := bindS hm
                refine SJ.q (YldS.yld (y_ixArr (k := 1) (R := fBool) rfl Tryd.runUnderlying49 Tryd.sizeOf4 rfl rfl h33)) rfl ?_
                refine SJ.storeRL (k := 1) (i := (Int.toNat (UInt8.toNat c30 : Int))) (off := 0) (us := [.bool true]) (b := true) rfl rfl (idx_get h33) rfl rfl Tryd.sizeOf4 rfl rfl rfl ?_
                refine SJ.nil ?_
                refine PJ.block_normal ?_
                exact PJ.joined (List.set l18 (Int.toNat (UInt8.toNat c30 : Int)) true) [1] hm ⟨rfl, rfl, rfl, rfl, rfl, rfl, trivial⟩ ⟨by decide, rfl⟩
              · replace hm := ifF hm hb29
                refine WJ.skip ?_
                refine PJ.block_normal ?_
                exact PJ.joined l18 [1] hm ⟨rfl, rfl, rfl, rfl, rfl, rfl, trivial⟩ ⟨by decide, rfl⟩
            · rintro l21 hm
              subst hk23
              refine WJ.quiet ?_
              refine QJ.step (YldS.yld (y_bin rfl rfl rfl)) rfl ?_
              refine QJ.step (YldS.yld (y_move rfl)) rfl ?_
              refine QJ.done ?_
              exact PJ.round (l21, w64 (x19 + 1)) [0] hm ⟨rfl, rfl, rfl, rfl, rfl, rfl, trivial⟩ ⟨by decide, rfl⟩
          · replace hm := ifF hm hb20
            refine WJ.exit ?_
            refine PJ.then_exit (PJ.then_exit (PJ.block_exit ?_))
            exact PJ.joined l18 [0] hm ⟨rfl, trivial⟩ ⟨by decide, rfl⟩
      · rintro l15 hm
        subst hk17
        refine WJ.seq ?_
        refine WJ.quiet ?_
        obtain ⟨r34, h35, hm⟩ := bindS hm
        refine QJ.step (y_call Tryd.call29 rfl (RetG.quiet fun w hw => ok_i_ascending h35 w _ (hw.row_rd (k := 0) rfl))) rfl ?_
        refine QJ.step (YldS.yld (y_assign rfl)) rfl ?_
        refine QJ.step (YldS.yld (y_assign rfl)) rfl ?_
        refine QJ.done ?_
        refine PJ.next ?_
        refine WJ.ret ?_
        obtain rfl := Option.some.inj hm
        refine PJ.sel (L' := []) [] ⟨List.nodup_nil, rfl⟩ ?_
        exact PJ.retn (vs := [str r34, .int .i64 0]) Tryd.results8 ⟨rfl, rfl, trivial⟩ ⟨rfl, rfl⟩

set_option maxRecDepth 100000 in
set_option maxHeartbeats 1000000 in
theorem ok_s_MissingLetters {N : Nat} {keys1 : List Key} {accents4 : List Accent} {text7 : Str} {r : Str × Int} (hm : s_MissingLetters N keys1 accents4 text7 = some r) (w : World) (v2 : Value) (hr3 : RdS w (cx w).Fz v2 fKey.rp keys1) (v5 : Value) (hr6 : RdS w (cx w).Fz v5 fAccent.rp accents4) :
    Calls Tryd.prog 9 #[v2, v5, str text7] w (Ret (cx w) (tup [str r.1, .int .i64 r.2])) := by
  unfold s_MissingLetters at hm
  refine Calls.enter [v2, v5, str text7] Tryd.func9 rfl Tryd.ntmps9 rfl ?_
  refine WJ.seq ?_
  refine WJ.quiet ?_
  refine QJ.step (YldS.yld (y_assign rfl)) rfl ?_
  refine QJ.step (YldS.yld (y_assign rfl)) rfl ?_
  refine QJ.done ?_
  refine PJ.next ?_
  refine WJ.seq ?_
  refine WJ.quiet ?_
  refine QJ.step (YldS.yld (y_move rfl)) rfl ?_
  refine QJ.step (YldS.yld (y_move rfl)) rfl ?_
  refine QJ.step (YldS.yld (y_move rfl)) rfl ?_
  obtain ⟨r8, h9, hm⟩ := bindS hm
  refine QJ.step (y_call Tryd.call27 rfl (RetG.quiet fun w hw => ok_s_l02Code h9 w _ (hr3.st hw) _ (hr6.st hw))) rfl ?_
  refine QJ.step (YldS.yld (y_assign rfl)) rfl ?_
  refine QJ.done ?_
  refine PJ.next ?_
  refine WJ.seq ?_
  refine WJ.seq ?_
  refine WJ.quiet ?_
  refine QJ.step (YldS.yld (y_move rfl)) rfl ?_
  refine QJ.step (YldS.yld (y_bin rfl rfl rfl)) rfl ?_
  refine QJ.done ?_
  refine PJ.next ?_
  refine WJ.cond (t := (r8 != 0)) rfl (fun hb10 => ?_) (fun hb10 => ?_)
  · replace hm := ifT hm hb10
    refine WJ.seq ?_
    refine WJ.quiet ?_
    refine QJ.step (YldS.yld (y_move rfl)) rfl ?_
    refine QJ.step (YldS.yld (y_assign rfl)) rfl ?_
    refine QJ.step (YldS.yld (y_assign rfl)) rfl ?_
    refine QJ.done ?_
    refine PJ.next ?_
    refine WJ.ret ?_
    refine PJ.then_ret ?_
    obtain rfl := Option.some.inj hm
    refine PJ.sel (L' := []) [] ⟨List.nodup_nil, rfl⟩ ?_
    exact PJ.retn (vs := [str [], .int .i64 r8]) Tryd.results9 ⟨rfl, rfl, trivial⟩ ⟨rfl, rfl⟩
  · replace hm := ifF hm hb10
    refine WJ.skip ?_
    refine PJ.next ?_
    refine WJ.seq ?_
    refine WJ.quiet ?_
    refine QJ.step (YldS.yld (y_assign rfl)) rfl ?_
    refine QJ.done ?_
    refine PJ.next ?_
    obtain ⟨kj12, hk13, hm⟩ := withK_open hm
    refine WJ.join (X := Str) (fun (x : Str) => kj12 x = some r) (fun (x : Str) => [(9, str x)]) (fun (x : Str) => []) ?_ ?_
    · clear hk13
      refine WJ.seq ?_
      refine WJ.quiet ?_
      refine QJ.step (YldS.yld (y_assign rfl)) rfl ?_
      refine QJ.done ?_
      refine PJ.next ?_
      refine WJ.block ?_
      refine WJ.sel (L' := (fun (x : Str × Int) => []) ([], 0)) [] ⟨List.nodup_nil, rfl⟩ ?_
      refine WJ.sub (m' := (fun (x : Str × Int) => [(0, v2), (1, v5), (2, str text7), (9, str x.1), (10, .int .i64 x.2)]) ([], 0)) ⟨rfl, rfl, rfl, rfl, rfl, trivial⟩ ?_
      refine WJ.loop (X := Str × Int) (fun N (x : Str × Int) => s_MissingLetters_l1 kj12 keys1 accents4 text7 N x.1 x.2 = some r) (fun (x : Str × Int) => [(0, v2), (1, v5), (2, str text7), (9, str x.1), (10, .int .i64 x.2)]) (fun (x : Str × Int) => []) ?_ N ([], 0) hm
      · rintro N ⟨out14, i15⟩ hI
        have hm := hI; clear hI
        cases N with
        | zero => cases hm
        | succ N =>
        unfold s_MissingLetters_l1 at hm
        refine WJ.seq ?_
        refine WJ.seq ?_
        refine WJ.quiet ?_
        refine QJ.step (YldS.yld (y_move rfl)) rfl ?_
        refine QJ.step (YldS.yld (y_move rfl)) rfl ?_
        refine QJ.step (YldS.yld (y_lenStr Tryd.runUnderlying9 rfl)) rfl ?_
        refine QJ.step (YldS.yld (y_bin rfl rfl rfl)) rfl ?_
        refine QJ.done ?_
        refine PJ.next ?_
        refine WJ.cond (t := decide (i15 < (List.length text7 : Int))) rfl (fun hb16 => ?_) (fun hb16 => ?_)
        · replace hm := ifT hm hb16
          refine WJ.skip ?_
          refine PJ.next ?_
          obtain ⟨kj18, hk19, hm⟩ := withK_open hm
          refine WJ.join (X := Str) (fun (x : Str) => kj18 x = some r) (fun (x : Str) => [(0, v2), (1, v5), (2, str text7), (9, str x), (10, .int .i64 i15)]) (fun (x : Str) => []) ?_ ?_
          · clear hk19
            refine WJ.block ?_
            refine WJ.seq ?_
            refine WJ.reg ?_
            refine SJ.q (YldS.yld (y_move rfl)) rfl ?_
            refine SJ.q (YldS.yld (y_move rfl)) rfl ?_
            refine SJ.q (YldS.yld (y_move rfl)) rfl ?_
            refine SJ.q (YldS.yld (y_move rfl)) rfl ?_
            refine SJ.q (YldS.yld (y_move rfl)) rfl ?_
            refine SJ.q (YldS.yld (y_bin rfl rfl rfl)) rfl ?_
            obtain ⟨s20, h21, hm⟩ := bindS hm
            refine SJ.q (YldS.yld (y_subStr (i := some i15) (j := some (w64 (i15 + 1))) h21 Tryd.runUnderlying9 rfl ⟨_, rfl⟩ ⟨_, rfl⟩)) rfl ?_
            obtain ⟨r22, h23, hm⟩ := bindS hm
            refine SJ.call Tryd.call28 rfl (fun w hw => ok_s_l02Presses h23 w _ (hr3.st hw) _ (hr6.st hw)) rfl ?_
            rintro v24 _ ⟨_, rfl, rfl⟩
            refine SJ.q (YldS.yld (y_lenRow (k := 0) rfl Tryd.runUnderlying28 rfl)) rfl ?_
            refine SJ.q (YldS.yld (y_bin rfl rfl rfl)) rfl ?_
            refine SJ.nil ?_
            refine PJ.next ?_
            refine WJ.cond (t := ((List.length r22 : Int) == 0)) rfl (fun hb25 => ?_) (fun hb25 => ?_)
            · replace hm := ifT hm hb25
              refine WJ.quiet ?_
              refine QJ.step (YldS.yld (y_move rfl)) rfl ?_
              refine QJ.step (YldS.yld (y_move rfl)) rfl ?_
              refine QJ.step (YldS.yld (y_move rfl)) rfl ?_
              refine QJ.step (YldS.yld (y_move rfl)) rfl ?_
              refine QJ.step (YldS.yld (y_bin rfl rfl rfl)) rfl ?_
              obtain ⟨s26, h27, hm⟩ := bindS hm
              refine QJ.step (YldS.yld (y_subStr (i := some i15) (j := some (w64 (i15 + 1))) h27 Tryd.runUnderlying9 rfl ⟨_, rfl⟩ ⟨_, rfl⟩)) rfl ?_
              obtain ⟨r28, h29, hm⟩ := bindS hm
              refine QJ.step (y_call Tryd.call30 rfl (RetG.quiet fun w hw => ok_s_l02PutLetter h29 w )) rfl ?_
              refine QJ.step (YldS.yld (y_assign rfl)) rfl ?_
              refine QJ.done ?_
              refine PJ.block_normal ?_
              exact PJ.joined r28 [] hm ⟨rfl, rfl, rfl, rfl, rfl, trivial⟩ ⟨List.nodup_nil, rfl⟩
            · replace hm := ifF hm hb25
              refine WJ.skip ?_
              refine PJ.block_normal ?_
              exact PJ.joined out14 [] hm ⟨rfl, rfl, rfl, rfl, rfl, trivial⟩ ⟨List.nodup_nil, rfl⟩
          · rintro out17 hm
            subst hk19
            refine WJ.quiet ?_
            refine QJ.step (YldS.yld (y_move rfl)) rfl ?_
            refine QJ.step (YldS.yld (y_bin rfl rfl rfl)) rfl ?_
            refine QJ.step (YldS.yld (y_assign rfl)) rfl ?_
            refine QJ.done ?_
            exact PJ.round (out17, w64 (i15 + 1)) [] hm ⟨rfl, rfl, rfl, rfl, rfl, trivial⟩ ⟨List.nodup_nil, rfl⟩
        · replace hm := ifF hm hb16
          refine WJ.exit ?_
          refine PJ.then_exit (PJ.then_exit (PJ.block_exit ?_))
          exact PJ.joined out14 [] hm ⟨rfl, trivial⟩ ⟨List.nodup_nil, rfl⟩
    · rintro out11 hm
      subst hk13
      refine WJ.seq ?_
      refine WJ.quiet ?_
      refine QJ.step (YldS.yld (y_move rfl)) rfl ?_
      refine QJ.step (YldS.yld (y_assign rfl)) rfl ?_
      refine QJ.step (YldS.yld (y_assign rfl)) rfl ?_
      refine QJ.done ?_
      refine PJ.next ?_
      refine WJ.ret ?_
      obtain rfl := Option.some.inj hm
      refine PJ.sel (L' := []) [] ⟨List.nodup_nil, rfl⟩ ?_
      exact PJ.retn (vs := [str out11, .int .i64 0]) Tryd.results9 ⟨rfl, rfl, trivial⟩ ⟨rfl, rfl⟩

set_option maxRecDepth 100000 in
set_option maxHeartbeats 1000000 in
theorem ok_i_LettersOf {N : Nat} {keys1 : List Key} {accents4 : List Accent} {r : Str × Int} (hm : i_LettersOf N keys1 accents4 = some r) (w : World) (v2 : Value) (hr3 : RdS w (cx w).Fz v2 fKey.rp keys1) (v5 : Value) (hr6 : RdS w (cx w).Fz v5 fAccent.rp accents4) :
    Calls Tryd.prog 10 #[v2, v5] w (Ret (cx w) (tup [str r.1, .int .i64 r.2])) := by
  unfold i_LettersOf at hm
  refine Calls.enter [v2, v5] Tryd.func10 rfl Tryd.ntmps10 rfl ?_
  refine WJ.seq ?_
  refine WJ.quiet ?_
  refine QJ.step (YldS.yld (y_assign rfl)) rfl ?_
  refine QJ.step (YldS.yld (y_assign rfl)) rfl ?_
  refine QJ.done ?_
  refine PJ.next ?_
  refine WJ.seq ?_
  refine WJ.seq ?_
  refine WJ.quiet ?_
  refine QJ.step (YldS.yld (y_move rfl)) rfl ?_
  refine QJ.step (YldS.yld (y_move rfl)) rfl ?_
  obtain ⟨r7, h8, hm⟩ := bindS hm
  refine QJ.step (y_call Tryd.call21 rfl (RetG.quiet fun w hw => ok_i_ValidKeys h8 w _ (hr3.st hw) _ (hr6.st hw))) rfl ?_
  refine QJ.step (YldS.yld (y_not rfl)) rfl ?_
  refine QJ.done ?_
  refine PJ.next ?_
  refine WJ.cond (t := !r7) rfl (fun hb9 => ?_) (fun hb9 => ?_)
  · replace hm := ifT hm hb9
    refine WJ.seq ?_
    refine WJ.quiet ?_
    refine QJ.step (YldS.yld (y_assign rfl)) rfl ?_
    refine QJ.step (YldS.yld (y_assign rfl)) rfl ?_
    refine QJ.done ?_
    refine PJ.next ?_
    refine WJ.ret ?_
    refine PJ.then_ret ?_
    obtain rfl := Option.some.inj hm
    refine PJ.sel (L' := []) [] ⟨List.nodup_nil, rfl⟩ ?_
    exact PJ.retn (vs := [str [], .int .i64 1]) Tryd.results10 ⟨rfl, rfl, trivial⟩ ⟨rfl, rfl⟩
  · replace hm := ifF hm hb9
    refine WJ.skip ?_
    refine PJ.next ?_
    refine WJ.seq ?_
    refine WJ.reg ?_
    refine SJ.q (YldS.yld (y_build0 Tryd.runUnderlying49 zv49 Tryd.sizeOf4)) rfl ?_
    refine SJ.allocA (R := fBool) (xs := List.replicate 256 false) 256 zv49 rfl rfl rfl rfl fun g10 => ?_
    refine SJ.storeA (k := 0) (ys := (List.replicate 256 false)) rfl rfl rfl rfl (by simp) Tryd.sizeOf49 (by simp [length_encs, fBool]) ?_
    refine SJ.nil ?_
    refine PJ.next ?_
    obtain ⟨kj12, hk13, hm⟩ := withK_open hm
    refine WJ.join (X := (List Bool)) (fun (x : (List Bool)) => kj12 x = some r) (fun (x : (List Bool)) => [(1, v5), (6, pt g10 0)]) (fun (x : (List Bool)) => [row (av g10 256) 49 fBool x]) ?_ ?_
    · clear hk13
      refine WJ.seq ?_
      refine WJ.quiet ?_
      refine QJ.step (YldS.yld (y_move rfl)) rfl ?_
      refine QJ.step (YldS.yld (y_lenS Tryd.runUnderlying24 hr3 rfl)) rfl ?_
      refine QJ.step (YldS.yld (y_move rfl)) rfl ?_
      refine QJ.done ?_
      refine PJ.next ?_
      refine WJ.block ?_
      refine WJ.sel (L' := (fun (x : (List Bool) × Int) => [row (av g10 256) 49 fBool x.1]) ((List.replicate 256 false), 0)) [0] ⟨by decide, rfl⟩ ?_
      refine WJ.sub (m' := (fun (x : (List Bool) × Int) => [(1, v5), (6, pt g10 0), (16, v2), (17, .int .i64 (List.length keys1 : Int)), (18, .int .i64 x.2)]) ((List.replicate 256 false), 0)) ⟨rfl, rfl, rfl, rfl, rfl, trivial⟩ ?_
      refine WJ.loop (X := (List Bool) × Int) (fun N (x : (List Bool) × Int) => i_LettersOf_l1 kj12 keys1 N x.1 x.2 = some r) (fun (x : (List Bool) × Int) => [(1, v5), (6, pt g10 0), (16, v2), (17, .int .i64 (List.length keys1 : Int)), (18, .int .i64 x.2)]) (fun (x : (List Bool) × Int) => [row (av g10 256) 49 fBool x.1]) ?_ N ((List.replicate 256 false), 0) hm
      · rintro N ⟨l14, x15⟩ hI
        have hm := hI; clear hI
        cases N with
        | zero => cases hm
        | succ N =>
        unfold i_LettersOf_l1 at hm
        refine WJ.seq ?_
        refine WJ.quiet ?_
        refine QJ.step (YldS.yld (y_bin rfl rfl rfl)) rfl ?_
        refine QJ.done ?_
        refine PJ.next ?_
        refine WJ.seq ?_
        refine WJ.cond (t := decide (x15 < (List.length keys1 : Int))) rfl (fun hb16 => ?_) (fun hb16 => ?_)
        · replace hm := ifT hm hb16
          refine WJ.skip ?_
          refine PJ.next ?_
          obtain ⟨kj18, hk19, hm⟩ := withK_open hm
          refine WJ.join (X := (List Bool)) (fun (x : (List Bool)) => kj18 x = some r) (fun (x : (List Bool)) => [(1, v5), (6, pt g10 0), (16, v2), (17, .int .i64 (List.length keys1 : Int)), (18, .int .i64 x15)]) (fun (x : (List Bool)) => [row (av g10 256) 49 fBool x]) ?_ ?_
          · clear hk19
            refine WJ.block ?_
            refine WJ.seq ?_
            refine WJ.reg ?_
            obtain ⟨e20, h21, hm⟩ := bindS hm
            obtain ⟨ad22, _, rfl, ha23, hy24⟩ := hr3.elem h21
            refine SJ.q (YldS.yld (hy24 Tryd.runUnderlying24 Tryd.sizeOf54 rfl rfl)) rfl ?_
            refine SJ.q (YldS.yld (y_loadN Tryd.isAgg54 Tryd.sizeOf54 rfl ha23 St.frozenC rfl)) rfl ?_
            refine SJ.alloc (cs := [str [], str [], .bool false]) Tryd.zeroValue54 rfl rfl fun g25 => ?_
            refine SJ.storeL (k := 0) (off := 0) (us := [str e20.low, str e20.high, .bool e20.dead]) rfl rfl rfl rfl Tryd.sizeOf54 rfl rfl ?_
            refine SJ.nil ?_
            refine PJ.next ?_
            refine WJ.seq ?_
            refine WJ.quiet ?_
            refine QJ.step (YldS.yld (y_fldB (o := 0) fld54_2 rfl)) rfl ?_
            refine QJ.step (YldS.yld (y_loadB (k := 0) (off := 2) (v := .bool e20.dead) rfl Tryd.isAgg4 rfl rfl)) rfl ?_
            refine QJ.step (YldS.yld (y_not rfl)) rfl ?_
            refine QJ.done ?_
            refine PJ.next ?_
            refine WJ.cond (t := !e20.dead) rfl (fun hb26 => ?_) (fun hb26 => ?_)
            · replace hm := ifT hm hb26
              refine WJ.seq ?_
              refine WJ.reg ?_
              refine SJ.q (YldS.yld (y_fldB (o := 0) fld54_0 rfl)) rfl ?_
              refine SJ.q (YldS.yld (y_loadB (k := 0) (off := 0) (v := str e20.low) rfl Tryd.isAgg9 rfl rfl)) rfl ?_
              obtain ⟨c27, h28, hm⟩ := bindS hm
              refine SJ.q (YldS.yld (y_idxStr Tryd.runUnderlying9 rfl rfl h28)) rfl ?_
              obtain ⟨e29, h30, hm⟩ := bindS hm
              refine SJ.q (YldS.yld (y_ixArr (k := 1) (R := fBool) rfl Tryd.runUnderlying49 Tryd.sizeOf4 rfl rfl h30)) rfl ?_
              refine SJ.storeRL (k := 1) (i := (Int.toNat (UInt8.toNat c27 : Int))) (off := 0) (us := [.bool true]) (b := true) rfl rfl (idx_get h30) rfl rfl Tryd.sizeOf4 rfl rfl rfl ?_
              refine SJ.nil ?_
              refine PJ.next ?_
              refine WJ.reg ?_
              refine SJ.q (YldS.yld (y_fldB (o := 0) fld54_1 rfl)) rfl ?_
              refine SJ.q (YldS.yld (y_loadB (k := 0) (off := 1) (v := str e20.high) rfl Tryd.isAgg9 rfl rfl)) rfl ?_
              obtain ⟨c31, h32, hm⟩ := bindS hm
              refine SJ.q (YldS.yld (y_idxStr Tryd.runUnderlying9 rfl rfl h32)) rfl ?_
              obtain ⟨e33, h34, hm⟩ := bindS hm
              refine SJ.q (YldS.yld (y_ixArr (k := 1) (R := fBool) rfl Tryd.runUnderlying49 Tryd.sizeOf4 rfl rfl h34)) rfl ?_
              refine SJ.storeRL (k := 1) (i := (Int.toNat (UInt8.toNat c31 : Int))) (off := 0) (us := [.bool true]) (b := true) rfl rfl (idx_get h34) rfl rfl Tryd.sizeOf4 rfl rfl rfl ?_
              refine SJ.nil ?_
              refine PJ.block_normal ?_
              exact PJ.joined (List.set (List.set l14 (Int.toNat (UInt8.toNat c27 : Int)) true) (Int.toNat (UInt8.toNat c31 : Int)) true) [1] hm ⟨rfl, rfl, rfl, rfl, rfl, trivial⟩ ⟨by decide, rfl⟩
            · replace hm := ifF hm hb26
              refine WJ.skip ?_
              refine PJ.block_normal ?_
              exact PJ.joined l14 [1] hm ⟨rfl, rfl, rfl, rfl, rfl, trivial⟩ ⟨by decide, rfl⟩
          · rintro l17 hm
            subst hk19
            refine WJ.quiet ?_
            refine QJ.step (YldS.yld (y_bin rfl rfl rfl)) rfl ?_
            refine QJ.step (YldS.yld (y_move rfl)) rfl ?_
            refine QJ.done ?_
            exact PJ.round (l17, w64 (x15 + 1)) [0] hm ⟨rfl, rfl, rfl, rfl, rfl, trivial⟩ ⟨by decide, rfl⟩
        · replace hm := ifF hm hb16
          refine WJ.exit ?_
          refine PJ.then_exit (PJ.then_exit (PJ.block_exit ?_))
          exact PJ.joined l14 [0] hm ⟨rfl, rfl, trivial⟩ ⟨by decide, rfl⟩
    · rintro l11 hm
      subst hk13
      obtain ⟨kj36, hk37, hm⟩ := withK_open hm
      refine WJ.join (X := (List Bool)) (fun (x : (List Bool)) => kj36 x = some r) (fun (x : (List Bool)) => [(6, pt g10 0)]) (fun (x : (List Bool)) => [row (av g10 256) 49 fBool x]) ?_ ?_
      · clear hk37
        refine WJ.seq ?_
        refine WJ.quiet ?_
        refine QJ.step (YldS.yld (y_move rfl)) rfl ?_
        refine QJ.step (YldS.yld (y_lenS Tryd.runUnderlying25 hr6 rfl)) rfl ?_
        refine QJ.step (YldS.yld (y_move rfl)) rfl ?_
        refine QJ.done ?_
        refine PJ.next ?_
        refine WJ.block ?_
        refine WJ.sel (L' := (fun (x : (List Bool) × Int) => [row (av g10 256) 49 fBool x.1]) (l11, 0)) [0] ⟨by decide, rfl⟩ ?_
        refine WJ.sub (m' := (fun (x : (List Bool) × Int) => [(6, pt g10 0), (34, v5), (35, .int .i64 (List.length accents4 : Int)), (36, .int .i64 x.2)]) (l11, 0)) ⟨rfl, rfl, rfl, rfl, trivial⟩ ?_
        refine WJ.loop (X := (List Bool) × Int) (fun N (x : (List Bool) × Int) => i_LettersOf_l2 kj36 accents4 N x.1 x.2 = some r) (fun (x : (List Bool) × Int) => [(6, pt g10 0), (34, v5), (35, .int .i64 (List.length accents4 : Int)), (36, .int .i64 x.2)]) (fun (x : (List Bool) × Int) => [row (av g10 256) 49 fBool x.1]) ?_ N (l11, 0) hm
        · rintro N ⟨l38, x39⟩ hI
          have hm := hI; clear hI
          cases N with
          | zero => cases hm
          | succ N =>
          unfold i_LettersOf_l2 at hm
          refine WJ.seq ?_
          refine WJ.quiet ?_
          refine QJ.step (YldS.yld (y_bin rfl rfl rfl)) rfl ?_
          refine QJ.done ?_
          refine PJ.next ?_
          refine WJ.seq ?_
          refine WJ.cond (t := decide (x39 < (List.length accents4 : Int))) rfl (fun hb40 => ?_) (fun hb40 => ?_)
          · replace hm := ifT hm hb40
            refine WJ.skip ?_
            refine PJ.next ?_
            refine WJ.seq ?_
            refine WJ.block ?_
            refine WJ.seq ?_
            refine WJ.reg ?_
            obtain ⟨e41, h42, hm⟩ := bindS hm
            obtain ⟨ad43, _, rfl, ha44, hy45⟩ := hr6.elem h42
            refine SJ.q (YldS.yld (hy45 Tryd.runUnderlying25 Tryd.sizeOf56 rfl rfl)) rfl ?_
            refine SJ.q (YldS.yld (y_loadN Tryd.isAgg56 Tryd.sizeOf56 rfl ha44 St.frozenC rfl)) rfl ?_
            refine SJ.alloc (cs := [str [], str [], str []]) Tryd.zeroValue56 rfl rfl fun g46 => ?_
            refine SJ.storeL (k := 0) (off := 0) (us := [str e41.mark, str e41.letter, str e41.made]) rfl rfl rfl rfl Tryd.sizeOf56 rfl rfl ?_
            refine SJ.nil ?_
            refine PJ.next ?_
            refine WJ.reg ?_
            refine SJ.q (YldS.yld (y_fldB (o := 0) fld56_2 rfl)) rfl ?_
            refine SJ.q (YldS.yld (y_loadB (k := 0) (off := 2) (v := str e41.made) rfl Tryd.isAgg9 rfl rfl)) rfl ?_
            obtain ⟨c47, h48, hm⟩ := bindS hm
            refine SJ.q (YldS.yld (y_idxStr Tryd.runUnderlying9 rfl rfl h48)) rfl ?_
            obtain ⟨e49, h50, hm⟩ := bindS hm
            refine SJ.q (YldS.yld (y_ixArr (k := 1) (R := fBool) rfl Tryd.runUnderlying49 Tryd.sizeOf4 rfl rfl h50)) rfl ?_
            refine SJ.storeRL (k := 1) (i := (Int.toNat (UInt8.toNat c47 : Int))) (off := 0) (us := [.bool true]) (b := true) rfl rfl (idx_get h50) rfl rfl Tryd.sizeOf4 rfl rfl rfl ?_
            refine SJ.nil ?_
            refine PJ.block_normal (PJ.next ?_)
            refine WJ.quiet ?_
            refine QJ.step (YldS.yld (y_bin rfl rfl rfl)) rfl ?_
            refine QJ.step (YldS.yld (y_move rfl)) rfl ?_
            refine QJ.done ?_
            exact PJ.round ((List.set l38 (Int.toNat (UInt8.toNat c47 : Int)) true), w64 (x39 + 1)) [1] hm ⟨rfl, rfl, rfl, rfl, trivial⟩ ⟨by decide, rfl⟩
          · replace hm := ifF hm hb40
            refine WJ.exit ?_
            refine PJ.then_exit (PJ.then_exit (PJ.block_exit ?_))
            exact PJ.joined l38 [0] hm ⟨rfl, trivial⟩ ⟨by decide, rfl⟩
      · rintro l35 hm
        subst hk37
        refine WJ.seq ?_
        refine WJ.quiet ?_
        obtain ⟨r51, h52, hm⟩ := bindS hm
        refine QJ.step (y_call Tryd.call29 rfl (RetG.quiet fun w hw => ok_i_ascending h52 w _ (hw.row_rd (k := 0) rfl))) rfl ?_
        refine QJ.step (YldS.yld (y_assign rfl)) rfl ?_
        refine QJ.step (YldS.yld (y_assign rfl)) rfl ?_
        refine QJ.done ?_
        refine PJ.next ?_
        refine WJ.ret ?_
        obtain rfl := Option.some.inj hm
        refine PJ.sel (L' := []) [] ⟨List.nodup_nil, rfl⟩ ?_
        exact PJ.retn (vs := [str r51, .int .i64 0]) Tryd.results10 ⟨rfl, rfl, trivial⟩ ⟨rfl, rfl⟩

set_option maxRecDepth 100000 in
set_option maxHeartbeats 1000000 in
theorem ok_s_DrawPressText {code1 : List UInt8} {r : Press} (hm : s_DrawPressText code1 = some r) (w : World) (v2 : Value) (hr3 : RdS w (cx w).Fz v2 fByte.rp code1) :
    Calls Tryd.prog 12 #[v2] w (Ret (cx w) (.agg (Press.enc r).toArray)) := by
  unfold s_DrawPressText at hm
  refine Calls.enter [v2] Tryd.func12 rfl Tryd.ntmps12 rfl ?_
  refine WJ.seq ?_
  refine WJ.reg ?_
  refine SJ.alloc (cs := [.int .i64 0, .bool false]) Tryd.zeroValue35 rfl rfl fun g4 => ?_
  refine SJ.nil ?_
  refine PJ.next ?_
  refine WJ.seq ?_
  refine WJ.reg ?_
  refine SJ.q (YldS.yld (y_move rfl)) rfl ?_
  obtain ⟨r5, h6, hm⟩ := bindS hm
  refine SJ.call Tryd.call32 rfl (fun w hw => ok_s_l00From h6 w _ (hr3.st hw)) rfl ?_
  rintro _ _ ⟨g7, rfl, rfl⟩
  refine SJ.q (YldS.yld (y_assign rfl)) rfl ?_
  refine SJ.nil ?_
  refine PJ.next ?_
  refine WJ.seq ?_
  refine WJ.reg ?_
  refine SJ.q (YldS.yld (y_move rfl)) rfl ?_
  obtain ⟨r8, h9, hm⟩ := bindS hm
  refine SJ.call1 (k := 0) rfl Tryd.call33 rfl (fun w S hw hA hO => ok_s_l00Src_pick h9 w S _ (hr3.st1 hw hO) hA) rfl ?_
  rintro _ _ ⟨rfl, rfl⟩
  refine SJ.q (YldS.yld (y_bin rfl rfl rfl)) rfl ?_
  refine SJ.q (YldS.yld (y_build (parts := [(0, .tmp 9)]) (places := [(0, 1), (1, 1)]) (r := [.int .i64 ((Press.mk (w64 (r8.1 - 1)) false).key), .bool ((Press.mk (w64 (r8.1 - 1)) false).shift)]) pl35 Tryd.zeroValue35 rfl rfl rfl rfl)) rfl ?_
  refine SJ.alloc (cs := [.int .i64 0, .bool false]) Tryd.zeroValue35 rfl rfl fun g10 => ?_
  refine SJ.storeL (k := 0) (off := 0) (us := [.int .i64 ((Press.mk (w64 (r8.1 - 1)) false).key), .bool ((Press.mk (w64 (r8.1 - 1)) false).shift)]) rfl rfl rfl rfl Tryd.sizeOf35 rfl rfl ?_
  refine SJ.nil ?_
  refine PJ.next ?_
  refine WJ.seq ?_
  refine WJ.reg ?_
  refine SJ.q (YldS.yld (y_move rfl)) rfl ?_
  obtain ⟨r11, h12, hm⟩ := bindS hm
  refine SJ.call1 (k := 1) rfl Tryd.call34 rfl (fun w S hw hA hO => ok_s_l00Src_one h12 w S _ (hr3.st1 hw hO) hA) rfl ?_
  rintro _ _ ⟨rfl, rfl⟩
  refine SJ.q (YldS.yld (y_fldB (o := 0) fld35_1 rfl)) rfl ?_
  refine SJ.storeL (k := 1) (off := 1) (us := [.bool r11.1]) rfl rfl rfl rfl Tryd.sizeOf4 rfl rfl ?_
  refine SJ.nil ?_
  refine PJ.next ?_
  refine WJ.seq ?_
  refine WJ.reg ?_
  refine SJ.q (YldS.yld (y_loadBN (k := 1) (off := 0) (us := [.int .i64 ((Press.mk (w64 (r8.1 - 1)) false).key), .bool r11.1]) rfl Tryd.isAgg35 Tryd.sizeOf35 rfl rfl)) rfl ?_
  refine SJ.storeL (k := 2) (off := 0) (us := [.int .i64 ((Press.mk (w64 (r8.1 - 1)) false).key), .bool r11.1]) rfl rfl rfl rfl Tryd.sizeOf35 rfl rfl ?_
  refine SJ.nil ?_
  refine PJ.next ?_
  refine WJ.ret ?_
  obtain rfl := Option.some.inj hm
  exact PJ.retn_sel (vs := [.agg #[.int .i64 ((Press.mk (w64 (r8.1 - 1)) false).key), .bool r11.1]]) Tryd.results12 ⟨⟨2, g4, 35, [.int .i64 ((Press.mk (w64 (r8.1 - 1)) false).key), .bool r11.1], rfl, rfl, .inl ⟨Tryd.isAgg35, Tryd.sizeOf35, rfl⟩⟩, trivial⟩ [] ⟨List.nodup_nil, rfl⟩ ⟨rfl, rfl⟩

set_option maxRecDepth 100000 in
set_option maxHeartbeats 1000000 in
theorem ok_i_between {n1 : Int} {low2 : Int} {high3 : Int} {r : Bool} (hm : i_between n1 low2 high3 = some r) (w : World)  :
    Calls Tryd.prog 35 #[.int .i64 n1, .int .i64 low2, .int .i64 high3] w (Ret (cx w) (.bool r)) := by
  unfold i_between at hm
  refine Calls.enter [.int .i64 n1, .int .i64 low2, .int .i64 high3] Tryd.func35 rfl Tryd.ntmps35 rfl ?_
  refine WJ.seq ?_
  refine WJ.quiet ?_
  refine QJ.step (YldS.yld (y_assign rfl)) rfl ?_
  refine QJ.done ?_
  refine PJ.next ?_
  refine WJ.seq ?_
  refine WJ.quiet ?_
  refine QJ.step (YldS.yld (y_move rfl)) rfl ?_
  refine QJ.step (YldS.yld (y_move rfl)) rfl ?_
  refine QJ.step (YldS.yld (y_bin rfl rfl rfl)) rfl ?_
  refine QJ.step (YldS.yld (y_move rfl)) rfl ?_
  obtain ⟨t4, h5, hm⟩ := bindS hm
  refine QJ.cut 4 [(14, .bool t4)] ?_ ?_
  · rcases Bool.eq_false_or_eq_true (decide (n1 ≥ low2)) with hb6 | hb6
    · replace h5 := andT h5 hb6
      refine QJ.on rfl rfl (cB hb6) (YldS.yld (y_move rfl)) rfl ?_
      refine QJ.on rfl rfl (cB hb6) (YldS.yld (y_move rfl)) rfl ?_
      refine QJ.on rfl rfl (cB hb6) (YldS.yld (y_bin rfl rfl rfl)) rfl ?_
      refine QJ.step (YldS.yld (y_pick_t (cB hb6) rfl)) rfl ?_
      obtain rfl := Option.some.inj h5
      exact QJ.cut_end ⟨rfl, trivial⟩
    · obtain rfl := andF h5 hb6
      refine QJ.off rfl rfl (cB hb6) rfl rfl ?_
      refine QJ.off rfl rfl (cB hb6) rfl rfl ?_
      refine QJ.off rfl rfl (cB hb6) rfl rfl ?_
      refine QJ.step (YldS.yld (y_pick_f (cB hb6) rfl)) rfl ?_
      exact QJ.cut_end ⟨rfl, trivial⟩
  refine QJ.step (YldS.yld (y_assign rfl)) rfl ?_
  refine QJ.done ?_
  refine PJ.next ?_
  refine WJ.ret ?_
  obtain rfl := Option.some.inj hm
  refine PJ.sel (L' := []) [] ⟨List.nodup_nil, rfl⟩ ?_
  exact PJ.retn (vs := [.bool t4]) Tryd.results35 ⟨rfl, trivial⟩ ⟨rfl, rfl⟩

theorem ok_fmtI {a b : Int} {r : Str} (hm : fmtI a b = some r) (w : World) (hT : Tab Tryd.prog tabNm w (cx w).Fz) :
    Calls Tryd.prog 53 #[.int .i64 a, .int .i64 b] w (Ret (cx w) (str r)) :=
  fmtI_ok (fun n h0 h1 w h => Any.strconv_FormatInt_10 Tryd.laysM173 n h0 h1 w h) hm w hT

set_option maxRecDepth 100000 in
set_option maxHeartbeats 1000000 in
theorem ok_i_Decimal {n1 : Int} {r : Str} (hm : i_Decimal n1 = some r) (w : World) (hT : Tab Tryd.prog tabNm w (cx w).Fz) :
    Calls Tryd.prog 36 #[.int .i64 n1] w (Ret (cx w) (str r)) := by
  unfold i_Decimal at hm
  refine Calls.enter [.int .i64 n1] Tryd.func36 rfl Tryd.ntmps36 rfl ?_
  refine WJ.seq ?_
  refine WJ.quiet ?_
  refine QJ.step (YldS.yld (y_assign rfl)) rfl ?_
  refine QJ.done ?_
  refine PJ.next ?_
  refine WJ.seq ?_
  refine WJ.quiet ?_
  refine QJ.step (YldS.yld (y_move rfl)) rfl ?_
  obtain ⟨r2, h3, hm⟩ := bindS hm
  refine QJ.step (y_call Tryd.call53 rfl (RetG.quiet fun w hw => ok_fmtI h3 w (hT.st hw))) rfl ?_
  refine QJ.step (YldS.yld (y_assign rfl)) rfl ?_
  refine QJ.done ?_
  refine PJ.next ?_
  refine WJ.ret ?_
  obtain rfl := Option.some.inj hm
  refine PJ.sel (L' := []) [] ⟨List.nodup_nil, rfl⟩ ?_
  exact PJ.retn (vs := [str r2]) Tryd.results36 ⟨rfl, trivial⟩ ⟨rfl, rfl⟩

set_option maxRecDepth 100000 in
set_option maxHeartbeats 1000000 in
theorem ok_i_PressText {p1 : Press} {r : Str} (hm : i_PressText p1 = some r) (w : World) (hT : Tab Tryd.prog tabNm w (cx w).Fz) :
    Calls Tryd.prog 13 #[.agg (Press.enc p1).toArray] w (Ret (cx w) (str r)) := by
  unfold i_PressText at hm
  refine Calls.enter [.agg (Press.enc p1).toArray] Tryd.func13 rfl Tryd.ntmps13 rfl ?_
  refine WJ.seq ?_
  refine WJ.reg ?_
  refine SJ.box (cs := [.int .i64 p1.key, .bool p1.shift]) rfl rfl rfl fun g2 => ?_
  refine SJ.q (YldS.yld (y_assign rfl)) rfl ?_
  refine SJ.nil ?_
  refine PJ.next ?_
  refine WJ.seq ?_
  refine WJ.seq ?_
  refine WJ.quiet ?_
  refine QJ.step (YldS.yld (y_fldB (o := 0) fld35_0 rfl)) rfl ?_
  refine QJ.step (YldS.yld (y_loadB (k := 0) (off := 0) (v := .int .i64 p1.key) rfl Tryd.isAgg2 rfl rfl)) rfl ?_
  obtain ⟨r3, h4, hm⟩ := bindS hm
  refine QJ.step (y_call Tryd.call35 rfl (RetG.quiet fun w hw => ok_i_between h4 w )) rfl ?_
  refine QJ.step (YldS.yld (y_not rfl)) rfl ?_
  refine QJ.done ?_
  refine PJ.next ?_
  refine WJ.cond (t := !r3) rfl (fun hb5 => ?_) (fun hb5 => ?_)
  · replace hm := ifT hm hb5
    refine WJ.seq ?_
    refine WJ.quiet ?_
    refine QJ.step (YldS.yld (y_assign rfl)) rfl ?_
    refine QJ.done ?_
    refine PJ.next ?_
    refine WJ.ret ?_
    refine PJ.then_ret ?_
    obtain rfl := Option.some.inj hm
    refine PJ.sel (L' := []) [] ⟨List.nodup_nil, rfl⟩ ?_
    exact PJ.retn (vs := [str []]) Tryd.results13 ⟨rfl, trivial⟩ ⟨rfl, rfl⟩
  · replace hm := ifF hm hb5
    refine WJ.skip ?_
    refine PJ.next ?_
    refine WJ.seq ?_
    refine WJ.seq ?_
    refine WJ.quiet ?_
    refine QJ.step (YldS.yld (y_fldB (o := 0) fld35_1 rfl)) rfl ?_
    refine QJ.step (YldS.yld (y_loadB (k := 0) (off := 1) (v := .bool p1.shift) rfl Tryd.isAgg4 rfl rfl)) rfl ?_
    refine QJ.done ?_
    refine PJ.next ?_
    refine WJ.cond (t := p1.shift) rfl (fun hb6 => ?_) (fun hb6 => ?_)
    · replace hm := ifT hm hb6
      refine WJ.seq ?_
      refine WJ.quiet ?_
      refine QJ.step (YldS.yld (y_fldB (o := 0) fld35_0 rfl)) rfl ?_
      refine QJ.step (YldS.yld (y_loadB (k := 0) (off := 0) (v := .int .i64 p1.key) rfl Tryd.isAgg2 rfl rfl)) rfl ?_
      obtain ⟨r7, h8, hm⟩ := bindS hm
      refine QJ.step (y_call Tryd.call36 rfl (RetG.quiet fun w hw => ok_i_Decimal h8 w (hT.st hw))) rfl ?_
      obtain ⟨s9, h10, hm⟩ := bindS hm
      refine QJ.step (YldS.yld (y_cat h10 rfl rfl)) rfl ?_
      refine QJ.step (YldS.yld (y_assign rfl)) rfl ?_
      refine QJ.done ?_
      refine PJ.next ?_
      refine WJ.ret ?_
      refine PJ.then_ret ?_
      obtain rfl := Option.some.inj hm
      refine PJ.sel (L' := []) [] ⟨List.nodup_nil, rfl⟩ ?_
      exact PJ.retn (vs := [str s9]) Tryd.results13 ⟨rfl, trivial⟩ ⟨rfl, rfl⟩
    · replace hm := ifF hm hb6
      refine WJ.skip ?_
      refine PJ.next ?_
      refine WJ.seq ?_
      refine WJ.quiet ?_
      refine QJ.step (YldS.yld (y_fldB (o := 0) fld35_0 rfl)) rfl ?_
      refine QJ.step (YldS.yld (y_loadB (k := 0) (off := 0) (v := .int .i64 p1.key) rfl Tryd.isAgg2 rfl rfl)) rfl ?_
      obtain ⟨r11, h12, hm⟩ := bindS hm
      refine QJ.step (y_call Tryd.call36 rfl (RetG.quiet fun w hw => ok_i_Decimal h12 w (hT.st hw))) rfl ?_
      refine QJ.step (YldS.yld (y_assign rfl)) rfl ?_
      refine QJ.done ?_
      refine PJ.next ?_
      refine WJ.ret ?_
      obtain rfl := Option.some.inj hm
      refine PJ.sel (L' := []) [] ⟨List.nodup_nil, rfl⟩ ?_
      exact PJ.retn (vs := [str r11]) Tryd.results13 ⟨rfl, trivial⟩ ⟨rfl, rfl⟩

set_option maxRecDepth 100000 in
set_option maxHeartbeats 1000000 in
theorem ok_i_isDigit {b1 : UInt8} {r : Bool} (hm : i_isDigit b1 = some r) (w : World)  :
    Calls Tryd.prog 54 #[.int .u8 (UInt8.toNat b1 : Int)] w (Ret (cx w) (.bool r)) := by
  unfold i_isDigit at hm
  refine Calls.enter [.int .u8 (UInt8.toNat b1 : Int)] Tryd.func54 rfl Tryd.ntmps54 rfl ?_
  refine WJ.seq ?_
  refine WJ.quiet ?_
  refine QJ.step (YldS.yld (y_assign rfl)) rfl ?_
  refine QJ.done ?_
  refine PJ.next ?_
  refine WJ.seq ?_
  refine WJ.quiet ?_
  refine QJ.step (YldS.yld (y_move rfl)) rfl ?_
  refine QJ.step (YldS.yld (y_bin8 b1 (48 : UInt8) rfl rfl rfl)) rfl ?_
  refine QJ.step (YldS.yld (y_move rfl)) rfl ?_
  obtain ⟨t2, h3, hm⟩ := bindS hm
  refine QJ.cut 3 [(8, .bool t2)] ?_ ?_
  · rcases Bool.eq_false_or_eq_true (decide (b1 ≥ (48 : UInt8))) with hb4 | hb4
    · replace h3 := andT h3 hb4
      refine QJ.on rfl rfl (cB hb4) (YldS.yld (y_move rfl)) rfl ?_
      refine QJ.on rfl rfl (cB hb4) (YldS.yld (y_bin8 b1 (57 : UInt8) rfl rfl rfl)) rfl ?_
      refine QJ.step (YldS.yld (y_pick_t (cB hb4) rfl)) rfl ?_
      obtain rfl := Option.some.inj h3
      exact QJ.cut_end ⟨rfl, trivial⟩
    · obtain rfl := andF h3 hb4
      refine QJ.off rfl rfl (cB hb4) rfl rfl ?_
      refine QJ.off rfl rfl (cB hb4) rfl rfl ?_
      refine QJ.step (YldS.yld (y_pick_f (cB hb4) rfl)) rfl ?_
      exact QJ.cut_end ⟨rfl, trivial⟩
  refine QJ.step (YldS.yld (y_assign rfl)) rfl ?_
  refine QJ.done ?_
  refine PJ.next ?_
  refine WJ.ret ?_
  obtain rfl := Option.some.inj hm
  refine PJ.sel (L' := []) [] ⟨List.nodup_nil, rfl⟩ ?_
  exact PJ.retn (vs := [.bool t2]) Tryd.results54 ⟨rfl, trivial⟩ ⟨rfl, rfl⟩

set_option maxRecDepth 100000 in
set_option maxHeartbeats 1000000 in
theorem ok_i_ReadDecimal {N : Nat} {s1 : Str} {r : Int × Bool} (hm : i_ReadDecimal N s1 = some r) (w : World) (hT : Tab Tryd.prog tabNm w (cx w).Fz) :
    Calls Tryd.prog 37 #[str s1] w (Ret (cx w) (tup [.int .i64 r.1, .bool r.2])) := by
  unfold i_ReadDecimal at hm
  refine Calls.enter [str s1] Tryd.func37 rfl Tryd.ntmps37 rfl ?_
  refine WJ.seq ?_
  refine WJ.quiet ?_
  refine QJ.step (YldS.yld (y_assign rfl)) rfl ?_
  refine QJ.step (YldS.yld (y_assign rfl)) rfl ?_
  refine QJ.done ?_
  refine PJ.next ?_
  refine WJ.seq ?_
  refine WJ.quiet ?_
  refine QJ.step (YldS.yld (y_move rfl)) rfl ?_
  refine QJ.step (YldS.yld (y_assign rfl)) rfl ?_
  refine QJ.done ?_
  refine PJ.next ?_
  obtain ⟨kj3, hk4, hm⟩ := withK_open hm
  refine WJ.join (X := Str) (fun (x : Str) => kj3 x = some r) (fun (x : Str) => [(0, str s1), (4, str x)]) (fun (x : Str) => []) ?_ ?_
  · clear hk4
    refine WJ.seq ?_
    refine WJ.quiet ?_
    refine QJ.step (YldS.yld (y_move rfl)) rfl ?_
    refine QJ.step (YldS.yld (y_lenStr Tryd.runUnderlying9 rfl)) rfl ?_
    refine QJ.step (YldS.yld (y_bin rfl rfl rfl)) rfl ?_
    refine QJ.step (YldS.yld (y_move rfl)) rfl ?_
    obtain ⟨t5, h6, hm⟩ := bindS hm
    refine QJ.cut 4 [(0, str s1), (4, str s1), (15, .bool t5)] ?_ ?_
    · rcases Bool.eq_false_or_eq_true (decide ((List.length s1 : Int) > 0)) with hb7 | hb7
      · replace h6 := andT h6 hb7
        refine QJ.on rfl rfl (cB hb7) (YldS.yld (y_move rfl)) rfl ?_
        obtain ⟨c8, h9, h6⟩ := bindS h6
        refine QJ.on rfl rfl (cB hb7) (YldS.yld (y_idxStr Tryd.runUnderlying9 rfl rfl h9)) rfl ?_
        refine QJ.on rfl rfl (cB hb7) (YldS.yld (y_bin8 c8 (45 : UInt8) rfl rfl rfl)) rfl ?_
        refine QJ.step (YldS.yld (y_pick_t (cB hb7) rfl)) rfl ?_
        obtain rfl := Option.some.inj h6
        exact QJ.cut_end ⟨rfl, rfl, rfl, trivial⟩
      · obtain rfl := andF h6 hb7
        refine QJ.off rfl rfl (cB hb7) rfl rfl ?_
        refine QJ.off rfl rfl (cB hb7) rfl rfl ?_
        refine QJ.off rfl rfl (cB hb7) rfl rfl ?_
        refine QJ.step (YldS.yld (y_pick_f (cB hb7) rfl)) rfl ?_
        exact QJ.cut_end ⟨rfl, rfl, rfl, trivial⟩
    refine QJ.done ?_
    refine PJ.next ?_
    refine WJ.cond (t := t5) rfl (fun hb10 => ?_) (fun hb10 => ?_)
    · replace hm := ifT hm hb10
      refine WJ.quiet ?_
      refine QJ.step (YldS.yld (y_move rfl)) rfl ?_
      obtain ⟨s11, h12, hm⟩ := bindS hm
      refine QJ.step (YldS.yld (y_subStr (i := some 1) (j := none) h12 Tryd.runUnderlying9 rfl ⟨_, rfl⟩ trivial)) rfl ?_
      refine QJ.step (YldS.yld (y_assign rfl)) rfl ?_
      refine QJ.done ?_
      exact PJ.joined s11 [] hm ⟨rfl, rfl, trivial⟩ ⟨List.nodup_nil, rfl⟩
    · replace hm := ifF hm hb10
      refine WJ.skip ?_
      exact PJ.joined s1 [] hm ⟨rfl, rfl, trivial⟩ ⟨List.nodup_nil, rfl⟩
  · rintro digits2 hm
    subst hk4
    refine WJ.seq ?_
    refine WJ.seq ?_
    refine WJ.quiet ?_
    refine QJ.step (YldS.yld (y_move rfl)) rfl ?_
    refine QJ.step (YldS.yld (y_lenStr Tryd.runUnderlying9 rfl)) rfl ?_
    refine QJ.step (YldS.yld (y_bin rfl rfl rfl)) rfl ?_
    refine QJ.step (YldS.yld (y_move rfl)) rfl ?_
    obtain ⟨t13, h14, hm⟩ := bindS hm
    refine QJ.cut 4 [(0, str s1), (4, str digits2), (25, .bool t13)] ?_ ?_
    · rcases Bool.eq_false_or_eq_true ((List.length digits2 : Int) == 0) with hb15 | hb15
      · obtain rfl := orT h14 hb15
        refine QJ.off rfl rfl (cB hb15) rfl rfl ?_
        refine QJ.off rfl rfl (cB hb15) rfl rfl ?_
        refine QJ.off rfl rfl (cB hb15) rfl rfl ?_
        refine QJ.step (YldS.yld (y_pick_t (cB hb15) rfl)) rfl ?_
        exact QJ.cut_end ⟨rfl, rfl, rfl, trivial⟩
      · replace h14 := orF h14 hb15
        refine QJ.on rfl rfl (cB hb15) (YldS.yld (y_move rfl)) rfl ?_
        refine QJ.on rfl rfl (cB hb15) (YldS.yld (y_lenStr Tryd.runUnderlying9 rfl)) rfl ?_
        refine QJ.on rfl rfl (cB hb15) (YldS.yld (y_bin rfl rfl rfl)) rfl ?_
        refine QJ.step (YldS.yld (y_pick_f (cB hb15) rfl)) rfl ?_
        obtain rfl := Option.some.inj h14
        exact QJ.cut_end ⟨rfl, rfl, rfl, trivial⟩
    refine QJ.done ?_
    refine PJ.next ?_
    refine WJ.cond (t := t13) rfl (fun hb16 => ?_) (fun hb16 => ?_)
    · replace hm := ifT hm hb16
      refine WJ.seq ?_
      refine WJ.quiet ?_
      refine QJ.step (YldS.yld (y_assign rfl)) rfl ?_
      refine QJ.step (YldS.yld (y_assign rfl)) rfl ?_
      refine QJ.done ?_
      refine PJ.next ?_
      refine WJ.ret ?_
      refine PJ.then_ret ?_
      obtain rfl := Option.some.inj hm
      refine PJ.sel (L' := []) [] ⟨List.nodup_nil, rfl⟩ ?_
      exact PJ.retn (vs := [.int .i64 0, .bool false]) Tryd.results37 ⟨rfl, rfl, trivial⟩ ⟨rfl, rfl⟩
    · replace hm := ifF hm hb16
      refine WJ.skip ?_
      refine PJ.next ?_
      refine WJ.seq ?_
      refine WJ.quiet ?_
      refine QJ.step (YldS.yld (y_assign rfl)) rfl ?_
      refine QJ.done ?_
      refine PJ.next ?_
      obtain ⟨kj18, hk19, hm⟩ := withK_open hm
      refine WJ.join (X := Int) (fun (x : Int) => kj18 x = some r) (fun (x : Int) => [(0, str s1), (4, str digits2), (5, .int .i64 x)]) (fun (x : Int) => []) ?_ ?_
      · clear hk19
        refine WJ.seq ?_
        refine WJ.quiet ?_
        refine QJ.step (YldS.yld (y_move rfl)) rfl ?_
        refine QJ.step (YldS.yld (y_lenStr Tryd.runUnderlying9 rfl)) rfl ?_
        refine QJ.step (YldS.yld (y_move rfl)) rfl ?_
        refine QJ.done ?_
        refine PJ.next ?_
        refine WJ.block ?_
        refine WJ.sel (L' := (fun (x : Int × Int) => []) (0, 0)) [] ⟨List.nodup_nil, rfl⟩ ?_
        refine WJ.sub (m' := (fun (x : Int × Int) => [(0, str s1), (4, str digits2), (5, .int .i64 x.1), (27, .int .i64 (List.length digits2 : Int)), (28, .int .i64 x.2)]) (0, 0)) ⟨rfl, rfl, rfl, rfl, rfl, trivial⟩ ?_
        refine WJ.loop (X := Int × Int) (fun N (x : Int × Int) => i_ReadDecimal_l1 kj18 digits2 N x.1 x.2 = some r) (fun (x : Int × Int) => [(0, str s1), (4, str digits2), (5, .int .i64 x.1), (27, .int .i64 (List.length digits2 : Int)), (28, .int .i64 x.2)]) (fun (x : Int × Int) => []) ?_ N (0, 0) hm
        · rintro N ⟨n20, x21⟩ hI
          have hm := hI; clear hI
          cases N with
          | zero => cases hm
          | succ N =>
          unfold i_ReadDecimal_l1 at hm
          refine WJ.seq ?_
          refine WJ.quiet ?_
          refine QJ.step (YldS.yld (y_bin rfl rfl rfl)) rfl ?_
          refine QJ.done ?_
          refine PJ.next ?_
          refine WJ.seq ?_
          refine WJ.cond (t := decide (x21 < (List.length digits2 : Int))) rfl (fun hb22 => ?_) (fun hb22 => ?_)
          · replace hm := ifT hm hb22
            refine WJ.skip ?_
            refine PJ.next ?_
            refine WJ.seq ?_
            refine WJ.block ?_
            refine WJ.seq ?_
            refine WJ.quiet ?_
            refine QJ.step (YldS.yld (y_move rfl)) rfl ?_
            refine QJ.step (YldS.yld (y_assign rfl)) rfl ?_
            refine QJ.done ?_
            refine PJ.next ?_
            refine WJ.seq ?_
            refine WJ.seq ?_
            refine WJ.quiet ?_
            refine QJ.step (YldS.yld (y_move rfl)) rfl ?_
            refine QJ.step (YldS.yld (y_move rfl)) rfl ?_
            obtain ⟨c23, h24, hm⟩ := bindS hm
            refine QJ.step (YldS.yld (y_idxStr Tryd.runUnderlying9 rfl rfl h24)) rfl ?_
            obtain ⟨r25, h26, hm⟩ := bindS hm
            refine QJ.step (y_call Tryd.call54 rfl (RetG.quiet fun w hw => ok_i_isDigit h26 w )) rfl ?_
            refine QJ.step (YldS.yld (y_not rfl)) rfl ?_
            refine QJ.done ?_
            refine PJ.next ?_
            refine WJ.cond (t := !r25) rfl (fun hb27 => ?_) (fun hb27 => ?_)
            · replace hm := ifT hm hb27
              refine WJ.seq ?_
              refine WJ.quiet ?_
              refine QJ.step (YldS.yld (y_assign rfl)) rfl ?_
              refine QJ.step (YldS.yld (y_assign rfl)) rfl ?_
              refine QJ.done ?_
              refine PJ.next ?_
              refine WJ.ret ?_
              refine PJ.then_ret (PJ.block_ret (PJ.then_ret (PJ.then_ret (PJ.block_ret (PJ.then_ret ?_)))))
              obtain rfl := Option.some.inj hm
              refine PJ.sel (L' := []) [] ⟨List.nodup_nil, rfl⟩ ?_
              exact PJ.retn (vs := [.int .i64 0, .bool false]) Tryd.results37 ⟨rfl, rfl, trivial⟩ ⟨rfl, rfl⟩
            · replace hm := ifF hm hb27
              refine WJ.skip ?_
              refine PJ.next ?_
              refine WJ.quiet ?_
              refine QJ.step (YldS.yld (y_move rfl)) rfl ?_
              refine QJ.step (YldS.yld (y_bin rfl rfl rfl)) rfl ?_
              refine QJ.step (YldS.yld (y_move rfl)) rfl ?_
              refine QJ.step (YldS.yld (y_move rfl)) rfl ?_
              obtain ⟨c28, h29, hm⟩ := bindS hm
              refine QJ.step (YldS.yld (y_idxStr Tryd.runUnderlying9 rfl rfl h29)) rfl ?_
              refine QJ.step (YldS.yld (y_bin8 c28 (48 : UInt8) rfl rfl rfl)) rfl ?_
              refine QJ.step (YldS.yld (y_conv8 Tryd.runUnderlying5 Tryd.runUnderlying2 rfl)) rfl ?_
              refine QJ.step (YldS.yld (y_bin rfl rfl rfl)) rfl ?_
              refine QJ.step (YldS.yld (y_assign rfl)) rfl ?_
              refine QJ.done ?_
              refine PJ.block_normal (PJ.next ?_)
              refine WJ.quiet ?_
              refine QJ.step (YldS.yld (y_bin rfl rfl rfl)) rfl ?_
              refine QJ.step (YldS.yld (y_move rfl)) rfl ?_
              refine QJ.done ?_
              exact PJ.round (w64 ((w64 (10 * n20)) + (UInt8.toNat (c28 - (48 : UInt8)) : Int)), w64 (x21 + 1)) [] hm ⟨rfl, rfl, rfl, rfl, rfl, trivial⟩ ⟨List.nodup_nil, rfl⟩
          · replace hm := ifF hm hb22
            refine WJ.exit ?_
            refine PJ.then_exit (PJ.then_exit (PJ.block_exit ?_))
            exact PJ.joined n20 [] hm ⟨rfl, rfl, rfl, trivial⟩ ⟨List.nodup_nil, rfl⟩
      · rintro n17 hm
        subst hk19
        obtain ⟨kj31, hk32, hm⟩ := withK_open hm
        refine WJ.join (X := Int) (fun (x : Int) => kj31 x = some r) (fun (x : Int) => [(0, str s1), (5, .int .i64 x)]) (fun (x : Int) => []) ?_ ?_
        · clear hk32
          refine WJ.seq ?_
          refine WJ.quiet ?_
          refine QJ.step (YldS.yld (y_move rfl)) rfl ?_
          refine QJ.step (YldS.yld (y_lenStr Tryd.runUnderlying9 rfl)) rfl ?_
          refine QJ.step (YldS.yld (y_move rfl)) rfl ?_
          refine QJ.step (YldS.yld (y_lenStr Tryd.runUnderlying9 rfl)) rfl ?_
          refine QJ.step (YldS.yld (y_bin rfl rfl rfl)) rfl ?_
          refine QJ.done ?_
          refine PJ.next ?_
          refine WJ.cond (t := decide ((List.length digits2 : Int) < (List.length s1 : Int))) rfl (fun hb33 => ?_) (fun hb33 => ?_)
          · replace hm := ifT hm hb33
            refine WJ.quiet ?_
            refine QJ.step (YldS.yld (y_move rfl)) rfl ?_
            refine QJ.step (YldS.yld (y_neg rfl)) rfl ?_
            refine QJ.step (YldS.yld (y_assign rfl)) rfl ?_
            refine QJ.done ?_
            exact PJ.joined (w64 (0 - n17)) [] hm ⟨rfl, rfl, trivial⟩ ⟨List.nodup_nil, rfl⟩
          · replace hm := ifF hm hb33
            refine WJ.skip ?_
            exact PJ.joined n17 [] hm ⟨rfl, rfl, trivial⟩ ⟨List.nodup_nil, rfl⟩
        · rintro n30 hm
          subst hk32
          refine WJ.seq ?_
          refine WJ.seq ?_
          refine WJ.quiet ?_
          refine QJ.step (YldS.yld (y_move rfl)) rfl ?_
          obtain ⟨r34, h35, hm⟩ := bindS hm
          refine QJ.step (y_call Tryd.call36 rfl (RetG.quiet fun w hw => ok_i_Decimal h35 w (hT.st hw))) rfl ?_
          refine QJ.step (YldS.yld (y_move rfl)) rfl ?_
          refine QJ.step (YldS.yld (y_binS rfl rfl rfl)) rfl ?_
          refine QJ.done ?_
          refine PJ.next ?_
          refine WJ.cond (t := (r34 != s1)) rfl (fun hb36 => ?_) (fun hb36 => ?_)
          · replace hm := ifT hm hb36
            refine WJ.seq ?_
            refine WJ.quiet ?_
            refine QJ.step (YldS.yld (y_assign rfl)) rfl ?_
            refine QJ.step (YldS.yld (y_assign rfl)) rfl ?_
            refine QJ.done ?_
            refine PJ.next ?_
            refine WJ.ret ?_
            refine PJ.then_ret ?_
            obtain rfl := Option.some.inj hm
            refine PJ.sel (L' := []) [] ⟨List.nodup_nil, rfl⟩ ?_
            exact PJ.retn (vs := [.int .i64 0, .bool false]) Tryd.results37 ⟨rfl, rfl, trivial⟩ ⟨rfl, rfl⟩
          · replace hm := ifF hm hb36
            refine WJ.skip ?_
            refine PJ.next ?_
            refine WJ.seq ?_
            refine WJ.quiet ?_
            refine QJ.step (YldS.yld (y_move rfl)) rfl ?_
            refine QJ.step (YldS.yld (y_assign rfl)) rfl ?_
            refine QJ.step (YldS.yld (y_assign rfl)) rfl ?_
            refine QJ.done ?_
            refine PJ.next ?_
            refine WJ.ret ?_
            obtain rfl := Option.some.inj hm
            refine PJ.sel (L' := []) [] ⟨List.nodup_nil, rfl⟩ ?_
            exact PJ.retn (vs := [.int .i64 n30, .bool true]) Tryd.results37 ⟨rfl, rfl, trivial⟩ ⟨rfl, rfl⟩

set_option maxRecDepth 100000 in
set_option maxHeartbeats 1000000 in
theorem ok_i_ReadPress {N : Nat} {s1 : Str} {r : Press × Bool} (hm : i_ReadPress N s1 = some r) (w : World) (hT : Tab Tryd.prog tabNm w (cx w).Fz) :
    Calls Tryd.prog 14 #[str s1] w (Ret (cx w) (tup [.agg (Press.enc r.1).toArray, .bool r.2])) := by
  unfold i_ReadPress at hm
  refine Calls.enter [str s1] Tryd.func14 rfl Tryd.ntmps14 rfl ?_
  refine WJ.seq ?_
  refine WJ.reg ?_
  refine SJ.alloc (cs := [.int .i64 0, .bool false]) Tryd.zeroValue35 rfl rfl fun g2 => ?_
  refine SJ.q (YldS.yld (y_assign rfl)) rfl ?_
  refine SJ.nil ?_
  refine PJ.next ?_
  refine WJ.seq ?_
  refine WJ.reg ?_
  refine SJ.q (YldS.yld (y_build (parts := []) (places := [(0, 1), (1, 1)]) (r := [.int .i64 ((Press.mk 0 false).key), .bool ((Press.mk 0 false).shift)]) pl35 Tryd.zeroValue35 rfl rfl rfl rfl)) rfl ?_
  refine SJ.alloc (cs := [.int .i64 0, .bool false]) Tryd.zeroValue35 rfl rfl fun g3 => ?_
  refine SJ.storeL (k := 0) (off := 0) (us := [.int .i64 ((Press.mk 0 false).key), .bool ((Press.mk 0 false).shift)]) rfl rfl rfl rfl Tryd.sizeOf35 rfl rfl ?_
  refine SJ.nil ?_
  refine PJ.next ?_
  obtain ⟨kj7, hk8, hm⟩ := withK_open hm
  refine WJ.join (X := Int × Bool × Str) (fun (x : Int × Bool × Str) => kj7 x.1 x.2.1 x.2.2 = some r) (fun (x : Int × Bool × Str) => [(0, str x.2.2), (2, pt g2 0), (4, pt g3 0)]) (fun (x : Int × Bool × Str) => [box g3 35 [.int .i64 x.1, .bool x.2.1], box g2 35 [.int .i64 0, .bool false]]) ?_ ?_
  · clear hk8
    refine WJ.seq ?_
    refine WJ.quiet ?_
    refine QJ.step (YldS.yld (y_move rfl)) rfl ?_
    refine QJ.step (YldS.yld (y_lenStr Tryd.runUnderlying9 rfl)) rfl ?_
    refine QJ.step (YldS.yld (y_bin rfl rfl rfl)) rfl ?_
    refine QJ.step (YldS.yld (y_move rfl)) rfl ?_
    obtain ⟨t9, h10, hm⟩ := bindS hm
    refine QJ.cut 4 [(0, str s1), (2, pt g2 0), (4, pt g3 0), (15, .bool t9)] ?_ ?_
    · rcases Bool.eq_false_or_eq_true (decide ((List.length s1 : Int) > 0)) with hb11 | hb11
      · replace h10 := andT h10 hb11
        refine QJ.on rfl rfl (cB hb11) (YldS.yld (y_move rfl)) rfl ?_
        obtain ⟨c12, h13, h10⟩ := bindS h10
        refine QJ.on rfl rfl (cB hb11) (YldS.yld (y_idxStr Tryd.runUnderlying9 rfl rfl h13)) rfl ?_
        refine QJ.on rfl rfl (cB hb11) (YldS.yld (y_bin8 c12 (94 : UInt8) rfl rfl rfl)) rfl ?_
        refine QJ.step (YldS.yld (y_pick_t (cB hb11) rfl)) rfl ?_
        obtain rfl := Option.some.inj h10
        exact QJ.cut_end ⟨rfl, rfl, rfl, rfl, trivial⟩
      · obtain rfl := andF h10 hb11
        refine QJ.off rfl rfl (cB hb11) rfl rfl ?_
        refine QJ.off rfl rfl (cB hb11) rfl rfl ?_
        refine QJ.off rfl rfl (cB hb11) rfl rfl ?_
        refine QJ.step (YldS.yld (y_pick_f (cB hb11) rfl)) rfl ?_
        exact QJ.cut_end ⟨rfl, rfl, rfl, rfl, trivial⟩
    refine QJ.done ?_
    refine PJ.next ?_
    refine WJ.cond (t := t9) rfl (fun hb14 => ?_) (fun hb14 => ?_)
    · replace hm := ifT hm hb14
      refine WJ.seq ?_
      refine WJ.reg ?_
      refine SJ.q (YldS.yld (y_fldB (o := 0) fld35_1 rfl)) rfl ?_
      refine SJ.storeL (k := 0) (off := 1) (us := [.bool true]) rfl rfl rfl rfl Tryd.sizeOf4 rfl rfl ?_
      refine SJ.nil ?_
      refine PJ.next ?_
      refine WJ.quiet ?_
      refine QJ.step (YldS.yld (y_move rfl)) rfl ?_
      obtain ⟨s15, h16, hm⟩ := bindS hm
      refine QJ.step (YldS.yld (y_subStr (i := some 1) (j := none) h16 Tryd.runUnderlying9 rfl ⟨_, rfl⟩ trivial)) rfl ?_
      refine QJ.step (YldS.yld (y_assign rfl)) rfl ?_
      refine QJ.done ?_
      exact PJ.joined ((Press.mk 0 false).key, true, s15) [0, 1] hm ⟨rfl, rfl, rfl, trivial⟩ ⟨by decide, rfl⟩
    · replace hm := ifF hm hb14
      refine WJ.skip ?_
      exact PJ.joined ((Press.mk 0 false).key, (Press.mk 0 false).shift, s1) [0, 1] hm ⟨rfl, rfl, rfl, trivial⟩ ⟨by decide, rfl⟩
  · rintro ⟨x4, x5, s6⟩ hm
    subst hk8
    refine WJ.seq ?_
    refine WJ.quiet ?_
    refine QJ.step (YldS.yld (y_move rfl)) rfl ?_
    obtain ⟨r17, h18, hm⟩ := bindS hm
    refine QJ.step (y_call Tryd.call37 rfl (RetG.quiet fun w hw => ok_i_ReadDecimal h18 w (hT.st hw))) rfl ?_
    refine QJ.step (YldS.yld (y_move rfl)) rfl ?_
    refine QJ.step (YldS.yld (y_extract rfl rfl)) rfl ?_
    refine QJ.step (YldS.yld (y_extract rfl rfl)) rfl ?_
    refine QJ.step (YldS.yld (y_assign rfl)) rfl ?_
    refine QJ.step (YldS.yld (y_assign rfl)) rfl ?_
    refine QJ.done ?_
    refine PJ.next ?_
    refine WJ.seq ?_
    refine WJ.seq ?_
    refine WJ.quiet ?_
    refine QJ.step (YldS.yld (y_move rfl)) rfl ?_
    refine QJ.step (YldS.yld (y_not rfl)) rfl ?_
    refine QJ.step (YldS.yld (y_move rfl)) rfl ?_
    obtain ⟨t19, h20, hm⟩ := bindS hm
    refine QJ.cut 4 [(2, pt g2 0), (4, pt g3 0), (5, .int .i64 r17.1), (30, .bool t19)] ?_ ?_
    · rcases Bool.eq_false_or_eq_true (!r17.2) with hb21 | hb21
      · obtain rfl := orT h20 hb21
        refine QJ.off rfl rfl (cB hb21) rfl rfl ?_
        refine QJ.off rfl rfl (cB hb21) rfl rfl ?_
        refine QJ.off rfl rfl (cB hb21) rfl rfl ?_
        refine QJ.step (YldS.yld (y_pick_t (cB hb21) rfl)) rfl ?_
        exact QJ.cut_end ⟨rfl, rfl, rfl, rfl, trivial⟩
      · replace h20 := orF h20 hb21
        refine QJ.on rfl rfl (cB hb21) (YldS.yld (y_move rfl)) rfl ?_
        obtain ⟨r22, h23, h20⟩ := bindS h20
        refine QJ.on rfl rfl (cB hb21) (y_call Tryd.call35 rfl (RetG.quiet fun w hw => ok_i_between h23 w )) rfl ?_
        refine QJ.on rfl rfl (cB hb21) (YldS.yld (y_not rfl)) rfl ?_
        refine QJ.step (YldS.yld (y_pick_f (cB hb21) rfl)) rfl ?_
        obtain rfl := Option.some.inj h20
        exact QJ.cut_end ⟨rfl, rfl, rfl, rfl, trivial⟩
    refine QJ.done ?_
    refine PJ.next ?_
    refine WJ.cond (t := t19) rfl (fun hb24 => ?_) (fun hb24 => ?_)
    · replace hm := ifT hm hb24
      refine WJ.seq ?_
      refine WJ.reg ?_
      refine SJ.q (YldS.yld (y_build (parts := []) (places := [(0, 1), (1, 1)]) (r := [.int .i64 ((Press.mk 0 false).key), .bool ((Press.mk 0 false).shift)]) pl35 Tryd.zeroValue35 rfl rfl rfl rfl)) rfl ?_
      refine SJ.storeL (k := 1) (off := 0) (us := [.int .i64 ((Press.mk 0 false).key), .bool ((Press.mk 0 false).shift)]) rfl rfl rfl rfl Tryd.sizeOf35 rfl rfl ?_
      refine SJ.q (YldS.yld (y_assign rfl)) rfl ?_
      refine SJ.nil ?_
      refine PJ.next ?_
      refine WJ.ret ?_
      refine PJ.then_ret ?_
      obtain rfl := Option.some.inj hm
      exact PJ.retn_sel (vs := [.agg (Press.enc (Press.mk 0 false)).toArray, .bool false]) Tryd.results14 ⟨⟨1, g2, 35, [.int .i64 ((Press.mk 0 false).key), .bool ((Press.mk 0 false).shift)], rfl, rfl, .inl ⟨Tryd.isAgg35, Tryd.sizeOf35, rfl⟩⟩, rfl, trivial⟩ [] ⟨List.nodup_nil, rfl⟩ ⟨rfl, rfl⟩
    · replace hm := ifF hm hb24
      refine WJ.skip ?_
      refine PJ.next ?_
      refine WJ.seq ?_
      refine WJ.reg ?_
      refine SJ.q (YldS.yld (y_move rfl)) rfl ?_
      refine SJ.q (YldS.yld (y_fldB (o := 0) fld35_0 rfl)) rfl ?_
      refine SJ.storeL (k := 0) (off := 0) (us := [.int .i64 r17.1]) rfl rfl rfl rfl Tryd.sizeOf2 rfl rfl ?_
      refine SJ.nil ?_
      refine PJ.next ?_
      refine WJ.seq ?_
      refine WJ.reg ?_
      refine SJ.q (YldS.yld (y_loadBN (k := 0) (off := 0) (us := [.int .i64 r17.1, .bool x5]) rfl Tryd.isAgg35 Tryd.sizeOf35 rfl rfl)) rfl ?_
      refine SJ.storeL (k := 1) (off := 0) (us := [.int .i64 r17.1, .bool x5]) rfl rfl rfl rfl Tryd.sizeOf35 rfl rfl ?_
      refine SJ.q (YldS.yld (y_assign rfl)) rfl ?_
      refine SJ.nil ?_
      refine PJ.next ?_
      refine WJ.ret ?_
      obtain rfl := Option.some.inj hm
      exact PJ.retn_sel (vs := [.agg #[.int .i64 r17.1, .bool x5], .bool true]) Tryd.results14 ⟨⟨1, g2, 35, [.int .i64 r17.1, .bool x5], rfl, rfl, .inl ⟨Tryd.isAgg35, Tryd.sizeOf35, rfl⟩⟩, rfl, trivial⟩ [] ⟨List.nodup_nil, rfl⟩ ⟨rfl, rfl⟩

set_option maxRecDepth 100000 in
set_option maxHeartbeats 1000000 in
theorem ok_s_l01Dec {N : Nat} {n1 : Int} {r : Str} (hm : s_l01Dec N n1 = some r) (w : World)  :
    Calls Tryd.prog 55 #[.int .i64 n1] w (Ret (cx w) (str r)) := by
  unfold s_l01Dec at hm
  refine Calls.enter [.int .i64 n1] Tryd.func55 rfl Tryd.ntmps55 rfl ?_
  refine WJ.seq ?_
  refine WJ.quiet ?_
  refine QJ.step (YldS.yld (y_assign rfl)) rfl ?_
  refine QJ.done ?_
  refine PJ.next ?_
  refine WJ.seq ?_
  refine WJ.reg ?_
  refine SJ.buildSlice (R := fByte) (os := []) [] Tryd.runUnderlying22 Tryd.sizeOf5 Tryd.zeroValue5 rfl rfl rfl rfl rfl rfl fun v2 => ?_
  refine SJ.q (YldS.yld (y_assign rfl)) rfl ?_
  refine SJ.nil ?_
  refine PJ.next ?_
  obtain ⟨kj5, hk6, hm⟩ := withK_open hm
  refine WJ.join (X := (List UInt8) × Value) (fun (x : (List UInt8) × Value) => kj5 x.1 = some r) (fun (x : (List UInt8) × Value) => [(0, .int .i64 n1), (3, x.2)]) (fun (x : (List UInt8) × Value) => [row x.2 5 fByte x.1]) ?_ ?_
  · clear hk6
    refine WJ.seq ?_
    refine WJ.quiet ?_
    refine QJ.step (YldS.yld (y_move rfl)) rfl ?_
    refine QJ.step (YldS.yld (y_assign rfl)) rfl ?_
    refine QJ.done ?_
    refine PJ.next ?_
    refine WJ.block ?_
    refine WJ.sel (L' := (fun (x : (List UInt8) × Value × Int) => [row x.2.1 5 fByte x.1]) ([], v2, n1)) [0] ⟨by decide, rfl⟩ ?_
    refine WJ.sub (m' := (fun (x : (List UInt8) × Value × Int) => [(0, .int .i64 n1), (3, x.2.1), (4, .int .i64 x.2.2)]) ([], v2, n1)) ⟨rfl, rfl, rfl, trivial⟩ ?_
    refine WJ.loop (X := (List UInt8) × Value × Int) (fun N (x : (List UInt8) × Value × Int) => s_l01Dec_l1 kj5 N x.1 x.2.2 = some r) (fun (x : (List UInt8) × Value × Int) => [(0, .int .i64 n1), (3, x.2.1), (4, .int .i64 x.2.2)]) (fun (x : (List UInt8) × Value × Int) => [row x.2.1 5 fByte x.1]) ?_ N ([], v2, n1) hm
    · rintro N ⟨l7, v8, k9⟩ hI
      have hm := hI; clear hI
      cases N with
      | zero => cases hm
      | succ N =>
      unfold s_l01Dec_l1 at hm
      refine WJ.seq ?_
      refine WJ.seq ?_
      refine WJ.quiet ?_
      refine QJ.step (YldS.yld (y_move rfl)) rfl ?_
      refine QJ.step (YldS.yld (y_bin rfl rfl rfl)) rfl ?_
      refine QJ.done ?_
      refine PJ.next ?_
      refine WJ.cond (t := (k9 != 0)) rfl (fun hb10 => ?_) (fun hb10 => ?_)
      · replace hm := ifT hm hb10
        refine WJ.skip ?_
        refine PJ.next ?_
        refine WJ.seq ?_
        refine WJ.block ?_
        refine WJ.seq ?_
        refine WJ.quiet ?_
        refine QJ.step (YldS.yld (y_move rfl)) rfl ?_
        refine QJ.step (YldS.yld (y_rem rfl rfl (by decide))) rfl ?_
        refine QJ.step (YldS.yld (y_assign rfl)) rfl ?_
        refine QJ.done ?_
        refine PJ.next ?_
        obtain ⟨kj12, hk13, hm⟩ := withK_open hm
        refine WJ.join (X := Int) (fun (x : Int) => kj12 x = some r) (fun (x : Int) => [(0, .int .i64 n1), (3, v8), (4, .int .i64 k9), (5, .int .i64 x)]) (fun (x : Int) => [row v8 5 fByte l7]) ?_ ?_
        · clear hk13
          refine WJ.seq ?_
          refine WJ.quiet ?_
          refine QJ.step (YldS.yld (y_move rfl)) rfl ?_
          refine QJ.step (YldS.yld (y_bin rfl rfl rfl)) rfl ?_
          refine QJ.done ?_
          refine PJ.next ?_
          refine WJ.cond (t := decide ((Int.tmod k9 10) < 0)) rfl (fun hb14 => ?_) (fun hb14 => ?_)
          · replace hm := ifT hm hb14
            refine WJ.quiet ?_
            refine QJ.step (YldS.yld (y_move rfl)) rfl ?_
            refine QJ.step (YldS.yld (y_neg rfl)) rfl ?_
            refine QJ.step (YldS.yld (y_assign rfl)) rfl ?_
            refine QJ.done ?_
            exact PJ.joined (w64 (0 - (Int.tmod k9 10))) [0] hm ⟨rfl, rfl, rfl, rfl, trivial⟩ ⟨by decide, rfl⟩
          · replace hm := ifF hm hb14
            refine WJ.skip ?_
            exact PJ.joined (Int.tmod k9 10) [0] hm ⟨rfl, rfl, rfl, rfl, trivial⟩ ⟨by decide, rfl⟩
        · rintro d11 hm
          subst hk13
          refine WJ.reg ?_
          refine SJ.q (YldS.yld (y_move rfl)) rfl ?_
          refine SJ.q (YldS.yld (y_bin rfl rfl rfl)) rfl ?_
          refine SJ.q (YldS.yld (y_convTo8 Tryd.runUnderlying2 Tryd.runUnderlying5 rfl)) rfl ?_
          refine SJ.buildSlice (R := fByte) (os := [.tmp 20]) [UInt8.ofInt (w64 (48 + d11))] Tryd.runUnderlying22 Tryd.sizeOf5 Tryd.zeroValue5 rfl rfl rfl rfl rfl rfl fun v15 => ?_
          refine SJ.q (YldS.yld (y_move rfl)) rfl ?_
          obtain ⟨l16, h17, hm⟩ := bindS hm
          refine SJ.append (k := 0) (R := fByte) h17 rfl Tryd.underlying22 el5 rfl rfl rfl (fun w hw => (hw.row_rd (k := 1) rfl)) rfl fun v18 => ?_
          refine SJ.q (YldS.yld (y_assign rfl)) rfl ?_
          refine SJ.nil ?_
          refine PJ.block_normal (PJ.next ?_)
          refine WJ.quiet ?_
          refine QJ.step (YldS.yld (y_move rfl)) rfl ?_
          refine QJ.step (YldS.yld (y_quo rfl rfl (by decide))) rfl ?_
          refine QJ.step (YldS.yld (y_assign rfl)) rfl ?_
          refine QJ.done ?_
          exact PJ.round (l16, v18, w64 (Int.tdiv k9 10)) [0] hm ⟨rfl, rfl, rfl, trivial⟩ ⟨by decide, rfl⟩
      · replace hm := ifF hm hb10
        refine WJ.exit ?_
        refine PJ.then_exit (PJ.then_exit (PJ.block_exit ?_))
        exact PJ.joined (l7, v8) [0] hm ⟨rfl, rfl, trivial⟩ ⟨by decide, rfl⟩
  · rintro ⟨l3, v4⟩ hm
    subst hk6
    refine WJ.seq ?_
    refine WJ.seq ?_
    refine WJ.quiet ?_
    refine QJ.step (YldS.yld (y_move rfl)) rfl ?_
    refine QJ.step (YldS.yld (y_lenRow (k := 0) rfl Tryd.runUnderlying22 rfl)) rfl ?_
    refine QJ.step (YldS.yld (y_bin rfl rfl rfl)) rfl ?_
    refine QJ.done ?_
    refine PJ.next ?_
    refine WJ.cond (t := ((List.length l3 : Int) == 0)) rfl (fun hb19 => ?_) (fun hb19 => ?_)
    · replace hm := ifT hm hb19
      refine WJ.seq ?_
      refine WJ.quiet ?_
      refine QJ.step (YldS.yld (y_assign rfl)) rfl ?_
      refine QJ.done ?_
      refine PJ.next ?_
      refine WJ.ret ?_
      refine PJ.then_ret ?_
      obtain rfl := Option.some.inj hm
      refine PJ.sel (L' := []) [] ⟨List.nodup_nil, rfl⟩ ?_
      exact PJ.retn (vs := [str [48]]) Tryd.results55 ⟨rfl, trivial⟩ ⟨rfl, rfl⟩
    · replace hm := ifF hm hb19
      refine WJ.skip ?_
      refine PJ.next ?_
      refine WJ.seq ?_
      refine WJ.seq ?_
      refine WJ.quiet ?_
      refine QJ.step (YldS.yld (y_move rfl)) rfl ?_
      refine QJ.step (YldS.yld (y_bin rfl rfl rfl)) rfl ?_
      refine QJ.done ?_
      refine PJ.next ?_
      refine WJ.cond (t := decide (n1 < 0)) rfl (fun hb20 => ?_) (fun hb20 => ?_)
      · replace hm := ifT hm hb20
        refine WJ.seq ?_
        refine WJ.quiet ?_
        refine QJ.step (YldS.yld (y_move rfl)) rfl ?_
        refine QJ.step (YldS.yld (y_b2s Tryd.underlying22 Tryd.underlying9 Tryd.underlying5 (fun w hw => ⟨_, (hw.row_rd (k := 0) rfl)⟩) rfl)) rfl ?_
        obtain ⟨s21, h22, hm⟩ := bindS hm
        refine QJ.step (YldS.yld (y_cat h22 rfl rfl)) rfl ?_
        refine QJ.step (YldS.yld (y_assign rfl)) rfl ?_
        refine QJ.done ?_
        refine PJ.next ?_
        refine WJ.ret ?_
        refine PJ.then_ret ?_
        obtain rfl := Option.some.inj hm
        refine PJ.sel (L' := []) [] ⟨List.nodup_nil, rfl⟩ ?_
        exact PJ.retn (vs := [str s21]) Tryd.results55 ⟨rfl, trivial⟩ ⟨rfl, rfl⟩
      · replace hm := ifF hm hb20
        refine WJ.skip ?_
        refine PJ.next ?_
        refine WJ.seq ?_
        refine WJ.quiet ?_
        refine QJ.step (YldS.yld (y_move rfl)) rfl ?_
        refine QJ.step (YldS.yld (y_b2s Tryd.underlying22 Tryd.underlying9 Tryd.underlying5 (fun w hw => ⟨_, (hw.row_rd (k := 0) rfl)⟩) rfl)) rfl ?_
        refine QJ.step (YldS.yld (y_assign rfl)) rfl ?_
        refine QJ.done ?_
        refine PJ.next ?_
        refine WJ.ret ?_
        obtain rfl := Option.some.inj hm
        refine PJ.sel (L' := []) [] ⟨List.nodup_nil, rfl⟩ ?_
        exact PJ.retn (vs := [str l3]) Tryd.results55 ⟨rfl, trivial⟩ ⟨rfl, rfl⟩

set_option maxRecDepth 100000 in
set_option maxHeartbeats 1000000 in
theorem ok_s_l02PressText {N : Nat} {p1 : Press} {r : Str} (hm : s_l02PressText N p1 = some r) (w : World)  :
    Calls Tryd.prog 38 #[.agg (Press.enc p1).toArray] w (Ret (cx w) (str r)) := by
  unfold s_l02PressText at hm
  refine Calls.enter [.agg (Press.enc p1).toArray] Tryd.func38 rfl Tryd.ntmps38 rfl ?_
  refine WJ.seq ?_
  refine WJ.reg ?_
  refine SJ.box (cs := [.int .i64 p1.key, .bool p1.shift]) rfl rfl rfl fun g2 => ?_
  refine SJ.q (YldS.yld (y_assign rfl)) rfl ?_
  refine SJ.nil ?_
  refine PJ.next ?_
  refine WJ.seq ?_
  refine WJ.seq ?_
  refine WJ.quiet ?_
  refine QJ.step (YldS.yld (y_fldB (o := 0) fld35_1 rfl)) rfl ?_
  refine QJ.step (YldS.yld (y_loadB (k := 0) (off := 1) (v := .bool p1.shift) rfl Tryd.isAgg4 rfl rfl)) rfl ?_
  refine QJ.done ?_
  refine PJ.next ?_
  refine WJ.cond (t := p1.shift) rfl (fun hb3 => ?_) (fun hb3 => ?_)
  · replace hm := ifT hm hb3
    refine WJ.seq ?_
    refine WJ.quiet ?_
    refine QJ.step (YldS.yld (y_fldB (o := 0) fld35_0 rfl)) rfl ?_
    refine QJ.step (YldS.yld (y_loadB (k := 0) (off := 0) (v := .int .i64 p1.key) rfl Tryd.isAgg2 rfl rfl)) rfl ?_
    obtain ⟨r4, h5, hm⟩ := bindS hm
    refine QJ.step (y_call Tryd.call55 rfl (RetG.quiet fun w hw => ok_s_l01Dec h5 w )) rfl ?_
    obtain ⟨s6, h7, hm⟩ := bindS hm
    refine QJ.step (YldS.yld (y_cat h7 rfl rfl)) rfl ?_
    refine QJ.step (YldS.yld (y_assign rfl)) rfl ?_
    refine QJ.done ?_
    refine PJ.next ?_
    refine WJ.ret ?_
    refine PJ.then_ret ?_
    obtain rfl := Option.some.inj hm
    refine PJ.sel (L' := []) [] ⟨List.nodup_nil, rfl⟩ ?_
    exact PJ.retn (vs := [str s6]) Tryd.results38 ⟨rfl, trivial⟩ ⟨rfl, rfl⟩
  · replace hm := ifF hm hb3
    refine WJ.skip ?_
    refine PJ.next ?_
    refine WJ.seq ?_
    refine WJ.quiet ?_
    refine QJ.step (YldS.yld (y_fldB (o := 0) fld35_0 rfl)) rfl ?_
    refine QJ.step (YldS.yld (y_loadB (k := 0) (off := 0) (v := .int .i64 p1.key) rfl Tryd.isAgg2 rfl rfl)) rfl ?_
    obtain ⟨r8, h9, hm⟩ := bindS hm
    refine QJ.step (y_call Tryd.call55 rfl (RetG.quiet fun w hw => ok_s_l01Dec h9 w )) rfl ?_
    refine QJ.step (YldS.yld (y_assign rfl)) rfl ?_
    refine QJ.done ?_
    refine PJ.next ?_
    refine WJ.ret ?_
    obtain rfl := Option.some.inj hm
    refine PJ.sel (L' := []) [] ⟨List.nodup_nil, rfl⟩ ?_
    exact PJ.retn (vs := [str r8]) Tryd.results38 ⟨rfl, trivial⟩ ⟨rfl, rfl⟩

set_option maxRecDepth 100000 in
set_option maxHeartbeats 1000000 in
theorem ok_s_l01Spoil {s1 : L00Src} {t5 : Str} {g2 : Nat} {r : Str × L00Src} (hm : s_l01Spoil s1 t5 = some r) (w : World) (S : Nat → Prop) (v3 : Value) (hr4 : RdS w (Cx.Fz ⟨w, S⟩) v3 fByte.rp s1.code) (hA : (box g2 82 [v3, .int .i64 s1.at_, .int .u64 s1.seed]).holds w S) :
    Calls Tryd.prog 39 #[pt g2 0, str t5] w (RetG ⟨w, S⟩ fun u L => (u = str r.1 ∧ L = [box g2 82 [v3, .int .i64 r.2.at_, .int .u64 r.2.seed]])) := by
  unfold s_l01Spoil at hm
  refine Calls.enter1 hA [pt g2 0, str t5] Tryd.func39 rfl Tryd.ntmps39 rfl ?_
  refine WJ.seq ?_
  refine WJ.quiet ?_
  refine QJ.step (YldS.yld (y_assign rfl)) rfl ?_
  refine QJ.done ?_
  refine PJ.next ?_
  obtain ⟨kj9, hk10, hm⟩ := withK_open hm
  refine WJ.join (X := Int × Int × Str) (fun (x : Int × Int × Str) => kj9 x.1 x.2.1 x.2.2 = some r) (fun (x : Int × Int × Str) => [(1, str x.2.2)]) (fun (x : Int × Int × Str) => [box g2 82 [v3, .int .i64 x.1, .int .u64 x.2.1]]) ?_ ?_
  · clear hk10
    refine WJ.seq ?_
    refine WJ.reg ?_
    refine SJ.q (YldS.yld (y_move rfl)) rfl ?_
    obtain ⟨r11, h12, hm⟩ := bindS hm
    refine SJ.call1 (k := 0) rfl Tryd.call33 rfl (fun w S hw hA hO => ok_s_l00Src_pick h12 w S _ (hr4.st1 hw hO) hA) rfl ?_
    rintro _ _ ⟨rfl, rfl⟩
    refine SJ.nil ?_
    refine PJ.next ?_
    refine WJ.block ?_
    refine WJ.seq ?_
    refine WJ.quiet ?_
    refine QJ.step (YldS.yld (y_bin rfl rfl rfl)) rfl ?_
    refine QJ.step (YldS.yld (y_assign rfl)) rfl ?_
    refine QJ.done ?_
    refine PJ.next ?_
    refine WJ.cond (t := (r11.1 == 0)) rfl (fun hb13 => ?_) (fun hb13 => ?_)
    · replace hm := ifT hm hb13
      refine WJ.seq ?_
      refine WJ.reg ?_
      refine SJ.q (YldS.yld (y_move rfl)) rfl ?_
      refine SJ.q (YldS.yld (y_move rfl)) rfl ?_
      refine SJ.q (YldS.yld (y_lenStr Tryd.runUnderlying9 rfl)) rfl ?_
      refine SJ.q (YldS.yld (y_bin rfl rfl rfl)) rfl ?_
      obtain ⟨r14, h15, hm⟩ := bindS hm
      refine SJ.call1 (k := 0) rfl Tryd.call33 rfl (fun w S hw hA hO => ok_s_l00Src_pick h15 w S _ (hr4.st1 hw hO) hA) rfl ?_
      rintro _ _ ⟨rfl, rfl⟩
      refine SJ.q (YldS.yld (y_assign rfl)) rfl ?_
      refine SJ.nil ?_
      refine PJ.next ?_
      obtain ⟨s16, h17, hm⟩ := bindS hm
      obtain ⟨r19, h20, hm⟩ := bindS hm
      obtain ⟨s21, h22, hm⟩ := bindS hm
      obtain ⟨s23, h24, hm⟩ := bindS hm
      obtain ⟨s25, h26, hm⟩ := bindS hm
      refine WJ.draws (N := 12) (listed0 := #[false, false, false, false, false, false, false, false, false, false, false, false]) [] follows rfl rfl ?_
      refine RJ.first 0 (listed' := #[true, false, false, false, false, false, false, false, false, false, false, false]) [] rfl (by kernel_rfl) rfl ⟨List.nodup_nil, rfl⟩ (y_move rfl) rfl ?_
      refine RJ.first 1 (listed' := #[true, true, false, false, false, false, false, false, false, false, false, false]) [] rfl (by kernel_rfl) rfl ⟨List.nodup_nil, rfl⟩ (y_move rfl) rfl ?_
      refine RJ.first 2 (listed' := #[true, true, true, false, false, false, false, false, false, false, false, false]) [] rfl (by kernel_rfl) rfl ⟨List.nodup_nil, rfl⟩ (y_subStr (i := none) (j := some r14.1) h17 Tryd.runUnderlying9 rfl trivial ⟨_, rfl⟩) rfl ?_
      refine RJ.first 3 (listed' := #[true, true, true, true, false, false, false, false, false, false, false, false]) [] rfl (by kernel_rfl) rfl ⟨List.nodup_nil, rfl⟩ (y_move rfl) rfl ?_
      refine RJ.first 7 (listed' := #[true, true, true, true, false, false, false, true, false, false, false, false]) [] rfl (by kernel_rfl) rfl ⟨List.nodup_nil, rfl⟩ (y_move rfl) rfl ?_
      refine RJ.first 8 (listed' := #[true, true, true, true, false, false, false, true, true, false, false, false]) [] rfl (by kernel_rfl) rfl ⟨List.nodup_nil, rfl⟩ (y_move rfl) rfl ?_
      refine RJ.first 9 (listed' := #[true, true, true, true, false, false, false, true, true, true, false, false]) [] rfl (by kernel_rfl) rfl ⟨List.nodup_nil, rfl⟩ (y_subStr (i := some r14.1) (j := none) h24 Tryd.runUnderlying9 rfl ⟨_, rfl⟩ trivial) rfl ?_
      refine RJ.step1 4 [] (by kernel_rfl) ⟨List.nodup_nil, rfl⟩ ?_
      refine RO.of (listed' := #[true, true, true, true, true, false, false, true, true, true, false, false]) rfl rfl ?_
      refine SJ.buildSlice (R := fStr) (os := [.const (str [32]), .const (str [48]), .const (str [45]), .const (str [120]), .const (str [49]), .const (str [57]), .const (str [46])]) [[32], [48], [45], [120], [49], [57], [46]] Tryd.runUnderlying69 Tryd.sizeOf9 Tryd.zeroValue9 rfl rfl rfl rfl rfl rfl fun v18 => ?_
      refine SJ.nil ?_
      refine PJ.draw ?_
      refine RJ.step1 5 [] (by kernel_rfl) ⟨List.nodup_nil, rfl⟩ ?_
      refine RO.of (listed' := #[true, true, true, true, true, true, false, true, true, true, false, false]) rfl rfl ?_
      refine SJ.call2 (k := 1) rfl Tryd.call46 rfl (fun w S hw hA hO hB => ok_s_l00Src_text h20 w S _ (hr4.st1 hw hO) _ (hB.row_rd (j := 0) (k := 1) rfl rfl) hA) rfl ?_
      rintro _ _ ⟨rfl, rfl⟩
      refine SJ.nil ?_
      refine PJ.draw ?_
      refine RJ.first 6 (listed' := #[true, true, true, true, true, true, true, true, true, true, false, false]) [] rfl (by kernel_rfl) rfl ⟨List.nodup_nil, rfl⟩ (y_cat h22 rfl rfl) rfl ?_
      refine RJ.first 10 (listed' := #[true, true, true, true, true, true, true, true, true, true, true, false]) [] rfl (by kernel_rfl) rfl ⟨List.nodup_nil, rfl⟩ (y_cat h26 rfl rfl) rfl ?_
      refine RJ.first 11 (listed' := #[true, true, true, true, true, true, true, true, true, true, true, true]) [] rfl (by kernel_rfl) rfl ⟨List.nodup_nil, rfl⟩ (y_assign rfl) rfl ?_
      refine RJ.fin [] (by kernel_rfl) ⟨List.nodup_nil, rfl⟩ ?_
      refine PJ.block_normal ?_
      exact PJ.joined (r19.2.at_, r19.2.seed, s25) [0] hm ⟨rfl, trivial⟩ ⟨by decide, rfl⟩
    · replace hm := ifF hm hb13
      refine WJ.seq ?_
      refine WJ.quiet ?_
      refine QJ.step (YldS.yld (y_bin rfl rfl rfl)) rfl ?_
      refine QJ.step (YldS.yld (y_assign rfl)) rfl ?_
      refine QJ.done ?_
      refine PJ.next ?_
      refine WJ.cond (t := (r11.1 == 1)) rfl (fun hb27 => ?_) (fun hb27 => ?_)
      · replace hm := ifT hm hb27
        refine WJ.seq ?_
        refine WJ.quiet ?_
        refine QJ.step (YldS.yld (y_move rfl)) rfl ?_
        refine QJ.step (YldS.yld (y_binS rfl rfl rfl)) rfl ?_
        refine QJ.done ?_
        refine PJ.next ?_
        refine WJ.cond (t := (t5 != [])) rfl (fun hb28 => ?_) (fun hb28 => ?_)
        · replace hm := ifT hm hb28
          refine WJ.seq ?_
          refine WJ.reg ?_
          refine SJ.q (YldS.yld (y_move rfl)) rfl ?_
          refine SJ.q (YldS.yld (y_move rfl)) rfl ?_
          refine SJ.q (YldS.yld (y_lenStr Tryd.runUnderlying9 rfl)) rfl ?_
          obtain ⟨r29, h30, hm⟩ := bindS hm
          refine SJ.call1 (k := 0) rfl Tryd.call33 rfl (fun w S hw hA hO => ok_s_l00Src_pick h30 w S _ (hr4.st1 hw hO) hA) rfl ?_
          rintro _ _ ⟨rfl, rfl⟩
          refine SJ.q (YldS.yld (y_assign rfl)) rfl ?_
          refine SJ.nil ?_
          refine PJ.next ?_
          refine WJ.quiet_draw follows (by kernel_rfl) ?_
          refine QJ.step (YldS.yld (y_move rfl)) rfl ?_
          refine QJ.step (YldS.yld (y_move rfl)) rfl ?_
          obtain ⟨s31, h32, hm⟩ := bindS hm
          refine QJ.step (YldS.yld (y_subStr (i := none) (j := some r29.1) h32 Tryd.runUnderlying9 rfl trivial ⟨_, rfl⟩)) rfl ?_
          refine QJ.step (YldS.yld (y_move rfl)) rfl ?_
          refine QJ.step (YldS.yld (y_move rfl)) rfl ?_
          refine QJ.step (YldS.yld (y_bin rfl rfl rfl)) rfl ?_
          obtain ⟨s33, h34, hm⟩ := bindS hm
          refine QJ.step (YldS.yld (y_subStr (i := some (w64 (r29.1 + 1))) (j := none) h34 Tryd.runUnderlying9 rfl ⟨_, rfl⟩ trivial)) rfl ?_
          obtain ⟨s35, h36, hm⟩ := bindS hm
          refine QJ.step (YldS.yld (y_cat h36 rfl rfl)) rfl ?_
          refine QJ.step (YldS.yld (y_assign rfl)) rfl ?_
          refine QJ.done ?_
          refine PJ.block_normal ?_
          exact PJ.joined (r29.2.at_, r29.2.seed, s35) [0] hm ⟨rfl, trivial⟩ ⟨by decide, rfl⟩
        · replace hm := ifF hm hb28
          refine WJ.skip ?_
          refine PJ.block_normal ?_
          exact PJ.joined (r11.2.at_, r11.2.seed, t5) [0] hm ⟨rfl, trivial⟩ ⟨by decide, rfl⟩
      · replace hm := ifF hm hb27
        refine WJ.skip ?_
        refine PJ.block_normal ?_
        exact PJ.joined (r11.2.at_, r11.2.seed, t5) [0] hm ⟨rfl, trivial⟩ ⟨by decide, rfl⟩
  · rintro ⟨x6, x7, t8⟩ hm
    subst hk10
    refine WJ.seq ?_
    refine WJ.quiet ?_
    refine QJ.step (YldS.yld (y_move rfl)) rfl ?_
    refine QJ.step (YldS.yld (y_assign rfl)) rfl ?_
    refine QJ.done ?_
    refine PJ.next ?_
    refine WJ.ret ?_
    obtain rfl := Option.some.inj hm
    refine PJ.sel (L' := [box g2 82 [v3, .int .i64 x6, .int .u64 x7]]) [0] ⟨by decide, rfl⟩ ?_
    exact PJ.retn (vs := [str t8]) Tryd.results39 ⟨rfl, trivial⟩ ⟨rfl, rfl⟩

set_option maxRecDepth 100000 in
set_option maxHeartbeats 1000000 in
theorem ok_s_DrawReadPress {N : Nat} {code1 : List UInt8} {r : Str} (hm : s_DrawReadPress N code1 = some r) (w : World) (v2 : Value) (hr3 : RdS w (cx w).Fz v2 fByte.rp code1) :
    Calls Tryd.prog 15 #[v2] w (Ret (cx w) (str r)) := by
  unfold s_DrawReadPress at hm
  refine Calls.enter [v2] Tryd.func15 rfl Tryd.ntmps15 rfl ?_
  refine WJ.seq ?_
  refine WJ.quiet ?_
  refine QJ.step (YldS.yld (y_assign rfl)) rfl ?_
  refine QJ.done ?_
  refine PJ.next ?_
  refine WJ.seq ?_
  refine WJ.reg ?_
  refine SJ.q (YldS.yld (y_move rfl)) rfl ?_
  obtain ⟨r4, h5, hm⟩ := bindS hm
  refine SJ.call Tryd.call32 rfl (fun w hw => ok_s_l00From h5 w _ (hr3.st hw)) rfl ?_
  rintro _ _ ⟨g6, rfl, rfl⟩
  refine SJ.q (YldS.yld (y_assign rfl)) rfl ?_
  refine SJ.nil ?_
  refine PJ.next ?_
  refine WJ.seq ?_
  refine WJ.reg ?_
  refine SJ.q (YldS.yld (y_move rfl)) rfl ?_
  obtain ⟨r7, h8, hm⟩ := bindS hm
  refine SJ.call1 (k := 0) rfl Tryd.call33 rfl (fun w S hw hA hO => ok_s_l00Src_pick h8 w S _ (hr3.st1 hw hO) hA) rfl ?_
  rintro _ _ ⟨rfl, rfl⟩
  refine SJ.q (YldS.yld (y_build (parts := [(0, .tmp 9)]) (places := [(0, 1), (1, 1)]) (r := [.int .i64 ((Press.mk r7.1 false).key), .bool ((Press.mk r7.1 false).shift)]) pl35 Tryd.zeroValue35 rfl rfl rfl rfl)) rfl ?_
  refine SJ.alloc (cs := [.int .i64 0, .bool false]) Tryd.zeroValue35 rfl rfl fun g9 => ?_
  refine SJ.storeL (k := 0) (off := 0) (us := [.int .i64 ((Press.mk r7.1 false).key), .bool ((Press.mk r7.1 false).shift)]) rfl rfl rfl rfl Tryd.sizeOf35 rfl rfl ?_
  refine SJ.nil ?_
  refine PJ.next ?_
  refine WJ.seq ?_
  refine WJ.reg ?_
  refine SJ.q (YldS.yld (y_move rfl)) rfl ?_
  obtain ⟨r10, h11, hm⟩ := bindS hm
  refine SJ.call1 (k := 1) rfl Tryd.call34 rfl (fun w S hw hA hO => ok_s_l00Src_one h11 w S _ (hr3.st1 hw hO) hA) rfl ?_
  rintro _ _ ⟨rfl, rfl⟩
  refine SJ.q (YldS.yld (y_fldB (o := 0) fld35_1 rfl)) rfl ?_
  refine SJ.storeL (k := 1) (off := 1) (us := [.bool r10.1]) rfl rfl rfl rfl Tryd.sizeOf4 rfl rfl ?_
  refine SJ.nil ?_
  refine PJ.next ?_
  refine WJ.seq ?_
  refine WJ.quiet ?_
  refine QJ.step (YldS.yld (y_loadBN (k := 1) (off := 0) (us := [.int .i64 ((Press.mk r7.1 false).key), .bool r10.1]) rfl Tryd.isAgg35 Tryd.sizeOf35 rfl rfl)) rfl ?_
  obtain ⟨r12, h13, hm⟩ := bindS hm
  refine QJ.step (y_call Tryd.call38 rfl (RetG.quiet fun w hw => ok_s_l02PressText h13 w )) rfl ?_
  refine QJ.step (YldS.yld (y_assign rfl)) rfl ?_
  refine QJ.done ?_
  refine PJ.next ?_
  refine WJ.seq ?_
  refine WJ.seq ?_
  refine WJ.reg ?_
  refine SJ.q (YldS.yld (y_move rfl)) rfl ?_
  obtain ⟨r14, h15, hm⟩ := bindS hm
  refine SJ.call1 (k := 0) rfl Tryd.call34 rfl (fun w S hw hA hO => ok_s_l00Src_one h15 w S _ (hr3.st1 hw hO) hA) rfl ?_
  rintro _ _ ⟨rfl, rfl⟩
  refine SJ.nil ?_
  refine PJ.next ?_
  refine WJ.cond (t := r14.1) rfl (fun hb16 => ?_) (fun hb16 => ?_)
  · replace hm := ifT hm hb16
    refine WJ.seq ?_
    refine WJ.reg ?_
    refine SJ.q (YldS.yld (y_move rfl)) rfl ?_
    refine SJ.q (YldS.yld (y_move rfl)) rfl ?_
    obtain ⟨r17, h18, hm⟩ := bindS hm
    refine SJ.call1 (k := 0) rfl Tryd.call39 rfl (fun w S hw hA hO => ok_s_l01Spoil h18 w S _ (hr3.st1 hw hO) hA) rfl ?_
    rintro _ _ ⟨rfl, rfl⟩
    refine SJ.q (YldS.yld (y_assign rfl)) rfl ?_
    refine SJ.nil ?_
    refine PJ.next ?_
    refine WJ.ret ?_
    refine PJ.then_ret ?_
    obtain rfl := Option.some.inj hm
    refine PJ.sel (L' := []) [] ⟨List.nodup_nil, rfl⟩ ?_
    exact PJ.retn (vs := [str r17.1]) Tryd.results15 ⟨rfl, trivial⟩ ⟨rfl, rfl⟩
  · replace hm := ifF hm hb16
    refine WJ.skip ?_
    refine PJ.next ?_
    refine WJ.seq ?_
    refine WJ.quiet ?_
    refine QJ.step (YldS.yld (y_move rfl)) rfl ?_
    refine QJ.step (YldS.yld (y_assign rfl)) rfl ?_
    refine QJ.done ?_
    refine PJ.next ?_
    refine WJ.ret ?_
    obtain rfl := Option.some.inj hm
    refine PJ.sel (L' := []) [] ⟨List.nodup_nil, rfl⟩ ?_
    exact PJ.retn (vs := [str r12]) Tryd.results15 ⟨rfl, trivial⟩ ⟨rfl, rfl⟩

set_option maxRecDepth 100000 in
set_option maxHeartbeats 1000000 in
theorem ok_s_l01Digit {c1 : UInt8} {r : Bool} (hm : s_l01Digit c1 = some r) (w : World)  :
    Calls Tryd.prog 56 #[.int .u8 (UInt8.toNat c1 : Int)] w (Ret (cx w) (.bool r)) := by
  unfold s_l01Digit at hm
  refine Calls.enter [.int .u8 (UInt8.toNat c1 : Int)] Tryd.func56 rfl Tryd.ntmps56 rfl ?_
  refine WJ.seq ?_
  refine WJ.quiet ?_
  refine QJ.step (YldS.yld (y_assign rfl)) rfl ?_
  refine QJ.done ?_
  refine PJ.next ?_
  refine WJ.seq ?_
  refine WJ.quiet ?_
  refine QJ.step (YldS.yld (y_move rfl)) rfl ?_
  refine QJ.step (YldS.yld (y_bin8 c1 (48 : UInt8) rfl rfl rfl)) rfl ?_
  refine QJ.step (YldS.yld (y_move rfl)) rfl ?_
  obtain ⟨t2, h3, hm⟩ := bindS hm
  refine QJ.cut 3 [(8, .bool t2)] ?_ ?_
  · rcases Bool.eq_false_or_eq_true (decide (c1 ≥ (48 : UInt8))) with hb4 | hb4
    · replace h3 := andT h3 hb4
      refine QJ.on rfl rfl (cB hb4) (YldS.yld (y_move rfl)) rfl ?_
      refine QJ.on rfl rfl (cB hb4) (YldS.yld (y_bin8 c1 (57 : UInt8) rfl rfl rfl)) rfl ?_
      refine QJ.step (YldS.yld (y_pick_t (cB hb4) rfl)) rfl ?_
      obtain rfl := Option.some.inj h3
      exact QJ.cut_end ⟨rfl, trivial⟩
    · obtain rfl := andF h3 hb4
      refine QJ.off rfl rfl (cB hb4) rfl rfl ?_
      refine QJ.off rfl rfl (cB hb4) rfl rfl ?_
      refine QJ.step (YldS.yld (y_pick_f (cB hb4) rfl)) rfl ?_
      exact QJ.cut_end ⟨rfl, trivial⟩
  refine QJ.step (YldS.yld (y_assign rfl)) rfl ?_
  refine QJ.done ?_
  refine PJ.next ?_
  refine WJ.ret ?_
  obtain rfl := Option.some.inj hm
  refine PJ.sel (L' := []) [] ⟨List.nodup_nil, rfl⟩ ?_
  exact PJ.retn (vs := [.bool t2]) Tryd.results56 ⟨rfl, trivial⟩ ⟨rfl, rfl⟩

set_option maxRecDepth 100000 in
set_option maxHeartbeats 1000000 in
theorem ok_s_l01Number {N : Nat} {s1 : Str} {r : Int × Bool} (hm : s_l01Number N s1 = some r) (w : World)  :
    Calls Tryd.prog 40 #[str s1] w (Ret (cx w) (tup [.int .i64 r.1, .bool r.2])) := by
  unfold s_l01Number at hm
  refine Calls.enter [str s1] Tryd.func40 rfl Tryd.ntmps40 rfl ?_
  refine WJ.seq ?_
  refine WJ.quiet ?_
  refine QJ.step (YldS.yld (y_assign rfl)) rfl ?_
  refine QJ.step (YldS.yld (y_assign rfl)) rfl ?_
  refine QJ.done ?_
  refine PJ.next ?_
  refine WJ.seq ?_
  refine WJ.quiet ?_
  refine QJ.step (YldS.yld (y_move rfl)) rfl ?_
  refine QJ.step (YldS.yld (y_assign rfl)) rfl ?_
  refine QJ.done ?_
  refine PJ.next ?_
  obtain ⟨kj3, hk4, hm⟩ := withK_open hm
  refine WJ.join (X := Str) (fun (x : Str) => kj3 x = some r) (fun (x : Str) => [(0, str s1), (4, str x)]) (fun (x : Str) => []) ?_ ?_
  · clear hk4
    refine WJ.seq ?_
    refine WJ.quiet ?_
    refine QJ.step (YldS.yld (y_move rfl)) rfl ?_
    refine QJ.step (YldS.yld (y_binS rfl rfl rfl)) rfl ?_
    refine QJ.step (YldS.yld (y_move rfl)) rfl ?_
    obtain ⟨t5, h6, hm⟩ := bindS hm
    refine QJ.cut 4 [(0, str s1), (4, str s1), (14, .bool t5)] ?_ ?_
    · rcases Bool.eq_false_or_eq_true (s1 != []) with hb7 | hb7
      · replace h6 := andT h6 hb7
        refine QJ.on rfl rfl (cB hb7) (YldS.yld (y_move rfl)) rfl ?_
        obtain ⟨c8, h9, h6⟩ := bindS h6
        refine QJ.on rfl rfl (cB hb7) (YldS.yld (y_idxStr Tryd.runUnderlying9 rfl rfl h9)) rfl ?_
        refine QJ.on rfl rfl (cB hb7) (YldS.yld (y_bin8 c8 (45 : UInt8) rfl rfl rfl)) rfl ?_
        refine QJ.step (YldS.yld (y_pick_t (cB hb7) rfl)) rfl ?_
        obtain rfl := Option.some.inj h6
        exact QJ.cut_end ⟨rfl, rfl, rfl, trivial⟩
      · obtain rfl := andF h6 hb7
        refine QJ.off rfl rfl (cB hb7) rfl rfl ?_
        refine QJ.off rfl rfl (cB hb7) rfl rfl ?_
        refine QJ.off rfl rfl (cB hb7) rfl rfl ?_
        refine QJ.step (YldS.yld (y_pick_f (cB hb7) rfl)) rfl ?_
        exact QJ.cut_end ⟨rfl, rfl, rfl, trivial⟩
    refine QJ.done ?_
    refine PJ.next ?_
    refine WJ.cond (t := t5) rfl (fun hb10 => ?_) (fun hb10 => ?_)
    · replace hm := ifT hm hb10
      refine WJ.quiet ?_
      refine QJ.step (YldS.yld (y_move rfl)) rfl ?_
      obtain ⟨s11, h12, hm⟩ := bindS hm
      refine QJ.step (YldS.yld (y_subStr (i := some 1) (j := none) h12 Tryd.runUnderlying9 rfl ⟨_, rfl⟩ trivial)) rfl ?_
      refine QJ.step (YldS.yld (y_assign rfl)) rfl ?_
      refine QJ.done ?_
      exact PJ.joined s11 [] hm ⟨rfl, rfl, trivial⟩ ⟨List.nodup_nil, rfl⟩
    · replace hm := ifF hm hb10
      refine WJ.skip ?_
      exact PJ.joined s1 [] hm ⟨rfl, rfl, trivial⟩ ⟨List.nodup_nil, rfl⟩
  · rintro t2 hm
    subst hk4
    refine WJ.seq ?_
    refine WJ.seq ?_
    refine WJ.quiet ?_
    refine QJ.step (YldS.yld (y_move rfl)) rfl ?_
    refine QJ.step (YldS.yld (y_lenStr Tryd.runUnderlying9 rfl)) rfl ?_
    refine QJ.step (YldS.yld (y_bin rfl rfl rfl)) rfl ?_
    refine QJ.step (YldS.yld (y_move rfl)) rfl ?_
    obtain ⟨t13, h14, hm⟩ := bindS hm
    refine QJ.cut 4 [(0, str s1), (4, str t2), (24, .bool t13)] ?_ ?_
    · rcases Bool.eq_false_or_eq_true (decide ((List.length t2 : Int) < 1)) with hb15 | hb15
      · obtain rfl := orT h14 hb15
        refine QJ.off rfl rfl (cB hb15) rfl rfl ?_
        refine QJ.off rfl rfl (cB hb15) rfl rfl ?_
        refine QJ.off rfl rfl (cB hb15) rfl rfl ?_
        refine QJ.step (YldS.yld (y_pick_t (cB hb15) rfl)) rfl ?_
        exact QJ.cut_end ⟨rfl, rfl, rfl, trivial⟩
      · replace h14 := orF h14 hb15
        refine QJ.on rfl rfl (cB hb15) (YldS.yld (y_move rfl)) rfl ?_
        refine QJ.on rfl rfl (cB hb15) (YldS.yld (y_lenStr Tryd.runUnderlying9 rfl)) rfl ?_
        refine QJ.on rfl rfl (cB hb15) (YldS.yld (y_bin rfl rfl rfl)) rfl ?_
        refine QJ.step (YldS.yld (y_pick_f (cB hb15) rfl)) rfl ?_
        obtain rfl := Option.some.inj h14
        exact QJ.cut_end ⟨rfl, rfl, rfl, trivial⟩
    refine QJ.done ?_
    refine PJ.next ?_
    refine WJ.cond (t := t13) rfl (fun hb16 => ?_) (fun hb16 => ?_)
    · replace hm := ifT hm hb16
      refine WJ.seq ?_
      refine WJ.quiet ?_
      refine QJ.step (YldS.yld (y_assign rfl)) rfl ?_
      refine QJ.step (YldS.yld (y_assign rfl)) rfl ?_
      refine QJ.done ?_
      refine PJ.next ?_
      refine WJ.ret ?_
      refine PJ.then_ret ?_
      obtain rfl := Option.some.inj hm
      refine PJ.sel (L' := []) [] ⟨List.nodup_nil, rfl⟩ ?_
      exact PJ.retn (vs := [.int .i64 0, .bool false]) Tryd.results40 ⟨rfl, rfl, trivial⟩ ⟨rfl, rfl⟩
    · replace hm := ifF hm hb16
      refine WJ.skip ?_
      refine PJ.next ?_
      refine WJ.seq ?_
      refine WJ.quiet ?_
      refine QJ.step (YldS.yld (y_assign rfl)) rfl ?_
      refine QJ.done ?_
      refine PJ.next ?_
      obtain ⟨kj18, hk19, hm⟩ := withK_open hm
      refine WJ.join (X := Int) (fun (x : Int) => kj18 x = some r) (fun (x : Int) => [(0, str s1), (4, str t2), (5, .int .i64 x)]) (fun (x : Int) => []) ?_ ?_
      · clear hk19
        refine WJ.seq ?_
        refine WJ.quiet ?_
        refine QJ.step (YldS.yld (y_assign rfl)) rfl ?_
        refine QJ.done ?_
        refine PJ.next ?_
        refine WJ.block ?_
        refine WJ.sel (L' := (fun (x : Int × Int) => []) (0, 0)) [] ⟨List.nodup_nil, rfl⟩ ?_
        refine WJ.sub (m' := (fun (x : Int × Int) => [(0, str s1), (4, str t2), (5, .int .i64 x.1), (6, .int .i64 x.2)]) (0, 0)) ⟨rfl, rfl, rfl, rfl, trivial⟩ ?_
        refine WJ.loop (X := Int × Int) (fun N (x : Int × Int) => s_l01Number_l1 kj18 t2 N x.1 x.2 = some r) (fun (x : Int × Int) => [(0, str s1), (4, str t2), (5, .int .i64 x.1), (6, .int .i64 x.2)]) (fun (x : Int × Int) => []) ?_ N (0, 0) hm
        · rintro N ⟨n20, i21⟩ hI
          have hm := hI; clear hI
          cases N with
          | zero => cases hm
          | succ N =>
          unfold s_l01Number_l1 at hm
          refine WJ.seq ?_
          refine WJ.seq ?_
          refine WJ.quiet ?_
          refine QJ.step (YldS.yld (y_move rfl)) rfl ?_
          refine QJ.step (YldS.yld (y_move rfl)) rfl ?_
          refine QJ.step (YldS.yld (y_lenStr Tryd.runUnderlying9 rfl)) rfl ?_
          refine QJ.step (YldS.yld (y_bin rfl rfl rfl)) rfl ?_
          refine QJ.done ?_
          refine PJ.next ?_
          refine WJ.cond (t := decide (i21 < (List.length t2 : Int))) rfl (fun hb22 => ?_) (fun hb22 => ?_)
          · replace hm := ifT hm hb22
            refine WJ.skip ?_
            refine PJ.next ?_
            refine WJ.seq ?_
            refine WJ.block ?_
            refine WJ.seq ?_
            refine WJ.seq ?_
            refine WJ.quiet ?_
            refine QJ.step (YldS.yld (y_move rfl)) rfl ?_
            refine QJ.step (YldS.yld (y_move rfl)) rfl ?_
            obtain ⟨c23, h24, hm⟩ := bindS hm
            refine QJ.step (YldS.yld (y_idxStr Tryd.runUnderlying9 rfl rfl h24)) rfl ?_
            obtain ⟨r25, h26, hm⟩ := bindS hm
            refine QJ.step (y_call Tryd.call56 rfl (RetG.quiet fun w hw => ok_s_l01Digit h26 w )) rfl ?_
            refine QJ.step (YldS.yld (y_not rfl)) rfl ?_
            refine QJ.done ?_
            refine PJ.next ?_
            refine WJ.cond (t := !r25) rfl (fun hb27 => ?_) (fun hb27 => ?_)
            · replace hm := ifT hm hb27
              refine WJ.seq ?_
              refine WJ.quiet ?_
              refine QJ.step (YldS.yld (y_assign rfl)) rfl ?_
              refine QJ.step (YldS.yld (y_assign rfl)) rfl ?_
              refine QJ.done ?_
              refine PJ.next ?_
              refine WJ.ret ?_
              refine PJ.then_ret (PJ.block_ret (PJ.then_ret (PJ.then_ret (PJ.block_ret (PJ.then_ret ?_)))))
              obtain rfl := Option.some.inj hm
              refine PJ.sel (L' := []) [] ⟨List.nodup_nil, rfl⟩ ?_
              exact PJ.retn (vs := [.int .i64 0, .bool false]) Tryd.results40 ⟨rfl, rfl, trivial⟩ ⟨rfl, rfl⟩
            · replace hm := ifF hm hb27
              refine WJ.skip ?_
              refine PJ.next ?_
              refine WJ.quiet ?_
              refine QJ.step (YldS.yld (y_move rfl)) rfl ?_
              refine QJ.step (YldS.yld (y_bin rfl rfl rfl)) rfl ?_
              refine QJ.step (YldS.yld (y_move rfl)) rfl ?_
              refine QJ.step (YldS.yld (y_move rfl)) rfl ?_
              obtain ⟨c28, h29, hm⟩ := bindS hm
              refine QJ.step (YldS.yld (y_idxStr Tryd.runUnderlying9 rfl rfl h29)) rfl ?_
              refine QJ.step (YldS.yld (y_bin8 c28 (48 : UInt8) rfl rfl rfl)) rfl ?_
              refine QJ.step (YldS.yld (y_conv8 Tryd.runUnderlying5 Tryd.runUnderlying2 rfl)) rfl ?_
              refine QJ.step (YldS.yld (y_bin rfl rfl rfl)) rfl ?_
              refine QJ.step (YldS.yld (y_assign rfl)) rfl ?_
              refine QJ.done ?_
              refine PJ.block_normal (PJ.next ?_)
              refine WJ.quiet ?_
              refine QJ.step (YldS.yld (y_move rfl)) rfl ?_
              refine QJ.step (YldS.yld (y_bin rfl rfl rfl)) rfl ?_
              refine QJ.step (YldS.yld (y_assign rfl)) rfl ?_
              refine QJ.done ?_
              exact PJ.round (w64 ((w64 (10 * n20)) + (UInt8.toNat (c28 - (48 : UInt8)) : Int)), w64 (i21 + 1)) [] hm ⟨rfl, rfl, rfl, rfl, trivial⟩ ⟨List.nodup_nil, rfl⟩
          · replace hm := ifF hm hb22
            refine WJ.exit ?_
            refine PJ.then_exit (PJ.then_exit (PJ.block_exit ?_))
            exact PJ.joined n20 [] hm ⟨rfl, rfl, rfl, trivial⟩ ⟨List.nodup_nil, rfl⟩
      · rintro n17 hm
        subst hk19
        obtain ⟨kj31, hk32, hm⟩ := withK_open hm
        refine WJ.join (X := Int) (fun (x : Int) => kj31 x = some r) (fun (x : Int) => [(0, str s1), (5, .int .i64 x)]) (fun (x : Int) => []) ?_ ?_
        · clear hk32
          refine WJ.seq ?_
          refine WJ.quiet ?_
          refine QJ.step (YldS.yld (y_move rfl)) rfl ?_
          refine QJ.step (YldS.yld (y_lenStr Tryd.runUnderlying9 rfl)) rfl ?_
          refine QJ.step (YldS.yld (y_move rfl)) rfl ?_
          refine QJ.step (YldS.yld (y_lenStr Tryd.runUnderlying9 rfl)) rfl ?_
          refine QJ.step (YldS.yld (y_bin rfl rfl rfl)) rfl ?_
          refine QJ.done ?_
          refine PJ.next ?_
          refine WJ.cond (t := decide ((List.length t2 : Int) < (List.length s1 : Int))) rfl (fun hb33 => ?_) (fun hb33 => ?_)
          · replace hm := ifT hm hb33
            refine WJ.quiet ?_
            refine QJ.step (YldS.yld (y_move rfl)) rfl ?_
            refine QJ.step (YldS.yld (y_neg rfl)) rfl ?_
            refine QJ.step (YldS.yld (y_assign rfl)) rfl ?_
            refine QJ.done ?_
            exact PJ.joined (w64 (0 - n17)) [] hm ⟨rfl, rfl, trivial⟩ ⟨List.nodup_nil, rfl⟩
          · replace hm := ifF hm hb33
            refine WJ.skip ?_
            exact PJ.joined n17 [] hm ⟨rfl, rfl, trivial⟩ ⟨List.nodup_nil, rfl⟩
        · rintro n30 hm
          subst hk32
          refine WJ.seq ?_
          refine WJ.seq ?_
          refine WJ.quiet ?_
          refine QJ.step (YldS.yld (y_move rfl)) rfl ?_
          obtain ⟨r34, h35, hm⟩ := bindS hm
          refine QJ.step (y_call Tryd.call55 rfl (RetG.quiet fun w hw => ok_s_l01Dec h35 w )) rfl ?_
          refine QJ.step (YldS.yld (y_move rfl)) rfl ?_
          refine QJ.step (YldS.yld (y_binS rfl rfl rfl)) rfl ?_
          refine QJ.done ?_
          refine PJ.next ?_
          refine WJ.cond (t := (r34 != s1)) rfl (fun hb36 => ?_) (fun hb36 => ?_)
          · replace hm := ifT hm hb36
            refine WJ.seq ?_
            refine WJ.quiet ?_
            refine QJ.step (YldS.yld (y_assign rfl)) rfl ?_
            refine QJ.step (YldS.yld (y_assign rfl)) rfl ?_
            refine QJ.done ?_
            refine PJ.next ?_
            refine WJ.ret ?_
            refine PJ.then_ret ?_
            obtain rfl := Option.some.inj hm
            refine PJ.sel (L' := []) [] ⟨List.nodup_nil, rfl⟩ ?_
            exact PJ.retn (vs := [.int .i64 0, .bool false]) Tryd.results40 ⟨rfl, rfl, trivial⟩ ⟨rfl, rfl⟩
          · replace hm := ifF hm hb36
            refine WJ.skip ?_
            refine PJ.next ?_
            refine WJ.seq ?_
            refine WJ.quiet ?_
            refine QJ.step (YldS.yld (y_move rfl)) rfl ?_
            refine QJ.step (YldS.yld (y_assign rfl)) rfl ?_
            refine QJ.step (YldS.yld (y_assign rfl)) rfl ?_
            refine QJ.done ?_
            refine PJ.next ?_
            refine WJ.ret ?_
            obtain rfl := Option.some.inj hm
            refine PJ.sel (L' := []) [] ⟨List.nodup_nil, rfl⟩ ?_
            exact PJ.retn (vs := [.int .i64 n30, .bool true]) Tryd.results40 ⟨rfl, rfl, trivial⟩ ⟨rfl, rfl⟩

set_option maxRecDepth 100000 in
set_option maxHeartbeats 1000000 in
theorem ok_s_l00In {n1 : Int} {low2 : Int} {high3 : Int} {r : Bool} (hm : s_l00In n1 low2 high3 = some r) (w : World)  :
    Calls Tryd.prog 41 #[.int .i64 n1, .int .i64 low2, .int .i64 high3] w (Ret (cx w) (.bool r)) := by
  unfold s_l00In at hm
  refine Calls.enter [.int .i64 n1, .int .i64 low2, .int .i64 high3] Tryd.func41 rfl Tryd.ntmps41 rfl ?_
  refine WJ.seq ?_
  refine WJ.quiet ?_
  refine QJ.step (YldS.yld (y_assign rfl)) rfl ?_
  refine QJ.done ?_
  refine PJ.next ?_
  refine WJ.seq ?_
  refine WJ.quiet ?_
  refine QJ.step (YldS.yld (y_move rfl)) rfl ?_
  refine QJ.step (YldS.yld (y_move rfl)) rfl ?_
  refine QJ.step (YldS.yld (y_bin rfl rfl rfl)) rfl ?_
  refine QJ.step (YldS.yld (y_move rfl)) rfl ?_
  obtain ⟨t4, h5, hm⟩ := bindS hm
  refine QJ.cut 4 [(14, .bool t4)] ?_ ?_
  · rcases Bool.eq_false_or_eq_true (decide (n1 ≥ low2)) with hb6 | hb6
    · replace h5 := andT h5 hb6
      refine QJ.on rfl rfl (cB hb6) (YldS.yld (y_move rfl)) rfl ?_
      refine QJ.on rfl rfl (cB hb6) (YldS.yld (y_move rfl)) rfl ?_
      refine QJ.on rfl rfl (cB hb6) (YldS.yld (y_bin rfl rfl rfl)) rfl ?_
      refine QJ.step (YldS.yld (y_pick_t (cB hb6) rfl)) rfl ?_
      obtain rfl := Option.some.inj h5
      exact QJ.cut_end ⟨rfl, trivial⟩
    · obtain rfl := andF h5 hb6
      refine QJ.off rfl rfl (cB hb6) rfl rfl ?_
      refine QJ.off rfl rfl (cB hb6) rfl rfl ?_
      refine QJ.off rfl rfl (cB hb6) rfl rfl ?_
      refine QJ.step (YldS.yld (y_pick_f (cB hb6) rfl)) rfl ?_
      exact QJ.cut_end ⟨rfl, trivial⟩
  refine QJ.step (YldS.yld (y_assign rfl)) rfl ?_
  refine QJ.done ?_
  refine PJ.next ?_
  refine WJ.ret ?_
  obtain rfl := Option.some.inj hm
  refine PJ.sel (L' := []) [] ⟨List.nodup_nil, rfl⟩ ?_
  exact PJ.retn (vs := [.bool t4]) Tryd.results41 ⟨rfl, trivial⟩ ⟨rfl, rfl⟩

set_option maxRecDepth 100000 in
set_option maxHeartbeats 1000000 in
theorem ok_s_ReadPress {N : Nat} {s1 : Str} {r : Press × Bool} (hm : s_ReadPress N s1 = some r) (w : World)  :
    Calls Tryd.prog 16 #[str s1] w (Ret (cx w) (tup [.agg (Press.enc r.1).toArray, .bool r.2])) := by
  unfold s_ReadPress at hm
  refine Calls.enter [str s1] Tryd.func16 rfl Tryd.ntmps16 rfl ?_
  refine WJ.seq ?_
  refine WJ.reg ?_
  refine SJ.alloc (cs := [.int .i64 0, .bool false]) Tryd.zeroValue35 rfl rfl fun g2 => ?_
  refine SJ.q (YldS.yld (y_assign rfl)) rfl ?_
  refine SJ.nil ?_
  refine PJ.next ?_
  refine WJ.seq ?_
  refine WJ.reg ?_
  refine SJ.q (YldS.yld (y_build (parts := []) (places := [(0, 1), (1, 1)]) (r := [.int .i64 ((Press.mk 0 false).key), .bool ((Press.mk 0 false).shift)]) pl35 Tryd.zeroValue35 rfl rfl rfl rfl)) rfl ?_
  refine SJ.alloc (cs := [.int .i64 0, .bool false]) Tryd.zeroValue35 rfl rfl fun g3 => ?_
  refine SJ.storeL (k := 0) (off := 0) (us := [.int .i64 ((Press.mk 0 false).key), .bool ((Press.mk 0 false).shift)]) rfl rfl rfl rfl Tryd.sizeOf35 rfl rfl ?_
  refine SJ.nil ?_
  refine PJ.next ?_
  obtain ⟨kj7, hk8, hm⟩ := withK_open hm
  refine WJ.join (X := Int × Bool × Str) (fun (x : Int × Bool × Str) => kj7 x.1 x.2.1 x.2.2 = some r) (fun (x : Int × Bool × Str) => [(0, str x.2.2), (2, pt g2 0), (4, pt g3 0)]) (fun (x : Int × Bool × Str) => [box g3 35 [.int .i64 x.1, .bool x.2.1], box g2 35 [.int .i64 0, .bool false]]) ?_ ?_
  · clear hk8
    refine WJ.seq ?_
    refine WJ.quiet ?_
    refine QJ.step (YldS.yld (y_move rfl)) rfl ?_
    refine QJ.step (YldS.yld (y_lenStr Tryd.runUnderlying9 rfl)) rfl ?_
    refine QJ.step (YldS.yld (y_bin rfl rfl rfl)) rfl ?_
    refine QJ.step (YldS.yld (y_move rfl)) rfl ?_
    obtain ⟨t9, h10, hm⟩ := bindS hm
    refine QJ.cut 4 [(0, str s1), (2, pt g2 0), (4, pt g3 0), (15, .bool t9)] ?_ ?_
    · rcases Bool.eq_false_or_eq_true (decide ((List.length s1 : Int) > 0)) with hb11 | hb11
      · replace h10 := andT h10 hb11
        refine QJ.on rfl rfl (cB hb11) (YldS.yld (y_move rfl)) rfl ?_
        obtain ⟨c12, h13, h10⟩ := bindS h10
        refine QJ.on rfl rfl (cB hb11) (YldS.yld (y_idxStr Tryd.runUnderlying9 rfl rfl h13)) rfl ?_
        refine QJ.on rfl rfl (cB hb11) (YldS.yld (y_bin8 c12 (94 : UInt8) rfl rfl rfl)) rfl ?_
        refine QJ.step (YldS.yld (y_pick_t (cB hb11) rfl)) rfl ?_
        obtain rfl := Option.some.inj h10
        exact QJ.cut_end ⟨rfl, rfl, rfl, rfl, trivial⟩
      · obtain rfl := andF h10 hb11
        refine QJ.off rfl rfl (cB hb11) rfl rfl ?_
        refine QJ.off rfl rfl (cB hb11) rfl rfl ?_
        refine QJ.off rfl rfl (cB hb11) rfl rfl ?_
        refine QJ.step (YldS.yld (y_pick_f (cB hb11) rfl)) rfl ?_
        exact QJ.cut_end ⟨rfl, rfl, rfl, rfl, trivial⟩
    refine QJ.done ?_
    refine PJ.next ?_
    refine WJ.cond (t := t9) rfl (fun hb14 => ?_) (fun hb14 => ?_)
    · replace hm := ifT hm hb14
      refine WJ.seq ?_
      refine WJ.reg ?_
      refine SJ.q (YldS.yld (y_fldB (o := 0) fld35_1 rfl)) rfl ?_
      refine SJ.storeL (k := 0) (off := 1) (us := [.bool true]) rfl rfl rfl rfl Tryd.sizeOf4 rfl rfl ?_
      refine SJ.nil ?_
      refine PJ.next ?_
      refine WJ.quiet ?_
      refine QJ.step (YldS.yld (y_move rfl)) rfl ?_
      obtain ⟨s15, h16, hm⟩ := bindS hm
      refine QJ.step (YldS.yld (y_subStr (i := some 1) (j := none) h16 Tryd.runUnderlying9 rfl ⟨_, rfl⟩ trivial)) rfl ?_
      refine QJ.step (YldS.yld (y_assign rfl)) rfl ?_
      refine QJ.done ?_
      exact PJ.joined ((Press.mk 0 false).key, true, s15) [0, 1] hm ⟨rfl, rfl, rfl, trivial⟩ ⟨by decide, rfl⟩
    · replace hm := ifF hm hb14
      refine WJ.skip ?_
      exact PJ.joined ((Press.mk 0 false).key, (Press.mk 0 false).shift, s1) [0, 1] hm ⟨rfl, rfl, rfl, trivial⟩ ⟨by decide, rfl⟩
  · rintro ⟨x4, x5, s6⟩ hm
    subst hk8
    refine WJ.seq ?_
    refine WJ.quiet ?_
    refine QJ.step (YldS.yld (y_move rfl)) rfl ?_
    obtain ⟨r17, h18, hm⟩ := bindS hm
    refine QJ.step (y_call Tryd.call40 rfl (RetG.quiet fun w hw => ok_s_l01Number h18 w )) rfl ?_
    refine QJ.step (YldS.yld (y_move rfl)) rfl ?_
    refine QJ.step (YldS.yld (y_extract rfl rfl)) rfl ?_
    refine QJ.step (YldS.yld (y_extract rfl rfl)) rfl ?_
    refine QJ.step (YldS.yld (y_assign rfl)) rfl ?_
    refine QJ.step (YldS.yld (y_assign rfl)) rfl ?_
    refine QJ.done ?_
    refine PJ.next ?_
    refine WJ.seq ?_
    refine WJ.seq ?_
    refine WJ.quiet ?_
    refine QJ.step (YldS.yld (y_move rfl)) rfl ?_
    refine QJ.step (YldS.yld (y_not rfl)) rfl ?_
    refine QJ.step (YldS.yld (y_move rfl)) rfl ?_
    obtain ⟨t19, h20, hm⟩ := bindS hm
    refine QJ.cut 4 [(2, pt g2 0), (4, pt g3 0), (5, .int .i64 r17.1), (30, .bool t19)] ?_ ?_
    · rcases Bool.eq_false_or_eq_true (!r17.2) with hb21 | hb21
      · obtain rfl := orT h20 hb21
        refine QJ.off rfl rfl (cB hb21) rfl rfl ?_
        refine QJ.off rfl rfl (cB hb21) rfl rfl ?_
        refine QJ.off rfl rfl (cB hb21) rfl rfl ?_
        refine QJ.step (YldS.yld (y_pick_t (cB hb21) rfl)) rfl ?_
        exact QJ.cut_end ⟨rfl, rfl, rfl, rfl, trivial⟩
      · replace h20 := orF h20 hb21
        refine QJ.on rfl rfl (cB hb21) (YldS.yld (y_move rfl)) rfl ?_
        obtain ⟨r22, h23, h20⟩ := bindS h20
        refine QJ.on rfl rfl (cB hb21) (y_call Tryd.call41 rfl (RetG.quiet fun w hw => ok_s_l00In h23 w )) rfl ?_
        refine QJ.on rfl rfl (cB hb21) (YldS.yld (y_not rfl)) rfl ?_
        refine QJ.step (YldS.yld (y_pick_f (cB hb21) rfl)) rfl ?_
        obtain rfl := Option.some.inj h20
        exact QJ.cut_end ⟨rfl, rfl, rfl, rfl, trivial⟩
    refine QJ.done ?_
    refine PJ.next ?_
    refine WJ.cond (t := t19) rfl (fun hb24 => ?_) (fun hb24 => ?_)
    · replace hm := ifT hm hb24
      refine WJ.seq ?_
      refine WJ.reg ?_
      refine SJ.q (YldS.yld (y_build (parts := []) (places := [(0, 1), (1, 1)]) (r := [.int .i64 ((Press.mk 0 false).key), .bool ((Press.mk 0 false).shift)]) pl35 Tryd.zeroValue35 rfl rfl rfl rfl)) rfl ?_
      refine SJ.storeL (k := 1) (off := 0) (us := [.int .i64 ((Press.mk 0 false).key), .bool ((Press.mk 0 false).shift)]) rfl rfl rfl rfl Tryd.sizeOf35 rfl rfl ?_
      refine SJ.q (YldS.yld (y_assign rfl)) rfl ?_
      refine SJ.nil ?_
      refine PJ.next ?_
      refine WJ.ret ?_
      refine PJ.then_ret ?_
      obtain rfl := Option.some.inj hm
      exact PJ.retn_sel (vs := [.agg (Press.enc (Press.mk 0 false)).toArray, .bool false]) Tryd.results16 ⟨⟨1, g2, 35, [.int .i64 ((Press.mk 0 false).key), .bool ((Press.mk 0 false).shift)], rfl, rfl, .inl ⟨Tryd.isAgg35, Tryd.sizeOf35, rfl⟩⟩, rfl, trivial⟩ [] ⟨List.nodup_nil, rfl⟩ ⟨rfl, rfl⟩
    · replace hm := ifF hm hb24
      refine WJ.skip ?_
      refine PJ.next ?_
      refine WJ.seq ?_
      refine WJ.reg ?_
      refine SJ.q (YldS.yld (y_move rfl)) rfl ?_
      refine SJ.q (YldS.yld (y_fldB (o := 0) fld35_0 rfl)) rfl ?_
      refine SJ.storeL (k := 0) (off := 0) (us := [.int .i64 r17.1]) rfl rfl rfl rfl Tryd.sizeOf2 rfl rfl ?_
      refine SJ.nil ?_
      refine PJ.next ?_
      refine WJ.seq ?_
      refine WJ.reg ?_
      refine SJ.q (YldS.yld (y_loadBN (k := 0) (off := 0) (us := [.int .i64 r17.1, .bool x5]) rfl Tryd.isAgg35 Tryd.sizeOf35 rfl rfl)) rfl ?_
      refine SJ.storeL (k := 1) (off := 0) (us := [.int .i64 r17.1, .bool x5]) rfl rfl rfl rfl Tryd.sizeOf35 rfl rfl ?_
      refine SJ.q (YldS.yld (y_assign rfl)) rfl ?_
      refine SJ.nil ?_
      refine PJ.next ?_
      refine WJ.ret ?_
      obtain rfl := Option.some.inj hm
      exact PJ.retn_sel (vs := [.agg #[.int .i64 r17.1, .bool x5], .bool true]) Tryd.results16 ⟨⟨1, g2, 35, [.int .i64 r17.1, .bool x5], rfl, rfl, .inl ⟨Tryd.isAgg35, Tryd.sizeOf35, rfl⟩⟩, rfl, trivial⟩ [] ⟨List.nodup_nil, rfl⟩ ⟨rfl, rfl⟩

set_option maxRecDepth 100000 in
set_option maxHeartbeats 1000000 in
theorem ok_s_l00Src_among {s1 : L00Src} {list5 : List Int} {g2 : Nat} {r : Int × L00Src} (hm : s_l00Src_among s1 list5 = some r) (w : World) (S : Nat → Prop) (v3 : Value) (hr4 : RdS w (Cx.Fz ⟨w, S⟩) v3 fByte.rp s1.code) (v6 : Value) (hr7 : RdS w (Cx.Fz ⟨w, S⟩) v6 fI64.rp list5) (hA : (box g2 82 [v3, .int .i64 s1.at_, .int .u64 s1.seed]).holds w S) :
    Calls Tryd.prog 57 #[pt g2 0, v6] w (RetG ⟨w, S⟩ fun u L => (u = .int .i64 r.1 ∧ L = [box g2 82 [v3, .int .i64 r.2.at_, .int .u64 r.2.seed]])) := by
  unfold s_l00Src_among at hm
  refine Calls.enter1 hA [pt g2 0, v6] Tryd.func57 rfl Tryd.ntmps57 rfl ?_
  refine WJ.seq ?_
  refine WJ.quiet ?_
  refine QJ.step (YldS.yld (y_assign rfl)) rfl ?_
  refine QJ.done ?_
  refine PJ.next ?_
  refine WJ.seq ?_
  refine WJ.reg ?_
  refine SJ.q (YldS.yld (y_move rfl)) rfl ?_
  refine SJ.q (YldS.yld (y_move rfl)) rfl ?_
  refine SJ.q (YldS.yld (y_move rfl)) rfl ?_
  refine SJ.q (YldS.yld (y_lenS Tryd.runUnderlying87 hr7 rfl)) rfl ?_
  obtain ⟨r8, h9, hm⟩ := bindS hm
  refine SJ.call1 (k := 0) rfl Tryd.call33 rfl (fun w S hw hA hO => ok_s_l00Src_pick h9 w S _ (hr4.st1 hw hO) hA) rfl ?_
  rintro _ _ ⟨rfl, rfl⟩
  obtain ⟨e10, h11, hm⟩ := bindS hm
  obtain ⟨ad12, _, rfl, ha13, hy14⟩ := hr7.elem h11
  refine SJ.q (YldS.yld (hy14 Tryd.runUnderlying87 Tryd.sizeOf2 rfl rfl)) rfl ?_
  refine SJ.q (YldS.yld (y_load1 (v := .int .i64 e10) Tryd.isAgg2 ha13 St.frozenC rfl)) rfl ?_
  refine SJ.q (YldS.yld (y_assign rfl)) rfl ?_
  refine SJ.nil ?_
  refine PJ.next ?_
  refine WJ.ret ?_
  obtain rfl := Option.some.inj hm
  refine PJ.sel (L' := [box g2 82 [v3, .int .i64 r8.2.at_, .int .u64 r8.2.seed]]) [0] ⟨by decide, rfl⟩ ?_
  exact PJ.retn (vs := [.int .i64 e10]) Tryd.results57 ⟨rfl, trivial⟩ ⟨rfl, rfl⟩

set_option maxRecDepth 100000 in
set_option maxHeartbeats 1000000 in
theorem ok_s_l02DrawPresses {N : Nat} {code1 : List UInt8} {r : (List Key) × (List Accent) × (List Press)} (hm : s_l02DrawPresses N code1 = some r) (w : World) (v2 : Value) (hr3 : RdS w (cx w).Fz v2 fByte.rp code1) :
    Calls Tryd.prog 42 #[v2] w (RetG (cx w) fun u L => ∃ (u1 : Value) (u2 : Value) (u3 : Value), (u = tup [u1, u2, u3] ∧ L = [row u1 54 fKey r.1, row u2 56 fAccent r.2.1, row u3 35 fPress r.2.2])) := by
  unfold s_l02DrawPresses at hm
  refine Calls.enter [v2] Tryd.func42 rfl Tryd.ntmps42 rfl ?_
  refine WJ.seq ?_
  refine WJ.quiet ?_
  refine QJ.step (YldS.yld (y_assign rfl)) rfl ?_
  refine QJ.step (YldS.yld (y_assign rfl)) rfl ?_
  refine QJ.step (YldS.yld (y_assign rfl)) rfl ?_
  refine QJ.done ?_
  refine PJ.next ?_
  refine WJ.seq ?_
  refine WJ.reg ?_
  refine SJ.q (YldS.yld (y_move rfl)) rfl ?_
  obtain ⟨r4, h5, hm⟩ := bindS hm
  refine SJ.call Tryd.call24 rfl (fun w hw => ok_s_l02DrawText h5 w _ (hr3.st hw)) rfl ?_
  rintro _ _ ⟨v6, v7, rfl, rfl⟩
  refine SJ.q (YldS.yld (y_move rfl)) rfl ?_
  refine SJ.q (YldS.yld (y_extract rfl rfl)) rfl ?_
  refine SJ.q (YldS.yld (y_extract rfl rfl)) rfl ?_
  refine SJ.q (YldS.yld (y_extract rfl rfl)) rfl ?_
  refine SJ.q (YldS.yld (y_assign rfl)) rfl ?_
  refine SJ.q (YldS.yld (y_assign rfl)) rfl ?_
  refine SJ.q (YldS.yld (y_assign rfl)) rfl ?_
  refine SJ.nil ?_
  refine PJ.next ?_
  refine WJ.seq ?_
  refine WJ.reg ?_
  refine SJ.q (YldS.yld (y_move rfl)) rfl ?_
  obtain ⟨r8, h9, hm⟩ := bindS hm
  refine SJ.call Tryd.call32 rfl (fun w hw => ok_s_l00From h9 w _ (hr3.st hw)) rfl ?_
  rintro _ _ ⟨g10, rfl, rfl⟩
  refine SJ.q (YldS.yld (y_assign rfl)) rfl ?_
  refine SJ.nil ?_
  refine PJ.next ?_
  refine WJ.seq ?_
  refine WJ.reg ?_
  refine SJ.q (YldS.yld (y_move rfl)) rfl ?_
  refine SJ.q (YldS.yld (y_move rfl)) rfl ?_
  refine SJ.q (YldS.yld (y_move rfl)) rfl ?_
  obtain ⟨r11, h12, hm⟩ := bindS hm
  refine SJ.call Tryd.call7 rfl (fun w hw => ok_s_PressesFor h12 w _ (hw.row_rd (k := 1) rfl) _ (hw.row_rd (k := 2) rfl)) rfl ?_
  rintro _ _ ⟨v13, rfl, rfl⟩
  refine SJ.q (YldS.yld (y_move rfl)) rfl ?_
  refine SJ.q (YldS.yld (y_extract rfl rfl)) rfl ?_
  refine SJ.q (YldS.yld (y_extract rfl rfl)) rfl ?_
  refine SJ.q (YldS.yld (y_assign rfl)) rfl ?_
  refine SJ.q (YldS.yld (y_assign rfl)) rfl ?_
  refine SJ.nil ?_
  refine PJ.next ?_
  obtain ⟨kj16, hk17, hm⟩ := withK_open hm
  refine WJ.join (X := (List Press) × Value) (fun (x : (List Press) × Value) => kj16 x.1 = some r) (fun (x : (List Press) × Value) => [(5, v6), (6, v7), (8, pt g10 0), (9, x.2)]) (fun (x : (List Press) × Value) => [row x.2 35 fPress x.1, box g10 82 [v2, .int .i64 r8.at_, .int .u64 r8.seed], row v6 54 fKey r4.1, row v7 56 fAccent r4.2.1]) ?_ ?_
  · clear hk17
    refine WJ.seq ?_
    refine WJ.quiet ?_
    refine QJ.step (YldS.yld (y_move rfl)) rfl ?_
    refine QJ.step (YldS.yld (y_bin rfl rfl rfl)) rfl ?_
    refine QJ.done ?_
    refine PJ.next ?_
    refine WJ.cond (t := (r11.2 != 0)) rfl (fun hb18 => ?_) (fun hb18 => ?_)
    · replace hm := ifT hm hb18
      refine WJ.reg ?_
      refine SJ.buildSlice (R := fPress) (os := []) [] Tryd.runUnderlying28 Tryd.sizeOf35 Tryd.zeroValue35 rfl rfl rfl rfl rfl rfl fun v19 => ?_
      refine SJ.q (YldS.yld (y_assign rfl)) rfl ?_
      refine SJ.nil ?_
      exact PJ.joined ([], v19) [0, 2, 3, 4] hm ⟨rfl, rfl, rfl, rfl, trivial⟩ ⟨by decide, rfl⟩
    · replace hm := ifF hm hb18
      refine WJ.skip ?_
      exact PJ.joined (r11.1, v13) [0, 1, 2, 3] hm ⟨rfl, rfl, rfl, rfl, trivial⟩ ⟨by decide, rfl⟩
  · rintro ⟨l14, v15⟩ hm
    subst hk17
    obtain ⟨kj22, hk23, hm⟩ := withK_open hm
    refine WJ.join (X := (List Press) × Value) (fun (x : (List Press) × Value) => kj22 x.1 = some r) (fun (x : (List Press) × Value) => [(5, v6), (6, v7), (9, x.2)]) (fun (x : (List Press) × Value) => [row x.2 35 fPress x.1, row v6 54 fKey r4.1, row v7 56 fAccent r4.2.1]) ?_ ?_
    · clear hk23
      refine WJ.seq ?_
      refine WJ.reg ?_
      refine SJ.q (YldS.yld (y_move rfl)) rfl ?_
      obtain ⟨r24, h25, hm⟩ := bindS hm
      refine SJ.call1 (k := 1) rfl Tryd.call33 rfl (fun w S hw hA hO => ok_s_l00Src_pick h25 w S _ (hr3.st1 hw hO) hA) rfl ?_
      rintro _ _ ⟨rfl, rfl⟩
      refine SJ.nil ?_
      refine PJ.next ?_
      refine WJ.block ?_
      refine WJ.seq ?_
      refine WJ.quiet ?_
      refine QJ.step (YldS.yld (y_bin rfl rfl rfl)) rfl ?_
      refine QJ.step (YldS.yld (y_assign rfl)) rfl ?_
      refine QJ.done ?_
      refine PJ.next ?_
      refine WJ.cond (t := (r24.1 == 0)) rfl (fun hb26 => ?_) (fun hb26 => ?_)
      · replace hm := ifT hm hb26
        refine WJ.reg ?_
        refine SJ.q (YldS.yld (y_move rfl)) rfl ?_
        refine SJ.q (YldS.yld (y_move rfl)) rfl ?_
        refine SJ.q (YldS.yld (y_move rfl)) rfl ?_
        refine SJ.q (YldS.yld (y_lenRow (k := 2) rfl Tryd.runUnderlying24 rfl)) rfl ?_
        refine SJ.q (YldS.yld (y_bin rfl rfl rfl)) rfl ?_
        refine SJ.q (YldS.yld (y_move rfl)) rfl ?_
        refine SJ.q (YldS.yld (y_lenRow (k := 2) rfl Tryd.runUnderlying24 rfl)) rfl ?_
        refine SJ.buildSlice (R := fI64) (os := [.const (.int .i64 (-1)), .const (.int .i64 0), .tmp 37, .tmp 39]) [(-1), 0, w64 ((List.length r4.1 : Int) - 1), (List.length r4.1 : Int)] Tryd.runUnderlying87 Tryd.sizeOf2 Tryd.zeroValue2 rfl rfl rfl rfl rfl rfl fun v27 => ?_
        obtain ⟨r28, h29, hm⟩ := bindS hm
        refine SJ.call2 (k := 1) rfl Tryd.call57 rfl (fun w S hw hA hO hB => ok_s_l00Src_among h29 w S _ (hr3.st1 hw hO) _ (hB.row_rd (j := 0) (k := 1) rfl rfl) hA) rfl ?_
        rintro _ _ ⟨rfl, rfl⟩
        refine SJ.q (YldS.yld (y_build (parts := [(0, .tmp 41), (1, .const (.bool true))]) (places := [(0, 1), (1, 1)]) (r := [.int .i64 ((Press.mk r28.1 true).key), .bool ((Press.mk r28.1 true).shift)]) pl35 Tryd.zeroValue35 rfl rfl rfl rfl)) rfl ?_
        refine SJ.buildSlice (R := fPress) (os := [.tmp 42]) [(Press.mk r28.1 true)] Tryd.runUnderlying28 Tryd.sizeOf35 Tryd.zeroValue35 rfl rfl rfl rfl rfl rfl fun v30 => ?_
        obtain ⟨l31, h32, hm⟩ := bindS hm
        refine SJ.append (k := 3) (R := fPress) h32 rfl Tryd.underlying28 el35 rfl rfl rfl (fun w hw => (hw.row_rd (k := 0) rfl)) rfl fun v33 => ?_
        refine SJ.q (YldS.yld (y_assign rfl)) rfl ?_
        refine SJ.nil ?_
        refine PJ.block_normal ?_
        exact PJ.joined (l31, v33) [3, 4, 5] hm ⟨rfl, rfl, rfl, trivial⟩ ⟨by decide, rfl⟩
      · replace hm := ifF hm hb26
        refine WJ.seq ?_
        refine WJ.quiet ?_
        refine QJ.step (YldS.yld (y_bin rfl rfl rfl)) rfl ?_
        refine QJ.step (YldS.yld (y_assign rfl)) rfl ?_
        refine QJ.done ?_
        refine PJ.next ?_
        refine WJ.cond (t := (r24.1 == 1)) rfl (fun hb34 => ?_) (fun hb34 => ?_)
        · replace hm := ifT hm hb34
          refine WJ.reg ?_
          refine SJ.q (YldS.yld (y_move rfl)) rfl ?_
          obtain ⟨r35, h36, hm⟩ := bindS hm
          refine SJ.call1 (k := 0) rfl Tryd.call33 rfl (fun w S hw hA hO => ok_s_l00Src_pick h36 w S _ (hr3.st1 hw hO) hA) rfl ?_
          rintro _ _ ⟨rfl, rfl⟩
          refine SJ.q (YldS.yld (y_bin rfl rfl rfl)) rfl ?_
          obtain ⟨l37, h38, hm⟩ := bindS hm
          refine SJ.makeSlice (R := fPress) (z := (Press.mk 0 false)) h38 Tryd.underlying28 el35 rfl rfl rfl fun v39 => ?_
          refine SJ.q (YldS.yld (y_assign rfl)) rfl ?_
          refine SJ.nil ?_
          refine PJ.block_normal ?_
          exact PJ.joined (l37, v39) [0, 3, 4] hm ⟨rfl, rfl, rfl, trivial⟩ ⟨by decide, rfl⟩
        · replace hm := ifF hm hb34
          refine WJ.skip ?_
          refine PJ.block_normal ?_
          exact PJ.joined (l14, v15) [1, 2, 3] hm ⟨rfl, rfl, rfl, trivial⟩ ⟨by decide, rfl⟩
    · rintro ⟨l20, v21⟩ hm
      subst hk23
      refine WJ.seq ?_
      refine WJ.quiet ?_
      refine QJ.step (YldS.yld (y_move rfl)) rfl ?_
      refine QJ.step (YldS.yld (y_move rfl)) rfl ?_
      refine QJ.step (YldS.yld (y_move rfl)) rfl ?_
      refine QJ.step (YldS.yld (y_assign rfl)) rfl ?_
      refine QJ.step (YldS.yld (y_assign rfl)) rfl ?_
      refine QJ.step (YldS.yld (y_assign rfl)) rfl ?_
      refine QJ.done ?_
      refine PJ.next ?_
      refine WJ.ret ?_
      obtain rfl := Option.some.inj hm
      refine PJ.sel (L' := [row v6 54 fKey r4.1, row v7 56 fAccent r4.2.1, row v21 35 fPress l20]) [1, 2, 0] ⟨by decide, rfl⟩ ?_
      exact PJ.retn (vs := [v6, v7, v21]) Tryd.results42 ⟨rfl, rfl, rfl, trivial⟩ ⟨_, _, _, rfl, rfl⟩

set_option maxRecDepth 100000 in
set_option maxHeartbeats 1000000 in
theorem ok_s_DrawSamePresses {N : Nat} {code1 : List UInt8} {r : (List Press) × (List Press)} (hm : s_DrawSamePresses N code1 = some r) (w : World) (v2 : Value) (hr3 : RdS w (cx w).Fz v2 fByte.rp code1) :
    Calls Tryd.prog 17 #[v2] w (RetG (cx w) fun u L => ∃ (u1 : Value) (u2 : Value), (u = tup [u1, u2] ∧ L = [row u1 35 fPress r.1, row u2 35 fPress r.2])) := by
  unfold s_DrawSamePresses at hm
  refine Calls.enter [v2] Tryd.func17 rfl Tryd.ntmps17 rfl ?_
  refine WJ.seq ?_
  refine WJ.quiet ?_
  refine QJ.step (YldS.yld (y_assign rfl)) rfl ?_
  refine QJ.step (YldS.yld (y_assign rfl)) rfl ?_
  refine QJ.done ?_
  refine PJ.next ?_
  refine WJ.seq ?_
  refine WJ.reg ?_
  refine SJ.q (YldS.yld (y_move rfl)) rfl ?_
  obtain ⟨r4, h5, hm⟩ := bindS hm
  refine SJ.call Tryd.call42 rfl (fun w hw => ok_s_l02DrawPresses h5 w _ (hr3.st hw)) rfl ?_
  rintro _ _ ⟨v6, v7, v8, rfl, rfl⟩
  refine SJ.q (YldS.yld (y_move rfl)) rfl ?_
  refine SJ.q (YldS.yld (y_extract rfl rfl)) rfl ?_
  refine SJ.q (YldS.yld (y_extract rfl rfl)) rfl ?_
  refine SJ.q (YldS.yld (y_extract rfl rfl)) rfl ?_
  refine SJ.q (YldS.yld (y_assign rfl)) rfl ?_
  refine SJ.q (YldS.yld (y_assign rfl)) rfl ?_
  refine SJ.q (YldS.yld (y_assign rfl)) rfl ?_
  refine SJ.nil ?_
  refine PJ.next ?_
  refine WJ.seq ?_
  refine WJ.reg ?_
  refine SJ.q (YldS.yld (y_move rfl)) rfl ?_
  obtain ⟨r9, h10, hm⟩ := bindS hm
  refine SJ.call Tryd.call32 rfl (fun w hw => ok_s_l00From h10 w _ (hr3.st hw)) rfl ?_
  rintro _ _ ⟨g11, rfl, rfl⟩
  refine SJ.q (YldS.yld (y_assign rfl)) rfl ?_
  refine SJ.nil ?_
  refine PJ.next ?_
  refine WJ.seq ?_
  refine WJ.reg ?_
  refine SJ.buildSlice (R := fPress) (os := []) [] Tryd.runUnderlying28 Tryd.sizeOf35 Tryd.zeroValue35 rfl rfl rfl rfl rfl rfl fun v12 => ?_
  refine SJ.q (YldS.yld (y_move rfl)) rfl ?_
  obtain ⟨l13, h14, hm⟩ := bindS hm
  refine SJ.append (k := 0) (R := fPress) h14 rfl Tryd.underlying28 el35 rfl rfl rfl (fun w hw => (hw.row_rd (k := 4) rfl)) rfl fun v15 => ?_
  refine SJ.q (YldS.yld (y_assign rfl)) rfl ?_
  refine SJ.nil ?_
  refine PJ.next ?_
  obtain ⟨kj19, hk20, hm⟩ := withK_open hm
  refine WJ.join (X := (List Press) × Int × Int) (fun (x : (List Press) × Int × Int) => kj19 x.1 x.2.1 x.2.2 = some r) (fun (x : (List Press) × Int × Int) => [(6, v8), (7, pt g11 0), (8, v15)]) (fun (x : (List Press) × Int × Int) => [row v15 35 fPress x.1, box g11 82 [v2, .int .i64 x.2.1, .int .u64 x.2.2], row v8 35 fPress r4.2.2]) ?_ ?_
  · clear hk20
    refine WJ.seq ?_
    refine WJ.reg ?_
    refine SJ.q (YldS.yld (y_move rfl)) rfl ?_
    refine SJ.q (YldS.yld (y_lenRow (k := 0) rfl Tryd.runUnderlying28 rfl)) rfl ?_
    refine SJ.q (YldS.yld (y_bin rfl rfl rfl)) rfl ?_
    refine SJ.q (YldS.yld (y_move rfl)) rfl ?_
    obtain ⟨x23, h22, hm⟩ := bindS hm
    refine SJ.cut 3 [(6, v8), (7, pt g11 0), (8, v15), (26, .bool x23.1)] [row v15 35 fPress l13, box g11 82 [v2, .int .i64 x23.2.at_, .int .u64 x23.2.seed], row v6 54 fKey r4.1, row v7 56 fAccent r4.2.1, row v8 35 fPress r4.2.2] ?_ ?_
    · rcases Bool.eq_false_or_eq_true (decide ((List.length l13 : Int) > 0)) with hb24 | hb24
      · replace h22 := ifT h22 hb24
        refine SJ.on rfl rfl (cB hb24) (SJ.q (YldS.yld (y_move rfl)) rfl ?_)
        obtain ⟨r25, h26, h22⟩ := bindS h22
        refine SJ.on rfl rfl (cB hb24) (SJ.call1 (k := 1) rfl Tryd.call34 rfl (fun w S hw hA hO => ok_s_l00Src_one h26 w S _ (hr3.st1 hw hO) hA) rfl ?_)
        rintro _ _ ⟨rfl, rfl⟩
        refine SJ.q (YldS.yld (y_pick_t (cB hb24) rfl)) rfl ?_
        obtain rfl := Option.some.inj h22
        exact SJ.cut_end [1, 0, 2, 3, 4] ⟨rfl, rfl, rfl, rfl, trivial⟩ ⟨by decide, rfl⟩
      · replace h22 := ifF h22 hb24
        obtain rfl := Option.some.inj h22
        refine SJ.off rfl rfl (cB hb24) rfl rfl ?_
        refine SJ.off rfl rfl (cB hb24) rfl rfl ?_
        refine SJ.q (YldS.yld (y_pick_f (cB hb24) rfl)) rfl ?_
        exact SJ.cut_end [0, 1, 2, 3, 4] ⟨rfl, rfl, rfl, rfl, trivial⟩ ⟨by decide, rfl⟩
    refine SJ.nil ?_
    refine PJ.next ?_
    refine WJ.cond (t := x23.1) rfl (fun hb27 => ?_) (fun hb27 => ?_)
    · replace hm := ifT hm hb27
      refine WJ.reg ?_
      refine SJ.q (YldS.yld (y_move rfl)) rfl ?_
      refine SJ.q (YldS.yld (y_move rfl)) rfl ?_
      obtain ⟨e28, h29, hm⟩ := bindS hm
      refine SJ.q (YldS.yld (y_ixRow (k := 0) (R := fPress) rfl Tryd.runUnderlying28 Tryd.sizeOf35 rfl rfl h29)) rfl ?_
      refine SJ.q (YldS.yld (y_fldR fld35_1 rfl)) rfl ?_
      refine SJ.q (YldS.yld (y_loadR (k := 0) (i := (Int.toNat 0)) (off := 1) (u := .bool e28.shift) rfl Tryd.isAgg4 rfl (idx_get h29) rfl)) rfl ?_
      refine SJ.q (YldS.yld (y_not rfl)) rfl ?_
      obtain ⟨e30, h31, hm⟩ := bindS hm
      refine SJ.q (YldS.yld (y_ixRow (k := 0) (R := fPress) rfl Tryd.runUnderlying28 Tryd.sizeOf35 rfl rfl h31)) rfl ?_
      refine SJ.q (YldS.yld (y_fldR fld35_1 rfl)) rfl ?_
      refine SJ.storeRL (k := 0) (i := (Int.toNat 0)) (off := 1) (us := [.bool (!e28.shift)]) (b := (Press.mk e30.key (!e28.shift))) rfl rfl (idx_get h31) rfl rfl Tryd.sizeOf4 rfl rfl rfl ?_
      refine SJ.nil ?_
      exact PJ.joined ((List.set l13 (Int.toNat 0) (Press.mk e30.key (!e28.shift))), x23.2.at_, x23.2.seed) [0, 1, 4] hm ⟨rfl, rfl, rfl, trivial⟩ ⟨by decide, rfl⟩
    · replace hm := ifF hm hb27
      refine WJ.skip ?_
      exact PJ.joined (l13, x23.2.at_, x23.2.seed) [0, 1, 4] hm ⟨rfl, rfl, rfl, trivial⟩ ⟨by decide, rfl⟩
  · rintro ⟨l16, x17, x18⟩ hm
    subst hk20
    obtain ⟨kj34, hk35, hm⟩ := withK_open hm
    refine WJ.join (X := (List Press) × Value) (fun (x : (List Press) × Value) => kj34 x.1 = some r) (fun (x : (List Press) × Value) => [(6, v8), (8, x.2)]) (fun (x : (List Press) × Value) => [row x.2 35 fPress x.1, row v8 35 fPress r4.2.2]) ?_ ?_
    · clear hk35
      refine WJ.seq ?_
      refine WJ.reg ?_
      refine SJ.q (YldS.yld (y_move rfl)) rfl ?_
      obtain ⟨r36, h37, hm⟩ := bindS hm
      refine SJ.call1 (k := 1) rfl Tryd.call34 rfl (fun w S hw hA hO => ok_s_l00Src_one h37 w S _ (hr3.st1 hw hO) hA) rfl ?_
      rintro _ _ ⟨rfl, rfl⟩
      refine SJ.nil ?_
      refine PJ.next ?_
      refine WJ.cond (t := r36.1) rfl (fun hb38 => ?_) (fun hb38 => ?_)
      · replace hm := ifT hm hb38
        refine WJ.reg ?_
        refine SJ.q (YldS.yld (y_move rfl)) rfl ?_
        refine SJ.q (YldS.yld (y_build (parts := []) (places := [(0, 1), (1, 1)]) (r := [.int .i64 ((Press.mk 0 false).key), .bool ((Press.mk 0 false).shift)]) pl35 Tryd.zeroValue35 rfl rfl rfl rfl)) rfl ?_
        refine SJ.buildSlice (R := fPress) (os := [.tmp 38]) [(Press.mk 0 false)] Tryd.runUnderlying28 Tryd.sizeOf35 Tryd.zeroValue35 rfl rfl rfl rfl rfl rfl fun v39 => ?_
        obtain ⟨l40, h41, hm⟩ := bindS hm
        refine SJ.append (k := 2) (R := fPress) h41 rfl Tryd.underlying28 el35 rfl rfl rfl (fun w hw => (hw.row_rd (k := 0) rfl)) rfl fun v42 => ?_
        refine SJ.q (YldS.yld (y_assign rfl)) rfl ?_
        refine SJ.nil ?_
        exact PJ.joined (l40, v42) [2, 3] hm ⟨rfl, rfl, trivial⟩ ⟨by decide, rfl⟩
      · replace hm := ifF hm hb38
        refine WJ.skip ?_
        exact PJ.joined (l16, v15) [1, 2] hm ⟨rfl, rfl, trivial⟩ ⟨by decide, rfl⟩
    · rintro ⟨l32, v33⟩ hm
      subst hk35
      refine WJ.seq ?_
      refine WJ.quiet ?_
      refine QJ.step (YldS.yld (y_move rfl)) rfl ?_
      refine QJ.step (YldS.yld (y_move rfl)) rfl ?_
      refine QJ.step (YldS.yld (y_assign rfl)) rfl ?_
      refine QJ.step (YldS.yld (y_assign rfl)) rfl ?_
      refine QJ.done ?_
      refine PJ.next ?_
      refine WJ.ret ?_
      obtain rfl := Option.some.inj hm
      refine PJ.sel (L' := [row v8 35 fPress r4.2.2, row v33 35 fPress l32]) [1, 0] ⟨by decide, rfl⟩ ?_
      exact PJ.retn (vs := [v8, v33]) Tryd.results17 ⟨rfl, rfl, trivial⟩ ⟨_, _, rfl, rfl⟩

set_option maxRecDepth 100000 in
set_option maxHeartbeats 1000000 in
theorem ok_s_SamePresses {N : Nat} {a1 : List Press} {b4 : List Press} {r : Bool} (hm : s_SamePresses N a1 b4 = some r) (w : World) (v2 : Value) (hr3 : RdS w (cx w).Fz v2 fPress.rp a1) (v5 : Value) (hr6 : RdS w (cx w).Fz v5 fPress.rp b4) :
    Calls Tryd.prog 18 #[v2, v5] w (Ret (cx w) (.bool r)) := by
  unfold s_SamePresses at hm
  refine Calls.enter [v2, v5] Tryd.func18 rfl Tryd.ntmps18 rfl ?_
  refine WJ.seq ?_
  refine WJ.quiet ?_
  refine QJ.step (YldS.yld (y_assign rfl)) rfl ?_
  refine QJ.done ?_
  refine PJ.next ?_
  refine WJ.seq ?_
  refine WJ.seq ?_
  refine WJ.quiet ?_
  refine QJ.step (YldS.yld (y_move rfl)) rfl ?_
  refine QJ.step (YldS.yld (y_lenS Tryd.runUnderlying28 hr3 rfl)) rfl ?_
  refine QJ.step (YldS.yld (y_move rfl)) rfl ?_
  refine QJ.step (YldS.yld (y_lenS Tryd.runUnderlying28 hr6 rfl)) rfl ?_
  refine QJ.step (YldS.yld (y_bin rfl rfl rfl)) rfl ?_
  refine QJ.done ?_
  refine PJ.next ?_
  refine WJ.cond (t := ((List.length a1 : Int) != (List.length b4 : Int))) rfl (fun hb7 => ?_) (fun hb7 => ?_)
  · replace hm := ifT hm hb7
    refine WJ.seq ?_
    refine WJ.quiet ?_
    refine QJ.step (YldS.yld (y_assign rfl)) rfl ?_
    refine QJ.done ?_
    refine PJ.next ?_
    refine WJ.ret ?_
    refine PJ.then_ret ?_
    obtain rfl := Option.some.inj hm
    refine PJ.sel (L' := []) [] ⟨List.nodup_nil, rfl⟩ ?_
    exact PJ.retn (vs := [.bool false]) Tryd.results18 ⟨rfl, trivial⟩ ⟨rfl, rfl⟩
  · replace hm := ifF hm hb7
    refine WJ.skip ?_
    refine PJ.next ?_
    obtain ⟨kj8, hk9, hm⟩ := withK_open hm
    refine WJ.join (X := Unit) (fun (_ : Unit) => kj8  = some r) (fun (_ : Unit) => []) (fun (_ : Unit) => []) ?_ ?_
    · clear hk9
      refine WJ.seq ?_
      refine WJ.quiet ?_
      refine QJ.step (YldS.yld (y_assign rfl)) rfl ?_
      refine QJ.done ?_
      refine PJ.next ?_
      refine WJ.block ?_
      refine WJ.sel (L' := (fun (x : Int) => []) 0) [] ⟨List.nodup_nil, rfl⟩ ?_
      refine WJ.sub (m' := (fun (x : Int) => [(0, v2), (1, v5), (5, .int .i64 x)]) 0) ⟨rfl, rfl, rfl, trivial⟩ ?_
      refine WJ.loop (X := Int) (fun N (x : Int) => s_SamePresses_l1 kj8 a1 b4 N x = some r) (fun (x : Int) => [(0, v2), (1, v5), (5, .int .i64 x)]) (fun (x : Int) => []) ?_ N 0 hm
      · rintro N i10 hI
        have hm := hI; clear hI
        cases N with
        | zero => cases hm
        | succ N =>
        unfold s_SamePresses_l1 at hm
        refine WJ.seq ?_
        refine WJ.seq ?_
        refine WJ.quiet ?_
        refine QJ.step (YldS.yld (y_move rfl)) rfl ?_
        refine QJ.step (YldS.yld (y_move rfl)) rfl ?_
        refine QJ.step (YldS.yld (y_lenS Tryd.runUnderlying28 hr3 rfl)) rfl ?_
        refine QJ.step (YldS.yld (y_bin rfl rfl rfl)) rfl ?_
        refine QJ.done ?_
        refine PJ.next ?_
        refine WJ.cond (t := decide (i10 < (List.length a1 : Int))) rfl (fun hb11 => ?_) (fun hb11 => ?_)
        · replace hm := ifT hm hb11
          refine WJ.skip ?_
          refine PJ.next ?_
          refine WJ.seq ?_
          refine WJ.block ?_
          refine WJ.seq ?_
          refine WJ.quiet_draw follows (by kernel_rfl) ?_
          refine QJ.step (YldS.yld (y_move rfl)) rfl ?_
          refine QJ.step (YldS.yld (y_move rfl)) rfl ?_
          obtain ⟨e12, h13, hm⟩ := bindS hm
          obtain ⟨ad14, _, rfl, ha15, hy16⟩ := hr3.elem h13
          refine QJ.step (YldS.yld (hy16 Tryd.runUnderlying28 Tryd.sizeOf35 rfl rfl)) rfl ?_
          refine QJ.step (YldS.yld (y_loadN Tryd.isAgg35 Tryd.sizeOf35 rfl ha15 St.frozenC rfl)) rfl ?_
          refine QJ.step (YldS.yld (y_move rfl)) rfl ?_
          refine QJ.step (YldS.yld (y_move rfl)) rfl ?_
          obtain ⟨e17, h18, hm⟩ := bindS hm
          obtain ⟨ad19, _, rfl, ha20, hy21⟩ := hr6.elem h18
          refine QJ.step (YldS.yld (hy21 Tryd.runUnderlying28 Tryd.sizeOf35 rfl rfl)) rfl ?_
          refine QJ.step (YldS.yld (y_loadN Tryd.isAgg35 Tryd.sizeOf35 rfl ha20 St.frozenC rfl)) rfl ?_
          refine QJ.step (YldS.yld (y_neT e12 e17 eq35 rfl rfl)) rfl ?_
          refine QJ.done ?_
          refine PJ.next ?_
          refine WJ.cond (t := !(Press.beq e12 e17)) rfl (fun hb22 => ?_) (fun hb22 => ?_)
          · replace hm := ifT hm hb22
            refine WJ.seq ?_
            refine WJ.quiet ?_
            refine QJ.step (YldS.yld (y_assign rfl)) rfl ?_
            refine QJ.done ?_
            refine PJ.next ?_
            refine WJ.ret ?_
            refine PJ.block_ret (PJ.then_ret (PJ.then_ret (PJ.block_ret (PJ.then_ret ?_))))
            obtain rfl := Option.some.inj hm
            refine PJ.sel (L' := []) [] ⟨List.nodup_nil, rfl⟩ ?_
            exact PJ.retn (vs := [.bool false]) Tryd.results18 ⟨rfl, trivial⟩ ⟨rfl, rfl⟩
          · replace hm := ifF hm hb22
            refine WJ.skip ?_
            refine PJ.block_normal (PJ.next ?_)
            refine WJ.quiet ?_
            refine QJ.step (YldS.yld (y_move rfl)) rfl ?_
            refine QJ.step (YldS.yld (y_bin rfl rfl rfl)) rfl ?_
            refine QJ.step (YldS.yld (y_assign rfl)) rfl ?_
            refine QJ.done ?_
            exact PJ.round (w64 (i10 + 1)) [] hm ⟨rfl, rfl, rfl, trivial⟩ ⟨List.nodup_nil, rfl⟩
        · replace hm := ifF hm hb11
          refine WJ.exit ?_
          refine PJ.then_exit (PJ.then_exit (PJ.block_exit ?_))
          exact PJ.joined () [] hm trivial ⟨List.nodup_nil, rfl⟩
    · rintro _ hm
      subst hk9
      refine WJ.seq ?_
      refine WJ.quiet ?_
      refine QJ.step (YldS.yld (y_assign rfl)) rfl ?_
      refine QJ.done ?_
      refine PJ.next ?_
      refine WJ.ret ?_
      obtain rfl := Option.some.inj hm
      refine PJ.sel (L' := []) [] ⟨List.nodup_nil, rfl⟩ ?_
      exact PJ.retn (vs := [.bool true]) Tryd.results18 ⟨rfl, trivial⟩ ⟨rfl, rfl⟩

set_option maxRecDepth 100000 in
set_option maxHeartbeats 1000000 in
theorem ok_s_PressText {N : Nat} {p1 : Press} {r : Str} (hm : s_PressText N p1 = some r) (w : World)  :
    Calls Tryd.prog 19 #[.agg (Press.enc p1).toArray] w (Ret (cx w) (str r)) := by
  unfold s_PressText at hm
  refine Calls.enter [.agg (Press.enc p1).toArray] Tryd.func19 rfl Tryd.ntmps19 rfl ?_
  refine WJ.seq ?_
  refine WJ.reg ?_
  refine SJ.box (cs := [.int .i64 p1.key, .bool p1.shift]) rfl rfl rfl fun g2 => ?_
  refine SJ.q (YldS.yld (y_assign rfl)) rfl ?_
  refine SJ.nil ?_
  refine PJ.next ?_
  refine WJ.seq ?_
  refine WJ.seq ?_
  refine WJ.quiet ?_
  refine QJ.step (YldS.yld (y_fldB (o := 0) fld35_0 rfl)) rfl ?_
  refine QJ.step (YldS.yld (y_loadB (k := 0) (off := 0) (v := .int .i64 p1.key) rfl Tryd.isAgg2 rfl rfl)) rfl ?_
  obtain ⟨r3, h4, hm⟩ := bindS hm
  refine QJ.step (y_call Tryd.call41 rfl (RetG.quiet fun w hw => ok_s_l00In h4 w )) rfl ?_
  refine QJ.step (YldS.yld (y_not rfl)) rfl ?_
  refine QJ.done ?_
  refine PJ.next ?_
  refine WJ.cond (t := !r3) rfl (fun hb5 => ?_) (fun hb5 => ?_)
  · replace hm := ifT hm hb5
    refine WJ.seq ?_
    refine WJ.quiet ?_
    refine QJ.step (YldS.yld (y_assign rfl)) rfl ?_
    refine QJ.done ?_
    refine PJ.next ?_
    refine WJ.ret ?_
    refine PJ.then_ret ?_
    obtain rfl := Option.some.inj hm
    refine PJ.sel (L' := []) [] ⟨List.nodup_nil, rfl⟩ ?_
    exact PJ.retn (vs := [str []]) Tryd.results19 ⟨rfl, trivial⟩ ⟨rfl, rfl⟩
  · replace hm := ifF hm hb5
    refine WJ.skip ?_
    refine PJ.next ?_
    refine WJ.seq ?_
    refine WJ.quiet ?_
    refine QJ.step (YldS.yld (y_loadBN (k := 0) (off := 0) (us := [.int .i64 p1.key, .bool p1.shift]) rfl Tryd.isAgg35 Tryd.sizeOf35 rfl rfl)) rfl ?_
    obtain ⟨r6, h7, hm⟩ := bindS hm
    refine QJ.step (y_call Tryd.call38 rfl (RetG.quiet fun w hw => ok_s_l02PressText h7 w )) rfl ?_
    refine QJ.step (YldS.yld (y_assign rfl)) rfl ?_
    refine QJ.done ?_
    refine PJ.next ?_
    refine WJ.ret ?_
    obtain rfl := Option.some.inj hm
    refine PJ.sel (L' := []) [] ⟨List.nodup_nil, rfl⟩ ?_
    exact PJ.retn (vs := [str r6]) Tryd.results19 ⟨rfl, trivial⟩ ⟨rfl, rfl⟩

set_option maxRecDepth 100000 in
set_option maxHeartbeats 1000000 in
theorem ok_i_SamePresses {N : Nat} {a1 : List Press} {b4 : List Press} {r : Bool} (hm : i_SamePresses N a1 b4 = some r) (w : World) (v2 : Value) (hr3 : RdS w (cx w).Fz v2 fPress.rp a1) (v5 : Value) (hr6 : RdS w (cx w).Fz v5 fPress.rp b4) :
    Calls Tryd.prog 20 #[v2, v5] w (Ret (cx w) (.bool r)) := by
  unfold i_SamePresses at hm
  refine Calls.enter [v2, v5] Tryd.func20 rfl Tryd.ntmps20 rfl ?_
  refine WJ.seq ?_
  refine WJ.quiet ?_
  refine QJ.step (YldS.yld (y_assign rfl)) rfl ?_
  refine QJ.done ?_
  refine PJ.next ?_
  refine WJ.seq ?_
  refine WJ.seq ?_
  refine WJ.quiet ?_
  refine QJ.step (YldS.yld (y_move rfl)) rfl ?_
  refine QJ.step (YldS.yld (y_lenS Tryd.runUnderlying28 hr3 rfl)) rfl ?_
  refine QJ.step (YldS.yld (y_move rfl)) rfl ?_
  refine QJ.step (YldS.yld (y_lenS Tryd.runUnderlying28 hr6 rfl)) rfl ?_
  refine QJ.step (YldS.yld (y_bin rfl rfl rfl)) rfl ?_
  refine QJ.done ?_
  refine PJ.next ?_
  refine WJ.cond (t := ((List.length a1 : Int) != (List.length b4 : Int))) rfl (fun hb7 => ?_) (fun hb7 => ?_)
  · replace hm := ifT hm hb7
    refine WJ.seq ?_
    refine WJ.quiet ?_
    refine QJ.step (YldS.yld (y_assign rfl)) rfl ?_
    refine QJ.done ?_
    refine PJ.next ?_
    refine WJ.ret ?_
    refine PJ.then_ret ?_
    obtain rfl := Option.some.inj hm
    refine PJ.sel (L' := []) [] ⟨List.nodup_nil, rfl⟩ ?_
    exact PJ.retn (vs := [.bool false]) Tryd.results20 ⟨rfl, trivial⟩ ⟨rfl, rfl⟩
  · replace hm := ifF hm hb7
    refine WJ.skip ?_
    refine PJ.next ?_
    obtain ⟨kj8, hk9, hm⟩ := withK_open hm
    refine WJ.join (X := Unit) (fun (_ : Unit) => kj8  = some r) (fun (_ : Unit) => []) (fun (_ : Unit) => []) ?_ ?_
    · clear hk9
      refine WJ.seq ?_
      refine WJ.quiet ?_
      refine QJ.step (YldS.yld (y_move rfl)) rfl ?_
      refine QJ.step (YldS.yld (y_lenS Tryd.runUnderlying28 hr3 rfl)) rfl ?_
      refine QJ.step (YldS.yld (y_move rfl)) rfl ?_
      refine QJ.done ?_
      refine PJ.next ?_
      refine WJ.block ?_
      refine WJ.sel (L' := (fun (x : Int) => []) 0) [] ⟨List.nodup_nil, rfl⟩ ?_
      refine WJ.sub (m' := (fun (x : Int) => [(0, v2), (1, v5), (12, .int .i64 (List.length a1 : Int)), (13, .int .i64 x)]) 0) ⟨rfl, rfl, rfl, rfl, trivial⟩ ?_
      refine WJ.loop (X := Int) (fun N (x : Int) => i_SamePresses_l1 kj8 a1 b4 N x = some r) (fun (x : Int) => [(0, v2), (1, v5), (12, .int .i64 (List.length a1 : Int)), (13, .int .i64 x)]) (fun (x : Int) => []) ?_ N 0 hm
      · rintro N x10 hI
        have hm := hI; clear hI
        cases N with
        | zero => cases hm
        | succ N =>
        unfold i_SamePresses_l1 at hm
        refine WJ.seq ?_
        refine WJ.quiet ?_
        refine QJ.step (YldS.yld (y_bin rfl rfl rfl)) rfl ?_
        refine QJ.done ?_
        refine PJ.next ?_
        refine WJ.seq ?_
        refine WJ.cond (t := decide (x10 < (List.length a1 : Int))) rfl (fun hb11 => ?_) (fun hb11 => ?_)
        · replace hm := ifT hm hb11
          refine WJ.skip ?_
          refine PJ.next ?_
          refine WJ.seq ?_
          refine WJ.block ?_
          refine WJ.seq ?_
          refine WJ.quiet ?_
          refine QJ.step (YldS.yld (y_move rfl)) rfl ?_
          refine QJ.step (YldS.yld (y_assign rfl)) rfl ?_
          refine QJ.done ?_
          refine PJ.next ?_
          refine WJ.seq ?_
          refine WJ.quiet_draw follows (by kernel_rfl) ?_
          refine QJ.step (YldS.yld (y_move rfl)) rfl ?_
          refine QJ.step (YldS.yld (y_move rfl)) rfl ?_
          obtain ⟨e12, h13, hm⟩ := bindS hm
          obtain ⟨ad14, _, rfl, ha15, hy16⟩ := hr3.elem h13
          refine QJ.step (YldS.yld (hy16 Tryd.runUnderlying28 Tryd.sizeOf35 rfl rfl)) rfl ?_
          refine QJ.step (YldS.yld (y_loadN Tryd.isAgg35 Tryd.sizeOf35 rfl ha15 St.frozenC rfl)) rfl ?_
          refine QJ.step (YldS.yld (y_move rfl)) rfl ?_
          refine QJ.step (YldS.yld (y_move rfl)) rfl ?_
          obtain ⟨e17, h18, hm⟩ := bindS hm
          obtain ⟨ad19, _, rfl, ha20, hy21⟩ := hr6.elem h18
          refine QJ.step (YldS.yld (hy21 Tryd.runUnderlying28 Tryd.sizeOf35 rfl rfl)) rfl ?_
          refine QJ.step (YldS.yld (y_loadN Tryd.isAgg35 Tryd.sizeOf35 rfl ha20 St.frozenC rfl)) rfl ?_
          refine QJ.step (YldS.yld (y_neT e12 e17 eq35 rfl rfl)) rfl ?_
          refine QJ.done ?_
          refine PJ.next ?_
          refine WJ.cond (t := !(Press.beq e12 e17)) rfl (fun hb22 => ?_) (fun hb22 => ?_)
          · replace hm := ifT hm hb22
            refine WJ.seq ?_
            refine WJ.quiet ?_
            refine QJ.step (YldS.yld (y_assign rfl)) rfl ?_
            refine QJ.done ?_
            refine PJ.next ?_
            refine WJ.ret ?_
            refine PJ.block_ret (PJ.then_ret (PJ.then_ret (PJ.block_ret (PJ.then_ret ?_))))
            obtain rfl := Option.some.inj hm
            refine PJ.sel (L' := []) [] ⟨List.nodup_nil, rfl⟩ ?_
            exact PJ.retn (vs := [.bool false]) Tryd.results20 ⟨rfl, trivial⟩ ⟨rfl, rfl⟩
          · replace hm := ifF hm hb22
            refine WJ.skip ?_
            refine PJ.block_normal (PJ.next ?_)
            refine WJ.quiet ?_
            refine QJ.step (YldS.yld (y_bin rfl rfl rfl)) rfl ?_
            refine QJ.step (YldS.yld (y_move rfl)) rfl ?_
            refine QJ.done ?_
            exact PJ.round (w64 (x10 + 1)) [] hm ⟨rfl, rfl, rfl, rfl, trivial⟩ ⟨List.nodup_nil, rfl⟩
        · replace hm := ifF hm hb11
          refine WJ.exit ?_
          refine PJ.then_exit (PJ.then_exit (PJ.block_exit ?_))
          exact PJ.joined () [] hm trivial ⟨List.nodup_nil, rfl⟩
    · rintro _ hm
      subst hk9
      refine WJ.seq ?_
      refine WJ.quiet ?_
      refine QJ.step (YldS.yld (y_assign rfl)) rfl ?_
      refine QJ.done ?_
      refine PJ.next ?_
      refine WJ.ret ?_
      obtain rfl := Option.some.inj hm
      refine PJ.sel (L' := []) [] ⟨List.nodup_nil, rfl⟩ ?_
      exact PJ.retn (vs := [.bool true]) Tryd.results20 ⟨rfl, trivial⟩ ⟨rfl, rfl⟩

set_option maxRecDepth 100000 in
set_option maxHeartbeats 1000000 in
theorem ok_s_ValidKeys {N : Nat} {keys1 : List Key} {accents4 : List Accent} {r : Bool} (hm : s_ValidKeys N keys1 accents4 = some r) (w : World) (v2 : Value) (hr3 : RdS w (cx w).Fz v2 fKey.rp keys1) (v5 : Value) (hr6 : RdS w (cx w).Fz v5 fAccent.rp accents4) :
    Calls Tryd.prog 22 #[v2, v5] w (Ret (cx w) (.bool r)) := by
  unfold s_ValidKeys at hm
  refine Calls.enter [v2, v5] Tryd.func22 rfl Tryd.ntmps22 rfl ?_
  refine WJ.seq ?_
  refine WJ.quiet ?_
  refine QJ.step (YldS.yld (y_assign rfl)) rfl ?_
  refine QJ.done ?_
  refine PJ.next ?_
  refine WJ.seq ?_
  refine WJ.quiet ?_
  refine QJ.step (YldS.yld (y_move rfl)) rfl ?_
  refine QJ.step (YldS.yld (y_move rfl)) rfl ?_
  obtain ⟨r7, h8, hm⟩ := bindS hm
  refine QJ.step (y_call Tryd.call31 rfl (RetG.quiet fun w hw => ok_s_l02Ok h8 w _ (hr3.st hw) _ (hr6.st hw))) rfl ?_
  refine QJ.step (YldS.yld (y_assign rfl)) rfl ?_
  refine QJ.done ?_
  refine PJ.next ?_
  refine WJ.ret ?_
  obtain rfl := Option.some.inj hm
  refine PJ.sel (L' := []) [] ⟨List.nodup_nil, rfl⟩ ?_
  exact PJ.retn (vs := [.bool r7]) Tryd.results22 ⟨rfl, trivial⟩ ⟨rfl, rfl⟩

set_option maxRecDepth 100000 in
set_option maxHeartbeats 1000000 in
theorem ok_i_printed {keys1 : List Key} {p4 : Press} {r : Str} (hm : i_printed keys1 p4 = some r) (w : World) (v2 : Value) (hr3 : RdS w (cx w).Fz v2 fKey.rp keys1) :
    Calls Tryd.prog 44 #[v2, .agg (Press.enc p4).toArray] w (Ret (cx w) (str r)) := by
  unfold i_printed at hm
  refine Calls.enter [v2, .agg (Press.enc p4).toArray] Tryd.func44 rfl Tryd.ntmps44 rfl ?_
  refine WJ.seq ?_
  refine WJ.reg ?_
  refine SJ.box (cs := [.int .i64 p4.key, .bool p4.shift]) rfl rfl rfl fun g5 => ?_
  refine SJ.q (YldS.yld (y_assign rfl)) rfl ?_
  refine SJ.nil ?_
  refine PJ.next ?_
  refine WJ.seq ?_
  refine WJ.seq ?_
  refine WJ.quiet ?_
  refine QJ.step (YldS.yld (y_fldB (o := 0) fld35_1 rfl)) rfl ?_
  refine QJ.step (YldS.yld (y_loadB (k := 0) (off := 1) (v := .bool p4.shift) rfl Tryd.isAgg4 rfl rfl)) rfl ?_
  refine QJ.done ?_
  refine PJ.next ?_
  refine WJ.cond (t := p4.shift) rfl (fun hb6 => ?_) (fun hb6 => ?_)
  · replace hm := ifT hm hb6
    refine WJ.seq ?_
    refine WJ.quiet ?_
    refine QJ.step (YldS.yld (y_move rfl)) rfl ?_
    refine QJ.step (YldS.yld (y_fldB (o := 0) fld35_0 rfl)) rfl ?_
    refine QJ.step (YldS.yld (y_loadB (k := 0) (off := 0) (v := .int .i64 p4.key) rfl Tryd.isAgg2 rfl rfl)) rfl ?_
    obtain ⟨e7, h8, hm⟩ := bindS hm
    obtain ⟨ad9, _, rfl, ha10, hy11⟩ := hr3.elem h8
    refine QJ.step (YldS.yld (hy11 Tryd.runUnderlying24 Tryd.sizeOf54 rfl rfl)) rfl ?_
    refine QJ.step (YldS.yld (y_fld (ad := ad9) fld54_1 rfl)) rfl ?_
    refine QJ.step (YldS.yld (y_load1 (v := str e7.high) Tryd.isAgg9 (ha10.sub 1 1) St.frozenC rfl)) rfl ?_
    refine QJ.step (YldS.yld (y_assign rfl)) rfl ?_
    refine QJ.done ?_
    refine PJ.next ?_
    refine WJ.ret ?_
    refine PJ.then_ret ?_
    obtain rfl := Option.some.inj hm
    refine PJ.sel (L' := []) [] ⟨List.nodup_nil, rfl⟩ ?_
    exact PJ.retn (vs := [str e7.high]) Tryd.results44 ⟨rfl, trivial⟩ ⟨rfl, rfl⟩
  · replace hm := ifF hm hb6
    refine WJ.skip ?_
    refine PJ.next ?_
    refine WJ.seq ?_
    refine WJ.quiet ?_
    refine QJ.step (YldS.yld (y_move rfl)) rfl ?_
    refine QJ.step (YldS.yld (y_fldB (o := 0) fld35_0 rfl)) rfl ?_
    refine QJ.step (YldS.yld (y_loadB (k := 0) (off := 0) (v := .int .i64 p4.key) rfl Tryd.isAgg2 rfl rfl)) rfl ?_
    obtain ⟨e12, h13, hm⟩ := bindS hm
    obtain ⟨ad14, _, rfl, ha15, hy16⟩ := hr3.elem h13
    refine QJ.step (YldS.yld (hy16 Tryd.runUnderlying24 Tryd.sizeOf54 rfl rfl)) rfl ?_
    refine QJ.step (YldS.yld (y_fld (ad := ad14) fld54_0 rfl)) rfl ?_
    refine QJ.step (YldS.yld (y_load1 (v := str e12.low) Tryd.isAgg9 (ha15.sub 0 1) St.frozenC rfl)) rfl ?_
    refine QJ.step (YldS.yld (y_assign rfl)) rfl ?_
    refine QJ.done ?_
    refine PJ.next ?_
    refine WJ.ret ?_
    obtain rfl := Option.some.inj hm
    refine PJ.sel (L' := []) [] ⟨List.nodup_nil, rfl⟩ ?_
    exact PJ.retn (vs := [str e12.low]) Tryd.results44 ⟨rfl, trivial⟩ ⟨rfl, rfl⟩

set_option maxRecDepth 100000 in
set_option maxHeartbeats 1000000 in
theorem ok_i_TextOfPresses {N : Nat} {keys1 : List Key} {accents4 : List Accent} {list7 : List Press} {r : Str × Int} (hm : i_TextOfPresses N keys1 accents4 list7 = some r) (w : World) (v2 : Value) (hr3 : RdS w (cx w).Fz v2 fKey.rp keys1) (v5 : Value) (hr6 : RdS w (cx w).Fz v5 fAccent.rp accents4) (v8 : Value) (hr9 : RdS w (cx w).Fz v8 fPress.rp list7) :
    Calls Tryd.prog 23 #[v2, v5, v8] w (Ret (cx w) (tup [str r.1, .int .i64 r.2])) := by
  unfold i_TextOfPresses at hm
  refine Calls.enter [v2, v5, v8] Tryd.func23 rfl Tryd.ntmps23 rfl ?_
  refine WJ.seq ?_
  refine WJ.quiet ?_
  refine QJ.step (YldS.yld (y_assign rfl)) rfl ?_
  refine QJ.step (YldS.yld (y_assign rfl)) rfl ?_
  refine QJ.done ?_
  refine PJ.next ?_
  refine WJ.seq ?_
  refine WJ.seq ?_
  refine WJ.quiet ?_
  refine QJ.step (YldS.yld (y_move rfl)) rfl ?_
  refine QJ.step (YldS.yld (y_move rfl)) rfl ?_
  obtain ⟨r10, h11, hm⟩ := bindS hm
  refine QJ.step (y_call Tryd.call21 rfl (RetG.quiet fun w hw => ok_i_ValidKeys h11 w _ (hr3.st hw) _ (hr6.st hw))) rfl ?_
  refine QJ.step (YldS.yld (y_not rfl)) rfl ?_
  refine QJ.done ?_
  refine PJ.next ?_
  refine WJ.cond (t := !r10) rfl (fun hb12 => ?_) (fun hb12 => ?_)
  · replace hm := ifT hm hb12
    refine WJ.seq ?_
    refine WJ.quiet ?_
    refine QJ.step (YldS.yld (y_assign rfl)) rfl ?_
    refine QJ.step (YldS.yld (y_assign rfl)) rfl ?_
    refine QJ.done ?_
    refine PJ.next ?_
    refine WJ.ret ?_
    refine PJ.then_ret ?_
    obtain rfl := Option.some.inj hm
    refine PJ.sel (L' := []) [] ⟨List.nodup_nil, rfl⟩ ?_
    exact PJ.retn (vs := [str [], .int .i64 1]) Tryd.results23 ⟨rfl, rfl, trivial⟩ ⟨rfl, rfl⟩
  · replace hm := ifF hm hb12
    refine WJ.skip ?_
    refine PJ.next ?_
    refine WJ.seq ?_
    refine WJ.seq ?_
    refine WJ.quiet ?_
    refine QJ.step (YldS.yld (y_move rfl)) rfl ?_
    refine QJ.step (YldS.yld (y_lenS Tryd.runUnderlying28 hr9 rfl)) rfl ?_
    refine QJ.step (YldS.yld (y_bin rfl rfl rfl)) rfl ?_
    refine QJ.done ?_
    refine PJ.next ?_
    refine WJ.cond (t := decide ((List.length list7 : Int) > 200)) rfl (fun hb13 => ?_) (fun hb13 => ?_)
    · replace hm := ifT hm hb13
      refine WJ.seq ?_
      refine WJ.quiet ?_
      refine QJ.step (YldS.yld (y_assign rfl)) rfl ?_
      refine QJ.step (YldS.yld (y_assign rfl)) rfl ?_
      refine QJ.done ?_
      refine PJ.next ?_
      refine WJ.ret ?_
      refine PJ.then_ret ?_
      obtain rfl := Option.some.inj hm
      refine PJ.sel (L' := []) [] ⟨List.nodup_nil, rfl⟩ ?_
      exact PJ.retn (vs := [str [], .int .i64 2]) Tryd.results23 ⟨rfl, rfl, trivial⟩ ⟨rfl, rfl⟩
    · replace hm := ifF hm hb13
      refine WJ.skip ?_
      refine PJ.next ?_
      obtain ⟨kj14, hk15, hm⟩ := withK_open hm
      refine WJ.join (X := Unit) (fun (_ : Unit) => kj14  = some r) (fun (_ : Unit) => [(0, v2), (1, v5), (2, v8)]) (fun (_ : Unit) => []) ?_ ?_
      · clear hk15
        refine WJ.seq ?_
        refine WJ.quiet ?_
        refine QJ.step (YldS.yld (y_move rfl)) rfl ?_
        refine QJ.step (YldS.yld (y_lenS Tryd.runUnderlying28 hr9 rfl)) rfl ?_
        refine QJ.step (YldS.yld (y_move rfl)) rfl ?_
        refine QJ.done ?_
        refine PJ.next ?_
        refine WJ.block ?_
        refine WJ.sel (L' := (fun (x : Int) => []) 0) [] ⟨List.nodup_nil, rfl⟩ ?_
        refine WJ.sub (m' := (fun (x : Int) => [(0, v2), (1, v5), (2, v8), (23, v8), (24, .int .i64 (List.length list7 : Int)), (25, .int .i64 x)]) 0) ⟨rfl, rfl, rfl, rfl, rfl, rfl, trivial⟩ ?_
        refine WJ.loop (X := Int) (fun N (x : Int) => i_TextOfPresses_l1 kj14 keys1 list7 N x = some r) (fun (x : Int) => [(0, v2), (1, v5), (2, v8), (23, v8), (24, .int .i64 (List.length list7 : Int)), (25, .int .i64 x)]) (fun (x : Int) => []) ?_ N 0 hm
        · rintro N x16 hI
          have hm := hI; clear hI
          cases N with
          | zero => cases hm
          | succ N =>
          unfold i_TextOfPresses_l1 at hm
          refine WJ.seq ?_
          refine WJ.quiet ?_
          refine QJ.step (YldS.yld (y_bin rfl rfl rfl)) rfl ?_
          refine QJ.done ?_
          refine PJ.next ?_
          refine WJ.seq ?_
          refine WJ.cond (t := decide (x16 < (List.length list7 : Int))) rfl (fun hb17 => ?_) (fun hb17 => ?_)
          · replace hm := ifT hm hb17
            refine WJ.skip ?_
            refine PJ.next ?_
            refine WJ.seq ?_
            refine WJ.block ?_
            refine WJ.seq ?_
            refine WJ.reg ?_
            obtain ⟨e18, h19, hm⟩ := bindS hm
            obtain ⟨ad20, _, rfl, ha21, hy22⟩ := hr9.elem h19
            refine SJ.q (YldS.yld (hy22 Tryd.runUnderlying28 Tryd.sizeOf35 rfl rfl)) rfl ?_
            refine SJ.q (YldS.yld (y_loadN Tryd.isAgg35 Tryd.sizeOf35 rfl ha21 St.frozenC rfl)) rfl ?_
            refine SJ.alloc (cs := [.int .i64 0, .bool false]) Tryd.zeroValue35 rfl rfl fun g23 => ?_
            refine SJ.storeL (k := 0) (off := 0) (us := [.int .i64 e18.key, .bool e18.shift]) rfl rfl rfl rfl Tryd.sizeOf35 rfl rfl ?_
            refine SJ.nil ?_
            refine PJ.next ?_
            refine WJ.seq ?_
            refine WJ.quiet ?_
            refine QJ.step (YldS.yld (y_fldB (o := 0) fld35_0 rfl)) rfl ?_
            refine QJ.step (YldS.yld (y_loadB (k := 0) (off := 0) (v := .int .i64 e18.key) rfl Tryd.isAgg2 rfl rfl)) rfl ?_
            refine QJ.step (YldS.yld (y_move rfl)) rfl ?_
            refine QJ.step (YldS.yld (y_lenS Tryd.runUnderlying24 hr3 rfl)) rfl ?_
            refine QJ.step (YldS.yld (y_bin rfl rfl rfl)) rfl ?_
            obtain ⟨r24, h25, hm⟩ := bindS hm
            refine QJ.step (y_call Tryd.call35 rfl (RetG.quiet fun w hw => ok_i_between h25 w )) rfl ?_
            refine QJ.step (YldS.yld (y_not rfl)) rfl ?_
            refine QJ.done ?_
            refine PJ.next ?_
            refine WJ.cond (t := !r24) rfl (fun hb26 => ?_) (fun hb26 => ?_)
            · replace hm := ifT hm hb26
              refine WJ.seq ?_
              refine WJ.quiet ?_
              refine QJ.step (YldS.yld (y_assign rfl)) rfl ?_
              refine QJ.step (YldS.yld (y_assign rfl)) rfl ?_
              refine QJ.done ?_
              refine PJ.next ?_
              refine WJ.ret ?_
              refine PJ.block_ret (PJ.then_ret (PJ.then_ret (PJ.block_ret (PJ.then_ret ?_))))
              obtain rfl := Option.some.inj hm
              refine PJ.sel (L' := []) [] ⟨List.nodup_nil, rfl⟩ ?_
              exact PJ.retn (vs := [str [], .int .i64 2]) Tryd.results23 ⟨rfl, rfl, trivial⟩ ⟨rfl, rfl⟩
            · replace hm := ifF hm hb26
              refine WJ.skip ?_
              refine PJ.block_normal (PJ.next ?_)
              refine WJ.quiet ?_
              refine QJ.step (YldS.yld (y_bin rfl rfl rfl)) rfl ?_
              refine QJ.step (YldS.yld (y_move rfl)) rfl ?_
              refine QJ.done ?_
              exact PJ.round (w64 (x16 + 1)) [] hm ⟨rfl, rfl, rfl, rfl, rfl, rfl, trivial⟩ ⟨List.nodup_nil, rfl⟩
          · replace hm := ifF hm hb17
            refine WJ.exit ?_
            refine PJ.then_exit (PJ.then_exit (PJ.block_exit ?_))
            exact PJ.joined () [] hm ⟨rfl, rfl, rfl, trivial⟩ ⟨List.nodup_nil, rfl⟩
      · rintro _ hm
        subst hk15
        refine WJ.seq ?_
        refine WJ.quiet ?_
        refine QJ.step (YldS.yld (y_assign rfl)) rfl ?_
        refine QJ.done ?_
        refine PJ.next ?_
        obtain ⟨kj28, hk29, hm⟩ := withK_open hm
        refine WJ.join (X := Str) (fun (x : Str) => kj28 x = some r) (fun (x : Str) => [(10, str x)]) (fun (x : Str) => []) ?_ ?_
        · clear hk29
          refine WJ.seq ?_
          refine WJ.quiet ?_
          refine QJ.step (YldS.yld (y_assign rfl)) rfl ?_
          refine QJ.done ?_
          refine PJ.next ?_
          refine WJ.block ?_
          refine WJ.sel (L' := (fun (x : Str × Int) => []) ([], 0)) [] ⟨List.nodup_nil, rfl⟩ ?_
          refine WJ.sub (m' := (fun (x : Str × Int) => [(0, v2), (1, v5), (2, v8), (10, str x.1), (11, .int .i64 x.2)]) ([], 0)) ⟨rfl, rfl, rfl, rfl, rfl, trivial⟩ ?_
          refine WJ.loop (X := Str × Int) (fun N (x : Str × Int) => i_TextOfPresses_l2 kj28 keys1 accents4 list7 N x.1 x.2 = some r) (fun (x : Str × Int) => [(0, v2), (1, v5), (2, v8), (10, str x.1), (11, .int .i64 x.2)]) (fun (x : Str × Int) => []) ?_ N ([], 0) hm
          · rintro N ⟨out30, i31⟩ hI
            have hm := hI; clear hI
            cases N with
            | zero => cases hm
            | succ N =>
            unfold i_TextOfPresses_l2 at hm
            refine WJ.seq ?_
            refine WJ.seq ?_
            refine WJ.quiet ?_
            refine QJ.step (YldS.yld (y_move rfl)) rfl ?_
            refine QJ.step (YldS.yld (y_move rfl)) rfl ?_
            refine QJ.step (YldS.yld (y_lenS Tryd.runUnderlying28 hr9 rfl)) rfl ?_
            refine QJ.step (YldS.yld (y_bin rfl rfl rfl)) rfl ?_
            refine QJ.done ?_
            refine PJ.next ?_
            refine WJ.cond (t := decide (i31 < (List.length list7 : Int))) rfl (fun hb32 => ?_) (fun hb32 => ?_)
            · replace hm := ifT hm hb32
              refine WJ.skip ?_
              refine PJ.next ?_
              obtain ⟨kj35, hk36, hm⟩ := withK_open hm
              refine WJ.join (X := Str × Int) (fun (x : Str × Int) => kj35 x.1 x.2 = some r) (fun (x : Str × Int) => [(0, v2), (1, v5), (2, v8), (10, str x.1), (11, .int .i64 x.2)]) (fun (x : Str × Int) => []) ?_ ?_
              · clear hk36
                refine WJ.block ?_
                refine WJ.seq ?_
                refine WJ.quiet ?_
                refine QJ.step (YldS.yld (y_move rfl)) rfl ?_
                refine QJ.step (YldS.yld (y_move rfl)) rfl ?_
                refine QJ.step (YldS.yld (y_move rfl)) rfl ?_
                obtain ⟨e37, h38, hm⟩ := bindS hm
                obtain ⟨ad39, _, rfl, ha40, hy41⟩ := hr9.elem h38
                refine QJ.step (YldS.yld (hy41 Tryd.runUnderlying28 Tryd.sizeOf35 rfl rfl)) rfl ?_
                refine QJ.step (YldS.yld (y_loadN Tryd.isAgg35 Tryd.sizeOf35 rfl ha40 St.frozenC rfl)) rfl ?_
                obtain ⟨r42, h43, hm⟩ := bindS hm
                refine QJ.step (y_call Tryd.call44 rfl (RetG.quiet fun w hw => ok_i_printed h43 w _ (hr3.st hw))) rfl ?_
                refine QJ.step (YldS.yld (y_assign rfl)) rfl ?_
                refine QJ.done ?_
                refine PJ.next ?_
                refine WJ.seq ?_
                refine WJ.seq ?_
                refine WJ.quiet ?_
                refine QJ.step (YldS.yld (y_move rfl)) rfl ?_
                refine QJ.step (YldS.yld (y_move rfl)) rfl ?_
                refine QJ.step (YldS.yld (y_move rfl)) rfl ?_
                obtain ⟨e44, h45, hm⟩ := bindS hm
                obtain ⟨ad46, _, rfl, ha47, hy48⟩ := hr9.elem h45
                refine QJ.step (YldS.yld (hy48 Tryd.runUnderlying28 Tryd.sizeOf35 rfl rfl)) rfl ?_
                refine QJ.step (YldS.yld (y_fld (ad := ad46) fld35_0 rfl)) rfl ?_
                refine QJ.step (YldS.yld (y_load1 (v := .int .i64 e44.key) Tryd.isAgg2 (ha47.sub 0 1) St.frozenC rfl)) rfl ?_
                obtain ⟨e49, h50, hm⟩ := bindS hm
                obtain ⟨ad51, _, rfl, ha52, hy53⟩ := hr3.elem h50
                refine QJ.step (YldS.yld (hy53 Tryd.runUnderlying24 Tryd.sizeOf54 rfl rfl)) rfl ?_
                refine QJ.step (YldS.yld (y_fld (ad := ad51) fld54_2 rfl)) rfl ?_
                refine QJ.step (YldS.yld (y_load1 (v := .bool e49.dead) Tryd.isAgg4 (ha52.sub 2 1) St.frozenC rfl)) rfl ?_
                refine QJ.step (YldS.yld (y_not rfl)) rfl ?_
                refine QJ.done ?_
                refine PJ.next ?_
                refine WJ.cond (t := !e49.dead) rfl (fun hb54 => ?_) (fun hb54 => ?_)
                · replace hm := ifT hm hb54
                  refine WJ.seq ?_
                  refine WJ.quiet ?_
                  refine QJ.step (YldS.yld (y_move rfl)) rfl ?_
                  refine QJ.step (YldS.yld (y_move rfl)) rfl ?_
                  obtain ⟨s55, h56, hm⟩ := bindS hm
                  refine QJ.step (YldS.yld (y_cat h56 rfl rfl)) rfl ?_
                  refine QJ.step (YldS.yld (y_assign rfl)) rfl ?_
                  refine QJ.done ?_
                  refine PJ.next ?_
                  refine WJ.exit ?_
                  refine PJ.then_exit (PJ.block_exit ?_)
                  exact PJ.joined (s55, i31) [] hm ⟨rfl, rfl, rfl, rfl, rfl, trivial⟩ ⟨List.nodup_nil, rfl⟩
                · replace hm := ifF hm hb54
                  refine WJ.skip ?_
                  refine PJ.next ?_
                  refine WJ.seq ?_
                  refine WJ.seq ?_
                  refine WJ.quiet ?_
                  refine QJ.step (YldS.yld (y_move rfl)) rfl ?_
                  refine QJ.step (YldS.yld (y_bin rfl rfl rfl)) rfl ?_
                  refine QJ.step (YldS.yld (y_move rfl)) rfl ?_
                  refine QJ.step (YldS.yld (y_lenS Tryd.runUnderlying28 hr9 rfl)) rfl ?_
                  refine QJ.step (YldS.yld (y_bin rfl rfl rfl)) rfl ?_
                  refine QJ.done ?_
                  refine PJ.next ?_
                  refine WJ.cond (t := ((w64 (i31 + 1)) == (List.length list7 : Int))) rfl (fun hb57 => ?_) (fun hb57 => ?_)
                  · replace hm := ifT hm hb57
                    refine WJ.seq ?_
                    refine WJ.quiet ?_
                    refine QJ.step (YldS.yld (y_assign rfl)) rfl ?_
                    refine QJ.step (YldS.yld (y_assign rfl)) rfl ?_
                    refine QJ.done ?_
                    refine PJ.next ?_
                    refine WJ.ret ?_
                    refine PJ.then_ret (PJ.block_ret (PJ.then_ret (PJ.then_ret (PJ.block_ret (PJ.then_ret ?_)))))
                    obtain rfl := Option.some.inj hm
                    refine PJ.sel (L' := []) [] ⟨List.nodup_nil, rfl⟩ ?_
                    exact PJ.retn (vs := [str [], .int .i64 6]) Tryd.results23 ⟨rfl, rfl, trivial⟩ ⟨rfl, rfl⟩
                  · replace hm := ifF hm hb57
                    refine WJ.skip ?_
                    refine PJ.next ?_
                    refine WJ.seq ?_
                    refine WJ.quiet ?_
                    refine QJ.step (YldS.yld (y_assign rfl)) rfl ?_
                    refine QJ.done ?_
                    refine PJ.next ?_
                    obtain ⟨kj59, hk60, hm⟩ := withK_open hm
                    refine WJ.join (X := Str) (fun (x : Str) => kj59 x = some r) (fun (x : Str) => [(0, v2), (1, v5), (2, v8), (10, str out30), (11, .int .i64 i31), (13, str x)]) (fun (x : Str) => []) ?_ ?_
                    · clear hk60
                      refine WJ.seq ?_
                      refine WJ.quiet ?_
                      refine QJ.step (YldS.yld (y_move rfl)) rfl ?_
                      refine QJ.step (YldS.yld (y_lenS Tryd.runUnderlying25 hr6 rfl)) rfl ?_
                      refine QJ.step (YldS.yld (y_move rfl)) rfl ?_
                      refine QJ.done ?_
                      refine PJ.next ?_
                      refine WJ.block ?_
                      refine WJ.sel (L' := (fun (x : Str × Int) => []) ([], 0)) [] ⟨List.nodup_nil, rfl⟩ ?_
                      refine WJ.sub (m' := (fun (x : Str × Int) => [(0, v2), (1, v5), (2, v8), (10, str out30), (11, .int .i64 i31), (12, str r42), (13, str x.1), (67, v5), (68, .int .i64 (List.length accents4 : Int)), (69, .int .i64 x.2)]) ([], 0)) ⟨rfl, rfl, rfl, rfl, rfl, rfl, rfl, rfl, rfl, rfl, trivial⟩ ?_
                      refine WJ.loop (X := Str × Int) (fun N (x : Str × Int) => i_TextOfPresses_l3 kj59 keys1 accents4 list7 i31 r42 N x.1 x.2 = some r) (fun (x : Str × Int) => [(0, v2), (1, v5), (2, v8), (10, str out30), (11, .int .i64 i31), (12, str r42), (13, str x.1), (67, v5), (68, .int .i64 (List.length accents4 : Int)), (69, .int .i64 x.2)]) (fun (x : Str × Int) => []) ?_ N ([], 0) hm
                      · rintro N ⟨made61, x62⟩ hI
                        have hm := hI; clear hI
                        cases N with
                        | zero => cases hm
                        | succ N =>
                        unfold i_TextOfPresses_l3 at hm
                        refine WJ.seq ?_
                        refine WJ.quiet ?_
                        refine QJ.step (YldS.yld (y_bin rfl rfl rfl)) rfl ?_
                        refine QJ.done ?_
                        refine PJ.next ?_
                        refine WJ.seq ?_
                        refine WJ.cond (t := decide (x62 < (List.length accents4 : Int))) rfl (fun hb63 => ?_) (fun hb63 => ?_)
                        · replace hm := ifT hm hb63
                          refine WJ.skip ?_
                          refine PJ.next ?_
                          obtain ⟨kj65, hk66, hm⟩ := withK_open hm
                          refine WJ.join (X := Str) (fun (x : Str) => kj65 x = some r) (fun (x : Str) => [(0, v2), (1, v5), (2, v8), (10, str out30), (11, .int .i64 i31), (12, str r42), (13, str x), (67, v5), (68, .int .i64 (List.length accents4 : Int)), (69, .int .i64 x62)]) (fun (x : Str) => []) ?_ ?_
                          · clear hk66
                            refine WJ.block ?_
                            refine WJ.seq ?_
                            refine WJ.reg ?_
                            obtain ⟨e67, h68, hm⟩ := bindS hm
                            obtain ⟨ad69, _, rfl, ha70, hy71⟩ := hr6.elem h68
                            refine SJ.q (YldS.yld (hy71 Tryd.runUnderlying25 Tryd.sizeOf56 rfl rfl)) rfl ?_
                            refine SJ.q (YldS.yld (y_loadN Tryd.isAgg56 Tryd.sizeOf56 rfl ha70 St.frozenC rfl)) rfl ?_
                            refine SJ.alloc (cs := [str [], str [], str []]) Tryd.zeroValue56 rfl rfl fun g72 => ?_
                            refine SJ.storeL (k := 0) (off := 0) (us := [str e67.mark, str e67.letter, str e67.made]) rfl rfl rfl rfl Tryd.sizeOf56 rfl rfl ?_
                            refine SJ.nil ?_
                            refine PJ.next ?_
                            refine WJ.seq ?_
                            refine WJ.quiet_draw follows (by kernel_rfl) ?_
                            refine QJ.step (YldS.yld (y_fldB (o := 0) fld56_0 rfl)) rfl ?_
                            refine QJ.step (YldS.yld (y_loadB (k := 0) (off := 0) (v := str e67.mark) rfl Tryd.isAgg9 rfl rfl)) rfl ?_
                            refine QJ.step (YldS.yld (y_move rfl)) rfl ?_
                            refine QJ.step (YldS.yld (y_binS rfl rfl rfl)) rfl ?_
                            refine QJ.step (YldS.yld (y_move rfl)) rfl ?_
                            obtain ⟨t73, h74, hm⟩ := bindS hm
                            refine QJ.cut 11 [(0, v2), (1, v5), (2, v8), (10, str out30), (11, .int .i64 i31), (12, str r42), (13, str made61), (15, pt g72 0), (67, v5), (68, .int .i64 (List.length accents4 : Int)), (69, .int .i64 x62), (88, .bool t73)] ?_ ?_
                            · rcases Bool.eq_false_or_eq_true (e67.mark == r42) with hb75 | hb75
                              · replace h74 := andT h74 hb75
                                refine QJ.on rfl rfl (cB hb75) (YldS.yld (y_fldB (o := 0) fld56_1 rfl)) rfl ?_
                                refine QJ.on rfl rfl (cB hb75) (YldS.yld (y_loadB (k := 0) (off := 1) (v := str e67.letter) rfl Tryd.isAgg9 rfl rfl)) rfl ?_
                                refine QJ.on rfl rfl (cB hb75) (YldS.yld (y_move rfl)) rfl ?_
                                refine QJ.on rfl rfl (cB hb75) (YldS.yld (y_move rfl)) rfl ?_
                                refine QJ.on rfl rfl (cB hb75) (YldS.yld (y_move rfl)) rfl ?_
                                refine QJ.on rfl rfl (cB hb75) (YldS.yld (y_bin rfl rfl rfl)) rfl ?_
                                obtain ⟨e76, h77, h74⟩ := bindS h74
                                obtain ⟨ad78, _, rfl, ha79, hy80⟩ := hr9.elem h77
                                refine QJ.on rfl rfl (cB hb75) (YldS.yld (hy80 Tryd.runUnderlying28 Tryd.sizeOf35 rfl rfl)) rfl ?_
                                refine QJ.on rfl rfl (cB hb75) (YldS.yld (y_loadN Tryd.isAgg35 Tryd.sizeOf35 rfl ha79 St.frozenC rfl)) rfl ?_
                                obtain ⟨r81, h82, h74⟩ := bindS h74
                                refine QJ.on rfl rfl (cB hb75) (y_call Tryd.call44 rfl (RetG.quiet fun w hw => ok_i_printed h82 w _ (hr3.st hw))) rfl ?_
                                refine QJ.on rfl rfl (cB hb75) (YldS.yld (y_binS rfl rfl rfl)) rfl ?_
                                refine QJ.step (YldS.yld (y_pick_t (cB hb75) rfl)) rfl ?_
                                obtain rfl := Option.some.inj h74
                                exact QJ.cut_end ⟨rfl, rfl, rfl, rfl, rfl, rfl, rfl, rfl, rfl, rfl, rfl, rfl, trivial⟩
                              · obtain rfl := andF h74 hb75
                                refine QJ.off rfl rfl (cB hb75) rfl rfl ?_
                                refine QJ.off rfl rfl (cB hb75) rfl rfl ?_
                                refine QJ.off rfl rfl (cB hb75) rfl rfl ?_
                                refine QJ.off rfl rfl (cB hb75) rfl rfl ?_
                                refine QJ.off rfl rfl (cB hb75) rfl rfl ?_
                                refine QJ.off rfl rfl (cB hb75) rfl rfl ?_
                                refine QJ.off rfl rfl (cB hb75) rfl rfl ?_
                                refine QJ.off rfl rfl (cB hb75) rfl rfl ?_
                                refine QJ.off rfl rfl (cB hb75) rfl rfl ?_
                                refine QJ.off rfl rfl (cB hb75) rfl rfl ?_
                                refine QJ.step (YldS.yld (y_pick_f (cB hb75) rfl)) rfl ?_
                                exact QJ.cut_end ⟨rfl, rfl, rfl, rfl, rfl, rfl, rfl, rfl, rfl, rfl, rfl, rfl, trivial⟩
                            refine QJ.done ?_
                            refine PJ.next ?_
                            refine WJ.cond (t := t73) rfl (fun hb83 => ?_) (fun hb83 => ?_)
                            · replace hm := ifT hm hb83
                              refine WJ.quiet ?_
                              refine QJ.step (YldS.yld (y_fldB (o := 0) fld56_2 rfl)) rfl ?_
                              refine QJ.step (YldS.yld (y_loadB (k := 0) (off := 2) (v := str e67.made) rfl Tryd.isAgg9 rfl rfl)) rfl ?_
                              refine QJ.step (YldS.yld (y_assign rfl)) rfl ?_
                              refine QJ.done ?_
                              refine PJ.block_normal ?_
                              exact PJ.joined e67.made [] hm ⟨rfl, rfl, rfl, rfl, rfl, rfl, rfl, rfl, rfl, rfl, trivial⟩ ⟨List.nodup_nil, rfl⟩
                            · replace hm := ifF hm hb83
                              refine WJ.skip ?_
                              refine PJ.block_normal ?_
                              exact PJ.joined made61 [] hm ⟨rfl, rfl, rfl, rfl, rfl, rfl, rfl, rfl, rfl, rfl, trivial⟩ ⟨List.nodup_nil, rfl⟩
                          · rintro made64 hm
                            subst hk66
                            refine WJ.quiet ?_
                            refine QJ.step (YldS.yld (y_bin rfl rfl rfl)) rfl ?_
                            refine QJ.step (YldS.yld (y_move rfl)) rfl ?_
                            refine QJ.done ?_
                            exact PJ.round (made64, w64 (x62 + 1)) [] hm ⟨rfl, rfl, rfl, rfl, rfl, rfl, rfl, rfl, rfl, rfl, trivial⟩ ⟨List.nodup_nil, rfl⟩
                        · replace hm := ifF hm hb63
                          refine WJ.exit ?_
                          refine PJ.then_exit (PJ.then_exit (PJ.block_exit ?_))
                          exact PJ.joined made61 [] hm ⟨rfl, rfl, rfl, rfl, rfl, rfl, trivial⟩ ⟨List.nodup_nil, rfl⟩
                    · rintro made58 hm
                      subst hk60
                      refine WJ.seq ?_
                      refine WJ.seq ?_
                      refine WJ.quiet ?_
                      refine QJ.step (YldS.yld (y_move rfl)) rfl ?_
                      refine QJ.step (YldS.yld (y_binS rfl rfl rfl)) rfl ?_
                      refine QJ.done ?_
                      refine PJ.next ?_
                      refine WJ.cond (t := (made58 == [])) rfl (fun hb84 => ?_) (fun hb84 => ?_)
                      · replace hm := ifT hm hb84
                        refine WJ.seq ?_
                        refine WJ.quiet ?_
                        refine QJ.step (YldS.yld (y_assign rfl)) rfl ?_
                        refine QJ.step (YldS.yld (y_assign rfl)) rfl ?_
                        refine QJ.done ?_
                        refine PJ.next ?_
                        refine WJ.ret ?_
                        refine PJ.then_ret (PJ.block_ret (PJ.then_ret (PJ.then_ret (PJ.block_ret (PJ.then_ret ?_)))))
                        obtain rfl := Option.some.inj hm
                        refine PJ.sel (L' := []) [] ⟨List.nodup_nil, rfl⟩ ?_
                        exact PJ.retn (vs := [str [], .int .i64 6]) Tryd.results23 ⟨rfl, rfl, trivial⟩ ⟨rfl, rfl⟩
                      · replace hm := ifF hm hb84
                        refine WJ.skip ?_
                        refine PJ.next ?_
                        refine WJ.seq ?_
                        refine WJ.quiet ?_
                        refine QJ.step (YldS.yld (y_move rfl)) rfl ?_
                        refine QJ.step (YldS.yld (y_move rfl)) rfl ?_
                        obtain ⟨s85, h86, hm⟩ := bindS hm
                        refine QJ.step (YldS.yld (y_cat h86 rfl rfl)) rfl ?_
                        refine QJ.step (YldS.yld (y_assign rfl)) rfl ?_
                        refine QJ.done ?_
                        refine PJ.next ?_
                        refine WJ.quiet ?_
                        refine QJ.step (YldS.yld (y_move rfl)) rfl ?_
                        refine QJ.step (YldS.yld (y_bin rfl rfl rfl)) rfl ?_
                        refine QJ.step (YldS.yld (y_assign rfl)) rfl ?_
                        refine QJ.done ?_
                        refine PJ.block_normal ?_
                        exact PJ.joined (s85, w64 (i31 + 1)) [] hm ⟨rfl, rfl, rfl, rfl, rfl, trivial⟩ ⟨List.nodup_nil, rfl⟩
              · rintro ⟨out33, i34⟩ hm
                subst hk36
                refine WJ.quiet ?_
                refine QJ.step (YldS.yld (y_move rfl)) rfl ?_
                refine QJ.step (YldS.yld (y_bin rfl rfl rfl)) rfl ?_
                refine QJ.step (YldS.yld (y_assign rfl)) rfl ?_
                refine QJ.done ?_
                exact PJ.round (out33, w64 (i34 + 1)) [] hm ⟨rfl, rfl, rfl, rfl, rfl, trivial⟩ ⟨List.nodup_nil, rfl⟩
            · replace hm := ifF hm hb32
              refine WJ.exit ?_
              refine PJ.then_exit (PJ.then_exit (PJ.block_exit ?_))
              exact PJ.joined out30 [] hm ⟨rfl, trivial⟩ ⟨List.nodup_nil, rfl⟩
        · rintro out27 hm
          subst hk29
          refine WJ.seq ?_
          refine WJ.quiet ?_
          refine QJ.step (YldS.yld (y_move rfl)) rfl ?_
          refine QJ.step (YldS.yld (y_assign rfl)) rfl ?_
          refine QJ.step (YldS.yld (y_assign rfl)) rfl ?_
          refine QJ.done ?_
          refine PJ.next ?_
          refine WJ.ret ?_
          obtain rfl := Option.some.inj hm
          refine PJ.sel (L' := []) [] ⟨List.nodup_nil, rfl⟩ ?_
          exact PJ.retn (vs := [str out27, .int .i64 0]) Tryd.results23 ⟨rfl, rfl, trivial⟩ ⟨rfl, rfl⟩

set_option maxRecDepth 100000 in
set_option maxHeartbeats 1000000 in
theorem ok_w_FnPresses {N : Nat} {code1 : List UInt8} {r : Bool} (hm : w_FnPresses N code1 = some r) (w : World) (hT : Tab Tryd.prog tabNm w (cx w).Fz) (v2 : Value) (hr3 : RdS w (cx w).Fz v2 fByte.rp code1) :
    Calls Tryd.prog 3 #[v2] w (Ret (cx w) (.bool r)) := by
  unfold w_FnPresses at hm
  refine Calls.enter [v2] Tryd.func3 rfl Tryd.ntmps3 rfl ?_
  refine WJ.seq ?_
  refine WJ.quiet ?_
  refine QJ.step (YldS.yld (y_assign rfl)) rfl ?_
  refine QJ.done ?_
  refine PJ.next ?_
  refine WJ.seq ?_
  refine WJ.seq ?_
  refine WJ.quiet ?_
  refine QJ.step (YldS.yld (y_move rfl)) rfl ?_
  obtain ⟨r4, h5, hm⟩ := bindS hm
  refine QJ.step (y_call Tryd.call4 rfl (RetG.quiet fun w hw => ok_w_f6big h5 w _ (hr3.st hw))) rfl ?_
  refine QJ.done ?_
  refine PJ.next ?_
  refine WJ.cond (t := r4) rfl (fun hb6 => ?_) (fun hb6 => ?_)
  · replace hm := ifT hm hb6
    refine WJ.seq ?_
    refine WJ.quiet ?_
    refine QJ.step (YldS.yld (y_assign rfl)) rfl ?_
    refine QJ.done ?_
    refine PJ.next ?_
    refine WJ.ret ?_
    refine PJ.then_ret ?_
    obtain rfl := Option.some.inj hm
    refine PJ.sel (L' := []) [] ⟨List.nodup_nil, rfl⟩ ?_
    exact PJ.retn (vs := [.bool true]) Tryd.results3 ⟨rfl, trivial⟩ ⟨rfl, rfl⟩
  · replace hm := ifF hm hb6
    refine WJ.skip ?_
    refine PJ.next ?_
    refine WJ.seq ?_
    refine WJ.reg ?_
    refine SJ.q (YldS.yld (y_move rfl)) rfl ?_
    obtain ⟨r7, h8, hm⟩ := bindS hm
    refine SJ.call Tryd.call5 rfl (fun w hw => ok_s_DrawPressesFor h8 w _ (hr3.st hw)) rfl ?_
    rintro _ _ ⟨v9, v10, rfl, rfl⟩
    refine SJ.q (YldS.yld (y_move rfl)) rfl ?_
    refine SJ.q (YldS.yld (y_extract rfl rfl)) rfl ?_
    refine SJ.q (YldS.yld (y_extract rfl rfl)) rfl ?_
    refine SJ.q (YldS.yld (y_extract rfl rfl)) rfl ?_
    refine SJ.q (YldS.yld (y_assign rfl)) rfl ?_
    refine SJ.q (YldS.yld (y_assign rfl)) rfl ?_
    refine SJ.q (YldS.yld (y_assign rfl)) rfl ?_
    refine SJ.nil ?_
    refine PJ.next ?_
    refine WJ.seq ?_
    refine WJ.reg ?_
    refine SJ.q (YldS.yld (y_move rfl)) rfl ?_
    refine SJ.q (YldS.yld (y_move rfl)) rfl ?_
    refine SJ.q (YldS.yld (y_move rfl)) rfl ?_
    obtain ⟨r11, h12, hm⟩ := bindS hm
    refine SJ.call Tryd.call6 rfl (fun w hw => ok_i_PressesFor h12 w _ (hw.row_rd (k := 0) rfl) _ (hw.row_rd (k := 1) rfl)) rfl ?_
    rintro _ _ ⟨v13, rfl, rfl⟩
    refine SJ.q (YldS.yld (y_move rfl)) rfl ?_
    refine SJ.q (YldS.yld (y_extract rfl rfl)) rfl ?_
    refine SJ.q (YldS.yld (y_extract rfl rfl)) rfl ?_
    refine SJ.q (YldS.yld (y_assign rfl)) rfl ?_
    refine SJ.q (YldS.yld (y_assign rfl)) rfl ?_
    refine SJ.nil ?_
    refine PJ.next ?_
    refine WJ.seq ?_
    refine WJ.reg ?_
    refine SJ.q (YldS.yld (y_move rfl)) rfl ?_
    refine SJ.q (YldS.yld (y_move rfl)) rfl ?_
    refine SJ.q (YldS.yld (y_move rfl)) rfl ?_
    obtain ⟨r14, h15, hm⟩ := bindS hm
    refine SJ.call Tryd.call7 rfl (fun w hw => ok_s_PressesFor h15 w _ (hw.row_rd (k := 1) rfl) _ (hw.row_rd (k := 2) rfl)) rfl ?_
    rintro _ _ ⟨v16, rfl, rfl⟩
    refine SJ.q (YldS.yld (y_move rfl)) rfl ?_
    refine SJ.q (YldS.yld (y_extract rfl rfl)) rfl ?_
    refine SJ.q (YldS.yld (y_extract rfl rfl)) rfl ?_
    refine SJ.q (YldS.yld (y_assign rfl)) rfl ?_
    refine SJ.q (YldS.yld (y_assign rfl)) rfl ?_
    refine SJ.nil ?_
    refine PJ.next ?_
    refine WJ.seq ?_
    refine WJ.quiet ?_
    refine QJ.step (YldS.yld (y_move rfl)) rfl ?_
    refine QJ.step (YldS.yld (y_move rfl)) rfl ?_
    refine QJ.step (YldS.yld (y_move rfl)) rfl ?_
    obtain ⟨r17, h18, hm⟩ := bindS hm
    refine QJ.step (y_call Tryd.call8 rfl (RetG.quiet fun w hw => ok_i_MissingLetters h18 w _ (hw.row_rd (k := 2) rfl) _ (hw.row_rd (k := 3) rfl))) rfl ?_
    refine QJ.step (YldS.yld (y_move rfl)) rfl ?_
    refine QJ.step (YldS.yld (y_extract rfl rfl)) rfl ?_
    refine QJ.step (YldS.yld (y_extract rfl rfl)) rfl ?_
    refine QJ.step (YldS.yld (y_assign rfl)) rfl ?_
    refine QJ.step (YldS.yld (y_assign rfl)) rfl ?_
    refine QJ.done ?_
    refine PJ.next ?_
    refine WJ.seq ?_
    refine WJ.quiet ?_
    refine QJ.step (YldS.yld (y_move rfl)) rfl ?_
    refine QJ.step (YldS.yld (y_move rfl)) rfl ?_
    refine QJ.step (YldS.yld (y_move rfl)) rfl ?_
    obtain ⟨r19, h20, hm⟩ := bindS hm
    refine QJ.step (y_call Tryd.call9 rfl (RetG.quiet fun w hw => ok_s_MissingLetters h20 w _ (hw.row_rd (k := 2) rfl) _ (hw.row_rd (k := 3) rfl))) rfl ?_
    refine QJ.step (YldS.yld (y_move rfl)) rfl ?_
    refine QJ.step (YldS.yld (y_extract rfl rfl)) rfl ?_
    refine QJ.step (YldS.yld (y_extract rfl rfl)) rfl ?_
    refine QJ.step (YldS.yld (y_assign rfl)) rfl ?_
    refine QJ.step (YldS.yld (y_assign rfl)) rfl ?_
    refine QJ.done ?_
    refine PJ.next ?_
    refine WJ.seq ?_
    refine WJ.quiet ?_
    refine QJ.step (YldS.yld (y_move rfl)) rfl ?_
    refine QJ.step (YldS.yld (y_move rfl)) rfl ?_
    obtain ⟨r21, h22, hm⟩ := bindS hm
    refine QJ.step (y_call Tryd.call10 rfl (RetG.quiet fun w hw => ok_i_LettersOf h22 w _ (hw.row_rd (k := 2) rfl) _ (hw.row_rd (k := 3) rfl))) rfl ?_
    refine QJ.step (YldS.yld (y_move rfl)) rfl ?_
    refine QJ.step (YldS.yld (y_extract rfl rfl)) rfl ?_
    refine QJ.step (YldS.yld (y_extract rfl rfl)) rfl ?_
    refine QJ.step (YldS.yld (y_assign rfl)) rfl ?_
    refine QJ.step (YldS.yld (y_assign rfl)) rfl ?_
    refine QJ.done ?_
    refine PJ.next ?_
    refine WJ.seq ?_
    refine WJ.quiet ?_
    refine QJ.step (YldS.yld (y_move rfl)) rfl ?_
    refine QJ.step (YldS.yld (y_move rfl)) rfl ?_
    obtain ⟨r23, h24, hm⟩ := bindS hm
    refine QJ.step (y_call Tryd.call11 rfl (RetG.quiet fun w hw => ok_s_LettersOf h24 w _ (hw.row_rd (k := 2) rfl) _ (hw.row_rd (k := 3) rfl))) rfl ?_
    refine QJ.step (YldS.yld (y_move rfl)) rfl ?_
    refine QJ.step (YldS.yld (y_extract rfl rfl)) rfl ?_
    refine QJ.step (YldS.yld (y_extract rfl rfl)) rfl ?_
    refine QJ.step (YldS.yld (y_assign rfl)) rfl ?_
    refine QJ.step (YldS.yld (y_assign rfl)) rfl ?_
    refine QJ.done ?_
    refine PJ.next ?_
    refine WJ.seq ?_
    refine WJ.reg ?_
    refine SJ.q (YldS.yld (y_move rfl)) rfl ?_
    obtain ⟨r25, h26, hm⟩ := bindS hm
    refine SJ.q (y_call Tryd.call12 rfl (RetG.quiet fun w hw => ok_s_DrawPressText h26 w _ (hr3.st hw))) rfl ?_
    refine SJ.alloc (cs := [.int .i64 0, .bool false]) Tryd.zeroValue35 rfl rfl fun g27 => ?_
    refine SJ.storeL (k := 0) (off := 0) (us := [.int .i64 r25.key, .bool r25.shift]) rfl rfl rfl rfl Tryd.sizeOf35 rfl rfl ?_
    refine SJ.nil ?_
    refine PJ.next ?_
    refine WJ.seq ?_
    refine WJ.quiet ?_
    refine QJ.step (YldS.yld (y_loadBN (k := 0) (off := 0) (us := [.int .i64 r25.key, .bool r25.shift]) rfl Tryd.isAgg35 Tryd.sizeOf35 rfl rfl)) rfl ?_
    obtain ⟨r28, h29, hm⟩ := bindS hm
    refine QJ.step (y_call Tryd.call13 rfl (RetG.quiet fun w hw => ok_i_PressText h29 w (hT.st hw))) rfl ?_
    refine QJ.step (YldS.yld (y_assign rfl)) rfl ?_
    refine QJ.done ?_
    refine PJ.next ?_
    refine WJ.seq ?_
    refine WJ.reg ?_
    refine SJ.q (YldS.yld (y_move rfl)) rfl ?_
    obtain ⟨r30, h31, hm⟩ := bindS hm
    refine SJ.q (y_call Tryd.call14 rfl (RetG.quiet fun w hw => ok_i_ReadPress h31 w (hT.st hw))) rfl ?_
    refine SJ.q (YldS.yld (y_move rfl)) rfl ?_
    refine SJ.q (YldS.yld (y_extract rfl rfl)) rfl ?_
    refine SJ.q (YldS.yld (y_extract rfl rfl)) rfl ?_
    refine SJ.alloc (cs := [.int .i64 0, .bool false]) Tryd.zeroValue35 rfl rfl fun g32 => ?_
    refine SJ.storeL (k := 0) (off := 0) (us := [.int .i64 r30.1.key, .bool r30.1.shift]) rfl rfl rfl rfl Tryd.sizeOf35 rfl rfl ?_
    refine SJ.q (YldS.yld (y_assign rfl)) rfl ?_
    refine SJ.nil ?_
    refine PJ.next ?_
    refine WJ.seq ?_
    refine WJ.quiet ?_
    refine QJ.step (YldS.yld (y_move rfl)) rfl ?_
    obtain ⟨r33, h34, hm⟩ := bindS hm
    refine QJ.step (y_call Tryd.call15 rfl (RetG.quiet fun w hw => ok_s_DrawReadPress h34 w _ (hr3.st hw))) rfl ?_
    refine QJ.step (YldS.yld (y_assign rfl)) rfl ?_
    refine QJ.done ?_
    refine PJ.next ?_
    refine WJ.seq ?_
    refine WJ.reg ?_
    refine SJ.q (YldS.yld (y_move rfl)) rfl ?_
    obtain ⟨r35, h36, hm⟩ := bindS hm
    refine SJ.q (y_call Tryd.call14 rfl (RetG.quiet fun w hw => ok_i_ReadPress h36 w (hT.st hw))) rfl ?_
    refine SJ.q (YldS.yld (y_move rfl)) rfl ?_
    refine SJ.q (YldS.yld (y_extract rfl rfl)) rfl ?_
    refine SJ.q (YldS.yld (y_extract rfl rfl)) rfl ?_
    refine SJ.alloc (cs := [.int .i64 0, .bool false]) Tryd.zeroValue35 rfl rfl fun g37 => ?_
    refine SJ.storeL (k := 0) (off := 0) (us := [.int .i64 r35.1.key, .bool r35.1.shift]) rfl rfl rfl rfl Tryd.sizeOf35 rfl rfl ?_
    refine SJ.q (YldS.yld (y_assign rfl)) rfl ?_
    refine SJ.nil ?_
    refine PJ.next ?_
    refine WJ.seq ?_
    refine WJ.reg ?_
    refine SJ.q (YldS.yld (y_move rfl)) rfl ?_
    obtain ⟨r38, h39, hm⟩ := bindS hm
    refine SJ.q (y_call Tryd.call16 rfl (RetG.quiet fun w hw => ok_s_ReadPress h39 w )) rfl ?_
    refine SJ.q (YldS.yld (y_move rfl)) rfl ?_
    refine SJ.q (YldS.yld (y_extract rfl rfl)) rfl ?_
    refine SJ.q (YldS.yld (y_extract rfl rfl)) rfl ?_
    refine SJ.alloc (cs := [.int .i64 0, .bool false]) Tryd.zeroValue35 rfl rfl fun g40 => ?_
    refine SJ.storeL (k := 0) (off := 0) (us := [.int .i64 r38.1.key, .bool r38.1.shift]) rfl rfl rfl rfl Tryd.sizeOf35 rfl rfl ?_
    refine SJ.q (YldS.yld (y_assign rfl)) rfl ?_
    refine SJ.nil ?_
    refine PJ.next ?_
    refine WJ.seq ?_
    refine WJ.reg ?_
    refine SJ.q (YldS.yld (y_move rfl)) rfl ?_
    obtain ⟨r41, h42, hm⟩ := bindS hm
    refine SJ.call Tryd.call17 rfl (fun w hw => ok_s_DrawSamePresses h42 w _ (hr3.st hw)) rfl ?_
    rintro _ _ ⟨v43, v44, rfl, rfl⟩
    refine SJ.q (YldS.yld (y_move rfl)) rfl ?_
    refine SJ.q (YldS.yld (y_extract rfl rfl)) rfl ?_
    refine SJ.q (YldS.yld (y_extract rfl rfl)) rfl ?_
    refine SJ.q (YldS.yld (y_assign rfl)) rfl ?_
    refine SJ.q (YldS.yld (y_assign rfl)) rfl ?_
    refine SJ.nil ?_
    refine PJ.next ?_
    refine WJ.seq ?_
    refine WJ.seq ?_
    refine WJ.quiet ?_
    refine QJ.step (YldS.yld (y_move rfl)) rfl ?_
    refine QJ.step (YldS.yld (y_move rfl)) rfl ?_
    refine QJ.step (YldS.yld (y_bin rfl rfl rfl)) rfl ?_
    refine QJ.step (YldS.yld (y_move rfl)) rfl ?_
    obtain ⟨t45, h46, hm⟩ := bindS hm
    refine QJ.cut 5 [(3, v9), (4, v10), (5, str r7.2.2), (7, .int .i64 r11.2), (8, v16), (10, str r17.1), (11, .int .i64 r17.2), (12, str r19.1), (13, .int .i64 r19.2), (14, str r21.1), (15, .int .i64 r21.2), (16, str r23.1), (17, .int .i64 r23.2), (18, pt g27 0), (19, str r28), (20, pt g32 0), (21, .bool r30.2), (23, pt g37 0), (24, .bool r35.2), (25, pt g40 0), (26, .bool r38.2), (27, v43), (28, v44), (113, .bool t45)] ?_ ?_
    · rcases Bool.eq_false_or_eq_true (r11.2 != r14.2) with hb47 | hb47
      · obtain rfl := orT h46 hb47
        refine QJ.off rfl rfl (cB hb47) rfl rfl ?_
        refine QJ.off rfl rfl (cB hb47) rfl rfl ?_
        refine QJ.off rfl rfl (cB hb47) rfl rfl ?_
        refine QJ.off rfl rfl (cB hb47) rfl rfl ?_
        refine QJ.step (YldS.yld (y_pick_t (cB hb47) rfl)) rfl ?_
        exact QJ.cut_end ⟨rfl, rfl, rfl, rfl, rfl, rfl, rfl, rfl, rfl, rfl, rfl, rfl, rfl, rfl, rfl, rfl, rfl, rfl, rfl, rfl, rfl, rfl, rfl, rfl, trivial⟩
      · replace h46 := orF h46 hb47
        refine QJ.on rfl rfl (cB hb47) (YldS.yld (y_move rfl)) rfl ?_
        refine QJ.on rfl rfl (cB hb47) (YldS.yld (y_move rfl)) rfl ?_
        obtain ⟨r48, h49, h46⟩ := bindS h46
        refine QJ.on rfl rfl (cB hb47) (y_call Tryd.call18 rfl (RetG.quiet fun w hw => ok_s_SamePresses h49 w _ (hw.row_rd (k := 7) rfl) _ (hw.row_rd (k := 6) rfl))) rfl ?_
        refine QJ.on rfl rfl (cB hb47) (YldS.yld (y_not rfl)) rfl ?_
        refine QJ.step (YldS.yld (y_pick_f (cB hb47) rfl)) rfl ?_
        obtain rfl := Option.some.inj h46
        exact QJ.cut_end ⟨rfl, rfl, rfl, rfl, rfl, rfl, rfl, rfl, rfl, rfl, rfl, rfl, rfl, rfl, rfl, rfl, rfl, rfl, rfl, rfl, rfl, rfl, rfl, rfl, trivial⟩
    refine QJ.step (YldS.yld (y_move rfl)) rfl ?_
    obtain ⟨t50, h51, hm⟩ := bindS hm
    refine QJ.cut 4 [(3, v9), (4, v10), (5, str r7.2.2), (7, .int .i64 r11.2), (8, v16), (10, str r17.1), (11, .int .i64 r17.2), (12, str r19.1), (14, str r21.1), (15, .int .i64 r21.2), (16, str r23.1), (17, .int .i64 r23.2), (18, pt g27 0), (19, str r28), (20, pt g32 0), (21, .bool r30.2), (23, pt g37 0), (24, .bool r35.2), (25, pt g40 0), (26, .bool r38.2), (27, v43), (28, v44), (118, .bool t50)] ?_ ?_
    · rcases Bool.eq_false_or_eq_true t45 with hb52 | hb52
      · obtain rfl := orT h51 hb52
        refine QJ.off rfl rfl (cB hb52) rfl rfl ?_
        refine QJ.off rfl rfl (cB hb52) rfl rfl ?_
        refine QJ.off rfl rfl (cB hb52) rfl rfl ?_
        refine QJ.step (YldS.yld (y_pick_t (cB hb52) rfl)) rfl ?_
        exact QJ.cut_end ⟨rfl, rfl, rfl, rfl, rfl, rfl, rfl, rfl, rfl, rfl, rfl, rfl, rfl, rfl, rfl, rfl, rfl, rfl, rfl, rfl, rfl, rfl, rfl, trivial⟩
      · replace h51 := orF h51 hb52
        refine QJ.on rfl rfl (cB hb52) (YldS.yld (y_move rfl)) rfl ?_
        refine QJ.on rfl rfl (cB hb52) (YldS.yld (y_move rfl)) rfl ?_
        refine QJ.on rfl rfl (cB hb52) (YldS.yld (y_bin rfl rfl rfl)) rfl ?_
        refine QJ.step (YldS.yld (y_pick_f (cB hb52) rfl)) rfl ?_
        obtain rfl := Option.some.inj h51
        exact QJ.cut_end ⟨rfl, rfl, rfl, rfl, rfl, rfl, rfl, rfl, rfl, rfl, rfl, rfl, rfl, rfl, rfl, rfl, rfl, rfl, rfl, rfl, rfl, rfl, rfl, trivial⟩
    refine QJ.step (YldS.yld (y_move rfl)) rfl ?_
    obtain ⟨t53, h54, hm⟩ := bindS hm
    refine QJ.cut 4 [(3, v9), (4, v10), (5, str r7.2.2), (7, .int .i64 r11.2), (8, v16), (10, str r17.1), (11, .int .i64 r17.2), (14, str r21.1), (15, .int .i64 r21.2), (16, str r23.1), (17, .int .i64 r23.2), (18, pt g27 0), (19, str r28), (20, pt g32 0), (21, .bool r30.2), (23, pt g37 0), (24, .bool r35.2), (25, pt g40 0), (26, .bool r38.2), (27, v43), (28, v44), (123, .bool t53)] ?_ ?_
    · rcases Bool.eq_false_or_eq_true t50 with hb55 | hb55
      · obtain rfl := orT h54 hb55
        refine QJ.off rfl rfl (cB hb55) rfl rfl ?_
        refine QJ.off rfl rfl (cB hb55) rfl rfl ?_
        refine QJ.off rfl rfl (cB hb55) rfl rfl ?_
        refine QJ.step (YldS.yld (y_pick_t (cB hb55) rfl)) rfl ?_
        exact QJ.cut_end ⟨rfl, rfl, rfl, rfl, rfl, rfl, rfl, rfl, rfl, rfl, rfl, rfl, rfl, rfl, rfl, rfl, rfl, rfl, rfl, rfl, rfl, rfl, trivial⟩
      · replace h54 := orF h54 hb55
        refine QJ.on rfl rfl (cB hb55) (YldS.yld (y_move rfl)) rfl ?_
        refine QJ.on rfl rfl (cB hb55) (YldS.yld (y_move rfl)) rfl ?_
        refine QJ.on rfl rfl (cB hb55) (YldS.yld (y_binS rfl rfl rfl)) rfl ?_
        refine QJ.step (YldS.yld (y_pick_f (cB hb55) rfl)) rfl ?_
        obtain rfl := Option.some.inj h54
        exact QJ.cut_end ⟨rfl, rfl, rfl, rfl, rfl, rfl, rfl, rfl, rfl, rfl, rfl, rfl, rfl, rfl, rfl, rfl, rfl, rfl, rfl, rfl, rfl, rfl, trivial⟩
    refine QJ.step (YldS.yld (y_move rfl)) rfl ?_
    obtain ⟨t56, h57, hm⟩ := bindS hm
    refine QJ.cut 4 [(3, v9), (4, v10), (5, str r7.2.2), (7, .int .i64 r11.2), (8, v16), (10, str r17.1), (11, .int .i64 r17.2), (14, str r21.1), (16, str r23.1), (18, pt g27 0), (19, str r28), (20, pt g32 0), (21, .bool r30.2), (23, pt g37 0), (24, .bool r35.2), (25, pt g40 0), (26, .bool r38.2), (27, v43), (28, v44), (128, .bool t56)] ?_ ?_
    · rcases Bool.eq_false_or_eq_true t53 with hb58 | hb58
      · obtain rfl := orT h57 hb58
        refine QJ.off rfl rfl (cB hb58) rfl rfl ?_
        refine QJ.off rfl rfl (cB hb58) rfl rfl ?_
        refine QJ.off rfl rfl (cB hb58) rfl rfl ?_
        refine QJ.step (YldS.yld (y_pick_t (cB hb58) rfl)) rfl ?_
        exact QJ.cut_end ⟨rfl, rfl, rfl, rfl, rfl, rfl, rfl, rfl, rfl, rfl, rfl, rfl, rfl, rfl, rfl, rfl, rfl, rfl, rfl, rfl, trivial⟩
      · replace h57 := orF h57 hb58
        refine QJ.on rfl rfl (cB hb58) (YldS.yld (y_move rfl)) rfl ?_
        refine QJ.on rfl rfl (cB hb58) (YldS.yld (y_move rfl)) rfl ?_
        refine QJ.on rfl rfl (cB hb58) (YldS.yld (y_bin rfl rfl rfl)) rfl ?_
        refine QJ.step (YldS.yld (y_pick_f (cB hb58) rfl)) rfl ?_
        obtain rfl := Option.some.inj h57
        exact QJ.cut_end ⟨rfl, rfl, rfl, rfl, rfl, rfl, rfl, rfl, rfl, rfl, rfl, rfl, rfl, rfl, rfl, rfl, rfl, rfl, rfl, rfl, trivial⟩
    refine QJ.step (YldS.yld (y_move rfl)) rfl ?_
    obtain ⟨t59, h60, hm⟩ := bindS hm
    refine QJ.cut 4 [(3, v9), (4, v10), (5, str r7.2.2), (7, .int .i64 r11.2), (8, v16), (10, str r17.1), (11, .int .i64 r17.2), (18, pt g27 0), (19, str r28), (20, pt g32 0), (21, .bool r30.2), (23, pt g37 0), (24, .bool r35.2), (25, pt g40 0), (26, .bool r38.2), (27, v43), (28, v44), (133, .bool t59)] ?_ ?_
    · rcases Bool.eq_false_or_eq_true t56 with hb61 | hb61
      · obtain rfl := orT h60 hb61
        refine QJ.off rfl rfl (cB hb61) rfl rfl ?_
        refine QJ.off rfl rfl (cB hb61) rfl rfl ?_
        refine QJ.off rfl rfl (cB hb61) rfl rfl ?_
        refine QJ.step (YldS.yld (y_pick_t (cB hb61) rfl)) rfl ?_
        exact QJ.cut_end ⟨rfl, rfl, rfl, rfl, rfl, rfl, rfl, rfl, rfl, rfl, rfl, rfl, rfl, rfl, rfl, rfl, rfl, rfl, trivial⟩
      · replace h60 := orF h60 hb61
        refine QJ.on rfl rfl (cB hb61) (YldS.yld (y_move rfl)) rfl ?_
        refine QJ.on rfl rfl (cB hb61) (YldS.yld (y_move rfl)) rfl ?_
        refine QJ.on rfl rfl (cB hb61) (YldS.yld (y_binS rfl rfl rfl)) rfl ?_
        refine QJ.step (YldS.yld (y_pick_f (cB hb61) rfl)) rfl ?_
        obtain rfl := Option.some.inj h60
        exact QJ.cut_end ⟨rfl, rfl, rfl, rfl, rfl, rfl, rfl, rfl, rfl, rfl, rfl, rfl, rfl, rfl, rfl, rfl, rfl, rfl, trivial⟩
    refine QJ.step (YldS.yld (y_move rfl)) rfl ?_
    obtain ⟨t62, h63, hm⟩ := bindS hm
    refine QJ.cut 5 [(3, v9), (4, v10), (5, str r7.2.2), (7, .int .i64 r11.2), (8, v16), (10, str r17.1), (11, .int .i64 r17.2), (18, pt g27 0), (19, str r28), (20, pt g32 0), (21, .bool r30.2), (23, pt g37 0), (24, .bool r35.2), (25, pt g40 0), (26, .bool r38.2), (27, v43), (28, v44), (139, .bool t62)] ?_ ?_
    · rcases Bool.eq_false_or_eq_true t59 with hb64 | hb64
      · obtain rfl := orT h63 hb64
        refine QJ.off rfl rfl (cB hb64) rfl rfl ?_
        refine QJ.off rfl rfl (cB hb64) rfl rfl ?_
        refine QJ.off rfl rfl (cB hb64) rfl rfl ?_
        refine QJ.off rfl rfl (cB hb64) rfl rfl ?_
        refine QJ.step (YldS.yld (y_pick_t (cB hb64) rfl)) rfl ?_
        exact QJ.cut_end ⟨rfl, rfl, rfl, rfl, rfl, rfl, rfl, rfl, rfl, rfl, rfl, rfl, rfl, rfl, rfl, rfl, rfl, rfl, trivial⟩
      · replace h63 := orF h63 hb64
        refine QJ.on rfl rfl (cB hb64) (YldS.yld (y_move rfl)) rfl ?_
        refine QJ.on rfl rfl (cB hb64) (YldS.yld (y_loadBN (k := 5) (off := 0) (us := [.int .i64 r25.key, .bool r25.shift]) rfl Tryd.isAgg35 Tryd.sizeOf35 rfl rfl)) rfl ?_
        obtain ⟨r65, h66, h63⟩ := bindS h63
        refine QJ.on rfl rfl (cB hb64) (y_call Tryd.call19 rfl (RetG.quiet fun w hw => ok_s_PressText h66 w )) rfl ?_
        refine QJ.on rfl rfl (cB hb64) (YldS.yld (y_binS rfl rfl rfl)) rfl ?_
        refine QJ.step (YldS.yld (y_pick_f (cB hb64) rfl)) rfl ?_
        obtain rfl := Option.some.inj h63
        exact QJ.cut_end ⟨rfl, rfl, rfl, rfl, rfl, rfl, rfl, rfl, rfl, rfl, rfl, rfl, rfl, rfl, rfl, rfl, rfl, rfl, trivial⟩
    refine QJ.step (YldS.yld (y_move rfl)) rfl ?_
    obtain ⟨t67, h68, hm⟩ := bindS hm
    refine QJ.cut 5 [(3, v9), (4, v10), (5, str r7.2.2), (7, .int .i64 r11.2), (8, v16), (10, str r17.1), (11, .int .i64 r17.2), (18, pt g27 0), (20, pt g32 0), (21, .bool r30.2), (23, pt g37 0), (24, .bool r35.2), (25, pt g40 0), (26, .bool r38.2), (27, v43), (28, v44), (145, .bool t67)] ?_ ?_
    · rcases Bool.eq_false_or_eq_true t62 with hb69 | hb69
      · obtain rfl := orT h68 hb69
        refine QJ.off rfl rfl (cB hb69) rfl rfl ?_
        refine QJ.off rfl rfl (cB hb69) rfl rfl ?_
        refine QJ.off rfl rfl (cB hb69) rfl rfl ?_
        refine QJ.off rfl rfl (cB hb69) rfl rfl ?_
        refine QJ.step (YldS.yld (y_pick_t (cB hb69) rfl)) rfl ?_
        exact QJ.cut_end ⟨rfl, rfl, rfl, rfl, rfl, rfl, rfl, rfl, rfl, rfl, rfl, rfl, rfl, rfl, rfl, rfl, rfl, trivial⟩
      · replace h68 := orF h68 hb69
        refine QJ.on rfl rfl (cB hb69) (YldS.yld (y_move rfl)) rfl ?_
        refine QJ.on rfl rfl (cB hb69) (YldS.yld (y_move rfl)) rfl ?_
        refine QJ.on rfl rfl (cB hb69) (YldS.yld (y_binS rfl rfl rfl)) rfl ?_
        refine QJ.on rfl rfl (cB hb69) (YldS.yld (y_neB Tryd.underlying4 rfl rfl rfl)) rfl ?_
        refine QJ.step (YldS.yld (y_pick_f (cB hb69) rfl)) rfl ?_
        obtain rfl := Option.some.inj h68
        exact QJ.cut_end ⟨rfl, rfl, rfl, rfl, rfl, rfl, rfl, rfl, rfl, rfl, rfl, rfl, rfl, rfl, rfl, rfl, rfl, trivial⟩
    refine QJ.step (YldS.yld (y_move rfl)) rfl ?_
    obtain ⟨t70, h71, hm⟩ := bindS hm
    refine QJ.cut 7 [(3, v9), (4, v10), (5, str r7.2.2), (7, .int .i64 r11.2), (8, v16), (10, str r17.1), (11, .int .i64 r17.2), (23, pt g37 0), (24, .bool r35.2), (25, pt g40 0), (26, .bool r38.2), (27, v43), (28, v44), (153, .bool t70)] ?_ ?_
    · rcases Bool.eq_false_or_eq_true t67 with hb72 | hb72
      · obtain rfl := orT h71 hb72
        refine QJ.off rfl rfl (cB hb72) rfl rfl ?_
        refine QJ.off rfl rfl (cB hb72) rfl rfl ?_
        refine QJ.off_undef rfl rfl rfl rfl ?_
        refine QJ.off_undef rfl rfl rfl rfl ?_
        refine QJ.off_undef rfl rfl rfl rfl ?_
        refine QJ.off rfl rfl (cB hb72) rfl rfl ?_
        refine QJ.step (YldS.yld (y_pick_t (cB hb72) rfl)) rfl ?_
        exact QJ.cut_end ⟨rfl, rfl, rfl, rfl, rfl, rfl, rfl, rfl, rfl, rfl, rfl, rfl, rfl, rfl, trivial⟩
      · replace h71 := orF h71 hb72
        refine QJ.on rfl rfl (cB hb72) (YldS.yld (y_move rfl)) rfl ?_
        refine QJ.on rfl rfl (cB hb72) (YldS.yld (y_move rfl)) rfl ?_
        obtain ⟨t73, h74, h71⟩ := bindS h71
        refine QJ.cut 4 [(3, v9), (4, v10), (5, str r7.2.2), (7, .int .i64 r11.2), (8, v16), (10, str r17.1), (11, .int .i64 r17.2), (23, pt g37 0), (24, .bool r35.2), (25, pt g40 0), (26, .bool r38.2), (27, v43), (28, v44), (146, .bool t67), (152, .bool t73)] ?_ ?_
        · rcases Bool.eq_false_or_eq_true r30.2 with hb75 | hb75
          · replace h74 := andT h74 hb75
            refine QJ.on rfl rfl (cB hb75) (YldS.yld (y_loadBN (k := 4) (off := 0) (us := [.int .i64 r30.1.key, .bool r30.1.shift]) rfl Tryd.isAgg35 Tryd.sizeOf35 rfl rfl)) rfl ?_
            refine QJ.on rfl rfl (cB hb75) (YldS.yld (y_loadBN (k := 5) (off := 0) (us := [.int .i64 r25.key, .bool r25.shift]) rfl Tryd.isAgg35 Tryd.sizeOf35 rfl rfl)) rfl ?_
            refine QJ.on rfl rfl (cB hb75) (YldS.yld (y_neT r30.1 r25 eq35 rfl rfl)) rfl ?_
            refine QJ.on rfl rfl (cB hb72) (YldS.yld (y_pick_t (cB hb75) rfl)) rfl ?_
            obtain rfl := Option.some.inj h74
            exact QJ.cut_end ⟨rfl, rfl, rfl, rfl, rfl, rfl, rfl, rfl, rfl, rfl, rfl, rfl, rfl, rfl, rfl, trivial⟩
          · obtain rfl := andF h74 hb75
            refine QJ.off rfl rfl (cB hb75) rfl rfl ?_
            refine QJ.off rfl rfl (cB hb75) rfl rfl ?_
            refine QJ.off rfl rfl (cB hb75) rfl rfl ?_
            refine QJ.on rfl rfl (cB hb72) (YldS.yld (y_pick_f (cB hb75) rfl)) rfl ?_
            exact QJ.cut_end ⟨rfl, rfl, rfl, rfl, rfl, rfl, rfl, rfl, rfl, rfl, rfl, rfl, rfl, rfl, rfl, trivial⟩
        refine QJ.step (YldS.yld (y_pick_f (cB hb72) rfl)) rfl ?_
        obtain rfl := Option.some.inj h71
        exact QJ.cut_end ⟨rfl, rfl, rfl, rfl, rfl, rfl, rfl, rfl, rfl, rfl, rfl, rfl, rfl, rfl, trivial⟩
    refine QJ.step (YldS.yld (y_move rfl)) rfl ?_
    obtain ⟨t76, h77, hm⟩ := bindS hm
    refine QJ.cut 4 [(3, v9), (4, v10), (5, str r7.2.2), (7, .int .i64 r11.2), (8, v16), (10, str r17.1), (11, .int .i64 r17.2), (23, pt g37 0), (25, pt g40 0), (27, v43), (28, v44), (158, .bool t76)] ?_ ?_
    · rcases Bool.eq_false_or_eq_true t70 with hb78 | hb78
      · obtain rfl := orT h77 hb78
        refine QJ.off rfl rfl (cB hb78) rfl rfl ?_
        refine QJ.off rfl rfl (cB hb78) rfl rfl ?_
        refine QJ.off rfl rfl (cB hb78) rfl rfl ?_
        refine QJ.step (YldS.yld (y_pick_t (cB hb78) rfl)) rfl ?_
        exact QJ.cut_end ⟨rfl, rfl, rfl, rfl, rfl, rfl, rfl, rfl, rfl, rfl, rfl, rfl, trivial⟩
      · replace h77 := orF h77 hb78
        refine QJ.on rfl rfl (cB hb78) (YldS.yld (y_move rfl)) rfl ?_
        refine QJ.on rfl rfl (cB hb78) (YldS.yld (y_move rfl)) rfl ?_
        refine QJ.on rfl rfl (cB hb78) (YldS.yld (y_neB Tryd.underlying4 rfl rfl rfl)) rfl ?_
        refine QJ.step (YldS.yld (y_pick_f (cB hb78) rfl)) rfl ?_
        obtain rfl := Option.some.inj h77
        exact QJ.cut_end ⟨rfl, rfl, rfl, rfl, rfl, rfl, rfl, rfl, rfl, rfl, rfl, rfl, trivial⟩
    refine QJ.step (YldS.yld (y_move rfl)) rfl ?_
    obtain ⟨t79, h80, hm⟩ := bindS hm
    refine QJ.cut 4 [(3, v9), (4, v10), (5, str r7.2.2), (7, .int .i64 r11.2), (8, v16), (10, str r17.1), (11, .int .i64 r17.2), (27, v43), (28, v44), (163, .bool t79)] ?_ ?_
    · rcases Bool.eq_false_or_eq_true t76 with hb81 | hb81
      · obtain rfl := orT h80 hb81
        refine QJ.off rfl rfl (cB hb81) rfl rfl ?_
        refine QJ.off rfl rfl (cB hb81) rfl rfl ?_
        refine QJ.off rfl rfl (cB hb81) rfl rfl ?_
        refine QJ.step (YldS.yld (y_pick_t (cB hb81) rfl)) rfl ?_
        exact QJ.cut_end ⟨rfl, rfl, rfl, rfl, rfl, rfl, rfl, rfl, rfl, rfl, trivial⟩
      · replace h80 := orF h80 hb81
        refine QJ.on rfl rfl (cB hb81) (YldS.yld (y_loadBN (k := 3) (off := 0) (us := [.int .i64 r35.1.key, .bool r35.1.shift]) rfl Tryd.isAgg35 Tryd.sizeOf35 rfl rfl)) rfl ?_
        refine QJ.on rfl rfl (cB hb81) (YldS.yld (y_loadBN (k := 2) (off := 0) (us := [.int .i64 r38.1.key, .bool r38.1.shift]) rfl Tryd.isAgg35 Tryd.sizeOf35 rfl rfl)) rfl ?_
        refine QJ.on rfl rfl (cB hb81) (YldS.yld (y_neT r35.1 r38.1 eq35 rfl rfl)) rfl ?_
        refine QJ.step (YldS.yld (y_pick_f (cB hb81) rfl)) rfl ?_
        obtain rfl := Option.some.inj h80
        exact QJ.cut_end ⟨rfl, rfl, rfl, rfl, rfl, rfl, rfl, rfl, rfl, rfl, trivial⟩
    refine QJ.step (YldS.yld (y_move rfl)) rfl ?_
    obtain ⟨t82, h83, hm⟩ := bindS hm
    refine QJ.cut 8 [(3, v9), (4, v10), (5, str r7.2.2), (7, .int .i64 r11.2), (8, v16), (10, str r17.1), (11, .int .i64 r17.2), (172, .bool t82)] ?_ ?_
    · rcases Bool.eq_false_or_eq_true t79 with hb84 | hb84
      · obtain rfl := orT h83 hb84
        refine QJ.off rfl rfl (cB hb84) rfl rfl ?_
        refine QJ.off rfl rfl (cB hb84) rfl rfl ?_
        refine QJ.off rfl rfl (cB hb84) rfl rfl ?_
        refine QJ.off rfl rfl (cB hb84) rfl rfl ?_
        refine QJ.off rfl rfl (cB hb84) rfl rfl ?_
        refine QJ.off rfl rfl (cB hb84) rfl rfl ?_
        refine QJ.off rfl rfl (cB hb84) rfl rfl ?_
        refine QJ.step (YldS.yld (y_pick_t (cB hb84) rfl)) rfl ?_
        exact QJ.cut_end ⟨rfl, rfl, rfl, rfl, rfl, rfl, rfl, rfl, trivial⟩
      · replace h83 := orF h83 hb84
        refine QJ.on rfl rfl (cB hb84) (YldS.yld (y_move rfl)) rfl ?_
        refine QJ.on rfl rfl (cB hb84) (YldS.yld (y_move rfl)) rfl ?_
        obtain ⟨r85, h86, h83⟩ := bindS h83
        refine QJ.on rfl rfl (cB hb84) (y_call Tryd.call20 rfl (RetG.quiet fun w hw => ok_i_SamePresses h86 w _ (hw.row_rd (k := 0) rfl) _ (hw.row_rd (k := 1) rfl))) rfl ?_
        refine QJ.on rfl rfl (cB hb84) (YldS.yld (y_move rfl)) rfl ?_
        refine QJ.on rfl rfl (cB hb84) (YldS.yld (y_move rfl)) rfl ?_
        obtain ⟨r87, h88, h83⟩ := bindS h83
        refine QJ.on rfl rfl (cB hb84) (y_call Tryd.call18 rfl (RetG.quiet fun w hw => ok_s_SamePresses h88 w _ (hw.row_rd (k := 0) rfl) _ (hw.row_rd (k := 1) rfl))) rfl ?_
        refine QJ.on rfl rfl (cB hb84) (YldS.yld (y_neB Tryd.underlying4 rfl rfl rfl)) rfl ?_
        refine QJ.step (YldS.yld (y_pick_f (cB hb84) rfl)) rfl ?_
        obtain rfl := Option.some.inj h83
        exact QJ.cut_end ⟨rfl, rfl, rfl, rfl, rfl, rfl, rfl, rfl, trivial⟩
    refine QJ.step (YldS.yld (y_move rfl)) rfl ?_
    obtain ⟨t89, h90, hm⟩ := bindS hm
    refine QJ.cut 8 [(3, v9), (4, v10), (5, str r7.2.2), (7, .int .i64 r11.2), (8, v16), (10, str r17.1), (11, .int .i64 r17.2), (181, .bool t89)] ?_ ?_
    · rcases Bool.eq_false_or_eq_true t82 with hb91 | hb91
      · obtain rfl := orT h90 hb91
        refine QJ.off rfl rfl (cB hb91) rfl rfl ?_
        refine QJ.off rfl rfl (cB hb91) rfl rfl ?_
        refine QJ.off rfl rfl (cB hb91) rfl rfl ?_
        refine QJ.off rfl rfl (cB hb91) rfl rfl ?_
        refine QJ.off rfl rfl (cB hb91) rfl rfl ?_
        refine QJ.off rfl rfl (cB hb91) rfl rfl ?_
        refine QJ.off rfl rfl (cB hb91) rfl rfl ?_
        refine QJ.step (YldS.yld (y_pick_t (cB hb91) rfl)) rfl ?_
        exact QJ.cut_end ⟨rfl, rfl, rfl, rfl, rfl, rfl, rfl, rfl, trivial⟩
      · replace h90 := orF h90 hb91
        refine QJ.on rfl rfl (cB hb91) (YldS.yld (y_move rfl)) rfl ?_
        refine QJ.on rfl rfl (cB hb91) (YldS.yld (y_move rfl)) rfl ?_
        obtain ⟨r92, h93, h90⟩ := bindS h90
        refine QJ.on rfl rfl (cB hb91) (y_call Tryd.call21 rfl (RetG.quiet fun w hw => ok_i_ValidKeys h93 w _ (hw.row_rd (k := 8) rfl) _ (hw.row_rd (k := 9) rfl))) rfl ?_
        refine QJ.on rfl rfl (cB hb91) (YldS.yld (y_move rfl)) rfl ?_
        refine QJ.on rfl rfl (cB hb91) (YldS.yld (y_move rfl)) rfl ?_
        obtain ⟨r94, h95, h90⟩ := bindS h90
        refine QJ.on rfl rfl (cB hb91) (y_call Tryd.call22 rfl (RetG.quiet fun w hw => ok_s_ValidKeys h95 w _ (hw.row_rd (k := 8) rfl) _ (hw.row_rd (k := 9) rfl))) rfl ?_
        refine QJ.on rfl rfl (cB hb91) (YldS.yld (y_neB Tryd.underlying4 rfl rfl rfl)) rfl ?_
        refine QJ.step (YldS.yld (y_pick_f (cB hb91) rfl)) rfl ?_
        obtain rfl := Option.some.inj h90
        exact QJ.cut_end ⟨rfl, rfl, rfl, rfl, rfl, rfl, rfl, rfl, trivial⟩
    refine QJ.done ?_
    refine PJ.next ?_
    refine WJ.cond (t := t89) rfl (fun hb96 => ?_) (fun hb96 => ?_)
    · replace hm := ifT hm hb96
      refine WJ.seq ?_
      refine WJ.quiet ?_
      refine QJ.step (YldS.yld (y_assign rfl)) rfl ?_
      refine QJ.done ?_
      refine PJ.next ?_
      refine WJ.ret ?_
      refine PJ.then_ret ?_
      obtain rfl := Option.some.inj hm
      refine PJ.sel (L' := []) [] ⟨List.nodup_nil, rfl⟩ ?_
      exact PJ.retn (vs := [.bool false]) Tryd.results3 ⟨rfl, trivial⟩ ⟨rfl, rfl⟩
    · replace hm := ifF hm hb96
      refine WJ.skip ?_
      refine PJ.next ?_
      refine WJ.seq ?_
      refine WJ.seq ?_
      refine WJ.quiet ?_
      refine QJ.step (YldS.yld (y_move rfl)) rfl ?_
      refine QJ.step (YldS.yld (y_bin rfl rfl rfl)) rfl ?_
      refine QJ.step (YldS.yld (y_move rfl)) rfl ?_
      obtain ⟨t97, h98, hm⟩ := bindS hm
      refine QJ.cut 6 [(3, v9), (4, v10), (5, str r7.2.2), (7, .int .i64 r11.2), (8, v16), (190, .bool t97)] ?_ ?_
      · rcases Bool.eq_false_or_eq_true (r17.2 == 0) with hb99 | hb99
        · replace h98 := andT h98 hb99
          refine QJ.on rfl rfl (cB hb99) (YldS.yld (y_move rfl)) rfl ?_
          refine QJ.on rfl rfl (cB hb99) (YldS.yld (y_bin rfl rfl rfl)) rfl ?_
          refine QJ.on rfl rfl (cB hb99) (YldS.yld (y_move rfl)) rfl ?_
          refine QJ.on rfl rfl (cB hb99) (YldS.yld (y_binS rfl rfl rfl)) rfl ?_
          refine QJ.on rfl rfl (cB hb99) (YldS.yld (y_neB Tryd.underlying4 rfl rfl rfl)) rfl ?_
          refine QJ.step (YldS.yld (y_pick_t (cB hb99) rfl)) rfl ?_
          obtain rfl := Option.some.inj h98
          exact QJ.cut_end ⟨rfl, rfl, rfl, rfl, rfl, rfl, trivial⟩
        · obtain rfl := andF h98 hb99
          refine QJ.off rfl rfl (cB hb99) rfl rfl ?_
          refine QJ.off rfl rfl (cB hb99) rfl rfl ?_
          refine QJ.off rfl rfl (cB hb99) rfl rfl ?_
          refine QJ.off rfl rfl (cB hb99) rfl rfl ?_
          refine QJ.off rfl rfl (cB hb99) rfl rfl ?_
          refine QJ.step (YldS.yld (y_pick_f (cB hb99) rfl)) rfl ?_
          exact QJ.cut_end ⟨rfl, rfl, rfl, rfl, rfl, rfl, trivial⟩
      refine QJ.done ?_
      refine PJ.next ?_
      refine WJ.cond (t := t97) rfl (fun hb100 => ?_) (fun hb100 => ?_)
      · replace hm := ifT hm hb100
        refine WJ.seq ?_
        refine WJ.quiet ?_
        refine QJ.step (YldS.yld (y_assign rfl)) rfl ?_
        refine QJ.done ?_
        refine PJ.next ?_
        refine WJ.ret ?_
        refine PJ.then_ret ?_
        obtain rfl := Option.some.inj hm
        refine PJ.sel (L' := []) [] ⟨List.nodup_nil, rfl⟩ ?_
        exact PJ.retn (vs := [.bool false]) Tryd.results3 ⟨rfl, trivial⟩ ⟨rfl, rfl⟩
      · replace hm := ifF hm hb100
        refine WJ.skip ?_
        refine PJ.next ?_
        refine WJ.seq ?_
        refine WJ.seq ?_
        refine WJ.quiet ?_
        refine QJ.step (YldS.yld (y_move rfl)) rfl ?_
        refine QJ.step (YldS.yld (y_bin rfl rfl rfl)) rfl ?_
        refine QJ.done ?_
        refine PJ.next ?_
        refine WJ.cond (t := (r11.2 != 0)) rfl (fun hb101 => ?_) (fun hb101 => ?_)
        · replace hm := ifT hm hb101
          refine WJ.seq ?_
          refine WJ.quiet ?_
          refine QJ.step (YldS.yld (y_assign rfl)) rfl ?_
          refine QJ.done ?_
          refine PJ.next ?_
          refine WJ.ret ?_
          refine PJ.then_ret ?_
          obtain rfl := Option.some.inj hm
          refine PJ.sel (L' := []) [] ⟨List.nodup_nil, rfl⟩ ?_
          exact PJ.retn (vs := [.bool true]) Tryd.results3 ⟨rfl, trivial⟩ ⟨rfl, rfl⟩
        · replace hm := ifF hm hb101
          refine WJ.skip ?_
          refine PJ.next ?_
          refine WJ.seq ?_
          refine WJ.quiet ?_
          refine QJ.step (YldS.yld (y_move rfl)) rfl ?_
          refine QJ.step (YldS.yld (y_move rfl)) rfl ?_
          refine QJ.step (YldS.yld (y_move rfl)) rfl ?_
          obtain ⟨r102, h103, hm⟩ := bindS hm
          refine QJ.step (y_call Tryd.call23 rfl (RetG.quiet fun w hw => ok_i_TextOfPresses h103 w _ (hw.row_rd (k := 8) rfl) _ (hw.row_rd (k := 9) rfl) _ (hw.row_rd (k := 6) rfl))) rfl ?_
          refine QJ.step (YldS.yld (y_move rfl)) rfl ?_
          refine QJ.step (YldS.yld (y_extract rfl rfl)) rfl ?_
          refine QJ.step (YldS.yld (y_extract rfl rfl)) rfl ?_
          refine QJ.step (YldS.yld (y_assign rfl)) rfl ?_
          refine QJ.step (YldS.yld (y_assign rfl)) rfl ?_
          refine QJ.done ?_
          refine PJ.next ?_
          refine WJ.seq ?_
          refine WJ.quiet ?_
          refine QJ.step (YldS.yld (y_move rfl)) rfl ?_
          refine QJ.step (YldS.yld (y_bin rfl rfl rfl)) rfl ?_
          refine QJ.step (YldS.yld (y_move rfl)) rfl ?_
          obtain ⟨t104, h105, hm⟩ := bindS hm
          refine QJ.cut 4 [(5, str r7.2.2), (8, v16), (206, .bool t104)] ?_ ?_
          · rcases Bool.eq_false_or_eq_true (r102.2 == 0) with hb106 | hb106
            · replace h105 := andT h105 hb106
              refine QJ.on rfl rfl (cB hb106) (YldS.yld (y_move rfl)) rfl ?_
              refine QJ.on rfl rfl (cB hb106) (YldS.yld (y_move rfl)) rfl ?_
              refine QJ.on rfl rfl (cB hb106) (YldS.yld (y_binS rfl rfl rfl)) rfl ?_
              refine QJ.step (YldS.yld (y_pick_t (cB hb106) rfl)) rfl ?_
              obtain rfl := Option.some.inj h105
              exact QJ.cut_end ⟨rfl, rfl, rfl, trivial⟩
            · obtain rfl := andF h105 hb106
              refine QJ.off rfl rfl (cB hb106) rfl rfl ?_
              refine QJ.off rfl rfl (cB hb106) rfl rfl ?_
              refine QJ.off rfl rfl (cB hb106) rfl rfl ?_
              refine QJ.step (YldS.yld (y_pick_f (cB hb106) rfl)) rfl ?_
              exact QJ.cut_end ⟨rfl, rfl, rfl, trivial⟩
          refine QJ.step (YldS.yld (y_move rfl)) rfl ?_
          obtain ⟨t107, h108, hm⟩ := bindS hm
          refine QJ.cut 6 [(5, str r7.2.2), (8, v16), (213, .bool t107)] ?_ ?_
          · rcases Bool.eq_false_or_eq_true t104 with hb109 | hb109
            · replace h108 := andT h108 hb109
              refine QJ.on rfl rfl (cB hb109) (YldS.yld (y_move rfl)) rfl ?_
              refine QJ.on rfl rfl (cB hb109) (YldS.yld (y_lenRow (k := 6) rfl Tryd.runUnderlying28 rfl)) rfl ?_
              refine QJ.on rfl rfl (cB hb109) (YldS.yld (y_move rfl)) rfl ?_
              refine QJ.on rfl rfl (cB hb109) (YldS.yld (y_lenStr Tryd.runUnderlying9 rfl)) rfl ?_
              refine QJ.on rfl rfl (cB hb109) (YldS.yld (y_bin rfl rfl rfl)) rfl ?_
              refine QJ.step (YldS.yld (y_pick_t (cB hb109) rfl)) rfl ?_
              obtain rfl := Option.some.inj h108
              exact QJ.cut_end ⟨rfl, rfl, rfl, trivial⟩
            · obtain rfl := andF h108 hb109
              refine QJ.off rfl rfl (cB hb109) rfl rfl ?_
              refine QJ.off rfl rfl (cB hb109) rfl rfl ?_
              refine QJ.off rfl rfl (cB hb109) rfl rfl ?_
              refine QJ.off rfl rfl (cB hb109) rfl rfl ?_
              refine QJ.off rfl rfl (cB hb109) rfl rfl ?_
              refine QJ.step (YldS.yld (y_pick_f (cB hb109) rfl)) rfl ?_
              exact QJ.cut_end ⟨rfl, rfl, rfl, trivial⟩
          refine QJ.step (YldS.yld (y_move rfl)) rfl ?_
          obtain ⟨t110, h111, hm⟩ := bindS hm
          refine QJ.cut 7 [(221, .bool t110)] ?_ ?_
          · rcases Bool.eq_false_or_eq_true t107 with hb112 | hb112
            · replace h111 := andT h111 hb112
              refine QJ.on rfl rfl (cB hb112) (YldS.yld (y_move rfl)) rfl ?_
              refine QJ.on rfl rfl (cB hb112) (YldS.yld (y_lenRow (k := 6) rfl Tryd.runUnderlying28 rfl)) rfl ?_
              refine QJ.on rfl rfl (cB hb112) (YldS.yld (y_move rfl)) rfl ?_
              refine QJ.on rfl rfl (cB hb112) (YldS.yld (y_lenStr Tryd.runUnderlying9 rfl)) rfl ?_
              refine QJ.on rfl rfl (cB hb112) (YldS.yld (y_bin rfl rfl rfl)) rfl ?_
              refine QJ.on rfl rfl (cB hb112) (YldS.yld (y_bin rfl rfl rfl)) rfl ?_
              refine QJ.step (YldS.yld (y_pick_t (cB hb112) rfl)) rfl ?_
              obtain rfl := Option.some.inj h111
              exact QJ.cut_end ⟨rfl, trivial⟩
            · obtain rfl := andF h111 hb112
              refine QJ.off rfl rfl (cB hb112) rfl rfl ?_
              refine QJ.off rfl rfl (cB hb112) rfl rfl ?_
              refine QJ.off rfl rfl (cB hb112) rfl rfl ?_
              refine QJ.off rfl rfl (cB hb112) rfl rfl ?_
              refine QJ.off rfl rfl (cB hb112) rfl rfl ?_
              refine QJ.off rfl rfl (cB hb112) rfl rfl ?_
              refine QJ.step (YldS.yld (y_pick_f (cB hb112) rfl)) rfl ?_
              exact QJ.cut_end ⟨rfl, trivial⟩
          refine QJ.step (YldS.yld (y_assign rfl)) rfl ?_
          refine QJ.done ?_
          refine PJ.next ?_
          refine WJ.ret ?_
          obtain rfl := Option.some.inj hm
          refine PJ.sel (L' := []) [] ⟨List.nodup_nil, rfl⟩ ?_
          exact PJ.retn (vs := [.bool t110]) Tryd.results3 ⟨rfl, trivial⟩ ⟨rfl, rfl⟩

end Go.Proofs.YtpodlgibcfbbiaaDoor
