/-
  The walks: a call hands back what its plain function computes, where that has a value. No other conditions.
-/
import Derived.Test.YtimcachjcocjmaaFnDrillSetsW
import Derived.Test.YtimcachjcocjmaaChecked
namespace Go.Proofs.Ytimcachjcocjmaa
open Go.RowKit Go.Proofs
set_option linter.unusedVariables false
set_option linter.unusedSimpArgs false

set_option maxRecDepth 100000 in
set_option maxHeartbeats 1000000 in
theorem ok_s_l21Ok {N : Nat} {list1 : List Drill} {r : Bool} (hm : s_l21Ok N list1 = some r) (w : World) (v2 : Value) (hr3 : RdS w (cx w).Fz v2 fDrill.rp list1) :
    Calls Try.prog 106 #[v2] w (Ret (cx w) (.bool r)) := by
  unfold s_l21Ok at hm
  refine Calls.enter [v2] Try.func106 rfl Try.ntmps106 rfl ?_
  refine WJ.seq ?_
  refine WJ.quiet ?_
  refine QJ.step (YldS.yld (y_assign rfl)) rfl ?_
  refine QJ.done ?_
  refine PJ.next ?_
  obtain ⟨kj4, hk5, hm⟩ := withK_open hm
  refine WJ.join (X := Unit) (fun (_ : Unit) => kj4  = some r) (fun (_ : Unit) => [(0, v2)]) (fun (_ : Unit) => []) ?_ ?_
  · clear hk5
    refine WJ.seq ?_
    refine WJ.quiet ?_
    refine QJ.step (YldS.yld (y_assign rfl)) rfl ?_
    refine QJ.done ?_
    refine PJ.next ?_
    refine WJ.block ?_
    refine WJ.sel (L' := (fun (x : Int) => []) 0) [] ⟨List.nodup_nil, rfl⟩ ?_
    refine WJ.sub (m' := (fun (x : Int) => [(0, v2), (3, .int .i64 x)]) 0) ⟨rfl, rfl, trivial⟩ ?_
    refine WJ.loop (X := Int) (fun N (x : Int) => s_l21Ok_l1 kj4 list1 N x = some r) (fun (x : Int) => [(0, v2), (3, .int .i64 x)]) (fun (x : Int) => []) ?_ N 0 hm
    · rintro N i6 hI
      have hm := hI; clear hI
      cases N with
      | zero => cases hm
      | succ N =>
      unfold s_l21Ok_l1 at hm
      refine WJ.seq ?_
      refine WJ.seq ?_
      refine WJ.quiet ?_
      refine QJ.step (YldS.yld (y_move rfl)) rfl ?_
      refine QJ.step (YldS.yld (y_move rfl)) rfl ?_
      refine QJ.step (YldS.yld (y_lenS Try.runUnderlying70 hr3 rfl)) rfl ?_
      refine QJ.step (YldS.yld (y_bin rfl rfl rfl)) rfl ?_
      refine QJ.done ?_
      refine PJ.next ?_
      refine WJ.cond (t := decide (i6 < (List.length list1 : Int))) rfl (fun hb7 => ?_) (fun hb7 => ?_)
      · replace hm := ifT hm hb7
        refine WJ.skip ?_
        refine PJ.next ?_
        refine WJ.seq ?_
        refine WJ.block ?_
        refine WJ.seq ?_
        obtain ⟨e8, h9, hm⟩ := bindS hm
        obtain ⟨ad10, _, rfl, ha11, hy12⟩ := hr3.elem h9
        obtain ⟨r13, h14, hm⟩ := bindS hm
        obtain ⟨t15, h16, hm⟩ := bindS hm
        refine WJ.draws (N := 18) (listed0 := #[false, false, false, false, false, false, false, false, false, false, false, false, false, false, false, false, false, false]) [] follows rfl rfl ?_
        refine RJ.first 0 (listed' := #[true, false, false, false, false, false, false, false, false, false, false, false, false, false, false, false, false, false]) [] rfl (by kernel_rfl) rfl ⟨List.nodup_nil, rfl⟩ (y_move rfl) rfl ?_
        refine RJ.first 1 (listed' := #[true, true, false, false, false, false, false, false, false, false, false, false, false, false, false, false, false, false]) [] rfl (by kernel_rfl) rfl ⟨List.nodup_nil, rfl⟩ (y_move rfl) rfl ?_
        refine RJ.first 2 (listed' := #[true, true, true, false, false, false, false, false, false, false, false, false, false, false, false, false, false, false]) [] rfl (by kernel_rfl) rfl ⟨List.nodup_nil, rfl⟩ (hy12 Try.runUnderlying70 Try.sizeOf152 rfl rfl) rfl ?_
        refine RJ.first 3 (listed' := #[true, true, true, true, false, false, false, false, false, false, false, false, false, false, false, false, false, false]) [] rfl (by kernel_rfl) rfl ⟨List.nodup_nil, rfl⟩ (y_loadN Try.isAgg152 Try.sizeOf152 rfl ha11 St.frozenC rfl) rfl ?_
        refine RJ.step1 4 [] (by kernel_rfl) ⟨List.nodup_nil, rfl⟩ ?_
        refine RO.of (listed' := #[true, true, true, true, true, false, false, false, false, false, false, false, false, false, false, false, false, false]) rfl rfl ?_
        refine SJ.q (y_call Try.call135 rfl (RetG.quiet fun w hw => ok_s_l21One h14 w )) rfl ?_
        refine SJ.nil ?_
        refine PJ.draw ?_
        refine RJ.first 5 (listed' := #[true, true, true, true, true, true, false, false, false, false, false, false, false, false, false, false, false, false]) [] rfl (by kernel_rfl) rfl ⟨List.nodup_nil, rfl⟩ (y_not rfl) rfl ?_
        refine RJ.first 6 (listed' := #[true, true, true, true, true, true, true, false, false, false, false, false, false, false, false, false, false, false]) [] rfl (by kernel_rfl) rfl ⟨List.nodup_nil, rfl⟩ (y_move rfl) rfl ?_
        refine RJ.hold (X := Unit) 0 #[true, true, true, true, true, true, true, true, true, true, true, true, true, true, true, true, true, true] (fun _ => [(0, v2), (3, .int .i64 i6), (27, .bool t15)]) (fun _ => []) ?_ ?_
        · rintro _
          refine RJ.fin [] (by kernel_rfl) ⟨List.nodup_nil, rfl⟩ ?_
          refine PJ.next ?_
          refine WJ.cond (t := t15) rfl (fun hb31 => ?_) (fun hb31 => ?_)
          · replace hm := ifT hm hb31
            refine WJ.seq ?_
            refine WJ.quiet ?_
            refine QJ.step (YldS.yld (y_assign rfl)) rfl ?_
            refine QJ.done ?_
            refine PJ.next ?_
            refine WJ.ret ?_
            refine PJ.block_ret (PJ.then_ret (PJ.then_ret (PJ.block_ret (PJ.then_ret ?_))))
            obtain rfl := Option.some.inj hm
            refine PJ.sel (L' := []) [] ⟨List.nodup_nil, rfl⟩ ?_
            exact PJ.retn (vs := [.bool false]) Try.results106 ⟨rfl, trivial⟩ ⟨rfl, rfl⟩
          · replace hm := ifF hm hb31
            refine WJ.skip ?_
            refine PJ.block_normal (PJ.next ?_)
            refine WJ.quiet ?_
            refine QJ.step (YldS.yld (y_move rfl)) rfl ?_
            refine QJ.step (YldS.yld (y_bin rfl rfl rfl)) rfl ?_
            refine QJ.step (YldS.yld (y_assign rfl)) rfl ?_
            refine QJ.done ?_
            exact PJ.round (w64 (i6 + 1)) [] hm ⟨rfl, rfl, trivial⟩ ⟨List.nodup_nil, rfl⟩
        · intro hD30
          rcases Bool.eq_false_or_eq_true (!r13) with hb17 | hb17
          · obtain rfl := orT h16 hb17
            refine RJ.firstOff 7 (listed' := #[true, true, true, true, true, true, true, true, false, false, false, false, false, false, false, false, false, false]) [] rfl rfl rfl (cB hb17) rfl (by kernel_rfl) rfl ⟨List.nodup_nil, rfl⟩ rfl ?_
            refine RJ.firstOff 8 (listed' := #[true, true, true, true, true, true, true, true, true, false, false, false, false, false, false, false, false, false]) [] rfl rfl rfl (cB hb17) rfl (by kernel_rfl) rfl ⟨List.nodup_nil, rfl⟩ rfl ?_
            refine RJ.firstOff 9 (listed' := #[true, true, true, true, true, true, true, true, true, true, false, false, false, false, false, false, false, false]) [] rfl rfl rfl (cB hb17) rfl (by kernel_rfl) rfl ⟨List.nodup_nil, rfl⟩ rfl ?_
            refine RJ.firstOff 10 (listed' := #[true, true, true, true, true, true, true, true, true, true, true, false, false, false, false, false, false, false]) [] rfl rfl rfl (cB hb17) rfl (by kernel_rfl) rfl ⟨List.nodup_nil, rfl⟩ rfl ?_
            refine RJ.firstOff 11 (listed' := #[true, true, true, true, true, true, true, true, true, true, true, true, false, false, false, false, false, false]) [] rfl rfl rfl (cB hb17) rfl (by kernel_rfl) rfl ⟨List.nodup_nil, rfl⟩ rfl ?_
            refine RJ.firstOff 12 (listed' := #[true, true, true, true, true, true, true, true, true, true, true, true, true, false, false, false, false, false]) [] rfl rfl rfl (cB hb17) rfl (by kernel_rfl) rfl ⟨List.nodup_nil, rfl⟩ rfl ?_
            refine RJ.firstOff 13 (listed' := #[true, true, true, true, true, true, true, true, true, true, true, true, true, true, false, false, false, false]) [] rfl rfl rfl (cB hb17) rfl (by kernel_rfl) rfl ⟨List.nodup_nil, rfl⟩ rfl ?_
            refine RJ.firstOff 14 (listed' := #[true, true, true, true, true, true, true, true, true, true, true, true, true, true, true, false, false, false]) [] rfl rfl rfl (cB hb17) rfl (by kernel_rfl) rfl ⟨List.nodup_nil, rfl⟩ rfl ?_
            refine RJ.firstOff 15 (listed' := #[true, true, true, true, true, true, true, true, true, true, true, true, true, true, true, true, false, false]) [] rfl rfl rfl (cB hb17) rfl (by kernel_rfl) rfl ⟨List.nodup_nil, rfl⟩ rfl ?_
            refine RJ.firstOff 16 (listed' := #[true, true, true, true, true, true, true, true, true, true, true, true, true, true, true, true, true, false]) [] rfl rfl rfl (cB hb17) rfl (by kernel_rfl) rfl ⟨List.nodup_nil, rfl⟩ rfl ?_
            refine RJ.first 17 (listed' := #[true, true, true, true, true, true, true, true, true, true, true, true, true, true, true, true, true, true]) [] rfl (by kernel_rfl) rfl ⟨List.nodup_nil, rfl⟩ (y_pick_t (cB hb17) rfl) rfl ?_
            exact RJ.weak (hD30 ()) [] ⟨rfl, rfl, rfl, trivial⟩ ⟨List.nodup_nil, rfl⟩
          · replace h16 := orF h16 hb17
            obtain ⟨l18, h19, h16⟩ := bindS h16
            obtain ⟨v20, hr21, hy22⟩ := RdS.part (i := none) (j := some i6) hr3 h19
            obtain ⟨e23, h24, h16⟩ := bindS h16
            obtain ⟨ad25, _, rfl, ha26, hy27⟩ := hr3.elem h24
            obtain ⟨r28, h29, h16⟩ := bindS h16
            obtain rfl := Option.some.inj h16
            refine RJ.firstOn 7 (listed' := #[true, true, true, true, true, true, true, true, false, false, false, false, false, false, false, false, false, false]) [] rfl rfl rfl (cB hb17) (by kernel_rfl) rfl ⟨List.nodup_nil, rfl⟩ (y_move rfl) rfl ?_
            refine RJ.firstOn 8 (listed' := #[true, true, true, true, true, true, true, true, true, false, false, false, false, false, false, false, false, false]) [] rfl rfl rfl (cB hb17) (by kernel_rfl) rfl ⟨List.nodup_nil, rfl⟩ (y_move rfl) rfl ?_
            refine RJ.firstOn 9 (listed' := #[true, true, true, true, true, true, true, true, true, true, false, false, false, false, false, false, false, false]) [] rfl rfl rfl (cB hb17) (by kernel_rfl) rfl ⟨List.nodup_nil, rfl⟩ (hy22 Try.runUnderlying70 Try.sizeOf152 rfl trivial ⟨_, rfl⟩) rfl ?_
            refine RJ.firstOn 10 (listed' := #[true, true, true, true, true, true, true, true, true, true, true, false, false, false, false, false, false, false]) [] rfl rfl rfl (cB hb17) (by kernel_rfl) rfl ⟨List.nodup_nil, rfl⟩ (y_move rfl) rfl ?_
            refine RJ.firstOn 11 (listed' := #[true, true, true, true, true, true, true, true, true, true, true, true, false, false, false, false, false, false]) [] rfl rfl rfl (cB hb17) (by kernel_rfl) rfl ⟨List.nodup_nil, rfl⟩ (y_move rfl) rfl ?_
            refine RJ.firstOn 12 (listed' := #[true, true, true, true, true, true, true, true, true, true, true, true, true, false, false, false, false, false]) [] rfl rfl rfl (cB hb17) (by kernel_rfl) rfl ⟨List.nodup_nil, rfl⟩ (hy27 Try.runUnderlying70 Try.sizeOf152 rfl rfl) rfl ?_
            refine RJ.firstOn 13 (listed' := #[true, true, true, true, true, true, true, true, true, true, true, true, true, true, false, false, false, false]) [] rfl rfl rfl (cB hb17) (by kernel_rfl) rfl ⟨List.nodup_nil, rfl⟩ (y_fld (ad := ad25) fld152_0 rfl) rfl ?_
            refine RJ.firstOn 14 (listed' := #[true, true, true, true, true, true, true, true, true, true, true, true, true, true, true, false, false, false]) [] rfl rfl rfl (cB hb17) (by kernel_rfl) rfl ⟨List.nodup_nil, rfl⟩ (y_load1 (v := str e23.name) Try.isAgg9 (ha26.sub 0 1) St.frozenC rfl) rfl ?_
            refine RJ.step1 15 [] (by kernel_rfl) ⟨List.nodup_nil, rfl⟩ ?_
            refine RO.of (listed' := #[true, true, true, true, true, true, true, true, true, true, true, true, true, true, true, true, false, false]) rfl rfl ?_
            refine SJ.on rfl rfl (cB hb17) (SJ.q (y_call Try.call136 rfl (RetG.quiet fun w hw => ok_s_l21Find h29 w _ (hr21.st hw))) rfl ?_)
            refine SJ.nil ?_
            refine PJ.draw ?_
            refine RJ.firstOn 16 (listed' := #[true, true, true, true, true, true, true, true, true, true, true, true, true, true, true, true, true, false]) [] rfl rfl rfl (cB hb17) (by kernel_rfl) rfl ⟨List.nodup_nil, rfl⟩ (y_bin rfl rfl rfl) rfl ?_
            refine RJ.first 17 (listed' := #[true, true, true, true, true, true, true, true, true, true, true, true, true, true, true, true, true, true]) [] rfl (by kernel_rfl) rfl ⟨List.nodup_nil, rfl⟩ (y_pick_f (cB hb17) rfl) rfl ?_
            exact RJ.weak (hD30 ()) [] ⟨rfl, rfl, rfl, trivial⟩ ⟨List.nodup_nil, rfl⟩
      · replace hm := ifF hm hb7
        refine WJ.exit ?_
        refine PJ.then_exit (PJ.then_exit (PJ.block_exit ?_))
        exact PJ.joined () [] hm ⟨rfl, trivial⟩ ⟨List.nodup_nil, rfl⟩
  · rintro _ hm
    subst hk5
    refine WJ.seq ?_
    refine WJ.quiet ?_
    refine QJ.step (YldS.yld (y_move rfl)) rfl ?_
    refine QJ.step (YldS.yld (y_lenS Try.runUnderlying70 hr3 rfl)) rfl ?_
    refine QJ.step (YldS.yld (y_bin rfl rfl rfl)) rfl ?_
    refine QJ.step (YldS.yld (y_assign rfl)) rfl ?_
    refine QJ.done ?_
    refine PJ.next ?_
    refine WJ.ret ?_
    obtain rfl := Option.some.inj hm
    refine PJ.sel (L' := []) [] ⟨List.nodup_nil, rfl⟩ ?_
    exact PJ.retn (vs := [.bool (decide ((List.length list1 : Int) ≤ 10))]) Try.results106 ⟨rfl, trivial⟩ ⟨rfl, rfl⟩

set_option maxRecDepth 100000 in
set_option maxHeartbeats 1000000 in
theorem ok_s_l21Letters {N : Nat} {letters1 : Str} {r : Bool} (hm : s_l21Letters N letters1 = some r) (w : World)  :
    Calls Try.prog 107 #[str letters1] w (Ret (cx w) (.bool r)) := by
  unfold s_l21Letters at hm
  refine Calls.enter [str letters1] Try.func107 rfl Try.ntmps107 rfl ?_
  refine WJ.seq ?_
  refine WJ.quiet ?_
  refine QJ.step (YldS.yld (y_assign rfl)) rfl ?_
  refine QJ.done ?_
  refine PJ.next ?_
  obtain ⟨kj2, hk3, hm⟩ := withK_open hm
  refine WJ.join (X := Unit) (fun (_ : Unit) => kj2  = some r) (fun (_ : Unit) => [(0, str letters1)]) (fun (_ : Unit) => []) ?_ ?_
  · clear hk3
    refine WJ.seq ?_
    refine WJ.quiet ?_
    refine QJ.step (YldS.yld (y_assign rfl)) rfl ?_
    refine QJ.done ?_
    refine PJ.next ?_
    refine WJ.block ?_
    refine WJ.sel (L' := (fun (x : Int) => []) 1) [] ⟨List.nodup_nil, rfl⟩ ?_
    refine WJ.sub (m' := (fun (x : Int) => [(0, str letters1), (3, .int .i64 x)]) 1) ⟨rfl, rfl, trivial⟩ ?_
    refine WJ.loop (X := Int) (fun N (x : Int) => s_l21Letters_l1 kj2 letters1 N x = some r) (fun (x : Int) => [(0, str letters1), (3, .int .i64 x)]) (fun (x : Int) => []) ?_ N 1 hm
    · rintro N i4 hI
      have hm := hI; clear hI
      cases N with
      | zero => cases hm
      | succ N =>
      unfold s_l21Letters_l1 at hm
      refine WJ.seq ?_
      refine WJ.seq ?_
      refine WJ.quiet ?_
      refine QJ.step (YldS.yld (y_move rfl)) rfl ?_
      refine QJ.step (YldS.yld (y_move rfl)) rfl ?_
      refine QJ.step (YldS.yld (y_lenStr Try.runUnderlying9 rfl)) rfl ?_
      refine QJ.step (YldS.yld (y_bin rfl rfl rfl)) rfl ?_
      refine QJ.done ?_
      refine PJ.next ?_
      refine WJ.cond (t := decide (i4 < (List.length letters1 : Int))) rfl (fun hb5 => ?_) (fun hb5 => ?_)
      · replace hm := ifT hm hb5
        refine WJ.skip ?_
        refine PJ.next ?_
        refine WJ.seq ?_
        refine WJ.block ?_
        refine WJ.seq ?_
        refine WJ.quiet_draw follows (by kernel_rfl) ?_
        refine QJ.step (YldS.yld (y_move rfl)) rfl ?_
        refine QJ.step (YldS.yld (y_move rfl)) rfl ?_
        refine QJ.step (YldS.yld (y_bin rfl rfl rfl)) rfl ?_
        obtain ⟨c6, h7, hm⟩ := bindS hm
        refine QJ.step (YldS.yld (y_idxStr Try.runUnderlying9 rfl rfl h7)) rfl ?_
        refine QJ.step (YldS.yld (y_move rfl)) rfl ?_
        refine QJ.step (YldS.yld (y_move rfl)) rfl ?_
        obtain ⟨c8, h9, hm⟩ := bindS hm
        refine QJ.step (YldS.yld (y_idxStr Try.runUnderlying9 rfl rfl h9)) rfl ?_
        refine QJ.step (YldS.yld (y_bin8 c6 c8 rfl rfl rfl)) rfl ?_
        refine QJ.done ?_
        refine PJ.next ?_
        refine WJ.cond (t := decide (c6 ≥ c8)) rfl (fun hb10 => ?_) (fun hb10 => ?_)
        · replace hm := ifT hm hb10
          refine WJ.seq ?_
          refine WJ.quiet ?_
          refine QJ.step (YldS.yld (y_assign rfl)) rfl ?_
          refine QJ.done ?_
          refine PJ.next ?_
          refine WJ.ret ?_
          refine PJ.block_ret (PJ.then_ret (PJ.then_ret (PJ.block_ret (PJ.then_ret ?_))))
          obtain rfl := Option.some.inj hm
          refine PJ.sel (L' := []) [] ⟨List.nodup_nil, rfl⟩ ?_
          exact PJ.retn (vs := [.bool false]) Try.results107 ⟨rfl, trivial⟩ ⟨rfl, rfl⟩
        · replace hm := ifF hm hb10
          refine WJ.skip ?_
          refine PJ.block_normal (PJ.next ?_)
          refine WJ.quiet ?_
          refine QJ.step (YldS.yld (y_move rfl)) rfl ?_
          refine QJ.step (YldS.yld (y_bin rfl rfl rfl)) rfl ?_
          refine QJ.step (YldS.yld (y_assign rfl)) rfl ?_
          refine QJ.done ?_
          exact PJ.round (w64 (i4 + 1)) [] hm ⟨rfl, rfl, trivial⟩ ⟨List.nodup_nil, rfl⟩
      · replace hm := ifF hm hb5
        refine WJ.exit ?_
        refine PJ.then_exit (PJ.then_exit (PJ.block_exit ?_))
        exact PJ.joined () [] hm ⟨rfl, trivial⟩ ⟨List.nodup_nil, rfl⟩
  · rintro _ hm
    subst hk3
    refine WJ.seq ?_
    refine WJ.quiet ?_
    refine QJ.step (YldS.yld (y_move rfl)) rfl ?_
    obtain ⟨r11, h12, hm⟩ := bindS hm
    refine QJ.step (y_call Try.call137 rfl (RetG.quiet fun w hw => ok_s_l17Text h12 w )) rfl ?_
    refine QJ.step (YldS.yld (y_assign rfl)) rfl ?_
    refine QJ.done ?_
    refine PJ.next ?_
    refine WJ.ret ?_
    obtain rfl := Option.some.inj hm
    refine PJ.sel (L' := []) [] ⟨List.nodup_nil, rfl⟩ ?_
    exact PJ.retn (vs := [.bool r11]) Try.results107 ⟨rfl, trivial⟩ ⟨rfl, rfl⟩

set_option maxRecDepth 100000 in
set_option maxHeartbeats 1000000 in
theorem ok_s_l00Rises {N : Nat} {list1 : List Int} {low4 : Int} {high5 : Int} {r : Bool} (hm : s_l00Rises N list1 low4 high5 = some r) (w : World) (v2 : Value) (hr3 : RdS w (cx w).Fz v2 fI64.rp list1) :
    Calls Try.prog 131 #[v2, .int .i64 low4, .int .i64 high5] w (Ret (cx w) (.bool r)) := by
  unfold s_l00Rises at hm
  refine Calls.enter [v2, .int .i64 low4, .int .i64 high5] Try.func131 rfl Try.ntmps131 rfl ?_
  refine WJ.seq ?_
  refine WJ.quiet ?_
  refine QJ.step (YldS.yld (y_assign rfl)) rfl ?_
  refine QJ.done ?_
  refine PJ.next ?_
  obtain ⟨kj6, hk7, hm⟩ := withK_open hm
  refine WJ.join (X := Unit) (fun (_ : Unit) => kj6  = some r) (fun (_ : Unit) => []) (fun (_ : Unit) => []) ?_ ?_
  · clear hk7
    refine WJ.seq ?_
    refine WJ.quiet ?_
    refine QJ.step (YldS.yld (y_assign rfl)) rfl ?_
    refine QJ.done ?_
    refine PJ.next ?_
    refine WJ.block ?_
    refine WJ.sel (L' := (fun (x : Int) => []) 0) [] ⟨List.nodup_nil, rfl⟩ ?_
    refine WJ.sub (m' := (fun (x : Int) => [(0, v2), (1, .int .i64 low4), (2, .int .i64 high5), (7, .int .i64 x)]) 0) ⟨rfl, rfl, rfl, rfl, trivial⟩ ?_
    refine WJ.loop (X := Int) (fun N (x : Int) => s_l00Rises_l1 kj6 list1 low4 high5 N x = some r) (fun (x : Int) => [(0, v2), (1, .int .i64 low4), (2, .int .i64 high5), (7, .int .i64 x)]) (fun (x : Int) => []) ?_ N 0 hm
    · rintro N i8 hI
      have hm := hI; clear hI
      cases N with
      | zero => cases hm
      | succ N =>
      unfold s_l00Rises_l1 at hm
      refine WJ.seq ?_
      refine WJ.seq ?_
      refine WJ.quiet ?_
      refine QJ.step (YldS.yld (y_move rfl)) rfl ?_
      refine QJ.step (YldS.yld (y_move rfl)) rfl ?_
      refine QJ.step (YldS.yld (y_lenS Try.runUnderlying24 hr3 rfl)) rfl ?_
      refine QJ.step (YldS.yld (y_bin rfl rfl rfl)) rfl ?_
      refine QJ.done ?_
      refine PJ.next ?_
      refine WJ.cond (t := decide (i8 < (List.length list1 : Int))) rfl (fun hb9 => ?_) (fun hb9 => ?_)
      · replace hm := ifT hm hb9
        refine WJ.skip ?_
        refine PJ.next ?_
        refine WJ.seq ?_
        refine WJ.block ?_
        refine WJ.seq ?_
        refine WJ.quiet_draw follows (by kernel_rfl) ?_
        refine QJ.step (YldS.yld (y_move rfl)) rfl ?_
        refine QJ.step (YldS.yld (y_move rfl)) rfl ?_
        obtain ⟨e10, h11, hm⟩ := bindS hm
        obtain ⟨ad12, _, rfl, ha13, hy14⟩ := hr3.elem h11
        refine QJ.step (YldS.yld (hy14 Try.runUnderlying24 Try.sizeOf2 rfl rfl)) rfl ?_
        refine QJ.step (YldS.yld (y_load1 (v := .int .i64 e10) Try.isAgg2 ha13 St.frozenC rfl)) rfl ?_
        refine QJ.step (YldS.yld (y_move rfl)) rfl ?_
        refine QJ.step (YldS.yld (y_move rfl)) rfl ?_
        obtain ⟨r15, h16, hm⟩ := bindS hm
        refine QJ.step (y_call Try.call144 rfl (RetG.quiet fun w hw => ok_s_l00In h16 w )) rfl ?_
        refine QJ.step (YldS.yld (y_not rfl)) rfl ?_
        refine QJ.step (YldS.yld (y_move rfl)) rfl ?_
        obtain ⟨t17, h18, hm⟩ := bindS hm
        refine QJ.cut 15 [(0, v2), (1, .int .i64 low4), (2, .int .i64 high5), (7, .int .i64 i8), (37, .bool t17)] ?_ ?_
        · rcases Bool.eq_false_or_eq_true (!r15) with hb19 | hb19
          · obtain rfl := orT h18 hb19
            refine QJ.off rfl rfl (cB hb19) rfl rfl ?_
            refine QJ.off rfl rfl (cB hb19) rfl rfl ?_
            refine QJ.off rfl rfl (cB hb19) rfl rfl ?_
            refine QJ.off_undef rfl rfl rfl rfl ?_
            refine QJ.off_undef rfl rfl rfl rfl ?_
            refine QJ.off_undef rfl rfl rfl rfl ?_
            refine QJ.off_undef rfl rfl rfl rfl ?_
            refine QJ.off_undef rfl rfl rfl rfl ?_
            refine QJ.off_undef rfl rfl rfl rfl ?_
            refine QJ.off_undef rfl rfl rfl rfl ?_
            refine QJ.off_undef rfl rfl rfl rfl ?_
            refine QJ.off_undef rfl rfl rfl rfl ?_
            refine QJ.off_undef rfl rfl rfl rfl ?_
            refine QJ.off rfl rfl (cB hb19) rfl rfl ?_
            refine QJ.step (YldS.yld (y_pick_t (cB hb19) rfl)) rfl ?_
            exact QJ.cut_end ⟨rfl, rfl, rfl, rfl, rfl, trivial⟩
          · replace h18 := orF h18 hb19
            refine QJ.on rfl rfl (cB hb19) (YldS.yld (y_move rfl)) rfl ?_
            refine QJ.on rfl rfl (cB hb19) (YldS.yld (y_bin rfl rfl rfl)) rfl ?_
            refine QJ.on rfl rfl (cB hb19) (YldS.yld (y_move rfl)) rfl ?_
            obtain ⟨t20, h21, h18⟩ := bindS h18
            refine QJ.cut 11 [(0, v2), (1, .int .i64 low4), (2, .int .i64 high5), (7, .int .i64 i8), (22, .bool (!r15)), (23, .int .i64 i8), (24, .bool (decide (i8 > 0))), (25, .bool (decide (i8 > 0))), (36, .bool t20)] ?_ ?_
            · rcases Bool.eq_false_or_eq_true (decide (i8 > 0)) with hb22 | hb22
              · replace h21 := andT h21 hb22
                refine QJ.on rfl rfl (cB hb22) (YldS.yld (y_move rfl)) rfl ?_
                refine QJ.on rfl rfl (cB hb22) (YldS.yld (y_move rfl)) rfl ?_
                refine QJ.on rfl rfl (cB hb22) (YldS.yld (y_bin rfl rfl rfl)) rfl ?_
                obtain ⟨e23, h24, h21⟩ := bindS h21
                obtain ⟨ad25, _, rfl, ha26, hy27⟩ := hr3.elem h24
                refine QJ.on rfl rfl (cB hb22) (YldS.yld (hy27 Try.runUnderlying24 Try.sizeOf2 rfl rfl)) rfl ?_
                refine QJ.on rfl rfl (cB hb22) (YldS.yld (y_load1 (v := .int .i64 e23) Try.isAgg2 ha26 St.frozenC rfl)) rfl ?_
                refine QJ.on rfl rfl (cB hb22) (YldS.yld (y_move rfl)) rfl ?_
                refine QJ.on rfl rfl (cB hb22) (YldS.yld (y_move rfl)) rfl ?_
                obtain ⟨e28, h29, h21⟩ := bindS h21
                obtain ⟨ad30, _, rfl, ha31, hy32⟩ := hr3.elem h29
                refine QJ.on rfl rfl (cB hb22) (YldS.yld (hy32 Try.runUnderlying24 Try.sizeOf2 rfl rfl)) rfl ?_
                refine QJ.on rfl rfl (cB hb22) (YldS.yld (y_load1 (v := .int .i64 e28) Try.isAgg2 ha31 St.frozenC rfl)) rfl ?_
                refine QJ.on rfl rfl (cB hb22) (YldS.yld (y_bin rfl rfl rfl)) rfl ?_
                refine QJ.on rfl rfl (cB hb19) (YldS.yld (y_pick_t (cB hb22) rfl)) rfl ?_
                obtain rfl := Option.some.inj h21
                exact QJ.cut_end ⟨rfl, rfl, rfl, rfl, rfl, rfl, rfl, rfl, rfl, trivial⟩
              · obtain rfl := andF h21 hb22
                refine QJ.off rfl rfl (cB hb22) rfl rfl ?_
                refine QJ.off rfl rfl (cB hb22) rfl rfl ?_
                refine QJ.off rfl rfl (cB hb22) rfl rfl ?_
                refine QJ.off rfl rfl (cB hb22) rfl rfl ?_
                refine QJ.off rfl rfl (cB hb22) rfl rfl ?_
                refine QJ.off rfl rfl (cB hb22) rfl rfl ?_
                refine QJ.off rfl rfl (cB hb22) rfl rfl ?_
                refine QJ.off rfl rfl (cB hb22) rfl rfl ?_
                refine QJ.off rfl rfl (cB hb22) rfl rfl ?_
                refine QJ.off rfl rfl (cB hb22) rfl rfl ?_
                refine QJ.on rfl rfl (cB hb19) (YldS.yld (y_pick_f (cB hb22) rfl)) rfl ?_
                exact QJ.cut_end ⟨rfl, rfl, rfl, rfl, rfl, rfl, rfl, rfl, rfl, trivial⟩
            refine QJ.step (YldS.yld (y_pick_f (cB hb19) rfl)) rfl ?_
            obtain rfl := Option.some.inj h18
            exact QJ.cut_end ⟨rfl, rfl, rfl, rfl, rfl, trivial⟩
        refine QJ.done ?_
        refine PJ.next ?_
        refine WJ.cond (t := t17) rfl (fun hb33 => ?_) (fun hb33 => ?_)
        · replace hm := ifT hm hb33
          refine WJ.seq ?_
          refine WJ.quiet ?_
          refine QJ.step (YldS.yld (y_assign rfl)) rfl ?_
          refine QJ.done ?_
          refine PJ.next ?_
          refine WJ.ret ?_
          refine PJ.block_ret (PJ.then_ret (PJ.then_ret (PJ.block_ret (PJ.then_ret ?_))))
          obtain rfl := Option.some.inj hm
          refine PJ.sel (L' := []) [] ⟨List.nodup_nil, rfl⟩ ?_
          exact PJ.retn (vs := [.bool false]) Try.results131 ⟨rfl, trivial⟩ ⟨rfl, rfl⟩
        · replace hm := ifF hm hb33
          refine WJ.skip ?_
          refine PJ.block_normal (PJ.next ?_)
          refine WJ.quiet ?_
          refine QJ.step (YldS.yld (y_move rfl)) rfl ?_
          refine QJ.step (YldS.yld (y_bin rfl rfl rfl)) rfl ?_
          refine QJ.step (YldS.yld (y_assign rfl)) rfl ?_
          refine QJ.done ?_
          exact PJ.round (w64 (i8 + 1)) [] hm ⟨rfl, rfl, rfl, rfl, trivial⟩ ⟨List.nodup_nil, rfl⟩
      · replace hm := ifF hm hb9
        refine WJ.exit ?_
        refine PJ.then_exit (PJ.then_exit (PJ.block_exit ?_))
        exact PJ.joined () [] hm trivial ⟨List.nodup_nil, rfl⟩
  · rintro _ hm
    subst hk7
    refine WJ.seq ?_
    refine WJ.quiet ?_
    refine QJ.step (YldS.yld (y_assign rfl)) rfl ?_
    refine QJ.done ?_
    refine PJ.next ?_
    refine WJ.ret ?_
    obtain rfl := Option.some.inj hm
    refine PJ.sel (L' := []) [] ⟨List.nodup_nil, rfl⟩ ?_
    exact PJ.retn (vs := [.bool true]) Try.results131 ⟨rfl, trivial⟩ ⟨rfl, rfl⟩

set_option maxRecDepth 100000 in
set_option maxHeartbeats 1000000 in
theorem ok_s_l21Some {N : Nat} {list1 : List Drill} {some4 : List Int} {r : Bool} (hm : s_l21Some N list1 some4 = some r) (w : World) (v2 : Value) (hr3 : RdS w (cx w).Fz v2 fDrill.rp list1) (v5 : Value) (hr6 : RdS w (cx w).Fz v5 fI64.rp some4) :
    Calls Try.prog 108 #[v2, v5] w (Ret (cx w) (.bool r)) := by
  unfold s_l21Some at hm
  refine Calls.enter [v2, v5] Try.func108 rfl Try.ntmps108 rfl ?_
  refine WJ.seq ?_
  refine WJ.quiet ?_
  refine QJ.step (YldS.yld (y_assign rfl)) rfl ?_
  refine QJ.done ?_
  refine PJ.next ?_
  refine WJ.seq ?_
  refine WJ.quiet ?_
  refine QJ.step (YldS.yld (y_move rfl)) rfl ?_
  refine QJ.step (YldS.yld (y_move rfl)) rfl ?_
  refine QJ.step (YldS.yld (y_lenS Try.runUnderlying70 hr3 rfl)) rfl ?_
  refine QJ.step (YldS.yld (y_bin rfl rfl rfl)) rfl ?_
  obtain ⟨r7, h8, hm⟩ := bindS hm
  refine QJ.step (y_call Try.call131 rfl (RetG.quiet fun w hw => ok_s_l00Rises h8 w _ (hr6.st hw))) rfl ?_
  refine QJ.step (YldS.yld (y_assign rfl)) rfl ?_
  refine QJ.done ?_
  refine PJ.next ?_
  refine WJ.ret ?_
  obtain rfl := Option.some.inj hm
  refine PJ.sel (L' := []) [] ⟨List.nodup_nil, rfl⟩ ?_
  exact PJ.retn (vs := [.bool r7]) Try.results108 ⟨rfl, trivial⟩ ⟨rfl, rfl⟩

set_option maxRecDepth 100000 in
set_option maxHeartbeats 1000000 in
theorem ok_s_l21Trains {N : Nat} {list1 : List Drill} {some4 : List Int} {letter7 : UInt8} {r : Bool} (hm : s_l21Trains N list1 some4 letter7 = some r) (w : World) (v2 : Value) (hr3 : RdS w (cx w).Fz v2 fDrill.rp list1) (v5 : Value) (hr6 : RdS w (cx w).Fz v5 fI64.rp some4) :
    Calls Try.prog 138 #[v2, v5, .int .u8 (UInt8.toNat letter7 : Int)] w (Ret (cx w) (.bool r)) := by
  unfold s_l21Trains at hm
  refine Calls.enter [v2, v5, .int .u8 (UInt8.toNat letter7 : Int)] Try.func138 rfl Try.ntmps138 rfl ?_
  refine WJ.seq ?_
  refine WJ.quiet ?_
  refine QJ.step (YldS.yld (y_assign rfl)) rfl ?_
  refine QJ.done ?_
  refine PJ.next ?_
  obtain ⟨kj8, hk9, hm⟩ := withK_open hm
  refine WJ.join (X := Unit) (fun (_ : Unit) => kj8  = some r) (fun (_ : Unit) => []) (fun (_ : Unit) => []) ?_ ?_
  · clear hk9
    refine WJ.seq ?_
    refine WJ.quiet ?_
    refine QJ.step (YldS.yld (y_assign rfl)) rfl ?_
    refine QJ.done ?_
    refine PJ.next ?_
    refine WJ.block ?_
    refine WJ.sel (L' := (fun (x : Int) => []) 0) [] ⟨List.nodup_nil, rfl⟩ ?_
    refine WJ.sub (m' := (fun (x : Int) => [(0, v2), (1, v5), (2, .int .u8 (UInt8.toNat letter7 : Int)), (7, .int .i64 x)]) 0) ⟨rfl, rfl, rfl, rfl, trivial⟩ ?_
    refine WJ.loop (X := Int) (fun N (x : Int) => s_l21Trains_l1 kj8 list1 some4 letter7 N x = some r) (fun (x : Int) => [(0, v2), (1, v5), (2, .int .u8 (UInt8.toNat letter7 : Int)), (7, .int .i64 x)]) (fun (x : Int) => []) ?_ N 0 hm
    · rintro N i10 hI
      have hm := hI; clear hI
      cases N with
      | zero => cases hm
      | succ N =>
      unfold s_l21Trains_l1 at hm
      refine WJ.seq ?_
      refine WJ.seq ?_
      refine WJ.quiet ?_
      refine QJ.step (YldS.yld (y_move rfl)) rfl ?_
      refine QJ.step (YldS.yld (y_move rfl)) rfl ?_
      refine QJ.step (YldS.yld (y_lenS Try.runUnderlying24 hr6 rfl)) rfl ?_
      refine QJ.step (YldS.yld (y_bin rfl rfl rfl)) rfl ?_
      refine QJ.done ?_
      refine PJ.next ?_
      refine WJ.cond (t := decide (i10 < (List.length some4 : Int))) rfl (fun hb11 => ?_) (fun hb11 => ?_)
      · replace hm := ifT hm hb11
        refine WJ.skip ?_
        refine PJ.next ?_
        refine WJ.seq ?_
        refine WJ.block ?_
        refine WJ.seq ?_
        refine WJ.quiet ?_
        refine QJ.step (YldS.yld (y_move rfl)) rfl ?_
        refine QJ.step (YldS.yld (y_move rfl)) rfl ?_
        refine QJ.step (YldS.yld (y_move rfl)) rfl ?_
        obtain ⟨e12, h13, hm⟩ := bindS hm
        obtain ⟨ad14, _, rfl, ha15, hy16⟩ := hr6.elem h13
        refine QJ.step (YldS.yld (hy16 Try.runUnderlying24 Try.sizeOf2 rfl rfl)) rfl ?_
        refine QJ.step (YldS.yld (y_load1 (v := .int .i64 e12) Try.isAgg2 ha15 St.frozenC rfl)) rfl ?_
        obtain ⟨e17, h18, hm⟩ := bindS hm
        obtain ⟨ad19, _, rfl, ha20, hy21⟩ := hr3.elem h18
        refine QJ.step (YldS.yld (hy21 Try.runUnderlying70 Try.sizeOf152 rfl rfl)) rfl ?_
        refine QJ.step (YldS.yld (y_fld (ad := ad19) fld152_1 rfl)) rfl ?_
        refine QJ.step (YldS.yld (y_load1 (v := str e17.letters) Try.isAgg9 (ha20.sub 1 1) St.frozenC rfl)) rfl ?_
        refine QJ.step (YldS.yld (y_move rfl)) rfl ?_
        obtain ⟨r22, h23, hm⟩ := bindS hm
        refine QJ.step (y_call Try.call159 rfl (RetG.quiet fun w hw => ok_s_l05Index h23 w )) rfl ?_
        refine QJ.step (YldS.yld (y_bin rfl rfl rfl)) rfl ?_
        refine QJ.done ?_
        refine PJ.next ?_
        refine WJ.cond (t := decide (r22 ≥ 0)) rfl (fun hb24 => ?_) (fun hb24 => ?_)
        · replace hm := ifT hm hb24
          refine WJ.seq ?_
          refine WJ.quiet ?_
          refine QJ.step (YldS.yld (y_assign rfl)) rfl ?_
          refine QJ.done ?_
          refine PJ.next ?_
          refine WJ.ret ?_
          refine PJ.block_ret (PJ.then_ret (PJ.then_ret (PJ.block_ret (PJ.then_ret ?_))))
          obtain rfl := Option.some.inj hm
          refine PJ.sel (L' := []) [] ⟨List.nodup_nil, rfl⟩ ?_
          exact PJ.retn (vs := [.bool true]) Try.results138 ⟨rfl, trivial⟩ ⟨rfl, rfl⟩
        · replace hm := ifF hm hb24
          refine WJ.skip ?_
          refine PJ.block_normal (PJ.next ?_)
          refine WJ.quiet ?_
          refine QJ.step (YldS.yld (y_move rfl)) rfl ?_
          refine QJ.step (YldS.yld (y_bin rfl rfl rfl)) rfl ?_
          refine QJ.step (YldS.yld (y_assign rfl)) rfl ?_
          refine QJ.done ?_
          exact PJ.round (w64 (i10 + 1)) [] hm ⟨rfl, rfl, rfl, rfl, trivial⟩ ⟨List.nodup_nil, rfl⟩
      · replace hm := ifF hm hb11
        refine WJ.exit ?_
        refine PJ.then_exit (PJ.then_exit (PJ.block_exit ?_))
        exact PJ.joined () [] hm trivial ⟨List.nodup_nil, rfl⟩
  · rintro _ hm
    subst hk9
    refine WJ.seq ?_
    refine WJ.quiet ?_
    refine QJ.step (YldS.yld (y_assign rfl)) rfl ?_
    refine QJ.done ?_
    refine PJ.next ?_
    refine WJ.ret ?_
    obtain rfl := Option.some.inj hm
    refine PJ.sel (L' := []) [] ⟨List.nodup_nil, rfl⟩ ?_
    exact PJ.retn (vs := [.bool false]) Try.results138 ⟨rfl, trivial⟩ ⟨rfl, rfl⟩

set_option maxRecDepth 100000 in
set_option maxHeartbeats 1000000 in
theorem ok_s_l21Left {N : Nat} {list1 : List Drill} {some4 : List Int} {letters7 : Str} {r : Str} (hm : s_l21Left N list1 some4 letters7 = some r) (w : World) (v2 : Value) (hr3 : RdS w (cx w).Fz v2 fDrill.rp list1) (v5 : Value) (hr6 : RdS w (cx w).Fz v5 fI64.rp some4) :
    Calls Try.prog 109 #[v2, v5, str letters7] w (Ret (cx w) (str r)) := by
  unfold s_l21Left at hm
  refine Calls.enter [v2, v5, str letters7] Try.func109 rfl Try.ntmps109 rfl ?_
  refine WJ.seq ?_
  refine WJ.quiet ?_
  refine QJ.step (YldS.yld (y_assign rfl)) rfl ?_
  refine QJ.done ?_
  refine PJ.next ?_
  refine WJ.seq ?_
  refine WJ.reg ?_
  refine SJ.buildSlice (R := fByte) (os := []) [] Try.runUnderlying22 Try.sizeOf5 Try.zeroValue5 rfl rfl rfl rfl rfl rfl fun v8 => ?_
  refine SJ.q (YldS.yld (y_assign rfl)) rfl ?_
  refine SJ.nil ?_
  refine PJ.next ?_
  obtain ⟨kj11, hk12, hm⟩ := withK_open hm
  refine WJ.join (X := (List UInt8) × Value) (fun (x : (List UInt8) × Value) => kj11 x.1 = some r) (fun (x : (List UInt8) × Value) => [(7, x.2)]) (fun (x : (List UInt8) × Value) => [row x.2 5 fByte x.1]) ?_ ?_
  · clear hk12
    refine WJ.seq ?_
    refine WJ.quiet ?_
    refine QJ.step (YldS.yld (y_assign rfl)) rfl ?_
    refine QJ.done ?_
    refine PJ.next ?_
    refine WJ.block ?_
    refine WJ.sel (L' := (fun (x : (List UInt8) × Value × Int) => [row x.2.1 5 fByte x.1]) ([], v8, 0)) [0] ⟨by decide, rfl⟩ ?_
    refine WJ.sub (m' := (fun (x : (List UInt8) × Value × Int) => [(0, v2), (1, v5), (2, str letters7), (7, x.2.1), (8, .int .i64 x.2.2)]) ([], v8, 0)) ⟨rfl, rfl, rfl, rfl, rfl, trivial⟩ ?_
    refine WJ.loop (X := (List UInt8) × Value × Int) (fun N (x : (List UInt8) × Value × Int) => s_l21Left_l1 kj11 list1 some4 letters7 N x.1 x.2.2 = some r) (fun (x : (List UInt8) × Value × Int) => [(0, v2), (1, v5), (2, str letters7), (7, x.2.1), (8, .int .i64 x.2.2)]) (fun (x : (List UInt8) × Value × Int) => [row x.2.1 5 fByte x.1]) ?_ N ([], v8, 0) hm
    · rintro N ⟨l13, v14, i15⟩ hI
      have hm := hI; clear hI
      cases N with
      | zero => cases hm
      | succ N =>
      unfold s_l21Left_l1 at hm
      refine WJ.seq ?_
      refine WJ.seq ?_
      refine WJ.quiet ?_
      refine QJ.step (YldS.yld (y_move rfl)) rfl ?_
      refine QJ.step (YldS.yld (y_move rfl)) rfl ?_
      refine QJ.step (YldS.yld (y_lenStr Try.runUnderlying9 rfl)) rfl ?_
      refine QJ.step (YldS.yld (y_bin rfl rfl rfl)) rfl ?_
      refine QJ.done ?_
      refine PJ.next ?_
      refine WJ.cond (t := decide (i15 < (List.length letters7 : Int))) rfl (fun hb16 => ?_) (fun hb16 => ?_)
      · replace hm := ifT hm hb16
        refine WJ.skip ?_
        refine PJ.next ?_
        obtain ⟨kj19, hk20, hm⟩ := withK_open hm
        refine WJ.join (X := (List UInt8) × Value) (fun (x : (List UInt8) × Value) => kj19 x.1 = some r) (fun (x : (List UInt8) × Value) => [(0, v2), (1, v5), (2, str letters7), (7, x.2), (8, .int .i64 i15)]) (fun (x : (List UInt8) × Value) => [row x.2 5 fByte x.1]) ?_ ?_
        · clear hk20
          refine WJ.block ?_
          refine WJ.seq ?_
          refine WJ.quiet ?_
          refine QJ.step (YldS.yld (y_move rfl)) rfl ?_
          refine QJ.step (YldS.yld (y_move rfl)) rfl ?_
          refine QJ.step (YldS.yld (y_move rfl)) rfl ?_
          refine QJ.step (YldS.yld (y_move rfl)) rfl ?_
          obtain ⟨c21, h22, hm⟩ := bindS hm
          refine QJ.step (YldS.yld (y_idxStr Try.runUnderlying9 rfl rfl h22)) rfl ?_
          obtain ⟨r23, h24, hm⟩ := bindS hm
          refine QJ.step (y_call Try.call138 rfl (RetG.quiet fun w hw => ok_s_l21Trains h24 w _ (hr3.st hw) _ (hr6.st hw))) rfl ?_
          refine QJ.step (YldS.yld (y_not rfl)) rfl ?_
          refine QJ.done ?_
          refine PJ.next ?_
          refine WJ.cond (t := !r23) rfl (fun hb25 => ?_) (fun hb25 => ?_)
          · replace hm := ifT hm hb25
            refine WJ.reg ?_
            refine SJ.q (YldS.yld (y_move rfl)) rfl ?_
            refine SJ.q (YldS.yld (y_move rfl)) rfl ?_
            refine SJ.q (YldS.yld (y_move rfl)) rfl ?_
            obtain ⟨c26, h27, hm⟩ := bindS hm
            refine SJ.q (YldS.yld (y_idxStr Try.runUnderlying9 rfl rfl h27)) rfl ?_
            refine SJ.buildSlice (R := fByte) (os := [.tmp 26]) [c26] Try.runUnderlying22 Try.sizeOf5 Try.zeroValue5 rfl rfl rfl rfl rfl rfl fun v28 => ?_
            obtain ⟨l29, h30, hm⟩ := bindS hm
            refine SJ.append (k := 1) (R := fByte) h30 rfl Try.underlying22 el5 rfl rfl rfl (fun w hw => (hw.row_rd (k := 0) rfl)) rfl fun v31 => ?_
            refine SJ.q (YldS.yld (y_assign rfl)) rfl ?_
            refine SJ.nil ?_
            refine PJ.block_normal ?_
            exact PJ.joined (l29, v31) [1] hm ⟨rfl, rfl, rfl, rfl, rfl, trivial⟩ ⟨by decide, rfl⟩
          · replace hm := ifF hm hb25
            refine WJ.skip ?_
            refine PJ.block_normal ?_
            exact PJ.joined (l13, v14) [0] hm ⟨rfl, rfl, rfl, rfl, rfl, trivial⟩ ⟨by decide, rfl⟩
        · rintro ⟨l17, v18⟩ hm
          subst hk20
          refine WJ.quiet ?_
          refine QJ.step (YldS.yld (y_move rfl)) rfl ?_
          refine QJ.step (YldS.yld (y_bin rfl rfl rfl)) rfl ?_
          refine QJ.step (YldS.yld (y_assign rfl)) rfl ?_
          refine QJ.done ?_
          exact PJ.round (l17, v18, w64 (i15 + 1)) [0] hm ⟨rfl, rfl, rfl, rfl, rfl, trivial⟩ ⟨by decide, rfl⟩
      · replace hm := ifF hm hb16
        refine WJ.exit ?_
        refine PJ.then_exit (PJ.then_exit (PJ.block_exit ?_))
        exact PJ.joined (l13, v14) [0] hm ⟨rfl, trivial⟩ ⟨by decide, rfl⟩
  · rintro ⟨l9, v10⟩ hm
    subst hk12
    refine WJ.seq ?_
    refine WJ.quiet ?_
    refine QJ.step (YldS.yld (y_move rfl)) rfl ?_
    refine QJ.step (YldS.yld (y_b2s Try.underlying22 Try.underlying9 Try.underlying5 (fun w hw => ⟨_, (hw.row_rd (k := 0) rfl)⟩) rfl)) rfl ?_
    refine QJ.step (YldS.yld (y_assign rfl)) rfl ?_
    refine QJ.done ?_
    refine PJ.next ?_
    refine WJ.ret ?_
    obtain rfl := Option.some.inj hm
    refine PJ.sel (L' := []) [] ⟨List.nodup_nil, rfl⟩ ?_
    exact PJ.retn (vs := [str l9]) Try.results109 ⟨rfl, trivial⟩ ⟨rfl, rfl⟩

set_option maxRecDepth 100000 in
set_option maxHeartbeats 1000000 in
theorem ok_s_LettersLeft {N : Nat} {list1 : List Drill} {some4 : List Int} {letters7 : Str} {r : Str × Int} (hm : s_LettersLeft N list1 some4 letters7 = some r) (w : World) (v2 : Value) (hr3 : RdS w (cx w).Fz v2 fDrill.rp list1) (v5 : Value) (hr6 : RdS w (cx w).Fz v5 fI64.rp some4) :
    Calls Try.prog 58 #[v2, v5, str letters7] w (Ret (cx w) (tup [str r.1, .int .i64 r.2])) := by
  unfold s_LettersLeft at hm
  refine Calls.enter [v2, v5, str letters7] Try.func58 rfl Try.ntmps58 rfl ?_
  refine WJ.seq ?_
  refine WJ.quiet ?_
  refine QJ.step (YldS.yld (y_assign rfl)) rfl ?_
  refine QJ.step (YldS.yld (y_assign rfl)) rfl ?_
  refine QJ.done ?_
  refine PJ.next ?_
  refine WJ.seq ?_
  refine WJ.seq ?_
  refine WJ.quiet ?_
  refine QJ.step (YldS.yld (y_move rfl)) rfl ?_
  obtain ⟨r8, h9, hm⟩ := bindS hm
  refine QJ.step (y_call Try.call106 rfl (RetG.quiet fun w hw => ok_s_l21Ok h9 w _ (hr3.st hw))) rfl ?_
  refine QJ.step (YldS.yld (y_not rfl)) rfl ?_
  refine QJ.step (YldS.yld (y_move rfl)) rfl ?_
  obtain ⟨t10, h11, hm⟩ := bindS hm
  refine QJ.cut 4 [(0, v2), (1, v5), (2, str letters7), (15, .bool t10)] ?_ ?_
  · rcases Bool.eq_false_or_eq_true (!r8) with hb12 | hb12
    · obtain rfl := orT h11 hb12
      refine QJ.off rfl rfl (cB hb12) rfl rfl ?_
      refine QJ.off rfl rfl (cB hb12) rfl rfl ?_
      refine QJ.off rfl rfl (cB hb12) rfl rfl ?_
      refine QJ.step (YldS.yld (y_pick_t (cB hb12) rfl)) rfl ?_
      exact QJ.cut_end ⟨rfl, rfl, rfl, rfl, trivial⟩
    · replace h11 := orF h11 hb12
      refine QJ.on rfl rfl (cB hb12) (YldS.yld (y_move rfl)) rfl ?_
      obtain ⟨r13, h14, h11⟩ := bindS h11
      refine QJ.on rfl rfl (cB hb12) (y_call Try.call107 rfl (RetG.quiet fun w hw => ok_s_l21Letters h14 w )) rfl ?_
      refine QJ.on rfl rfl (cB hb12) (YldS.yld (y_not rfl)) rfl ?_
      refine QJ.step (YldS.yld (y_pick_f (cB hb12) rfl)) rfl ?_
      obtain rfl := Option.some.inj h11
      exact QJ.cut_end ⟨rfl, rfl, rfl, rfl, trivial⟩
  refine QJ.done ?_
  refine PJ.next ?_
  refine WJ.cond (t := t10) rfl (fun hb15 => ?_) (fun hb15 => ?_)
  · replace hm := ifT hm hb15
    refine WJ.seq ?_
    refine WJ.quiet ?_
    refine QJ.step (YldS.yld (y_assign rfl)) rfl ?_
    refine QJ.step (YldS.yld (y_assign rfl)) rfl ?_
    refine QJ.done ?_
    refine PJ.next ?_
    refine WJ.ret ?_
    refine PJ.then_ret ?_
    obtain rfl := Option.some.inj hm
    refine PJ.sel (L' := []) [] ⟨List.nodup_nil, rfl⟩ ?_
    exact PJ.retn (vs := [str [], .int .i64 1]) Try.results58 ⟨rfl, rfl, trivial⟩ ⟨rfl, rfl⟩
  · replace hm := ifF hm hb15
    refine WJ.skip ?_
    refine PJ.next ?_
    refine WJ.seq ?_
    refine WJ.seq ?_
    refine WJ.quiet ?_
    refine QJ.step (YldS.yld (y_move rfl)) rfl ?_
    refine QJ.step (YldS.yld (y_move rfl)) rfl ?_
    obtain ⟨r16, h17, hm⟩ := bindS hm
    refine QJ.step (y_call Try.call108 rfl (RetG.quiet fun w hw => ok_s_l21Some h17 w _ (hr3.st hw) _ (hr6.st hw))) rfl ?_
    refine QJ.step (YldS.yld (y_not rfl)) rfl ?_
    refine QJ.done ?_
    refine PJ.next ?_
    refine WJ.cond (t := !r16) rfl (fun hb18 => ?_) (fun hb18 => ?_)
    · replace hm := ifT hm hb18
      refine WJ.seq ?_
      refine WJ.quiet ?_
      refine QJ.step (YldS.yld (y_assign rfl)) rfl ?_
      refine QJ.step (YldS.yld (y_assign rfl)) rfl ?_
      refine QJ.done ?_
      refine PJ.next ?_
      refine WJ.ret ?_
      refine PJ.then_ret ?_
      obtain rfl := Option.some.inj hm
      refine PJ.sel (L' := []) [] ⟨List.nodup_nil, rfl⟩ ?_
      exact PJ.retn (vs := [str [], .int .i64 2]) Try.results58 ⟨rfl, rfl, trivial⟩ ⟨rfl, rfl⟩
    · replace hm := ifF hm hb18
      refine WJ.skip ?_
      refine PJ.next ?_
      refine WJ.seq ?_
      refine WJ.quiet ?_
      refine QJ.step (YldS.yld (y_move rfl)) rfl ?_
      refine QJ.step (YldS.yld (y_move rfl)) rfl ?_
      refine QJ.step (YldS.yld (y_move rfl)) rfl ?_
      obtain ⟨r19, h20, hm⟩ := bindS hm
      refine QJ.step (y_call Try.call109 rfl (RetG.quiet fun w hw => ok_s_l21Left h20 w _ (hr3.st hw) _ (hr6.st hw))) rfl ?_
      refine QJ.step (YldS.yld (y_assign rfl)) rfl ?_
      refine QJ.step (YldS.yld (y_assign rfl)) rfl ?_
      refine QJ.done ?_
      refine PJ.next ?_
      refine WJ.ret ?_
      obtain rfl := Option.some.inj hm
      refine PJ.sel (L' := []) [] ⟨List.nodup_nil, rfl⟩ ?_
      exact PJ.retn (vs := [str r19, .int .i64 0]) Try.results58 ⟨rfl, rfl, trivial⟩ ⟨rfl, rfl⟩

set_option maxRecDepth 100000 in
set_option maxHeartbeats 1000000 in
theorem ok_w_FnDrillSets {N : Nat} {code1 : List UInt8} {x4 : List UInt8} {r : Bool} (hm : w_FnDrillSets N code1 x4 = some r) (w : World) (v2 : Value) (hr3 : RdS w (cx w).Fz v2 fByte.rp code1) (v5 : Value) (hr6 : RdS w (cx w).Fz v5 fByte.rp x4) :
    Calls Try.prog 8 #[v2, v5] w (Ret (cx w) (.bool r)) := by
  unfold w_FnDrillSets at hm
  refine Calls.enter [v2, v5] Try.func8 rfl Try.ntmps8 rfl ?_
  refine WJ.seq ?_
  refine WJ.quiet ?_
  refine QJ.step (YldS.yld (y_assign rfl)) rfl ?_
  refine QJ.done ?_
  refine PJ.next ?_
  refine WJ.seq ?_
  refine WJ.seq ?_
  refine WJ.quiet ?_
  refine QJ.step (YldS.yld (y_move rfl)) rfl ?_
  refine QJ.step (YldS.yld (y_move rfl)) rfl ?_
  obtain ⟨r7, h8, hm⟩ := bindS hm
  refine QJ.step (y_call Try.call9 rfl (RetG.quiet fun w hw => ok_w_a2Long h8 w _ (hr3.st hw) _ (hr6.st hw))) rfl ?_
  refine QJ.done ?_
  refine PJ.next ?_
  refine WJ.cond (t := r7) rfl (fun hb9 => ?_) (fun hb9 => ?_)
  · replace hm := ifT hm hb9
    refine WJ.seq ?_
    refine WJ.quiet ?_
    refine QJ.step (YldS.yld (y_assign rfl)) rfl ?_
    refine QJ.done ?_
    refine PJ.next ?_
    refine WJ.ret ?_
    refine PJ.then_ret ?_
    obtain rfl := Option.some.inj hm
    refine PJ.sel (L' := []) [] ⟨List.nodup_nil, rfl⟩ ?_
    exact PJ.retn (vs := [.bool true]) Try.results8 ⟨rfl, trivial⟩ ⟨rfl, rfl⟩
  · replace hm := ifF hm hb9
    refine WJ.skip ?_
    refine PJ.next ?_
    refine WJ.seq ?_
    refine WJ.reg ?_
    refine SJ.q (YldS.yld (y_move rfl)) rfl ?_
    obtain ⟨r10, h11, hm⟩ := bindS hm
    refine SJ.call Try.call50 rfl (fun w hw => ok_s_A2Drills h11 w _ (hr3.st hw)) rfl ?_
    rintro v12 _ ⟨_, rfl, rfl⟩
    refine SJ.q (YldS.yld (y_assign rfl)) rfl ?_
    refine SJ.nil ?_
    refine PJ.next ?_
    refine WJ.seq ?_
    refine WJ.reg ?_
    refine SJ.q (YldS.yld (y_move rfl)) rfl ?_
    obtain ⟨r13, h14, hm⟩ := bindS hm
    refine SJ.call Try.call51 rfl (fun w hw => ok_s_A2Needs h14 w _ (hr6.st hw)) rfl ?_
    rintro _ _ ⟨v15, rfl, rfl⟩
    refine SJ.q (YldS.yld (y_move rfl)) rfl ?_
    refine SJ.q (YldS.yld (y_extract rfl rfl)) rfl ?_
    refine SJ.q (YldS.yld (y_extract rfl rfl)) rfl ?_
    refine SJ.q (YldS.yld (y_assign rfl)) rfl ?_
    refine SJ.q (YldS.yld (y_assign rfl)) rfl ?_
    refine SJ.nil ?_
    refine PJ.next ?_
    refine WJ.seq ?_
    refine WJ.quiet ?_
    refine QJ.step (YldS.yld (y_move rfl)) rfl ?_
    obtain ⟨r16, h17, hm⟩ := bindS hm
    refine QJ.step (y_call Try.call20 rfl (RetG.quiet fun w hw => ok_w_a2At h17 w _ (hr6.st hw))) rfl ?_
    refine QJ.step (YldS.yld (y_assign rfl)) rfl ?_
    refine QJ.done ?_
    refine PJ.next ?_
    refine WJ.seq ?_
    refine WJ.reg ?_
    refine SJ.q (YldS.yld (y_move rfl)) rfl ?_
    refine SJ.q (YldS.yld (y_move rfl)) rfl ?_
    refine SJ.q (YldS.yld (y_move rfl)) rfl ?_
    refine SJ.q (YldS.yld (y_move rfl)) rfl ?_
    obtain ⟨r18, h19, hm⟩ := bindS hm
    refine SJ.call Try.call52 rfl (fun w hw => ok_i_BestDrills h19 w _ (hw.row_rd (k := 1) rfl) _ (hw.row_rd (k := 0) rfl)) rfl ?_
    rintro _ _ ⟨v20, rfl, rfl⟩
    refine SJ.q (YldS.yld (y_move rfl)) rfl ?_
    refine SJ.q (YldS.yld (y_extract rfl rfl)) rfl ?_
    refine SJ.q (YldS.yld (y_extract rfl rfl)) rfl ?_
    refine SJ.q (YldS.yld (y_extract rfl rfl)) rfl ?_
    refine SJ.q (YldS.yld (y_assign rfl)) rfl ?_
    refine SJ.q (YldS.yld (y_assign rfl)) rfl ?_
    refine SJ.q (YldS.yld (y_assign rfl)) rfl ?_
    refine SJ.nil ?_
    refine PJ.next ?_
    refine WJ.seq ?_
    refine WJ.quiet ?_
    refine QJ.step (YldS.yld (y_move rfl)) rfl ?_
    refine QJ.step (YldS.yld (y_move rfl)) rfl ?_
    obtain ⟨r21, h22, hm⟩ := bindS hm
    refine QJ.step (y_call Try.call53 rfl (RetG.quiet fun w hw => ok_i_MinutesOf h22 w _ (hw.row_rd (k := 2) rfl) _ (hw.row_rd (k := 0) rfl))) rfl ?_
    refine QJ.step (YldS.yld (y_move rfl)) rfl ?_
    refine QJ.step (YldS.yld (y_extract rfl rfl)) rfl ?_
    refine QJ.step (YldS.yld (y_extract rfl rfl)) rfl ?_
    refine QJ.step (YldS.yld (y_assign rfl)) rfl ?_
    refine QJ.step (YldS.yld (y_assign rfl)) rfl ?_
    refine QJ.done ?_
    refine PJ.next ?_
    refine WJ.seq ?_
    refine WJ.quiet ?_
    refine QJ.step (YldS.yld (y_move rfl)) rfl ?_
    refine QJ.step (YldS.yld (y_move rfl)) rfl ?_
    refine QJ.step (YldS.yld (y_move rfl)) rfl ?_
    refine QJ.step (YldS.yld (y_move rfl)) rfl ?_
    obtain ⟨r23, h24, hm⟩ := bindS hm
    refine QJ.step (y_call Try.call54 rfl (RetG.quiet fun w hw => ok_i_CoveredBy h24 w _ (hw.row_rd (k := 2) rfl) _ (hw.row_rd (k := 0) rfl) _ (hw.row_rd (k := 1) rfl))) rfl ?_
    refine QJ.step (YldS.yld (y_move rfl)) rfl ?_
    refine QJ.step (YldS.yld (y_extract rfl rfl)) rfl ?_
    refine QJ.step (YldS.yld (y_extract rfl rfl)) rfl ?_
    refine QJ.step (YldS.yld (y_assign rfl)) rfl ?_
    refine QJ.step (YldS.yld (y_assign rfl)) rfl ?_
    refine QJ.done ?_
    refine PJ.next ?_
    refine WJ.seq ?_
    refine WJ.reg ?_
    refine SJ.q (YldS.yld (y_move rfl)) rfl ?_
    refine SJ.q (YldS.yld (y_move rfl)) rfl ?_
    refine SJ.q (YldS.yld (y_lenRow (k := 2) rfl Try.runUnderlying70 rfl)) rfl ?_
    obtain ⟨r25, h26, hm⟩ := bindS hm
    refine SJ.call Try.call55 rfl (fun w hw => ok_s_A2Some h26 w _ (hr6.st hw)) rfl ?_
    rintro v27 _ ⟨_, rfl, rfl⟩
    refine SJ.q (YldS.yld (y_assign rfl)) rfl ?_
    refine SJ.nil ?_
    refine PJ.next ?_
    refine WJ.seq ?_
    refine WJ.quiet ?_
    refine QJ.step (YldS.yld (y_move rfl)) rfl ?_
    refine QJ.step (YldS.yld (y_move rfl)) rfl ?_
    obtain ⟨r28, h29, hm⟩ := bindS hm
    refine QJ.step (y_call Try.call53 rfl (RetG.quiet fun w hw => ok_i_MinutesOf h29 w _ (hw.row_rd (k := 3) rfl) _ (hw.row_rd (k := 0) rfl))) rfl ?_
    refine QJ.step (YldS.yld (y_move rfl)) rfl ?_
    refine QJ.step (YldS.yld (y_extract rfl rfl)) rfl ?_
    refine QJ.step (YldS.yld (y_extract rfl rfl)) rfl ?_
    refine QJ.step (YldS.yld (y_assign rfl)) rfl ?_
    refine QJ.step (YldS.yld (y_assign rfl)) rfl ?_
    refine QJ.done ?_
    refine PJ.next ?_
    refine WJ.seq ?_
    refine WJ.quiet ?_
    refine QJ.step (YldS.yld (y_move rfl)) rfl ?_
    refine QJ.step (YldS.yld (y_move rfl)) rfl ?_
    refine QJ.step (YldS.yld (y_move rfl)) rfl ?_
    refine QJ.step (YldS.yld (y_move rfl)) rfl ?_
    obtain ⟨r30, h31, hm⟩ := bindS hm
    refine QJ.step (y_call Try.call54 rfl (RetG.quiet fun w hw => ok_i_CoveredBy h31 w _ (hw.row_rd (k := 3) rfl) _ (hw.row_rd (k := 0) rfl) _ (hw.row_rd (k := 2) rfl))) rfl ?_
    refine QJ.step (YldS.yld (y_move rfl)) rfl ?_
    refine QJ.step (YldS.yld (y_extract rfl rfl)) rfl ?_
    refine QJ.step (YldS.yld (y_extract rfl rfl)) rfl ?_
    refine QJ.step (YldS.yld (y_assign rfl)) rfl ?_
    refine QJ.step (YldS.yld (y_assign rfl)) rfl ?_
    refine QJ.done ?_
    refine PJ.next ?_
    refine WJ.seq ?_
    refine WJ.seq ?_
    refine WJ.quiet ?_
    refine QJ.step (YldS.yld (y_move rfl)) rfl ?_
    refine QJ.step (YldS.yld (y_bin rfl rfl rfl)) rfl ?_
    refine QJ.step (YldS.yld (y_move rfl)) rfl ?_
    obtain ⟨t32, h33, hm⟩ := bindS hm
    refine QJ.cut 3 [(5, v12), (6, str r13.1), (7, v15), (8, .int .i64 r16), (10, .int .i64 r18.2.1), (12, .int .i64 r21.1), (14, .int .i64 r23.1), (15, .int .i64 r23.2), (16, v27), (17, .int .i64 r28.1), (18, .int .i64 r28.2), (19, .int .i64 r30.1), (20, .int .i64 r30.2), (92, .bool t32)] ?_ ?_
    · rcases Bool.eq_false_or_eq_true (r18.2.2 != 0) with hb34 | hb34
      · obtain rfl := orT h33 hb34
        refine QJ.off rfl rfl (cB hb34) rfl rfl ?_
        refine QJ.off rfl rfl (cB hb34) rfl rfl ?_
        refine QJ.step (YldS.yld (y_pick_t (cB hb34) rfl)) rfl ?_
        exact QJ.cut_end ⟨rfl, rfl, rfl, rfl, rfl, rfl, rfl, rfl, rfl, rfl, rfl, rfl, rfl, rfl, trivial⟩
      · replace h33 := orF h33 hb34
        refine QJ.on rfl rfl (cB hb34) (YldS.yld (y_move rfl)) rfl ?_
        refine QJ.on rfl rfl (cB hb34) (YldS.yld (y_bin rfl rfl rfl)) rfl ?_
        refine QJ.step (YldS.yld (y_pick_f (cB hb34) rfl)) rfl ?_
        obtain rfl := Option.some.inj h33
        exact QJ.cut_end ⟨rfl, rfl, rfl, rfl, rfl, rfl, rfl, rfl, rfl, rfl, rfl, rfl, rfl, rfl, trivial⟩
    refine QJ.step (YldS.yld (y_move rfl)) rfl ?_
    obtain ⟨t35, h36, hm⟩ := bindS hm
    refine QJ.cut 4 [(5, v12), (6, str r13.1), (7, v15), (8, .int .i64 r16), (10, .int .i64 r18.2.1), (12, .int .i64 r21.1), (14, .int .i64 r23.1), (15, .int .i64 r23.2), (16, v27), (17, .int .i64 r28.1), (18, .int .i64 r28.2), (19, .int .i64 r30.1), (20, .int .i64 r30.2), (97, .bool t35)] ?_ ?_
    · rcases Bool.eq_false_or_eq_true t32 with hb37 | hb37
      · obtain rfl := orT h36 hb37
        refine QJ.off rfl rfl (cB hb37) rfl rfl ?_
        refine QJ.off rfl rfl (cB hb37) rfl rfl ?_
        refine QJ.off rfl rfl (cB hb37) rfl rfl ?_
        refine QJ.step (YldS.yld (y_pick_t (cB hb37) rfl)) rfl ?_
        exact QJ.cut_end ⟨rfl, rfl, rfl, rfl, rfl, rfl, rfl, rfl, rfl, rfl, rfl, rfl, rfl, rfl, trivial⟩
      · replace h36 := orF h36 hb37
        refine QJ.on rfl rfl (cB hb37) (YldS.yld (y_move rfl)) rfl ?_
        refine QJ.on rfl rfl (cB hb37) (YldS.yld (y_move rfl)) rfl ?_
        refine QJ.on rfl rfl (cB hb37) (YldS.yld (y_bin rfl rfl rfl)) rfl ?_
        refine QJ.step (YldS.yld (y_pick_f (cB hb37) rfl)) rfl ?_
        obtain rfl := Option.some.inj h36
        exact QJ.cut_end ⟨rfl, rfl, rfl, rfl, rfl, rfl, rfl, rfl, rfl, rfl, rfl, rfl, rfl, rfl, trivial⟩
    refine QJ.step (YldS.yld (y_move rfl)) rfl ?_
    obtain ⟨t38, h39, hm⟩ := bindS hm
    refine QJ.cut 3 [(5, v12), (6, str r13.1), (7, v15), (8, .int .i64 r16), (10, .int .i64 r18.2.1), (12, .int .i64 r21.1), (14, .int .i64 r23.1), (16, v27), (17, .int .i64 r28.1), (18, .int .i64 r28.2), (19, .int .i64 r30.1), (20, .int .i64 r30.2), (101, .bool t38)] ?_ ?_
    · rcases Bool.eq_false_or_eq_true t35 with hb40 | hb40
      · obtain rfl := orT h39 hb40
        refine QJ.off rfl rfl (cB hb40) rfl rfl ?_
        refine QJ.off rfl rfl (cB hb40) rfl rfl ?_
        refine QJ.step (YldS.yld (y_pick_t (cB hb40) rfl)) rfl ?_
        exact QJ.cut_end ⟨rfl, rfl, rfl, rfl, rfl, rfl, rfl, rfl, rfl, rfl, rfl, rfl, rfl, trivial⟩
      · replace h39 := orF h39 hb40
        refine QJ.on rfl rfl (cB hb40) (YldS.yld (y_move rfl)) rfl ?_
        refine QJ.on rfl rfl (cB hb40) (YldS.yld (y_bin rfl rfl rfl)) rfl ?_
        refine QJ.step (YldS.yld (y_pick_f (cB hb40) rfl)) rfl ?_
        obtain rfl := Option.some.inj h39
        exact QJ.cut_end ⟨rfl, rfl, rfl, rfl, rfl, rfl, rfl, rfl, rfl, rfl, rfl, rfl, rfl, trivial⟩
    refine QJ.step (YldS.yld (y_move rfl)) rfl ?_
    obtain ⟨t41, h42, hm⟩ := bindS hm
    refine QJ.cut 4 [(5, v12), (6, str r13.1), (7, v15), (8, .int .i64 r16), (10, .int .i64 r18.2.1), (12, .int .i64 r21.1), (16, v27), (17, .int .i64 r28.1), (18, .int .i64 r28.2), (19, .int .i64 r30.1), (20, .int .i64 r30.2), (106, .bool t41)] ?_ ?_
    · rcases Bool.eq_false_or_eq_true t38 with hb43 | hb43
      · obtain rfl := orT h42 hb43
        refine QJ.off rfl rfl (cB hb43) rfl rfl ?_
        refine QJ.off rfl rfl (cB hb43) rfl rfl ?_
        refine QJ.off rfl rfl (cB hb43) rfl rfl ?_
        refine QJ.step (YldS.yld (y_pick_t (cB hb43) rfl)) rfl ?_
        exact QJ.cut_end ⟨rfl, rfl, rfl, rfl, rfl, rfl, rfl, rfl, rfl, rfl, rfl, rfl, trivial⟩
      · replace h42 := orF h42 hb43
        refine QJ.on rfl rfl (cB hb43) (YldS.yld (y_move rfl)) rfl ?_
        refine QJ.on rfl rfl (cB hb43) (YldS.yld (y_move rfl)) rfl ?_
        refine QJ.on rfl rfl (cB hb43) (YldS.yld (y_bin rfl rfl rfl)) rfl ?_
        refine QJ.step (YldS.yld (y_pick_f (cB hb43) rfl)) rfl ?_
        obtain rfl := Option.some.inj h42
        exact QJ.cut_end ⟨rfl, rfl, rfl, rfl, rfl, rfl, rfl, rfl, rfl, rfl, rfl, rfl, trivial⟩
    refine QJ.step (YldS.yld (y_move rfl)) rfl ?_
    obtain ⟨t44, h45, hm⟩ := bindS hm
    refine QJ.cut 3 [(5, v12), (6, str r13.1), (7, v15), (8, .int .i64 r16), (10, .int .i64 r18.2.1), (12, .int .i64 r21.1), (16, v27), (17, .int .i64 r28.1), (19, .int .i64 r30.1), (20, .int .i64 r30.2), (110, .bool t44)] ?_ ?_
    · rcases Bool.eq_false_or_eq_true t41 with hb46 | hb46
      · obtain rfl := orT h45 hb46
        refine QJ.off rfl rfl (cB hb46) rfl rfl ?_
        refine QJ.off rfl rfl (cB hb46) rfl rfl ?_
        refine QJ.step (YldS.yld (y_pick_t (cB hb46) rfl)) rfl ?_
        exact QJ.cut_end ⟨rfl, rfl, rfl, rfl, rfl, rfl, rfl, rfl, rfl, rfl, rfl, trivial⟩
      · replace h45 := orF h45 hb46
        refine QJ.on rfl rfl (cB hb46) (YldS.yld (y_move rfl)) rfl ?_
        refine QJ.on rfl rfl (cB hb46) (YldS.yld (y_bin rfl rfl rfl)) rfl ?_
        refine QJ.step (YldS.yld (y_pick_f (cB hb46) rfl)) rfl ?_
        obtain rfl := Option.some.inj h45
        exact QJ.cut_end ⟨rfl, rfl, rfl, rfl, rfl, rfl, rfl, rfl, rfl, rfl, rfl, trivial⟩
    refine QJ.step (YldS.yld (y_move rfl)) rfl ?_
    obtain ⟨t47, h48, hm⟩ := bindS hm
    refine QJ.cut 3 [(5, v12), (6, str r13.1), (7, v15), (8, .int .i64 r16), (10, .int .i64 r18.2.1), (12, .int .i64 r21.1), (16, v27), (17, .int .i64 r28.1), (19, .int .i64 r30.1), (114, .bool t47)] ?_ ?_
    · rcases Bool.eq_false_or_eq_true t44 with hb49 | hb49
      · obtain rfl := orT h48 hb49
        refine QJ.off rfl rfl (cB hb49) rfl rfl ?_
        refine QJ.off rfl rfl (cB hb49) rfl rfl ?_
        refine QJ.step (YldS.yld (y_pick_t (cB hb49) rfl)) rfl ?_
        exact QJ.cut_end ⟨rfl, rfl, rfl, rfl, rfl, rfl, rfl, rfl, rfl, rfl, trivial⟩
      · replace h48 := orF h48 hb49
        refine QJ.on rfl rfl (cB hb49) (YldS.yld (y_move rfl)) rfl ?_
        refine QJ.on rfl rfl (cB hb49) (YldS.yld (y_bin rfl rfl rfl)) rfl ?_
        refine QJ.step (YldS.yld (y_pick_f (cB hb49) rfl)) rfl ?_
        obtain rfl := Option.some.inj h48
        exact QJ.cut_end ⟨rfl, rfl, rfl, rfl, rfl, rfl, rfl, rfl, rfl, rfl, trivial⟩
    refine QJ.step (YldS.yld (y_move rfl)) rfl ?_
    obtain ⟨t50, h51, hm⟩ := bindS hm
    refine QJ.cut 19 [(5, v12), (6, str r13.1), (7, v15), (16, v27), (19, .int .i64 r30.1), (134, .bool t50)] ?_ ?_
    · rcases Bool.eq_false_or_eq_true t47 with hb52 | hb52
      · obtain rfl := orT h51 hb52
        refine QJ.off rfl rfl (cB hb52) rfl rfl ?_
        refine QJ.off rfl rfl (cB hb52) rfl rfl ?_
        refine QJ.off rfl rfl (cB hb52) rfl rfl ?_
        refine QJ.off rfl rfl (cB hb52) rfl rfl ?_
        refine QJ.off_undef rfl rfl rfl rfl ?_
        refine QJ.off_undef rfl rfl rfl rfl ?_
        refine QJ.off_undef rfl rfl rfl rfl ?_
        refine QJ.off_undef rfl rfl rfl rfl ?_
        refine QJ.off_undef rfl rfl rfl rfl ?_
        refine QJ.off_undef rfl rfl rfl rfl ?_
        refine QJ.off_undef rfl rfl rfl rfl ?_
        refine QJ.off_undef rfl rfl rfl rfl ?_
        refine QJ.off_undef rfl rfl rfl rfl ?_
        refine QJ.off_undef rfl rfl rfl rfl ?_
        refine QJ.off_undef rfl rfl rfl rfl ?_
        refine QJ.off_undef rfl rfl rfl rfl ?_
        refine QJ.off_undef rfl rfl rfl rfl ?_
        refine QJ.off rfl rfl (cB hb52) rfl rfl ?_
        refine QJ.step (YldS.yld (y_pick_t (cB hb52) rfl)) rfl ?_
        exact QJ.cut_end ⟨rfl, rfl, rfl, rfl, rfl, rfl, trivial⟩
      · replace h51 := orF h51 hb52
        refine QJ.on rfl rfl (cB hb52) (YldS.yld (y_move rfl)) rfl ?_
        refine QJ.on rfl rfl (cB hb52) (YldS.yld (y_move rfl)) rfl ?_
        refine QJ.on rfl rfl (cB hb52) (YldS.yld (y_bin rfl rfl rfl)) rfl ?_
        refine QJ.on rfl rfl (cB hb52) (YldS.yld (y_move rfl)) rfl ?_
        obtain ⟨t53, h54, h51⟩ := bindS h51
        refine QJ.cut 14 [(5, v12), (6, str r13.1), (7, v15), (16, v27), (19, .int .i64 r30.1), (115, .bool t47), (133, .bool t53)] ?_ ?_
        · rcases Bool.eq_false_or_eq_true (decide (r28.1 ≤ r16)) with hb55 | hb55
          · replace h54 := andT h54 hb55
            refine QJ.on rfl rfl (cB hb55) (YldS.yld (y_move rfl)) rfl ?_
            refine QJ.on rfl rfl (cB hb55) (YldS.yld (y_move rfl)) rfl ?_
            refine QJ.on rfl rfl (cB hb55) (YldS.yld (y_bin rfl rfl rfl)) rfl ?_
            refine QJ.on rfl rfl (cB hb55) (YldS.yld (y_move rfl)) rfl ?_
            obtain ⟨t56, h57, h54⟩ := bindS h54
            refine QJ.cut 9 [(5, v12), (6, str r13.1), (7, v15), (16, v27), (19, .int .i64 r30.1), (115, .bool t47), (119, .bool (decide (r28.1 ≤ r16))), (132, .bool t56)] ?_ ?_
            · rcases Bool.eq_false_or_eq_true (decide (r30.1 > r18.2.1)) with hb58 | hb58
              · obtain rfl := orT h57 hb58
                refine QJ.off rfl rfl (cB hb58) rfl rfl ?_
                refine QJ.off rfl rfl (cB hb58) rfl rfl ?_
                refine QJ.off rfl rfl (cB hb58) rfl rfl ?_
                refine QJ.off rfl rfl (cB hb58) rfl rfl ?_
                refine QJ.off_undef rfl rfl rfl rfl ?_
                refine QJ.off_undef rfl rfl rfl rfl ?_
                refine QJ.off_undef rfl rfl rfl rfl ?_
                refine QJ.off rfl rfl (cB hb58) rfl rfl ?_
                refine QJ.on rfl rfl (cB hb55) (YldS.yld (y_pick_t (cB hb58) rfl)) rfl ?_
                exact QJ.cut_end ⟨rfl, rfl, rfl, rfl, rfl, rfl, rfl, rfl, trivial⟩
              · replace h57 := orF h57 hb58
                refine QJ.on rfl rfl (cB hb58) (YldS.yld (y_move rfl)) rfl ?_
                refine QJ.on rfl rfl (cB hb58) (YldS.yld (y_move rfl)) rfl ?_
                refine QJ.on rfl rfl (cB hb58) (YldS.yld (y_bin rfl rfl rfl)) rfl ?_
                refine QJ.on rfl rfl (cB hb58) (YldS.yld (y_move rfl)) rfl ?_
                obtain ⟨t59, h60, h57⟩ := bindS h57
                refine QJ.cut 4 [(5, v12), (6, str r13.1), (7, v15), (16, v27), (19, .int .i64 r30.1), (115, .bool t47), (119, .bool (decide (r28.1 ≤ r16))), (123, .bool (decide (r30.1 > r18.2.1))), (131, .bool t59)] ?_ ?_
                · rcases Bool.eq_false_or_eq_true (r30.1 == r18.2.1) with hb61 | hb61
                  · replace h60 := andT h60 hb61
                    refine QJ.on rfl rfl (cB hb61) (YldS.yld (y_move rfl)) rfl ?_
                    refine QJ.on rfl rfl (cB hb61) (YldS.yld (y_move rfl)) rfl ?_
                    refine QJ.on rfl rfl (cB hb61) (YldS.yld (y_bin rfl rfl rfl)) rfl ?_
                    refine QJ.on rfl rfl (cB hb58) (YldS.yld (y_pick_t (cB hb61) rfl)) rfl ?_
                    obtain rfl := Option.some.inj h60
                    exact QJ.cut_end ⟨rfl, rfl, rfl, rfl, rfl, rfl, rfl, rfl, rfl, trivial⟩
                  · obtain rfl := andF h60 hb61
                    refine QJ.off rfl rfl (cB hb61) rfl rfl ?_
                    refine QJ.off rfl rfl (cB hb61) rfl rfl ?_
                    refine QJ.off rfl rfl (cB hb61) rfl rfl ?_
                    refine QJ.on rfl rfl (cB hb58) (YldS.yld (y_pick_f (cB hb61) rfl)) rfl ?_
                    exact QJ.cut_end ⟨rfl, rfl, rfl, rfl, rfl, rfl, rfl, rfl, rfl, trivial⟩
                refine QJ.on rfl rfl (cB hb55) (YldS.yld (y_pick_f (cB hb58) rfl)) rfl ?_
                obtain rfl := Option.some.inj h57
                exact QJ.cut_end ⟨rfl, rfl, rfl, rfl, rfl, rfl, rfl, rfl, trivial⟩
            refine QJ.on rfl rfl (cB hb52) (YldS.yld (y_pick_t (cB hb55) rfl)) rfl ?_
            obtain rfl := Option.some.inj h54
            exact QJ.cut_end ⟨rfl, rfl, rfl, rfl, rfl, rfl, rfl, trivial⟩
          · obtain rfl := andF h54 hb55
            refine QJ.off rfl rfl (cB hb55) rfl rfl ?_
            refine QJ.off rfl rfl (cB hb55) rfl rfl ?_
            refine QJ.off rfl rfl (cB hb55) rfl rfl ?_
            refine QJ.off rfl rfl (cB hb55) rfl rfl ?_
            refine QJ.off_undef rfl rfl rfl rfl ?_
            refine QJ.off_undef rfl rfl rfl rfl ?_
            refine QJ.off_undef rfl rfl rfl rfl ?_
            refine QJ.off_undef rfl rfl rfl rfl ?_
            refine QJ.off_undef rfl rfl rfl rfl ?_
            refine QJ.off_undef rfl rfl rfl rfl ?_
            refine QJ.off_undef rfl rfl rfl rfl ?_
            refine QJ.off_undef rfl rfl rfl rfl ?_
            refine QJ.off rfl rfl (cB hb55) rfl rfl ?_
            refine QJ.on rfl rfl (cB hb52) (YldS.yld (y_pick_f (cB hb55) rfl)) rfl ?_
            exact QJ.cut_end ⟨rfl, rfl, rfl, rfl, rfl, rfl, rfl, trivial⟩
        refine QJ.step (YldS.yld (y_pick_f (cB hb52) rfl)) rfl ?_
        obtain rfl := Option.some.inj h51
        exact QJ.cut_end ⟨rfl, rfl, rfl, rfl, rfl, rfl, trivial⟩
    refine QJ.done ?_
    refine PJ.next ?_
    refine WJ.cond (t := t50) rfl (fun hb62 => ?_) (fun hb62 => ?_)
    · replace hm := ifT hm hb62
      refine WJ.seq ?_
      refine WJ.quiet ?_
      refine QJ.step (YldS.yld (y_assign rfl)) rfl ?_
      refine QJ.done ?_
      refine PJ.next ?_
      refine WJ.ret ?_
      refine PJ.then_ret ?_
      obtain rfl := Option.some.inj hm
      refine PJ.sel (L' := []) [] ⟨List.nodup_nil, rfl⟩ ?_
      exact PJ.retn (vs := [.bool false]) Try.results8 ⟨rfl, trivial⟩ ⟨rfl, rfl⟩
    · replace hm := ifF hm hb62
      refine WJ.skip ?_
      refine PJ.next ?_
      refine WJ.seq ?_
      refine WJ.quiet ?_
      refine QJ.step (YldS.yld (y_move rfl)) rfl ?_
      refine QJ.step (YldS.yld (y_move rfl)) rfl ?_
      refine QJ.step (YldS.yld (y_move rfl)) rfl ?_
      obtain ⟨r63, h64, hm⟩ := bindS hm
      refine QJ.step (y_call Try.call56 rfl (RetG.quiet fun w hw => ok_i_LettersLeft h64 w _ (hw.row_rd (k := 3) rfl) _ (hw.row_rd (k := 0) rfl))) rfl ?_
      refine QJ.step (YldS.yld (y_move rfl)) rfl ?_
      refine QJ.step (YldS.yld (y_extract rfl rfl)) rfl ?_
      refine QJ.step (YldS.yld (y_extract rfl rfl)) rfl ?_
      refine QJ.step (YldS.yld (y_assign rfl)) rfl ?_
      refine QJ.step (YldS.yld (y_assign rfl)) rfl ?_
      refine QJ.done ?_
      refine PJ.next ?_
      refine WJ.seq ?_
      refine WJ.seq ?_
      refine WJ.quiet ?_
      refine QJ.step (YldS.yld (y_move rfl)) rfl ?_
      refine QJ.step (YldS.yld (y_bin rfl rfl rfl)) rfl ?_
      refine QJ.done ?_
      refine PJ.next ?_
      refine WJ.cond (t := (r63.2 != 0)) rfl (fun hb65 => ?_) (fun hb65 => ?_)
      · replace hm := ifT hm hb65
        refine WJ.seq ?_
        refine WJ.quiet ?_
        refine QJ.step (YldS.yld (y_assign rfl)) rfl ?_
        refine QJ.done ?_
        refine PJ.next ?_
        refine WJ.ret ?_
        refine PJ.then_ret ?_
        obtain rfl := Option.some.inj hm
        refine PJ.sel (L' := []) [] ⟨List.nodup_nil, rfl⟩ ?_
        exact PJ.retn (vs := [.bool false]) Try.results8 ⟨rfl, trivial⟩ ⟨rfl, rfl⟩
      · replace hm := ifF hm hb65
        refine WJ.skip ?_
        refine PJ.next ?_
        refine WJ.seq ?_
        refine WJ.quiet ?_
        refine QJ.step (YldS.yld (y_assign rfl)) rfl ?_
        refine QJ.done ?_
        refine PJ.next ?_
        refine WJ.seq ?_
        refine WJ.quiet ?_
        refine QJ.step (YldS.yld (y_assign rfl)) rfl ?_
        refine QJ.done ?_
        refine PJ.next ?_
        obtain ⟨kj68, hk69, hm⟩ := withK_open hm
        refine WJ.join (X := Int × Int) (fun (x : Int × Int) => kj68 x.1 x.2 = some r) (fun (x : Int × Int) => [(5, v12), (6, str r13.1), (7, v15), (16, v27), (19, .int .i64 r30.1), (21, str r63.1), (23, .int .i64 x.1), (24, .int .i64 x.2)]) (fun (x : Int × Int) => [row v27 2 fI64 r25, row v15 2 fI64 r13.2, row v12 152 fDrill r10]) ?_ ?_
        · clear hk69
          refine WJ.seq ?_
          refine WJ.quiet ?_
          refine QJ.step (YldS.yld (y_assign rfl)) rfl ?_
          refine QJ.done ?_
          refine PJ.next ?_
          refine WJ.block ?_
          refine WJ.sel (L' := (fun (x : Int × Int × Int) => [row v27 2 fI64 r25, row v15 2 fI64 r13.2, row v12 152 fDrill r10]) (0, 0, 0)) [0, 2, 3] ⟨by decide, rfl⟩ ?_
          refine WJ.sub (m' := (fun (x : Int × Int × Int) => [(5, v12), (6, str r13.1), (7, v15), (16, v27), (19, .int .i64 r30.1), (21, str r63.1), (23, .int .i64 x.1), (24, .int .i64 x.2.1), (25, .int .i64 x.2.2)]) (0, 0, 0)) ⟨rfl, rfl, rfl, rfl, rfl, rfl, rfl, rfl, rfl, trivial⟩ ?_
          refine WJ.loop (X := Int × Int × Int) (fun N (x : Int × Int × Int) => w_FnDrillSets_l1 kj68 r13 r63 N x.1 x.2.1 x.2.2 = some r) (fun (x : Int × Int × Int) => [(5, v12), (6, str r13.1), (7, v15), (16, v27), (19, .int .i64 r30.1), (21, str r63.1), (23, .int .i64 x.1), (24, .int .i64 x.2.1), (25, .int .i64 x.2.2)]) (fun (x : Int × Int × Int) => [row v27 2 fI64 r25, row v15 2 fI64 r13.2, row v12 152 fDrill r10]) ?_ N (0, 0, 0) hm
          · rintro N ⟨x70, x71, x72⟩ hI
            have hm := hI; clear hI
            cases N with
            | zero => cases hm
            | succ N =>
            unfold w_FnDrillSets_l1 at hm
            refine WJ.seq ?_
            refine WJ.seq ?_
            refine WJ.quiet ?_
            refine QJ.step (YldS.yld (y_move rfl)) rfl ?_
            refine QJ.step (YldS.yld (y_move rfl)) rfl ?_
            refine QJ.step (YldS.yld (y_lenStr Try.runUnderlying9 rfl)) rfl ?_
            refine QJ.step (YldS.yld (y_bin rfl rfl rfl)) rfl ?_
            refine QJ.done ?_
            refine PJ.next ?_
            refine WJ.cond (t := decide (x72 < (List.length r13.1 : Int))) rfl (fun hb73 => ?_) (fun hb73 => ?_)
            · replace hm := ifT hm hb73
              refine WJ.skip ?_
              refine PJ.next ?_
              obtain ⟨kj76, hk77, hm⟩ := withK_open hm
              refine WJ.join (X := Int × Int) (fun (x : Int × Int) => kj76 x.1 x.2 = some r) (fun (x : Int × Int) => [(5, v12), (6, str r13.1), (7, v15), (16, v27), (19, .int .i64 r30.1), (21, str r63.1), (23, .int .i64 x.1), (24, .int .i64 x.2), (25, .int .i64 x72)]) (fun (x : Int × Int) => [row v27 2 fI64 r25, row v15 2 fI64 r13.2, row v12 152 fDrill r10]) ?_ ?_
              · clear hk77
                refine WJ.block ?_
                refine WJ.seq ?_
                refine WJ.quiet_draw follows (by kernel_rfl) ?_
                refine QJ.step (YldS.yld (y_move rfl)) rfl ?_
                refine QJ.step (YldS.yld (y_move rfl)) rfl ?_
                refine QJ.step (YldS.yld (y_lenStr Try.runUnderlying9 rfl)) rfl ?_
                refine QJ.step (YldS.yld (y_bin rfl rfl rfl)) rfl ?_
                refine QJ.step (YldS.yld (y_move rfl)) rfl ?_
                obtain ⟨t78, h79, hm⟩ := bindS hm
                refine QJ.cut 8 [(5, v12), (6, str r13.1), (7, v15), (16, v27), (19, .int .i64 r30.1), (21, str r63.1), (23, .int .i64 x70), (24, .int .i64 x71), (25, .int .i64 x72), (162, .bool t78)] ?_ ?_
                · rcases Bool.eq_false_or_eq_true (decide (x71 < (List.length r63.1 : Int))) with hb80 | hb80
                  · replace h79 := andT h79 hb80
                    refine QJ.on rfl rfl (cB hb80) (YldS.yld (y_move rfl)) rfl ?_
                    refine QJ.on rfl rfl (cB hb80) (YldS.yld (y_move rfl)) rfl ?_
                    obtain ⟨c81, h82, h79⟩ := bindS h79
                    refine QJ.on rfl rfl (cB hb80) (YldS.yld (y_idxStr Try.runUnderlying9 rfl rfl h82)) rfl ?_
                    refine QJ.on rfl rfl (cB hb80) (YldS.yld (y_move rfl)) rfl ?_
                    refine QJ.on rfl rfl (cB hb80) (YldS.yld (y_move rfl)) rfl ?_
                    obtain ⟨c83, h84, h79⟩ := bindS h79
                    refine QJ.on rfl rfl (cB hb80) (YldS.yld (y_idxStr Try.runUnderlying9 rfl rfl h84)) rfl ?_
                    refine QJ.on rfl rfl (cB hb80) (YldS.yld (y_bin8 c81 c83 rfl rfl rfl)) rfl ?_
                    refine QJ.step (YldS.yld (y_pick_t (cB hb80) rfl)) rfl ?_
                    obtain rfl := Option.some.inj h79
                    exact QJ.cut_end ⟨rfl, rfl, rfl, rfl, rfl, rfl, rfl, rfl, rfl, rfl, trivial⟩
                  · obtain rfl := andF h79 hb80
                    refine QJ.off rfl rfl (cB hb80) rfl rfl ?_
                    refine QJ.off rfl rfl (cB hb80) rfl rfl ?_
                    refine QJ.off rfl rfl (cB hb80) rfl rfl ?_
                    refine QJ.off rfl rfl (cB hb80) rfl rfl ?_
                    refine QJ.off rfl rfl (cB hb80) rfl rfl ?_
                    refine QJ.off rfl rfl (cB hb80) rfl rfl ?_
                    refine QJ.off rfl rfl (cB hb80) rfl rfl ?_
                    refine QJ.step (YldS.yld (y_pick_f (cB hb80) rfl)) rfl ?_
                    exact QJ.cut_end ⟨rfl, rfl, rfl, rfl, rfl, rfl, rfl, rfl, rfl, rfl, trivial⟩
                refine QJ.done ?_
                refine PJ.next ?_
                refine WJ.cond (t := t78) rfl (fun hb85 => ?_) (fun hb85 => ?_)
                · replace hm := ifT hm hb85
                  refine WJ.seq ?_
                  refine WJ.quiet ?_
                  refine QJ.step (YldS.yld (y_move rfl)) rfl ?_
                  refine QJ.step (YldS.yld (y_move rfl)) rfl ?_
                  refine QJ.step (YldS.yld (y_move rfl)) rfl ?_
                  obtain ⟨e86, h87, hm⟩ := bindS hm
                  refine QJ.step (YldS.yld (y_ixRow (k := 1) (R := fI64) rfl Try.runUnderlying24 Try.sizeOf2 rfl rfl h87)) rfl ?_
                  refine QJ.step (YldS.yld (y_loadR (k := 1) (i := (Int.toNat x72)) (off := 0) (u := .int .i64 e86) rfl Try.isAgg2 rfl (idx_get h87) rfl)) rfl ?_
                  refine QJ.step (YldS.yld (y_bin rfl rfl rfl)) rfl ?_
                  refine QJ.step (YldS.yld (y_assign rfl)) rfl ?_
                  refine QJ.done ?_
                  refine PJ.next ?_
                  refine WJ.quiet ?_
                  refine QJ.step (YldS.yld (y_move rfl)) rfl ?_
                  refine QJ.step (YldS.yld (y_bin rfl rfl rfl)) rfl ?_
                  refine QJ.step (YldS.yld (y_assign rfl)) rfl ?_
                  refine QJ.done ?_
                  refine PJ.block_normal ?_
                  exact PJ.joined (w64 (x70 + e86), w64 (x71 + 1)) [0, 1, 2] hm ⟨rfl, rfl, rfl, rfl, rfl, rfl, rfl, rfl, rfl, trivial⟩ ⟨by decide, rfl⟩
                · replace hm := ifF hm hb85
                  refine WJ.skip ?_
                  refine PJ.block_normal ?_
                  exact PJ.joined (x70, x71) [0, 1, 2] hm ⟨rfl, rfl, rfl, rfl, rfl, rfl, rfl, rfl, rfl, trivial⟩ ⟨by decide, rfl⟩
              · rintro ⟨x74, x75⟩ hm
                subst hk77
                refine WJ.quiet ?_
                refine QJ.step (YldS.yld (y_move rfl)) rfl ?_
                refine QJ.step (YldS.yld (y_bin rfl rfl rfl)) rfl ?_
                refine QJ.step (YldS.yld (y_assign rfl)) rfl ?_
                refine QJ.done ?_
                exact PJ.round (x74, x75, w64 (x72 + 1)) [0, 1, 2] hm ⟨rfl, rfl, rfl, rfl, rfl, rfl, rfl, rfl, rfl, trivial⟩ ⟨by decide, rfl⟩
            · replace hm := ifF hm hb73
              refine WJ.exit ?_
              refine PJ.then_exit (PJ.then_exit (PJ.block_exit ?_))
              exact PJ.joined (x70, x71) [0, 1, 2] hm ⟨rfl, rfl, rfl, rfl, rfl, rfl, rfl, rfl, trivial⟩ ⟨by decide, rfl⟩
        · rintro ⟨x66, x67⟩ hm
          subst hk69
          refine WJ.seq ?_
          refine WJ.seq ?_
          refine WJ.quiet ?_
          refine QJ.step (YldS.yld (y_move rfl)) rfl ?_
          refine QJ.step (YldS.yld (y_move rfl)) rfl ?_
          refine QJ.step (YldS.yld (y_lenStr Try.runUnderlying9 rfl)) rfl ?_
          refine QJ.step (YldS.yld (y_bin rfl rfl rfl)) rfl ?_
          refine QJ.step (YldS.yld (y_move rfl)) rfl ?_
          obtain ⟨t88, h89, hm⟩ := bindS hm
          refine QJ.cut 7 [(5, v12), (6, str r13.1), (16, v27), (21, str r63.1), (182, .bool t88)] ?_ ?_
          · rcases Bool.eq_false_or_eq_true (x67 != (List.length r63.1 : Int)) with hb90 | hb90
            · obtain rfl := orT h89 hb90
              refine QJ.off rfl rfl (cB hb90) rfl rfl ?_
              refine QJ.off rfl rfl (cB hb90) rfl rfl ?_
              refine QJ.off rfl rfl (cB hb90) rfl rfl ?_
              refine QJ.off rfl rfl (cB hb90) rfl rfl ?_
              refine QJ.off rfl rfl (cB hb90) rfl rfl ?_
              refine QJ.off rfl rfl (cB hb90) rfl rfl ?_
              refine QJ.step (YldS.yld (y_pick_t (cB hb90) rfl)) rfl ?_
              exact QJ.cut_end ⟨rfl, rfl, rfl, rfl, rfl, trivial⟩
            · replace h89 := orF h89 hb90
              refine QJ.on rfl rfl (cB hb90) (YldS.yld (y_move rfl)) rfl ?_
              refine QJ.on rfl rfl (cB hb90) (YldS.yld (y_move rfl)) rfl ?_
              refine QJ.on rfl rfl (cB hb90) (YldS.yld (y_bin rfl rfl rfl)) rfl ?_
              refine QJ.on rfl rfl (cB hb90) (YldS.yld (y_move rfl)) rfl ?_
              obtain ⟨r91, h92, h89⟩ := bindS h89
              refine QJ.on rfl rfl (cB hb90) (y_call Try.call23 rfl (RetG.quiet fun w hw => ok_w_a2Sum h92 w _ (hw.row_rd (k := 1) rfl))) rfl ?_
              refine QJ.on rfl rfl (cB hb90) (YldS.yld (y_bin rfl rfl rfl)) rfl ?_
              refine QJ.step (YldS.yld (y_pick_f (cB hb90) rfl)) rfl ?_
              obtain rfl := Option.some.inj h89
              exact QJ.cut_end ⟨rfl, rfl, rfl, rfl, rfl, trivial⟩
          refine QJ.done ?_
          refine PJ.next ?_
          refine WJ.cond (t := t88) rfl (fun hb93 => ?_) (fun hb93 => ?_)
          · replace hm := ifT hm hb93
            refine WJ.seq ?_
            refine WJ.quiet ?_
            refine QJ.step (YldS.yld (y_assign rfl)) rfl ?_
            refine QJ.done ?_
            refine PJ.next ?_
            refine WJ.ret ?_
            refine PJ.then_ret ?_
            obtain rfl := Option.some.inj hm
            refine PJ.sel (L' := []) [] ⟨List.nodup_nil, rfl⟩ ?_
            exact PJ.retn (vs := [.bool false]) Try.results8 ⟨rfl, trivial⟩ ⟨rfl, rfl⟩
          · replace hm := ifF hm hb93
            refine WJ.skip ?_
            refine PJ.next ?_
            refine WJ.seq ?_
            refine WJ.reg ?_
            refine SJ.q (YldS.yld (y_move rfl)) rfl ?_
            refine SJ.q (YldS.yld (y_move rfl)) rfl ?_
            obtain ⟨r94, h95, hm⟩ := bindS hm
            refine SJ.call Try.call57 rfl (fun w hw => ok_i_FewestDrills h95 w _ (hw.row_rd (k := 2) rfl)) rfl ?_
            rintro _ _ ⟨v96, rfl, rfl⟩
            refine SJ.q (YldS.yld (y_move rfl)) rfl ?_
            refine SJ.q (YldS.yld (y_extract rfl rfl)) rfl ?_
            refine SJ.q (YldS.yld (y_extract rfl rfl)) rfl ?_
            refine SJ.q (YldS.yld (y_assign rfl)) rfl ?_
            refine SJ.q (YldS.yld (y_assign rfl)) rfl ?_
            refine SJ.nil ?_
            refine PJ.next ?_
            refine WJ.seq ?_
            refine WJ.reg ?_
            refine SJ.buildSlice (R := fI64) (os := []) [] Try.runUnderlying24 Try.sizeOf2 Try.zeroValue2 rfl rfl rfl rfl rfl rfl fun v97 => ?_
            refine SJ.q (YldS.yld (y_assign rfl)) rfl ?_
            refine SJ.nil ?_
            refine PJ.next ?_
            obtain ⟨kj100, hk101, hm⟩ := withK_open hm
            refine WJ.join (X := (List Int) × Value) (fun (x : (List Int) × Value) => kj100 x.1 = some r) (fun (x : (List Int) × Value) => [(5, v12), (6, str r13.1), (16, v27), (21, str r63.1), (26, v96), (27, .int .i64 r94.2), (28, x.2)]) (fun (x : (List Int) × Value) => [row x.2 2 fI64 x.1, row v96 2 fI64 r94.1, row v27 2 fI64 r25, row v12 152 fDrill r10]) ?_ ?_
            · clear hk101
              refine WJ.seq ?_
              refine WJ.quiet ?_
              refine QJ.step (YldS.yld (y_assign rfl)) rfl ?_
              refine QJ.done ?_
              refine PJ.next ?_
              refine WJ.block ?_
              refine WJ.sel (L' := (fun (x : (List Int) × Value × Int) => [row x.2.1 2 fI64 x.1, row v96 2 fI64 r94.1, row v27 2 fI64 r25, row v12 152 fDrill r10]) ([], v97, 0)) [0, 1, 2, 4] ⟨by decide, rfl⟩ ?_
              refine WJ.sub (m' := (fun (x : (List Int) × Value × Int) => [(5, v12), (6, str r13.1), (16, v27), (21, str r63.1), (26, v96), (27, .int .i64 r94.2), (28, x.2.1), (29, .int .i64 x.2.2)]) ([], v97, 0)) ⟨rfl, rfl, rfl, rfl, rfl, rfl, rfl, rfl, trivial⟩ ?_
              refine WJ.loop (X := (List Int) × Value × Int) (fun N (x : (List Int) × Value × Int) => w_FnDrillSets_l2 kj100 r10 N x.1 x.2.2 = some r) (fun (x : (List Int) × Value × Int) => [(5, v12), (6, str r13.1), (16, v27), (21, str r63.1), (26, v96), (27, .int .i64 r94.2), (28, x.2.1), (29, .int .i64 x.2.2)]) (fun (x : (List Int) × Value × Int) => [row x.2.1 2 fI64 x.1, row v96 2 fI64 r94.1, row v27 2 fI64 r25, row v12 152 fDrill r10]) ?_ N ([], v97, 0) hm
              · rintro N ⟨l102, v103, x104⟩ hI
                have hm := hI; clear hI
                cases N with
                | zero => cases hm
                | succ N =>
                unfold w_FnDrillSets_l2 at hm
                refine WJ.seq ?_
                refine WJ.seq ?_
                refine WJ.quiet ?_
                refine QJ.step (YldS.yld (y_move rfl)) rfl ?_
                refine QJ.step (YldS.yld (y_move rfl)) rfl ?_
                refine QJ.step (YldS.yld (y_lenRow (k := 3) rfl Try.runUnderlying70 rfl)) rfl ?_
                refine QJ.step (YldS.yld (y_bin rfl rfl rfl)) rfl ?_
                refine QJ.done ?_
                refine PJ.next ?_
                refine WJ.cond (t := decide (x104 < (List.length r10 : Int))) rfl (fun hb105 => ?_) (fun hb105 => ?_)
                · replace hm := ifT hm hb105
                  refine WJ.skip ?_
                  refine PJ.next ?_
                  refine WJ.seq ?_
                  refine WJ.block ?_
                  refine WJ.reg ?_
                  refine SJ.q (YldS.yld (y_move rfl)) rfl ?_
                  refine SJ.q (YldS.yld (y_move rfl)) rfl ?_
                  refine SJ.buildSlice (R := fI64) (os := [.tmp 197]) [x104] Try.runUnderlying24 Try.sizeOf2 Try.zeroValue2 rfl rfl rfl rfl rfl rfl fun v106 => ?_
                  obtain ⟨l107, h108, hm⟩ := bindS hm
                  refine SJ.append (k := 1) (R := fI64) h108 rfl Try.underlying24 el2 rfl rfl rfl (fun w hw => (hw.row_rd (k := 0) rfl)) rfl fun v109 => ?_
                  refine SJ.q (YldS.yld (y_assign rfl)) rfl ?_
                  refine SJ.nil ?_
                  refine PJ.block_normal (PJ.next ?_)
                  refine WJ.quiet ?_
                  refine QJ.step (YldS.yld (y_move rfl)) rfl ?_
                  refine QJ.step (YldS.yld (y_bin rfl rfl rfl)) rfl ?_
                  refine QJ.step (YldS.yld (y_assign rfl)) rfl ?_
                  refine QJ.done ?_
                  exact PJ.round (l107, v109, w64 (x104 + 1)) [1, 2, 3, 4] hm ⟨rfl, rfl, rfl, rfl, rfl, rfl, rfl, rfl, trivial⟩ ⟨by decide, rfl⟩
                · replace hm := ifF hm hb105
                  refine WJ.exit ?_
                  refine PJ.then_exit (PJ.then_exit (PJ.block_exit ?_))
                  exact PJ.joined (l102, v103) [0, 1, 2, 3] hm ⟨rfl, rfl, rfl, rfl, rfl, rfl, rfl, trivial⟩ ⟨by decide, rfl⟩
            · rintro ⟨l98, v99⟩ hm
              subst hk101
              refine WJ.seq ?_
              refine WJ.quiet ?_
              refine QJ.step (YldS.yld (y_move rfl)) rfl ?_
              refine QJ.step (YldS.yld (y_move rfl)) rfl ?_
              refine QJ.step (YldS.yld (y_move rfl)) rfl ?_
              obtain ⟨r110, h111, hm⟩ := bindS hm
              refine QJ.step (y_call Try.call58 rfl (RetG.quiet fun w hw => ok_s_LettersLeft h111 w _ (hw.row_rd (k := 3) rfl) _ (hw.row_rd (k := 0) rfl))) rfl ?_
              refine QJ.step (YldS.yld (y_move rfl)) rfl ?_
              refine QJ.step (YldS.yld (y_extract rfl rfl)) rfl ?_
              refine QJ.step (YldS.yld (y_extract rfl rfl)) rfl ?_
              refine QJ.step (YldS.yld (y_assign rfl)) rfl ?_
              refine QJ.step (YldS.yld (y_assign rfl)) rfl ?_
              refine QJ.done ?_
              refine PJ.next ?_
              refine WJ.seq ?_
              refine WJ.seq ?_
              refine WJ.quiet ?_
              refine QJ.step (YldS.yld (y_move rfl)) rfl ?_
              refine QJ.step (YldS.yld (y_bin rfl rfl rfl)) rfl ?_
              refine QJ.done ?_
              refine PJ.next ?_
              refine WJ.cond (t := (r94.2 != 0)) rfl (fun hb112 => ?_) (fun hb112 => ?_)
              · replace hm := ifT hm hb112
                refine WJ.seq ?_
                refine WJ.quiet ?_
                refine QJ.step (YldS.yld (y_move rfl)) rfl ?_
                refine QJ.step (YldS.yld (y_bin rfl rfl rfl)) rfl ?_
                refine QJ.step (YldS.yld (y_move rfl)) rfl ?_
                obtain ⟨t113, h114, hm⟩ := bindS hm
                refine QJ.cut 3 [(30, str r110.1), (214, .bool t113)] ?_ ?_
                · rcases Bool.eq_false_or_eq_true (r94.2 == 3) with hb115 | hb115
                  · replace h114 := andT h114 hb115
                    refine QJ.on rfl rfl (cB hb115) (YldS.yld (y_move rfl)) rfl ?_
                    refine QJ.on rfl rfl (cB hb115) (YldS.yld (y_bin rfl rfl rfl)) rfl ?_
                    refine QJ.step (YldS.yld (y_pick_t (cB hb115) rfl)) rfl ?_
                    obtain rfl := Option.some.inj h114
                    exact QJ.cut_end ⟨rfl, rfl, trivial⟩
                  · obtain rfl := andF h114 hb115
                    refine QJ.off rfl rfl (cB hb115) rfl rfl ?_
                    refine QJ.off rfl rfl (cB hb115) rfl rfl ?_
                    refine QJ.step (YldS.yld (y_pick_f (cB hb115) rfl)) rfl ?_
                    exact QJ.cut_end ⟨rfl, rfl, trivial⟩
                refine QJ.step (YldS.yld (y_move rfl)) rfl ?_
                obtain ⟨t116, h117, hm⟩ := bindS hm
                refine QJ.cut 3 [(218, .bool t116)] ?_ ?_
                · rcases Bool.eq_false_or_eq_true t113 with hb118 | hb118
                  · replace h117 := andT h117 hb118
                    refine QJ.on rfl rfl (cB hb118) (YldS.yld (y_move rfl)) rfl ?_
                    refine QJ.on rfl rfl (cB hb118) (YldS.yld (y_binS rfl rfl rfl)) rfl ?_
                    refine QJ.step (YldS.yld (y_pick_t (cB hb118) rfl)) rfl ?_
                    obtain rfl := Option.some.inj h117
                    exact QJ.cut_end ⟨rfl, trivial⟩
                  · obtain rfl := andF h117 hb118
                    refine QJ.off rfl rfl (cB hb118) rfl rfl ?_
                    refine QJ.off rfl rfl (cB hb118) rfl rfl ?_
                    refine QJ.step (YldS.yld (y_pick_f (cB hb118) rfl)) rfl ?_
                    exact QJ.cut_end ⟨rfl, trivial⟩
                refine QJ.step (YldS.yld (y_assign rfl)) rfl ?_
                refine QJ.done ?_
                refine PJ.next ?_
                refine WJ.ret ?_
                refine PJ.then_ret ?_
                obtain rfl := Option.some.inj hm
                refine PJ.sel (L' := []) [] ⟨List.nodup_nil, rfl⟩ ?_
                exact PJ.retn (vs := [.bool t116]) Try.results8 ⟨rfl, trivial⟩ ⟨rfl, rfl⟩
              · replace hm := ifF hm hb112
                refine WJ.skip ?_
                refine PJ.next ?_
                refine WJ.seq ?_
                refine WJ.quiet ?_
                refine QJ.step (YldS.yld (y_move rfl)) rfl ?_
                refine QJ.step (YldS.yld (y_move rfl)) rfl ?_
                refine QJ.step (YldS.yld (y_move rfl)) rfl ?_
                obtain ⟨r119, h120, hm⟩ := bindS hm
                refine QJ.step (y_call Try.call56 rfl (RetG.quiet fun w hw => ok_i_LettersLeft h120 w _ (hw.row_rd (k := 3) rfl) _ (hw.row_rd (k := 1) rfl))) rfl ?_
                refine QJ.step (YldS.yld (y_move rfl)) rfl ?_
                refine QJ.step (YldS.yld (y_extract rfl rfl)) rfl ?_
                refine QJ.step (YldS.yld (y_extract rfl rfl)) rfl ?_
                refine QJ.step (YldS.yld (y_assign rfl)) rfl ?_
                refine QJ.step (YldS.yld (y_assign rfl)) rfl ?_
                refine QJ.done ?_
                refine PJ.next ?_
                refine WJ.seq ?_
                refine WJ.quiet ?_
                refine QJ.step (YldS.yld (y_move rfl)) rfl ?_
                refine QJ.step (YldS.yld (y_bin rfl rfl rfl)) rfl ?_
                refine QJ.step (YldS.yld (y_move rfl)) rfl ?_
                obtain ⟨t121, h122, hm⟩ := bindS hm
                refine QJ.cut 3 [(16, v27), (21, str r63.1), (26, v96), (30, str r110.1), (231, .bool t121)] ?_ ?_
                · rcases Bool.eq_false_or_eq_true (r119.2 == 0) with hb123 | hb123
                  · replace h122 := andT h122 hb123
                    refine QJ.on rfl rfl (cB hb123) (YldS.yld (y_move rfl)) rfl ?_
                    refine QJ.on rfl rfl (cB hb123) (YldS.yld (y_binS rfl rfl rfl)) rfl ?_
                    refine QJ.step (YldS.yld (y_pick_t (cB hb123) rfl)) rfl ?_
                    obtain rfl := Option.some.inj h122
                    exact QJ.cut_end ⟨rfl, rfl, rfl, rfl, rfl, trivial⟩
                  · obtain rfl := andF h122 hb123
                    refine QJ.off rfl rfl (cB hb123) rfl rfl ?_
                    refine QJ.off rfl rfl (cB hb123) rfl rfl ?_
                    refine QJ.step (YldS.yld (y_pick_f (cB hb123) rfl)) rfl ?_
                    exact QJ.cut_end ⟨rfl, rfl, rfl, rfl, rfl, trivial⟩
                refine QJ.step (YldS.yld (y_move rfl)) rfl ?_
                obtain ⟨t124, h125, hm⟩ := bindS hm
                refine QJ.cut 3 [(16, v27), (21, str r63.1), (26, v96), (235, .bool t124)] ?_ ?_
                · rcases Bool.eq_false_or_eq_true t121 with hb126 | hb126
                  · replace h125 := andT h125 hb126
                    refine QJ.on rfl rfl (cB hb126) (YldS.yld (y_move rfl)) rfl ?_
                    refine QJ.on rfl rfl (cB hb126) (YldS.yld (y_binS rfl rfl rfl)) rfl ?_
                    refine QJ.step (YldS.yld (y_pick_t (cB hb126) rfl)) rfl ?_
                    obtain rfl := Option.some.inj h125
                    exact QJ.cut_end ⟨rfl, rfl, rfl, rfl, trivial⟩
                  · obtain rfl := andF h125 hb126
                    refine QJ.off rfl rfl (cB hb126) rfl rfl ?_
                    refine QJ.off rfl rfl (cB hb126) rfl rfl ?_
                    refine QJ.step (YldS.yld (y_pick_f (cB hb126) rfl)) rfl ?_
                    exact QJ.cut_end ⟨rfl, rfl, rfl, rfl, trivial⟩
                refine QJ.step (YldS.yld (y_move rfl)) rfl ?_
                obtain ⟨t127, h128, hm⟩ := bindS hm
                refine QJ.cut 10 [(246, .bool t127)] ?_ ?_
                · rcases Bool.eq_false_or_eq_true t124 with hb129 | hb129
                  · replace h128 := andT h128 hb129
                    refine QJ.on rfl rfl (cB hb129) (YldS.yld (y_move rfl)) rfl ?_
                    refine QJ.on rfl rfl (cB hb129) (YldS.yld (y_binS rfl rfl rfl)) rfl ?_
                    refine QJ.on rfl rfl (cB hb129) (YldS.yld (y_move rfl)) rfl ?_
                    obtain ⟨t130, h131, h128⟩ := bindS h128
                    refine QJ.cut 6 [(236, .bool t124), (245, .bool t130)] ?_ ?_
                    · rcases Bool.eq_false_or_eq_true (r63.1 != []) with hb132 | hb132
                      · obtain rfl := orT h131 hb132
                        refine QJ.off rfl rfl (cB hb132) rfl rfl ?_
                        refine QJ.off rfl rfl (cB hb132) rfl rfl ?_
                        refine QJ.off rfl rfl (cB hb132) rfl rfl ?_
                        refine QJ.off rfl rfl (cB hb132) rfl rfl ?_
                        refine QJ.off rfl rfl (cB hb132) rfl rfl ?_
                        refine QJ.on rfl rfl (cB hb129) (YldS.yld (y_pick_t (cB hb132) rfl)) rfl ?_
                        exact QJ.cut_end ⟨rfl, rfl, trivial⟩
                      · replace h131 := orF h131 hb132
                        refine QJ.on rfl rfl (cB hb132) (YldS.yld (y_move rfl)) rfl ?_
                        refine QJ.on rfl rfl (cB hb132) (YldS.yld (y_lenRow (k := 1) rfl Try.runUnderlying24 rfl)) rfl ?_
                        refine QJ.on rfl rfl (cB hb132) (YldS.yld (y_move rfl)) rfl ?_
                        refine QJ.on rfl rfl (cB hb132) (YldS.yld (y_lenRow (k := 2) rfl Try.runUnderlying24 rfl)) rfl ?_
                        refine QJ.on rfl rfl (cB hb132) (YldS.yld (y_bin rfl rfl rfl)) rfl ?_
                        refine QJ.on rfl rfl (cB hb129) (YldS.yld (y_pick_f (cB hb132) rfl)) rfl ?_
                        obtain rfl := Option.some.inj h131
                        exact QJ.cut_end ⟨rfl, rfl, trivial⟩
                    refine QJ.step (YldS.yld (y_pick_t (cB hb129) rfl)) rfl ?_
                    obtain rfl := Option.some.inj h128
                    exact QJ.cut_end ⟨rfl, trivial⟩
                  · obtain rfl := andF h128 hb129
                    refine QJ.off rfl rfl (cB hb129) rfl rfl ?_
                    refine QJ.off rfl rfl (cB hb129) rfl rfl ?_
                    refine QJ.off rfl rfl (cB hb129) rfl rfl ?_
                    refine QJ.off_undef rfl rfl rfl rfl ?_
                    refine QJ.off_undef rfl rfl rfl rfl ?_
                    refine QJ.off_undef rfl rfl rfl rfl ?_
                    refine QJ.off_undef rfl rfl rfl rfl ?_
                    refine QJ.off_undef rfl rfl rfl rfl ?_
                    refine QJ.off rfl rfl (cB hb129) rfl rfl ?_
                    refine QJ.step (YldS.yld (y_pick_f (cB hb129) rfl)) rfl ?_
                    exact QJ.cut_end ⟨rfl, trivial⟩
                refine QJ.step (YldS.yld (y_assign rfl)) rfl ?_
                refine QJ.done ?_
                refine PJ.next ?_
                refine WJ.ret ?_
                obtain rfl := Option.some.inj hm
                refine PJ.sel (L' := []) [] ⟨List.nodup_nil, rfl⟩ ?_
                exact PJ.retn (vs := [.bool t127]) Try.results8 ⟨rfl, trivial⟩ ⟨rfl, rfl⟩

end Go.Proofs.Ytimcachjcocjmaa
