/-
  The walks: a call hands back what its plain function computes, where that has a value. No other conditions.
-/
import Derived.Test.YtppdmciboalhfaaDoorFnSpeedsW
import Derived.Test.YtppdmciboalhfaaDoorChecked
namespace Go.Proofs.YtppdmciboalhfaaDoor
open Go.RowKit Go.Proofs
set_option linter.unusedVariables false
set_option linter.unusedSimpArgs false

set_option maxRecDepth 100000 in
set_option maxHeartbeats 1000000 in
theorem ok_s_l01Split {N : Nat} {s1 : Str} {by2 : UInt8} {r : (List Str)} (hm : s_l01Split N s1 by2 = some r) (w : World)  :
    Calls Tryd.prog 103 #[str s1, .int .u8 (UInt8.toNat by2 : Int)] w (RetG (cx w) fun u L => ∃ (u1 : Value), (u = u1 ∧ L = [row u1 9 fStr r])) := by
  unfold s_l01Split at hm
  refine Calls.enter [str s1, .int .u8 (UInt8.toNat by2 : Int)] Tryd.func103 rfl Tryd.ntmps103 rfl ?_
  refine WJ.seq ?_
  refine WJ.quiet ?_
  refine QJ.step (YldS.yld (y_assign rfl)) rfl ?_
  refine QJ.done ?_
  refine PJ.next ?_
  refine WJ.seq ?_
  refine WJ.reg ?_
  refine SJ.buildSlice (R := fStr) (os := []) [] Tryd.runUnderlying88 Tryd.sizeOf9 Tryd.zeroValue9 rfl rfl rfl rfl rfl rfl fun v3 => ?_
  refine SJ.q (YldS.yld (y_assign rfl)) rfl ?_
  refine SJ.nil ?_
  refine PJ.next ?_
  refine WJ.seq ?_
  refine WJ.quiet ?_
  refine QJ.step (YldS.yld (y_assign rfl)) rfl ?_
  refine QJ.done ?_
  refine PJ.next ?_
  obtain ⟨kj7, hk8, hm⟩ := withK_open hm
  refine WJ.join (X := (List Str) × Value × Int) (fun (x : (List Str) × Value × Int) => kj7 x.1 x.2.2 = some r) (fun (x : (List Str) × Value × Int) => [(0, str s1), (5, x.2.1), (6, .int .i64 x.2.2)]) (fun (x : (List Str) × Value × Int) => [row x.2.1 9 fStr x.1]) ?_ ?_
  · clear hk8
    refine WJ.seq ?_
    refine WJ.quiet ?_
    refine QJ.step (YldS.yld (y_assign rfl)) rfl ?_
    refine QJ.done ?_
    refine PJ.next ?_
    refine WJ.block ?_
    refine WJ.sel (L' := (fun (x : (List Str) × Value × Int × Int) => [row x.2.1 9 fStr x.1]) ([], v3, 0, 0)) [0] ⟨by decide, rfl⟩ ?_
    refine WJ.sub (m' := (fun (x : (List Str) × Value × Int × Int) => [(0, str s1), (1, .int .u8 (UInt8.toNat by2 : Int)), (5, x.2.1), (6, .int .i64 x.2.2.1), (7, .int .i64 x.2.2.2)]) ([], v3, 0, 0)) ⟨rfl, rfl, rfl, rfl, rfl, trivial⟩ ?_
    refine WJ.loop (X := (List Str) × Value × Int × Int) (fun N (x : (List Str) × Value × Int × Int) => s_l01Split_l1 kj7 s1 by2 N x.1 x.2.2.1 x.2.2.2 = some r) (fun (x : (List Str) × Value × Int × Int) => [(0, str s1), (1, .int .u8 (UInt8.toNat by2 : Int)), (5, x.2.1), (6, .int .i64 x.2.2.1), (7, .int .i64 x.2.2.2)]) (fun (x : (List Str) × Value × Int × Int) => [row x.2.1 9 fStr x.1]) ?_ N ([], v3, 0, 0) hm
    · rintro N ⟨l9, v10, from11, i12⟩ hI
      have hm := hI; clear hI
      cases N with
      | zero => cases hm
      | succ N =>
      unfold s_l01Split_l1 at hm
      refine WJ.seq ?_
      refine WJ.seq ?_
      refine WJ.quiet ?_
      refine QJ.step (YldS.yld (y_move rfl)) rfl ?_
      refine QJ.step (YldS.yld (y_move rfl)) rfl ?_
      refine QJ.step (YldS.yld (y_lenStr Tryd.runUnderlying9 rfl)) rfl ?_
      refine QJ.step (YldS.yld (y_bin rfl rfl rfl)) rfl ?_
      refine QJ.done ?_
      refine PJ.next ?_
      refine WJ.cond (t := decide (i12 < (List.length s1 : Int))) rfl (fun hb13 => ?_) (fun hb13 => ?_)
      · replace hm := ifT hm hb13
        refine WJ.skip ?_
        refine PJ.next ?_
        obtain ⟨kj17, hk18, hm⟩ := withK_open hm
        refine WJ.join (X := (List Str) × Value × Int) (fun (x : (List Str) × Value × Int) => kj17 x.1 x.2.2 = some r) (fun (x : (List Str) × Value × Int) => [(0, str s1), (1, .int .u8 (UInt8.toNat by2 : Int)), (5, x.2.1), (6, .int .i64 x.2.2), (7, .int .i64 i12)]) (fun (x : (List Str) × Value × Int) => [row x.2.1 9 fStr x.1]) ?_ ?_
        · clear hk18
          refine WJ.block ?_
          refine WJ.seq ?_
          refine WJ.quiet ?_
          refine QJ.step (YldS.yld (y_move rfl)) rfl ?_
          refine QJ.step (YldS.yld (y_move rfl)) rfl ?_
          obtain ⟨c19, h20, hm⟩ := bindS hm
          refine QJ.step (YldS.yld (y_idxStr Tryd.runUnderlying9 rfl rfl h20)) rfl ?_
          refine QJ.step (YldS.yld (y_move rfl)) rfl ?_
          refine QJ.step (YldS.yld (y_bin8 c19 by2 rfl rfl rfl)) rfl ?_
          refine QJ.done ?_
          refine PJ.next ?_
          refine WJ.cond (t := (c19 == by2)) rfl (fun hb21 => ?_) (fun hb21 => ?_)
          · replace hm := ifT hm hb21
            refine WJ.seq ?_
            refine WJ.reg ?_
            refine SJ.q (YldS.yld (y_move rfl)) rfl ?_
            refine SJ.q (YldS.yld (y_move rfl)) rfl ?_
            refine SJ.q (YldS.yld (y_move rfl)) rfl ?_
            refine SJ.q (YldS.yld (y_move rfl)) rfl ?_
            obtain ⟨s22, h23, hm⟩ := bindS hm
            refine SJ.q (YldS.yld (y_subStr (i := some from11) (j := some i12) h23 Tryd.runUnderlying9 rfl ⟨_, rfl⟩ ⟨_, rfl⟩)) rfl ?_
            refine SJ.buildSlice (R := fStr) (os := [.tmp 24]) [s22] Tryd.runUnderlying88 Tryd.sizeOf9 Tryd.zeroValue9 rfl rfl rfl rfl rfl rfl fun v24 => ?_
            obtain ⟨l25, h26, hm⟩ := bindS hm
            refine SJ.append (k := 1) (R := fStr) h26 rfl Tryd.underlying88 el9 rfl rfl rfl (fun w hw => (hw.row_rd (k := 0) rfl)) rfl fun v27 => ?_
            refine SJ.q (YldS.yld (y_assign rfl)) rfl ?_
            refine SJ.nil ?_
            refine PJ.next ?_
            refine WJ.quiet ?_
            refine QJ.step (YldS.yld (y_move rfl)) rfl ?_
            refine QJ.step (YldS.yld (y_bin rfl rfl rfl)) rfl ?_
            refine QJ.step (YldS.yld (y_assign rfl)) rfl ?_
            refine QJ.done ?_
            refine PJ.block_normal ?_
            exact PJ.joined (l25, v27, w64 (i12 + 1)) [1] hm ⟨rfl, rfl, rfl, rfl, rfl, trivial⟩ ⟨by decide, rfl⟩
          · replace hm := ifF hm hb21
            refine WJ.skip ?_
            refine PJ.block_normal ?_
            exact PJ.joined (l9, v10, from11) [0] hm ⟨rfl, rfl, rfl, rfl, rfl, trivial⟩ ⟨by decide, rfl⟩
        · rintro ⟨l14, v15, from16⟩ hm
          subst hk18
          refine WJ.quiet ?_
          refine QJ.step (YldS.yld (y_move rfl)) rfl ?_
          refine QJ.step (YldS.yld (y_bin rfl rfl rfl)) rfl ?_
          refine QJ.step (YldS.yld (y_assign rfl)) rfl ?_
          refine QJ.done ?_
          exact PJ.round (l14, v15, from16, w64 (i12 + 1)) [0] hm ⟨rfl, rfl, rfl, rfl, rfl, trivial⟩ ⟨by decide, rfl⟩
      · replace hm := ifF hm hb13
        refine WJ.exit ?_
        refine PJ.then_exit (PJ.then_exit (PJ.block_exit ?_))
        exact PJ.joined (l9, v10, from11) [0] hm ⟨rfl, rfl, rfl, trivial⟩ ⟨by decide, rfl⟩
  · rintro ⟨l4, v5, from6⟩ hm
    subst hk8
    refine WJ.seq ?_
    refine WJ.reg ?_
    refine SJ.q (YldS.yld (y_move rfl)) rfl ?_
    refine SJ.q (YldS.yld (y_move rfl)) rfl ?_
    refine SJ.q (YldS.yld (y_move rfl)) rfl ?_
    obtain ⟨s28, h29, hm⟩ := bindS hm
    refine SJ.q (YldS.yld (y_subStr (i := some from6) (j := none) h29 Tryd.runUnderlying9 rfl ⟨_, rfl⟩ trivial)) rfl ?_
    refine SJ.buildSlice (R := fStr) (os := [.tmp 32]) [s28] Tryd.runUnderlying88 Tryd.sizeOf9 Tryd.zeroValue9 rfl rfl rfl rfl rfl rfl fun v30 => ?_
    obtain ⟨l31, h32, hm⟩ := bindS hm
    refine SJ.append (k := 1) (R := fStr) h32 rfl Tryd.underlying88 el9 rfl rfl rfl (fun w hw => (hw.row_rd (k := 0) rfl)) rfl fun v33 => ?_
    refine SJ.q (YldS.yld (y_assign rfl)) rfl ?_
    refine SJ.nil ?_
    refine PJ.next ?_
    refine WJ.ret ?_
    obtain rfl := Option.some.inj hm
    refine PJ.sel (L' := [row v33 9 fStr l31]) [1] ⟨by decide, rfl⟩ ?_
    exact PJ.retn (vs := [v33]) Tryd.results103 ⟨rfl, trivial⟩ ⟨_, rfl, rfl⟩

set_option maxRecDepth 100000 in
set_option maxHeartbeats 1000000 in
theorem ok_s_l01Digit {c1 : UInt8} {r : Bool} (hm : s_l01Digit c1 = some r) (w : World)  :
    Calls Tryd.prog 125 #[.int .u8 (UInt8.toNat c1 : Int)] w (Ret (cx w) (.bool r)) := by
  unfold s_l01Digit at hm
  refine Calls.enter [.int .u8 (UInt8.toNat c1 : Int)] Tryd.func125 rfl Tryd.ntmps125 rfl ?_
  refine WJ.seq ?_
  refine WJ.quiet ?_
  refine QJ.step (YldS.yld (y_assign rfl)) rfl ?_
  refine QJ.done ?_
  refine PJ.next ?_
  refine WJ.seq ?_
  refine WJ.quiet ?_
  refine QJ.step (YldS.yld (y_move rfl)) rfl ?_
  refine QJ.step (YldS.yld (y_bin8 c1 (48 : UInt8) rfl rfl rfl)) rfl ?_
  refine QJ.step (YldS.yld (y_move rfl)) rfl ?_
  obtain ⟨t2, h3, hm⟩ := bindS hm
  refine QJ.cut 3 [(8, .bool t2)] ?_ ?_
  · rcases Bool.eq_false_or_eq_true (decide (c1 ≥ (48 : UInt8))) with hb4 | hb4
    · replace h3 := andT h3 hb4
      refine QJ.on rfl rfl (cB hb4) (YldS.yld (y_move rfl)) rfl ?_
      refine QJ.on rfl rfl (cB hb4) (YldS.yld (y_bin8 c1 (57 : UInt8) rfl rfl rfl)) rfl ?_
      refine QJ.step (YldS.yld (y_pick_t (cB hb4) rfl)) rfl ?_
      obtain rfl := Option.some.inj h3
      exact QJ.cut_end ⟨rfl, trivial⟩
    · obtain rfl := andF h3 hb4
      refine QJ.off rfl rfl (cB hb4) rfl rfl ?_
      refine QJ.off rfl rfl (cB hb4) rfl rfl ?_
      refine QJ.step (YldS.yld (y_pick_f (cB hb4) rfl)) rfl ?_
      exact QJ.cut_end ⟨rfl, trivial⟩
  refine QJ.step (YldS.yld (y_assign rfl)) rfl ?_
  refine QJ.done ?_
  refine PJ.next ?_
  refine WJ.ret ?_
  obtain rfl := Option.some.inj hm
  refine PJ.sel (L' := []) [] ⟨List.nodup_nil, rfl⟩ ?_
  exact PJ.retn (vs := [.bool t2]) Tryd.results125 ⟨rfl, trivial⟩ ⟨rfl, rfl⟩

set_option maxRecDepth 100000 in
set_option maxHeartbeats 1000000 in
theorem ok_s_l01Number {N : Nat} {s1 : Str} {r : Int × Bool} (hm : s_l01Number N s1 = some r) (w : World)  :
    Calls Tryd.prog 104 #[str s1] w (Ret (cx w) (tup [.int .i64 r.1, .bool r.2])) := by
  unfold s_l01Number at hm
  refine Calls.enter [str s1] Tryd.func104 rfl Tryd.ntmps104 rfl ?_
  refine WJ.seq ?_
  refine WJ.quiet ?_
  refine QJ.step (YldS.yld (y_assign rfl)) rfl ?_
  refine QJ.step (YldS.yld (y_assign rfl)) rfl ?_
  refine QJ.done ?_
  refine PJ.next ?_
  refine WJ.seq ?_
  refine WJ.quiet ?_
  refine QJ.step (YldS.yld (y_move rfl)) rfl ?_
  refine QJ.step (YldS.yld (y_assign rfl)) rfl ?_
  refine QJ.done ?_
  refine PJ.next ?_
  obtain ⟨kj3, hk4, hm⟩ := withK_open hm
  refine WJ.join (X := Str) (fun (x : Str) => kj3 x = some r) (fun (x : Str) => [(0, str s1), (4, str x)]) (fun (x : Str) => []) ?_ ?_
  · clear hk4
    refine WJ.seq ?_
    refine WJ.quiet ?_
    refine QJ.step (YldS.yld (y_move rfl)) rfl ?_
    refine QJ.step (YldS.yld (y_binS rfl rfl rfl)) rfl ?_
    refine QJ.step (YldS.yld (y_move rfl)) rfl ?_
    obtain ⟨t5, h6, hm⟩ := bindS hm
    refine QJ.cut 4 [(0, str s1), (4, str s1), (14, .bool t5)] ?_ ?_
    · rcases Bool.eq_false_or_eq_true (s1 != []) with hb7 | hb7
      · replace h6 := andT h6 hb7
        refine QJ.on rfl rfl (cB hb7) (YldS.yld (y_move rfl)) rfl ?_
        obtain ⟨c8, h9, h6⟩ := bindS h6
        refine QJ.on rfl rfl (cB hb7) (YldS.yld (y_idxStr Tryd.runUnderlying9 rfl rfl h9)) rfl ?_
        refine QJ.on rfl rfl (cB hb7) (YldS.yld (y_bin8 c8 (45 : UInt8) rfl rfl rfl)) rfl ?_
        refine QJ.step (YldS.yld (y_pick_t (cB hb7) rfl)) rfl ?_
        obtain rfl := Option.some.inj h6
        exact QJ.cut_end ⟨rfl, rfl, rfl, trivial⟩
      · obtain rfl := andF h6 hb7
        refine QJ.off rfl rfl (cB hb7) rfl rfl ?_
        refine QJ.off rfl rfl (cB hb7) rfl rfl ?_
        refine QJ.off rfl rfl (cB hb7) rfl rfl ?_
        refine QJ.step (YldS.yld (y_pick_f (cB hb7) rfl)) rfl ?_
        exact QJ.cut_end ⟨rfl, rfl, rfl, trivial⟩
    refine QJ.done ?_
    refine PJ.next ?_
    refine WJ.cond (t := t5) rfl (fun hb10 => ?_) (fun hb10 => ?_)
    · replace hm := ifT hm hb10
      refine WJ.quiet ?_
      refine QJ.step (YldS.yld (y_move rfl)) rfl ?_
      obtain ⟨s11, h12, hm⟩ := bindS hm
      refine QJ.step (YldS.yld (y_subStr (i := some 1) (j := none) h12 Tryd.runUnderlying9 rfl ⟨_, rfl⟩ trivial)) rfl ?_
      refine QJ.step (YldS.yld (y_assign rfl)) rfl ?_
      refine QJ.done ?_
      exact PJ.joined s11 [] hm ⟨rfl, rfl, trivial⟩ ⟨List.nodup_nil, rfl⟩
    · replace hm := ifF hm hb10
      refine WJ.skip ?_
      exact PJ.joined s1 [] hm ⟨rfl, rfl, trivial⟩ ⟨List.nodup_nil, rfl⟩
  · rintro t2 hm
    subst hk4
    refine WJ.seq ?_
    refine WJ.seq ?_
    refine WJ.quiet ?_
    refine QJ.step (YldS.yld (y_move rfl)) rfl ?_
    refine QJ.step (YldS.yld (y_lenStr Tryd.runUnderlying9 rfl)) rfl ?_
    refine QJ.step (YldS.yld (y_bin rfl rfl rfl)) rfl ?_
    refine QJ.step (YldS.yld (y_move rfl)) rfl ?_
    obtain ⟨t13, h14, hm⟩ := bindS hm
    refine QJ.cut 4 [(0, str s1), (4, str t2), (24, .bool t13)] ?_ ?_
    · rcases Bool.eq_false_or_eq_true (decide ((List.length t2 : Int) < 1)) with hb15 | hb15
      · obtain rfl := orT h14 hb15
        refine QJ.off rfl rfl (cB hb15) rfl rfl ?_
        refine QJ.off rfl rfl (cB hb15) rfl rfl ?_
        refine QJ.off rfl rfl (cB hb15) rfl rfl ?_
        refine QJ.step (YldS.yld (y_pick_t (cB hb15) rfl)) rfl ?_
        exact QJ.cut_end ⟨rfl, rfl, rfl, trivial⟩
      · replace h14 := orF h14 hb15
        refine QJ.on rfl rfl (cB hb15) (YldS.yld (y_move rfl)) rfl ?_
        refine QJ.on rfl rfl (cB hb15) (YldS.yld (y_lenStr Tryd.runUnderlying9 rfl)) rfl ?_
        refine QJ.on rfl rfl (cB hb15) (YldS.yld (y_bin rfl rfl rfl)) rfl ?_
        refine QJ.step (YldS.yld (y_pick_f (cB hb15) rfl)) rfl ?_
        obtain rfl := Option.some.inj h14
        exact QJ.cut_end ⟨rfl, rfl, rfl, trivial⟩
    refine QJ.done ?_
    refine PJ.next ?_
    refine WJ.cond (t := t13) rfl (fun hb16 => ?_) (fun hb16 => ?_)
    · replace hm := ifT hm hb16
      refine WJ.seq ?_
      refine WJ.quiet ?_
      refine QJ.step (YldS.yld (y_assign rfl)) rfl ?_
      refine QJ.step (YldS.yld (y_assign rfl)) rfl ?_
      refine QJ.done ?_
      refine PJ.next ?_
      refine WJ.ret ?_
      refine PJ.then_ret ?_
      obtain rfl := Option.some.inj hm
      refine PJ.sel (L' := []) [] ⟨List.nodup_nil, rfl⟩ ?_
      exact PJ.retn (vs := [.int .i64 0, .bool false]) Tryd.results104 ⟨rfl, rfl, trivial⟩ ⟨rfl, rfl⟩
    · replace hm := ifF hm hb16
      refine WJ.skip ?_
      refine PJ.next ?_
      refine WJ.seq ?_
      refine WJ.quiet ?_
      refine QJ.step (YldS.yld (y_assign rfl)) rfl ?_
      refine QJ.done ?_
      refine PJ.next ?_
      obtain ⟨kj18, hk19, hm⟩ := withK_open hm
      refine WJ.join (X := Int) (fun (x : Int) => kj18 x = some r) (fun (x : Int) => [(0, str s1), (4, str t2), (5, .int .i64 x)]) (fun (x : Int) => []) ?_ ?_
      · clear hk19
        refine WJ.seq ?_
        refine WJ.quiet ?_
        refine QJ.step (YldS.yld (y_assign rfl)) rfl ?_
        refine QJ.done ?_
        refine PJ.next ?_
        refine WJ.block ?_
        refine WJ.sel (L' := (fun (x : Int × Int) => []) (0, 0)) [] ⟨List.nodup_nil, rfl⟩ ?_
        refine WJ.sub (m' := (fun (x : Int × Int) => [(0, str s1), (4, str t2), (5, .int .i64 x.1), (6, .int .i64 x.2)]) (0, 0)) ⟨rfl, rfl, rfl, rfl, trivial⟩ ?_
        refine WJ.loop (X := Int × Int) (fun N (x : Int × Int) => s_l01Number_l1 kj18 t2 N x.1 x.2 = some r) (fun (x : Int × Int) => [(0, str s1), (4, str t2), (5, .int .i64 x.1), (6, .int .i64 x.2)]) (fun (x : Int × Int) => []) ?_ N (0, 0) hm
        · rintro N ⟨n20, i21⟩ hI
          have hm := hI; clear hI
          cases N with
          | zero => cases hm
          | succ N =>
          unfold s_l01Number_l1 at hm
          refine WJ.seq ?_
          refine WJ.seq ?_
          refine WJ.quiet ?_
          refine QJ.step (YldS.yld (y_move rfl)) rfl ?_
          refine QJ.step (YldS.yld (y_move rfl)) rfl ?_
          refine QJ.step (YldS.yld (y_lenStr Tryd.runUnderlying9 rfl)) rfl ?_
          refine QJ.step (YldS.yld (y_bin rfl rfl rfl)) rfl ?_
          refine QJ.done ?_
          refine PJ.next ?_
          refine WJ.cond (t := decide (i21 < (List.length t2 : Int))) rfl (fun hb22 => ?_) (fun hb22 => ?_)
          · replace hm := ifT hm hb22
            refine WJ.skip ?_
            refine PJ.next ?_
            refine WJ.seq ?_
            refine WJ.block ?_
            refine WJ.seq ?_
            refine WJ.seq ?_
            refine WJ.quiet ?_
            refine QJ.step (YldS.yld (y_move rfl)) rfl ?_
            refine QJ.step (YldS.yld (y_move rfl)) rfl ?_
            obtain ⟨c23, h24, hm⟩ := bindS hm
            refine QJ.step (YldS.yld (y_idxStr Tryd.runUnderlying9 rfl rfl h24)) rfl ?_
            obtain ⟨r25, h26, hm⟩ := bindS hm
            refine QJ.step (y_call Tryd.call125 rfl (RetG.quiet fun w hw => ok_s_l01Digit h26 w )) rfl ?_
            refine QJ.step (YldS.yld (y_not rfl)) rfl ?_
            refine QJ.done ?_
            refine PJ.next ?_
            refine WJ.cond (t := !r25) rfl (fun hb27 => ?_) (fun hb27 => ?_)
            · replace hm := ifT hm hb27
              refine WJ.seq ?_
              refine WJ.quiet ?_
              refine QJ.step (YldS.yld (y_assign rfl)) rfl ?_
              refine QJ.step (YldS.yld (y_assign rfl)) rfl ?_
              refine QJ.done ?_
              refine PJ.next ?_
              refine WJ.ret ?_
              refine PJ.then_ret (PJ.block_ret (PJ.then_ret (PJ.then_ret (PJ.block_ret (PJ.then_ret ?_)))))
              obtain rfl := Option.some.inj hm
              refine PJ.sel (L' := []) [] ⟨List.nodup_nil, rfl⟩ ?_
              exact PJ.retn (vs := [.int .i64 0, .bool false]) Tryd.results104 ⟨rfl, rfl, trivial⟩ ⟨rfl, rfl⟩
            · replace hm := ifF hm hb27
              refine WJ.skip ?_
              refine PJ.next ?_
              refine WJ.quiet ?_
              refine QJ.step (YldS.yld (y_move rfl)) rfl ?_
              refine QJ.step (YldS.yld (y_bin rfl rfl rfl)) rfl ?_
              refine QJ.step (YldS.yld (y_move rfl)) rfl ?_
              refine QJ.step (YldS.yld (y_move rfl)) rfl ?_
              obtain ⟨c28, h29, hm⟩ := bindS hm
              refine QJ.step (YldS.yld (y_idxStr Tryd.runUnderlying9 rfl rfl h29)) rfl ?_
              refine QJ.step (YldS.yld (y_bin8 c28 (48 : UInt8) rfl rfl rfl)) rfl ?_
              refine QJ.step (YldS.yld (y_conv8 Tryd.runUnderlying5 Tryd.runUnderlying2 rfl)) rfl ?_
              refine QJ.step (YldS.yld (y_bin rfl rfl rfl)) rfl ?_
              refine QJ.step (YldS.yld (y_assign rfl)) rfl ?_
              refine QJ.done ?_
              refine PJ.block_normal (PJ.next ?_)
              refine WJ.quiet ?_
              refine QJ.step (YldS.yld (y_move rfl)) rfl ?_
              refine QJ.step (YldS.yld (y_bin rfl rfl rfl)) rfl ?_
              refine QJ.step (YldS.yld (y_assign rfl)) rfl ?_
              refine QJ.done ?_
              exact PJ.round (w64 ((w64 (10 * n20)) + (UInt8.toNat (c28 - (48 : UInt8)) : Int)), w64 (i21 + 1)) [] hm ⟨rfl, rfl, rfl, rfl, trivial⟩ ⟨List.nodup_nil, rfl⟩
          · replace hm := ifF hm hb22
            refine WJ.exit ?_
            refine PJ.then_exit (PJ.then_exit (PJ.block_exit ?_))
            exact PJ.joined n20 [] hm ⟨rfl, rfl, rfl, trivial⟩ ⟨List.nodup_nil, rfl⟩
      · rintro n17 hm
        subst hk19
        obtain ⟨kj31, hk32, hm⟩ := withK_open hm
        refine WJ.join (X := Int) (fun (x : Int) => kj31 x = some r) (fun (x : Int) => [(0, str s1), (5, .int .i64 x)]) (fun (x : Int) => []) ?_ ?_
        · clear hk32
          refine WJ.seq ?_
          refine WJ.quiet ?_
          refine QJ.step (YldS.yld (y_move rfl)) rfl ?_
          refine QJ.step (YldS.yld (y_lenStr Tryd.runUnderlying9 rfl)) rfl ?_
          refine QJ.step (YldS.yld (y_move rfl)) rfl ?_
          refine QJ.step (YldS.yld (y_lenStr Tryd.runUnderlying9 rfl)) rfl ?_
          refine QJ.step (YldS.yld (y_bin rfl rfl rfl)) rfl ?_
          refine QJ.done ?_
          refine PJ.next ?_
          refine WJ.cond (t := decide ((List.length t2 : Int) < (List.length s1 : Int))) rfl (fun hb33 => ?_) (fun hb33 => ?_)
          · replace hm := ifT hm hb33
            refine WJ.quiet ?_
            refine QJ.step (YldS.yld (y_move rfl)) rfl ?_
            refine QJ.step (YldS.yld (y_neg rfl)) rfl ?_
            refine QJ.step (YldS.yld (y_assign rfl)) rfl ?_
            refine QJ.done ?_
            exact PJ.joined (w64 (0 - n17)) [] hm ⟨rfl, rfl, trivial⟩ ⟨List.nodup_nil, rfl⟩
          · replace hm := ifF hm hb33
            refine WJ.skip ?_
            exact PJ.joined n17 [] hm ⟨rfl, rfl, trivial⟩ ⟨List.nodup_nil, rfl⟩
        · rintro n30 hm
          subst hk32
          refine WJ.seq ?_
          refine WJ.seq ?_
          refine WJ.quiet ?_
          refine QJ.step (YldS.yld (y_move rfl)) rfl ?_
          obtain ⟨r34, h35, hm⟩ := bindS hm
          refine QJ.step (y_call Tryd.call76 rfl (RetG.quiet fun w hw => ok_s_l01Dec h35 w )) rfl ?_
          refine QJ.step (YldS.yld (y_move rfl)) rfl ?_
          refine QJ.step (YldS.yld (y_binS rfl rfl rfl)) rfl ?_
          refine QJ.done ?_
          refine PJ.next ?_
          refine WJ.cond (t := (r34 != s1)) rfl (fun hb36 => ?_) (fun hb36 => ?_)
          · replace hm := ifT hm hb36
            refine WJ.seq ?_
            refine WJ.quiet ?_
            refine QJ.step (YldS.yld (y_assign rfl)) rfl ?_
            refine QJ.step (YldS.yld (y_assign rfl)) rfl ?_
            refine QJ.done ?_
            refine PJ.next ?_
            refine WJ.ret ?_
            refine PJ.then_ret ?_
            obtain rfl := Option.some.inj hm
            refine PJ.sel (L' := []) [] ⟨List.nodup_nil, rfl⟩ ?_
            exact PJ.retn (vs := [.int .i64 0, .bool false]) Tryd.results104 ⟨rfl, rfl, trivial⟩ ⟨rfl, rfl⟩
          · replace hm := ifF hm hb36
            refine WJ.skip ?_
            refine PJ.next ?_
            refine WJ.seq ?_
            refine WJ.quiet ?_
            refine QJ.step (YldS.yld (y_move rfl)) rfl ?_
            refine QJ.step (YldS.yld (y_assign rfl)) rfl ?_
            refine QJ.step (YldS.yld (y_assign rfl)) rfl ?_
            refine QJ.done ?_
            refine PJ.next ?_
            refine WJ.ret ?_
            obtain rfl := Option.some.inj hm
            refine PJ.sel (L' := []) [] ⟨List.nodup_nil, rfl⟩ ?_
            exact PJ.retn (vs := [.int .i64 n30, .bool true]) Tryd.results104 ⟨rfl, rfl, trivial⟩ ⟨rfl, rfl⟩

set_option maxRecDepth 100000 in
set_option maxHeartbeats 1000000 in
theorem ok_s_ReadTrial {N : Nat} {s1 : Str} {r : Trial × Bool} (hm : s_ReadTrial N s1 = some r) (w : World)  :
    Calls Tryd.prog 48 #[str s1] w (Ret (cx w) (tup [.agg (Trial.enc r.1).toArray, .bool r.2])) := by
  unfold s_ReadTrial at hm
  refine Calls.enter [str s1] Tryd.func48 rfl Tryd.ntmps48 rfl ?_
  refine WJ.seq ?_
  refine WJ.reg ?_
  refine SJ.alloc (cs := [.int .i64 0, .int .i64 0, .int .i64 0]) Tryd.zeroValue49 rfl rfl fun g2 => ?_
  refine SJ.q (YldS.yld (y_assign rfl)) rfl ?_
  refine SJ.nil ?_
  refine PJ.next ?_
  refine WJ.seq ?_
  refine WJ.reg ?_
  refine SJ.q (YldS.yld (y_move rfl)) rfl ?_
  obtain ⟨r3, h4, hm⟩ := bindS hm
  refine SJ.call Tryd.call103 rfl (fun w hw => ok_s_l01Split h4 w ) rfl ?_
  rintro v5 _ ⟨_, rfl, rfl⟩
  refine SJ.q (YldS.yld (y_assign rfl)) rfl ?_
  refine SJ.nil ?_
  refine PJ.next ?_
  refine WJ.seq ?_
  refine WJ.seq ?_
  refine WJ.quiet_draw follows (by kernel_rfl) ?_
  refine QJ.step (YldS.yld (y_move rfl)) rfl ?_
  refine QJ.step (YldS.yld (y_lenRow (k := 0) rfl Tryd.runUnderlying88 rfl)) rfl ?_
  refine QJ.step (YldS.yld (y_bin rfl rfl rfl)) rfl ?_
  refine QJ.step (YldS.yld (y_move rfl)) rfl ?_
  obtain ⟨t6, h7, hm⟩ := bindS hm
  refine QJ.cut 5 [(2, pt g2 0), (4, v5), (23, .bool t6)] ?_ ?_
  · rcases Bool.eq_false_or_eq_true ((List.length r3 : Int) != 3) with hb8 | hb8
    · obtain rfl := orT h7 hb8
      refine QJ.off rfl rfl (cB hb8) rfl rfl ?_
      refine QJ.off rfl rfl (cB hb8) rfl rfl ?_
      refine QJ.off rfl rfl (cB hb8) rfl rfl ?_
      refine QJ.off rfl rfl (cB hb8) rfl rfl ?_
      refine QJ.step (YldS.yld (y_pick_t (cB hb8) rfl)) rfl ?_
      exact QJ.cut_end ⟨rfl, rfl, rfl, trivial⟩
    · replace h7 := orF h7 hb8
      refine QJ.on rfl rfl (cB hb8) (YldS.yld (y_move rfl)) rfl ?_
      obtain ⟨e9, h10, h7⟩ := bindS h7
      refine QJ.on rfl rfl (cB hb8) (YldS.yld (y_ixRow (k := 0) (R := fStr) rfl Tryd.runUnderlying88 Tryd.sizeOf9 rfl rfl h10)) rfl ?_
      refine QJ.on rfl rfl (cB hb8) (YldS.yld (y_loadR (k := 0) (i := (Int.toNat 1)) (off := 0) (u := str e9) rfl Tryd.isAgg9 rfl (idx_get h10) rfl)) rfl ?_
      refine QJ.on rfl rfl (cB hb8) (YldS.yld (y_binS rfl rfl rfl)) rfl ?_
      refine QJ.step (YldS.yld (y_pick_f (cB hb8) rfl)) rfl ?_
      obtain rfl := Option.some.inj h7
      exact QJ.cut_end ⟨rfl, rfl, rfl, trivial⟩
  refine QJ.step (YldS.yld (y_move rfl)) rfl ?_
  obtain ⟨t11, h12, hm⟩ := bindS hm
  refine QJ.cut 5 [(2, pt g2 0), (4, v5), (29, .bool t11)] ?_ ?_
  · rcases Bool.eq_false_or_eq_true t6 with hb13 | hb13
    · obtain rfl := orT h12 hb13
      refine QJ.off rfl rfl (cB hb13) rfl rfl ?_
      refine QJ.off rfl rfl (cB hb13) rfl rfl ?_
      refine QJ.off rfl rfl (cB hb13) rfl rfl ?_
      refine QJ.off rfl rfl (cB hb13) rfl rfl ?_
      refine QJ.step (YldS.yld (y_pick_t (cB hb13) rfl)) rfl ?_
      exact QJ.cut_end ⟨rfl, rfl, rfl, trivial⟩
    · replace h12 := orF h12 hb13
      refine QJ.on rfl rfl (cB hb13) (YldS.yld (y_move rfl)) rfl ?_
      obtain ⟨e14, h15, h12⟩ := bindS h12
      refine QJ.on rfl rfl (cB hb13) (YldS.yld (y_ixRow (k := 0) (R := fStr) rfl Tryd.runUnderlying88 Tryd.sizeOf9 rfl rfl h15)) rfl ?_
      refine QJ.on rfl rfl (cB hb13) (YldS.yld (y_loadR (k := 0) (i := (Int.toNat 2)) (off := 0) (u := str e14) rfl Tryd.isAgg9 rfl (idx_get h15) rfl)) rfl ?_
      refine QJ.on rfl rfl (cB hb13) (YldS.yld (y_binS rfl rfl rfl)) rfl ?_
      refine QJ.step (YldS.yld (y_pick_f (cB hb13) rfl)) rfl ?_
      obtain rfl := Option.some.inj h12
      exact QJ.cut_end ⟨rfl, rfl, rfl, trivial⟩
  refine QJ.step (YldS.yld (y_move rfl)) rfl ?_
  obtain ⟨t16, h17, hm⟩ := bindS hm
  refine QJ.cut 11 [(2, pt g2 0), (4, v5), (41, .bool t16)] ?_ ?_
  · rcases Bool.eq_false_or_eq_true t11 with hb18 | hb18
    · obtain rfl := orT h17 hb18
      refine QJ.off rfl rfl (cB hb18) rfl rfl ?_
      refine QJ.off rfl rfl (cB hb18) rfl rfl ?_
      refine QJ.off rfl rfl (cB hb18) rfl rfl ?_
      refine QJ.off rfl rfl (cB hb18) rfl rfl ?_
      refine QJ.off rfl rfl (cB hb18) rfl rfl ?_
      refine QJ.off rfl rfl (cB hb18) rfl rfl ?_
      refine QJ.off rfl rfl (cB hb18) rfl rfl ?_
      refine QJ.off rfl rfl (cB hb18) rfl rfl ?_
      refine QJ.off rfl rfl (cB hb18) rfl rfl ?_
      refine QJ.off rfl rfl (cB hb18) rfl rfl ?_
      refine QJ.step (YldS.yld (y_pick_t (cB hb18) rfl)) rfl ?_
      exact QJ.cut_end ⟨rfl, rfl, rfl, trivial⟩
    · replace h17 := orF h17 hb18
      refine QJ.on rfl rfl (cB hb18) (YldS.yld (y_move rfl)) rfl ?_
      obtain ⟨e19, h20, h17⟩ := bindS h17
      refine QJ.on rfl rfl (cB hb18) (YldS.yld (y_ixRow (k := 0) (R := fStr) rfl Tryd.runUnderlying88 Tryd.sizeOf9 rfl rfl h20)) rfl ?_
      refine QJ.on rfl rfl (cB hb18) (YldS.yld (y_loadR (k := 0) (i := (Int.toNat 2)) (off := 0) (u := str e19) rfl Tryd.isAgg9 rfl (idx_get h20) rfl)) rfl ?_
      refine QJ.on rfl rfl (cB hb18) (YldS.yld (y_move rfl)) rfl ?_
      obtain ⟨e21, h22, h17⟩ := bindS h17
      refine QJ.on rfl rfl (cB hb18) (YldS.yld (y_ixRow (k := 0) (R := fStr) rfl Tryd.runUnderlying88 Tryd.sizeOf9 rfl rfl h22)) rfl ?_
      refine QJ.on rfl rfl (cB hb18) (YldS.yld (y_loadR (k := 0) (i := (Int.toNat 2)) (off := 0) (u := str e21) rfl Tryd.isAgg9 rfl (idx_get h22) rfl)) rfl ?_
      refine QJ.on rfl rfl (cB hb18) (YldS.yld (y_lenStr Tryd.runUnderlying9 rfl)) rfl ?_
      refine QJ.on rfl rfl (cB hb18) (YldS.yld (y_bin rfl rfl rfl)) rfl ?_
      obtain ⟨c23, h24, h17⟩ := bindS h17
      refine QJ.on rfl rfl (cB hb18) (YldS.yld (y_idxStr Tryd.runUnderlying9 rfl rfl h24)) rfl ?_
      refine QJ.on rfl rfl (cB hb18) (YldS.yld (y_bin8 c23 (115 : UInt8) rfl rfl rfl)) rfl ?_
      refine QJ.step (YldS.yld (y_pick_f (cB hb18) rfl)) rfl ?_
      obtain rfl := Option.some.inj h17
      exact QJ.cut_end ⟨rfl, rfl, rfl, trivial⟩
  refine QJ.done ?_
  refine PJ.next ?_
  refine WJ.cond (t := t16) rfl (fun hb25 => ?_) (fun hb25 => ?_)
  · replace hm := ifT hm hb25
    refine WJ.seq ?_
    refine WJ.reg ?_
    refine SJ.q (YldS.yld (y_build (parts := []) (places := [(0, 1), (1, 1), (2, 1)]) (r := [.int .i64 ((Trial.mk 0 0 0).strokes), .int .i64 ((Trial.mk 0 0 0).errors), .int .i64 ((Trial.mk 0 0 0).seconds)]) pl49 Tryd.zeroValue49 rfl rfl rfl rfl)) rfl ?_
    refine SJ.storeL (k := 1) (off := 0) (us := [.int .i64 ((Trial.mk 0 0 0).strokes), .int .i64 ((Trial.mk 0 0 0).errors), .int .i64 ((Trial.mk 0 0 0).seconds)]) rfl rfl rfl rfl Tryd.sizeOf49 rfl rfl ?_
    refine SJ.q (YldS.yld (y_assign rfl)) rfl ?_
    refine SJ.nil ?_
    refine PJ.next ?_
    refine WJ.ret ?_
    refine PJ.then_ret ?_
    obtain rfl := Option.some.inj hm
    exact PJ.retn_sel (vs := [.agg (Trial.enc (Trial.mk 0 0 0)).toArray, .bool false]) Tryd.results48 ⟨⟨1, g2, 49, [.int .i64 ((Trial.mk 0 0 0).strokes), .int .i64 ((Trial.mk 0 0 0).errors), .int .i64 ((Trial.mk 0 0 0).seconds)], rfl, rfl, .inl ⟨Tryd.isAgg49, Tryd.sizeOf49, rfl⟩⟩, rfl, trivial⟩ [] ⟨List.nodup_nil, rfl⟩ ⟨rfl, rfl⟩
  · replace hm := ifF hm hb25
    refine WJ.skip ?_
    refine PJ.next ?_
    refine WJ.seq ?_
    refine WJ.reg ?_
    refine SJ.q (YldS.yld (y_move rfl)) rfl ?_
    obtain ⟨e26, h27, hm⟩ := bindS hm
    refine SJ.q (YldS.yld (y_ixRow (k := 0) (R := fStr) rfl Tryd.runUnderlying88 Tryd.sizeOf9 rfl rfl h27)) rfl ?_
    refine SJ.q (YldS.yld (y_loadR (k := 0) (i := (Int.toNat 0)) (off := 0) (u := str e26) rfl Tryd.isAgg9 rfl (idx_get h27) rfl)) rfl ?_
    obtain ⟨r28, h29, hm⟩ := bindS hm
    refine SJ.call Tryd.call103 rfl (fun w hw => ok_s_l01Split h29 w ) rfl ?_
    rintro v30 _ ⟨_, rfl, rfl⟩
    refine SJ.q (YldS.yld (y_assign rfl)) rfl ?_
    refine SJ.nil ?_
    refine PJ.next ?_
    refine WJ.seq ?_
    refine WJ.seq ?_
    refine WJ.quiet ?_
    refine QJ.step (YldS.yld (y_move rfl)) rfl ?_
    refine QJ.step (YldS.yld (y_lenRow (k := 0) rfl Tryd.runUnderlying88 rfl)) rfl ?_
    refine QJ.step (YldS.yld (y_bin rfl rfl rfl)) rfl ?_
    refine QJ.done ?_
    refine PJ.next ?_
    refine WJ.cond (t := ((List.length r28 : Int) != 2)) rfl (fun hb31 => ?_) (fun hb31 => ?_)
    · replace hm := ifT hm hb31
      refine WJ.seq ?_
      refine WJ.reg ?_
      refine SJ.q (YldS.yld (y_build (parts := []) (places := [(0, 1), (1, 1), (2, 1)]) (r := [.int .i64 ((Trial.mk 0 0 0).strokes), .int .i64 ((Trial.mk 0 0 0).errors), .int .i64 ((Trial.mk 0 0 0).seconds)]) pl49 Tryd.zeroValue49 rfl rfl rfl rfl)) rfl ?_
      refine SJ.storeL (k := 2) (off := 0) (us := [.int .i64 ((Trial.mk 0 0 0).strokes), .int .i64 ((Trial.mk 0 0 0).errors), .int .i64 ((Trial.mk 0 0 0).seconds)]) rfl rfl rfl rfl Tryd.sizeOf49 rfl rfl ?_
      refine SJ.q (YldS.yld (y_assign rfl)) rfl ?_
      refine SJ.nil ?_
      refine PJ.next ?_
      refine WJ.ret ?_
      refine PJ.then_ret ?_
      obtain rfl := Option.some.inj hm
      exact PJ.retn_sel (vs := [.agg (Trial.enc (Trial.mk 0 0 0)).toArray, .bool false]) Tryd.results48 ⟨⟨2, g2, 49, [.int .i64 ((Trial.mk 0 0 0).strokes), .int .i64 ((Trial.mk 0 0 0).errors), .int .i64 ((Trial.mk 0 0 0).seconds)], rfl, rfl, .inl ⟨Tryd.isAgg49, Tryd.sizeOf49, rfl⟩⟩, rfl, trivial⟩ [] ⟨List.nodup_nil, rfl⟩ ⟨rfl, rfl⟩
    · replace hm := ifF hm hb31
      refine WJ.skip ?_
      refine PJ.next ?_
      refine WJ.seq ?_
      refine WJ.quiet ?_
      refine QJ.step (YldS.yld (y_move rfl)) rfl ?_
      obtain ⟨e32, h33, hm⟩ := bindS hm
      refine QJ.step (YldS.yld (y_ixRow (k := 0) (R := fStr) rfl Tryd.runUnderlying88 Tryd.sizeOf9 rfl rfl h33)) rfl ?_
      refine QJ.step (YldS.yld (y_loadR (k := 0) (i := (Int.toNat 0)) (off := 0) (u := str e32) rfl Tryd.isAgg9 rfl (idx_get h33) rfl)) rfl ?_
      obtain ⟨r34, h35, hm⟩ := bindS hm
      refine QJ.step (y_call Tryd.call104 rfl (RetG.quiet fun w hw => ok_s_l01Number h35 w )) rfl ?_
      refine QJ.step (YldS.yld (y_move rfl)) rfl ?_
      refine QJ.step (YldS.yld (y_extract rfl rfl)) rfl ?_
      refine QJ.step (YldS.yld (y_extract rfl rfl)) rfl ?_
      refine QJ.step (YldS.yld (y_assign rfl)) rfl ?_
      refine QJ.step (YldS.yld (y_assign rfl)) rfl ?_
      refine QJ.done ?_
      refine PJ.next ?_
      refine WJ.seq ?_
      refine WJ.quiet ?_
      refine QJ.step (YldS.yld (y_move rfl)) rfl ?_
      obtain ⟨e36, h37, hm⟩ := bindS hm
      refine QJ.step (YldS.yld (y_ixRow (k := 0) (R := fStr) rfl Tryd.runUnderlying88 Tryd.sizeOf9 rfl rfl h37)) rfl ?_
      refine QJ.step (YldS.yld (y_loadR (k := 0) (i := (Int.toNat 1)) (off := 0) (u := str e36) rfl Tryd.isAgg9 rfl (idx_get h37) rfl)) rfl ?_
      obtain ⟨r38, h39, hm⟩ := bindS hm
      refine QJ.step (y_call Tryd.call104 rfl (RetG.quiet fun w hw => ok_s_l01Number h39 w )) rfl ?_
      refine QJ.step (YldS.yld (y_move rfl)) rfl ?_
      refine QJ.step (YldS.yld (y_extract rfl rfl)) rfl ?_
      refine QJ.step (YldS.yld (y_extract rfl rfl)) rfl ?_
      refine QJ.step (YldS.yld (y_assign rfl)) rfl ?_
      refine QJ.step (YldS.yld (y_assign rfl)) rfl ?_
      refine QJ.done ?_
      refine PJ.next ?_
      refine WJ.seq ?_
      refine WJ.quiet_draw follows (by kernel_rfl) ?_
      refine QJ.step (YldS.yld (y_move rfl)) rfl ?_
      obtain ⟨e40, h41, hm⟩ := bindS hm
      refine QJ.step (YldS.yld (y_ixRow (k := 1) (R := fStr) rfl Tryd.runUnderlying88 Tryd.sizeOf9 rfl rfl h41)) rfl ?_
      refine QJ.step (YldS.yld (y_loadR (k := 1) (i := (Int.toNat 2)) (off := 0) (u := str e40) rfl Tryd.isAgg9 rfl (idx_get h41) rfl)) rfl ?_
      refine QJ.step (YldS.yld (y_move rfl)) rfl ?_
      obtain ⟨e42, h43, hm⟩ := bindS hm
      refine QJ.step (YldS.yld (y_ixRow (k := 1) (R := fStr) rfl Tryd.runUnderlying88 Tryd.sizeOf9 rfl rfl h43)) rfl ?_
      refine QJ.step (YldS.yld (y_loadR (k := 1) (i := (Int.toNat 2)) (off := 0) (u := str e42) rfl Tryd.isAgg9 rfl (idx_get h43) rfl)) rfl ?_
      refine QJ.step (YldS.yld (y_lenStr Tryd.runUnderlying9 rfl)) rfl ?_
      refine QJ.step (YldS.yld (y_bin rfl rfl rfl)) rfl ?_
      obtain ⟨s44, h45, hm⟩ := bindS hm
      refine QJ.step (YldS.yld (y_subStr (i := none) (j := some (w64 ((List.length e42 : Int) - 1))) h45 Tryd.runUnderlying9 rfl trivial ⟨_, rfl⟩)) rfl ?_
      obtain ⟨r46, h47, hm⟩ := bindS hm
      refine QJ.step (y_call Tryd.call104 rfl (RetG.quiet fun w hw => ok_s_l01Number h47 w )) rfl ?_
      refine QJ.step (YldS.yld (y_move rfl)) rfl ?_
      refine QJ.step (YldS.yld (y_extract rfl rfl)) rfl ?_
      refine QJ.step (YldS.yld (y_extract rfl rfl)) rfl ?_
      refine QJ.step (YldS.yld (y_assign rfl)) rfl ?_
      refine QJ.step (YldS.yld (y_assign rfl)) rfl ?_
      refine QJ.done ?_
      refine PJ.next ?_
      refine WJ.seq ?_
      refine WJ.reg ?_
      refine SJ.q (YldS.yld (y_move rfl)) rfl ?_
      refine SJ.q (YldS.yld (y_move rfl)) rfl ?_
      refine SJ.q (YldS.yld (y_move rfl)) rfl ?_
      refine SJ.q (YldS.yld (y_build (parts := [(0, .tmp 78), (1, .tmp 79), (2, .tmp 80)]) (places := [(0, 1), (1, 1), (2, 1)]) (r := [.int .i64 ((Trial.mk r34.1 r38.1 r46.1).strokes), .int .i64 ((Trial.mk r34.1 r38.1 r46.1).errors), .int .i64 ((Trial.mk r34.1 r38.1 r46.1).seconds)]) pl49 Tryd.zeroValue49 rfl rfl rfl rfl)) rfl ?_
      refine SJ.alloc (cs := [.int .i64 0, .int .i64 0, .int .i64 0]) Tryd.zeroValue49 rfl rfl fun g48 => ?_
      refine SJ.storeL (k := 0) (off := 0) (us := [.int .i64 ((Trial.mk r34.1 r38.1 r46.1).strokes), .int .i64 ((Trial.mk r34.1 r38.1 r46.1).errors), .int .i64 ((Trial.mk r34.1 r38.1 r46.1).seconds)]) rfl rfl rfl rfl Tryd.sizeOf49 rfl rfl ?_
      refine SJ.nil ?_
      refine PJ.next ?_
      refine WJ.seq ?_
      refine WJ.seq ?_
      refine WJ.quiet ?_
      refine QJ.step (YldS.yld (y_move rfl)) rfl ?_
      refine QJ.step (YldS.yld (y_not rfl)) rfl ?_
      refine QJ.step (YldS.yld (y_move rfl)) rfl ?_
      obtain ⟨t49, h50, hm⟩ := bindS hm
      refine QJ.cut 3 [(2, pt g2 0), (11, .bool r46.2), (12, pt g48 0), (87, .bool t49)] ?_ ?_
      · rcases Bool.eq_false_or_eq_true (!r34.2) with hb51 | hb51
        · obtain rfl := orT h50 hb51
          refine QJ.off rfl rfl (cB hb51) rfl rfl ?_
          refine QJ.off rfl rfl (cB hb51) rfl rfl ?_
          refine QJ.step (YldS.yld (y_pick_t (cB hb51) rfl)) rfl ?_
          exact QJ.cut_end ⟨rfl, rfl, rfl, rfl, trivial⟩
        · replace h50 := orF h50 hb51
          refine QJ.on rfl rfl (cB hb51) (YldS.yld (y_move rfl)) rfl ?_
          refine QJ.on rfl rfl (cB hb51) (YldS.yld (y_not rfl)) rfl ?_
          refine QJ.step (YldS.yld (y_pick_f (cB hb51) rfl)) rfl ?_
          obtain rfl := Option.some.inj h50
          exact QJ.cut_end ⟨rfl, rfl, rfl, rfl, trivial⟩
      refine QJ.step (YldS.yld (y_move rfl)) rfl ?_
      obtain ⟨t52, h53, hm⟩ := bindS hm
      refine QJ.cut 3 [(2, pt g2 0), (12, pt g48 0), (91, .bool t52)] ?_ ?_
      · rcases Bool.eq_false_or_eq_true t49 with hb54 | hb54
        · obtain rfl := orT h53 hb54
          refine QJ.off rfl rfl (cB hb54) rfl rfl ?_
          refine QJ.off rfl rfl (cB hb54) rfl rfl ?_
          refine QJ.step (YldS.yld (y_pick_t (cB hb54) rfl)) rfl ?_
          exact QJ.cut_end ⟨rfl, rfl, rfl, trivial⟩
        · replace h53 := orF h53 hb54
          refine QJ.on rfl rfl (cB hb54) (YldS.yld (y_move rfl)) rfl ?_
          refine QJ.on rfl rfl (cB hb54) (YldS.yld (y_not rfl)) rfl ?_
          refine QJ.step (YldS.yld (y_pick_f (cB hb54) rfl)) rfl ?_
          obtain rfl := Option.some.inj h53
          exact QJ.cut_end ⟨rfl, rfl, rfl, trivial⟩
      refine QJ.step (YldS.yld (y_move rfl)) rfl ?_
      obtain ⟨t55, h56, hm⟩ := bindS hm
      refine QJ.cut 3 [(2, pt g2 0), (12, pt g48 0), (95, .bool t55)] ?_ ?_
      · rcases Bool.eq_false_or_eq_true t52 with hb57 | hb57
        · obtain rfl := orT h56 hb57
          refine QJ.off rfl rfl (cB hb57) rfl rfl ?_
          refine QJ.off rfl rfl (cB hb57) rfl rfl ?_
          refine QJ.step (YldS.yld (y_pick_t (cB hb57) rfl)) rfl ?_
          exact QJ.cut_end ⟨rfl, rfl, rfl, trivial⟩
        · replace h56 := orF h56 hb57
          obtain ⟨r58, h59, h56⟩ := bindS h56
          refine QJ.on rfl rfl (cB hb57) (y_call Tryd.call96 rfl (RetG.quiet fun w hw => ok_s_l20One h59 w _ (hw.box_at (k := 0) rfl))) rfl ?_
          refine QJ.on rfl rfl (cB hb57) (YldS.yld (y_not rfl)) rfl ?_
          refine QJ.step (YldS.yld (y_pick_f (cB hb57) rfl)) rfl ?_
          obtain rfl := Option.some.inj h56
          exact QJ.cut_end ⟨rfl, rfl, rfl, trivial⟩
      refine QJ.done ?_
      refine PJ.next ?_
      refine WJ.cond (t := t55) rfl (fun hb60 => ?_) (fun hb60 => ?_)
      · replace hm := ifT hm hb60
        refine WJ.seq ?_
        refine WJ.reg ?_
        refine SJ.q (YldS.yld (y_build (parts := []) (places := [(0, 1), (1, 1), (2, 1)]) (r := [.int .i64 ((Trial.mk 0 0 0).strokes), .int .i64 ((Trial.mk 0 0 0).errors), .int .i64 ((Trial.mk 0 0 0).seconds)]) pl49 Tryd.zeroValue49 rfl rfl rfl rfl)) rfl ?_
        refine SJ.storeL (k := 3) (off := 0) (us := [.int .i64 ((Trial.mk 0 0 0).strokes), .int .i64 ((Trial.mk 0 0 0).errors), .int .i64 ((Trial.mk 0 0 0).seconds)]) rfl rfl rfl rfl Tryd.sizeOf49 rfl rfl ?_
        refine SJ.q (YldS.yld (y_assign rfl)) rfl ?_
        refine SJ.nil ?_
        refine PJ.next ?_
        refine WJ.ret ?_
        refine PJ.then_ret ?_
        obtain rfl := Option.some.inj hm
        exact PJ.retn_sel (vs := [.agg (Trial.enc (Trial.mk 0 0 0)).toArray, .bool false]) Tryd.results48 ⟨⟨3, g2, 49, [.int .i64 ((Trial.mk 0 0 0).strokes), .int .i64 ((Trial.mk 0 0 0).errors), .int .i64 ((Trial.mk 0 0 0).seconds)], rfl, rfl, .inl ⟨Tryd.isAgg49, Tryd.sizeOf49, rfl⟩⟩, rfl, trivial⟩ [] ⟨List.nodup_nil, rfl⟩ ⟨rfl, rfl⟩
      · replace hm := ifF hm hb60
        refine WJ.skip ?_
        refine PJ.next ?_
        refine WJ.seq ?_
        refine WJ.reg ?_
        refine SJ.q (YldS.yld (y_loadBN (k := 0) (off := 0) (us := [.int .i64 ((Trial.mk r34.1 r38.1 r46.1).strokes), .int .i64 ((Trial.mk r34.1 r38.1 r46.1).errors), .int .i64 ((Trial.mk r34.1 r38.1 r46.1).seconds)]) rfl Tryd.isAgg49 Tryd.sizeOf49 rfl rfl)) rfl ?_
        refine SJ.storeL (k := 3) (off := 0) (us := [.int .i64 ((Trial.mk r34.1 r38.1 r46.1).strokes), .int .i64 ((Trial.mk r34.1 r38.1 r46.1).errors), .int .i64 ((Trial.mk r34.1 r38.1 r46.1).seconds)]) rfl rfl rfl rfl Tryd.sizeOf49 rfl rfl ?_
        refine SJ.q (YldS.yld (y_assign rfl)) rfl ?_
        refine SJ.nil ?_
        refine PJ.next ?_
        refine WJ.ret ?_
        obtain rfl := Option.some.inj hm
        exact PJ.retn_sel (vs := [.agg (Trial.enc (Trial.mk r34.1 r38.1 r46.1)).toArray, .bool true]) Tryd.results48 ⟨⟨3, g2, 49, [.int .i64 ((Trial.mk r34.1 r38.1 r46.1).strokes), .int .i64 ((Trial.mk r34.1 r38.1 r46.1).errors), .int .i64 ((Trial.mk r34.1 r38.1 r46.1).seconds)], rfl, rfl, .inl ⟨Tryd.isAgg49, Tryd.sizeOf49, rfl⟩⟩, rfl, trivial⟩ [] ⟨List.nodup_nil, rfl⟩ ⟨rfl, rfl⟩

set_option maxRecDepth 100000 in
set_option maxHeartbeats 1000000 in
theorem ok_s_TrialText {N : Nat} {x1 : Trial} {r : Str} (hm : s_TrialText N x1 = some r) (w : World)  :
    Calls Tryd.prog 49 #[.agg (Trial.enc x1).toArray] w (Ret (cx w) (str r)) := by
  unfold s_TrialText at hm
  refine Calls.enter [.agg (Trial.enc x1).toArray] Tryd.func49 rfl Tryd.ntmps49 rfl ?_
  refine WJ.seq ?_
  refine WJ.reg ?_
  refine SJ.box (cs := [.int .i64 x1.strokes, .int .i64 x1.errors, .int .i64 x1.seconds]) rfl rfl rfl fun g2 => ?_
  refine SJ.q (YldS.yld (y_assign rfl)) rfl ?_
  refine SJ.nil ?_
  refine PJ.next ?_
  refine WJ.seq ?_
  refine WJ.seq ?_
  refine WJ.quiet ?_
  obtain ⟨r3, h4, hm⟩ := bindS hm
  refine QJ.step (y_call Tryd.call96 rfl (RetG.quiet fun w hw => ok_s_l20One h4 w _ (hw.box_at (k := 0) rfl))) rfl ?_
  refine QJ.step (YldS.yld (y_not rfl)) rfl ?_
  refine QJ.done ?_
  refine PJ.next ?_
  refine WJ.cond (t := !r3) rfl (fun hb5 => ?_) (fun hb5 => ?_)
  · replace hm := ifT hm hb5
    refine WJ.seq ?_
    refine WJ.quiet ?_
    refine QJ.step (YldS.yld (y_assign rfl)) rfl ?_
    refine QJ.done ?_
    refine PJ.next ?_
    refine WJ.ret ?_
    refine PJ.then_ret ?_
    obtain rfl := Option.some.inj hm
    refine PJ.sel (L' := []) [] ⟨List.nodup_nil, rfl⟩ ?_
    exact PJ.retn (vs := [str []]) Tryd.results49 ⟨rfl, trivial⟩ ⟨rfl, rfl⟩
  · replace hm := ifF hm hb5
    refine WJ.skip ?_
    refine PJ.next ?_
    refine WJ.seq ?_
    refine WJ.quiet ?_
    obtain ⟨r6, h7, hm⟩ := bindS hm
    refine QJ.step (y_call Tryd.call101 rfl (RetG.quiet fun w hw => ok_s_l20Text h7 w _ (hw.box_at (k := 0) rfl))) rfl ?_
    refine QJ.step (YldS.yld (y_assign rfl)) rfl ?_
    refine QJ.done ?_
    refine PJ.next ?_
    refine WJ.ret ?_
    obtain rfl := Option.some.inj hm
    refine PJ.sel (L' := []) [] ⟨List.nodup_nil, rfl⟩ ?_
    exact PJ.retn (vs := [str r6]) Tryd.results49 ⟨rfl, trivial⟩ ⟨rfl, rfl⟩

set_option maxRecDepth 100000 in
set_option maxHeartbeats 1000000 in
theorem ok_w_FnSpeeds {N : Nat} {code1 : List UInt8} {r : Bool} (hm : w_FnSpeeds N code1 = some r) (w : World) (hT : Tab Tryd.prog tabNm w (cx w).Fz) (v2 : Value) (hr3 : RdS w (cx w).Fz v2 fByte.rp code1) :
    Calls Tryd.prog 4 #[v2] w (Ret (cx w) (.bool r)) := by
  unfold w_FnSpeeds at hm
  refine Calls.enter [v2] Tryd.func4 rfl Tryd.ntmps4 rfl ?_
  refine WJ.seq ?_
  refine WJ.quiet ?_
  refine QJ.step (YldS.yld (y_assign rfl)) rfl ?_
  refine QJ.done ?_
  refine PJ.next ?_
  refine WJ.seq ?_
  refine WJ.seq ?_
  refine WJ.quiet ?_
  refine QJ.step (YldS.yld (y_move rfl)) rfl ?_
  obtain ⟨r4, h5, hm⟩ := bindS hm
  refine QJ.step (y_call Tryd.call5 rfl (RetG.quiet fun w hw => ok_w_f6big h5 w _ (hr3.st hw))) rfl ?_
  refine QJ.done ?_
  refine PJ.next ?_
  refine WJ.cond (t := r4) rfl (fun hb6 => ?_) (fun hb6 => ?_)
  · replace hm := ifT hm hb6
    refine WJ.seq ?_
    refine WJ.quiet ?_
    refine QJ.step (YldS.yld (y_assign rfl)) rfl ?_
    refine QJ.done ?_
    refine PJ.next ?_
    refine WJ.ret ?_
    refine PJ.then_ret ?_
    obtain rfl := Option.some.inj hm
    refine PJ.sel (L' := []) [] ⟨List.nodup_nil, rfl⟩ ?_
    exact PJ.retn (vs := [.bool true]) Tryd.results4 ⟨rfl, trivial⟩ ⟨rfl, rfl⟩
  · replace hm := ifF hm hb6
    refine WJ.skip ?_
    refine PJ.next ?_
    refine WJ.seq ?_
    refine WJ.reg ?_
    refine SJ.q (YldS.yld (y_move rfl)) rfl ?_
    obtain ⟨r7, h8, hm⟩ := bindS hm
    refine SJ.q (y_call Tryd.call28 rfl (RetG.quiet fun w hw => ok_s_DrawStrokesPerMinute h8 w _ (hr3.st hw))) rfl ?_
    refine SJ.q (YldS.yld (y_move rfl)) rfl ?_
    refine SJ.q (YldS.yld (y_extract rfl rfl)) rfl ?_
    refine SJ.q (YldS.yld (y_extract rfl rfl)) rfl ?_
    refine SJ.alloc (cs := [.int .i64 0, .int .i64 0, .int .i64 0]) Tryd.zeroValue49 rfl rfl fun g9 => ?_
    refine SJ.storeL (k := 0) (off := 0) (us := [.int .i64 r7.1.strokes, .int .i64 r7.1.errors, .int .i64 r7.1.seconds]) rfl rfl rfl rfl Tryd.sizeOf49 rfl rfl ?_
    refine SJ.q (YldS.yld (y_assign rfl)) rfl ?_
    refine SJ.nil ?_
    refine PJ.next ?_
    refine WJ.seq ?_
    refine WJ.reg ?_
    refine SJ.q (YldS.yld (y_loadBN (k := 0) (off := 0) (us := [.int .i64 r7.1.strokes, .int .i64 r7.1.errors, .int .i64 r7.1.seconds]) rfl Tryd.isAgg49 Tryd.sizeOf49 rfl rfl)) rfl ?_
    refine SJ.q (YldS.yld (y_move rfl)) rfl ?_
    obtain ⟨r10, h11, hm⟩ := bindS hm
    refine SJ.q (y_call Tryd.call29 rfl (RetG.quiet fun w hw => ok_i_StrokesPerMinute h11 w )) rfl ?_
    refine SJ.q (YldS.yld (y_move rfl)) rfl ?_
    refine SJ.q (YldS.yld (y_extract rfl rfl)) rfl ?_
    refine SJ.q (YldS.yld (y_extract rfl rfl)) rfl ?_
    refine SJ.alloc (cs := [.int .i64 0, .int .i64 0]) Tryd.zeroValue53 rfl rfl fun g12 => ?_
    refine SJ.storeL (k := 0) (off := 0) (us := [.int .i64 r10.1.num, .int .i64 r10.1.den]) rfl rfl rfl rfl Tryd.sizeOf53 rfl rfl ?_
    refine SJ.q (YldS.yld (y_assign rfl)) rfl ?_
    refine SJ.nil ?_
    refine PJ.next ?_
    refine WJ.seq ?_
    refine WJ.reg ?_
    refine SJ.q (YldS.yld (y_loadBN (k := 1) (off := 0) (us := [.int .i64 r7.1.strokes, .int .i64 r7.1.errors, .int .i64 r7.1.seconds]) rfl Tryd.isAgg49 Tryd.sizeOf49 rfl rfl)) rfl ?_
    refine SJ.q (YldS.yld (y_move rfl)) rfl ?_
    obtain ⟨r13, h14, hm⟩ := bindS hm
    refine SJ.q (y_call Tryd.call30 rfl (RetG.quiet fun w hw => ok_s_StrokesPerMinute h14 w )) rfl ?_
    refine SJ.q (YldS.yld (y_move rfl)) rfl ?_
    refine SJ.q (YldS.yld (y_extract rfl rfl)) rfl ?_
    refine SJ.q (YldS.yld (y_extract rfl rfl)) rfl ?_
    refine SJ.alloc (cs := [.int .i64 0, .int .i64 0]) Tryd.zeroValue53 rfl rfl fun g15 => ?_
    refine SJ.storeL (k := 0) (off := 0) (us := [.int .i64 r13.1.num, .int .i64 r13.1.den]) rfl rfl rfl rfl Tryd.sizeOf53 rfl rfl ?_
    refine SJ.q (YldS.yld (y_assign rfl)) rfl ?_
    refine SJ.nil ?_
    refine PJ.next ?_
    refine WJ.seq ?_
    refine WJ.reg ?_
    refine SJ.q (YldS.yld (y_loadBN (k := 2) (off := 0) (us := [.int .i64 r7.1.strokes, .int .i64 r7.1.errors, .int .i64 r7.1.seconds]) rfl Tryd.isAgg49 Tryd.sizeOf49 rfl rfl)) rfl ?_
    refine SJ.q (YldS.yld (y_move rfl)) rfl ?_
    obtain ⟨r16, h17, hm⟩ := bindS hm
    refine SJ.q (y_call Tryd.call31 rfl (RetG.quiet fun w hw => ok_i_WordsPerMinute h17 w )) rfl ?_
    refine SJ.q (YldS.yld (y_move rfl)) rfl ?_
    refine SJ.q (YldS.yld (y_extract rfl rfl)) rfl ?_
    refine SJ.q (YldS.yld (y_extract rfl rfl)) rfl ?_
    refine SJ.alloc (cs := [.int .i64 0, .int .i64 0]) Tryd.zeroValue53 rfl rfl fun g18 => ?_
    refine SJ.storeL (k := 0) (off := 0) (us := [.int .i64 r16.1.num, .int .i64 r16.1.den]) rfl rfl rfl rfl Tryd.sizeOf53 rfl rfl ?_
    refine SJ.q (YldS.yld (y_assign rfl)) rfl ?_
    refine SJ.nil ?_
    refine PJ.next ?_
    refine WJ.seq ?_
    refine WJ.reg ?_
    refine SJ.q (YldS.yld (y_loadBN (k := 3) (off := 0) (us := [.int .i64 r7.1.strokes, .int .i64 r7.1.errors, .int .i64 r7.1.seconds]) rfl Tryd.isAgg49 Tryd.sizeOf49 rfl rfl)) rfl ?_
    refine SJ.q (YldS.yld (y_move rfl)) rfl ?_
    obtain ⟨r19, h20, hm⟩ := bindS hm
    refine SJ.q (y_call Tryd.call32 rfl (RetG.quiet fun w hw => ok_s_WordsPerMinute h20 w )) rfl ?_
    refine SJ.q (YldS.yld (y_move rfl)) rfl ?_
    refine SJ.q (YldS.yld (y_extract rfl rfl)) rfl ?_
    refine SJ.q (YldS.yld (y_extract rfl rfl)) rfl ?_
    refine SJ.alloc (cs := [.int .i64 0, .int .i64 0]) Tryd.zeroValue53 rfl rfl fun g21 => ?_
    refine SJ.storeL (k := 0) (off := 0) (us := [.int .i64 r19.1.num, .int .i64 r19.1.den]) rfl rfl rfl rfl Tryd.sizeOf53 rfl rfl ?_
    refine SJ.q (YldS.yld (y_assign rfl)) rfl ?_
    refine SJ.nil ?_
    refine PJ.next ?_
    refine WJ.seq ?_
    refine WJ.quiet ?_
    refine QJ.step (YldS.yld (y_loadBN (k := 4) (off := 0) (us := [.int .i64 r7.1.strokes, .int .i64 r7.1.errors, .int .i64 r7.1.seconds]) rfl Tryd.isAgg49 Tryd.sizeOf49 rfl rfl)) rfl ?_
    refine QJ.step (YldS.yld (y_move rfl)) rfl ?_
    obtain ⟨r22, h23, hm⟩ := bindS hm
    refine QJ.step (y_call Tryd.call33 rfl (RetG.quiet fun w hw => ok_i_NetStrokes h23 w )) rfl ?_
    refine QJ.step (YldS.yld (y_move rfl)) rfl ?_
    refine QJ.step (YldS.yld (y_extract rfl rfl)) rfl ?_
    refine QJ.step (YldS.yld (y_extract rfl rfl)) rfl ?_
    refine QJ.step (YldS.yld (y_assign rfl)) rfl ?_
    refine QJ.step (YldS.yld (y_assign rfl)) rfl ?_
    refine QJ.done ?_
    refine PJ.next ?_
    refine WJ.seq ?_
    refine WJ.quiet ?_
    refine QJ.step (YldS.yld (y_loadBN (k := 4) (off := 0) (us := [.int .i64 r7.1.strokes, .int .i64 r7.1.errors, .int .i64 r7.1.seconds]) rfl Tryd.isAgg49 Tryd.sizeOf49 rfl rfl)) rfl ?_
    refine QJ.step (YldS.yld (y_move rfl)) rfl ?_
    obtain ⟨r24, h25, hm⟩ := bindS hm
    refine QJ.step (y_call Tryd.call34 rfl (RetG.quiet fun w hw => ok_s_NetStrokes h25 w )) rfl ?_
    refine QJ.step (YldS.yld (y_move rfl)) rfl ?_
    refine QJ.step (YldS.yld (y_extract rfl rfl)) rfl ?_
    refine QJ.step (YldS.yld (y_extract rfl rfl)) rfl ?_
    refine QJ.step (YldS.yld (y_assign rfl)) rfl ?_
    refine QJ.step (YldS.yld (y_assign rfl)) rfl ?_
    refine QJ.done ?_
    refine PJ.next ?_
    refine WJ.seq ?_
    refine WJ.quiet ?_
    refine QJ.step (YldS.yld (y_move rfl)) rfl ?_
    obtain ⟨r26, h27, hm⟩ := bindS hm
    refine QJ.step (y_call Tryd.call35 rfl (RetG.quiet fun w hw => ok_s_DrawStrokesNeeded h27 w _ (hr3.st hw))) rfl ?_
    refine QJ.step (YldS.yld (y_move rfl)) rfl ?_
    refine QJ.step (YldS.yld (y_extract rfl rfl)) rfl ?_
    refine QJ.step (YldS.yld (y_extract rfl rfl)) rfl ?_
    refine QJ.step (YldS.yld (y_extract rfl rfl)) rfl ?_
    refine QJ.step (YldS.yld (y_extract rfl rfl)) rfl ?_
    refine QJ.step (YldS.yld (y_assign rfl)) rfl ?_
    refine QJ.step (YldS.yld (y_assign rfl)) rfl ?_
    refine QJ.step (YldS.yld (y_assign rfl)) rfl ?_
    refine QJ.step (YldS.yld (y_assign rfl)) rfl ?_
    refine QJ.done ?_
    refine PJ.next ?_
    refine WJ.seq ?_
    refine WJ.quiet ?_
    refine QJ.step (YldS.yld (y_move rfl)) rfl ?_
    refine QJ.step (YldS.yld (y_move rfl)) rfl ?_
    refine QJ.step (YldS.yld (y_move rfl)) rfl ?_
    refine QJ.step (YldS.yld (y_move rfl)) rfl ?_
    obtain ⟨r28, h29, hm⟩ := bindS hm
    refine QJ.step (y_call Tryd.call36 rfl (RetG.quiet fun w hw => ok_i_StrokesNeeded h29 w )) rfl ?_
    refine QJ.step (YldS.yld (y_move rfl)) rfl ?_
    refine QJ.step (YldS.yld (y_extract rfl rfl)) rfl ?_
    refine QJ.step (YldS.yld (y_extract rfl rfl)) rfl ?_
    refine QJ.step (YldS.yld (y_assign rfl)) rfl ?_
    refine QJ.step (YldS.yld (y_assign rfl)) rfl ?_
    refine QJ.done ?_
    refine PJ.next ?_
    refine WJ.seq ?_
    refine WJ.quiet ?_
    refine QJ.step (YldS.yld (y_move rfl)) rfl ?_
    refine QJ.step (YldS.yld (y_move rfl)) rfl ?_
    refine QJ.step (YldS.yld (y_move rfl)) rfl ?_
    refine QJ.step (YldS.yld (y_move rfl)) rfl ?_
    obtain ⟨r30, h31, hm⟩ := bindS hm
    refine QJ.step (y_call Tryd.call37 rfl (RetG.quiet fun w hw => ok_s_StrokesNeeded h31 w )) rfl ?_
    refine QJ.step (YldS.yld (y_move rfl)) rfl ?_
    refine QJ.step (YldS.yld (y_extract rfl rfl)) rfl ?_
    refine QJ.step (YldS.yld (y_extract rfl rfl)) rfl ?_
    refine QJ.step (YldS.yld (y_assign rfl)) rfl ?_
    refine QJ.step (YldS.yld (y_assign rfl)) rfl ?_
    refine QJ.done ?_
    refine PJ.next ?_
    refine WJ.seq ?_
    refine WJ.reg ?_
    refine SJ.q (YldS.yld (y_move rfl)) rfl ?_
    obtain ⟨r32, h33, hm⟩ := bindS hm
    refine SJ.q (y_call Tryd.call38 rfl (RetG.quiet fun w hw => ok_s_DrawPassesTest h33 w _ (hr3.st hw))) rfl ?_
    refine SJ.q (YldS.yld (y_move rfl)) rfl ?_
    refine SJ.q (YldS.yld (y_extract rfl rfl)) rfl ?_
    refine SJ.q (YldS.yld (y_extract rfl rfl)) rfl ?_
    refine SJ.q (YldS.yld (y_extract rfl rfl)) rfl ?_
    refine SJ.q (YldS.yld (y_extract rfl rfl)) rfl ?_
    refine SJ.alloc (cs := [.int .i64 0, .int .i64 0, .int .i64 0]) Tryd.zeroValue49 rfl rfl fun g34 => ?_
    refine SJ.storeL (k := 0) (off := 0) (us := [.int .i64 r32.1.strokes, .int .i64 r32.1.errors, .int .i64 r32.1.seconds]) rfl rfl rfl rfl Tryd.sizeOf49 rfl rfl ?_
    refine SJ.q (YldS.yld (y_assign rfl)) rfl ?_
    refine SJ.q (YldS.yld (y_assign rfl)) rfl ?_
    refine SJ.q (YldS.yld (y_assign rfl)) rfl ?_
    refine SJ.nil ?_
    refine PJ.next ?_
    refine WJ.seq ?_
    refine WJ.quiet ?_
    refine QJ.step (YldS.yld (y_loadBN (k := 0) (off := 0) (us := [.int .i64 r32.1.strokes, .int .i64 r32.1.errors, .int .i64 r32.1.seconds]) rfl Tryd.isAgg49 Tryd.sizeOf49 rfl rfl)) rfl ?_
    refine QJ.step (YldS.yld (y_move rfl)) rfl ?_
    refine QJ.step (YldS.yld (y_move rfl)) rfl ?_
    refine QJ.step (YldS.yld (y_move rfl)) rfl ?_
    obtain ⟨r35, h36, hm⟩ := bindS hm
    refine QJ.step (y_call Tryd.call39 rfl (RetG.quiet fun w hw => ok_i_PassesTest h36 w )) rfl ?_
    refine QJ.step (YldS.yld (y_move rfl)) rfl ?_
    refine QJ.step (YldS.yld (y_extract rfl rfl)) rfl ?_
    refine QJ.step (YldS.yld (y_extract rfl rfl)) rfl ?_
    refine QJ.step (YldS.yld (y_assign rfl)) rfl ?_
    refine QJ.step (YldS.yld (y_assign rfl)) rfl ?_
    refine QJ.done ?_
    refine PJ.next ?_
    refine WJ.seq ?_
    refine WJ.quiet ?_
    refine QJ.step (YldS.yld (y_loadBN (k := 0) (off := 0) (us := [.int .i64 r32.1.strokes, .int .i64 r32.1.errors, .int .i64 r32.1.seconds]) rfl Tryd.isAgg49 Tryd.sizeOf49 rfl rfl)) rfl ?_
    refine QJ.step (YldS.yld (y_move rfl)) rfl ?_
    refine QJ.step (YldS.yld (y_move rfl)) rfl ?_
    refine QJ.step (YldS.yld (y_move rfl)) rfl ?_
    obtain ⟨r37, h38, hm⟩ := bindS hm
    refine QJ.step (y_call Tryd.call40 rfl (RetG.quiet fun w hw => ok_s_PassesTest h38 w )) rfl ?_
    refine QJ.step (YldS.yld (y_move rfl)) rfl ?_
    refine QJ.step (YldS.yld (y_extract rfl rfl)) rfl ?_
    refine QJ.step (YldS.yld (y_extract rfl rfl)) rfl ?_
    refine QJ.step (YldS.yld (y_assign rfl)) rfl ?_
    refine QJ.step (YldS.yld (y_assign rfl)) rfl ?_
    refine QJ.done ?_
    refine PJ.next ?_
    refine WJ.seq ?_
    refine WJ.reg ?_
    refine SJ.q (YldS.yld (y_move rfl)) rfl ?_
    obtain ⟨r39, h40, hm⟩ := bindS hm
    refine SJ.q (y_call Tryd.call41 rfl (RetG.quiet fun w hw => ok_s_DrawErrorShare h40 w _ (hr3.st hw))) rfl ?_
    refine SJ.alloc (cs := [.int .i64 0, .int .i64 0, .int .i64 0]) Tryd.zeroValue49 rfl rfl fun g41 => ?_
    refine SJ.storeL (k := 0) (off := 0) (us := [.int .i64 r39.strokes, .int .i64 r39.errors, .int .i64 r39.seconds]) rfl rfl rfl rfl Tryd.sizeOf49 rfl rfl ?_
    refine SJ.nil ?_
    refine PJ.next ?_
    refine WJ.seq ?_
    refine WJ.reg ?_
    refine SJ.q (YldS.yld (y_loadBN (k := 0) (off := 0) (us := [.int .i64 r39.strokes, .int .i64 r39.errors, .int .i64 r39.seconds]) rfl Tryd.isAgg49 Tryd.sizeOf49 rfl rfl)) rfl ?_
    obtain ⟨r42, h43, hm⟩ := bindS hm
    refine SJ.q (y_call Tryd.call42 rfl (RetG.quiet fun w hw => ok_i_ErrorShare h43 w )) rfl ?_
    refine SJ.q (YldS.yld (y_move rfl)) rfl ?_
    refine SJ.q (YldS.yld (y_extract rfl rfl)) rfl ?_
    refine SJ.q (YldS.yld (y_extract rfl rfl)) rfl ?_
    refine SJ.alloc (cs := [.int .i64 0, .int .i64 0]) Tryd.zeroValue53 rfl rfl fun g44 => ?_
    refine SJ.storeL (k := 0) (off := 0) (us := [.int .i64 r42.1.num, .int .i64 r42.1.den]) rfl rfl rfl rfl Tryd.sizeOf53 rfl rfl ?_
    refine SJ.q (YldS.yld (y_assign rfl)) rfl ?_
    refine SJ.nil ?_
    refine PJ.next ?_
    refine WJ.seq ?_
    refine WJ.reg ?_
    refine SJ.q (YldS.yld (y_loadBN (k := 1) (off := 0) (us := [.int .i64 r39.strokes, .int .i64 r39.errors, .int .i64 r39.seconds]) rfl Tryd.isAgg49 Tryd.sizeOf49 rfl rfl)) rfl ?_
    obtain ⟨r45, h46, hm⟩ := bindS hm
    refine SJ.q (y_call Tryd.call43 rfl (RetG.quiet fun w hw => ok_s_ErrorShare h46 w )) rfl ?_
    refine SJ.q (YldS.yld (y_move rfl)) rfl ?_
    refine SJ.q (YldS.yld (y_extract rfl rfl)) rfl ?_
    refine SJ.q (YldS.yld (y_extract rfl rfl)) rfl ?_
    refine SJ.alloc (cs := [.int .i64 0, .int .i64 0]) Tryd.zeroValue53 rfl rfl fun g47 => ?_
    refine SJ.storeL (k := 0) (off := 0) (us := [.int .i64 r45.1.num, .int .i64 r45.1.den]) rfl rfl rfl rfl Tryd.sizeOf53 rfl rfl ?_
    refine SJ.q (YldS.yld (y_assign rfl)) rfl ?_
    refine SJ.nil ?_
    refine PJ.next ?_
    refine WJ.seq ?_
    refine WJ.reg ?_
    refine SJ.q (YldS.yld (y_move rfl)) rfl ?_
    obtain ⟨r48, h49, hm⟩ := bindS hm
    refine SJ.q (y_call Tryd.call44 rfl (RetG.quiet fun w hw => ok_s_DrawTrialText h49 w _ (hr3.st hw))) rfl ?_
    refine SJ.alloc (cs := [.int .i64 0, .int .i64 0, .int .i64 0]) Tryd.zeroValue49 rfl rfl fun g50 => ?_
    refine SJ.storeL (k := 0) (off := 0) (us := [.int .i64 r48.strokes, .int .i64 r48.errors, .int .i64 r48.seconds]) rfl rfl rfl rfl Tryd.sizeOf49 rfl rfl ?_
    refine SJ.nil ?_
    refine PJ.next ?_
    refine WJ.seq ?_
    refine WJ.quiet ?_
    refine QJ.step (YldS.yld (y_loadBN (k := 0) (off := 0) (us := [.int .i64 r48.strokes, .int .i64 r48.errors, .int .i64 r48.seconds]) rfl Tryd.isAgg49 Tryd.sizeOf49 rfl rfl)) rfl ?_
    obtain ⟨r51, h52, hm⟩ := bindS hm
    refine QJ.step (y_call Tryd.call45 rfl (RetG.quiet fun w hw => ok_i_TrialText h52 w (hT.st hw))) rfl ?_
    refine QJ.step (YldS.yld (y_assign rfl)) rfl ?_
    refine QJ.done ?_
    refine PJ.next ?_
    refine WJ.seq ?_
    refine WJ.reg ?_
    refine SJ.q (YldS.yld (y_move rfl)) rfl ?_
    obtain ⟨r53, h54, hm⟩ := bindS hm
    refine SJ.q (y_call Tryd.call46 rfl (RetG.quiet fun w hw => ok_i_ReadTrial h54 w (hT.st hw))) rfl ?_
    refine SJ.q (YldS.yld (y_move rfl)) rfl ?_
    refine SJ.q (YldS.yld (y_extract rfl rfl)) rfl ?_
    refine SJ.q (YldS.yld (y_extract rfl rfl)) rfl ?_
    refine SJ.alloc (cs := [.int .i64 0, .int .i64 0, .int .i64 0]) Tryd.zeroValue49 rfl rfl fun g55 => ?_
    refine SJ.storeL (k := 0) (off := 0) (us := [.int .i64 r53.1.strokes, .int .i64 r53.1.errors, .int .i64 r53.1.seconds]) rfl rfl rfl rfl Tryd.sizeOf49 rfl rfl ?_
    refine SJ.q (YldS.yld (y_assign rfl)) rfl ?_
    refine SJ.nil ?_
    refine PJ.next ?_
    refine WJ.seq ?_
    refine WJ.quiet ?_
    refine QJ.step (YldS.yld (y_move rfl)) rfl ?_
    obtain ⟨r56, h57, hm⟩ := bindS hm
    refine QJ.step (y_call Tryd.call47 rfl (RetG.quiet fun w hw => ok_s_DrawReadTrial h57 w _ (hr3.st hw))) rfl ?_
    refine QJ.step (YldS.yld (y_assign rfl)) rfl ?_
    refine QJ.done ?_
    refine PJ.next ?_
    refine WJ.seq ?_
    refine WJ.reg ?_
    refine SJ.q (YldS.yld (y_move rfl)) rfl ?_
    obtain ⟨r58, h59, hm⟩ := bindS hm
    refine SJ.q (y_call Tryd.call46 rfl (RetG.quiet fun w hw => ok_i_ReadTrial h59 w (hT.st hw))) rfl ?_
    refine SJ.q (YldS.yld (y_move rfl)) rfl ?_
    refine SJ.q (YldS.yld (y_extract rfl rfl)) rfl ?_
    refine SJ.q (YldS.yld (y_extract rfl rfl)) rfl ?_
    refine SJ.alloc (cs := [.int .i64 0, .int .i64 0, .int .i64 0]) Tryd.zeroValue49 rfl rfl fun g60 => ?_
    refine SJ.storeL (k := 0) (off := 0) (us := [.int .i64 r58.1.strokes, .int .i64 r58.1.errors, .int .i64 r58.1.seconds]) rfl rfl rfl rfl Tryd.sizeOf49 rfl rfl ?_
    refine SJ.q (YldS.yld (y_assign rfl)) rfl ?_
    refine SJ.nil ?_
    refine PJ.next ?_
    refine WJ.seq ?_
    refine WJ.reg ?_
    refine SJ.q (YldS.yld (y_move rfl)) rfl ?_
    obtain ⟨r61, h62, hm⟩ := bindS hm
    refine SJ.q (y_call Tryd.call48 rfl (RetG.quiet fun w hw => ok_s_ReadTrial h62 w )) rfl ?_
    refine SJ.q (YldS.yld (y_move rfl)) rfl ?_
    refine SJ.q (YldS.yld (y_extract rfl rfl)) rfl ?_
    refine SJ.q (YldS.yld (y_extract rfl rfl)) rfl ?_
    refine SJ.alloc (cs := [.int .i64 0, .int .i64 0, .int .i64 0]) Tryd.zeroValue49 rfl rfl fun g63 => ?_
    refine SJ.storeL (k := 0) (off := 0) (us := [.int .i64 r61.1.strokes, .int .i64 r61.1.errors, .int .i64 r61.1.seconds]) rfl rfl rfl rfl Tryd.sizeOf49 rfl rfl ?_
    refine SJ.q (YldS.yld (y_assign rfl)) rfl ?_
    refine SJ.nil ?_
    refine PJ.next ?_
    refine WJ.seq ?_
    refine WJ.seq ?_
    refine WJ.quiet ?_
    refine QJ.step (YldS.yld (y_move rfl)) rfl ?_
    refine QJ.step (YldS.yld (y_move rfl)) rfl ?_
    refine QJ.step (YldS.yld (y_bin rfl rfl rfl)) rfl ?_
    refine QJ.step (YldS.yld (y_move rfl)) rfl ?_
    obtain ⟨t64, h65, hm⟩ := bindS hm
    refine QJ.cut 4 [(3, pt g9 0), (4, .int .i64 r7.2), (5, pt g12 0), (6, .int .i64 r10.2), (9, pt g18 0), (10, .int .i64 r16.2), (11, pt g21 0), (12, .int .i64 r19.2), (13, .int .i64 r22.1), (14, .int .i64 r22.2), (15, .int .i64 r24.1), (16, .int .i64 r24.2), (17, .int .i64 r26.1), (18, .int .i64 r26.2.1), (19, .int .i64 r26.2.2.1), (20, .int .i64 r26.2.2.2), (21, .int .i64 r28.1), (22, .int .i64 r28.2), (23, .int .i64 r30.1), (24, .int .i64 r30.2), (29, .bool r35.1), (30, .int .i64 r35.2), (31, .bool r37.1), (32, .int .i64 r37.2), (34, pt g44 0), (35, .int .i64 r42.2), (36, pt g47 0), (37, .int .i64 r45.2), (38, pt g50 0), (39, str r51), (40, pt g55 0), (41, .bool r53.2), (43, pt g60 0), (44, .bool r58.2), (45, pt g63 0), (46, .bool r61.2), (180, .bool t64)] ?_ ?_
    · rcases Bool.eq_false_or_eq_true (r10.2 != r13.2) with hb66 | hb66
      · obtain rfl := orT h65 hb66
        refine QJ.off rfl rfl (cB hb66) rfl rfl ?_
        refine QJ.off rfl rfl (cB hb66) rfl rfl ?_
        refine QJ.off rfl rfl (cB hb66) rfl rfl ?_
        refine QJ.step (YldS.yld (y_pick_t (cB hb66) rfl)) rfl ?_
        exact QJ.cut_end ⟨rfl, rfl, rfl, rfl, rfl, rfl, rfl, rfl, rfl, rfl, rfl, rfl, rfl, rfl, rfl, rfl, rfl, rfl, rfl, rfl, rfl, rfl, rfl, rfl, rfl, rfl, rfl, rfl, rfl, rfl, rfl, rfl, rfl, rfl, rfl, rfl, rfl, trivial⟩
      · replace h65 := orF h65 hb66
        refine QJ.on rfl rfl (cB hb66) (YldS.yld (y_loadBN (k := 11) (off := 0) (us := [.int .i64 r10.1.num, .int .i64 r10.1.den]) rfl Tryd.isAgg53 Tryd.sizeOf53 rfl rfl)) rfl ?_
        refine QJ.on rfl rfl (cB hb66) (YldS.yld (y_loadBN (k := 10) (off := 0) (us := [.int .i64 r13.1.num, .int .i64 r13.1.den]) rfl Tryd.isAgg53 Tryd.sizeOf53 rfl rfl)) rfl ?_
        refine QJ.on rfl rfl (cB hb66) (YldS.yld (y_neT r10.1 r13.1 eq53 rfl rfl)) rfl ?_
        refine QJ.step (YldS.yld (y_pick_f (cB hb66) rfl)) rfl ?_
        obtain rfl := Option.some.inj h65
        exact QJ.cut_end ⟨rfl, rfl, rfl, rfl, rfl, rfl, rfl, rfl, rfl, rfl, rfl, rfl, rfl, rfl, rfl, rfl, rfl, rfl, rfl, rfl, rfl, rfl, rfl, rfl, rfl, rfl, rfl, rfl, rfl, rfl, rfl, rfl, rfl, rfl, rfl, rfl, rfl, trivial⟩
    refine QJ.step (YldS.yld (y_move rfl)) rfl ?_
    obtain ⟨t67, h68, hm⟩ := bindS hm
    refine QJ.cut 4 [(3, pt g9 0), (4, .int .i64 r7.2), (5, pt g12 0), (6, .int .i64 r10.2), (9, pt g18 0), (11, pt g21 0), (13, .int .i64 r22.1), (14, .int .i64 r22.2), (15, .int .i64 r24.1), (16, .int .i64 r24.2), (17, .int .i64 r26.1), (18, .int .i64 r26.2.1), (19, .int .i64 r26.2.2.1), (20, .int .i64 r26.2.2.2), (21, .int .i64 r28.1), (22, .int .i64 r28.2), (23, .int .i64 r30.1), (24, .int .i64 r30.2), (29, .bool r35.1), (30, .int .i64 r35.2), (31, .bool r37.1), (32, .int .i64 r37.2), (34, pt g44 0), (35, .int .i64 r42.2), (36, pt g47 0), (37, .int .i64 r45.2), (38, pt g50 0), (39, str r51), (40, pt g55 0), (41, .bool r53.2), (43, pt g60 0), (44, .bool r58.2), (45, pt g63 0), (46, .bool r61.2), (185, .bool t67)] ?_ ?_
    · rcases Bool.eq_false_or_eq_true t64 with hb69 | hb69
      · obtain rfl := orT h68 hb69
        refine QJ.off rfl rfl (cB hb69) rfl rfl ?_
        refine QJ.off rfl rfl (cB hb69) rfl rfl ?_
        refine QJ.off rfl rfl (cB hb69) rfl rfl ?_
        refine QJ.step (YldS.yld (y_pick_t (cB hb69) rfl)) rfl ?_
        exact QJ.cut_end ⟨rfl, rfl, rfl, rfl, rfl, rfl, rfl, rfl, rfl, rfl, rfl, rfl, rfl, rfl, rfl, rfl, rfl, rfl, rfl, rfl, rfl, rfl, rfl, rfl, rfl, rfl, rfl, rfl, rfl, rfl, rfl, rfl, rfl, rfl, rfl, trivial⟩
      · replace h68 := orF h68 hb69
        refine QJ.on rfl rfl (cB hb69) (YldS.yld (y_move rfl)) rfl ?_
        refine QJ.on rfl rfl (cB hb69) (YldS.yld (y_move rfl)) rfl ?_
        refine QJ.on rfl rfl (cB hb69) (YldS.yld (y_bin rfl rfl rfl)) rfl ?_
        refine QJ.step (YldS.yld (y_pick_f (cB hb69) rfl)) rfl ?_
        obtain rfl := Option.some.inj h68
        exact QJ.cut_end ⟨rfl, rfl, rfl, rfl, rfl, rfl, rfl, rfl, rfl, rfl, rfl, rfl, rfl, rfl, rfl, rfl, rfl, rfl, rfl, rfl, rfl, rfl, rfl, rfl, rfl, rfl, rfl, rfl, rfl, rfl, rfl, rfl, rfl, rfl, rfl, trivial⟩
    refine QJ.step (YldS.yld (y_move rfl)) rfl ?_
    obtain ⟨t70, h71, hm⟩ := bindS hm
    refine QJ.cut 4 [(3, pt g9 0), (4, .int .i64 r7.2), (5, pt g12 0), (6, .int .i64 r10.2), (9, pt g18 0), (13, .int .i64 r22.1), (14, .int .i64 r22.2), (15, .int .i64 r24.1), (16, .int .i64 r24.2), (17, .int .i64 r26.1), (18, .int .i64 r26.2.1), (19, .int .i64 r26.2.2.1), (20, .int .i64 r26.2.2.2), (21, .int .i64 r28.1), (22, .int .i64 r28.2), (23, .int .i64 r30.1), (24, .int .i64 r30.2), (29, .bool r35.1), (30, .int .i64 r35.2), (31, .bool r37.1), (32, .int .i64 r37.2), (34, pt g44 0), (35, .int .i64 r42.2), (36, pt g47 0), (37, .int .i64 r45.2), (38, pt g50 0), (39, str r51), (40, pt g55 0), (41, .bool r53.2), (43, pt g60 0), (44, .bool r58.2), (45, pt g63 0), (46, .bool r61.2), (190, .bool t70)] ?_ ?_
    · rcases Bool.eq_false_or_eq_true t67 with hb72 | hb72
      · obtain rfl := orT h71 hb72
        refine QJ.off rfl rfl (cB hb72) rfl rfl ?_
        refine QJ.off rfl rfl (cB hb72) rfl rfl ?_
        refine QJ.off rfl rfl (cB hb72) rfl rfl ?_
        refine QJ.step (YldS.yld (y_pick_t (cB hb72) rfl)) rfl ?_
        exact QJ.cut_end ⟨rfl, rfl, rfl, rfl, rfl, rfl, rfl, rfl, rfl, rfl, rfl, rfl, rfl, rfl, rfl, rfl, rfl, rfl, rfl, rfl, rfl, rfl, rfl, rfl, rfl, rfl, rfl, rfl, rfl, rfl, rfl, rfl, rfl, rfl, trivial⟩
      · replace h71 := orF h71 hb72
        refine QJ.on rfl rfl (cB hb72) (YldS.yld (y_loadBN (k := 9) (off := 0) (us := [.int .i64 r16.1.num, .int .i64 r16.1.den]) rfl Tryd.isAgg53 Tryd.sizeOf53 rfl rfl)) rfl ?_
        refine QJ.on rfl rfl (cB hb72) (YldS.yld (y_loadBN (k := 8) (off := 0) (us := [.int .i64 r19.1.num, .int .i64 r19.1.den]) rfl Tryd.isAgg53 Tryd.sizeOf53 rfl rfl)) rfl ?_
        refine QJ.on rfl rfl (cB hb72) (YldS.yld (y_neT r16.1 r19.1 eq53 rfl rfl)) rfl ?_
        refine QJ.step (YldS.yld (y_pick_f (cB hb72) rfl)) rfl ?_
        obtain rfl := Option.some.inj h71
        exact QJ.cut_end ⟨rfl, rfl, rfl, rfl, rfl, rfl, rfl, rfl, rfl, rfl, rfl, rfl, rfl, rfl, rfl, rfl, rfl, rfl, rfl, rfl, rfl, rfl, rfl, rfl, rfl, rfl, rfl, rfl, rfl, rfl, rfl, rfl, rfl, rfl, trivial⟩
    refine QJ.step (YldS.yld (y_move rfl)) rfl ?_
    obtain ⟨t73, h74, hm⟩ := bindS hm
    refine QJ.cut 4 [(3, pt g9 0), (4, .int .i64 r7.2), (5, pt g12 0), (6, .int .i64 r10.2), (9, pt g18 0), (13, .int .i64 r22.1), (15, .int .i64 r24.1), (17, .int .i64 r26.1), (18, .int .i64 r26.2.1), (19, .int .i64 r26.2.2.1), (20, .int .i64 r26.2.2.2), (21, .int .i64 r28.1), (22, .int .i64 r28.2), (23, .int .i64 r30.1), (24, .int .i64 r30.2), (29, .bool r35.1), (30, .int .i64 r35.2), (31, .bool r37.1), (32, .int .i64 r37.2), (34, pt g44 0), (35, .int .i64 r42.2), (36, pt g47 0), (37, .int .i64 r45.2), (38, pt g50 0), (39, str r51), (40, pt g55 0), (41, .bool r53.2), (43, pt g60 0), (44, .bool r58.2), (45, pt g63 0), (46, .bool r61.2), (195, .bool t73)] ?_ ?_
    · rcases Bool.eq_false_or_eq_true t70 with hb75 | hb75
      · obtain rfl := orT h74 hb75
        refine QJ.off rfl rfl (cB hb75) rfl rfl ?_
        refine QJ.off rfl rfl (cB hb75) rfl rfl ?_
        refine QJ.off rfl rfl (cB hb75) rfl rfl ?_
        refine QJ.step (YldS.yld (y_pick_t (cB hb75) rfl)) rfl ?_
        exact QJ.cut_end ⟨rfl, rfl, rfl, rfl, rfl, rfl, rfl, rfl, rfl, rfl, rfl, rfl, rfl, rfl, rfl, rfl, rfl, rfl, rfl, rfl, rfl, rfl, rfl, rfl, rfl, rfl, rfl, rfl, rfl, rfl, rfl, rfl, trivial⟩
      · replace h74 := orF h74 hb75
        refine QJ.on rfl rfl (cB hb75) (YldS.yld (y_move rfl)) rfl ?_
        refine QJ.on rfl rfl (cB hb75) (YldS.yld (y_move rfl)) rfl ?_
        refine QJ.on rfl rfl (cB hb75) (YldS.yld (y_bin rfl rfl rfl)) rfl ?_
        refine QJ.step (YldS.yld (y_pick_f (cB hb75) rfl)) rfl ?_
        obtain rfl := Option.some.inj h74
        exact QJ.cut_end ⟨rfl, rfl, rfl, rfl, rfl, rfl, rfl, rfl, rfl, rfl, rfl, rfl, rfl, rfl, rfl, rfl, rfl, rfl, rfl, rfl, rfl, rfl, rfl, rfl, rfl, rfl, rfl, rfl, rfl, rfl, rfl, rfl, trivial⟩
    refine QJ.step (YldS.yld (y_move rfl)) rfl ?_
    obtain ⟨t76, h77, hm⟩ := bindS hm
    refine QJ.cut 4 [(3, pt g9 0), (4, .int .i64 r7.2), (5, pt g12 0), (6, .int .i64 r10.2), (9, pt g18 0), (13, .int .i64 r22.1), (17, .int .i64 r26.1), (18, .int .i64 r26.2.1), (19, .int .i64 r26.2.2.1), (20, .int .i64 r26.2.2.2), (21, .int .i64 r28.1), (22, .int .i64 r28.2), (23, .int .i64 r30.1), (24, .int .i64 r30.2), (29, .bool r35.1), (30, .int .i64 r35.2), (31, .bool r37.1), (32, .int .i64 r37.2), (34, pt g44 0), (35, .int .i64 r42.2), (36, pt g47 0), (37, .int .i64 r45.2), (38, pt g50 0), (39, str r51), (40, pt g55 0), (41, .bool r53.2), (43, pt g60 0), (44, .bool r58.2), (45, pt g63 0), (46, .bool r61.2), (200, .bool t76)] ?_ ?_
    · rcases Bool.eq_false_or_eq_true t73 with hb78 | hb78
      · obtain rfl := orT h77 hb78
        refine QJ.off rfl rfl (cB hb78) rfl rfl ?_
        refine QJ.off rfl rfl (cB hb78) rfl rfl ?_
        refine QJ.off rfl rfl (cB hb78) rfl rfl ?_
        refine QJ.step (YldS.yld (y_pick_t (cB hb78) rfl)) rfl ?_
        exact QJ.cut_end ⟨rfl, rfl, rfl, rfl, rfl, rfl, rfl, rfl, rfl, rfl, rfl, rfl, rfl, rfl, rfl, rfl, rfl, rfl, rfl, rfl, rfl, rfl, rfl, rfl, rfl, rfl, rfl, rfl, rfl, rfl, rfl, trivial⟩
      · replace h77 := orF h77 hb78
        refine QJ.on rfl rfl (cB hb78) (YldS.yld (y_move rfl)) rfl ?_
        refine QJ.on rfl rfl (cB hb78) (YldS.yld (y_move rfl)) rfl ?_
        refine QJ.on rfl rfl (cB hb78) (YldS.yld (y_bin rfl rfl rfl)) rfl ?_
        refine QJ.step (YldS.yld (y_pick_f (cB hb78) rfl)) rfl ?_
        obtain rfl := Option.some.inj h77
        exact QJ.cut_end ⟨rfl, rfl, rfl, rfl, rfl, rfl, rfl, rfl, rfl, rfl, rfl, rfl, rfl, rfl, rfl, rfl, rfl, rfl, rfl, rfl, rfl, rfl, rfl, rfl, rfl, rfl, rfl, rfl, rfl, rfl, rfl, trivial⟩
    refine QJ.step (YldS.yld (y_move rfl)) rfl ?_
    obtain ⟨t79, h80, hm⟩ := bindS hm
    refine QJ.cut 4 [(3, pt g9 0), (4, .int .i64 r7.2), (5, pt g12 0), (6, .int .i64 r10.2), (9, pt g18 0), (13, .int .i64 r22.1), (17, .int .i64 r26.1), (18, .int .i64 r26.2.1), (19, .int .i64 r26.2.2.1), (20, .int .i64 r26.2.2.2), (21, .int .i64 r28.1), (22, .int .i64 r28.2), (23, .int .i64 r30.1), (29, .bool r35.1), (30, .int .i64 r35.2), (31, .bool r37.1), (32, .int .i64 r37.2), (34, pt g44 0), (35, .int .i64 r42.2), (36, pt g47 0), (37, .int .i64 r45.2), (38, pt g50 0), (39, str r51), (40, pt g55 0), (41, .bool r53.2), (43, pt g60 0), (44, .bool r58.2), (45, pt g63 0), (46, .bool r61.2), (205, .bool t79)] ?_ ?_
    · rcases Bool.eq_false_or_eq_true t76 with hb81 | hb81
      · obtain rfl := orT h80 hb81
        refine QJ.off rfl rfl (cB hb81) rfl rfl ?_
        refine QJ.off rfl rfl (cB hb81) rfl rfl ?_
        refine QJ.off rfl rfl (cB hb81) rfl rfl ?_
        refine QJ.step (YldS.yld (y_pick_t (cB hb81) rfl)) rfl ?_
        exact QJ.cut_end ⟨rfl, rfl, rfl, rfl, rfl, rfl, rfl, rfl, rfl, rfl, rfl, rfl, rfl, rfl, rfl, rfl, rfl, rfl, rfl, rfl, rfl, rfl, rfl, rfl, rfl, rfl, rfl, rfl, rfl, rfl, trivial⟩
      · replace h80 := orF h80 hb81
        refine QJ.on rfl rfl (cB hb81) (YldS.yld (y_move rfl)) rfl ?_
        refine QJ.on rfl rfl (cB hb81) (YldS.yld (y_move rfl)) rfl ?_
        refine QJ.on rfl rfl (cB hb81) (YldS.yld (y_bin rfl rfl rfl)) rfl ?_
        refine QJ.step (YldS.yld (y_pick_f (cB hb81) rfl)) rfl ?_
        obtain rfl := Option.some.inj h80
        exact QJ.cut_end ⟨rfl, rfl, rfl, rfl, rfl, rfl, rfl, rfl, rfl, rfl, rfl, rfl, rfl, rfl, rfl, rfl, rfl, rfl, rfl, rfl, rfl, rfl, rfl, rfl, rfl, rfl, rfl, rfl, rfl, rfl, trivial⟩
    refine QJ.step (YldS.yld (y_move rfl)) rfl ?_
    obtain ⟨t82, h83, hm⟩ := bindS hm
    refine QJ.cut 4 [(3, pt g9 0), (4, .int .i64 r7.2), (5, pt g12 0), (6, .int .i64 r10.2), (9, pt g18 0), (13, .int .i64 r22.1), (17, .int .i64 r26.1), (18, .int .i64 r26.2.1), (19, .int .i64 r26.2.2.1), (20, .int .i64 r26.2.2.2), (22, .int .i64 r28.2), (23, .int .i64 r30.1), (29, .bool r35.1), (30, .int .i64 r35.2), (31, .bool r37.1), (32, .int .i64 r37.2), (34, pt g44 0), (35, .int .i64 r42.2), (36, pt g47 0), (37, .int .i64 r45.2), (38, pt g50 0), (39, str r51), (40, pt g55 0), (41, .bool r53.2), (43, pt g60 0), (44, .bool r58.2), (45, pt g63 0), (46, .bool r61.2), (210, .bool t82)] ?_ ?_
    · rcases Bool.eq_false_or_eq_true t79 with hb84 | hb84
      · obtain rfl := orT h83 hb84
        refine QJ.off rfl rfl (cB hb84) rfl rfl ?_
        refine QJ.off rfl rfl (cB hb84) rfl rfl ?_
        refine QJ.off rfl rfl (cB hb84) rfl rfl ?_
        refine QJ.step (YldS.yld (y_pick_t (cB hb84) rfl)) rfl ?_
        exact QJ.cut_end ⟨rfl, rfl, rfl, rfl, rfl, rfl, rfl, rfl, rfl, rfl, rfl, rfl, rfl, rfl, rfl, rfl, rfl, rfl, rfl, rfl, rfl, rfl, rfl, rfl, rfl, rfl, rfl, rfl, rfl, trivial⟩
      · replace h83 := orF h83 hb84
        refine QJ.on rfl rfl (cB hb84) (YldS.yld (y_move rfl)) rfl ?_
        refine QJ.on rfl rfl (cB hb84) (YldS.yld (y_move rfl)) rfl ?_
        refine QJ.on rfl rfl (cB hb84) (YldS.yld (y_bin rfl rfl rfl)) rfl ?_
        refine QJ.step (YldS.yld (y_pick_f (cB hb84) rfl)) rfl ?_
        obtain rfl := Option.some.inj h83
        exact QJ.cut_end ⟨rfl, rfl, rfl, rfl, rfl, rfl, rfl, rfl, rfl, rfl, rfl, rfl, rfl, rfl, rfl, rfl, rfl, rfl, rfl, rfl, rfl, rfl, rfl, rfl, rfl, rfl, rfl, rfl, rfl, trivial⟩
    refine QJ.step (YldS.yld (y_move rfl)) rfl ?_
    obtain ⟨t85, h86, hm⟩ := bindS hm
    refine QJ.cut 4 [(3, pt g9 0), (4, .int .i64 r7.2), (5, pt g12 0), (6, .int .i64 r10.2), (9, pt g18 0), (13, .int .i64 r22.1), (17, .int .i64 r26.1), (18, .int .i64 r26.2.1), (19, .int .i64 r26.2.2.1), (20, .int .i64 r26.2.2.2), (22, .int .i64 r28.2), (23, .int .i64 r30.1), (29, .bool r35.1), (31, .bool r37.1), (34, pt g44 0), (35, .int .i64 r42.2), (36, pt g47 0), (37, .int .i64 r45.2), (38, pt g50 0), (39, str r51), (40, pt g55 0), (41, .bool r53.2), (43, pt g60 0), (44, .bool r58.2), (45, pt g63 0), (46, .bool r61.2), (215, .bool t85)] ?_ ?_
    · rcases Bool.eq_false_or_eq_true t82 with hb87 | hb87
      · obtain rfl := orT h86 hb87
        refine QJ.off rfl rfl (cB hb87) rfl rfl ?_
        refine QJ.off rfl rfl (cB hb87) rfl rfl ?_
        refine QJ.off rfl rfl (cB hb87) rfl rfl ?_
        refine QJ.step (YldS.yld (y_pick_t (cB hb87) rfl)) rfl ?_
        exact QJ.cut_end ⟨rfl, rfl, rfl, rfl, rfl, rfl, rfl, rfl, rfl, rfl, rfl, rfl, rfl, rfl, rfl, rfl, rfl, rfl, rfl, rfl, rfl, rfl, rfl, rfl, rfl, rfl, rfl, trivial⟩
      · replace h86 := orF h86 hb87
        refine QJ.on rfl rfl (cB hb87) (YldS.yld (y_move rfl)) rfl ?_
        refine QJ.on rfl rfl (cB hb87) (YldS.yld (y_move rfl)) rfl ?_
        refine QJ.on rfl rfl (cB hb87) (YldS.yld (y_bin rfl rfl rfl)) rfl ?_
        refine QJ.step (YldS.yld (y_pick_f (cB hb87) rfl)) rfl ?_
        obtain rfl := Option.some.inj h86
        exact QJ.cut_end ⟨rfl, rfl, rfl, rfl, rfl, rfl, rfl, rfl, rfl, rfl, rfl, rfl, rfl, rfl, rfl, rfl, rfl, rfl, rfl, rfl, rfl, rfl, rfl, rfl, rfl, rfl, rfl, trivial⟩
    refine QJ.step (YldS.yld (y_move rfl)) rfl ?_
    obtain ⟨t88, h89, hm⟩ := bindS hm
    refine QJ.cut 4 [(3, pt g9 0), (4, .int .i64 r7.2), (5, pt g12 0), (6, .int .i64 r10.2), (9, pt g18 0), (13, .int .i64 r22.1), (17, .int .i64 r26.1), (18, .int .i64 r26.2.1), (19, .int .i64 r26.2.2.1), (20, .int .i64 r26.2.2.2), (22, .int .i64 r28.2), (23, .int .i64 r30.1), (34, pt g44 0), (35, .int .i64 r42.2), (36, pt g47 0), (37, .int .i64 r45.2), (38, pt g50 0), (39, str r51), (40, pt g55 0), (41, .bool r53.2), (43, pt g60 0), (44, .bool r58.2), (45, pt g63 0), (46, .bool r61.2), (220, .bool t88)] ?_ ?_
    · rcases Bool.eq_false_or_eq_true t85 with hb90 | hb90
      · obtain rfl := orT h89 hb90
        refine QJ.off rfl rfl (cB hb90) rfl rfl ?_
        refine QJ.off rfl rfl (cB hb90) rfl rfl ?_
        refine QJ.off rfl rfl (cB hb90) rfl rfl ?_
        refine QJ.step (YldS.yld (y_pick_t (cB hb90) rfl)) rfl ?_
        exact QJ.cut_end ⟨rfl, rfl, rfl, rfl, rfl, rfl, rfl, rfl, rfl, rfl, rfl, rfl, rfl, rfl, rfl, rfl, rfl, rfl, rfl, rfl, rfl, rfl, rfl, rfl, rfl, trivial⟩
      · replace h89 := orF h89 hb90
        refine QJ.on rfl rfl (cB hb90) (YldS.yld (y_move rfl)) rfl ?_
        refine QJ.on rfl rfl (cB hb90) (YldS.yld (y_move rfl)) rfl ?_
        refine QJ.on rfl rfl (cB hb90) (YldS.yld (y_neB Tryd.underlying4 rfl rfl rfl)) rfl ?_
        refine QJ.step (YldS.yld (y_pick_f (cB hb90) rfl)) rfl ?_
        obtain rfl := Option.some.inj h89
        exact QJ.cut_end ⟨rfl, rfl, rfl, rfl, rfl, rfl, rfl, rfl, rfl, rfl, rfl, rfl, rfl, rfl, rfl, rfl, rfl, rfl, rfl, rfl, rfl, rfl, rfl, rfl, rfl, trivial⟩
    refine QJ.step (YldS.yld (y_move rfl)) rfl ?_
    obtain ⟨t91, h92, hm⟩ := bindS hm
    refine QJ.cut 4 [(3, pt g9 0), (4, .int .i64 r7.2), (5, pt g12 0), (6, .int .i64 r10.2), (9, pt g18 0), (13, .int .i64 r22.1), (17, .int .i64 r26.1), (18, .int .i64 r26.2.1), (19, .int .i64 r26.2.2.1), (20, .int .i64 r26.2.2.2), (22, .int .i64 r28.2), (23, .int .i64 r30.1), (34, pt g44 0), (35, .int .i64 r42.2), (36, pt g47 0), (38, pt g50 0), (39, str r51), (40, pt g55 0), (41, .bool r53.2), (43, pt g60 0), (44, .bool r58.2), (45, pt g63 0), (46, .bool r61.2), (225, .bool t91)] ?_ ?_
    · rcases Bool.eq_false_or_eq_true t88 with hb93 | hb93
      · obtain rfl := orT h92 hb93
        refine QJ.off rfl rfl (cB hb93) rfl rfl ?_
        refine QJ.off rfl rfl (cB hb93) rfl rfl ?_
        refine QJ.off rfl rfl (cB hb93) rfl rfl ?_
        refine QJ.step (YldS.yld (y_pick_t (cB hb93) rfl)) rfl ?_
        exact QJ.cut_end ⟨rfl, rfl, rfl, rfl, rfl, rfl, rfl, rfl, rfl, rfl, rfl, rfl, rfl, rfl, rfl, rfl, rfl, rfl, rfl, rfl, rfl, rfl, rfl, rfl, trivial⟩
      · replace h92 := orF h92 hb93
        refine QJ.on rfl rfl (cB hb93) (YldS.yld (y_move rfl)) rfl ?_
        refine QJ.on rfl rfl (cB hb93) (YldS.yld (y_move rfl)) rfl ?_
        refine QJ.on rfl rfl (cB hb93) (YldS.yld (y_bin rfl rfl rfl)) rfl ?_
        refine QJ.step (YldS.yld (y_pick_f (cB hb93) rfl)) rfl ?_
        obtain rfl := Option.some.inj h92
        exact QJ.cut_end ⟨rfl, rfl, rfl, rfl, rfl, rfl, rfl, rfl, rfl, rfl, rfl, rfl, rfl, rfl, rfl, rfl, rfl, rfl, rfl, rfl, rfl, rfl, rfl, rfl, trivial⟩
    refine QJ.step (YldS.yld (y_move rfl)) rfl ?_
    obtain ⟨t94, h95, hm⟩ := bindS hm
    refine QJ.cut 4 [(3, pt g9 0), (4, .int .i64 r7.2), (5, pt g12 0), (6, .int .i64 r10.2), (9, pt g18 0), (13, .int .i64 r22.1), (17, .int .i64 r26.1), (18, .int .i64 r26.2.1), (19, .int .i64 r26.2.2.1), (20, .int .i64 r26.2.2.2), (22, .int .i64 r28.2), (23, .int .i64 r30.1), (34, pt g44 0), (35, .int .i64 r42.2), (38, pt g50 0), (39, str r51), (40, pt g55 0), (41, .bool r53.2), (43, pt g60 0), (44, .bool r58.2), (45, pt g63 0), (46, .bool r61.2), (230, .bool t94)] ?_ ?_
    · rcases Bool.eq_false_or_eq_true t91 with hb96 | hb96
      · obtain rfl := orT h95 hb96
        refine QJ.off rfl rfl (cB hb96) rfl rfl ?_
        refine QJ.off rfl rfl (cB hb96) rfl rfl ?_
        refine QJ.off rfl rfl (cB hb96) rfl rfl ?_
        refine QJ.step (YldS.yld (y_pick_t (cB hb96) rfl)) rfl ?_
        exact QJ.cut_end ⟨rfl, rfl, rfl, rfl, rfl, rfl, rfl, rfl, rfl, rfl, rfl, rfl, rfl, rfl, rfl, rfl, rfl, rfl, rfl, rfl, rfl, rfl, rfl, trivial⟩
      · replace h95 := orF h95 hb96
        refine QJ.on rfl rfl (cB hb96) (YldS.yld (y_loadBN (k := 5) (off := 0) (us := [.int .i64 r42.1.num, .int .i64 r42.1.den]) rfl Tryd.isAgg53 Tryd.sizeOf53 rfl rfl)) rfl ?_
        refine QJ.on rfl rfl (cB hb96) (YldS.yld (y_loadBN (k := 4) (off := 0) (us := [.int .i64 r45.1.num, .int .i64 r45.1.den]) rfl Tryd.isAgg53 Tryd.sizeOf53 rfl rfl)) rfl ?_
        refine QJ.on rfl rfl (cB hb96) (YldS.yld (y_neT r42.1 r45.1 eq53 rfl rfl)) rfl ?_
        refine QJ.step (YldS.yld (y_pick_f (cB hb96) rfl)) rfl ?_
        obtain rfl := Option.some.inj h95
        exact QJ.cut_end ⟨rfl, rfl, rfl, rfl, rfl, rfl, rfl, rfl, rfl, rfl, rfl, rfl, rfl, rfl, rfl, rfl, rfl, rfl, rfl, rfl, rfl, rfl, rfl, trivial⟩
    refine QJ.step (YldS.yld (y_move rfl)) rfl ?_
    obtain ⟨t97, h98, hm⟩ := bindS hm
    refine QJ.cut 5 [(3, pt g9 0), (4, .int .i64 r7.2), (5, pt g12 0), (6, .int .i64 r10.2), (9, pt g18 0), (13, .int .i64 r22.1), (17, .int .i64 r26.1), (18, .int .i64 r26.2.1), (19, .int .i64 r26.2.2.1), (20, .int .i64 r26.2.2.2), (22, .int .i64 r28.2), (23, .int .i64 r30.1), (34, pt g44 0), (35, .int .i64 r42.2), (38, pt g50 0), (39, str r51), (40, pt g55 0), (41, .bool r53.2), (43, pt g60 0), (44, .bool r58.2), (45, pt g63 0), (46, .bool r61.2), (236, .bool t97)] ?_ ?_
    · rcases Bool.eq_false_or_eq_true t94 with hb99 | hb99
      · obtain rfl := orT h98 hb99
        refine QJ.off rfl rfl (cB hb99) rfl rfl ?_
        refine QJ.off rfl rfl (cB hb99) rfl rfl ?_
        refine QJ.off rfl rfl (cB hb99) rfl rfl ?_
        refine QJ.off rfl rfl (cB hb99) rfl rfl ?_
        refine QJ.step (YldS.yld (y_pick_t (cB hb99) rfl)) rfl ?_
        exact QJ.cut_end ⟨rfl, rfl, rfl, rfl, rfl, rfl, rfl, rfl, rfl, rfl, rfl, rfl, rfl, rfl, rfl, rfl, rfl, rfl, rfl, rfl, rfl, rfl, rfl, trivial⟩
      · replace h98 := orF h98 hb99
        refine QJ.on rfl rfl (cB hb99) (YldS.yld (y_move rfl)) rfl ?_
        refine QJ.on rfl rfl (cB hb99) (YldS.yld (y_loadBN (k := 3) (off := 0) (us := [.int .i64 r48.strokes, .int .i64 r48.errors, .int .i64 r48.seconds]) rfl Tryd.isAgg49 Tryd.sizeOf49 rfl rfl)) rfl ?_
        obtain ⟨r100, h101, h98⟩ := bindS h98
        refine QJ.on rfl rfl (cB hb99) (y_call Tryd.call49 rfl (RetG.quiet fun w hw => ok_s_TrialText h101 w )) rfl ?_
        refine QJ.on rfl rfl (cB hb99) (YldS.yld (y_binS rfl rfl rfl)) rfl ?_
        refine QJ.step (YldS.yld (y_pick_f (cB hb99) rfl)) rfl ?_
        obtain rfl := Option.some.inj h98
        exact QJ.cut_end ⟨rfl, rfl, rfl, rfl, rfl, rfl, rfl, rfl, rfl, rfl, rfl, rfl, rfl, rfl, rfl, rfl, rfl, rfl, rfl, rfl, rfl, rfl, rfl, trivial⟩
    refine QJ.step (YldS.yld (y_move rfl)) rfl ?_
    obtain ⟨t102, h103, hm⟩ := bindS hm
    refine QJ.cut 5 [(3, pt g9 0), (4, .int .i64 r7.2), (5, pt g12 0), (6, .int .i64 r10.2), (9, pt g18 0), (13, .int .i64 r22.1), (17, .int .i64 r26.1), (18, .int .i64 r26.2.1), (19, .int .i64 r26.2.2.1), (20, .int .i64 r26.2.2.2), (22, .int .i64 r28.2), (23, .int .i64 r30.1), (34, pt g44 0), (35, .int .i64 r42.2), (38, pt g50 0), (40, pt g55 0), (41, .bool r53.2), (43, pt g60 0), (44, .bool r58.2), (45, pt g63 0), (46, .bool r61.2), (242, .bool t102)] ?_ ?_
    · rcases Bool.eq_false_or_eq_true t97 with hb104 | hb104
      · obtain rfl := orT h103 hb104
        refine QJ.off rfl rfl (cB hb104) rfl rfl ?_
        refine QJ.off rfl rfl (cB hb104) rfl rfl ?_
        refine QJ.off rfl rfl (cB hb104) rfl rfl ?_
        refine QJ.off rfl rfl (cB hb104) rfl rfl ?_
        refine QJ.step (YldS.yld (y_pick_t (cB hb104) rfl)) rfl ?_
        exact QJ.cut_end ⟨rfl, rfl, rfl, rfl, rfl, rfl, rfl, rfl, rfl, rfl, rfl, rfl, rfl, rfl, rfl, rfl, rfl, rfl, rfl, rfl, rfl, rfl, trivial⟩
      · replace h103 := orF h103 hb104
        refine QJ.on rfl rfl (cB hb104) (YldS.yld (y_move rfl)) rfl ?_
        refine QJ.on rfl rfl (cB hb104) (YldS.yld (y_move rfl)) rfl ?_
        refine QJ.on rfl rfl (cB hb104) (YldS.yld (y_binS rfl rfl rfl)) rfl ?_
        refine QJ.on rfl rfl (cB hb104) (YldS.yld (y_neB Tryd.underlying4 rfl rfl rfl)) rfl ?_
        refine QJ.step (YldS.yld (y_pick_f (cB hb104) rfl)) rfl ?_
        obtain rfl := Option.some.inj h103
        exact QJ.cut_end ⟨rfl, rfl, rfl, rfl, rfl, rfl, rfl, rfl, rfl, rfl, rfl, rfl, rfl, rfl, rfl, rfl, rfl, rfl, rfl, rfl, rfl, rfl, trivial⟩
    refine QJ.step (YldS.yld (y_move rfl)) rfl ?_
    obtain ⟨t105, h106, hm⟩ := bindS hm
    refine QJ.cut 7 [(3, pt g9 0), (4, .int .i64 r7.2), (5, pt g12 0), (6, .int .i64 r10.2), (9, pt g18 0), (13, .int .i64 r22.1), (17, .int .i64 r26.1), (18, .int .i64 r26.2.1), (19, .int .i64 r26.2.2.1), (20, .int .i64 r26.2.2.2), (22, .int .i64 r28.2), (23, .int .i64 r30.1), (34, pt g44 0), (35, .int .i64 r42.2), (43, pt g60 0), (44, .bool r58.2), (45, pt g63 0), (46, .bool r61.2), (250, .bool t105)] ?_ ?_
    · rcases Bool.eq_false_or_eq_true t102 with hb107 | hb107
      · obtain rfl := orT h106 hb107
        refine QJ.off rfl rfl (cB hb107) rfl rfl ?_
        refine QJ.off rfl rfl (cB hb107) rfl rfl ?_
        refine QJ.off_undef rfl rfl rfl rfl ?_
        refine QJ.off_undef rfl rfl rfl rfl ?_
        refine QJ.off_undef rfl rfl rfl rfl ?_
        refine QJ.off rfl rfl (cB hb107) rfl rfl ?_
        refine QJ.step (YldS.yld (y_pick_t (cB hb107) rfl)) rfl ?_
        exact QJ.cut_end ⟨rfl, rfl, rfl, rfl, rfl, rfl, rfl, rfl, rfl, rfl, rfl, rfl, rfl, rfl, rfl, rfl, rfl, rfl, rfl, trivial⟩
      · replace h106 := orF h106 hb107
        refine QJ.on rfl rfl (cB hb107) (YldS.yld (y_move rfl)) rfl ?_
        refine QJ.on rfl rfl (cB hb107) (YldS.yld (y_move rfl)) rfl ?_
        obtain ⟨t108, h109, h106⟩ := bindS h106
        refine QJ.cut 4 [(3, pt g9 0), (4, .int .i64 r7.2), (5, pt g12 0), (6, .int .i64 r10.2), (9, pt g18 0), (13, .int .i64 r22.1), (17, .int .i64 r26.1), (18, .int .i64 r26.2.1), (19, .int .i64 r26.2.2.1), (20, .int .i64 r26.2.2.2), (22, .int .i64 r28.2), (23, .int .i64 r30.1), (34, pt g44 0), (35, .int .i64 r42.2), (43, pt g60 0), (44, .bool r58.2), (45, pt g63 0), (46, .bool r61.2), (243, .bool t102), (249, .bool t108)] ?_ ?_
        · rcases Bool.eq_false_or_eq_true r53.2 with hb110 | hb110
          · replace h109 := andT h109 hb110
            refine QJ.on rfl rfl (cB hb110) (YldS.yld (y_loadBN (k := 2) (off := 0) (us := [.int .i64 r53.1.strokes, .int .i64 r53.1.errors, .int .i64 r53.1.seconds]) rfl Tryd.isAgg49 Tryd.sizeOf49 rfl rfl)) rfl ?_
            refine QJ.on rfl rfl (cB hb110) (YldS.yld (y_loadBN (k := 3) (off := 0) (us := [.int .i64 r48.strokes, .int .i64 r48.errors, .int .i64 r48.seconds]) rfl Tryd.isAgg49 Tryd.sizeOf49 rfl rfl)) rfl ?_
            refine QJ.on rfl rfl (cB hb110) (YldS.yld (y_neT r53.1 r48 eq49 rfl rfl)) rfl ?_
            refine QJ.on rfl rfl (cB hb107) (YldS.yld (y_pick_t (cB hb110) rfl)) rfl ?_
            obtain rfl := Option.some.inj h109
            exact QJ.cut_end ⟨rfl, rfl, rfl, rfl, rfl, rfl, rfl, rfl, rfl, rfl, rfl, rfl, rfl, rfl, rfl, rfl, rfl, rfl, rfl, rfl, trivial⟩
          · obtain rfl := andF h109 hb110
            refine QJ.off rfl rfl (cB hb110) rfl rfl ?_
            refine QJ.off rfl rfl (cB hb110) rfl rfl ?_
            refine QJ.off rfl rfl (cB hb110) rfl rfl ?_
            refine QJ.on rfl rfl (cB hb107) (YldS.yld (y_pick_f (cB hb110) rfl)) rfl ?_
            exact QJ.cut_end ⟨rfl, rfl, rfl, rfl, rfl, rfl, rfl, rfl, rfl, rfl, rfl, rfl, rfl, rfl, rfl, rfl, rfl, rfl, rfl, rfl, trivial⟩
        refine QJ.step (YldS.yld (y_pick_f (cB hb107) rfl)) rfl ?_
        obtain rfl := Option.some.inj h106
        exact QJ.cut_end ⟨rfl, rfl, rfl, rfl, rfl, rfl, rfl, rfl, rfl, rfl, rfl, rfl, rfl, rfl, rfl, rfl, rfl, rfl, rfl, trivial⟩
    refine QJ.step (YldS.yld (y_move rfl)) rfl ?_
    obtain ⟨t111, h112, hm⟩ := bindS hm
    refine QJ.cut 4 [(3, pt g9 0), (4, .int .i64 r7.2), (5, pt g12 0), (6, .int .i64 r10.2), (9, pt g18 0), (13, .int .i64 r22.1), (17, .int .i64 r26.1), (18, .int .i64 r26.2.1), (19, .int .i64 r26.2.2.1), (20, .int .i64 r26.2.2.2), (22, .int .i64 r28.2), (23, .int .i64 r30.1), (34, pt g44 0), (35, .int .i64 r42.2), (43, pt g60 0), (45, pt g63 0), (255, .bool t111)] ?_ ?_
    · rcases Bool.eq_false_or_eq_true t105 with hb113 | hb113
      · obtain rfl := orT h112 hb113
        refine QJ.off rfl rfl (cB hb113) rfl rfl ?_
        refine QJ.off rfl rfl (cB hb113) rfl rfl ?_
        refine QJ.off rfl rfl (cB hb113) rfl rfl ?_
        refine QJ.step (YldS.yld (y_pick_t (cB hb113) rfl)) rfl ?_
        exact QJ.cut_end ⟨rfl, rfl, rfl, rfl, rfl, rfl, rfl, rfl, rfl, rfl, rfl, rfl, rfl, rfl, rfl, rfl, rfl, trivial⟩
      · replace h112 := orF h112 hb113
        refine QJ.on rfl rfl (cB hb113) (YldS.yld (y_move rfl)) rfl ?_
        refine QJ.on rfl rfl (cB hb113) (YldS.yld (y_move rfl)) rfl ?_
        refine QJ.on rfl rfl (cB hb113) (YldS.yld (y_neB Tryd.underlying4 rfl rfl rfl)) rfl ?_
        refine QJ.step (YldS.yld (y_pick_f (cB hb113) rfl)) rfl ?_
        obtain rfl := Option.some.inj h112
        exact QJ.cut_end ⟨rfl, rfl, rfl, rfl, rfl, rfl, rfl, rfl, rfl, rfl, rfl, rfl, rfl, rfl, rfl, rfl, rfl, trivial⟩
    refine QJ.step (YldS.yld (y_move rfl)) rfl ?_
    obtain ⟨t114, h115, hm⟩ := bindS hm
    refine QJ.cut 4 [(3, pt g9 0), (4, .int .i64 r7.2), (5, pt g12 0), (6, .int .i64 r10.2), (9, pt g18 0), (13, .int .i64 r22.1), (17, .int .i64 r26.1), (18, .int .i64 r26.2.1), (19, .int .i64 r26.2.2.1), (20, .int .i64 r26.2.2.2), (22, .int .i64 r28.2), (23, .int .i64 r30.1), (34, pt g44 0), (35, .int .i64 r42.2), (260, .bool t114)] ?_ ?_
    · rcases Bool.eq_false_or_eq_true t111 with hb116 | hb116
      · obtain rfl := orT h115 hb116
        refine QJ.off rfl rfl (cB hb116) rfl rfl ?_
        refine QJ.off rfl rfl (cB hb116) rfl rfl ?_
        refine QJ.off rfl rfl (cB hb116) rfl rfl ?_
        refine QJ.step (YldS.yld (y_pick_t (cB hb116) rfl)) rfl ?_
        exact QJ.cut_end ⟨rfl, rfl, rfl, rfl, rfl, rfl, rfl, rfl, rfl, rfl, rfl, rfl, rfl, rfl, rfl, trivial⟩
      · replace h115 := orF h115 hb116
        refine QJ.on rfl rfl (cB hb116) (YldS.yld (y_loadBN (k := 1) (off := 0) (us := [.int .i64 r58.1.strokes, .int .i64 r58.1.errors, .int .i64 r58.1.seconds]) rfl Tryd.isAgg49 Tryd.sizeOf49 rfl rfl)) rfl ?_
        refine QJ.on rfl rfl (cB hb116) (YldS.yld (y_loadBN (k := 0) (off := 0) (us := [.int .i64 r61.1.strokes, .int .i64 r61.1.errors, .int .i64 r61.1.seconds]) rfl Tryd.isAgg49 Tryd.sizeOf49 rfl rfl)) rfl ?_
        refine QJ.on rfl rfl (cB hb116) (YldS.yld (y_neT r58.1 r61.1 eq49 rfl rfl)) rfl ?_
        refine QJ.step (YldS.yld (y_pick_f (cB hb116) rfl)) rfl ?_
        obtain rfl := Option.some.inj h115
        exact QJ.cut_end ⟨rfl, rfl, rfl, rfl, rfl, rfl, rfl, rfl, rfl, rfl, rfl, rfl, rfl, rfl, rfl, trivial⟩
    refine QJ.done ?_
    refine PJ.next ?_
    refine WJ.cond (t := t114) rfl (fun hb117 => ?_) (fun hb117 => ?_)
    · replace hm := ifT hm hb117
      refine WJ.seq ?_
      refine WJ.quiet ?_
      refine QJ.step (YldS.yld (y_assign rfl)) rfl ?_
      refine QJ.done ?_
      refine PJ.next ?_
      refine WJ.ret ?_
      refine PJ.then_ret ?_
      obtain rfl := Option.some.inj hm
      refine PJ.sel (L' := []) [] ⟨List.nodup_nil, rfl⟩ ?_
      exact PJ.retn (vs := [.bool false]) Tryd.results4 ⟨rfl, trivial⟩ ⟨rfl, rfl⟩
    · replace hm := ifF hm hb117
      refine WJ.skip ?_
      refine PJ.next ?_
      refine WJ.seq ?_
      refine WJ.seq ?_
      refine WJ.quiet ?_
      refine QJ.step (YldS.yld (y_move rfl)) rfl ?_
      refine QJ.step (YldS.yld (y_bin rfl rfl rfl)) rfl ?_
      refine QJ.step (YldS.yld (y_move rfl)) rfl ?_
      obtain ⟨t118, h119, hm⟩ := bindS hm
      refine QJ.cut 12 [(3, pt g9 0), (4, .int .i64 r7.2), (5, pt g12 0), (6, .int .i64 r10.2), (9, pt g18 0), (13, .int .i64 r22.1), (17, .int .i64 r26.1), (18, .int .i64 r26.2.1), (19, .int .i64 r26.2.2.1), (20, .int .i64 r26.2.2.2), (22, .int .i64 r28.2), (23, .int .i64 r30.1), (275, .bool t118)] ?_ ?_
      · rcases Bool.eq_false_or_eq_true (r42.2 == 0) with hb120 | hb120
        · replace h119 := andT h119 hb120
          refine QJ.on rfl rfl (cB hb120) (YldS.yld (y_fldB (o := 0) fld53_0 rfl)) rfl ?_
          refine QJ.on rfl rfl (cB hb120) (YldS.yld (y_loadB (k := 5) (off := 0) (v := .int .i64 r42.1.num) rfl Tryd.isAgg2 rfl rfl)) rfl ?_
          refine QJ.on rfl rfl (cB hb120) (YldS.yld (y_bin rfl rfl rfl)) rfl ?_
          refine QJ.on rfl rfl (cB hb120) (YldS.yld (y_move rfl)) rfl ?_
          obtain ⟨t121, h122, h119⟩ := bindS h119
          refine QJ.cut 7 [(3, pt g9 0), (4, .int .i64 r7.2), (5, pt g12 0), (6, .int .i64 r10.2), (9, pt g18 0), (13, .int .i64 r22.1), (17, .int .i64 r26.1), (18, .int .i64 r26.2.1), (19, .int .i64 r26.2.2.1), (20, .int .i64 r26.2.2.2), (22, .int .i64 r28.2), (23, .int .i64 r30.1), (263, .bool (r42.2 == 0)), (274, .bool t121)] ?_ ?_
          · rcases Bool.eq_false_or_eq_true (decide (r42.1.num < 0)) with hb123 | hb123
            · obtain rfl := orT h122 hb123
              refine QJ.off rfl rfl (cB hb123) rfl rfl ?_
              refine QJ.off rfl rfl (cB hb123) rfl rfl ?_
              refine QJ.off rfl rfl (cB hb123) rfl rfl ?_
              refine QJ.off rfl rfl (cB hb123) rfl rfl ?_
              refine QJ.off rfl rfl (cB hb123) rfl rfl ?_
              refine QJ.off rfl rfl (cB hb123) rfl rfl ?_
              refine QJ.on rfl rfl (cB hb120) (YldS.yld (y_pick_t (cB hb123) rfl)) rfl ?_
              exact QJ.cut_end ⟨rfl, rfl, rfl, rfl, rfl, rfl, rfl, rfl, rfl, rfl, rfl, rfl, rfl, rfl, trivial⟩
            · replace h122 := orF h122 hb123
              refine QJ.on rfl rfl (cB hb123) (YldS.yld (y_fldB (o := 0) fld53_0 rfl)) rfl ?_
              refine QJ.on rfl rfl (cB hb123) (YldS.yld (y_loadB (k := 5) (off := 0) (v := .int .i64 r42.1.num) rfl Tryd.isAgg2 rfl rfl)) rfl ?_
              refine QJ.on rfl rfl (cB hb123) (YldS.yld (y_fldB (o := 0) fld53_1 rfl)) rfl ?_
              refine QJ.on rfl rfl (cB hb123) (YldS.yld (y_loadB (k := 5) (off := 1) (v := .int .i64 r42.1.den) rfl Tryd.isAgg2 rfl rfl)) rfl ?_
              refine QJ.on rfl rfl (cB hb123) (YldS.yld (y_bin rfl rfl rfl)) rfl ?_
              refine QJ.on rfl rfl (cB hb123) (YldS.yld (y_bin rfl rfl rfl)) rfl ?_
              refine QJ.on rfl rfl (cB hb120) (YldS.yld (y_pick_f (cB hb123) rfl)) rfl ?_
              obtain rfl := Option.some.inj h122
              exact QJ.cut_end ⟨rfl, rfl, rfl, rfl, rfl, rfl, rfl, rfl, rfl, rfl, rfl, rfl, rfl, rfl, trivial⟩
          refine QJ.step (YldS.yld (y_pick_t (cB hb120) rfl)) rfl ?_
          obtain rfl := Option.some.inj h119
          exact QJ.cut_end ⟨rfl, rfl, rfl, rfl, rfl, rfl, rfl, rfl, rfl, rfl, rfl, rfl, rfl, trivial⟩
        · obtain rfl := andF h119 hb120
          refine QJ.off rfl rfl (cB hb120) rfl rfl ?_
          refine QJ.off rfl rfl (cB hb120) rfl rfl ?_
          refine QJ.off rfl rfl (cB hb120) rfl rfl ?_
          refine QJ.off rfl rfl (cB hb120) rfl rfl ?_
          refine QJ.off_undef rfl rfl rfl rfl ?_
          refine QJ.off_undef rfl rfl rfl rfl ?_
          refine QJ.off_undef rfl rfl rfl rfl ?_
          refine QJ.off_undef rfl rfl rfl rfl ?_
          refine QJ.off_undef rfl rfl rfl rfl ?_
          refine QJ.off_undef rfl rfl rfl rfl ?_
          refine QJ.off rfl rfl (cB hb120) rfl rfl ?_
          refine QJ.step (YldS.yld (y_pick_f (cB hb120) rfl)) rfl ?_
          exact QJ.cut_end ⟨rfl, rfl, rfl, rfl, rfl, rfl, rfl, rfl, rfl, rfl, rfl, rfl, rfl, trivial⟩
      refine QJ.done ?_
      refine PJ.next ?_
      refine WJ.cond (t := t118) rfl (fun hb124 => ?_) (fun hb124 => ?_)
      · replace hm := ifT hm hb124
        refine WJ.seq ?_
        refine WJ.quiet ?_
        refine QJ.step (YldS.yld (y_assign rfl)) rfl ?_
        refine QJ.done ?_
        refine PJ.next ?_
        refine WJ.ret ?_
        refine PJ.then_ret ?_
        obtain rfl := Option.some.inj hm
        refine PJ.sel (L' := []) [] ⟨List.nodup_nil, rfl⟩ ?_
        exact PJ.retn (vs := [.bool false]) Tryd.results4 ⟨rfl, trivial⟩ ⟨rfl, rfl⟩
      · replace hm := ifF hm hb124
        refine WJ.skip ?_
        refine PJ.next ?_
        obtain ⟨kj125, hk126, hm⟩ := withK_open hm
        refine WJ.join (X := Unit) (fun (_ : Unit) => kj125  = some r) (fun (_ : Unit) => [(3, pt g9 0), (4, .int .i64 r7.2), (5, pt g12 0), (6, .int .i64 r10.2), (9, pt g18 0), (13, .int .i64 r22.1)]) (fun (_ : Unit) => [box g18 53 [.int .i64 r16.1.num, .int .i64 r16.1.den], box g12 53 [.int .i64 r10.1.num, .int .i64 r10.1.den], box g9 49 [.int .i64 r7.1.strokes, .int .i64 r7.1.errors, .int .i64 r7.1.seconds]]) ?_ ?_
        · clear hk126
          refine WJ.seq ?_
          refine WJ.quiet ?_
          refine QJ.step (YldS.yld (y_move rfl)) rfl ?_
          refine QJ.step (YldS.yld (y_bin rfl rfl rfl)) rfl ?_
          refine QJ.done ?_
          refine PJ.next ?_
          refine WJ.cond (t := (r28.2 == 0)) rfl (fun hb127 => ?_) (fun hb127 => ?_)
          · replace hm := ifT hm hb127
            refine WJ.seq ?_
            refine WJ.seq ?_
            refine WJ.quiet ?_
            refine QJ.step (YldS.yld (y_move rfl)) rfl ?_
            refine QJ.step (YldS.yld (y_move rfl)) rfl ?_
            refine QJ.step (YldS.yld (y_move rfl)) rfl ?_
            refine QJ.step (YldS.yld (y_bin rfl rfl rfl)) rfl ?_
            refine QJ.step (YldS.yld (y_bin rfl rfl rfl)) rfl ?_
            refine QJ.step (YldS.yld (y_bin rfl rfl rfl)) rfl ?_
            refine QJ.step (YldS.yld (y_move rfl)) rfl ?_
            refine QJ.step (YldS.yld (y_move rfl)) rfl ?_
            refine QJ.step (YldS.yld (y_bin rfl rfl rfl)) rfl ?_
            refine QJ.step (YldS.yld (y_bin rfl rfl rfl)) rfl ?_
            refine QJ.step (YldS.yld (y_move rfl)) rfl ?_
            obtain ⟨t128, h129, hm⟩ := bindS hm
            refine QJ.cut 4 [(3, pt g9 0), (4, .int .i64 r7.2), (5, pt g12 0), (6, .int .i64 r10.2), (9, pt g18 0), (13, .int .i64 r22.1), (17, .int .i64 r26.1), (18, .int .i64 r26.2.1), (19, .int .i64 r26.2.2.1), (20, .int .i64 r26.2.2.2), (23, .int .i64 r30.1), (292, .bool t128)] ?_ ?_
            · rcases Bool.eq_false_or_eq_true (decide ((w64 (12 * (w64 (r30.1 - (w64 (r26.2.2.1 * r26.2.1)))))) < (w64 (r26.1 * r26.2.2.2)))) with hb130 | hb130
              · obtain rfl := orT h129 hb130
                refine QJ.off rfl rfl (cB hb130) rfl rfl ?_
                refine QJ.off rfl rfl (cB hb130) rfl rfl ?_
                refine QJ.off rfl rfl (cB hb130) rfl rfl ?_
                refine QJ.step (YldS.yld (y_pick_t (cB hb130) rfl)) rfl ?_
                exact QJ.cut_end ⟨rfl, rfl, rfl, rfl, rfl, rfl, rfl, rfl, rfl, rfl, rfl, rfl, trivial⟩
              · replace h129 := orF h129 hb130
                refine QJ.on rfl rfl (cB hb130) (YldS.yld (y_move rfl)) rfl ?_
                refine QJ.on rfl rfl (cB hb130) (YldS.yld (y_move rfl)) rfl ?_
                refine QJ.on rfl rfl (cB hb130) (YldS.yld (y_bin rfl rfl rfl)) rfl ?_
                refine QJ.step (YldS.yld (y_pick_f (cB hb130) rfl)) rfl ?_
                obtain rfl := Option.some.inj h129
                exact QJ.cut_end ⟨rfl, rfl, rfl, rfl, rfl, rfl, rfl, rfl, rfl, rfl, rfl, rfl, trivial⟩
            refine QJ.done ?_
            refine PJ.next ?_
            refine WJ.cond (t := t128) rfl (fun hb131 => ?_) (fun hb131 => ?_)
            · replace hm := ifT hm hb131
              refine WJ.seq ?_
              refine WJ.quiet ?_
              refine QJ.step (YldS.yld (y_assign rfl)) rfl ?_
              refine QJ.done ?_
              refine PJ.next ?_
              refine WJ.ret ?_
              refine PJ.then_ret (PJ.then_ret ?_)
              obtain rfl := Option.some.inj hm
              refine PJ.sel (L' := []) [] ⟨List.nodup_nil, rfl⟩ ?_
              exact PJ.retn (vs := [.bool false]) Tryd.results4 ⟨rfl, trivial⟩ ⟨rfl, rfl⟩
            · replace hm := ifF hm hb131
              refine WJ.skip ?_
              refine PJ.next ?_
              refine WJ.seq ?_
              refine WJ.quiet ?_
              refine QJ.step (YldS.yld (y_move rfl)) rfl ?_
              refine QJ.step (YldS.yld (y_move rfl)) rfl ?_
              refine QJ.step (YldS.yld (y_move rfl)) rfl ?_
              refine QJ.step (YldS.yld (y_build (parts := [(0, .tmp 294), (1, .tmp 295), (2, .tmp 296)]) (places := [(0, 1), (1, 1), (2, 1)]) (r := [.int .i64 ((Trial.mk r30.1 r26.2.1 r26.2.2.2).strokes), .int .i64 ((Trial.mk r30.1 r26.2.1 r26.2.2.2).errors), .int .i64 ((Trial.mk r30.1 r26.2.1 r26.2.2.2).seconds)]) pl49 Tryd.zeroValue49 rfl rfl rfl rfl)) rfl ?_
              refine QJ.step (YldS.yld (y_move rfl)) rfl ?_
              refine QJ.step (YldS.yld (y_move rfl)) rfl ?_
              obtain ⟨r132, h133, hm⟩ := bindS hm
              refine QJ.step (y_call Tryd.call39 rfl (RetG.quiet fun w hw => ok_i_PassesTest h133 w )) rfl ?_
              refine QJ.step (YldS.yld (y_move rfl)) rfl ?_
              refine QJ.step (YldS.yld (y_extract rfl rfl)) rfl ?_
              refine QJ.step (YldS.yld (y_extract rfl rfl)) rfl ?_
              refine QJ.step (YldS.yld (y_assign rfl)) rfl ?_
              refine QJ.step (YldS.yld (y_assign rfl)) rfl ?_
              refine QJ.done ?_
              refine PJ.next ?_
              refine WJ.seq ?_
              refine WJ.quiet ?_
              refine QJ.step (YldS.yld (y_move rfl)) rfl ?_
              refine QJ.step (YldS.yld (y_bin rfl rfl rfl)) rfl ?_
              refine QJ.step (YldS.yld (y_move rfl)) rfl ?_
              obtain ⟨t134, h135, hm⟩ := bindS hm
              refine QJ.cut 3 [(3, pt g9 0), (4, .int .i64 r7.2), (5, pt g12 0), (6, .int .i64 r10.2), (9, pt g18 0), (13, .int .i64 r22.1), (308, .bool t134)] ?_ ?_
              · rcases Bool.eq_false_or_eq_true (r132.2 != 0) with hb136 | hb136
                · obtain rfl := orT h135 hb136
                  refine QJ.off rfl rfl (cB hb136) rfl rfl ?_
                  refine QJ.off rfl rfl (cB hb136) rfl rfl ?_
                  refine QJ.step (YldS.yld (y_pick_t (cB hb136) rfl)) rfl ?_
                  exact QJ.cut_end ⟨rfl, rfl, rfl, rfl, rfl, rfl, rfl, trivial⟩
                · replace h135 := orF h135 hb136
                  refine QJ.on rfl rfl (cB hb136) (YldS.yld (y_move rfl)) rfl ?_
                  refine QJ.on rfl rfl (cB hb136) (YldS.yld (y_not rfl)) rfl ?_
                  refine QJ.step (YldS.yld (y_pick_f (cB hb136) rfl)) rfl ?_
                  obtain rfl := Option.some.inj h135
                  exact QJ.cut_end ⟨rfl, rfl, rfl, rfl, rfl, rfl, rfl, trivial⟩
              refine QJ.done ?_
              refine PJ.next ?_
              refine WJ.cond (t := t134) rfl (fun hb137 => ?_) (fun hb137 => ?_)
              · replace hm := ifT hm hb137
                refine WJ.seq ?_
                refine WJ.quiet ?_
                refine QJ.step (YldS.yld (y_assign rfl)) rfl ?_
                refine QJ.done ?_
                refine PJ.next ?_
                refine WJ.ret ?_
                refine PJ.then_ret ?_
                obtain rfl := Option.some.inj hm
                refine PJ.sel (L' := []) [] ⟨List.nodup_nil, rfl⟩ ?_
                exact PJ.retn (vs := [.bool false]) Tryd.results4 ⟨rfl, trivial⟩ ⟨rfl, rfl⟩
              · replace hm := ifF hm hb137
                refine WJ.skip ?_
                exact PJ.joined () [9, 11, 12] hm ⟨rfl, rfl, rfl, rfl, rfl, rfl, trivial⟩ ⟨by decide, rfl⟩
          · replace hm := ifF hm hb127
            refine WJ.skip ?_
            exact PJ.joined () [9, 11, 12] hm ⟨rfl, rfl, rfl, rfl, rfl, rfl, trivial⟩ ⟨by decide, rfl⟩
        · rintro _ hm
          subst hk126
          refine WJ.seq ?_
          refine WJ.seq ?_
          refine WJ.quiet ?_
          refine QJ.step (YldS.yld (y_move rfl)) rfl ?_
          refine QJ.step (YldS.yld (y_bin rfl rfl rfl)) rfl ?_
          refine QJ.done ?_
          refine PJ.next ?_
          refine WJ.cond (t := (r10.2 != 0)) rfl (fun hb138 => ?_) (fun hb138 => ?_)
          · replace hm := ifT hm hb138
            refine WJ.seq ?_
            refine WJ.quiet ?_
            refine QJ.step (YldS.yld (y_assign rfl)) rfl ?_
            refine QJ.done ?_
            refine PJ.next ?_
            refine WJ.ret ?_
            refine PJ.then_ret ?_
            obtain rfl := Option.some.inj hm
            refine PJ.sel (L' := []) [] ⟨List.nodup_nil, rfl⟩ ?_
            exact PJ.retn (vs := [.bool true]) Tryd.results4 ⟨rfl, trivial⟩ ⟨rfl, rfl⟩
          · replace hm := ifF hm hb138
            refine WJ.skip ?_
            refine PJ.next ?_
            refine WJ.seq ?_
            refine WJ.seq ?_
            refine WJ.quiet ?_
            refine QJ.step (YldS.yld (y_move rfl)) rfl ?_
            refine QJ.step (YldS.yld (y_bin rfl rfl rfl)) rfl ?_
            refine QJ.step (YldS.yld (y_move rfl)) rfl ?_
            obtain ⟨t139, h140, hm⟩ := bindS hm
            refine QJ.cut 5 [(3, pt g9 0), (4, .int .i64 r7.2), (5, pt g12 0), (9, pt g18 0), (13, .int .i64 r22.1), (318, .bool t139)] ?_ ?_
            · rcases Bool.eq_false_or_eq_true (decide (r22.1 < 0)) with hb141 | hb141
              · obtain rfl := orT h140 hb141
                refine QJ.off rfl rfl (cB hb141) rfl rfl ?_
                refine QJ.off rfl rfl (cB hb141) rfl rfl ?_
                refine QJ.off rfl rfl (cB hb141) rfl rfl ?_
                refine QJ.off rfl rfl (cB hb141) rfl rfl ?_
                refine QJ.step (YldS.yld (y_pick_t (cB hb141) rfl)) rfl ?_
                exact QJ.cut_end ⟨rfl, rfl, rfl, rfl, rfl, rfl, trivial⟩
              · replace h140 := orF h140 hb141
                refine QJ.on rfl rfl (cB hb141) (YldS.yld (y_move rfl)) rfl ?_
                refine QJ.on rfl rfl (cB hb141) (YldS.yld (y_fldB (o := 0) fld49_0 rfl)) rfl ?_
                refine QJ.on rfl rfl (cB hb141) (YldS.yld (y_loadB (k := 2) (off := 0) (v := .int .i64 r7.1.strokes) rfl Tryd.isAgg2 rfl rfl)) rfl ?_
                refine QJ.on rfl rfl (cB hb141) (YldS.yld (y_bin rfl rfl rfl)) rfl ?_
                refine QJ.step (YldS.yld (y_pick_f (cB hb141) rfl)) rfl ?_
                obtain rfl := Option.some.inj h140
                exact QJ.cut_end ⟨rfl, rfl, rfl, rfl, rfl, rfl, trivial⟩
            refine QJ.step (YldS.yld (y_move rfl)) rfl ?_
            obtain ⟨t142, h143, hm⟩ := bindS hm
            refine QJ.cut 12 [(3, pt g9 0), (4, .int .i64 r7.2), (9, pt g18 0), (13, .int .i64 r22.1), (331, .bool t142)] ?_ ?_
            · rcases Bool.eq_false_or_eq_true t139 with hb144 | hb144
              · obtain rfl := orT h143 hb144
                refine QJ.off rfl rfl (cB hb144) rfl rfl ?_
                refine QJ.off rfl rfl (cB hb144) rfl rfl ?_
                refine QJ.off rfl rfl (cB hb144) rfl rfl ?_
                refine QJ.off rfl rfl (cB hb144) rfl rfl ?_
                refine QJ.off rfl rfl (cB hb144) rfl rfl ?_
                refine QJ.off rfl rfl (cB hb144) rfl rfl ?_
                refine QJ.off rfl rfl (cB hb144) rfl rfl ?_
                refine QJ.off rfl rfl (cB hb144) rfl rfl ?_
                refine QJ.off rfl rfl (cB hb144) rfl rfl ?_
                refine QJ.off rfl rfl (cB hb144) rfl rfl ?_
                refine QJ.off rfl rfl (cB hb144) rfl rfl ?_
                refine QJ.step (YldS.yld (y_pick_t (cB hb144) rfl)) rfl ?_
                exact QJ.cut_end ⟨rfl, rfl, rfl, rfl, rfl, trivial⟩
              · replace h143 := orF h143 hb144
                refine QJ.on rfl rfl (cB hb144) (YldS.yld (y_fldB (o := 0) fld53_0 rfl)) rfl ?_
                refine QJ.on rfl rfl (cB hb144) (YldS.yld (y_loadB (k := 1) (off := 0) (v := .int .i64 r10.1.num) rfl Tryd.isAgg2 rfl rfl)) rfl ?_
                refine QJ.on rfl rfl (cB hb144) (YldS.yld (y_fldB (o := 0) fld49_2 rfl)) rfl ?_
                refine QJ.on rfl rfl (cB hb144) (YldS.yld (y_loadB (k := 2) (off := 2) (v := .int .i64 r7.1.seconds) rfl Tryd.isAgg2 rfl rfl)) rfl ?_
                refine QJ.on rfl rfl (cB hb144) (YldS.yld (y_bin rfl rfl rfl)) rfl ?_
                refine QJ.on rfl rfl (cB hb144) (YldS.yld (y_move rfl)) rfl ?_
                refine QJ.on rfl rfl (cB hb144) (YldS.yld (y_bin rfl rfl rfl)) rfl ?_
                refine QJ.on rfl rfl (cB hb144) (YldS.yld (y_fldB (o := 0) fld53_1 rfl)) rfl ?_
                refine QJ.on rfl rfl (cB hb144) (YldS.yld (y_loadB (k := 1) (off := 1) (v := .int .i64 r10.1.den) rfl Tryd.isAgg2 rfl rfl)) rfl ?_
                refine QJ.on rfl rfl (cB hb144) (YldS.yld (y_bin rfl rfl rfl)) rfl ?_
                refine QJ.on rfl rfl (cB hb144) (YldS.yld (y_bin rfl rfl rfl)) rfl ?_
                refine QJ.step (YldS.yld (y_pick_f (cB hb144) rfl)) rfl ?_
                obtain rfl := Option.some.inj h143
                exact QJ.cut_end ⟨rfl, rfl, rfl, rfl, rfl, trivial⟩
            refine QJ.step (YldS.yld (y_move rfl)) rfl ?_
            obtain ⟨t145, h146, hm⟩ := bindS hm
            refine QJ.cut 12 [(3, pt g9 0), (4, .int .i64 r7.2), (13, .int .i64 r22.1), (344, .bool t145)] ?_ ?_
            · rcases Bool.eq_false_or_eq_true t142 with hb147 | hb147
              · obtain rfl := orT h146 hb147
                refine QJ.off rfl rfl (cB hb147) rfl rfl ?_
                refine QJ.off rfl rfl (cB hb147) rfl rfl ?_
                refine QJ.off rfl rfl (cB hb147) rfl rfl ?_
                refine QJ.off rfl rfl (cB hb147) rfl rfl ?_
                refine QJ.off rfl rfl (cB hb147) rfl rfl ?_
                refine QJ.off rfl rfl (cB hb147) rfl rfl ?_
                refine QJ.off rfl rfl (cB hb147) rfl rfl ?_
                refine QJ.off rfl rfl (cB hb147) rfl rfl ?_
                refine QJ.off rfl rfl (cB hb147) rfl rfl ?_
                refine QJ.off rfl rfl (cB hb147) rfl rfl ?_
                refine QJ.off rfl rfl (cB hb147) rfl rfl ?_
                refine QJ.step (YldS.yld (y_pick_t (cB hb147) rfl)) rfl ?_
                exact QJ.cut_end ⟨rfl, rfl, rfl, rfl, trivial⟩
              · replace h146 := orF h146 hb147
                refine QJ.on rfl rfl (cB hb147) (YldS.yld (y_fldB (o := 0) fld53_0 rfl)) rfl ?_
                refine QJ.on rfl rfl (cB hb147) (YldS.yld (y_loadB (k := 0) (off := 0) (v := .int .i64 r16.1.num) rfl Tryd.isAgg2 rfl rfl)) rfl ?_
                refine QJ.on rfl rfl (cB hb147) (YldS.yld (y_fldB (o := 0) fld49_2 rfl)) rfl ?_
                refine QJ.on rfl rfl (cB hb147) (YldS.yld (y_loadB (k := 2) (off := 2) (v := .int .i64 r7.1.seconds) rfl Tryd.isAgg2 rfl rfl)) rfl ?_
                refine QJ.on rfl rfl (cB hb147) (YldS.yld (y_bin rfl rfl rfl)) rfl ?_
                refine QJ.on rfl rfl (cB hb147) (YldS.yld (y_move rfl)) rfl ?_
                refine QJ.on rfl rfl (cB hb147) (YldS.yld (y_bin rfl rfl rfl)) rfl ?_
                refine QJ.on rfl rfl (cB hb147) (YldS.yld (y_fldB (o := 0) fld53_1 rfl)) rfl ?_
                refine QJ.on rfl rfl (cB hb147) (YldS.yld (y_loadB (k := 0) (off := 1) (v := .int .i64 r16.1.den) rfl Tryd.isAgg2 rfl rfl)) rfl ?_
                refine QJ.on rfl rfl (cB hb147) (YldS.yld (y_bin rfl rfl rfl)) rfl ?_
                refine QJ.on rfl rfl (cB hb147) (YldS.yld (y_bin rfl rfl rfl)) rfl ?_
                refine QJ.step (YldS.yld (y_pick_f (cB hb147) rfl)) rfl ?_
                obtain rfl := Option.some.inj h146
                exact QJ.cut_end ⟨rfl, rfl, rfl, rfl, trivial⟩
            refine QJ.done ?_
            refine PJ.next ?_
            refine WJ.cond (t := t145) rfl (fun hb148 => ?_) (fun hb148 => ?_)
            · replace hm := ifT hm hb148
              refine WJ.seq ?_
              refine WJ.quiet ?_
              refine QJ.step (YldS.yld (y_assign rfl)) rfl ?_
              refine QJ.done ?_
              refine PJ.next ?_
              refine WJ.ret ?_
              refine PJ.then_ret ?_
              obtain rfl := Option.some.inj hm
              refine PJ.sel (L' := []) [] ⟨List.nodup_nil, rfl⟩ ?_
              exact PJ.retn (vs := [.bool false]) Tryd.results4 ⟨rfl, trivial⟩ ⟨rfl, rfl⟩
            · replace hm := ifF hm hb148
              refine WJ.skip ?_
              refine PJ.next ?_
              refine WJ.seq ?_
              refine WJ.seq ?_
              refine WJ.quiet ?_
              refine QJ.step (YldS.yld (y_move rfl)) rfl ?_
              refine QJ.step (YldS.yld (y_bin rfl rfl rfl)) rfl ?_
              refine QJ.done ?_
              refine PJ.next ?_
              refine WJ.cond (t := (r7.2 == 50)) rfl (fun hb149 => ?_) (fun hb149 => ?_)
              · replace hm := ifT hm hb149
                refine WJ.seq ?_
                refine WJ.quiet ?_
                refine QJ.step (YldS.yld (y_assign rfl)) rfl ?_
                refine QJ.done ?_
                refine PJ.next ?_
                refine WJ.ret ?_
                refine PJ.then_ret ?_
                obtain rfl := Option.some.inj hm
                refine PJ.sel (L' := []) [] ⟨List.nodup_nil, rfl⟩ ?_
                exact PJ.retn (vs := [.bool true]) Tryd.results4 ⟨rfl, trivial⟩ ⟨rfl, rfl⟩
              · replace hm := ifF hm hb149
                refine WJ.skip ?_
                refine PJ.next ?_
                refine WJ.seq ?_
                refine WJ.quiet ?_
                refine QJ.step (YldS.yld (y_loadBN (k := 2) (off := 0) (us := [.int .i64 r7.1.strokes, .int .i64 r7.1.errors, .int .i64 r7.1.seconds]) rfl Tryd.isAgg49 Tryd.sizeOf49 rfl rfl)) rfl ?_
                refine QJ.step (YldS.yld (y_move rfl)) rfl ?_
                refine QJ.step (YldS.yld (y_bin rfl rfl rfl)) rfl ?_
                obtain ⟨r150, h151, hm⟩ := bindS hm
                refine QJ.step (y_call Tryd.call33 rfl (RetG.quiet fun w hw => ok_i_NetStrokes h151 w )) rfl ?_
                refine QJ.step (YldS.yld (y_move rfl)) rfl ?_
                refine QJ.step (YldS.yld (y_extract rfl rfl)) rfl ?_
                refine QJ.step (YldS.yld (y_extract rfl rfl)) rfl ?_
                refine QJ.step (YldS.yld (y_assign rfl)) rfl ?_
                refine QJ.step (YldS.yld (y_assign rfl)) rfl ?_
                refine QJ.done ?_
                refine PJ.next ?_
                refine WJ.seq ?_
                refine WJ.quiet ?_
                refine QJ.step (YldS.yld (y_move rfl)) rfl ?_
                refine QJ.step (YldS.yld (y_bin rfl rfl rfl)) rfl ?_
                refine QJ.step (YldS.yld (y_move rfl)) rfl ?_
                obtain ⟨t152, h153, hm⟩ := bindS hm
                refine QJ.cut 4 [(360, .bool t152)] ?_ ?_
                · rcases Bool.eq_false_or_eq_true (r150.2 == 0) with hb154 | hb154
                  · replace h153 := andT h153 hb154
                    refine QJ.on rfl rfl (cB hb154) (YldS.yld (y_move rfl)) rfl ?_
                    refine QJ.on rfl rfl (cB hb154) (YldS.yld (y_move rfl)) rfl ?_
                    refine QJ.on rfl rfl (cB hb154) (YldS.yld (y_bin rfl rfl rfl)) rfl ?_
                    refine QJ.step (YldS.yld (y_pick_t (cB hb154) rfl)) rfl ?_
                    obtain rfl := Option.some.inj h153
                    exact QJ.cut_end ⟨rfl, trivial⟩
                  · obtain rfl := andF h153 hb154
                    refine QJ.off rfl rfl (cB hb154) rfl rfl ?_
                    refine QJ.off rfl rfl (cB hb154) rfl rfl ?_
                    refine QJ.off rfl rfl (cB hb154) rfl rfl ?_
                    refine QJ.step (YldS.yld (y_pick_f (cB hb154) rfl)) rfl ?_
                    exact QJ.cut_end ⟨rfl, trivial⟩
                refine QJ.step (YldS.yld (y_assign rfl)) rfl ?_
                refine QJ.done ?_
                refine PJ.next ?_
                refine WJ.ret ?_
                obtain rfl := Option.some.inj hm
                refine PJ.sel (L' := []) [] ⟨List.nodup_nil, rfl⟩ ?_
                exact PJ.retn (vs := [.bool t152]) Tryd.results4 ⟨rfl, trivial⟩ ⟨rfl, rfl⟩

end Go.Proofs.YtppdmciboalhfaaDoor
