/-
  The walks: a call hands back what its plain function computes, where that has a value. No other conditions.
-/
import Derived.Test.YtdnnnakjhehfkaaDoorFnReplacementsW
import Derived.Test.YtdnnnakjhehfkaaDoorChecked
namespace Go.Proofs.YtdnnnakjhehfkaaDoor
open Go.RowKit Go.Proofs
set_option linter.unusedVariables false
set_option linter.unusedSimpArgs false

set_option maxRecDepth 100000 in
set_option maxHeartbeats 1000000 in
theorem ok_s_l01Dec {N : Nat} {n1 : Int} {r : Str} (hm : s_l01Dec N n1 = some r) (w : World)  :
    Calls Tryd.prog 30 #[.int .i64 n1] w (Ret (cx w) (str r)) := by
  unfold s_l01Dec at hm
  refine Calls.enter [.int .i64 n1] Tryd.func30 rfl Tryd.ntmps30 rfl ?_
  refine WJ.seq ?_
  refine WJ.quiet ?_
  refine QJ.step (YldS.yld (y_assign rfl)) rfl ?_
  refine QJ.done ?_
  refine PJ.next ?_
  refine WJ.seq ?_
  refine WJ.reg ?_
  refine SJ.buildSlice (R := fByte) (os := []) [] Tryd.runUnderlying29 Tryd.sizeOf5 Tryd.zeroValue5 rfl rfl rfl rfl rfl rfl fun v2 => ?_
  refine SJ.q (YldS.yld (y_assign rfl)) rfl ?_
  refine SJ.nil ?_
  refine PJ.next ?_
  obtain ⟨kj5, hk6, hm⟩ := withK_open hm
  refine WJ.join (X := (List UInt8) × Value) (fun (x : (List UInt8) × Value) => kj5 x.1 = some r) (fun (x : (List UInt8) × Value) => [(0, .int .i64 n1), (3, x.2)]) (fun (x : (List UInt8) × Value) => [row x.2 5 fByte x.1]) ?_ ?_
  · clear hk6
    refine WJ.seq ?_
    refine WJ.quiet ?_
    refine QJ.step (YldS.yld (y_move rfl)) rfl ?_
    refine QJ.step (YldS.yld (y_assign rfl)) rfl ?_
    refine QJ.done ?_
    refine PJ.next ?_
    refine WJ.block ?_
    refine WJ.sel (L' := (fun (x : (List UInt8) × Value × Int) => [row x.2.1 5 fByte x.1]) ([], v2, n1)) [0] ⟨by decide, rfl⟩ ?_
    refine WJ.sub (m' := (fun (x : (List UInt8) × Value × Int) => [(0, .int .i64 n1), (3, x.2.1), (4, .int .i64 x.2.2)]) ([], v2, n1)) ⟨rfl, rfl, rfl, trivial⟩ ?_
    refine WJ.loop (X := (List UInt8) × Value × Int) (fun N (x : (List UInt8) × Value × Int) => s_l01Dec_l1 kj5 N x.1 x.2.2 = some r) (fun (x : (List UInt8) × Value × Int) => [(0, .int .i64 n1), (3, x.2.1), (4, .int .i64 x.2.2)]) (fun (x : (List UInt8) × Value × Int) => [row x.2.1 5 fByte x.1]) ?_ N ([], v2, n1) hm
    · rintro N ⟨l7, v8, k9⟩ hI
      have hm := hI; clear hI
      cases N with
      | zero => cases hm
      | succ N =>
      unfold s_l01Dec_l1 at hm
      refine WJ.seq ?_
      refine WJ.seq ?_
      refine WJ.quiet ?_
      refine QJ.step (YldS.yld (y_move rfl)) rfl ?_
      refine QJ.step (YldS.yld (y_bin rfl rfl rfl)) rfl ?_
      refine QJ.done ?_
      refine PJ.next ?_
      refine WJ.cond (t := (k9 != 0)) rfl (fun hb10 => ?_) (fun hb10 => ?_)
      · replace hm := ifT hm hb10
        refine WJ.skip ?_
        refine PJ.next ?_
        refine WJ.seq ?_
        refine WJ.block ?_
        refine WJ.seq ?_
        refine WJ.quiet ?_
        refine QJ.step (YldS.yld (y_move rfl)) rfl ?_
        refine QJ.step (YldS.yld (y_rem rfl rfl (by decide))) rfl ?_
        refine QJ.step (YldS.yld (y_assign rfl)) rfl ?_
        refine QJ.done ?_
        refine PJ.next ?_
        obtain ⟨kj12, hk13, hm⟩ := withK_open hm
        refine WJ.join (X := Int) (fun (x : Int) => kj12 x = some r) (fun (x : Int) => [(0, .int .i64 n1), (3, v8), (4, .int .i64 k9), (5, .int .i64 x)]) (fun (x : Int) => [row v8 5 fByte l7]) ?_ ?_
        · clear hk13
          refine WJ.seq ?_
          refine WJ.quiet ?_
          refine QJ.step (YldS.yld (y_move rfl)) rfl ?_
          refine QJ.step (YldS.yld (y_bin rfl rfl rfl)) rfl ?_
          refine QJ.done ?_
          refine PJ.next ?_
          refine WJ.cond (t := decide ((Int.tmod k9 10) < 0)) rfl (fun hb14 => ?_) (fun hb14 => ?_)
          · replace hm := ifT hm hb14
            refine WJ.quiet ?_
            refine QJ.step (YldS.yld (y_move rfl)) rfl ?_
            refine QJ.step (YldS.yld (y_neg rfl)) rfl ?_
            refine QJ.step (YldS.yld (y_assign rfl)) rfl ?_
            refine QJ.done ?_
            exact PJ.joined (w64 (0 - (Int.tmod k9 10))) [0] hm ⟨rfl, rfl, rfl, rfl, trivial⟩ ⟨by decide, rfl⟩
          · replace hm := ifF hm hb14
            refine WJ.skip ?_
            exact PJ.joined (Int.tmod k9 10) [0] hm ⟨rfl, rfl, rfl, rfl, trivial⟩ ⟨by decide, rfl⟩
        · rintro d11 hm
          subst hk13
          refine WJ.reg ?_
          refine SJ.q (YldS.yld (y_move rfl)) rfl ?_
          refine SJ.q (YldS.yld (y_bin rfl rfl rfl)) rfl ?_
          refine SJ.q (YldS.yld (y_convTo8 Tryd.runUnderlying2 Tryd.runUnderlying5 rfl)) rfl ?_
          refine SJ.buildSlice (R := fByte) (os := [.tmp 20]) [UInt8.ofInt (w64 (48 + d11))] Tryd.runUnderlying29 Tryd.sizeOf5 Tryd.zeroValue5 rfl rfl rfl rfl rfl rfl fun v15 => ?_
          refine SJ.q (YldS.yld (y_move rfl)) rfl ?_
          obtain ⟨l16, h17, hm⟩ := bindS hm
          refine SJ.append (k := 0) (R := fByte) h17 rfl Tryd.underlying29 el5 rfl rfl rfl (fun w hw => (hw.row_rd (k := 1) rfl)) rfl fun v18 => ?_
          refine SJ.q (YldS.yld (y_assign rfl)) rfl ?_
          refine SJ.nil ?_
          refine PJ.block_normal (PJ.next ?_)
          refine WJ.quiet ?_
          refine QJ.step (YldS.yld (y_move rfl)) rfl ?_
          refine QJ.step (YldS.yld (y_quo rfl rfl (by decide))) rfl ?_
          refine QJ.step (YldS.yld (y_assign rfl)) rfl ?_
          refine QJ.done ?_
          exact PJ.round (l16, v18, w64 (Int.tdiv k9 10)) [0] hm ⟨rfl, rfl, rfl, trivial⟩ ⟨by decide, rfl⟩
      · replace hm := ifF hm hb10
        refine WJ.exit ?_
        refine PJ.then_exit (PJ.then_exit (PJ.block_exit ?_))
        exact PJ.joined (l7, v8) [0] hm ⟨rfl, rfl, trivial⟩ ⟨by decide, rfl⟩
  · rintro ⟨l3, v4⟩ hm
    subst hk6
    refine WJ.seq ?_
    refine WJ.seq ?_
    refine WJ.quiet ?_
    refine QJ.step (YldS.yld (y_move rfl)) rfl ?_
    refine QJ.step (YldS.yld (y_lenRow (k := 0) rfl Tryd.runUnderlying29 rfl)) rfl ?_
    refine QJ.step (YldS.yld (y_bin rfl rfl rfl)) rfl ?_
    refine QJ.done ?_
    refine PJ.next ?_
    refine WJ.cond (t := ((List.length l3 : Int) == 0)) rfl (fun hb19 => ?_) (fun hb19 => ?_)
    · replace hm := ifT hm hb19
      refine WJ.seq ?_
      refine WJ.quiet ?_
      refine QJ.step (YldS.yld (y_assign rfl)) rfl ?_
      refine QJ.done ?_
      refine PJ.next ?_
      refine WJ.ret ?_
      refine PJ.then_ret ?_
      obtain rfl := Option.some.inj hm
      refine PJ.sel (L' := []) [] ⟨List.nodup_nil, rfl⟩ ?_
      exact PJ.retn (vs := [str [48]]) Tryd.results30 ⟨rfl, trivial⟩ ⟨rfl, rfl⟩
    · replace hm := ifF hm hb19
      refine WJ.skip ?_
      refine PJ.next ?_
      refine WJ.seq ?_
      refine WJ.seq ?_
      refine WJ.quiet ?_
      refine QJ.step (YldS.yld (y_move rfl)) rfl ?_
      refine QJ.step (YldS.yld (y_bin rfl rfl rfl)) rfl ?_
      refine QJ.done ?_
      refine PJ.next ?_
      refine WJ.cond (t := decide (n1 < 0)) rfl (fun hb20 => ?_) (fun hb20 => ?_)
      · replace hm := ifT hm hb20
        refine WJ.seq ?_
        refine WJ.quiet ?_
        refine QJ.step (YldS.yld (y_move rfl)) rfl ?_
        refine QJ.step (YldS.yld (y_b2s Tryd.underlying29 Tryd.underlying9 Tryd.underlying5 (fun w hw => ⟨_, (hw.row_rd (k := 0) rfl)⟩) rfl)) rfl ?_
        obtain ⟨s21, h22, hm⟩ := bindS hm
        refine QJ.step (YldS.yld (y_cat h22 rfl rfl)) rfl ?_
        refine QJ.step (YldS.yld (y_assign rfl)) rfl ?_
        refine QJ.done ?_
        refine PJ.next ?_
        refine WJ.ret ?_
        refine PJ.then_ret ?_
        obtain rfl := Option.some.inj hm
        refine PJ.sel (L' := []) [] ⟨List.nodup_nil, rfl⟩ ?_
        exact PJ.retn (vs := [str s21]) Tryd.results30 ⟨rfl, trivial⟩ ⟨rfl, rfl⟩
      · replace hm := ifF hm hb20
        refine WJ.skip ?_
        refine PJ.next ?_
        refine WJ.seq ?_
        refine WJ.quiet ?_
        refine QJ.step (YldS.yld (y_move rfl)) rfl ?_
        refine QJ.step (YldS.yld (y_b2s Tryd.underlying29 Tryd.underlying9 Tryd.underlying5 (fun w hw => ⟨_, (hw.row_rd (k := 0) rfl)⟩) rfl)) rfl ?_
        refine QJ.step (YldS.yld (y_assign rfl)) rfl ?_
        refine QJ.done ?_
        refine PJ.next ?_
        refine WJ.ret ?_
        obtain rfl := Option.some.inj hm
        refine PJ.sel (L' := []) [] ⟨List.nodup_nil, rfl⟩ ?_
        exact PJ.retn (vs := [str l3]) Tryd.results30 ⟨rfl, trivial⟩ ⟨rfl, rfl⟩

set_option maxRecDepth 100000 in
set_option maxHeartbeats 1000000 in
theorem ok_s_PartText {N : Nat} {list1 : List SparePart} {k4 : Int} {r : Str} (hm : s_PartText N list1 k4 = some r) (w : World) (v2 : Value) (hr3 : RdS w (cx w).Fz v2 fSparePart.rp list1) :
    Calls Tryd.prog 6 #[v2, .int .i64 k4] w (Ret (cx w) (str r)) := by
  unfold s_PartText at hm
  refine Calls.enter [v2, .int .i64 k4] Tryd.func6 rfl Tryd.ntmps6 rfl ?_
  refine WJ.seq ?_
  refine WJ.quiet ?_
  refine QJ.step (YldS.yld (y_assign rfl)) rfl ?_
  refine QJ.done ?_
  refine PJ.next ?_
  refine WJ.seq ?_
  refine WJ.seq ?_
  refine WJ.quiet ?_
  refine QJ.step (YldS.yld (y_move rfl)) rfl ?_
  obtain ⟨r5, h6, hm⟩ := bindS hm
  refine QJ.step (y_call Tryd.call28 rfl (RetG.quiet fun w hw => ok_s_l24Ok h6 w _ (hr3.st hw))) rfl ?_
  refine QJ.step (YldS.yld (y_not rfl)) rfl ?_
  refine QJ.step (YldS.yld (y_move rfl)) rfl ?_
  obtain ⟨t7, h8, hm⟩ := bindS hm
  refine QJ.cut 7 [(0, v2), (1, .int .i64 k4), (17, .bool t7)] ?_ ?_
  · rcases Bool.eq_false_or_eq_true (!r5) with hb9 | hb9
    · obtain rfl := orT h8 hb9
      refine QJ.off rfl rfl (cB hb9) rfl rfl ?_
      refine QJ.off rfl rfl (cB hb9) rfl rfl ?_
      refine QJ.off rfl rfl (cB hb9) rfl rfl ?_
      refine QJ.off rfl rfl (cB hb9) rfl rfl ?_
      refine QJ.off rfl rfl (cB hb9) rfl rfl ?_
      refine QJ.off rfl rfl (cB hb9) rfl rfl ?_
      refine QJ.step (YldS.yld (y_pick_t (cB hb9) rfl)) rfl ?_
      exact QJ.cut_end ⟨rfl, rfl, rfl, trivial⟩
    · replace h8 := orF h8 hb9
      refine QJ.on rfl rfl (cB hb9) (YldS.yld (y_move rfl)) rfl ?_
      refine QJ.on rfl rfl (cB hb9) (YldS.yld (y_move rfl)) rfl ?_
      refine QJ.on rfl rfl (cB hb9) (YldS.yld (y_lenS Tryd.runUnderlying25 hr3 rfl)) rfl ?_
      refine QJ.on rfl rfl (cB hb9) (YldS.yld (y_bin rfl rfl rfl)) rfl ?_
      obtain ⟨r10, h11, h8⟩ := bindS h8
      refine QJ.on rfl rfl (cB hb9) (y_call Tryd.call29 rfl (RetG.quiet fun w hw => ok_s_l00In h11 w )) rfl ?_
      refine QJ.on rfl rfl (cB hb9) (YldS.yld (y_not rfl)) rfl ?_
      refine QJ.step (YldS.yld (y_pick_f (cB hb9) rfl)) rfl ?_
      obtain rfl := Option.some.inj h8
      exact QJ.cut_end ⟨rfl, rfl, rfl, trivial⟩
  refine QJ.done ?_
  refine PJ.next ?_
  refine WJ.cond (t := t7) rfl (fun hb12 => ?_) (fun hb12 => ?_)
  · replace hm := ifT hm hb12
    refine WJ.seq ?_
    refine WJ.quiet ?_
    refine QJ.step (YldS.yld (y_assign rfl)) rfl ?_
    refine QJ.done ?_
    refine PJ.next ?_
    refine WJ.ret ?_
    refine PJ.then_ret ?_
    obtain rfl := Option.some.inj hm
    refine PJ.sel (L' := []) [] ⟨List.nodup_nil, rfl⟩ ?_
    exact PJ.retn (vs := [str []]) Tryd.results6 ⟨rfl, trivial⟩ ⟨rfl, rfl⟩
  · replace hm := ifF hm hb12
    refine WJ.skip ?_
    refine PJ.next ?_
    refine WJ.seq ?_
    refine WJ.quiet ?_
    refine QJ.step (YldS.yld (y_move rfl)) rfl ?_
    refine QJ.step (YldS.yld (y_move rfl)) rfl ?_
    obtain ⟨e13, h14, hm⟩ := bindS hm
    obtain ⟨ad15, _, rfl, ha16, hy17⟩ := hr3.elem h14
    refine QJ.step (YldS.yld (hy17 Tryd.runUnderlying25 Tryd.sizeOf46 rfl rfl)) rfl ?_
    refine QJ.step (YldS.yld (y_assign rfl)) rfl ?_
    refine QJ.done ?_
    refine PJ.next ?_
    refine WJ.seq ?_
    refine WJ.quiet_draw follows (by kernel_rfl) ?_
    refine QJ.step (YldS.yld (y_move rfl)) rfl ?_
    refine QJ.step (YldS.yld (y_nil rfl)) rfl ?_
    refine QJ.step (YldS.yld (y_fld (ad := ad15) fld46_0 rfl)) rfl ?_
    refine QJ.step (YldS.yld (y_load1 (v := str e13.name) Tryd.isAgg9 (ha16.sub 0 1) St.frozenC rfl)) rfl ?_
    obtain ⟨s18, h19, hm⟩ := bindS hm
    refine QJ.step (YldS.yld (y_cat h19 rfl rfl)) rfl ?_
    refine QJ.step (YldS.yld (y_move rfl)) rfl ?_
    refine QJ.step (YldS.yld (y_nil rfl)) rfl ?_
    refine QJ.step (YldS.yld (y_fld (ad := ad15) fld46_1 rfl)) rfl ?_
    refine QJ.step (YldS.yld (y_load1 (v := .int .i64 e13.stock) Tryd.isAgg2 (ha16.sub 1 1) St.frozenC rfl)) rfl ?_
    obtain ⟨r20, h21, hm⟩ := bindS hm
    refine QJ.step (y_call Tryd.call30 rfl (RetG.quiet fun w hw => ok_s_l01Dec h21 w )) rfl ?_
    obtain ⟨s22, h23, hm⟩ := bindS hm
    refine QJ.step (YldS.yld (y_cat h23 rfl rfl)) rfl ?_
    obtain ⟨s24, h25, hm⟩ := bindS hm
    refine QJ.step (YldS.yld (y_cat h25 rfl rfl)) rfl ?_
    refine QJ.step (YldS.yld (y_move rfl)) rfl ?_
    refine QJ.step (YldS.yld (y_nil rfl)) rfl ?_
    refine QJ.step (YldS.yld (y_fld (ad := ad15) fld46_2 rfl)) rfl ?_
    refine QJ.step (YldS.yld (y_load1 (v := .int .i64 e13.target) Tryd.isAgg2 (ha16.sub 2 1) St.frozenC rfl)) rfl ?_
    obtain ⟨r26, h27, hm⟩ := bindS hm
    refine QJ.step (y_call Tryd.call30 rfl (RetG.quiet fun w hw => ok_s_l01Dec h27 w )) rfl ?_
    obtain ⟨s28, h29, hm⟩ := bindS hm
    refine QJ.step (YldS.yld (y_cat h29 rfl rfl)) rfl ?_
    obtain ⟨s30, h31, hm⟩ := bindS hm
    refine QJ.step (YldS.yld (y_cat h31 rfl rfl)) rfl ?_
    refine QJ.step (YldS.yld (y_move rfl)) rfl ?_
    refine QJ.step (YldS.yld (y_nil rfl)) rfl ?_
    refine QJ.step (YldS.yld (y_fld (ad := ad15) fld46_3 rfl)) rfl ?_
    refine QJ.step (YldS.yld (y_load1 (v := .int .i64 e13.days) Tryd.isAgg2 (ha16.sub 3 1) St.frozenC rfl)) rfl ?_
    obtain ⟨r32, h33, hm⟩ := bindS hm
    refine QJ.step (y_call Tryd.call30 rfl (RetG.quiet fun w hw => ok_s_l01Dec h33 w )) rfl ?_
    obtain ⟨s34, h35, hm⟩ := bindS hm
    refine QJ.step (YldS.yld (y_cat h35 rfl rfl)) rfl ?_
    obtain ⟨s36, h37, hm⟩ := bindS hm
    refine QJ.step (YldS.yld (y_cat h37 rfl rfl)) rfl ?_
    refine QJ.step (YldS.yld (y_assign rfl)) rfl ?_
    refine QJ.done ?_
    refine PJ.next ?_
    obtain ⟨kj39, hk40, hm⟩ := withK_open hm
    refine WJ.join (X := Str) (fun (x : Str) => kj39 x = some r) (fun (x : Str) => [(6, str x)]) (fun (x : Str) => []) ?_ ?_
    · clear hk40
      refine WJ.seq ?_
      refine WJ.quiet ?_
      refine QJ.step (YldS.yld (y_move rfl)) rfl ?_
      refine QJ.step (YldS.yld (y_nil rfl)) rfl ?_
      refine QJ.step (YldS.yld (y_fld (ad := ad15) fld46_4 rfl)) rfl ?_
      refine QJ.step (YldS.yld (y_load1 (v := .int .i64 e13.instead) Tryd.isAgg2 (ha16.sub 4 1) St.frozenC rfl)) rfl ?_
      refine QJ.step (YldS.yld (y_bin rfl rfl rfl)) rfl ?_
      refine QJ.done ?_
      refine PJ.next ?_
      refine WJ.cond (t := decide (e13.instead ≥ 0)) rfl (fun hb41 => ?_) (fun hb41 => ?_)
      · replace hm := ifT hm hb41
        refine WJ.quiet ?_
        refine QJ.step (YldS.yld (y_move rfl)) rfl ?_
        refine QJ.step (YldS.yld (y_move rfl)) rfl ?_
        refine QJ.step (YldS.yld (y_move rfl)) rfl ?_
        refine QJ.step (YldS.yld (y_nil rfl)) rfl ?_
        refine QJ.step (YldS.yld (y_fld (ad := ad15) fld46_4 rfl)) rfl ?_
        refine QJ.step (YldS.yld (y_load1 (v := .int .i64 e13.instead) Tryd.isAgg2 (ha16.sub 4 1) St.frozenC rfl)) rfl ?_
        obtain ⟨e42, h43, hm⟩ := bindS hm
        obtain ⟨ad44, _, rfl, ha45, hy46⟩ := hr3.elem h43
        refine QJ.step (YldS.yld (hy46 Tryd.runUnderlying25 Tryd.sizeOf46 rfl rfl)) rfl ?_
        refine QJ.step (YldS.yld (y_fld (ad := ad44) fld46_0 rfl)) rfl ?_
        refine QJ.step (YldS.yld (y_load1 (v := str e42.name) Tryd.isAgg9 (ha45.sub 0 1) St.frozenC rfl)) rfl ?_
        obtain ⟨s47, h48, hm⟩ := bindS hm
        refine QJ.step (YldS.yld (y_cat h48 rfl rfl)) rfl ?_
        obtain ⟨s49, h50, hm⟩ := bindS hm
        refine QJ.step (YldS.yld (y_cat h50 rfl rfl)) rfl ?_
        refine QJ.step (YldS.yld (y_assign rfl)) rfl ?_
        refine QJ.done ?_
        exact PJ.joined s49 [] hm ⟨rfl, trivial⟩ ⟨List.nodup_nil, rfl⟩
      · replace hm := ifF hm hb41
        refine WJ.skip ?_
        exact PJ.joined s36 [] hm ⟨rfl, trivial⟩ ⟨List.nodup_nil, rfl⟩
    · rintro out38 hm
      subst hk40
      refine WJ.seq ?_
      refine WJ.quiet ?_
      refine QJ.step (YldS.yld (y_move rfl)) rfl ?_
      refine QJ.step (YldS.yld (y_assign rfl)) rfl ?_
      refine QJ.done ?_
      refine PJ.next ?_
      refine WJ.ret ?_
      obtain rfl := Option.some.inj hm
      refine PJ.sel (L' := []) [] ⟨List.nodup_nil, rfl⟩ ?_
      exact PJ.retn (vs := [str out38]) Tryd.results6 ⟨rfl, trivial⟩ ⟨rfl, rfl⟩

set_option maxRecDepth 100000 in
set_option maxHeartbeats 1000000 in
theorem ok_s_ValidParts {N : Nat} {list1 : List SparePart} {r : Bool} (hm : s_ValidParts N list1 = some r) (w : World) (v2 : Value) (hr3 : RdS w (cx w).Fz v2 fSparePart.rp list1) :
    Calls Tryd.prog 26 #[v2] w (Ret (cx w) (.bool r)) := by
  unfold s_ValidParts at hm
  refine Calls.enter [v2] Tryd.func26 rfl Tryd.ntmps26 rfl ?_
  refine WJ.seq ?_
  refine WJ.quiet ?_
  refine QJ.step (YldS.yld (y_assign rfl)) rfl ?_
  refine QJ.done ?_
  refine PJ.next ?_
  refine WJ.seq ?_
  refine WJ.quiet ?_
  refine QJ.step (YldS.yld (y_move rfl)) rfl ?_
  obtain ⟨r4, h5, hm⟩ := bindS hm
  refine QJ.step (y_call Tryd.call28 rfl (RetG.quiet fun w hw => ok_s_l24Ok h5 w _ (hr3.st hw))) rfl ?_
  refine QJ.step (YldS.yld (y_assign rfl)) rfl ?_
  refine QJ.done ?_
  refine PJ.next ?_
  refine WJ.ret ?_
  obtain rfl := Option.some.inj hm
  refine PJ.sel (L' := []) [] ⟨List.nodup_nil, rfl⟩ ?_
  exact PJ.retn (vs := [.bool r4]) Tryd.results26 ⟨rfl, trivial⟩ ⟨rfl, rfl⟩

set_option maxRecDepth 100000 in
set_option maxHeartbeats 1000000 in
theorem ok_w_FnReplacements {N : Nat} {code1 : List UInt8} {r : Bool} (hm : w_FnReplacements N code1 = some r) (w : World) (hT : Tab Tryd.prog tabNm w (cx w).Fz) (v2 : Value) (hr3 : RdS w (cx w).Fz v2 fByte.rp code1) :
    Calls Tryd.prog 4 #[v2] w (Ret (cx w) (.bool r)) := by
  unfold w_FnReplacements at hm
  refine Calls.enter [v2] Tryd.func4 rfl Tryd.ntmps4 rfl ?_
  refine WJ.seq ?_
  refine WJ.quiet ?_
  refine QJ.step (YldS.yld (y_assign rfl)) rfl ?_
  refine QJ.done ?_
  refine PJ.next ?_
  refine WJ.seq ?_
  refine WJ.seq ?_
  refine WJ.quiet ?_
  refine QJ.step (YldS.yld (y_move rfl)) rfl ?_
  obtain ⟨r4, h5, hm⟩ := bindS hm
  refine QJ.step (y_call Tryd.call10 rfl (RetG.quiet fun w hw => ok_w_f6big h5 w _ (hr3.st hw))) rfl ?_
  refine QJ.done ?_
  refine PJ.next ?_
  refine WJ.cond (t := r4) rfl (fun hb6 => ?_) (fun hb6 => ?_)
  · replace hm := ifT hm hb6
    refine WJ.seq ?_
    refine WJ.quiet ?_
    refine QJ.step (YldS.yld (y_assign rfl)) rfl ?_
    refine QJ.done ?_
    refine PJ.next ?_
    refine WJ.ret ?_
    refine PJ.then_ret ?_
    obtain rfl := Option.some.inj hm
    refine PJ.sel (L' := []) [] ⟨List.nodup_nil, rfl⟩ ?_
    exact PJ.retn (vs := [.bool true]) Tryd.results4 ⟨rfl, trivial⟩ ⟨rfl, rfl⟩
  · replace hm := ifF hm hb6
    refine WJ.skip ?_
    refine PJ.next ?_
    refine WJ.seq ?_
    refine WJ.reg ?_
    refine SJ.q (YldS.yld (y_move rfl)) rfl ?_
    obtain ⟨r7, h8, hm⟩ := bindS hm
    refine SJ.call Tryd.call11 rfl (fun w hw => ok_s_DrawTakeParts h8 w _ (hr3.st hw)) rfl ?_
    rintro _ _ ⟨v9, rfl, rfl⟩
    refine SJ.q (YldS.yld (y_move rfl)) rfl ?_
    refine SJ.q (YldS.yld (y_extract rfl rfl)) rfl ?_
    refine SJ.q (YldS.yld (y_extract rfl rfl)) rfl ?_
    refine SJ.q (YldS.yld (y_extract rfl rfl)) rfl ?_
    refine SJ.q (YldS.yld (y_assign rfl)) rfl ?_
    refine SJ.q (YldS.yld (y_assign rfl)) rfl ?_
    refine SJ.q (YldS.yld (y_assign rfl)) rfl ?_
    refine SJ.nil ?_
    refine PJ.next ?_
    refine WJ.seq ?_
    refine WJ.reg ?_
    refine SJ.q (YldS.yld (y_move rfl)) rfl ?_
    refine SJ.q (YldS.yld (y_move rfl)) rfl ?_
    refine SJ.q (YldS.yld (y_move rfl)) rfl ?_
    obtain ⟨r10, h11, hm⟩ := bindS hm
    refine SJ.call Tryd.call12 rfl (fun w hw => ok_i_TakeParts h11 w _ (hw.row_rd (k := 0) rfl)) rfl ?_
    rintro _ _ ⟨v12, rfl, rfl⟩
    refine SJ.q (YldS.yld (y_move rfl)) rfl ?_
    refine SJ.q (YldS.yld (y_extract rfl rfl)) rfl ?_
    refine SJ.q (YldS.yld (y_extract rfl rfl)) rfl ?_
    refine SJ.q (YldS.yld (y_extract rfl rfl)) rfl ?_
    refine SJ.q (YldS.yld (y_assign rfl)) rfl ?_
    refine SJ.q (YldS.yld (y_assign rfl)) rfl ?_
    refine SJ.q (YldS.yld (y_assign rfl)) rfl ?_
    refine SJ.nil ?_
    refine PJ.next ?_
    refine WJ.seq ?_
    refine WJ.reg ?_
    refine SJ.q (YldS.yld (y_move rfl)) rfl ?_
    refine SJ.q (YldS.yld (y_move rfl)) rfl ?_
    refine SJ.q (YldS.yld (y_move rfl)) rfl ?_
    obtain ⟨r13, h14, hm⟩ := bindS hm
    refine SJ.call Tryd.call13 rfl (fun w hw => ok_s_TakeParts h14 w _ (hw.row_rd (k := 1) rfl)) rfl ?_
    rintro _ _ ⟨v15, rfl, rfl⟩
    refine SJ.q (YldS.yld (y_move rfl)) rfl ?_
    refine SJ.q (YldS.yld (y_extract rfl rfl)) rfl ?_
    refine SJ.q (YldS.yld (y_extract rfl rfl)) rfl ?_
    refine SJ.q (YldS.yld (y_extract rfl rfl)) rfl ?_
    refine SJ.q (YldS.yld (y_assign rfl)) rfl ?_
    refine SJ.q (YldS.yld (y_assign rfl)) rfl ?_
    refine SJ.q (YldS.yld (y_assign rfl)) rfl ?_
    refine SJ.nil ?_
    refine PJ.next ?_
    refine WJ.seq ?_
    refine WJ.quiet ?_
    refine QJ.step (YldS.yld (y_move rfl)) rfl ?_
    refine QJ.step (YldS.yld (y_move rfl)) rfl ?_
    refine QJ.step (YldS.yld (y_move rfl)) rfl ?_
    obtain ⟨r16, h17, hm⟩ := bindS hm
    refine QJ.step (y_call Tryd.call14 rfl (RetG.quiet fun w hw => ok_i_ReplacementOf h17 w _ (hw.row_rd (k := 2) rfl))) rfl ?_
    refine QJ.step (YldS.yld (y_move rfl)) rfl ?_
    refine QJ.step (YldS.yld (y_extract rfl rfl)) rfl ?_
    refine QJ.step (YldS.yld (y_extract rfl rfl)) rfl ?_
    refine QJ.step (YldS.yld (y_assign rfl)) rfl ?_
    refine QJ.step (YldS.yld (y_assign rfl)) rfl ?_
    refine QJ.done ?_
    refine PJ.next ?_
    refine WJ.seq ?_
    refine WJ.quiet ?_
    refine QJ.step (YldS.yld (y_move rfl)) rfl ?_
    refine QJ.step (YldS.yld (y_move rfl)) rfl ?_
    refine QJ.step (YldS.yld (y_move rfl)) rfl ?_
    obtain ⟨r18, h19, hm⟩ := bindS hm
    refine QJ.step (y_call Tryd.call15 rfl (RetG.quiet fun w hw => ok_s_ReplacementOf h19 w _ (hw.row_rd (k := 2) rfl))) rfl ?_
    refine QJ.step (YldS.yld (y_move rfl)) rfl ?_
    refine QJ.step (YldS.yld (y_extract rfl rfl)) rfl ?_
    refine QJ.step (YldS.yld (y_extract rfl rfl)) rfl ?_
    refine QJ.step (YldS.yld (y_assign rfl)) rfl ?_
    refine QJ.step (YldS.yld (y_assign rfl)) rfl ?_
    refine QJ.done ?_
    refine PJ.next ?_
    refine WJ.seq ?_
    refine WJ.reg ?_
    refine SJ.q (YldS.yld (y_move rfl)) rfl ?_
    obtain ⟨r20, h21, hm⟩ := bindS hm
    refine SJ.call Tryd.call16 rfl (fun w hw => ok_s_DrawBringParts h21 w _ (hr3.st hw)) rfl ?_
    rintro _ _ ⟨v22, rfl, rfl⟩
    refine SJ.q (YldS.yld (y_move rfl)) rfl ?_
    refine SJ.q (YldS.yld (y_extract rfl rfl)) rfl ?_
    refine SJ.q (YldS.yld (y_extract rfl rfl)) rfl ?_
    refine SJ.q (YldS.yld (y_extract rfl rfl)) rfl ?_
    refine SJ.q (YldS.yld (y_assign rfl)) rfl ?_
    refine SJ.q (YldS.yld (y_assign rfl)) rfl ?_
    refine SJ.q (YldS.yld (y_assign rfl)) rfl ?_
    refine SJ.nil ?_
    refine PJ.next ?_
    refine WJ.seq ?_
    refine WJ.reg ?_
    refine SJ.q (YldS.yld (y_move rfl)) rfl ?_
    refine SJ.q (YldS.yld (y_move rfl)) rfl ?_
    refine SJ.q (YldS.yld (y_move rfl)) rfl ?_
    obtain ⟨r23, h24, hm⟩ := bindS hm
    refine SJ.call Tryd.call17 rfl (fun w hw => ok_i_BringParts h24 w _ (hw.row_rd (k := 0) rfl)) rfl ?_
    rintro _ _ ⟨v25, rfl, rfl⟩
    refine SJ.q (YldS.yld (y_move rfl)) rfl ?_
    refine SJ.q (YldS.yld (y_extract rfl rfl)) rfl ?_
    refine SJ.q (YldS.yld (y_extract rfl rfl)) rfl ?_
    refine SJ.q (YldS.yld (y_assign rfl)) rfl ?_
    refine SJ.q (YldS.yld (y_assign rfl)) rfl ?_
    refine SJ.nil ?_
    refine PJ.next ?_
    refine WJ.seq ?_
    refine WJ.reg ?_
    refine SJ.q (YldS.yld (y_move rfl)) rfl ?_
    refine SJ.q (YldS.yld (y_move rfl)) rfl ?_
    refine SJ.q (YldS.yld (y_move rfl)) rfl ?_
    obtain ⟨r26, h27, hm⟩ := bindS hm
    refine SJ.call Tryd.call18 rfl (fun w hw => ok_s_BringParts h27 w _ (hw.row_rd (k := 1) rfl)) rfl ?_
    rintro _ _ ⟨v28, rfl, rfl⟩
    refine SJ.q (YldS.yld (y_move rfl)) rfl ?_
    refine SJ.q (YldS.yld (y_extract rfl rfl)) rfl ?_
    refine SJ.q (YldS.yld (y_extract rfl rfl)) rfl ?_
    refine SJ.q (YldS.yld (y_assign rfl)) rfl ?_
    refine SJ.q (YldS.yld (y_assign rfl)) rfl ?_
    refine SJ.nil ?_
    refine PJ.next ?_
    refine WJ.seq ?_
    refine WJ.reg ?_
    refine SJ.q (YldS.yld (y_move rfl)) rfl ?_
    obtain ⟨r29, h30, hm⟩ := bindS hm
    refine SJ.call Tryd.call19 rfl (fun w hw => ok_i_DeadParts h30 w _ (hw.row_rd (k := 5) rfl)) rfl ?_
    rintro _ _ ⟨v31, rfl, rfl⟩
    refine SJ.q (YldS.yld (y_move rfl)) rfl ?_
    refine SJ.q (YldS.yld (y_extract rfl rfl)) rfl ?_
    refine SJ.q (YldS.yld (y_extract rfl rfl)) rfl ?_
    refine SJ.q (YldS.yld (y_assign rfl)) rfl ?_
    refine SJ.q (YldS.yld (y_assign rfl)) rfl ?_
    refine SJ.nil ?_
    refine PJ.next ?_
    refine WJ.seq ?_
    refine WJ.reg ?_
    refine SJ.q (YldS.yld (y_move rfl)) rfl ?_
    obtain ⟨r32, h33, hm⟩ := bindS hm
    refine SJ.call Tryd.call20 rfl (fun w hw => ok_s_DeadParts h33 w _ (hw.row_rd (k := 6) rfl)) rfl ?_
    rintro _ _ ⟨v34, rfl, rfl⟩
    refine SJ.q (YldS.yld (y_move rfl)) rfl ?_
    refine SJ.q (YldS.yld (y_extract rfl rfl)) rfl ?_
    refine SJ.q (YldS.yld (y_extract rfl rfl)) rfl ?_
    refine SJ.q (YldS.yld (y_assign rfl)) rfl ?_
    refine SJ.q (YldS.yld (y_assign rfl)) rfl ?_
    refine SJ.nil ?_
    refine PJ.next ?_
    refine WJ.seq ?_
    refine WJ.reg ?_
    refine SJ.q (YldS.yld (y_move rfl)) rfl ?_
    obtain ⟨r35, h36, hm⟩ := bindS hm
    refine SJ.call Tryd.call21 rfl (fun w hw => ok_s_DrawSameParts h36 w _ (hr3.st hw)) rfl ?_
    rintro _ _ ⟨v37, v38, rfl, rfl⟩
    refine SJ.q (YldS.yld (y_move rfl)) rfl ?_
    refine SJ.q (YldS.yld (y_extract rfl rfl)) rfl ?_
    refine SJ.q (YldS.yld (y_extract rfl rfl)) rfl ?_
    refine SJ.q (YldS.yld (y_assign rfl)) rfl ?_
    refine SJ.q (YldS.yld (y_assign rfl)) rfl ?_
    refine SJ.nil ?_
    refine PJ.next ?_
    refine WJ.seq ?_
    refine WJ.seq ?_
    refine WJ.quiet ?_
    refine QJ.step (YldS.yld (y_move rfl)) rfl ?_
    refine QJ.step (YldS.yld (y_move rfl)) rfl ?_
    refine QJ.step (YldS.yld (y_bin rfl rfl rfl)) rfl ?_
    refine QJ.step (YldS.yld (y_move rfl)) rfl ?_
    obtain ⟨t39, h40, hm⟩ := bindS hm
    refine QJ.cut 4 [(3, v9), (4, .int .i64 r7.2.1), (5, .int .i64 r7.2.2), (6, v12), (7, .int .i64 r10.2.1), (8, .int .i64 r10.2.2), (9, v15), (10, .int .i64 r13.2.1), (12, .int .i64 r16.1), (13, .int .i64 r16.2), (14, .int .i64 r18.1), (15, .int .i64 r18.2), (19, v25), (20, .int .i64 r23.2), (21, v28), (22, .int .i64 r26.2), (23, v31), (24, .int .i64 r29.2), (25, v34), (26, .int .i64 r32.2), (27, v37), (28, v38), (113, .bool t39)] ?_ ?_
    · rcases Bool.eq_false_or_eq_true (r10.2.2 != r13.2.2) with hb41 | hb41
      · obtain rfl := orT h40 hb41
        refine QJ.off rfl rfl (cB hb41) rfl rfl ?_
        refine QJ.off rfl rfl (cB hb41) rfl rfl ?_
        refine QJ.off rfl rfl (cB hb41) rfl rfl ?_
        refine QJ.step (YldS.yld (y_pick_t (cB hb41) rfl)) rfl ?_
        exact QJ.cut_end ⟨rfl, rfl, rfl, rfl, rfl, rfl, rfl, rfl, rfl, rfl, rfl, rfl, rfl, rfl, rfl, rfl, rfl, rfl, rfl, rfl, rfl, rfl, rfl, trivial⟩
      · replace h40 := orF h40 hb41
        refine QJ.on rfl rfl (cB hb41) (YldS.yld (y_move rfl)) rfl ?_
        refine QJ.on rfl rfl (cB hb41) (YldS.yld (y_move rfl)) rfl ?_
        refine QJ.on rfl rfl (cB hb41) (YldS.yld (y_bin rfl rfl rfl)) rfl ?_
        refine QJ.step (YldS.yld (y_pick_f (cB hb41) rfl)) rfl ?_
        obtain rfl := Option.some.inj h40
        exact QJ.cut_end ⟨rfl, rfl, rfl, rfl, rfl, rfl, rfl, rfl, rfl, rfl, rfl, rfl, rfl, rfl, rfl, rfl, rfl, rfl, rfl, rfl, rfl, rfl, rfl, trivial⟩
    refine QJ.step (YldS.yld (y_move rfl)) rfl ?_
    obtain ⟨t42, h43, hm⟩ := bindS hm
    refine QJ.cut 5 [(3, v9), (4, .int .i64 r7.2.1), (5, .int .i64 r7.2.2), (6, v12), (7, .int .i64 r10.2.1), (8, .int .i64 r10.2.2), (10, .int .i64 r13.2.1), (12, .int .i64 r16.1), (13, .int .i64 r16.2), (14, .int .i64 r18.1), (15, .int .i64 r18.2), (19, v25), (20, .int .i64 r23.2), (21, v28), (22, .int .i64 r26.2), (23, v31), (24, .int .i64 r29.2), (25, v34), (26, .int .i64 r32.2), (27, v37), (28, v38), (119, .bool t42)] ?_ ?_
    · rcases Bool.eq_false_or_eq_true t39 with hb44 | hb44
      · obtain rfl := orT h43 hb44
        refine QJ.off rfl rfl (cB hb44) rfl rfl ?_
        refine QJ.off rfl rfl (cB hb44) rfl rfl ?_
        refine QJ.off rfl rfl (cB hb44) rfl rfl ?_
        refine QJ.off rfl rfl (cB hb44) rfl rfl ?_
        refine QJ.step (YldS.yld (y_pick_t (cB hb44) rfl)) rfl ?_
        exact QJ.cut_end ⟨rfl, rfl, rfl, rfl, rfl, rfl, rfl, rfl, rfl, rfl, rfl, rfl, rfl, rfl, rfl, rfl, rfl, rfl, rfl, rfl, rfl, rfl, trivial⟩
      · replace h43 := orF h43 hb44
        refine QJ.on rfl rfl (cB hb44) (YldS.yld (y_move rfl)) rfl ?_
        refine QJ.on rfl rfl (cB hb44) (YldS.yld (y_move rfl)) rfl ?_
        obtain ⟨r45, h46, h43⟩ := bindS h43
        refine QJ.on rfl rfl (cB hb44) (y_call Tryd.call22 rfl (RetG.quiet fun w hw => ok_s_SameParts h46 w _ (hw.row_rd (k := 8) rfl) _ (hw.row_rd (k := 7) rfl))) rfl ?_
        refine QJ.on rfl rfl (cB hb44) (YldS.yld (y_not rfl)) rfl ?_
        refine QJ.step (YldS.yld (y_pick_f (cB hb44) rfl)) rfl ?_
        obtain rfl := Option.some.inj h43
        exact QJ.cut_end ⟨rfl, rfl, rfl, rfl, rfl, rfl, rfl, rfl, rfl, rfl, rfl, rfl, rfl, rfl, rfl, rfl, rfl, rfl, rfl, rfl, rfl, rfl, trivial⟩
    refine QJ.step (YldS.yld (y_move rfl)) rfl ?_
    obtain ⟨t47, h48, hm⟩ := bindS hm
    refine QJ.cut 4 [(3, v9), (4, .int .i64 r7.2.1), (5, .int .i64 r7.2.2), (6, v12), (7, .int .i64 r10.2.1), (8, .int .i64 r10.2.2), (10, .int .i64 r13.2.1), (12, .int .i64 r16.1), (13, .int .i64 r16.2), (14, .int .i64 r18.1), (19, v25), (20, .int .i64 r23.2), (21, v28), (22, .int .i64 r26.2), (23, v31), (24, .int .i64 r29.2), (25, v34), (26, .int .i64 r32.2), (27, v37), (28, v38), (124, .bool t47)] ?_ ?_
    · rcases Bool.eq_false_or_eq_true t42 with hb49 | hb49
      · obtain rfl := orT h48 hb49
        refine QJ.off rfl rfl (cB hb49) rfl rfl ?_
        refine QJ.off rfl rfl (cB hb49) rfl rfl ?_
        refine QJ.off rfl rfl (cB hb49) rfl rfl ?_
        refine QJ.step (YldS.yld (y_pick_t (cB hb49) rfl)) rfl ?_
        exact QJ.cut_end ⟨rfl, rfl, rfl, rfl, rfl, rfl, rfl, rfl, rfl, rfl, rfl, rfl, rfl, rfl, rfl, rfl, rfl, rfl, rfl, rfl, rfl, trivial⟩
      · replace h48 := orF h48 hb49
        refine QJ.on rfl rfl (cB hb49) (YldS.yld (y_move rfl)) rfl ?_
        refine QJ.on rfl rfl (cB hb49) (YldS.yld (y_move rfl)) rfl ?_
        refine QJ.on rfl rfl (cB hb49) (YldS.yld (y_bin rfl rfl rfl)) rfl ?_
        refine QJ.step (YldS.yld (y_pick_f (cB hb49) rfl)) rfl ?_
        obtain rfl := Option.some.inj h48
        exact QJ.cut_end ⟨rfl, rfl, rfl, rfl, rfl, rfl, rfl, rfl, rfl, rfl, rfl, rfl, rfl, rfl, rfl, rfl, rfl, rfl, rfl, rfl, rfl, trivial⟩
    refine QJ.step (YldS.yld (y_move rfl)) rfl ?_
    obtain ⟨t50, h51, hm⟩ := bindS hm
    refine QJ.cut 4 [(3, v9), (4, .int .i64 r7.2.1), (5, .int .i64 r7.2.2), (6, v12), (7, .int .i64 r10.2.1), (8, .int .i64 r10.2.2), (10, .int .i64 r13.2.1), (12, .int .i64 r16.1), (13, .int .i64 r16.2), (19, v25), (20, .int .i64 r23.2), (21, v28), (22, .int .i64 r26.2), (23, v31), (24, .int .i64 r29.2), (25, v34), (26, .int .i64 r32.2), (27, v37), (28, v38), (129, .bool t50)] ?_ ?_
    · rcases Bool.eq_false_or_eq_true t47 with hb52 | hb52
      · obtain rfl := orT h51 hb52
        refine QJ.off rfl rfl (cB hb52) rfl rfl ?_
        refine QJ.off rfl rfl (cB hb52) rfl rfl ?_
        refine QJ.off rfl rfl (cB hb52) rfl rfl ?_
        refine QJ.step (YldS.yld (y_pick_t (cB hb52) rfl)) rfl ?_
        exact QJ.cut_end ⟨rfl, rfl, rfl, rfl, rfl, rfl, rfl, rfl, rfl, rfl, rfl, rfl, rfl, rfl, rfl, rfl, rfl, rfl, rfl, rfl, trivial⟩
      · replace h51 := orF h51 hb52
        refine QJ.on rfl rfl (cB hb52) (YldS.yld (y_move rfl)) rfl ?_
        refine QJ.on rfl rfl (cB hb52) (YldS.yld (y_move rfl)) rfl ?_
        refine QJ.on rfl rfl (cB hb52) (YldS.yld (y_bin rfl rfl rfl)) rfl ?_
        refine QJ.step (YldS.yld (y_pick_f (cB hb52) rfl)) rfl ?_
        obtain rfl := Option.some.inj h51
        exact QJ.cut_end ⟨rfl, rfl, rfl, rfl, rfl, rfl, rfl, rfl, rfl, rfl, rfl, rfl, rfl, rfl, rfl, rfl, rfl, rfl, rfl, rfl, trivial⟩
    refine QJ.step (YldS.yld (y_move rfl)) rfl ?_
    obtain ⟨t53, h54, hm⟩ := bindS hm
    refine QJ.cut 4 [(3, v9), (4, .int .i64 r7.2.1), (5, .int .i64 r7.2.2), (6, v12), (7, .int .i64 r10.2.1), (8, .int .i64 r10.2.2), (10, .int .i64 r13.2.1), (12, .int .i64 r16.1), (13, .int .i64 r16.2), (19, v25), (21, v28), (23, v31), (24, .int .i64 r29.2), (25, v34), (26, .int .i64 r32.2), (27, v37), (28, v38), (134, .bool t53)] ?_ ?_
    · rcases Bool.eq_false_or_eq_true t50 with hb55 | hb55
      · obtain rfl := orT h54 hb55
        refine QJ.off rfl rfl (cB hb55) rfl rfl ?_
        refine QJ.off rfl rfl (cB hb55) rfl rfl ?_
        refine QJ.off rfl rfl (cB hb55) rfl rfl ?_
        refine QJ.step (YldS.yld (y_pick_t (cB hb55) rfl)) rfl ?_
        exact QJ.cut_end ⟨rfl, rfl, rfl, rfl, rfl, rfl, rfl, rfl, rfl, rfl, rfl, rfl, rfl, rfl, rfl, rfl, rfl, rfl, trivial⟩
      · replace h54 := orF h54 hb55
        refine QJ.on rfl rfl (cB hb55) (YldS.yld (y_move rfl)) rfl ?_
        refine QJ.on rfl rfl (cB hb55) (YldS.yld (y_move rfl)) rfl ?_
        refine QJ.on rfl rfl (cB hb55) (YldS.yld (y_bin rfl rfl rfl)) rfl ?_
        refine QJ.step (YldS.yld (y_pick_f (cB hb55) rfl)) rfl ?_
        obtain rfl := Option.some.inj h54
        exact QJ.cut_end ⟨rfl, rfl, rfl, rfl, rfl, rfl, rfl, rfl, rfl, rfl, rfl, rfl, rfl, rfl, rfl, rfl, rfl, rfl, trivial⟩
    refine QJ.step (YldS.yld (y_move rfl)) rfl ?_
    obtain ⟨t56, h57, hm⟩ := bindS hm
    refine QJ.cut 5 [(3, v9), (4, .int .i64 r7.2.1), (5, .int .i64 r7.2.2), (6, v12), (7, .int .i64 r10.2.1), (8, .int .i64 r10.2.2), (10, .int .i64 r13.2.1), (12, .int .i64 r16.1), (13, .int .i64 r16.2), (23, v31), (24, .int .i64 r29.2), (25, v34), (26, .int .i64 r32.2), (27, v37), (28, v38), (140, .bool t56)] ?_ ?_
    · rcases Bool.eq_false_or_eq_true t53 with hb58 | hb58
      · obtain rfl := orT h57 hb58
        refine QJ.off rfl rfl (cB hb58) rfl rfl ?_
        refine QJ.off rfl rfl (cB hb58) rfl rfl ?_
        refine QJ.off rfl rfl (cB hb58) rfl rfl ?_
        refine QJ.off rfl rfl (cB hb58) rfl rfl ?_
        refine QJ.step (YldS.yld (y_pick_t (cB hb58) rfl)) rfl ?_
        exact QJ.cut_end ⟨rfl, rfl, rfl, rfl, rfl, rfl, rfl, rfl, rfl, rfl, rfl, rfl, rfl, rfl, rfl, rfl, trivial⟩
      · replace h57 := orF h57 hb58
        refine QJ.on rfl rfl (cB hb58) (YldS.yld (y_move rfl)) rfl ?_
        refine QJ.on rfl rfl (cB hb58) (YldS.yld (y_move rfl)) rfl ?_
        obtain ⟨r59, h60, h57⟩ := bindS h57
        refine QJ.on rfl rfl (cB hb58) (y_call Tryd.call22 rfl (RetG.quiet fun w hw => ok_s_SameParts h60 w _ (hw.row_rd (k := 5) rfl) _ (hw.row_rd (k := 4) rfl))) rfl ?_
        refine QJ.on rfl rfl (cB hb58) (YldS.yld (y_not rfl)) rfl ?_
        refine QJ.step (YldS.yld (y_pick_f (cB hb58) rfl)) rfl ?_
        obtain rfl := Option.some.inj h57
        exact QJ.cut_end ⟨rfl, rfl, rfl, rfl, rfl, rfl, rfl, rfl, rfl, rfl, rfl, rfl, rfl, rfl, rfl, rfl, trivial⟩
    refine QJ.step (YldS.yld (y_move rfl)) rfl ?_
    obtain ⟨t61, h62, hm⟩ := bindS hm
    refine QJ.cut 4 [(3, v9), (4, .int .i64 r7.2.1), (5, .int .i64 r7.2.2), (6, v12), (7, .int .i64 r10.2.1), (8, .int .i64 r10.2.2), (10, .int .i64 r13.2.1), (12, .int .i64 r16.1), (13, .int .i64 r16.2), (23, v31), (24, .int .i64 r29.2), (25, v34), (27, v37), (28, v38), (145, .bool t61)] ?_ ?_
    · rcases Bool.eq_false_or_eq_true t56 with hb63 | hb63
      · obtain rfl := orT h62 hb63
        refine QJ.off rfl rfl (cB hb63) rfl rfl ?_
        refine QJ.off rfl rfl (cB hb63) rfl rfl ?_
        refine QJ.off rfl rfl (cB hb63) rfl rfl ?_
        refine QJ.step (YldS.yld (y_pick_t (cB hb63) rfl)) rfl ?_
        exact QJ.cut_end ⟨rfl, rfl, rfl, rfl, rfl, rfl, rfl, rfl, rfl, rfl, rfl, rfl, rfl, rfl, rfl, trivial⟩
      · replace h62 := orF h62 hb63
        refine QJ.on rfl rfl (cB hb63) (YldS.yld (y_move rfl)) rfl ?_
        refine QJ.on rfl rfl (cB hb63) (YldS.yld (y_move rfl)) rfl ?_
        refine QJ.on rfl rfl (cB hb63) (YldS.yld (y_bin rfl rfl rfl)) rfl ?_
        refine QJ.step (YldS.yld (y_pick_f (cB hb63) rfl)) rfl ?_
        obtain rfl := Option.some.inj h62
        exact QJ.cut_end ⟨rfl, rfl, rfl, rfl, rfl, rfl, rfl, rfl, rfl, rfl, rfl, rfl, rfl, rfl, rfl, trivial⟩
    refine QJ.step (YldS.yld (y_move rfl)) rfl ?_
    obtain ⟨t64, h65, hm⟩ := bindS hm
    refine QJ.cut 5 [(3, v9), (4, .int .i64 r7.2.1), (5, .int .i64 r7.2.2), (6, v12), (7, .int .i64 r10.2.1), (8, .int .i64 r10.2.2), (10, .int .i64 r13.2.1), (12, .int .i64 r16.1), (13, .int .i64 r16.2), (24, .int .i64 r29.2), (25, v34), (27, v37), (28, v38), (151, .bool t64)] ?_ ?_
    · rcases Bool.eq_false_or_eq_true t61 with hb66 | hb66
      · obtain rfl := orT h65 hb66
        refine QJ.off rfl rfl (cB hb66) rfl rfl ?_
        refine QJ.off rfl rfl (cB hb66) rfl rfl ?_
        refine QJ.off rfl rfl (cB hb66) rfl rfl ?_
        refine QJ.off rfl rfl (cB hb66) rfl rfl ?_
        refine QJ.step (YldS.yld (y_pick_t (cB hb66) rfl)) rfl ?_
        exact QJ.cut_end ⟨rfl, rfl, rfl, rfl, rfl, rfl, rfl, rfl, rfl, rfl, rfl, rfl, rfl, rfl, trivial⟩
      · replace h65 := orF h65 hb66
        refine QJ.on rfl rfl (cB hb66) (YldS.yld (y_move rfl)) rfl ?_
        refine QJ.on rfl rfl (cB hb66) (YldS.yld (y_move rfl)) rfl ?_
        obtain ⟨r67, h68, h65⟩ := bindS h65
        refine QJ.on rfl rfl (cB hb66) (y_call Tryd.call23 rfl (RetG.quiet fun w hw => ok_w_f6ints h68 w _ (hw.row_rd (k := 3) rfl) _ (hw.row_rd (k := 2) rfl))) rfl ?_
        refine QJ.on rfl rfl (cB hb66) (YldS.yld (y_not rfl)) rfl ?_
        refine QJ.step (YldS.yld (y_pick_f (cB hb66) rfl)) rfl ?_
        obtain rfl := Option.some.inj h65
        exact QJ.cut_end ⟨rfl, rfl, rfl, rfl, rfl, rfl, rfl, rfl, rfl, rfl, rfl, rfl, rfl, rfl, trivial⟩
    refine QJ.step (YldS.yld (y_move rfl)) rfl ?_
    obtain ⟨t69, h70, hm⟩ := bindS hm
    refine QJ.cut 8 [(3, v9), (4, .int .i64 r7.2.1), (5, .int .i64 r7.2.2), (6, v12), (7, .int .i64 r10.2.1), (8, .int .i64 r10.2.2), (10, .int .i64 r13.2.1), (12, .int .i64 r16.1), (13, .int .i64 r16.2), (24, .int .i64 r29.2), (25, v34), (160, .bool t69)] ?_ ?_
    · rcases Bool.eq_false_or_eq_true t64 with hb71 | hb71
      · obtain rfl := orT h70 hb71
        refine QJ.off rfl rfl (cB hb71) rfl rfl ?_
        refine QJ.off rfl rfl (cB hb71) rfl rfl ?_
        refine QJ.off rfl rfl (cB hb71) rfl rfl ?_
        refine QJ.off rfl rfl (cB hb71) rfl rfl ?_
        refine QJ.off rfl rfl (cB hb71) rfl rfl ?_
        refine QJ.off rfl rfl (cB hb71) rfl rfl ?_
        refine QJ.off rfl rfl (cB hb71) rfl rfl ?_
        refine QJ.step (YldS.yld (y_pick_t (cB hb71) rfl)) rfl ?_
        exact QJ.cut_end ⟨rfl, rfl, rfl, rfl, rfl, rfl, rfl, rfl, rfl, rfl, rfl, rfl, trivial⟩
      · replace h70 := orF h70 hb71
        refine QJ.on rfl rfl (cB hb71) (YldS.yld (y_move rfl)) rfl ?_
        refine QJ.on rfl rfl (cB hb71) (YldS.yld (y_move rfl)) rfl ?_
        obtain ⟨r72, h73, h70⟩ := bindS h70
        refine QJ.on rfl rfl (cB hb71) (y_call Tryd.call24 rfl (RetG.quiet fun w hw => ok_i_SameParts h73 w _ (hw.row_rd (k := 0) rfl) _ (hw.row_rd (k := 1) rfl))) rfl ?_
        refine QJ.on rfl rfl (cB hb71) (YldS.yld (y_move rfl)) rfl ?_
        refine QJ.on rfl rfl (cB hb71) (YldS.yld (y_move rfl)) rfl ?_
        obtain ⟨r74, h75, h70⟩ := bindS h70
        refine QJ.on rfl rfl (cB hb71) (y_call Tryd.call22 rfl (RetG.quiet fun w hw => ok_s_SameParts h75 w _ (hw.row_rd (k := 0) rfl) _ (hw.row_rd (k := 1) rfl))) rfl ?_
        refine QJ.on rfl rfl (cB hb71) (YldS.yld (y_neB Tryd.underlying4 rfl rfl rfl)) rfl ?_
        refine QJ.step (YldS.yld (y_pick_f (cB hb71) rfl)) rfl ?_
        obtain rfl := Option.some.inj h70
        exact QJ.cut_end ⟨rfl, rfl, rfl, rfl, rfl, rfl, rfl, rfl, rfl, rfl, rfl, rfl, trivial⟩
    refine QJ.step (YldS.yld (y_move rfl)) rfl ?_
    obtain ⟨t76, h77, hm⟩ := bindS hm
    refine QJ.cut 8 [(3, v9), (4, .int .i64 r7.2.1), (5, .int .i64 r7.2.2), (6, v12), (7, .int .i64 r10.2.1), (8, .int .i64 r10.2.2), (10, .int .i64 r13.2.1), (12, .int .i64 r16.1), (13, .int .i64 r16.2), (24, .int .i64 r29.2), (25, v34), (169, .bool t76)] ?_ ?_
    · rcases Bool.eq_false_or_eq_true t69 with hb78 | hb78
      · obtain rfl := orT h77 hb78
        refine QJ.off rfl rfl (cB hb78) rfl rfl ?_
        refine QJ.off rfl rfl (cB hb78) rfl rfl ?_
        refine QJ.off rfl rfl (cB hb78) rfl rfl ?_
        refine QJ.off rfl rfl (cB hb78) rfl rfl ?_
        refine QJ.off rfl rfl (cB hb78) rfl rfl ?_
        refine QJ.off rfl rfl (cB hb78) rfl rfl ?_
        refine QJ.off rfl rfl (cB hb78) rfl rfl ?_
        refine QJ.step (YldS.yld (y_pick_t (cB hb78) rfl)) rfl ?_
        exact QJ.cut_end ⟨rfl, rfl, rfl, rfl, rfl, rfl, rfl, rfl, rfl, rfl, rfl, rfl, trivial⟩
      · replace h77 := orF h77 hb78
        refine QJ.on rfl rfl (cB hb78) (YldS.yld (y_move rfl)) rfl ?_
        refine QJ.on rfl rfl (cB hb78) (YldS.yld (y_move rfl)) rfl ?_
        obtain ⟨r79, h80, h77⟩ := bindS h77
        refine QJ.on rfl rfl (cB hb78) (y_call Tryd.call8 rfl (RetG.quiet fun w hw => ok_i_PartText h80 w (hT.st hw) _ (hw.row_rd (k := 9) rfl))) rfl ?_
        refine QJ.on rfl rfl (cB hb78) (YldS.yld (y_move rfl)) rfl ?_
        refine QJ.on rfl rfl (cB hb78) (YldS.yld (y_move rfl)) rfl ?_
        obtain ⟨r81, h82, h77⟩ := bindS h77
        refine QJ.on rfl rfl (cB hb78) (y_call Tryd.call6 rfl (RetG.quiet fun w hw => ok_s_PartText h82 w _ (hw.row_rd (k := 9) rfl))) rfl ?_
        refine QJ.on rfl rfl (cB hb78) (YldS.yld (y_binS rfl rfl rfl)) rfl ?_
        refine QJ.step (YldS.yld (y_pick_f (cB hb78) rfl)) rfl ?_
        obtain rfl := Option.some.inj h77
        exact QJ.cut_end ⟨rfl, rfl, rfl, rfl, rfl, rfl, rfl, rfl, rfl, rfl, rfl, rfl, trivial⟩
    refine QJ.step (YldS.yld (y_move rfl)) rfl ?_
    obtain ⟨t83, h84, hm⟩ := bindS hm
    refine QJ.cut 6 [(3, v9), (4, .int .i64 r7.2.1), (5, .int .i64 r7.2.2), (6, v12), (7, .int .i64 r10.2.1), (8, .int .i64 r10.2.2), (10, .int .i64 r13.2.1), (12, .int .i64 r16.1), (13, .int .i64 r16.2), (24, .int .i64 r29.2), (25, v34), (176, .bool t83)] ?_ ?_
    · rcases Bool.eq_false_or_eq_true t76 with hb85 | hb85
      · obtain rfl := orT h84 hb85
        refine QJ.off rfl rfl (cB hb85) rfl rfl ?_
        refine QJ.off rfl rfl (cB hb85) rfl rfl ?_
        refine QJ.off rfl rfl (cB hb85) rfl rfl ?_
        refine QJ.off rfl rfl (cB hb85) rfl rfl ?_
        refine QJ.off rfl rfl (cB hb85) rfl rfl ?_
        refine QJ.step (YldS.yld (y_pick_t (cB hb85) rfl)) rfl ?_
        exact QJ.cut_end ⟨rfl, rfl, rfl, rfl, rfl, rfl, rfl, rfl, rfl, rfl, rfl, rfl, trivial⟩
      · replace h84 := orF h84 hb85
        refine QJ.on rfl rfl (cB hb85) (YldS.yld (y_move rfl)) rfl ?_
        obtain ⟨r86, h87, h84⟩ := bindS h84
        refine QJ.on rfl rfl (cB hb85) (y_call Tryd.call25 rfl (RetG.quiet fun w hw => ok_i_ValidParts h87 w _ (hw.row_rd (k := 9) rfl))) rfl ?_
        refine QJ.on rfl rfl (cB hb85) (YldS.yld (y_move rfl)) rfl ?_
        obtain ⟨r88, h89, h84⟩ := bindS h84
        refine QJ.on rfl rfl (cB hb85) (y_call Tryd.call26 rfl (RetG.quiet fun w hw => ok_s_ValidParts h89 w _ (hw.row_rd (k := 9) rfl))) rfl ?_
        refine QJ.on rfl rfl (cB hb85) (YldS.yld (y_neB Tryd.underlying4 rfl rfl rfl)) rfl ?_
        refine QJ.step (YldS.yld (y_pick_f (cB hb85) rfl)) rfl ?_
        obtain rfl := Option.some.inj h84
        exact QJ.cut_end ⟨rfl, rfl, rfl, rfl, rfl, rfl, rfl, rfl, rfl, rfl, rfl, rfl, trivial⟩
    refine QJ.done ?_
    refine PJ.next ?_
    refine WJ.cond (t := t83) rfl (fun hb90 => ?_) (fun hb90 => ?_)
    · replace hm := ifT hm hb90
      refine WJ.seq ?_
      refine WJ.quiet ?_
      refine QJ.step (YldS.yld (y_assign rfl)) rfl ?_
      refine QJ.done ?_
      refine PJ.next ?_
      refine WJ.ret ?_
      refine PJ.then_ret ?_
      obtain rfl := Option.some.inj hm
      refine PJ.sel (L' := []) [] ⟨List.nodup_nil, rfl⟩ ?_
      exact PJ.retn (vs := [.bool false]) Tryd.results4 ⟨rfl, trivial⟩ ⟨rfl, rfl⟩
    · replace hm := ifF hm hb90
      refine WJ.skip ?_
      refine PJ.next ?_
      refine WJ.seq ?_
      refine WJ.seq ?_
      refine WJ.quiet ?_
      refine QJ.step (YldS.yld (y_move rfl)) rfl ?_
      refine QJ.step (YldS.yld (y_move rfl)) rfl ?_
      refine QJ.step (YldS.yld (y_bin rfl rfl rfl)) rfl ?_
      refine QJ.step (YldS.yld (y_move rfl)) rfl ?_
      obtain ⟨t91, h92, hm⟩ := bindS hm
      refine QJ.cut 8 [(3, v9), (4, .int .i64 r7.2.1), (5, .int .i64 r7.2.2), (6, v12), (8, .int .i64 r10.2.2), (10, .int .i64 r13.2.1), (24, .int .i64 r29.2), (25, v34), (188, .bool t91)] ?_ ?_
      · rcases Bool.eq_false_or_eq_true (r16.2 != r10.2.2) with hb93 | hb93
        · obtain rfl := orT h92 hb93
          refine QJ.off rfl rfl (cB hb93) rfl rfl ?_
          refine QJ.off rfl rfl (cB hb93) rfl rfl ?_
          refine QJ.off rfl rfl (cB hb93) rfl rfl ?_
          refine QJ.off_undef rfl rfl rfl rfl ?_
          refine QJ.off_undef rfl rfl rfl rfl ?_
          refine QJ.off_undef rfl rfl rfl rfl ?_
          refine QJ.off rfl rfl (cB hb93) rfl rfl ?_
          refine QJ.step (YldS.yld (y_pick_t (cB hb93) rfl)) rfl ?_
          exact QJ.cut_end ⟨rfl, rfl, rfl, rfl, rfl, rfl, rfl, rfl, rfl, trivial⟩
        · replace h92 := orF h92 hb93
          refine QJ.on rfl rfl (cB hb93) (YldS.yld (y_move rfl)) rfl ?_
          refine QJ.on rfl rfl (cB hb93) (YldS.yld (y_bin rfl rfl rfl)) rfl ?_
          refine QJ.on rfl rfl (cB hb93) (YldS.yld (y_move rfl)) rfl ?_
          obtain ⟨t94, h95, h92⟩ := bindS h92
          refine QJ.cut 4 [(3, v9), (4, .int .i64 r7.2.1), (5, .int .i64 r7.2.2), (6, v12), (8, .int .i64 r10.2.2), (10, .int .i64 r13.2.1), (24, .int .i64 r29.2), (25, v34), (180, .bool (r16.2 != r10.2.2)), (187, .bool t94)] ?_ ?_
          · rcases Bool.eq_false_or_eq_true (r16.2 == 0) with hb96 | hb96
            · replace h95 := andT h95 hb96
              refine QJ.on rfl rfl (cB hb96) (YldS.yld (y_move rfl)) rfl ?_
              refine QJ.on rfl rfl (cB hb96) (YldS.yld (y_move rfl)) rfl ?_
              refine QJ.on rfl rfl (cB hb96) (YldS.yld (y_bin rfl rfl rfl)) rfl ?_
              refine QJ.on rfl rfl (cB hb93) (YldS.yld (y_pick_t (cB hb96) rfl)) rfl ?_
              obtain rfl := Option.some.inj h95
              exact QJ.cut_end ⟨rfl, rfl, rfl, rfl, rfl, rfl, rfl, rfl, rfl, rfl, trivial⟩
            · obtain rfl := andF h95 hb96
              refine QJ.off rfl rfl (cB hb96) rfl rfl ?_
              refine QJ.off rfl rfl (cB hb96) rfl rfl ?_
              refine QJ.off rfl rfl (cB hb96) rfl rfl ?_
              refine QJ.on rfl rfl (cB hb93) (YldS.yld (y_pick_f (cB hb96) rfl)) rfl ?_
              exact QJ.cut_end ⟨rfl, rfl, rfl, rfl, rfl, rfl, rfl, rfl, rfl, rfl, trivial⟩
          refine QJ.step (YldS.yld (y_pick_f (cB hb93) rfl)) rfl ?_
          obtain rfl := Option.some.inj h92
          exact QJ.cut_end ⟨rfl, rfl, rfl, rfl, rfl, rfl, rfl, rfl, rfl, trivial⟩
      refine QJ.done ?_
      refine PJ.next ?_
      refine WJ.cond (t := t91) rfl (fun hb97 => ?_) (fun hb97 => ?_)
      · replace hm := ifT hm hb97
        refine WJ.seq ?_
        refine WJ.quiet ?_
        refine QJ.step (YldS.yld (y_assign rfl)) rfl ?_
        refine QJ.done ?_
        refine PJ.next ?_
        refine WJ.ret ?_
        refine PJ.then_ret ?_
        obtain rfl := Option.some.inj hm
        refine PJ.sel (L' := []) [] ⟨List.nodup_nil, rfl⟩ ?_
        exact PJ.retn (vs := [.bool false]) Tryd.results4 ⟨rfl, trivial⟩ ⟨rfl, rfl⟩
      · replace hm := ifF hm hb97
        refine WJ.skip ?_
        refine PJ.next ?_
        obtain ⟨kj98, hk99, hm⟩ := withK_open hm
        refine WJ.join (X := Unit) (fun (_ : Unit) => kj98  = some r) (fun (_ : Unit) => [(3, v9), (4, .int .i64 r7.2.1), (5, .int .i64 r7.2.2), (6, v12), (8, .int .i64 r10.2.2), (10, .int .i64 r13.2.1)]) (fun (_ : Unit) => [row v12 46 fSparePart r10.1, row v9 46 fSparePart r7.1]) ?_ ?_
        · clear hk99
          refine WJ.seq ?_
          refine WJ.quiet ?_
          refine QJ.step (YldS.yld (y_move rfl)) rfl ?_
          refine QJ.step (YldS.yld (y_bin rfl rfl rfl)) rfl ?_
          refine QJ.done ?_
          refine PJ.next ?_
          refine WJ.cond (t := (r29.2 == 0)) rfl (fun hb100 => ?_) (fun hb100 => ?_)
          · replace hm := ifT hm hb100
            refine WJ.seq ?_
            refine WJ.quiet ?_
            refine QJ.step (YldS.yld (y_assign rfl)) rfl ?_
            refine QJ.done ?_
            refine PJ.next ?_
            refine WJ.block ?_
            refine WJ.sel (L' := (fun (x : Int) => [row v34 2 fI64 r32.1, row v12 46 fSparePart r10.1, row v9 46 fSparePart r7.1]) 0) [2, 8, 9] ⟨by decide, rfl⟩ ?_
            refine WJ.sub (m' := (fun (x : Int) => [(3, v9), (4, .int .i64 r7.2.1), (5, .int .i64 r7.2.2), (6, v12), (8, .int .i64 r10.2.2), (10, .int .i64 r13.2.1), (25, v34), (29, .int .i64 x)]) 0) ⟨rfl, rfl, rfl, rfl, rfl, rfl, rfl, rfl, trivial⟩ ?_
            refine WJ.loop (X := Int) (fun N (x : Int) => w_FnReplacements_l1 kj98 r7 r32 N x = some r) (fun (x : Int) => [(3, v9), (4, .int .i64 r7.2.1), (5, .int .i64 r7.2.2), (6, v12), (8, .int .i64 r10.2.2), (10, .int .i64 r13.2.1), (25, v34), (29, .int .i64 x)]) (fun (x : Int) => [row v34 2 fI64 r32.1, row v12 46 fSparePart r10.1, row v9 46 fSparePart r7.1]) ?_ N 0 hm
            · rintro N i101 hI
              have hm := hI; clear hI
              cases N with
              | zero => cases hm
              | succ N =>
              unfold w_FnReplacements_l1 at hm
              refine WJ.seq ?_
              refine WJ.seq ?_
              refine WJ.quiet ?_
              refine QJ.step (YldS.yld (y_move rfl)) rfl ?_
              refine QJ.step (YldS.yld (y_move rfl)) rfl ?_
              refine QJ.step (YldS.yld (y_lenRow (k := 0) rfl Tryd.runUnderlying38 rfl)) rfl ?_
              refine QJ.step (YldS.yld (y_bin rfl rfl rfl)) rfl ?_
              refine QJ.done ?_
              refine PJ.next ?_
              refine WJ.cond (t := decide (i101 < (List.length r32.1 : Int))) rfl (fun hb102 => ?_) (fun hb102 => ?_)
              · replace hm := ifT hm hb102
                refine WJ.skip ?_
                refine PJ.next ?_
                refine WJ.seq ?_
                refine WJ.block ?_
                refine WJ.seq ?_
                refine WJ.quiet ?_
                refine QJ.step (YldS.yld (y_move rfl)) rfl ?_
                refine QJ.step (YldS.yld (y_move rfl)) rfl ?_
                refine QJ.step (YldS.yld (y_move rfl)) rfl ?_
                obtain ⟨e103, h104, hm⟩ := bindS hm
                refine QJ.step (YldS.yld (y_ixRow (k := 0) (R := fI64) rfl Tryd.runUnderlying38 Tryd.sizeOf2 rfl rfl h104)) rfl ?_
                refine QJ.step (YldS.yld (y_loadR (k := 0) (i := (Int.toNat i101)) (off := 0) (u := .int .i64 e103) rfl Tryd.isAgg2 rfl (idx_get h104) rfl)) rfl ?_
                obtain ⟨e105, h106, hm⟩ := bindS hm
                refine QJ.step (YldS.yld (y_ixRow (k := 2) (R := fSparePart) rfl Tryd.runUnderlying25 Tryd.sizeOf46 rfl rfl h106)) rfl ?_
                refine QJ.step (YldS.yld (y_fldR fld46_1 rfl)) rfl ?_
                refine QJ.step (YldS.yld (y_loadR (k := 2) (i := (Int.toNat e103)) (off := 1) (u := .int .i64 e105.stock) rfl Tryd.isAgg2 rfl (idx_get h106) rfl)) rfl ?_
                refine QJ.step (YldS.yld (y_bin rfl rfl rfl)) rfl ?_
                refine QJ.done ?_
                refine PJ.next ?_
                refine WJ.cond (t := (e105.stock != 0)) rfl (fun hb107 => ?_) (fun hb107 => ?_)
                · replace hm := ifT hm hb107
                  refine WJ.seq ?_
                  refine WJ.quiet ?_
                  refine QJ.step (YldS.yld (y_assign rfl)) rfl ?_
                  refine QJ.done ?_
                  refine PJ.next ?_
                  refine WJ.ret ?_
                  refine PJ.block_ret (PJ.then_ret (PJ.then_ret (PJ.block_ret (PJ.then_ret ?_))))
                  obtain rfl := Option.some.inj hm
                  refine PJ.sel (L' := []) [] ⟨List.nodup_nil, rfl⟩ ?_
                  exact PJ.retn (vs := [.bool false]) Tryd.results4 ⟨rfl, trivial⟩ ⟨rfl, rfl⟩
                · replace hm := ifF hm hb107
                  refine WJ.skip ?_
                  refine PJ.block_normal (PJ.next ?_)
                  refine WJ.quiet ?_
                  refine QJ.step (YldS.yld (y_move rfl)) rfl ?_
                  refine QJ.step (YldS.yld (y_bin rfl rfl rfl)) rfl ?_
                  refine QJ.step (YldS.yld (y_assign rfl)) rfl ?_
                  refine QJ.done ?_
                  exact PJ.round (w64 (i101 + 1)) [0, 1, 2] hm ⟨rfl, rfl, rfl, rfl, rfl, rfl, rfl, rfl, trivial⟩ ⟨by decide, rfl⟩
              · replace hm := ifF hm hb102
                refine WJ.exit ?_
                refine PJ.then_exit (PJ.then_exit (PJ.block_exit ?_))
                exact PJ.joined () [1, 2] hm ⟨rfl, rfl, rfl, rfl, rfl, rfl, trivial⟩ ⟨by decide, rfl⟩
          · replace hm := ifF hm hb100
            refine WJ.skip ?_
            exact PJ.joined () [8, 9] hm ⟨rfl, rfl, rfl, rfl, rfl, rfl, trivial⟩ ⟨by decide, rfl⟩
        · rintro _ hm
          subst hk99
          refine WJ.seq ?_
          refine WJ.seq ?_
          refine WJ.quiet ?_
          refine QJ.step (YldS.yld (y_move rfl)) rfl ?_
          refine QJ.step (YldS.yld (y_bin rfl rfl rfl)) rfl ?_
          refine QJ.done ?_
          refine PJ.next ?_
          refine WJ.cond (t := (r10.2.2 != 0)) rfl (fun hb108 => ?_) (fun hb108 => ?_)
          · replace hm := ifT hm hb108
            refine WJ.seq ?_
            refine WJ.quiet ?_
            refine QJ.step (YldS.yld (y_assign rfl)) rfl ?_
            refine QJ.done ?_
            refine PJ.next ?_
            refine WJ.ret ?_
            refine PJ.then_ret ?_
            obtain rfl := Option.some.inj hm
            refine PJ.sel (L' := []) [] ⟨List.nodup_nil, rfl⟩ ?_
            exact PJ.retn (vs := [.bool true]) Tryd.results4 ⟨rfl, trivial⟩ ⟨rfl, rfl⟩
          · replace hm := ifF hm hb108
            refine WJ.skip ?_
            refine PJ.next ?_
            refine WJ.seq ?_
            refine WJ.seq ?_
            refine WJ.quiet ?_
            refine QJ.step (YldS.yld (y_move rfl)) rfl ?_
            refine QJ.step (YldS.yld (y_move rfl)) rfl ?_
            obtain ⟨e109, h110, hm⟩ := bindS hm
            refine QJ.step (YldS.yld (y_ixRow (k := 1) (R := fSparePart) rfl Tryd.runUnderlying25 Tryd.sizeOf46 rfl rfl h110)) rfl ?_
            refine QJ.step (YldS.yld (y_fldR fld46_1 rfl)) rfl ?_
            refine QJ.step (YldS.yld (y_loadR (k := 1) (i := (Int.toNat r13.2.1)) (off := 1) (u := .int .i64 e109.stock) rfl Tryd.isAgg2 rfl (idx_get h110) rfl)) rfl ?_
            refine QJ.step (YldS.yld (y_move rfl)) rfl ?_
            refine QJ.step (YldS.yld (y_bin rfl rfl rfl)) rfl ?_
            refine QJ.done ?_
            refine PJ.next ?_
            refine WJ.cond (t := decide (e109.stock < r7.2.2)) rfl (fun hb111 => ?_) (fun hb111 => ?_)
            · replace hm := ifT hm hb111
              refine WJ.seq ?_
              refine WJ.quiet ?_
              refine QJ.step (YldS.yld (y_assign rfl)) rfl ?_
              refine QJ.done ?_
              refine PJ.next ?_
              refine WJ.ret ?_
              refine PJ.then_ret ?_
              obtain rfl := Option.some.inj hm
              refine PJ.sel (L' := []) [] ⟨List.nodup_nil, rfl⟩ ?_
              exact PJ.retn (vs := [.bool false]) Tryd.results4 ⟨rfl, trivial⟩ ⟨rfl, rfl⟩
            · replace hm := ifF hm hb111
              refine WJ.skip ?_
              refine PJ.next ?_
              refine WJ.seq ?_
              refine WJ.quiet ?_
              refine QJ.step (YldS.yld (y_move rfl)) rfl ?_
              refine QJ.step (YldS.yld (y_assign rfl)) rfl ?_
              refine QJ.done ?_
              refine PJ.next ?_
              obtain ⟨kj112, hk113, hm⟩ := withK_open hm
              refine WJ.join (X := Unit) (fun (_ : Unit) => kj112  = some r) (fun (_ : Unit) => [(3, v9), (5, .int .i64 r7.2.2), (6, v12), (10, .int .i64 r13.2.1)]) (fun (_ : Unit) => [row v12 46 fSparePart r10.1, row v9 46 fSparePart r7.1]) ?_ ?_
              · clear hk113
                refine WJ.block ?_
                refine WJ.sel (L' := (fun (x : Int) => [row v12 46 fSparePart r10.1, row v9 46 fSparePart r7.1]) r7.2.1) [0, 1] ⟨by decide, rfl⟩ ?_
                refine WJ.sub (m' := (fun (x : Int) => [(3, v9), (5, .int .i64 r7.2.2), (6, v12), (10, .int .i64 r13.2.1), (30, .int .i64 x)]) r7.2.1) ⟨rfl, rfl, rfl, rfl, rfl, trivial⟩ ?_
                refine WJ.loop (X := Int) (fun N (x : Int) => w_FnReplacements_l2 kj112 r7 r13 N x = some r) (fun (x : Int) => [(3, v9), (5, .int .i64 r7.2.2), (6, v12), (10, .int .i64 r13.2.1), (30, .int .i64 x)]) (fun (x : Int) => [row v12 46 fSparePart r10.1, row v9 46 fSparePart r7.1]) ?_ N r7.2.1 hm
                · rintro N at114 hI
                  have hm := hI; clear hI
                  cases N with
                  | zero => cases hm
                  | succ N =>
                  unfold w_FnReplacements_l2 at hm
                  refine WJ.seq ?_
                  refine WJ.seq ?_
                  refine WJ.quiet ?_
                  refine QJ.step (YldS.yld (y_move rfl)) rfl ?_
                  refine QJ.step (YldS.yld (y_move rfl)) rfl ?_
                  refine QJ.step (YldS.yld (y_bin rfl rfl rfl)) rfl ?_
                  refine QJ.done ?_
                  refine PJ.next ?_
                  refine WJ.cond (t := (at114 != r13.2.1)) rfl (fun hb115 => ?_) (fun hb115 => ?_)
                  · replace hm := ifT hm hb115
                    refine WJ.skip ?_
                    refine PJ.next ?_
                    refine WJ.block ?_
                    refine WJ.seq ?_
                    refine WJ.seq ?_
                    refine WJ.quiet ?_
                    refine QJ.step (YldS.yld (y_move rfl)) rfl ?_
                    refine QJ.step (YldS.yld (y_move rfl)) rfl ?_
                    obtain ⟨e116, h117, hm⟩ := bindS hm
                    refine QJ.step (YldS.yld (y_ixRow (k := 1) (R := fSparePart) rfl Tryd.runUnderlying25 Tryd.sizeOf46 rfl rfl h117)) rfl ?_
                    refine QJ.step (YldS.yld (y_fldR fld46_1 rfl)) rfl ?_
                    refine QJ.step (YldS.yld (y_loadR (k := 1) (i := (Int.toNat at114)) (off := 1) (u := .int .i64 e116.stock) rfl Tryd.isAgg2 rfl (idx_get h117) rfl)) rfl ?_
                    refine QJ.step (YldS.yld (y_move rfl)) rfl ?_
                    refine QJ.step (YldS.yld (y_bin rfl rfl rfl)) rfl ?_
                    refine QJ.step (YldS.yld (y_move rfl)) rfl ?_
                    obtain ⟨t118, h119, hm⟩ := bindS hm
                    refine QJ.cut 7 [(3, v9), (5, .int .i64 r7.2.2), (6, v12), (10, .int .i64 r13.2.1), (30, .int .i64 at114), (233, .bool t118)] ?_ ?_
                    · rcases Bool.eq_false_or_eq_true (decide (e116.stock ≥ r7.2.2)) with hb120 | hb120
                      · obtain rfl := orT h119 hb120
                        refine QJ.off rfl rfl (cB hb120) rfl rfl ?_
                        refine QJ.off rfl rfl (cB hb120) rfl rfl ?_
                        refine QJ.off rfl rfl (cB hb120) rfl rfl ?_
                        refine QJ.off rfl rfl (cB hb120) rfl rfl ?_
                        refine QJ.off rfl rfl (cB hb120) rfl rfl ?_
                        refine QJ.off rfl rfl (cB hb120) rfl rfl ?_
                        refine QJ.step (YldS.yld (y_pick_t (cB hb120) rfl)) rfl ?_
                        exact QJ.cut_end ⟨rfl, rfl, rfl, rfl, rfl, rfl, trivial⟩
                      · replace h119 := orF h119 hb120
                        refine QJ.on rfl rfl (cB hb120) (YldS.yld (y_move rfl)) rfl ?_
                        refine QJ.on rfl rfl (cB hb120) (YldS.yld (y_move rfl)) rfl ?_
                        obtain ⟨e121, h122, h119⟩ := bindS h119
                        refine QJ.on rfl rfl (cB hb120) (YldS.yld (y_ixRow (k := 1) (R := fSparePart) rfl Tryd.runUnderlying25 Tryd.sizeOf46 rfl rfl h122)) rfl ?_
                        refine QJ.on rfl rfl (cB hb120) (YldS.yld (y_fldR fld46_4 rfl)) rfl ?_
                        refine QJ.on rfl rfl (cB hb120) (YldS.yld (y_loadR (k := 1) (i := (Int.toNat at114)) (off := 4) (u := .int .i64 e121.instead) rfl Tryd.isAgg2 rfl (idx_get h122) rfl)) rfl ?_
                        refine QJ.on rfl rfl (cB hb120) (YldS.yld (y_bin rfl rfl rfl)) rfl ?_
                        refine QJ.step (YldS.yld (y_pick_f (cB hb120) rfl)) rfl ?_
                        obtain rfl := Option.some.inj h119
                        exact QJ.cut_end ⟨rfl, rfl, rfl, rfl, rfl, rfl, trivial⟩
                    refine QJ.done ?_
                    refine PJ.next ?_
                    refine WJ.cond (t := t118) rfl (fun hb123 => ?_) (fun hb123 => ?_)
                    · replace hm := ifT hm hb123
                      refine WJ.seq ?_
                      refine WJ.quiet ?_
                      refine QJ.step (YldS.yld (y_assign rfl)) rfl ?_
                      refine QJ.done ?_
                      refine PJ.next ?_
                      refine WJ.ret ?_
                      refine PJ.then_ret (PJ.block_ret (PJ.then_ret (PJ.block_ret (PJ.then_ret ?_))))
                      obtain rfl := Option.some.inj hm
                      refine PJ.sel (L' := []) [] ⟨List.nodup_nil, rfl⟩ ?_
                      exact PJ.retn (vs := [.bool false]) Tryd.results4 ⟨rfl, trivial⟩ ⟨rfl, rfl⟩
                    · replace hm := ifF hm hb123
                      refine WJ.skip ?_
                      refine PJ.next ?_
                      refine WJ.quiet ?_
                      refine QJ.step (YldS.yld (y_move rfl)) rfl ?_
                      refine QJ.step (YldS.yld (y_move rfl)) rfl ?_
                      obtain ⟨e124, h125, hm⟩ := bindS hm
                      refine QJ.step (YldS.yld (y_ixRow (k := 1) (R := fSparePart) rfl Tryd.runUnderlying25 Tryd.sizeOf46 rfl rfl h125)) rfl ?_
                      refine QJ.step (YldS.yld (y_fldR fld46_4 rfl)) rfl ?_
                      refine QJ.step (YldS.yld (y_loadR (k := 1) (i := (Int.toNat at114)) (off := 4) (u := .int .i64 e124.instead) rfl Tryd.isAgg2 rfl (idx_get h125) rfl)) rfl ?_
                      refine QJ.step (YldS.yld (y_assign rfl)) rfl ?_
                      refine QJ.done ?_
                      refine PJ.block_normal ?_
                      exact PJ.round e124.instead [0, 1] hm ⟨rfl, rfl, rfl, rfl, rfl, trivial⟩ ⟨by decide, rfl⟩
                  · replace hm := ifF hm hb115
                    refine WJ.exit ?_
                    refine PJ.then_exit (PJ.then_exit (PJ.block_exit ?_))
                    exact PJ.joined () [0, 1] hm ⟨rfl, rfl, rfl, rfl, trivial⟩ ⟨by decide, rfl⟩
              · rintro _ hm
                subst hk113
                refine WJ.seq ?_
                refine WJ.reg ?_
                refine SJ.q (YldS.yld (y_move rfl)) rfl ?_
                refine SJ.q (YldS.yld (y_move rfl)) rfl ?_
                refine SJ.q (YldS.yld (y_move rfl)) rfl ?_
                obtain ⟨r126, h127, hm⟩ := bindS hm
                refine SJ.call Tryd.call17 rfl (fun w hw => ok_i_BringParts h127 w _ (hw.row_rd (k := 0) rfl)) rfl ?_
                rintro _ _ ⟨v128, rfl, rfl⟩
                refine SJ.q (YldS.yld (y_move rfl)) rfl ?_
                refine SJ.q (YldS.yld (y_extract rfl rfl)) rfl ?_
                refine SJ.q (YldS.yld (y_extract rfl rfl)) rfl ?_
                refine SJ.q (YldS.yld (y_assign rfl)) rfl ?_
                refine SJ.q (YldS.yld (y_assign rfl)) rfl ?_
                refine SJ.nil ?_
                refine PJ.next ?_
                refine WJ.seq ?_
                refine WJ.quiet ?_
                refine QJ.step (YldS.yld (y_move rfl)) rfl ?_
                refine QJ.step (YldS.yld (y_bin rfl rfl rfl)) rfl ?_
                refine QJ.step (YldS.yld (y_move rfl)) rfl ?_
                obtain ⟨t129, h130, hm⟩ := bindS hm
                refine QJ.cut 4 [(252, .bool t129)] ?_ ?_
                · rcases Bool.eq_false_or_eq_true (r126.2 == 0) with hb131 | hb131
                  · replace h130 := andT h130 hb131
                    refine QJ.on rfl rfl (cB hb131) (YldS.yld (y_move rfl)) rfl ?_
                    refine QJ.on rfl rfl (cB hb131) (YldS.yld (y_move rfl)) rfl ?_
                    obtain ⟨r132, h133, h130⟩ := bindS h130
                    refine QJ.on rfl rfl (cB hb131) (y_call Tryd.call22 rfl (RetG.quiet fun w hw => ok_s_SameParts h133 w _ (hw.row_rd (k := 0) rfl) _ (hw.row_rd (k := 2) rfl))) rfl ?_
                    refine QJ.step (YldS.yld (y_pick_t (cB hb131) rfl)) rfl ?_
                    obtain rfl := Option.some.inj h130
                    exact QJ.cut_end ⟨rfl, trivial⟩
                  · obtain rfl := andF h130 hb131
                    refine QJ.off rfl rfl (cB hb131) rfl rfl ?_
                    refine QJ.off rfl rfl (cB hb131) rfl rfl ?_
                    refine QJ.off rfl rfl (cB hb131) rfl rfl ?_
                    refine QJ.step (YldS.yld (y_pick_f (cB hb131) rfl)) rfl ?_
                    exact QJ.cut_end ⟨rfl, trivial⟩
                refine QJ.step (YldS.yld (y_assign rfl)) rfl ?_
                refine QJ.done ?_
                refine PJ.next ?_
                refine WJ.ret ?_
                obtain rfl := Option.some.inj hm
                refine PJ.sel (L' := []) [] ⟨List.nodup_nil, rfl⟩ ?_
                exact PJ.retn (vs := [.bool t129]) Tryd.results4 ⟨rfl, trivial⟩ ⟨rfl, rfl⟩

end Go.Proofs.YtdnnnakjhehfkaaDoor
