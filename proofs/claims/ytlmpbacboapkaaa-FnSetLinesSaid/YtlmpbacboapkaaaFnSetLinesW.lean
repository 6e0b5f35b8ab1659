/-
  The walks: a call hands back what its plain function computes, where that has a value. No other conditions.
-/
import Derived.Test.YtlmpbacboapkaaaFnSetLinesM
import Derived.Test.YtlmpbacboapkaaaChecked
import Derived.Test.YtlmpbacboapkaaaFnSetLinesS
namespace Go.Proofs.Ytlmpbacboapkaaa
open Go.RowKit Go.Proofs
set_option linter.unusedVariables false
set_option linter.unusedSimpArgs false

theorem follows : Try.prog.follows .mixedOrders = true := by kernel_rfl

theorem pl121 : PlacesOk Try.prog 121 [(0, 1), (1, 1), (2, 1)] := ⟨_, Try.runUnderlying121, fun w => by simp [Try.sizeOf3, Try.sizeOf22, Try.sizeOf119]⟩
theorem fld121_1 : FieldOk Try.prog 121 1 1 3 0 := ⟨_, _, Try.runUnderlying121, rfl, rfl, rfl, Try.sizeOf3⟩
theorem fld121_0 : FieldOk Try.prog 121 0 0 22 0 := ⟨_, _, Try.runUnderlying121, rfl, rfl, rfl, Try.sizeOf22⟩
theorem fld121_2 : FieldOk Try.prog 121 2 2 119 0 := ⟨_, _, Try.runUnderlying121, rfl, rfl, rfl, Try.sizeOf119⟩
set_option maxRecDepth 100000 in
theorem el5 : ElemOk Try.prog 5 1 (fByte.enc 0) := ⟨_, _, Try.type5, rfl, rfl, rfl, by decide⟩
set_option maxRecDepth 100000 in
theorem el9 : ElemOk Try.prog 9 1 (fStr.enc []) := ⟨_, _, Try.type9, rfl, rfl, rfl, by decide⟩
set_option maxRecDepth 100000 in
theorem el2 : ElemOk Try.prog 2 1 (fI64.enc 0) := ⟨_, _, Try.type2, rfl, rfl, rfl, by decide⟩
set_option maxRecDepth 100000 in
theorem el24 : ElemOk Try.prog 24 1 [.slice none 0 0] := ⟨_, _, Try.type24, rfl, rfl, rfl, by decide⟩
set_option maxRecDepth 100000 in
theorem el8_5 : Elem8 Try.prog 5 := ⟨_, Try.type5, rfl, rfl, rfl⟩

set_option maxRecDepth 100000 in
set_option maxHeartbeats 1000000 in
theorem ok_w_a2Long {code1 : List UInt8} {more4 : List UInt8} {r : Bool} (hm : w_a2Long code1 more4 = some r) (w : World) (v2 : Value) (hr3 : RdS w (cx w).Fz v2 fByte.rp code1) (v5 : Value) (hr6 : RdS w (cx w).Fz v5 fByte.rp more4) :
    Calls Try.prog 7 #[v2, v5] w (Ret (cx w) (.bool r)) := by
  unfold w_a2Long at hm
  refine Calls.enter [v2, v5] Try.func7 rfl Try.ntmps7 rfl ?_
  refine WJ.seq ?_
  refine WJ.quiet ?_
  refine QJ.step (YldS.yld (y_assign rfl)) rfl ?_
  refine QJ.done ?_
  refine PJ.next ?_
  refine WJ.seq ?_
  refine WJ.quiet ?_
  refine QJ.step (YldS.yld (y_move rfl)) rfl ?_
  refine QJ.step (YldS.yld (y_lenS Try.runUnderlying22 hr3 rfl)) rfl ?_
  refine QJ.step (YldS.yld (y_bin rfl rfl rfl)) rfl ?_
  refine QJ.step (YldS.yld (y_move rfl)) rfl ?_
  obtain ⟨t7, h8, hm⟩ := bindS hm
  refine QJ.cut 4 [(12, .bool t7)] ?_ ?_
  · rcases Bool.eq_false_or_eq_true (decide ((List.length code1 : Int) > 3000)) with hb9 | hb9
    · obtain rfl := orT h8 hb9
      refine QJ.off rfl rfl (cB hb9) rfl rfl ?_
      refine QJ.off rfl rfl (cB hb9) rfl rfl ?_
      refine QJ.off rfl rfl (cB hb9) rfl rfl ?_
      refine QJ.step (YldS.yld (y_pick_t (cB hb9) rfl)) rfl ?_
      exact QJ.cut_end ⟨rfl, trivial⟩
    · replace h8 := orF h8 hb9
      refine QJ.on rfl rfl (cB hb9) (YldS.yld (y_move rfl)) rfl ?_
      refine QJ.on rfl rfl (cB hb9) (YldS.yld (y_lenS Try.runUnderlying22 hr6 rfl)) rfl ?_
      refine QJ.on rfl rfl (cB hb9) (YldS.yld (y_bin rfl rfl rfl)) rfl ?_
      refine QJ.step (YldS.yld (y_pick_f (cB hb9) rfl)) rfl ?_
      obtain rfl := Option.some.inj h8
      exact QJ.cut_end ⟨rfl, trivial⟩
  refine QJ.step (YldS.yld (y_assign rfl)) rfl ?_
  refine QJ.done ?_
  refine PJ.next ?_
  refine WJ.ret ?_
  obtain rfl := Option.some.inj hm
  refine PJ.sel (L' := []) [] ⟨List.nodup_nil, rfl⟩ ?_
  exact PJ.retn (vs := [.bool t7]) Try.results7 ⟨rfl, trivial⟩ ⟨rfl, rfl⟩

set_option maxRecDepth 100000 in
set_option maxHeartbeats 1000000 in
theorem ok_s_l00From {code1 : List UInt8} {r : L00Src} (hm : s_l00From code1 = some r) (w : World) (v2 : Value) (hr3 : RdS w (cx w).Fz v2 fByte.rp code1) :
    Calls Try.prog 64 #[v2] w (RetG (cx w) fun u L => ∃ (u1 : Nat), (u = pt u1 0 ∧ L = [box u1 121 [v2, .int .i64 r.at_, .int .u64 r.seed]])) := by
  unfold s_l00From at hm
  refine Calls.enter [v2] Try.func64 rfl Try.ntmps64 rfl ?_
  refine WJ.seq ?_
  refine WJ.quiet ?_
  refine QJ.step (YldS.yld (y_assign rfl)) rfl ?_
  refine QJ.done ?_
  refine PJ.next ?_
  refine WJ.seq ?_
  refine WJ.reg ?_
  refine SJ.q (YldS.yld (y_move rfl)) rfl ?_
  refine SJ.q (YldS.yld (y_build (parts := [(0, .tmp 3)]) (places := [(0, 1), (1, 1), (2, 1)]) (r := [v2, .int .i64 0, .int .u64 0]) pl121 Try.zeroValue121 rfl rfl (show _ = [(0, [v2])] from by simp only [List.map, RdS.cells1 hr3]) rfl)) rfl ?_
  refine SJ.box (cs := [v2, .int .i64 0, .int .u64 0]) rfl rfl rfl fun g4 => ?_
  refine SJ.q (YldS.yld (y_assign rfl)) rfl ?_
  refine SJ.nil ?_
  refine PJ.next ?_
  refine WJ.ret ?_
  obtain rfl := Option.some.inj hm
  refine PJ.sel (L' := [box g4 121 [v2, .int .i64 0, .int .u64 0]]) [0] ⟨by decide, rfl⟩ ?_
  exact PJ.retn (vs := [pt g4 0]) Try.results64 ⟨rfl, trivial⟩ ⟨_, rfl, rfl⟩

set_option maxRecDepth 100000 in
set_option maxHeartbeats 1000000 in
theorem ok_s_l00Src_next {s1 : L00Src} {g2 : Nat} {r : Int × L00Src} (hm : s_l00Src_next s1 = some r) (w : World) (S : Nat → Prop) (v3 : Value) (hr4 : RdS w (Cx.Fz ⟨w, S⟩) v3 fByte.rp s1.code) (hA : (box g2 121 [v3, .int .i64 s1.at_, .int .u64 s1.seed]).holds w S) :
    Calls Try.prog 124 #[pt g2 0] w (RetG ⟨w, S⟩ fun u L => (u = .int .i64 r.1 ∧ L = [box g2 121 [v3, .int .i64 r.2.at_, .int .u64 r.2.seed]])) := by
  unfold s_l00Src_next at hm
  refine Calls.enter1 hA [pt g2 0] Try.func124 rfl Try.ntmps124 rfl ?_
  refine WJ.seq ?_
  refine WJ.quiet ?_
  refine QJ.step (YldS.yld (y_assign rfl)) rfl ?_
  refine QJ.done ?_
  refine PJ.next ?_
  refine WJ.seq ?_
  refine WJ.quiet ?_
  refine QJ.step (YldS.yld (y_assign rfl)) rfl ?_
  refine QJ.done ?_
  refine PJ.next ?_
  obtain ⟨kj6, hk7, hm⟩ := withK_open hm
  refine WJ.join (X := Int) (fun (x : Int) => kj6 x = some r) (fun (x : Int) => [(0, pt g2 0), (3, .int .i64 x)]) (fun (x : Int) => [box g2 121 [v3, .int .i64 s1.at_, .int .u64 s1.seed]]) ?_ ?_
  · clear hk7
    refine WJ.seq ?_
    refine WJ.quiet_draw follows (by kernel_rfl) ?_
    refine QJ.step (YldS.yld (y_move rfl)) rfl ?_
    refine QJ.step (YldS.yld (y_nil rfl)) rfl ?_
    refine QJ.step (YldS.yld (y_fldB (o := 0) fld121_1 rfl)) rfl ?_
    refine QJ.step (YldS.yld (y_loadB (k := 0) (off := 1) (v := .int .i64 s1.at_) rfl Try.isAgg3 rfl rfl)) rfl ?_
    refine QJ.step (YldS.yld (y_move rfl)) rfl ?_
    refine QJ.step (YldS.yld (y_nil rfl)) rfl ?_
    refine QJ.step (YldS.yld (y_fldB (o := 0) fld121_0 rfl)) rfl ?_
    refine QJ.step (YldS.yld (y_loadB (k := 0) (off := 0) (v := v3) rfl Try.isAgg22 rfl rfl)) rfl ?_
    refine QJ.step (YldS.yld (y_lenS Try.runUnderlying22 hr4 rfl)) rfl ?_
    refine QJ.step (YldS.yld (y_bin rfl rfl rfl)) rfl ?_
    refine QJ.done ?_
    refine PJ.next ?_
    refine WJ.cond (t := decide (s1.at_ < (List.length s1.code : Int))) rfl (fun hb8 => ?_) (fun hb8 => ?_)
    · replace hm := ifT hm hb8
      refine WJ.quiet_draw follows (by kernel_rfl) ?_
      refine QJ.step (YldS.yld (y_move rfl)) rfl ?_
      refine QJ.step (YldS.yld (y_nil rfl)) rfl ?_
      refine QJ.step (YldS.yld (y_fldB (o := 0) fld121_0 rfl)) rfl ?_
      refine QJ.step (YldS.yld (y_loadB (k := 0) (off := 0) (v := v3) rfl Try.isAgg22 rfl rfl)) rfl ?_
      refine QJ.step (YldS.yld (y_move rfl)) rfl ?_
      refine QJ.step (YldS.yld (y_nil rfl)) rfl ?_
      refine QJ.step (YldS.yld (y_fldB (o := 0) fld121_1 rfl)) rfl ?_
      refine QJ.step (YldS.yld (y_loadB (k := 0) (off := 1) (v := .int .i64 s1.at_) rfl Try.isAgg3 rfl rfl)) rfl ?_
      obtain ⟨e9, h10, hm⟩ := bindS hm
      obtain ⟨ad11, _, rfl, ha12, hy13⟩ := hr4.elem h10
      refine QJ.step (YldS.yld (hy13 Try.runUnderlying22 Try.sizeOf5 rfl rfl)) rfl ?_
      refine QJ.step (YldS.yld (y_load1 (v := .int .u8 (UInt8.toNat e9 : Int)) Try.isAgg5 ha12 St.frozenC rfl)) rfl ?_
      refine QJ.step (YldS.yld (y_conv8 Try.runUnderlying5 Try.runUnderlying3 rfl)) rfl ?_
      refine QJ.step (YldS.yld (y_assign rfl)) rfl ?_
      refine QJ.done ?_
      exact PJ.joined (UInt8.toNat e9 : Int) [0] hm ⟨rfl, rfl, trivial⟩ ⟨by decide, rfl⟩
    · replace hm := ifF hm hb8
      refine WJ.skip ?_
      exact PJ.joined 0 [0] hm ⟨rfl, rfl, trivial⟩ ⟨by decide, rfl⟩
  · rintro b5 hm
    subst hk7
    refine WJ.seq ?_
    refine WJ.reg ?_
    refine SJ.q (YldS.yld (y_move rfl)) rfl ?_
    refine SJ.q (YldS.yld (y_nil rfl)) rfl ?_
    refine SJ.q (YldS.yld (y_fldB (o := 0) fld121_1 rfl)) rfl ?_
    refine SJ.q (YldS.yld (y_loadB (k := 0) (off := 1) (v := .int .i64 s1.at_) rfl Try.isAgg3 rfl rfl)) rfl ?_
    refine SJ.q (YldS.yld (y_bin rfl rfl rfl)) rfl ?_
    refine SJ.q (YldS.yld (y_nil rfl)) rfl ?_
    refine SJ.q (YldS.yld (y_fldB (o := 0) fld121_1 rfl)) rfl ?_
    refine SJ.storeL (k := 0) (off := 1) (us := [.int .i64 (w64 (s1.at_ + 1))]) rfl rfl rfl rfl Try.sizeOf3 rfl rfl ?_
    refine SJ.nil ?_
    refine PJ.next ?_
    refine WJ.seq ?_
    refine WJ.reg ?_
    refine SJ.q (YldS.yld (y_move rfl)) rfl ?_
    refine SJ.q (YldS.yld (y_move rfl)) rfl ?_
    refine SJ.q (YldS.yld (y_nil rfl)) rfl ?_
    refine SJ.q (YldS.yld (y_fldB (o := 0) fld121_2 rfl)) rfl ?_
    refine SJ.q (YldS.yld (y_loadB (k := 0) (off := 2) (v := .int .u64 s1.seed) rfl Try.isAgg119 rfl rfl)) rfl ?_
    refine SJ.q (YldS.yld (y_bin rfl rfl rfl)) rfl ?_
    refine SJ.q (YldS.yld (y_move rfl)) rfl ?_
    refine SJ.q (YldS.yld (y_convI Try.runUnderlying3 Try.runUnderlying119 rfl)) rfl ?_
    refine SJ.q (YldS.yld (y_bin rfl rfl rfl)) rfl ?_
    refine SJ.q (YldS.yld (y_bin rfl rfl rfl)) rfl ?_
    refine SJ.q (YldS.yld (y_nil rfl)) rfl ?_
    refine SJ.q (YldS.yld (y_fldB (o := 0) fld121_2 rfl)) rfl ?_
    refine SJ.storeL (k := 0) (off := 2) (us := [.int .u64 (IntKind.u64.wrap ((IntKind.u64.wrap ((IntKind.u64.wrap (s1.seed * 6364136223846793005)) + (IntKind.u64.wrap b5))) + 1442695040888963407))]) rfl rfl rfl rfl Try.sizeOf119 rfl rfl ?_
    refine SJ.nil ?_
    refine PJ.next ?_
    refine WJ.seq ?_
    refine WJ.seq ?_
    refine WJ.quiet_draw follows (by kernel_rfl) ?_
    refine QJ.step (YldS.yld (y_move rfl)) rfl ?_
    refine QJ.step (YldS.yld (y_nil rfl)) rfl ?_
    refine QJ.step (YldS.yld (y_fldB (o := 0) fld121_1 rfl)) rfl ?_
    refine QJ.step (YldS.yld (y_loadB (k := 0) (off := 1) (v := .int .i64 (w64 (s1.at_ + 1))) rfl Try.isAgg3 rfl rfl)) rfl ?_
    refine QJ.step (YldS.yld (y_move rfl)) rfl ?_
    refine QJ.step (YldS.yld (y_nil rfl)) rfl ?_
    refine QJ.step (YldS.yld (y_fldB (o := 0) fld121_0 rfl)) rfl ?_
    refine QJ.step (YldS.yld (y_loadB (k := 0) (off := 0) (v := v3) rfl Try.isAgg22 rfl rfl)) rfl ?_
    refine QJ.step (YldS.yld (y_lenS Try.runUnderlying22 hr4 rfl)) rfl ?_
    refine QJ.step (YldS.yld (y_bin rfl rfl rfl)) rfl ?_
    refine QJ.done ?_
    refine PJ.next ?_
    refine WJ.cond (t := decide ((w64 (s1.at_ + 1)) ≤ (List.length s1.code : Int))) rfl (fun hb14 => ?_) (fun hb14 => ?_)
    · replace hm := ifT hm hb14
      refine WJ.seq ?_
      refine WJ.quiet ?_
      refine QJ.step (YldS.yld (y_move rfl)) rfl ?_
      refine QJ.step (YldS.yld (y_assign rfl)) rfl ?_
      refine QJ.done ?_
      refine PJ.next ?_
      refine WJ.ret ?_
      refine PJ.then_ret ?_
      obtain rfl := Option.some.inj hm
      refine PJ.sel (L' := [box g2 121 [v3, .int .i64 (w64 (s1.at_ + 1)), .int .u64 (IntKind.u64.wrap ((IntKind.u64.wrap ((IntKind.u64.wrap (s1.seed * 6364136223846793005)) + (IntKind.u64.wrap b5))) + 1442695040888963407))]]) [0] ⟨by decide, rfl⟩ ?_
      exact PJ.retn (vs := [.int .i64 b5]) Try.results124 ⟨rfl, trivial⟩ ⟨rfl, rfl⟩
    · replace hm := ifF hm hb14
      refine WJ.skip ?_
      refine PJ.next ?_
      refine WJ.seq ?_
      refine WJ.quiet ?_
      refine QJ.step (YldS.yld (y_move rfl)) rfl ?_
      refine QJ.step (YldS.yld (y_nil rfl)) rfl ?_
      refine QJ.step (YldS.yld (y_fldB (o := 0) fld121_2 rfl)) rfl ?_
      refine QJ.step (YldS.yld (y_loadB (k := 0) (off := 2) (v := .int .u64 (IntKind.u64.wrap ((IntKind.u64.wrap ((IntKind.u64.wrap (s1.seed * 6364136223846793005)) + (IntKind.u64.wrap b5))) + 1442695040888963407))) rfl Try.isAgg119 rfl rfl)) rfl ?_
      refine QJ.step (YldS.yld (y_shru rfl rfl rfl)) rfl ?_
      refine QJ.step (YldS.yld (y_andu rfl rfl rfl)) rfl ?_
      refine QJ.step (YldS.yld (y_convI Try.runUnderlying119 Try.runUnderlying2 rfl)) rfl ?_
      refine QJ.step (YldS.yld (y_assign rfl)) rfl ?_
      refine QJ.done ?_
      refine PJ.next ?_
      refine WJ.ret ?_
      obtain rfl := Option.some.inj hm
      refine PJ.sel (L' := [box g2 121 [v3, .int .i64 (w64 (s1.at_ + 1)), .int .u64 (IntKind.u64.wrap ((IntKind.u64.wrap ((IntKind.u64.wrap (s1.seed * 6364136223846793005)) + (IntKind.u64.wrap b5))) + 1442695040888963407))]]) [0] ⟨by decide, rfl⟩ ?_
      exact PJ.retn (vs := [.int .i64 (w64 (uand (ushr (IntKind.u64.wrap ((IntKind.u64.wrap ((IntKind.u64.wrap (s1.seed * 6364136223846793005)) + (IntKind.u64.wrap b5))) + 1442695040888963407)) 40) 255))]) Try.results124 ⟨rfl, trivial⟩ ⟨rfl, rfl⟩

set_option maxRecDepth 100000 in
set_option maxHeartbeats 1000000 in
theorem ok_s_l00Src_pick {s1 : L00Src} {n5 : Int} {g2 : Nat} {r : Int × L00Src} (hm : s_l00Src_pick s1 n5 = some r) (w : World) (S : Nat → Prop) (v3 : Value) (hr4 : RdS w (Cx.Fz ⟨w, S⟩) v3 fByte.rp s1.code) (hA : (box g2 121 [v3, .int .i64 s1.at_, .int .u64 s1.seed]).holds w S) :
    Calls Try.prog 82 #[pt g2 0, .int .i64 n5] w (RetG ⟨w, S⟩ fun u L => (u = .int .i64 r.1 ∧ L = [box g2 121 [v3, .int .i64 r.2.at_, .int .u64 r.2.seed]])) := by
  unfold s_l00Src_pick at hm
  refine Calls.enter1 hA [pt g2 0, .int .i64 n5] Try.func82 rfl Try.ntmps82 rfl ?_
  refine WJ.seq ?_
  refine WJ.quiet ?_
  refine QJ.step (YldS.yld (y_assign rfl)) rfl ?_
  refine QJ.done ?_
  refine PJ.next ?_
  refine WJ.seq ?_
  refine WJ.seq ?_
  refine WJ.quiet ?_
  refine QJ.step (YldS.yld (y_move rfl)) rfl ?_
  refine QJ.step (YldS.yld (y_bin rfl rfl rfl)) rfl ?_
  refine QJ.done ?_
  refine PJ.next ?_
  refine WJ.cond (t := decide (n5 ≤ 1)) rfl (fun hb6 => ?_) (fun hb6 => ?_)
  · replace hm := ifT hm hb6
    refine WJ.seq ?_
    refine WJ.quiet ?_
    refine QJ.step (YldS.yld (y_assign rfl)) rfl ?_
    refine QJ.done ?_
    refine PJ.next ?_
    refine WJ.ret ?_
    refine PJ.then_ret ?_
    obtain rfl := Option.some.inj hm
    refine PJ.sel (L' := [box g2 121 [v3, .int .i64 s1.at_, .int .u64 s1.seed]]) [0] ⟨by decide, rfl⟩ ?_
    exact PJ.retn (vs := [.int .i64 0]) Try.results82 ⟨rfl, trivial⟩ ⟨rfl, rfl⟩
  · replace hm := ifF hm hb6
    refine WJ.skip ?_
    refine PJ.next ?_
    refine WJ.seq ?_
    refine WJ.reg ?_
    refine SJ.q (YldS.yld (y_move rfl)) rfl ?_
    obtain ⟨r7, h8, hm⟩ := bindS hm
    refine SJ.call1 (k := 0) rfl Try.call124 rfl (fun w S hw hA hO => ok_s_l00Src_next h8 w S _ (hr4.st1 hw hO) hA) rfl ?_
    rintro _ _ ⟨rfl, rfl⟩
    refine SJ.q (YldS.yld (y_assign rfl)) rfl ?_
    refine SJ.nil ?_
    refine PJ.next ?_
    obtain ⟨kj12, hk13, hm⟩ := withK_open hm
    refine WJ.join (X := Int × Int × Int) (fun (x : Int × Int × Int) => kj12 x.1 x.2.1 x.2.2 = some r) (fun (x : Int × Int × Int) => [(1, .int .i64 n5), (5, .int .i64 x.2.2)]) (fun (x : Int × Int × Int) => [box g2 121 [v3, .int .i64 x.1, .int .u64 x.2.1]]) ?_ ?_
    · clear hk13
      refine WJ.seq ?_
      refine WJ.quiet ?_
      refine QJ.step (YldS.yld (y_move rfl)) rfl ?_
      refine QJ.step (YldS.yld (y_bin rfl rfl rfl)) rfl ?_
      refine QJ.done ?_
      refine PJ.next ?_
      refine WJ.cond (t := decide (n5 > 200)) rfl (fun hb14 => ?_) (fun hb14 => ?_)
      · replace hm := ifT hm hb14
        refine WJ.reg ?_
        refine SJ.q (YldS.yld (y_move rfl)) rfl ?_
        refine SJ.q (YldS.yld (y_bin rfl rfl rfl)) rfl ?_
        refine SJ.q (YldS.yld (y_move rfl)) rfl ?_
        obtain ⟨r15, h16, hm⟩ := bindS hm
        refine SJ.call1 (k := 0) rfl Try.call124 rfl (fun w S hw hA hO => ok_s_l00Src_next h16 w S _ (hr4.st1 hw hO) hA) rfl ?_
        rintro _ _ ⟨rfl, rfl⟩
        refine SJ.q (YldS.yld (y_bin rfl rfl rfl)) rfl ?_
        refine SJ.q (YldS.yld (y_assign rfl)) rfl ?_
        refine SJ.nil ?_
        exact PJ.joined (r15.2.at_, r15.2.seed, w64 ((w64 (r7.1 * 256)) + r15.1)) [0] hm ⟨rfl, rfl, trivial⟩ ⟨by decide, rfl⟩
      · replace hm := ifF hm hb14
        refine WJ.skip ?_
        exact PJ.joined (r7.2.at_, r7.2.seed, r7.1) [0] hm ⟨rfl, rfl, trivial⟩ ⟨by decide, rfl⟩
    · rintro ⟨x9, x10, x11⟩ hm
      subst hk13
      refine WJ.seq ?_
      refine WJ.quiet ?_
      refine QJ.step (YldS.yld (y_move rfl)) rfl ?_
      refine QJ.step (YldS.yld (y_move rfl)) rfl ?_
      obtain ⟨q17, h18, hm⟩ := bindS hm
      refine QJ.step (YldS.yld (y_rem' h18 rfl rfl)) rfl ?_
      refine QJ.step (YldS.yld (y_assign rfl)) rfl ?_
      refine QJ.done ?_
      refine PJ.next ?_
      refine WJ.ret ?_
      obtain rfl := Option.some.inj hm
      refine PJ.sel (L' := [box g2 121 [v3, .int .i64 x9, .int .u64 x10]]) [0] ⟨by decide, rfl⟩ ?_
      exact PJ.retn (vs := [.int .i64 q17]) Try.results82 ⟨rfl, trivial⟩ ⟨rfl, rfl⟩

set_option maxRecDepth 100000 in
set_option maxHeartbeats 1000000 in
theorem ok_s_l00Min {a1 : Int} {b2 : Int} {r : Int} (hm : s_l00Min a1 b2 = some r) (w : World)  :
    Calls Try.prog 116 #[.int .i64 a1, .int .i64 b2] w (Ret (cx w) (.int .i64 r)) := by
  unfold s_l00Min at hm
  refine Calls.enter [.int .i64 a1, .int .i64 b2] Try.func116 rfl Try.ntmps116 rfl ?_
  refine WJ.seq ?_
  refine WJ.quiet ?_
  refine QJ.step (YldS.yld (y_assign rfl)) rfl ?_
  refine QJ.done ?_
  refine PJ.next ?_
  refine WJ.seq ?_
  refine WJ.seq ?_
  refine WJ.quiet ?_
  refine QJ.step (YldS.yld (y_move rfl)) rfl ?_
  refine QJ.step (YldS.yld (y_move rfl)) rfl ?_
  refine QJ.step (YldS.yld (y_bin rfl rfl rfl)) rfl ?_
  refine QJ.done ?_
  refine PJ.next ?_
  refine WJ.cond (t := decide (a1 < b2)) rfl (fun hb3 => ?_) (fun hb3 => ?_)
  · replace hm := ifT hm hb3
    refine WJ.seq ?_
    refine WJ.quiet ?_
    refine QJ.step (YldS.yld (y_move rfl)) rfl ?_
    refine QJ.step (YldS.yld (y_assign rfl)) rfl ?_
    refine QJ.done ?_
    refine PJ.next ?_
    refine WJ.ret ?_
    refine PJ.then_ret ?_
    obtain rfl := Option.some.inj hm
    refine PJ.sel (L' := []) [] ⟨List.nodup_nil, rfl⟩ ?_
    exact PJ.retn (vs := [.int .i64 a1]) Try.results116 ⟨rfl, trivial⟩ ⟨rfl, rfl⟩
  · replace hm := ifF hm hb3
    refine WJ.skip ?_
    refine PJ.next ?_
    refine WJ.seq ?_
    refine WJ.quiet ?_
    refine QJ.step (YldS.yld (y_move rfl)) rfl ?_
    refine QJ.step (YldS.yld (y_assign rfl)) rfl ?_
    refine QJ.done ?_
    refine PJ.next ?_
    refine WJ.ret ?_
    obtain rfl := Option.some.inj hm
    refine PJ.sel (L' := []) [] ⟨List.nodup_nil, rfl⟩ ?_
    exact PJ.retn (vs := [.int .i64 b2]) Try.results116 ⟨rfl, trivial⟩ ⟨rfl, rfl⟩

set_option maxRecDepth 100000 in
set_option maxHeartbeats 1000000 in
theorem ok_s_l09Draw {N : Nat} {s1 : L00Src} {g2 : Nat} {r : (List Str) × Int × L00Src} (hm : s_l09Draw N s1 = some r) (w : World) (S : Nat → Prop) (v3 : Value) (hr4 : RdS w (Cx.Fz ⟨w, S⟩) v3 fByte.rp s1.code) (hA : (box g2 121 [v3, .int .i64 s1.at_, .int .u64 s1.seed]).holds w S) :
    Calls Try.prog 63 #[pt g2 0] w (RetG ⟨w, S⟩ fun u L => ∃ (u1 : Value), (u = tup [u1, .int .i64 r.2.1] ∧ L = [box g2 121 [v3, .int .i64 r.2.2.at_, .int .u64 r.2.2.seed], row u1 9 fStr r.1])) := by
  unfold s_l09Draw at hm
  refine Calls.enter1 hA [pt g2 0] Try.func63 rfl Try.ntmps63 rfl ?_
  refine WJ.seq ?_
  refine WJ.quiet ?_
  refine QJ.step (YldS.yld (y_assign rfl)) rfl ?_
  refine QJ.step (YldS.yld (y_assign rfl)) rfl ?_
  refine QJ.done ?_
  refine PJ.next ?_
  refine WJ.seq ?_
  refine WJ.reg ?_
  refine SJ.q (YldS.yld (y_move rfl)) rfl ?_
  obtain ⟨r5, h6, hm⟩ := bindS hm
  refine SJ.call1 (k := 0) rfl Try.call82 rfl (fun w S hw hA hO => ok_s_l00Src_pick h6 w S _ (hr4.st1 hw hO) hA) rfl ?_
  rintro _ _ ⟨rfl, rfl⟩
  refine SJ.q (YldS.yld (y_bin rfl rfl rfl)) rfl ?_
  refine SJ.q (YldS.yld (y_assign rfl)) rfl ?_
  refine SJ.nil ?_
  refine PJ.next ?_
  refine WJ.seq ?_
  refine WJ.reg ?_
  refine SJ.buildSlice (R := fStr) (os := []) [] Try.runUnderlying24 Try.sizeOf9 Try.zeroValue9 rfl rfl rfl rfl rfl rfl fun v7 => ?_
  refine SJ.q (YldS.yld (y_assign rfl)) rfl ?_
  refine SJ.nil ?_
  refine PJ.next ?_
  obtain ⟨kj12, hk13, hm⟩ := withK_open hm
  refine WJ.join (X := Int × Int × (List Str) × Value) (fun (x : Int × Int × (List Str) × Value) => kj12 x.1 x.2.1 x.2.2.1 = some r) (fun (x : Int × Int × (List Str) × Value) => [(4, .int .i64 (w64 (5 + r5.1))), (5, x.2.2.2)]) (fun (x : Int × Int × (List Str) × Value) => [box g2 121 [v3, .int .i64 x.1, .int .u64 x.2.1], row x.2.2.2 9 fStr x.2.2.1]) ?_ ?_
  · clear hk13
    refine WJ.seq ?_
    refine WJ.reg ?_
    refine SJ.q (YldS.yld (y_move rfl)) rfl ?_
    obtain ⟨r14, h15, hm⟩ := bindS hm
    refine SJ.call1 (k := 1) rfl Try.call82 rfl (fun w S hw hA hO => ok_s_l00Src_pick h15 w S _ (hr4.st1 hw hO) hA) rfl ?_
    rintro _ _ ⟨rfl, rfl⟩
    refine SJ.q (YldS.yld (y_assign rfl)) rfl ?_
    refine SJ.nil ?_
    refine PJ.next ?_
    refine WJ.block ?_
    refine WJ.sel (L' := (fun (x : Int × Int × (List Str) × Value × Int) => [box g2 121 [v3, .int .i64 x.1, .int .u64 x.2.1], row x.2.2.2.1 9 fStr x.2.2.1]) (r14.2.at_, r14.2.seed, [], v7, r14.1)) [0, 1] ⟨by decide, rfl⟩ ?_
    refine WJ.sub (m' := (fun (x : Int × Int × (List Str) × Value × Int) => [(0, pt g2 0), (4, .int .i64 (w64 (5 + r5.1))), (5, x.2.2.2.1), (6, .int .i64 x.2.2.2.2)]) (r14.2.at_, r14.2.seed, [], v7, r14.1)) ⟨rfl, rfl, rfl, rfl, trivial⟩ ?_
    refine WJ.loop (X := Int × Int × (List Str) × Value × Int) (fun N (x : Int × Int × (List Str) × Value × Int) => s_l09Draw_l1 kj12 s1 r5 N x.1 x.2.1 x.2.2.1 x.2.2.2.2 = some r) (fun (x : Int × Int × (List Str) × Value × Int) => [(0, pt g2 0), (4, .int .i64 (w64 (5 + r5.1))), (5, x.2.2.2.1), (6, .int .i64 x.2.2.2.2)]) (fun (x : Int × Int × (List Str) × Value × Int) => [box g2 121 [v3, .int .i64 x.1, .int .u64 x.2.1], row x.2.2.2.1 9 fStr x.2.2.1]) ?_ N (r14.2.at_, r14.2.seed, [], v7, r14.1) hm
    · rintro N ⟨x16, x17, l18, v19, k20⟩ hI
      have hm := hI; clear hI
      cases N with
      | zero => cases hm
      | succ N =>
      unfold s_l09Draw_l1 at hm
      refine WJ.seq ?_
      refine WJ.seq ?_
      refine WJ.quiet ?_
      refine QJ.step (YldS.yld (y_move rfl)) rfl ?_
      refine QJ.step (YldS.yld (y_bin rfl rfl rfl)) rfl ?_
      refine QJ.done ?_
      refine PJ.next ?_
      refine WJ.cond (t := decide (k20 > 0)) rfl (fun hb21 => ?_) (fun hb21 => ?_)
      · replace hm := ifT hm hb21
        refine WJ.skip ?_
        refine PJ.next ?_
        obtain ⟨kj26, hk27, hm⟩ := withK_open hm
        refine WJ.join (X := Int × Int × (List Str) × Value) (fun (x : Int × Int × (List Str) × Value) => kj26 x.1 x.2.1 x.2.2.1 = some r) (fun (x : Int × Int × (List Str) × Value) => [(0, pt g2 0), (4, .int .i64 (w64 (5 + r5.1))), (5, x.2.2.2), (6, .int .i64 k20)]) (fun (x : Int × Int × (List Str) × Value) => [box g2 121 [v3, .int .i64 x.1, .int .u64 x.2.1], row x.2.2.2 9 fStr x.2.2.1]) ?_ ?_
        · clear hk27
          refine WJ.block ?_
          refine WJ.seq ?_
          refine WJ.reg ?_
          refine SJ.buildSlice (R := fByte) (os := []) [] Try.runUnderlying22 Try.sizeOf5 Try.zeroValue5 rfl rfl rfl rfl rfl rfl fun v28 => ?_
          refine SJ.q (YldS.yld (y_assign rfl)) rfl ?_
          refine SJ.nil ?_
          refine PJ.next ?_
          obtain ⟨kj33, hk34, hm⟩ := withK_open hm
          refine WJ.join (X := Int × Int × (List UInt8) × Value) (fun (x : Int × Int × (List UInt8) × Value) => kj33 x.1 x.2.1 x.2.2.1 = some r) (fun (x : Int × Int × (List UInt8) × Value) => [(0, pt g2 0), (4, .int .i64 (w64 (5 + r5.1))), (5, v19), (6, .int .i64 k20), (7, x.2.2.2)]) (fun (x : Int × Int × (List UInt8) × Value) => [box g2 121 [v3, .int .i64 x.1, .int .u64 x.2.1], row x.2.2.2 5 fByte x.2.2.1, row v19 9 fStr l18]) ?_ ?_
          · clear hk34
            refine WJ.seq ?_
            refine WJ.reg ?_
            refine SJ.q (YldS.yld (y_move rfl)) rfl ?_
            refine SJ.q (YldS.yld (y_move rfl)) rfl ?_
            obtain ⟨r35, h36, hm⟩ := bindS hm
            refine SJ.q (y_call Try.call116 rfl (RetG.quiet fun w hw => ok_s_l00Min h36 w )) rfl ?_
            obtain ⟨r37, h38, hm⟩ := bindS hm
            refine SJ.call1 (k := 1) rfl Try.call82 rfl (fun w S hw hA hO => ok_s_l00Src_pick h38 w S _ (hr4.st1 hw hO) hA) rfl ?_
            rintro _ _ ⟨rfl, rfl⟩
            refine SJ.q (YldS.yld (y_bin rfl rfl rfl)) rfl ?_
            refine SJ.q (YldS.yld (y_assign rfl)) rfl ?_
            refine SJ.nil ?_
            refine PJ.next ?_
            refine WJ.block ?_
            refine WJ.sel (L' := (fun (x : Int × Int × (List UInt8) × Value × Int) => [box g2 121 [v3, .int .i64 x.1, .int .u64 x.2.1], row x.2.2.2.1 5 fByte x.2.2.1, row v19 9 fStr l18]) (r37.2.at_, r37.2.seed, [], v28, w64 (1 + r37.1))) [0, 1, 2] ⟨by decide, rfl⟩ ?_
            refine WJ.sub (m' := (fun (x : Int × Int × (List UInt8) × Value × Int) => [(0, pt g2 0), (4, .int .i64 (w64 (5 + r5.1))), (5, v19), (6, .int .i64 k20), (7, x.2.2.2.1), (8, .int .i64 x.2.2.2.2)]) (r37.2.at_, r37.2.seed, [], v28, w64 (1 + r37.1))) ⟨rfl, rfl, rfl, rfl, rfl, rfl, trivial⟩ ?_
            refine WJ.loop (X := Int × Int × (List UInt8) × Value × Int) (fun N (x : Int × Int × (List UInt8) × Value × Int) => s_l09Draw_l2 kj33 s1 N x.1 x.2.1 x.2.2.1 x.2.2.2.2 = some r) (fun (x : Int × Int × (List UInt8) × Value × Int) => [(0, pt g2 0), (4, .int .i64 (w64 (5 + r5.1))), (5, v19), (6, .int .i64 k20), (7, x.2.2.2.1), (8, .int .i64 x.2.2.2.2)]) (fun (x : Int × Int × (List UInt8) × Value × Int) => [box g2 121 [v3, .int .i64 x.1, .int .u64 x.2.1], row x.2.2.2.1 5 fByte x.2.2.1, row v19 9 fStr l18]) ?_ N (r37.2.at_, r37.2.seed, [], v28, w64 (1 + r37.1)) hm
            · rintro N ⟨x39, x40, l41, v42, n43⟩ hI
              have hm := hI; clear hI
              cases N with
              | zero => cases hm
              | succ N =>
              unfold s_l09Draw_l2 at hm
              refine WJ.seq ?_
              refine WJ.seq ?_
              refine WJ.quiet ?_
              refine QJ.step (YldS.yld (y_move rfl)) rfl ?_
              refine QJ.step (YldS.yld (y_bin rfl rfl rfl)) rfl ?_
              refine QJ.done ?_
              refine PJ.next ?_
              refine WJ.cond (t := decide (n43 > 0)) rfl (fun hb44 => ?_) (fun hb44 => ?_)
              · replace hm := ifT hm hb44
                refine WJ.skip ?_
                refine PJ.next ?_
                refine WJ.seq ?_
                refine WJ.block ?_
                refine WJ.reg ?_
                refine SJ.q (YldS.yld (y_move rfl)) rfl ?_
                refine SJ.q (YldS.yld (y_move rfl)) rfl ?_
                obtain ⟨r45, h46, hm⟩ := bindS hm
                refine SJ.call1 (k := 0) rfl Try.call82 rfl (fun w S hw hA hO => ok_s_l00Src_pick h46 w S _ (hr4.st1 hw hO) hA) rfl ?_
                rintro _ _ ⟨rfl, rfl⟩
                obtain ⟨c47, h48, hm⟩ := bindS hm
                refine SJ.q (YldS.yld (y_idxStr Try.runUnderlying9 rfl rfl h48)) rfl ?_
                refine SJ.buildSlice (R := fByte) (os := [.tmp 32]) [c47] Try.runUnderlying22 Try.sizeOf5 Try.zeroValue5 rfl rfl rfl rfl rfl rfl fun v49 => ?_
                obtain ⟨l50, h51, hm⟩ := bindS hm
                refine SJ.append (k := 2) (R := fByte) h51 rfl Try.underlying22 el5 rfl rfl rfl (fun w hw => (hw.row_rd (k := 0) rfl)) rfl fun v52 => ?_
                refine SJ.q (YldS.yld (y_assign rfl)) rfl ?_
                refine SJ.nil ?_
                refine PJ.block_normal (PJ.next ?_)
                refine WJ.quiet ?_
                refine QJ.step (YldS.yld (y_move rfl)) rfl ?_
                refine QJ.step (YldS.yld (y_bin rfl rfl rfl)) rfl ?_
                refine QJ.step (YldS.yld (y_assign rfl)) rfl ?_
                refine QJ.done ?_
                exact PJ.round (r45.2.at_, r45.2.seed, l50, v52, w64 (n43 - 1)) [1, 2, 3] hm ⟨rfl, rfl, rfl, rfl, rfl, rfl, trivial⟩ ⟨by decide, rfl⟩
              · replace hm := ifF hm hb44
                refine WJ.exit ?_
                refine PJ.then_exit (PJ.then_exit (PJ.block_exit ?_))
                exact PJ.joined (x39, x40, l41, v42) [0, 1, 2] hm ⟨rfl, rfl, rfl, rfl, rfl, trivial⟩ ⟨by decide, rfl⟩
          · rintro ⟨x29, x30, l31, v32⟩ hm
            subst hk34
            refine WJ.reg ?_
            refine SJ.q (YldS.yld (y_move rfl)) rfl ?_
            refine SJ.q (YldS.yld (y_move rfl)) rfl ?_
            refine SJ.q (YldS.yld (y_b2s Try.underlying22 Try.underlying9 Try.underlying5 (fun w hw => ⟨_, (hw.row_rd (k := 1) rfl)⟩) rfl)) rfl ?_
            refine SJ.buildSlice (R := fStr) (os := [.tmp 37]) [l31] Try.runUnderlying24 Try.sizeOf9 Try.zeroValue9 rfl rfl rfl rfl rfl rfl fun v53 => ?_
            obtain ⟨l54, h55, hm⟩ := bindS hm
            refine SJ.append (k := 3) (R := fStr) h55 rfl Try.underlying24 el9 rfl rfl rfl (fun w hw => (hw.row_rd (k := 0) rfl)) rfl fun v56 => ?_
            refine SJ.q (YldS.yld (y_assign rfl)) rfl ?_
            refine SJ.nil ?_
            refine PJ.block_normal ?_
            exact PJ.joined (x29, x30, l54, v56) [1, 3] hm ⟨rfl, rfl, rfl, rfl, trivial⟩ ⟨by decide, rfl⟩
        · rintro ⟨x22, x23, l24, v25⟩ hm
          subst hk27
          refine WJ.quiet ?_
          refine QJ.step (YldS.yld (y_move rfl)) rfl ?_
          refine QJ.step (YldS.yld (y_bin rfl rfl rfl)) rfl ?_
          refine QJ.step (YldS.yld (y_assign rfl)) rfl ?_
          refine QJ.done ?_
          exact PJ.round (x22, x23, l24, v25, w64 (k20 - 1)) [0, 1] hm ⟨rfl, rfl, rfl, rfl, trivial⟩ ⟨by decide, rfl⟩
      · replace hm := ifF hm hb21
        refine WJ.exit ?_
        refine PJ.then_exit (PJ.then_exit (PJ.block_exit ?_))
        exact PJ.joined (x16, x17, l18, v19) [0, 1] hm ⟨rfl, rfl, trivial⟩ ⟨by decide, rfl⟩
  · rintro ⟨x8, x9, l10, v11⟩ hm
    subst hk13
    refine WJ.seq ?_
    refine WJ.quiet ?_
    refine QJ.step (YldS.yld (y_move rfl)) rfl ?_
    refine QJ.step (YldS.yld (y_move rfl)) rfl ?_
    refine QJ.step (YldS.yld (y_assign rfl)) rfl ?_
    refine QJ.step (YldS.yld (y_assign rfl)) rfl ?_
    refine QJ.done ?_
    refine PJ.next ?_
    refine WJ.ret ?_
    obtain rfl := Option.some.inj hm
    refine PJ.sel (L' := [box g2 121 [v3, .int .i64 x8, .int .u64 x9], row v11 9 fStr l10]) [0, 1] ⟨by decide, rfl⟩ ?_
    exact PJ.retn (vs := [v11, .int .i64 (w64 (5 + r5.1))]) Try.results63 ⟨rfl, rfl, trivial⟩ ⟨_, rfl, rfl⟩

set_option maxRecDepth 100000 in
set_option maxHeartbeats 1000000 in
theorem ok_s_A2Words {N : Nat} {code1 : List UInt8} {r : (List Str) × Int} (hm : s_A2Words N code1 = some r) (w : World) (v2 : Value) (hr3 : RdS w (cx w).Fz v2 fByte.rp code1) :
    Calls Try.prog 8 #[v2] w (RetG (cx w) fun u L => ∃ (u1 : Value), (u = tup [u1, .int .i64 r.2] ∧ L = [row u1 9 fStr r.1])) := by
  unfold s_A2Words at hm
  refine Calls.enter [v2] Try.func8 rfl Try.ntmps8 rfl ?_
  refine WJ.seq ?_
  refine WJ.quiet ?_
  refine QJ.step (YldS.yld (y_assign rfl)) rfl ?_
  refine QJ.step (YldS.yld (y_assign rfl)) rfl ?_
  refine QJ.done ?_
  refine PJ.next ?_
  refine WJ.seq ?_
  refine WJ.reg ?_
  refine SJ.q (YldS.yld (y_move rfl)) rfl ?_
  obtain ⟨r4, h5, hm⟩ := bindS hm
  refine SJ.call Try.call64 rfl (fun w hw => ok_s_l00From h5 w _ (hr3.st hw)) rfl ?_
  rintro _ _ ⟨g6, rfl, rfl⟩
  obtain ⟨r7, h8, hm⟩ := bindS hm
  refine SJ.call1 (k := 0) rfl Try.call63 rfl (fun w S hw hA hO => ok_s_l09Draw h8 w S _ (hr3.st1 hw hO) hA) rfl ?_
  rintro _ _ ⟨v9, rfl, rfl⟩
  refine SJ.q (YldS.yld (y_move rfl)) rfl ?_
  refine SJ.q (YldS.yld (y_extract rfl rfl)) rfl ?_
  refine SJ.q (YldS.yld (y_extract rfl rfl)) rfl ?_
  refine SJ.q (YldS.yld (y_assign rfl)) rfl ?_
  refine SJ.q (YldS.yld (y_assign rfl)) rfl ?_
  refine SJ.nil ?_
  refine PJ.next ?_
  refine WJ.seq ?_
  refine WJ.quiet ?_
  refine QJ.step (YldS.yld (y_move rfl)) rfl ?_
  refine QJ.step (YldS.yld (y_move rfl)) rfl ?_
  refine QJ.step (YldS.yld (y_assign rfl)) rfl ?_
  refine QJ.step (YldS.yld (y_assign rfl)) rfl ?_
  refine QJ.done ?_
  refine PJ.next ?_
  refine WJ.ret ?_
  obtain rfl := Option.some.inj hm
  refine PJ.sel (L' := [row v9 9 fStr r7.1]) [1] ⟨by decide, rfl⟩ ?_
  exact PJ.retn (vs := [v9, .int .i64 r7.2.1]) Try.results8 ⟨rfl, rfl, trivial⟩ ⟨_, rfl, rfl⟩

set_option maxRecDepth 100000 in
set_option maxHeartbeats 1000000 in
theorem ok_s_l00Max {a1 : Int} {b2 : Int} {r : Int} (hm : s_l00Max a1 b2 = some r) (w : World)  :
    Calls Try.prog 101 #[.int .i64 a1, .int .i64 b2] w (Ret (cx w) (.int .i64 r)) := by
  unfold s_l00Max at hm
  refine Calls.enter [.int .i64 a1, .int .i64 b2] Try.func101 rfl Try.ntmps101 rfl ?_
  refine WJ.seq ?_
  refine WJ.quiet ?_
  refine QJ.step (YldS.yld (y_assign rfl)) rfl ?_
  refine QJ.done ?_
  refine PJ.next ?_
  refine WJ.seq ?_
  refine WJ.seq ?_
  refine WJ.quiet ?_
  refine QJ.step (YldS.yld (y_move rfl)) rfl ?_
  refine QJ.step (YldS.yld (y_move rfl)) rfl ?_
  refine QJ.step (YldS.yld (y_bin rfl rfl rfl)) rfl ?_
  refine QJ.done ?_
  refine PJ.next ?_
  refine WJ.cond (t := decide (a1 > b2)) rfl (fun hb3 => ?_) (fun hb3 => ?_)
  · replace hm := ifT hm hb3
    refine WJ.seq ?_
    refine WJ.quiet ?_
    refine QJ.step (YldS.yld (y_move rfl)) rfl ?_
    refine QJ.step (YldS.yld (y_assign rfl)) rfl ?_
    refine QJ.done ?_
    refine PJ.next ?_
    refine WJ.ret ?_
    refine PJ.then_ret ?_
    obtain rfl := Option.some.inj hm
    refine PJ.sel (L' := []) [] ⟨List.nodup_nil, rfl⟩ ?_
    exact PJ.retn (vs := [.int .i64 a1]) Try.results101 ⟨rfl, trivial⟩ ⟨rfl, rfl⟩
  · replace hm := ifF hm hb3
    refine WJ.skip ?_
    refine PJ.next ?_
    refine WJ.seq ?_
    refine WJ.quiet ?_
    refine QJ.step (YldS.yld (y_move rfl)) rfl ?_
    refine QJ.step (YldS.yld (y_assign rfl)) rfl ?_
    refine QJ.done ?_
    refine PJ.next ?_
    refine WJ.ret ?_
    obtain rfl := Option.some.inj hm
    refine PJ.sel (L' := []) [] ⟨List.nodup_nil, rfl⟩ ?_
    exact PJ.retn (vs := [.int .i64 b2]) Try.results101 ⟨rfl, trivial⟩ ⟨rfl, rfl⟩

set_option maxRecDepth 100000 in
set_option maxHeartbeats 1000000 in
theorem ok_s_l09Long {N : Nat} {words1 : List Str} {r : Int} (hm : s_l09Long N words1 = some r) (w : World) (v2 : Value) (hr3 : RdS w (cx w).Fz v2 fStr.rp words1) :
    Calls Try.prog 117 #[v2] w (Ret (cx w) (.int .i64 r)) := by
  unfold s_l09Long at hm
  refine Calls.enter [v2] Try.func117 rfl Try.ntmps117 rfl ?_
  refine WJ.seq ?_
  refine WJ.quiet ?_
  refine QJ.step (YldS.yld (y_assign rfl)) rfl ?_
  refine QJ.done ?_
  refine PJ.next ?_
  refine WJ.seq ?_
  refine WJ.quiet ?_
  refine QJ.step (YldS.yld (y_move rfl)) rfl ?_
  refine QJ.step (YldS.yld (y_lenS Try.runUnderlying24 hr3 rfl)) rfl ?_
  refine QJ.step (YldS.yld (y_bin rfl rfl rfl)) rfl ?_
  refine QJ.step (YldS.yld (y_assign rfl)) rfl ?_
  refine QJ.done ?_
  refine PJ.next ?_
  obtain ⟨kj5, hk6, hm⟩ := withK_open hm
  refine WJ.join (X := Int) (fun (x : Int) => kj5 x = some r) (fun (x : Int) => [(3, .int .i64 x)]) (fun (x : Int) => []) ?_ ?_
  · clear hk6
    refine WJ.seq ?_
    refine WJ.quiet ?_
    refine QJ.step (YldS.yld (y_assign rfl)) rfl ?_
    refine QJ.done ?_
    refine PJ.next ?_
    refine WJ.block ?_
    refine WJ.sel (L' := (fun (x : Int × Int) => []) (w64 ((List.length words1 : Int) - 1), 0)) [] ⟨List.nodup_nil, rfl⟩ ?_
    refine WJ.sub (m' := (fun (x : Int × Int) => [(0, v2), (3, .int .i64 x.1), (4, .int .i64 x.2)]) (w64 ((List.length words1 : Int) - 1), 0)) ⟨rfl, rfl, rfl, trivial⟩ ?_
    refine WJ.loop (X := Int × Int) (fun N (x : Int × Int) => s_l09Long_l1 kj5 words1 N x.1 x.2 = some r) (fun (x : Int × Int) => [(0, v2), (3, .int .i64 x.1), (4, .int .i64 x.2)]) (fun (x : Int × Int) => []) ?_ N (w64 ((List.length words1 : Int) - 1), 0) hm
    · rintro N ⟨n7, i8⟩ hI
      have hm := hI; clear hI
      cases N with
      | zero => cases hm
      | succ N =>
      unfold s_l09Long_l1 at hm
      refine WJ.seq ?_
      refine WJ.seq ?_
      refine WJ.quiet ?_
      refine QJ.step (YldS.yld (y_move rfl)) rfl ?_
      refine QJ.step (YldS.yld (y_move rfl)) rfl ?_
      refine QJ.step (YldS.yld (y_lenS Try.runUnderlying24 hr3 rfl)) rfl ?_
      refine QJ.step (YldS.yld (y_bin rfl rfl rfl)) rfl ?_
      refine QJ.done ?_
      refine PJ.next ?_
      refine WJ.cond (t := decide (i8 < (List.length words1 : Int))) rfl (fun hb9 => ?_) (fun hb9 => ?_)
      · replace hm := ifT hm hb9
        refine WJ.skip ?_
        refine PJ.next ?_
        refine WJ.seq ?_
        refine WJ.block ?_
        refine WJ.quiet ?_
        refine QJ.step (YldS.yld (y_move rfl)) rfl ?_
        refine QJ.step (YldS.yld (y_move rfl)) rfl ?_
        refine QJ.step (YldS.yld (y_move rfl)) rfl ?_
        obtain ⟨e10, h11, hm⟩ := bindS hm
        obtain ⟨ad12, _, rfl, ha13, hy14⟩ := hr3.elem h11
        refine QJ.step (YldS.yld (hy14 Try.runUnderlying24 Try.sizeOf9 rfl rfl)) rfl ?_
        refine QJ.step (YldS.yld (y_load1 (v := str e10) Try.isAgg9 ha13 St.frozenC rfl)) rfl ?_
        refine QJ.step (YldS.yld (y_lenStr Try.runUnderlying9 rfl)) rfl ?_
        refine QJ.step (YldS.yld (y_bin rfl rfl rfl)) rfl ?_
        refine QJ.step (YldS.yld (y_assign rfl)) rfl ?_
        refine QJ.done ?_
        refine PJ.block_normal (PJ.next ?_)
        refine WJ.quiet ?_
        refine QJ.step (YldS.yld (y_move rfl)) rfl ?_
        refine QJ.step (YldS.yld (y_bin rfl rfl rfl)) rfl ?_
        refine QJ.step (YldS.yld (y_assign rfl)) rfl ?_
        refine QJ.done ?_
        exact PJ.round (w64 (n7 + (List.length e10 : Int)), w64 (i8 + 1)) [] hm ⟨rfl, rfl, rfl, trivial⟩ ⟨List.nodup_nil, rfl⟩
      · replace hm := ifF hm hb9
        refine WJ.exit ?_
        refine PJ.then_exit (PJ.then_exit (PJ.block_exit ?_))
        exact PJ.joined n7 [] hm ⟨rfl, trivial⟩ ⟨List.nodup_nil, rfl⟩
  · rintro n4 hm
    subst hk6
    refine WJ.seq ?_
    refine WJ.quiet ?_
    refine QJ.step (YldS.yld (y_move rfl)) rfl ?_
    obtain ⟨r15, h16, hm⟩ := bindS hm
    refine QJ.step (y_call Try.call101 rfl (RetG.quiet fun w hw => ok_s_l00Max h16 w )) rfl ?_
    refine QJ.step (YldS.yld (y_assign rfl)) rfl ?_
    refine QJ.done ?_
    refine PJ.next ?_
    refine WJ.ret ?_
    obtain rfl := Option.some.inj hm
    refine PJ.sel (L' := []) [] ⟨List.nodup_nil, rfl⟩ ?_
    exact PJ.retn (vs := [.int .i64 r15]) Try.results117 ⟨rfl, trivial⟩ ⟨rfl, rfl⟩

set_option maxRecDepth 100000 in
set_option maxHeartbeats 1000000 in
theorem ok_s_l09First {N : Nat} {words1 : List Str} {width4 : Int} {r : (List Int)} (hm : s_l09First N words1 width4 = some r) (w : World) (v2 : Value) (hr3 : RdS w (cx w).Fz v2 fStr.rp words1) :
    Calls Try.prog 65 #[v2, .int .i64 width4] w (RetG (cx w) fun u L => ∃ (u1 : Value), (u = u1 ∧ L = [row u1 2 fI64 r])) := by
  unfold s_l09First at hm
  refine Calls.enter [v2, .int .i64 width4] Try.func65 rfl Try.ntmps65 rfl ?_
  refine WJ.seq ?_
  refine WJ.quiet ?_
  refine QJ.step (YldS.yld (y_assign rfl)) rfl ?_
  refine QJ.done ?_
  refine PJ.next ?_
  refine WJ.seq ?_
  refine WJ.reg ?_
  refine SJ.buildSlice (R := fI64) (os := []) [] Try.runUnderlying27 Try.sizeOf2 Try.zeroValue2 rfl rfl rfl rfl rfl rfl fun v5 => ?_
  refine SJ.q (YldS.yld (y_assign rfl)) rfl ?_
  refine SJ.nil ?_
  refine PJ.next ?_
  refine WJ.seq ?_
  refine WJ.quiet ?_
  refine QJ.step (YldS.yld (y_assign rfl)) rfl ?_
  refine QJ.done ?_
  refine PJ.next ?_
  obtain ⟨kj8, hk9, hm⟩ := withK_open hm
  refine WJ.join (X := (List Int) × Value) (fun (x : (List Int) × Value) => kj8 x.1 = some r) (fun (x : (List Int) × Value) => [(5, x.2)]) (fun (x : (List Int) × Value) => [row x.2 2 fI64 x.1]) ?_ ?_
  · clear hk9
    refine WJ.seq ?_
    refine WJ.quiet ?_
    refine QJ.step (YldS.yld (y_assign rfl)) rfl ?_
    refine QJ.done ?_
    refine PJ.next ?_
    refine WJ.block ?_
    refine WJ.sel (L' := (fun (x : (List Int) × Value × Int × Int) => [row x.2.1 2 fI64 x.1]) ([], v5, 0, 1)) [0] ⟨by decide, rfl⟩ ?_
    refine WJ.sub (m' := (fun (x : (List Int) × Value × Int × Int) => [(0, v2), (1, .int .i64 width4), (5, x.2.1), (6, .int .i64 x.2.2.1), (7, .int .i64 x.2.2.2)]) ([], v5, 0, 1)) ⟨rfl, rfl, rfl, rfl, rfl, trivial⟩ ?_
    refine WJ.loop (X := (List Int) × Value × Int × Int) (fun N (x : (List Int) × Value × Int × Int) => s_l09First_l1 kj8 words1 width4 N x.1 x.2.2.1 x.2.2.2 = some r) (fun (x : (List Int) × Value × Int × Int) => [(0, v2), (1, .int .i64 width4), (5, x.2.1), (6, .int .i64 x.2.2.1), (7, .int .i64 x.2.2.2)]) (fun (x : (List Int) × Value × Int × Int) => [row x.2.1 2 fI64 x.1]) ?_ N ([], v5, 0, 1) hm
    · rintro N ⟨l10, v11, from12, i13⟩ hI
      have hm := hI; clear hI
      cases N with
      | zero => cases hm
      | succ N =>
      unfold s_l09First_l1 at hm
      refine WJ.seq ?_
      refine WJ.seq ?_
      refine WJ.quiet ?_
      refine QJ.step (YldS.yld (y_move rfl)) rfl ?_
      refine QJ.step (YldS.yld (y_move rfl)) rfl ?_
      refine QJ.step (YldS.yld (y_lenS Try.runUnderlying24 hr3 rfl)) rfl ?_
      refine QJ.step (YldS.yld (y_bin rfl rfl rfl)) rfl ?_
      refine QJ.done ?_
      refine PJ.next ?_
      refine WJ.cond (t := decide (i13 < (List.length words1 : Int))) rfl (fun hb14 => ?_) (fun hb14 => ?_)
      · replace hm := ifT hm hb14
        refine WJ.skip ?_
        refine PJ.next ?_
        obtain ⟨kj18, hk19, hm⟩ := withK_open hm
        refine WJ.join (X := (List Int) × Value × Int) (fun (x : (List Int) × Value × Int) => kj18 x.1 x.2.2 = some r) (fun (x : (List Int) × Value × Int) => [(0, v2), (1, .int .i64 width4), (5, x.2.1), (6, .int .i64 x.2.2), (7, .int .i64 i13)]) (fun (x : (List Int) × Value × Int) => [row x.2.1 2 fI64 x.1]) ?_ ?_
        · clear hk19
          refine WJ.block ?_
          refine WJ.seq ?_
          refine WJ.quiet ?_
          refine QJ.step (YldS.yld (y_move rfl)) rfl ?_
          refine QJ.step (YldS.yld (y_move rfl)) rfl ?_
          refine QJ.step (YldS.yld (y_move rfl)) rfl ?_
          refine QJ.step (YldS.yld (y_bin rfl rfl rfl)) rfl ?_
          obtain ⟨l20, h21, hm⟩ := bindS hm
          obtain ⟨v22, hr23, hy24⟩ := RdS.part (i := some from12) (j := some (w64 (i13 + 1))) hr3 h21
          refine QJ.step (YldS.yld (hy24 Try.runUnderlying24 Try.sizeOf9 rfl ⟨_, rfl⟩ ⟨_, rfl⟩)) rfl ?_
          obtain ⟨r25, h26, hm⟩ := bindS hm
          refine QJ.step (y_call Try.call117 rfl (RetG.quiet fun w hw => ok_s_l09Long h26 w _ (hr23.st hw))) rfl ?_
          refine QJ.step (YldS.yld (y_move rfl)) rfl ?_
          refine QJ.step (YldS.yld (y_bin rfl rfl rfl)) rfl ?_
          refine QJ.done ?_
          refine PJ.next ?_
          refine WJ.cond (t := decide (r25 > width4)) rfl (fun hb27 => ?_) (fun hb27 => ?_)
          · replace hm := ifT hm hb27
            refine WJ.seq ?_
            refine WJ.reg ?_
            refine SJ.q (YldS.yld (y_move rfl)) rfl ?_
            refine SJ.q (YldS.yld (y_move rfl)) rfl ?_
            refine SJ.buildSlice (R := fI64) (os := [.tmp 24]) [i13] Try.runUnderlying27 Try.sizeOf2 Try.zeroValue2 rfl rfl rfl rfl rfl rfl fun v28 => ?_
            obtain ⟨l29, h30, hm⟩ := bindS hm
            refine SJ.append (k := 1) (R := fI64) h30 rfl Try.underlying27 el2 rfl rfl rfl (fun w hw => (hw.row_rd (k := 0) rfl)) rfl fun v31 => ?_
            refine SJ.q (YldS.yld (y_assign rfl)) rfl ?_
            refine SJ.nil ?_
            refine PJ.next ?_
            refine WJ.quiet ?_
            refine QJ.step (YldS.yld (y_move rfl)) rfl ?_
            refine QJ.step (YldS.yld (y_assign rfl)) rfl ?_
            refine QJ.done ?_
            refine PJ.block_normal ?_
            exact PJ.joined (l29, v31, i13) [1] hm ⟨rfl, rfl, rfl, rfl, rfl, trivial⟩ ⟨by decide, rfl⟩
          · replace hm := ifF hm hb27
            refine WJ.skip ?_
            refine PJ.block_normal ?_
            exact PJ.joined (l10, v11, from12) [0] hm ⟨rfl, rfl, rfl, rfl, rfl, trivial⟩ ⟨by decide, rfl⟩
        · rintro ⟨l15, v16, from17⟩ hm
          subst hk19
          refine WJ.quiet ?_
          refine QJ.step (YldS.yld (y_move rfl)) rfl ?_
          refine QJ.step (YldS.yld (y_bin rfl rfl rfl)) rfl ?_
          refine QJ.step (YldS.yld (y_assign rfl)) rfl ?_
          refine QJ.done ?_
          exact PJ.round (l15, v16, from17, w64 (i13 + 1)) [0] hm ⟨rfl, rfl, rfl, rfl, rfl, trivial⟩ ⟨by decide, rfl⟩
      · replace hm := ifF hm hb14
        refine WJ.exit ?_
        refine PJ.then_exit (PJ.then_exit (PJ.block_exit ?_))
        exact PJ.joined (l10, v11) [0] hm ⟨rfl, trivial⟩ ⟨by decide, rfl⟩
  · rintro ⟨l6, v7⟩ hm
    subst hk9
    refine WJ.seq ?_
    refine WJ.quiet ?_
    refine QJ.step (YldS.yld (y_move rfl)) rfl ?_
    refine QJ.step (YldS.yld (y_assign rfl)) rfl ?_
    refine QJ.done ?_
    refine PJ.next ?_
    refine WJ.ret ?_
    obtain rfl := Option.some.inj hm
    refine PJ.sel (L' := [row v7 2 fI64 l6]) [0] ⟨by decide, rfl⟩ ?_
    exact PJ.retn (vs := [v7]) Try.results65 ⟨rfl, trivial⟩ ⟨_, rfl, rfl⟩

set_option maxRecDepth 100000 in
set_option maxHeartbeats 1000000 in
theorem ok_s_l00Src_one {s1 : L00Src} {n5 : Int} {g2 : Nat} {r : Bool × L00Src} (hm : s_l00Src_one s1 n5 = some r) (w : World) (S : Nat → Prop) (v3 : Value) (hr4 : RdS w (Cx.Fz ⟨w, S⟩) v3 fByte.rp s1.code) (hA : (box g2 121 [v3, .int .i64 s1.at_, .int .u64 s1.seed]).holds w S) :
    Calls Try.prog 66 #[pt g2 0, .int .i64 n5] w (RetG ⟨w, S⟩ fun u L => (u = .bool r.1 ∧ L = [box g2 121 [v3, .int .i64 r.2.at_, .int .u64 r.2.seed]])) := by
  unfold s_l00Src_one at hm
  refine Calls.enter1 hA [pt g2 0, .int .i64 n5] Try.func66 rfl Try.ntmps66 rfl ?_
  refine WJ.seq ?_
  refine WJ.quiet ?_
  refine QJ.step (YldS.yld (y_assign rfl)) rfl ?_
  refine QJ.done ?_
  refine PJ.next ?_
  refine WJ.seq ?_
  refine WJ.reg ?_
  refine SJ.q (YldS.yld (y_move rfl)) rfl ?_
  refine SJ.q (YldS.yld (y_move rfl)) rfl ?_
  obtain ⟨r6, h7, hm⟩ := bindS hm
  refine SJ.call1 (k := 0) rfl Try.call82 rfl (fun w S hw hA hO => ok_s_l00Src_pick h7 w S _ (hr4.st1 hw hO) hA) rfl ?_
  rintro _ _ ⟨rfl, rfl⟩
  refine SJ.q (YldS.yld (y_bin rfl rfl rfl)) rfl ?_
  refine SJ.q (YldS.yld (y_assign rfl)) rfl ?_
  refine SJ.nil ?_
  refine PJ.next ?_
  refine WJ.ret ?_
  obtain rfl := Option.some.inj hm
  refine PJ.sel (L' := [box g2 121 [v3, .int .i64 r6.2.at_, .int .u64 r6.2.seed]]) [0] ⟨by decide, rfl⟩ ?_
  exact PJ.retn (vs := [.bool (r6.1 == 0)]) Try.results66 ⟨rfl, trivial⟩ ⟨rfl, rfl⟩

set_option maxRecDepth 100000 in
set_option maxHeartbeats 1000000 in
theorem ok_s_l00Put {N : Nat} {list1 : List Int} {n4 : Int} {r : (List Int)} (hm : s_l00Put N list1 n4 = some r) (w : World) (v2 : Value) (hr3 : RdS w (cx w).Fz v2 fI64.rp list1) :
    Calls Try.prog 67 #[v2, .int .i64 n4] w (RetG (cx w) fun u L => ∃ (u1 : Value), (u = u1 ∧ L = [row u1 2 fI64 r])) := by
  unfold s_l00Put at hm
  refine Calls.enter [v2, .int .i64 n4] Try.func67 rfl Try.ntmps67 rfl ?_
  refine WJ.seq ?_
  refine WJ.quiet ?_
  refine QJ.step (YldS.yld (y_assign rfl)) rfl ?_
  refine QJ.done ?_
  refine PJ.next ?_
  refine WJ.seq ?_
  refine WJ.reg ?_
  refine SJ.buildSlice (R := fI64) (os := []) [] Try.runUnderlying27 Try.sizeOf2 Try.zeroValue2 rfl rfl rfl rfl rfl rfl fun v5 => ?_
  refine SJ.q (YldS.yld (y_assign rfl)) rfl ?_
  refine SJ.nil ?_
  refine PJ.next ?_
  refine WJ.seq ?_
  refine WJ.quiet ?_
  refine QJ.step (YldS.yld (y_assign rfl)) rfl ?_
  refine QJ.done ?_
  refine PJ.next ?_
  obtain ⟨kj9, hk10, hm⟩ := withK_open hm
  refine WJ.join (X := (List Int) × Value × Bool) (fun (x : (List Int) × Value × Bool) => kj9 x.1 x.2.2 = some r) (fun (x : (List Int) × Value × Bool) => [(1, .int .i64 n4), (5, x.2.1), (6, .bool x.2.2)]) (fun (x : (List Int) × Value × Bool) => [row x.2.1 2 fI64 x.1]) ?_ ?_
  · clear hk10
    refine WJ.seq ?_
    refine WJ.quiet ?_
    refine QJ.step (YldS.yld (y_assign rfl)) rfl ?_
    refine QJ.done ?_
    refine PJ.next ?_
    refine WJ.block ?_
    refine WJ.sel (L' := (fun (x : (List Int) × Value × Bool × Int) => [row x.2.1 2 fI64 x.1]) ([], v5, false, 0)) [0] ⟨by decide, rfl⟩ ?_
    refine WJ.sub (m' := (fun (x : (List Int) × Value × Bool × Int) => [(0, v2), (1, .int .i64 n4), (5, x.2.1), (6, .bool x.2.2.1), (7, .int .i64 x.2.2.2)]) ([], v5, false, 0)) ⟨rfl, rfl, rfl, rfl, rfl, trivial⟩ ?_
    refine WJ.loop (X := (List Int) × Value × Bool × Int) (fun N (x : (List Int) × Value × Bool × Int) => s_l00Put_l1 kj9 list1 n4 N x.1 x.2.2.1 x.2.2.2 = some r) (fun (x : (List Int) × Value × Bool × Int) => [(0, v2), (1, .int .i64 n4), (5, x.2.1), (6, .bool x.2.2.1), (7, .int .i64 x.2.2.2)]) (fun (x : (List Int) × Value × Bool × Int) => [row x.2.1 2 fI64 x.1]) ?_ N ([], v5, false, 0) hm
    · rintro N ⟨l11, v12, done13, i14⟩ hI
      have hm := hI; clear hI
      cases N with
      | zero => cases hm
      | succ N =>
      unfold s_l00Put_l1 at hm
      refine WJ.seq ?_
      refine WJ.seq ?_
      refine WJ.quiet ?_
      refine QJ.step (YldS.yld (y_move rfl)) rfl ?_
      refine QJ.step (YldS.yld (y_move rfl)) rfl ?_
      refine QJ.step (YldS.yld (y_lenS Try.runUnderlying27 hr3 rfl)) rfl ?_
      refine QJ.step (YldS.yld (y_bin rfl rfl rfl)) rfl ?_
      refine QJ.done ?_
      refine PJ.next ?_
      refine WJ.cond (t := decide (i14 < (List.length list1 : Int))) rfl (fun hb15 => ?_) (fun hb15 => ?_)
      · replace hm := ifT hm hb15
        refine WJ.skip ?_
        refine PJ.next ?_
        refine WJ.seq ?_
        refine WJ.block ?_
        obtain ⟨kj19, hk20, hm⟩ := withK_open hm
        refine WJ.join (X := (List Int) × Value × Bool) (fun (x : (List Int) × Value × Bool) => kj19 x.1 x.2.2 = some r) (fun (x : (List Int) × Value × Bool) => [(0, v2), (1, .int .i64 n4), (5, x.2.1), (6, .bool x.2.2), (7, .int .i64 i14)]) (fun (x : (List Int) × Value × Bool) => [row x.2.1 2 fI64 x.1]) ?_ ?_
        · clear hk20
          refine WJ.seq ?_
          refine WJ.quiet ?_
          refine QJ.step (YldS.yld (y_move rfl)) rfl ?_
          refine QJ.step (YldS.yld (y_not rfl)) rfl ?_
          refine QJ.step (YldS.yld (y_move rfl)) rfl ?_
          obtain ⟨t21, h22, hm⟩ := bindS hm
          refine QJ.cut 7 [(0, v2), (1, .int .i64 n4), (5, v12), (6, .bool done13), (7, .int .i64 i14), (24, .bool t21)] ?_ ?_
          · rcases Bool.eq_false_or_eq_true (!done13) with hb23 | hb23
            · replace h22 := andT h22 hb23
              refine QJ.on rfl rfl (cB hb23) (YldS.yld (y_move rfl)) rfl ?_
              refine QJ.on rfl rfl (cB hb23) (YldS.yld (y_move rfl)) rfl ?_
              obtain ⟨e24, h25, h22⟩ := bindS h22
              obtain ⟨ad26, _, rfl, ha27, hy28⟩ := hr3.elem h25
              refine QJ.on rfl rfl (cB hb23) (YldS.yld (hy28 Try.runUnderlying27 Try.sizeOf2 rfl rfl)) rfl ?_
              refine QJ.on rfl rfl (cB hb23) (YldS.yld (y_load1 (v := .int .i64 e24) Try.isAgg2 ha27 St.frozenC rfl)) rfl ?_
              refine QJ.on rfl rfl (cB hb23) (YldS.yld (y_move rfl)) rfl ?_
              refine QJ.on rfl rfl (cB hb23) (YldS.yld (y_bin rfl rfl rfl)) rfl ?_
              refine QJ.step (YldS.yld (y_pick_t (cB hb23) rfl)) rfl ?_
              obtain rfl := Option.some.inj h22
              exact QJ.cut_end ⟨rfl, rfl, rfl, rfl, rfl, rfl, trivial⟩
            · obtain rfl := andF h22 hb23
              refine QJ.off rfl rfl (cB hb23) rfl rfl ?_
              refine QJ.off rfl rfl (cB hb23) rfl rfl ?_
              refine QJ.off rfl rfl (cB hb23) rfl rfl ?_
              refine QJ.off rfl rfl (cB hb23) rfl rfl ?_
              refine QJ.off rfl rfl (cB hb23) rfl rfl ?_
              refine QJ.off rfl rfl (cB hb23) rfl rfl ?_
              refine QJ.step (YldS.yld (y_pick_f (cB hb23) rfl)) rfl ?_
              exact QJ.cut_end ⟨rfl, rfl, rfl, rfl, rfl, rfl, trivial⟩
          refine QJ.done ?_
          refine PJ.next ?_
          refine WJ.cond (t := t21) rfl (fun hb29 => ?_) (fun hb29 => ?_)
          · replace hm := ifT hm hb29
            refine WJ.seq ?_
            refine WJ.quiet ?_
            refine QJ.step (YldS.yld (y_assign rfl)) rfl ?_
            refine QJ.done ?_
            refine PJ.next ?_
            refine WJ.seq ?_
            refine WJ.quiet ?_
            refine QJ.step (YldS.yld (y_move rfl)) rfl ?_
            refine QJ.step (YldS.yld (y_move rfl)) rfl ?_
            obtain ⟨e30, h31, hm⟩ := bindS hm
            obtain ⟨ad32, _, rfl, ha33, hy34⟩ := hr3.elem h31
            refine QJ.step (YldS.yld (hy34 Try.runUnderlying27 Try.sizeOf2 rfl rfl)) rfl ?_
            refine QJ.step (YldS.yld (y_load1 (v := .int .i64 e30) Try.isAgg2 ha33 St.frozenC rfl)) rfl ?_
            refine QJ.step (YldS.yld (y_move rfl)) rfl ?_
            refine QJ.step (YldS.yld (y_bin rfl rfl rfl)) rfl ?_
            refine QJ.done ?_
            refine PJ.next ?_
            refine WJ.cond (t := decide (e30 > n4)) rfl (fun hb35 => ?_) (fun hb35 => ?_)
            · replace hm := ifT hm hb35
              refine WJ.reg ?_
              refine SJ.q (YldS.yld (y_move rfl)) rfl ?_
              refine SJ.q (YldS.yld (y_move rfl)) rfl ?_
              refine SJ.buildSlice (R := fI64) (os := [.tmp 32]) [n4] Try.runUnderlying27 Try.sizeOf2 Try.zeroValue2 rfl rfl rfl rfl rfl rfl fun v36 => ?_
              obtain ⟨l37, h38, hm⟩ := bindS hm
              refine SJ.append (k := 1) (R := fI64) h38 rfl Try.underlying27 el2 rfl rfl rfl (fun w hw => (hw.row_rd (k := 0) rfl)) rfl fun v39 => ?_
              refine SJ.q (YldS.yld (y_assign rfl)) rfl ?_
              refine SJ.nil ?_
              exact PJ.joined (l37, v39, true) [1] hm ⟨rfl, rfl, rfl, rfl, rfl, trivial⟩ ⟨by decide, rfl⟩
            · replace hm := ifF hm hb35
              refine WJ.skip ?_
              exact PJ.joined (l11, v12, true) [0] hm ⟨rfl, rfl, rfl, rfl, rfl, trivial⟩ ⟨by decide, rfl⟩
          · replace hm := ifF hm hb29
            refine WJ.skip ?_
            exact PJ.joined (l11, v12, done13) [0] hm ⟨rfl, rfl, rfl, rfl, rfl, trivial⟩ ⟨by decide, rfl⟩
        · rintro ⟨l16, v17, done18⟩ hm
          subst hk20
          refine WJ.reg ?_
          refine SJ.q (YldS.yld (y_move rfl)) rfl ?_
          refine SJ.q (YldS.yld (y_move rfl)) rfl ?_
          refine SJ.q (YldS.yld (y_move rfl)) rfl ?_
          obtain ⟨e40, h41, hm⟩ := bindS hm
          obtain ⟨ad42, _, rfl, ha43, hy44⟩ := hr3.elem h41
          refine SJ.q (YldS.yld (hy44 Try.runUnderlying27 Try.sizeOf2 rfl rfl)) rfl ?_
          refine SJ.q (YldS.yld (y_load1 (v := .int .i64 e40) Try.isAgg2 ha43 St.frozenC rfl)) rfl ?_
          refine SJ.buildSlice (R := fI64) (os := [.tmp 39]) [e40] Try.runUnderlying27 Try.sizeOf2 Try.zeroValue2 rfl rfl rfl rfl rfl rfl fun v45 => ?_
          obtain ⟨l46, h47, hm⟩ := bindS hm
          refine SJ.append (k := 1) (R := fI64) h47 rfl Try.underlying27 el2 rfl rfl rfl (fun w hw => (hw.row_rd (k := 0) rfl)) rfl fun v48 => ?_
          refine SJ.q (YldS.yld (y_assign rfl)) rfl ?_
          refine SJ.nil ?_
          refine PJ.block_normal (PJ.next ?_)
          refine WJ.quiet ?_
          refine QJ.step (YldS.yld (y_move rfl)) rfl ?_
          refine QJ.step (YldS.yld (y_bin rfl rfl rfl)) rfl ?_
          refine QJ.step (YldS.yld (y_assign rfl)) rfl ?_
          refine QJ.done ?_
          exact PJ.round (l46, v48, done18, w64 (i14 + 1)) [1] hm ⟨rfl, rfl, rfl, rfl, rfl, trivial⟩ ⟨by decide, rfl⟩
      · replace hm := ifF hm hb15
        refine WJ.exit ?_
        refine PJ.then_exit (PJ.then_exit (PJ.block_exit ?_))
        exact PJ.joined (l11, v12, done13) [0] hm ⟨rfl, rfl, rfl, trivial⟩ ⟨by decide, rfl⟩
  · rintro ⟨l6, v7, done8⟩ hm
    subst hk10
    obtain ⟨kj51, hk52, hm⟩ := withK_open hm
    refine WJ.join (X := (List Int) × Value) (fun (x : (List Int) × Value) => kj51 x.1 = some r) (fun (x : (List Int) × Value) => [(5, x.2)]) (fun (x : (List Int) × Value) => [row x.2 2 fI64 x.1]) ?_ ?_
    · clear hk52
      refine WJ.seq ?_
      refine WJ.quiet ?_
      refine QJ.step (YldS.yld (y_move rfl)) rfl ?_
      refine QJ.step (YldS.yld (y_not rfl)) rfl ?_
      refine QJ.done ?_
      refine PJ.next ?_
      refine WJ.cond (t := !done8) rfl (fun hb53 => ?_) (fun hb53 => ?_)
      · replace hm := ifT hm hb53
        refine WJ.reg ?_
        refine SJ.q (YldS.yld (y_move rfl)) rfl ?_
        refine SJ.q (YldS.yld (y_move rfl)) rfl ?_
        refine SJ.buildSlice (R := fI64) (os := [.tmp 45]) [n4] Try.runUnderlying27 Try.sizeOf2 Try.zeroValue2 rfl rfl rfl rfl rfl rfl fun v54 => ?_
        obtain ⟨l55, h56, hm⟩ := bindS hm
        refine SJ.append (k := 1) (R := fI64) h56 rfl Try.underlying27 el2 rfl rfl rfl (fun w hw => (hw.row_rd (k := 0) rfl)) rfl fun v57 => ?_
        refine SJ.q (YldS.yld (y_assign rfl)) rfl ?_
        refine SJ.nil ?_
        exact PJ.joined (l55, v57) [1] hm ⟨rfl, trivial⟩ ⟨by decide, rfl⟩
      · replace hm := ifF hm hb53
        refine WJ.skip ?_
        exact PJ.joined (l6, v7) [0] hm ⟨rfl, trivial⟩ ⟨by decide, rfl⟩
    · rintro ⟨l49, v50⟩ hm
      subst hk52
      refine WJ.seq ?_
      refine WJ.quiet ?_
      refine QJ.step (YldS.yld (y_move rfl)) rfl ?_
      refine QJ.step (YldS.yld (y_assign rfl)) rfl ?_
      refine QJ.done ?_
      refine PJ.next ?_
      refine WJ.ret ?_
      obtain rfl := Option.some.inj hm
      refine PJ.sel (L' := [row v50 2 fI64 l49]) [0] ⟨by decide, rfl⟩ ?_
      exact PJ.retn (vs := [v50]) Try.results67 ⟨rfl, trivial⟩ ⟨_, rfl, rfl⟩

set_option maxRecDepth 100000 in
set_option maxHeartbeats 1000000 in
theorem ok_s_A2Breaks {N : Nat} {code1 : List UInt8} {words4 : List Str} {width7 : Int} {r : (List Int)} (hm : s_A2Breaks N code1 words4 width7 = some r) (w : World) (v2 : Value) (hr3 : RdS w (cx w).Fz v2 fByte.rp code1) (v5 : Value) (hr6 : RdS w (cx w).Fz v5 fStr.rp words4) :
    Calls Try.prog 9 #[v2, v5, .int .i64 width7] w (RetG (cx w) fun u L => ∃ (u1 : Value), (u = u1 ∧ L = [row u1 2 fI64 r])) := by
  unfold s_A2Breaks at hm
  refine Calls.enter [v2, v5, .int .i64 width7] Try.func9 rfl Try.ntmps9 rfl ?_
  refine WJ.seq ?_
  refine WJ.quiet ?_
  refine QJ.step (YldS.yld (y_assign rfl)) rfl ?_
  refine QJ.done ?_
  refine PJ.next ?_
  refine WJ.seq ?_
  refine WJ.reg ?_
  refine SJ.q (YldS.yld (y_move rfl)) rfl ?_
  obtain ⟨r8, h9, hm⟩ := bindS hm
  refine SJ.call Try.call64 rfl (fun w hw => ok_s_l00From h9 w _ (hr3.st hw)) rfl ?_
  rintro _ _ ⟨g10, rfl, rfl⟩
  refine SJ.q (YldS.yld (y_assign rfl)) rfl ?_
  refine SJ.nil ?_
  refine PJ.next ?_
  refine WJ.seq ?_
  refine WJ.reg ?_
  refine SJ.q (YldS.yld (y_move rfl)) rfl ?_
  refine SJ.q (YldS.yld (y_move rfl)) rfl ?_
  obtain ⟨r11, h12, hm⟩ := bindS hm
  refine SJ.call Try.call65 rfl (fun w hw => ok_s_l09First h12 w _ (hr6.st hw)) rfl ?_
  rintro v13 _ ⟨_, rfl, rfl⟩
  refine SJ.q (YldS.yld (y_assign rfl)) rfl ?_
  refine SJ.nil ?_
  refine PJ.next ?_
  obtain ⟨kj16, hk17, hm⟩ := withK_open hm
  refine WJ.join (X := (List Int) × Value) (fun (x : (List Int) × Value) => kj16 x.1 = some r) (fun (x : (List Int) × Value) => [(8, x.2)]) (fun (x : (List Int) × Value) => [row x.2 2 fI64 x.1]) ?_ ?_
  · clear hk17
    refine WJ.seq ?_
    refine WJ.quiet ?_
    refine QJ.step (YldS.yld (y_assign rfl)) rfl ?_
    refine QJ.done ?_
    refine PJ.next ?_
    refine WJ.block ?_
    refine WJ.sel (L' := (fun (x : (List Int) × Value × Int × Int × Int) => [row x.2.1 2 fI64 x.1, box g10 121 [v2, .int .i64 x.2.2.1, .int .u64 x.2.2.2.1]]) (r11, v13, r8.at_, r8.seed, 1)) [0, 1] ⟨by decide, rfl⟩ ?_
    refine WJ.sub (m' := (fun (x : (List Int) × Value × Int × Int × Int) => [(1, v5), (7, pt g10 0), (8, x.2.1), (9, .int .i64 x.2.2.2.2)]) (r11, v13, r8.at_, r8.seed, 1)) ⟨rfl, rfl, rfl, rfl, trivial⟩ ?_
    refine WJ.loop (X := (List Int) × Value × Int × Int × Int) (fun N (x : (List Int) × Value × Int × Int × Int) => s_A2Breaks_l1 kj16 code1 words4 N x.1 x.2.2.1 x.2.2.2.1 x.2.2.2.2 = some r) (fun (x : (List Int) × Value × Int × Int × Int) => [(1, v5), (7, pt g10 0), (8, x.2.1), (9, .int .i64 x.2.2.2.2)]) (fun (x : (List Int) × Value × Int × Int × Int) => [row x.2.1 2 fI64 x.1, box g10 121 [v2, .int .i64 x.2.2.1, .int .u64 x.2.2.2.1]]) ?_ N (r11, v13, r8.at_, r8.seed, 1) hm
    · rintro N ⟨l18, v19, x20, x21, i22⟩ hI
      have hm := hI; clear hI
      cases N with
      | zero => cases hm
      | succ N =>
      unfold s_A2Breaks_l1 at hm
      refine WJ.seq ?_
      refine WJ.seq ?_
      refine WJ.quiet ?_
      refine QJ.step (YldS.yld (y_move rfl)) rfl ?_
      refine QJ.step (YldS.yld (y_move rfl)) rfl ?_
      refine QJ.step (YldS.yld (y_lenS Try.runUnderlying24 hr6 rfl)) rfl ?_
      refine QJ.step (YldS.yld (y_bin rfl rfl rfl)) rfl ?_
      refine QJ.done ?_
      refine PJ.next ?_
      refine WJ.cond (t := decide (i22 < (List.length words4 : Int))) rfl (fun hb23 => ?_) (fun hb23 => ?_)
      · replace hm := ifT hm hb23
        refine WJ.skip ?_
        refine PJ.next ?_
        obtain ⟨kj28, hk29, hm⟩ := withK_open hm
        refine WJ.join (X := (List Int) × Value × Int × Int) (fun (x : (List Int) × Value × Int × Int) => kj28 x.1 x.2.2.1 x.2.2.2 = some r) (fun (x : (List Int) × Value × Int × Int) => [(1, v5), (7, pt g10 0), (8, x.2.1), (9, .int .i64 i22)]) (fun (x : (List Int) × Value × Int × Int) => [row x.2.1 2 fI64 x.1, box g10 121 [v2, .int .i64 x.2.2.1, .int .u64 x.2.2.2]]) ?_ ?_
        · clear hk29
          refine WJ.block ?_
          refine WJ.seq ?_
          refine WJ.reg ?_
          refine SJ.q (YldS.yld (y_move rfl)) rfl ?_
          obtain ⟨r30, h31, hm⟩ := bindS hm
          refine SJ.call1 (k := 1) rfl Try.call66 rfl (fun w S hw hA hO => ok_s_l00Src_one h31 w S _ (hr3.st1 hw hO) hA) rfl ?_
          rintro _ _ ⟨rfl, rfl⟩
          refine SJ.nil ?_
          refine PJ.next ?_
          refine WJ.cond (t := r30.1) rfl (fun hb32 => ?_) (fun hb32 => ?_)
          · replace hm := ifT hm hb32
            refine WJ.reg ?_
            refine SJ.q (YldS.yld (y_move rfl)) rfl ?_
            refine SJ.q (YldS.yld (y_move rfl)) rfl ?_
            obtain ⟨r33, h34, hm⟩ := bindS hm
            refine SJ.call Try.call67 rfl (fun w hw => ok_s_l00Put h34 w _ (hw.row_rd (k := 1) rfl)) rfl ?_
            rintro v35 _ ⟨_, rfl, rfl⟩
            refine SJ.q (YldS.yld (y_assign rfl)) rfl ?_
            refine SJ.nil ?_
            refine PJ.block_normal ?_
            exact PJ.joined (r33, v35, r30.2.at_, r30.2.seed) [0, 1] hm ⟨rfl, rfl, rfl, rfl, trivial⟩ ⟨by decide, rfl⟩
          · replace hm := ifF hm hb32
            refine WJ.skip ?_
            refine PJ.block_normal ?_
            exact PJ.joined (l18, v19, r30.2.at_, r30.2.seed) [1, 0] hm ⟨rfl, rfl, rfl, rfl, trivial⟩ ⟨by decide, rfl⟩
        · rintro ⟨l24, v25, x26, x27⟩ hm
          subst hk29
          refine WJ.quiet ?_
          refine QJ.step (YldS.yld (y_move rfl)) rfl ?_
          refine QJ.step (YldS.yld (y_bin rfl rfl rfl)) rfl ?_
          refine QJ.step (YldS.yld (y_assign rfl)) rfl ?_
          refine QJ.done ?_
          exact PJ.round (l24, v25, x26, x27, w64 (i22 + 1)) [0, 1] hm ⟨rfl, rfl, rfl, rfl, trivial⟩ ⟨by decide, rfl⟩
      · replace hm := ifF hm hb23
        refine WJ.exit ?_
        refine PJ.then_exit (PJ.then_exit (PJ.block_exit ?_))
        exact PJ.joined (l18, v19) [0] hm ⟨rfl, trivial⟩ ⟨by decide, rfl⟩
  · rintro ⟨l14, v15⟩ hm
    subst hk17
    refine WJ.seq ?_
    refine WJ.quiet ?_
    refine QJ.step (YldS.yld (y_move rfl)) rfl ?_
    refine QJ.step (YldS.yld (y_assign rfl)) rfl ?_
    refine QJ.done ?_
    refine PJ.next ?_
    refine WJ.ret ?_
    obtain rfl := Option.some.inj hm
    refine PJ.sel (L' := [row v15 2 fI64 l14]) [0] ⟨by decide, rfl⟩ ?_
    exact PJ.retn (vs := [v15]) Try.results9 ⟨rfl, trivial⟩ ⟨_, rfl, rfl⟩

set_option maxRecDepth 100000 in
set_option maxHeartbeats 1000000 in
theorem ok_i_between {n1 : Int} {low2 : Int} {high3 : Int} {r : Bool} (hm : i_between n1 low2 high3 = some r) (w : World)  :
    Calls Try.prog 78 #[.int .i64 n1, .int .i64 low2, .int .i64 high3] w (Ret (cx w) (.bool r)) := by
  unfold i_between at hm
  refine Calls.enter [.int .i64 n1, .int .i64 low2, .int .i64 high3] Try.func78 rfl Try.ntmps78 rfl ?_
  refine WJ.seq ?_
  refine WJ.quiet ?_
  refine QJ.step (YldS.yld (y_assign rfl)) rfl ?_
  refine QJ.done ?_
  refine PJ.next ?_
  refine WJ.seq ?_
  refine WJ.quiet ?_
  refine QJ.step (YldS.yld (y_move rfl)) rfl ?_
  refine QJ.step (YldS.yld (y_move rfl)) rfl ?_
  refine QJ.step (YldS.yld (y_bin rfl rfl rfl)) rfl ?_
  refine QJ.step (YldS.yld (y_move rfl)) rfl ?_
  obtain ⟨t4, h5, hm⟩ := bindS hm
  refine QJ.cut 4 [(14, .bool t4)] ?_ ?_
  · rcases Bool.eq_false_or_eq_true (decide (n1 ≥ low2)) with hb6 | hb6
    · replace h5 := andT h5 hb6
      refine QJ.on rfl rfl (cB hb6) (YldS.yld (y_move rfl)) rfl ?_
      refine QJ.on rfl rfl (cB hb6) (YldS.yld (y_move rfl)) rfl ?_
      refine QJ.on rfl rfl (cB hb6) (YldS.yld (y_bin rfl rfl rfl)) rfl ?_
      refine QJ.step (YldS.yld (y_pick_t (cB hb6) rfl)) rfl ?_
      obtain rfl := Option.some.inj h5
      exact QJ.cut_end ⟨rfl, trivial⟩
    · obtain rfl := andF h5 hb6
      refine QJ.off rfl rfl (cB hb6) rfl rfl ?_
      refine QJ.off rfl rfl (cB hb6) rfl rfl ?_
      refine QJ.off rfl rfl (cB hb6) rfl rfl ?_
      refine QJ.step (YldS.yld (y_pick_f (cB hb6) rfl)) rfl ?_
      exact QJ.cut_end ⟨rfl, trivial⟩
  refine QJ.step (YldS.yld (y_assign rfl)) rfl ?_
  refine QJ.done ?_
  refine PJ.next ?_
  refine WJ.ret ?_
  obtain rfl := Option.some.inj hm
  refine PJ.sel (L' := []) [] ⟨List.nodup_nil, rfl⟩ ?_
  exact PJ.retn (vs := [.bool t4]) Try.results78 ⟨rfl, trivial⟩ ⟨rfl, rfl⟩

set_option maxRecDepth 100000 in
set_option maxHeartbeats 1000000 in
theorem ok_i_isText {N : Nat} {s1 : Str} {low2 : UInt8} {most3 : Int} {r : Bool} (hm : i_isText N s1 low2 most3 = some r) (w : World)  :
    Calls Try.prog 72 #[str s1, .int .u8 (UInt8.toNat low2 : Int), .int .i64 most3] w (Ret (cx w) (.bool r)) := by
  unfold i_isText at hm
  refine Calls.enter [str s1, .int .u8 (UInt8.toNat low2 : Int), .int .i64 most3] Try.func72 rfl Try.ntmps72 rfl ?_
  refine WJ.seq ?_
  refine WJ.quiet ?_
  refine QJ.step (YldS.yld (y_assign rfl)) rfl ?_
  refine QJ.done ?_
  refine PJ.next ?_
  refine WJ.seq ?_
  refine WJ.seq ?_
  refine WJ.quiet ?_
  refine QJ.step (YldS.yld (y_move rfl)) rfl ?_
  refine QJ.step (YldS.yld (y_lenStr Try.runUnderlying9 rfl)) rfl ?_
  refine QJ.step (YldS.yld (y_move rfl)) rfl ?_
  refine QJ.step (YldS.yld (y_bin rfl rfl rfl)) rfl ?_
  refine QJ.done ?_
  refine PJ.next ?_
  refine WJ.cond (t := decide ((List.length s1 : Int) > most3)) rfl (fun hb4 => ?_) (fun hb4 => ?_)
  · replace hm := ifT hm hb4
    refine WJ.seq ?_
    refine WJ.quiet ?_
    refine QJ.step (YldS.yld (y_assign rfl)) rfl ?_
    refine QJ.done ?_
    refine PJ.next ?_
    refine WJ.ret ?_
    refine PJ.then_ret ?_
    obtain rfl := Option.some.inj hm
    refine PJ.sel (L' := []) [] ⟨List.nodup_nil, rfl⟩ ?_
    exact PJ.retn (vs := [.bool false]) Try.results72 ⟨rfl, trivial⟩ ⟨rfl, rfl⟩
  · replace hm := ifF hm hb4
    refine WJ.skip ?_
    refine PJ.next ?_
    obtain ⟨kj5, hk6, hm⟩ := withK_open hm
    refine WJ.join (X := Unit) (fun (_ : Unit) => kj5  = some r) (fun (_ : Unit) => []) (fun (_ : Unit) => []) ?_ ?_
    · clear hk6
      refine WJ.seq ?_
      refine WJ.quiet ?_
      refine QJ.step (YldS.yld (y_move rfl)) rfl ?_
      refine QJ.step (YldS.yld (y_lenStr Try.runUnderlying9 rfl)) rfl ?_
      refine QJ.step (YldS.yld (y_move rfl)) rfl ?_
      refine QJ.done ?_
      refine PJ.next ?_
      refine WJ.block ?_
      refine WJ.sel (L' := (fun (x : Int) => []) 0) [] ⟨List.nodup_nil, rfl⟩ ?_
      refine WJ.sub (m' := (fun (x : Int) => [(0, str s1), (1, .int .u8 (UInt8.toNat low2 : Int)), (13, .int .i64 (List.length s1 : Int)), (14, .int .i64 x)]) 0) ⟨rfl, rfl, rfl, rfl, trivial⟩ ?_
      refine WJ.loop (X := Int) (fun N (x : Int) => i_isText_l1 kj5 s1 low2 N x = some r) (fun (x : Int) => [(0, str s1), (1, .int .u8 (UInt8.toNat low2 : Int)), (13, .int .i64 (List.length s1 : Int)), (14, .int .i64 x)]) (fun (x : Int) => []) ?_ N 0 hm
      · rintro N x7 hI
        have hm := hI; clear hI
        cases N with
        | zero => cases hm
        | succ N =>
        unfold i_isText_l1 at hm
        refine WJ.seq ?_
        refine WJ.quiet ?_
        refine QJ.step (YldS.yld (y_bin rfl rfl rfl)) rfl ?_
        refine QJ.done ?_
        refine PJ.next ?_
        refine WJ.seq ?_
        refine WJ.cond (t := decide (x7 < (List.length s1 : Int))) rfl (fun hb8 => ?_) (fun hb8 => ?_)
        · replace hm := ifT hm hb8
          refine WJ.skip ?_
          refine PJ.next ?_
          refine WJ.seq ?_
          refine WJ.block ?_
          refine WJ.seq ?_
          refine WJ.quiet ?_
          refine QJ.step (YldS.yld (y_move rfl)) rfl ?_
          refine QJ.step (YldS.yld (y_assign rfl)) rfl ?_
          refine QJ.done ?_
          refine PJ.next ?_
          refine WJ.seq ?_
          refine WJ.quiet ?_
          refine QJ.step (YldS.yld (y_move rfl)) rfl ?_
          refine QJ.step (YldS.yld (y_move rfl)) rfl ?_
          obtain ⟨c9, h10, hm⟩ := bindS hm
          refine QJ.step (YldS.yld (y_idxStr Try.runUnderlying9 rfl rfl h10)) rfl ?_
          refine QJ.step (YldS.yld (y_move rfl)) rfl ?_
          refine QJ.step (YldS.yld (y_bin8 c9 low2 rfl rfl rfl)) rfl ?_
          refine QJ.step (YldS.yld (y_move rfl)) rfl ?_
          obtain ⟨t11, h12, hm⟩ := bindS hm
          refine QJ.cut 5 [(0, str s1), (1, .int .u8 (UInt8.toNat low2 : Int)), (13, .int .i64 (List.length s1 : Int)), (14, .int .i64 x7), (27, .bool t11)] ?_ ?_
          · rcases Bool.eq_false_or_eq_true (decide (c9 < low2)) with hb13 | hb13
            · obtain rfl := orT h12 hb13
              refine QJ.off rfl rfl (cB hb13) rfl rfl ?_
              refine QJ.off rfl rfl (cB hb13) rfl rfl ?_
              refine QJ.off rfl rfl (cB hb13) rfl rfl ?_
              refine QJ.off rfl rfl (cB hb13) rfl rfl ?_
              refine QJ.step (YldS.yld (y_pick_t (cB hb13) rfl)) rfl ?_
              exact QJ.cut_end ⟨rfl, rfl, rfl, rfl, rfl, trivial⟩
            · replace h12 := orF h12 hb13
              refine QJ.on rfl rfl (cB hb13) (YldS.yld (y_move rfl)) rfl ?_
              refine QJ.on rfl rfl (cB hb13) (YldS.yld (y_move rfl)) rfl ?_
              obtain ⟨c14, h15, h12⟩ := bindS h12
              refine QJ.on rfl rfl (cB hb13) (YldS.yld (y_idxStr Try.runUnderlying9 rfl rfl h15)) rfl ?_
              refine QJ.on rfl rfl (cB hb13) (YldS.yld (y_bin8 c14 (126 : UInt8) rfl rfl rfl)) rfl ?_
              refine QJ.step (YldS.yld (y_pick_f (cB hb13) rfl)) rfl ?_
              obtain rfl := Option.some.inj h12
              exact QJ.cut_end ⟨rfl, rfl, rfl, rfl, rfl, trivial⟩
          refine QJ.done ?_
          refine PJ.next ?_
          refine WJ.cond (t := t11) rfl (fun hb16 => ?_) (fun hb16 => ?_)
          · replace hm := ifT hm hb16
            refine WJ.seq ?_
            refine WJ.quiet ?_
            refine QJ.step (YldS.yld (y_assign rfl)) rfl ?_
            refine QJ.done ?_
            refine PJ.next ?_
            refine WJ.ret ?_
            refine PJ.block_ret (PJ.then_ret (PJ.then_ret (PJ.block_ret (PJ.then_ret ?_))))
            obtain rfl := Option.some.inj hm
            refine PJ.sel (L' := []) [] ⟨List.nodup_nil, rfl⟩ ?_
            exact PJ.retn (vs := [.bool false]) Try.results72 ⟨rfl, trivial⟩ ⟨rfl, rfl⟩
          · replace hm := ifF hm hb16
            refine WJ.skip ?_
            refine PJ.block_normal (PJ.next ?_)
            refine WJ.quiet ?_
            refine QJ.step (YldS.yld (y_bin rfl rfl rfl)) rfl ?_
            refine QJ.step (YldS.yld (y_move rfl)) rfl ?_
            refine QJ.done ?_
            exact PJ.round (w64 (x7 + 1)) [] hm ⟨rfl, rfl, rfl, rfl, trivial⟩ ⟨List.nodup_nil, rfl⟩
        · replace hm := ifF hm hb8
          refine WJ.exit ?_
          refine PJ.then_exit (PJ.then_exit (PJ.block_exit ?_))
          exact PJ.joined () [] hm trivial ⟨List.nodup_nil, rfl⟩
    · rintro _ hm
      subst hk6
      refine WJ.seq ?_
      refine WJ.quiet ?_
      refine QJ.step (YldS.yld (y_assign rfl)) rfl ?_
      refine QJ.done ?_
      refine PJ.next ?_
      refine WJ.ret ?_
      obtain rfl := Option.some.inj hm
      refine PJ.sel (L' := []) [] ⟨List.nodup_nil, rfl⟩ ?_
      exact PJ.retn (vs := [.bool true]) Try.results72 ⟨rfl, trivial⟩ ⟨rfl, rfl⟩

set_option maxRecDepth 100000 in
set_option maxHeartbeats 1000000 in
theorem ok_i_ValidText {N : Nat} {words1 : List Str} {width4 : Int} {r : Bool} (hm : i_ValidText N words1 width4 = some r) (w : World) (v2 : Value) (hr3 : RdS w (cx w).Fz v2 fStr.rp words1) :
    Calls Try.prog 74 #[v2, .int .i64 width4] w (Ret (cx w) (.bool r)) := by
  unfold i_ValidText at hm
  refine Calls.enter [v2, .int .i64 width4] Try.func74 rfl Try.ntmps74 rfl ?_
  refine WJ.seq ?_
  refine WJ.quiet ?_
  refine QJ.step (YldS.yld (y_assign rfl)) rfl ?_
  refine QJ.done ?_
  refine PJ.next ?_
  refine WJ.seq ?_
  refine WJ.seq ?_
  refine WJ.quiet ?_
  refine QJ.step (YldS.yld (y_move rfl)) rfl ?_
  obtain ⟨r5, h6, hm⟩ := bindS hm
  refine QJ.step (y_call Try.call78 rfl (RetG.quiet fun w hw => ok_i_between h6 w )) rfl ?_
  refine QJ.step (YldS.yld (y_not rfl)) rfl ?_
  refine QJ.step (YldS.yld (y_move rfl)) rfl ?_
  obtain ⟨t7, h8, hm⟩ := bindS hm
  refine QJ.cut 4 [(0, v2), (1, .int .i64 width4), (14, .bool t7)] ?_ ?_
  · rcases Bool.eq_false_or_eq_true (!r5) with hb9 | hb9
    · obtain rfl := orT h8 hb9
      refine QJ.off rfl rfl (cB hb9) rfl rfl ?_
      refine QJ.off rfl rfl (cB hb9) rfl rfl ?_
      refine QJ.off rfl rfl (cB hb9) rfl rfl ?_
      refine QJ.step (YldS.yld (y_pick_t (cB hb9) rfl)) rfl ?_
      exact QJ.cut_end ⟨rfl, rfl, rfl, trivial⟩
    · replace h8 := orF h8 hb9
      refine QJ.on rfl rfl (cB hb9) (YldS.yld (y_move rfl)) rfl ?_
      refine QJ.on rfl rfl (cB hb9) (YldS.yld (y_lenS Try.runUnderlying24 hr3 rfl)) rfl ?_
      refine QJ.on rfl rfl (cB hb9) (YldS.yld (y_bin rfl rfl rfl)) rfl ?_
      refine QJ.step (YldS.yld (y_pick_f (cB hb9) rfl)) rfl ?_
      obtain rfl := Option.some.inj h8
      exact QJ.cut_end ⟨rfl, rfl, rfl, trivial⟩
  refine QJ.done ?_
  refine PJ.next ?_
  refine WJ.cond (t := t7) rfl (fun hb10 => ?_) (fun hb10 => ?_)
  · replace hm := ifT hm hb10
    refine WJ.seq ?_
    refine WJ.quiet ?_
    refine QJ.step (YldS.yld (y_assign rfl)) rfl ?_
    refine QJ.done ?_
    refine PJ.next ?_
    refine WJ.ret ?_
    refine PJ.then_ret ?_
    obtain rfl := Option.some.inj hm
    refine PJ.sel (L' := []) [] ⟨List.nodup_nil, rfl⟩ ?_
    exact PJ.retn (vs := [.bool false]) Try.results74 ⟨rfl, trivial⟩ ⟨rfl, rfl⟩
  · replace hm := ifF hm hb10
    refine WJ.skip ?_
    refine PJ.next ?_
    obtain ⟨kj11, hk12, hm⟩ := withK_open hm
    refine WJ.join (X := Unit) (fun (_ : Unit) => kj11  = some r) (fun (_ : Unit) => []) (fun (_ : Unit) => []) ?_ ?_
    · clear hk12
      refine WJ.seq ?_
      refine WJ.quiet ?_
      refine QJ.step (YldS.yld (y_move rfl)) rfl ?_
      refine QJ.step (YldS.yld (y_lenS Try.runUnderlying24 hr3 rfl)) rfl ?_
      refine QJ.step (YldS.yld (y_move rfl)) rfl ?_
      refine QJ.done ?_
      refine PJ.next ?_
      refine WJ.block ?_
      refine WJ.sel (L' := (fun (x : Int) => []) 0) [] ⟨List.nodup_nil, rfl⟩ ?_
      refine WJ.sub (m' := (fun (x : Int) => [(1, .int .i64 width4), (15, v2), (16, .int .i64 (List.length words1 : Int)), (17, .int .i64 x)]) 0) ⟨rfl, rfl, rfl, rfl, trivial⟩ ?_
      refine WJ.loop (X := Int) (fun N (x : Int) => i_ValidText_l1 kj11 words1 width4 N x = some r) (fun (x : Int) => [(1, .int .i64 width4), (15, v2), (16, .int .i64 (List.length words1 : Int)), (17, .int .i64 x)]) (fun (x : Int) => []) ?_ N 0 hm
      · rintro N x13 hI
        have hm := hI; clear hI
        cases N with
        | zero => cases hm
        | succ N =>
        unfold i_ValidText_l1 at hm
        refine WJ.seq ?_
        refine WJ.quiet ?_
        refine QJ.step (YldS.yld (y_bin rfl rfl rfl)) rfl ?_
        refine QJ.done ?_
        refine PJ.next ?_
        refine WJ.seq ?_
        refine WJ.cond (t := decide (x13 < (List.length words1 : Int))) rfl (fun hb14 => ?_) (fun hb14 => ?_)
        · replace hm := ifT hm hb14
          refine WJ.skip ?_
          refine PJ.next ?_
          refine WJ.seq ?_
          refine WJ.block ?_
          refine WJ.seq ?_
          refine WJ.quiet ?_
          obtain ⟨e15, h16, hm⟩ := bindS hm
          obtain ⟨ad17, _, rfl, ha18, hy19⟩ := hr3.elem h16
          refine QJ.step (YldS.yld (hy19 Try.runUnderlying24 Try.sizeOf9 rfl rfl)) rfl ?_
          refine QJ.step (YldS.yld (y_load1 (v := str e15) Try.isAgg9 ha18 St.frozenC rfl)) rfl ?_
          refine QJ.step (YldS.yld (y_assign rfl)) rfl ?_
          refine QJ.done ?_
          refine PJ.next ?_
          refine WJ.seq ?_
          refine WJ.quiet ?_
          refine QJ.step (YldS.yld (y_move rfl)) rfl ?_
          refine QJ.step (YldS.yld (y_lenStr Try.runUnderlying9 rfl)) rfl ?_
          refine QJ.step (YldS.yld (y_bin rfl rfl rfl)) rfl ?_
          refine QJ.step (YldS.yld (y_move rfl)) rfl ?_
          obtain ⟨t20, h21, hm⟩ := bindS hm
          refine QJ.cut 5 [(1, .int .i64 width4), (15, v2), (16, .int .i64 (List.length words1 : Int)), (17, .int .i64 x13), (29, .bool t20)] ?_ ?_
          · rcases Bool.eq_false_or_eq_true ((List.length e15 : Int) == 0) with hb22 | hb22
            · obtain rfl := orT h21 hb22
              refine QJ.off rfl rfl (cB hb22) rfl rfl ?_
              refine QJ.off rfl rfl (cB hb22) rfl rfl ?_
              refine QJ.off rfl rfl (cB hb22) rfl rfl ?_
              refine QJ.off rfl rfl (cB hb22) rfl rfl ?_
              refine QJ.step (YldS.yld (y_pick_t (cB hb22) rfl)) rfl ?_
              exact QJ.cut_end ⟨rfl, rfl, rfl, rfl, rfl, trivial⟩
            · replace h21 := orF h21 hb22
              refine QJ.on rfl rfl (cB hb22) (YldS.yld (y_move rfl)) rfl ?_
              refine QJ.on rfl rfl (cB hb22) (YldS.yld (y_move rfl)) rfl ?_
              obtain ⟨r23, h24, h21⟩ := bindS h21
              refine QJ.on rfl rfl (cB hb22) (y_call Try.call72 rfl (RetG.quiet fun w hw => ok_i_isText h24 w )) rfl ?_
              refine QJ.on rfl rfl (cB hb22) (YldS.yld (y_not rfl)) rfl ?_
              refine QJ.step (YldS.yld (y_pick_f (cB hb22) rfl)) rfl ?_
              obtain rfl := Option.some.inj h21
              exact QJ.cut_end ⟨rfl, rfl, rfl, rfl, rfl, trivial⟩
          refine QJ.done ?_
          refine PJ.next ?_
          refine WJ.cond (t := t20) rfl (fun hb25 => ?_) (fun hb25 => ?_)
          · replace hm := ifT hm hb25
            refine WJ.seq ?_
            refine WJ.quiet ?_
            refine QJ.step (YldS.yld (y_assign rfl)) rfl ?_
            refine QJ.done ?_
            refine PJ.next ?_
            refine WJ.ret ?_
            refine PJ.block_ret (PJ.then_ret (PJ.then_ret (PJ.block_ret (PJ.then_ret ?_))))
            obtain rfl := Option.some.inj hm
            refine PJ.sel (L' := []) [] ⟨List.nodup_nil, rfl⟩ ?_
            exact PJ.retn (vs := [.bool false]) Try.results74 ⟨rfl, trivial⟩ ⟨rfl, rfl⟩
          · replace hm := ifF hm hb25
            refine WJ.skip ?_
            refine PJ.block_normal (PJ.next ?_)
            refine WJ.quiet ?_
            refine QJ.step (YldS.yld (y_bin rfl rfl rfl)) rfl ?_
            refine QJ.step (YldS.yld (y_move rfl)) rfl ?_
            refine QJ.done ?_
            exact PJ.round (w64 (x13 + 1)) [] hm ⟨rfl, rfl, rfl, rfl, trivial⟩ ⟨List.nodup_nil, rfl⟩
        · replace hm := ifF hm hb14
          refine WJ.exit ?_
          refine PJ.then_exit (PJ.then_exit (PJ.block_exit ?_))
          exact PJ.joined () [] hm trivial ⟨List.nodup_nil, rfl⟩
    · rintro _ hm
      subst hk12
      refine WJ.seq ?_
      refine WJ.quiet ?_
      refine QJ.step (YldS.yld (y_assign rfl)) rfl ?_
      refine QJ.done ?_
      refine PJ.next ?_
      refine WJ.ret ?_
      obtain rfl := Option.some.inj hm
      refine PJ.sel (L' := []) [] ⟨List.nodup_nil, rfl⟩ ?_
      exact PJ.retn (vs := [.bool true]) Try.results74 ⟨rfl, trivial⟩ ⟨rfl, rfl⟩

set_option maxRecDepth 100000 in
set_option maxHeartbeats 1000000 in
theorem ok_i_areBreaks {N : Nat} {breaks1 : List Int} {words4 : Int} {r : Bool} (hm : i_areBreaks N breaks1 words4 = some r) (w : World) (v2 : Value) (hr3 : RdS w (cx w).Fz v2 fI64.rp breaks1) :
    Calls Try.prog 118 #[v2, .int .i64 words4] w (Ret (cx w) (.bool r)) := by
  unfold i_areBreaks at hm
  refine Calls.enter [v2, .int .i64 words4] Try.func118 rfl Try.ntmps118 rfl ?_
  refine WJ.seq ?_
  refine WJ.quiet ?_
  refine QJ.step (YldS.yld (y_assign rfl)) rfl ?_
  refine QJ.done ?_
  refine PJ.next ?_
  obtain ⟨kj5, hk6, hm⟩ := withK_open hm
  refine WJ.join (X := Unit) (fun (_ : Unit) => kj5  = some r) (fun (_ : Unit) => []) (fun (_ : Unit) => []) ?_ ?_
  · clear hk6
    refine WJ.seq ?_
    refine WJ.quiet ?_
    refine QJ.step (YldS.yld (y_move rfl)) rfl ?_
    refine QJ.step (YldS.yld (y_lenS Try.runUnderlying27 hr3 rfl)) rfl ?_
    refine QJ.step (YldS.yld (y_move rfl)) rfl ?_
    refine QJ.done ?_
    refine PJ.next ?_
    refine WJ.block ?_
    refine WJ.sel (L' := (fun (x : Int) => []) 0) [] ⟨List.nodup_nil, rfl⟩ ?_
    refine WJ.sub (m' := (fun (x : Int) => [(0, v2), (1, .int .i64 words4), (7, v2), (8, .int .i64 (List.length breaks1 : Int)), (9, .int .i64 x)]) 0) ⟨rfl, rfl, rfl, rfl, rfl, trivial⟩ ?_
    refine WJ.loop (X := Int) (fun N (x : Int) => i_areBreaks_l1 kj5 breaks1 words4 N x = some r) (fun (x : Int) => [(0, v2), (1, .int .i64 words4), (7, v2), (8, .int .i64 (List.length breaks1 : Int)), (9, .int .i64 x)]) (fun (x : Int) => []) ?_ N 0 hm
    · rintro N x7 hI
      have hm := hI; clear hI
      cases N with
      | zero => cases hm
      | succ N =>
      unfold i_areBreaks_l1 at hm
      refine WJ.seq ?_
      refine WJ.quiet ?_
      refine QJ.step (YldS.yld (y_bin rfl rfl rfl)) rfl ?_
      refine QJ.done ?_
      refine PJ.next ?_
      refine WJ.seq ?_
      refine WJ.cond (t := decide (x7 < (List.length breaks1 : Int))) rfl (fun hb8 => ?_) (fun hb8 => ?_)
      · replace hm := ifT hm hb8
        refine WJ.skip ?_
        refine PJ.next ?_
        refine WJ.seq ?_
        refine WJ.block ?_
        refine WJ.seq ?_
        refine WJ.quiet ?_
        refine QJ.step (YldS.yld (y_move rfl)) rfl ?_
        obtain ⟨e9, h10, hm⟩ := bindS hm
        obtain ⟨ad11, _, rfl, ha12, hy13⟩ := hr3.elem h10
        refine QJ.step (YldS.yld (hy13 Try.runUnderlying27 Try.sizeOf2 rfl rfl)) rfl ?_
        refine QJ.step (YldS.yld (y_load1 (v := .int .i64 e9) Try.isAgg2 ha12 St.frozenC rfl)) rfl ?_
        refine QJ.step (YldS.yld (y_assign rfl)) rfl ?_
        refine QJ.step (YldS.yld (y_assign rfl)) rfl ?_
        refine QJ.done ?_
        refine PJ.next ?_
        refine WJ.seq ?_
        refine WJ.quiet ?_
        refine QJ.step (YldS.yld (y_move rfl)) rfl ?_
        refine QJ.step (YldS.yld (y_move rfl)) rfl ?_
        refine QJ.step (YldS.yld (y_bin rfl rfl rfl)) rfl ?_
        obtain ⟨r14, h15, hm⟩ := bindS hm
        refine QJ.step (y_call Try.call78 rfl (RetG.quiet fun w hw => ok_i_between h15 w )) rfl ?_
        refine QJ.step (YldS.yld (y_not rfl)) rfl ?_
        refine QJ.step (YldS.yld (y_move rfl)) rfl ?_
        obtain ⟨t16, h17, hm⟩ := bindS hm
        refine QJ.cut 12 [(0, v2), (1, .int .i64 words4), (7, v2), (8, .int .i64 (List.length breaks1 : Int)), (9, .int .i64 x7), (31, .bool t16)] ?_ ?_
        · rcases Bool.eq_false_or_eq_true (!r14) with hb18 | hb18
          · obtain rfl := orT h17 hb18
            refine QJ.off rfl rfl (cB hb18) rfl rfl ?_
            refine QJ.off rfl rfl (cB hb18) rfl rfl ?_
            refine QJ.off rfl rfl (cB hb18) rfl rfl ?_
            refine QJ.off_undef rfl rfl rfl rfl ?_
            refine QJ.off_undef rfl rfl rfl rfl ?_
            refine QJ.off_undef rfl rfl rfl rfl ?_
            refine QJ.off_undef rfl rfl rfl rfl ?_
            refine QJ.off_undef rfl rfl rfl rfl ?_
            refine QJ.off_undef rfl rfl rfl rfl ?_
            refine QJ.off_undef rfl rfl rfl rfl ?_
            refine QJ.off rfl rfl (cB hb18) rfl rfl ?_
            refine QJ.step (YldS.yld (y_pick_t (cB hb18) rfl)) rfl ?_
            exact QJ.cut_end ⟨rfl, rfl, rfl, rfl, rfl, rfl, trivial⟩
          · replace h17 := orF h17 hb18
            refine QJ.on rfl rfl (cB hb18) (YldS.yld (y_move rfl)) rfl ?_
            refine QJ.on rfl rfl (cB hb18) (YldS.yld (y_bin rfl rfl rfl)) rfl ?_
            refine QJ.on rfl rfl (cB hb18) (YldS.yld (y_move rfl)) rfl ?_
            obtain ⟨t19, h20, h17⟩ := bindS h17
            refine QJ.cut 8 [(0, v2), (1, .int .i64 words4), (7, v2), (8, .int .i64 (List.length breaks1 : Int)), (9, .int .i64 x7), (19, .bool (!r14)), (30, .bool t19)] ?_ ?_
            · rcases Bool.eq_false_or_eq_true (decide (x7 > 0)) with hb21 | hb21
              · replace h20 := andT h20 hb21
                refine QJ.on rfl rfl (cB hb21) (YldS.yld (y_move rfl)) rfl ?_
                refine QJ.on rfl rfl (cB hb21) (YldS.yld (y_move rfl)) rfl ?_
                refine QJ.on rfl rfl (cB hb21) (YldS.yld (y_move rfl)) rfl ?_
                refine QJ.on rfl rfl (cB hb21) (YldS.yld (y_bin rfl rfl rfl)) rfl ?_
                obtain ⟨e22, h23, h20⟩ := bindS h20
                obtain ⟨ad24, _, rfl, ha25, hy26⟩ := hr3.elem h23
                refine QJ.on rfl rfl (cB hb21) (YldS.yld (hy26 Try.runUnderlying27 Try.sizeOf2 rfl rfl)) rfl ?_
                refine QJ.on rfl rfl (cB hb21) (YldS.yld (y_load1 (v := .int .i64 e22) Try.isAgg2 ha25 St.frozenC rfl)) rfl ?_
                refine QJ.on rfl rfl (cB hb21) (YldS.yld (y_bin rfl rfl rfl)) rfl ?_
                refine QJ.on rfl rfl (cB hb18) (YldS.yld (y_pick_t (cB hb21) rfl)) rfl ?_
                obtain rfl := Option.some.inj h20
                exact QJ.cut_end ⟨rfl, rfl, rfl, rfl, rfl, rfl, rfl, trivial⟩
              · obtain rfl := andF h20 hb21
                refine QJ.off rfl rfl (cB hb21) rfl rfl ?_
                refine QJ.off rfl rfl (cB hb21) rfl rfl ?_
                refine QJ.off rfl rfl (cB hb21) rfl rfl ?_
                refine QJ.off rfl rfl (cB hb21) rfl rfl ?_
                refine QJ.off rfl rfl (cB hb21) rfl rfl ?_
                refine QJ.off rfl rfl (cB hb21) rfl rfl ?_
                refine QJ.off rfl rfl (cB hb21) rfl rfl ?_
                refine QJ.on rfl rfl (cB hb18) (YldS.yld (y_pick_f (cB hb21) rfl)) rfl ?_
                exact QJ.cut_end ⟨rfl, rfl, rfl, rfl, rfl, rfl, rfl, trivial⟩
            refine QJ.step (YldS.yld (y_pick_f (cB hb18) rfl)) rfl ?_
            obtain rfl := Option.some.inj h17
            exact QJ.cut_end ⟨rfl, rfl, rfl, rfl, rfl, rfl, trivial⟩
        refine QJ.done ?_
        refine PJ.next ?_
        refine WJ.cond (t := t16) rfl (fun hb27 => ?_) (fun hb27 => ?_)
        · replace hm := ifT hm hb27
          refine WJ.seq ?_
          refine WJ.quiet ?_
          refine QJ.step (YldS.yld (y_assign rfl)) rfl ?_
          refine QJ.done ?_
          refine PJ.next ?_
          refine WJ.ret ?_
          refine PJ.block_ret (PJ.then_ret (PJ.then_ret (PJ.block_ret (PJ.then_ret ?_))))
          obtain rfl := Option.some.inj hm
          refine PJ.sel (L' := []) [] ⟨List.nodup_nil, rfl⟩ ?_
          exact PJ.retn (vs := [.bool false]) Try.results118 ⟨rfl, trivial⟩ ⟨rfl, rfl⟩
        · replace hm := ifF hm hb27
          refine WJ.skip ?_
          refine PJ.block_normal (PJ.next ?_)
          refine WJ.quiet ?_
          refine QJ.step (YldS.yld (y_bin rfl rfl rfl)) rfl ?_
          refine QJ.step (YldS.yld (y_move rfl)) rfl ?_
          refine QJ.done ?_
          exact PJ.round (w64 (x7 + 1)) [] hm ⟨rfl, rfl, rfl, rfl, rfl, trivial⟩ ⟨List.nodup_nil, rfl⟩
      · replace hm := ifF hm hb8
        refine WJ.exit ?_
        refine PJ.then_exit (PJ.then_exit (PJ.block_exit ?_))
        exact PJ.joined () [] hm trivial ⟨List.nodup_nil, rfl⟩
  · rintro _ hm
    subst hk6
    refine WJ.seq ?_
    refine WJ.quiet ?_
    refine QJ.step (YldS.yld (y_assign rfl)) rfl ?_
    refine QJ.done ?_
    refine PJ.next ?_
    refine WJ.ret ?_
    obtain rfl := Option.some.inj hm
    refine PJ.sel (L' := []) [] ⟨List.nodup_nil, rfl⟩ ?_
    exact PJ.retn (vs := [.bool true]) Try.results118 ⟨rfl, trivial⟩ ⟨rfl, rfl⟩

set_option maxRecDepth 100000 in
set_option maxHeartbeats 1000000 in
theorem ok_i_linesBy {N : Nat} {words1 : List Str} {breaks4 : List Int} {r : (List (List Str))} (hm : i_linesBy N words1 breaks4 = some r) (w : World) (v2 : Value) (hr3 : RdS w (cx w).Fz v2 fStr.rp words1) (v5 : Value) (hr6 : RdS w (cx w).Fz v5 fI64.rp breaks4) :
    Calls Try.prog 69 #[v2, v5] w (RetG (cx w) fun u L => ∃ (u1 : Value) (u2 : List (Raw 1)), (u = u1 ∧ L = [row u1 24 fRaw1 u2, inv v2 fStr.rp words1 u2 r])) := by
  unfold i_linesBy at hm
  refine Calls.enter [v2, v5] Try.func69 rfl Try.ntmps69 rfl ?_
  refine WJ.seq ?_
  refine WJ.quiet ?_
  refine QJ.step (YldS.yld (y_assign rfl)) rfl ?_
  refine QJ.done ?_
  refine PJ.next ?_
  refine WJ.seq ?_
  refine WJ.seq ?_
  refine WJ.quiet ?_
  refine QJ.step (YldS.yld (y_move rfl)) rfl ?_
  refine QJ.step (YldS.yld (y_lenS Try.runUnderlying24 hr3 rfl)) rfl ?_
  refine QJ.step (YldS.yld (y_bin rfl rfl rfl)) rfl ?_
  refine QJ.done ?_
  refine PJ.next ?_
  refine WJ.cond (t := ((List.length words1 : Int) == 0)) rfl (fun hb7 => ?_) (fun hb7 => ?_)
  · replace hm := ifT hm hb7
    refine WJ.seq ?_
    refine WJ.quiet ?_
    refine QJ.step (YldS.yld (y_assign rfl)) rfl ?_
    refine QJ.done ?_
    refine PJ.next ?_
    refine WJ.ret ?_
    refine PJ.then_ret ?_
    refine PJ.nil_row 24 fRaw1 ?_
    refine PJ.inv_nil v2 fStr.rp words1 ?_
    obtain rfl := Option.some.inj hm
    refine PJ.sel (L' := [row (.slice none 0 0) 24 fRaw1 ([] : List (Raw 1)), inv v2 fStr.rp words1 [] ([] : List (List Str))]) [1, 0] ⟨by decide, rfl⟩ ?_
    exact PJ.retn (vs := [(.slice none 0 0)]) Try.results69 ⟨rfl, trivial⟩ ⟨_, _, rfl, rfl⟩
  · replace hm := ifF hm hb7
    refine WJ.skip ?_
    refine PJ.next ?_
    refine WJ.seq ?_
    refine WJ.reg ?_
    refine SJ.buildSlice (R := fRaw1) (os := []) ([] : List (Raw 1)) Try.runUnderlying42 Try.sizeOf24 Try.zeroValue24 rfl rfl rfl rfl rfl rfl fun v8 => ?_
    refine SJ.inv_nil v2 fStr.rp words1 ?_
    refine SJ.q (YldS.yld (y_assign rfl)) rfl ?_
    refine SJ.nil ?_
    refine PJ.next ?_
    refine WJ.seq ?_
    refine WJ.quiet ?_
    refine QJ.step (YldS.yld (y_assign rfl)) rfl ?_
    refine QJ.done ?_
    refine PJ.next ?_
    obtain ⟨kj13, hk14, hm⟩ := withK_open hm
    refine WJ.join (X := (List (List Str)) × (List (Raw 1)) × Value × Int) (fun (x : (List (List Str)) × (List (Raw 1)) × Value × Int) => kj13 x.1 x.2.2.2 = some r) (fun (x : (List (List Str)) × (List (Raw 1)) × Value × Int) => [(0, v2), (5, x.2.2.1), (6, .int .i64 x.2.2.2)]) (fun (x : (List (List Str)) × (List (Raw 1)) × Value × Int) => [inv v2 fStr.rp words1 x.2.1 x.1, row x.2.2.1 24 fRaw1 x.2.1]) ?_ ?_
    · clear hk14
      refine WJ.seq ?_
      refine WJ.quiet ?_
      refine QJ.step (YldS.yld (y_move rfl)) rfl ?_
      refine QJ.step (YldS.yld (y_lenS Try.runUnderlying27 hr6 rfl)) rfl ?_
      refine QJ.step (YldS.yld (y_move rfl)) rfl ?_
      refine QJ.done ?_
      refine PJ.next ?_
      refine WJ.block ?_
      refine WJ.sel (L' := (fun (x : (List (List Str)) × (List (Raw 1)) × Value × Int × Int) => [inv v2 fStr.rp words1 x.2.1 x.1, row x.2.2.1 24 fRaw1 x.2.1]) (([] : List (List Str)), ([] : List (Raw 1)), v8, 0, 0)) [0, 1] ⟨by decide, rfl⟩ ?_
      refine WJ.sub (m' := (fun (x : (List (List Str)) × (List (Raw 1)) × Value × Int × Int) => [(0, v2), (5, x.2.2.1), (6, .int .i64 x.2.2.2.1), (13, v5), (14, .int .i64 (List.length breaks4 : Int)), (15, .int .i64 x.2.2.2.2)]) (([] : List (List Str)), ([] : List (Raw 1)), v8, 0, 0)) ⟨rfl, rfl, rfl, rfl, rfl, rfl, trivial⟩ ?_
      refine WJ.loop (X := (List (List Str)) × (List (Raw 1)) × Value × Int × Int) (fun N (x : (List (List Str)) × (List (Raw 1)) × Value × Int × Int) => i_linesBy_l1 kj13 words1 breaks4 N x.1 x.2.2.2.1 x.2.2.2.2 = some r) (fun (x : (List (List Str)) × (List (Raw 1)) × Value × Int × Int) => [(0, v2), (5, x.2.2.1), (6, .int .i64 x.2.2.2.1), (13, v5), (14, .int .i64 (List.length breaks4 : Int)), (15, .int .i64 x.2.2.2.2)]) (fun (x : (List (List Str)) × (List (Raw 1)) × Value × Int × Int) => [inv v2 fStr.rp words1 x.2.1 x.1, row x.2.2.1 24 fRaw1 x.2.1]) ?_ N (([] : List (List Str)), ([] : List (Raw 1)), v8, 0, 0) hm
      · rintro N ⟨l15, vs16, v17, start18, x19⟩ hI
        have hm := hI; clear hI
        cases N with
        | zero => cases hm
        | succ N =>
        unfold i_linesBy_l1 at hm
        refine WJ.seq ?_
        refine WJ.quiet ?_
        refine QJ.step (YldS.yld (y_bin rfl rfl rfl)) rfl ?_
        refine QJ.done ?_
        refine PJ.next ?_
        refine WJ.seq ?_
        refine WJ.cond (t := decide (x19 < (List.length breaks4 : Int))) rfl (fun hb20 => ?_) (fun hb20 => ?_)
        · replace hm := ifT hm hb20
          refine WJ.skip ?_
          refine PJ.next ?_
          refine WJ.seq ?_
          refine WJ.block ?_
          refine WJ.seq ?_
          refine WJ.quiet ?_
          obtain ⟨e21, h22, hm⟩ := bindS hm
          obtain ⟨ad23, _, rfl, ha24, hy25⟩ := hr6.elem h22
          refine QJ.step (YldS.yld (hy25 Try.runUnderlying27 Try.sizeOf2 rfl rfl)) rfl ?_
          refine QJ.step (YldS.yld (y_load1 (v := .int .i64 e21) Try.isAgg2 ha24 St.frozenC rfl)) rfl ?_
          refine QJ.step (YldS.yld (y_assign rfl)) rfl ?_
          refine QJ.done ?_
          refine PJ.next ?_
          refine WJ.seq ?_
          refine WJ.reg ?_
          refine SJ.q (YldS.yld (y_move rfl)) rfl ?_
          refine SJ.q (YldS.yld (y_move rfl)) rfl ?_
          refine SJ.q (YldS.yld (y_move rfl)) rfl ?_
          refine SJ.q (YldS.yld (y_move rfl)) rfl ?_
          obtain ⟨l26, h27, hm⟩ := bindS hm
          have hr28 := RdS.slc (i := some start18) (j := some e21) hr3 h27
          refine SJ.q (YldS.yld (y_slcFz (i := some start18) (j := some e21) hr3 h27 Try.runUnderlying24 Try.sizeOf9 rfl ⟨_, rfl⟩ ⟨_, rfl⟩)) rfl ?_
          refine SJ.buildSlice (R := fRaw1) (os := [.tmp 23]) ([mkRaw1 (slcV v2 (Option.getD (some start18) 0).toNat (Option.getD (some e21) (List.length words1 : Int)).toNat (fStr.rp).size) (RdS.one1 hr28)] : List (Raw 1)) Try.runUnderlying42 Try.sizeOf24 Try.zeroValue24 rfl rfl rfl (by simp only [List.map_cons, List.map_nil, RdS.cells1 hr28]; rfl) rfl rfl fun v29 => ?_
          refine SJ.inv_nil v2 fStr.rp words1 ?_
          refine SJ.conv0 (fun w S h => inv_push (RdS.one1 hr28) (fun w F h => RdS.slc (i := some start18) (j := some e21) h h27) SpN.slc h) ?_
          refine SJ.conv0 (B := inv v2 fStr.rp words1 ([mkRaw1 (slcV v2 (Option.getD (some start18) 0).toNat (Option.getD (some e21) (List.length words1 : Int)).toNat (fStr.rp).size) (RdS.one1 hr28)] : List (Raw 1)) ([l26] : List (List Str))) (fun w S h => h) ?_
          refine SJ.inv_len 2 rfl fun hl30 => ?_
          refine SJ.inv_len 0 rfl fun hl31 => ?_
          obtain ⟨l32, h33, hm⟩ := bindS hm
          refine SJ.append (k := 3) (R := fRaw1) (app_raw h33 hl30 hl31) rfl Try.underlying42 el24 rfl rfl rfl (fun w hw => (hw.row_rd (k := 1) rfl)) rfl fun v34 => ?_
          refine SJ.sel (L' := [inv v2 fStr.rp words1 vs16 l15, inv v2 fStr.rp words1 ([mkRaw1 (slcV v2 (Option.getD (some start18) 0).toNat (Option.getD (some e21) (List.length words1 : Int)).toNat (fStr.rp).size) (RdS.one1 hr28)] : List (Raw 1)) ([l26] : List (List Str)), row v29 24 fRaw1 ([mkRaw1 (slcV v2 (Option.getD (some start18) 0).toNat (Option.getD (some e21) (List.length words1 : Int)).toNat (fStr.rp).size) (RdS.one1 hr28)] : List (Raw 1)), row v34 24 fRaw1 (vs16 ++ ([mkRaw1 (slcV v2 (Option.getD (some start18) 0).toNat (Option.getD (some e21) (List.length words1 : Int)).toNat (fStr.rp).size) (RdS.one1 hr28)] : List (Raw 1)))]) [2, 0, 1, 3] ⟨by decide, rfl⟩ ?_
          refine SJ.star ?_
          refine SJ.conv0 (fun w S h => inv_app h33 h) ?_
          refine SJ.q (YldS.yld (y_assign rfl)) rfl ?_
          refine SJ.nil ?_
          refine PJ.next ?_
          refine WJ.quiet ?_
          refine QJ.step (YldS.yld (y_move rfl)) rfl ?_
          refine QJ.step (YldS.yld (y_assign rfl)) rfl ?_
          refine QJ.done ?_
          refine PJ.block_normal (PJ.next ?_)
          refine WJ.quiet ?_
          refine QJ.step (YldS.yld (y_bin rfl rfl rfl)) rfl ?_
          refine QJ.step (YldS.yld (y_move rfl)) rfl ?_
          refine QJ.done ?_
          exact PJ.round (l32, (vs16 ++ ([mkRaw1 (slcV v2 (Option.getD (some start18) 0).toNat (Option.getD (some e21) (List.length words1 : Int)).toNat (fStr.rp).size) (RdS.one1 hr28)] : List (Raw 1))), v34, e21, w64 (x19 + 1)) [0, 2] hm ⟨rfl, rfl, rfl, rfl, rfl, rfl, trivial⟩ ⟨by decide, rfl⟩
        · replace hm := ifF hm hb20
          refine WJ.exit ?_
          refine PJ.then_exit (PJ.then_exit (PJ.block_exit ?_))
          exact PJ.joined (l15, vs16, v17, start18) [0, 1] hm ⟨rfl, rfl, rfl, trivial⟩ ⟨by decide, rfl⟩
    · rintro ⟨l9, vs10, v11, start12⟩ hm
      subst hk14
      refine WJ.seq ?_
      refine WJ.reg ?_
      refine SJ.q (YldS.yld (y_move rfl)) rfl ?_
      refine SJ.q (YldS.yld (y_move rfl)) rfl ?_
      refine SJ.q (YldS.yld (y_move rfl)) rfl ?_
      obtain ⟨l35, h36, hm⟩ := bindS hm
      have hr37 := RdS.slc (i := some start12) (j := none) hr3 h36
      refine SJ.q (YldS.yld (y_slcFz (i := some start12) (j := none) hr3 h36 Try.runUnderlying24 Try.sizeOf9 rfl ⟨_, rfl⟩ trivial)) rfl ?_
      refine SJ.buildSlice (R := fRaw1) (os := [.tmp 31]) ([mkRaw1 (slcV v2 (Option.getD (some start12) 0).toNat (Option.getD (none) (List.length words1 : Int)).toNat (fStr.rp).size) (RdS.one1 hr37)] : List (Raw 1)) Try.runUnderlying42 Try.sizeOf24 Try.zeroValue24 rfl rfl rfl (by simp only [List.map_cons, List.map_nil, RdS.cells1 hr37]; rfl) rfl rfl fun v38 => ?_
      refine SJ.inv_nil v2 fStr.rp words1 ?_
      refine SJ.conv0 (fun w S h => inv_push (RdS.one1 hr37) (fun w F h => RdS.slc (i := some start12) (j := none) h h36) SpN.slc h) ?_
      refine SJ.conv0 (B := inv v2 fStr.rp words1 ([mkRaw1 (slcV v2 (Option.getD (some start12) 0).toNat (Option.getD (none) (List.length words1 : Int)).toNat (fStr.rp).size) (RdS.one1 hr37)] : List (Raw 1)) ([l35] : List (List Str))) (fun w S h => h) ?_
      refine SJ.inv_len 2 rfl fun hl39 => ?_
      refine SJ.inv_len 0 rfl fun hl40 => ?_
      obtain ⟨l41, h42, hm⟩ := bindS hm
      refine SJ.append (k := 3) (R := fRaw1) (app_raw h42 hl39 hl40) rfl Try.underlying42 el24 rfl rfl rfl (fun w hw => (hw.row_rd (k := 1) rfl)) rfl fun v43 => ?_
      refine SJ.sel (L' := [inv v2 fStr.rp words1 vs10 l9, inv v2 fStr.rp words1 ([mkRaw1 (slcV v2 (Option.getD (some start12) 0).toNat (Option.getD (none) (List.length words1 : Int)).toNat (fStr.rp).size) (RdS.one1 hr37)] : List (Raw 1)) ([l35] : List (List Str)), row v38 24 fRaw1 ([mkRaw1 (slcV v2 (Option.getD (some start12) 0).toNat (Option.getD (none) (List.length words1 : Int)).toNat (fStr.rp).size) (RdS.one1 hr37)] : List (Raw 1)), row v43 24 fRaw1 (vs10 ++ ([mkRaw1 (slcV v2 (Option.getD (some start12) 0).toNat (Option.getD (none) (List.length words1 : Int)).toNat (fStr.rp).size) (RdS.one1 hr37)] : List (Raw 1)))]) [2, 0, 1, 3] ⟨by decide, rfl⟩ ?_
      refine SJ.star ?_
      refine SJ.conv0 (fun w S h => inv_app h42 h) ?_
      refine SJ.q (YldS.yld (y_assign rfl)) rfl ?_
      refine SJ.nil ?_
      refine PJ.next ?_
      refine WJ.ret ?_
      obtain rfl := Option.some.inj hm
      refine PJ.sel (L' := [row v43 24 fRaw1 (vs10 ++ ([mkRaw1 (slcV v2 (Option.getD (some start12) 0).toNat (Option.getD (none) (List.length words1 : Int)).toNat (fStr.rp).size) (RdS.one1 hr37)] : List (Raw 1))), inv v2 fStr.rp words1 (vs10 ++ ([mkRaw1 (slcV v2 (Option.getD (some start12) 0).toNat (Option.getD (none) (List.length words1 : Int)).toNat (fStr.rp).size) (RdS.one1 hr37)] : List (Raw 1))) l41]) [2, 0] ⟨by decide, rfl⟩ ?_
      exact PJ.retn (vs := [v43]) Try.results69 ⟨rfl, trivial⟩ ⟨_, _, rfl, rfl⟩

set_option maxRecDepth 100000 in
set_option maxHeartbeats 1000000 in
theorem ok_i_lineLength {N : Nat} {words1 : List Str} {r : Int} (hm : i_lineLength N words1 = some r) (w : World) (v2 : Value) (hr3 : RdS w (cx w).Fz v2 fStr.rp words1) :
    Calls Try.prog 75 #[v2] w (Ret (cx w) (.int .i64 r)) := by
  unfold i_lineLength at hm
  refine Calls.enter [v2] Try.func75 rfl Try.ntmps75 rfl ?_
  refine WJ.seq ?_
  refine WJ.quiet ?_
  refine QJ.step (YldS.yld (y_assign rfl)) rfl ?_
  refine QJ.done ?_
  refine PJ.next ?_
  refine WJ.seq ?_
  refine WJ.quiet ?_
  refine QJ.step (YldS.yld (y_move rfl)) rfl ?_
  refine QJ.step (YldS.yld (y_lenS Try.runUnderlying24 hr3 rfl)) rfl ?_
  refine QJ.step (YldS.yld (y_bin rfl rfl rfl)) rfl ?_
  refine QJ.step (YldS.yld (y_assign rfl)) rfl ?_
  refine QJ.done ?_
  refine PJ.next ?_
  obtain ⟨kj5, hk6, hm⟩ := withK_open hm
  refine WJ.join (X := Int) (fun (x : Int) => kj5 x = some r) (fun (x : Int) => [(3, .int .i64 x)]) (fun (x : Int) => []) ?_ ?_
  · clear hk6
    refine WJ.seq ?_
    refine WJ.quiet ?_
    refine QJ.step (YldS.yld (y_move rfl)) rfl ?_
    refine QJ.step (YldS.yld (y_lenS Try.runUnderlying24 hr3 rfl)) rfl ?_
    refine QJ.step (YldS.yld (y_move rfl)) rfl ?_
    refine QJ.done ?_
    refine PJ.next ?_
    refine WJ.block ?_
    refine WJ.sel (L' := (fun (x : Int × Int) => []) (w64 ((List.length words1 : Int) - 1), 0)) [] ⟨List.nodup_nil, rfl⟩ ?_
    refine WJ.sub (m' := (fun (x : Int × Int) => [(3, .int .i64 x.1), (9, v2), (10, .int .i64 (List.length words1 : Int)), (11, .int .i64 x.2)]) (w64 ((List.length words1 : Int) - 1), 0)) ⟨rfl, rfl, rfl, rfl, trivial⟩ ?_
    refine WJ.loop (X := Int × Int) (fun N (x : Int × Int) => i_lineLength_l1 kj5 words1 N x.1 x.2 = some r) (fun (x : Int × Int) => [(3, .int .i64 x.1), (9, v2), (10, .int .i64 (List.length words1 : Int)), (11, .int .i64 x.2)]) (fun (x : Int × Int) => []) ?_ N (w64 ((List.length words1 : Int) - 1), 0) hm
    · rintro N ⟨n7, x8⟩ hI
      have hm := hI; clear hI
      cases N with
      | zero => cases hm
      | succ N =>
      unfold i_lineLength_l1 at hm
      refine WJ.seq ?_
      refine WJ.quiet ?_
      refine QJ.step (YldS.yld (y_bin rfl rfl rfl)) rfl ?_
      refine QJ.done ?_
      refine PJ.next ?_
      refine WJ.seq ?_
      refine WJ.cond (t := decide (x8 < (List.length words1 : Int))) rfl (fun hb9 => ?_) (fun hb9 => ?_)
      · replace hm := ifT hm hb9
        refine WJ.skip ?_
        refine PJ.next ?_
        refine WJ.seq ?_
        refine WJ.block ?_
        refine WJ.seq ?_
        refine WJ.quiet ?_
        obtain ⟨e10, h11, hm⟩ := bindS hm
        obtain ⟨ad12, _, rfl, ha13, hy14⟩ := hr3.elem h11
        refine QJ.step (YldS.yld (hy14 Try.runUnderlying24 Try.sizeOf9 rfl rfl)) rfl ?_
        refine QJ.step (YldS.yld (y_load1 (v := str e10) Try.isAgg9 ha13 St.frozenC rfl)) rfl ?_
        refine QJ.step (YldS.yld (y_assign rfl)) rfl ?_
        refine QJ.done ?_
        refine PJ.next ?_
        refine WJ.quiet ?_
        refine QJ.step (YldS.yld (y_move rfl)) rfl ?_
        refine QJ.step (YldS.yld (y_move rfl)) rfl ?_
        refine QJ.step (YldS.yld (y_lenStr Try.runUnderlying9 rfl)) rfl ?_
        refine QJ.step (YldS.yld (y_bin rfl rfl rfl)) rfl ?_
        refine QJ.step (YldS.yld (y_assign rfl)) rfl ?_
        refine QJ.done ?_
        refine PJ.block_normal (PJ.next ?_)
        refine WJ.quiet ?_
        refine QJ.step (YldS.yld (y_bin rfl rfl rfl)) rfl ?_
        refine QJ.step (YldS.yld (y_move rfl)) rfl ?_
        refine QJ.done ?_
        exact PJ.round (w64 (n7 + (List.length e10 : Int)), w64 (x8 + 1)) [] hm ⟨rfl, rfl, rfl, rfl, trivial⟩ ⟨List.nodup_nil, rfl⟩
      · replace hm := ifF hm hb9
        refine WJ.exit ?_
        refine PJ.then_exit (PJ.then_exit (PJ.block_exit ?_))
        exact PJ.joined n7 [] hm ⟨rfl, trivial⟩ ⟨List.nodup_nil, rfl⟩
  · rintro n4 hm
    subst hk6
    refine WJ.seq ?_
    refine WJ.quiet ?_
    refine QJ.step (YldS.yld (y_move rfl)) rfl ?_
    refine QJ.step (YldS.yld (y_max rfl rfl)) rfl ?_
    refine QJ.step (YldS.yld (y_assign rfl)) rfl ?_
    refine QJ.done ?_
    refine PJ.next ?_
    refine WJ.ret ?_
    obtain rfl := Option.some.inj hm
    refine PJ.sel (L' := []) [] ⟨List.nodup_nil, rfl⟩ ?_
    exact PJ.retn (vs := [.int .i64 (imax n4 0)]) Try.results75 ⟨rfl, trivial⟩ ⟨rfl, rfl⟩

set_option maxRecDepth 100000 in
set_option maxHeartbeats 1000000 in
theorem ok_i_linesCode {N : Nat} {words1 : List Str} {width4 : Int} {breaks5 : List Int} {r : Int} (hm : i_linesCode N words1 width4 breaks5 = some r) (w : World) (v2 : Value) (hr3 : RdS w (cx w).Fz v2 fStr.rp words1) (v6 : Value) (hr7 : RdS w (cx w).Fz v6 fI64.rp breaks5) :
    Calls Try.prog 68 #[v2, .int .i64 width4, v6] w (Ret (cx w) (.int .i64 r)) := by
  unfold i_linesCode at hm
  refine Calls.enter [v2, .int .i64 width4, v6] Try.func68 rfl Try.ntmps68 rfl ?_
  refine WJ.seq ?_
  refine WJ.quiet ?_
  refine QJ.step (YldS.yld (y_assign rfl)) rfl ?_
  refine QJ.done ?_
  refine PJ.next ?_
  refine WJ.seq ?_
  refine WJ.seq ?_
  refine WJ.quiet ?_
  refine QJ.step (YldS.yld (y_move rfl)) rfl ?_
  refine QJ.step (YldS.yld (y_move rfl)) rfl ?_
  obtain ⟨r8, h9, hm⟩ := bindS hm
  refine QJ.step (y_call Try.call74 rfl (RetG.quiet fun w hw => ok_i_ValidText h9 w _ (hr3.st hw))) rfl ?_
  refine QJ.step (YldS.yld (y_not rfl)) rfl ?_
  refine QJ.done ?_
  refine PJ.next ?_
  refine WJ.cond (t := !r8) rfl (fun hb10 => ?_) (fun hb10 => ?_)
  · replace hm := ifT hm hb10
    refine WJ.seq ?_
    refine WJ.quiet ?_
    refine QJ.step (YldS.yld (y_assign rfl)) rfl ?_
    refine QJ.done ?_
    refine PJ.next ?_
    refine WJ.ret ?_
    refine PJ.then_ret ?_
    obtain rfl := Option.some.inj hm
    refine PJ.sel (L' := []) [] ⟨List.nodup_nil, rfl⟩ ?_
    exact PJ.retn (vs := [.int .i64 1]) Try.results68 ⟨rfl, trivial⟩ ⟨rfl, rfl⟩
  · replace hm := ifF hm hb10
    refine WJ.skip ?_
    refine PJ.next ?_
    refine WJ.seq ?_
    refine WJ.seq ?_
    refine WJ.quiet ?_
    refine QJ.step (YldS.yld (y_move rfl)) rfl ?_
    refine QJ.step (YldS.yld (y_move rfl)) rfl ?_
    refine QJ.step (YldS.yld (y_lenS Try.runUnderlying24 hr3 rfl)) rfl ?_
    obtain ⟨r11, h12, hm⟩ := bindS hm
    refine QJ.step (y_call Try.call118 rfl (RetG.quiet fun w hw => ok_i_areBreaks h12 w _ (hr7.st hw))) rfl ?_
    refine QJ.step (YldS.yld (y_not rfl)) rfl ?_
    refine QJ.done ?_
    refine PJ.next ?_
    refine WJ.cond (t := !r11) rfl (fun hb13 => ?_) (fun hb13 => ?_)
    · replace hm := ifT hm hb13
      refine WJ.seq ?_
      refine WJ.quiet ?_
      refine QJ.step (YldS.yld (y_assign rfl)) rfl ?_
      refine QJ.done ?_
      refine PJ.next ?_
      refine WJ.ret ?_
      refine PJ.then_ret ?_
      obtain rfl := Option.some.inj hm
      refine PJ.sel (L' := []) [] ⟨List.nodup_nil, rfl⟩ ?_
      exact PJ.retn (vs := [.int .i64 2]) Try.results68 ⟨rfl, trivial⟩ ⟨rfl, rfl⟩
    · replace hm := ifF hm hb13
      refine WJ.skip ?_
      refine PJ.next ?_
      obtain ⟨kj14, hk15, hm⟩ := withK_open hm
      refine WJ.join (X := Unit) (fun (_ : Unit) => kj14  = some r) (fun (_ : Unit) => []) (fun (_ : Unit) => []) ?_ ?_
      · clear hk15
        refine WJ.seq ?_
        refine WJ.reg ?_
        refine SJ.q (YldS.yld (y_move rfl)) rfl ?_
        refine SJ.q (YldS.yld (y_move rfl)) rfl ?_
        obtain ⟨r16, h17, hm⟩ := bindS hm
        refine SJ.call Try.call69 rfl (fun w hw => ok_i_linesBy h17 w _ (hr3.st hw) _ (hr7.st hw)) rfl ?_
        rintro v18 _ ⟨_, vs19, rfl, rfl⟩
        refine SJ.q (YldS.yld (y_lenG (fun w hw => (hw.nsv_rd (k := 0) (j := 1) rfl rfl (hr3.st hw))) Try.runUnderlying42 rfl)) rfl ?_
        refine SJ.q (YldS.yld (y_move rfl)) rfl ?_
        refine SJ.nil ?_
        refine PJ.next ?_
        refine WJ.block ?_
        refine WJ.sel (L' := (fun (x : Int) => [row v18 24 fRaw1 vs19, inv v2 fStr.rp words1 vs19 r16]) 0) [0, 1] ⟨by decide, rfl⟩ ?_
        refine WJ.sub (m' := (fun (x : Int) => [(1, .int .i64 width4), (20, v18), (21, .int .i64 (List.length r16 : Int)), (22, .int .i64 x)]) 0) ⟨rfl, rfl, rfl, rfl, trivial⟩ ?_
        refine WJ.loop (X := Int) (fun N (x : Int) => i_linesCode_l1 kj14 width4 r16 N x = some r) (fun (x : Int) => [(1, .int .i64 width4), (20, v18), (21, .int .i64 (List.length r16 : Int)), (22, .int .i64 x)]) (fun (x : Int) => [row v18 24 fRaw1 vs19, inv v2 fStr.rp words1 vs19 r16]) ?_ N 0 hm
        · rintro N x20 hI
          have hm := hI; clear hI
          cases N with
          | zero => cases hm
          | succ N =>
          unfold i_linesCode_l1 at hm
          refine WJ.seq ?_
          refine WJ.quiet ?_
          refine QJ.step (YldS.yld (y_bin rfl rfl rfl)) rfl ?_
          refine QJ.done ?_
          refine PJ.next ?_
          refine WJ.seq ?_
          refine WJ.cond (t := decide (x20 < (List.length r16 : Int))) rfl (fun hb21 => ?_) (fun hb21 => ?_)
          · replace hm := ifT hm hb21
            refine WJ.skip ?_
            refine PJ.next ?_
            refine WJ.seq ?_
            refine WJ.block ?_
            refine WJ.seq ?_
            refine WJ.inv_len 1 rfl fun hl22 => ?_
            refine WJ.quiet ?_
            obtain ⟨e23, h24, hm⟩ := bindS hm
            obtain ⟨y25, hy26⟩ := inn_idx hl22 h24
            refine QJ.step (YldS.yld (y_ixRow (k := 0) (R := fRaw1) rfl Try.runUnderlying42 Try.sizeOf24 rfl rfl hy26)) rfl ?_
            refine QJ.step (YldS.yld (y_loadR (k := 0) (i := (Int.toNat x20)) (off := 0) rfl Try.isAgg24 rfl (idx_get hy26) (raw_get y25))) rfl ?_
            refine QJ.step (YldS.yld (y_assign rfl)) rfl ?_
            refine QJ.done ?_
            refine PJ.next ?_
            refine WJ.seq ?_
            refine WJ.quiet ?_
            refine QJ.step (YldS.yld (y_move rfl)) rfl ?_
            obtain ⟨r27, h28, hm⟩ := bindS hm
            refine QJ.step (y_call Try.call75 rfl (RetG.quiet fun w hw => ok_i_lineLength h28 w _ (hw.inv_rd (k := 1) rfl (hr3.st hw) rfl hy26 h24))) rfl ?_
            refine QJ.step (YldS.yld (y_move rfl)) rfl ?_
            refine QJ.step (YldS.yld (y_bin rfl rfl rfl)) rfl ?_
            refine QJ.done ?_
            refine PJ.next ?_
            refine WJ.cond (t := decide (r27 > width4)) rfl (fun hb29 => ?_) (fun hb29 => ?_)
            · replace hm := ifT hm hb29
              refine WJ.seq ?_
              refine WJ.quiet ?_
              refine QJ.step (YldS.yld (y_assign rfl)) rfl ?_
              refine QJ.done ?_
              refine PJ.next ?_
              refine WJ.ret ?_
              refine PJ.block_ret (PJ.then_ret (PJ.then_ret (PJ.block_ret (PJ.then_ret ?_))))
              obtain rfl := Option.some.inj hm
              refine PJ.sel (L' := []) [] ⟨List.nodup_nil, rfl⟩ ?_
              exact PJ.retn (vs := [.int .i64 5]) Try.results68 ⟨rfl, trivial⟩ ⟨rfl, rfl⟩
            · replace hm := ifF hm hb29
              refine WJ.skip ?_
              refine PJ.block_normal (PJ.next ?_)
              refine WJ.quiet ?_
              refine QJ.step (YldS.yld (y_bin rfl rfl rfl)) rfl ?_
              refine QJ.step (YldS.yld (y_move rfl)) rfl ?_
              refine QJ.done ?_
              exact PJ.round (w64 (x20 + 1)) [0, 1] hm ⟨rfl, rfl, rfl, rfl, trivial⟩ ⟨by decide, rfl⟩
          · replace hm := ifF hm hb21
            refine WJ.exit ?_
            refine PJ.then_exit (PJ.then_exit (PJ.block_exit ?_))
            exact PJ.joined () [] hm trivial ⟨List.nodup_nil, rfl⟩
      · rintro _ hm
        subst hk15
        refine WJ.seq ?_
        refine WJ.quiet ?_
        refine QJ.step (YldS.yld (y_assign rfl)) rfl ?_
        refine QJ.done ?_
        refine PJ.next ?_
        refine WJ.ret ?_
        obtain rfl := Option.some.inj hm
        refine PJ.sel (L' := []) [] ⟨List.nodup_nil, rfl⟩ ?_
        exact PJ.retn (vs := [.int .i64 0]) Try.results68 ⟨rfl, trivial⟩ ⟨rfl, rfl⟩

theorem ok_joinO {xs : List Str} {sep r : Str} (hm : joinO xs sep = some r) (w : World) (v : Value) (hr : RdS w (cx w).Fz v fStr.rp xs) (hsp : SpN v) :
    Calls Try.prog 70 #[v, str sep] w (Ret (cx w) (str r)) :=
  joinO_ok Try.strings_Join Try.strings_Join_none hm w hr hsp

set_option maxRecDepth 100000 in
set_option maxHeartbeats 1000000 in
theorem ok_i_repeat {N : Nat} {s1 : Str} {n2 : Int} {r : Str} (hm : i_repeat N s1 n2 = some r) (w : World)  :
    Calls Try.prog 86 #[str s1, .int .i64 n2] w (Ret (cx w) (str r)) := by
  unfold i_repeat at hm
  refine Calls.enter [str s1, .int .i64 n2] Try.func86 rfl Try.ntmps86 rfl ?_
  refine WJ.seq ?_
  refine WJ.quiet ?_
  refine QJ.step (YldS.yld (y_assign rfl)) rfl ?_
  refine QJ.done ?_
  refine PJ.next ?_
  refine WJ.seq ?_
  refine WJ.reg ?_
  refine SJ.buildSlice (R := fByte) (os := []) [] Try.runUnderlying22 Try.sizeOf5 Try.zeroValue5 rfl rfl rfl rfl rfl rfl fun v3 => ?_
  refine SJ.q (YldS.yld (y_assign rfl)) rfl ?_
  refine SJ.nil ?_
  refine PJ.next ?_
  obtain ⟨kj6, hk7, hm⟩ := withK_open hm
  refine WJ.join (X := (List UInt8) × Value) (fun (x : (List UInt8) × Value) => kj6 x.1 = some r) (fun (x : (List UInt8) × Value) => [(5, x.2)]) (fun (x : (List UInt8) × Value) => [row x.2 5 fByte x.1]) ?_ ?_
  · clear hk7
    refine WJ.seq ?_
    refine WJ.quiet ?_
    refine QJ.step (YldS.yld (y_move rfl)) rfl ?_
    refine QJ.step (YldS.yld (y_max rfl rfl)) rfl ?_
    refine QJ.step (YldS.yld (y_move rfl)) rfl ?_
    refine QJ.done ?_
    refine PJ.next ?_
    refine WJ.block ?_
    refine WJ.sel (L' := (fun (x : (List UInt8) × Value × Int) => [row x.2.1 5 fByte x.1]) ([], v3, 0)) [0] ⟨by decide, rfl⟩ ?_
    refine WJ.sub (m' := (fun (x : (List UInt8) × Value × Int) => [(0, str s1), (5, x.2.1), (8, .int .i64 (imax n2 0)), (9, .int .i64 x.2.2)]) ([], v3, 0)) ⟨rfl, rfl, rfl, rfl, trivial⟩ ?_
    refine WJ.loop (X := (List UInt8) × Value × Int) (fun N (x : (List UInt8) × Value × Int) => i_repeat_l1 kj6 s1 n2 N x.1 x.2.2 = some r) (fun (x : (List UInt8) × Value × Int) => [(0, str s1), (5, x.2.1), (8, .int .i64 (imax n2 0)), (9, .int .i64 x.2.2)]) (fun (x : (List UInt8) × Value × Int) => [row x.2.1 5 fByte x.1]) ?_ N ([], v3, 0) hm
    · rintro N ⟨l8, v9, x10⟩ hI
      have hm := hI; clear hI
      cases N with
      | zero => cases hm
      | succ N =>
      unfold i_repeat_l1 at hm
      refine WJ.seq ?_
      refine WJ.quiet ?_
      refine QJ.step (YldS.yld (y_bin rfl rfl rfl)) rfl ?_
      refine QJ.done ?_
      refine PJ.next ?_
      refine WJ.seq ?_
      refine WJ.cond (t := decide (x10 < (imax n2 0))) rfl (fun hb11 => ?_) (fun hb11 => ?_)
      · replace hm := ifT hm hb11
        refine WJ.skip ?_
        refine PJ.next ?_
        refine WJ.seq ?_
        refine WJ.block ?_
        refine WJ.reg ?_
        refine SJ.q (YldS.yld (y_move rfl)) rfl ?_
        refine SJ.q (YldS.yld (y_move rfl)) rfl ?_
        obtain ⟨l12, h13, hm⟩ := bindS hm
        refine SJ.appendStr (k := 0) h13 rfl Try.underlying22 Try.underlying9 el8_5 rfl rfl rfl fun v14 => ?_
        refine SJ.q (YldS.yld (y_assign rfl)) rfl ?_
        refine SJ.nil ?_
        refine PJ.block_normal (PJ.next ?_)
        refine WJ.quiet ?_
        refine QJ.step (YldS.yld (y_bin rfl rfl rfl)) rfl ?_
        refine QJ.step (YldS.yld (y_move rfl)) rfl ?_
        refine QJ.done ?_
        exact PJ.round (l12, v14, w64 (x10 + 1)) [0] hm ⟨rfl, rfl, rfl, rfl, trivial⟩ ⟨by decide, rfl⟩
      · replace hm := ifF hm hb11
        refine WJ.exit ?_
        refine PJ.then_exit (PJ.then_exit (PJ.block_exit ?_))
        exact PJ.joined (l8, v9) [0] hm ⟨rfl, trivial⟩ ⟨by decide, rfl⟩
  · rintro ⟨l4, v5⟩ hm
    subst hk7
    refine WJ.seq ?_
    refine WJ.quiet ?_
    refine QJ.step (YldS.yld (y_move rfl)) rfl ?_
    refine QJ.step (YldS.yld (y_b2s Try.underlying22 Try.underlying9 Try.underlying5 (fun w hw => ⟨_, (hw.row_rd (k := 0) rfl)⟩) rfl)) rfl ?_
    refine QJ.step (YldS.yld (y_assign rfl)) rfl ?_
    refine QJ.done ?_
    refine PJ.next ?_
    refine WJ.ret ?_
    obtain rfl := Option.some.inj hm
    refine PJ.sel (L' := []) [] ⟨List.nodup_nil, rfl⟩ ?_
    exact PJ.retn (vs := [str l4]) Try.results86 ⟨rfl, trivial⟩ ⟨rfl, rfl⟩

set_option maxRecDepth 100000 in
set_option maxHeartbeats 1000000 in
theorem ok_i_setLine {N : Nat} {words1 : List Str} {width4 : Int} {r : Str} (hm : i_setLine N words1 width4 = some r) (w : World) (v2 : Value) (hr3 : RdS w (cx w).Fz v2 fStr.rp words1) :
    Calls Try.prog 71 #[v2, .int .i64 width4] w (Ret (cx w) (str r)) := by
  unfold i_setLine at hm
  refine Calls.enter [v2, .int .i64 width4] Try.func71 rfl Try.ntmps71 rfl ?_
  refine WJ.seq ?_
  refine WJ.quiet ?_
  refine QJ.step (YldS.yld (y_assign rfl)) rfl ?_
  refine QJ.done ?_
  refine PJ.next ?_
  refine WJ.seq ?_
  refine WJ.quiet ?_
  refine QJ.step (YldS.yld (y_move rfl)) rfl ?_
  obtain ⟨e5, h6, hm⟩ := bindS hm
  obtain ⟨ad7, _, rfl, ha8, hy9⟩ := hr3.elem h6
  refine QJ.step (YldS.yld (hy9 Try.runUnderlying24 Try.sizeOf9 rfl rfl)) rfl ?_
  refine QJ.step (YldS.yld (y_load1 (v := str e5) Try.isAgg9 ha8 St.frozenC rfl)) rfl ?_
  refine QJ.step (YldS.yld (y_assign rfl)) rfl ?_
  refine QJ.done ?_
  refine PJ.next ?_
  refine WJ.seq ?_
  refine WJ.seq ?_
  refine WJ.quiet ?_
  refine QJ.step (YldS.yld (y_move rfl)) rfl ?_
  refine QJ.step (YldS.yld (y_lenS Try.runUnderlying24 hr3 rfl)) rfl ?_
  refine QJ.step (YldS.yld (y_bin rfl rfl rfl)) rfl ?_
  refine QJ.done ?_
  refine PJ.next ?_
  refine WJ.cond (t := ((List.length words1 : Int) == 1)) rfl (fun hb10 => ?_) (fun hb10 => ?_)
  · replace hm := ifT hm hb10
    refine WJ.seq ?_
    refine WJ.quiet ?_
    refine QJ.step (YldS.yld (y_move rfl)) rfl ?_
    refine QJ.step (YldS.yld (y_move rfl)) rfl ?_
    refine QJ.step (YldS.yld (y_move rfl)) rfl ?_
    refine QJ.step (YldS.yld (y_lenStr Try.runUnderlying9 rfl)) rfl ?_
    refine QJ.step (YldS.yld (y_bin rfl rfl rfl)) rfl ?_
    obtain ⟨r11, h12, hm⟩ := bindS hm
    refine QJ.step (y_call Try.call86 rfl (RetG.quiet fun w hw => ok_i_repeat h12 w )) rfl ?_
    obtain ⟨s13, h14, hm⟩ := bindS hm
    refine QJ.step (YldS.yld (y_cat h14 rfl rfl)) rfl ?_
    refine QJ.step (YldS.yld (y_assign rfl)) rfl ?_
    refine QJ.done ?_
    refine PJ.next ?_
    refine WJ.ret ?_
    refine PJ.then_ret ?_
    obtain rfl := Option.some.inj hm
    refine PJ.sel (L' := []) [] ⟨List.nodup_nil, rfl⟩ ?_
    exact PJ.retn (vs := [str s13]) Try.results71 ⟨rfl, trivial⟩ ⟨rfl, rfl⟩
  · replace hm := ifF hm hb10
    refine WJ.skip ?_
    refine PJ.next ?_
    refine WJ.seq ?_
    refine WJ.quiet ?_
    refine QJ.step (YldS.yld (y_move rfl)) rfl ?_
    refine QJ.step (YldS.yld (y_lenS Try.runUnderlying24 hr3 rfl)) rfl ?_
    refine QJ.step (YldS.yld (y_bin rfl rfl rfl)) rfl ?_
    refine QJ.step (YldS.yld (y_assign rfl)) rfl ?_
    refine QJ.done ?_
    refine PJ.next ?_
    refine WJ.seq ?_
    refine WJ.quiet ?_
    refine QJ.step (YldS.yld (y_move rfl)) rfl ?_
    refine QJ.step (YldS.yld (y_move rfl)) rfl ?_
    obtain ⟨r15, h16, hm⟩ := bindS hm
    refine QJ.step (y_call Try.call75 rfl (RetG.quiet fun w hw => ok_i_lineLength h16 w _ (hr3.st hw))) rfl ?_
    refine QJ.step (YldS.yld (y_bin rfl rfl rfl)) rfl ?_
    refine QJ.step (YldS.yld (y_move rfl)) rfl ?_
    refine QJ.step (YldS.yld (y_bin rfl rfl rfl)) rfl ?_
    refine QJ.step (YldS.yld (y_assign rfl)) rfl ?_
    refine QJ.done ?_
    refine PJ.next ?_
    obtain ⟨kj18, hk19, hm⟩ := withK_open hm
    refine WJ.join (X := Str) (fun (x : Str) => kj18 x = some r) (fun (x : Str) => [(5, str x)]) (fun (x : Str) => []) ?_ ?_
    · clear hk19
      refine WJ.seq ?_
      refine WJ.reg ?_
      refine SJ.q (YldS.yld (y_move rfl)) rfl ?_
      obtain ⟨l20, h21, hm⟩ := bindS hm
      obtain ⟨v22, hr23, hy24⟩ := RdS.part (i := some 1) (j := none) hr3 h21
      refine SJ.q (YldS.yld (hy24 Try.runUnderlying24 Try.sizeOf9 rfl ⟨_, rfl⟩ trivial)) rfl ?_
      refine SJ.q (YldS.yld (y_lenS Try.runUnderlying24 hr23 rfl)) rfl ?_
      refine SJ.q (YldS.yld (y_move rfl)) rfl ?_
      refine SJ.nil ?_
      refine PJ.next ?_
      refine WJ.block ?_
      refine WJ.sel (L' := (fun (x : Str × Int) => []) (e5, 0)) [] ⟨List.nodup_nil, rfl⟩ ?_
      refine WJ.sub (m' := (fun (x : Str × Int) => [(5, str x.1), (6, .int .i64 (w64 ((List.length words1 : Int) - 1))), (7, .int .i64 (w64 ((w64 (width4 - r15)) + (w64 ((List.length words1 : Int) - 1))))), (34, v22), (35, .int .i64 (List.length l20 : Int)), (36, .int .i64 x.2)]) (e5, 0)) ⟨rfl, rfl, rfl, rfl, rfl, rfl, trivial⟩ ?_
      refine WJ.loop (X := Str × Int) (fun N (x : Str × Int) => i_setLine_l1 kj18 words1 width4 r15 l20 N x.1 x.2 = some r) (fun (x : Str × Int) => [(5, str x.1), (6, .int .i64 (w64 ((List.length words1 : Int) - 1))), (7, .int .i64 (w64 ((w64 (width4 - r15)) + (w64 ((List.length words1 : Int) - 1))))), (34, v22), (35, .int .i64 (List.length l20 : Int)), (36, .int .i64 x.2)]) (fun (x : Str × Int) => []) ?_ N (e5, 0) hm
      · rintro N ⟨out25, x26⟩ hI
        have hm := hI; clear hI
        cases N with
        | zero => cases hm
        | succ N =>
        unfold i_setLine_l1 at hm
        refine WJ.seq ?_
        refine WJ.quiet ?_
        refine QJ.step (YldS.yld (y_bin rfl rfl rfl)) rfl ?_
        refine QJ.done ?_
        refine PJ.next ?_
        refine WJ.seq ?_
        refine WJ.cond (t := decide (x26 < (List.length l20 : Int))) rfl (fun hb27 => ?_) (fun hb27 => ?_)
        · replace hm := ifT hm hb27
          refine WJ.skip ?_
          refine PJ.next ?_
          refine WJ.seq ?_
          refine WJ.block ?_
          refine WJ.seq ?_
          refine WJ.quiet ?_
          refine QJ.step (YldS.yld (y_move rfl)) rfl ?_
          obtain ⟨e28, h29, hm⟩ := bindS hm
          obtain ⟨ad30, _, rfl, ha31, hy32⟩ := hr23.elem h29
          refine QJ.step (YldS.yld (hy32 Try.runUnderlying24 Try.sizeOf9 rfl rfl)) rfl ?_
          refine QJ.step (YldS.yld (y_load1 (v := str e28) Try.isAgg9 ha31 St.frozenC rfl)) rfl ?_
          refine QJ.step (YldS.yld (y_assign rfl)) rfl ?_
          refine QJ.step (YldS.yld (y_assign rfl)) rfl ?_
          refine QJ.done ?_
          refine PJ.next ?_
          refine WJ.seq ?_
          refine WJ.quiet ?_
          refine QJ.step (YldS.yld (y_move rfl)) rfl ?_
          refine QJ.step (YldS.yld (y_move rfl)) rfl ?_
          obtain ⟨q33, h34, hm⟩ := bindS hm
          refine QJ.step (YldS.yld (y_quo' h34 rfl rfl)) rfl ?_
          refine QJ.step (YldS.yld (y_assign rfl)) rfl ?_
          refine QJ.done ?_
          refine PJ.next ?_
          obtain ⟨kj36, hk37, hm⟩ := withK_open hm
          refine WJ.join (X := Int) (fun (x : Int) => kj36 x = some r) (fun (x : Int) => [(5, str out25), (6, .int .i64 (w64 ((List.length words1 : Int) - 1))), (7, .int .i64 (w64 ((w64 (width4 - r15)) + (w64 ((List.length words1 : Int) - 1))))), (9, str e28), (10, .int .i64 x), (34, v22), (35, .int .i64 (List.length l20 : Int)), (36, .int .i64 x26)]) (fun (x : Int) => []) ?_ ?_
          · clear hk37
            refine WJ.seq ?_
            refine WJ.quiet ?_
            refine QJ.step (YldS.yld (y_move rfl)) rfl ?_
            refine QJ.step (YldS.yld (y_move rfl)) rfl ?_
            refine QJ.step (YldS.yld (y_move rfl)) rfl ?_
            obtain ⟨q38, h39, hm⟩ := bindS hm
            refine QJ.step (YldS.yld (y_rem' h39 rfl rfl)) rfl ?_
            refine QJ.step (YldS.yld (y_bin rfl rfl rfl)) rfl ?_
            refine QJ.done ?_
            refine PJ.next ?_
            refine WJ.cond (t := decide (x26 < q38)) rfl (fun hb40 => ?_) (fun hb40 => ?_)
            · replace hm := ifT hm hb40
              refine WJ.quiet ?_
              refine QJ.step (YldS.yld (y_move rfl)) rfl ?_
              refine QJ.step (YldS.yld (y_bin rfl rfl rfl)) rfl ?_
              refine QJ.step (YldS.yld (y_assign rfl)) rfl ?_
              refine QJ.done ?_
              exact PJ.joined (w64 (q33 + 1)) [] hm ⟨rfl, rfl, rfl, rfl, rfl, rfl, rfl, rfl, trivial⟩ ⟨List.nodup_nil, rfl⟩
            · replace hm := ifF hm hb40
              refine WJ.skip ?_
              exact PJ.joined q33 [] hm ⟨rfl, rfl, rfl, rfl, rfl, rfl, rfl, rfl, trivial⟩ ⟨List.nodup_nil, rfl⟩
          · rintro own35 hm
            subst hk37
            refine WJ.quiet ?_
            refine QJ.step (YldS.yld (y_move rfl)) rfl ?_
            refine QJ.step (YldS.yld (y_move rfl)) rfl ?_
            obtain ⟨r41, h42, hm⟩ := bindS hm
            refine QJ.step (y_call Try.call86 rfl (RetG.quiet fun w hw => ok_i_repeat h42 w )) rfl ?_
            refine QJ.step (YldS.yld (y_move rfl)) rfl ?_
            obtain ⟨s43, h44, hm⟩ := bindS hm
            refine QJ.step (YldS.yld (y_cat h44 rfl rfl)) rfl ?_
            obtain ⟨s45, h46, hm⟩ := bindS hm
            refine QJ.step (YldS.yld (y_cat h46 rfl rfl)) rfl ?_
            refine QJ.step (YldS.yld (y_assign rfl)) rfl ?_
            refine QJ.done ?_
            refine PJ.block_normal (PJ.next ?_)
            refine WJ.quiet ?_
            refine QJ.step (YldS.yld (y_bin rfl rfl rfl)) rfl ?_
            refine QJ.step (YldS.yld (y_move rfl)) rfl ?_
            refine QJ.done ?_
            exact PJ.round (s45, w64 (x26 + 1)) [] hm ⟨rfl, rfl, rfl, rfl, rfl, rfl, trivial⟩ ⟨List.nodup_nil, rfl⟩
        · replace hm := ifF hm hb27
          refine WJ.exit ?_
          refine PJ.then_exit (PJ.then_exit (PJ.block_exit ?_))
          exact PJ.joined out25 [] hm ⟨rfl, trivial⟩ ⟨List.nodup_nil, rfl⟩
    · rintro out17 hm
      subst hk19
      refine WJ.seq ?_
      refine WJ.quiet ?_
      refine QJ.step (YldS.yld (y_move rfl)) rfl ?_
      refine QJ.step (YldS.yld (y_assign rfl)) rfl ?_
      refine QJ.done ?_
      refine PJ.next ?_
      refine WJ.ret ?_
      obtain rfl := Option.some.inj hm
      refine PJ.sel (L' := []) [] ⟨List.nodup_nil, rfl⟩ ?_
      exact PJ.retn (vs := [str out17]) Try.results71 ⟨rfl, trivial⟩ ⟨rfl, rfl⟩

set_option maxRecDepth 100000 in
set_option maxHeartbeats 1000000 in
theorem ok_i_SetText {N : Nat} {words1 : List Str} {width4 : Int} {breaks5 : List Int} {r : (List Str) × Int} (hm : i_SetText N words1 width4 breaks5 = some r) (w : World) (v2 : Value) (hr3 : RdS w (cx w).Fz v2 fStr.rp words1) (hsp_v2 : SpN v2) (v6 : Value) (hr7 : RdS w (cx w).Fz v6 fI64.rp breaks5) :
    Calls Try.prog 10 #[v2, .int .i64 width4, v6] w (RetG (cx w) fun u L => ∃ (u1 : Value), (u = tup [u1, .int .i64 r.2] ∧ L = [row u1 9 fStr r.1])) := by
  unfold i_SetText at hm
  refine Calls.enter [v2, .int .i64 width4, v6] Try.func10 rfl Try.ntmps10 rfl ?_
  refine WJ.seq ?_
  refine WJ.quiet ?_
  refine QJ.step (YldS.yld (y_assign rfl)) rfl ?_
  refine QJ.step (YldS.yld (y_assign rfl)) rfl ?_
  refine QJ.done ?_
  refine PJ.next ?_
  refine WJ.seq ?_
  refine WJ.seq ?_
  refine WJ.quiet ?_
  refine QJ.step (YldS.yld (y_move rfl)) rfl ?_
  refine QJ.step (YldS.yld (y_move rfl)) rfl ?_
  refine QJ.step (YldS.yld (y_move rfl)) rfl ?_
  obtain ⟨r8, h9, hm⟩ := bindS hm
  refine QJ.step (y_call Try.call68 rfl (RetG.quiet fun w hw => ok_i_linesCode h9 w _ (hr3.st hw) _ (hr7.st hw))) rfl ?_
  refine QJ.step (YldS.yld (y_assign rfl)) rfl ?_
  refine QJ.done ?_
  refine PJ.next ?_
  refine WJ.seq ?_
  refine WJ.quiet ?_
  refine QJ.step (YldS.yld (y_move rfl)) rfl ?_
  refine QJ.step (YldS.yld (y_bin rfl rfl rfl)) rfl ?_
  refine QJ.done ?_
  refine PJ.next ?_
  refine WJ.cond (t := (r8 != 0)) rfl (fun hb10 => ?_) (fun hb10 => ?_)
  · replace hm := ifT hm hb10
    refine WJ.seq ?_
    refine WJ.quiet ?_
    refine QJ.step (YldS.yld (y_move rfl)) rfl ?_
    refine QJ.step (YldS.yld (y_assign rfl)) rfl ?_
    refine QJ.step (YldS.yld (y_assign rfl)) rfl ?_
    refine QJ.done ?_
    refine PJ.next ?_
    refine WJ.ret ?_
    refine PJ.then_ret ?_
    refine PJ.nil_row 9 fStr ?_
    obtain rfl := Option.some.inj hm
    refine PJ.sel (L' := [row (.slice none 0 0) 9 fStr []]) [0] ⟨by decide, rfl⟩ ?_
    exact PJ.retn (vs := [(.slice none 0 0), .int .i64 r8]) Try.results10 ⟨rfl, rfl, trivial⟩ ⟨_, rfl, rfl⟩
  · replace hm := ifF hm hb10
    refine WJ.skip ?_
    refine PJ.next ?_
    refine WJ.seq ?_
    refine WJ.reg ?_
    refine SJ.q (YldS.yld (y_move rfl)) rfl ?_
    refine SJ.q (YldS.yld (y_move rfl)) rfl ?_
    obtain ⟨r11, h12, hm⟩ := bindS hm
    refine SJ.call Try.call69 rfl (fun w hw => ok_i_linesBy h12 w _ (hr3.st hw) _ (hr7.st hw)) rfl ?_
    rintro v13 _ ⟨_, vs14, rfl, rfl⟩
    refine SJ.q (YldS.yld (y_assign rfl)) rfl ?_
    refine SJ.nil ?_
    refine PJ.next ?_
    refine WJ.seq ?_
    refine WJ.reg ?_
    refine SJ.buildSlice (R := fStr) (os := []) [] Try.runUnderlying24 Try.sizeOf9 Try.zeroValue9 rfl rfl rfl rfl rfl rfl fun v15 => ?_
    refine SJ.q (YldS.yld (y_assign rfl)) rfl ?_
    refine SJ.nil ?_
    refine PJ.next ?_
    obtain ⟨kj18, hk19, hm⟩ := withK_open hm
    refine WJ.join (X := (List Str) × Value) (fun (x : (List Str) × Value) => kj18 x.1 = some r) (fun (x : (List Str) × Value) => [(10, x.2)]) (fun (x : (List Str) × Value) => [row x.2 9 fStr x.1]) ?_ ?_
    · clear hk19
      refine WJ.seq ?_
      refine WJ.quiet ?_
      refine QJ.step (YldS.yld (y_move rfl)) rfl ?_
      refine QJ.step (YldS.yld (y_lenG (fun w hw => (hw.nsv_rd (k := 1) (j := 2) rfl rfl (hr3.st hw))) Try.runUnderlying42 rfl)) rfl ?_
      refine QJ.step (YldS.yld (y_move rfl)) rfl ?_
      refine QJ.done ?_
      refine PJ.next ?_
      refine WJ.block ?_
      refine WJ.sel (L' := (fun (x : (List Str) × Value × Int) => [row x.2.1 9 fStr x.1, row v13 24 fRaw1 vs14, inv v2 fStr.rp words1 vs14 r11]) ([], v15, 0)) [0, 1, 2] ⟨by decide, rfl⟩ ?_
      refine WJ.sub (m' := (fun (x : (List Str) × Value × Int) => [(1, .int .i64 width4), (9, v13), (10, x.2.1), (24, v13), (25, .int .i64 (List.length r11 : Int)), (26, .int .i64 x.2.2)]) ([], v15, 0)) ⟨rfl, rfl, rfl, rfl, rfl, rfl, trivial⟩ ?_
      refine WJ.loop (X := (List Str) × Value × Int) (fun N (x : (List Str) × Value × Int) => i_SetText_l1 kj18 width4 r11 N x.1 x.2.2 = some r) (fun (x : (List Str) × Value × Int) => [(1, .int .i64 width4), (9, v13), (10, x.2.1), (24, v13), (25, .int .i64 (List.length r11 : Int)), (26, .int .i64 x.2.2)]) (fun (x : (List Str) × Value × Int) => [row x.2.1 9 fStr x.1, row v13 24 fRaw1 vs14, inv v2 fStr.rp words1 vs14 r11]) ?_ N ([], v15, 0) hm
      · rintro N ⟨l20, v21, x22⟩ hI
        have hm := hI; clear hI
        cases N with
        | zero => cases hm
        | succ N =>
        unfold i_SetText_l1 at hm
        refine WJ.seq ?_
        refine WJ.quiet ?_
        refine QJ.step (YldS.yld (y_bin rfl rfl rfl)) rfl ?_
        refine QJ.done ?_
        refine PJ.next ?_
        refine WJ.seq ?_
        refine WJ.cond (t := decide (x22 < (List.length r11 : Int))) rfl (fun hb23 => ?_) (fun hb23 => ?_)
        · replace hm := ifT hm hb23
          refine WJ.skip ?_
          refine PJ.next ?_
          obtain ⟨kj26, hk27, hm⟩ := withK_open hm
          refine WJ.join (X := (List Str) × Value) (fun (x : (List Str) × Value) => kj26 x.1 = some r) (fun (x : (List Str) × Value) => [(1, .int .i64 width4), (9, v13), (10, x.2), (24, v13), (25, .int .i64 (List.length r11 : Int)), (26, .int .i64 x22)]) (fun (x : (List Str) × Value) => [row x.2 9 fStr x.1, row v13 24 fRaw1 vs14, inv v2 fStr.rp words1 vs14 r11]) ?_ ?_
          · clear hk27
            refine WJ.block ?_
            refine WJ.seq ?_
            refine WJ.inv_len 2 rfl fun hl28 => ?_
            refine WJ.quiet ?_
            refine QJ.step (YldS.yld (y_move rfl)) rfl ?_
            obtain ⟨e29, h30, hm⟩ := bindS hm
            obtain ⟨y31, hy32⟩ := inn_idx hl28 h30
            refine QJ.step (YldS.yld (y_ixRow (k := 1) (R := fRaw1) rfl Try.runUnderlying42 Try.sizeOf24 rfl rfl hy32)) rfl ?_
            refine QJ.step (YldS.yld (y_loadR (k := 1) (i := (Int.toNat x22)) (off := 0) rfl Try.isAgg24 rfl (idx_get hy32) (raw_get y31))) rfl ?_
            refine QJ.step (YldS.yld (y_assign rfl)) rfl ?_
            refine QJ.step (YldS.yld (y_assign rfl)) rfl ?_
            refine QJ.done ?_
            refine PJ.next ?_
            refine WJ.seq ?_
            refine WJ.quiet ?_
            refine QJ.step (YldS.yld (y_move rfl)) rfl ?_
            refine QJ.step (YldS.yld (y_bin rfl rfl rfl)) rfl ?_
            refine QJ.step (YldS.yld (y_move rfl)) rfl ?_
            refine QJ.step (YldS.yld (y_lenG (fun w hw => (hw.nsv_rd (k := 1) (j := 2) rfl rfl (hr3.st hw))) Try.runUnderlying42 rfl)) rfl ?_
            refine QJ.step (YldS.yld (y_bin rfl rfl rfl)) rfl ?_
            refine QJ.done ?_
            refine PJ.next ?_
            refine WJ.cond (t := ((w64 (x22 + 1)) == (List.length r11 : Int))) rfl (fun hb33 => ?_) (fun hb33 => ?_)
            · replace hm := ifT hm hb33
              refine WJ.reg ?_
              refine SJ.q (YldS.yld (y_move rfl)) rfl ?_
              refine SJ.q (YldS.yld (y_move rfl)) rfl ?_
              obtain ⟨r34, h35, hm⟩ := bindS hm
              refine SJ.q (y_call Try.call70 rfl (RetG.quiet fun w hw => ok_joinO h35 w _ (hw.inv_rd (k := 2) rfl (hr3.st hw) rfl hy32 h30) (hw.inv_sp (k := 2) rfl hsp_v2 hy32))) rfl ?_
              refine SJ.buildSlice (R := fStr) (os := [.tmp 38]) [r34] Try.runUnderlying24 Try.sizeOf9 Try.zeroValue9 rfl rfl rfl rfl rfl rfl fun v36 => ?_
              obtain ⟨l37, h38, hm⟩ := bindS hm
              refine SJ.append (k := 1) (R := fStr) h38 rfl Try.underlying24 el9 rfl rfl rfl (fun w hw => (hw.row_rd (k := 0) rfl)) rfl fun v39 => ?_
              refine SJ.q (YldS.yld (y_assign rfl)) rfl ?_
              refine SJ.nil ?_
              refine PJ.block_normal ?_
              exact PJ.joined (l37, v39) [1, 2, 3] hm ⟨rfl, rfl, rfl, rfl, rfl, rfl, trivial⟩ ⟨by decide, rfl⟩
            · replace hm := ifF hm hb33
              refine WJ.reg ?_
              refine SJ.q (YldS.yld (y_move rfl)) rfl ?_
              refine SJ.q (YldS.yld (y_move rfl)) rfl ?_
              refine SJ.q (YldS.yld (y_move rfl)) rfl ?_
              obtain ⟨r40, h41, hm⟩ := bindS hm
              refine SJ.q (y_call Try.call71 rfl (RetG.quiet fun w hw => ok_i_setLine h41 w _ (hw.inv_rd (k := 2) rfl (hr3.st hw) rfl hy32 h30))) rfl ?_
              refine SJ.buildSlice (R := fStr) (os := [.tmp 44]) [r40] Try.runUnderlying24 Try.sizeOf9 Try.zeroValue9 rfl rfl rfl rfl rfl rfl fun v42 => ?_
              obtain ⟨l43, h44, hm⟩ := bindS hm
              refine SJ.append (k := 1) (R := fStr) h44 rfl Try.underlying24 el9 rfl rfl rfl (fun w hw => (hw.row_rd (k := 0) rfl)) rfl fun v45 => ?_
              refine SJ.q (YldS.yld (y_assign rfl)) rfl ?_
              refine SJ.nil ?_
              refine PJ.block_normal ?_
              exact PJ.joined (l43, v45) [1, 2, 3] hm ⟨rfl, rfl, rfl, rfl, rfl, rfl, trivial⟩ ⟨by decide, rfl⟩
          · rintro ⟨l24, v25⟩ hm
            subst hk27
            refine WJ.quiet ?_
            refine QJ.step (YldS.yld (y_bin rfl rfl rfl)) rfl ?_
            refine QJ.step (YldS.yld (y_move rfl)) rfl ?_
            refine QJ.done ?_
            exact PJ.round (l24, v25, w64 (x22 + 1)) [0, 1, 2] hm ⟨rfl, rfl, rfl, rfl, rfl, rfl, trivial⟩ ⟨by decide, rfl⟩
        · replace hm := ifF hm hb23
          refine WJ.exit ?_
          refine PJ.then_exit (PJ.then_exit (PJ.block_exit ?_))
          exact PJ.joined (l20, v21) [0] hm ⟨rfl, trivial⟩ ⟨by decide, rfl⟩
    · rintro ⟨l16, v17⟩ hm
      subst hk19
      refine WJ.seq ?_
      refine WJ.quiet ?_
      refine QJ.step (YldS.yld (y_move rfl)) rfl ?_
      refine QJ.step (YldS.yld (y_assign rfl)) rfl ?_
      refine QJ.step (YldS.yld (y_assign rfl)) rfl ?_
      refine QJ.done ?_
      refine PJ.next ?_
      refine WJ.ret ?_
      obtain rfl := Option.some.inj hm
      refine PJ.sel (L' := [row v17 9 fStr l16]) [0] ⟨by decide, rfl⟩ ?_
      exact PJ.retn (vs := [v17, .int .i64 0]) Try.results10 ⟨rfl, rfl, trivial⟩ ⟨_, rfl, rfl⟩

set_option maxRecDepth 100000 in
set_option maxHeartbeats 1000000 in
theorem ok_i_SplitWords {N : Nat} {s1 : Str} {r : (List Str)} (hm : i_SplitWords N s1 = some r) (w : World)  :
    Calls Try.prog 73 #[str s1] w (RetG (cx w) fun u L => ∃ (u1 : Value), (u = u1 ∧ L = [row u1 9 fStr r])) := by
  unfold i_SplitWords at hm
  refine Calls.enter [str s1] Try.func73 rfl Try.ntmps73 rfl ?_
  refine WJ.seq ?_
  refine WJ.quiet ?_
  refine QJ.step (YldS.yld (y_assign rfl)) rfl ?_
  refine QJ.done ?_
  refine PJ.next ?_
  refine WJ.seq ?_
  refine WJ.reg ?_
  refine SJ.buildSlice (R := fStr) (os := []) [] Try.runUnderlying24 Try.sizeOf9 Try.zeroValue9 rfl rfl rfl rfl rfl rfl fun v2 => ?_
  refine SJ.q (YldS.yld (y_assign rfl)) rfl ?_
  refine SJ.nil ?_
  refine PJ.next ?_
  refine WJ.seq ?_
  refine WJ.quiet ?_
  refine QJ.step (YldS.yld (y_assign rfl)) rfl ?_
  refine QJ.done ?_
  refine PJ.next ?_
  obtain ⟨kj6, hk7, hm⟩ := withK_open hm
  refine WJ.join (X := (List Str) × Value × Int) (fun (x : (List Str) × Value × Int) => kj6 x.1 x.2.2 = some r) (fun (x : (List Str) × Value × Int) => [(0, str s1), (3, x.2.1), (4, .int .i64 x.2.2)]) (fun (x : (List Str) × Value × Int) => [row x.2.1 9 fStr x.1]) ?_ ?_
  · clear hk7
    refine WJ.seq ?_
    refine WJ.quiet ?_
    refine QJ.step (YldS.yld (y_move rfl)) rfl ?_
    refine QJ.step (YldS.yld (y_lenStr Try.runUnderlying9 rfl)) rfl ?_
    refine QJ.step (YldS.yld (y_move rfl)) rfl ?_
    refine QJ.done ?_
    refine PJ.next ?_
    refine WJ.block ?_
    refine WJ.sel (L' := (fun (x : (List Str) × Value × Int × Int) => [row x.2.1 9 fStr x.1]) ([], v2, (-1), 0)) [0] ⟨by decide, rfl⟩ ?_
    refine WJ.sub (m' := (fun (x : (List Str) × Value × Int × Int) => [(0, str s1), (3, x.2.1), (4, .int .i64 x.2.2.1), (8, .int .i64 (List.length s1 : Int)), (9, .int .i64 x.2.2.2)]) ([], v2, (-1), 0)) ⟨rfl, rfl, rfl, rfl, rfl, trivial⟩ ?_
    refine WJ.loop (X := (List Str) × Value × Int × Int) (fun N (x : (List Str) × Value × Int × Int) => i_SplitWords_l1 kj6 s1 N x.1 x.2.2.1 x.2.2.2 = some r) (fun (x : (List Str) × Value × Int × Int) => [(0, str s1), (3, x.2.1), (4, .int .i64 x.2.2.1), (8, .int .i64 (List.length s1 : Int)), (9, .int .i64 x.2.2.2)]) (fun (x : (List Str) × Value × Int × Int) => [row x.2.1 9 fStr x.1]) ?_ N ([], v2, (-1), 0) hm
    · rintro N ⟨l8, v9, start10, x11⟩ hI
      have hm := hI; clear hI
      cases N with
      | zero => cases hm
      | succ N =>
      unfold i_SplitWords_l1 at hm
      refine WJ.seq ?_
      refine WJ.quiet ?_
      refine QJ.step (YldS.yld (y_bin rfl rfl rfl)) rfl ?_
      refine QJ.done ?_
      refine PJ.next ?_
      refine WJ.seq ?_
      refine WJ.cond (t := decide (x11 < (List.length s1 : Int))) rfl (fun hb12 => ?_) (fun hb12 => ?_)
      · replace hm := ifT hm hb12
        refine WJ.skip ?_
        refine PJ.next ?_
        obtain ⟨kj16, hk17, hm⟩ := withK_open hm
        refine WJ.join (X := (List Str) × Value × Int) (fun (x : (List Str) × Value × Int) => kj16 x.1 x.2.2 = some r) (fun (x : (List Str) × Value × Int) => [(0, str s1), (3, x.2.1), (4, .int .i64 x.2.2), (8, .int .i64 (List.length s1 : Int)), (9, .int .i64 x11)]) (fun (x : (List Str) × Value × Int) => [row x.2.1 9 fStr x.1]) ?_ ?_
        · clear hk17
          refine WJ.block ?_
          refine WJ.seq ?_
          refine WJ.quiet ?_
          refine QJ.step (YldS.yld (y_move rfl)) rfl ?_
          refine QJ.step (YldS.yld (y_assign rfl)) rfl ?_
          refine QJ.done ?_
          refine PJ.next ?_
          refine WJ.block ?_
          refine WJ.seq ?_
          refine WJ.quiet ?_
          refine QJ.step (YldS.yld (y_move rfl)) rfl ?_
          refine QJ.step (YldS.yld (y_move rfl)) rfl ?_
          obtain ⟨c18, h19, hm⟩ := bindS hm
          refine QJ.step (YldS.yld (y_idxStr Try.runUnderlying9 rfl rfl h19)) rfl ?_
          refine QJ.step (YldS.yld (y_bin8 c18 (32 : UInt8) rfl rfl rfl)) rfl ?_
          refine QJ.step (YldS.yld (y_move rfl)) rfl ?_
          obtain ⟨t20, h21, hm⟩ := bindS hm
          refine QJ.cut 3 [(0, str s1), (3, v9), (4, .int .i64 start10), (5, .int .i64 x11), (8, .int .i64 (List.length s1 : Int)), (9, .int .i64 x11), (20, .bool t20)] ?_ ?_
          · rcases Bool.eq_false_or_eq_true (c18 == (32 : UInt8)) with hb22 | hb22
            · replace h21 := andT h21 hb22
              refine QJ.on rfl rfl (cB hb22) (YldS.yld (y_move rfl)) rfl ?_
              refine QJ.on rfl rfl (cB hb22) (YldS.yld (y_bin rfl rfl rfl)) rfl ?_
              refine QJ.step (YldS.yld (y_pick_t (cB hb22) rfl)) rfl ?_
              obtain rfl := Option.some.inj h21
              exact QJ.cut_end ⟨rfl, rfl, rfl, rfl, rfl, rfl, rfl, trivial⟩
            · obtain rfl := andF h21 hb22
              refine QJ.off rfl rfl (cB hb22) rfl rfl ?_
              refine QJ.off rfl rfl (cB hb22) rfl rfl ?_
              refine QJ.step (YldS.yld (y_pick_f (cB hb22) rfl)) rfl ?_
              exact QJ.cut_end ⟨rfl, rfl, rfl, rfl, rfl, rfl, rfl, trivial⟩
          refine QJ.step (YldS.yld (y_assign rfl)) rfl ?_
          refine QJ.done ?_
          refine PJ.next ?_
          refine WJ.cond (t := t20) rfl (fun hb23 => ?_) (fun hb23 => ?_)
          · replace hm := ifT hm hb23
            refine WJ.seq ?_
            refine WJ.reg ?_
            refine SJ.q (YldS.yld (y_move rfl)) rfl ?_
            refine SJ.q (YldS.yld (y_move rfl)) rfl ?_
            refine SJ.q (YldS.yld (y_move rfl)) rfl ?_
            refine SJ.q (YldS.yld (y_move rfl)) rfl ?_
            obtain ⟨s24, h25, hm⟩ := bindS hm
            refine SJ.q (YldS.yld (y_subStr (i := some start10) (j := some x11) h25 Try.runUnderlying9 rfl ⟨_, rfl⟩ ⟨_, rfl⟩)) rfl ?_
            refine SJ.buildSlice (R := fStr) (os := [.tmp 25]) [s24] Try.runUnderlying24 Try.sizeOf9 Try.zeroValue9 rfl rfl rfl rfl rfl rfl fun v26 => ?_
            obtain ⟨l27, h28, hm⟩ := bindS hm
            refine SJ.append (k := 1) (R := fStr) h28 rfl Try.underlying24 el9 rfl rfl rfl (fun w hw => (hw.row_rd (k := 0) rfl)) rfl fun v29 => ?_
            refine SJ.q (YldS.yld (y_assign rfl)) rfl ?_
            refine SJ.nil ?_
            refine PJ.next ?_
            refine WJ.quiet ?_
            refine QJ.step (YldS.yld (y_assign rfl)) rfl ?_
            refine QJ.done ?_
            refine PJ.block_normal (PJ.block_normal ?_)
            exact PJ.joined (l27, v29, (-1)) [1] hm ⟨rfl, rfl, rfl, rfl, rfl, trivial⟩ ⟨by decide, rfl⟩
          · replace hm := ifF hm hb23
            refine WJ.seq ?_
            refine WJ.quiet ?_
            refine QJ.step (YldS.yld (y_move rfl)) rfl ?_
            refine QJ.step (YldS.yld (y_move rfl)) rfl ?_
            obtain ⟨c30, h31, hm⟩ := bindS hm
            refine QJ.step (YldS.yld (y_idxStr Try.runUnderlying9 rfl rfl h31)) rfl ?_
            refine QJ.step (YldS.yld (y_bin8 c30 (32 : UInt8) rfl rfl rfl)) rfl ?_
            refine QJ.step (YldS.yld (y_move rfl)) rfl ?_
            obtain ⟨t32, h33, hm⟩ := bindS hm
            refine QJ.cut 3 [(0, str s1), (3, v9), (4, .int .i64 start10), (5, .int .i64 x11), (8, .int .i64 (List.length s1 : Int)), (9, .int .i64 x11), (36, .bool t32)] ?_ ?_
            · rcases Bool.eq_false_or_eq_true (c30 != (32 : UInt8)) with hb34 | hb34
              · replace h33 := andT h33 hb34
                refine QJ.on rfl rfl (cB hb34) (YldS.yld (y_move rfl)) rfl ?_
                refine QJ.on rfl rfl (cB hb34) (YldS.yld (y_bin rfl rfl rfl)) rfl ?_
                refine QJ.step (YldS.yld (y_pick_t (cB hb34) rfl)) rfl ?_
                obtain rfl := Option.some.inj h33
                exact QJ.cut_end ⟨rfl, rfl, rfl, rfl, rfl, rfl, rfl, trivial⟩
              · obtain rfl := andF h33 hb34
                refine QJ.off rfl rfl (cB hb34) rfl rfl ?_
                refine QJ.off rfl rfl (cB hb34) rfl rfl ?_
                refine QJ.step (YldS.yld (y_pick_f (cB hb34) rfl)) rfl ?_
                exact QJ.cut_end ⟨rfl, rfl, rfl, rfl, rfl, rfl, rfl, trivial⟩
            refine QJ.step (YldS.yld (y_assign rfl)) rfl ?_
            refine QJ.done ?_
            refine PJ.next ?_
            refine WJ.cond (t := t32) rfl (fun hb35 => ?_) (fun hb35 => ?_)
            · replace hm := ifT hm hb35
              refine WJ.quiet ?_
              refine QJ.step (YldS.yld (y_move rfl)) rfl ?_
              refine QJ.step (YldS.yld (y_assign rfl)) rfl ?_
              refine QJ.done ?_
              refine PJ.block_normal (PJ.block_normal ?_)
              exact PJ.joined (l8, v9, x11) [0] hm ⟨rfl, rfl, rfl, rfl, rfl, trivial⟩ ⟨by decide, rfl⟩
            · replace hm := ifF hm hb35
              refine WJ.skip ?_
              refine PJ.block_normal (PJ.block_normal ?_)
              exact PJ.joined (l8, v9, start10) [0] hm ⟨rfl, rfl, rfl, rfl, rfl, trivial⟩ ⟨by decide, rfl⟩
        · rintro ⟨l13, v14, start15⟩ hm
          subst hk17
          refine WJ.quiet ?_
          refine QJ.step (YldS.yld (y_bin rfl rfl rfl)) rfl ?_
          refine QJ.step (YldS.yld (y_move rfl)) rfl ?_
          refine QJ.done ?_
          exact PJ.round (l13, v14, start15, w64 (x11 + 1)) [0] hm ⟨rfl, rfl, rfl, rfl, rfl, trivial⟩ ⟨by decide, rfl⟩
      · replace hm := ifF hm hb12
        refine WJ.exit ?_
        refine PJ.then_exit (PJ.then_exit (PJ.block_exit ?_))
        exact PJ.joined (l8, v9, start10) [0] hm ⟨rfl, rfl, rfl, trivial⟩ ⟨by decide, rfl⟩
  · rintro ⟨l3, v4, start5⟩ hm
    subst hk7
    obtain ⟨kj38, hk39, hm⟩ := withK_open hm
    refine WJ.join (X := (List Str) × Value) (fun (x : (List Str) × Value) => kj38 x.1 = some r) (fun (x : (List Str) × Value) => [(3, x.2)]) (fun (x : (List Str) × Value) => [row x.2 9 fStr x.1]) ?_ ?_
    · clear hk39
      refine WJ.seq ?_
      refine WJ.quiet ?_
      refine QJ.step (YldS.yld (y_move rfl)) rfl ?_
      refine QJ.step (YldS.yld (y_bin rfl rfl rfl)) rfl ?_
      refine QJ.done ?_
      refine PJ.next ?_
      refine WJ.cond (t := decide (start5 ≥ 0)) rfl (fun hb40 => ?_) (fun hb40 => ?_)
      · replace hm := ifT hm hb40
        refine WJ.reg ?_
        refine SJ.q (YldS.yld (y_move rfl)) rfl ?_
        refine SJ.q (YldS.yld (y_move rfl)) rfl ?_
        refine SJ.q (YldS.yld (y_move rfl)) rfl ?_
        obtain ⟨s41, h42, hm⟩ := bindS hm
        refine SJ.q (YldS.yld (y_subStr (i := some start5) (j := none) h42 Try.runUnderlying9 rfl ⟨_, rfl⟩ trivial)) rfl ?_
        refine SJ.buildSlice (R := fStr) (os := [.tmp 44]) [s41] Try.runUnderlying24 Try.sizeOf9 Try.zeroValue9 rfl rfl rfl rfl rfl rfl fun v43 => ?_
        obtain ⟨l44, h45, hm⟩ := bindS hm
        refine SJ.append (k := 1) (R := fStr) h45 rfl Try.underlying24 el9 rfl rfl rfl (fun w hw => (hw.row_rd (k := 0) rfl)) rfl fun v46 => ?_
        refine SJ.q (YldS.yld (y_assign rfl)) rfl ?_
        refine SJ.nil ?_
        exact PJ.joined (l44, v46) [1] hm ⟨rfl, trivial⟩ ⟨by decide, rfl⟩
      · replace hm := ifF hm hb40
        refine WJ.skip ?_
        exact PJ.joined (l3, v4) [0] hm ⟨rfl, trivial⟩ ⟨by decide, rfl⟩
    · rintro ⟨l36, v37⟩ hm
      subst hk39
      refine WJ.seq ?_
      refine WJ.quiet ?_
      refine QJ.step (YldS.yld (y_move rfl)) rfl ?_
      refine QJ.step (YldS.yld (y_assign rfl)) rfl ?_
      refine QJ.done ?_
      refine PJ.next ?_
      refine WJ.ret ?_
      obtain rfl := Option.some.inj hm
      refine PJ.sel (L' := [row v37 9 fStr l36]) [0] ⟨by decide, rfl⟩ ?_
      exact PJ.retn (vs := [v37]) Try.results73 ⟨rfl, trivial⟩ ⟨_, rfl, rfl⟩

set_option maxRecDepth 100000 in
set_option maxHeartbeats 1000000 in
theorem ok_i_WordsOfLines {N : Nat} {lines1 : List Str} {r : (List Str) × Int} (hm : i_WordsOfLines N lines1 = some r) (w : World) (v2 : Value) (hr3 : RdS w (cx w).Fz v2 fStr.rp lines1) :
    Calls Try.prog 11 #[v2] w (RetG (cx w) fun u L => ∃ (u1 : Value), (u = tup [u1, .int .i64 r.2] ∧ L = [row u1 9 fStr r.1])) := by
  unfold i_WordsOfLines at hm
  refine Calls.enter [v2] Try.func11 rfl Try.ntmps11 rfl ?_
  refine WJ.seq ?_
  refine WJ.quiet ?_
  refine QJ.step (YldS.yld (y_assign rfl)) rfl ?_
  refine QJ.step (YldS.yld (y_assign rfl)) rfl ?_
  refine QJ.done ?_
  refine PJ.next ?_
  refine WJ.seq ?_
  refine WJ.seq ?_
  refine WJ.quiet ?_
  refine QJ.step (YldS.yld (y_move rfl)) rfl ?_
  refine QJ.step (YldS.yld (y_lenS Try.runUnderlying24 hr3 rfl)) rfl ?_
  refine QJ.step (YldS.yld (y_bin rfl rfl rfl)) rfl ?_
  refine QJ.done ?_
  refine PJ.next ?_
  refine WJ.cond (t := decide ((List.length lines1 : Int) > 40)) rfl (fun hb4 => ?_) (fun hb4 => ?_)
  · replace hm := ifT hm hb4
    refine WJ.seq ?_
    refine WJ.quiet ?_
    refine QJ.step (YldS.yld (y_assign rfl)) rfl ?_
    refine QJ.step (YldS.yld (y_assign rfl)) rfl ?_
    refine QJ.done ?_
    refine PJ.next ?_
    refine WJ.ret ?_
    refine PJ.then_ret ?_
    refine PJ.nil_row 9 fStr ?_
    obtain rfl := Option.some.inj hm
    refine PJ.sel (L' := [row (.slice none 0 0) 9 fStr []]) [0] ⟨by decide, rfl⟩ ?_
    exact PJ.retn (vs := [(.slice none 0 0), .int .i64 2]) Try.results11 ⟨rfl, rfl, trivial⟩ ⟨_, rfl, rfl⟩
  · replace hm := ifF hm hb4
    refine WJ.skip ?_
    refine PJ.next ?_
    refine WJ.seq ?_
    refine WJ.reg ?_
    refine SJ.buildSlice (R := fStr) (os := []) [] Try.runUnderlying24 Try.sizeOf9 Try.zeroValue9 rfl rfl rfl rfl rfl rfl fun v5 => ?_
    refine SJ.q (YldS.yld (y_assign rfl)) rfl ?_
    refine SJ.nil ?_
    refine PJ.next ?_
    obtain ⟨kj8, hk9, hm⟩ := withK_open hm
    refine WJ.join (X := (List Str) × Value) (fun (x : (List Str) × Value) => kj8 x.1 = some r) (fun (x : (List Str) × Value) => [(4, x.2)]) (fun (x : (List Str) × Value) => [row x.2 9 fStr x.1]) ?_ ?_
    · clear hk9
      refine WJ.seq ?_
      refine WJ.quiet ?_
      refine QJ.step (YldS.yld (y_move rfl)) rfl ?_
      refine QJ.step (YldS.yld (y_lenS Try.runUnderlying24 hr3 rfl)) rfl ?_
      refine QJ.step (YldS.yld (y_move rfl)) rfl ?_
      refine QJ.done ?_
      refine PJ.next ?_
      refine WJ.block ?_
      refine WJ.sel (L' := (fun (x : (List Str) × Value × Int) => [row x.2.1 9 fStr x.1]) ([], v5, 0)) [0] ⟨by decide, rfl⟩ ?_
      refine WJ.sub (m' := (fun (x : (List Str) × Value × Int) => [(4, x.2.1), (11, v2), (12, .int .i64 (List.length lines1 : Int)), (13, .int .i64 x.2.2)]) ([], v5, 0)) ⟨rfl, rfl, rfl, rfl, trivial⟩ ?_
      refine WJ.loop (X := (List Str) × Value × Int) (fun N (x : (List Str) × Value × Int) => i_WordsOfLines_l1 kj8 lines1 N x.1 x.2.2 = some r) (fun (x : (List Str) × Value × Int) => [(4, x.2.1), (11, v2), (12, .int .i64 (List.length lines1 : Int)), (13, .int .i64 x.2.2)]) (fun (x : (List Str) × Value × Int) => [row x.2.1 9 fStr x.1]) ?_ N ([], v5, 0) hm
      · rintro N ⟨l10, v11, x12⟩ hI
        have hm := hI; clear hI
        cases N with
        | zero => cases hm
        | succ N =>
        unfold i_WordsOfLines_l1 at hm
        refine WJ.seq ?_
        refine WJ.quiet ?_
        refine QJ.step (YldS.yld (y_bin rfl rfl rfl)) rfl ?_
        refine QJ.done ?_
        refine PJ.next ?_
        refine WJ.seq ?_
        refine WJ.cond (t := decide (x12 < (List.length lines1 : Int))) rfl (fun hb13 => ?_) (fun hb13 => ?_)
        · replace hm := ifT hm hb13
          refine WJ.skip ?_
          refine PJ.next ?_
          refine WJ.seq ?_
          refine WJ.block ?_
          refine WJ.seq ?_
          refine WJ.quiet ?_
          obtain ⟨e14, h15, hm⟩ := bindS hm
          obtain ⟨ad16, _, rfl, ha17, hy18⟩ := hr3.elem h15
          refine QJ.step (YldS.yld (hy18 Try.runUnderlying24 Try.sizeOf9 rfl rfl)) rfl ?_
          refine QJ.step (YldS.yld (y_load1 (v := str e14) Try.isAgg9 ha17 St.frozenC rfl)) rfl ?_
          refine QJ.step (YldS.yld (y_assign rfl)) rfl ?_
          refine QJ.done ?_
          refine PJ.next ?_
          refine WJ.seq ?_
          refine WJ.seq ?_
          refine WJ.quiet ?_
          refine QJ.step (YldS.yld (y_move rfl)) rfl ?_
          obtain ⟨r19, h20, hm⟩ := bindS hm
          refine QJ.step (y_call Try.call72 rfl (RetG.quiet fun w hw => ok_i_isText h20 w )) rfl ?_
          refine QJ.step (YldS.yld (y_not rfl)) rfl ?_
          refine QJ.done ?_
          refine PJ.next ?_
          refine WJ.cond (t := !r19) rfl (fun hb21 => ?_) (fun hb21 => ?_)
          · replace hm := ifT hm hb21
            refine WJ.seq ?_
            refine WJ.quiet ?_
            refine QJ.step (YldS.yld (y_assign rfl)) rfl ?_
            refine QJ.step (YldS.yld (y_assign rfl)) rfl ?_
            refine QJ.done ?_
            refine PJ.next ?_
            refine WJ.ret ?_
            refine PJ.then_ret (PJ.block_ret (PJ.then_ret (PJ.then_ret (PJ.block_ret (PJ.then_ret ?_)))))
            refine PJ.nil_row 9 fStr ?_
            obtain rfl := Option.some.inj hm
            refine PJ.sel (L' := [row (.slice none 0 0) 9 fStr []]) [0] ⟨by decide, rfl⟩ ?_
            exact PJ.retn (vs := [(.slice none 0 0), .int .i64 2]) Try.results11 ⟨rfl, rfl, trivial⟩ ⟨_, rfl, rfl⟩
          · replace hm := ifF hm hb21
            refine WJ.skip ?_
            refine PJ.next ?_
            refine WJ.reg ?_
            refine SJ.q (YldS.yld (y_move rfl)) rfl ?_
            refine SJ.q (YldS.yld (y_move rfl)) rfl ?_
            obtain ⟨r22, h23, hm⟩ := bindS hm
            refine SJ.call Try.call73 rfl (fun w hw => ok_i_SplitWords h23 w ) rfl ?_
            rintro v24 _ ⟨_, rfl, rfl⟩
            obtain ⟨l25, h26, hm⟩ := bindS hm
            refine SJ.append (k := 1) (R := fStr) h26 rfl Try.underlying24 el9 rfl rfl rfl (fun w hw => (hw.row_rd (k := 0) rfl)) rfl fun v27 => ?_
            refine SJ.q (YldS.yld (y_assign rfl)) rfl ?_
            refine SJ.nil ?_
            refine PJ.block_normal (PJ.next ?_)
            refine WJ.quiet ?_
            refine QJ.step (YldS.yld (y_bin rfl rfl rfl)) rfl ?_
            refine QJ.step (YldS.yld (y_move rfl)) rfl ?_
            refine QJ.done ?_
            exact PJ.round (l25, v27, w64 (x12 + 1)) [1] hm ⟨rfl, rfl, rfl, rfl, trivial⟩ ⟨by decide, rfl⟩
        · replace hm := ifF hm hb13
          refine WJ.exit ?_
          refine PJ.then_exit (PJ.then_exit (PJ.block_exit ?_))
          exact PJ.joined (l10, v11) [0] hm ⟨rfl, trivial⟩ ⟨by decide, rfl⟩
    · rintro ⟨l6, v7⟩ hm
      subst hk9
      refine WJ.seq ?_
      refine WJ.quiet ?_
      refine QJ.step (YldS.yld (y_move rfl)) rfl ?_
      refine QJ.step (YldS.yld (y_assign rfl)) rfl ?_
      refine QJ.step (YldS.yld (y_assign rfl)) rfl ?_
      refine QJ.done ?_
      refine PJ.next ?_
      refine WJ.ret ?_
      obtain rfl := Option.some.inj hm
      refine PJ.sel (L' := [row v7 9 fStr l6]) [0] ⟨by decide, rfl⟩ ?_
      exact PJ.retn (vs := [v7, .int .i64 0]) Try.results11 ⟨rfl, rfl, trivial⟩ ⟨_, rfl, rfl⟩

set_option maxRecDepth 100000 in
set_option maxHeartbeats 1000000 in
theorem ok_i_SetLine {N : Nat} {words1 : List Str} {width4 : Int} {r : Str × Int} (hm : i_SetLine N words1 width4 = some r) (w : World) (v2 : Value) (hr3 : RdS w (cx w).Fz v2 fStr.rp words1) :
    Calls Try.prog 12 #[v2, .int .i64 width4] w (Ret (cx w) (tup [str r.1, .int .i64 r.2])) := by
  unfold i_SetLine at hm
  refine Calls.enter [v2, .int .i64 width4] Try.func12 rfl Try.ntmps12 rfl ?_
  refine WJ.seq ?_
  refine WJ.quiet ?_
  refine QJ.step (YldS.yld (y_assign rfl)) rfl ?_
  refine QJ.step (YldS.yld (y_assign rfl)) rfl ?_
  refine QJ.done ?_
  refine PJ.next ?_
  refine WJ.seq ?_
  refine WJ.seq ?_
  refine WJ.quiet ?_
  refine QJ.step (YldS.yld (y_move rfl)) rfl ?_
  refine QJ.step (YldS.yld (y_move rfl)) rfl ?_
  obtain ⟨r5, h6, hm⟩ := bindS hm
  refine QJ.step (y_call Try.call74 rfl (RetG.quiet fun w hw => ok_i_ValidText h6 w _ (hr3.st hw))) rfl ?_
  refine QJ.step (YldS.yld (y_not rfl)) rfl ?_
  refine QJ.done ?_
  refine PJ.next ?_
  refine WJ.cond (t := !r5) rfl (fun hb7 => ?_) (fun hb7 => ?_)
  · replace hm := ifT hm hb7
    refine WJ.seq ?_
    refine WJ.quiet ?_
    refine QJ.step (YldS.yld (y_assign rfl)) rfl ?_
    refine QJ.step (YldS.yld (y_assign rfl)) rfl ?_
    refine QJ.done ?_
    refine PJ.next ?_
    refine WJ.ret ?_
    refine PJ.then_ret ?_
    obtain rfl := Option.some.inj hm
    refine PJ.sel (L' := []) [] ⟨List.nodup_nil, rfl⟩ ?_
    exact PJ.retn (vs := [str [], .int .i64 1]) Try.results12 ⟨rfl, rfl, trivial⟩ ⟨rfl, rfl⟩
  · replace hm := ifF hm hb7
    refine WJ.skip ?_
    refine PJ.next ?_
    refine WJ.seq ?_
    refine WJ.seq ?_
    refine WJ.quiet ?_
    refine QJ.step (YldS.yld (y_move rfl)) rfl ?_
    obtain ⟨r8, h9, hm⟩ := bindS hm
    refine QJ.step (y_call Try.call75 rfl (RetG.quiet fun w hw => ok_i_lineLength h9 w _ (hr3.st hw))) rfl ?_
    refine QJ.step (YldS.yld (y_move rfl)) rfl ?_
    refine QJ.step (YldS.yld (y_bin rfl rfl rfl)) rfl ?_
    refine QJ.done ?_
    refine PJ.next ?_
    refine WJ.cond (t := decide (r8 > width4)) rfl (fun hb10 => ?_) (fun hb10 => ?_)
    · replace hm := ifT hm hb10
      refine WJ.seq ?_
      refine WJ.quiet ?_
      refine QJ.step (YldS.yld (y_assign rfl)) rfl ?_
      refine QJ.step (YldS.yld (y_assign rfl)) rfl ?_
      refine QJ.done ?_
      refine PJ.next ?_
      refine WJ.ret ?_
      refine PJ.then_ret ?_
      obtain rfl := Option.some.inj hm
      refine PJ.sel (L' := []) [] ⟨List.nodup_nil, rfl⟩ ?_
      exact PJ.retn (vs := [str [], .int .i64 5]) Try.results12 ⟨rfl, rfl, trivial⟩ ⟨rfl, rfl⟩
    · replace hm := ifF hm hb10
      refine WJ.skip ?_
      refine PJ.next ?_
      refine WJ.seq ?_
      refine WJ.seq ?_
      refine WJ.quiet ?_
      refine QJ.step (YldS.yld (y_move rfl)) rfl ?_
      refine QJ.step (YldS.yld (y_lenS Try.runUnderlying24 hr3 rfl)) rfl ?_
      refine QJ.step (YldS.yld (y_bin rfl rfl rfl)) rfl ?_
      refine QJ.done ?_
      refine PJ.next ?_
      refine WJ.cond (t := ((List.length words1 : Int) == 0)) rfl (fun hb11 => ?_) (fun hb11 => ?_)
      · replace hm := ifT hm hb11
        refine WJ.seq ?_
        refine WJ.quiet ?_
        refine QJ.step (YldS.yld (y_assign rfl)) rfl ?_
        refine QJ.step (YldS.yld (y_assign rfl)) rfl ?_
        refine QJ.done ?_
        refine PJ.next ?_
        refine WJ.ret ?_
        refine PJ.then_ret ?_
        obtain rfl := Option.some.inj hm
        refine PJ.sel (L' := []) [] ⟨List.nodup_nil, rfl⟩ ?_
        exact PJ.retn (vs := [str [], .int .i64 3]) Try.results12 ⟨rfl, rfl, trivial⟩ ⟨rfl, rfl⟩
      · replace hm := ifF hm hb11
        refine WJ.skip ?_
        refine PJ.next ?_
        refine WJ.seq ?_
        refine WJ.quiet ?_
        refine QJ.step (YldS.yld (y_move rfl)) rfl ?_
        refine QJ.step (YldS.yld (y_move rfl)) rfl ?_
        obtain ⟨r12, h13, hm⟩ := bindS hm
        refine QJ.step (y_call Try.call71 rfl (RetG.quiet fun w hw => ok_i_setLine h13 w _ (hr3.st hw))) rfl ?_
        refine QJ.step (YldS.yld (y_assign rfl)) rfl ?_
        refine QJ.step (YldS.yld (y_assign rfl)) rfl ?_
        refine QJ.done ?_
        refine PJ.next ?_
        refine WJ.ret ?_
        obtain rfl := Option.some.inj hm
        refine PJ.sel (L' := []) [] ⟨List.nodup_nil, rfl⟩ ?_
        exact PJ.retn (vs := [str r12, .int .i64 0]) Try.results12 ⟨rfl, rfl, trivial⟩ ⟨rfl, rfl⟩

set_option maxRecDepth 100000 in
set_option maxHeartbeats 1000000 in
theorem ok_w_a2Even {N : Nat} {line1 : Str} {r : Bool} (hm : w_a2Even N line1 = some r) (w : World)  :
    Calls Try.prog 13 #[str line1] w (Ret (cx w) (.bool r)) := by
  unfold w_a2Even at hm
  refine Calls.enter [str line1] Try.func13 rfl Try.ntmps13 rfl ?_
  refine WJ.seq ?_
  refine WJ.quiet ?_
  refine QJ.step (YldS.yld (y_assign rfl)) rfl ?_
  refine QJ.done ?_
  refine PJ.next ?_
  refine WJ.seq ?_
  refine WJ.reg ?_
  refine SJ.buildSlice (R := fI64) (os := []) [] Try.runUnderlying27 Try.sizeOf2 Try.zeroValue2 rfl rfl rfl rfl rfl rfl fun v2 => ?_
  refine SJ.q (YldS.yld (y_assign rfl)) rfl ?_
  refine SJ.nil ?_
  refine PJ.next ?_
  refine WJ.seq ?_
  refine WJ.quiet ?_
  refine QJ.step (YldS.yld (y_assign rfl)) rfl ?_
  refine QJ.done ?_
  refine PJ.next ?_
  refine WJ.seq ?_
  refine WJ.quiet ?_
  refine QJ.step (YldS.yld (y_assign rfl)) rfl ?_
  refine QJ.done ?_
  refine PJ.next ?_
  obtain ⟨kj5, hk6, hm⟩ := withK_open hm
  refine WJ.join (X := (List Int) × Value) (fun (x : (List Int) × Value) => kj5 x.1 = some r) (fun (x : (List Int) × Value) => [(3, x.2)]) (fun (x : (List Int) × Value) => [row x.2 2 fI64 x.1]) ?_ ?_
  · clear hk6
    refine WJ.seq ?_
    refine WJ.quiet ?_
    refine QJ.step (YldS.yld (y_assign rfl)) rfl ?_
    refine QJ.done ?_
    refine PJ.next ?_
    refine WJ.block ?_
    refine WJ.sel (L' := (fun (x : (List Int) × Value × Int × Bool × Int) => [row x.2.1 2 fI64 x.1]) ([], v2, 0, false, 0)) [0] ⟨by decide, rfl⟩ ?_
    refine WJ.sub (m' := (fun (x : (List Int) × Value × Int × Bool × Int) => [(0, str line1), (3, x.2.1), (4, .int .i64 x.2.2.1), (5, .bool x.2.2.2.1), (6, .int .i64 x.2.2.2.2)]) ([], v2, 0, false, 0)) ⟨rfl, rfl, rfl, rfl, rfl, trivial⟩ ?_
    refine WJ.loop (X := (List Int) × Value × Int × Bool × Int) (fun N (x : (List Int) × Value × Int × Bool × Int) => w_a2Even_l1 kj5 line1 N x.1 x.2.2.1 x.2.2.2.1 x.2.2.2.2 = some r) (fun (x : (List Int) × Value × Int × Bool × Int) => [(0, str line1), (3, x.2.1), (4, .int .i64 x.2.2.1), (5, .bool x.2.2.2.1), (6, .int .i64 x.2.2.2.2)]) (fun (x : (List Int) × Value × Int × Bool × Int) => [row x.2.1 2 fI64 x.1]) ?_ N ([], v2, 0, false, 0) hm
    · rintro N ⟨l7, v8, n9, begun10, i11⟩ hI
      have hm := hI; clear hI
      cases N with
      | zero => cases hm
      | succ N =>
      unfold w_a2Even_l1 at hm
      refine WJ.seq ?_
      refine WJ.seq ?_
      refine WJ.quiet ?_
      refine QJ.step (YldS.yld (y_move rfl)) rfl ?_
      refine QJ.step (YldS.yld (y_move rfl)) rfl ?_
      refine QJ.step (YldS.yld (y_lenStr Try.runUnderlying9 rfl)) rfl ?_
      refine QJ.step (YldS.yld (y_bin rfl rfl rfl)) rfl ?_
      refine QJ.done ?_
      refine PJ.next ?_
      refine WJ.cond (t := decide (i11 < (List.length line1 : Int))) rfl (fun hb12 => ?_) (fun hb12 => ?_)
      · replace hm := ifT hm hb12
        refine WJ.skip ?_
        refine PJ.next ?_
        obtain ⟨kj17, hk18, hm⟩ := withK_open hm
        refine WJ.join (X := (List Int) × Value × Int × Bool) (fun (x : (List Int) × Value × Int × Bool) => kj17 x.1 x.2.2.1 x.2.2.2 = some r) (fun (x : (List Int) × Value × Int × Bool) => [(0, str line1), (3, x.2.1), (4, .int .i64 x.2.2.1), (5, .bool x.2.2.2), (6, .int .i64 i11)]) (fun (x : (List Int) × Value × Int × Bool) => [row x.2.1 2 fI64 x.1]) ?_ ?_
        · clear hk18
          refine WJ.block ?_
          refine WJ.seq ?_
          refine WJ.seq ?_
          refine WJ.quiet ?_
          refine QJ.step (YldS.yld (y_move rfl)) rfl ?_
          refine QJ.step (YldS.yld (y_move rfl)) rfl ?_
          obtain ⟨c19, h20, hm⟩ := bindS hm
          refine QJ.step (YldS.yld (y_idxStr Try.runUnderlying9 rfl rfl h20)) rfl ?_
          refine QJ.step (YldS.yld (y_bin8 c19 (32 : UInt8) rfl rfl rfl)) rfl ?_
          refine QJ.done ?_
          refine PJ.next ?_
          refine WJ.cond (t := (c19 == (32 : UInt8))) rfl (fun hb21 => ?_) (fun hb21 => ?_)
          · replace hm := ifT hm hb21
            refine WJ.seq ?_
            refine WJ.quiet ?_
            refine QJ.step (YldS.yld (y_move rfl)) rfl ?_
            refine QJ.step (YldS.yld (y_bin rfl rfl rfl)) rfl ?_
            refine QJ.step (YldS.yld (y_assign rfl)) rfl ?_
            refine QJ.done ?_
            refine PJ.next ?_
            refine WJ.exit ?_
            refine PJ.then_exit (PJ.block_exit ?_)
            exact PJ.joined (l7, v8, w64 (n9 + 1), begun10) [0] hm ⟨rfl, rfl, rfl, rfl, rfl, trivial⟩ ⟨by decide, rfl⟩
          · replace hm := ifF hm hb21
            refine WJ.skip ?_
            refine PJ.next ?_
            obtain ⟨kj24, hk25, hm⟩ := withK_open hm
            refine WJ.join (X := (List Int) × Value) (fun (x : (List Int) × Value) => kj24 x.1 = some r) (fun (x : (List Int) × Value) => [(0, str line1), (3, x.2), (6, .int .i64 i11)]) (fun (x : (List Int) × Value) => [row x.2 2 fI64 x.1]) ?_ ?_
            · clear hk25
              refine WJ.seq ?_
              refine WJ.quiet ?_
              refine QJ.step (YldS.yld (y_move rfl)) rfl ?_
              refine QJ.step (YldS.yld (y_bin rfl rfl rfl)) rfl ?_
              refine QJ.step (YldS.yld (y_move rfl)) rfl ?_
              obtain ⟨t26, h27, hm⟩ := bindS hm
              refine QJ.cut 2 [(0, str line1), (3, v8), (4, .int .i64 n9), (6, .int .i64 i11), (25, .bool t26)] ?_ ?_
              · rcases Bool.eq_false_or_eq_true (decide (n9 > 0)) with hb28 | hb28
                · replace h27 := andT h27 hb28
                  refine QJ.on rfl rfl (cB hb28) (YldS.yld (y_move rfl)) rfl ?_
                  refine QJ.step (YldS.yld (y_pick_t (cB hb28) rfl)) rfl ?_
                  obtain rfl := Option.some.inj h27
                  exact QJ.cut_end ⟨rfl, rfl, rfl, rfl, rfl, trivial⟩
                · obtain rfl := andF h27 hb28
                  refine QJ.off rfl rfl (cB hb28) rfl rfl ?_
                  refine QJ.step (YldS.yld (y_pick_f (cB hb28) rfl)) rfl ?_
                  exact QJ.cut_end ⟨rfl, rfl, rfl, rfl, rfl, trivial⟩
              refine QJ.done ?_
              refine PJ.next ?_
              refine WJ.cond (t := t26) rfl (fun hb29 => ?_) (fun hb29 => ?_)
              · replace hm := ifT hm hb29
                refine WJ.reg ?_
                refine SJ.q (YldS.yld (y_move rfl)) rfl ?_
                refine SJ.q (YldS.yld (y_move rfl)) rfl ?_
                refine SJ.buildSlice (R := fI64) (os := [.tmp 27]) [n9] Try.runUnderlying27 Try.sizeOf2 Try.zeroValue2 rfl rfl rfl rfl rfl rfl fun v30 => ?_
                obtain ⟨l31, h32, hm⟩ := bindS hm
                refine SJ.append (k := 1) (R := fI64) h32 rfl Try.underlying27 el2 rfl rfl rfl (fun w hw => (hw.row_rd (k := 0) rfl)) rfl fun v33 => ?_
                refine SJ.q (YldS.yld (y_assign rfl)) rfl ?_
                refine SJ.nil ?_
                exact PJ.joined (l31, v33) [1] hm ⟨rfl, rfl, rfl, trivial⟩ ⟨by decide, rfl⟩
              · replace hm := ifF hm hb29
                refine WJ.skip ?_
                exact PJ.joined (l7, v8) [0] hm ⟨rfl, rfl, rfl, trivial⟩ ⟨by decide, rfl⟩
            · rintro ⟨l22, v23⟩ hm
              subst hk25
              refine WJ.seq ?_
              refine WJ.quiet ?_
              refine QJ.step (YldS.yld (y_assign rfl)) rfl ?_
              refine QJ.done ?_
              refine PJ.next ?_
              refine WJ.quiet ?_
              refine QJ.step (YldS.yld (y_assign rfl)) rfl ?_
              refine QJ.done ?_
              refine PJ.block_normal ?_
              exact PJ.joined (l22, v23, 0, true) [0] hm ⟨rfl, rfl, rfl, rfl, rfl, trivial⟩ ⟨by decide, rfl⟩
        · rintro ⟨l13, v14, n15, begun16⟩ hm
          subst hk18
          refine WJ.quiet ?_
          refine QJ.step (YldS.yld (y_move rfl)) rfl ?_
          refine QJ.step (YldS.yld (y_bin rfl rfl rfl)) rfl ?_
          refine QJ.step (YldS.yld (y_assign rfl)) rfl ?_
          refine QJ.done ?_
          exact PJ.round (l13, v14, n15, begun16, w64 (i11 + 1)) [0] hm ⟨rfl, rfl, rfl, rfl, rfl, trivial⟩ ⟨by decide, rfl⟩
      · replace hm := ifF hm hb12
        refine WJ.exit ?_
        refine PJ.then_exit (PJ.then_exit (PJ.block_exit ?_))
        exact PJ.joined (l7, v8) [0] hm ⟨rfl, trivial⟩ ⟨by decide, rfl⟩
  · rintro ⟨l3, v4⟩ hm
    subst hk6
    obtain ⟨kj34, hk35, hm⟩ := withK_open hm
    refine WJ.join (X := Unit) (fun (_ : Unit) => kj34  = some r) (fun (_ : Unit) => []) (fun (_ : Unit) => []) ?_ ?_
    · clear hk35
      refine WJ.seq ?_
      refine WJ.quiet ?_
      refine QJ.step (YldS.yld (y_assign rfl)) rfl ?_
      refine QJ.done ?_
      refine PJ.next ?_
      refine WJ.block ?_
      refine WJ.sel (L' := (fun (x : Int) => [row v4 2 fI64 l3]) 1) [0] ⟨by decide, rfl⟩ ?_
      refine WJ.sub (m' := (fun (x : Int) => [(3, v4), (7, .int .i64 x)]) 1) ⟨rfl, rfl, trivial⟩ ?_
      refine WJ.loop (X := Int) (fun N (x : Int) => w_a2Even_l2 kj34 l3 N x = some r) (fun (x : Int) => [(3, v4), (7, .int .i64 x)]) (fun (x : Int) => [row v4 2 fI64 l3]) ?_ N 1 hm
      · rintro N i36 hI
        have hm := hI; clear hI
        cases N with
        | zero => cases hm
        | succ N =>
        unfold w_a2Even_l2 at hm
        refine WJ.seq ?_
        refine WJ.seq ?_
        refine WJ.quiet ?_
        refine QJ.step (YldS.yld (y_move rfl)) rfl ?_
        refine QJ.step (YldS.yld (y_move rfl)) rfl ?_
        refine QJ.step (YldS.yld (y_lenRow (k := 0) rfl Try.runUnderlying27 rfl)) rfl ?_
        refine QJ.step (YldS.yld (y_bin rfl rfl rfl)) rfl ?_
        refine QJ.done ?_
        refine PJ.next ?_
        refine WJ.cond (t := decide (i36 < (List.length l3 : Int))) rfl (fun hb37 => ?_) (fun hb37 => ?_)
        · replace hm := ifT hm hb37
          refine WJ.skip ?_
          refine PJ.next ?_
          refine WJ.seq ?_
          refine WJ.block ?_
          refine WJ.seq ?_
          refine WJ.quiet_draw follows (by kernel_rfl) ?_
          refine QJ.step (YldS.yld (y_move rfl)) rfl ?_
          refine QJ.step (YldS.yld (y_move rfl)) rfl ?_
          obtain ⟨e38, h39, hm⟩ := bindS hm
          refine QJ.step (YldS.yld (y_ixRow (k := 0) (R := fI64) rfl Try.runUnderlying27 Try.sizeOf2 rfl rfl h39)) rfl ?_
          refine QJ.step (YldS.yld (y_loadR (k := 0) (i := (Int.toNat i36)) (off := 0) (u := .int .i64 e38) rfl Try.isAgg2 rfl (idx_get h39) rfl)) rfl ?_
          refine QJ.step (YldS.yld (y_move rfl)) rfl ?_
          refine QJ.step (YldS.yld (y_move rfl)) rfl ?_
          refine QJ.step (YldS.yld (y_bin rfl rfl rfl)) rfl ?_
          obtain ⟨e40, h41, hm⟩ := bindS hm
          refine QJ.step (YldS.yld (y_ixRow (k := 0) (R := fI64) rfl Try.runUnderlying27 Try.sizeOf2 rfl rfl h41)) rfl ?_
          refine QJ.step (YldS.yld (y_loadR (k := 0) (i := (Int.toNat (w64 (i36 - 1)))) (off := 0) (u := .int .i64 e40) rfl Try.isAgg2 rfl (idx_get h41) rfl)) rfl ?_
          refine QJ.step (YldS.yld (y_bin rfl rfl rfl)) rfl ?_
          refine QJ.step (YldS.yld (y_move rfl)) rfl ?_
          obtain ⟨t42, h43, hm⟩ := bindS hm
          refine QJ.cut 10 [(3, v4), (7, .int .i64 i36), (56, .bool t42)] ?_ ?_
          · rcases Bool.eq_false_or_eq_true (decide (e38 > e40)) with hb44 | hb44
            · obtain rfl := orT h43 hb44
              refine QJ.off rfl rfl (cB hb44) rfl rfl ?_
              refine QJ.off rfl rfl (cB hb44) rfl rfl ?_
              refine QJ.off rfl rfl (cB hb44) rfl rfl ?_
              refine QJ.off rfl rfl (cB hb44) rfl rfl ?_
              refine QJ.off rfl rfl (cB hb44) rfl rfl ?_
              refine QJ.off rfl rfl (cB hb44) rfl rfl ?_
              refine QJ.off rfl rfl (cB hb44) rfl rfl ?_
              refine QJ.off rfl rfl (cB hb44) rfl rfl ?_
              refine QJ.off rfl rfl (cB hb44) rfl rfl ?_
              refine QJ.step (YldS.yld (y_pick_t (cB hb44) rfl)) rfl ?_
              exact QJ.cut_end ⟨rfl, rfl, rfl, trivial⟩
            · replace h43 := orF h43 hb44
              refine QJ.on rfl rfl (cB hb44) (YldS.yld (y_move rfl)) rfl ?_
              obtain ⟨e45, h46, h43⟩ := bindS h43
              refine QJ.on rfl rfl (cB hb44) (YldS.yld (y_ixRow (k := 0) (R := fI64) rfl Try.runUnderlying27 Try.sizeOf2 rfl rfl h46)) rfl ?_
              refine QJ.on rfl rfl (cB hb44) (YldS.yld (y_loadR (k := 0) (i := (Int.toNat 0)) (off := 0) (u := .int .i64 e45) rfl Try.isAgg2 rfl (idx_get h46) rfl)) rfl ?_
              refine QJ.on rfl rfl (cB hb44) (YldS.yld (y_move rfl)) rfl ?_
              refine QJ.on rfl rfl (cB hb44) (YldS.yld (y_move rfl)) rfl ?_
              obtain ⟨e47, h48, h43⟩ := bindS h43
              refine QJ.on rfl rfl (cB hb44) (YldS.yld (y_ixRow (k := 0) (R := fI64) rfl Try.runUnderlying27 Try.sizeOf2 rfl rfl h48)) rfl ?_
              refine QJ.on rfl rfl (cB hb44) (YldS.yld (y_loadR (k := 0) (i := (Int.toNat i36)) (off := 0) (u := .int .i64 e47) rfl Try.isAgg2 rfl (idx_get h48) rfl)) rfl ?_
              refine QJ.on rfl rfl (cB hb44) (YldS.yld (y_bin rfl rfl rfl)) rfl ?_
              refine QJ.on rfl rfl (cB hb44) (YldS.yld (y_bin rfl rfl rfl)) rfl ?_
              refine QJ.step (YldS.yld (y_pick_f (cB hb44) rfl)) rfl ?_
              obtain rfl := Option.some.inj h43
              exact QJ.cut_end ⟨rfl, rfl, rfl, trivial⟩
          refine QJ.done ?_
          refine PJ.next ?_
          refine WJ.cond (t := t42) rfl (fun hb49 => ?_) (fun hb49 => ?_)
          · replace hm := ifT hm hb49
            refine WJ.seq ?_
            refine WJ.quiet ?_
            refine QJ.step (YldS.yld (y_assign rfl)) rfl ?_
            refine QJ.done ?_
            refine PJ.next ?_
            refine WJ.ret ?_
            refine PJ.block_ret (PJ.then_ret (PJ.then_ret (PJ.block_ret (PJ.then_ret ?_))))
            obtain rfl := Option.some.inj hm
            refine PJ.sel (L' := []) [] ⟨List.nodup_nil, rfl⟩ ?_
            exact PJ.retn (vs := [.bool false]) Try.results13 ⟨rfl, trivial⟩ ⟨rfl, rfl⟩
          · replace hm := ifF hm hb49
            refine WJ.skip ?_
            refine PJ.block_normal (PJ.next ?_)
            refine WJ.quiet ?_
            refine QJ.step (YldS.yld (y_move rfl)) rfl ?_
            refine QJ.step (YldS.yld (y_bin rfl rfl rfl)) rfl ?_
            refine QJ.step (YldS.yld (y_assign rfl)) rfl ?_
            refine QJ.done ?_
            exact PJ.round (w64 (i36 + 1)) [0] hm ⟨rfl, rfl, trivial⟩ ⟨by decide, rfl⟩
        · replace hm := ifF hm hb37
          refine WJ.exit ?_
          refine PJ.then_exit (PJ.then_exit (PJ.block_exit ?_))
          exact PJ.joined () [] hm trivial ⟨List.nodup_nil, rfl⟩
    · rintro _ hm
      subst hk35
      refine WJ.seq ?_
      refine WJ.quiet ?_
      refine QJ.step (YldS.yld (y_assign rfl)) rfl ?_
      refine QJ.done ?_
      refine PJ.next ?_
      refine WJ.ret ?_
      obtain rfl := Option.some.inj hm
      refine PJ.sel (L' := []) [] ⟨List.nodup_nil, rfl⟩ ?_
      exact PJ.retn (vs := [.bool true]) Try.results13 ⟨rfl, trivial⟩ ⟨rfl, rfl⟩

set_option maxRecDepth 100000 in
set_option maxHeartbeats 1000000 in
theorem ok_w_FnSetLines {N : Nat} {code1 : List UInt8} {more4 : List UInt8} {r : Bool} (hm : w_FnSetLines N code1 more4 = some r) (w : World) (v2 : Value) (hr3 : RdS w (cx w).Fz v2 fByte.rp code1) (v5 : Value) (hr6 : RdS w (cx w).Fz v5 fByte.rp more4) :
    Calls Try.prog 3 #[v2, v5] w (Ret (cx w) (.bool r)) := by
  unfold w_FnSetLines at hm
  refine Calls.enter [v2, v5] Try.func3 rfl Try.ntmps3 rfl ?_
  refine WJ.seq ?_
  refine WJ.quiet ?_
  refine QJ.step (YldS.yld (y_assign rfl)) rfl ?_
  refine QJ.done ?_
  refine PJ.next ?_
  refine WJ.seq ?_
  refine WJ.seq ?_
  refine WJ.quiet ?_
  refine QJ.step (YldS.yld (y_move rfl)) rfl ?_
  refine QJ.step (YldS.yld (y_move rfl)) rfl ?_
  obtain ⟨r7, h8, hm⟩ := bindS hm
  refine QJ.step (y_call Try.call7 rfl (RetG.quiet fun w hw => ok_w_a2Long h8 w _ (hr3.st hw) _ (hr6.st hw))) rfl ?_
  refine QJ.done ?_
  refine PJ.next ?_
  refine WJ.cond (t := r7) rfl (fun hb9 => ?_) (fun hb9 => ?_)
  · replace hm := ifT hm hb9
    refine WJ.seq ?_
    refine WJ.quiet ?_
    refine QJ.step (YldS.yld (y_assign rfl)) rfl ?_
    refine QJ.done ?_
    refine PJ.next ?_
    refine WJ.ret ?_
    refine PJ.then_ret ?_
    obtain rfl := Option.some.inj hm
    refine PJ.sel (L' := []) [] ⟨List.nodup_nil, rfl⟩ ?_
    exact PJ.retn (vs := [.bool true]) Try.results3 ⟨rfl, trivial⟩ ⟨rfl, rfl⟩
  · replace hm := ifF hm hb9
    refine WJ.skip ?_
    refine PJ.next ?_
    refine WJ.seq ?_
    refine WJ.reg ?_
    refine SJ.q (YldS.yld (y_move rfl)) rfl ?_
    obtain ⟨r10, h11, hm⟩ := bindS hm
    refine SJ.call Try.call8 rfl (fun w hw => ok_s_A2Words h11 w _ (hr3.st hw)) rfl ?_
    rintro _ _ ⟨v12, rfl, rfl⟩
    refine SJ.q (YldS.yld (y_move rfl)) rfl ?_
    refine SJ.q (YldS.yld (y_extract rfl rfl)) rfl ?_
    refine SJ.q (YldS.yld (y_extract rfl rfl)) rfl ?_
    refine SJ.q (YldS.yld (y_assign rfl)) rfl ?_
    refine SJ.q (YldS.yld (y_assign rfl)) rfl ?_
    refine SJ.nil ?_
    refine PJ.next ?_
    refine WJ.seq ?_
    refine WJ.reg ?_
    refine SJ.q (YldS.yld (y_move rfl)) rfl ?_
    refine SJ.q (YldS.yld (y_move rfl)) rfl ?_
    refine SJ.q (YldS.yld (y_move rfl)) rfl ?_
    obtain ⟨r13, h14, hm⟩ := bindS hm
    refine SJ.call Try.call9 rfl (fun w hw => ok_s_A2Breaks h14 w _ (hr6.st hw) _ (hw.row_rd (k := 0) rfl)) rfl ?_
    rintro v15 _ ⟨_, rfl, rfl⟩
    refine SJ.q (YldS.yld (y_assign rfl)) rfl ?_
    refine SJ.nil ?_
    refine PJ.next ?_
    refine WJ.seq ?_
    refine WJ.reg ?_
    refine SJ.q (YldS.yld (y_move rfl)) rfl ?_
    refine SJ.q (YldS.yld (y_move rfl)) rfl ?_
    refine SJ.q (YldS.yld (y_move rfl)) rfl ?_
    obtain ⟨r16, h17, hm⟩ := bindS hm
    refine SJ.call Try.call10 rfl (fun w hw => ok_i_SetText h17 w _ (hw.row_rd (k := 1) rfl) (hw.row_sp (k := 1) rfl) _ (hw.row_rd (k := 0) rfl)) rfl ?_
    rintro _ _ ⟨v18, rfl, rfl⟩
    refine SJ.q (YldS.yld (y_move rfl)) rfl ?_
    refine SJ.q (YldS.yld (y_extract rfl rfl)) rfl ?_
    refine SJ.q (YldS.yld (y_extract rfl rfl)) rfl ?_
    refine SJ.q (YldS.yld (y_assign rfl)) rfl ?_
    refine SJ.q (YldS.yld (y_assign rfl)) rfl ?_
    refine SJ.nil ?_
    refine PJ.next ?_
    refine WJ.seq ?_
    refine WJ.reg ?_
    refine SJ.q (YldS.yld (y_move rfl)) rfl ?_
    obtain ⟨r19, h20, hm⟩ := bindS hm
    refine SJ.call Try.call11 rfl (fun w hw => ok_i_WordsOfLines h20 w _ (hw.row_rd (k := 0) rfl)) rfl ?_
    rintro _ _ ⟨v21, rfl, rfl⟩
    refine SJ.q (YldS.yld (y_move rfl)) rfl ?_
    refine SJ.q (YldS.yld (y_extract rfl rfl)) rfl ?_
    refine SJ.q (YldS.yld (y_extract rfl rfl)) rfl ?_
    refine SJ.q (YldS.yld (y_assign rfl)) rfl ?_
    refine SJ.q (YldS.yld (y_assign rfl)) rfl ?_
    refine SJ.nil ?_
    refine PJ.next ?_
    refine WJ.seq ?_
    refine WJ.seq ?_
    refine WJ.quiet ?_
    refine QJ.step (YldS.yld (y_move rfl)) rfl ?_
    refine QJ.step (YldS.yld (y_bin rfl rfl rfl)) rfl ?_
    refine QJ.step (YldS.yld (y_move rfl)) rfl ?_
    obtain ⟨t22, h23, hm⟩ := bindS hm
    refine QJ.cut 3 [(5, v12), (6, .int .i64 r10.2), (7, v15), (8, v18), (10, v21), (47, .bool t22)] ?_ ?_
    · rcases Bool.eq_false_or_eq_true (r16.2 != 0) with hb24 | hb24
      · obtain rfl := orT h23 hb24
        refine QJ.off rfl rfl (cB hb24) rfl rfl ?_
        refine QJ.off rfl rfl (cB hb24) rfl rfl ?_
        refine QJ.step (YldS.yld (y_pick_t (cB hb24) rfl)) rfl ?_
        exact QJ.cut_end ⟨rfl, rfl, rfl, rfl, rfl, rfl, trivial⟩
      · replace h23 := orF h23 hb24
        refine QJ.on rfl rfl (cB hb24) (YldS.yld (y_move rfl)) rfl ?_
        refine QJ.on rfl rfl (cB hb24) (YldS.yld (y_bin rfl rfl rfl)) rfl ?_
        refine QJ.step (YldS.yld (y_pick_f (cB hb24) rfl)) rfl ?_
        obtain rfl := Option.some.inj h23
        exact QJ.cut_end ⟨rfl, rfl, rfl, rfl, rfl, rfl, trivial⟩
    refine QJ.step (YldS.yld (y_move rfl)) rfl ?_
    obtain ⟨t25, h26, hm⟩ := bindS hm
    refine QJ.cut 6 [(5, v12), (6, .int .i64 r10.2), (7, v15), (8, v18), (10, v21), (54, .bool t25)] ?_ ?_
    · rcases Bool.eq_false_or_eq_true t22 with hb27 | hb27
      · obtain rfl := orT h26 hb27
        refine QJ.off rfl rfl (cB hb27) rfl rfl ?_
        refine QJ.off rfl rfl (cB hb27) rfl rfl ?_
        refine QJ.off rfl rfl (cB hb27) rfl rfl ?_
        refine QJ.off rfl rfl (cB hb27) rfl rfl ?_
        refine QJ.off rfl rfl (cB hb27) rfl rfl ?_
        refine QJ.step (YldS.yld (y_pick_t (cB hb27) rfl)) rfl ?_
        exact QJ.cut_end ⟨rfl, rfl, rfl, rfl, rfl, rfl, trivial⟩
      · replace h26 := orF h26 hb27
        refine QJ.on rfl rfl (cB hb27) (YldS.yld (y_move rfl)) rfl ?_
        refine QJ.on rfl rfl (cB hb27) (YldS.yld (y_lenRow (k := 0) rfl Try.runUnderlying24 rfl)) rfl ?_
        refine QJ.on rfl rfl (cB hb27) (YldS.yld (y_move rfl)) rfl ?_
        refine QJ.on rfl rfl (cB hb27) (YldS.yld (y_lenRow (k := 3) rfl Try.runUnderlying24 rfl)) rfl ?_
        refine QJ.on rfl rfl (cB hb27) (YldS.yld (y_bin rfl rfl rfl)) rfl ?_
        refine QJ.step (YldS.yld (y_pick_f (cB hb27) rfl)) rfl ?_
        obtain rfl := Option.some.inj h26
        exact QJ.cut_end ⟨rfl, rfl, rfl, rfl, rfl, rfl, trivial⟩
    refine QJ.step (YldS.yld (y_move rfl)) rfl ?_
    obtain ⟨t28, h29, hm⟩ := bindS hm
    refine QJ.cut 12 [(5, v12), (6, .int .i64 r10.2), (8, v18), (10, v21), (67, .bool t28)] ?_ ?_
    · rcases Bool.eq_false_or_eq_true t25 with hb30 | hb30
      · obtain rfl := orT h29 hb30
        refine QJ.off rfl rfl (cB hb30) rfl rfl ?_
        refine QJ.off rfl rfl (cB hb30) rfl rfl ?_
        refine QJ.off rfl rfl (cB hb30) rfl rfl ?_
        refine QJ.off rfl rfl (cB hb30) rfl rfl ?_
        refine QJ.off_undef rfl rfl rfl rfl ?_
        refine QJ.off_undef rfl rfl rfl rfl ?_
        refine QJ.off_undef rfl rfl rfl rfl ?_
        refine QJ.off_undef rfl rfl rfl rfl ?_
        refine QJ.off_undef rfl rfl rfl rfl ?_
        refine QJ.off_undef rfl rfl rfl rfl ?_
        refine QJ.off rfl rfl (cB hb30) rfl rfl ?_
        refine QJ.step (YldS.yld (y_pick_t (cB hb30) rfl)) rfl ?_
        exact QJ.cut_end ⟨rfl, rfl, rfl, rfl, rfl, trivial⟩
      · replace h29 := orF h29 hb30
        refine QJ.on rfl rfl (cB hb30) (YldS.yld (y_move rfl)) rfl ?_
        refine QJ.on rfl rfl (cB hb30) (YldS.yld (y_lenRow (k := 3) rfl Try.runUnderlying24 rfl)) rfl ?_
        refine QJ.on rfl rfl (cB hb30) (YldS.yld (y_bin rfl rfl rfl)) rfl ?_
        refine QJ.on rfl rfl (cB hb30) (YldS.yld (y_move rfl)) rfl ?_
        obtain ⟨t31, h32, h29⟩ := bindS h29
        refine QJ.cut 7 [(5, v12), (6, .int .i64 r10.2), (8, v18), (10, v21), (55, .bool t25), (66, .bool t31)] ?_ ?_
        · rcases Bool.eq_false_or_eq_true (decide ((List.length r10.1 : Int) > 0)) with hb33 | hb33
          · replace h32 := andT h32 hb33
            refine QJ.on rfl rfl (cB hb33) (YldS.yld (y_move rfl)) rfl ?_
            refine QJ.on rfl rfl (cB hb33) (YldS.yld (y_lenRow (k := 1) rfl Try.runUnderlying24 rfl)) rfl ?_
            refine QJ.on rfl rfl (cB hb33) (YldS.yld (y_move rfl)) rfl ?_
            refine QJ.on rfl rfl (cB hb33) (YldS.yld (y_lenRow (k := 2) rfl Try.runUnderlying27 rfl)) rfl ?_
            refine QJ.on rfl rfl (cB hb33) (YldS.yld (y_bin rfl rfl rfl)) rfl ?_
            refine QJ.on rfl rfl (cB hb33) (YldS.yld (y_bin rfl rfl rfl)) rfl ?_
            refine QJ.on rfl rfl (cB hb30) (YldS.yld (y_pick_t (cB hb33) rfl)) rfl ?_
            obtain rfl := Option.some.inj h32
            exact QJ.cut_end ⟨rfl, rfl, rfl, rfl, rfl, rfl, trivial⟩
          · obtain rfl := andF h32 hb33
            refine QJ.off rfl rfl (cB hb33) rfl rfl ?_
            refine QJ.off rfl rfl (cB hb33) rfl rfl ?_
            refine QJ.off rfl rfl (cB hb33) rfl rfl ?_
            refine QJ.off rfl rfl (cB hb33) rfl rfl ?_
            refine QJ.off rfl rfl (cB hb33) rfl rfl ?_
            refine QJ.off rfl rfl (cB hb33) rfl rfl ?_
            refine QJ.on rfl rfl (cB hb30) (YldS.yld (y_pick_f (cB hb33) rfl)) rfl ?_
            exact QJ.cut_end ⟨rfl, rfl, rfl, rfl, rfl, rfl, trivial⟩
        refine QJ.step (YldS.yld (y_pick_f (cB hb30) rfl)) rfl ?_
        obtain rfl := Option.some.inj h29
        exact QJ.cut_end ⟨rfl, rfl, rfl, rfl, rfl, trivial⟩
    refine QJ.done ?_
    refine PJ.next ?_
    refine WJ.cond (t := t28) rfl (fun hb34 => ?_) (fun hb34 => ?_)
    · replace hm := ifT hm hb34
      refine WJ.seq ?_
      refine WJ.quiet ?_
      refine QJ.step (YldS.yld (y_assign rfl)) rfl ?_
      refine QJ.done ?_
      refine PJ.next ?_
      refine WJ.ret ?_
      refine PJ.then_ret ?_
      obtain rfl := Option.some.inj hm
      refine PJ.sel (L' := []) [] ⟨List.nodup_nil, rfl⟩ ?_
      exact PJ.retn (vs := [.bool false]) Try.results3 ⟨rfl, trivial⟩ ⟨rfl, rfl⟩
    · replace hm := ifF hm hb34
      refine WJ.skip ?_
      refine PJ.next ?_
      obtain ⟨kj35, hk36, hm⟩ := withK_open hm
      refine WJ.join (X := Unit) (fun (_ : Unit) => kj35  = some r) (fun (_ : Unit) => [(6, .int .i64 r10.2), (8, v18)]) (fun (_ : Unit) => [row v18 9 fStr r16.1]) ?_ ?_
      · clear hk36
        refine WJ.seq ?_
        refine WJ.quiet ?_
        refine QJ.step (YldS.yld (y_assign rfl)) rfl ?_
        refine QJ.done ?_
        refine PJ.next ?_
        refine WJ.block ?_
        refine WJ.sel (L' := (fun (x : Int) => [row v21 9 fStr r19.1, row v18 9 fStr r16.1, row v12 9 fStr r10.1]) 0) [0, 1, 3] ⟨by decide, rfl⟩ ?_
        refine WJ.sub (m' := (fun (x : Int) => [(5, v12), (6, .int .i64 r10.2), (8, v18), (10, v21), (12, .int .i64 x)]) 0) ⟨rfl, rfl, rfl, rfl, rfl, trivial⟩ ?_
        refine WJ.loop (X := Int) (fun N (x : Int) => w_FnSetLines_l1 kj35 r10 r19 N x = some r) (fun (x : Int) => [(5, v12), (6, .int .i64 r10.2), (8, v18), (10, v21), (12, .int .i64 x)]) (fun (x : Int) => [row v21 9 fStr r19.1, row v18 9 fStr r16.1, row v12 9 fStr r10.1]) ?_ N 0 hm
        · rintro N i37 hI
          have hm := hI; clear hI
          cases N with
          | zero => cases hm
          | succ N =>
          unfold w_FnSetLines_l1 at hm
          refine WJ.seq ?_
          refine WJ.seq ?_
          refine WJ.quiet ?_
          refine QJ.step (YldS.yld (y_move rfl)) rfl ?_
          refine QJ.step (YldS.yld (y_move rfl)) rfl ?_
          refine QJ.step (YldS.yld (y_lenRow (k := 2) rfl Try.runUnderlying24 rfl)) rfl ?_
          refine QJ.step (YldS.yld (y_bin rfl rfl rfl)) rfl ?_
          refine QJ.done ?_
          refine PJ.next ?_
          refine WJ.cond (t := decide (i37 < (List.length r10.1 : Int))) rfl (fun hb38 => ?_) (fun hb38 => ?_)
          · replace hm := ifT hm hb38
            refine WJ.skip ?_
            refine PJ.next ?_
            refine WJ.seq ?_
            refine WJ.block ?_
            refine WJ.seq ?_
            refine WJ.quiet_draw follows (by kernel_rfl) ?_
            refine QJ.step (YldS.yld (y_move rfl)) rfl ?_
            refine QJ.step (YldS.yld (y_move rfl)) rfl ?_
            obtain ⟨e39, h40, hm⟩ := bindS hm
            refine QJ.step (YldS.yld (y_ixRow (k := 0) (R := fStr) rfl Try.runUnderlying24 Try.sizeOf9 rfl rfl h40)) rfl ?_
            refine QJ.step (YldS.yld (y_loadR (k := 0) (i := (Int.toNat i37)) (off := 0) (u := str e39) rfl Try.isAgg9 rfl (idx_get h40) rfl)) rfl ?_
            refine QJ.step (YldS.yld (y_move rfl)) rfl ?_
            refine QJ.step (YldS.yld (y_move rfl)) rfl ?_
            obtain ⟨e41, h42, hm⟩ := bindS hm
            refine QJ.step (YldS.yld (y_ixRow (k := 2) (R := fStr) rfl Try.runUnderlying24 Try.sizeOf9 rfl rfl h42)) rfl ?_
            refine QJ.step (YldS.yld (y_loadR (k := 2) (i := (Int.toNat i37)) (off := 0) (u := str e41) rfl Try.isAgg9 rfl (idx_get h42) rfl)) rfl ?_
            refine QJ.step (YldS.yld (y_binS rfl rfl rfl)) rfl ?_
            refine QJ.done ?_
            refine PJ.next ?_
            refine WJ.cond (t := (e39 != e41)) rfl (fun hb43 => ?_) (fun hb43 => ?_)
            · replace hm := ifT hm hb43
              refine WJ.seq ?_
              refine WJ.quiet ?_
              refine QJ.step (YldS.yld (y_assign rfl)) rfl ?_
              refine QJ.done ?_
              refine PJ.next ?_
              refine WJ.ret ?_
              refine PJ.block_ret (PJ.then_ret (PJ.then_ret (PJ.block_ret (PJ.then_ret ?_))))
              obtain rfl := Option.some.inj hm
              refine PJ.sel (L' := []) [] ⟨List.nodup_nil, rfl⟩ ?_
              exact PJ.retn (vs := [.bool false]) Try.results3 ⟨rfl, trivial⟩ ⟨rfl, rfl⟩
            · replace hm := ifF hm hb43
              refine WJ.skip ?_
              refine PJ.block_normal (PJ.next ?_)
              refine WJ.quiet ?_
              refine QJ.step (YldS.yld (y_move rfl)) rfl ?_
              refine QJ.step (YldS.yld (y_bin rfl rfl rfl)) rfl ?_
              refine QJ.step (YldS.yld (y_assign rfl)) rfl ?_
              refine QJ.done ?_
              exact PJ.round (w64 (i37 + 1)) [0, 1, 2] hm ⟨rfl, rfl, rfl, rfl, rfl, trivial⟩ ⟨by decide, rfl⟩
          · replace hm := ifF hm hb38
            refine WJ.exit ?_
            refine PJ.then_exit (PJ.then_exit (PJ.block_exit ?_))
            exact PJ.joined () [1] hm ⟨rfl, rfl, trivial⟩ ⟨by decide, rfl⟩
      · rintro _ hm
        subst hk36
        obtain ⟨kj44, hk45, hm⟩ := withK_open hm
        refine WJ.join (X := Unit) (fun (_ : Unit) => kj44  = some r) (fun (_ : Unit) => []) (fun (_ : Unit) => []) ?_ ?_
        · clear hk45
          refine WJ.seq ?_
          refine WJ.quiet ?_
          refine QJ.step (YldS.yld (y_assign rfl)) rfl ?_
          refine QJ.done ?_
          refine PJ.next ?_
          refine WJ.block ?_
          refine WJ.sel (L' := (fun (x : Int) => [row v18 9 fStr r16.1]) 0) [0] ⟨by decide, rfl⟩ ?_
          refine WJ.sub (m' := (fun (x : Int) => [(6, .int .i64 r10.2), (8, v18), (13, .int .i64 x)]) 0) ⟨rfl, rfl, rfl, trivial⟩ ?_
          refine WJ.loop (X := Int) (fun N (x : Int) => w_FnSetLines_l2 kj44 r10 r16 N x = some r) (fun (x : Int) => [(6, .int .i64 r10.2), (8, v18), (13, .int .i64 x)]) (fun (x : Int) => [row v18 9 fStr r16.1]) ?_ N 0 hm
          · rintro N i46 hI
            have hm := hI; clear hI
            cases N with
            | zero => cases hm
            | succ N =>
            unfold w_FnSetLines_l2 at hm
            refine WJ.seq ?_
            refine WJ.seq ?_
            refine WJ.quiet ?_
            refine QJ.step (YldS.yld (y_move rfl)) rfl ?_
            refine QJ.step (YldS.yld (y_bin rfl rfl rfl)) rfl ?_
            refine QJ.step (YldS.yld (y_move rfl)) rfl ?_
            refine QJ.step (YldS.yld (y_lenRow (k := 0) rfl Try.runUnderlying24 rfl)) rfl ?_
            refine QJ.step (YldS.yld (y_bin rfl rfl rfl)) rfl ?_
            refine QJ.done ?_
            refine PJ.next ?_
            refine WJ.cond (t := decide ((w64 (i46 + 1)) < (List.length r16.1 : Int))) rfl (fun hb47 => ?_) (fun hb47 => ?_)
            · replace hm := ifT hm hb47
              refine WJ.skip ?_
              refine PJ.next ?_
              refine WJ.seq ?_
              refine WJ.block ?_
              refine WJ.seq ?_
              refine WJ.reg ?_
              refine SJ.q (YldS.yld (y_move rfl)) rfl ?_
              refine SJ.q (YldS.yld (y_move rfl)) rfl ?_
              refine SJ.q (YldS.yld (y_move rfl)) rfl ?_
              refine SJ.q (YldS.yld (y_bin rfl rfl rfl)) rfl ?_
              obtain ⟨l48, h49, hm⟩ := bindS hm
              refine SJ.q (YldS.yld (y_slcRow (i := some i46) (j := some (w64 (i46 + 1))) (k := 0) h49 rfl Try.runUnderlying24 Try.sizeOf9 rfl ⟨_, rfl⟩ ⟨_, rfl⟩)) rfl ?_
              obtain ⟨r50, h51, hm⟩ := bindS hm
              refine SJ.call Try.call11 rfl (fun w hw => ok_i_WordsOfLines h51 w _ (hw.slc_rd (k := 0) (i := some i46) (j := some (w64 (i46 + 1))) rfl h49)) rfl ?_
              rintro _ _ ⟨v52, rfl, rfl⟩
              refine SJ.q (YldS.yld (y_move rfl)) rfl ?_
              refine SJ.q (YldS.yld (y_extract rfl rfl)) rfl ?_
              refine SJ.q (YldS.yld (y_extract rfl rfl)) rfl ?_
              refine SJ.q (YldS.yld (y_assign rfl)) rfl ?_
              refine SJ.q (YldS.yld (y_assign rfl)) rfl ?_
              refine SJ.nil ?_
              refine PJ.next ?_
              refine WJ.seq ?_
              refine WJ.quiet ?_
              refine QJ.step (YldS.yld (y_move rfl)) rfl ?_
              refine QJ.step (YldS.yld (y_move rfl)) rfl ?_
              obtain ⟨r53, h54, hm⟩ := bindS hm
              refine QJ.step (y_call Try.call12 rfl (RetG.quiet fun w hw => ok_i_SetLine h54 w _ (hw.row_rd (k := 0) rfl))) rfl ?_
              refine QJ.step (YldS.yld (y_move rfl)) rfl ?_
              refine QJ.step (YldS.yld (y_extract rfl rfl)) rfl ?_
              refine QJ.step (YldS.yld (y_extract rfl rfl)) rfl ?_
              refine QJ.step (YldS.yld (y_assign rfl)) rfl ?_
              refine QJ.step (YldS.yld (y_assign rfl)) rfl ?_
              refine QJ.done ?_
              refine PJ.next ?_
              refine WJ.seq ?_
              refine WJ.quiet ?_
              refine QJ.step (YldS.yld (y_move rfl)) rfl ?_
              refine QJ.step (YldS.yld (y_bin rfl rfl rfl)) rfl ?_
              refine QJ.step (YldS.yld (y_move rfl)) rfl ?_
              obtain ⟨t55, h56, hm⟩ := bindS hm
              refine QJ.cut 8 [(6, .int .i64 r10.2), (8, v18), (13, .int .i64 i46), (16, str r53.1), (17, .int .i64 r53.2), (115, .bool t55)] ?_ ?_
              · rcases Bool.eq_false_or_eq_true (r50.2 != 0) with hb57 | hb57
                · obtain rfl := orT h56 hb57
                  refine QJ.off rfl rfl (cB hb57) rfl rfl ?_
                  refine QJ.off rfl rfl (cB hb57) rfl rfl ?_
                  refine QJ.off rfl rfl (cB hb57) rfl rfl ?_
                  refine QJ.off rfl rfl (cB hb57) rfl rfl ?_
                  refine QJ.off rfl rfl (cB hb57) rfl rfl ?_
                  refine QJ.off rfl rfl (cB hb57) rfl rfl ?_
                  refine QJ.off rfl rfl (cB hb57) rfl rfl ?_
                  refine QJ.step (YldS.yld (y_pick_t (cB hb57) rfl)) rfl ?_
                  exact QJ.cut_end ⟨rfl, rfl, rfl, rfl, rfl, rfl, trivial⟩
                · replace h56 := orF h56 hb57
                  refine QJ.on rfl rfl (cB hb57) (YldS.yld (y_move rfl)) rfl ?_
                  refine QJ.on rfl rfl (cB hb57) (YldS.yld (y_move rfl)) rfl ?_
                  obtain ⟨e58, h59, h56⟩ := bindS h56
                  refine QJ.on rfl rfl (cB hb57) (YldS.yld (y_ixRow (k := 1) (R := fStr) rfl Try.runUnderlying24 Try.sizeOf9 rfl rfl h59)) rfl ?_
                  refine QJ.on rfl rfl (cB hb57) (YldS.yld (y_loadR (k := 1) (i := (Int.toNat i46)) (off := 0) (u := str e58) rfl Try.isAgg9 rfl (idx_get h59) rfl)) rfl ?_
                  refine QJ.on rfl rfl (cB hb57) (YldS.yld (y_lenStr Try.runUnderlying9 rfl)) rfl ?_
                  refine QJ.on rfl rfl (cB hb57) (YldS.yld (y_move rfl)) rfl ?_
                  refine QJ.on rfl rfl (cB hb57) (YldS.yld (y_bin rfl rfl rfl)) rfl ?_
                  refine QJ.step (YldS.yld (y_pick_f (cB hb57) rfl)) rfl ?_
                  obtain rfl := Option.some.inj h56
                  exact QJ.cut_end ⟨rfl, rfl, rfl, rfl, rfl, rfl, trivial⟩
              refine QJ.step (YldS.yld (y_move rfl)) rfl ?_
              obtain ⟨t60, h61, hm⟩ := bindS hm
              refine QJ.cut 3 [(6, .int .i64 r10.2), (8, v18), (13, .int .i64 i46), (16, str r53.1), (119, .bool t60)] ?_ ?_
              · rcases Bool.eq_false_or_eq_true t55 with hb62 | hb62
                · obtain rfl := orT h61 hb62
                  refine QJ.off rfl rfl (cB hb62) rfl rfl ?_
                  refine QJ.off rfl rfl (cB hb62) rfl rfl ?_
                  refine QJ.step (YldS.yld (y_pick_t (cB hb62) rfl)) rfl ?_
                  exact QJ.cut_end ⟨rfl, rfl, rfl, rfl, rfl, trivial⟩
                · replace h61 := orF h61 hb62
                  refine QJ.on rfl rfl (cB hb62) (YldS.yld (y_move rfl)) rfl ?_
                  refine QJ.on rfl rfl (cB hb62) (YldS.yld (y_bin rfl rfl rfl)) rfl ?_
                  refine QJ.step (YldS.yld (y_pick_f (cB hb62) rfl)) rfl ?_
                  obtain rfl := Option.some.inj h61
                  exact QJ.cut_end ⟨rfl, rfl, rfl, rfl, rfl, trivial⟩
              refine QJ.step (YldS.yld (y_move rfl)) rfl ?_
              obtain ⟨t63, h64, hm⟩ := bindS hm
              refine QJ.cut 7 [(6, .int .i64 r10.2), (8, v18), (13, .int .i64 i46), (127, .bool t63)] ?_ ?_
              · rcases Bool.eq_false_or_eq_true t60 with hb65 | hb65
                · obtain rfl := orT h64 hb65
                  refine QJ.off rfl rfl (cB hb65) rfl rfl ?_
                  refine QJ.off rfl rfl (cB hb65) rfl rfl ?_
                  refine QJ.off rfl rfl (cB hb65) rfl rfl ?_
                  refine QJ.off rfl rfl (cB hb65) rfl rfl ?_
                  refine QJ.off rfl rfl (cB hb65) rfl rfl ?_
                  refine QJ.off rfl rfl (cB hb65) rfl rfl ?_
                  refine QJ.step (YldS.yld (y_pick_t (cB hb65) rfl)) rfl ?_
                  exact QJ.cut_end ⟨rfl, rfl, rfl, rfl, trivial⟩
                · replace h64 := orF h64 hb65
                  refine QJ.on rfl rfl (cB hb65) (YldS.yld (y_move rfl)) rfl ?_
                  refine QJ.on rfl rfl (cB hb65) (YldS.yld (y_move rfl)) rfl ?_
                  refine QJ.on rfl rfl (cB hb65) (YldS.yld (y_move rfl)) rfl ?_
                  obtain ⟨e66, h67, h64⟩ := bindS h64
                  refine QJ.on rfl rfl (cB hb65) (YldS.yld (y_ixRow (k := 1) (R := fStr) rfl Try.runUnderlying24 Try.sizeOf9 rfl rfl h67)) rfl ?_
                  refine QJ.on rfl rfl (cB hb65) (YldS.yld (y_loadR (k := 1) (i := (Int.toNat i46)) (off := 0) (u := str e66) rfl Try.isAgg9 rfl (idx_get h67) rfl)) rfl ?_
                  refine QJ.on rfl rfl (cB hb65) (YldS.yld (y_binS rfl rfl rfl)) rfl ?_
                  refine QJ.step (YldS.yld (y_pick_f (cB hb65) rfl)) rfl ?_
                  obtain rfl := Option.some.inj h64
                  exact QJ.cut_end ⟨rfl, rfl, rfl, rfl, trivial⟩
              refine QJ.step (YldS.yld (y_move rfl)) rfl ?_
              obtain ⟨t68, h69, hm⟩ := bindS hm
              refine QJ.cut 7 [(6, .int .i64 r10.2), (8, v18), (13, .int .i64 i46), (135, .bool t68)] ?_ ?_
              · rcases Bool.eq_false_or_eq_true t63 with hb70 | hb70
                · obtain rfl := orT h69 hb70
                  refine QJ.off rfl rfl (cB hb70) rfl rfl ?_
                  refine QJ.off rfl rfl (cB hb70) rfl rfl ?_
                  refine QJ.off rfl rfl (cB hb70) rfl rfl ?_
                  refine QJ.off rfl rfl (cB hb70) rfl rfl ?_
                  refine QJ.off rfl rfl (cB hb70) rfl rfl ?_
                  refine QJ.off rfl rfl (cB hb70) rfl rfl ?_
                  refine QJ.step (YldS.yld (y_pick_t (cB hb70) rfl)) rfl ?_
                  exact QJ.cut_end ⟨rfl, rfl, rfl, rfl, trivial⟩
                · replace h69 := orF h69 hb70
                  refine QJ.on rfl rfl (cB hb70) (YldS.yld (y_move rfl)) rfl ?_
                  refine QJ.on rfl rfl (cB hb70) (YldS.yld (y_move rfl)) rfl ?_
                  obtain ⟨e71, h72, h69⟩ := bindS h69
                  refine QJ.on rfl rfl (cB hb70) (YldS.yld (y_ixRow (k := 1) (R := fStr) rfl Try.runUnderlying24 Try.sizeOf9 rfl rfl h72)) rfl ?_
                  refine QJ.on rfl rfl (cB hb70) (YldS.yld (y_loadR (k := 1) (i := (Int.toNat i46)) (off := 0) (u := str e71) rfl Try.isAgg9 rfl (idx_get h72) rfl)) rfl ?_
                  obtain ⟨r73, h74, h69⟩ := bindS h69
                  refine QJ.on rfl rfl (cB hb70) (y_call Try.call13 rfl (RetG.quiet fun w hw => ok_w_a2Even h74 w )) rfl ?_
                  refine QJ.on rfl rfl (cB hb70) (YldS.yld (y_not rfl)) rfl ?_
                  refine QJ.step (YldS.yld (y_pick_f (cB hb70) rfl)) rfl ?_
                  obtain rfl := Option.some.inj h69
                  exact QJ.cut_end ⟨rfl, rfl, rfl, rfl, trivial⟩
              refine QJ.done ?_
              refine PJ.next ?_
              refine WJ.cond (t := t68) rfl (fun hb75 => ?_) (fun hb75 => ?_)
              · replace hm := ifT hm hb75
                refine WJ.seq ?_
                refine WJ.quiet ?_
                refine QJ.step (YldS.yld (y_assign rfl)) rfl ?_
                refine QJ.done ?_
                refine PJ.next ?_
                refine WJ.ret ?_
                refine PJ.block_ret (PJ.then_ret (PJ.then_ret (PJ.block_ret (PJ.then_ret ?_))))
                obtain rfl := Option.some.inj hm
                refine PJ.sel (L' := []) [] ⟨List.nodup_nil, rfl⟩ ?_
                exact PJ.retn (vs := [.bool false]) Try.results3 ⟨rfl, trivial⟩ ⟨rfl, rfl⟩
              · replace hm := ifF hm hb75
                refine WJ.skip ?_
                refine PJ.block_normal (PJ.next ?_)
                refine WJ.quiet ?_
                refine QJ.step (YldS.yld (y_move rfl)) rfl ?_
                refine QJ.step (YldS.yld (y_bin rfl rfl rfl)) rfl ?_
                refine QJ.step (YldS.yld (y_assign rfl)) rfl ?_
                refine QJ.done ?_
                exact PJ.round (w64 (i46 + 1)) [1] hm ⟨rfl, rfl, rfl, trivial⟩ ⟨by decide, rfl⟩
            · replace hm := ifF hm hb47
              refine WJ.exit ?_
              refine PJ.then_exit (PJ.then_exit (PJ.block_exit ?_))
              exact PJ.joined () [] hm trivial ⟨List.nodup_nil, rfl⟩
        · rintro _ hm
          subst hk45
          refine WJ.seq ?_
          refine WJ.quiet ?_
          refine QJ.step (YldS.yld (y_assign rfl)) rfl ?_
          refine QJ.done ?_
          refine PJ.next ?_
          refine WJ.ret ?_
          obtain rfl := Option.some.inj hm
          refine PJ.sel (L' := []) [] ⟨List.nodup_nil, rfl⟩ ?_
          exact PJ.retn (vs := [.bool true]) Try.results3 ⟨rfl, trivial⟩ ⟨rfl, rfl⟩

end Go.Proofs.Ytlmpbacboapkaaa
