/-
  The walks: a call hands back what its plain function computes, where that has a value. No other conditions.
-/
import Derived.Test.YtlmpbacboapkaaaFnBreaksM
import Derived.Test.YtlmpbacboapkaaaChecked
namespace Go.Proofs.Ytlmpbacboapkaaa
open Go.RowKit Go.Proofs
set_option linter.unusedVariables false
set_option linter.unusedSimpArgs false

theorem follows : Try.prog.follows .mixedOrders = true := by kernel_rfl

theorem pl121 : PlacesOk Try.prog 121 [(0, 1), (1, 1), (2, 1)] := ⟨_, Try.runUnderlying121, fun w => by simp [Try.sizeOf3, Try.sizeOf22, Try.sizeOf119]⟩
theorem fld121_1 : FieldOk Try.prog 121 1 1 3 0 := ⟨_, _, Try.runUnderlying121, rfl, rfl, rfl, Try.sizeOf3⟩
theorem fld121_0 : FieldOk Try.prog 121 0 0 22 0 := ⟨_, _, Try.runUnderlying121, rfl, rfl, rfl, Try.sizeOf22⟩
theorem fld121_2 : FieldOk Try.prog 121 2 2 119 0 := ⟨_, _, Try.runUnderlying121, rfl, rfl, rfl, Try.sizeOf119⟩
set_option maxRecDepth 100000 in
theorem el5 : ElemOk Try.prog 5 1 (fByte.enc 0) := ⟨_, _, Try.type5, rfl, rfl, rfl, by decide⟩
set_option maxRecDepth 100000 in
theorem el9 : ElemOk Try.prog 9 1 (fStr.enc []) := ⟨_, _, Try.type9, rfl, rfl, rfl, by decide⟩
set_option maxRecDepth 100000 in
theorem el2 : ElemOk Try.prog 2 1 (fI64.enc 0) := ⟨_, _, Try.type2, rfl, rfl, rfl, by decide⟩
set_option maxRecDepth 100000 in
theorem el3 : ElemOk Try.prog 3 1 (fI64.enc 0) := ⟨_, _, Try.type3, rfl, rfl, rfl, by decide⟩
set_option maxRecDepth 100000 in
theorem el24 : ElemOk Try.prog 24 1 [.slice none 0 0] := ⟨_, _, Try.type24, rfl, rfl, rfl, by decide⟩

set_option maxRecDepth 100000 in
set_option maxHeartbeats 1000000 in
theorem ok_w_a2Long {code1 : List UInt8} {more4 : List UInt8} {r : Bool} (hm : w_a2Long code1 more4 = some r) (w : World) (v2 : Value) (hr3 : RdS w (cx w).Fz v2 fByte.rp code1) (v5 : Value) (hr6 : RdS w (cx w).Fz v5 fByte.rp more4) :
    Calls Try.prog 7 #[v2, v5] w (Ret (cx w) (.bool r)) := by
  unfold w_a2Long at hm
  refine Calls.enter [v2, v5] Try.func7 rfl Try.ntmps7 rfl ?_
  refine WJ.seq ?_
  refine WJ.quiet ?_
  refine QJ.step (YldS.yld (y_assign rfl)) rfl ?_
  refine QJ.done ?_
  refine PJ.next ?_
  refine WJ.seq ?_
  refine WJ.quiet ?_
  refine QJ.step (YldS.yld (y_move rfl)) rfl ?_
  refine QJ.step (YldS.yld (y_lenS Try.runUnderlying22 hr3 rfl)) rfl ?_
  refine QJ.step (YldS.yld (y_bin rfl rfl rfl)) rfl ?_
  refine QJ.step (YldS.yld (y_move rfl)) rfl ?_
  obtain ⟨t7, h8, hm⟩ := bindS hm
  refine QJ.cut 4 [(12, .bool t7)] ?_ ?_
  · rcases Bool.eq_false_or_eq_true (decide ((List.length code1 : Int) > 3000)) with hb9 | hb9
    · obtain rfl := orT h8 hb9
      refine QJ.off rfl rfl (cB hb9) rfl rfl ?_
      refine QJ.off rfl rfl (cB hb9) rfl rfl ?_
      refine QJ.off rfl rfl (cB hb9) rfl rfl ?_
      refine QJ.step (YldS.yld (y_pick_t (cB hb9) rfl)) rfl ?_
      exact QJ.cut_end ⟨rfl, trivial⟩
    · replace h8 := orF h8 hb9
      refine QJ.on rfl rfl (cB hb9) (YldS.yld (y_move rfl)) rfl ?_
      refine QJ.on rfl rfl (cB hb9) (YldS.yld (y_lenS Try.runUnderlying22 hr6 rfl)) rfl ?_
      refine QJ.on rfl rfl (cB hb9) (YldS.yld (y_bin rfl rfl rfl)) rfl ?_
      refine QJ.step (YldS.yld (y_pick_f (cB hb9) rfl)) rfl ?_
      obtain rfl := Option.some.inj h8
      exact QJ.cut_end ⟨rfl, trivial⟩
  refine QJ.step (YldS.yld (y_assign rfl)) rfl ?_
  refine QJ.done ?_
  refine PJ.next ?_
  refine WJ.ret ?_
  obtain rfl := Option.some.inj hm
  refine PJ.sel (L' := []) [] ⟨List.nodup_nil, rfl⟩ ?_
  exact PJ.retn (vs := [.bool t7]) Try.results7 ⟨rfl, trivial⟩ ⟨rfl, rfl⟩

set_option maxRecDepth 100000 in
set_option maxHeartbeats 1000000 in
theorem ok_s_l00From {code1 : List UInt8} {r : L00Src} (hm : s_l00From code1 = some r) (w : World) (v2 : Value) (hr3 : RdS w (cx w).Fz v2 fByte.rp code1) :
    Calls Try.prog 64 #[v2] w (RetG (cx w) fun u L => ∃ (u1 : Nat), (u = pt u1 0 ∧ L = [box u1 121 [v2, .int .i64 r.at_, .int .u64 r.seed]])) := by
  unfold s_l00From at hm
  refine Calls.enter [v2] Try.func64 rfl Try.ntmps64 rfl ?_
  refine WJ.seq ?_
  refine WJ.quiet ?_
  refine QJ.step (YldS.yld (y_assign rfl)) rfl ?_
  refine QJ.done ?_
  refine PJ.next ?_
  refine WJ.seq ?_
  refine WJ.reg ?_
  refine SJ.q (YldS.yld (y_move rfl)) rfl ?_
  refine SJ.q (YldS.yld (y_build (parts := [(0, .tmp 3)]) (places := [(0, 1), (1, 1), (2, 1)]) (r := [v2, .int .i64 0, .int .u64 0]) pl121 Try.zeroValue121 rfl rfl (show _ = [(0, [v2])] from by simp only [List.map, RdS.cells1 hr3]) rfl)) rfl ?_
  refine SJ.box (cs := [v2, .int .i64 0, .int .u64 0]) rfl rfl rfl fun g4 => ?_
  refine SJ.q (YldS.yld (y_assign rfl)) rfl ?_
  refine SJ.nil ?_
  refine PJ.next ?_
  refine WJ.ret ?_
  obtain rfl := Option.some.inj hm
  refine PJ.sel (L' := [box g4 121 [v2, .int .i64 0, .int .u64 0]]) [0] ⟨by decide, rfl⟩ ?_
  exact PJ.retn (vs := [pt g4 0]) Try.results64 ⟨rfl, trivial⟩ ⟨_, rfl, rfl⟩

set_option maxRecDepth 100000 in
set_option maxHeartbeats 1000000 in
theorem ok_s_l00Src_next {s1 : L00Src} {g2 : Nat} {r : Int × L00Src} (hm : s_l00Src_next s1 = some r) (w : World) (S : Nat → Prop) (v3 : Value) (hr4 : RdS w (Cx.Fz ⟨w, S⟩) v3 fByte.rp s1.code) (hA : (box g2 121 [v3, .int .i64 s1.at_, .int .u64 s1.seed]).holds w S) :
    Calls Try.prog 124 #[pt g2 0] w (RetG ⟨w, S⟩ fun u L => (u = .int .i64 r.1 ∧ L = [box g2 121 [v3, .int .i64 r.2.at_, .int .u64 r.2.seed]])) := by
  unfold s_l00Src_next at hm
  refine Calls.enter1 hA [pt g2 0] Try.func124 rfl Try.ntmps124 rfl ?_
  refine WJ.seq ?_
  refine WJ.quiet ?_
  refine QJ.step (YldS.yld (y_assign rfl)) rfl ?_
  refine QJ.done ?_
  refine PJ.next ?_
  refine WJ.seq ?_
  refine WJ.quiet ?_
  refine QJ.step (YldS.yld (y_assign rfl)) rfl ?_
  refine QJ.done ?_
  refine PJ.next ?_
  obtain ⟨kj6, hk7, hm⟩ := withK_open hm
  refine WJ.join (X := Int) (fun (x : Int) => kj6 x = some r) (fun (x : Int) => [(0, pt g2 0), (3, .int .i64 x)]) (fun (x : Int) => [box g2 121 [v3, .int .i64 s1.at_, .int .u64 s1.seed]]) ?_ ?_
  · clear hk7
    refine WJ.seq ?_
    refine WJ.quiet_draw follows (by kernel_rfl) ?_
    refine QJ.step (YldS.yld (y_move rfl)) rfl ?_
    refine QJ.step (YldS.yld (y_nil rfl)) rfl ?_
    refine QJ.step (YldS.yld (y_fldB (o := 0) fld121_1 rfl)) rfl ?_
    refine QJ.step (YldS.yld (y_loadB (k := 0) (off := 1) (v := .int .i64 s1.at_) rfl Try.isAgg3 rfl rfl)) rfl ?_
    refine QJ.step (YldS.yld (y_move rfl)) rfl ?_
    refine QJ.step (YldS.yld (y_nil rfl)) rfl ?_
    refine QJ.step (YldS.yld (y_fldB (o := 0) fld121_0 rfl)) rfl ?_
    refine QJ.step (YldS.yld (y_loadB (k := 0) (off := 0) (v := v3) rfl Try.isAgg22 rfl rfl)) rfl ?_
    refine QJ.step (YldS.yld (y_lenS Try.runUnderlying22 hr4 rfl)) rfl ?_
    refine QJ.step (YldS.yld (y_bin rfl rfl rfl)) rfl ?_
    refine QJ.done ?_
    refine PJ.next ?_
    refine WJ.cond (t := decide (s1.at_ < (List.length s1.code : Int))) rfl (fun hb8 => ?_) (fun hb8 => ?_)
    · replace hm := ifT hm hb8
      refine WJ.quiet_draw follows (by kernel_rfl) ?_
      refine QJ.step (YldS.yld (y_move rfl)) rfl ?_
      refine QJ.step (YldS.yld (y_nil rfl)) rfl ?_
      refine QJ.step (YldS.yld (y_fldB (o := 0) fld121_0 rfl)) rfl ?_
      refine QJ.step (YldS.yld (y_loadB (k := 0) (off := 0) (v := v3) rfl Try.isAgg22 rfl rfl)) rfl ?_
      refine QJ.step (YldS.yld (y_move rfl)) rfl ?_
      refine QJ.step (YldS.yld (y_nil rfl)) rfl ?_
      refine QJ.step (YldS.yld (y_fldB (o := 0) fld121_1 rfl)) rfl ?_
      refine QJ.step (YldS.yld (y_loadB (k := 0) (off := 1) (v := .int .i64 s1.at_) rfl Try.isAgg3 rfl rfl)) rfl ?_
      obtain ⟨e9, h10, hm⟩ := bindS hm
      obtain ⟨ad11, _, rfl, ha12, hy13⟩ := hr4.elem h10
      refine QJ.step (YldS.yld (hy13 Try.runUnderlying22 Try.sizeOf5 rfl rfl)) rfl ?_
      refine QJ.step (YldS.yld (y_load1 (v := .int .u8 (UInt8.toNat e9 : Int)) Try.isAgg5 ha12 St.frozenC rfl)) rfl ?_
      refine QJ.step (YldS.yld (y_conv8 Try.runUnderlying5 Try.runUnderlying3 rfl)) rfl ?_
      refine QJ.step (YldS.yld (y_assign rfl)) rfl ?_
      refine QJ.done ?_
      exact PJ.joined (UInt8.toNat e9 : Int) [0] hm ⟨rfl, rfl, trivial⟩ ⟨by decide, rfl⟩
    · replace hm := ifF hm hb8
      refine WJ.skip ?_
      exact PJ.joined 0 [0] hm ⟨rfl, rfl, trivial⟩ ⟨by decide, rfl⟩
  · rintro b5 hm
    subst hk7
    refine WJ.seq ?_
    refine WJ.reg ?_
    refine SJ.q (YldS.yld (y_move rfl)) rfl ?_
    refine SJ.q (YldS.yld (y_nil rfl)) rfl ?_
    refine SJ.q (YldS.yld (y_fldB (o := 0) fld121_1 rfl)) rfl ?_
    refine SJ.q (YldS.yld (y_loadB (k := 0) (off := 1) (v := .int .i64 s1.at_) rfl Try.isAgg3 rfl rfl)) rfl ?_
    refine SJ.q (YldS.yld (y_bin rfl rfl rfl)) rfl ?_
    refine SJ.q (YldS.yld (y_nil rfl)) rfl ?_
    refine SJ.q (YldS.yld (y_fldB (o := 0) fld121_1 rfl)) rfl ?_
    refine SJ.storeL (k := 0) (off := 1) (us := [.int .i64 (w64 (s1.at_ + 1))]) rfl rfl rfl rfl Try.sizeOf3 rfl rfl ?_
    refine SJ.nil ?_
    refine PJ.next ?_
    refine WJ.seq ?_
    refine WJ.reg ?_
    refine SJ.q (YldS.yld (y_move rfl)) rfl ?_
    refine SJ.q (YldS.yld (y_move rfl)) rfl ?_
    refine SJ.q (YldS.yld (y_nil rfl)) rfl ?_
    refine SJ.q (YldS.yld (y_fldB (o := 0) fld121_2 rfl)) rfl ?_
    refine SJ.q (YldS.yld (y_loadB (k := 0) (off := 2) (v := .int .u64 s1.seed) rfl Try.isAgg119 rfl rfl)) rfl ?_
    refine SJ.q (YldS.yld (y_bin rfl rfl rfl)) rfl ?_
    refine SJ.q (YldS.yld (y_move rfl)) rfl ?_
    refine SJ.q (YldS.yld (y_convI Try.runUnderlying3 Try.runUnderlying119 rfl)) rfl ?_
    refine SJ.q (YldS.yld (y_bin rfl rfl rfl)) rfl ?_
    refine SJ.q (YldS.yld (y_bin rfl rfl rfl)) rfl ?_
    refine SJ.q (YldS.yld (y_nil rfl)) rfl ?_
    refine SJ.q (YldS.yld (y_fldB (o := 0) fld121_2 rfl)) rfl ?_
    refine SJ.storeL (k := 0) (off := 2) (us := [.int .u64 (IntKind.u64.wrap ((IntKind.u64.wrap ((IntKind.u64.wrap (s1.seed * 6364136223846793005)) + (IntKind.u64.wrap b5))) + 1442695040888963407))]) rfl rfl rfl rfl Try.sizeOf119 rfl rfl ?_
    refine SJ.nil ?_
    refine PJ.next ?_
    refine WJ.seq ?_
    refine WJ.seq ?_
    refine WJ.quiet_draw follows (by kernel_rfl) ?_
    refine QJ.step (YldS.yld (y_move rfl)) rfl ?_
    refine QJ.step (YldS.yld (y_nil rfl)) rfl ?_
    refine QJ.step (YldS.yld (y_fldB (o := 0) fld121_1 rfl)) rfl ?_
    refine QJ.step (YldS.yld (y_loadB (k := 0) (off := 1) (v := .int .i64 (w64 (s1.at_ + 1))) rfl Try.isAgg3 rfl rfl)) rfl ?_
    refine QJ.step (YldS.yld (y_move rfl)) rfl ?_
    refine QJ.step (YldS.yld (y_nil rfl)) rfl ?_
    refine QJ.step (YldS.yld (y_fldB (o := 0) fld121_0 rfl)) rfl ?_
    refine QJ.step (YldS.yld (y_loadB (k := 0) (off := 0) (v := v3) rfl Try.isAgg22 rfl rfl)) rfl ?_
    refine QJ.step (YldS.yld (y_lenS Try.runUnderlying22 hr4 rfl)) rfl ?_
    refine QJ.step (YldS.yld (y_bin rfl rfl rfl)) rfl ?_
    refine QJ.done ?_
    refine PJ.next ?_
    refine WJ.cond (t := decide ((w64 (s1.at_ + 1)) ≤ (List.length s1.code : Int))) rfl (fun hb14 => ?_) (fun hb14 => ?_)
    · replace hm := ifT hm hb14
      refine WJ.seq ?_
      refine WJ.quiet ?_
      refine QJ.step (YldS.yld (y_move rfl)) rfl ?_
      refine QJ.step (YldS.yld (y_assign rfl)) rfl ?_
      refine QJ.done ?_
      refine PJ.next ?_
      refine WJ.ret ?_
      refine PJ.then_ret ?_
      obtain rfl := Option.some.inj hm
      refine PJ.sel (L' := [box g2 121 [v3, .int .i64 (w64 (s1.at_ + 1)), .int .u64 (IntKind.u64.wrap ((IntKind.u64.wrap ((IntKind.u64.wrap (s1.seed * 6364136223846793005)) + (IntKind.u64.wrap b5))) + 1442695040888963407))]]) [0] ⟨by decide, rfl⟩ ?_
      exact PJ.retn (vs := [.int .i64 b5]) Try.results124 ⟨rfl, trivial⟩ ⟨rfl, rfl⟩
    · replace hm := ifF hm hb14
      refine WJ.skip ?_
      refine PJ.next ?_
      refine WJ.seq ?_
      refine WJ.quiet ?_
      refine QJ.step (YldS.yld (y_move rfl)) rfl ?_
      refine QJ.step (YldS.yld (y_nil rfl)) rfl ?_
      refine QJ.step (YldS.yld (y_fldB (o := 0) fld121_2 rfl)) rfl ?_
      refine QJ.step (YldS.yld (y_loadB (k := 0) (off := 2) (v := .int .u64 (IntKind.u64.wrap ((IntKind.u64.wrap ((IntKind.u64.wrap (s1.seed * 6364136223846793005)) + (IntKind.u64.wrap b5))) + 1442695040888963407))) rfl Try.isAgg119 rfl rfl)) rfl ?_
      refine QJ.step (YldS.yld (y_shru rfl rfl rfl)) rfl ?_
      refine QJ.step (YldS.yld (y_andu rfl rfl rfl)) rfl ?_
      refine QJ.step (YldS.yld (y_convI Try.runUnderlying119 Try.runUnderlying2 rfl)) rfl ?_
      refine QJ.step (YldS.yld (y_assign rfl)) rfl ?_
      refine QJ.done ?_
      refine PJ.next ?_
      refine WJ.ret ?_
      obtain rfl := Option.some.inj hm
      refine PJ.sel (L' := [box g2 121 [v3, .int .i64 (w64 (s1.at_ + 1)), .int .u64 (IntKind.u64.wrap ((IntKind.u64.wrap ((IntKind.u64.wrap (s1.seed * 6364136223846793005)) + (IntKind.u64.wrap b5))) + 1442695040888963407))]]) [0] ⟨by decide, rfl⟩ ?_
      exact PJ.retn (vs := [.int .i64 (w64 (uand (ushr (IntKind.u64.wrap ((IntKind.u64.wrap ((IntKind.u64.wrap (s1.seed * 6364136223846793005)) + (IntKind.u64.wrap b5))) + 1442695040888963407)) 40) 255))]) Try.results124 ⟨rfl, trivial⟩ ⟨rfl, rfl⟩

set_option maxRecDepth 100000 in
set_option maxHeartbeats 1000000 in
theorem ok_s_l00Src_pick {s1 : L00Src} {n5 : Int} {g2 : Nat} {r : Int × L00Src} (hm : s_l00Src_pick s1 n5 = some r) (w : World) (S : Nat → Prop) (v3 : Value) (hr4 : RdS w (Cx.Fz ⟨w, S⟩) v3 fByte.rp s1.code) (hA : (box g2 121 [v3, .int .i64 s1.at_, .int .u64 s1.seed]).holds w S) :
    Calls Try.prog 82 #[pt g2 0, .int .i64 n5] w (RetG ⟨w, S⟩ fun u L => (u = .int .i64 r.1 ∧ L = [box g2 121 [v3, .int .i64 r.2.at_, .int .u64 r.2.seed]])) := by
  unfold s_l00Src_pick at hm
  refine Calls.enter1 hA [pt g2 0, .int .i64 n5] Try.func82 rfl Try.ntmps82 rfl ?_
  refine WJ.seq ?_
  refine WJ.quiet ?_
  refine QJ.step (YldS.yld (y_assign rfl)) rfl ?_
  refine QJ.done ?_
  refine PJ.next ?_
  refine WJ.seq ?_
  refine WJ.seq ?_
  refine WJ.quiet ?_
  refine QJ.step (YldS.yld (y_move rfl)) rfl ?_
  refine QJ.step (YldS.yld (y_bin rfl rfl rfl)) rfl ?_
  refine QJ.done ?_
  refine PJ.next ?_
  refine WJ.cond (t := decide (n5 ≤ 1)) rfl (fun hb6 => ?_) (fun hb6 => ?_)
  · replace hm := ifT hm hb6
    refine WJ.seq ?_
    refine WJ.quiet ?_
    refine QJ.step (YldS.yld (y_assign rfl)) rfl ?_
    refine QJ.done ?_
    refine PJ.next ?_
    refine WJ.ret ?_
    refine PJ.then_ret ?_
    obtain rfl := Option.some.inj hm
    refine PJ.sel (L' := [box g2 121 [v3, .int .i64 s1.at_, .int .u64 s1.seed]]) [0] ⟨by decide, rfl⟩ ?_
    exact PJ.retn (vs := [.int .i64 0]) Try.results82 ⟨rfl, trivial⟩ ⟨rfl, rfl⟩
  · replace hm := ifF hm hb6
    refine WJ.skip ?_
    refine PJ.next ?_
    refine WJ.seq ?_
    refine WJ.reg ?_
    refine SJ.q (YldS.yld (y_move rfl)) rfl ?_
    obtain ⟨r7, h8, hm⟩ := bindS hm
    refine SJ.call1 (k := 0) rfl Try.call124 rfl (fun w S hw hA hO => ok_s_l00Src_next h8 w S _ (hr4.st1 hw hO) hA) rfl ?_
    rintro _ _ ⟨rfl, rfl⟩
    refine SJ.q (YldS.yld (y_assign rfl)) rfl ?_
    refine SJ.nil ?_
    refine PJ.next ?_
    obtain ⟨kj12, hk13, hm⟩ := withK_open hm
    refine WJ.join (X := Int × Int × Int) (fun (x : Int × Int × Int) => kj12 x.1 x.2.1 x.2.2 = some r) (fun (x : Int × Int × Int) => [(1, .int .i64 n5), (5, .int .i64 x.2.2)]) (fun (x : Int × Int × Int) => [box g2 121 [v3, .int .i64 x.1, .int .u64 x.2.1]]) ?_ ?_
    · clear hk13
      refine WJ.seq ?_
      refine WJ.quiet ?_
      refine QJ.step (YldS.yld (y_move rfl)) rfl ?_
      refine QJ.step (YldS.yld (y_bin rfl rfl rfl)) rfl ?_
      refine QJ.done ?_
      refine PJ.next ?_
      refine WJ.cond (t := decide (n5 > 200)) rfl (fun hb14 => ?_) (fun hb14 => ?_)
      · replace hm := ifT hm hb14
        refine WJ.reg ?_
        refine SJ.q (YldS.yld (y_move rfl)) rfl ?_
        refine SJ.q (YldS.yld (y_bin rfl rfl rfl)) rfl ?_
        refine SJ.q (YldS.yld (y_move rfl)) rfl ?_
        obtain ⟨r15, h16, hm⟩ := bindS hm
        refine SJ.call1 (k := 0) rfl Try.call124 rfl (fun w S hw hA hO => ok_s_l00Src_next h16 w S _ (hr4.st1 hw hO) hA) rfl ?_
        rintro _ _ ⟨rfl, rfl⟩
        refine SJ.q (YldS.yld (y_bin rfl rfl rfl)) rfl ?_
        refine SJ.q (YldS.yld (y_assign rfl)) rfl ?_
        refine SJ.nil ?_
        exact PJ.joined (r15.2.at_, r15.2.seed, w64 ((w64 (r7.1 * 256)) + r15.1)) [0] hm ⟨rfl, rfl, trivial⟩ ⟨by decide, rfl⟩
      · replace hm := ifF hm hb14
        refine WJ.skip ?_
        exact PJ.joined (r7.2.at_, r7.2.seed, r7.1) [0] hm ⟨rfl, rfl, trivial⟩ ⟨by decide, rfl⟩
    · rintro ⟨x9, x10, x11⟩ hm
      subst hk13
      refine WJ.seq ?_
      refine WJ.quiet ?_
      refine QJ.step (YldS.yld (y_move rfl)) rfl ?_
      refine QJ.step (YldS.yld (y_move rfl)) rfl ?_
      obtain ⟨q17, h18, hm⟩ := bindS hm
      refine QJ.step (YldS.yld (y_rem' h18 rfl rfl)) rfl ?_
      refine QJ.step (YldS.yld (y_assign rfl)) rfl ?_
      refine QJ.done ?_
      refine PJ.next ?_
      refine WJ.ret ?_
      obtain rfl := Option.some.inj hm
      refine PJ.sel (L' := [box g2 121 [v3, .int .i64 x9, .int .u64 x10]]) [0] ⟨by decide, rfl⟩ ?_
      exact PJ.retn (vs := [.int .i64 q17]) Try.results82 ⟨rfl, trivial⟩ ⟨rfl, rfl⟩

set_option maxRecDepth 100000 in
set_option maxHeartbeats 1000000 in
theorem ok_s_l00Min {a1 : Int} {b2 : Int} {r : Int} (hm : s_l00Min a1 b2 = some r) (w : World)  :
    Calls Try.prog 116 #[.int .i64 a1, .int .i64 b2] w (Ret (cx w) (.int .i64 r)) := by
  unfold s_l00Min at hm
  refine Calls.enter [.int .i64 a1, .int .i64 b2] Try.func116 rfl Try.ntmps116 rfl ?_
  refine WJ.seq ?_
  refine WJ.quiet ?_
  refine QJ.step (YldS.yld (y_assign rfl)) rfl ?_
  refine QJ.done ?_
  refine PJ.next ?_
  refine WJ.seq ?_
  refine WJ.seq ?_
  refine WJ.quiet ?_
  refine QJ.step (YldS.yld (y_move rfl)) rfl ?_
  refine QJ.step (YldS.yld (y_move rfl)) rfl ?_
  refine QJ.step (YldS.yld (y_bin rfl rfl rfl)) rfl ?_
  refine QJ.done ?_
  refine PJ.next ?_
  refine WJ.cond (t := decide (a1 < b2)) rfl (fun hb3 => ?_) (fun hb3 => ?_)
  · replace hm := ifT hm hb3
    refine WJ.seq ?_
    refine WJ.quiet ?_
    refine QJ.step (YldS.yld (y_move rfl)) rfl ?_
    refine QJ.step (YldS.yld (y_assign rfl)) rfl ?_
    refine QJ.done ?_
    refine PJ.next ?_
    refine WJ.ret ?_
    refine PJ.then_ret ?_
    obtain rfl := Option.some.inj hm
    refine PJ.sel (L' := []) [] ⟨List.nodup_nil, rfl⟩ ?_
    exact PJ.retn (vs := [.int .i64 a1]) Try.results116 ⟨rfl, trivial⟩ ⟨rfl, rfl⟩
  · replace hm := ifF hm hb3
    refine WJ.skip ?_
    refine PJ.next ?_
    refine WJ.seq ?_
    refine WJ.quiet ?_
    refine QJ.step (YldS.yld (y_move rfl)) rfl ?_
    refine QJ.step (YldS.yld (y_assign rfl)) rfl ?_
    refine QJ.done ?_
    refine PJ.next ?_
    refine WJ.ret ?_
    obtain rfl := Option.some.inj hm
    refine PJ.sel (L' := []) [] ⟨List.nodup_nil, rfl⟩ ?_
    exact PJ.retn (vs := [.int .i64 b2]) Try.results116 ⟨rfl, trivial⟩ ⟨rfl, rfl⟩

set_option maxRecDepth 100000 in
set_option maxHeartbeats 1000000 in
theorem ok_s_l09Draw {N : Nat} {s1 : L00Src} {g2 : Nat} {r : (List Str) × Int × L00Src} (hm : s_l09Draw N s1 = some r) (w : World) (S : Nat → Prop) (v3 : Value) (hr4 : RdS w (Cx.Fz ⟨w, S⟩) v3 fByte.rp s1.code) (hA : (box g2 121 [v3, .int .i64 s1.at_, .int .u64 s1.seed]).holds w S) :
    Calls Try.prog 63 #[pt g2 0] w (RetG ⟨w, S⟩ fun u L => ∃ (u1 : Value), (u = tup [u1, .int .i64 r.2.1] ∧ L = [box g2 121 [v3, .int .i64 r.2.2.at_, .int .u64 r.2.2.seed], row u1 9 fStr r.1])) := by
  unfold s_l09Draw at hm
  refine Calls.enter1 hA [pt g2 0] Try.func63 rfl Try.ntmps63 rfl ?_
  refine WJ.seq ?_
  refine WJ.quiet ?_
  refine QJ.step (YldS.yld (y_assign rfl)) rfl ?_
  refine QJ.step (YldS.yld (y_assign rfl)) rfl ?_
  refine QJ.done ?_
  refine PJ.next ?_
  refine WJ.seq ?_
  refine WJ.reg ?_
  refine SJ.q (YldS.yld (y_move rfl)) rfl ?_
  obtain ⟨r5, h6, hm⟩ := bindS hm
  refine SJ.call1 (k := 0) rfl Try.call82 rfl (fun w S hw hA hO => ok_s_l00Src_pick h6 w S _ (hr4.st1 hw hO) hA) rfl ?_
  rintro _ _ ⟨rfl, rfl⟩
  refine SJ.q (YldS.yld (y_bin rfl rfl rfl)) rfl ?_
  refine SJ.q (YldS.yld (y_assign rfl)) rfl ?_
  refine SJ.nil ?_
  refine PJ.next ?_
  refine WJ.seq ?_
  refine WJ.reg ?_
  refine SJ.buildSlice (R := fStr) (os := []) [] Try.runUnderlying24 Try.sizeOf9 Try.zeroValue9 rfl rfl rfl rfl rfl rfl fun v7 => ?_
  refine SJ.q (YldS.yld (y_assign rfl)) rfl ?_
  refine SJ.nil ?_
  refine PJ.next ?_
  obtain ⟨kj12, hk13, hm⟩ := withK_open hm
  refine WJ.join (X := Int × Int × (List Str) × Value) (fun (x : Int × Int × (List Str) × Value) => kj12 x.1 x.2.1 x.2.2.1 = some r) (fun (x : Int × Int × (List Str) × Value) => [(4, .int .i64 (w64 (5 + r5.1))), (5, x.2.2.2)]) (fun (x : Int × Int × (List Str) × Value) => [box g2 121 [v3, .int .i64 x.1, .int .u64 x.2.1], row x.2.2.2 9 fStr x.2.2.1]) ?_ ?_
  · clear hk13
    refine WJ.seq ?_
    refine WJ.reg ?_
    refine SJ.q (YldS.yld (y_move rfl)) rfl ?_
    obtain ⟨r14, h15, hm⟩ := bindS hm
    refine SJ.call1 (k := 1) rfl Try.call82 rfl (fun w S hw hA hO => ok_s_l00Src_pick h15 w S _ (hr4.st1 hw hO) hA) rfl ?_
    rintro _ _ ⟨rfl, rfl⟩
    refine SJ.q (YldS.yld (y_assign rfl)) rfl ?_
    refine SJ.nil ?_
    refine PJ.next ?_
    refine WJ.block ?_
    refine WJ.sel (L' := (fun (x : Int × Int × (List Str) × Value × Int) => [box g2 121 [v3, .int .i64 x.1, .int .u64 x.2.1], row x.2.2.2.1 9 fStr x.2.2.1]) (r14.2.at_, r14.2.seed, [], v7, r14.1)) [0, 1] ⟨by decide, rfl⟩ ?_
    refine WJ.sub (m' := (fun (x : Int × Int × (List Str) × Value × Int) => [(0, pt g2 0), (4, .int .i64 (w64 (5 + r5.1))), (5, x.2.2.2.1), (6, .int .i64 x.2.2.2.2)]) (r14.2.at_, r14.2.seed, [], v7, r14.1)) ⟨rfl, rfl, rfl, rfl, trivial⟩ ?_
    refine WJ.loop (X := Int × Int × (List Str) × Value × Int) (fun N (x : Int × Int × (List Str) × Value × Int) => s_l09Draw_l1 kj12 s1 r5 N x.1 x.2.1 x.2.2.1 x.2.2.2.2 = some r) (fun (x : Int × Int × (List Str) × Value × Int) => [(0, pt g2 0), (4, .int .i64 (w64 (5 + r5.1))), (5, x.2.2.2.1), (6, .int .i64 x.2.2.2.2)]) (fun (x : Int × Int × (List Str) × Value × Int) => [box g2 121 [v3, .int .i64 x.1, .int .u64 x.2.1], row x.2.2.2.1 9 fStr x.2.2.1]) ?_ N (r14.2.at_, r14.2.seed, [], v7, r14.1) hm
    · rintro N ⟨x16, x17, l18, v19, k20⟩ hI
      have hm := hI; clear hI
      cases N with
      | zero => cases hm
      | succ N =>
      unfold s_l09Draw_l1 at hm
      refine WJ.seq ?_
      refine WJ.seq ?_
      refine WJ.quiet ?_
      refine QJ.step (YldS.yld (y_move rfl)) rfl ?_
      refine QJ.step (YldS.yld (y_bin rfl rfl rfl)) rfl ?_
      refine QJ.done ?_
      refine PJ.next ?_
      refine WJ.cond (t := decide (k20 > 0)) rfl (fun hb21 => ?_) (fun hb21 => ?_)
      · replace hm := ifT hm hb21
        refine WJ.skip ?_
        refine PJ.next ?_
        obtain ⟨kj26, hk27, hm⟩ := withK_open hm
        refine WJ.join (X := Int × Int × (List Str) × Value) (fun (x : Int × Int × (List Str) × Value) => kj26 x.1 x.2.1 x.2.2.1 = some r) (fun (x : Int × Int × (List Str) × Value) => [(0, pt g2 0), (4, .int .i64 (w64 (5 + r5.1))), (5, x.2.2.2), (6, .int .i64 k20)]) (fun (x : Int × Int × (List Str) × Value) => [box g2 121 [v3, .int .i64 x.1, .int .u64 x.2.1], row x.2.2.2 9 fStr x.2.2.1]) ?_ ?_
        · clear hk27
          refine WJ.block ?_
          refine WJ.seq ?_
          refine WJ.reg ?_
          refine SJ.buildSlice (R := fByte) (os := []) [] Try.runUnderlying22 Try.sizeOf5 Try.zeroValue5 rfl rfl rfl rfl rfl rfl fun v28 => ?_
          refine SJ.q (YldS.yld (y_assign rfl)) rfl ?_
          refine SJ.nil ?_
          refine PJ.next ?_
          obtain ⟨kj33, hk34, hm⟩ := withK_open hm
          refine WJ.join (X := Int × Int × (List UInt8) × Value) (fun (x : Int × Int × (List UInt8) × Value) => kj33 x.1 x.2.1 x.2.2.1 = some r) (fun (x : Int × Int × (List UInt8) × Value) => [(0, pt g2 0), (4, .int .i64 (w64 (5 + r5.1))), (5, v19), (6, .int .i64 k20), (7, x.2.2.2)]) (fun (x : Int × Int × (List UInt8) × Value) => [box g2 121 [v3, .int .i64 x.1, .int .u64 x.2.1], row x.2.2.2 5 fByte x.2.2.1, row v19 9 fStr l18]) ?_ ?_
          · clear hk34
            refine WJ.seq ?_
            refine WJ.reg ?_
            refine SJ.q (YldS.yld (y_move rfl)) rfl ?_
            refine SJ.q (YldS.yld (y_move rfl)) rfl ?_
            obtain ⟨r35, h36, hm⟩ := bindS hm
            refine SJ.q (y_call Try.call116 rfl (RetG.quiet fun w hw => ok_s_l00Min h36 w )) rfl ?_
            obtain ⟨r37, h38, hm⟩ := bindS hm
            refine SJ.call1 (k := 1) rfl Try.call82 rfl (fun w S hw hA hO => ok_s_l00Src_pick h38 w S _ (hr4.st1 hw hO) hA) rfl ?_
            rintro _ _ ⟨rfl, rfl⟩
            refine SJ.q (YldS.yld (y_bin rfl rfl rfl)) rfl ?_
            refine SJ.q (YldS.yld (y_assign rfl)) rfl ?_
            refine SJ.nil ?_
            refine PJ.next ?_
            refine WJ.block ?_
            refine WJ.sel (L' := (fun (x : Int × Int × (List UInt8) × Value × Int) => [box g2 121 [v3, .int .i64 x.1, .int .u64 x.2.1], row x.2.2.2.1 5 fByte x.2.2.1, row v19 9 fStr l18]) (r37.2.at_, r37.2.seed, [], v28, w64 (1 + r37.1))) [0, 1, 2] ⟨by decide, rfl⟩ ?_
            refine WJ.sub (m' := (fun (x : Int × Int × (List UInt8) × Value × Int) => [(0, pt g2 0), (4, .int .i64 (w64 (5 + r5.1))), (5, v19), (6, .int .i64 k20), (7, x.2.2.2.1), (8, .int .i64 x.2.2.2.2)]) (r37.2.at_, r37.2.seed, [], v28, w64 (1 + r37.1))) ⟨rfl, rfl, rfl, rfl, rfl, rfl, trivial⟩ ?_
            refine WJ.loop (X := Int × Int × (List UInt8) × Value × Int) (fun N (x : Int × Int × (List UInt8) × Value × Int) => s_l09Draw_l2 kj33 s1 N x.1 x.2.1 x.2.2.1 x.2.2.2.2 = some r) (fun (x : Int × Int × (List UInt8) × Value × Int) => [(0, pt g2 0), (4, .int .i64 (w64 (5 + r5.1))), (5, v19), (6, .int .i64 k20), (7, x.2.2.2.1), (8, .int .i64 x.2.2.2.2)]) (fun (x : Int × Int × (List UInt8) × Value × Int) => [box g2 121 [v3, .int .i64 x.1, .int .u64 x.2.1], row x.2.2.2.1 5 fByte x.2.2.1, row v19 9 fStr l18]) ?_ N (r37.2.at_, r37.2.seed, [], v28, w64 (1 + r37.1)) hm
            · rintro N ⟨x39, x40, l41, v42, n43⟩ hI
              have hm := hI; clear hI
              cases N with
              | zero => cases hm
              | succ N =>
              unfold s_l09Draw_l2 at hm
              refine WJ.seq ?_
              refine WJ.seq ?_
              refine WJ.quiet ?_
              refine QJ.step (YldS.yld (y_move rfl)) rfl ?_
              refine QJ.step (YldS.yld (y_bin rfl rfl rfl)) rfl ?_
              refine QJ.done ?_
              refine PJ.next ?_
              refine WJ.cond (t := decide (n43 > 0)) rfl (fun hb44 => ?_) (fun hb44 => ?_)
              · replace hm := ifT hm hb44
                refine WJ.skip ?_
                refine PJ.next ?_
                refine WJ.seq ?_
                refine WJ.block ?_
                refine WJ.reg ?_
                refine SJ.q (YldS.yld (y_move rfl)) rfl ?_
                refine SJ.q (YldS.yld (y_move rfl)) rfl ?_
                obtain ⟨r45, h46, hm⟩ := bindS hm
                refine SJ.call1 (k := 0) rfl Try.call82 rfl (fun w S hw hA hO => ok_s_l00Src_pick h46 w S _ (hr4.st1 hw hO) hA) rfl ?_
                rintro _ _ ⟨rfl, rfl⟩
                obtain ⟨c47, h48, hm⟩ := bindS hm
                refine SJ.q (YldS.yld (y_idxStr Try.runUnderlying9 rfl rfl h48)) rfl ?_
                refine SJ.buildSlice (R := fByte) (os := [.tmp 32]) [c47] Try.runUnderlying22 Try.sizeOf5 Try.zeroValue5 rfl rfl rfl rfl rfl rfl fun v49 => ?_
                obtain ⟨l50, h51, hm⟩ := bindS hm
                refine SJ.append (k := 2) (R := fByte) h51 rfl Try.underlying22 el5 rfl rfl rfl (fun w hw => (hw.row_rd (k := 0) rfl)) rfl fun v52 => ?_
                refine SJ.q (YldS.yld (y_assign rfl)) rfl ?_
                refine SJ.nil ?_
                refine PJ.block_normal (PJ.next ?_)
                refine WJ.quiet ?_
                refine QJ.step (YldS.yld (y_move rfl)) rfl ?_
                refine QJ.step (YldS.yld (y_bin rfl rfl rfl)) rfl ?_
                refine QJ.step (YldS.yld (y_assign rfl)) rfl ?_
                refine QJ.done ?_
                exact PJ.round (r45.2.at_, r45.2.seed, l50, v52, w64 (n43 - 1)) [1, 2, 3] hm ⟨rfl, rfl, rfl, rfl, rfl, rfl, trivial⟩ ⟨by decide, rfl⟩
              · replace hm := ifF hm hb44
                refine WJ.exit ?_
                refine PJ.then_exit (PJ.then_exit (PJ.block_exit ?_))
                exact PJ.joined (x39, x40, l41, v42) [0, 1, 2] hm ⟨rfl, rfl, rfl, rfl, rfl, trivial⟩ ⟨by decide, rfl⟩
          · rintro ⟨x29, x30, l31, v32⟩ hm
            subst hk34
            refine WJ.reg ?_
            refine SJ.q (YldS.yld (y_move rfl)) rfl ?_
            refine SJ.q (YldS.yld (y_move rfl)) rfl ?_
            refine SJ.q (YldS.yld (y_b2s Try.underlying22 Try.underlying9 Try.underlying5 (fun w hw => ⟨_, (hw.row_rd (k := 1) rfl)⟩) rfl)) rfl ?_
            refine SJ.buildSlice (R := fStr) (os := [.tmp 37]) [l31] Try.runUnderlying24 Try.sizeOf9 Try.zeroValue9 rfl rfl rfl rfl rfl rfl fun v53 => ?_
            obtain ⟨l54, h55, hm⟩ := bindS hm
            refine SJ.append (k := 3) (R := fStr) h55 rfl Try.underlying24 el9 rfl rfl rfl (fun w hw => (hw.row_rd (k := 0) rfl)) rfl fun v56 => ?_
            refine SJ.q (YldS.yld (y_assign rfl)) rfl ?_
            refine SJ.nil ?_
            refine PJ.block_normal ?_
            exact PJ.joined (x29, x30, l54, v56) [1, 3] hm ⟨rfl, rfl, rfl, rfl, trivial⟩ ⟨by decide, rfl⟩
        · rintro ⟨x22, x23, l24, v25⟩ hm
          subst hk27
          refine WJ.quiet ?_
          refine QJ.step (YldS.yld (y_move rfl)) rfl ?_
          refine QJ.step (YldS.yld (y_bin rfl rfl rfl)) rfl ?_
          refine QJ.step (YldS.yld (y_assign rfl)) rfl ?_
          refine QJ.done ?_
          exact PJ.round (x22, x23, l24, v25, w64 (k20 - 1)) [0, 1] hm ⟨rfl, rfl, rfl, rfl, trivial⟩ ⟨by decide, rfl⟩
      · replace hm := ifF hm hb21
        refine WJ.exit ?_
        refine PJ.then_exit (PJ.then_exit (PJ.block_exit ?_))
        exact PJ.joined (x16, x17, l18, v19) [0, 1] hm ⟨rfl, rfl, trivial⟩ ⟨by decide, rfl⟩
  · rintro ⟨x8, x9, l10, v11⟩ hm
    subst hk13
    refine WJ.seq ?_
    refine WJ.quiet ?_
    refine QJ.step (YldS.yld (y_move rfl)) rfl ?_
    refine QJ.step (YldS.yld (y_move rfl)) rfl ?_
    refine QJ.step (YldS.yld (y_assign rfl)) rfl ?_
    refine QJ.step (YldS.yld (y_assign rfl)) rfl ?_
    refine QJ.done ?_
    refine PJ.next ?_
    refine WJ.ret ?_
    obtain rfl := Option.some.inj hm
    refine PJ.sel (L' := [box g2 121 [v3, .int .i64 x8, .int .u64 x9], row v11 9 fStr l10]) [0, 1] ⟨by decide, rfl⟩ ?_
    exact PJ.retn (vs := [v11, .int .i64 (w64 (5 + r5.1))]) Try.results63 ⟨rfl, rfl, trivial⟩ ⟨_, rfl, rfl⟩

set_option maxRecDepth 100000 in
set_option maxHeartbeats 1000000 in
theorem ok_s_A2Words {N : Nat} {code1 : List UInt8} {r : (List Str) × Int} (hm : s_A2Words N code1 = some r) (w : World) (v2 : Value) (hr3 : RdS w (cx w).Fz v2 fByte.rp code1) :
    Calls Try.prog 8 #[v2] w (RetG (cx w) fun u L => ∃ (u1 : Value), (u = tup [u1, .int .i64 r.2] ∧ L = [row u1 9 fStr r.1])) := by
  unfold s_A2Words at hm
  refine Calls.enter [v2] Try.func8 rfl Try.ntmps8 rfl ?_
  refine WJ.seq ?_
  refine WJ.quiet ?_
  refine QJ.step (YldS.yld (y_assign rfl)) rfl ?_
  refine QJ.step (YldS.yld (y_assign rfl)) rfl ?_
  refine QJ.done ?_
  refine PJ.next ?_
  refine WJ.seq ?_
  refine WJ.reg ?_
  refine SJ.q (YldS.yld (y_move rfl)) rfl ?_
  obtain ⟨r4, h5, hm⟩ := bindS hm
  refine SJ.call Try.call64 rfl (fun w hw => ok_s_l00From h5 w _ (hr3.st hw)) rfl ?_
  rintro _ _ ⟨g6, rfl, rfl⟩
  obtain ⟨r7, h8, hm⟩ := bindS hm
  refine SJ.call1 (k := 0) rfl Try.call63 rfl (fun w S hw hA hO => ok_s_l09Draw h8 w S _ (hr3.st1 hw hO) hA) rfl ?_
  rintro _ _ ⟨v9, rfl, rfl⟩
  refine SJ.q (YldS.yld (y_move rfl)) rfl ?_
  refine SJ.q (YldS.yld (y_extract rfl rfl)) rfl ?_
  refine SJ.q (YldS.yld (y_extract rfl rfl)) rfl ?_
  refine SJ.q (YldS.yld (y_assign rfl)) rfl ?_
  refine SJ.q (YldS.yld (y_assign rfl)) rfl ?_
  refine SJ.nil ?_
  refine PJ.next ?_
  refine WJ.seq ?_
  refine WJ.quiet ?_
  refine QJ.step (YldS.yld (y_move rfl)) rfl ?_
  refine QJ.step (YldS.yld (y_move rfl)) rfl ?_
  refine QJ.step (YldS.yld (y_assign rfl)) rfl ?_
  refine QJ.step (YldS.yld (y_assign rfl)) rfl ?_
  refine QJ.done ?_
  refine PJ.next ?_
  refine WJ.ret ?_
  obtain rfl := Option.some.inj hm
  refine PJ.sel (L' := [row v9 9 fStr r7.1]) [1] ⟨by decide, rfl⟩ ?_
  exact PJ.retn (vs := [v9, .int .i64 r7.2.1]) Try.results8 ⟨rfl, rfl, trivial⟩ ⟨_, rfl, rfl⟩

set_option maxRecDepth 100000 in
set_option maxHeartbeats 1000000 in
theorem ok_s_l00Max {a1 : Int} {b2 : Int} {r : Int} (hm : s_l00Max a1 b2 = some r) (w : World)  :
    Calls Try.prog 101 #[.int .i64 a1, .int .i64 b2] w (Ret (cx w) (.int .i64 r)) := by
  unfold s_l00Max at hm
  refine Calls.enter [.int .i64 a1, .int .i64 b2] Try.func101 rfl Try.ntmps101 rfl ?_
  refine WJ.seq ?_
  refine WJ.quiet ?_
  refine QJ.step (YldS.yld (y_assign rfl)) rfl ?_
  refine QJ.done ?_
  refine PJ.next ?_
  refine WJ.seq ?_
  refine WJ.seq ?_
  refine WJ.quiet ?_
  refine QJ.step (YldS.yld (y_move rfl)) rfl ?_
  refine QJ.step (YldS.yld (y_move rfl)) rfl ?_
  refine QJ.step (YldS.yld (y_bin rfl rfl rfl)) rfl ?_
  refine QJ.done ?_
  refine PJ.next ?_
  refine WJ.cond (t := decide (a1 > b2)) rfl (fun hb3 => ?_) (fun hb3 => ?_)
  · replace hm := ifT hm hb3
    refine WJ.seq ?_
    refine WJ.quiet ?_
    refine QJ.step (YldS.yld (y_move rfl)) rfl ?_
    refine QJ.step (YldS.yld (y_assign rfl)) rfl ?_
    refine QJ.done ?_
    refine PJ.next ?_
    refine WJ.ret ?_
    refine PJ.then_ret ?_
    obtain rfl := Option.some.inj hm
    refine PJ.sel (L' := []) [] ⟨List.nodup_nil, rfl⟩ ?_
    exact PJ.retn (vs := [.int .i64 a1]) Try.results101 ⟨rfl, trivial⟩ ⟨rfl, rfl⟩
  · replace hm := ifF hm hb3
    refine WJ.skip ?_
    refine PJ.next ?_
    refine WJ.seq ?_
    refine WJ.quiet ?_
    refine QJ.step (YldS.yld (y_move rfl)) rfl ?_
    refine QJ.step (YldS.yld (y_assign rfl)) rfl ?_
    refine QJ.done ?_
    refine PJ.next ?_
    refine WJ.ret ?_
    obtain rfl := Option.some.inj hm
    refine PJ.sel (L' := []) [] ⟨List.nodup_nil, rfl⟩ ?_
    exact PJ.retn (vs := [.int .i64 b2]) Try.results101 ⟨rfl, trivial⟩ ⟨rfl, rfl⟩

set_option maxRecDepth 100000 in
set_option maxHeartbeats 1000000 in
theorem ok_s_l09Long {N : Nat} {words1 : List Str} {r : Int} (hm : s_l09Long N words1 = some r) (w : World) (v2 : Value) (hr3 : RdS w (cx w).Fz v2 fStr.rp words1) :
    Calls Try.prog 117 #[v2] w (Ret (cx w) (.int .i64 r)) := by
  unfold s_l09Long at hm
  refine Calls.enter [v2] Try.func117 rfl Try.ntmps117 rfl ?_
  refine WJ.seq ?_
  refine WJ.quiet ?_
  refine QJ.step (YldS.yld (y_assign rfl)) rfl ?_
  refine QJ.done ?_
  refine PJ.next ?_
  refine WJ.seq ?_
  refine WJ.quiet ?_
  refine QJ.step (YldS.yld (y_move rfl)) rfl ?_
  refine QJ.step (YldS.yld (y_lenS Try.runUnderlying24 hr3 rfl)) rfl ?_
  refine QJ.step (YldS.yld (y_bin rfl rfl rfl)) rfl ?_
  refine QJ.step (YldS.yld (y_assign rfl)) rfl ?_
  refine QJ.done ?_
  refine PJ.next ?_
  obtain ⟨kj5, hk6, hm⟩ := withK_open hm
  refine WJ.join (X := Int) (fun (x : Int) => kj5 x = some r) (fun (x : Int) => [(3, .int .i64 x)]) (fun (x : Int) => []) ?_ ?_
  · clear hk6
    refine WJ.seq ?_
    refine WJ.quiet ?_
    refine QJ.step (YldS.yld (y_assign rfl)) rfl ?_
    refine QJ.done ?_
    refine PJ.next ?_
    refine WJ.block ?_
    refine WJ.sel (L' := (fun (x : Int × Int) => []) (w64 ((List.length words1 : Int) - 1), 0)) [] ⟨List.nodup_nil, rfl⟩ ?_
    refine WJ.sub (m' := (fun (x : Int × Int) => [(0, v2), (3, .int .i64 x.1), (4, .int .i64 x.2)]) (w64 ((List.length words1 : Int) - 1), 0)) ⟨rfl, rfl, rfl, trivial⟩ ?_
    refine WJ.loop (X := Int × Int) (fun N (x : Int × Int) => s_l09Long_l1 kj5 words1 N x.1 x.2 = some r) (fun (x : Int × Int) => [(0, v2), (3, .int .i64 x.1), (4, .int .i64 x.2)]) (fun (x : Int × Int) => []) ?_ N (w64 ((List.length words1 : Int) - 1), 0) hm
    · rintro N ⟨n7, i8⟩ hI
      have hm := hI; clear hI
      cases N with
      | zero => cases hm
      | succ N =>
      unfold s_l09Long_l1 at hm
      refine WJ.seq ?_
      refine WJ.seq ?_
      refine WJ.quiet ?_
      refine QJ.step (YldS.yld (y_move rfl)) rfl ?_
      refine QJ.step (YldS.yld (y_move rfl)) rfl ?_
      refine QJ.step (YldS.yld (y_lenS Try.runUnderlying24 hr3 rfl)) rfl ?_
      refine QJ.step (YldS.yld (y_bin rfl rfl rfl)) rfl ?_
      refine QJ.done ?_
      refine PJ.next ?_
      refine WJ.cond (t := decide (i8 < (List.length words1 : Int))) rfl (fun hb9 => ?_) (fun hb9 => ?_)
      · replace hm := ifT hm hb9
        refine WJ.skip ?_
        refine PJ.next ?_
        refine WJ.seq ?_
        refine WJ.block ?_
        refine WJ.quiet ?_
        refine QJ.step (YldS.yld (y_move rfl)) rfl ?_
        refine QJ.step (YldS.yld (y_move rfl)) rfl ?_
        refine QJ.step (YldS.yld (y_move rfl)) rfl ?_
        obtain ⟨e10, h11, hm⟩ := bindS hm
        obtain ⟨ad12, _, rfl, ha13, hy14⟩ := hr3.elem h11
        refine QJ.step (YldS.yld (hy14 Try.runUnderlying24 Try.sizeOf9 rfl rfl)) rfl ?_
        refine QJ.step (YldS.yld (y_load1 (v := str e10) Try.isAgg9 ha13 St.frozenC rfl)) rfl ?_
        refine QJ.step (YldS.yld (y_lenStr Try.runUnderlying9 rfl)) rfl ?_
        refine QJ.step (YldS.yld (y_bin rfl rfl rfl)) rfl ?_
        refine QJ.step (YldS.yld (y_assign rfl)) rfl ?_
        refine QJ.done ?_
        refine PJ.block_normal (PJ.next ?_)
        refine WJ.quiet ?_
        refine QJ.step (YldS.yld (y_move rfl)) rfl ?_
        refine QJ.step (YldS.yld (y_bin rfl rfl rfl)) rfl ?_
        refine QJ.step (YldS.yld (y_assign rfl)) rfl ?_
        refine QJ.done ?_
        exact PJ.round (w64 (n7 + (List.length e10 : Int)), w64 (i8 + 1)) [] hm ⟨rfl, rfl, rfl, trivial⟩ ⟨List.nodup_nil, rfl⟩
      · replace hm := ifF hm hb9
        refine WJ.exit ?_
        refine PJ.then_exit (PJ.then_exit (PJ.block_exit ?_))
        exact PJ.joined n7 [] hm ⟨rfl, trivial⟩ ⟨List.nodup_nil, rfl⟩
  · rintro n4 hm
    subst hk6
    refine WJ.seq ?_
    refine WJ.quiet ?_
    refine QJ.step (YldS.yld (y_move rfl)) rfl ?_
    obtain ⟨r15, h16, hm⟩ := bindS hm
    refine QJ.step (y_call Try.call101 rfl (RetG.quiet fun w hw => ok_s_l00Max h16 w )) rfl ?_
    refine QJ.step (YldS.yld (y_assign rfl)) rfl ?_
    refine QJ.done ?_
    refine PJ.next ?_
    refine WJ.ret ?_
    obtain rfl := Option.some.inj hm
    refine PJ.sel (L' := []) [] ⟨List.nodup_nil, rfl⟩ ?_
    exact PJ.retn (vs := [.int .i64 r15]) Try.results117 ⟨rfl, trivial⟩ ⟨rfl, rfl⟩

set_option maxRecDepth 100000 in
set_option maxHeartbeats 1000000 in
theorem ok_s_l09First {N : Nat} {words1 : List Str} {width4 : Int} {r : (List Int)} (hm : s_l09First N words1 width4 = some r) (w : World) (v2 : Value) (hr3 : RdS w (cx w).Fz v2 fStr.rp words1) :
    Calls Try.prog 65 #[v2, .int .i64 width4] w (RetG (cx w) fun u L => ∃ (u1 : Value), (u = u1 ∧ L = [row u1 2 fI64 r])) := by
  unfold s_l09First at hm
  refine Calls.enter [v2, .int .i64 width4] Try.func65 rfl Try.ntmps65 rfl ?_
  refine WJ.seq ?_
  refine WJ.quiet ?_
  refine QJ.step (YldS.yld (y_assign rfl)) rfl ?_
  refine QJ.done ?_
  refine PJ.next ?_
  refine WJ.seq ?_
  refine WJ.reg ?_
  refine SJ.buildSlice (R := fI64) (os := []) [] Try.runUnderlying27 Try.sizeOf2 Try.zeroValue2 rfl rfl rfl rfl rfl rfl fun v5 => ?_
  refine SJ.q (YldS.yld (y_assign rfl)) rfl ?_
  refine SJ.nil ?_
  refine PJ.next ?_
  refine WJ.seq ?_
  refine WJ.quiet ?_
  refine QJ.step (YldS.yld (y_assign rfl)) rfl ?_
  refine QJ.done ?_
  refine PJ.next ?_
  obtain ⟨kj8, hk9, hm⟩ := withK_open hm
  refine WJ.join (X := (List Int) × Value) (fun (x : (List Int) × Value) => kj8 x.1 = some r) (fun (x : (List Int) × Value) => [(5, x.2)]) (fun (x : (List Int) × Value) => [row x.2 2 fI64 x.1]) ?_ ?_
  · clear hk9
    refine WJ.seq ?_
    refine WJ.quiet ?_
    refine QJ.step (YldS.yld (y_assign rfl)) rfl ?_
    refine QJ.done ?_
    refine PJ.next ?_
    refine WJ.block ?_
    refine WJ.sel (L' := (fun (x : (List Int) × Value × Int × Int) => [row x.2.1 2 fI64 x.1]) ([], v5, 0, 1)) [0] ⟨by decide, rfl⟩ ?_
    refine WJ.sub (m' := (fun (x : (List Int) × Value × Int × Int) => [(0, v2), (1, .int .i64 width4), (5, x.2.1), (6, .int .i64 x.2.2.1), (7, .int .i64 x.2.2.2)]) ([], v5, 0, 1)) ⟨rfl, rfl, rfl, rfl, rfl, trivial⟩ ?_
    refine WJ.loop (X := (List Int) × Value × Int × Int) (fun N (x : (List Int) × Value × Int × Int) => s_l09First_l1 kj8 words1 width4 N x.1 x.2.2.1 x.2.2.2 = some r) (fun (x : (List Int) × Value × Int × Int) => [(0, v2), (1, .int .i64 width4), (5, x.2.1), (6, .int .i64 x.2.2.1), (7, .int .i64 x.2.2.2)]) (fun (x : (List Int) × Value × Int × Int) => [row x.2.1 2 fI64 x.1]) ?_ N ([], v5, 0, 1) hm
    · rintro N ⟨l10, v11, from12, i13⟩ hI
      have hm := hI; clear hI
      cases N with
      | zero => cases hm
      | succ N =>
      unfold s_l09First_l1 at hm
      refine WJ.seq ?_
      refine WJ.seq ?_
      refine WJ.quiet ?_
      refine QJ.step (YldS.yld (y_move rfl)) rfl ?_
      refine QJ.step (YldS.yld (y_move rfl)) rfl ?_
      refine QJ.step (YldS.yld (y_lenS Try.runUnderlying24 hr3 rfl)) rfl ?_
      refine QJ.step (YldS.yld (y_bin rfl rfl rfl)) rfl ?_
      refine QJ.done ?_
      refine PJ.next ?_
      refine WJ.cond (t := decide (i13 < (List.length words1 : Int))) rfl (fun hb14 => ?_) (fun hb14 => ?_)
      · replace hm := ifT hm hb14
        refine WJ.skip ?_
        refine PJ.next ?_
        obtain ⟨kj18, hk19, hm⟩ := withK_open hm
        refine WJ.join (X := (List Int) × Value × Int) (fun (x : (List Int) × Value × Int) => kj18 x.1 x.2.2 = some r) (fun (x : (List Int) × Value × Int) => [(0, v2), (1, .int .i64 width4), (5, x.2.1), (6, .int .i64 x.2.2), (7, .int .i64 i13)]) (fun (x : (List Int) × Value × Int) => [row x.2.1 2 fI64 x.1]) ?_ ?_
        · clear hk19
          refine WJ.block ?_
          refine WJ.seq ?_
          refine WJ.quiet ?_
          refine QJ.step (YldS.yld (y_move rfl)) rfl ?_
          refine QJ.step (YldS.yld (y_move rfl)) rfl ?_
          refine QJ.step (YldS.yld (y_move rfl)) rfl ?_
          refine QJ.step (YldS.yld (y_bin rfl rfl rfl)) rfl ?_
          obtain ⟨l20, h21, hm⟩ := bindS hm
          obtain ⟨v22, hr23, hy24⟩ := RdS.part (i := some from12) (j := some (w64 (i13 + 1))) hr3 h21
          refine QJ.step (YldS.yld (hy24 Try.runUnderlying24 Try.sizeOf9 rfl ⟨_, rfl⟩ ⟨_, rfl⟩)) rfl ?_
          obtain ⟨r25, h26, hm⟩ := bindS hm
          refine QJ.step (y_call Try.call117 rfl (RetG.quiet fun w hw => ok_s_l09Long h26 w _ (hr23.st hw))) rfl ?_
          refine QJ.step (YldS.yld (y_move rfl)) rfl ?_
          refine QJ.step (YldS.yld (y_bin rfl rfl rfl)) rfl ?_
          refine QJ.done ?_
          refine PJ.next ?_
          refine WJ.cond (t := decide (r25 > width4)) rfl (fun hb27 => ?_) (fun hb27 => ?_)
          · replace hm := ifT hm hb27
            refine WJ.seq ?_
            refine WJ.reg ?_
            refine SJ.q (YldS.yld (y_move rfl)) rfl ?_
            refine SJ.q (YldS.yld (y_move rfl)) rfl ?_
            refine SJ.buildSlice (R := fI64) (os := [.tmp 24]) [i13] Try.runUnderlying27 Try.sizeOf2 Try.zeroValue2 rfl rfl rfl rfl rfl rfl fun v28 => ?_
            obtain ⟨l29, h30, hm⟩ := bindS hm
            refine SJ.append (k := 1) (R := fI64) h30 rfl Try.underlying27 el2 rfl rfl rfl (fun w hw => (hw.row_rd (k := 0) rfl)) rfl fun v31 => ?_
            refine SJ.q (YldS.yld (y_assign rfl)) rfl ?_
            refine SJ.nil ?_
            refine PJ.next ?_
            refine WJ.quiet ?_
            refine QJ.step (YldS.yld (y_move rfl)) rfl ?_
            refine QJ.step (YldS.yld (y_assign rfl)) rfl ?_
            refine QJ.done ?_
            refine PJ.block_normal ?_
            exact PJ.joined (l29, v31, i13) [1] hm ⟨rfl, rfl, rfl, rfl, rfl, trivial⟩ ⟨by decide, rfl⟩
          · replace hm := ifF hm hb27
            refine WJ.skip ?_
            refine PJ.block_normal ?_
            exact PJ.joined (l10, v11, from12) [0] hm ⟨rfl, rfl, rfl, rfl, rfl, trivial⟩ ⟨by decide, rfl⟩
        · rintro ⟨l15, v16, from17⟩ hm
          subst hk19
          refine WJ.quiet ?_
          refine QJ.step (YldS.yld (y_move rfl)) rfl ?_
          refine QJ.step (YldS.yld (y_bin rfl rfl rfl)) rfl ?_
          refine QJ.step (YldS.yld (y_assign rfl)) rfl ?_
          refine QJ.done ?_
          exact PJ.round (l15, v16, from17, w64 (i13 + 1)) [0] hm ⟨rfl, rfl, rfl, rfl, rfl, trivial⟩ ⟨by decide, rfl⟩
      · replace hm := ifF hm hb14
        refine WJ.exit ?_
        refine PJ.then_exit (PJ.then_exit (PJ.block_exit ?_))
        exact PJ.joined (l10, v11) [0] hm ⟨rfl, trivial⟩ ⟨by decide, rfl⟩
  · rintro ⟨l6, v7⟩ hm
    subst hk9
    refine WJ.seq ?_
    refine WJ.quiet ?_
    refine QJ.step (YldS.yld (y_move rfl)) rfl ?_
    refine QJ.step (YldS.yld (y_assign rfl)) rfl ?_
    refine QJ.done ?_
    refine PJ.next ?_
    refine WJ.ret ?_
    obtain rfl := Option.some.inj hm
    refine PJ.sel (L' := [row v7 2 fI64 l6]) [0] ⟨by decide, rfl⟩ ?_
    exact PJ.retn (vs := [v7]) Try.results65 ⟨rfl, trivial⟩ ⟨_, rfl, rfl⟩

set_option maxRecDepth 100000 in
set_option maxHeartbeats 1000000 in
theorem ok_s_l00Src_one {s1 : L00Src} {n5 : Int} {g2 : Nat} {r : Bool × L00Src} (hm : s_l00Src_one s1 n5 = some r) (w : World) (S : Nat → Prop) (v3 : Value) (hr4 : RdS w (Cx.Fz ⟨w, S⟩) v3 fByte.rp s1.code) (hA : (box g2 121 [v3, .int .i64 s1.at_, .int .u64 s1.seed]).holds w S) :
    Calls Try.prog 66 #[pt g2 0, .int .i64 n5] w (RetG ⟨w, S⟩ fun u L => (u = .bool r.1 ∧ L = [box g2 121 [v3, .int .i64 r.2.at_, .int .u64 r.2.seed]])) := by
  unfold s_l00Src_one at hm
  refine Calls.enter1 hA [pt g2 0, .int .i64 n5] Try.func66 rfl Try.ntmps66 rfl ?_
  refine WJ.seq ?_
  refine WJ.quiet ?_
  refine QJ.step (YldS.yld (y_assign rfl)) rfl ?_
  refine QJ.done ?_
  refine PJ.next ?_
  refine WJ.seq ?_
  refine WJ.reg ?_
  refine SJ.q (YldS.yld (y_move rfl)) rfl ?_
  refine SJ.q (YldS.yld (y_move rfl)) rfl ?_
  obtain ⟨r6, h7, hm⟩ := bindS hm
  refine SJ.call1 (k := 0) rfl Try.call82 rfl (fun w S hw hA hO => ok_s_l00Src_pick h7 w S _ (hr4.st1 hw hO) hA) rfl ?_
  rintro _ _ ⟨rfl, rfl⟩
  refine SJ.q (YldS.yld (y_bin rfl rfl rfl)) rfl ?_
  refine SJ.q (YldS.yld (y_assign rfl)) rfl ?_
  refine SJ.nil ?_
  refine PJ.next ?_
  refine WJ.ret ?_
  obtain rfl := Option.some.inj hm
  refine PJ.sel (L' := [box g2 121 [v3, .int .i64 r6.2.at_, .int .u64 r6.2.seed]]) [0] ⟨by decide, rfl⟩ ?_
  exact PJ.retn (vs := [.bool (r6.1 == 0)]) Try.results66 ⟨rfl, trivial⟩ ⟨rfl, rfl⟩

set_option maxRecDepth 100000 in
set_option maxHeartbeats 1000000 in
theorem ok_s_l00Put {N : Nat} {list1 : List Int} {n4 : Int} {r : (List Int)} (hm : s_l00Put N list1 n4 = some r) (w : World) (v2 : Value) (hr3 : RdS w (cx w).Fz v2 fI64.rp list1) :
    Calls Try.prog 67 #[v2, .int .i64 n4] w (RetG (cx w) fun u L => ∃ (u1 : Value), (u = u1 ∧ L = [row u1 2 fI64 r])) := by
  unfold s_l00Put at hm
  refine Calls.enter [v2, .int .i64 n4] Try.func67 rfl Try.ntmps67 rfl ?_
  refine WJ.seq ?_
  refine WJ.quiet ?_
  refine QJ.step (YldS.yld (y_assign rfl)) rfl ?_
  refine QJ.done ?_
  refine PJ.next ?_
  refine WJ.seq ?_
  refine WJ.reg ?_
  refine SJ.buildSlice (R := fI64) (os := []) [] Try.runUnderlying27 Try.sizeOf2 Try.zeroValue2 rfl rfl rfl rfl rfl rfl fun v5 => ?_
  refine SJ.q (YldS.yld (y_assign rfl)) rfl ?_
  refine SJ.nil ?_
  refine PJ.next ?_
  refine WJ.seq ?_
  refine WJ.quiet ?_
  refine QJ.step (YldS.yld (y_assign rfl)) rfl ?_
  refine QJ.done ?_
  refine PJ.next ?_
  obtain ⟨kj9, hk10, hm⟩ := withK_open hm
  refine WJ.join (X := (List Int) × Value × Bool) (fun (x : (List Int) × Value × Bool) => kj9 x.1 x.2.2 = some r) (fun (x : (List Int) × Value × Bool) => [(1, .int .i64 n4), (5, x.2.1), (6, .bool x.2.2)]) (fun (x : (List Int) × Value × Bool) => [row x.2.1 2 fI64 x.1]) ?_ ?_
  · clear hk10
    refine WJ.seq ?_
    refine WJ.quiet ?_
    refine QJ.step (YldS.yld (y_assign rfl)) rfl ?_
    refine QJ.done ?_
    refine PJ.next ?_
    refine WJ.block ?_
    refine WJ.sel (L' := (fun (x : (List Int) × Value × Bool × Int) => [row x.2.1 2 fI64 x.1]) ([], v5, false, 0)) [0] ⟨by decide, rfl⟩ ?_
    refine WJ.sub (m' := (fun (x : (List Int) × Value × Bool × Int) => [(0, v2), (1, .int .i64 n4), (5, x.2.1), (6, .bool x.2.2.1), (7, .int .i64 x.2.2.2)]) ([], v5, false, 0)) ⟨rfl, rfl, rfl, rfl, rfl, trivial⟩ ?_
    refine WJ.loop (X := (List Int) × Value × Bool × Int) (fun N (x : (List Int) × Value × Bool × Int) => s_l00Put_l1 kj9 list1 n4 N x.1 x.2.2.1 x.2.2.2 = some r) (fun (x : (List Int) × Value × Bool × Int) => [(0, v2), (1, .int .i64 n4), (5, x.2.1), (6, .bool x.2.2.1), (7, .int .i64 x.2.2.2)]) (fun (x : (List Int) × Value × Bool × Int) => [row x.2.1 2 fI64 x.1]) ?_ N ([], v5, false, 0) hm
    · rintro N ⟨l11, v12, done13, i14⟩ hI
      have hm := hI; clear hI
      cases N with
      | zero => cases hm
      | succ N =>
      unfold s_l00Put_l1 at hm
      refine WJ.seq ?_
      refine WJ.seq ?_
      refine WJ.quiet ?_
      refine QJ.step (YldS.yld (y_move rfl)) rfl ?_
      refine QJ.step (YldS.yld (y_move rfl)) rfl ?_
      refine QJ.step (YldS.yld (y_lenS Try.runUnderlying27 hr3 rfl)) rfl ?_
      refine QJ.step (YldS.yld (y_bin rfl rfl rfl)) rfl ?_
      refine QJ.done ?_
      refine PJ.next ?_
      refine WJ.cond (t := decide (i14 < (List.length list1 : Int))) rfl (fun hb15 => ?_) (fun hb15 => ?_)
      · replace hm := ifT hm hb15
        refine WJ.skip ?_
        refine PJ.next ?_
        refine WJ.seq ?_
        refine WJ.block ?_
        obtain ⟨kj19, hk20, hm⟩ := withK_open hm
        refine WJ.join (X := (List Int) × Value × Bool) (fun (x : (List Int) × Value × Bool) => kj19 x.1 x.2.2 = some r) (fun (x : (List Int) × Value × Bool) => [(0, v2), (1, .int .i64 n4), (5, x.2.1), (6, .bool x.2.2), (7, .int .i64 i14)]) (fun (x : (List Int) × Value × Bool) => [row x.2.1 2 fI64 x.1]) ?_ ?_
        · clear hk20
          refine WJ.seq ?_
          refine WJ.quiet ?_
          refine QJ.step (YldS.yld (y_move rfl)) rfl ?_
          refine QJ.step (YldS.yld (y_not rfl)) rfl ?_
          refine QJ.step (YldS.yld (y_move rfl)) rfl ?_
          obtain ⟨t21, h22, hm⟩ := bindS hm
          refine QJ.cut 7 [(0, v2), (1, .int .i64 n4), (5, v12), (6, .bool done13), (7, .int .i64 i14), (24, .bool t21)] ?_ ?_
          · rcases Bool.eq_false_or_eq_true (!done13) with hb23 | hb23
            · replace h22 := andT h22 hb23
              refine QJ.on rfl rfl (cB hb23) (YldS.yld (y_move rfl)) rfl ?_
              refine QJ.on rfl rfl (cB hb23) (YldS.yld (y_move rfl)) rfl ?_
              obtain ⟨e24, h25, h22⟩ := bindS h22
              obtain ⟨ad26, _, rfl, ha27, hy28⟩ := hr3.elem h25
              refine QJ.on rfl rfl (cB hb23) (YldS.yld (hy28 Try.runUnderlying27 Try.sizeOf2 rfl rfl)) rfl ?_
              refine QJ.on rfl rfl (cB hb23) (YldS.yld (y_load1 (v := .int .i64 e24) Try.isAgg2 ha27 St.frozenC rfl)) rfl ?_
              refine QJ.on rfl rfl (cB hb23) (YldS.yld (y_move rfl)) rfl ?_
              refine QJ.on rfl rfl (cB hb23) (YldS.yld (y_bin rfl rfl rfl)) rfl ?_
              refine QJ.step (YldS.yld (y_pick_t (cB hb23) rfl)) rfl ?_
              obtain rfl := Option.some.inj h22
              exact QJ.cut_end ⟨rfl, rfl, rfl, rfl, rfl, rfl, trivial⟩
            · obtain rfl := andF h22 hb23
              refine QJ.off rfl rfl (cB hb23) rfl rfl ?_
              refine QJ.off rfl rfl (cB hb23) rfl rfl ?_
              refine QJ.off rfl rfl (cB hb23) rfl rfl ?_
              refine QJ.off rfl rfl (cB hb23) rfl rfl ?_
              refine QJ.off rfl rfl (cB hb23) rfl rfl ?_
              refine QJ.off rfl rfl (cB hb23) rfl rfl ?_
              refine QJ.step (YldS.yld (y_pick_f (cB hb23) rfl)) rfl ?_
              exact QJ.cut_end ⟨rfl, rfl, rfl, rfl, rfl, rfl, trivial⟩
          refine QJ.done ?_
          refine PJ.next ?_
          refine WJ.cond (t := t21) rfl (fun hb29 => ?_) (fun hb29 => ?_)
          · replace hm := ifT hm hb29
            refine WJ.seq ?_
            refine WJ.quiet ?_
            refine QJ.step (YldS.yld (y_assign rfl)) rfl ?_
            refine QJ.done ?_
            refine PJ.next ?_
            refine WJ.seq ?_
            refine WJ.quiet ?_
            refine QJ.step (YldS.yld (y_move rfl)) rfl ?_
            refine QJ.step (YldS.yld (y_move rfl)) rfl ?_
            obtain ⟨e30, h31, hm⟩ := bindS hm
            obtain ⟨ad32, _, rfl, ha33, hy34⟩ := hr3.elem h31
            refine QJ.step (YldS.yld (hy34 Try.runUnderlying27 Try.sizeOf2 rfl rfl)) rfl ?_
            refine QJ.step (YldS.yld (y_load1 (v := .int .i64 e30) Try.isAgg2 ha33 St.frozenC rfl)) rfl ?_
            refine QJ.step (YldS.yld (y_move rfl)) rfl ?_
            refine QJ.step (YldS.yld (y_bin rfl rfl rfl)) rfl ?_
            refine QJ.done ?_
            refine PJ.next ?_
            refine WJ.cond (t := decide (e30 > n4)) rfl (fun hb35 => ?_) (fun hb35 => ?_)
            · replace hm := ifT hm hb35
              refine WJ.reg ?_
              refine SJ.q (YldS.yld (y_move rfl)) rfl ?_
              refine SJ.q (YldS.yld (y_move rfl)) rfl ?_
              refine SJ.buildSlice (R := fI64) (os := [.tmp 32]) [n4] Try.runUnderlying27 Try.sizeOf2 Try.zeroValue2 rfl rfl rfl rfl rfl rfl fun v36 => ?_
              obtain ⟨l37, h38, hm⟩ := bindS hm
              refine SJ.append (k := 1) (R := fI64) h38 rfl Try.underlying27 el2 rfl rfl rfl (fun w hw => (hw.row_rd (k := 0) rfl)) rfl fun v39 => ?_
              refine SJ.q (YldS.yld (y_assign rfl)) rfl ?_
              refine SJ.nil ?_
              exact PJ.joined (l37, v39, true) [1] hm ⟨rfl, rfl, rfl, rfl, rfl, trivial⟩ ⟨by decide, rfl⟩
            · replace hm := ifF hm hb35
              refine WJ.skip ?_
              exact PJ.joined (l11, v12, true) [0] hm ⟨rfl, rfl, rfl, rfl, rfl, trivial⟩ ⟨by decide, rfl⟩
          · replace hm := ifF hm hb29
            refine WJ.skip ?_
            exact PJ.joined (l11, v12, done13) [0] hm ⟨rfl, rfl, rfl, rfl, rfl, trivial⟩ ⟨by decide, rfl⟩
        · rintro ⟨l16, v17, done18⟩ hm
          subst hk20
          refine WJ.reg ?_
          refine SJ.q (YldS.yld (y_move rfl)) rfl ?_
          refine SJ.q (YldS.yld (y_move rfl)) rfl ?_
          refine SJ.q (YldS.yld (y_move rfl)) rfl ?_
          obtain ⟨e40, h41, hm⟩ := bindS hm
          obtain ⟨ad42, _, rfl, ha43, hy44⟩ := hr3.elem h41
          refine SJ.q (YldS.yld (hy44 Try.runUnderlying27 Try.sizeOf2 rfl rfl)) rfl ?_
          refine SJ.q (YldS.yld (y_load1 (v := .int .i64 e40) Try.isAgg2 ha43 St.frozenC rfl)) rfl ?_
          refine SJ.buildSlice (R := fI64) (os := [.tmp 39]) [e40] Try.runUnderlying27 Try.sizeOf2 Try.zeroValue2 rfl rfl rfl rfl rfl rfl fun v45 => ?_
          obtain ⟨l46, h47, hm⟩ := bindS hm
          refine SJ.append (k := 1) (R := fI64) h47 rfl Try.underlying27 el2 rfl rfl rfl (fun w hw => (hw.row_rd (k := 0) rfl)) rfl fun v48 => ?_
          refine SJ.q (YldS.yld (y_assign rfl)) rfl ?_
          refine SJ.nil ?_
          refine PJ.block_normal (PJ.next ?_)
          refine WJ.quiet ?_
          refine QJ.step (YldS.yld (y_move rfl)) rfl ?_
          refine QJ.step (YldS.yld (y_bin rfl rfl rfl)) rfl ?_
          refine QJ.step (YldS.yld (y_assign rfl)) rfl ?_
          refine QJ.done ?_
          exact PJ.round (l46, v48, done18, w64 (i14 + 1)) [1] hm ⟨rfl, rfl, rfl, rfl, rfl, trivial⟩ ⟨by decide, rfl⟩
      · replace hm := ifF hm hb15
        refine WJ.exit ?_
        refine PJ.then_exit (PJ.then_exit (PJ.block_exit ?_))
        exact PJ.joined (l11, v12, done13) [0] hm ⟨rfl, rfl, rfl, trivial⟩ ⟨by decide, rfl⟩
  · rintro ⟨l6, v7, done8⟩ hm
    subst hk10
    obtain ⟨kj51, hk52, hm⟩ := withK_open hm
    refine WJ.join (X := (List Int) × Value) (fun (x : (List Int) × Value) => kj51 x.1 = some r) (fun (x : (List Int) × Value) => [(5, x.2)]) (fun (x : (List Int) × Value) => [row x.2 2 fI64 x.1]) ?_ ?_
    · clear hk52
      refine WJ.seq ?_
      refine WJ.quiet ?_
      refine QJ.step (YldS.yld (y_move rfl)) rfl ?_
      refine QJ.step (YldS.yld (y_not rfl)) rfl ?_
      refine QJ.done ?_
      refine PJ.next ?_
      refine WJ.cond (t := !done8) rfl (fun hb53 => ?_) (fun hb53 => ?_)
      · replace hm := ifT hm hb53
        refine WJ.reg ?_
        refine SJ.q (YldS.yld (y_move rfl)) rfl ?_
        refine SJ.q (YldS.yld (y_move rfl)) rfl ?_
        refine SJ.buildSlice (R := fI64) (os := [.tmp 45]) [n4] Try.runUnderlying27 Try.sizeOf2 Try.zeroValue2 rfl rfl rfl rfl rfl rfl fun v54 => ?_
        obtain ⟨l55, h56, hm⟩ := bindS hm
        refine SJ.append (k := 1) (R := fI64) h56 rfl Try.underlying27 el2 rfl rfl rfl (fun w hw => (hw.row_rd (k := 0) rfl)) rfl fun v57 => ?_
        refine SJ.q (YldS.yld (y_assign rfl)) rfl ?_
        refine SJ.nil ?_
        exact PJ.joined (l55, v57) [1] hm ⟨rfl, trivial⟩ ⟨by decide, rfl⟩
      · replace hm := ifF hm hb53
        refine WJ.skip ?_
        exact PJ.joined (l6, v7) [0] hm ⟨rfl, trivial⟩ ⟨by decide, rfl⟩
    · rintro ⟨l49, v50⟩ hm
      subst hk52
      refine WJ.seq ?_
      refine WJ.quiet ?_
      refine QJ.step (YldS.yld (y_move rfl)) rfl ?_
      refine QJ.step (YldS.yld (y_assign rfl)) rfl ?_
      refine QJ.done ?_
      refine PJ.next ?_
      refine WJ.ret ?_
      obtain rfl := Option.some.inj hm
      refine PJ.sel (L' := [row v50 2 fI64 l49]) [0] ⟨by decide, rfl⟩ ?_
      exact PJ.retn (vs := [v50]) Try.results67 ⟨rfl, trivial⟩ ⟨_, rfl, rfl⟩

set_option maxRecDepth 100000 in
set_option maxHeartbeats 1000000 in
theorem ok_s_A2Breaks {N : Nat} {code1 : List UInt8} {words4 : List Str} {width7 : Int} {r : (List Int)} (hm : s_A2Breaks N code1 words4 width7 = some r) (w : World) (v2 : Value) (hr3 : RdS w (cx w).Fz v2 fByte.rp code1) (v5 : Value) (hr6 : RdS w (cx w).Fz v5 fStr.rp words4) :
    Calls Try.prog 9 #[v2, v5, .int .i64 width7] w (RetG (cx w) fun u L => ∃ (u1 : Value), (u = u1 ∧ L = [row u1 2 fI64 r])) := by
  unfold s_A2Breaks at hm
  refine Calls.enter [v2, v5, .int .i64 width7] Try.func9 rfl Try.ntmps9 rfl ?_
  refine WJ.seq ?_
  refine WJ.quiet ?_
  refine QJ.step (YldS.yld (y_assign rfl)) rfl ?_
  refine QJ.done ?_
  refine PJ.next ?_
  refine WJ.seq ?_
  refine WJ.reg ?_
  refine SJ.q (YldS.yld (y_move rfl)) rfl ?_
  obtain ⟨r8, h9, hm⟩ := bindS hm
  refine SJ.call Try.call64 rfl (fun w hw => ok_s_l00From h9 w _ (hr3.st hw)) rfl ?_
  rintro _ _ ⟨g10, rfl, rfl⟩
  refine SJ.q (YldS.yld (y_assign rfl)) rfl ?_
  refine SJ.nil ?_
  refine PJ.next ?_
  refine WJ.seq ?_
  refine WJ.reg ?_
  refine SJ.q (YldS.yld (y_move rfl)) rfl ?_
  refine SJ.q (YldS.yld (y_move rfl)) rfl ?_
  obtain ⟨r11, h12, hm⟩ := bindS hm
  refine SJ.call Try.call65 rfl (fun w hw => ok_s_l09First h12 w _ (hr6.st hw)) rfl ?_
  rintro v13 _ ⟨_, rfl, rfl⟩
  refine SJ.q (YldS.yld (y_assign rfl)) rfl ?_
  refine SJ.nil ?_
  refine PJ.next ?_
  obtain ⟨kj16, hk17, hm⟩ := withK_open hm
  refine WJ.join (X := (List Int) × Value) (fun (x : (List Int) × Value) => kj16 x.1 = some r) (fun (x : (List Int) × Value) => [(8, x.2)]) (fun (x : (List Int) × Value) => [row x.2 2 fI64 x.1]) ?_ ?_
  · clear hk17
    refine WJ.seq ?_
    refine WJ.quiet ?_
    refine QJ.step (YldS.yld (y_assign rfl)) rfl ?_
    refine QJ.done ?_
    refine PJ.next ?_
    refine WJ.block ?_
    refine WJ.sel (L' := (fun (x : (List Int) × Value × Int × Int × Int) => [row x.2.1 2 fI64 x.1, box g10 121 [v2, .int .i64 x.2.2.1, .int .u64 x.2.2.2.1]]) (r11, v13, r8.at_, r8.seed, 1)) [0, 1] ⟨by decide, rfl⟩ ?_
    refine WJ.sub (m' := (fun (x : (List Int) × Value × Int × Int × Int) => [(1, v5), (7, pt g10 0), (8, x.2.1), (9, .int .i64 x.2.2.2.2)]) (r11, v13, r8.at_, r8.seed, 1)) ⟨rfl, rfl, rfl, rfl, trivial⟩ ?_
    refine WJ.loop (X := (List Int) × Value × Int × Int × Int) (fun N (x : (List Int) × Value × Int × Int × Int) => s_A2Breaks_l1 kj16 code1 words4 N x.1 x.2.2.1 x.2.2.2.1 x.2.2.2.2 = some r) (fun (x : (List Int) × Value × Int × Int × Int) => [(1, v5), (7, pt g10 0), (8, x.2.1), (9, .int .i64 x.2.2.2.2)]) (fun (x : (List Int) × Value × Int × Int × Int) => [row x.2.1 2 fI64 x.1, box g10 121 [v2, .int .i64 x.2.2.1, .int .u64 x.2.2.2.1]]) ?_ N (r11, v13, r8.at_, r8.seed, 1) hm
    · rintro N ⟨l18, v19, x20, x21, i22⟩ hI
      have hm := hI; clear hI
      cases N with
      | zero => cases hm
      | succ N =>
      unfold s_A2Breaks_l1 at hm
      refine WJ.seq ?_
      refine WJ.seq ?_
      refine WJ.quiet ?_
      refine QJ.step (YldS.yld (y_move rfl)) rfl ?_
      refine QJ.step (YldS.yld (y_move rfl)) rfl ?_
      refine QJ.step (YldS.yld (y_lenS Try.runUnderlying24 hr6 rfl)) rfl ?_
      refine QJ.step (YldS.yld (y_bin rfl rfl rfl)) rfl ?_
      refine QJ.done ?_
      refine PJ.next ?_
      refine WJ.cond (t := decide (i22 < (List.length words4 : Int))) rfl (fun hb23 => ?_) (fun hb23 => ?_)
      · replace hm := ifT hm hb23
        refine WJ.skip ?_
        refine PJ.next ?_
        obtain ⟨kj28, hk29, hm⟩ := withK_open hm
        refine WJ.join (X := (List Int) × Value × Int × Int) (fun (x : (List Int) × Value × Int × Int) => kj28 x.1 x.2.2.1 x.2.2.2 = some r) (fun (x : (List Int) × Value × Int × Int) => [(1, v5), (7, pt g10 0), (8, x.2.1), (9, .int .i64 i22)]) (fun (x : (List Int) × Value × Int × Int) => [row x.2.1 2 fI64 x.1, box g10 121 [v2, .int .i64 x.2.2.1, .int .u64 x.2.2.2]]) ?_ ?_
        · clear hk29
          refine WJ.block ?_
          refine WJ.seq ?_
          refine WJ.reg ?_
          refine SJ.q (YldS.yld (y_move rfl)) rfl ?_
          obtain ⟨r30, h31, hm⟩ := bindS hm
          refine SJ.call1 (k := 1) rfl Try.call66 rfl (fun w S hw hA hO => ok_s_l00Src_one h31 w S _ (hr3.st1 hw hO) hA) rfl ?_
          rintro _ _ ⟨rfl, rfl⟩
          refine SJ.nil ?_
          refine PJ.next ?_
          refine WJ.cond (t := r30.1) rfl (fun hb32 => ?_) (fun hb32 => ?_)
          · replace hm := ifT hm hb32
            refine WJ.reg ?_
            refine SJ.q (YldS.yld (y_move rfl)) rfl ?_
            refine SJ.q (YldS.yld (y_move rfl)) rfl ?_
            obtain ⟨r33, h34, hm⟩ := bindS hm
            refine SJ.call Try.call67 rfl (fun w hw => ok_s_l00Put h34 w _ (hw.row_rd (k := 1) rfl)) rfl ?_
            rintro v35 _ ⟨_, rfl, rfl⟩
            refine SJ.q (YldS.yld (y_assign rfl)) rfl ?_
            refine SJ.nil ?_
            refine PJ.block_normal ?_
            exact PJ.joined (r33, v35, r30.2.at_, r30.2.seed) [0, 1] hm ⟨rfl, rfl, rfl, rfl, trivial⟩ ⟨by decide, rfl⟩
          · replace hm := ifF hm hb32
            refine WJ.skip ?_
            refine PJ.block_normal ?_
            exact PJ.joined (l18, v19, r30.2.at_, r30.2.seed) [1, 0] hm ⟨rfl, rfl, rfl, rfl, trivial⟩ ⟨by decide, rfl⟩
        · rintro ⟨l24, v25, x26, x27⟩ hm
          subst hk29
          refine WJ.quiet ?_
          refine QJ.step (YldS.yld (y_move rfl)) rfl ?_
          refine QJ.step (YldS.yld (y_bin rfl rfl rfl)) rfl ?_
          refine QJ.step (YldS.yld (y_assign rfl)) rfl ?_
          refine QJ.done ?_
          exact PJ.round (l24, v25, x26, x27, w64 (i22 + 1)) [0, 1] hm ⟨rfl, rfl, rfl, rfl, trivial⟩ ⟨by decide, rfl⟩
      · replace hm := ifF hm hb23
        refine WJ.exit ?_
        refine PJ.then_exit (PJ.then_exit (PJ.block_exit ?_))
        exact PJ.joined (l18, v19) [0] hm ⟨rfl, trivial⟩ ⟨by decide, rfl⟩
  · rintro ⟨l14, v15⟩ hm
    subst hk17
    refine WJ.seq ?_
    refine WJ.quiet ?_
    refine QJ.step (YldS.yld (y_move rfl)) rfl ?_
    refine QJ.step (YldS.yld (y_assign rfl)) rfl ?_
    refine QJ.done ?_
    refine PJ.next ?_
    refine WJ.ret ?_
    obtain rfl := Option.some.inj hm
    refine PJ.sel (L' := [row v15 2 fI64 l14]) [0] ⟨by decide, rfl⟩ ?_
    exact PJ.retn (vs := [v15]) Try.results9 ⟨rfl, trivial⟩ ⟨_, rfl, rfl⟩

set_option maxRecDepth 100000 in
set_option maxHeartbeats 1000000 in
theorem ok_i_between {n1 : Int} {low2 : Int} {high3 : Int} {r : Bool} (hm : i_between n1 low2 high3 = some r) (w : World)  :
    Calls Try.prog 78 #[.int .i64 n1, .int .i64 low2, .int .i64 high3] w (Ret (cx w) (.bool r)) := by
  unfold i_between at hm
  refine Calls.enter [.int .i64 n1, .int .i64 low2, .int .i64 high3] Try.func78 rfl Try.ntmps78 rfl ?_
  refine WJ.seq ?_
  refine WJ.quiet ?_
  refine QJ.step (YldS.yld (y_assign rfl)) rfl ?_
  refine QJ.done ?_
  refine PJ.next ?_
  refine WJ.seq ?_
  refine WJ.quiet ?_
  refine QJ.step (YldS.yld (y_move rfl)) rfl ?_
  refine QJ.step (YldS.yld (y_move rfl)) rfl ?_
  refine QJ.step (YldS.yld (y_bin rfl rfl rfl)) rfl ?_
  refine QJ.step (YldS.yld (y_move rfl)) rfl ?_
  obtain ⟨t4, h5, hm⟩ := bindS hm
  refine QJ.cut 4 [(14, .bool t4)] ?_ ?_
  · rcases Bool.eq_false_or_eq_true (decide (n1 ≥ low2)) with hb6 | hb6
    · replace h5 := andT h5 hb6
      refine QJ.on rfl rfl (cB hb6) (YldS.yld (y_move rfl)) rfl ?_
      refine QJ.on rfl rfl (cB hb6) (YldS.yld (y_move rfl)) rfl ?_
      refine QJ.on rfl rfl (cB hb6) (YldS.yld (y_bin rfl rfl rfl)) rfl ?_
      refine QJ.step (YldS.yld (y_pick_t (cB hb6) rfl)) rfl ?_
      obtain rfl := Option.some.inj h5
      exact QJ.cut_end ⟨rfl, trivial⟩
    · obtain rfl := andF h5 hb6
      refine QJ.off rfl rfl (cB hb6) rfl rfl ?_
      refine QJ.off rfl rfl (cB hb6) rfl rfl ?_
      refine QJ.off rfl rfl (cB hb6) rfl rfl ?_
      refine QJ.step (YldS.yld (y_pick_f (cB hb6) rfl)) rfl ?_
      exact QJ.cut_end ⟨rfl, trivial⟩
  refine QJ.step (YldS.yld (y_assign rfl)) rfl ?_
  refine QJ.done ?_
  refine PJ.next ?_
  refine WJ.ret ?_
  obtain rfl := Option.some.inj hm
  refine PJ.sel (L' := []) [] ⟨List.nodup_nil, rfl⟩ ?_
  exact PJ.retn (vs := [.bool t4]) Try.results78 ⟨rfl, trivial⟩ ⟨rfl, rfl⟩

set_option maxRecDepth 100000 in
set_option maxHeartbeats 1000000 in
theorem ok_i_isText {N : Nat} {s1 : Str} {low2 : UInt8} {most3 : Int} {r : Bool} (hm : i_isText N s1 low2 most3 = some r) (w : World)  :
    Calls Try.prog 72 #[str s1, .int .u8 (UInt8.toNat low2 : Int), .int .i64 most3] w (Ret (cx w) (.bool r)) := by
  unfold i_isText at hm
  refine Calls.enter [str s1, .int .u8 (UInt8.toNat low2 : Int), .int .i64 most3] Try.func72 rfl Try.ntmps72 rfl ?_
  refine WJ.seq ?_
  refine WJ.quiet ?_
  refine QJ.step (YldS.yld (y_assign rfl)) rfl ?_
  refine QJ.done ?_
  refine PJ.next ?_
  refine WJ.seq ?_
  refine WJ.seq ?_
  refine WJ.quiet ?_
  refine QJ.step (YldS.yld (y_move rfl)) rfl ?_
  refine QJ.step (YldS.yld (y_lenStr Try.runUnderlying9 rfl)) rfl ?_
  refine QJ.step (YldS.yld (y_move rfl)) rfl ?_
  refine QJ.step (YldS.yld (y_bin rfl rfl rfl)) rfl ?_
  refine QJ.done ?_
  refine PJ.next ?_
  refine WJ.cond (t := decide ((List.length s1 : Int) > most3)) rfl (fun hb4 => ?_) (fun hb4 => ?_)
  · replace hm := ifT hm hb4
    refine WJ.seq ?_
    refine WJ.quiet ?_
    refine QJ.step (YldS.yld (y_assign rfl)) rfl ?_
    refine QJ.done ?_
    refine PJ.next ?_
    refine WJ.ret ?_
    refine PJ.then_ret ?_
    obtain rfl := Option.some.inj hm
    refine PJ.sel (L' := []) [] ⟨List.nodup_nil, rfl⟩ ?_
    exact PJ.retn (vs := [.bool false]) Try.results72 ⟨rfl, trivial⟩ ⟨rfl, rfl⟩
  · replace hm := ifF hm hb4
    refine WJ.skip ?_
    refine PJ.next ?_
    obtain ⟨kj5, hk6, hm⟩ := withK_open hm
    refine WJ.join (X := Unit) (fun (_ : Unit) => kj5  = some r) (fun (_ : Unit) => []) (fun (_ : Unit) => []) ?_ ?_
    · clear hk6
      refine WJ.seq ?_
      refine WJ.quiet ?_
      refine QJ.step (YldS.yld (y_move rfl)) rfl ?_
      refine QJ.step (YldS.yld (y_lenStr Try.runUnderlying9 rfl)) rfl ?_
      refine QJ.step (YldS.yld (y_move rfl)) rfl ?_
      refine QJ.done ?_
      refine PJ.next ?_
      refine WJ.block ?_
      refine WJ.sel (L' := (fun (x : Int) => []) 0) [] ⟨List.nodup_nil, rfl⟩ ?_
      refine WJ.sub (m' := (fun (x : Int) => [(0, str s1), (1, .int .u8 (UInt8.toNat low2 : Int)), (13, .int .i64 (List.length s1 : Int)), (14, .int .i64 x)]) 0) ⟨rfl, rfl, rfl, rfl, trivial⟩ ?_
      refine WJ.loop (X := Int) (fun N (x : Int) => i_isText_l1 kj5 s1 low2 N x = some r) (fun (x : Int) => [(0, str s1), (1, .int .u8 (UInt8.toNat low2 : Int)), (13, .int .i64 (List.length s1 : Int)), (14, .int .i64 x)]) (fun (x : Int) => []) ?_ N 0 hm
      · rintro N x7 hI
        have hm := hI; clear hI
        cases N with
        | zero => cases hm
        | succ N =>
        unfold i_isText_l1 at hm
        refine WJ.seq ?_
        refine WJ.quiet ?_
        refine QJ.step (YldS.yld (y_bin rfl rfl rfl)) rfl ?_
        refine QJ.done ?_
        refine PJ.next ?_
        refine WJ.seq ?_
        refine WJ.cond (t := decide (x7 < (List.length s1 : Int))) rfl (fun hb8 => ?_) (fun hb8 => ?_)
        · replace hm := ifT hm hb8
          refine WJ.skip ?_
          refine PJ.next ?_
          refine WJ.seq ?_
          refine WJ.block ?_
          refine WJ.seq ?_
          refine WJ.quiet ?_
          refine QJ.step (YldS.yld (y_move rfl)) rfl ?_
          refine QJ.step (YldS.yld (y_assign rfl)) rfl ?_
          refine QJ.done ?_
          refine PJ.next ?_
          refine WJ.seq ?_
          refine WJ.quiet ?_
          refine QJ.step (YldS.yld (y_move rfl)) rfl ?_
          refine QJ.step (YldS.yld (y_move rfl)) rfl ?_
          obtain ⟨c9, h10, hm⟩ := bindS hm
          refine QJ.step (YldS.yld (y_idxStr Try.runUnderlying9 rfl rfl h10)) rfl ?_
          refine QJ.step (YldS.yld (y_move rfl)) rfl ?_
          refine QJ.step (YldS.yld (y_bin8 c9 low2 rfl rfl rfl)) rfl ?_
          refine QJ.step (YldS.yld (y_move rfl)) rfl ?_
          obtain ⟨t11, h12, hm⟩ := bindS hm
          refine QJ.cut 5 [(0, str s1), (1, .int .u8 (UInt8.toNat low2 : Int)), (13, .int .i64 (List.length s1 : Int)), (14, .int .i64 x7), (27, .bool t11)] ?_ ?_
          · rcases Bool.eq_false_or_eq_true (decide (c9 < low2)) with hb13 | hb13
            · obtain rfl := orT h12 hb13
              refine QJ.off rfl rfl (cB hb13) rfl rfl ?_
              refine QJ.off rfl rfl (cB hb13) rfl rfl ?_
              refine QJ.off rfl rfl (cB hb13) rfl rfl ?_
              refine QJ.off rfl rfl (cB hb13) rfl rfl ?_
              refine QJ.step (YldS.yld (y_pick_t (cB hb13) rfl)) rfl ?_
              exact QJ.cut_end ⟨rfl, rfl, rfl, rfl, rfl, trivial⟩
            · replace h12 := orF h12 hb13
              refine QJ.on rfl rfl (cB hb13) (YldS.yld (y_move rfl)) rfl ?_
              refine QJ.on rfl rfl (cB hb13) (YldS.yld (y_move rfl)) rfl ?_
              obtain ⟨c14, h15, h12⟩ := bindS h12
              refine QJ.on rfl rfl (cB hb13) (YldS.yld (y_idxStr Try.runUnderlying9 rfl rfl h15)) rfl ?_
              refine QJ.on rfl rfl (cB hb13) (YldS.yld (y_bin8 c14 (126 : UInt8) rfl rfl rfl)) rfl ?_
              refine QJ.step (YldS.yld (y_pick_f (cB hb13) rfl)) rfl ?_
              obtain rfl := Option.some.inj h12
              exact QJ.cut_end ⟨rfl, rfl, rfl, rfl, rfl, trivial⟩
          refine QJ.done ?_
          refine PJ.next ?_
          refine WJ.cond (t := t11) rfl (fun hb16 => ?_) (fun hb16 => ?_)
          · replace hm := ifT hm hb16
            refine WJ.seq ?_
            refine WJ.quiet ?_
            refine QJ.step (YldS.yld (y_assign rfl)) rfl ?_
            refine QJ.done ?_
            refine PJ.next ?_
            refine WJ.ret ?_
            refine PJ.block_ret (PJ.then_ret (PJ.then_ret (PJ.block_ret (PJ.then_ret ?_))))
            obtain rfl := Option.some.inj hm
            refine PJ.sel (L' := []) [] ⟨List.nodup_nil, rfl⟩ ?_
            exact PJ.retn (vs := [.bool false]) Try.results72 ⟨rfl, trivial⟩ ⟨rfl, rfl⟩
          · replace hm := ifF hm hb16
            refine WJ.skip ?_
            refine PJ.block_normal (PJ.next ?_)
            refine WJ.quiet ?_
            refine QJ.step (YldS.yld (y_bin rfl rfl rfl)) rfl ?_
            refine QJ.step (YldS.yld (y_move rfl)) rfl ?_
            refine QJ.done ?_
            exact PJ.round (w64 (x7 + 1)) [] hm ⟨rfl, rfl, rfl, rfl, trivial⟩ ⟨List.nodup_nil, rfl⟩
        · replace hm := ifF hm hb8
          refine WJ.exit ?_
          refine PJ.then_exit (PJ.then_exit (PJ.block_exit ?_))
          exact PJ.joined () [] hm trivial ⟨List.nodup_nil, rfl⟩
    · rintro _ hm
      subst hk6
      refine WJ.seq ?_
      refine WJ.quiet ?_
      refine QJ.step (YldS.yld (y_assign rfl)) rfl ?_
      refine QJ.done ?_
      refine PJ.next ?_
      refine WJ.ret ?_
      obtain rfl := Option.some.inj hm
      refine PJ.sel (L' := []) [] ⟨List.nodup_nil, rfl⟩ ?_
      exact PJ.retn (vs := [.bool true]) Try.results72 ⟨rfl, trivial⟩ ⟨rfl, rfl⟩

set_option maxRecDepth 100000 in
set_option maxHeartbeats 1000000 in
theorem ok_i_ValidText {N : Nat} {words1 : List Str} {width4 : Int} {r : Bool} (hm : i_ValidText N words1 width4 = some r) (w : World) (v2 : Value) (hr3 : RdS w (cx w).Fz v2 fStr.rp words1) :
    Calls Try.prog 74 #[v2, .int .i64 width4] w (Ret (cx w) (.bool r)) := by
  unfold i_ValidText at hm
  refine Calls.enter [v2, .int .i64 width4] Try.func74 rfl Try.ntmps74 rfl ?_
  refine WJ.seq ?_
  refine WJ.quiet ?_
  refine QJ.step (YldS.yld (y_assign rfl)) rfl ?_
  refine QJ.done ?_
  refine PJ.next ?_
  refine WJ.seq ?_
  refine WJ.seq ?_
  refine WJ.quiet ?_
  refine QJ.step (YldS.yld (y_move rfl)) rfl ?_
  obtain ⟨r5, h6, hm⟩ := bindS hm
  refine QJ.step (y_call Try.call78 rfl (RetG.quiet fun w hw => ok_i_between h6 w )) rfl ?_
  refine QJ.step (YldS.yld (y_not rfl)) rfl ?_
  refine QJ.step (YldS.yld (y_move rfl)) rfl ?_
  obtain ⟨t7, h8, hm⟩ := bindS hm
  refine QJ.cut 4 [(0, v2), (1, .int .i64 width4), (14, .bool t7)] ?_ ?_
  · rcases Bool.eq_false_or_eq_true (!r5) with hb9 | hb9
    · obtain rfl := orT h8 hb9
      refine QJ.off rfl rfl (cB hb9) rfl rfl ?_
      refine QJ.off rfl rfl (cB hb9) rfl rfl ?_
      refine QJ.off rfl rfl (cB hb9) rfl rfl ?_
      refine QJ.step (YldS.yld (y_pick_t (cB hb9) rfl)) rfl ?_
      exact QJ.cut_end ⟨rfl, rfl, rfl, trivial⟩
    · replace h8 := orF h8 hb9
      refine QJ.on rfl rfl (cB hb9) (YldS.yld (y_move rfl)) rfl ?_
      refine QJ.on rfl rfl (cB hb9) (YldS.yld (y_lenS Try.runUnderlying24 hr3 rfl)) rfl ?_
      refine QJ.on rfl rfl (cB hb9) (YldS.yld (y_bin rfl rfl rfl)) rfl ?_
      refine QJ.step (YldS.yld (y_pick_f (cB hb9) rfl)) rfl ?_
      obtain rfl := Option.some.inj h8
      exact QJ.cut_end ⟨rfl, rfl, rfl, trivial⟩
  refine QJ.done ?_
  refine PJ.next ?_
  refine WJ.cond (t := t7) rfl (fun hb10 => ?_) (fun hb10 => ?_)
  · replace hm := ifT hm hb10
    refine WJ.seq ?_
    refine WJ.quiet ?_
    refine QJ.step (YldS.yld (y_assign rfl)) rfl ?_
    refine QJ.done ?_
    refine PJ.next ?_
    refine WJ.ret ?_
    refine PJ.then_ret ?_
    obtain rfl := Option.some.inj hm
    refine PJ.sel (L' := []) [] ⟨List.nodup_nil, rfl⟩ ?_
    exact PJ.retn (vs := [.bool false]) Try.results74 ⟨rfl, trivial⟩ ⟨rfl, rfl⟩
  · replace hm := ifF hm hb10
    refine WJ.skip ?_
    refine PJ.next ?_
    obtain ⟨kj11, hk12, hm⟩ := withK_open hm
    refine WJ.join (X := Unit) (fun (_ : Unit) => kj11  = some r) (fun (_ : Unit) => []) (fun (_ : Unit) => []) ?_ ?_
    · clear hk12
      refine WJ.seq ?_
      refine WJ.quiet ?_
      refine QJ.step (YldS.yld (y_move rfl)) rfl ?_
      refine QJ.step (YldS.yld (y_lenS Try.runUnderlying24 hr3 rfl)) rfl ?_
      refine QJ.step (YldS.yld (y_move rfl)) rfl ?_
      refine QJ.done ?_
      refine PJ.next ?_
      refine WJ.block ?_
      refine WJ.sel (L' := (fun (x : Int) => []) 0) [] ⟨List.nodup_nil, rfl⟩ ?_
      refine WJ.sub (m' := (fun (x : Int) => [(1, .int .i64 width4), (15, v2), (16, .int .i64 (List.length words1 : Int)), (17, .int .i64 x)]) 0) ⟨rfl, rfl, rfl, rfl, trivial⟩ ?_
      refine WJ.loop (X := Int) (fun N (x : Int) => i_ValidText_l1 kj11 words1 width4 N x = some r) (fun (x : Int) => [(1, .int .i64 width4), (15, v2), (16, .int .i64 (List.length words1 : Int)), (17, .int .i64 x)]) (fun (x : Int) => []) ?_ N 0 hm
      · rintro N x13 hI
        have hm := hI; clear hI
        cases N with
        | zero => cases hm
        | succ N =>
        unfold i_ValidText_l1 at hm
        refine WJ.seq ?_
        refine WJ.quiet ?_
        refine QJ.step (YldS.yld (y_bin rfl rfl rfl)) rfl ?_
        refine QJ.done ?_
        refine PJ.next ?_
        refine WJ.seq ?_
        refine WJ.cond (t := decide (x13 < (List.length words1 : Int))) rfl (fun hb14 => ?_) (fun hb14 => ?_)
        · replace hm := ifT hm hb14
          refine WJ.skip ?_
          refine PJ.next ?_
          refine WJ.seq ?_
          refine WJ.block ?_
          refine WJ.seq ?_
          refine WJ.quiet ?_
          obtain ⟨e15, h16, hm⟩ := bindS hm
          obtain ⟨ad17, _, rfl, ha18, hy19⟩ := hr3.elem h16
          refine QJ.step (YldS.yld (hy19 Try.runUnderlying24 Try.sizeOf9 rfl rfl)) rfl ?_
          refine QJ.step (YldS.yld (y_load1 (v := str e15) Try.isAgg9 ha18 St.frozenC rfl)) rfl ?_
          refine QJ.step (YldS.yld (y_assign rfl)) rfl ?_
          refine QJ.done ?_
          refine PJ.next ?_
          refine WJ.seq ?_
          refine WJ.quiet ?_
          refine QJ.step (YldS.yld (y_move rfl)) rfl ?_
          refine QJ.step (YldS.yld (y_lenStr Try.runUnderlying9 rfl)) rfl ?_
          refine QJ.step (YldS.yld (y_bin rfl rfl rfl)) rfl ?_
          refine QJ.step (YldS.yld (y_move rfl)) rfl ?_
          obtain ⟨t20, h21, hm⟩ := bindS hm
          refine QJ.cut 5 [(1, .int .i64 width4), (15, v2), (16, .int .i64 (List.length words1 : Int)), (17, .int .i64 x13), (29, .bool t20)] ?_ ?_
          · rcases Bool.eq_false_or_eq_true ((List.length e15 : Int) == 0) with hb22 | hb22
            · obtain rfl := orT h21 hb22
              refine QJ.off rfl rfl (cB hb22) rfl rfl ?_
              refine QJ.off rfl rfl (cB hb22) rfl rfl ?_
              refine QJ.off rfl rfl (cB hb22) rfl rfl ?_
              refine QJ.off rfl rfl (cB hb22) rfl rfl ?_
              refine QJ.step (YldS.yld (y_pick_t (cB hb22) rfl)) rfl ?_
              exact QJ.cut_end ⟨rfl, rfl, rfl, rfl, rfl, trivial⟩
            · replace h21 := orF h21 hb22
              refine QJ.on rfl rfl (cB hb22) (YldS.yld (y_move rfl)) rfl ?_
              refine QJ.on rfl rfl (cB hb22) (YldS.yld (y_move rfl)) rfl ?_
              obtain ⟨r23, h24, h21⟩ := bindS h21
              refine QJ.on rfl rfl (cB hb22) (y_call Try.call72 rfl (RetG.quiet fun w hw => ok_i_isText h24 w )) rfl ?_
              refine QJ.on rfl rfl (cB hb22) (YldS.yld (y_not rfl)) rfl ?_
              refine QJ.step (YldS.yld (y_pick_f (cB hb22) rfl)) rfl ?_
              obtain rfl := Option.some.inj h21
              exact QJ.cut_end ⟨rfl, rfl, rfl, rfl, rfl, trivial⟩
          refine QJ.done ?_
          refine PJ.next ?_
          refine WJ.cond (t := t20) rfl (fun hb25 => ?_) (fun hb25 => ?_)
          · replace hm := ifT hm hb25
            refine WJ.seq ?_
            refine WJ.quiet ?_
            refine QJ.step (YldS.yld (y_assign rfl)) rfl ?_
            refine QJ.done ?_
            refine PJ.next ?_
            refine WJ.ret ?_
            refine PJ.block_ret (PJ.then_ret (PJ.then_ret (PJ.block_ret (PJ.then_ret ?_))))
            obtain rfl := Option.some.inj hm
            refine PJ.sel (L' := []) [] ⟨List.nodup_nil, rfl⟩ ?_
            exact PJ.retn (vs := [.bool false]) Try.results74 ⟨rfl, trivial⟩ ⟨rfl, rfl⟩
          · replace hm := ifF hm hb25
            refine WJ.skip ?_
            refine PJ.block_normal (PJ.next ?_)
            refine WJ.quiet ?_
            refine QJ.step (YldS.yld (y_bin rfl rfl rfl)) rfl ?_
            refine QJ.step (YldS.yld (y_move rfl)) rfl ?_
            refine QJ.done ?_
            exact PJ.round (w64 (x13 + 1)) [] hm ⟨rfl, rfl, rfl, rfl, trivial⟩ ⟨List.nodup_nil, rfl⟩
        · replace hm := ifF hm hb14
          refine WJ.exit ?_
          refine PJ.then_exit (PJ.then_exit (PJ.block_exit ?_))
          exact PJ.joined () [] hm trivial ⟨List.nodup_nil, rfl⟩
    · rintro _ hm
      subst hk12
      refine WJ.seq ?_
      refine WJ.quiet ?_
      refine QJ.step (YldS.yld (y_assign rfl)) rfl ?_
      refine QJ.done ?_
      refine PJ.next ?_
      refine WJ.ret ?_
      obtain rfl := Option.some.inj hm
      refine PJ.sel (L' := []) [] ⟨List.nodup_nil, rfl⟩ ?_
      exact PJ.retn (vs := [.bool true]) Try.results74 ⟨rfl, trivial⟩ ⟨rfl, rfl⟩

set_option maxRecDepth 100000 in
set_option maxHeartbeats 1000000 in
theorem ok_i_lineLength {N : Nat} {words1 : List Str} {r : Int} (hm : i_lineLength N words1 = some r) (w : World) (v2 : Value) (hr3 : RdS w (cx w).Fz v2 fStr.rp words1) :
    Calls Try.prog 75 #[v2] w (Ret (cx w) (.int .i64 r)) := by
  unfold i_lineLength at hm
  refine Calls.enter [v2] Try.func75 rfl Try.ntmps75 rfl ?_
  refine WJ.seq ?_
  refine WJ.quiet ?_
  refine QJ.step (YldS.yld (y_assign rfl)) rfl ?_
  refine QJ.done ?_
  refine PJ.next ?_
  refine WJ.seq ?_
  refine WJ.quiet ?_
  refine QJ.step (YldS.yld (y_move rfl)) rfl ?_
  refine QJ.step (YldS.yld (y_lenS Try.runUnderlying24 hr3 rfl)) rfl ?_
  refine QJ.step (YldS.yld (y_bin rfl rfl rfl)) rfl ?_
  refine QJ.step (YldS.yld (y_assign rfl)) rfl ?_
  refine QJ.done ?_
  refine PJ.next ?_
  obtain ⟨kj5, hk6, hm⟩ := withK_open hm
  refine WJ.join (X := Int) (fun (x : Int) => kj5 x = some r) (fun (x : Int) => [(3, .int .i64 x)]) (fun (x : Int) => []) ?_ ?_
  · clear hk6
    refine WJ.seq ?_
    refine WJ.quiet ?_
    refine QJ.step (YldS.yld (y_move rfl)) rfl ?_
    refine QJ.step (YldS.yld (y_lenS Try.runUnderlying24 hr3 rfl)) rfl ?_
    refine QJ.step (YldS.yld (y_move rfl)) rfl ?_
    refine QJ.done ?_
    refine PJ.next ?_
    refine WJ.block ?_
    refine WJ.sel (L' := (fun (x : Int × Int) => []) (w64 ((List.length words1 : Int) - 1), 0)) [] ⟨List.nodup_nil, rfl⟩ ?_
    refine WJ.sub (m' := (fun (x : Int × Int) => [(3, .int .i64 x.1), (9, v2), (10, .int .i64 (List.length words1 : Int)), (11, .int .i64 x.2)]) (w64 ((List.length words1 : Int) - 1), 0)) ⟨rfl, rfl, rfl, rfl, trivial⟩ ?_
    refine WJ.loop (X := Int × Int) (fun N (x : Int × Int) => i_lineLength_l1 kj5 words1 N x.1 x.2 = some r) (fun (x : Int × Int) => [(3, .int .i64 x.1), (9, v2), (10, .int .i64 (List.length words1 : Int)), (11, .int .i64 x.2)]) (fun (x : Int × Int) => []) ?_ N (w64 ((List.length words1 : Int) - 1), 0) hm
    · rintro N ⟨n7, x8⟩ hI
      have hm := hI; clear hI
      cases N with
      | zero => cases hm
      | succ N =>
      unfold i_lineLength_l1 at hm
      refine WJ.seq ?_
      refine WJ.quiet ?_
      refine QJ.step (YldS.yld (y_bin rfl rfl rfl)) rfl ?_
      refine QJ.done ?_
      refine PJ.next ?_
      refine WJ.seq ?_
      refine WJ.cond (t := decide (x8 < (List.length words1 : Int))) rfl (fun hb9 => ?_) (fun hb9 => ?_)
      · replace hm := ifT hm hb9
        refine WJ.skip ?_
        refine PJ.next ?_
        refine WJ.seq ?_
        refine WJ.block ?_
        refine WJ.seq ?_
        refine WJ.quiet ?_
        obtain ⟨e10, h11, hm⟩ := bindS hm
        obtain ⟨ad12, _, rfl, ha13, hy14⟩ := hr3.elem h11
        refine QJ.step (YldS.yld (hy14 Try.runUnderlying24 Try.sizeOf9 rfl rfl)) rfl ?_
        refine QJ.step (YldS.yld (y_load1 (v := str e10) Try.isAgg9 ha13 St.frozenC rfl)) rfl ?_
        refine QJ.step (YldS.yld (y_assign rfl)) rfl ?_
        refine QJ.done ?_
        refine PJ.next ?_
        refine WJ.quiet ?_
        refine QJ.step (YldS.yld (y_move rfl)) rfl ?_
        refine QJ.step (YldS.yld (y_move rfl)) rfl ?_
        refine QJ.step (YldS.yld (y_lenStr Try.runUnderlying9 rfl)) rfl ?_
        refine QJ.step (YldS.yld (y_bin rfl rfl rfl)) rfl ?_
        refine QJ.step (YldS.yld (y_assign rfl)) rfl ?_
        refine QJ.done ?_
        refine PJ.block_normal (PJ.next ?_)
        refine WJ.quiet ?_
        refine QJ.step (YldS.yld (y_bin rfl rfl rfl)) rfl ?_
        refine QJ.step (YldS.yld (y_move rfl)) rfl ?_
        refine QJ.done ?_
        exact PJ.round (w64 (n7 + (List.length e10 : Int)), w64 (x8 + 1)) [] hm ⟨rfl, rfl, rfl, rfl, trivial⟩ ⟨List.nodup_nil, rfl⟩
      · replace hm := ifF hm hb9
        refine WJ.exit ?_
        refine PJ.then_exit (PJ.then_exit (PJ.block_exit ?_))
        exact PJ.joined n7 [] hm ⟨rfl, trivial⟩ ⟨List.nodup_nil, rfl⟩
  · rintro n4 hm
    subst hk6
    refine WJ.seq ?_
    refine WJ.quiet ?_
    refine QJ.step (YldS.yld (y_move rfl)) rfl ?_
    refine QJ.step (YldS.yld (y_max rfl rfl)) rfl ?_
    refine QJ.step (YldS.yld (y_assign rfl)) rfl ?_
    refine QJ.done ?_
    refine PJ.next ?_
    refine WJ.ret ?_
    obtain rfl := Option.some.inj hm
    refine PJ.sel (L' := []) [] ⟨List.nodup_nil, rfl⟩ ?_
    exact PJ.retn (vs := [.int .i64 (imax n4 0)]) Try.results75 ⟨rfl, trivial⟩ ⟨rfl, rfl⟩

set_option maxRecDepth 100000 in
set_option maxHeartbeats 1000000 in
theorem ok_i_BestBreaks {N : Nat} {words1 : List Str} {width4 : Int} {r : (List Int) × Int × Int} (hm : i_BestBreaks N words1 width4 = some r) (w : World) (v2 : Value) (hr3 : RdS w (cx w).Fz v2 fStr.rp words1) :
    Calls Try.prog 14 #[v2, .int .i64 width4] w (RetG (cx w) fun u L => ∃ (u1 : Value), (u = tup [u1, .int .i64 r.2.1, .int .i64 r.2.2] ∧ L = [row u1 2 fI64 r.1])) := by
  unfold i_BestBreaks at hm
  refine Calls.enter [v2, .int .i64 width4] Try.func14 rfl Try.ntmps14 rfl ?_
  refine WJ.seq ?_
  refine WJ.quiet ?_
  refine QJ.step (YldS.yld (y_assign rfl)) rfl ?_
  refine QJ.step (YldS.yld (y_assign rfl)) rfl ?_
  refine QJ.step (YldS.yld (y_assign rfl)) rfl ?_
  refine QJ.done ?_
  refine PJ.next ?_
  refine WJ.seq ?_
  refine WJ.seq ?_
  refine WJ.quiet ?_
  refine QJ.step (YldS.yld (y_move rfl)) rfl ?_
  refine QJ.step (YldS.yld (y_move rfl)) rfl ?_
  obtain ⟨r5, h6, hm⟩ := bindS hm
  refine QJ.step (y_call Try.call74 rfl (RetG.quiet fun w hw => ok_i_ValidText h6 w _ (hr3.st hw))) rfl ?_
  refine QJ.step (YldS.yld (y_not rfl)) rfl ?_
  refine QJ.done ?_
  refine PJ.next ?_
  refine WJ.cond (t := !r5) rfl (fun hb7 => ?_) (fun hb7 => ?_)
  · replace hm := ifT hm hb7
    refine WJ.seq ?_
    refine WJ.quiet ?_
    refine QJ.step (YldS.yld (y_assign rfl)) rfl ?_
    refine QJ.step (YldS.yld (y_assign rfl)) rfl ?_
    refine QJ.step (YldS.yld (y_assign rfl)) rfl ?_
    refine QJ.done ?_
    refine PJ.next ?_
    refine WJ.ret ?_
    refine PJ.then_ret ?_
    refine PJ.nil_row 2 fI64 ?_
    obtain rfl := Option.some.inj hm
    refine PJ.sel (L' := [row (.slice none 0 0) 2 fI64 []]) [0] ⟨by decide, rfl⟩ ?_
    exact PJ.retn (vs := [(.slice none 0 0), .int .i64 0, .int .i64 1]) Try.results14 ⟨rfl, rfl, rfl, trivial⟩ ⟨_, rfl, rfl⟩
  · replace hm := ifF hm hb7
    refine WJ.skip ?_
    refine PJ.next ?_
    refine WJ.seq ?_
    refine WJ.quiet ?_
    refine QJ.step (YldS.yld (y_move rfl)) rfl ?_
    refine QJ.step (YldS.yld (y_lenS Try.runUnderlying24 hr3 rfl)) rfl ?_
    refine QJ.step (YldS.yld (y_assign rfl)) rfl ?_
    refine QJ.done ?_
    refine PJ.next ?_
    refine WJ.seq ?_
    refine WJ.reg ?_
    refine SJ.q (YldS.yld (y_move rfl)) rfl ?_
    refine SJ.q (YldS.yld (y_bin rfl rfl rfl)) rfl ?_
    obtain ⟨l8, h9, hm⟩ := bindS hm
    refine SJ.makeSlice (R := fI64) (z := 0) h9 Try.underlying27 el2 rfl rfl rfl fun v10 => ?_
    refine SJ.q (YldS.yld (y_assign rfl)) rfl ?_
    refine SJ.nil ?_
    refine PJ.next ?_
    refine WJ.seq ?_
    refine WJ.reg ?_
    refine SJ.q (YldS.yld (y_move rfl)) rfl ?_
    refine SJ.q (YldS.yld (y_bin rfl rfl rfl)) rfl ?_
    obtain ⟨l11, h12, hm⟩ := bindS hm
    refine SJ.makeSlice (R := fI64) (z := 0) h12 Try.underlying90 el3 rfl rfl rfl fun v13 => ?_
    refine SJ.q (YldS.yld (y_assign rfl)) rfl ?_
    refine SJ.nil ?_
    refine PJ.next ?_
    obtain ⟨kj16, hk17, hm⟩ := withK_open hm
    refine WJ.join (X := (List Int) × (List Int)) (fun (x : (List Int) × (List Int)) => kj16 x.1 x.2 = some r) (fun (x : (List Int) × (List Int)) => [(7, .int .i64 (List.length words1 : Int)), (8, v10), (9, v13)]) (fun (x : (List Int) × (List Int)) => [row v13 3 fI64 x.1, row v10 2 fI64 x.2]) ?_ ?_
    · clear hk17
      refine WJ.seq ?_
      refine WJ.quiet ?_
      refine QJ.step (YldS.yld (y_move rfl)) rfl ?_
      refine QJ.step (YldS.yld (y_bin rfl rfl rfl)) rfl ?_
      refine QJ.step (YldS.yld (y_assign rfl)) rfl ?_
      refine QJ.done ?_
      refine PJ.next ?_
      refine WJ.block ?_
      refine WJ.sel (L' := (fun (x : (List Int) × (List Int) × Int) => [row v13 3 fI64 x.1, row v10 2 fI64 x.2.1]) (l11, l8, w64 ((List.length words1 : Int) - 1))) [0, 1] ⟨by decide, rfl⟩ ?_
      refine WJ.sub (m' := (fun (x : (List Int) × (List Int) × Int) => [(0, v2), (1, .int .i64 width4), (7, .int .i64 (List.length words1 : Int)), (8, v10), (9, v13), (10, .int .i64 x.2.2)]) (l11, l8, w64 ((List.length words1 : Int) - 1))) ⟨rfl, rfl, rfl, rfl, rfl, rfl, trivial⟩ ?_
      refine WJ.loop (X := (List Int) × (List Int) × Int) (fun N (x : (List Int) × (List Int) × Int) => i_BestBreaks_l1 kj16 words1 width4 N x.1 x.2.1 x.2.2 = some r) (fun (x : (List Int) × (List Int) × Int) => [(0, v2), (1, .int .i64 width4), (7, .int .i64 (List.length words1 : Int)), (8, v10), (9, v13), (10, .int .i64 x.2.2)]) (fun (x : (List Int) × (List Int) × Int) => [row v13 3 fI64 x.1, row v10 2 fI64 x.2.1]) ?_ N (l11, l8, w64 ((List.length words1 : Int) - 1)) hm
      · rintro N ⟨l18, l19, i20⟩ hI
        have hm := hI; clear hI
        cases N with
        | zero => cases hm
        | succ N =>
        unfold i_BestBreaks_l1 at hm
        refine WJ.seq ?_
        refine WJ.seq ?_
        refine WJ.quiet ?_
        refine QJ.step (YldS.yld (y_move rfl)) rfl ?_
        refine QJ.step (YldS.yld (y_bin rfl rfl rfl)) rfl ?_
        refine QJ.done ?_
        refine PJ.next ?_
        refine WJ.cond (t := decide (i20 ≥ 0)) rfl (fun hb21 => ?_) (fun hb21 => ?_)
        · replace hm := ifT hm hb21
          refine WJ.skip ?_
          refine PJ.next ?_
          obtain ⟨kj24, hk25, hm⟩ := withK_open hm
          refine WJ.join (X := (List Int) × (List Int)) (fun (x : (List Int) × (List Int)) => kj24 x.1 x.2 = some r) (fun (x : (List Int) × (List Int)) => [(0, v2), (1, .int .i64 width4), (7, .int .i64 (List.length words1 : Int)), (8, v10), (9, v13), (10, .int .i64 i20)]) (fun (x : (List Int) × (List Int)) => [row v13 3 fI64 x.1, row v10 2 fI64 x.2]) ?_ ?_
          · clear hk25
            refine WJ.block ?_
            refine WJ.seq ?_
            refine WJ.reg ?_
            refine SJ.q (YldS.yld (y_move rfl)) rfl ?_
            refine SJ.q (YldS.yld (y_move rfl)) rfl ?_
            refine SJ.q (YldS.yld (y_move rfl)) rfl ?_
            obtain ⟨e26, h27, hm⟩ := bindS hm
            refine SJ.q (YldS.yld (y_ixRow (k := 0) (R := fI64) rfl Try.runUnderlying90 Try.sizeOf3 rfl rfl h27)) rfl ?_
            refine SJ.storeRL (k := 0) (i := (Int.toNat i20)) (off := 0) (us := [.int .i64 (List.length words1 : Int)]) (b := (List.length words1 : Int)) rfl rfl (idx_get h27) rfl rfl Try.sizeOf3 rfl rfl rfl ?_
            refine SJ.nil ?_
            refine PJ.next ?_
            refine WJ.seq ?_
            refine WJ.seq ?_
            refine WJ.quiet ?_
            refine QJ.step (YldS.yld (y_move rfl)) rfl ?_
            refine QJ.step (YldS.yld (y_move rfl)) rfl ?_
            obtain ⟨l28, h29, hm⟩ := bindS hm
            obtain ⟨v30, hr31, hy32⟩ := RdS.part (i := some i20) (j := none) hr3 h29
            refine QJ.step (YldS.yld (hy32 Try.runUnderlying24 Try.sizeOf9 rfl ⟨_, rfl⟩ trivial)) rfl ?_
            obtain ⟨r33, h34, hm⟩ := bindS hm
            refine QJ.step (y_call Try.call75 rfl (RetG.quiet fun w hw => ok_i_lineLength h34 w _ (hr31.st hw))) rfl ?_
            refine QJ.step (YldS.yld (y_move rfl)) rfl ?_
            refine QJ.step (YldS.yld (y_bin rfl rfl rfl)) rfl ?_
            refine QJ.done ?_
            refine PJ.next ?_
            refine WJ.cond (t := decide (r33 ≤ width4)) rfl (fun hb35 => ?_) (fun hb35 => ?_)
            · replace hm := ifT hm hb35
              refine WJ.exit ?_
              refine PJ.then_exit (PJ.block_exit ?_)
              exact PJ.joined ((List.set l18 (Int.toNat i20) (List.length words1 : Int)), l19) [0, 1] hm ⟨rfl, rfl, rfl, rfl, rfl, rfl, trivial⟩ ⟨by decide, rfl⟩
            · replace hm := ifF hm hb35
              refine WJ.skip ?_
              refine PJ.next ?_
              refine WJ.seq ?_
              refine WJ.reg ?_
              refine SJ.q (YldS.yld (y_move rfl)) rfl ?_
              refine SJ.q (YldS.yld (y_move rfl)) rfl ?_
              obtain ⟨e36, h37, hm⟩ := bindS hm
              refine SJ.q (YldS.yld (y_ixRow (k := 1) (R := fI64) rfl Try.runUnderlying27 Try.sizeOf2 rfl rfl h37)) rfl ?_
              refine SJ.storeRL (k := 1) (i := (Int.toNat i20)) (off := 0) (us := [.int .i64 (-1)]) (b := (-1)) rfl rfl (idx_get h37) rfl rfl Try.sizeOf2 rfl rfl rfl ?_
              refine SJ.nil ?_
              refine PJ.next ?_
              refine WJ.seq ?_
              refine WJ.quiet ?_
              refine QJ.step (YldS.yld (y_move rfl)) rfl ?_
              refine QJ.step (YldS.yld (y_bin rfl rfl rfl)) rfl ?_
              refine QJ.step (YldS.yld (y_assign rfl)) rfl ?_
              refine QJ.done ?_
              refine PJ.next ?_
              refine WJ.block ?_
              refine WJ.sel (L' := (fun (x : (List Int) × (List Int) × Int) => [row v13 3 fI64 x.1, row v10 2 fI64 x.2.1]) ((List.set l18 (Int.toNat i20) (List.length words1 : Int)), (List.set l19 (Int.toNat i20) (-1)), w64 (i20 + 1))) [0, 1] ⟨by decide, rfl⟩ ?_
              refine WJ.sub (m' := (fun (x : (List Int) × (List Int) × Int) => [(0, v2), (1, .int .i64 width4), (7, .int .i64 (List.length words1 : Int)), (8, v10), (9, v13), (10, .int .i64 i20), (11, .int .i64 x.2.2)]) ((List.set l18 (Int.toNat i20) (List.length words1 : Int)), (List.set l19 (Int.toNat i20) (-1)), w64 (i20 + 1))) ⟨rfl, rfl, rfl, rfl, rfl, rfl, rfl, trivial⟩ ?_
              refine WJ.loop (X := (List Int) × (List Int) × Int) (fun N (x : (List Int) × (List Int) × Int) => i_BestBreaks_l2 kj24 words1 width4 i20 N x.1 x.2.1 x.2.2 = some r) (fun (x : (List Int) × (List Int) × Int) => [(0, v2), (1, .int .i64 width4), (7, .int .i64 (List.length words1 : Int)), (8, v10), (9, v13), (10, .int .i64 i20), (11, .int .i64 x.2.2)]) (fun (x : (List Int) × (List Int) × Int) => [row v13 3 fI64 x.1, row v10 2 fI64 x.2.1]) ?_ N ((List.set l18 (Int.toNat i20) (List.length words1 : Int)), (List.set l19 (Int.toNat i20) (-1)), w64 (i20 + 1)) hm
              · rintro N ⟨l38, l39, k40⟩ hI
                have hm := hI; clear hI
                cases N with
                | zero => cases hm
                | succ N =>
                unfold i_BestBreaks_l2 at hm
                refine WJ.seq ?_
                refine WJ.seq ?_
                refine WJ.quiet ?_
                refine QJ.step (YldS.yld (y_move rfl)) rfl ?_
                refine QJ.step (YldS.yld (y_move rfl)) rfl ?_
                refine QJ.step (YldS.yld (y_bin rfl rfl rfl)) rfl ?_
                refine QJ.step (YldS.yld (y_move rfl)) rfl ?_
                obtain ⟨t41, h42, hm⟩ := bindS hm
                refine QJ.cut 8 [(0, v2), (1, .int .i64 width4), (7, .int .i64 (List.length words1 : Int)), (8, v10), (9, v13), (10, .int .i64 i20), (11, .int .i64 k40), (60, .bool t41)] ?_ ?_
                · rcases Bool.eq_false_or_eq_true (decide (k40 < (List.length words1 : Int))) with hb43 | hb43
                  · replace h42 := andT h42 hb43
                    refine QJ.on rfl rfl (cB hb43) (YldS.yld (y_move rfl)) rfl ?_
                    refine QJ.on rfl rfl (cB hb43) (YldS.yld (y_move rfl)) rfl ?_
                    refine QJ.on rfl rfl (cB hb43) (YldS.yld (y_move rfl)) rfl ?_
                    obtain ⟨l44, h45, h42⟩ := bindS h42
                    obtain ⟨v46, hr47, hy48⟩ := RdS.part (i := some i20) (j := some k40) hr3 h45
                    refine QJ.on rfl rfl (cB hb43) (YldS.yld (hy48 Try.runUnderlying24 Try.sizeOf9 rfl ⟨_, rfl⟩ ⟨_, rfl⟩)) rfl ?_
                    obtain ⟨r49, h50, h42⟩ := bindS h42
                    refine QJ.on rfl rfl (cB hb43) (y_call Try.call75 rfl (RetG.quiet fun w hw => ok_i_lineLength h50 w _ (hr47.st hw))) rfl ?_
                    refine QJ.on rfl rfl (cB hb43) (YldS.yld (y_move rfl)) rfl ?_
                    refine QJ.on rfl rfl (cB hb43) (YldS.yld (y_bin rfl rfl rfl)) rfl ?_
                    refine QJ.step (YldS.yld (y_pick_t (cB hb43) rfl)) rfl ?_
                    obtain rfl := Option.some.inj h42
                    exact QJ.cut_end ⟨rfl, rfl, rfl, rfl, rfl, rfl, rfl, rfl, trivial⟩
                  · obtain rfl := andF h42 hb43
                    refine QJ.off rfl rfl (cB hb43) rfl rfl ?_
                    refine QJ.off rfl rfl (cB hb43) rfl rfl ?_
                    refine QJ.off rfl rfl (cB hb43) rfl rfl ?_
                    refine QJ.off rfl rfl (cB hb43) rfl rfl ?_
                    refine QJ.off rfl rfl (cB hb43) rfl rfl ?_
                    refine QJ.off rfl rfl (cB hb43) rfl rfl ?_
                    refine QJ.off rfl rfl (cB hb43) rfl rfl ?_
                    refine QJ.step (YldS.yld (y_pick_f (cB hb43) rfl)) rfl ?_
                    exact QJ.cut_end ⟨rfl, rfl, rfl, rfl, rfl, rfl, rfl, rfl, trivial⟩
                refine QJ.done ?_
                refine PJ.next ?_
                refine WJ.cond (t := t41) rfl (fun hb51 => ?_) (fun hb51 => ?_)
                · replace hm := ifT hm hb51
                  refine WJ.skip ?_
                  refine PJ.next ?_
                  obtain ⟨kj54, hk55, hm⟩ := withK_open hm
                  refine WJ.join (X := (List Int) × (List Int)) (fun (x : (List Int) × (List Int)) => kj54 x.1 x.2 = some r) (fun (x : (List Int) × (List Int)) => [(0, v2), (1, .int .i64 width4), (7, .int .i64 (List.length words1 : Int)), (8, v10), (9, v13), (10, .int .i64 i20), (11, .int .i64 k40)]) (fun (x : (List Int) × (List Int)) => [row v13 3 fI64 x.1, row v10 2 fI64 x.2]) ?_ ?_
                  · clear hk55
                    refine WJ.block ?_
                    refine WJ.seq ?_
                    refine WJ.quiet ?_
                    refine QJ.step (YldS.yld (y_move rfl)) rfl ?_
                    refine QJ.step (YldS.yld (y_move rfl)) rfl ?_
                    refine QJ.step (YldS.yld (y_move rfl)) rfl ?_
                    refine QJ.step (YldS.yld (y_move rfl)) rfl ?_
                    obtain ⟨l56, h57, hm⟩ := bindS hm
                    obtain ⟨v58, hr59, hy60⟩ := RdS.part (i := some i20) (j := some k40) hr3 h57
                    refine QJ.step (YldS.yld (hy60 Try.runUnderlying24 Try.sizeOf9 rfl ⟨_, rfl⟩ ⟨_, rfl⟩)) rfl ?_
                    obtain ⟨r61, h62, hm⟩ := bindS hm
                    refine QJ.step (y_call Try.call75 rfl (RetG.quiet fun w hw => ok_i_lineLength h62 w _ (hr59.st hw))) rfl ?_
                    refine QJ.step (YldS.yld (y_bin rfl rfl rfl)) rfl ?_
                    refine QJ.step (YldS.yld (y_assign rfl)) rfl ?_
                    refine QJ.done ?_
                    refine PJ.next ?_
                    refine WJ.seq ?_
                    refine WJ.quiet ?_
                    refine QJ.step (YldS.yld (y_move rfl)) rfl ?_
                    refine QJ.step (YldS.yld (y_move rfl)) rfl ?_
                    refine QJ.step (YldS.yld (y_bin rfl rfl rfl)) rfl ?_
                    refine QJ.step (YldS.yld (y_move rfl)) rfl ?_
                    refine QJ.step (YldS.yld (y_move rfl)) rfl ?_
                    obtain ⟨e63, h64, hm⟩ := bindS hm
                    refine QJ.step (YldS.yld (y_ixRow (k := 1) (R := fI64) rfl Try.runUnderlying27 Try.sizeOf2 rfl rfl h64)) rfl ?_
                    refine QJ.step (YldS.yld (y_loadR (k := 1) (i := (Int.toNat k40)) (off := 0) (u := .int .i64 e63) rfl Try.isAgg2 rfl (idx_get h64) rfl)) rfl ?_
                    refine QJ.step (YldS.yld (y_bin rfl rfl rfl)) rfl ?_
                    refine QJ.step (YldS.yld (y_assign rfl)) rfl ?_
                    refine QJ.done ?_
                    refine PJ.next ?_
                    refine WJ.seq ?_
                    refine WJ.quiet ?_
                    refine QJ.step (YldS.yld (y_move rfl)) rfl ?_
                    refine QJ.step (YldS.yld (y_move rfl)) rfl ?_
                    obtain ⟨e65, h66, hm⟩ := bindS hm
                    refine QJ.step (YldS.yld (y_ixRow (k := 1) (R := fI64) rfl Try.runUnderlying27 Try.sizeOf2 rfl rfl h66)) rfl ?_
                    refine QJ.step (YldS.yld (y_loadR (k := 1) (i := (Int.toNat i20)) (off := 0) (u := .int .i64 e65) rfl Try.isAgg2 rfl (idx_get h66) rfl)) rfl ?_
                    refine QJ.step (YldS.yld (y_bin rfl rfl rfl)) rfl ?_
                    refine QJ.step (YldS.yld (y_move rfl)) rfl ?_
                    obtain ⟨t67, h68, hm⟩ := bindS hm
                    refine QJ.cut 7 [(0, v2), (1, .int .i64 width4), (7, .int .i64 (List.length words1 : Int)), (8, v10), (9, v13), (10, .int .i64 i20), (11, .int .i64 k40), (13, .int .i64 (w64 ((w64 ((w64 (width4 - r61)) * (w64 (width4 - r61)))) + e63))), (90, .bool t67)] ?_ ?_
                    · rcases Bool.eq_false_or_eq_true (decide (e65 < 0)) with hb69 | hb69
                      · obtain rfl := orT h68 hb69
                        refine QJ.off rfl rfl (cB hb69) rfl rfl ?_
                        refine QJ.off rfl rfl (cB hb69) rfl rfl ?_
                        refine QJ.off rfl rfl (cB hb69) rfl rfl ?_
                        refine QJ.off rfl rfl (cB hb69) rfl rfl ?_
                        refine QJ.off rfl rfl (cB hb69) rfl rfl ?_
                        refine QJ.off rfl rfl (cB hb69) rfl rfl ?_
                        refine QJ.step (YldS.yld (y_pick_t (cB hb69) rfl)) rfl ?_
                        exact QJ.cut_end ⟨rfl, rfl, rfl, rfl, rfl, rfl, rfl, rfl, rfl, trivial⟩
                      · replace h68 := orF h68 hb69
                        refine QJ.on rfl rfl (cB hb69) (YldS.yld (y_move rfl)) rfl ?_
                        refine QJ.on rfl rfl (cB hb69) (YldS.yld (y_move rfl)) rfl ?_
                        refine QJ.on rfl rfl (cB hb69) (YldS.yld (y_move rfl)) rfl ?_
                        obtain ⟨e70, h71, h68⟩ := bindS h68
                        refine QJ.on rfl rfl (cB hb69) (YldS.yld (y_ixRow (k := 1) (R := fI64) rfl Try.runUnderlying27 Try.sizeOf2 rfl rfl h71)) rfl ?_
                        refine QJ.on rfl rfl (cB hb69) (YldS.yld (y_loadR (k := 1) (i := (Int.toNat i20)) (off := 0) (u := .int .i64 e70) rfl Try.isAgg2 rfl (idx_get h71) rfl)) rfl ?_
                        refine QJ.on rfl rfl (cB hb69) (YldS.yld (y_bin rfl rfl rfl)) rfl ?_
                        refine QJ.step (YldS.yld (y_pick_f (cB hb69) rfl)) rfl ?_
                        obtain rfl := Option.some.inj h68
                        exact QJ.cut_end ⟨rfl, rfl, rfl, rfl, rfl, rfl, rfl, rfl, rfl, trivial⟩
                    refine QJ.done ?_
                    refine PJ.next ?_
                    refine WJ.cond (t := t67) rfl (fun hb72 => ?_) (fun hb72 => ?_)
                    · replace hm := ifT hm hb72
                      refine WJ.reg ?_
                      refine SJ.q (YldS.yld (y_move rfl)) rfl ?_
                      refine SJ.q (YldS.yld (y_move rfl)) rfl ?_
                      refine SJ.q (YldS.yld (y_move rfl)) rfl ?_
                      refine SJ.q (YldS.yld (y_move rfl)) rfl ?_
                      refine SJ.q (YldS.yld (y_move rfl)) rfl ?_
                      refine SJ.q (YldS.yld (y_move rfl)) rfl ?_
                      obtain ⟨e73, h74, hm⟩ := bindS hm
                      refine SJ.q (YldS.yld (y_ixRow (k := 1) (R := fI64) rfl Try.runUnderlying27 Try.sizeOf2 rfl rfl h74)) rfl ?_
                      refine SJ.storeRL (k := 1) (i := (Int.toNat i20)) (off := 0) (us := [.int .i64 (w64 ((w64 ((w64 (width4 - r61)) * (w64 (width4 - r61)))) + e63))]) (b := w64 ((w64 ((w64 (width4 - r61)) * (w64 (width4 - r61)))) + e63)) rfl rfl (idx_get h74) rfl rfl Try.sizeOf2 rfl rfl rfl ?_
                      obtain ⟨e75, h76, hm⟩ := bindS hm
                      refine SJ.q (YldS.yld (y_ixRow (k := 0) (R := fI64) rfl Try.runUnderlying90 Try.sizeOf3 rfl rfl h76)) rfl ?_
                      refine SJ.storeRL (k := 0) (i := (Int.toNat i20)) (off := 0) (us := [.int .i64 k40]) (b := k40) rfl rfl (idx_get h76) rfl rfl Try.sizeOf3 rfl rfl rfl ?_
                      refine SJ.nil ?_
                      refine PJ.block_normal ?_
                      exact PJ.joined ((List.set l38 (Int.toNat i20) k40), (List.set l39 (Int.toNat i20) (w64 ((w64 ((w64 (width4 - r61)) * (w64 (width4 - r61)))) + e63)))) [0, 1] hm ⟨rfl, rfl, rfl, rfl, rfl, rfl, rfl, trivial⟩ ⟨by decide, rfl⟩
                    · replace hm := ifF hm hb72
                      refine WJ.skip ?_
                      refine PJ.block_normal ?_
                      exact PJ.joined (l38, l39) [0, 1] hm ⟨rfl, rfl, rfl, rfl, rfl, rfl, rfl, trivial⟩ ⟨by decide, rfl⟩
                  · rintro ⟨l52, l53⟩ hm
                    subst hk55
                    refine WJ.quiet ?_
                    refine QJ.step (YldS.yld (y_move rfl)) rfl ?_
                    refine QJ.step (YldS.yld (y_bin rfl rfl rfl)) rfl ?_
                    refine QJ.step (YldS.yld (y_assign rfl)) rfl ?_
                    refine QJ.done ?_
                    exact PJ.round (l52, l53, w64 (k40 + 1)) [0, 1] hm ⟨rfl, rfl, rfl, rfl, rfl, rfl, rfl, trivial⟩ ⟨by decide, rfl⟩
                · replace hm := ifF hm hb51
                  refine WJ.exit ?_
                  refine PJ.then_exit (PJ.then_exit (PJ.block_exit (PJ.block_normal ?_)))
                  exact PJ.joined (l38, l39) [0, 1] hm ⟨rfl, rfl, rfl, rfl, rfl, rfl, trivial⟩ ⟨by decide, rfl⟩
          · rintro ⟨l22, l23⟩ hm
            subst hk25
            refine WJ.quiet ?_
            refine QJ.step (YldS.yld (y_move rfl)) rfl ?_
            refine QJ.step (YldS.yld (y_bin rfl rfl rfl)) rfl ?_
            refine QJ.step (YldS.yld (y_assign rfl)) rfl ?_
            refine QJ.done ?_
            exact PJ.round (l22, l23, w64 (i20 - 1)) [0, 1] hm ⟨rfl, rfl, rfl, rfl, rfl, rfl, trivial⟩ ⟨by decide, rfl⟩
        · replace hm := ifF hm hb21
          refine WJ.exit ?_
          refine PJ.then_exit (PJ.then_exit (PJ.block_exit ?_))
          exact PJ.joined (l18, l19) [0, 1] hm ⟨rfl, rfl, rfl, trivial⟩ ⟨by decide, rfl⟩
    · rintro ⟨l14, l15⟩ hm
      subst hk17
      refine WJ.seq ?_
      refine WJ.reg ?_
      refine SJ.buildSlice (R := fI64) (os := []) [] Try.runUnderlying27 Try.sizeOf2 Try.zeroValue2 rfl rfl rfl rfl rfl rfl fun v77 => ?_
      refine SJ.q (YldS.yld (y_assign rfl)) rfl ?_
      refine SJ.nil ?_
      refine PJ.next ?_
      obtain ⟨kj80, hk81, hm⟩ := withK_open hm
      refine WJ.join (X := (List Int) × Value) (fun (x : (List Int) × Value) => kj80 x.1 = some r) (fun (x : (List Int) × Value) => [(8, v10), (14, x.2)]) (fun (x : (List Int) × Value) => [row x.2 2 fI64 x.1, row v10 2 fI64 l15]) ?_ ?_
      · clear hk81
        refine WJ.seq ?_
        refine WJ.quiet ?_
        refine QJ.step (YldS.yld (y_assign rfl)) rfl ?_
        refine QJ.done ?_
        refine PJ.next ?_
        refine WJ.block ?_
        refine WJ.sel (L' := (fun (x : (List Int) × Value × Int) => [row x.2.1 2 fI64 x.1, row v13 3 fI64 l14, row v10 2 fI64 l15]) ([], v77, 0)) [0, 1, 2] ⟨by decide, rfl⟩ ?_
        refine WJ.sub (m' := (fun (x : (List Int) × Value × Int) => [(7, .int .i64 (List.length words1 : Int)), (8, v10), (9, v13), (14, x.2.1), (15, .int .i64 x.2.2)]) ([], v77, 0)) ⟨rfl, rfl, rfl, rfl, rfl, trivial⟩ ?_
        refine WJ.loop (X := (List Int) × Value × Int) (fun N (x : (List Int) × Value × Int) => i_BestBreaks_l3 kj80 words1 l14 N x.1 x.2.2 = some r) (fun (x : (List Int) × Value × Int) => [(7, .int .i64 (List.length words1 : Int)), (8, v10), (9, v13), (14, x.2.1), (15, .int .i64 x.2.2)]) (fun (x : (List Int) × Value × Int) => [row x.2.1 2 fI64 x.1, row v13 3 fI64 l14, row v10 2 fI64 l15]) ?_ N ([], v77, 0) hm
        · rintro N ⟨l82, v83, i84⟩ hI
          have hm := hI; clear hI
          cases N with
          | zero => cases hm
          | succ N =>
          unfold i_BestBreaks_l3 at hm
          refine WJ.seq ?_
          refine WJ.seq ?_
          refine WJ.quiet ?_
          refine QJ.step (YldS.yld (y_move rfl)) rfl ?_
          refine QJ.step (YldS.yld (y_move rfl)) rfl ?_
          refine QJ.step (YldS.yld (y_bin rfl rfl rfl)) rfl ?_
          refine QJ.step (YldS.yld (y_move rfl)) rfl ?_
          obtain ⟨t85, h86, hm⟩ := bindS hm
          refine QJ.cut 7 [(7, .int .i64 (List.length words1 : Int)), (8, v10), (9, v13), (14, v83), (15, .int .i64 i84), (110, .bool t85)] ?_ ?_
          · rcases Bool.eq_false_or_eq_true (decide (i84 < (List.length words1 : Int))) with hb87 | hb87
            · replace h86 := andT h86 hb87
              refine QJ.on rfl rfl (cB hb87) (YldS.yld (y_move rfl)) rfl ?_
              refine QJ.on rfl rfl (cB hb87) (YldS.yld (y_move rfl)) rfl ?_
              obtain ⟨e88, h89, h86⟩ := bindS h86
              refine QJ.on rfl rfl (cB hb87) (YldS.yld (y_ixRow (k := 1) (R := fI64) rfl Try.runUnderlying90 Try.sizeOf3 rfl rfl h89)) rfl ?_
              refine QJ.on rfl rfl (cB hb87) (YldS.yld (y_loadR (k := 1) (i := (Int.toNat i84)) (off := 0) (u := .int .i64 e88) rfl Try.isAgg3 rfl (idx_get h89) rfl)) rfl ?_
              refine QJ.on rfl rfl (cB hb87) (YldS.yld (y_move rfl)) rfl ?_
              refine QJ.on rfl rfl (cB hb87) (YldS.yld (y_bin rfl rfl rfl)) rfl ?_
              refine QJ.step (YldS.yld (y_pick_t (cB hb87) rfl)) rfl ?_
              obtain rfl := Option.some.inj h86
              exact QJ.cut_end ⟨rfl, rfl, rfl, rfl, rfl, rfl, trivial⟩
            · obtain rfl := andF h86 hb87
              refine QJ.off rfl rfl (cB hb87) rfl rfl ?_
              refine QJ.off rfl rfl (cB hb87) rfl rfl ?_
              refine QJ.off rfl rfl (cB hb87) rfl rfl ?_
              refine QJ.off rfl rfl (cB hb87) rfl rfl ?_
              refine QJ.off rfl rfl (cB hb87) rfl rfl ?_
              refine QJ.off rfl rfl (cB hb87) rfl rfl ?_
              refine QJ.step (YldS.yld (y_pick_f (cB hb87) rfl)) rfl ?_
              exact QJ.cut_end ⟨rfl, rfl, rfl, rfl, rfl, rfl, trivial⟩
          refine QJ.done ?_
          refine PJ.next ?_
          refine WJ.cond (t := t85) rfl (fun hb90 => ?_) (fun hb90 => ?_)
          · replace hm := ifT hm hb90
            refine WJ.skip ?_
            refine PJ.next ?_
            refine WJ.seq ?_
            refine WJ.block ?_
            refine WJ.reg ?_
            refine SJ.q (YldS.yld (y_move rfl)) rfl ?_
            refine SJ.q (YldS.yld (y_move rfl)) rfl ?_
            refine SJ.q (YldS.yld (y_move rfl)) rfl ?_
            obtain ⟨e91, h92, hm⟩ := bindS hm
            refine SJ.q (YldS.yld (y_ixRow (k := 1) (R := fI64) rfl Try.runUnderlying90 Try.sizeOf3 rfl rfl h92)) rfl ?_
            refine SJ.q (YldS.yld (y_loadR (k := 1) (i := (Int.toNat i84)) (off := 0) (u := .int .i64 e91) rfl Try.isAgg3 rfl (idx_get h92) rfl)) rfl ?_
            refine SJ.buildSlice (R := fI64) (os := [.tmp 119]) [e91] Try.runUnderlying27 Try.sizeOf2 Try.zeroValue2 rfl rfl rfl rfl rfl rfl fun v93 => ?_
            obtain ⟨l94, h95, hm⟩ := bindS hm
            refine SJ.append (k := 1) (R := fI64) h95 rfl Try.underlying27 el2 rfl rfl rfl (fun w hw => (hw.row_rd (k := 0) rfl)) rfl fun v96 => ?_
            refine SJ.q (YldS.yld (y_assign rfl)) rfl ?_
            refine SJ.nil ?_
            refine PJ.block_normal (PJ.next ?_)
            refine WJ.quiet ?_
            refine QJ.step (YldS.yld (y_move rfl)) rfl ?_
            refine QJ.step (YldS.yld (y_move rfl)) rfl ?_
            obtain ⟨e97, h98, hm⟩ := bindS hm
            refine QJ.step (YldS.yld (y_ixRow (k := 2) (R := fI64) rfl Try.runUnderlying90 Try.sizeOf3 rfl rfl h98)) rfl ?_
            refine QJ.step (YldS.yld (y_loadR (k := 2) (i := (Int.toNat i84)) (off := 0) (u := .int .i64 e97) rfl Try.isAgg3 rfl (idx_get h98) rfl)) rfl ?_
            refine QJ.step (YldS.yld (y_assign rfl)) rfl ?_
            refine QJ.done ?_
            exact PJ.round (l94, v96, e97) [1, 2, 3] hm ⟨rfl, rfl, rfl, rfl, rfl, trivial⟩ ⟨by decide, rfl⟩
          · replace hm := ifF hm hb90
            refine WJ.exit ?_
            refine PJ.then_exit (PJ.then_exit (PJ.block_exit ?_))
            exact PJ.joined (l82, v83) [0, 2] hm ⟨rfl, rfl, trivial⟩ ⟨by decide, rfl⟩
      · rintro ⟨l78, v79⟩ hm
        subst hk81
        refine WJ.seq ?_
        refine WJ.quiet_draw follows (by kernel_rfl) ?_
        refine QJ.step (YldS.yld (y_move rfl)) rfl ?_
        refine QJ.step (YldS.yld (y_move rfl)) rfl ?_
        obtain ⟨e99, h100, hm⟩ := bindS hm
        refine QJ.step (YldS.yld (y_ixRow (k := 1) (R := fI64) rfl Try.runUnderlying27 Try.sizeOf2 rfl rfl h100)) rfl ?_
        refine QJ.step (YldS.yld (y_loadR (k := 1) (i := (Int.toNat 0)) (off := 0) (u := .int .i64 e99) rfl Try.isAgg2 rfl (idx_get h100) rfl)) rfl ?_
        refine QJ.step (YldS.yld (y_assign rfl)) rfl ?_
        refine QJ.step (YldS.yld (y_assign rfl)) rfl ?_
        refine QJ.step (YldS.yld (y_assign rfl)) rfl ?_
        refine QJ.done ?_
        refine PJ.next ?_
        refine WJ.ret ?_
        obtain rfl := Option.some.inj hm
        refine PJ.sel (L' := [row v79 2 fI64 l78]) [0] ⟨by decide, rfl⟩ ?_
        exact PJ.retn (vs := [v79, .int .i64 e99, .int .i64 0]) Try.results14 ⟨rfl, rfl, rfl, trivial⟩ ⟨_, rfl, rfl⟩

set_option maxRecDepth 100000 in
set_option maxHeartbeats 1000000 in
theorem ok_i_areBreaks {N : Nat} {breaks1 : List Int} {words4 : Int} {r : Bool} (hm : i_areBreaks N breaks1 words4 = some r) (w : World) (v2 : Value) (hr3 : RdS w (cx w).Fz v2 fI64.rp breaks1) :
    Calls Try.prog 118 #[v2, .int .i64 words4] w (Ret (cx w) (.bool r)) := by
  unfold i_areBreaks at hm
  refine Calls.enter [v2, .int .i64 words4] Try.func118 rfl Try.ntmps118 rfl ?_
  refine WJ.seq ?_
  refine WJ.quiet ?_
  refine QJ.step (YldS.yld (y_assign rfl)) rfl ?_
  refine QJ.done ?_
  refine PJ.next ?_
  obtain ⟨kj5, hk6, hm⟩ := withK_open hm
  refine WJ.join (X := Unit) (fun (_ : Unit) => kj5  = some r) (fun (_ : Unit) => []) (fun (_ : Unit) => []) ?_ ?_
  · clear hk6
    refine WJ.seq ?_
    refine WJ.quiet ?_
    refine QJ.step (YldS.yld (y_move rfl)) rfl ?_
    refine QJ.step (YldS.yld (y_lenS Try.runUnderlying27 hr3 rfl)) rfl ?_
    refine QJ.step (YldS.yld (y_move rfl)) rfl ?_
    refine QJ.done ?_
    refine PJ.next ?_
    refine WJ.block ?_
    refine WJ.sel (L' := (fun (x : Int) => []) 0) [] ⟨List.nodup_nil, rfl⟩ ?_
    refine WJ.sub (m' := (fun (x : Int) => [(0, v2), (1, .int .i64 words4), (7, v2), (8, .int .i64 (List.length breaks1 : Int)), (9, .int .i64 x)]) 0) ⟨rfl, rfl, rfl, rfl, rfl, trivial⟩ ?_
    refine WJ.loop (X := Int) (fun N (x : Int) => i_areBreaks_l1 kj5 breaks1 words4 N x = some r) (fun (x : Int) => [(0, v2), (1, .int .i64 words4), (7, v2), (8, .int .i64 (List.length breaks1 : Int)), (9, .int .i64 x)]) (fun (x : Int) => []) ?_ N 0 hm
    · rintro N x7 hI
      have hm := hI; clear hI
      cases N with
      | zero => cases hm
      | succ N =>
      unfold i_areBreaks_l1 at hm
      refine WJ.seq ?_
      refine WJ.quiet ?_
      refine QJ.step (YldS.yld (y_bin rfl rfl rfl)) rfl ?_
      refine QJ.done ?_
      refine PJ.next ?_
      refine WJ.seq ?_
      refine WJ.cond (t := decide (x7 < (List.length breaks1 : Int))) rfl (fun hb8 => ?_) (fun hb8 => ?_)
      · replace hm := ifT hm hb8
        refine WJ.skip ?_
        refine PJ.next ?_
        refine WJ.seq ?_
        refine WJ.block ?_
        refine WJ.seq ?_
        refine WJ.quiet ?_
        refine QJ.step (YldS.yld (y_move rfl)) rfl ?_
        obtain ⟨e9, h10, hm⟩ := bindS hm
        obtain ⟨ad11, _, rfl, ha12, hy13⟩ := hr3.elem h10
        refine QJ.step (YldS.yld (hy13 Try.runUnderlying27 Try.sizeOf2 rfl rfl)) rfl ?_
        refine QJ.step (YldS.yld (y_load1 (v := .int .i64 e9) Try.isAgg2 ha12 St.frozenC rfl)) rfl ?_
        refine QJ.step (YldS.yld (y_assign rfl)) rfl ?_
        refine QJ.step (YldS.yld (y_assign rfl)) rfl ?_
        refine QJ.done ?_
        refine PJ.next ?_
        refine WJ.seq ?_
        refine WJ.quiet ?_
        refine QJ.step (YldS.yld (y_move rfl)) rfl ?_
        refine QJ.step (YldS.yld (y_move rfl)) rfl ?_
        refine QJ.step (YldS.yld (y_bin rfl rfl rfl)) rfl ?_
        obtain ⟨r14, h15, hm⟩ := bindS hm
        refine QJ.step (y_call Try.call78 rfl (RetG.quiet fun w hw => ok_i_between h15 w )) rfl ?_
        refine QJ.step (YldS.yld (y_not rfl)) rfl ?_
        refine QJ.step (YldS.yld (y_move rfl)) rfl ?_
        obtain ⟨t16, h17, hm⟩ := bindS hm
        refine QJ.cut 12 [(0, v2), (1, .int .i64 words4), (7, v2), (8, .int .i64 (List.length breaks1 : Int)), (9, .int .i64 x7), (31, .bool t16)] ?_ ?_
        · rcases Bool.eq_false_or_eq_true (!r14) with hb18 | hb18
          · obtain rfl := orT h17 hb18
            refine QJ.off rfl rfl (cB hb18) rfl rfl ?_
            refine QJ.off rfl rfl (cB hb18) rfl rfl ?_
            refine QJ.off rfl rfl (cB hb18) rfl rfl ?_
            refine QJ.off_undef rfl rfl rfl rfl ?_
            refine QJ.off_undef rfl rfl rfl rfl ?_
            refine QJ.off_undef rfl rfl rfl rfl ?_
            refine QJ.off_undef rfl rfl rfl rfl ?_
            refine QJ.off_undef rfl rfl rfl rfl ?_
            refine QJ.off_undef rfl rfl rfl rfl ?_
            refine QJ.off_undef rfl rfl rfl rfl ?_
            refine QJ.off rfl rfl (cB hb18) rfl rfl ?_
            refine QJ.step (YldS.yld (y_pick_t (cB hb18) rfl)) rfl ?_
            exact QJ.cut_end ⟨rfl, rfl, rfl, rfl, rfl, rfl, trivial⟩
          · replace h17 := orF h17 hb18
            refine QJ.on rfl rfl (cB hb18) (YldS.yld (y_move rfl)) rfl ?_
            refine QJ.on rfl rfl (cB hb18) (YldS.yld (y_bin rfl rfl rfl)) rfl ?_
            refine QJ.on rfl rfl (cB hb18) (YldS.yld (y_move rfl)) rfl ?_
            obtain ⟨t19, h20, h17⟩ := bindS h17
            refine QJ.cut 8 [(0, v2), (1, .int .i64 words4), (7, v2), (8, .int .i64 (List.length breaks1 : Int)), (9, .int .i64 x7), (19, .bool (!r14)), (30, .bool t19)] ?_ ?_
            · rcases Bool.eq_false_or_eq_true (decide (x7 > 0)) with hb21 | hb21
              · replace h20 := andT h20 hb21
                refine QJ.on rfl rfl (cB hb21) (YldS.yld (y_move rfl)) rfl ?_
                refine QJ.on rfl rfl (cB hb21) (YldS.yld (y_move rfl)) rfl ?_
                refine QJ.on rfl rfl (cB hb21) (YldS.yld (y_move rfl)) rfl ?_
                refine QJ.on rfl rfl (cB hb21) (YldS.yld (y_bin rfl rfl rfl)) rfl ?_
                obtain ⟨e22, h23, h20⟩ := bindS h20
                obtain ⟨ad24, _, rfl, ha25, hy26⟩ := hr3.elem h23
                refine QJ.on rfl rfl (cB hb21) (YldS.yld (hy26 Try.runUnderlying27 Try.sizeOf2 rfl rfl)) rfl ?_
                refine QJ.on rfl rfl (cB hb21) (YldS.yld (y_load1 (v := .int .i64 e22) Try.isAgg2 ha25 St.frozenC rfl)) rfl ?_
                refine QJ.on rfl rfl (cB hb21) (YldS.yld (y_bin rfl rfl rfl)) rfl ?_
                refine QJ.on rfl rfl (cB hb18) (YldS.yld (y_pick_t (cB hb21) rfl)) rfl ?_
                obtain rfl := Option.some.inj h20
                exact QJ.cut_end ⟨rfl, rfl, rfl, rfl, rfl, rfl, rfl, trivial⟩
              · obtain rfl := andF h20 hb21
                refine QJ.off rfl rfl (cB hb21) rfl rfl ?_
                refine QJ.off rfl rfl (cB hb21) rfl rfl ?_
                refine QJ.off rfl rfl (cB hb21) rfl rfl ?_
                refine QJ.off rfl rfl (cB hb21) rfl rfl ?_
                refine QJ.off rfl rfl (cB hb21) rfl rfl ?_
                refine QJ.off rfl rfl (cB hb21) rfl rfl ?_
                refine QJ.off rfl rfl (cB hb21) rfl rfl ?_
                refine QJ.on rfl rfl (cB hb18) (YldS.yld (y_pick_f (cB hb21) rfl)) rfl ?_
                exact QJ.cut_end ⟨rfl, rfl, rfl, rfl, rfl, rfl, rfl, trivial⟩
            refine QJ.step (YldS.yld (y_pick_f (cB hb18) rfl)) rfl ?_
            obtain rfl := Option.some.inj h17
            exact QJ.cut_end ⟨rfl, rfl, rfl, rfl, rfl, rfl, trivial⟩
        refine QJ.done ?_
        refine PJ.next ?_
        refine WJ.cond (t := t16) rfl (fun hb27 => ?_) (fun hb27 => ?_)
        · replace hm := ifT hm hb27
          refine WJ.seq ?_
          refine WJ.quiet ?_
          refine QJ.step (YldS.yld (y_assign rfl)) rfl ?_
          refine QJ.done ?_
          refine PJ.next ?_
          refine WJ.ret ?_
          refine PJ.block_ret (PJ.then_ret (PJ.then_ret (PJ.block_ret (PJ.then_ret ?_))))
          obtain rfl := Option.some.inj hm
          refine PJ.sel (L' := []) [] ⟨List.nodup_nil, rfl⟩ ?_
          exact PJ.retn (vs := [.bool false]) Try.results118 ⟨rfl, trivial⟩ ⟨rfl, rfl⟩
        · replace hm := ifF hm hb27
          refine WJ.skip ?_
          refine PJ.block_normal (PJ.next ?_)
          refine WJ.quiet ?_
          refine QJ.step (YldS.yld (y_bin rfl rfl rfl)) rfl ?_
          refine QJ.step (YldS.yld (y_move rfl)) rfl ?_
          refine QJ.done ?_
          exact PJ.round (w64 (x7 + 1)) [] hm ⟨rfl, rfl, rfl, rfl, rfl, trivial⟩ ⟨List.nodup_nil, rfl⟩
      · replace hm := ifF hm hb8
        refine WJ.exit ?_
        refine PJ.then_exit (PJ.then_exit (PJ.block_exit ?_))
        exact PJ.joined () [] hm trivial ⟨List.nodup_nil, rfl⟩
  · rintro _ hm
    subst hk6
    refine WJ.seq ?_
    refine WJ.quiet ?_
    refine QJ.step (YldS.yld (y_assign rfl)) rfl ?_
    refine QJ.done ?_
    refine PJ.next ?_
    refine WJ.ret ?_
    obtain rfl := Option.some.inj hm
    refine PJ.sel (L' := []) [] ⟨List.nodup_nil, rfl⟩ ?_
    exact PJ.retn (vs := [.bool true]) Try.results118 ⟨rfl, trivial⟩ ⟨rfl, rfl⟩

set_option maxRecDepth 100000 in
set_option maxHeartbeats 1000000 in
theorem ok_i_linesBy {N : Nat} {words1 : List Str} {breaks4 : List Int} {r : (List (List Str))} (hm : i_linesBy N words1 breaks4 = some r) (w : World) (v2 : Value) (hr3 : RdS w (cx w).Fz v2 fStr.rp words1) (v5 : Value) (hr6 : RdS w (cx w).Fz v5 fI64.rp breaks4) :
    Calls Try.prog 69 #[v2, v5] w (RetG (cx w) fun u L => ∃ (u1 : Value) (u2 : List (Raw 1)), (u = u1 ∧ L = [row u1 24 fRaw1 u2, inv v2 fStr.rp words1 u2 r])) := by
  unfold i_linesBy at hm
  refine Calls.enter [v2, v5] Try.func69 rfl Try.ntmps69 rfl ?_
  refine WJ.seq ?_
  refine WJ.quiet ?_
  refine QJ.step (YldS.yld (y_assign rfl)) rfl ?_
  refine QJ.done ?_
  refine PJ.next ?_
  refine WJ.seq ?_
  refine WJ.seq ?_
  refine WJ.quiet ?_
  refine QJ.step (YldS.yld (y_move rfl)) rfl ?_
  refine QJ.step (YldS.yld (y_lenS Try.runUnderlying24 hr3 rfl)) rfl ?_
  refine QJ.step (YldS.yld (y_bin rfl rfl rfl)) rfl ?_
  refine QJ.done ?_
  refine PJ.next ?_
  refine WJ.cond (t := ((List.length words1 : Int) == 0)) rfl (fun hb7 => ?_) (fun hb7 => ?_)
  · replace hm := ifT hm hb7
    refine WJ.seq ?_
    refine WJ.quiet ?_
    refine QJ.step (YldS.yld (y_assign rfl)) rfl ?_
    refine QJ.done ?_
    refine PJ.next ?_
    refine WJ.ret ?_
    refine PJ.then_ret ?_
    refine PJ.nil_row 24 fRaw1 ?_
    refine PJ.inv_nil v2 fStr.rp words1 ?_
    obtain rfl := Option.some.inj hm
    refine PJ.sel (L' := [row (.slice none 0 0) 24 fRaw1 ([] : List (Raw 1)), inv v2 fStr.rp words1 [] ([] : List (List Str))]) [1, 0] ⟨by decide, rfl⟩ ?_
    exact PJ.retn (vs := [(.slice none 0 0)]) Try.results69 ⟨rfl, trivial⟩ ⟨_, _, rfl, rfl⟩
  · replace hm := ifF hm hb7
    refine WJ.skip ?_
    refine PJ.next ?_
    refine WJ.seq ?_
    refine WJ.reg ?_
    refine SJ.buildSlice (R := fRaw1) (os := []) ([] : List (Raw 1)) Try.runUnderlying42 Try.sizeOf24 Try.zeroValue24 rfl rfl rfl rfl rfl rfl fun v8 => ?_
    refine SJ.inv_nil v2 fStr.rp words1 ?_
    refine SJ.q (YldS.yld (y_assign rfl)) rfl ?_
    refine SJ.nil ?_
    refine PJ.next ?_
    refine WJ.seq ?_
    refine WJ.quiet ?_
    refine QJ.step (YldS.yld (y_assign rfl)) rfl ?_
    refine QJ.done ?_
    refine PJ.next ?_
    obtain ⟨kj13, hk14, hm⟩ := withK_open hm
    refine WJ.join (X := (List (List Str)) × (List (Raw 1)) × Value × Int) (fun (x : (List (List Str)) × (List (Raw 1)) × Value × Int) => kj13 x.1 x.2.2.2 = some r) (fun (x : (List (List Str)) × (List (Raw 1)) × Value × Int) => [(0, v2), (5, x.2.2.1), (6, .int .i64 x.2.2.2)]) (fun (x : (List (List Str)) × (List (Raw 1)) × Value × Int) => [inv v2 fStr.rp words1 x.2.1 x.1, row x.2.2.1 24 fRaw1 x.2.1]) ?_ ?_
    · clear hk14
      refine WJ.seq ?_
      refine WJ.quiet ?_
      refine QJ.step (YldS.yld (y_move rfl)) rfl ?_
      refine QJ.step (YldS.yld (y_lenS Try.runUnderlying27 hr6 rfl)) rfl ?_
      refine QJ.step (YldS.yld (y_move rfl)) rfl ?_
      refine QJ.done ?_
      refine PJ.next ?_
      refine WJ.block ?_
      refine WJ.sel (L' := (fun (x : (List (List Str)) × (List (Raw 1)) × Value × Int × Int) => [inv v2 fStr.rp words1 x.2.1 x.1, row x.2.2.1 24 fRaw1 x.2.1]) (([] : List (List Str)), ([] : List (Raw 1)), v8, 0, 0)) [0, 1] ⟨by decide, rfl⟩ ?_
      refine WJ.sub (m' := (fun (x : (List (List Str)) × (List (Raw 1)) × Value × Int × Int) => [(0, v2), (5, x.2.2.1), (6, .int .i64 x.2.2.2.1), (13, v5), (14, .int .i64 (List.length breaks4 : Int)), (15, .int .i64 x.2.2.2.2)]) (([] : List (List Str)), ([] : List (Raw 1)), v8, 0, 0)) ⟨rfl, rfl, rfl, rfl, rfl, rfl, trivial⟩ ?_
      refine WJ.loop (X := (List (List Str)) × (List (Raw 1)) × Value × Int × Int) (fun N (x : (List (List Str)) × (List (Raw 1)) × Value × Int × Int) => i_linesBy_l1 kj13 words1 breaks4 N x.1 x.2.2.2.1 x.2.2.2.2 = some r) (fun (x : (List (List Str)) × (List (Raw 1)) × Value × Int × Int) => [(0, v2), (5, x.2.2.1), (6, .int .i64 x.2.2.2.1), (13, v5), (14, .int .i64 (List.length breaks4 : Int)), (15, .int .i64 x.2.2.2.2)]) (fun (x : (List (List Str)) × (List (Raw 1)) × Value × Int × Int) => [inv v2 fStr.rp words1 x.2.1 x.1, row x.2.2.1 24 fRaw1 x.2.1]) ?_ N (([] : List (List Str)), ([] : List (Raw 1)), v8, 0, 0) hm
      · rintro N ⟨l15, vs16, v17, start18, x19⟩ hI
        have hm := hI; clear hI
        cases N with
        | zero => cases hm
        | succ N =>
        unfold i_linesBy_l1 at hm
        refine WJ.seq ?_
        refine WJ.quiet ?_
        refine QJ.step (YldS.yld (y_bin rfl rfl rfl)) rfl ?_
        refine QJ.done ?_
        refine PJ.next ?_
        refine WJ.seq ?_
        refine WJ.cond (t := decide (x19 < (List.length breaks4 : Int))) rfl (fun hb20 => ?_) (fun hb20 => ?_)
        · replace hm := ifT hm hb20
          refine WJ.skip ?_
          refine PJ.next ?_
          refine WJ.seq ?_
          refine WJ.block ?_
          refine WJ.seq ?_
          refine WJ.quiet ?_
          obtain ⟨e21, h22, hm⟩ := bindS hm
          obtain ⟨ad23, _, rfl, ha24, hy25⟩ := hr6.elem h22
          refine QJ.step (YldS.yld (hy25 Try.runUnderlying27 Try.sizeOf2 rfl rfl)) rfl ?_
          refine QJ.step (YldS.yld (y_load1 (v := .int .i64 e21) Try.isAgg2 ha24 St.frozenC rfl)) rfl ?_
          refine QJ.step (YldS.yld (y_assign rfl)) rfl ?_
          refine QJ.done ?_
          refine PJ.next ?_
          refine WJ.seq ?_
          refine WJ.reg ?_
          refine SJ.q (YldS.yld (y_move rfl)) rfl ?_
          refine SJ.q (YldS.yld (y_move rfl)) rfl ?_
          refine SJ.q (YldS.yld (y_move rfl)) rfl ?_
          refine SJ.q (YldS.yld (y_move rfl)) rfl ?_
          obtain ⟨l26, h27, hm⟩ := bindS hm
          have hr28 := RdS.slc (i := some start18) (j := some e21) hr3 h27
          refine SJ.q (YldS.yld (y_slcFz (i := some start18) (j := some e21) hr3 h27 Try.runUnderlying24 Try.sizeOf9 rfl ⟨_, rfl⟩ ⟨_, rfl⟩)) rfl ?_
          refine SJ.buildSlice (R := fRaw1) (os := [.tmp 23]) ([mkRaw1 (slcV v2 (Option.getD (some start18) 0).toNat (Option.getD (some e21) (List.length words1 : Int)).toNat (fStr.rp).size) (RdS.one1 hr28)] : List (Raw 1)) Try.runUnderlying42 Try.sizeOf24 Try.zeroValue24 rfl rfl rfl (by simp only [List.map_cons, List.map_nil, RdS.cells1 hr28]; rfl) rfl rfl fun v29 => ?_
          refine SJ.inv_nil v2 fStr.rp words1 ?_
          refine SJ.conv0 (fun w S h => inv_push (RdS.one1 hr28) (fun w F h => RdS.slc (i := some start18) (j := some e21) h h27) h) ?_
          refine SJ.conv0 (B := inv v2 fStr.rp words1 ([mkRaw1 (slcV v2 (Option.getD (some start18) 0).toNat (Option.getD (some e21) (List.length words1 : Int)).toNat (fStr.rp).size) (RdS.one1 hr28)] : List (Raw 1)) ([l26] : List (List Str))) (fun w S h => h) ?_
          refine SJ.inv_len 2 rfl fun hl30 => ?_
          refine SJ.inv_len 0 rfl fun hl31 => ?_
          obtain ⟨l32, h33, hm⟩ := bindS hm
          refine SJ.append (k := 3) (R := fRaw1) (app_raw h33 hl30 hl31) rfl Try.underlying42 el24 rfl rfl rfl (fun w hw => (hw.row_rd (k := 1) rfl)) rfl fun v34 => ?_
          refine SJ.sel (L' := [inv v2 fStr.rp words1 vs16 l15, inv v2 fStr.rp words1 ([mkRaw1 (slcV v2 (Option.getD (some start18) 0).toNat (Option.getD (some e21) (List.length words1 : Int)).toNat (fStr.rp).size) (RdS.one1 hr28)] : List (Raw 1)) ([l26] : List (List Str)), row v29 24 fRaw1 ([mkRaw1 (slcV v2 (Option.getD (some start18) 0).toNat (Option.getD (some e21) (List.length words1 : Int)).toNat (fStr.rp).size) (RdS.one1 hr28)] : List (Raw 1)), row v34 24 fRaw1 (vs16 ++ ([mkRaw1 (slcV v2 (Option.getD (some start18) 0).toNat (Option.getD (some e21) (List.length words1 : Int)).toNat (fStr.rp).size) (RdS.one1 hr28)] : List (Raw 1)))]) [2, 0, 1, 3] ⟨by decide, rfl⟩ ?_
          refine SJ.star ?_
          refine SJ.conv0 (fun w S h => inv_app h33 h) ?_
          refine SJ.q (YldS.yld (y_assign rfl)) rfl ?_
          refine SJ.nil ?_
          refine PJ.next ?_
          refine WJ.quiet ?_
          refine QJ.step (YldS.yld (y_move rfl)) rfl ?_
          refine QJ.step (YldS.yld (y_assign rfl)) rfl ?_
          refine QJ.done ?_
          refine PJ.block_normal (PJ.next ?_)
          refine WJ.quiet ?_
          refine QJ.step (YldS.yld (y_bin rfl rfl rfl)) rfl ?_
          refine QJ.step (YldS.yld (y_move rfl)) rfl ?_
          refine QJ.done ?_
          exact PJ.round (l32, (vs16 ++ ([mkRaw1 (slcV v2 (Option.getD (some start18) 0).toNat (Option.getD (some e21) (List.length words1 : Int)).toNat (fStr.rp).size) (RdS.one1 hr28)] : List (Raw 1))), v34, e21, w64 (x19 + 1)) [0, 2] hm ⟨rfl, rfl, rfl, rfl, rfl, rfl, trivial⟩ ⟨by decide, rfl⟩
        · replace hm := ifF hm hb20
          refine WJ.exit ?_
          refine PJ.then_exit (PJ.then_exit (PJ.block_exit ?_))
          exact PJ.joined (l15, vs16, v17, start18) [0, 1] hm ⟨rfl, rfl, rfl, trivial⟩ ⟨by decide, rfl⟩
    · rintro ⟨l9, vs10, v11, start12⟩ hm
      subst hk14
      refine WJ.seq ?_
      refine WJ.reg ?_
      refine SJ.q (YldS.yld (y_move rfl)) rfl ?_
      refine SJ.q (YldS.yld (y_move rfl)) rfl ?_
      refine SJ.q (YldS.yld (y_move rfl)) rfl ?_
      obtain ⟨l35, h36, hm⟩ := bindS hm
      have hr37 := RdS.slc (i := some start12) (j := none) hr3 h36
      refine SJ.q (YldS.yld (y_slcFz (i := some start12) (j := none) hr3 h36 Try.runUnderlying24 Try.sizeOf9 rfl ⟨_, rfl⟩ trivial)) rfl ?_
      refine SJ.buildSlice (R := fRaw1) (os := [.tmp 31]) ([mkRaw1 (slcV v2 (Option.getD (some start12) 0).toNat (Option.getD (none) (List.length words1 : Int)).toNat (fStr.rp).size) (RdS.one1 hr37)] : List (Raw 1)) Try.runUnderlying42 Try.sizeOf24 Try.zeroValue24 rfl rfl rfl (by simp only [List.map_cons, List.map_nil, RdS.cells1 hr37]; rfl) rfl rfl fun v38 => ?_
      refine SJ.inv_nil v2 fStr.rp words1 ?_
      refine SJ.conv0 (fun w S h => inv_push (RdS.one1 hr37) (fun w F h => RdS.slc (i := some start12) (j := none) h h36) h) ?_
      refine SJ.conv0 (B := inv v2 fStr.rp words1 ([mkRaw1 (slcV v2 (Option.getD (some start12) 0).toNat (Option.getD (none) (List.length words1 : Int)).toNat (fStr.rp).size) (RdS.one1 hr37)] : List (Raw 1)) ([l35] : List (List Str))) (fun w S h => h) ?_
      refine SJ.inv_len 2 rfl fun hl39 => ?_
      refine SJ.inv_len 0 rfl fun hl40 => ?_
      obtain ⟨l41, h42, hm⟩ := bindS hm
      refine SJ.append (k := 3) (R := fRaw1) (app_raw h42 hl39 hl40) rfl Try.underlying42 el24 rfl rfl rfl (fun w hw => (hw.row_rd (k := 1) rfl)) rfl fun v43 => ?_
      refine SJ.sel (L' := [inv v2 fStr.rp words1 vs10 l9, inv v2 fStr.rp words1 ([mkRaw1 (slcV v2 (Option.getD (some start12) 0).toNat (Option.getD (none) (List.length words1 : Int)).toNat (fStr.rp).size) (RdS.one1 hr37)] : List (Raw 1)) ([l35] : List (List Str)), row v38 24 fRaw1 ([mkRaw1 (slcV v2 (Option.getD (some start12) 0).toNat (Option.getD (none) (List.length words1 : Int)).toNat (fStr.rp).size) (RdS.one1 hr37)] : List (Raw 1)), row v43 24 fRaw1 (vs10 ++ ([mkRaw1 (slcV v2 (Option.getD (some start12) 0).toNat (Option.getD (none) (List.length words1 : Int)).toNat (fStr.rp).size) (RdS.one1 hr37)] : List (Raw 1)))]) [2, 0, 1, 3] ⟨by decide, rfl⟩ ?_
      refine SJ.star ?_
      refine SJ.conv0 (fun w S h => inv_app h42 h) ?_
      refine SJ.q (YldS.yld (y_assign rfl)) rfl ?_
      refine SJ.nil ?_
      refine PJ.next ?_
      refine WJ.ret ?_
      obtain rfl := Option.some.inj hm
      refine PJ.sel (L' := [row v43 24 fRaw1 (vs10 ++ ([mkRaw1 (slcV v2 (Option.getD (some start12) 0).toNat (Option.getD (none) (List.length words1 : Int)).toNat (fStr.rp).size) (RdS.one1 hr37)] : List (Raw 1))), inv v2 fStr.rp words1 (vs10 ++ ([mkRaw1 (slcV v2 (Option.getD (some start12) 0).toNat (Option.getD (none) (List.length words1 : Int)).toNat (fStr.rp).size) (RdS.one1 hr37)] : List (Raw 1))) l41]) [2, 0] ⟨by decide, rfl⟩ ?_
      exact PJ.retn (vs := [v43]) Try.results69 ⟨rfl, trivial⟩ ⟨_, _, rfl, rfl⟩

set_option maxRecDepth 100000 in
set_option maxHeartbeats 1000000 in
theorem ok_i_linesCode {N : Nat} {words1 : List Str} {width4 : Int} {breaks5 : List Int} {r : Int} (hm : i_linesCode N words1 width4 breaks5 = some r) (w : World) (v2 : Value) (hr3 : RdS w (cx w).Fz v2 fStr.rp words1) (v6 : Value) (hr7 : RdS w (cx w).Fz v6 fI64.rp breaks5) :
    Calls Try.prog 68 #[v2, .int .i64 width4, v6] w (Ret (cx w) (.int .i64 r)) := by
  unfold i_linesCode at hm
  refine Calls.enter [v2, .int .i64 width4, v6] Try.func68 rfl Try.ntmps68 rfl ?_
  refine WJ.seq ?_
  refine WJ.quiet ?_
  refine QJ.step (YldS.yld (y_assign rfl)) rfl ?_
  refine QJ.done ?_
  refine PJ.next ?_
  refine WJ.seq ?_
  refine WJ.seq ?_
  refine WJ.quiet ?_
  refine QJ.step (YldS.yld (y_move rfl)) rfl ?_
  refine QJ.step (YldS.yld (y_move rfl)) rfl ?_
  obtain ⟨r8, h9, hm⟩ := bindS hm
  refine QJ.step (y_call Try.call74 rfl (RetG.quiet fun w hw => ok_i_ValidText h9 w _ (hr3.st hw))) rfl ?_
  refine QJ.step (YldS.yld (y_not rfl)) rfl ?_
  refine QJ.done ?_
  refine PJ.next ?_
  refine WJ.cond (t := !r8) rfl (fun hb10 => ?_) (fun hb10 => ?_)
  · replace hm := ifT hm hb10
    refine WJ.seq ?_
    refine WJ.quiet ?_
    refine QJ.step (YldS.yld (y_assign rfl)) rfl ?_
    refine QJ.done ?_
    refine PJ.next ?_
    refine WJ.ret ?_
    refine PJ.then_ret ?_
    obtain rfl := Option.some.inj hm
    refine PJ.sel (L' := []) [] ⟨List.nodup_nil, rfl⟩ ?_
    exact PJ.retn (vs := [.int .i64 1]) Try.results68 ⟨rfl, trivial⟩ ⟨rfl, rfl⟩
  · replace hm := ifF hm hb10
    refine WJ.skip ?_
    refine PJ.next ?_
    refine WJ.seq ?_
    refine WJ.seq ?_
    refine WJ.quiet ?_
    refine QJ.step (YldS.yld (y_move rfl)) rfl ?_
    refine QJ.step (YldS.yld (y_move rfl)) rfl ?_
    refine QJ.step (YldS.yld (y_lenS Try.runUnderlying24 hr3 rfl)) rfl ?_
    obtain ⟨r11, h12, hm⟩ := bindS hm
    refine QJ.step (y_call Try.call118 rfl (RetG.quiet fun w hw => ok_i_areBreaks h12 w _ (hr7.st hw))) rfl ?_
    refine QJ.step (YldS.yld (y_not rfl)) rfl ?_
    refine QJ.done ?_
    refine PJ.next ?_
    refine WJ.cond (t := !r11) rfl (fun hb13 => ?_) (fun hb13 => ?_)
    · replace hm := ifT hm hb13
      refine WJ.seq ?_
      refine WJ.quiet ?_
      refine QJ.step (YldS.yld (y_assign rfl)) rfl ?_
      refine QJ.done ?_
      refine PJ.next ?_
      refine WJ.ret ?_
      refine PJ.then_ret ?_
      obtain rfl := Option.some.inj hm
      refine PJ.sel (L' := []) [] ⟨List.nodup_nil, rfl⟩ ?_
      exact PJ.retn (vs := [.int .i64 2]) Try.results68 ⟨rfl, trivial⟩ ⟨rfl, rfl⟩
    · replace hm := ifF hm hb13
      refine WJ.skip ?_
      refine PJ.next ?_
      obtain ⟨kj14, hk15, hm⟩ := withK_open hm
      refine WJ.join (X := Unit) (fun (_ : Unit) => kj14  = some r) (fun (_ : Unit) => []) (fun (_ : Unit) => []) ?_ ?_
      · clear hk15
        refine WJ.seq ?_
        refine WJ.reg ?_
        refine SJ.q (YldS.yld (y_move rfl)) rfl ?_
        refine SJ.q (YldS.yld (y_move rfl)) rfl ?_
        obtain ⟨r16, h17, hm⟩ := bindS hm
        refine SJ.call Try.call69 rfl (fun w hw => ok_i_linesBy h17 w _ (hr3.st hw) _ (hr7.st hw)) rfl ?_
        rintro v18 _ ⟨_, vs19, rfl, rfl⟩
        refine SJ.q (YldS.yld (y_lenG (fun w hw => (hw.nsv_rd (k := 0) (j := 1) rfl rfl (hr3.st hw))) Try.runUnderlying42 rfl)) rfl ?_
        refine SJ.q (YldS.yld (y_move rfl)) rfl ?_
        refine SJ.nil ?_
        refine PJ.next ?_
        refine WJ.block ?_
        refine WJ.sel (L' := (fun (x : Int) => [row v18 24 fRaw1 vs19, inv v2 fStr.rp words1 vs19 r16]) 0) [0, 1] ⟨by decide, rfl⟩ ?_
        refine WJ.sub (m' := (fun (x : Int) => [(1, .int .i64 width4), (20, v18), (21, .int .i64 (List.length r16 : Int)), (22, .int .i64 x)]) 0) ⟨rfl, rfl, rfl, rfl, trivial⟩ ?_
        refine WJ.loop (X := Int) (fun N (x : Int) => i_linesCode_l1 kj14 width4 r16 N x = some r) (fun (x : Int) => [(1, .int .i64 width4), (20, v18), (21, .int .i64 (List.length r16 : Int)), (22, .int .i64 x)]) (fun (x : Int) => [row v18 24 fRaw1 vs19, inv v2 fStr.rp words1 vs19 r16]) ?_ N 0 hm
        · rintro N x20 hI
          have hm := hI; clear hI
          cases N with
          | zero => cases hm
          | succ N =>
          unfold i_linesCode_l1 at hm
          refine WJ.seq ?_
          refine WJ.quiet ?_
          refine QJ.step (YldS.yld (y_bin rfl rfl rfl)) rfl ?_
          refine QJ.done ?_
          refine PJ.next ?_
          refine WJ.seq ?_
          refine WJ.cond (t := decide (x20 < (List.length r16 : Int))) rfl (fun hb21 => ?_) (fun hb21 => ?_)
          · replace hm := ifT hm hb21
            refine WJ.skip ?_
            refine PJ.next ?_
            refine WJ.seq ?_
            refine WJ.block ?_
            refine WJ.seq ?_
            refine WJ.inv_len 1 rfl fun hl22 => ?_
            refine WJ.quiet ?_
            obtain ⟨e23, h24, hm⟩ := bindS hm
            obtain ⟨y25, hy26⟩ := inn_idx hl22 h24
            refine QJ.step (YldS.yld (y_ixRow (k := 0) (R := fRaw1) rfl Try.runUnderlying42 Try.sizeOf24 rfl rfl hy26)) rfl ?_
            refine QJ.step (YldS.yld (y_loadR (k := 0) (i := (Int.toNat x20)) (off := 0) rfl Try.isAgg24 rfl (idx_get hy26) (raw_get y25))) rfl ?_
            refine QJ.step (YldS.yld (y_assign rfl)) rfl ?_
            refine QJ.done ?_
            refine PJ.next ?_
            refine WJ.seq ?_
            refine WJ.quiet ?_
            refine QJ.step (YldS.yld (y_move rfl)) rfl ?_
            obtain ⟨r27, h28, hm⟩ := bindS hm
            refine QJ.step (y_call Try.call75 rfl (RetG.quiet fun w hw => ok_i_lineLength h28 w _ (hw.inv_rd (k := 1) rfl (hr3.st hw) rfl hy26 h24))) rfl ?_
            refine QJ.step (YldS.yld (y_move rfl)) rfl ?_
            refine QJ.step (YldS.yld (y_bin rfl rfl rfl)) rfl ?_
            refine QJ.done ?_
            refine PJ.next ?_
            refine WJ.cond (t := decide (r27 > width4)) rfl (fun hb29 => ?_) (fun hb29 => ?_)
            · replace hm := ifT hm hb29
              refine WJ.seq ?_
              refine WJ.quiet ?_
              refine QJ.step (YldS.yld (y_assign rfl)) rfl ?_
              refine QJ.done ?_
              refine PJ.next ?_
              refine WJ.ret ?_
              refine PJ.block_ret (PJ.then_ret (PJ.then_ret (PJ.block_ret (PJ.then_ret ?_))))
              obtain rfl := Option.some.inj hm
              refine PJ.sel (L' := []) [] ⟨List.nodup_nil, rfl⟩ ?_
              exact PJ.retn (vs := [.int .i64 5]) Try.results68 ⟨rfl, trivial⟩ ⟨rfl, rfl⟩
            · replace hm := ifF hm hb29
              refine WJ.skip ?_
              refine PJ.block_normal (PJ.next ?_)
              refine WJ.quiet ?_
              refine QJ.step (YldS.yld (y_bin rfl rfl rfl)) rfl ?_
              refine QJ.step (YldS.yld (y_move rfl)) rfl ?_
              refine QJ.done ?_
              exact PJ.round (w64 (x20 + 1)) [0, 1] hm ⟨rfl, rfl, rfl, rfl, trivial⟩ ⟨by decide, rfl⟩
          · replace hm := ifF hm hb21
            refine WJ.exit ?_
            refine PJ.then_exit (PJ.then_exit (PJ.block_exit ?_))
            exact PJ.joined () [] hm trivial ⟨List.nodup_nil, rfl⟩
      · rintro _ hm
        subst hk15
        refine WJ.seq ?_
        refine WJ.quiet ?_
        refine QJ.step (YldS.yld (y_assign rfl)) rfl ?_
        refine QJ.done ?_
        refine PJ.next ?_
        refine WJ.ret ?_
        obtain rfl := Option.some.inj hm
        refine PJ.sel (L' := []) [] ⟨List.nodup_nil, rfl⟩ ?_
        exact PJ.retn (vs := [.int .i64 0]) Try.results68 ⟨rfl, trivial⟩ ⟨rfl, rfl⟩

set_option maxRecDepth 100000 in
set_option maxHeartbeats 1000000 in
theorem ok_i_BadnessOf {N : Nat} {words1 : List Str} {width4 : Int} {breaks5 : List Int} {r : Int × Int} (hm : i_BadnessOf N words1 width4 breaks5 = some r) (w : World) (v2 : Value) (hr3 : RdS w (cx w).Fz v2 fStr.rp words1) (v6 : Value) (hr7 : RdS w (cx w).Fz v6 fI64.rp breaks5) :
    Calls Try.prog 15 #[v2, .int .i64 width4, v6] w (Ret (cx w) (tup [.int .i64 r.1, .int .i64 r.2])) := by
  unfold i_BadnessOf at hm
  refine Calls.enter [v2, .int .i64 width4, v6] Try.func15 rfl Try.ntmps15 rfl ?_
  refine WJ.seq ?_
  refine WJ.quiet ?_
  refine QJ.step (YldS.yld (y_assign rfl)) rfl ?_
  refine QJ.step (YldS.yld (y_assign rfl)) rfl ?_
  refine QJ.done ?_
  refine PJ.next ?_
  refine WJ.seq ?_
  refine WJ.seq ?_
  refine WJ.quiet ?_
  refine QJ.step (YldS.yld (y_move rfl)) rfl ?_
  refine QJ.step (YldS.yld (y_move rfl)) rfl ?_
  refine QJ.step (YldS.yld (y_move rfl)) rfl ?_
  obtain ⟨r8, h9, hm⟩ := bindS hm
  refine QJ.step (y_call Try.call68 rfl (RetG.quiet fun w hw => ok_i_linesCode h9 w _ (hr3.st hw) _ (hr7.st hw))) rfl ?_
  refine QJ.step (YldS.yld (y_assign rfl)) rfl ?_
  refine QJ.done ?_
  refine PJ.next ?_
  refine WJ.seq ?_
  refine WJ.quiet ?_
  refine QJ.step (YldS.yld (y_move rfl)) rfl ?_
  refine QJ.step (YldS.yld (y_bin rfl rfl rfl)) rfl ?_
  refine QJ.done ?_
  refine PJ.next ?_
  refine WJ.cond (t := (r8 != 0)) rfl (fun hb10 => ?_) (fun hb10 => ?_)
  · replace hm := ifT hm hb10
    refine WJ.seq ?_
    refine WJ.quiet ?_
    refine QJ.step (YldS.yld (y_move rfl)) rfl ?_
    refine QJ.step (YldS.yld (y_assign rfl)) rfl ?_
    refine QJ.step (YldS.yld (y_assign rfl)) rfl ?_
    refine QJ.done ?_
    refine PJ.next ?_
    refine WJ.ret ?_
    refine PJ.then_ret ?_
    obtain rfl := Option.some.inj hm
    refine PJ.sel (L' := []) [] ⟨List.nodup_nil, rfl⟩ ?_
    exact PJ.retn (vs := [.int .i64 0, .int .i64 r8]) Try.results15 ⟨rfl, rfl, trivial⟩ ⟨rfl, rfl⟩
  · replace hm := ifF hm hb10
    refine WJ.skip ?_
    refine PJ.next ?_
    refine WJ.seq ?_
    refine WJ.reg ?_
    refine SJ.q (YldS.yld (y_move rfl)) rfl ?_
    refine SJ.q (YldS.yld (y_move rfl)) rfl ?_
    obtain ⟨r11, h12, hm⟩ := bindS hm
    refine SJ.call Try.call69 rfl (fun w hw => ok_i_linesBy h12 w _ (hr3.st hw) _ (hr7.st hw)) rfl ?_
    rintro v13 _ ⟨_, vs14, rfl, rfl⟩
    refine SJ.q (YldS.yld (y_assign rfl)) rfl ?_
    refine SJ.nil ?_
    refine PJ.next ?_
    refine WJ.seq ?_
    refine WJ.quiet ?_
    refine QJ.step (YldS.yld (y_assign rfl)) rfl ?_
    refine QJ.done ?_
    refine PJ.next ?_
    obtain ⟨kj16, hk17, hm⟩ := withK_open hm
    refine WJ.join (X := Int) (fun (x : Int) => kj16 x = some r) (fun (x : Int) => [(10, .int .i64 x)]) (fun (x : Int) => []) ?_ ?_
    · clear hk17
      refine WJ.seq ?_
      refine WJ.quiet ?_
      refine QJ.step (YldS.yld (y_assign rfl)) rfl ?_
      refine QJ.done ?_
      refine PJ.next ?_
      refine WJ.block ?_
      refine WJ.sel (L' := (fun (x : Int × Int) => [row v13 24 fRaw1 vs14, inv v2 fStr.rp words1 vs14 r11]) (0, 0)) [0, 1] ⟨by decide, rfl⟩ ?_
      refine WJ.sub (m' := (fun (x : Int × Int) => [(1, .int .i64 width4), (9, v13), (10, .int .i64 x.1), (11, .int .i64 x.2)]) (0, 0)) ⟨rfl, rfl, rfl, rfl, trivial⟩ ?_
      refine WJ.loop (X := Int × Int) (fun N (x : Int × Int) => i_BadnessOf_l1 kj16 width4 r11 N x.1 x.2 = some r) (fun (x : Int × Int) => [(1, .int .i64 width4), (9, v13), (10, .int .i64 x.1), (11, .int .i64 x.2)]) (fun (x : Int × Int) => [row v13 24 fRaw1 vs14, inv v2 fStr.rp words1 vs14 r11]) ?_ N (0, 0) hm
      · rintro N ⟨sum18, i19⟩ hI
        have hm := hI; clear hI
        cases N with
        | zero => cases hm
        | succ N =>
        unfold i_BadnessOf_l1 at hm
        refine WJ.seq ?_
        refine WJ.seq ?_
        refine WJ.quiet ?_
        refine QJ.step (YldS.yld (y_move rfl)) rfl ?_
        refine QJ.step (YldS.yld (y_bin rfl rfl rfl)) rfl ?_
        refine QJ.step (YldS.yld (y_move rfl)) rfl ?_
        refine QJ.step (YldS.yld (y_lenG (fun w hw => (hw.nsv_rd (k := 0) (j := 1) rfl rfl (hr3.st hw))) Try.runUnderlying42 rfl)) rfl ?_
        refine QJ.step (YldS.yld (y_bin rfl rfl rfl)) rfl ?_
        refine QJ.done ?_
        refine PJ.next ?_
        refine WJ.cond (t := decide ((w64 (i19 + 1)) < (List.length r11 : Int))) rfl (fun hb20 => ?_) (fun hb20 => ?_)
        · replace hm := ifT hm hb20
          refine WJ.skip ?_
          refine PJ.next ?_
          refine WJ.seq ?_
          refine WJ.block ?_
          refine WJ.seq ?_
          refine WJ.inv_len 1 rfl fun hl21 => ?_
          refine WJ.quiet ?_
          refine QJ.step (YldS.yld (y_move rfl)) rfl ?_
          refine QJ.step (YldS.yld (y_move rfl)) rfl ?_
          refine QJ.step (YldS.yld (y_move rfl)) rfl ?_
          obtain ⟨e22, h23, hm⟩ := bindS hm
          obtain ⟨y24, hy25⟩ := inn_idx hl21 h23
          refine QJ.step (YldS.yld (y_ixRow (k := 0) (R := fRaw1) rfl Try.runUnderlying42 Try.sizeOf24 rfl rfl hy25)) rfl ?_
          refine QJ.step (YldS.yld (y_loadR (k := 0) (i := (Int.toNat i19)) (off := 0) rfl Try.isAgg24 rfl (idx_get hy25) (raw_get y24))) rfl ?_
          obtain ⟨r26, h27, hm⟩ := bindS hm
          refine QJ.step (y_call Try.call75 rfl (RetG.quiet fun w hw => ok_i_lineLength h27 w _ (hw.inv_rd (k := 1) rfl (hr3.st hw) rfl hy25 h23))) rfl ?_
          refine QJ.step (YldS.yld (y_bin rfl rfl rfl)) rfl ?_
          refine QJ.step (YldS.yld (y_assign rfl)) rfl ?_
          refine QJ.done ?_
          refine PJ.next ?_
          refine WJ.quiet ?_
          refine QJ.step (YldS.yld (y_move rfl)) rfl ?_
          refine QJ.step (YldS.yld (y_move rfl)) rfl ?_
          refine QJ.step (YldS.yld (y_move rfl)) rfl ?_
          refine QJ.step (YldS.yld (y_bin rfl rfl rfl)) rfl ?_
          refine QJ.step (YldS.yld (y_bin rfl rfl rfl)) rfl ?_
          refine QJ.step (YldS.yld (y_assign rfl)) rfl ?_
          refine QJ.done ?_
          refine PJ.block_normal (PJ.next ?_)
          refine WJ.quiet ?_
          refine QJ.step (YldS.yld (y_move rfl)) rfl ?_
          refine QJ.step (YldS.yld (y_bin rfl rfl rfl)) rfl ?_
          refine QJ.step (YldS.yld (y_assign rfl)) rfl ?_
          refine QJ.done ?_
          exact PJ.round (w64 (sum18 + (w64 ((w64 (width4 - r26)) * (w64 (width4 - r26))))), w64 (i19 + 1)) [0, 1] hm ⟨rfl, rfl, rfl, rfl, trivial⟩ ⟨by decide, rfl⟩
        · replace hm := ifF hm hb20
          refine WJ.exit ?_
          refine PJ.then_exit (PJ.then_exit (PJ.block_exit ?_))
          exact PJ.joined sum18 [] hm ⟨rfl, trivial⟩ ⟨List.nodup_nil, rfl⟩
    · rintro sum15 hm
      subst hk17
      refine WJ.seq ?_
      refine WJ.quiet ?_
      refine QJ.step (YldS.yld (y_move rfl)) rfl ?_
      refine QJ.step (YldS.yld (y_assign rfl)) rfl ?_
      refine QJ.step (YldS.yld (y_assign rfl)) rfl ?_
      refine QJ.done ?_
      refine PJ.next ?_
      refine WJ.ret ?_
      obtain rfl := Option.some.inj hm
      refine PJ.sel (L' := []) [] ⟨List.nodup_nil, rfl⟩ ?_
      exact PJ.retn (vs := [.int .i64 sum15, .int .i64 0]) Try.results15 ⟨rfl, rfl, trivial⟩ ⟨rfl, rfl⟩

set_option maxRecDepth 100000 in
set_option maxHeartbeats 1000000 in
theorem ok_i_firstBreaks {N : Nat} {words1 : List Str} {width4 : Int} {r : (List Int)} (hm : i_firstBreaks N words1 width4 = some r) (w : World) (v2 : Value) (hr3 : RdS w (cx w).Fz v2 fStr.rp words1) :
    Calls Try.prog 76 #[v2, .int .i64 width4] w (RetG (cx w) fun u L => ∃ (u1 : Value), (u = u1 ∧ L = [row u1 2 fI64 r])) := by
  unfold i_firstBreaks at hm
  refine Calls.enter [v2, .int .i64 width4] Try.func76 rfl Try.ntmps76 rfl ?_
  refine WJ.seq ?_
  refine WJ.quiet ?_
  refine QJ.step (YldS.yld (y_assign rfl)) rfl ?_
  refine QJ.done ?_
  refine PJ.next ?_
  refine WJ.seq ?_
  refine WJ.reg ?_
  refine SJ.buildSlice (R := fI64) (os := []) [] Try.runUnderlying27 Try.sizeOf2 Try.zeroValue2 rfl rfl rfl rfl rfl rfl fun v5 => ?_
  refine SJ.q (YldS.yld (y_assign rfl)) rfl ?_
  refine SJ.nil ?_
  refine PJ.next ?_
  refine WJ.seq ?_
  refine WJ.quiet ?_
  refine QJ.step (YldS.yld (y_assign rfl)) rfl ?_
  refine QJ.done ?_
  refine PJ.next ?_
  obtain ⟨kj8, hk9, hm⟩ := withK_open hm
  refine WJ.join (X := (List Int) × Value) (fun (x : (List Int) × Value) => kj8 x.1 = some r) (fun (x : (List Int) × Value) => [(5, x.2)]) (fun (x : (List Int) × Value) => [row x.2 2 fI64 x.1]) ?_ ?_
  · clear hk9
    refine WJ.seq ?_
    refine WJ.quiet ?_
    refine QJ.step (YldS.yld (y_move rfl)) rfl ?_
    refine QJ.step (YldS.yld (y_lenS Try.runUnderlying24 hr3 rfl)) rfl ?_
    refine QJ.step (YldS.yld (y_move rfl)) rfl ?_
    refine QJ.done ?_
    refine PJ.next ?_
    refine WJ.block ?_
    refine WJ.sel (L' := (fun (x : (List Int) × Value × Int × Int) => [row x.2.1 2 fI64 x.1]) ([], v5, 0, 0)) [0] ⟨by decide, rfl⟩ ?_
    refine WJ.sub (m' := (fun (x : (List Int) × Value × Int × Int) => [(0, v2), (1, .int .i64 width4), (5, x.2.1), (6, .int .i64 x.2.2.1), (10, .int .i64 (List.length words1 : Int)), (11, .int .i64 x.2.2.2)]) ([], v5, 0, 0)) ⟨rfl, rfl, rfl, rfl, rfl, rfl, trivial⟩ ?_
    refine WJ.loop (X := (List Int) × Value × Int × Int) (fun N (x : (List Int) × Value × Int × Int) => i_firstBreaks_l1 kj8 words1 width4 N x.1 x.2.2.1 x.2.2.2 = some r) (fun (x : (List Int) × Value × Int × Int) => [(0, v2), (1, .int .i64 width4), (5, x.2.1), (6, .int .i64 x.2.2.1), (10, .int .i64 (List.length words1 : Int)), (11, .int .i64 x.2.2.2)]) (fun (x : (List Int) × Value × Int × Int) => [row x.2.1 2 fI64 x.1]) ?_ N ([], v5, 0, 0) hm
    · rintro N ⟨l10, v11, start12, x13⟩ hI
      have hm := hI; clear hI
      cases N with
      | zero => cases hm
      | succ N =>
      unfold i_firstBreaks_l1 at hm
      refine WJ.seq ?_
      refine WJ.quiet ?_
      refine QJ.step (YldS.yld (y_bin rfl rfl rfl)) rfl ?_
      refine QJ.done ?_
      refine PJ.next ?_
      refine WJ.seq ?_
      refine WJ.cond (t := decide (x13 < (List.length words1 : Int))) rfl (fun hb14 => ?_) (fun hb14 => ?_)
      · replace hm := ifT hm hb14
        refine WJ.skip ?_
        refine PJ.next ?_
        obtain ⟨kj18, hk19, hm⟩ := withK_open hm
        refine WJ.join (X := (List Int) × Value × Int) (fun (x : (List Int) × Value × Int) => kj18 x.1 x.2.2 = some r) (fun (x : (List Int) × Value × Int) => [(0, v2), (1, .int .i64 width4), (5, x.2.1), (6, .int .i64 x.2.2), (10, .int .i64 (List.length words1 : Int)), (11, .int .i64 x13)]) (fun (x : (List Int) × Value × Int) => [row x.2.1 2 fI64 x.1]) ?_ ?_
        · clear hk19
          refine WJ.block ?_
          refine WJ.seq ?_
          refine WJ.quiet ?_
          refine QJ.step (YldS.yld (y_move rfl)) rfl ?_
          refine QJ.step (YldS.yld (y_assign rfl)) rfl ?_
          refine QJ.done ?_
          refine PJ.next ?_
          refine WJ.seq ?_
          refine WJ.quiet ?_
          refine QJ.step (YldS.yld (y_move rfl)) rfl ?_
          refine QJ.step (YldS.yld (y_move rfl)) rfl ?_
          refine QJ.step (YldS.yld (y_bin rfl rfl rfl)) rfl ?_
          refine QJ.step (YldS.yld (y_move rfl)) rfl ?_
          obtain ⟨t20, h21, hm⟩ := bindS hm
          refine QJ.cut 9 [(0, v2), (1, .int .i64 width4), (5, v11), (6, .int .i64 start12), (7, .int .i64 x13), (10, .int .i64 (List.length words1 : Int)), (11, .int .i64 x13), (26, .bool t20)] ?_ ?_
          · rcases Bool.eq_false_or_eq_true (decide (x13 > start12)) with hb22 | hb22
            · replace h21 := andT h21 hb22
              refine QJ.on rfl rfl (cB hb22) (YldS.yld (y_move rfl)) rfl ?_
              refine QJ.on rfl rfl (cB hb22) (YldS.yld (y_move rfl)) rfl ?_
              refine QJ.on rfl rfl (cB hb22) (YldS.yld (y_move rfl)) rfl ?_
              refine QJ.on rfl rfl (cB hb22) (YldS.yld (y_bin rfl rfl rfl)) rfl ?_
              obtain ⟨l23, h24, h21⟩ := bindS h21
              obtain ⟨v25, hr26, hy27⟩ := RdS.part (i := some start12) (j := some (w64 (x13 + 1))) hr3 h24
              refine QJ.on rfl rfl (cB hb22) (YldS.yld (hy27 Try.runUnderlying24 Try.sizeOf9 rfl ⟨_, rfl⟩ ⟨_, rfl⟩)) rfl ?_
              obtain ⟨r28, h29, h21⟩ := bindS h21
              refine QJ.on rfl rfl (cB hb22) (y_call Try.call75 rfl (RetG.quiet fun w hw => ok_i_lineLength h29 w _ (hr26.st hw))) rfl ?_
              refine QJ.on rfl rfl (cB hb22) (YldS.yld (y_move rfl)) rfl ?_
              refine QJ.on rfl rfl (cB hb22) (YldS.yld (y_bin rfl rfl rfl)) rfl ?_
              refine QJ.step (YldS.yld (y_pick_t (cB hb22) rfl)) rfl ?_
              obtain rfl := Option.some.inj h21
              exact QJ.cut_end ⟨rfl, rfl, rfl, rfl, rfl, rfl, rfl, rfl, trivial⟩
            · obtain rfl := andF h21 hb22
              refine QJ.off rfl rfl (cB hb22) rfl rfl ?_
              refine QJ.off rfl rfl (cB hb22) rfl rfl ?_
              refine QJ.off rfl rfl (cB hb22) rfl rfl ?_
              refine QJ.off rfl rfl (cB hb22) rfl rfl ?_
              refine QJ.off rfl rfl (cB hb22) rfl rfl ?_
              refine QJ.off rfl rfl (cB hb22) rfl rfl ?_
              refine QJ.off rfl rfl (cB hb22) rfl rfl ?_
              refine QJ.off rfl rfl (cB hb22) rfl rfl ?_
              refine QJ.step (YldS.yld (y_pick_f (cB hb22) rfl)) rfl ?_
              exact QJ.cut_end ⟨rfl, rfl, rfl, rfl, rfl, rfl, rfl, rfl, trivial⟩
          refine QJ.done ?_
          refine PJ.next ?_
          refine WJ.cond (t := t20) rfl (fun hb30 => ?_) (fun hb30 => ?_)
          · replace hm := ifT hm hb30
            refine WJ.seq ?_
            refine WJ.reg ?_
            refine SJ.q (YldS.yld (y_move rfl)) rfl ?_
            refine SJ.q (YldS.yld (y_move rfl)) rfl ?_
            refine SJ.buildSlice (R := fI64) (os := [.tmp 28]) [x13] Try.runUnderlying27 Try.sizeOf2 Try.zeroValue2 rfl rfl rfl rfl rfl rfl fun v31 => ?_
            obtain ⟨l32, h33, hm⟩ := bindS hm
            refine SJ.append (k := 1) (R := fI64) h33 rfl Try.underlying27 el2 rfl rfl rfl (fun w hw => (hw.row_rd (k := 0) rfl)) rfl fun v34 => ?_
            refine SJ.q (YldS.yld (y_assign rfl)) rfl ?_
            refine SJ.nil ?_
            refine PJ.next ?_
            refine WJ.quiet ?_
            refine QJ.step (YldS.yld (y_move rfl)) rfl ?_
            refine QJ.step (YldS.yld (y_assign rfl)) rfl ?_
            refine QJ.done ?_
            refine PJ.block_normal ?_
            exact PJ.joined (l32, v34, x13) [1] hm ⟨rfl, rfl, rfl, rfl, rfl, rfl, trivial⟩ ⟨by decide, rfl⟩
          · replace hm := ifF hm hb30
            refine WJ.skip ?_
            refine PJ.block_normal ?_
            exact PJ.joined (l10, v11, start12) [0] hm ⟨rfl, rfl, rfl, rfl, rfl, rfl, trivial⟩ ⟨by decide, rfl⟩
        · rintro ⟨l15, v16, start17⟩ hm
          subst hk19
          refine WJ.quiet ?_
          refine QJ.step (YldS.yld (y_bin rfl rfl rfl)) rfl ?_
          refine QJ.step (YldS.yld (y_move rfl)) rfl ?_
          refine QJ.done ?_
          exact PJ.round (l15, v16, start17, w64 (x13 + 1)) [0] hm ⟨rfl, rfl, rfl, rfl, rfl, rfl, trivial⟩ ⟨by decide, rfl⟩
      · replace hm := ifF hm hb14
        refine WJ.exit ?_
        refine PJ.then_exit (PJ.then_exit (PJ.block_exit ?_))
        exact PJ.joined (l10, v11) [0] hm ⟨rfl, trivial⟩ ⟨by decide, rfl⟩
  · rintro ⟨l6, v7⟩ hm
    subst hk9
    refine WJ.seq ?_
    refine WJ.quiet ?_
    refine QJ.step (YldS.yld (y_move rfl)) rfl ?_
    refine QJ.step (YldS.yld (y_assign rfl)) rfl ?_
    refine QJ.done ?_
    refine PJ.next ?_
    refine WJ.ret ?_
    obtain rfl := Option.some.inj hm
    refine PJ.sel (L' := [row v7 2 fI64 l6]) [0] ⟨by decide, rfl⟩ ?_
    exact PJ.retn (vs := [v7]) Try.results76 ⟨rfl, trivial⟩ ⟨_, rfl, rfl⟩

set_option maxRecDepth 100000 in
set_option maxHeartbeats 1000000 in
theorem ok_i_FirstBreaks {N : Nat} {words1 : List Str} {width4 : Int} {r : (List Int) × Int} (hm : i_FirstBreaks N words1 width4 = some r) (w : World) (v2 : Value) (hr3 : RdS w (cx w).Fz v2 fStr.rp words1) :
    Calls Try.prog 16 #[v2, .int .i64 width4] w (RetG (cx w) fun u L => ∃ (u1 : Value), (u = tup [u1, .int .i64 r.2] ∧ L = [row u1 2 fI64 r.1])) := by
  unfold i_FirstBreaks at hm
  refine Calls.enter [v2, .int .i64 width4] Try.func16 rfl Try.ntmps16 rfl ?_
  refine WJ.seq ?_
  refine WJ.quiet ?_
  refine QJ.step (YldS.yld (y_assign rfl)) rfl ?_
  refine QJ.step (YldS.yld (y_assign rfl)) rfl ?_
  refine QJ.done ?_
  refine PJ.next ?_
  refine WJ.seq ?_
  refine WJ.seq ?_
  refine WJ.quiet ?_
  refine QJ.step (YldS.yld (y_move rfl)) rfl ?_
  refine QJ.step (YldS.yld (y_move rfl)) rfl ?_
  obtain ⟨r5, h6, hm⟩ := bindS hm
  refine QJ.step (y_call Try.call74 rfl (RetG.quiet fun w hw => ok_i_ValidText h6 w _ (hr3.st hw))) rfl ?_
  refine QJ.step (YldS.yld (y_not rfl)) rfl ?_
  refine QJ.done ?_
  refine PJ.next ?_
  refine WJ.cond (t := !r5) rfl (fun hb7 => ?_) (fun hb7 => ?_)
  · replace hm := ifT hm hb7
    refine WJ.seq ?_
    refine WJ.quiet ?_
    refine QJ.step (YldS.yld (y_assign rfl)) rfl ?_
    refine QJ.step (YldS.yld (y_assign rfl)) rfl ?_
    refine QJ.done ?_
    refine PJ.next ?_
    refine WJ.ret ?_
    refine PJ.then_ret ?_
    refine PJ.nil_row 2 fI64 ?_
    obtain rfl := Option.some.inj hm
    refine PJ.sel (L' := [row (.slice none 0 0) 2 fI64 []]) [0] ⟨by decide, rfl⟩ ?_
    exact PJ.retn (vs := [(.slice none 0 0), .int .i64 1]) Try.results16 ⟨rfl, rfl, trivial⟩ ⟨_, rfl, rfl⟩
  · replace hm := ifF hm hb7
    refine WJ.skip ?_
    refine PJ.next ?_
    refine WJ.seq ?_
    refine WJ.reg ?_
    refine SJ.q (YldS.yld (y_move rfl)) rfl ?_
    refine SJ.q (YldS.yld (y_move rfl)) rfl ?_
    obtain ⟨r8, h9, hm⟩ := bindS hm
    refine SJ.call Try.call76 rfl (fun w hw => ok_i_firstBreaks h9 w _ (hr3.st hw)) rfl ?_
    rintro v10 _ ⟨_, rfl, rfl⟩
    refine SJ.q (YldS.yld (y_assign rfl)) rfl ?_
    refine SJ.q (YldS.yld (y_assign rfl)) rfl ?_
    refine SJ.nil ?_
    refine PJ.next ?_
    refine WJ.ret ?_
    obtain rfl := Option.some.inj hm
    refine PJ.sel (L' := [row v10 2 fI64 r8]) [0] ⟨by decide, rfl⟩ ?_
    exact PJ.retn (vs := [v10, .int .i64 0]) Try.results16 ⟨rfl, rfl, trivial⟩ ⟨_, rfl, rfl⟩

set_option maxRecDepth 100000 in
set_option maxHeartbeats 1000000 in
theorem ok_i_fewestLines {N : Nat} {words1 : List Str} {width4 : Int} {r : Int} (hm : i_fewestLines N words1 width4 = some r) (w : World) (v2 : Value) (hr3 : RdS w (cx w).Fz v2 fStr.rp words1) :
    Calls Try.prog 77 #[v2, .int .i64 width4] w (Ret (cx w) (.int .i64 r)) := by
  unfold i_fewestLines at hm
  refine Calls.enter [v2, .int .i64 width4] Try.func77 rfl Try.ntmps77 rfl ?_
  refine WJ.seq ?_
  refine WJ.quiet ?_
  refine QJ.step (YldS.yld (y_assign rfl)) rfl ?_
  refine QJ.done ?_
  refine PJ.next ?_
  refine WJ.seq ?_
  refine WJ.seq ?_
  refine WJ.quiet ?_
  refine QJ.step (YldS.yld (y_move rfl)) rfl ?_
  refine QJ.step (YldS.yld (y_lenS Try.runUnderlying24 hr3 rfl)) rfl ?_
  refine QJ.step (YldS.yld (y_bin rfl rfl rfl)) rfl ?_
  refine QJ.done ?_
  refine PJ.next ?_
  refine WJ.cond (t := ((List.length words1 : Int) == 0)) rfl (fun hb5 => ?_) (fun hb5 => ?_)
  · replace hm := ifT hm hb5
    refine WJ.seq ?_
    refine WJ.quiet ?_
    refine QJ.step (YldS.yld (y_assign rfl)) rfl ?_
    refine QJ.done ?_
    refine PJ.next ?_
    refine WJ.ret ?_
    refine PJ.then_ret ?_
    obtain rfl := Option.some.inj hm
    refine PJ.sel (L' := []) [] ⟨List.nodup_nil, rfl⟩ ?_
    exact PJ.retn (vs := [.int .i64 0]) Try.results77 ⟨rfl, trivial⟩ ⟨rfl, rfl⟩
  · replace hm := ifF hm hb5
    refine WJ.skip ?_
    refine PJ.next ?_
    refine WJ.seq ?_
    refine WJ.reg ?_
    refine SJ.q (YldS.yld (y_move rfl)) rfl ?_
    refine SJ.q (YldS.yld (y_move rfl)) rfl ?_
    obtain ⟨r6, h7, hm⟩ := bindS hm
    refine SJ.call Try.call76 rfl (fun w hw => ok_i_firstBreaks h7 w _ (hr3.st hw)) rfl ?_
    rintro v8 _ ⟨_, rfl, rfl⟩
    refine SJ.q (YldS.yld (y_lenRow (k := 0) rfl Try.runUnderlying27 rfl)) rfl ?_
    refine SJ.q (YldS.yld (y_bin rfl rfl rfl)) rfl ?_
    refine SJ.q (YldS.yld (y_assign rfl)) rfl ?_
    refine SJ.nil ?_
    refine PJ.next ?_
    refine WJ.ret ?_
    obtain rfl := Option.some.inj hm
    refine PJ.sel (L' := []) [] ⟨List.nodup_nil, rfl⟩ ?_
    exact PJ.retn (vs := [.int .i64 (w64 ((List.length r6 : Int) + 1))]) Try.results77 ⟨rfl, trivial⟩ ⟨rfl, rfl⟩

set_option maxRecDepth 100000 in
set_option maxHeartbeats 1000000 in
theorem ok_i_FewestLines {N : Nat} {words1 : List Str} {width4 : Int} {r : Int × Int} (hm : i_FewestLines N words1 width4 = some r) (w : World) (v2 : Value) (hr3 : RdS w (cx w).Fz v2 fStr.rp words1) :
    Calls Try.prog 17 #[v2, .int .i64 width4] w (Ret (cx w) (tup [.int .i64 r.1, .int .i64 r.2])) := by
  unfold i_FewestLines at hm
  refine Calls.enter [v2, .int .i64 width4] Try.func17 rfl Try.ntmps17 rfl ?_
  refine WJ.seq ?_
  refine WJ.quiet ?_
  refine QJ.step (YldS.yld (y_assign rfl)) rfl ?_
  refine QJ.step (YldS.yld (y_assign rfl)) rfl ?_
  refine QJ.done ?_
  refine PJ.next ?_
  refine WJ.seq ?_
  refine WJ.seq ?_
  refine WJ.quiet ?_
  refine QJ.step (YldS.yld (y_move rfl)) rfl ?_
  refine QJ.step (YldS.yld (y_move rfl)) rfl ?_
  obtain ⟨r5, h6, hm⟩ := bindS hm
  refine QJ.step (y_call Try.call74 rfl (RetG.quiet fun w hw => ok_i_ValidText h6 w _ (hr3.st hw))) rfl ?_
  refine QJ.step (YldS.yld (y_not rfl)) rfl ?_
  refine QJ.done ?_
  refine PJ.next ?_
  refine WJ.cond (t := !r5) rfl (fun hb7 => ?_) (fun hb7 => ?_)
  · replace hm := ifT hm hb7
    refine WJ.seq ?_
    refine WJ.quiet ?_
    refine QJ.step (YldS.yld (y_assign rfl)) rfl ?_
    refine QJ.step (YldS.yld (y_assign rfl)) rfl ?_
    refine QJ.done ?_
    refine PJ.next ?_
    refine WJ.ret ?_
    refine PJ.then_ret ?_
    obtain rfl := Option.some.inj hm
    refine PJ.sel (L' := []) [] ⟨List.nodup_nil, rfl⟩ ?_
    exact PJ.retn (vs := [.int .i64 0, .int .i64 1]) Try.results17 ⟨rfl, rfl, trivial⟩ ⟨rfl, rfl⟩
  · replace hm := ifF hm hb7
    refine WJ.skip ?_
    refine PJ.next ?_
    refine WJ.seq ?_
    refine WJ.quiet ?_
    refine QJ.step (YldS.yld (y_move rfl)) rfl ?_
    refine QJ.step (YldS.yld (y_move rfl)) rfl ?_
    obtain ⟨r8, h9, hm⟩ := bindS hm
    refine QJ.step (y_call Try.call77 rfl (RetG.quiet fun w hw => ok_i_fewestLines h9 w _ (hr3.st hw))) rfl ?_
    refine QJ.step (YldS.yld (y_assign rfl)) rfl ?_
    refine QJ.step (YldS.yld (y_assign rfl)) rfl ?_
    refine QJ.done ?_
    refine PJ.next ?_
    refine WJ.ret ?_
    obtain rfl := Option.some.inj hm
    refine PJ.sel (L' := []) [] ⟨List.nodup_nil, rfl⟩ ?_
    exact PJ.retn (vs := [.int .i64 r8, .int .i64 0]) Try.results17 ⟨rfl, rfl, trivial⟩ ⟨rfl, rfl⟩

set_option maxRecDepth 100000 in
set_option maxHeartbeats 1000000 in
theorem ok_i_LeastWidth {N : Nat} {words1 : List Str} {lines4 : Int} {r : Int × Int} (hm : i_LeastWidth N words1 lines4 = some r) (w : World) (v2 : Value) (hr3 : RdS w (cx w).Fz v2 fStr.rp words1) :
    Calls Try.prog 18 #[v2, .int .i64 lines4] w (Ret (cx w) (tup [.int .i64 r.1, .int .i64 r.2])) := by
  unfold i_LeastWidth at hm
  refine Calls.enter [v2, .int .i64 lines4] Try.func18 rfl Try.ntmps18 rfl ?_
  refine WJ.seq ?_
  refine WJ.quiet ?_
  refine QJ.step (YldS.yld (y_assign rfl)) rfl ?_
  refine QJ.step (YldS.yld (y_assign rfl)) rfl ?_
  refine QJ.done ?_
  refine PJ.next ?_
  refine WJ.seq ?_
  refine WJ.seq ?_
  refine WJ.quiet ?_
  refine QJ.step (YldS.yld (y_move rfl)) rfl ?_
  obtain ⟨r5, h6, hm⟩ := bindS hm
  refine QJ.step (y_call Try.call74 rfl (RetG.quiet fun w hw => ok_i_ValidText h6 w _ (hr3.st hw))) rfl ?_
  refine QJ.step (YldS.yld (y_not rfl)) rfl ?_
  refine QJ.done ?_
  refine PJ.next ?_
  refine WJ.cond (t := !r5) rfl (fun hb7 => ?_) (fun hb7 => ?_)
  · replace hm := ifT hm hb7
    refine WJ.seq ?_
    refine WJ.quiet ?_
    refine QJ.step (YldS.yld (y_assign rfl)) rfl ?_
    refine QJ.step (YldS.yld (y_assign rfl)) rfl ?_
    refine QJ.done ?_
    refine PJ.next ?_
    refine WJ.ret ?_
    refine PJ.then_ret ?_
    obtain rfl := Option.some.inj hm
    refine PJ.sel (L' := []) [] ⟨List.nodup_nil, rfl⟩ ?_
    exact PJ.retn (vs := [.int .i64 0, .int .i64 1]) Try.results18 ⟨rfl, rfl, trivial⟩ ⟨rfl, rfl⟩
  · replace hm := ifF hm hb7
    refine WJ.skip ?_
    refine PJ.next ?_
    refine WJ.seq ?_
    refine WJ.seq ?_
    refine WJ.quiet ?_
    refine QJ.step (YldS.yld (y_move rfl)) rfl ?_
    obtain ⟨r8, h9, hm⟩ := bindS hm
    refine QJ.step (y_call Try.call78 rfl (RetG.quiet fun w hw => ok_i_between h9 w )) rfl ?_
    refine QJ.step (YldS.yld (y_not rfl)) rfl ?_
    refine QJ.done ?_
    refine PJ.next ?_
    refine WJ.cond (t := !r8) rfl (fun hb10 => ?_) (fun hb10 => ?_)
    · replace hm := ifT hm hb10
      refine WJ.seq ?_
      refine WJ.quiet ?_
      refine QJ.step (YldS.yld (y_assign rfl)) rfl ?_
      refine QJ.step (YldS.yld (y_assign rfl)) rfl ?_
      refine QJ.done ?_
      refine PJ.next ?_
      refine WJ.ret ?_
      refine PJ.then_ret ?_
      obtain rfl := Option.some.inj hm
      refine PJ.sel (L' := []) [] ⟨List.nodup_nil, rfl⟩ ?_
      exact PJ.retn (vs := [.int .i64 0, .int .i64 2]) Try.results18 ⟨rfl, rfl, trivial⟩ ⟨rfl, rfl⟩
    · replace hm := ifF hm hb10
      refine WJ.skip ?_
      refine PJ.next ?_
      obtain ⟨kj11, hk12, hm⟩ := withK_open hm
      refine WJ.join (X := Unit) (fun (_ : Unit) => kj11  = some r) (fun (_ : Unit) => []) (fun (_ : Unit) => []) ?_ ?_
      · clear hk12
        refine WJ.seq ?_
        refine WJ.quiet ?_
        refine QJ.step (YldS.yld (y_assign rfl)) rfl ?_
        refine QJ.done ?_
        refine PJ.next ?_
        refine WJ.block ?_
        refine WJ.sel (L' := (fun (x : Int) => []) 1) [] ⟨List.nodup_nil, rfl⟩ ?_
        refine WJ.sub (m' := (fun (x : Int) => [(0, v2), (1, .int .i64 lines4), (6, .int .i64 x)]) 1) ⟨rfl, rfl, rfl, trivial⟩ ?_
        refine WJ.loop (X := Int) (fun N (x : Int) => i_LeastWidth_l1 kj11 words1 lines4 N x = some r) (fun (x : Int) => [(0, v2), (1, .int .i64 lines4), (6, .int .i64 x)]) (fun (x : Int) => []) ?_ N 1 hm
        · rintro N width13 hI
          have hm := hI; clear hI
          cases N with
          | zero => cases hm
          | succ N =>
          unfold i_LeastWidth_l1 at hm
          refine WJ.seq ?_
          refine WJ.seq ?_
          refine WJ.quiet ?_
          refine QJ.step (YldS.yld (y_move rfl)) rfl ?_
          refine QJ.step (YldS.yld (y_bin rfl rfl rfl)) rfl ?_
          refine QJ.done ?_
          refine PJ.next ?_
          refine WJ.cond (t := decide (width13 ≤ 80)) rfl (fun hb14 => ?_) (fun hb14 => ?_)
          · replace hm := ifT hm hb14
            refine WJ.skip ?_
            refine PJ.next ?_
            refine WJ.seq ?_
            refine WJ.block ?_
            refine WJ.seq ?_
            refine WJ.quiet ?_
            refine QJ.step (YldS.yld (y_move rfl)) rfl ?_
            refine QJ.step (YldS.yld (y_move rfl)) rfl ?_
            obtain ⟨r15, h16, hm⟩ := bindS hm
            refine QJ.step (y_call Try.call74 rfl (RetG.quiet fun w hw => ok_i_ValidText h16 w _ (hr3.st hw))) rfl ?_
            refine QJ.step (YldS.yld (y_move rfl)) rfl ?_
            obtain ⟨t17, h18, hm⟩ := bindS hm
            refine QJ.cut 6 [(0, v2), (1, .int .i64 lines4), (6, .int .i64 width13), (26, .bool t17)] ?_ ?_
            · rcases Bool.eq_false_or_eq_true r15 with hb19 | hb19
              · replace h18 := andT h18 hb19
                refine QJ.on rfl rfl (cB hb19) (YldS.yld (y_move rfl)) rfl ?_
                refine QJ.on rfl rfl (cB hb19) (YldS.yld (y_move rfl)) rfl ?_
                obtain ⟨r20, h21, h18⟩ := bindS h18
                refine QJ.on rfl rfl (cB hb19) (y_call Try.call77 rfl (RetG.quiet fun w hw => ok_i_fewestLines h21 w _ (hr3.st hw))) rfl ?_
                refine QJ.on rfl rfl (cB hb19) (YldS.yld (y_move rfl)) rfl ?_
                refine QJ.on rfl rfl (cB hb19) (YldS.yld (y_bin rfl rfl rfl)) rfl ?_
                refine QJ.step (YldS.yld (y_pick_t (cB hb19) rfl)) rfl ?_
                obtain rfl := Option.some.inj h18
                exact QJ.cut_end ⟨rfl, rfl, rfl, rfl, trivial⟩
              · obtain rfl := andF h18 hb19
                refine QJ.off rfl rfl (cB hb19) rfl rfl ?_
                refine QJ.off rfl rfl (cB hb19) rfl rfl ?_
                refine QJ.off rfl rfl (cB hb19) rfl rfl ?_
                refine QJ.off rfl rfl (cB hb19) rfl rfl ?_
                refine QJ.off rfl rfl (cB hb19) rfl rfl ?_
                refine QJ.step (YldS.yld (y_pick_f (cB hb19) rfl)) rfl ?_
                exact QJ.cut_end ⟨rfl, rfl, rfl, rfl, trivial⟩
            refine QJ.done ?_
            refine PJ.next ?_
            refine WJ.cond (t := t17) rfl (fun hb22 => ?_) (fun hb22 => ?_)
            · replace hm := ifT hm hb22
              refine WJ.seq ?_
              refine WJ.quiet ?_
              refine QJ.step (YldS.yld (y_move rfl)) rfl ?_
              refine QJ.step (YldS.yld (y_assign rfl)) rfl ?_
              refine QJ.step (YldS.yld (y_assign rfl)) rfl ?_
              refine QJ.done ?_
              refine PJ.next ?_
              refine WJ.ret ?_
              refine PJ.block_ret (PJ.then_ret (PJ.then_ret (PJ.block_ret (PJ.then_ret ?_))))
              obtain rfl := Option.some.inj hm
              refine PJ.sel (L' := []) [] ⟨List.nodup_nil, rfl⟩ ?_
              exact PJ.retn (vs := [.int .i64 width13, .int .i64 0]) Try.results18 ⟨rfl, rfl, trivial⟩ ⟨rfl, rfl⟩
            · replace hm := ifF hm hb22
              refine WJ.skip ?_
              refine PJ.block_normal (PJ.next ?_)
              refine WJ.quiet ?_
              refine QJ.step (YldS.yld (y_move rfl)) rfl ?_
              refine QJ.step (YldS.yld (y_bin rfl rfl rfl)) rfl ?_
              refine QJ.step (YldS.yld (y_assign rfl)) rfl ?_
              refine QJ.done ?_
              exact PJ.round (w64 (width13 + 1)) [] hm ⟨rfl, rfl, rfl, trivial⟩ ⟨List.nodup_nil, rfl⟩
          · replace hm := ifF hm hb14
            refine WJ.exit ?_
            refine PJ.then_exit (PJ.then_exit (PJ.block_exit ?_))
            exact PJ.joined () [] hm trivial ⟨List.nodup_nil, rfl⟩
      · rintro _ hm
        subst hk12
        refine WJ.seq ?_
        refine WJ.quiet ?_
        refine QJ.step (YldS.yld (y_assign rfl)) rfl ?_
        refine QJ.step (YldS.yld (y_assign rfl)) rfl ?_
        refine QJ.done ?_
        refine PJ.next ?_
        refine WJ.ret ?_
        obtain rfl := Option.some.inj hm
        refine PJ.sel (L' := []) [] ⟨List.nodup_nil, rfl⟩ ?_
        exact PJ.retn (vs := [.int .i64 0, .int .i64 5]) Try.results18 ⟨rfl, rfl, trivial⟩ ⟨rfl, rfl⟩

set_option maxRecDepth 100000 in
set_option maxHeartbeats 1000000 in
theorem ok_s_l00In {n1 : Int} {low2 : Int} {high3 : Int} {r : Bool} (hm : s_l00In n1 low2 high3 = some r) (w : World)  :
    Calls Try.prog 88 #[.int .i64 n1, .int .i64 low2, .int .i64 high3] w (Ret (cx w) (.bool r)) := by
  unfold s_l00In at hm
  refine Calls.enter [.int .i64 n1, .int .i64 low2, .int .i64 high3] Try.func88 rfl Try.ntmps88 rfl ?_
  refine WJ.seq ?_
  refine WJ.quiet ?_
  refine QJ.step (YldS.yld (y_assign rfl)) rfl ?_
  refine QJ.done ?_
  refine PJ.next ?_
  refine WJ.seq ?_
  refine WJ.quiet ?_
  refine QJ.step (YldS.yld (y_move rfl)) rfl ?_
  refine QJ.step (YldS.yld (y_move rfl)) rfl ?_
  refine QJ.step (YldS.yld (y_bin rfl rfl rfl)) rfl ?_
  refine QJ.step (YldS.yld (y_move rfl)) rfl ?_
  obtain ⟨t4, h5, hm⟩ := bindS hm
  refine QJ.cut 4 [(14, .bool t4)] ?_ ?_
  · rcases Bool.eq_false_or_eq_true (decide (n1 ≥ low2)) with hb6 | hb6
    · replace h5 := andT h5 hb6
      refine QJ.on rfl rfl (cB hb6) (YldS.yld (y_move rfl)) rfl ?_
      refine QJ.on rfl rfl (cB hb6) (YldS.yld (y_move rfl)) rfl ?_
      refine QJ.on rfl rfl (cB hb6) (YldS.yld (y_bin rfl rfl rfl)) rfl ?_
      refine QJ.step (YldS.yld (y_pick_t (cB hb6) rfl)) rfl ?_
      obtain rfl := Option.some.inj h5
      exact QJ.cut_end ⟨rfl, trivial⟩
    · obtain rfl := andF h5 hb6
      refine QJ.off rfl rfl (cB hb6) rfl rfl ?_
      refine QJ.off rfl rfl (cB hb6) rfl rfl ?_
      refine QJ.off rfl rfl (cB hb6) rfl rfl ?_
      refine QJ.step (YldS.yld (y_pick_f (cB hb6) rfl)) rfl ?_
      exact QJ.cut_end ⟨rfl, trivial⟩
  refine QJ.step (YldS.yld (y_assign rfl)) rfl ?_
  refine QJ.done ?_
  refine PJ.next ?_
  refine WJ.ret ?_
  obtain rfl := Option.some.inj hm
  refine PJ.sel (L' := []) [] ⟨List.nodup_nil, rfl⟩ ?_
  exact PJ.retn (vs := [.bool t4]) Try.results88 ⟨rfl, trivial⟩ ⟨rfl, rfl⟩

set_option maxRecDepth 100000 in
set_option maxHeartbeats 1000000 in
theorem ok_s_l09Word {N : Nat} {w1 : Str} {most2 : Int} {r : Bool} (hm : s_l09Word N w1 most2 = some r) (w : World)  :
    Calls Try.prog 122 #[str w1, .int .i64 most2] w (Ret (cx w) (.bool r)) := by
  unfold s_l09Word at hm
  refine Calls.enter [str w1, .int .i64 most2] Try.func122 rfl Try.ntmps122 rfl ?_
  refine WJ.seq ?_
  refine WJ.quiet ?_
  refine QJ.step (YldS.yld (y_assign rfl)) rfl ?_
  refine QJ.done ?_
  refine PJ.next ?_
  obtain ⟨kj3, hk4, hm⟩ := withK_open hm
  refine WJ.join (X := Unit) (fun (_ : Unit) => kj3  = some r) (fun (_ : Unit) => [(0, str w1), (1, .int .i64 most2)]) (fun (_ : Unit) => []) ?_ ?_
  · clear hk4
    refine WJ.seq ?_
    refine WJ.quiet ?_
    refine QJ.step (YldS.yld (y_assign rfl)) rfl ?_
    refine QJ.done ?_
    refine PJ.next ?_
    refine WJ.block ?_
    refine WJ.sel (L' := (fun (x : Int) => []) 0) [] ⟨List.nodup_nil, rfl⟩ ?_
    refine WJ.sub (m' := (fun (x : Int) => [(0, str w1), (1, .int .i64 most2), (5, .int .i64 x)]) 0) ⟨rfl, rfl, rfl, trivial⟩ ?_
    refine WJ.loop (X := Int) (fun N (x : Int) => s_l09Word_l1 kj3 w1 N x = some r) (fun (x : Int) => [(0, str w1), (1, .int .i64 most2), (5, .int .i64 x)]) (fun (x : Int) => []) ?_ N 0 hm
    · rintro N i5 hI
      have hm := hI; clear hI
      cases N with
      | zero => cases hm
      | succ N =>
      unfold s_l09Word_l1 at hm
      refine WJ.seq ?_
      refine WJ.seq ?_
      refine WJ.quiet ?_
      refine QJ.step (YldS.yld (y_move rfl)) rfl ?_
      refine QJ.step (YldS.yld (y_move rfl)) rfl ?_
      refine QJ.step (YldS.yld (y_lenStr Try.runUnderlying9 rfl)) rfl ?_
      refine QJ.step (YldS.yld (y_bin rfl rfl rfl)) rfl ?_
      refine QJ.done ?_
      refine PJ.next ?_
      refine WJ.cond (t := decide (i5 < (List.length w1 : Int))) rfl (fun hb6 => ?_) (fun hb6 => ?_)
      · replace hm := ifT hm hb6
        refine WJ.skip ?_
        refine PJ.next ?_
        refine WJ.seq ?_
        refine WJ.block ?_
        refine WJ.seq ?_
        refine WJ.quiet ?_
        refine QJ.step (YldS.yld (y_move rfl)) rfl ?_
        refine QJ.step (YldS.yld (y_move rfl)) rfl ?_
        obtain ⟨c7, h8, hm⟩ := bindS hm
        refine QJ.step (YldS.yld (y_idxStr Try.runUnderlying9 rfl rfl h8)) rfl ?_
        refine QJ.step (YldS.yld (y_bin8 c7 (33 : UInt8) rfl rfl rfl)) rfl ?_
        refine QJ.step (YldS.yld (y_move rfl)) rfl ?_
        obtain ⟨t9, h10, hm⟩ := bindS hm
        refine QJ.cut 5 [(0, str w1), (1, .int .i64 most2), (5, .int .i64 i5), (21, .bool t9)] ?_ ?_
        · rcases Bool.eq_false_or_eq_true (decide (c7 < (33 : UInt8))) with hb11 | hb11
          · obtain rfl := orT h10 hb11
            refine QJ.off rfl rfl (cB hb11) rfl rfl ?_
            refine QJ.off rfl rfl (cB hb11) rfl rfl ?_
            refine QJ.off rfl rfl (cB hb11) rfl rfl ?_
            refine QJ.off rfl rfl (cB hb11) rfl rfl ?_
            refine QJ.step (YldS.yld (y_pick_t (cB hb11) rfl)) rfl ?_
            exact QJ.cut_end ⟨rfl, rfl, rfl, rfl, trivial⟩
          · replace h10 := orF h10 hb11
            refine QJ.on rfl rfl (cB hb11) (YldS.yld (y_move rfl)) rfl ?_
            refine QJ.on rfl rfl (cB hb11) (YldS.yld (y_move rfl)) rfl ?_
            obtain ⟨c12, h13, h10⟩ := bindS h10
            refine QJ.on rfl rfl (cB hb11) (YldS.yld (y_idxStr Try.runUnderlying9 rfl rfl h13)) rfl ?_
            refine QJ.on rfl rfl (cB hb11) (YldS.yld (y_bin8 c12 (126 : UInt8) rfl rfl rfl)) rfl ?_
            refine QJ.step (YldS.yld (y_pick_f (cB hb11) rfl)) rfl ?_
            obtain rfl := Option.some.inj h10
            exact QJ.cut_end ⟨rfl, rfl, rfl, rfl, trivial⟩
        refine QJ.done ?_
        refine PJ.next ?_
        refine WJ.cond (t := t9) rfl (fun hb14 => ?_) (fun hb14 => ?_)
        · replace hm := ifT hm hb14
          refine WJ.seq ?_
          refine WJ.quiet ?_
          refine QJ.step (YldS.yld (y_assign rfl)) rfl ?_
          refine QJ.done ?_
          refine PJ.next ?_
          refine WJ.ret ?_
          refine PJ.block_ret (PJ.then_ret (PJ.then_ret (PJ.block_ret (PJ.then_ret ?_))))
          obtain rfl := Option.some.inj hm
          refine PJ.sel (L' := []) [] ⟨List.nodup_nil, rfl⟩ ?_
          exact PJ.retn (vs := [.bool false]) Try.results122 ⟨rfl, trivial⟩ ⟨rfl, rfl⟩
        · replace hm := ifF hm hb14
          refine WJ.skip ?_
          refine PJ.block_normal (PJ.next ?_)
          refine WJ.quiet ?_
          refine QJ.step (YldS.yld (y_move rfl)) rfl ?_
          refine QJ.step (YldS.yld (y_bin rfl rfl rfl)) rfl ?_
          refine QJ.step (YldS.yld (y_assign rfl)) rfl ?_
          refine QJ.done ?_
          exact PJ.round (w64 (i5 + 1)) [] hm ⟨rfl, rfl, rfl, trivial⟩ ⟨List.nodup_nil, rfl⟩
      · replace hm := ifF hm hb6
        refine WJ.exit ?_
        refine PJ.then_exit (PJ.then_exit (PJ.block_exit ?_))
        exact PJ.joined () [] hm ⟨rfl, rfl, trivial⟩ ⟨List.nodup_nil, rfl⟩
  · rintro _ hm
    subst hk4
    refine WJ.seq ?_
    refine WJ.quiet ?_
    refine QJ.step (YldS.yld (y_move rfl)) rfl ?_
    refine QJ.step (YldS.yld (y_lenStr Try.runUnderlying9 rfl)) rfl ?_
    refine QJ.step (YldS.yld (y_move rfl)) rfl ?_
    obtain ⟨r15, h16, hm⟩ := bindS hm
    refine QJ.step (y_call Try.call88 rfl (RetG.quiet fun w hw => ok_s_l00In h16 w )) rfl ?_
    refine QJ.step (YldS.yld (y_assign rfl)) rfl ?_
    refine QJ.done ?_
    refine PJ.next ?_
    refine WJ.ret ?_
    obtain rfl := Option.some.inj hm
    refine PJ.sel (L' := []) [] ⟨List.nodup_nil, rfl⟩ ?_
    exact PJ.retn (vs := [.bool r15]) Try.results122 ⟨rfl, trivial⟩ ⟨rfl, rfl⟩

set_option maxRecDepth 100000 in
set_option maxHeartbeats 1000000 in
theorem ok_s_l09Ok {N : Nat} {words1 : List Str} {width4 : Int} {r : Bool} (hm : s_l09Ok N words1 width4 = some r) (w : World) (v2 : Value) (hr3 : RdS w (cx w).Fz v2 fStr.rp words1) :
    Calls Try.prog 79 #[v2, .int .i64 width4] w (Ret (cx w) (.bool r)) := by
  unfold s_l09Ok at hm
  refine Calls.enter [v2, .int .i64 width4] Try.func79 rfl Try.ntmps79 rfl ?_
  refine WJ.seq ?_
  refine WJ.quiet ?_
  refine QJ.step (YldS.yld (y_assign rfl)) rfl ?_
  refine QJ.done ?_
  refine PJ.next ?_
  obtain ⟨kj5, hk6, hm⟩ := withK_open hm
  refine WJ.join (X := Unit) (fun (_ : Unit) => kj5  = some r) (fun (_ : Unit) => [(0, v2), (1, .int .i64 width4)]) (fun (_ : Unit) => []) ?_ ?_
  · clear hk6
    refine WJ.seq ?_
    refine WJ.quiet ?_
    refine QJ.step (YldS.yld (y_assign rfl)) rfl ?_
    refine QJ.done ?_
    refine PJ.next ?_
    refine WJ.block ?_
    refine WJ.sel (L' := (fun (x : Int) => []) 0) [] ⟨List.nodup_nil, rfl⟩ ?_
    refine WJ.sub (m' := (fun (x : Int) => [(0, v2), (1, .int .i64 width4), (5, .int .i64 x)]) 0) ⟨rfl, rfl, rfl, trivial⟩ ?_
    refine WJ.loop (X := Int) (fun N (x : Int) => s_l09Ok_l1 kj5 words1 width4 N x = some r) (fun (x : Int) => [(0, v2), (1, .int .i64 width4), (5, .int .i64 x)]) (fun (x : Int) => []) ?_ N 0 hm
    · rintro N i7 hI
      have hm := hI; clear hI
      cases N with
      | zero => cases hm
      | succ N =>
      unfold s_l09Ok_l1 at hm
      refine WJ.seq ?_
      refine WJ.seq ?_
      refine WJ.quiet ?_
      refine QJ.step (YldS.yld (y_move rfl)) rfl ?_
      refine QJ.step (YldS.yld (y_move rfl)) rfl ?_
      refine QJ.step (YldS.yld (y_lenS Try.runUnderlying24 hr3 rfl)) rfl ?_
      refine QJ.step (YldS.yld (y_bin rfl rfl rfl)) rfl ?_
      refine QJ.done ?_
      refine PJ.next ?_
      refine WJ.cond (t := decide (i7 < (List.length words1 : Int))) rfl (fun hb8 => ?_) (fun hb8 => ?_)
      · replace hm := ifT hm hb8
        refine WJ.skip ?_
        refine PJ.next ?_
        refine WJ.seq ?_
        refine WJ.block ?_
        refine WJ.seq ?_
        refine WJ.quiet ?_
        refine QJ.step (YldS.yld (y_move rfl)) rfl ?_
        refine QJ.step (YldS.yld (y_move rfl)) rfl ?_
        obtain ⟨e9, h10, hm⟩ := bindS hm
        obtain ⟨ad11, _, rfl, ha12, hy13⟩ := hr3.elem h10
        refine QJ.step (YldS.yld (hy13 Try.runUnderlying24 Try.sizeOf9 rfl rfl)) rfl ?_
        refine QJ.step (YldS.yld (y_load1 (v := str e9) Try.isAgg9 ha12 St.frozenC rfl)) rfl ?_
        refine QJ.step (YldS.yld (y_move rfl)) rfl ?_
        obtain ⟨r14, h15, hm⟩ := bindS hm
        refine QJ.step (y_call Try.call122 rfl (RetG.quiet fun w hw => ok_s_l09Word h15 w )) rfl ?_
        refine QJ.step (YldS.yld (y_not rfl)) rfl ?_
        refine QJ.done ?_
        refine PJ.next ?_
        refine WJ.cond (t := !r14) rfl (fun hb16 => ?_) (fun hb16 => ?_)
        · replace hm := ifT hm hb16
          refine WJ.seq ?_
          refine WJ.quiet ?_
          refine QJ.step (YldS.yld (y_assign rfl)) rfl ?_
          refine QJ.done ?_
          refine PJ.next ?_
          refine WJ.ret ?_
          refine PJ.block_ret (PJ.then_ret (PJ.then_ret (PJ.block_ret (PJ.then_ret ?_))))
          obtain rfl := Option.some.inj hm
          refine PJ.sel (L' := []) [] ⟨List.nodup_nil, rfl⟩ ?_
          exact PJ.retn (vs := [.bool false]) Try.results79 ⟨rfl, trivial⟩ ⟨rfl, rfl⟩
        · replace hm := ifF hm hb16
          refine WJ.skip ?_
          refine PJ.block_normal (PJ.next ?_)
          refine WJ.quiet ?_
          refine QJ.step (YldS.yld (y_move rfl)) rfl ?_
          refine QJ.step (YldS.yld (y_bin rfl rfl rfl)) rfl ?_
          refine QJ.step (YldS.yld (y_assign rfl)) rfl ?_
          refine QJ.done ?_
          exact PJ.round (w64 (i7 + 1)) [] hm ⟨rfl, rfl, rfl, trivial⟩ ⟨List.nodup_nil, rfl⟩
      · replace hm := ifF hm hb8
        refine WJ.exit ?_
        refine PJ.then_exit (PJ.then_exit (PJ.block_exit ?_))
        exact PJ.joined () [] hm ⟨rfl, rfl, trivial⟩ ⟨List.nodup_nil, rfl⟩
  · rintro _ hm
    subst hk6
    refine WJ.seq ?_
    refine WJ.quiet ?_
    refine QJ.step (YldS.yld (y_move rfl)) rfl ?_
    refine QJ.step (YldS.yld (y_lenS Try.runUnderlying24 hr3 rfl)) rfl ?_
    refine QJ.step (YldS.yld (y_bin rfl rfl rfl)) rfl ?_
    refine QJ.step (YldS.yld (y_move rfl)) rfl ?_
    obtain ⟨t17, h18, hm⟩ := bindS hm
    refine QJ.cut 3 [(25, .bool t17)] ?_ ?_
    · rcases Bool.eq_false_or_eq_true (decide ((List.length words1 : Int) ≤ 40)) with hb19 | hb19
      · replace h18 := andT h18 hb19
        refine QJ.on rfl rfl (cB hb19) (YldS.yld (y_move rfl)) rfl ?_
        obtain ⟨r20, h21, h18⟩ := bindS h18
        refine QJ.on rfl rfl (cB hb19) (y_call Try.call88 rfl (RetG.quiet fun w hw => ok_s_l00In h21 w )) rfl ?_
        refine QJ.step (YldS.yld (y_pick_t (cB hb19) rfl)) rfl ?_
        obtain rfl := Option.some.inj h18
        exact QJ.cut_end ⟨rfl, trivial⟩
      · obtain rfl := andF h18 hb19
        refine QJ.off rfl rfl (cB hb19) rfl rfl ?_
        refine QJ.off rfl rfl (cB hb19) rfl rfl ?_
        refine QJ.step (YldS.yld (y_pick_f (cB hb19) rfl)) rfl ?_
        exact QJ.cut_end ⟨rfl, trivial⟩
    refine QJ.step (YldS.yld (y_assign rfl)) rfl ?_
    refine QJ.done ?_
    refine PJ.next ?_
    refine WJ.ret ?_
    obtain rfl := Option.some.inj hm
    refine PJ.sel (L' := []) [] ⟨List.nodup_nil, rfl⟩ ?_
    exact PJ.retn (vs := [.bool t17]) Try.results79 ⟨rfl, trivial⟩ ⟨rfl, rfl⟩

set_option maxRecDepth 100000 in
set_option maxHeartbeats 1000000 in
theorem ok_s_FewestLines {N : Nat} {words1 : List Str} {width4 : Int} {r : Int × Int} (hm : s_FewestLines N words1 width4 = some r) (w : World) (v2 : Value) (hr3 : RdS w (cx w).Fz v2 fStr.rp words1) :
    Calls Try.prog 19 #[v2, .int .i64 width4] w (Ret (cx w) (tup [.int .i64 r.1, .int .i64 r.2])) := by
  unfold s_FewestLines at hm
  refine Calls.enter [v2, .int .i64 width4] Try.func19 rfl Try.ntmps19 rfl ?_
  refine WJ.seq ?_
  refine WJ.quiet ?_
  refine QJ.step (YldS.yld (y_assign rfl)) rfl ?_
  refine QJ.step (YldS.yld (y_assign rfl)) rfl ?_
  refine QJ.done ?_
  refine PJ.next ?_
  refine WJ.seq ?_
  refine WJ.seq ?_
  refine WJ.quiet ?_
  refine QJ.step (YldS.yld (y_move rfl)) rfl ?_
  refine QJ.step (YldS.yld (y_move rfl)) rfl ?_
  obtain ⟨r5, h6, hm⟩ := bindS hm
  refine QJ.step (y_call Try.call79 rfl (RetG.quiet fun w hw => ok_s_l09Ok h6 w _ (hr3.st hw))) rfl ?_
  refine QJ.step (YldS.yld (y_not rfl)) rfl ?_
  refine QJ.done ?_
  refine PJ.next ?_
  refine WJ.cond (t := !r5) rfl (fun hb7 => ?_) (fun hb7 => ?_)
  · replace hm := ifT hm hb7
    refine WJ.seq ?_
    refine WJ.quiet ?_
    refine QJ.step (YldS.yld (y_assign rfl)) rfl ?_
    refine QJ.step (YldS.yld (y_assign rfl)) rfl ?_
    refine QJ.done ?_
    refine PJ.next ?_
    refine WJ.ret ?_
    refine PJ.then_ret ?_
    obtain rfl := Option.some.inj hm
    refine PJ.sel (L' := []) [] ⟨List.nodup_nil, rfl⟩ ?_
    exact PJ.retn (vs := [.int .i64 0, .int .i64 1]) Try.results19 ⟨rfl, rfl, trivial⟩ ⟨rfl, rfl⟩
  · replace hm := ifF hm hb7
    refine WJ.skip ?_
    refine PJ.next ?_
    refine WJ.seq ?_
    refine WJ.seq ?_
    refine WJ.quiet ?_
    refine QJ.step (YldS.yld (y_move rfl)) rfl ?_
    refine QJ.step (YldS.yld (y_lenS Try.runUnderlying24 hr3 rfl)) rfl ?_
    refine QJ.step (YldS.yld (y_bin rfl rfl rfl)) rfl ?_
    refine QJ.done ?_
    refine PJ.next ?_
    refine WJ.cond (t := ((List.length words1 : Int) == 0)) rfl (fun hb8 => ?_) (fun hb8 => ?_)
    · replace hm := ifT hm hb8
      refine WJ.seq ?_
      refine WJ.quiet ?_
      refine QJ.step (YldS.yld (y_assign rfl)) rfl ?_
      refine QJ.step (YldS.yld (y_assign rfl)) rfl ?_
      refine QJ.done ?_
      refine PJ.next ?_
      refine WJ.ret ?_
      refine PJ.then_ret ?_
      obtain rfl := Option.some.inj hm
      refine PJ.sel (L' := []) [] ⟨List.nodup_nil, rfl⟩ ?_
      exact PJ.retn (vs := [.int .i64 0, .int .i64 0]) Try.results19 ⟨rfl, rfl, trivial⟩ ⟨rfl, rfl⟩
    · replace hm := ifF hm hb8
      refine WJ.skip ?_
      refine PJ.next ?_
      refine WJ.seq ?_
      refine WJ.reg ?_
      refine SJ.q (YldS.yld (y_move rfl)) rfl ?_
      refine SJ.q (YldS.yld (y_move rfl)) rfl ?_
      obtain ⟨r9, h10, hm⟩ := bindS hm
      refine SJ.call Try.call65 rfl (fun w hw => ok_s_l09First h10 w _ (hr3.st hw)) rfl ?_
      rintro v11 _ ⟨_, rfl, rfl⟩
      refine SJ.q (YldS.yld (y_lenRow (k := 0) rfl Try.runUnderlying27 rfl)) rfl ?_
      refine SJ.q (YldS.yld (y_bin rfl rfl rfl)) rfl ?_
      refine SJ.q (YldS.yld (y_assign rfl)) rfl ?_
      refine SJ.q (YldS.yld (y_assign rfl)) rfl ?_
      refine SJ.nil ?_
      refine PJ.next ?_
      refine WJ.ret ?_
      obtain rfl := Option.some.inj hm
      refine PJ.sel (L' := []) [] ⟨List.nodup_nil, rfl⟩ ?_
      exact PJ.retn (vs := [.int .i64 (w64 ((List.length r9 : Int) + 1)), .int .i64 0]) Try.results19 ⟨rfl, rfl, trivial⟩ ⟨rfl, rfl⟩

set_option maxRecDepth 100000 in
set_option maxHeartbeats 1000000 in
theorem ok_w_FnBreaks {N : Nat} {code1 : List UInt8} {more4 : List UInt8} {r : Bool} (hm : w_FnBreaks N code1 more4 = some r) (w : World) (v2 : Value) (hr3 : RdS w (cx w).Fz v2 fByte.rp code1) (v5 : Value) (hr6 : RdS w (cx w).Fz v5 fByte.rp more4) :
    Calls Try.prog 4 #[v2, v5] w (Ret (cx w) (.bool r)) := by
  unfold w_FnBreaks at hm
  refine Calls.enter [v2, v5] Try.func4 rfl Try.ntmps4 rfl ?_
  refine WJ.seq ?_
  refine WJ.quiet ?_
  refine QJ.step (YldS.yld (y_assign rfl)) rfl ?_
  refine QJ.done ?_
  refine PJ.next ?_
  refine WJ.seq ?_
  refine WJ.seq ?_
  refine WJ.quiet ?_
  refine QJ.step (YldS.yld (y_move rfl)) rfl ?_
  refine QJ.step (YldS.yld (y_move rfl)) rfl ?_
  obtain ⟨r7, h8, hm⟩ := bindS hm
  refine QJ.step (y_call Try.call7 rfl (RetG.quiet fun w hw => ok_w_a2Long h8 w _ (hr3.st hw) _ (hr6.st hw))) rfl ?_
  refine QJ.done ?_
  refine PJ.next ?_
  refine WJ.cond (t := r7) rfl (fun hb9 => ?_) (fun hb9 => ?_)
  · replace hm := ifT hm hb9
    refine WJ.seq ?_
    refine WJ.quiet ?_
    refine QJ.step (YldS.yld (y_assign rfl)) rfl ?_
    refine QJ.done ?_
    refine PJ.next ?_
    refine WJ.ret ?_
    refine PJ.then_ret ?_
    obtain rfl := Option.some.inj hm
    refine PJ.sel (L' := []) [] ⟨List.nodup_nil, rfl⟩ ?_
    exact PJ.retn (vs := [.bool true]) Try.results4 ⟨rfl, trivial⟩ ⟨rfl, rfl⟩
  · replace hm := ifF hm hb9
    refine WJ.skip ?_
    refine PJ.next ?_
    refine WJ.seq ?_
    refine WJ.reg ?_
    refine SJ.q (YldS.yld (y_move rfl)) rfl ?_
    obtain ⟨r10, h11, hm⟩ := bindS hm
    refine SJ.call Try.call8 rfl (fun w hw => ok_s_A2Words h11 w _ (hr3.st hw)) rfl ?_
    rintro _ _ ⟨v12, rfl, rfl⟩
    refine SJ.q (YldS.yld (y_move rfl)) rfl ?_
    refine SJ.q (YldS.yld (y_extract rfl rfl)) rfl ?_
    refine SJ.q (YldS.yld (y_extract rfl rfl)) rfl ?_
    refine SJ.q (YldS.yld (y_assign rfl)) rfl ?_
    refine SJ.q (YldS.yld (y_assign rfl)) rfl ?_
    refine SJ.nil ?_
    refine PJ.next ?_
    refine WJ.seq ?_
    refine WJ.reg ?_
    refine SJ.q (YldS.yld (y_move rfl)) rfl ?_
    refine SJ.q (YldS.yld (y_move rfl)) rfl ?_
    refine SJ.q (YldS.yld (y_move rfl)) rfl ?_
    obtain ⟨r13, h14, hm⟩ := bindS hm
    refine SJ.call Try.call9 rfl (fun w hw => ok_s_A2Breaks h14 w _ (hr6.st hw) _ (hw.row_rd (k := 0) rfl)) rfl ?_
    rintro v15 _ ⟨_, rfl, rfl⟩
    refine SJ.q (YldS.yld (y_assign rfl)) rfl ?_
    refine SJ.nil ?_
    refine PJ.next ?_
    refine WJ.seq ?_
    refine WJ.reg ?_
    refine SJ.q (YldS.yld (y_move rfl)) rfl ?_
    refine SJ.q (YldS.yld (y_move rfl)) rfl ?_
    obtain ⟨r16, h17, hm⟩ := bindS hm
    refine SJ.call Try.call14 rfl (fun w hw => ok_i_BestBreaks h17 w _ (hw.row_rd (k := 1) rfl)) rfl ?_
    rintro _ _ ⟨v18, rfl, rfl⟩
    refine SJ.q (YldS.yld (y_move rfl)) rfl ?_
    refine SJ.q (YldS.yld (y_extract rfl rfl)) rfl ?_
    refine SJ.q (YldS.yld (y_extract rfl rfl)) rfl ?_
    refine SJ.q (YldS.yld (y_extract rfl rfl)) rfl ?_
    refine SJ.q (YldS.yld (y_assign rfl)) rfl ?_
    refine SJ.q (YldS.yld (y_assign rfl)) rfl ?_
    refine SJ.q (YldS.yld (y_assign rfl)) rfl ?_
    refine SJ.nil ?_
    refine PJ.next ?_
    refine WJ.seq ?_
    refine WJ.quiet ?_
    refine QJ.step (YldS.yld (y_move rfl)) rfl ?_
    refine QJ.step (YldS.yld (y_move rfl)) rfl ?_
    refine QJ.step (YldS.yld (y_move rfl)) rfl ?_
    obtain ⟨r19, h20, hm⟩ := bindS hm
    refine QJ.step (y_call Try.call15 rfl (RetG.quiet fun w hw => ok_i_BadnessOf h20 w _ (hw.row_rd (k := 2) rfl) _ (hw.row_rd (k := 0) rfl))) rfl ?_
    refine QJ.step (YldS.yld (y_move rfl)) rfl ?_
    refine QJ.step (YldS.yld (y_extract rfl rfl)) rfl ?_
    refine QJ.step (YldS.yld (y_extract rfl rfl)) rfl ?_
    refine QJ.step (YldS.yld (y_assign rfl)) rfl ?_
    refine QJ.step (YldS.yld (y_assign rfl)) rfl ?_
    refine QJ.done ?_
    refine PJ.next ?_
    refine WJ.seq ?_
    refine WJ.quiet ?_
    refine QJ.step (YldS.yld (y_move rfl)) rfl ?_
    refine QJ.step (YldS.yld (y_move rfl)) rfl ?_
    refine QJ.step (YldS.yld (y_move rfl)) rfl ?_
    obtain ⟨r21, h22, hm⟩ := bindS hm
    refine QJ.step (y_call Try.call15 rfl (RetG.quiet fun w hw => ok_i_BadnessOf h22 w _ (hw.row_rd (k := 2) rfl) _ (hw.row_rd (k := 1) rfl))) rfl ?_
    refine QJ.step (YldS.yld (y_move rfl)) rfl ?_
    refine QJ.step (YldS.yld (y_extract rfl rfl)) rfl ?_
    refine QJ.step (YldS.yld (y_extract rfl rfl)) rfl ?_
    refine QJ.step (YldS.yld (y_assign rfl)) rfl ?_
    refine QJ.step (YldS.yld (y_assign rfl)) rfl ?_
    refine QJ.done ?_
    refine PJ.next ?_
    refine WJ.seq ?_
    refine WJ.reg ?_
    refine SJ.q (YldS.yld (y_move rfl)) rfl ?_
    refine SJ.q (YldS.yld (y_move rfl)) rfl ?_
    obtain ⟨r23, h24, hm⟩ := bindS hm
    refine SJ.call Try.call16 rfl (fun w hw => ok_i_FirstBreaks h24 w _ (hw.row_rd (k := 2) rfl)) rfl ?_
    rintro _ _ ⟨v25, rfl, rfl⟩
    refine SJ.q (YldS.yld (y_move rfl)) rfl ?_
    refine SJ.q (YldS.yld (y_extract rfl rfl)) rfl ?_
    refine SJ.q (YldS.yld (y_extract rfl rfl)) rfl ?_
    refine SJ.q (YldS.yld (y_assign rfl)) rfl ?_
    refine SJ.q (YldS.yld (y_assign rfl)) rfl ?_
    refine SJ.nil ?_
    refine PJ.next ?_
    refine WJ.seq ?_
    refine WJ.quiet ?_
    refine QJ.step (YldS.yld (y_move rfl)) rfl ?_
    refine QJ.step (YldS.yld (y_move rfl)) rfl ?_
    refine QJ.step (YldS.yld (y_move rfl)) rfl ?_
    obtain ⟨r26, h27, hm⟩ := bindS hm
    refine QJ.step (y_call Try.call15 rfl (RetG.quiet fun w hw => ok_i_BadnessOf h27 w _ (hw.row_rd (k := 3) rfl) _ (hw.row_rd (k := 0) rfl))) rfl ?_
    refine QJ.step (YldS.yld (y_move rfl)) rfl ?_
    refine QJ.step (YldS.yld (y_extract rfl rfl)) rfl ?_
    refine QJ.step (YldS.yld (y_extract rfl rfl)) rfl ?_
    refine QJ.step (YldS.yld (y_assign rfl)) rfl ?_
    refine QJ.step (YldS.yld (y_assign rfl)) rfl ?_
    refine QJ.done ?_
    refine PJ.next ?_
    refine WJ.seq ?_
    refine WJ.quiet ?_
    refine QJ.step (YldS.yld (y_move rfl)) rfl ?_
    refine QJ.step (YldS.yld (y_move rfl)) rfl ?_
    obtain ⟨r28, h29, hm⟩ := bindS hm
    refine QJ.step (y_call Try.call17 rfl (RetG.quiet fun w hw => ok_i_FewestLines h29 w _ (hw.row_rd (k := 3) rfl))) rfl ?_
    refine QJ.step (YldS.yld (y_move rfl)) rfl ?_
    refine QJ.step (YldS.yld (y_extract rfl rfl)) rfl ?_
    refine QJ.step (YldS.yld (y_extract rfl rfl)) rfl ?_
    refine QJ.step (YldS.yld (y_assign rfl)) rfl ?_
    refine QJ.step (YldS.yld (y_assign rfl)) rfl ?_
    refine QJ.done ?_
    refine PJ.next ?_
    refine WJ.seq ?_
    refine WJ.seq ?_
    refine WJ.quiet ?_
    refine QJ.step (YldS.yld (y_move rfl)) rfl ?_
    refine QJ.step (YldS.yld (y_bin rfl rfl rfl)) rfl ?_
    refine QJ.step (YldS.yld (y_move rfl)) rfl ?_
    obtain ⟨t30, h31, hm⟩ := bindS hm
    refine QJ.cut 3 [(5, v12), (6, .int .i64 r10.2), (7, v15), (8, v18), (9, .int .i64 r16.2.1), (11, .int .i64 r19.1), (13, .int .i64 r21.1), (14, .int .i64 r21.2), (15, v25), (16, .int .i64 r23.2), (18, .int .i64 r26.2), (19, .int .i64 r28.1), (20, .int .i64 r28.2), (82, .bool t30)] ?_ ?_
    · rcases Bool.eq_false_or_eq_true (r16.2.2 != 0) with hb32 | hb32
      · obtain rfl := orT h31 hb32
        refine QJ.off rfl rfl (cB hb32) rfl rfl ?_
        refine QJ.off rfl rfl (cB hb32) rfl rfl ?_
        refine QJ.step (YldS.yld (y_pick_t (cB hb32) rfl)) rfl ?_
        exact QJ.cut_end ⟨rfl, rfl, rfl, rfl, rfl, rfl, rfl, rfl, rfl, rfl, rfl, rfl, rfl, rfl, trivial⟩
      · replace h31 := orF h31 hb32
        refine QJ.on rfl rfl (cB hb32) (YldS.yld (y_move rfl)) rfl ?_
        refine QJ.on rfl rfl (cB hb32) (YldS.yld (y_bin rfl rfl rfl)) rfl ?_
        refine QJ.step (YldS.yld (y_pick_f (cB hb32) rfl)) rfl ?_
        obtain rfl := Option.some.inj h31
        exact QJ.cut_end ⟨rfl, rfl, rfl, rfl, rfl, rfl, rfl, rfl, rfl, rfl, rfl, rfl, rfl, rfl, trivial⟩
    refine QJ.step (YldS.yld (y_move rfl)) rfl ?_
    obtain ⟨t33, h34, hm⟩ := bindS hm
    refine QJ.cut 4 [(5, v12), (6, .int .i64 r10.2), (7, v15), (8, v18), (9, .int .i64 r16.2.1), (13, .int .i64 r21.1), (14, .int .i64 r21.2), (15, v25), (16, .int .i64 r23.2), (18, .int .i64 r26.2), (19, .int .i64 r28.1), (20, .int .i64 r28.2), (87, .bool t33)] ?_ ?_
    · rcases Bool.eq_false_or_eq_true t30 with hb35 | hb35
      · obtain rfl := orT h34 hb35
        refine QJ.off rfl rfl (cB hb35) rfl rfl ?_
        refine QJ.off rfl rfl (cB hb35) rfl rfl ?_
        refine QJ.off rfl rfl (cB hb35) rfl rfl ?_
        refine QJ.step (YldS.yld (y_pick_t (cB hb35) rfl)) rfl ?_
        exact QJ.cut_end ⟨rfl, rfl, rfl, rfl, rfl, rfl, rfl, rfl, rfl, rfl, rfl, rfl, rfl, trivial⟩
      · replace h34 := orF h34 hb35
        refine QJ.on rfl rfl (cB hb35) (YldS.yld (y_move rfl)) rfl ?_
        refine QJ.on rfl rfl (cB hb35) (YldS.yld (y_move rfl)) rfl ?_
        refine QJ.on rfl rfl (cB hb35) (YldS.yld (y_bin rfl rfl rfl)) rfl ?_
        refine QJ.step (YldS.yld (y_pick_f (cB hb35) rfl)) rfl ?_
        obtain rfl := Option.some.inj h34
        exact QJ.cut_end ⟨rfl, rfl, rfl, rfl, rfl, rfl, rfl, rfl, rfl, rfl, rfl, rfl, rfl, trivial⟩
    refine QJ.step (YldS.yld (y_move rfl)) rfl ?_
    obtain ⟨t36, h37, hm⟩ := bindS hm
    refine QJ.cut 3 [(5, v12), (6, .int .i64 r10.2), (7, v15), (8, v18), (9, .int .i64 r16.2.1), (13, .int .i64 r21.1), (15, v25), (16, .int .i64 r23.2), (18, .int .i64 r26.2), (19, .int .i64 r28.1), (20, .int .i64 r28.2), (91, .bool t36)] ?_ ?_
    · rcases Bool.eq_false_or_eq_true t33 with hb38 | hb38
      · obtain rfl := orT h37 hb38
        refine QJ.off rfl rfl (cB hb38) rfl rfl ?_
        refine QJ.off rfl rfl (cB hb38) rfl rfl ?_
        refine QJ.step (YldS.yld (y_pick_t (cB hb38) rfl)) rfl ?_
        exact QJ.cut_end ⟨rfl, rfl, rfl, rfl, rfl, rfl, rfl, rfl, rfl, rfl, rfl, rfl, trivial⟩
      · replace h37 := orF h37 hb38
        refine QJ.on rfl rfl (cB hb38) (YldS.yld (y_move rfl)) rfl ?_
        refine QJ.on rfl rfl (cB hb38) (YldS.yld (y_bin rfl rfl rfl)) rfl ?_
        refine QJ.step (YldS.yld (y_pick_f (cB hb38) rfl)) rfl ?_
        obtain rfl := Option.some.inj h37
        exact QJ.cut_end ⟨rfl, rfl, rfl, rfl, rfl, rfl, rfl, rfl, rfl, rfl, rfl, rfl, trivial⟩
    refine QJ.step (YldS.yld (y_move rfl)) rfl ?_
    obtain ⟨t39, h40, hm⟩ := bindS hm
    refine QJ.cut 4 [(5, v12), (6, .int .i64 r10.2), (7, v15), (8, v18), (15, v25), (16, .int .i64 r23.2), (18, .int .i64 r26.2), (19, .int .i64 r28.1), (20, .int .i64 r28.2), (96, .bool t39)] ?_ ?_
    · rcases Bool.eq_false_or_eq_true t36 with hb41 | hb41
      · obtain rfl := orT h40 hb41
        refine QJ.off rfl rfl (cB hb41) rfl rfl ?_
        refine QJ.off rfl rfl (cB hb41) rfl rfl ?_
        refine QJ.off rfl rfl (cB hb41) rfl rfl ?_
        refine QJ.step (YldS.yld (y_pick_t (cB hb41) rfl)) rfl ?_
        exact QJ.cut_end ⟨rfl, rfl, rfl, rfl, rfl, rfl, rfl, rfl, rfl, rfl, trivial⟩
      · replace h40 := orF h40 hb41
        refine QJ.on rfl rfl (cB hb41) (YldS.yld (y_move rfl)) rfl ?_
        refine QJ.on rfl rfl (cB hb41) (YldS.yld (y_move rfl)) rfl ?_
        refine QJ.on rfl rfl (cB hb41) (YldS.yld (y_bin rfl rfl rfl)) rfl ?_
        refine QJ.step (YldS.yld (y_pick_f (cB hb41) rfl)) rfl ?_
        obtain rfl := Option.some.inj h40
        exact QJ.cut_end ⟨rfl, rfl, rfl, rfl, rfl, rfl, rfl, rfl, rfl, rfl, trivial⟩
    refine QJ.step (YldS.yld (y_move rfl)) rfl ?_
    obtain ⟨t42, h43, hm⟩ := bindS hm
    refine QJ.cut 3 [(5, v12), (6, .int .i64 r10.2), (7, v15), (8, v18), (15, v25), (18, .int .i64 r26.2), (19, .int .i64 r28.1), (20, .int .i64 r28.2), (100, .bool t42)] ?_ ?_
    · rcases Bool.eq_false_or_eq_true t39 with hb44 | hb44
      · obtain rfl := orT h43 hb44
        refine QJ.off rfl rfl (cB hb44) rfl rfl ?_
        refine QJ.off rfl rfl (cB hb44) rfl rfl ?_
        refine QJ.step (YldS.yld (y_pick_t (cB hb44) rfl)) rfl ?_
        exact QJ.cut_end ⟨rfl, rfl, rfl, rfl, rfl, rfl, rfl, rfl, rfl, trivial⟩
      · replace h43 := orF h43 hb44
        refine QJ.on rfl rfl (cB hb44) (YldS.yld (y_move rfl)) rfl ?_
        refine QJ.on rfl rfl (cB hb44) (YldS.yld (y_bin rfl rfl rfl)) rfl ?_
        refine QJ.step (YldS.yld (y_pick_f (cB hb44) rfl)) rfl ?_
        obtain rfl := Option.some.inj h43
        exact QJ.cut_end ⟨rfl, rfl, rfl, rfl, rfl, rfl, rfl, rfl, rfl, trivial⟩
    refine QJ.step (YldS.yld (y_move rfl)) rfl ?_
    obtain ⟨t45, h46, hm⟩ := bindS hm
    refine QJ.cut 3 [(5, v12), (6, .int .i64 r10.2), (7, v15), (8, v18), (15, v25), (19, .int .i64 r28.1), (20, .int .i64 r28.2), (104, .bool t45)] ?_ ?_
    · rcases Bool.eq_false_or_eq_true t42 with hb47 | hb47
      · obtain rfl := orT h46 hb47
        refine QJ.off rfl rfl (cB hb47) rfl rfl ?_
        refine QJ.off rfl rfl (cB hb47) rfl rfl ?_
        refine QJ.step (YldS.yld (y_pick_t (cB hb47) rfl)) rfl ?_
        exact QJ.cut_end ⟨rfl, rfl, rfl, rfl, rfl, rfl, rfl, rfl, trivial⟩
      · replace h46 := orF h46 hb47
        refine QJ.on rfl rfl (cB hb47) (YldS.yld (y_move rfl)) rfl ?_
        refine QJ.on rfl rfl (cB hb47) (YldS.yld (y_bin rfl rfl rfl)) rfl ?_
        refine QJ.step (YldS.yld (y_pick_f (cB hb47) rfl)) rfl ?_
        obtain rfl := Option.some.inj h46
        exact QJ.cut_end ⟨rfl, rfl, rfl, rfl, rfl, rfl, rfl, rfl, trivial⟩
    refine QJ.step (YldS.yld (y_move rfl)) rfl ?_
    obtain ⟨t48, h49, hm⟩ := bindS hm
    refine QJ.cut 3 [(5, v12), (6, .int .i64 r10.2), (7, v15), (8, v18), (15, v25), (19, .int .i64 r28.1), (108, .bool t48)] ?_ ?_
    · rcases Bool.eq_false_or_eq_true t45 with hb50 | hb50
      · obtain rfl := orT h49 hb50
        refine QJ.off rfl rfl (cB hb50) rfl rfl ?_
        refine QJ.off rfl rfl (cB hb50) rfl rfl ?_
        refine QJ.step (YldS.yld (y_pick_t (cB hb50) rfl)) rfl ?_
        exact QJ.cut_end ⟨rfl, rfl, rfl, rfl, rfl, rfl, rfl, trivial⟩
      · replace h49 := orF h49 hb50
        refine QJ.on rfl rfl (cB hb50) (YldS.yld (y_move rfl)) rfl ?_
        refine QJ.on rfl rfl (cB hb50) (YldS.yld (y_bin rfl rfl rfl)) rfl ?_
        refine QJ.step (YldS.yld (y_pick_f (cB hb50) rfl)) rfl ?_
        obtain rfl := Option.some.inj h49
        exact QJ.cut_end ⟨rfl, rfl, rfl, rfl, rfl, rfl, rfl, trivial⟩
    refine QJ.done ?_
    refine PJ.next ?_
    refine WJ.cond (t := t48) rfl (fun hb51 => ?_) (fun hb51 => ?_)
    · replace hm := ifT hm hb51
      refine WJ.seq ?_
      refine WJ.quiet ?_
      refine QJ.step (YldS.yld (y_assign rfl)) rfl ?_
      refine QJ.done ?_
      refine PJ.next ?_
      refine WJ.ret ?_
      refine PJ.then_ret ?_
      obtain rfl := Option.some.inj hm
      refine PJ.sel (L' := []) [] ⟨List.nodup_nil, rfl⟩ ?_
      exact PJ.retn (vs := [.bool false]) Try.results4 ⟨rfl, trivial⟩ ⟨rfl, rfl⟩
    · replace hm := ifF hm hb51
      refine WJ.skip ?_
      refine PJ.next ?_
      refine WJ.seq ?_
      refine WJ.seq ?_
      refine WJ.quiet ?_
      refine QJ.step (YldS.yld (y_move rfl)) rfl ?_
      refine QJ.step (YldS.yld (y_lenRow (k := 3) rfl Try.runUnderlying24 rfl)) rfl ?_
      refine QJ.step (YldS.yld (y_bin rfl rfl rfl)) rfl ?_
      refine QJ.done ?_
      refine PJ.next ?_
      refine WJ.cond (t := ((List.length r10.1 : Int) == 0)) rfl (fun hb52 => ?_) (fun hb52 => ?_)
      · replace hm := ifT hm hb52
        refine WJ.seq ?_
        refine WJ.quiet ?_
        refine QJ.step (YldS.yld (y_move rfl)) rfl ?_
        refine QJ.step (YldS.yld (y_bin rfl rfl rfl)) rfl ?_
        refine QJ.step (YldS.yld (y_move rfl)) rfl ?_
        obtain ⟨t53, h54, hm⟩ := bindS hm
        refine QJ.cut 4 [(15, v25), (118, .bool t53)] ?_ ?_
        · rcases Bool.eq_false_or_eq_true (r28.1 == 0) with hb55 | hb55
          · replace h54 := andT h54 hb55
            refine QJ.on rfl rfl (cB hb55) (YldS.yld (y_move rfl)) rfl ?_
            refine QJ.on rfl rfl (cB hb55) (YldS.yld (y_lenRow (k := 1) rfl Try.runUnderlying27 rfl)) rfl ?_
            refine QJ.on rfl rfl (cB hb55) (YldS.yld (y_bin rfl rfl rfl)) rfl ?_
            refine QJ.step (YldS.yld (y_pick_t (cB hb55) rfl)) rfl ?_
            obtain rfl := Option.some.inj h54
            exact QJ.cut_end ⟨rfl, rfl, trivial⟩
          · obtain rfl := andF h54 hb55
            refine QJ.off rfl rfl (cB hb55) rfl rfl ?_
            refine QJ.off rfl rfl (cB hb55) rfl rfl ?_
            refine QJ.off rfl rfl (cB hb55) rfl rfl ?_
            refine QJ.step (YldS.yld (y_pick_f (cB hb55) rfl)) rfl ?_
            exact QJ.cut_end ⟨rfl, rfl, trivial⟩
        refine QJ.step (YldS.yld (y_move rfl)) rfl ?_
        obtain ⟨t56, h57, hm⟩ := bindS hm
        refine QJ.cut 4 [(123, .bool t56)] ?_ ?_
        · rcases Bool.eq_false_or_eq_true t53 with hb58 | hb58
          · replace h57 := andT h57 hb58
            refine QJ.on rfl rfl (cB hb58) (YldS.yld (y_move rfl)) rfl ?_
            refine QJ.on rfl rfl (cB hb58) (YldS.yld (y_lenRow (k := 0) rfl Try.runUnderlying27 rfl)) rfl ?_
            refine QJ.on rfl rfl (cB hb58) (YldS.yld (y_bin rfl rfl rfl)) rfl ?_
            refine QJ.step (YldS.yld (y_pick_t (cB hb58) rfl)) rfl ?_
            obtain rfl := Option.some.inj h57
            exact QJ.cut_end ⟨rfl, trivial⟩
          · obtain rfl := andF h57 hb58
            refine QJ.off rfl rfl (cB hb58) rfl rfl ?_
            refine QJ.off rfl rfl (cB hb58) rfl rfl ?_
            refine QJ.off rfl rfl (cB hb58) rfl rfl ?_
            refine QJ.step (YldS.yld (y_pick_f (cB hb58) rfl)) rfl ?_
            exact QJ.cut_end ⟨rfl, trivial⟩
        refine QJ.step (YldS.yld (y_assign rfl)) rfl ?_
        refine QJ.done ?_
        refine PJ.next ?_
        refine WJ.ret ?_
        refine PJ.then_ret ?_
        obtain rfl := Option.some.inj hm
        refine PJ.sel (L' := []) [] ⟨List.nodup_nil, rfl⟩ ?_
        exact PJ.retn (vs := [.bool t56]) Try.results4 ⟨rfl, trivial⟩ ⟨rfl, rfl⟩
      · replace hm := ifF hm hb52
        refine WJ.skip ?_
        refine PJ.next ?_
        refine WJ.seq ?_
        refine WJ.seq ?_
        refine WJ.quiet ?_
        refine QJ.step (YldS.yld (y_move rfl)) rfl ?_
        refine QJ.step (YldS.yld (y_lenRow (k := 0) rfl Try.runUnderlying27 rfl)) rfl ?_
        refine QJ.step (YldS.yld (y_bin rfl rfl rfl)) rfl ?_
        refine QJ.step (YldS.yld (y_move rfl)) rfl ?_
        refine QJ.step (YldS.yld (y_bin rfl rfl rfl)) rfl ?_
        refine QJ.step (YldS.yld (y_move rfl)) rfl ?_
        obtain ⟨t59, h60, hm⟩ := bindS hm
        refine QJ.cut 6 [(5, v12), (6, .int .i64 r10.2), (19, .int .i64 r28.1), (135, .bool t59)] ?_ ?_
        · rcases Bool.eq_false_or_eq_true ((w64 ((List.length r23.1 : Int) + 1)) != r28.1) with hb61 | hb61
          · obtain rfl := orT h60 hb61
            refine QJ.off rfl rfl (cB hb61) rfl rfl ?_
            refine QJ.off rfl rfl (cB hb61) rfl rfl ?_
            refine QJ.off rfl rfl (cB hb61) rfl rfl ?_
            refine QJ.off rfl rfl (cB hb61) rfl rfl ?_
            refine QJ.off rfl rfl (cB hb61) rfl rfl ?_
            refine QJ.step (YldS.yld (y_pick_t (cB hb61) rfl)) rfl ?_
            exact QJ.cut_end ⟨rfl, rfl, rfl, rfl, trivial⟩
          · replace h60 := orF h60 hb61
            refine QJ.on rfl rfl (cB hb61) (YldS.yld (y_move rfl)) rfl ?_
            refine QJ.on rfl rfl (cB hb61) (YldS.yld (y_lenRow (k := 2) rfl Try.runUnderlying27 rfl)) rfl ?_
            refine QJ.on rfl rfl (cB hb61) (YldS.yld (y_bin rfl rfl rfl)) rfl ?_
            refine QJ.on rfl rfl (cB hb61) (YldS.yld (y_move rfl)) rfl ?_
            refine QJ.on rfl rfl (cB hb61) (YldS.yld (y_bin rfl rfl rfl)) rfl ?_
            refine QJ.step (YldS.yld (y_pick_f (cB hb61) rfl)) rfl ?_
            obtain rfl := Option.some.inj h60
            exact QJ.cut_end ⟨rfl, rfl, rfl, rfl, trivial⟩
        refine QJ.done ?_
        refine PJ.next ?_
        refine WJ.cond (t := t59) rfl (fun hb62 => ?_) (fun hb62 => ?_)
        · replace hm := ifT hm hb62
          refine WJ.seq ?_
          refine WJ.quiet ?_
          refine QJ.step (YldS.yld (y_assign rfl)) rfl ?_
          refine QJ.done ?_
          refine PJ.next ?_
          refine WJ.ret ?_
          refine PJ.then_ret ?_
          obtain rfl := Option.some.inj hm
          refine PJ.sel (L' := []) [] ⟨List.nodup_nil, rfl⟩ ?_
          exact PJ.retn (vs := [.bool false]) Try.results4 ⟨rfl, trivial⟩ ⟨rfl, rfl⟩
        · replace hm := ifF hm hb62
          refine WJ.skip ?_
          refine PJ.next ?_
          refine WJ.seq ?_
          refine WJ.quiet ?_
          refine QJ.step (YldS.yld (y_move rfl)) rfl ?_
          refine QJ.step (YldS.yld (y_move rfl)) rfl ?_
          obtain ⟨r63, h64, hm⟩ := bindS hm
          refine QJ.step (y_call Try.call18 rfl (RetG.quiet fun w hw => ok_i_LeastWidth h64 w _ (hw.row_rd (k := 3) rfl))) rfl ?_
          refine QJ.step (YldS.yld (y_move rfl)) rfl ?_
          refine QJ.step (YldS.yld (y_extract rfl rfl)) rfl ?_
          refine QJ.step (YldS.yld (y_extract rfl rfl)) rfl ?_
          refine QJ.step (YldS.yld (y_assign rfl)) rfl ?_
          refine QJ.step (YldS.yld (y_assign rfl)) rfl ?_
          refine QJ.done ?_
          refine PJ.next ?_
          refine WJ.seq ?_
          refine WJ.seq ?_
          refine WJ.quiet ?_
          refine QJ.step (YldS.yld (y_move rfl)) rfl ?_
          refine QJ.step (YldS.yld (y_bin rfl rfl rfl)) rfl ?_
          refine QJ.step (YldS.yld (y_move rfl)) rfl ?_
          obtain ⟨t65, h66, hm⟩ := bindS hm
          refine QJ.cut 3 [(5, v12), (6, .int .i64 r10.2), (19, .int .i64 r28.1), (21, .int .i64 r63.1), (147, .bool t65)] ?_ ?_
          · rcases Bool.eq_false_or_eq_true (r63.2 != 0) with hb67 | hb67
            · obtain rfl := orT h66 hb67
              refine QJ.off rfl rfl (cB hb67) rfl rfl ?_
              refine QJ.off rfl rfl (cB hb67) rfl rfl ?_
              refine QJ.step (YldS.yld (y_pick_t (cB hb67) rfl)) rfl ?_
              exact QJ.cut_end ⟨rfl, rfl, rfl, rfl, rfl, trivial⟩
            · replace h66 := orF h66 hb67
              refine QJ.on rfl rfl (cB hb67) (YldS.yld (y_move rfl)) rfl ?_
              refine QJ.on rfl rfl (cB hb67) (YldS.yld (y_bin rfl rfl rfl)) rfl ?_
              refine QJ.step (YldS.yld (y_pick_f (cB hb67) rfl)) rfl ?_
              obtain rfl := Option.some.inj h66
              exact QJ.cut_end ⟨rfl, rfl, rfl, rfl, rfl, trivial⟩
          refine QJ.step (YldS.yld (y_move rfl)) rfl ?_
          obtain ⟨t68, h69, hm⟩ := bindS hm
          refine QJ.cut 4 [(5, v12), (19, .int .i64 r28.1), (21, .int .i64 r63.1), (152, .bool t68)] ?_ ?_
          · rcases Bool.eq_false_or_eq_true t65 with hb70 | hb70
            · obtain rfl := orT h69 hb70
              refine QJ.off rfl rfl (cB hb70) rfl rfl ?_
              refine QJ.off rfl rfl (cB hb70) rfl rfl ?_
              refine QJ.off rfl rfl (cB hb70) rfl rfl ?_
              refine QJ.step (YldS.yld (y_pick_t (cB hb70) rfl)) rfl ?_
              exact QJ.cut_end ⟨rfl, rfl, rfl, rfl, trivial⟩
            · replace h69 := orF h69 hb70
              refine QJ.on rfl rfl (cB hb70) (YldS.yld (y_move rfl)) rfl ?_
              refine QJ.on rfl rfl (cB hb70) (YldS.yld (y_move rfl)) rfl ?_
              refine QJ.on rfl rfl (cB hb70) (YldS.yld (y_bin rfl rfl rfl)) rfl ?_
              refine QJ.step (YldS.yld (y_pick_f (cB hb70) rfl)) rfl ?_
              obtain rfl := Option.some.inj h69
              exact QJ.cut_end ⟨rfl, rfl, rfl, rfl, trivial⟩
          refine QJ.done ?_
          refine PJ.next ?_
          refine WJ.cond (t := t68) rfl (fun hb71 => ?_) (fun hb71 => ?_)
          · replace hm := ifT hm hb71
            refine WJ.seq ?_
            refine WJ.quiet ?_
            refine QJ.step (YldS.yld (y_assign rfl)) rfl ?_
            refine QJ.done ?_
            refine PJ.next ?_
            refine WJ.ret ?_
            refine PJ.then_ret ?_
            obtain rfl := Option.some.inj hm
            refine PJ.sel (L' := []) [] ⟨List.nodup_nil, rfl⟩ ?_
            exact PJ.retn (vs := [.bool false]) Try.results4 ⟨rfl, trivial⟩ ⟨rfl, rfl⟩
          · replace hm := ifF hm hb71
            refine WJ.skip ?_
            refine PJ.next ?_
            refine WJ.seq ?_
            refine WJ.quiet ?_
            refine QJ.step (YldS.yld (y_move rfl)) rfl ?_
            refine QJ.step (YldS.yld (y_move rfl)) rfl ?_
            obtain ⟨r72, h73, hm⟩ := bindS hm
            refine QJ.step (y_call Try.call17 rfl (RetG.quiet fun w hw => ok_i_FewestLines h73 w _ (hw.row_rd (k := 3) rfl))) rfl ?_
            refine QJ.step (YldS.yld (y_move rfl)) rfl ?_
            refine QJ.step (YldS.yld (y_extract rfl rfl)) rfl ?_
            refine QJ.step (YldS.yld (y_extract rfl rfl)) rfl ?_
            refine QJ.step (YldS.yld (y_assign rfl)) rfl ?_
            refine QJ.step (YldS.yld (y_assign rfl)) rfl ?_
            refine QJ.done ?_
            refine PJ.next ?_
            refine WJ.seq ?_
            refine WJ.seq ?_
            refine WJ.quiet ?_
            refine QJ.step (YldS.yld (y_move rfl)) rfl ?_
            refine QJ.step (YldS.yld (y_bin rfl rfl rfl)) rfl ?_
            refine QJ.step (YldS.yld (y_move rfl)) rfl ?_
            obtain ⟨t74, h75, hm⟩ := bindS hm
            refine QJ.cut 4 [(5, v12), (19, .int .i64 r28.1), (21, .int .i64 r63.1), (165, .bool t74)] ?_ ?_
            · rcases Bool.eq_false_or_eq_true (r72.2 != 0) with hb76 | hb76
              · obtain rfl := orT h75 hb76
                refine QJ.off rfl rfl (cB hb76) rfl rfl ?_
                refine QJ.off rfl rfl (cB hb76) rfl rfl ?_
                refine QJ.off rfl rfl (cB hb76) rfl rfl ?_
                refine QJ.step (YldS.yld (y_pick_t (cB hb76) rfl)) rfl ?_
                exact QJ.cut_end ⟨rfl, rfl, rfl, rfl, trivial⟩
              · replace h75 := orF h75 hb76
                refine QJ.on rfl rfl (cB hb76) (YldS.yld (y_move rfl)) rfl ?_
                refine QJ.on rfl rfl (cB hb76) (YldS.yld (y_move rfl)) rfl ?_
                refine QJ.on rfl rfl (cB hb76) (YldS.yld (y_bin rfl rfl rfl)) rfl ?_
                refine QJ.step (YldS.yld (y_pick_f (cB hb76) rfl)) rfl ?_
                obtain rfl := Option.some.inj h75
                exact QJ.cut_end ⟨rfl, rfl, rfl, rfl, trivial⟩
            refine QJ.done ?_
            refine PJ.next ?_
            refine WJ.cond (t := t74) rfl (fun hb77 => ?_) (fun hb77 => ?_)
            · replace hm := ifT hm hb77
              refine WJ.seq ?_
              refine WJ.quiet ?_
              refine QJ.step (YldS.yld (y_assign rfl)) rfl ?_
              refine QJ.done ?_
              refine PJ.next ?_
              refine WJ.ret ?_
              refine PJ.then_ret ?_
              obtain rfl := Option.some.inj hm
              refine PJ.sel (L' := []) [] ⟨List.nodup_nil, rfl⟩ ?_
              exact PJ.retn (vs := [.bool false]) Try.results4 ⟨rfl, trivial⟩ ⟨rfl, rfl⟩
            · replace hm := ifF hm hb77
              refine WJ.skip ?_
              refine PJ.next ?_
              refine WJ.seq ?_
              refine WJ.seq ?_
              refine WJ.quiet ?_
              refine QJ.step (YldS.yld (y_move rfl)) rfl ?_
              refine QJ.step (YldS.yld (y_bin rfl rfl rfl)) rfl ?_
              refine QJ.done ?_
              refine PJ.next ?_
              refine WJ.cond (t := (r63.1 == 1)) rfl (fun hb78 => ?_) (fun hb78 => ?_)
              · replace hm := ifT hm hb78
                refine WJ.seq ?_
                refine WJ.quiet ?_
                refine QJ.step (YldS.yld (y_assign rfl)) rfl ?_
                refine QJ.done ?_
                refine PJ.next ?_
                refine WJ.ret ?_
                refine PJ.then_ret ?_
                obtain rfl := Option.some.inj hm
                refine PJ.sel (L' := []) [] ⟨List.nodup_nil, rfl⟩ ?_
                exact PJ.retn (vs := [.bool true]) Try.results4 ⟨rfl, trivial⟩ ⟨rfl, rfl⟩
              · replace hm := ifF hm hb78
                refine WJ.skip ?_
                refine PJ.next ?_
                refine WJ.seq ?_
                refine WJ.quiet ?_
                refine QJ.step (YldS.yld (y_move rfl)) rfl ?_
                refine QJ.step (YldS.yld (y_move rfl)) rfl ?_
                refine QJ.step (YldS.yld (y_bin rfl rfl rfl)) rfl ?_
                obtain ⟨r79, h80, hm⟩ := bindS hm
                refine QJ.step (y_call Try.call19 rfl (RetG.quiet fun w hw => ok_s_FewestLines h80 w _ (hw.row_rd (k := 3) rfl))) rfl ?_
                refine QJ.step (YldS.yld (y_move rfl)) rfl ?_
                refine QJ.step (YldS.yld (y_extract rfl rfl)) rfl ?_
                refine QJ.step (YldS.yld (y_extract rfl rfl)) rfl ?_
                refine QJ.step (YldS.yld (y_assign rfl)) rfl ?_
                refine QJ.step (YldS.yld (y_assign rfl)) rfl ?_
                refine QJ.done ?_
                refine PJ.next ?_
                refine WJ.seq ?_
                refine WJ.quiet ?_
                refine QJ.step (YldS.yld (y_move rfl)) rfl ?_
                refine QJ.step (YldS.yld (y_bin rfl rfl rfl)) rfl ?_
                refine QJ.step (YldS.yld (y_move rfl)) rfl ?_
                obtain ⟨t81, h82, hm⟩ := bindS hm
                refine QJ.cut 8 [(185, .bool t81)] ?_ ?_
                · rcases Bool.eq_false_or_eq_true (r79.2 == 1) with hb83 | hb83
                  · obtain rfl := orT h82 hb83
                    refine QJ.off rfl rfl (cB hb83) rfl rfl ?_
                    refine QJ.off rfl rfl (cB hb83) rfl rfl ?_
                    refine QJ.off rfl rfl (cB hb83) rfl rfl ?_
                    refine QJ.off_undef rfl rfl rfl rfl ?_
                    refine QJ.off_undef rfl rfl rfl rfl ?_
                    refine QJ.off_undef rfl rfl rfl rfl ?_
                    refine QJ.off rfl rfl (cB hb83) rfl rfl ?_
                    refine QJ.step (YldS.yld (y_pick_t (cB hb83) rfl)) rfl ?_
                    exact QJ.cut_end ⟨rfl, trivial⟩
                  · replace h82 := orF h82 hb83
                    refine QJ.on rfl rfl (cB hb83) (YldS.yld (y_move rfl)) rfl ?_
                    refine QJ.on rfl rfl (cB hb83) (YldS.yld (y_bin rfl rfl rfl)) rfl ?_
                    refine QJ.on rfl rfl (cB hb83) (YldS.yld (y_move rfl)) rfl ?_
                    obtain ⟨t84, h85, h82⟩ := bindS h82
                    refine QJ.cut 4 [(177, .bool (r79.2 == 1)), (184, .bool t84)] ?_ ?_
                    · rcases Bool.eq_false_or_eq_true (r79.2 == 0) with hb86 | hb86
                      · replace h85 := andT h85 hb86
                        refine QJ.on rfl rfl (cB hb86) (YldS.yld (y_move rfl)) rfl ?_
                        refine QJ.on rfl rfl (cB hb86) (YldS.yld (y_move rfl)) rfl ?_
                        refine QJ.on rfl rfl (cB hb86) (YldS.yld (y_bin rfl rfl rfl)) rfl ?_
                        refine QJ.on rfl rfl (cB hb83) (YldS.yld (y_pick_t (cB hb86) rfl)) rfl ?_
                        obtain rfl := Option.some.inj h85
                        exact QJ.cut_end ⟨rfl, rfl, trivial⟩
                      · obtain rfl := andF h85 hb86
                        refine QJ.off rfl rfl (cB hb86) rfl rfl ?_
                        refine QJ.off rfl rfl (cB hb86) rfl rfl ?_
                        refine QJ.off rfl rfl (cB hb86) rfl rfl ?_
                        refine QJ.on rfl rfl (cB hb83) (YldS.yld (y_pick_f (cB hb86) rfl)) rfl ?_
                        exact QJ.cut_end ⟨rfl, rfl, trivial⟩
                    refine QJ.step (YldS.yld (y_pick_f (cB hb83) rfl)) rfl ?_
                    obtain rfl := Option.some.inj h82
                    exact QJ.cut_end ⟨rfl, trivial⟩
                refine QJ.step (YldS.yld (y_assign rfl)) rfl ?_
                refine QJ.done ?_
                refine PJ.next ?_
                refine WJ.ret ?_
                obtain rfl := Option.some.inj hm
                refine PJ.sel (L' := []) [] ⟨List.nodup_nil, rfl⟩ ?_
                exact PJ.retn (vs := [.bool t81]) Try.results4 ⟨rfl, trivial⟩ ⟨rfl, rfl⟩

end Go.Proofs.Ytlmpbacboapkaaa
