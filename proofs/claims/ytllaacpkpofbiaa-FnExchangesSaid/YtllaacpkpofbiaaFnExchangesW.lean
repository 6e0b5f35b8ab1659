/-
  The walks: a call hands back what its plain function computes, where that has a value. No other conditions.
-/
import Derived.Test.YtllaacpkpofbiaaFnExchangesM
import Derived.Test.YtllaacpkpofbiaaChecked
namespace Go.Proofs.Ytllaacpkpofbiaa
open Go.RowKit Go.Proofs
set_option linter.unusedVariables false
set_option linter.unusedSimpArgs false

theorem follows : Try.prog.follows .mixedOrders = true := by kernel_rfl

theorem pl119 : PlacesOk Try.prog 119 [(0, 1), (1, 1), (2, 1)] := ⟨_, Try.runUnderlying119, fun w => by simp [Try.sizeOf3, Try.sizeOf22, Try.sizeOf117]⟩
theorem pl26 : PlacesOk Try.prog 26 [(0, 1)] := ⟨_, Try.runUnderlying26, fun w => by simp [Try.sizeOf24]⟩
theorem fld119_1 : FieldOk Try.prog 119 1 1 3 0 := ⟨_, _, Try.runUnderlying119, rfl, rfl, rfl, Try.sizeOf3⟩
theorem fld119_0 : FieldOk Try.prog 119 0 0 22 0 := ⟨_, _, Try.runUnderlying119, rfl, rfl, rfl, Try.sizeOf22⟩
theorem fld119_2 : FieldOk Try.prog 119 2 2 117 0 := ⟨_, _, Try.runUnderlying119, rfl, rfl, rfl, Try.sizeOf117⟩
set_option maxRecDepth 100000 in
theorem el5 : ElemOk Try.prog 5 1 (fByte.enc 0) := ⟨_, _, Try.type5, rfl, rfl, rfl, by decide⟩
theorem fld26_0 : FieldOk Try.prog 26 0 0 24 0 := ⟨_, _, Try.runUnderlying26, rfl, rfl, rfl, Try.sizeOf24⟩
set_option maxRecDepth 100000 in
theorem el9 : ElemOk Try.prog 9 1 (fStr.enc []) := ⟨_, _, Try.type9, rfl, rfl, rfl, by decide⟩
set_option maxRecDepth 100000 in
theorem zv70 : ∀ w, (zeroValue 70).run Try.prog w = .ok (.agg (List.toArray (encs fBool (List.replicate 256 false)))) w := fun w => by
  rw [Try.zeroValue70]
  refine congrArg (fun z => Result.ok (Value.agg z) w) ?_
  kernel_rfl

set_option maxRecDepth 100000 in
set_option maxHeartbeats 1000000 in
theorem ok_w_f6big {code1 : List UInt8} {r : Bool} (hm : w_f6big code1 = some r) (w : World) (v2 : Value) (hr3 : RdS w (cx w).Fz v2 fByte.rp code1) :
    Calls Try.prog 6 #[v2] w (Ret (cx w) (.bool r)) := by
  unfold w_f6big at hm
  refine Calls.enter [v2] Try.func6 rfl Try.ntmps6 rfl ?_
  refine WJ.seq ?_
  refine WJ.quiet ?_
  refine QJ.step (YldS.yld (y_assign rfl)) rfl ?_
  refine QJ.done ?_
  refine PJ.next ?_
  refine WJ.seq ?_
  refine WJ.quiet ?_
  refine QJ.step (YldS.yld (y_move rfl)) rfl ?_
  refine QJ.step (YldS.yld (y_lenS Try.runUnderlying22 hr3 rfl)) rfl ?_
  refine QJ.step (YldS.yld (y_bin rfl rfl rfl)) rfl ?_
  refine QJ.step (YldS.yld (y_assign rfl)) rfl ?_
  refine QJ.done ?_
  refine PJ.next ?_
  refine WJ.ret ?_
  obtain rfl := Option.some.inj hm
  refine PJ.sel (L' := []) [] ⟨List.nodup_nil, rfl⟩ ?_
  exact PJ.retn (vs := [.bool (decide ((List.length code1 : Int) > 4096))]) Try.results6 ⟨rfl, trivial⟩ ⟨rfl, rfl⟩

set_option maxRecDepth 100000 in
set_option maxHeartbeats 1000000 in
theorem ok_s_l00From {code1 : List UInt8} {r : L00Src} (hm : s_l00From code1 = some r) (w : World) (v2 : Value) (hr3 : RdS w (cx w).Fz v2 fByte.rp code1) :
    Calls Try.prog 57 #[v2] w (RetG (cx w) fun u L => ∃ (u1 : Nat), (u = pt u1 0 ∧ L = [box u1 119 [v2, .int .i64 r.at_, .int .u64 r.seed]])) := by
  unfold s_l00From at hm
  refine Calls.enter [v2] Try.func57 rfl Try.ntmps57 rfl ?_
  refine WJ.seq ?_
  refine WJ.quiet ?_
  refine QJ.step (YldS.yld (y_assign rfl)) rfl ?_
  refine QJ.done ?_
  refine PJ.next ?_
  refine WJ.seq ?_
  refine WJ.reg ?_
  refine SJ.q (YldS.yld (y_move rfl)) rfl ?_
  refine SJ.q (YldS.yld (y_build (parts := [(0, .tmp 3)]) (places := [(0, 1), (1, 1), (2, 1)]) (r := [v2, .int .i64 0, .int .u64 0]) pl119 Try.zeroValue119 rfl rfl (show _ = [(0, [v2])] from by simp only [List.map, RdS.cells1 hr3]) rfl)) rfl ?_
  refine SJ.box (cs := [v2, .int .i64 0, .int .u64 0]) rfl rfl rfl fun g4 => ?_
  refine SJ.q (YldS.yld (y_assign rfl)) rfl ?_
  refine SJ.nil ?_
  refine PJ.next ?_
  refine WJ.ret ?_
  obtain rfl := Option.some.inj hm
  refine PJ.sel (L' := [box g4 119 [v2, .int .i64 0, .int .u64 0]]) [0] ⟨by decide, rfl⟩ ?_
  exact PJ.retn (vs := [pt g4 0]) Try.results57 ⟨rfl, trivial⟩ ⟨_, rfl, rfl⟩

set_option maxRecDepth 100000 in
set_option maxHeartbeats 1000000 in
theorem ok_s_l00Src_next {s1 : L00Src} {g2 : Nat} {r : Int × L00Src} (hm : s_l00Src_next s1 = some r) (w : World) (S : Nat → Prop) (v3 : Value) (hr4 : RdS w (Cx.Fz ⟨w, S⟩) v3 fByte.rp s1.code) (hA : (box g2 119 [v3, .int .i64 s1.at_, .int .u64 s1.seed]).holds w S) :
    Calls Try.prog 99 #[pt g2 0] w (RetG ⟨w, S⟩ fun u L => (u = .int .i64 r.1 ∧ L = [box g2 119 [v3, .int .i64 r.2.at_, .int .u64 r.2.seed]])) := by
  unfold s_l00Src_next at hm
  refine Calls.enter1 hA [pt g2 0] Try.func99 rfl Try.ntmps99 rfl ?_
  refine WJ.seq ?_
  refine WJ.quiet ?_
  refine QJ.step (YldS.yld (y_assign rfl)) rfl ?_
  refine QJ.done ?_
  refine PJ.next ?_
  refine WJ.seq ?_
  refine WJ.quiet ?_
  refine QJ.step (YldS.yld (y_assign rfl)) rfl ?_
  refine QJ.done ?_
  refine PJ.next ?_
  obtain ⟨kj6, hk7, hm⟩ := withK_open hm
  refine WJ.join (X := Int) (fun (x : Int) => kj6 x = some r) (fun (x : Int) => [(0, pt g2 0), (3, .int .i64 x)]) (fun (x : Int) => [box g2 119 [v3, .int .i64 s1.at_, .int .u64 s1.seed]]) ?_ ?_
  · clear hk7
    refine WJ.seq ?_
    refine WJ.quiet_draw follows (by kernel_rfl) ?_
    refine QJ.step (YldS.yld (y_move rfl)) rfl ?_
    refine QJ.step (YldS.yld (y_nil rfl)) rfl ?_
    refine QJ.step (YldS.yld (y_fldB (o := 0) fld119_1 rfl)) rfl ?_
    refine QJ.step (YldS.yld (y_loadB (k := 0) (off := 1) (v := .int .i64 s1.at_) rfl Try.isAgg3 rfl rfl)) rfl ?_
    refine QJ.step (YldS.yld (y_move rfl)) rfl ?_
    refine QJ.step (YldS.yld (y_nil rfl)) rfl ?_
    refine QJ.step (YldS.yld (y_fldB (o := 0) fld119_0 rfl)) rfl ?_
    refine QJ.step (YldS.yld (y_loadB (k := 0) (off := 0) (v := v3) rfl Try.isAgg22 rfl rfl)) rfl ?_
    refine QJ.step (YldS.yld (y_lenS Try.runUnderlying22 hr4 rfl)) rfl ?_
    refine QJ.step (YldS.yld (y_bin rfl rfl rfl)) rfl ?_
    refine QJ.done ?_
    refine PJ.next ?_
    refine WJ.cond (t := decide (s1.at_ < (List.length s1.code : Int))) rfl (fun hb8 => ?_) (fun hb8 => ?_)
    · replace hm := ifT hm hb8
      refine WJ.quiet_draw follows (by kernel_rfl) ?_
      refine QJ.step (YldS.yld (y_move rfl)) rfl ?_
      refine QJ.step (YldS.yld (y_nil rfl)) rfl ?_
      refine QJ.step (YldS.yld (y_fldB (o := 0) fld119_0 rfl)) rfl ?_
      refine QJ.step (YldS.yld (y_loadB (k := 0) (off := 0) (v := v3) rfl Try.isAgg22 rfl rfl)) rfl ?_
      refine QJ.step (YldS.yld (y_move rfl)) rfl ?_
      refine QJ.step (YldS.yld (y_nil rfl)) rfl ?_
      refine QJ.step (YldS.yld (y_fldB (o := 0) fld119_1 rfl)) rfl ?_
      refine QJ.step (YldS.yld (y_loadB (k := 0) (off := 1) (v := .int .i64 s1.at_) rfl Try.isAgg3 rfl rfl)) rfl ?_
      obtain ⟨e9, h10, hm⟩ := bindS hm
      obtain ⟨ad11, _, rfl, ha12, hy13⟩ := hr4.elem h10
      refine QJ.step (YldS.yld (hy13 Try.runUnderlying22 Try.sizeOf5 rfl rfl)) rfl ?_
      refine QJ.step (YldS.yld (y_load1 (v := .int .u8 (UInt8.toNat e9 : Int)) Try.isAgg5 ha12 St.frozenC rfl)) rfl ?_
      refine QJ.step (YldS.yld (y_conv8 Try.runUnderlying5 Try.runUnderlying3 rfl)) rfl ?_
      refine QJ.step (YldS.yld (y_assign rfl)) rfl ?_
      refine QJ.done ?_
      exact PJ.joined (UInt8.toNat e9 : Int) [0] hm ⟨rfl, rfl, trivial⟩ ⟨by decide, rfl⟩
    · replace hm := ifF hm hb8
      refine WJ.skip ?_
      exact PJ.joined 0 [0] hm ⟨rfl, rfl, trivial⟩ ⟨by decide, rfl⟩
  · rintro b5 hm
    subst hk7
    refine WJ.seq ?_
    refine WJ.reg ?_
    refine SJ.q (YldS.yld (y_move rfl)) rfl ?_
    refine SJ.q (YldS.yld (y_nil rfl)) rfl ?_
    refine SJ.q (YldS.yld (y_fldB (o := 0) fld119_1 rfl)) rfl ?_
    refine SJ.q (YldS.yld (y_loadB (k := 0) (off := 1) (v := .int .i64 s1.at_) rfl Try.isAgg3 rfl rfl)) rfl ?_
    refine SJ.q (YldS.yld (y_bin rfl rfl rfl)) rfl ?_
    refine SJ.q (YldS.yld (y_nil rfl)) rfl ?_
    refine SJ.q (YldS.yld (y_fldB (o := 0) fld119_1 rfl)) rfl ?_
    refine SJ.storeL (k := 0) (off := 1) (us := [.int .i64 (w64 (s1.at_ + 1))]) rfl rfl rfl rfl Try.sizeOf3 rfl rfl ?_
    refine SJ.nil ?_
    refine PJ.next ?_
    refine WJ.seq ?_
    refine WJ.reg ?_
    refine SJ.q (YldS.yld (y_move rfl)) rfl ?_
    refine SJ.q (YldS.yld (y_move rfl)) rfl ?_
    refine SJ.q (YldS.yld (y_nil rfl)) rfl ?_
    refine SJ.q (YldS.yld (y_fldB (o := 0) fld119_2 rfl)) rfl ?_
    refine SJ.q (YldS.yld (y_loadB (k := 0) (off := 2) (v := .int .u64 s1.seed) rfl Try.isAgg117 rfl rfl)) rfl ?_
    refine SJ.q (YldS.yld (y_bin rfl rfl rfl)) rfl ?_
    refine SJ.q (YldS.yld (y_move rfl)) rfl ?_
    refine SJ.q (YldS.yld (y_convI Try.runUnderlying3 Try.runUnderlying117 rfl)) rfl ?_
    refine SJ.q (YldS.yld (y_bin rfl rfl rfl)) rfl ?_
    refine SJ.q (YldS.yld (y_bin rfl rfl rfl)) rfl ?_
    refine SJ.q (YldS.yld (y_nil rfl)) rfl ?_
    refine SJ.q (YldS.yld (y_fldB (o := 0) fld119_2 rfl)) rfl ?_
    refine SJ.storeL (k := 0) (off := 2) (us := [.int .u64 (IntKind.u64.wrap ((IntKind.u64.wrap ((IntKind.u64.wrap (s1.seed * 6364136223846793005)) + (IntKind.u64.wrap b5))) + 1442695040888963407))]) rfl rfl rfl rfl Try.sizeOf117 rfl rfl ?_
    refine SJ.nil ?_
    refine PJ.next ?_
    refine WJ.seq ?_
    refine WJ.seq ?_
    refine WJ.quiet_draw follows (by kernel_rfl) ?_
    refine QJ.step (YldS.yld (y_move rfl)) rfl ?_
    refine QJ.step (YldS.yld (y_nil rfl)) rfl ?_
    refine QJ.step (YldS.yld (y_fldB (o := 0) fld119_1 rfl)) rfl ?_
    refine QJ.step (YldS.yld (y_loadB (k := 0) (off := 1) (v := .int .i64 (w64 (s1.at_ + 1))) rfl Try.isAgg3 rfl rfl)) rfl ?_
    refine QJ.step (YldS.yld (y_move rfl)) rfl ?_
    refine QJ.step (YldS.yld (y_nil rfl)) rfl ?_
    refine QJ.step (YldS.yld (y_fldB (o := 0) fld119_0 rfl)) rfl ?_
    refine QJ.step (YldS.yld (y_loadB (k := 0) (off := 0) (v := v3) rfl Try.isAgg22 rfl rfl)) rfl ?_
    refine QJ.step (YldS.yld (y_lenS Try.runUnderlying22 hr4 rfl)) rfl ?_
    refine QJ.step (YldS.yld (y_bin rfl rfl rfl)) rfl ?_
    refine QJ.done ?_
    refine PJ.next ?_
    refine WJ.cond (t := decide ((w64 (s1.at_ + 1)) ≤ (List.length s1.code : Int))) rfl (fun hb14 => ?_) (fun hb14 => ?_)
    · replace hm := ifT hm hb14
      refine WJ.seq ?_
      refine WJ.quiet ?_
      refine QJ.step (YldS.yld (y_move rfl)) rfl ?_
      refine QJ.step (YldS.yld (y_assign rfl)) rfl ?_
      refine QJ.done ?_
      refine PJ.next ?_
      refine WJ.ret ?_
      refine PJ.then_ret ?_
      obtain rfl := Option.some.inj hm
      refine PJ.sel (L' := [box g2 119 [v3, .int .i64 (w64 (s1.at_ + 1)), .int .u64 (IntKind.u64.wrap ((IntKind.u64.wrap ((IntKind.u64.wrap (s1.seed * 6364136223846793005)) + (IntKind.u64.wrap b5))) + 1442695040888963407))]]) [0] ⟨by decide, rfl⟩ ?_
      exact PJ.retn (vs := [.int .i64 b5]) Try.results99 ⟨rfl, trivial⟩ ⟨rfl, rfl⟩
    · replace hm := ifF hm hb14
      refine WJ.skip ?_
      refine PJ.next ?_
      refine WJ.seq ?_
      refine WJ.quiet ?_
      refine QJ.step (YldS.yld (y_move rfl)) rfl ?_
      refine QJ.step (YldS.yld (y_nil rfl)) rfl ?_
      refine QJ.step (YldS.yld (y_fldB (o := 0) fld119_2 rfl)) rfl ?_
      refine QJ.step (YldS.yld (y_loadB (k := 0) (off := 2) (v := .int .u64 (IntKind.u64.wrap ((IntKind.u64.wrap ((IntKind.u64.wrap (s1.seed * 6364136223846793005)) + (IntKind.u64.wrap b5))) + 1442695040888963407))) rfl Try.isAgg117 rfl rfl)) rfl ?_
      refine QJ.step (YldS.yld (y_shru rfl rfl rfl)) rfl ?_
      refine QJ.step (YldS.yld (y_andu rfl rfl rfl)) rfl ?_
      refine QJ.step (YldS.yld (y_convI Try.runUnderlying117 Try.runUnderlying2 rfl)) rfl ?_
      refine QJ.step (YldS.yld (y_assign rfl)) rfl ?_
      refine QJ.done ?_
      refine PJ.next ?_
      refine WJ.ret ?_
      obtain rfl := Option.some.inj hm
      refine PJ.sel (L' := [box g2 119 [v3, .int .i64 (w64 (s1.at_ + 1)), .int .u64 (IntKind.u64.wrap ((IntKind.u64.wrap ((IntKind.u64.wrap (s1.seed * 6364136223846793005)) + (IntKind.u64.wrap b5))) + 1442695040888963407))]]) [0] ⟨by decide, rfl⟩ ?_
      exact PJ.retn (vs := [.int .i64 (w64 (uand (ushr (IntKind.u64.wrap ((IntKind.u64.wrap ((IntKind.u64.wrap (s1.seed * 6364136223846793005)) + (IntKind.u64.wrap b5))) + 1442695040888963407)) 40) 255))]) Try.results99 ⟨rfl, trivial⟩ ⟨rfl, rfl⟩

set_option maxRecDepth 100000 in
set_option maxHeartbeats 1000000 in
theorem ok_s_l00Src_pick {s1 : L00Src} {n5 : Int} {g2 : Nat} {r : Int × L00Src} (hm : s_l00Src_pick s1 n5 = some r) (w : World) (S : Nat → Prop) (v3 : Value) (hr4 : RdS w (Cx.Fz ⟨w, S⟩) v3 fByte.rp s1.code) (hA : (box g2 119 [v3, .int .i64 s1.at_, .int .u64 s1.seed]).holds w S) :
    Calls Try.prog 64 #[pt g2 0, .int .i64 n5] w (RetG ⟨w, S⟩ fun u L => (u = .int .i64 r.1 ∧ L = [box g2 119 [v3, .int .i64 r.2.at_, .int .u64 r.2.seed]])) := by
  unfold s_l00Src_pick at hm
  refine Calls.enter1 hA [pt g2 0, .int .i64 n5] Try.func64 rfl Try.ntmps64 rfl ?_
  refine WJ.seq ?_
  refine WJ.quiet ?_
  refine QJ.step (YldS.yld (y_assign rfl)) rfl ?_
  refine QJ.done ?_
  refine PJ.next ?_
  refine WJ.seq ?_
  refine WJ.seq ?_
  refine WJ.quiet ?_
  refine QJ.step (YldS.yld (y_move rfl)) rfl ?_
  refine QJ.step (YldS.yld (y_bin rfl rfl rfl)) rfl ?_
  refine QJ.done ?_
  refine PJ.next ?_
  refine WJ.cond (t := decide (n5 ≤ 1)) rfl (fun hb6 => ?_) (fun hb6 => ?_)
  · replace hm := ifT hm hb6
    refine WJ.seq ?_
    refine WJ.quiet ?_
    refine QJ.step (YldS.yld (y_assign rfl)) rfl ?_
    refine QJ.done ?_
    refine PJ.next ?_
    refine WJ.ret ?_
    refine PJ.then_ret ?_
    obtain rfl := Option.some.inj hm
    refine PJ.sel (L' := [box g2 119 [v3, .int .i64 s1.at_, .int .u64 s1.seed]]) [0] ⟨by decide, rfl⟩ ?_
    exact PJ.retn (vs := [.int .i64 0]) Try.results64 ⟨rfl, trivial⟩ ⟨rfl, rfl⟩
  · replace hm := ifF hm hb6
    refine WJ.skip ?_
    refine PJ.next ?_
    refine WJ.seq ?_
    refine WJ.reg ?_
    refine SJ.q (YldS.yld (y_move rfl)) rfl ?_
    obtain ⟨r7, h8, hm⟩ := bindS hm
    refine SJ.call1 (k := 0) rfl Try.call99 rfl (fun w S hw hA hO => ok_s_l00Src_next h8 w S _ (hr4.st1 hw hO) hA) rfl ?_
    rintro _ _ ⟨rfl, rfl⟩
    refine SJ.q (YldS.yld (y_assign rfl)) rfl ?_
    refine SJ.nil ?_
    refine PJ.next ?_
    obtain ⟨kj12, hk13, hm⟩ := withK_open hm
    refine WJ.join (X := Int × Int × Int) (fun (x : Int × Int × Int) => kj12 x.1 x.2.1 x.2.2 = some r) (fun (x : Int × Int × Int) => [(1, .int .i64 n5), (5, .int .i64 x.2.2)]) (fun (x : Int × Int × Int) => [box g2 119 [v3, .int .i64 x.1, .int .u64 x.2.1]]) ?_ ?_
    · clear hk13
      refine WJ.seq ?_
      refine WJ.quiet ?_
      refine QJ.step (YldS.yld (y_move rfl)) rfl ?_
      refine QJ.step (YldS.yld (y_bin rfl rfl rfl)) rfl ?_
      refine QJ.done ?_
      refine PJ.next ?_
      refine WJ.cond (t := decide (n5 > 200)) rfl (fun hb14 => ?_) (fun hb14 => ?_)
      · replace hm := ifT hm hb14
        refine WJ.reg ?_
        refine SJ.q (YldS.yld (y_move rfl)) rfl ?_
        refine SJ.q (YldS.yld (y_bin rfl rfl rfl)) rfl ?_
        refine SJ.q (YldS.yld (y_move rfl)) rfl ?_
        obtain ⟨r15, h16, hm⟩ := bindS hm
        refine SJ.call1 (k := 0) rfl Try.call99 rfl (fun w S hw hA hO => ok_s_l00Src_next h16 w S _ (hr4.st1 hw hO) hA) rfl ?_
        rintro _ _ ⟨rfl, rfl⟩
        refine SJ.q (YldS.yld (y_bin rfl rfl rfl)) rfl ?_
        refine SJ.q (YldS.yld (y_assign rfl)) rfl ?_
        refine SJ.nil ?_
        exact PJ.joined (r15.2.at_, r15.2.seed, w64 ((w64 (r7.1 * 256)) + r15.1)) [0] hm ⟨rfl, rfl, trivial⟩ ⟨by decide, rfl⟩
      · replace hm := ifF hm hb14
        refine WJ.skip ?_
        exact PJ.joined (r7.2.at_, r7.2.seed, r7.1) [0] hm ⟨rfl, rfl, trivial⟩ ⟨by decide, rfl⟩
    · rintro ⟨x9, x10, x11⟩ hm
      subst hk13
      refine WJ.seq ?_
      refine WJ.quiet ?_
      refine QJ.step (YldS.yld (y_move rfl)) rfl ?_
      refine QJ.step (YldS.yld (y_move rfl)) rfl ?_
      obtain ⟨q17, h18, hm⟩ := bindS hm
      refine QJ.step (YldS.yld (y_rem' h18 rfl rfl)) rfl ?_
      refine QJ.step (YldS.yld (y_assign rfl)) rfl ?_
      refine QJ.done ?_
      refine PJ.next ?_
      refine WJ.ret ?_
      obtain rfl := Option.some.inj hm
      refine PJ.sel (L' := [box g2 119 [v3, .int .i64 x9, .int .u64 x10]]) [0] ⟨by decide, rfl⟩ ?_
      exact PJ.retn (vs := [.int .i64 q17]) Try.results64 ⟨rfl, trivial⟩ ⟨rfl, rfl⟩

set_option maxRecDepth 100000 in
set_option maxHeartbeats 1000000 in
theorem ok_s_l06Draw {N : Nat} {s1 : L00Src} {g2 : Nat} {r : Layout × L00Src} (hm : s_l06Draw N s1 = some r) (w : World) (S : Nat → Prop) (v3 : Value) (hr4 : RdS w (Cx.Fz ⟨w, S⟩) v3 fByte.rp s1.code) (hA : (box g2 119 [v3, .int .i64 s1.at_, .int .u64 s1.seed]).holds w S) :
    Calls Try.prog 110 #[pt g2 0] w (RetG ⟨w, S⟩ fun u L => ∃ (u1 : Value), (u = .agg #[u1] ∧ L = [box g2 119 [v3, .int .i64 r.2.at_, .int .u64 r.2.seed], row u1 9 fStr r.1.rows])) := by
  unfold s_l06Draw at hm
  refine Calls.enter1 hA [pt g2 0] Try.func110 rfl Try.ntmps110 rfl ?_
  refine WJ.seq ?_
  refine WJ.reg ?_
  refine SJ.alloc (cs := [.slice none 0 0]) Try.zeroValue26 rfl rfl fun g5 => ?_
  refine SJ.nil_row 9 fStr ?_
  refine SJ.nil ?_
  refine PJ.next ?_
  refine WJ.seq ?_
  refine WJ.reg ?_
  refine SJ.buildSlice (R := fByte) (os := [.const (.int .u8 (UInt8.toNat 113 : Int)), .const (.int .u8 (UInt8.toNat 119 : Int)), .const (.int .u8 (UInt8.toNat 101 : Int)), .const (.int .u8 (UInt8.toNat 114 : Int)), .const (.int .u8 (UInt8.toNat 116 : Int)), .const (.int .u8 (UInt8.toNat 121 : Int)), .const (.int .u8 (UInt8.toNat 117 : Int)), .const (.int .u8 (UInt8.toNat 105 : Int)), .const (.int .u8 (UInt8.toNat 111 : Int)), .const (.int .u8 (UInt8.toNat 112 : Int)), .const (.int .u8 (UInt8.toNat 97 : Int)), .const (.int .u8 (UInt8.toNat 115 : Int)), .const (.int .u8 (UInt8.toNat 100 : Int)), .const (.int .u8 (UInt8.toNat 102 : Int)), .const (.int .u8 (UInt8.toNat 103 : Int)), .const (.int .u8 (UInt8.toNat 104 : Int)), .const (.int .u8 (UInt8.toNat 106 : Int)), .const (.int .u8 (UInt8.toNat 107 : Int)), .const (.int .u8 (UInt8.toNat 108 : Int)), .const (.int .u8 (UInt8.toNat 122 : Int))]) [113, 119, 101, 114, 116, 121, 117, 105, 111, 112, 97, 115, 100, 102, 103, 104, 106, 107, 108, 122] Try.runUnderlying22 Try.sizeOf5 Try.zeroValue5 rfl rfl rfl rfl rfl rfl fun v6 => ?_
  refine SJ.convMark (k := 0) rfl Try.underlying22 Try.underlying5 rfl rfl ?_
  refine SJ.viewM 0 rfl ?_
  refine SJ.q (YldS.yld (y_assign rfl)) rfl ?_
  refine SJ.nil ?_
  refine PJ.next ?_
  refine WJ.seq ?_
  refine WJ.reg ?_
  refine SJ.buildSlice (R := fStr) (os := []) [] Try.runUnderlying24 Try.sizeOf9 Try.zeroValue9 rfl rfl rfl rfl rfl rfl fun v7 => ?_
  refine SJ.rowCells (k := 0) rfl fun hc8 => ?_
  refine SJ.q (YldS.yld (y_build (parts := [(0, .tmp 11)]) (places := [(0, 1)]) (r := [v7]) pl26 Try.zeroValue26 rfl rfl (show _ = [(0, [v7])] from by simp only [List.map, hc8.1]; try rfl) rfl)) rfl ?_
  refine SJ.alloc (cs := [.slice none 0 0]) Try.zeroValue26 rfl rfl fun g9 => ?_
  refine SJ.nil_row 9 fStr ?_
  refine SJ.rowCells (k := 2) rfl fun hc10 => ?_
  refine SJ.storeL (k := 1) (off := 0) (us := [v7]) rfl rfl rfl rfl Try.sizeOf26 rfl (by simp only [List.all_cons, hc10.2]; rfl) ?_
  refine SJ.erase 0 ?_
  refine SJ.nil ?_
  refine PJ.next ?_
  obtain ⟨kj15, hk16, hm⟩ := withK_open hm
  refine WJ.join (X := Int × Int × (List Str) × Value) (fun (x : Int × Int × (List Str) × Value) => kj15 x.1 x.2.1 x.2.2.1 = some r) (fun (x : Int × Int × (List Str) × Value) => [(2, pt g5 0), (4, pt g9 0)]) (fun (x : Int × Int × (List Str) × Value) => [box g2 119 [v3, .int .i64 x.1, .int .u64 x.2.1], box g9 26 [x.2.2.2], row x.2.2.2 9 fStr x.2.2.1, row (.slice none 0 0) 9 fStr [], box g5 26 [(.slice none 0 0)]]) ?_ ?_
  · clear hk16
    refine WJ.seq ?_
    refine WJ.reg ?_
    refine SJ.q (YldS.yld (y_move rfl)) rfl ?_
    obtain ⟨r17, h18, hm⟩ := bindS hm
    refine SJ.call1 (k := 5) rfl Try.call64 rfl (fun w S hw hA hO => ok_s_l00Src_pick h18 w S _ (hr4.st1 hw hO) hA) rfl ?_
    rintro _ _ ⟨rfl, rfl⟩
    refine SJ.q (YldS.yld (y_bin rfl rfl rfl)) rfl ?_
    refine SJ.q (YldS.yld (y_assign rfl)) rfl ?_
    refine SJ.nil ?_
    refine PJ.next ?_
    refine WJ.block ?_
    refine WJ.sel (L' := (fun (x : Int × Int × (List Str) × Value × (List UInt8) × Value × Int) => [box g2 119 [v3, .int .i64 x.1, .int .u64 x.2.1], box g9 26 [x.2.2.2.1], row x.2.2.2.1 9 fStr x.2.2.1, vw x.2.2.2.2.2.1 fByte.rp x.2.2.2.2.1, row (.slice none 0 0) 9 fStr [], box g5 26 [(.slice none 0 0)]]) (r17.2.at_, r17.2.seed, [], v7, [113, 119, 101, 114, 116, 121, 117, 105, 111, 112, 97, 115, 100, 102, 103, 104, 106, 107, 108, 122], v6, w64 (1 + r17.1))) [0, 1, 2, 3, 4, 5] ⟨by decide, rfl⟩ ?_
    refine WJ.sub (m' := (fun (x : Int × Int × (List Str) × Value × (List UInt8) × Value × Int) => [(0, pt g2 0), (2, pt g5 0), (3, x.2.2.2.2.2.1), (4, pt g9 0), (5, .int .i64 x.2.2.2.2.2.2)]) (r17.2.at_, r17.2.seed, [], v7, [113, 119, 101, 114, 116, 121, 117, 105, 111, 112, 97, 115, 100, 102, 103, 104, 106, 107, 108, 122], v6, w64 (1 + r17.1))) ⟨rfl, rfl, rfl, rfl, rfl, trivial⟩ ?_
    refine WJ.loop (X := Int × Int × (List Str) × Value × (List UInt8) × Value × Int) (fun N (x : Int × Int × (List Str) × Value × (List UInt8) × Value × Int) => s_l06Draw_l1 kj15 s1 N x.1 x.2.1 x.2.2.1 x.2.2.2.2.1 x.2.2.2.2.2.2 = some r) (fun (x : Int × Int × (List Str) × Value × (List UInt8) × Value × Int) => [(0, pt g2 0), (2, pt g5 0), (3, x.2.2.2.2.2.1), (4, pt g9 0), (5, .int .i64 x.2.2.2.2.2.2)]) (fun (x : Int × Int × (List Str) × Value × (List UInt8) × Value × Int) => [box g2 119 [v3, .int .i64 x.1, .int .u64 x.2.1], box g9 26 [x.2.2.2.1], row x.2.2.2.1 9 fStr x.2.2.1, vw x.2.2.2.2.2.1 fByte.rp x.2.2.2.2.1, row (.slice none 0 0) 9 fStr [], box g5 26 [(.slice none 0 0)]]) ?_ N (r17.2.at_, r17.2.seed, [], v7, [113, 119, 101, 114, 116, 121, 117, 105, 111, 112, 97, 115, 100, 102, 103, 104, 106, 107, 108, 122], v6, w64 (1 + r17.1)) hm
    · rintro N ⟨x19, x20, l21, v22, l23, v24, r25⟩ hI
      have hm := hI; clear hI
      cases N with
      | zero => cases hm
      | succ N =>
      unfold s_l06Draw_l1 at hm
      refine WJ.seq ?_
      refine WJ.seq ?_
      refine WJ.quiet ?_
      refine QJ.step (YldS.yld (y_move rfl)) rfl ?_
      refine QJ.step (YldS.yld (y_bin rfl rfl rfl)) rfl ?_
      refine QJ.done ?_
      refine PJ.next ?_
      refine WJ.cond (t := decide (r25 > 0)) rfl (fun hb26 => ?_) (fun hb26 => ?_)
      · replace hm := ifT hm hb26
        refine WJ.skip ?_
        refine PJ.next ?_
        obtain ⟨kj33, hk34, hm⟩ := withK_open hm
        refine WJ.join (X := Int × Int × (List Str) × Value × (List UInt8) × Value) (fun (x : Int × Int × (List Str) × Value × (List UInt8) × Value) => kj33 x.1 x.2.1 x.2.2.1 x.2.2.2.2.1 = some r) (fun (x : Int × Int × (List Str) × Value × (List UInt8) × Value) => [(0, pt g2 0), (2, pt g5 0), (3, x.2.2.2.2.2), (4, pt g9 0), (5, .int .i64 r25)]) (fun (x : Int × Int × (List Str) × Value × (List UInt8) × Value) => [box g2 119 [v3, .int .i64 x.1, .int .u64 x.2.1], box g9 26 [x.2.2.2.1], row x.2.2.2.1 9 fStr x.2.2.1, vw x.2.2.2.2.2 fByte.rp x.2.2.2.2.1, row (.slice none 0 0) 9 fStr [], box g5 26 [(.slice none 0 0)]]) ?_ ?_
        · clear hk34
          refine WJ.block ?_
          refine WJ.seq ?_
          refine WJ.reg ?_
          refine SJ.buildSlice (R := fByte) (os := []) [] Try.runUnderlying22 Try.sizeOf5 Try.zeroValue5 rfl rfl rfl rfl rfl rfl fun v35 => ?_
          refine SJ.q (YldS.yld (y_assign rfl)) rfl ?_
          refine SJ.nil ?_
          refine PJ.next ?_
          obtain ⟨kj42, hk43, hm⟩ := withK_open hm
          refine WJ.join (X := Int × Int × (List UInt8) × Value × (List UInt8) × Value) (fun (x : Int × Int × (List UInt8) × Value × (List UInt8) × Value) => kj42 x.1 x.2.1 x.2.2.1 x.2.2.2.2.1 = some r) (fun (x : Int × Int × (List UInt8) × Value × (List UInt8) × Value) => [(0, pt g2 0), (2, pt g5 0), (3, x.2.2.2.2.2), (4, pt g9 0), (5, .int .i64 r25), (6, x.2.2.2.1)]) (fun (x : Int × Int × (List UInt8) × Value × (List UInt8) × Value) => [box g2 119 [v3, .int .i64 x.1, .int .u64 x.2.1], row x.2.2.2.1 5 fByte x.2.2.1, box g9 26 [v22], row v22 9 fStr l21, vw x.2.2.2.2.2 fByte.rp x.2.2.2.2.1, row (.slice none 0 0) 9 fStr [], box g5 26 [(.slice none 0 0)]]) ?_ ?_
          · clear hk43
            refine WJ.seq ?_
            refine WJ.reg ?_
            refine SJ.q (YldS.yld (y_move rfl)) rfl ?_
            obtain ⟨r44, h45, hm⟩ := bindS hm
            refine SJ.call1 (k := 1) rfl Try.call64 rfl (fun w S hw hA hO => ok_s_l00Src_pick h45 w S _ (hr4.st1 hw hO) hA) rfl ?_
            rintro _ _ ⟨rfl, rfl⟩
            refine SJ.q (YldS.yld (y_bin rfl rfl rfl)) rfl ?_
            refine SJ.q (YldS.yld (y_assign rfl)) rfl ?_
            refine SJ.nil ?_
            refine PJ.next ?_
            refine WJ.block ?_
            refine WJ.sel (L' := (fun (x : Int × Int × (List UInt8) × Value × (List UInt8) × Value × Int) => [box g2 119 [v3, .int .i64 x.1, .int .u64 x.2.1], row x.2.2.2.1 5 fByte x.2.2.1, box g9 26 [v22], row v22 9 fStr l21, vw x.2.2.2.2.2.1 fByte.rp x.2.2.2.2.1, row (.slice none 0 0) 9 fStr [], box g5 26 [(.slice none 0 0)]]) (r44.2.at_, r44.2.seed, [], v35, l23, v24, w64 (1 + r44.1))) [0, 1, 2, 3, 4, 5, 6] ⟨by decide, rfl⟩ ?_
            refine WJ.sub (m' := (fun (x : Int × Int × (List UInt8) × Value × (List UInt8) × Value × Int) => [(0, pt g2 0), (2, pt g5 0), (3, x.2.2.2.2.2.1), (4, pt g9 0), (5, .int .i64 r25), (6, x.2.2.2.1), (7, .int .i64 x.2.2.2.2.2.2)]) (r44.2.at_, r44.2.seed, [], v35, l23, v24, w64 (1 + r44.1))) ⟨rfl, rfl, rfl, rfl, rfl, rfl, rfl, trivial⟩ ?_
            refine WJ.loop (X := Int × Int × (List UInt8) × Value × (List UInt8) × Value × Int) (fun N (x : Int × Int × (List UInt8) × Value × (List UInt8) × Value × Int) => s_l06Draw_l2 kj42 s1 N x.1 x.2.1 x.2.2.1 x.2.2.2.2.1 x.2.2.2.2.2.2 = some r) (fun (x : Int × Int × (List UInt8) × Value × (List UInt8) × Value × Int) => [(0, pt g2 0), (2, pt g5 0), (3, x.2.2.2.2.2.1), (4, pt g9 0), (5, .int .i64 r25), (6, x.2.2.2.1), (7, .int .i64 x.2.2.2.2.2.2)]) (fun (x : Int × Int × (List UInt8) × Value × (List UInt8) × Value × Int) => [box g2 119 [v3, .int .i64 x.1, .int .u64 x.2.1], row x.2.2.2.1 5 fByte x.2.2.1, box g9 26 [v22], row v22 9 fStr l21, vw x.2.2.2.2.2.1 fByte.rp x.2.2.2.2.1, row (.slice none 0 0) 9 fStr [], box g5 26 [(.slice none 0 0)]]) ?_ N (r44.2.at_, r44.2.seed, [], v35, l23, v24, w64 (1 + r44.1)) hm
            · rintro N ⟨x46, x47, l48, v49, l50, v51, c52⟩ hI
              have hm := hI; clear hI
              cases N with
              | zero => cases hm
              | succ N =>
              unfold s_l06Draw_l2 at hm
              refine WJ.seq ?_
              refine WJ.seq ?_
              refine WJ.quiet ?_
              refine QJ.step (YldS.yld (y_move rfl)) rfl ?_
              refine QJ.step (YldS.yld (y_bin rfl rfl rfl)) rfl ?_
              refine QJ.done ?_
              refine PJ.next ?_
              refine WJ.cond (t := decide (c52 > 0)) rfl (fun hb53 => ?_) (fun hb53 => ?_)
              · replace hm := ifT hm hb53
                refine WJ.skip ?_
                refine PJ.next ?_
                refine WJ.seq ?_
                refine WJ.block ?_
                refine WJ.seq ?_
                refine WJ.reg ?_
                refine SJ.q (YldS.yld (y_move rfl)) rfl ?_
                refine SJ.q (YldS.yld (y_move rfl)) rfl ?_
                refine SJ.q (YldS.yld (y_lenRowV (k := 4) rfl Try.runUnderlying22 rfl)) rfl ?_
                obtain ⟨r54, h55, hm⟩ := bindS hm
                refine SJ.call1 (k := 0) rfl Try.call64 rfl (fun w S hw hA hO => ok_s_l00Src_pick h55 w S _ (hr4.st1 hw hO) hA) rfl ?_
                rintro _ _ ⟨rfl, rfl⟩
                refine SJ.q (YldS.yld (y_assign rfl)) rfl ?_
                refine SJ.nil ?_
                refine PJ.next ?_
                refine WJ.seq ?_
                refine WJ.reg ?_
                refine SJ.q (YldS.yld (y_move rfl)) rfl ?_
                refine SJ.q (YldS.yld (y_move rfl)) rfl ?_
                refine SJ.q (YldS.yld (y_move rfl)) rfl ?_
                obtain ⟨e56, h57, hm⟩ := bindS hm
                refine SJ.q (YldS.yld (y_ixRowV (k := 4) (R := fByte) rfl Try.runUnderlying22 Try.sizeOf5 rfl rfl h57)) rfl ?_
                refine SJ.q (YldS.yld (y_loadRV (k := 4) (i := (Int.toNat r54.1)) (off := 0) (u := .int .u8 (UInt8.toNat e56 : Int)) rfl Try.isAgg5 rfl (idx_get h57) rfl)) rfl ?_
                refine SJ.buildSlice (R := fByte) (os := [.tmp 36]) [e56] Try.runUnderlying22 Try.sizeOf5 Try.zeroValue5 rfl rfl rfl rfl rfl rfl fun v58 => ?_
                obtain ⟨l59, h60, hm⟩ := bindS hm
                refine SJ.append (k := 2) (R := fByte) h60 rfl Try.underlying22 el5 rfl rfl rfl (fun w hw => (hw.row_rd (k := 0) rfl)) rfl fun v61 => ?_
                refine SJ.q (YldS.yld (y_assign rfl)) rfl ?_
                refine SJ.nil ?_
                refine PJ.next ?_
                obtain ⟨l63, h64, hm⟩ := bindS hm
                obtain ⟨l65, h66, hm⟩ := bindS hm
                obtain ⟨l68, h69, hm⟩ := bindS hm
                obtain ⟨l70, h71, hm⟩ := bindS hm
                refine WJ.draws (N := 11) (listed0 := #[false, false, false, false, false, false, false, false, false, false, false]) [row v58 5 fByte [e56], box g2 119 [v3, .int .i64 r54.2.at_, .int .u64 r54.2.seed], row v61 5 fByte l59, box g9 26 [v22], row v22 9 fStr l21, vw v51 fByte.rp l50, row (.slice none 0 0) 9 fStr [], box g5 26 [(.slice none 0 0)]] follows rfl rfl ?_
                refine RJ.first 1 (listed' := #[false, true, false, false, false, false, false, false, false, false, false]) [0, 1, 2, 3, 4, 5, 6, 7] rfl (by kernel_rfl) rfl ⟨by decide, rfl⟩ (y_move rfl) rfl ?_
                refine RJ.first 2 (listed' := #[false, true, true, false, false, false, false, false, false, false, false]) [0, 1, 2, 3, 4, 5, 6, 7] rfl (by kernel_rfl) rfl ⟨by decide, rfl⟩ (y_move rfl) rfl ?_
                refine RJ.first 3 (listed' := #[false, true, true, true, false, false, false, false, false, false, false]) [0, 1, 2, 3, 4, 5, 6, 7] rfl (by kernel_rfl) rfl ⟨by decide, rfl⟩ (y_slcVw (i := none) (j := some r54.1) (k := 5) h64 rfl Try.runUnderlying22 Try.sizeOf5 rfl trivial ⟨_, rfl⟩) rfl ?_
                refine RJ.first 5 (listed' := #[false, true, true, true, false, true, false, false, false, false, false]) [0, 1, 2, 3, 4, 5, 6, 7] rfl (by kernel_rfl) rfl ⟨by decide, rfl⟩ (y_move rfl) rfl ?_
                refine RJ.first 6 (listed' := #[false, true, true, true, false, true, true, false, false, false, false]) [0, 1, 2, 3, 4, 5, 6, 7] rfl (by kernel_rfl) rfl ⟨by decide, rfl⟩ (y_move rfl) rfl ?_
                refine RJ.first 7 (listed' := #[false, true, true, true, false, true, true, true, false, false, false]) [0, 1, 2, 3, 4, 5, 6, 7] rfl (by kernel_rfl) rfl ⟨by decide, rfl⟩ (y_bin rfl rfl rfl) rfl ?_
                refine RJ.first 8 (listed' := #[false, true, true, true, false, true, true, true, true, false, false]) [0, 1, 2, 3, 4, 5, 6, 7] rfl (by kernel_rfl) rfl ⟨by decide, rfl⟩ (y_slcVw (i := some (w64 (r54.1 + 1))) (j := none) (k := 5) h69 rfl Try.runUnderlying22 Try.sizeOf5 rfl ⟨_, rfl⟩ trivial) rfl ?_
                refine RJ.step1 0 [0, 1, 2, 3, 4, 5, 6, 7] (by kernel_rfl) ⟨by decide, rfl⟩ ?_
                refine RO.of (listed' := #[true, true, true, true, false, true, true, true, true, false, false]) rfl rfl ?_
                refine SJ.buildSlice (R := fByte) (os := []) [] Try.runUnderlying22 Try.sizeOf5 Try.zeroValue5 rfl rfl rfl rfl rfl rfl fun v62 => ?_
                refine SJ.nil ?_
                refine PJ.draw ?_
                refine RJ.step1 4 [1, 2, 3, 4, 5, 6, 7, 8] (by kernel_rfl) ⟨by decide, rfl⟩ ?_
                refine RO.of (listed' := #[true, true, true, true, true, true, true, true, true, false, false]) rfl rfl ?_
                refine SJ.append (k := 0) (R := fByte) h66 rfl Try.underlying22 el5 rfl rfl rfl (fun w hw => (hw.slcV_rd (k := 6) (i := none) (j := some r54.1) rfl h64)) rfl fun v67 => ?_
                refine SJ.nil ?_
                refine PJ.draw ?_
                refine RJ.step1 9 [1, 2, 3, 4, 5, 6, 7, 8] (by kernel_rfl) ⟨by decide, rfl⟩ ?_
                refine RO.of (listed' := #[true, true, true, true, true, true, true, true, true, true, false]) rfl rfl ?_
                refine SJ.append (k := 0) (R := fByte) h71 rfl Try.underlying22 el5 rfl rfl rfl (fun w hw => (hw.slcV_rd (k := 6) (i := some (w64 (r54.1 + 1))) (j := none) rfl h69)) rfl fun v72 => ?_
                refine SJ.nil ?_
                refine PJ.draw ?_
                refine RJ.first 10 (listed' := #[true, true, true, true, true, true, true, true, true, true, true]) [1, 2, 3, 4, 5, 6, 7, 8] rfl (by kernel_rfl) rfl ⟨by decide, rfl⟩ (y_assign rfl) rfl ?_
                refine RJ.fin [1, 2, 3, 4, 5, 6, 7, 8] (by kernel_rfl) ⟨by decide, rfl⟩ ?_
                refine PJ.block_normal (PJ.next ?_)
                refine WJ.quiet ?_
                refine QJ.step (YldS.yld (y_move rfl)) rfl ?_
                refine QJ.step (YldS.yld (y_bin rfl rfl rfl)) rfl ?_
                refine QJ.step (YldS.yld (y_assign rfl)) rfl ?_
                refine QJ.done ?_
                refine PJ.view 0 rfl ?_
                exact PJ.round (r54.2.at_, r54.2.seed, l59, v61, l70, v72, w64 (c52 - 1)) [2, 3, 4, 5, 0, 7, 8] hm ⟨rfl, rfl, rfl, rfl, rfl, rfl, rfl, trivial⟩ ⟨by decide, rfl⟩
              · replace hm := ifF hm hb53
                refine WJ.exit ?_
                refine PJ.then_exit (PJ.then_exit (PJ.block_exit ?_))
                exact PJ.joined (x46, x47, l48, v49, l50, v51) [0, 1, 2, 3, 4, 5, 6] hm ⟨rfl, rfl, rfl, rfl, rfl, rfl, trivial⟩ ⟨by decide, rfl⟩
          · rintro ⟨x36, x37, l38, v39, l40, v41⟩ hm
            subst hk43
            refine WJ.reg ?_
            refine SJ.q (YldS.yld (y_fldB (o := 0) fld26_0 rfl)) rfl ?_
            refine SJ.q (YldS.yld (y_loadB (k := 2) (off := 0) (v := v22) rfl Try.isAgg24 rfl rfl)) rfl ?_
            refine SJ.q (YldS.yld (y_move rfl)) rfl ?_
            refine SJ.q (YldS.yld (y_b2s Try.underlying22 Try.underlying9 Try.underlying5 (fun w hw => ⟨_, (hw.row_rd (k := 1) rfl)⟩) rfl)) rfl ?_
            refine SJ.buildSlice (R := fStr) (os := [.tmp 52]) [l38] Try.runUnderlying24 Try.sizeOf9 Try.zeroValue9 rfl rfl rfl rfl rfl rfl fun v73 => ?_
            obtain ⟨l74, h75, hm⟩ := bindS hm
            refine SJ.append (k := 4) (R := fStr) h75 rfl Try.underlying24 el9 rfl rfl rfl (fun w hw => (hw.row_rd (k := 0) rfl)) rfl fun v76 => ?_
            refine SJ.q (YldS.yld (y_fldB (o := 0) fld26_0 rfl)) rfl ?_
            refine SJ.rowCells (k := 4) rfl fun hc77 => ?_
            refine SJ.storeL (k := 3) (off := 0) (us := [v76]) rfl rfl rfl hc77.1 Try.sizeOf24 rfl (by simp [hc77.2]) ?_
            refine SJ.nil ?_
            refine PJ.block_normal ?_
            exact PJ.joined (x36, x37, l74, v76, l40, v41) [1, 3, 4, 5, 6, 7] hm ⟨rfl, rfl, rfl, rfl, rfl, trivial⟩ ⟨by decide, rfl⟩
        · rintro ⟨x27, x28, l29, v30, l31, v32⟩ hm
          subst hk34
          refine WJ.quiet ?_
          refine QJ.step (YldS.yld (y_move rfl)) rfl ?_
          refine QJ.step (YldS.yld (y_bin rfl rfl rfl)) rfl ?_
          refine QJ.step (YldS.yld (y_assign rfl)) rfl ?_
          refine QJ.done ?_
          exact PJ.round (x27, x28, l29, v30, l31, v32, w64 (r25 - 1)) [0, 1, 2, 3, 4, 5] hm ⟨rfl, rfl, rfl, rfl, rfl, trivial⟩ ⟨by decide, rfl⟩
      · replace hm := ifF hm hb26
        refine WJ.exit ?_
        refine PJ.then_exit (PJ.then_exit (PJ.block_exit ?_))
        exact PJ.joined (x19, x20, l21, v22) [0, 1, 2, 4, 5] hm ⟨rfl, rfl, trivial⟩ ⟨by decide, rfl⟩
  · rintro ⟨x11, x12, l13, v14⟩ hm
    subst hk16
    refine WJ.seq ?_
    refine WJ.reg ?_
    refine SJ.q (YldS.yld (y_loadBN (k := 1) (off := 0) (us := [v14]) rfl Try.isAgg26 Try.sizeOf26 rfl rfl)) rfl ?_
    refine SJ.rowCells (k := 2) rfl fun hc78 => ?_
    refine SJ.storeL (k := 4) (off := 0) (us := [v14]) rfl rfl rfl rfl Try.sizeOf26 rfl (by simp only [List.all_cons, hc78.2]; rfl) ?_
    refine SJ.erase 3 ?_
    refine SJ.nil ?_
    refine PJ.next ?_
    refine WJ.ret ?_
    obtain rfl := Option.some.inj hm
    exact PJ.retn_sel (vs := [.agg #[v14]]) Try.results110 ⟨⟨3, g5, 26, [v14], rfl, rfl, .inl ⟨Try.isAgg26, Try.sizeOf26, rfl⟩⟩, trivial⟩ [0, 2] ⟨by decide, rfl⟩ ⟨_, rfl, rfl⟩

set_option maxRecDepth 100000 in
set_option maxHeartbeats 1000000 in
theorem ok_s_l00Src_text {s1 : L00Src} {list5 : List Str} {g2 : Nat} {r : Str × L00Src} (hm : s_l00Src_text s1 list5 = some r) (w : World) (S : Nat → Prop) (v3 : Value) (hr4 : RdS w (Cx.Fz ⟨w, S⟩) v3 fByte.rp s1.code) (v6 : Value) (hr7 : RdS w (Cx.Fz ⟨w, S⟩) v6 fStr.rp list5) (hA : (box g2 119 [v3, .int .i64 s1.at_, .int .u64 s1.seed]).holds w S) :
    Calls Try.prog 111 #[pt g2 0, v6] w (RetG ⟨w, S⟩ fun u L => (u = str r.1 ∧ L = [box g2 119 [v3, .int .i64 r.2.at_, .int .u64 r.2.seed]])) := by
  unfold s_l00Src_text at hm
  refine Calls.enter1 hA [pt g2 0, v6] Try.func111 rfl Try.ntmps111 rfl ?_
  refine WJ.seq ?_
  refine WJ.quiet ?_
  refine QJ.step (YldS.yld (y_assign rfl)) rfl ?_
  refine QJ.done ?_
  refine PJ.next ?_
  refine WJ.seq ?_
  refine WJ.reg ?_
  refine SJ.q (YldS.yld (y_move rfl)) rfl ?_
  refine SJ.q (YldS.yld (y_move rfl)) rfl ?_
  refine SJ.q (YldS.yld (y_move rfl)) rfl ?_
  refine SJ.q (YldS.yld (y_lenS Try.runUnderlying24 hr7 rfl)) rfl ?_
  obtain ⟨r8, h9, hm⟩ := bindS hm
  refine SJ.call1 (k := 0) rfl Try.call64 rfl (fun w S hw hA hO => ok_s_l00Src_pick h9 w S _ (hr4.st1 hw hO) hA) rfl ?_
  rintro _ _ ⟨rfl, rfl⟩
  obtain ⟨e10, h11, hm⟩ := bindS hm
  obtain ⟨ad12, _, rfl, ha13, hy14⟩ := hr7.elem h11
  refine SJ.q (YldS.yld (hy14 Try.runUnderlying24 Try.sizeOf9 rfl rfl)) rfl ?_
  refine SJ.q (YldS.yld (y_load1 (v := str e10) Try.isAgg9 ha13 St.frozenC rfl)) rfl ?_
  refine SJ.q (YldS.yld (y_assign rfl)) rfl ?_
  refine SJ.nil ?_
  refine PJ.next ?_
  refine WJ.ret ?_
  obtain rfl := Option.some.inj hm
  refine PJ.sel (L' := [box g2 119 [v3, .int .i64 r8.2.at_, .int .u64 r8.2.seed]]) [0] ⟨by decide, rfl⟩ ?_
  exact PJ.retn (vs := [str e10]) Try.results111 ⟨rfl, trivial⟩ ⟨rfl, rfl⟩

set_option maxRecDepth 100000 in
set_option maxHeartbeats 1000000 in
theorem ok_s_l00Src_one {s1 : L00Src} {n5 : Int} {g2 : Nat} {r : Bool × L00Src} (hm : s_l00Src_one s1 n5 = some r) (w : World) (S : Nat → Prop) (v3 : Value) (hr4 : RdS w (Cx.Fz ⟨w, S⟩) v3 fByte.rp s1.code) (hA : (box g2 119 [v3, .int .i64 s1.at_, .int .u64 s1.seed]).holds w S) :
    Calls Try.prog 89 #[pt g2 0, .int .i64 n5] w (RetG ⟨w, S⟩ fun u L => (u = .bool r.1 ∧ L = [box g2 119 [v3, .int .i64 r.2.at_, .int .u64 r.2.seed]])) := by
  unfold s_l00Src_one at hm
  refine Calls.enter1 hA [pt g2 0, .int .i64 n5] Try.func89 rfl Try.ntmps89 rfl ?_
  refine WJ.seq ?_
  refine WJ.quiet ?_
  refine QJ.step (YldS.yld (y_assign rfl)) rfl ?_
  refine QJ.done ?_
  refine PJ.next ?_
  refine WJ.seq ?_
  refine WJ.reg ?_
  refine SJ.q (YldS.yld (y_move rfl)) rfl ?_
  refine SJ.q (YldS.yld (y_move rfl)) rfl ?_
  obtain ⟨r6, h7, hm⟩ := bindS hm
  refine SJ.call1 (k := 0) rfl Try.call64 rfl (fun w S hw hA hO => ok_s_l00Src_pick h7 w S _ (hr4.st1 hw hO) hA) rfl ?_
  rintro _ _ ⟨rfl, rfl⟩
  refine SJ.q (YldS.yld (y_bin rfl rfl rfl)) rfl ?_
  refine SJ.q (YldS.yld (y_assign rfl)) rfl ?_
  refine SJ.nil ?_
  refine PJ.next ?_
  refine WJ.ret ?_
  obtain rfl := Option.some.inj hm
  refine PJ.sel (L' := [box g2 119 [v3, .int .i64 r6.2.at_, .int .u64 r6.2.seed]]) [0] ⟨by decide, rfl⟩ ?_
  exact PJ.retn (vs := [.bool (r6.1 == 0)]) Try.results89 ⟨rfl, trivial⟩ ⟨rfl, rfl⟩

set_option maxRecDepth 100000 in
set_option maxHeartbeats 1000000 in
theorem ok_s_l06Bent {N : Nat} {s1 : L00Src} {g2 : Nat} {r : Layout × L00Src} (hm : s_l06Bent N s1 = some r) (w : World) (S : Nat → Prop) (v3 : Value) (hr4 : RdS w (Cx.Fz ⟨w, S⟩) v3 fByte.rp s1.code) (hA : (box g2 119 [v3, .int .i64 s1.at_, .int .u64 s1.seed]).holds w S) :
    Calls Try.prog 88 #[pt g2 0] w (RetG ⟨w, S⟩ fun u L => ∃ (u1 : Value), (u = .agg #[u1] ∧ L = [box g2 119 [v3, .int .i64 r.2.at_, .int .u64 r.2.seed], row u1 9 fStr r.1.rows])) := by
  unfold s_l06Bent at hm
  refine Calls.enter1 hA [pt g2 0] Try.func88 rfl Try.ntmps88 rfl ?_
  refine WJ.seq ?_
  refine WJ.reg ?_
  refine SJ.alloc (cs := [.slice none 0 0]) Try.zeroValue26 rfl rfl fun g5 => ?_
  refine SJ.nil_row 9 fStr ?_
  refine SJ.nil ?_
  refine PJ.next ?_
  refine WJ.seq ?_
  refine WJ.reg ?_
  refine SJ.q (YldS.yld (y_move rfl)) rfl ?_
  obtain ⟨r6, h7, hm⟩ := bindS hm
  refine SJ.call1 (k := 2) rfl Try.call110 rfl (fun w S hw hA hO => ok_s_l06Draw h7 w S _ (hr4.st1 hw hO) hA) rfl ?_
  rintro _ _ ⟨v8, rfl, rfl⟩
  refine SJ.alloc (cs := [.slice none 0 0]) Try.zeroValue26 rfl rfl fun g9 => ?_
  refine SJ.nil_row 9 fStr ?_
  refine SJ.rowCells (k := 3) rfl fun hc10 => ?_
  refine SJ.storeL (k := 1) (off := 0) (us := [v8]) rfl rfl rfl rfl Try.sizeOf26 rfl (by simp only [List.all_cons, hc10.2]; rfl) ?_
  refine SJ.erase 0 ?_
  refine SJ.nil ?_
  refine PJ.next ?_
  obtain ⟨kj15, hk16, hm⟩ := withK_open hm
  refine WJ.join (X := Int × Int × (List Str) × Value) (fun (x : Int × Int × (List Str) × Value) => kj15 x.1 x.2.1 x.2.2.1 = some r) (fun (x : Int × Int × (List Str) × Value) => [(2, pt g5 0), (3, pt g9 0)]) (fun (x : Int × Int × (List Str) × Value) => [box g2 119 [v3, .int .i64 x.1, .int .u64 x.2.1], box g9 26 [x.2.2.2], row x.2.2.2 9 fStr x.2.2.1, row (.slice none 0 0) 9 fStr [], box g5 26 [(.slice none 0 0)]]) ?_ ?_
  · clear hk16
    refine WJ.seq ?_
    refine WJ.reg ?_
    refine SJ.q (YldS.yld (y_move rfl)) rfl ?_
    obtain ⟨r17, h18, hm⟩ := bindS hm
    refine SJ.call1 (k := 1) rfl Try.call64 rfl (fun w S hw hA hO => ok_s_l00Src_pick h18 w S _ (hr4.st1 hw hO) hA) rfl ?_
    rintro _ _ ⟨rfl, rfl⟩
    refine SJ.nil ?_
    refine PJ.next ?_
    refine WJ.block ?_
    refine WJ.seq ?_
    refine WJ.quiet ?_
    refine QJ.step (YldS.yld (y_bin rfl rfl rfl)) rfl ?_
    refine QJ.step (YldS.yld (y_assign rfl)) rfl ?_
    refine QJ.done ?_
    refine PJ.next ?_
    refine WJ.cond (t := (r17.1 == 0)) rfl (fun hb19 => ?_) (fun hb19 => ?_)
    · replace hm := ifT hm hb19
      obtain ⟨e20, h21, hm⟩ := bindS hm
      obtain ⟨r23, h24, hm⟩ := bindS hm
      obtain ⟨s25, h26, hm⟩ := bindS hm
      obtain ⟨e27, h28, hm⟩ := bindS hm
      refine WJ.draws (N := 10) (listed0 := #[false, false, false, false, false, false, false, false, false, false]) [box g9 26 [v8], row (.slice none 0 0) 9 fStr [], box g5 26 [(.slice none 0 0)]] follows rfl rfl ?_
      refine RJ.first 0 (listed' := #[true, false, false, false, false, false, false, false, false, false]) [1, 3, 4] rfl (by kernel_rfl) rfl ⟨by decide, rfl⟩ (y_fldB (o := 0) fld26_0 rfl) rfl ?_
      refine RJ.first 1 (listed' := #[true, true, false, false, false, false, false, false, false, false]) [1, 3, 4] rfl (by kernel_rfl) rfl ⟨by decide, rfl⟩ (y_loadB (k := 0) (off := 0) (v := v8) rfl Try.isAgg24 rfl rfl) rfl ?_
      refine RJ.first 4 (listed' := #[true, true, false, false, true, false, false, false, false, false]) [1, 3, 4] rfl (by kernel_rfl) rfl ⟨by decide, rfl⟩ (y_move rfl) rfl ?_
      refine RJ.hold (X := Value) 3 #[true, true, true, true, true, true, true, false, false, false] (fun (x : Value) => [(2, pt g5 0), (3, pt g9 0), (11, v8), (13, str e20), (16, str r23.1)]) (fun (x : Value) => [box g2 119 [v3, .int .i64 r23.2.at_, .int .u64 r23.2.seed], row x 9 fStr ([[47], [32], [113, 113], [127]] : List Str), box g9 26 [v8], row v8 9 fStr r6.1.rows, row (.slice none 0 0) 9 fStr [], box g5 26 [(.slice none 0 0)]]) ?_ ?_
      · rintro v22
        refine RJ.first 7 (listed' := #[true, true, true, true, true, true, true, true, false, false]) [2, 4, 5] rfl (by kernel_rfl) rfl ⟨by decide, rfl⟩ (y_cat h26 rfl rfl) rfl ?_
        refine RJ.step1 8 [2, 4, 5] (by kernel_rfl) ⟨by decide, rfl⟩ ?_
        refine RO.of (listed' := #[true, true, true, true, true, true, true, true, true, false]) rfl rfl ?_
        refine SJ.q (YldS.yld (y_ixRow (k := 3) (R := fStr) rfl Try.runUnderlying24 Try.sizeOf9 rfl rfl h28)) rfl ?_
        refine SJ.nil ?_
        refine PJ.draw ?_
        refine RJ.step1 9 [2, 4, 5] (by kernel_rfl) ⟨by decide, rfl⟩ ?_
        refine RO.of (listed' := #[true, true, true, true, true, true, true, true, true, true]) rfl rfl ?_
        refine SJ.storeRL (k := 3) (i := (Int.toNat 0)) (off := 0) (us := [str s25]) (b := s25) rfl rfl (idx_get h28) rfl rfl Try.sizeOf9 rfl rfl rfl ?_
        refine SJ.nil ?_
        refine PJ.draw ?_
        refine RJ.fin [2, 4, 5] (by kernel_rfl) ⟨by decide, rfl⟩ ?_
        refine PJ.block_normal ?_
        exact PJ.joined (r23.2.at_, r23.2.seed, (List.set r6.1.rows (Int.toNat 0) s25), v8) [0, 2, 3, 4, 5] hm ⟨rfl, rfl, trivial⟩ ⟨by decide, rfl⟩
      · intro hD29
        refine RJ.step2 2 5 [1, 3, 4] (by kernel_rfl) ⟨by decide, rfl⟩ ?_ ?_
        · refine RO.of (listed' := #[true, true, true, false, true, false, false, false, false, false]) rfl rfl ?_
          refine SJ.q (YldS.yld (y_ixRow (k := 2) (R := fStr) rfl Try.runUnderlying24 Try.sizeOf9 rfl rfl h21)) rfl ?_
          refine SJ.nil ?_
          refine PJ.draw ?_
          refine RJ.step2 3 5 [1, 3, 4] (by kernel_rfl) ⟨by decide, rfl⟩ ?_ ?_
          · refine RO.of (listed' := #[true, true, true, true, true, false, false, false, false, false]) rfl rfl ?_
            refine SJ.q (YldS.yld (y_loadR (k := 2) (i := (Int.toNat 0)) (off := 0) (u := str e20) rfl Try.isAgg9 rfl (idx_get h21) rfl)) rfl ?_
            refine SJ.nil ?_
            refine PJ.draw ?_
            refine RJ.step1 5 [1, 3, 4] (by kernel_rfl) ⟨by decide, rfl⟩ ?_
            refine RO.of (listed' := #[true, true, true, true, true, true, false, false, false, false]) rfl rfl ?_
            refine SJ.buildSlice (R := fStr) (os := [.const (str [47]), .const (str [32]), .const (str [113, 113]), .const (str [127])]) ([[47], [32], [113, 113], [127]] : List Str) Try.runUnderlying24 Try.sizeOf9 Try.zeroValue9 rfl rfl rfl rfl rfl rfl fun v22 => ?_
            refine SJ.nil ?_
            refine PJ.draw ?_
            refine RJ.step1 6 [2, 4, 5] (by kernel_rfl) ⟨by decide, rfl⟩ ?_
            refine RO.of (listed' := #[true, true, true, true, true, true, true, false, false, false]) rfl rfl ?_
            refine SJ.call2 (k := 1) rfl Try.call111 rfl (fun w S hw hA hO hB => ok_s_l00Src_text h24 w S _ (hr4.st1 hw hO) _ (hB.row_rd (j := 0) (k := 1) rfl rfl) hA) rfl ?_
            rintro _ _ ⟨rfl, rfl⟩
            refine SJ.nil ?_
            refine PJ.draw ?_
            exact RJ.weak (hD29 v22) [0, 1, 2, 3, 4, 5] ⟨rfl, rfl, rfl, rfl, rfl, trivial⟩ ⟨by decide, rfl⟩
          · refine RO.of (listed' := #[true, true, true, false, true, true, false, false, false, false]) rfl rfl ?_
            refine SJ.buildSlice (R := fStr) (os := [.const (str [47]), .const (str [32]), .const (str [113, 113]), .const (str [127])]) ([[47], [32], [113, 113], [127]] : List Str) Try.runUnderlying24 Try.sizeOf9 Try.zeroValue9 rfl rfl rfl rfl rfl rfl fun v22 => ?_
            refine SJ.nil ?_
            refine PJ.draw ?_
            refine RJ.step2 3 6 [2, 4, 5] (by kernel_rfl) ⟨by decide, rfl⟩ ?_ ?_
            · refine RO.of (listed' := #[true, true, true, true, true, true, false, false, false, false]) rfl rfl ?_
              refine SJ.q (YldS.yld (y_loadR (k := 3) (i := (Int.toNat 0)) (off := 0) (u := str e20) rfl Try.isAgg9 rfl (idx_get h21) rfl)) rfl ?_
              refine SJ.nil ?_
              refine PJ.draw ?_
              refine RJ.step1 6 [2, 4, 5] (by kernel_rfl) ⟨by decide, rfl⟩ ?_
              refine RO.of (listed' := #[true, true, true, true, true, true, true, false, false, false]) rfl rfl ?_
              refine SJ.call2 (k := 1) rfl Try.call111 rfl (fun w S hw hA hO hB => ok_s_l00Src_text h24 w S _ (hr4.st1 hw hO) _ (hB.row_rd (j := 0) (k := 1) rfl rfl) hA) rfl ?_
              rintro _ _ ⟨rfl, rfl⟩
              refine SJ.nil ?_
              refine PJ.draw ?_
              exact RJ.weak (hD29 v22) [0, 1, 2, 3, 4, 5] ⟨rfl, rfl, rfl, rfl, rfl, trivial⟩ ⟨by decide, rfl⟩
            · refine RO.of (listed' := #[true, true, true, false, true, true, true, false, false, false]) rfl rfl ?_
              refine SJ.call2 (k := 1) rfl Try.call111 rfl (fun w S hw hA hO hB => ok_s_l00Src_text h24 w S _ (hr4.st1 hw hO) _ (hB.row_rd (j := 0) (k := 1) rfl rfl) hA) rfl ?_
              rintro _ _ ⟨rfl, rfl⟩
              refine SJ.nil ?_
              refine PJ.draw ?_
              refine RJ.step1 3 [2, 4, 5] (by kernel_rfl) ⟨by decide, rfl⟩ ?_
              refine RO.of (listed' := #[true, true, true, true, true, true, true, false, false, false]) rfl rfl ?_
              refine SJ.q (YldS.yld (y_loadR (k := 3) (i := (Int.toNat 0)) (off := 0) (u := str e20) rfl Try.isAgg9 rfl (idx_get h21) rfl)) rfl ?_
              refine SJ.nil ?_
              refine PJ.draw ?_
              exact RJ.weak (hD29 v22) [0, 1, 2, 3, 4, 5] ⟨rfl, rfl, rfl, rfl, rfl, trivial⟩ ⟨by decide, rfl⟩
        · refine RO.of (listed' := #[true, true, false, false, true, true, false, false, false, false]) rfl rfl ?_
          refine SJ.buildSlice (R := fStr) (os := [.const (str [47]), .const (str [32]), .const (str [113, 113]), .const (str [127])]) ([[47], [32], [113, 113], [127]] : List Str) Try.runUnderlying24 Try.sizeOf9 Try.zeroValue9 rfl rfl rfl rfl rfl rfl fun v22 => ?_
          refine SJ.nil ?_
          refine PJ.draw ?_
          refine RJ.step2 2 6 [2, 4, 5] (by kernel_rfl) ⟨by decide, rfl⟩ ?_ ?_
          · refine RO.of (listed' := #[true, true, true, false, true, true, false, false, false, false]) rfl rfl ?_
            refine SJ.q (YldS.yld (y_ixRow (k := 3) (R := fStr) rfl Try.runUnderlying24 Try.sizeOf9 rfl rfl h21)) rfl ?_
            refine SJ.nil ?_
            refine PJ.draw ?_
            refine RJ.step2 3 6 [2, 4, 5] (by kernel_rfl) ⟨by decide, rfl⟩ ?_ ?_
            · refine RO.of (listed' := #[true, true, true, true, true, true, false, false, false, false]) rfl rfl ?_
              refine SJ.q (YldS.yld (y_loadR (k := 3) (i := (Int.toNat 0)) (off := 0) (u := str e20) rfl Try.isAgg9 rfl (idx_get h21) rfl)) rfl ?_
              refine SJ.nil ?_
              refine PJ.draw ?_
              refine RJ.step1 6 [2, 4, 5] (by kernel_rfl) ⟨by decide, rfl⟩ ?_
              refine RO.of (listed' := #[true, true, true, true, true, true, true, false, false, false]) rfl rfl ?_
              refine SJ.call2 (k := 1) rfl Try.call111 rfl (fun w S hw hA hO hB => ok_s_l00Src_text h24 w S _ (hr4.st1 hw hO) _ (hB.row_rd (j := 0) (k := 1) rfl rfl) hA) rfl ?_
              rintro _ _ ⟨rfl, rfl⟩
              refine SJ.nil ?_
              refine PJ.draw ?_
              exact RJ.weak (hD29 v22) [0, 1, 2, 3, 4, 5] ⟨rfl, rfl, rfl, rfl, rfl, trivial⟩ ⟨by decide, rfl⟩
            · refine RO.of (listed' := #[true, true, true, false, true, true, true, false, false, false]) rfl rfl ?_
              refine SJ.call2 (k := 1) rfl Try.call111 rfl (fun w S hw hA hO hB => ok_s_l00Src_text h24 w S _ (hr4.st1 hw hO) _ (hB.row_rd (j := 0) (k := 1) rfl rfl) hA) rfl ?_
              rintro _ _ ⟨rfl, rfl⟩
              refine SJ.nil ?_
              refine PJ.draw ?_
              refine RJ.step1 3 [2, 4, 5] (by kernel_rfl) ⟨by decide, rfl⟩ ?_
              refine RO.of (listed' := #[true, true, true, true, true, true, true, false, false, false]) rfl rfl ?_
              refine SJ.q (YldS.yld (y_loadR (k := 3) (i := (Int.toNat 0)) (off := 0) (u := str e20) rfl Try.isAgg9 rfl (idx_get h21) rfl)) rfl ?_
              refine SJ.nil ?_
              refine PJ.draw ?_
              exact RJ.weak (hD29 v22) [0, 1, 2, 3, 4, 5] ⟨rfl, rfl, rfl, rfl, rfl, trivial⟩ ⟨by decide, rfl⟩
          · refine RO.of (listed' := #[true, true, false, false, true, true, true, false, false, false]) rfl rfl ?_
            refine SJ.call2 (k := 1) rfl Try.call111 rfl (fun w S hw hA hO hB => ok_s_l00Src_text h24 w S _ (hr4.st1 hw hO) _ (hB.row_rd (j := 0) (k := 1) rfl rfl) hA) rfl ?_
            rintro _ _ ⟨rfl, rfl⟩
            refine SJ.nil ?_
            refine PJ.draw ?_
            refine RJ.step1 2 [2, 4, 5] (by kernel_rfl) ⟨by decide, rfl⟩ ?_
            refine RO.of (listed' := #[true, true, true, false, true, true, true, false, false, false]) rfl rfl ?_
            refine SJ.q (YldS.yld (y_ixRow (k := 3) (R := fStr) rfl Try.runUnderlying24 Try.sizeOf9 rfl rfl h21)) rfl ?_
            refine SJ.nil ?_
            refine PJ.draw ?_
            refine RJ.step1 3 [2, 4, 5] (by kernel_rfl) ⟨by decide, rfl⟩ ?_
            refine RO.of (listed' := #[true, true, true, true, true, true, true, false, false, false]) rfl rfl ?_
            refine SJ.q (YldS.yld (y_loadR (k := 3) (i := (Int.toNat 0)) (off := 0) (u := str e20) rfl Try.isAgg9 rfl (idx_get h21) rfl)) rfl ?_
            refine SJ.nil ?_
            refine PJ.draw ?_
            exact RJ.weak (hD29 v22) [0, 1, 2, 3, 4, 5] ⟨rfl, rfl, rfl, rfl, rfl, trivial⟩ ⟨by decide, rfl⟩
    · replace hm := ifF hm hb19
      refine WJ.seq ?_
      refine WJ.quiet ?_
      refine QJ.step (YldS.yld (y_bin rfl rfl rfl)) rfl ?_
      refine QJ.step (YldS.yld (y_assign rfl)) rfl ?_
      refine QJ.done ?_
      refine PJ.next ?_
      refine WJ.cond (t := (r17.1 == 1)) rfl (fun hb30 => ?_) (fun hb30 => ?_)
      · replace hm := ifT hm hb30
        obtain ⟨r32, h33, hm⟩ := bindS hm
        obtain ⟨l35, h36, hm⟩ := bindS hm
        refine WJ.draws (N := 9) (listed0 := #[false, false, false, false, false, false, false, false, false]) [row (.slice none 0 0) 9 fStr [], box g5 26 [(.slice none 0 0)]] follows rfl rfl ?_
        refine RJ.first 0 (listed' := #[true, false, false, false, false, false, false, false, false]) [3, 4] rfl (by kernel_rfl) rfl ⟨by decide, rfl⟩ (y_fldB (o := 0) fld26_0 rfl) rfl ?_
        refine RJ.first 2 (listed' := #[true, false, true, false, false, false, false, false, false]) [3, 4] rfl (by kernel_rfl) rfl ⟨by decide, rfl⟩ (y_move rfl) rfl ?_
        refine RJ.hold (X := Value × Value) 3 #[true, true, true, true, true, true, false, false, false] (fun (x : Value × Value) => [(2, pt g5 0), (3, pt g9 0), (22, v8), (26, x.1)]) (fun (x : Value × Value) => [row x.1 9 fStr [r32.1], box g2 119 [v3, .int .i64 r32.2.at_, .int .u64 r32.2.seed], row x.2 9 fStr ([[], [43], [113]] : List Str), box g9 26 [v8], row v8 9 fStr r6.1.rows, row (.slice none 0 0) 9 fStr [], box g5 26 [(.slice none 0 0)]]) ?_ ?_
        · rintro ⟨v34, v31⟩
          refine RJ.step1 6 [5, 6] (by kernel_rfl) ⟨by decide, rfl⟩ ?_
          refine RO.of (listed' := #[true, true, true, true, true, true, true, false, false]) rfl rfl ?_
          refine SJ.append (k := 4) (R := fStr) h36 rfl Try.underlying24 el9 rfl rfl rfl (fun w hw => (hw.row_rd (k := 0) rfl)) rfl fun v37 => ?_
          refine SJ.nil ?_
          refine PJ.draw ?_
          refine RJ.first 7 (listed' := #[true, true, true, true, true, true, true, true, false]) [5, 6] rfl (by kernel_rfl) rfl ⟨by decide, rfl⟩ (y_fldB (o := 0) fld26_0 rfl) rfl ?_
          refine RJ.step1 8 [5, 6] (by kernel_rfl) ⟨by decide, rfl⟩ ?_
          refine RO.of (listed' := #[true, true, true, true, true, true, true, true, true]) rfl rfl ?_
          refine SJ.rowCells (k := 4) rfl fun hc38 => ?_
          refine SJ.storeL (k := 3) (off := 0) (us := [v37]) rfl rfl rfl hc38.1 Try.sizeOf24 rfl (by simp [hc38.2]) ?_
          refine SJ.nil ?_
          refine PJ.draw ?_
          refine RJ.fin [5, 6] (by kernel_rfl) ⟨by decide, rfl⟩ ?_
          refine PJ.block_normal ?_
          exact PJ.joined (r32.2.at_, r32.2.seed, l35, v37) [1, 3, 4, 5, 6] hm ⟨rfl, rfl, trivial⟩ ⟨by decide, rfl⟩
        · intro hD39
          refine RJ.step2 1 3 [3, 4] (by kernel_rfl) ⟨by decide, rfl⟩ ?_ ?_
          · refine RO.of (listed' := #[true, true, true, false, false, false, false, false, false]) rfl rfl ?_
            refine SJ.q (YldS.yld (y_loadB (k := 1) (off := 0) (v := v8) rfl Try.isAgg24 rfl rfl)) rfl ?_
            refine SJ.nil ?_
            refine PJ.draw ?_
            refine RJ.step1 3 [3, 4] (by kernel_rfl) ⟨by decide, rfl⟩ ?_
            refine RO.of (listed' := #[true, true, true, true, false, false, false, false, false]) rfl rfl ?_
            refine SJ.buildSlice (R := fStr) (os := [.const (str []), .const (str [43]), .const (str [113])]) ([[], [43], [113]] : List Str) Try.runUnderlying24 Try.sizeOf9 Try.zeroValue9 rfl rfl rfl rfl rfl rfl fun v31 => ?_
            refine SJ.nil ?_
            refine PJ.draw ?_
            refine RJ.step1 4 [4, 5] (by kernel_rfl) ⟨by decide, rfl⟩ ?_
            refine RO.of (listed' := #[true, true, true, true, true, false, false, false, false]) rfl rfl ?_
            refine SJ.call2 (k := 1) rfl Try.call111 rfl (fun w S hw hA hO hB => ok_s_l00Src_text h33 w S _ (hr4.st1 hw hO) _ (hB.row_rd (j := 0) (k := 1) rfl rfl) hA) rfl ?_
            rintro _ _ ⟨rfl, rfl⟩
            refine SJ.nil ?_
            refine PJ.draw ?_
            refine RJ.step1 5 [4, 5] (by kernel_rfl) ⟨by decide, rfl⟩ ?_
            refine RO.of (listed' := #[true, true, true, true, true, true, false, false, false]) rfl rfl ?_
            refine SJ.buildSlice (R := fStr) (os := [.tmp 25]) [r32.1] Try.runUnderlying24 Try.sizeOf9 Try.zeroValue9 rfl rfl rfl rfl rfl rfl fun v34 => ?_
            refine SJ.nil ?_
            refine PJ.draw ?_
            exact RJ.weak (hD39 (v34, v31)) [0, 1, 2, 3, 4, 5, 6] ⟨rfl, rfl, rfl, rfl, trivial⟩ ⟨by decide, rfl⟩
          · refine RO.of (listed' := #[true, false, true, true, false, false, false, false, false]) rfl rfl ?_
            refine SJ.buildSlice (R := fStr) (os := [.const (str []), .const (str [43]), .const (str [113])]) ([[], [43], [113]] : List Str) Try.runUnderlying24 Try.sizeOf9 Try.zeroValue9 rfl rfl rfl rfl rfl rfl fun v31 => ?_
            refine SJ.nil ?_
            refine PJ.draw ?_
            refine RJ.step2 1 4 [4, 5] (by kernel_rfl) ⟨by decide, rfl⟩ ?_ ?_
            · refine RO.of (listed' := #[true, true, true, true, false, false, false, false, false]) rfl rfl ?_
              refine SJ.q (YldS.yld (y_loadB (k := 2) (off := 0) (v := v8) rfl Try.isAgg24 rfl rfl)) rfl ?_
              refine SJ.nil ?_
              refine PJ.draw ?_
              refine RJ.step1 4 [4, 5] (by kernel_rfl) ⟨by decide, rfl⟩ ?_
              refine RO.of (listed' := #[true, true, true, true, true, false, false, false, false]) rfl rfl ?_
              refine SJ.call2 (k := 1) rfl Try.call111 rfl (fun w S hw hA hO hB => ok_s_l00Src_text h33 w S _ (hr4.st1 hw hO) _ (hB.row_rd (j := 0) (k := 1) rfl rfl) hA) rfl ?_
              rintro _ _ ⟨rfl, rfl⟩
              refine SJ.nil ?_
              refine PJ.draw ?_
              refine RJ.step1 5 [4, 5] (by kernel_rfl) ⟨by decide, rfl⟩ ?_
              refine RO.of (listed' := #[true, true, true, true, true, true, false, false, false]) rfl rfl ?_
              refine SJ.buildSlice (R := fStr) (os := [.tmp 25]) [r32.1] Try.runUnderlying24 Try.sizeOf9 Try.zeroValue9 rfl rfl rfl rfl rfl rfl fun v34 => ?_
              refine SJ.nil ?_
              refine PJ.draw ?_
              exact RJ.weak (hD39 (v34, v31)) [0, 1, 2, 3, 4, 5, 6] ⟨rfl, rfl, rfl, rfl, trivial⟩ ⟨by decide, rfl⟩
            · refine RO.of (listed' := #[true, false, true, true, true, false, false, false, false]) rfl rfl ?_
              refine SJ.call2 (k := 1) rfl Try.call111 rfl (fun w S hw hA hO hB => ok_s_l00Src_text h33 w S _ (hr4.st1 hw hO) _ (hB.row_rd (j := 0) (k := 1) rfl rfl) hA) rfl ?_
              rintro _ _ ⟨rfl, rfl⟩
              refine SJ.nil ?_
              refine PJ.draw ?_
              refine RJ.step2 1 5 [4, 5] (by kernel_rfl) ⟨by decide, rfl⟩ ?_ ?_
              · refine RO.of (listed' := #[true, true, true, true, true, false, false, false, false]) rfl rfl ?_
                refine SJ.q (YldS.yld (y_loadB (k := 2) (off := 0) (v := v8) rfl Try.isAgg24 rfl rfl)) rfl ?_
                refine SJ.nil ?_
                refine PJ.draw ?_
                refine RJ.step1 5 [4, 5] (by kernel_rfl) ⟨by decide, rfl⟩ ?_
                refine RO.of (listed' := #[true, true, true, true, true, true, false, false, false]) rfl rfl ?_
                refine SJ.buildSlice (R := fStr) (os := [.tmp 25]) [r32.1] Try.runUnderlying24 Try.sizeOf9 Try.zeroValue9 rfl rfl rfl rfl rfl rfl fun v34 => ?_
                refine SJ.nil ?_
                refine PJ.draw ?_
                exact RJ.weak (hD39 (v34, v31)) [0, 1, 2, 3, 4, 5, 6] ⟨rfl, rfl, rfl, rfl, trivial⟩ ⟨by decide, rfl⟩
              · refine RO.of (listed' := #[true, false, true, true, true, true, false, false, false]) rfl rfl ?_
                refine SJ.buildSlice (R := fStr) (os := [.tmp 25]) [r32.1] Try.runUnderlying24 Try.sizeOf9 Try.zeroValue9 rfl rfl rfl rfl rfl rfl fun v34 => ?_
                refine SJ.nil ?_
                refine PJ.draw ?_
                refine RJ.step1 1 [5, 6] (by kernel_rfl) ⟨by decide, rfl⟩ ?_
                refine RO.of (listed' := #[true, true, true, true, true, true, false, false, false]) rfl rfl ?_
                refine SJ.q (YldS.yld (y_loadB (k := 3) (off := 0) (v := v8) rfl Try.isAgg24 rfl rfl)) rfl ?_
                refine SJ.nil ?_
                refine PJ.draw ?_
                exact RJ.weak (hD39 (v34, v31)) [0, 1, 2, 3, 4, 5, 6] ⟨rfl, rfl, rfl, rfl, trivial⟩ ⟨by decide, rfl⟩
      · replace hm := ifF hm hb30
        refine WJ.seq ?_
        refine WJ.quiet ?_
        refine QJ.step (YldS.yld (y_bin rfl rfl rfl)) rfl ?_
        refine QJ.step (YldS.yld (y_assign rfl)) rfl ?_
        refine QJ.done ?_
        refine PJ.next ?_
        refine WJ.cond (t := (r17.1 == 2)) rfl (fun hb40 => ?_) (fun hb40 => ?_)
        · replace hm := ifT hm hb40
          refine WJ.seq ?_
          refine WJ.reg ?_
          refine SJ.buildSlice (R := fStr) (os := [.const (str [97, 98, 99, 100, 101, 102, 103, 104, 105, 106, 107, 108]), .const (str [65, 66, 67, 68, 69, 70, 71, 72, 73, 74, 75, 76]), .const (str [49, 50, 51, 52, 53, 54, 55, 56, 57, 43, 45, 61]), .const (str [109, 110, 111, 112, 113, 114, 115, 116, 117, 118, 119, 120])]) ([[97, 98, 99, 100, 101, 102, 103, 104, 105, 106, 107, 108], [65, 66, 67, 68, 69, 70, 71, 72, 73, 74, 75, 76], [49, 50, 51, 52, 53, 54, 55, 56, 57, 43, 45, 61], [109, 110, 111, 112, 113, 114, 115, 116, 117, 118, 119, 120]] : List Str) Try.runUnderlying24 Try.sizeOf9 Try.zeroValue9 rfl rfl rfl rfl rfl rfl fun v41 => ?_
          refine SJ.q (YldS.yld (y_fldB (o := 0) fld26_0 rfl)) rfl ?_
          refine SJ.rowCells (k := 0) rfl fun hc42 => ?_
          refine SJ.storeL (k := 2) (off := 0) (us := [v41]) rfl rfl rfl hc42.1 Try.sizeOf24 rfl (by simp [hc42.2]) ?_
          refine SJ.erase 3 ?_
          refine SJ.nil ?_
          refine PJ.next ?_
          obtain ⟨kj46, hk47, hm⟩ := withK_open hm
          refine WJ.join (X := Int × Int × (List Str)) (fun (x : Int × Int × (List Str)) => kj46 x.1 x.2.1 x.2.2 = some r) (fun (x : Int × Int × (List Str)) => [(0, pt g2 0), (2, pt g5 0), (3, pt g9 0)]) (fun (x : Int × Int × (List Str)) => [box g2 119 [v3, .int .i64 x.1, .int .u64 x.2.1], row v41 9 fStr x.2.2, box g9 26 [v41], row (.slice none 0 0) 9 fStr [], box g5 26 [(.slice none 0 0)]]) ?_ ?_
          · clear hk47
            refine WJ.seq ?_
            refine WJ.reg ?_
            refine SJ.q (YldS.yld (y_move rfl)) rfl ?_
            obtain ⟨r48, h49, hm⟩ := bindS hm
            refine SJ.call1 (k := 1) rfl Try.call89 rfl (fun w S hw hA hO => ok_s_l00Src_one h49 w S _ (hr4.st1 hw hO) hA) rfl ?_
            rintro _ _ ⟨rfl, rfl⟩
            refine SJ.nil ?_
            refine PJ.next ?_
            refine WJ.cond (t := r48.1) rfl (fun hb50 => ?_) (fun hb50 => ?_)
            · replace hm := ifT hm hb50
              obtain ⟨r51, h52, hm⟩ := bindS hm
              obtain ⟨e53, h54, hm⟩ := bindS hm
              obtain ⟨s55, h56, hm⟩ := bindS hm
              obtain ⟨e57, h58, hm⟩ := bindS hm
              refine WJ.draws (N := 9) (listed0 := #[false, false, false, false, false, false, false, false, false]) [box g9 26 [v41], row (.slice none 0 0) 9 fStr [], box g5 26 [(.slice none 0 0)]] follows rfl rfl ?_
              refine RJ.first 0 (listed' := #[true, false, false, false, false, false, false, false, false]) [2, 3, 4] rfl (by kernel_rfl) rfl ⟨by decide, rfl⟩ (y_fldB (o := 0) fld26_0 rfl) rfl ?_
              refine RJ.first 1 (listed' := #[true, true, false, false, false, false, false, false, false]) [2, 3, 4] rfl (by kernel_rfl) rfl ⟨by decide, rfl⟩ (y_loadB (k := 0) (off := 0) (v := v41) rfl Try.isAgg24 rfl rfl) rfl ?_
              refine RJ.first 2 (listed' := #[true, true, true, false, false, false, false, false, false]) [2, 3, 4] rfl (by kernel_rfl) rfl ⟨by decide, rfl⟩ (y_move rfl) rfl ?_
              refine RJ.step1 3 [2, 3, 4] (by kernel_rfl) ⟨by decide, rfl⟩ ?_
              refine RO.of (listed' := #[true, true, true, true, false, false, false, false, false]) rfl rfl ?_
              refine SJ.call1 (k := 0) rfl Try.call64 rfl (fun w S hw hA hO => ok_s_l00Src_pick h52 w S _ (hr4.st1 hw hO) hA) rfl ?_
              rintro _ _ ⟨rfl, rfl⟩
              refine SJ.nil ?_
              refine PJ.draw ?_
              refine RJ.step1 4 [2, 3, 4] (by kernel_rfl) ⟨by decide, rfl⟩ ?_
              refine RO.of (listed' := #[true, true, true, true, true, false, false, false, false]) rfl rfl ?_
              refine SJ.q (YldS.yld (y_ixRow (k := 1) (R := fStr) rfl Try.runUnderlying24 Try.sizeOf9 rfl rfl h54)) rfl ?_
              refine SJ.nil ?_
              refine PJ.draw ?_
              refine RJ.step1 5 [2, 3, 4] (by kernel_rfl) ⟨by decide, rfl⟩ ?_
              refine RO.of (listed' := #[true, true, true, true, true, true, false, false, false]) rfl rfl ?_
              refine SJ.q (YldS.yld (y_loadR (k := 1) (i := (Int.toNat r51.1)) (off := 0) (u := str e53) rfl Try.isAgg9 rfl (idx_get h54) rfl)) rfl ?_
              refine SJ.nil ?_
              refine PJ.draw ?_
              refine RJ.first 6 (listed' := #[true, true, true, true, true, true, true, false, false]) [2, 3, 4] rfl (by kernel_rfl) rfl ⟨by decide, rfl⟩ (y_cat h56 rfl rfl) rfl ?_
              refine RJ.step1 7 [2, 3, 4] (by kernel_rfl) ⟨by decide, rfl⟩ ?_
              refine RO.of (listed' := #[true, true, true, true, true, true, true, true, false]) rfl rfl ?_
              refine SJ.q (YldS.yld (y_ixRow (k := 1) (R := fStr) rfl Try.runUnderlying24 Try.sizeOf9 rfl rfl h58)) rfl ?_
              refine SJ.nil ?_
              refine PJ.draw ?_
              refine RJ.step1 8 [2, 3, 4] (by kernel_rfl) ⟨by decide, rfl⟩ ?_
              refine RO.of (listed' := #[true, true, true, true, true, true, true, true, true]) rfl rfl ?_
              refine SJ.storeRL (k := 1) (i := (Int.toNat r51.1)) (off := 0) (us := [str s55]) (b := s55) rfl rfl (idx_get h58) rfl rfl Try.sizeOf9 rfl rfl rfl ?_
              refine SJ.nil ?_
              refine PJ.draw ?_
              refine RJ.fin [2, 3, 4] (by kernel_rfl) ⟨by decide, rfl⟩ ?_
              exact PJ.joined (r51.2.at_, r51.2.seed, (List.set ([[97, 98, 99, 100, 101, 102, 103, 104, 105, 106, 107, 108], [65, 66, 67, 68, 69, 70, 71, 72, 73, 74, 75, 76], [49, 50, 51, 52, 53, 54, 55, 56, 57, 43, 45, 61], [109, 110, 111, 112, 113, 114, 115, 116, 117, 118, 119, 120]] : List Str) (Int.toNat r51.1) s55)) [0, 1, 2, 3, 4] hm ⟨rfl, rfl, rfl, trivial⟩ ⟨by decide, rfl⟩
            · replace hm := ifF hm hb50
              refine WJ.skip ?_
              exact PJ.joined (r48.2.at_, r48.2.seed, ([[97, 98, 99, 100, 101, 102, 103, 104, 105, 106, 107, 108], [65, 66, 67, 68, 69, 70, 71, 72, 73, 74, 75, 76], [49, 50, 51, 52, 53, 54, 55, 56, 57, 43, 45, 61], [109, 110, 111, 112, 113, 114, 115, 116, 117, 118, 119, 120]] : List Str)) [0, 1, 2, 3, 4] hm ⟨rfl, rfl, rfl, trivial⟩ ⟨by decide, rfl⟩
          · rintro ⟨x43, x44, l45⟩ hm
            subst hk47
            refine WJ.seq ?_
            refine WJ.reg ?_
            refine SJ.q (YldS.yld (y_move rfl)) rfl ?_
            obtain ⟨r59, h60, hm⟩ := bindS hm
            refine SJ.call1 (k := 0) rfl Try.call89 rfl (fun w S hw hA hO => ok_s_l00Src_one h60 w S _ (hr4.st1 hw hO) hA) rfl ?_
            rintro _ _ ⟨rfl, rfl⟩
            refine SJ.nil ?_
            refine PJ.next ?_
            refine WJ.cond (t := r59.1) rfl (fun hb61 => ?_) (fun hb61 => ?_)
            · replace hm := ifT hm hb61
              refine WJ.reg ?_
              refine SJ.q (YldS.yld (y_fldB (o := 0) fld26_0 rfl)) rfl ?_
              refine SJ.q (YldS.yld (y_loadB (k := 2) (off := 0) (v := v41) rfl Try.isAgg24 rfl rfl)) rfl ?_
              refine SJ.buildSlice (R := fStr) (os := [.const (str [121, 122])]) ([[121, 122]] : List Str) Try.runUnderlying24 Try.sizeOf9 Try.zeroValue9 rfl rfl rfl rfl rfl rfl fun v62 => ?_
              obtain ⟨l63, h64, hm⟩ := bindS hm
              refine SJ.append (k := 2) (R := fStr) h64 rfl Try.underlying24 el9 rfl rfl rfl (fun w hw => (hw.row_rd (k := 0) rfl)) rfl fun v65 => ?_
              refine SJ.q (YldS.yld (y_fldB (o := 0) fld26_0 rfl)) rfl ?_
              refine SJ.rowCells (k := 2) rfl fun hc66 => ?_
              refine SJ.storeL (k := 3) (off := 0) (us := [v65]) rfl rfl rfl hc66.1 Try.sizeOf24 rfl (by simp [hc66.2]) ?_
              refine SJ.nil ?_
              refine PJ.block_normal ?_
              exact PJ.joined (r59.2.at_, r59.2.seed, l63, v65) [1, 3, 2, 4, 5] hm ⟨rfl, rfl, trivial⟩ ⟨by decide, rfl⟩
            · replace hm := ifF hm hb61
              refine WJ.skip ?_
              refine PJ.block_normal ?_
              exact PJ.joined (r59.2.at_, r59.2.seed, l45, v41) [0, 2, 1, 3, 4] hm ⟨rfl, rfl, trivial⟩ ⟨by decide, rfl⟩
        · replace hm := ifF hm hb40
          refine WJ.seq ?_
          refine WJ.quiet ?_
          refine QJ.step (YldS.yld (y_bin rfl rfl rfl)) rfl ?_
          refine QJ.step (YldS.yld (y_assign rfl)) rfl ?_
          refine QJ.done ?_
          refine PJ.next ?_
          refine WJ.cond (t := (r17.1 == 3)) rfl (fun hb67 => ?_) (fun hb67 => ?_)
          · replace hm := ifT hm hb67
            refine WJ.reg ?_
            refine SJ.buildSlice (R := fStr) (os := []) [] Try.runUnderlying24 Try.sizeOf9 Try.zeroValue9 rfl rfl rfl rfl rfl rfl fun v68 => ?_
            refine SJ.q (YldS.yld (y_fldB (o := 0) fld26_0 rfl)) rfl ?_
            refine SJ.rowCells (k := 0) rfl fun hc69 => ?_
            refine SJ.storeL (k := 2) (off := 0) (us := [v68]) rfl rfl rfl hc69.1 Try.sizeOf24 rfl (by simp [hc69.2]) ?_
            refine SJ.erase 3 ?_
            refine SJ.nil ?_
            refine PJ.block_normal ?_
            exact PJ.joined (r17.2.at_, r17.2.seed, [], v68) [1, 2, 0, 3, 4] hm ⟨rfl, rfl, trivial⟩ ⟨by decide, rfl⟩
          · replace hm := ifF hm hb67
            refine WJ.skip ?_
            refine PJ.block_normal ?_
            exact PJ.joined (r17.2.at_, r17.2.seed, r6.1.rows, v8) [0, 1, 2, 3, 4] hm ⟨rfl, rfl, trivial⟩ ⟨by decide, rfl⟩
  · rintro ⟨x11, x12, l13, v14⟩ hm
    subst hk16
    refine WJ.seq ?_
    refine WJ.reg ?_
    refine SJ.q (YldS.yld (y_loadBN (k := 1) (off := 0) (us := [v14]) rfl Try.isAgg26 Try.sizeOf26 rfl rfl)) rfl ?_
    refine SJ.rowCells (k := 2) rfl fun hc70 => ?_
    refine SJ.storeL (k := 4) (off := 0) (us := [v14]) rfl rfl rfl rfl Try.sizeOf26 rfl (by simp only [List.all_cons, hc70.2]; rfl) ?_
    refine SJ.erase 3 ?_
    refine SJ.nil ?_
    refine PJ.next ?_
    refine WJ.ret ?_
    obtain rfl := Option.some.inj hm
    exact PJ.retn_sel (vs := [.agg #[v14]]) Try.results88 ⟨⟨3, g5, 26, [v14], rfl, rfl, .inl ⟨Try.isAgg26, Try.sizeOf26, rfl⟩⟩, trivial⟩ [0, 2] ⟨by decide, rfl⟩ ⟨_, rfl, rfl⟩

set_option maxRecDepth 100000 in
set_option maxHeartbeats 1000000 in
theorem ok_s_l06Change {N : Nat} {x1 : Layout} {a6 : UInt8} {b7 : UInt8} {r : Layout} (hm : s_l06Change N x1 a6 b7 = some r) (w : World) (ad2 : Addr) (v4 : Value) (ha3 : At w (cx w).Fz ad2 [v4]) (hr5 : RdS w (cx w).Fz v4 fStr.rp x1.rows) :
    Calls Try.prog 55 #[.pointer (some ad2), .int .u8 (UInt8.toNat a6 : Int), .int .u8 (UInt8.toNat b7 : Int)] w (RetG (cx w) fun u L => ∃ (u1 : Value), (u = .agg #[u1] ∧ L = [row u1 9 fStr r.rows])) := by
  unfold s_l06Change at hm
  refine Calls.enter [.pointer (some ad2), .int .u8 (UInt8.toNat a6 : Int), .int .u8 (UInt8.toNat b7 : Int)] Try.func55 rfl Try.ntmps55 rfl ?_
  refine WJ.seq ?_
  refine WJ.reg ?_
  refine SJ.alloc (cs := [.slice none 0 0]) Try.zeroValue26 rfl rfl fun g8 => ?_
  refine SJ.nil_row 9 fStr ?_
  refine SJ.nil ?_
  refine PJ.next ?_
  refine WJ.seq ?_
  refine WJ.reg ?_
  refine SJ.buildSlice (R := fStr) (os := []) [] Try.runUnderlying24 Try.sizeOf9 Try.zeroValue9 rfl rfl rfl rfl rfl rfl fun v9 => ?_
  refine SJ.rowCells (k := 0) rfl fun hc10 => ?_
  refine SJ.q (YldS.yld (y_build (parts := [(0, .tmp 11)]) (places := [(0, 1)]) (r := [v9]) pl26 Try.zeroValue26 rfl rfl (show _ = [(0, [v9])] from by simp only [List.map, hc10.1]; try rfl) rfl)) rfl ?_
  refine SJ.alloc (cs := [.slice none 0 0]) Try.zeroValue26 rfl rfl fun g11 => ?_
  refine SJ.nil_row 9 fStr ?_
  refine SJ.rowCells (k := 2) rfl fun hc12 => ?_
  refine SJ.storeL (k := 1) (off := 0) (us := [v9]) rfl rfl rfl rfl Try.sizeOf26 rfl (by simp only [List.all_cons, hc12.2]; rfl) ?_
  refine SJ.erase 0 ?_
  refine SJ.nil ?_
  refine PJ.next ?_
  obtain ⟨kj15, hk16, hm⟩ := withK_open hm
  refine WJ.join (X := (List Str) × Value) (fun (x : (List Str) × Value) => kj15 x.1 = some r) (fun (x : (List Str) × Value) => [(6, pt g8 0), (7, pt g11 0)]) (fun (x : (List Str) × Value) => [box g11 26 [x.2], row x.2 9 fStr x.1, row (.slice none 0 0) 9 fStr [], box g8 26 [(.slice none 0 0)]]) ?_ ?_
  · clear hk16
    refine WJ.seq ?_
    refine WJ.quiet ?_
    refine QJ.step (YldS.yld (y_assign rfl)) rfl ?_
    refine QJ.done ?_
    refine PJ.next ?_
    refine WJ.block ?_
    refine WJ.sel (L' := (fun (x : (List Str) × Value × Int) => [box g11 26 [x.2.1], row x.2.1 9 fStr x.1, row (.slice none 0 0) 9 fStr [], box g8 26 [(.slice none 0 0)]]) ([], v9, 0)) [0, 1, 2, 3] ⟨by decide, rfl⟩ ?_
    refine WJ.sub (m' := (fun (x : (List Str) × Value × Int) => [(0, .pointer (some ad2)), (1, .int .u8 (UInt8.toNat a6 : Int)), (2, .int .u8 (UInt8.toNat b7 : Int)), (6, pt g8 0), (7, pt g11 0), (8, .int .i64 x.2.2)]) ([], v9, 0)) ⟨rfl, rfl, rfl, rfl, rfl, rfl, trivial⟩ ?_
    refine WJ.loop (X := (List Str) × Value × Int) (fun N (x : (List Str) × Value × Int) => s_l06Change_l1 kj15 x1 a6 b7 N x.1 x.2.2 = some r) (fun (x : (List Str) × Value × Int) => [(0, .pointer (some ad2)), (1, .int .u8 (UInt8.toNat a6 : Int)), (2, .int .u8 (UInt8.toNat b7 : Int)), (6, pt g8 0), (7, pt g11 0), (8, .int .i64 x.2.2)]) (fun (x : (List Str) × Value × Int) => [box g11 26 [x.2.1], row x.2.1 9 fStr x.1, row (.slice none 0 0) 9 fStr [], box g8 26 [(.slice none 0 0)]]) ?_ N ([], v9, 0) hm
    · rintro N ⟨l17, v18, r19⟩ hI
      have hm := hI; clear hI
      cases N with
      | zero => cases hm
      | succ N =>
      unfold s_l06Change_l1 at hm
      refine WJ.seq ?_
      refine WJ.seq ?_
      refine WJ.quiet ?_
      refine QJ.step (YldS.yld (y_move rfl)) rfl ?_
      refine QJ.step (YldS.yld (y_move rfl)) rfl ?_
      refine QJ.step (YldS.yld (y_nil rfl)) rfl ?_
      refine QJ.step (YldS.yld (y_fld (ad := ad2) fld26_0 rfl)) rfl ?_
      refine QJ.step (YldS.yld (y_load1 (v := v4) Try.isAgg24 (ha3.sub 0 1) St.frozenC rfl)) rfl ?_
      refine QJ.step (YldS.yld (y_lenS Try.runUnderlying24 hr5 rfl)) rfl ?_
      refine QJ.step (YldS.yld (y_bin rfl rfl rfl)) rfl ?_
      refine QJ.done ?_
      refine PJ.next ?_
      refine WJ.cond (t := decide (r19 < (List.length x1.rows : Int))) rfl (fun hb20 => ?_) (fun hb20 => ?_)
      · replace hm := ifT hm hb20
        refine WJ.skip ?_
        refine PJ.next ?_
        obtain ⟨kj23, hk24, hm⟩ := withK_open hm
        refine WJ.join (X := (List Str) × Value) (fun (x : (List Str) × Value) => kj23 x.1 = some r) (fun (x : (List Str) × Value) => [(0, .pointer (some ad2)), (1, .int .u8 (UInt8.toNat a6 : Int)), (2, .int .u8 (UInt8.toNat b7 : Int)), (6, pt g8 0), (7, pt g11 0), (8, .int .i64 r19)]) (fun (x : (List Str) × Value) => [box g11 26 [x.2], row x.2 9 fStr x.1, row (.slice none 0 0) 9 fStr [], box g8 26 [(.slice none 0 0)]]) ?_ ?_
        · clear hk24
          refine WJ.block ?_
          refine WJ.seq ?_
          refine WJ.reg ?_
          refine SJ.q (YldS.yld (y_move rfl)) rfl ?_
          refine SJ.q (YldS.yld (y_nil rfl)) rfl ?_
          refine SJ.q (YldS.yld (y_fld (ad := ad2) fld26_0 rfl)) rfl ?_
          refine SJ.q (YldS.yld (y_load1 (v := v4) Try.isAgg24 (ha3.sub 0 1) St.frozenC rfl)) rfl ?_
          refine SJ.q (YldS.yld (y_move rfl)) rfl ?_
          obtain ⟨e25, h26, hm⟩ := bindS hm
          obtain ⟨ad27, _, rfl, ha28, hy29⟩ := hr5.elem h26
          refine SJ.q (YldS.yld (hy29 Try.runUnderlying24 Try.sizeOf9 rfl rfl)) rfl ?_
          refine SJ.q (YldS.yld (y_load1 (v := str e25) Try.isAgg9 ha28 St.frozenC rfl)) rfl ?_
          obtain ⟨l30, h31, hm⟩ := bindS hm
          refine SJ.convBytes h31 Try.underlying9 Try.underlying22 Try.underlying5 rfl rfl fun v32 => ?_
          refine SJ.q (YldS.yld (y_assign rfl)) rfl ?_
          refine SJ.nil ?_
          refine PJ.next ?_
          obtain ⟨kj34, hk35, hm⟩ := withK_open hm
          refine WJ.join (X := (List UInt8)) (fun (x : (List UInt8)) => kj34 x = some r) (fun (x : (List UInt8)) => [(0, .pointer (some ad2)), (1, .int .u8 (UInt8.toNat a6 : Int)), (2, .int .u8 (UInt8.toNat b7 : Int)), (6, pt g8 0), (7, pt g11 0), (8, .int .i64 r19), (9, v32)]) (fun (x : (List UInt8)) => [rowM v32 5 fByte x, box g11 26 [v18], row v18 9 fStr l17, row (.slice none 0 0) 9 fStr [], box g8 26 [(.slice none 0 0)]]) ?_ ?_
          · clear hk35
            refine WJ.seq ?_
            refine WJ.quiet ?_
            refine QJ.step (YldS.yld (y_assign rfl)) rfl ?_
            refine QJ.done ?_
            refine PJ.next ?_
            refine WJ.block ?_
            refine WJ.sel (L' := (fun (x : (List UInt8) × Int) => [rowM v32 5 fByte x.1, box g11 26 [v18], row v18 9 fStr l17, row (.slice none 0 0) 9 fStr [], box g8 26 [(.slice none 0 0)]]) (l30, 0)) [0, 1, 2, 3, 4] ⟨by decide, rfl⟩ ?_
            refine WJ.sub (m' := (fun (x : (List UInt8) × Int) => [(0, .pointer (some ad2)), (1, .int .u8 (UInt8.toNat a6 : Int)), (2, .int .u8 (UInt8.toNat b7 : Int)), (6, pt g8 0), (7, pt g11 0), (8, .int .i64 r19), (9, v32), (10, .int .i64 x.2)]) (l30, 0)) ⟨rfl, rfl, rfl, rfl, rfl, rfl, rfl, rfl, trivial⟩ ?_
            refine WJ.loop (X := (List UInt8) × Int) (fun N (x : (List UInt8) × Int) => s_l06Change_l2 kj34 a6 b7 N x.1 x.2 = some r) (fun (x : (List UInt8) × Int) => [(0, .pointer (some ad2)), (1, .int .u8 (UInt8.toNat a6 : Int)), (2, .int .u8 (UInt8.toNat b7 : Int)), (6, pt g8 0), (7, pt g11 0), (8, .int .i64 r19), (9, v32), (10, .int .i64 x.2)]) (fun (x : (List UInt8) × Int) => [rowM v32 5 fByte x.1, box g11 26 [v18], row v18 9 fStr l17, row (.slice none 0 0) 9 fStr [], box g8 26 [(.slice none 0 0)]]) ?_ N (l30, 0) hm
            · rintro N ⟨l36, c37⟩ hI
              have hm := hI; clear hI
              cases N with
              | zero => cases hm
              | succ N =>
              unfold s_l06Change_l2 at hm
              refine WJ.seq ?_
              refine WJ.seq ?_
              refine WJ.quiet ?_
              refine QJ.step (YldS.yld (y_move rfl)) rfl ?_
              refine QJ.step (YldS.yld (y_move rfl)) rfl ?_
              refine QJ.step (YldS.yld (y_lenRowM (k := 0) rfl Try.runUnderlying22 rfl)) rfl ?_
              refine QJ.step (YldS.yld (y_bin rfl rfl rfl)) rfl ?_
              refine QJ.done ?_
              refine PJ.next ?_
              refine WJ.cond (t := decide (c37 < (List.length l36 : Int))) rfl (fun hb38 => ?_) (fun hb38 => ?_)
              · replace hm := ifT hm hb38
                refine WJ.skip ?_
                refine PJ.next ?_
                obtain ⟨kj40, hk41, hm⟩ := withK_open hm
                refine WJ.join (X := (List UInt8)) (fun (x : (List UInt8)) => kj40 x = some r) (fun (x : (List UInt8)) => [(0, .pointer (some ad2)), (1, .int .u8 (UInt8.toNat a6 : Int)), (2, .int .u8 (UInt8.toNat b7 : Int)), (6, pt g8 0), (7, pt g11 0), (8, .int .i64 r19), (9, v32), (10, .int .i64 c37)]) (fun (x : (List UInt8)) => [rowM v32 5 fByte x, box g11 26 [v18], row v18 9 fStr l17, row (.slice none 0 0) 9 fStr [], box g8 26 [(.slice none 0 0)]]) ?_ ?_
                · clear hk41
                  refine WJ.block ?_
                  refine WJ.seq ?_
                  refine WJ.quiet ?_
                  refine QJ.step (YldS.yld (y_move rfl)) rfl ?_
                  refine QJ.step (YldS.yld (y_move rfl)) rfl ?_
                  obtain ⟨e42, h43, hm⟩ := bindS hm
                  refine QJ.step (YldS.yld (y_ixRowM (k := 0) (R := fByte) rfl Try.runUnderlying22 Try.sizeOf5 rfl rfl h43)) rfl ?_
                  refine QJ.step (YldS.yld (y_loadRM (k := 0) (i := (Int.toNat c37)) (off := 0) (u := .int .u8 (UInt8.toNat e42 : Int)) rfl Try.isAgg5 rfl (idx_get h43) rfl)) rfl ?_
                  refine QJ.done ?_
                  refine PJ.next ?_
                  refine WJ.block ?_
                  refine WJ.seq ?_
                  refine WJ.quiet ?_
                  refine QJ.step (YldS.yld (y_move rfl)) rfl ?_
                  refine QJ.step (YldS.yld (y_bin8 e42 a6 rfl rfl rfl)) rfl ?_
                  refine QJ.step (YldS.yld (y_assign rfl)) rfl ?_
                  refine QJ.done ?_
                  refine PJ.next ?_
                  refine WJ.cond (t := (e42 == a6)) rfl (fun hb44 => ?_) (fun hb44 => ?_)
                  · replace hm := ifT hm hb44
                    refine WJ.reg ?_
                    refine SJ.q (YldS.yld (y_move rfl)) rfl ?_
                    refine SJ.q (YldS.yld (y_move rfl)) rfl ?_
                    refine SJ.q (YldS.yld (y_move rfl)) rfl ?_
                    obtain ⟨e45, h46, hm⟩ := bindS hm
                    refine SJ.q (YldS.yld (y_ixRowM (k := 0) (R := fByte) rfl Try.runUnderlying22 Try.sizeOf5 rfl rfl h46)) rfl ?_
                    refine SJ.storeRLM (k := 0) (i := (Int.toNat c37)) (off := 0) (us := [.int .u8 (UInt8.toNat b7 : Int)]) (b := b7) rfl rfl (idx_get h46) rfl rfl Try.sizeOf5 rfl rfl rfl ?_
                    refine SJ.nil ?_
                    refine PJ.block_normal (PJ.block_normal ?_)
                    exact PJ.joined (List.set l36 (Int.toNat c37) b7) [0, 1, 2, 3, 4] hm ⟨rfl, rfl, rfl, rfl, rfl, rfl, rfl, rfl, trivial⟩ ⟨by decide, rfl⟩
                  · replace hm := ifF hm hb44
                    refine WJ.seq ?_
                    refine WJ.quiet ?_
                    refine QJ.step (YldS.yld (y_move rfl)) rfl ?_
                    refine QJ.step (YldS.yld (y_bin8 e42 b7 rfl rfl rfl)) rfl ?_
                    refine QJ.step (YldS.yld (y_assign rfl)) rfl ?_
                    refine QJ.done ?_
                    refine PJ.next ?_
                    refine WJ.cond (t := (e42 == b7)) rfl (fun hb47 => ?_) (fun hb47 => ?_)
                    · replace hm := ifT hm hb47
                      refine WJ.reg ?_
                      refine SJ.q (YldS.yld (y_move rfl)) rfl ?_
                      refine SJ.q (YldS.yld (y_move rfl)) rfl ?_
                      refine SJ.q (YldS.yld (y_move rfl)) rfl ?_
                      obtain ⟨e48, h49, hm⟩ := bindS hm
                      refine SJ.q (YldS.yld (y_ixRowM (k := 0) (R := fByte) rfl Try.runUnderlying22 Try.sizeOf5 rfl rfl h49)) rfl ?_
                      refine SJ.storeRLM (k := 0) (i := (Int.toNat c37)) (off := 0) (us := [.int .u8 (UInt8.toNat a6 : Int)]) (b := a6) rfl rfl (idx_get h49) rfl rfl Try.sizeOf5 rfl rfl rfl ?_
                      refine SJ.nil ?_
                      refine PJ.block_normal (PJ.block_normal ?_)
                      exact PJ.joined (List.set l36 (Int.toNat c37) a6) [0, 1, 2, 3, 4] hm ⟨rfl, rfl, rfl, rfl, rfl, rfl, rfl, rfl, trivial⟩ ⟨by decide, rfl⟩
                    · replace hm := ifF hm hb47
                      refine WJ.skip ?_
                      refine PJ.block_normal (PJ.block_normal ?_)
                      exact PJ.joined l36 [0, 1, 2, 3, 4] hm ⟨rfl, rfl, rfl, rfl, rfl, rfl, rfl, rfl, trivial⟩ ⟨by decide, rfl⟩
                · rintro l39 hm
                  subst hk41
                  refine WJ.quiet ?_
                  refine QJ.step (YldS.yld (y_move rfl)) rfl ?_
                  refine QJ.step (YldS.yld (y_bin rfl rfl rfl)) rfl ?_
                  refine QJ.step (YldS.yld (y_assign rfl)) rfl ?_
                  refine QJ.done ?_
                  exact PJ.round (l39, w64 (c37 + 1)) [0, 1, 2, 3, 4] hm ⟨rfl, rfl, rfl, rfl, rfl, rfl, rfl, rfl, trivial⟩ ⟨by decide, rfl⟩
              · replace hm := ifF hm hb38
                refine WJ.exit ?_
                refine PJ.then_exit (PJ.then_exit (PJ.block_exit ?_))
                exact PJ.joined l36 [0, 1, 2, 3, 4] hm ⟨rfl, rfl, rfl, rfl, rfl, rfl, rfl, trivial⟩ ⟨by decide, rfl⟩
          · rintro l33 hm
            subst hk35
            refine WJ.reg ?_
            refine SJ.q (YldS.yld (y_fldB (o := 0) fld26_0 rfl)) rfl ?_
            refine SJ.q (YldS.yld (y_loadB (k := 1) (off := 0) (v := v18) rfl Try.isAgg24 rfl rfl)) rfl ?_
            refine SJ.q (YldS.yld (y_move rfl)) rfl ?_
            refine SJ.q (YldS.yld (y_b2s Try.underlying22 Try.underlying9 Try.underlying5 (fun w hw => ⟨_, (hw.rowM_rd (k := 0) rfl)⟩) rfl)) rfl ?_
            refine SJ.buildSlice (R := fStr) (os := [.tmp 57]) [l33] Try.runUnderlying24 Try.sizeOf9 Try.zeroValue9 rfl rfl rfl rfl rfl rfl fun v50 => ?_
            obtain ⟨l51, h52, hm⟩ := bindS hm
            refine SJ.append (k := 3) (R := fStr) h52 rfl Try.underlying24 el9 rfl rfl rfl (fun w hw => (hw.row_rd (k := 0) rfl)) rfl fun v53 => ?_
            refine SJ.q (YldS.yld (y_fldB (o := 0) fld26_0 rfl)) rfl ?_
            refine SJ.rowCells (k := 3) rfl fun hc54 => ?_
            refine SJ.storeL (k := 2) (off := 0) (us := [v53]) rfl rfl rfl hc54.1 Try.sizeOf24 rfl (by simp [hc54.2]) ?_
            refine SJ.nil ?_
            refine PJ.block_normal ?_
            exact PJ.joined (l51, v53) [2, 3, 4, 5] hm ⟨rfl, rfl, rfl, rfl, rfl, rfl, trivial⟩ ⟨by decide, rfl⟩
        · rintro ⟨l21, v22⟩ hm
          subst hk24
          refine WJ.quiet ?_
          refine QJ.step (YldS.yld (y_move rfl)) rfl ?_
          refine QJ.step (YldS.yld (y_bin rfl rfl rfl)) rfl ?_
          refine QJ.step (YldS.yld (y_assign rfl)) rfl ?_
          refine QJ.done ?_
          exact PJ.round (l21, v22, w64 (r19 + 1)) [0, 1, 2, 3] hm ⟨rfl, rfl, rfl, rfl, rfl, rfl, trivial⟩ ⟨by decide, rfl⟩
      · replace hm := ifF hm hb20
        refine WJ.exit ?_
        refine PJ.then_exit (PJ.then_exit (PJ.block_exit ?_))
        exact PJ.joined (l17, v18) [0, 1, 2, 3] hm ⟨rfl, rfl, trivial⟩ ⟨by decide, rfl⟩
  · rintro ⟨l13, v14⟩ hm
    subst hk16
    refine WJ.seq ?_
    refine WJ.reg ?_
    refine SJ.q (YldS.yld (y_loadBN (k := 0) (off := 0) (us := [v14]) rfl Try.isAgg26 Try.sizeOf26 rfl rfl)) rfl ?_
    refine SJ.rowCells (k := 1) rfl fun hc55 => ?_
    refine SJ.storeL (k := 3) (off := 0) (us := [v14]) rfl rfl rfl rfl Try.sizeOf26 rfl (by simp only [List.all_cons, hc55.2]; rfl) ?_
    refine SJ.erase 2 ?_
    refine SJ.nil ?_
    refine PJ.next ?_
    refine WJ.ret ?_
    obtain rfl := Option.some.inj hm
    exact PJ.retn_sel (vs := [.agg #[v14]]) Try.results55 ⟨⟨2, g8, 26, [v14], rfl, rfl, .inl ⟨Try.isAgg26, Try.sizeOf26, rfl⟩⟩, trivial⟩ [1] ⟨by decide, rfl⟩ ⟨_, rfl, rfl⟩

set_option maxRecDepth 100000 in
set_option maxHeartbeats 1000000 in
theorem ok_s_l06Other {N : Nat} {code1 : List UInt8} {r : Layout × Layout} (hm : s_l06Other N code1 = some r) (w : World) (v2 : Value) (hr3 : RdS w (cx w).Fz v2 fByte.rp code1) :
    Calls Try.prog 42 #[v2] w (RetG (cx w) fun u L => ∃ (u1 : Value) (u2 : Value), (u = tup [.agg #[u1], .agg #[u2]] ∧ L = [row u1 9 fStr r.1.rows, row u2 9 fStr r.2.rows])) := by
  unfold s_l06Other at hm
  refine Calls.enter [v2] Try.func42 rfl Try.ntmps42 rfl ?_
  refine WJ.seq ?_
  refine WJ.reg ?_
  refine SJ.alloc (cs := [.slice none 0 0]) Try.zeroValue26 rfl rfl fun g4 => ?_
  refine SJ.nil_row 9 fStr ?_
  refine SJ.alloc (cs := [.slice none 0 0]) Try.zeroValue26 rfl rfl fun g5 => ?_
  refine SJ.nil_row 9 fStr ?_
  refine SJ.nil ?_
  refine PJ.next ?_
  refine WJ.seq ?_
  refine WJ.reg ?_
  refine SJ.q (YldS.yld (y_move rfl)) rfl ?_
  obtain ⟨r6, h7, hm⟩ := bindS hm
  refine SJ.call Try.call57 rfl (fun w hw => ok_s_l00From h7 w _ (hr3.st hw)) rfl ?_
  rintro _ _ ⟨g8, rfl, rfl⟩
  refine SJ.q (YldS.yld (y_assign rfl)) rfl ?_
  refine SJ.nil ?_
  refine PJ.next ?_
  refine WJ.seq ?_
  refine WJ.reg ?_
  refine SJ.q (YldS.yld (y_move rfl)) rfl ?_
  obtain ⟨r9, h10, hm⟩ := bindS hm
  refine SJ.call1 (k := 0) rfl Try.call88 rfl (fun w S hw hA hO => ok_s_l06Bent h10 w S _ (hr3.st1 hw hO) hA) rfl ?_
  rintro _ _ ⟨v11, rfl, rfl⟩
  refine SJ.alloc (cs := [.slice none 0 0]) Try.zeroValue26 rfl rfl fun g12 => ?_
  refine SJ.nil_row 9 fStr ?_
  refine SJ.rowCells (k := 3) rfl fun hc13 => ?_
  refine SJ.storeL (k := 1) (off := 0) (us := [v11]) rfl rfl rfl rfl Try.sizeOf26 rfl (by simp only [List.all_cons, hc13.2]; rfl) ?_
  refine SJ.erase 0 ?_
  refine SJ.nil ?_
  refine PJ.next ?_
  refine WJ.seq ?_
  refine WJ.reg ?_
  refine SJ.buildSlice (R := fStr) (os := []) [] Try.runUnderlying24 Try.sizeOf9 Try.zeroValue9 rfl rfl rfl rfl rfl rfl fun v14 => ?_
  refine SJ.q (YldS.yld (y_fldB (o := 0) fld26_0 rfl)) rfl ?_
  refine SJ.q (YldS.yld (y_loadB (k := 1) (off := 0) (v := v11) rfl Try.isAgg24 rfl rfl)) rfl ?_
  obtain ⟨l15, h16, hm⟩ := bindS hm
  refine SJ.append (k := 0) (R := fStr) h16 rfl Try.underlying24 el9 rfl rfl rfl (fun w hw => (hw.row_rd (k := 3) rfl)) rfl fun v17 => ?_
  refine SJ.rowCells (k := 0) rfl fun hc18 => ?_
  refine SJ.q (YldS.yld (y_build (parts := [(0, .tmp 19)]) (places := [(0, 1)]) (r := [v17]) pl26 Try.zeroValue26 rfl rfl (show _ = [(0, [v17])] from by simp only [List.map, hc18.1]; try rfl) rfl)) rfl ?_
  refine SJ.alloc (cs := [.slice none 0 0]) Try.zeroValue26 rfl rfl fun g19 => ?_
  refine SJ.nil_row 9 fStr ?_
  refine SJ.rowCells (k := 2) rfl fun hc20 => ?_
  refine SJ.storeL (k := 1) (off := 0) (us := [v17]) rfl rfl rfl rfl Try.sizeOf26 rfl (by simp only [List.all_cons, hc20.2]; rfl) ?_
  refine SJ.erase 0 ?_
  refine SJ.nil ?_
  refine PJ.next ?_
  refine WJ.seq ?_
  refine WJ.quiet ?_
  refine QJ.step (YldS.yld (y_assign rfl)) rfl ?_
  refine QJ.done ?_
  refine PJ.next ?_
  obtain ⟨kj22, hk23, hm⟩ := withK_open hm
  refine WJ.join (X := Str) (fun (x : Str) => kj22 x = some r) (fun (x : Str) => [(2, pt g4 0), (3, pt g5 0), (4, pt g8 0), (5, pt g12 0), (6, pt g19 0), (7, str x)]) (fun (x : Str) => [box g19 26 [v17], row v17 9 fStr l15, box g12 26 [v11], box g8 119 [v2, .int .i64 r9.2.at_, .int .u64 r9.2.seed], row v11 9 fStr r9.1.rows, row (.slice none 0 0) 9 fStr [], box g5 26 [(.slice none 0 0)], row (.slice none 0 0) 9 fStr [], box g4 26 [(.slice none 0 0)]]) ?_ ?_
  · clear hk23
    refine WJ.seq ?_
    refine WJ.quiet ?_
    refine QJ.step (YldS.yld (y_assign rfl)) rfl ?_
    refine QJ.done ?_
    refine PJ.next ?_
    refine WJ.block ?_
    refine WJ.sel (L' := (fun (x : Str × Int) => [box g19 26 [v17], row v17 9 fStr l15, box g12 26 [v11], box g8 119 [v2, .int .i64 r9.2.at_, .int .u64 r9.2.seed], row v11 9 fStr r9.1.rows, row (.slice none 0 0) 9 fStr [], box g5 26 [(.slice none 0 0)], row (.slice none 0 0) 9 fStr [], box g4 26 [(.slice none 0 0)]]) ([], 0)) [0, 1, 2, 3, 4, 5, 6, 7, 8] ⟨by decide, rfl⟩ ?_
    refine WJ.sub (m' := (fun (x : Str × Int) => [(2, pt g4 0), (3, pt g5 0), (4, pt g8 0), (5, pt g12 0), (6, pt g19 0), (7, str x.1), (8, .int .i64 x.2)]) ([], 0)) ⟨rfl, rfl, rfl, rfl, rfl, rfl, rfl, trivial⟩ ?_
    refine WJ.loop (X := Str × Int) (fun N (x : Str × Int) => s_l06Other_l1 kj22 r9 N x.1 x.2 = some r) (fun (x : Str × Int) => [(2, pt g4 0), (3, pt g5 0), (4, pt g8 0), (5, pt g12 0), (6, pt g19 0), (7, str x.1), (8, .int .i64 x.2)]) (fun (x : Str × Int) => [box g19 26 [v17], row v17 9 fStr l15, box g12 26 [v11], box g8 119 [v2, .int .i64 r9.2.at_, .int .u64 r9.2.seed], row v11 9 fStr r9.1.rows, row (.slice none 0 0) 9 fStr [], box g5 26 [(.slice none 0 0)], row (.slice none 0 0) 9 fStr [], box g4 26 [(.slice none 0 0)]]) ?_ N ([], 0) hm
    · rintro N ⟨all24, r25⟩ hI
      have hm := hI; clear hI
      cases N with
      | zero => cases hm
      | succ N =>
      unfold s_l06Other_l1 at hm
      refine WJ.seq ?_
      refine WJ.seq ?_
      refine WJ.quiet ?_
      refine QJ.step (YldS.yld (y_move rfl)) rfl ?_
      refine QJ.step (YldS.yld (y_fldB (o := 0) fld26_0 rfl)) rfl ?_
      refine QJ.step (YldS.yld (y_loadB (k := 2) (off := 0) (v := v11) rfl Try.isAgg24 rfl rfl)) rfl ?_
      refine QJ.step (YldS.yld (y_lenRow (k := 4) rfl Try.runUnderlying24 rfl)) rfl ?_
      refine QJ.step (YldS.yld (y_bin rfl rfl rfl)) rfl ?_
      refine QJ.done ?_
      refine PJ.next ?_
      refine WJ.cond (t := decide (r25 < (List.length r9.1.rows : Int))) rfl (fun hb26 => ?_) (fun hb26 => ?_)
      · replace hm := ifT hm hb26
        refine WJ.skip ?_
        refine PJ.next ?_
        refine WJ.seq ?_
        refine WJ.block ?_
        refine WJ.quiet ?_
        refine QJ.step (YldS.yld (y_move rfl)) rfl ?_
        refine QJ.step (YldS.yld (y_fldB (o := 0) fld26_0 rfl)) rfl ?_
        refine QJ.step (YldS.yld (y_loadB (k := 2) (off := 0) (v := v11) rfl Try.isAgg24 rfl rfl)) rfl ?_
        refine QJ.step (YldS.yld (y_move rfl)) rfl ?_
        obtain ⟨e27, h28, hm⟩ := bindS hm
        refine QJ.step (YldS.yld (y_ixRow (k := 4) (R := fStr) rfl Try.runUnderlying24 Try.sizeOf9 rfl rfl h28)) rfl ?_
        refine QJ.step (YldS.yld (y_loadR (k := 4) (i := (Int.toNat r25)) (off := 0) (u := str e27) rfl Try.isAgg9 rfl (idx_get h28) rfl)) rfl ?_
        obtain ⟨s29, h30, hm⟩ := bindS hm
        refine QJ.step (YldS.yld (y_cat h30 rfl rfl)) rfl ?_
        refine QJ.step (YldS.yld (y_assign rfl)) rfl ?_
        refine QJ.done ?_
        refine PJ.block_normal (PJ.next ?_)
        refine WJ.quiet ?_
        refine QJ.step (YldS.yld (y_move rfl)) rfl ?_
        refine QJ.step (YldS.yld (y_bin rfl rfl rfl)) rfl ?_
        refine QJ.step (YldS.yld (y_assign rfl)) rfl ?_
        refine QJ.done ?_
        exact PJ.round (s29, w64 (r25 + 1)) [0, 1, 2, 3, 4, 5, 6, 7, 8] hm ⟨rfl, rfl, rfl, rfl, rfl, rfl, rfl, trivial⟩ ⟨by decide, rfl⟩
      · replace hm := ifF hm hb26
        refine WJ.exit ?_
        refine PJ.then_exit (PJ.then_exit (PJ.block_exit ?_))
        exact PJ.joined all24 [0, 1, 2, 3, 4, 5, 6, 7, 8] hm ⟨rfl, rfl, rfl, rfl, rfl, rfl, trivial⟩ ⟨by decide, rfl⟩
  · rintro all21 hm
    subst hk23
    obtain ⟨kj35, hk36, hm⟩ := withK_open hm
    refine WJ.join (X := Int × Int × (List Str) × Value) (fun (x : Int × Int × (List Str) × Value) => kj35 x.1 x.2.1 x.2.2.1 = some r) (fun (x : Int × Int × (List Str) × Value) => [(2, pt g4 0), (3, pt g5 0), (4, pt g8 0), (5, pt g12 0), (6, pt g19 0)]) (fun (x : Int × Int × (List Str) × Value) => [box g8 119 [v2, .int .i64 x.1, .int .u64 x.2.1], box g19 26 [x.2.2.2], row x.2.2.2 9 fStr x.2.2.1, box g12 26 [v11], row v11 9 fStr r9.1.rows, row (.slice none 0 0) 9 fStr [], box g5 26 [(.slice none 0 0)], row (.slice none 0 0) 9 fStr [], box g4 26 [(.slice none 0 0)]]) ?_ ?_
    · clear hk36
      refine WJ.seq ?_
      refine WJ.reg ?_
      refine SJ.q (YldS.yld (y_move rfl)) rfl ?_
      obtain ⟨r37, h38, hm⟩ := bindS hm
      refine SJ.call1 (k := 3) rfl Try.call64 rfl (fun w S hw hA hO => ok_s_l00Src_pick h38 w S _ (hr3.st1 hw hO) hA) rfl ?_
      rintro _ _ ⟨rfl, rfl⟩
      refine SJ.q (YldS.yld (y_assign rfl)) rfl ?_
      refine SJ.nil ?_
      refine PJ.next ?_
      refine WJ.block ?_
      refine WJ.sel (L' := (fun (x : Int × Int × (List Str) × Value × Int) => [box g8 119 [v2, .int .i64 x.1, .int .u64 x.2.1], box g19 26 [x.2.2.2.1], row x.2.2.2.1 9 fStr x.2.2.1, box g12 26 [v11], row v11 9 fStr r9.1.rows, row (.slice none 0 0) 9 fStr [], box g5 26 [(.slice none 0 0)], row (.slice none 0 0) 9 fStr [], box g4 26 [(.slice none 0 0)]]) (r37.2.at_, r37.2.seed, l15, v17, r37.1)) [0, 1, 2, 3, 4, 5, 6, 7, 8] ⟨by decide, rfl⟩ ?_
      refine WJ.sub (m' := (fun (x : Int × Int × (List Str) × Value × Int) => [(2, pt g4 0), (3, pt g5 0), (4, pt g8 0), (5, pt g12 0), (6, pt g19 0), (7, str all21), (9, .int .i64 x.2.2.2.2)]) (r37.2.at_, r37.2.seed, l15, v17, r37.1)) ⟨rfl, rfl, rfl, rfl, rfl, rfl, rfl, trivial⟩ ?_
      refine WJ.loop (X := Int × Int × (List Str) × Value × Int) (fun N (x : Int × Int × (List Str) × Value × Int) => s_l06Other_l2 kj35 code1 all21 N x.1 x.2.1 x.2.2.1 x.2.2.2.2 = some r) (fun (x : Int × Int × (List Str) × Value × Int) => [(2, pt g4 0), (3, pt g5 0), (4, pt g8 0), (5, pt g12 0), (6, pt g19 0), (7, str all21), (9, .int .i64 x.2.2.2.2)]) (fun (x : Int × Int × (List Str) × Value × Int) => [box g8 119 [v2, .int .i64 x.1, .int .u64 x.2.1], box g19 26 [x.2.2.2.1], row x.2.2.2.1 9 fStr x.2.2.1, box g12 26 [v11], row v11 9 fStr r9.1.rows, row (.slice none 0 0) 9 fStr [], box g5 26 [(.slice none 0 0)], row (.slice none 0 0) 9 fStr [], box g4 26 [(.slice none 0 0)]]) ?_ N (r37.2.at_, r37.2.seed, l15, v17, r37.1) hm
      · rintro N ⟨x39, x40, l41, v42, k43⟩ hI
        have hm := hI; clear hI
        cases N with
        | zero => cases hm
        | succ N =>
        unfold s_l06Other_l2 at hm
        refine WJ.seq ?_
        refine WJ.seq ?_
        refine WJ.quiet ?_
        refine QJ.step (YldS.yld (y_move rfl)) rfl ?_
        refine QJ.step (YldS.yld (y_bin rfl rfl rfl)) rfl ?_
        refine QJ.step (YldS.yld (y_move rfl)) rfl ?_
        obtain ⟨t44, h45, hm⟩ := bindS hm
        refine QJ.cut 3 [(2, pt g4 0), (3, pt g5 0), (4, pt g8 0), (5, pt g12 0), (6, pt g19 0), (7, str all21), (9, .int .i64 k43), (42, .bool t44)] ?_ ?_
        · rcases Bool.eq_false_or_eq_true (decide (k43 > 0)) with hb46 | hb46
          · replace h45 := andT h45 hb46
            refine QJ.on rfl rfl (cB hb46) (YldS.yld (y_move rfl)) rfl ?_
            refine QJ.on rfl rfl (cB hb46) (YldS.yld (y_binS rfl rfl rfl)) rfl ?_
            refine QJ.step (YldS.yld (y_pick_t (cB hb46) rfl)) rfl ?_
            obtain rfl := Option.some.inj h45
            exact QJ.cut_end ⟨rfl, rfl, rfl, rfl, rfl, rfl, rfl, rfl, trivial⟩
          · obtain rfl := andF h45 hb46
            refine QJ.off rfl rfl (cB hb46) rfl rfl ?_
            refine QJ.off rfl rfl (cB hb46) rfl rfl ?_
            refine QJ.step (YldS.yld (y_pick_f (cB hb46) rfl)) rfl ?_
            exact QJ.cut_end ⟨rfl, rfl, rfl, rfl, rfl, rfl, rfl, rfl, trivial⟩
        refine QJ.done ?_
        refine PJ.next ?_
        refine WJ.cond (t := t44) rfl (fun hb47 => ?_) (fun hb47 => ?_)
        · replace hm := ifT hm hb47
          refine WJ.skip ?_
          refine PJ.next ?_
          refine WJ.seq ?_
          refine WJ.block ?_
          refine WJ.seq ?_
          refine WJ.reg ?_
          refine SJ.q (YldS.yld (y_move rfl)) rfl ?_
          refine SJ.q (YldS.yld (y_move rfl)) rfl ?_
          refine SJ.q (YldS.yld (y_lenStr Try.runUnderlying9 rfl)) rfl ?_
          obtain ⟨r48, h49, hm⟩ := bindS hm
          refine SJ.call1 (k := 0) rfl Try.call64 rfl (fun w S hw hA hO => ok_s_l00Src_pick h49 w S _ (hr3.st1 hw hO) hA) rfl ?_
          rintro _ _ ⟨rfl, rfl⟩
          refine SJ.q (YldS.yld (y_assign rfl)) rfl ?_
          refine SJ.nil ?_
          refine PJ.next ?_
          refine WJ.seq ?_
          refine WJ.reg ?_
          refine SJ.q (YldS.yld (y_move rfl)) rfl ?_
          refine SJ.q (YldS.yld (y_move rfl)) rfl ?_
          refine SJ.q (YldS.yld (y_lenStr Try.runUnderlying9 rfl)) rfl ?_
          obtain ⟨r50, h51, hm⟩ := bindS hm
          refine SJ.call1 (k := 0) rfl Try.call64 rfl (fun w S hw hA hO => ok_s_l00Src_pick h51 w S _ (hr3.st1 hw hO) hA) rfl ?_
          rintro _ _ ⟨rfl, rfl⟩
          refine SJ.q (YldS.yld (y_assign rfl)) rfl ?_
          refine SJ.nil ?_
          refine PJ.next ?_
          obtain ⟨c52, h53, hm⟩ := bindS hm
          obtain ⟨c54, h55, hm⟩ := bindS hm
          obtain ⟨r56, h57, hm⟩ := bindS hm
          refine WJ.draws (N := 8) (listed0 := #[false, false, false, false, false, false, false, false]) [box g8 119 [v2, .int .i64 r50.2.at_, .int .u64 r50.2.seed], row v42 9 fStr l41, box g12 26 [v11], row v11 9 fStr r9.1.rows, row (.slice none 0 0) 9 fStr [], box g5 26 [(.slice none 0 0)], row (.slice none 0 0) 9 fStr [], box g4 26 [(.slice none 0 0)]] follows rfl rfl ?_
          refine RJ.first 0 (listed' := #[true, false, false, false, false, false, false, false]) [0, 2, 3, 4, 5, 6, 7, 8] rfl (by kernel_rfl) rfl ⟨by decide, rfl⟩ (y_move rfl) rfl ?_
          refine RJ.first 1 (listed' := #[true, true, false, false, false, false, false, false]) [0, 2, 3, 4, 5, 6, 7, 8] rfl (by kernel_rfl) rfl ⟨by decide, rfl⟩ (y_move rfl) rfl ?_
          refine RJ.first 2 (listed' := #[true, true, true, false, false, false, false, false]) [0, 2, 3, 4, 5, 6, 7, 8] rfl (by kernel_rfl) rfl ⟨by decide, rfl⟩ (y_idxStr Try.runUnderlying9 rfl rfl h53) rfl ?_
          refine RJ.first 3 (listed' := #[true, true, true, true, false, false, false, false]) [0, 2, 3, 4, 5, 6, 7, 8] rfl (by kernel_rfl) rfl ⟨by decide, rfl⟩ (y_move rfl) rfl ?_
          refine RJ.first 4 (listed' := #[true, true, true, true, true, false, false, false]) [0, 2, 3, 4, 5, 6, 7, 8] rfl (by kernel_rfl) rfl ⟨by decide, rfl⟩ (y_move rfl) rfl ?_
          refine RJ.first 5 (listed' := #[true, true, true, true, true, true, false, false]) [0, 2, 3, 4, 5, 6, 7, 8] rfl (by kernel_rfl) rfl ⟨by decide, rfl⟩ (y_idxStr Try.runUnderlying9 rfl rfl h55) rfl ?_
          refine RJ.step1 6 [0, 2, 3, 4, 5, 6, 7, 8] (by kernel_rfl) ⟨by decide, rfl⟩ ?_
          refine RO.of (listed' := #[true, true, true, true, true, true, true, false]) rfl rfl ?_
          refine SJ.call Try.call55 rfl (fun w hw => ok_s_l06Change h57 w _ _ (hw.box_at (k := 1) rfl) (hw.row_rd (k := 2) rfl)) rfl ?_
          rintro _ _ ⟨v58, rfl, rfl⟩
          refine SJ.nil ?_
          refine PJ.draw ?_
          refine RJ.step1 7 [1, 3, 4, 5, 6, 7, 8, 9] (by kernel_rfl) ⟨by decide, rfl⟩ ?_
          refine RO.of (listed' := #[true, true, true, true, true, true, true, true]) rfl rfl ?_
          refine SJ.rowCells (k := 0) rfl fun hc59 => ?_
          refine SJ.storeL (k := 2) (off := 0) (us := [v58]) rfl rfl rfl rfl Try.sizeOf26 rfl (by simp only [List.all_cons, hc59.2]; rfl) ?_
          refine SJ.nil ?_
          refine PJ.draw ?_
          refine RJ.fin [1, 3, 4, 5, 6, 7, 8, 9] (by kernel_rfl) ⟨by decide, rfl⟩ ?_
          refine PJ.block_normal (PJ.next ?_)
          refine WJ.quiet ?_
          refine QJ.step (YldS.yld (y_move rfl)) rfl ?_
          refine QJ.step (YldS.yld (y_bin rfl rfl rfl)) rfl ?_
          refine QJ.step (YldS.yld (y_assign rfl)) rfl ?_
          refine QJ.done ?_
          exact PJ.round (r50.2.at_, r50.2.seed, r56.rows, v58, w64 (k43 - 1)) [1, 2, 0, 4, 5, 6, 7, 8, 9] hm ⟨rfl, rfl, rfl, rfl, rfl, rfl, rfl, trivial⟩ ⟨by decide, rfl⟩
        · replace hm := ifF hm hb47
          refine WJ.exit ?_
          refine PJ.then_exit (PJ.then_exit (PJ.block_exit ?_))
          exact PJ.joined (x39, x40, l41, v42) [0, 1, 2, 3, 4, 5, 6, 7, 8] hm ⟨rfl, rfl, rfl, rfl, rfl, trivial⟩ ⟨by decide, rfl⟩
    · rintro ⟨x31, x32, l33, v34⟩ hm
      subst hk36
      obtain ⟨kj62, hk63, hm⟩ := withK_open hm
      refine WJ.join (X := (List Str) × Value) (fun (x : (List Str) × Value) => kj62 x.1 = some r) (fun (x : (List Str) × Value) => [(2, pt g4 0), (3, pt g5 0), (5, pt g12 0), (6, pt g19 0)]) (fun (x : (List Str) × Value) => [row x.2 9 fStr x.1, box g19 26 [x.2], box g12 26 [v11], row v11 9 fStr r9.1.rows, row (.slice none 0 0) 9 fStr [], box g5 26 [(.slice none 0 0)], row (.slice none 0 0) 9 fStr [], box g4 26 [(.slice none 0 0)]]) ?_ ?_
      · clear hk63
        refine WJ.seq ?_
        refine WJ.reg ?_
        refine SJ.q (YldS.yld (y_move rfl)) rfl ?_
        obtain ⟨r64, h65, hm⟩ := bindS hm
        refine SJ.call1 (k := 0) rfl Try.call89 rfl (fun w S hw hA hO => ok_s_l00Src_one h65 w S _ (hr3.st1 hw hO) hA) rfl ?_
        rintro _ _ ⟨rfl, rfl⟩
        refine SJ.nil ?_
        refine PJ.next ?_
        refine WJ.cond (t := r64.1) rfl (fun hb66 => ?_) (fun hb66 => ?_)
        · replace hm := ifT hm hb66
          refine WJ.reg ?_
          refine SJ.q (YldS.yld (y_move rfl)) rfl ?_
          obtain ⟨r67, h68, hm⟩ := bindS hm
          refine SJ.call1 (k := 0) rfl Try.call88 rfl (fun w S hw hA hO => ok_s_l06Bent h68 w S _ (hr3.st1 hw hO) hA) rfl ?_
          rintro _ _ ⟨v69, rfl, rfl⟩
          refine SJ.rowCells (k := 1) rfl fun hc70 => ?_
          refine SJ.storeL (k := 2) (off := 0) (us := [v69]) rfl rfl rfl rfl Try.sizeOf26 rfl (by simp only [List.all_cons, hc70.2]; rfl) ?_
          refine SJ.erase 3 ?_
          refine SJ.nil ?_
          exact PJ.joined (r67.1.rows, v69) [1, 2, 3, 4, 5, 6, 7, 8] hm ⟨rfl, rfl, rfl, rfl, trivial⟩ ⟨by decide, rfl⟩
        · replace hm := ifF hm hb66
          refine WJ.skip ?_
          exact PJ.joined (l33, v34) [2, 1, 3, 4, 5, 6, 7, 8] hm ⟨rfl, rfl, rfl, rfl, trivial⟩ ⟨by decide, rfl⟩
      · rintro ⟨l60, v61⟩ hm
        subst hk63
        refine WJ.seq ?_
        refine WJ.draws (N := 4) (listed0 := #[false, false, false, false]) [row v61 9 fStr l60, box g19 26 [v61], box g12 26 [v11], row v11 9 fStr r9.1.rows, row (.slice none 0 0) 9 fStr [], row (.slice none 0 0) 9 fStr []] follows rfl rfl ?_
        refine RJ.first 0 (listed' := #[true, false, false, false]) [0, 1, 2, 3, 4, 6] rfl (by kernel_rfl) rfl ⟨by decide, rfl⟩ (y_loadBN (k := 2) (off := 0) (us := [v11]) rfl Try.isAgg26 Try.sizeOf26 rfl rfl) rfl ?_
        refine RJ.first 1 (listed' := #[true, true, false, false]) [0, 1, 2, 3, 4, 6] rfl (by kernel_rfl) rfl ⟨by decide, rfl⟩ (y_loadBN (k := 1) (off := 0) (us := [v61]) rfl Try.isAgg26 Try.sizeOf26 rfl rfl) rfl ?_
        refine RJ.step1 2 [0, 1, 2, 3, 4, 6] (by kernel_rfl) ⟨by decide, rfl⟩ ?_
        refine RO.of (listed' := #[true, true, true, false]) rfl rfl ?_
        refine SJ.rowCells (k := 3) rfl fun hc71 => ?_
        refine SJ.storeL (k := 7) (off := 0) (us := [v11]) rfl rfl rfl rfl Try.sizeOf26 rfl (by simp only [List.all_cons, hc71.2]; rfl) ?_
        refine SJ.nil ?_
        refine PJ.draw ?_
        refine RJ.step1 3 [0, 1, 2, 3, 4, 6] (by kernel_rfl) ⟨by decide, rfl⟩ ?_
        refine RO.of (listed' := #[true, true, true, true]) rfl rfl ?_
        refine SJ.rowCells (k := 0) rfl fun hc72 => ?_
        refine SJ.storeL (k := 5) (off := 0) (us := [v61]) rfl rfl rfl rfl Try.sizeOf26 rfl (by simp only [List.all_cons, hc72.2]; rfl) ?_
        refine SJ.nil ?_
        refine PJ.draw ?_
        refine RJ.fin [0, 1, 2, 3, 4, 6] (by kernel_rfl) ⟨by decide, rfl⟩ ?_
        refine PJ.next ?_
        refine WJ.ret ?_
        obtain rfl := Option.some.inj hm
        exact PJ.retn_sel (vs := [.agg #[v11], .agg #[v61]]) Try.results42 ⟨⟨7, g4, 26, [v11], rfl, rfl, .inl ⟨Try.isAgg26, Try.sizeOf26, rfl⟩⟩, ⟨5, g5, 26, [v61], rfl, rfl, .inl ⟨Try.isAgg26, Try.sizeOf26, rfl⟩⟩, trivial⟩ [3, 0] ⟨by decide, rfl⟩ ⟨_, _, rfl, rfl⟩

set_option maxRecDepth 100000 in
set_option maxHeartbeats 1000000 in
theorem ok_s_DrawExchangePlan {N : Nat} {code1 : List UInt8} {r : Layout × Layout} (hm : s_DrawExchangePlan N code1 = some r) (w : World) (v2 : Value) (hr3 : RdS w (cx w).Fz v2 fByte.rp code1) :
    Calls Try.prog 7 #[v2] w (RetG (cx w) fun u L => ∃ (u1 : Value) (u2 : Value), (u = tup [.agg #[u1], .agg #[u2]] ∧ L = [row u1 9 fStr r.1.rows, row u2 9 fStr r.2.rows])) := by
  unfold s_DrawExchangePlan at hm
  refine Calls.enter [v2] Try.func7 rfl Try.ntmps7 rfl ?_
  refine WJ.seq ?_
  refine WJ.reg ?_
  refine SJ.alloc (cs := [.slice none 0 0]) Try.zeroValue26 rfl rfl fun g4 => ?_
  refine SJ.nil_row 9 fStr ?_
  refine SJ.alloc (cs := [.slice none 0 0]) Try.zeroValue26 rfl rfl fun g5 => ?_
  refine SJ.nil_row 9 fStr ?_
  refine SJ.nil ?_
  refine PJ.next ?_
  refine WJ.seq ?_
  refine WJ.reg ?_
  refine SJ.q (YldS.yld (y_move rfl)) rfl ?_
  obtain ⟨r6, h7, hm⟩ := bindS hm
  refine SJ.call Try.call42 rfl (fun w hw => ok_s_l06Other h7 w _ (hr3.st hw)) rfl ?_
  rintro _ _ ⟨v8, v9, rfl, rfl⟩
  refine SJ.q (YldS.yld (y_extract rfl rfl)) rfl ?_
  refine SJ.q (YldS.yld (y_extract rfl rfl)) rfl ?_
  refine SJ.rowCells (k := 0) rfl fun hc10 => ?_
  refine SJ.storeL (k := 5) (off := 0) (us := [v8]) rfl rfl rfl rfl Try.sizeOf26 rfl (by simp only [List.all_cons, hc10.2]; rfl) ?_
  refine SJ.erase 4 ?_
  refine SJ.rowCells (k := 1) rfl fun hc11 => ?_
  refine SJ.storeL (k := 3) (off := 0) (us := [v9]) rfl rfl rfl rfl Try.sizeOf26 rfl (by simp only [List.all_cons, hc11.2]; rfl) ?_
  refine SJ.erase 2 ?_
  refine SJ.nil ?_
  refine PJ.next ?_
  refine WJ.ret ?_
  obtain rfl := Option.some.inj hm
  exact PJ.retn_sel (vs := [.agg #[v8], .agg #[v9]]) Try.results7 ⟨⟨3, g4, 26, [v8], rfl, rfl, .inl ⟨Try.isAgg26, Try.sizeOf26, rfl⟩⟩, ⟨2, g5, 26, [v9], rfl, rfl, .inl ⟨Try.isAgg26, Try.sizeOf26, rfl⟩⟩, trivial⟩ [0, 1] ⟨by decide, rfl⟩ ⟨_, _, rfl, rfl⟩

set_option maxRecDepth 100000 in
set_option maxHeartbeats 1000000 in
theorem ok_i_between {n1 : Int} {low2 : Int} {high3 : Int} {r : Bool} (hm : i_between n1 low2 high3 = some r) (w : World)  :
    Calls Try.prog 65 #[.int .i64 n1, .int .i64 low2, .int .i64 high3] w (Ret (cx w) (.bool r)) := by
  unfold i_between at hm
  refine Calls.enter [.int .i64 n1, .int .i64 low2, .int .i64 high3] Try.func65 rfl Try.ntmps65 rfl ?_
  refine WJ.seq ?_
  refine WJ.quiet ?_
  refine QJ.step (YldS.yld (y_assign rfl)) rfl ?_
  refine QJ.done ?_
  refine PJ.next ?_
  refine WJ.seq ?_
  refine WJ.quiet ?_
  refine QJ.step (YldS.yld (y_move rfl)) rfl ?_
  refine QJ.step (YldS.yld (y_move rfl)) rfl ?_
  refine QJ.step (YldS.yld (y_bin rfl rfl rfl)) rfl ?_
  refine QJ.step (YldS.yld (y_move rfl)) rfl ?_
  obtain ⟨t4, h5, hm⟩ := bindS hm
  refine QJ.cut 4 [(14, .bool t4)] ?_ ?_
  · rcases Bool.eq_false_or_eq_true (decide (n1 ≥ low2)) with hb6 | hb6
    · replace h5 := andT h5 hb6
      refine QJ.on rfl rfl (cB hb6) (YldS.yld (y_move rfl)) rfl ?_
      refine QJ.on rfl rfl (cB hb6) (YldS.yld (y_move rfl)) rfl ?_
      refine QJ.on rfl rfl (cB hb6) (YldS.yld (y_bin rfl rfl rfl)) rfl ?_
      refine QJ.step (YldS.yld (y_pick_t (cB hb6) rfl)) rfl ?_
      obtain rfl := Option.some.inj h5
      exact QJ.cut_end ⟨rfl, trivial⟩
    · obtain rfl := andF h5 hb6
      refine QJ.off rfl rfl (cB hb6) rfl rfl ?_
      refine QJ.off rfl rfl (cB hb6) rfl rfl ?_
      refine QJ.off rfl rfl (cB hb6) rfl rfl ?_
      refine QJ.step (YldS.yld (y_pick_f (cB hb6) rfl)) rfl ?_
      exact QJ.cut_end ⟨rfl, trivial⟩
  refine QJ.step (YldS.yld (y_assign rfl)) rfl ?_
  refine QJ.done ?_
  refine PJ.next ?_
  refine WJ.ret ?_
  obtain rfl := Option.some.inj hm
  refine PJ.sel (L' := []) [] ⟨List.nodup_nil, rfl⟩ ?_
  exact PJ.retn (vs := [.bool t4]) Try.results65 ⟨rfl, trivial⟩ ⟨rfl, rfl⟩

set_option maxRecDepth 100000 in
set_option maxHeartbeats 1000000 in
theorem ok_i_isText {N : Nat} {s1 : Str} {low2 : UInt8} {most3 : Int} {r : Bool} (hm : i_isText N s1 low2 most3 = some r) (w : World)  :
    Calls Try.prog 68 #[str s1, .int .u8 (UInt8.toNat low2 : Int), .int .i64 most3] w (Ret (cx w) (.bool r)) := by
  unfold i_isText at hm
  refine Calls.enter [str s1, .int .u8 (UInt8.toNat low2 : Int), .int .i64 most3] Try.func68 rfl Try.ntmps68 rfl ?_
  refine WJ.seq ?_
  refine WJ.quiet ?_
  refine QJ.step (YldS.yld (y_assign rfl)) rfl ?_
  refine QJ.done ?_
  refine PJ.next ?_
  refine WJ.seq ?_
  refine WJ.seq ?_
  refine WJ.quiet ?_
  refine QJ.step (YldS.yld (y_move rfl)) rfl ?_
  refine QJ.step (YldS.yld (y_lenStr Try.runUnderlying9 rfl)) rfl ?_
  refine QJ.step (YldS.yld (y_move rfl)) rfl ?_
  refine QJ.step (YldS.yld (y_bin rfl rfl rfl)) rfl ?_
  refine QJ.done ?_
  refine PJ.next ?_
  refine WJ.cond (t := decide ((List.length s1 : Int) > most3)) rfl (fun hb4 => ?_) (fun hb4 => ?_)
  · replace hm := ifT hm hb4
    refine WJ.seq ?_
    refine WJ.quiet ?_
    refine QJ.step (YldS.yld (y_assign rfl)) rfl ?_
    refine QJ.done ?_
    refine PJ.next ?_
    refine WJ.ret ?_
    refine PJ.then_ret ?_
    obtain rfl := Option.some.inj hm
    refine PJ.sel (L' := []) [] ⟨List.nodup_nil, rfl⟩ ?_
    exact PJ.retn (vs := [.bool false]) Try.results68 ⟨rfl, trivial⟩ ⟨rfl, rfl⟩
  · replace hm := ifF hm hb4
    refine WJ.skip ?_
    refine PJ.next ?_
    obtain ⟨kj5, hk6, hm⟩ := withK_open hm
    refine WJ.join (X := Unit) (fun (_ : Unit) => kj5  = some r) (fun (_ : Unit) => []) (fun (_ : Unit) => []) ?_ ?_
    · clear hk6
      refine WJ.seq ?_
      refine WJ.quiet ?_
      refine QJ.step (YldS.yld (y_move rfl)) rfl ?_
      refine QJ.step (YldS.yld (y_lenStr Try.runUnderlying9 rfl)) rfl ?_
      refine QJ.step (YldS.yld (y_move rfl)) rfl ?_
      refine QJ.done ?_
      refine PJ.next ?_
      refine WJ.block ?_
      refine WJ.sel (L' := (fun (x : Int) => []) 0) [] ⟨List.nodup_nil, rfl⟩ ?_
      refine WJ.sub (m' := (fun (x : Int) => [(0, str s1), (1, .int .u8 (UInt8.toNat low2 : Int)), (13, .int .i64 (List.length s1 : Int)), (14, .int .i64 x)]) 0) ⟨rfl, rfl, rfl, rfl, trivial⟩ ?_
      refine WJ.loop (X := Int) (fun N (x : Int) => i_isText_l1 kj5 s1 low2 N x = some r) (fun (x : Int) => [(0, str s1), (1, .int .u8 (UInt8.toNat low2 : Int)), (13, .int .i64 (List.length s1 : Int)), (14, .int .i64 x)]) (fun (x : Int) => []) ?_ N 0 hm
      · rintro N x7 hI
        have hm := hI; clear hI
        cases N with
        | zero => cases hm
        | succ N =>
        unfold i_isText_l1 at hm
        refine WJ.seq ?_
        refine WJ.quiet ?_
        refine QJ.step (YldS.yld (y_bin rfl rfl rfl)) rfl ?_
        refine QJ.done ?_
        refine PJ.next ?_
        refine WJ.seq ?_
        refine WJ.cond (t := decide (x7 < (List.length s1 : Int))) rfl (fun hb8 => ?_) (fun hb8 => ?_)
        · replace hm := ifT hm hb8
          refine WJ.skip ?_
          refine PJ.next ?_
          refine WJ.seq ?_
          refine WJ.block ?_
          refine WJ.seq ?_
          refine WJ.quiet ?_
          refine QJ.step (YldS.yld (y_move rfl)) rfl ?_
          refine QJ.step (YldS.yld (y_assign rfl)) rfl ?_
          refine QJ.done ?_
          refine PJ.next ?_
          refine WJ.seq ?_
          refine WJ.quiet ?_
          refine QJ.step (YldS.yld (y_move rfl)) rfl ?_
          refine QJ.step (YldS.yld (y_move rfl)) rfl ?_
          obtain ⟨c9, h10, hm⟩ := bindS hm
          refine QJ.step (YldS.yld (y_idxStr Try.runUnderlying9 rfl rfl h10)) rfl ?_
          refine QJ.step (YldS.yld (y_move rfl)) rfl ?_
          refine QJ.step (YldS.yld (y_bin8 c9 low2 rfl rfl rfl)) rfl ?_
          refine QJ.step (YldS.yld (y_move rfl)) rfl ?_
          obtain ⟨t11, h12, hm⟩ := bindS hm
          refine QJ.cut 5 [(0, str s1), (1, .int .u8 (UInt8.toNat low2 : Int)), (13, .int .i64 (List.length s1 : Int)), (14, .int .i64 x7), (27, .bool t11)] ?_ ?_
          · rcases Bool.eq_false_or_eq_true (decide (c9 < low2)) with hb13 | hb13
            · obtain rfl := orT h12 hb13
              refine QJ.off rfl rfl (cB hb13) rfl rfl ?_
              refine QJ.off rfl rfl (cB hb13) rfl rfl ?_
              refine QJ.off rfl rfl (cB hb13) rfl rfl ?_
              refine QJ.off rfl rfl (cB hb13) rfl rfl ?_
              refine QJ.step (YldS.yld (y_pick_t (cB hb13) rfl)) rfl ?_
              exact QJ.cut_end ⟨rfl, rfl, rfl, rfl, rfl, trivial⟩
            · replace h12 := orF h12 hb13
              refine QJ.on rfl rfl (cB hb13) (YldS.yld (y_move rfl)) rfl ?_
              refine QJ.on rfl rfl (cB hb13) (YldS.yld (y_move rfl)) rfl ?_
              obtain ⟨c14, h15, h12⟩ := bindS h12
              refine QJ.on rfl rfl (cB hb13) (YldS.yld (y_idxStr Try.runUnderlying9 rfl rfl h15)) rfl ?_
              refine QJ.on rfl rfl (cB hb13) (YldS.yld (y_bin8 c14 (126 : UInt8) rfl rfl rfl)) rfl ?_
              refine QJ.step (YldS.yld (y_pick_f (cB hb13) rfl)) rfl ?_
              obtain rfl := Option.some.inj h12
              exact QJ.cut_end ⟨rfl, rfl, rfl, rfl, rfl, trivial⟩
          refine QJ.done ?_
          refine PJ.next ?_
          refine WJ.cond (t := t11) rfl (fun hb16 => ?_) (fun hb16 => ?_)
          · replace hm := ifT hm hb16
            refine WJ.seq ?_
            refine WJ.quiet ?_
            refine QJ.step (YldS.yld (y_assign rfl)) rfl ?_
            refine QJ.done ?_
            refine PJ.next ?_
            refine WJ.ret ?_
            refine PJ.block_ret (PJ.then_ret (PJ.then_ret (PJ.block_ret (PJ.then_ret ?_))))
            obtain rfl := Option.some.inj hm
            refine PJ.sel (L' := []) [] ⟨List.nodup_nil, rfl⟩ ?_
            exact PJ.retn (vs := [.bool false]) Try.results68 ⟨rfl, trivial⟩ ⟨rfl, rfl⟩
          · replace hm := ifF hm hb16
            refine WJ.skip ?_
            refine PJ.block_normal (PJ.next ?_)
            refine WJ.quiet ?_
            refine QJ.step (YldS.yld (y_bin rfl rfl rfl)) rfl ?_
            refine QJ.step (YldS.yld (y_move rfl)) rfl ?_
            refine QJ.done ?_
            exact PJ.round (w64 (x7 + 1)) [] hm ⟨rfl, rfl, rfl, rfl, trivial⟩ ⟨List.nodup_nil, rfl⟩
        · replace hm := ifF hm hb8
          refine WJ.exit ?_
          refine PJ.then_exit (PJ.then_exit (PJ.block_exit ?_))
          exact PJ.joined () [] hm trivial ⟨List.nodup_nil, rfl⟩
    · rintro _ hm
      subst hk6
      refine WJ.seq ?_
      refine WJ.quiet ?_
      refine QJ.step (YldS.yld (y_assign rfl)) rfl ?_
      refine QJ.done ?_
      refine PJ.next ?_
      refine WJ.ret ?_
      obtain rfl := Option.some.inj hm
      refine PJ.sel (L' := []) [] ⟨List.nodup_nil, rfl⟩ ?_
      exact PJ.retn (vs := [.bool true]) Try.results68 ⟨rfl, trivial⟩ ⟨rfl, rfl⟩

set_option maxRecDepth 100000 in
set_option maxHeartbeats 1000000 in
theorem ok_i_ValidLayout {N : Nat} {x1 : Layout} {r : Bool} (hm : i_ValidLayout N x1 = some r) (w : World) (v2 : Value) (hr3 : RdS w (cx w).Fz v2 fStr.rp x1.rows) :
    Calls Try.prog 90 #[.agg #[v2]] w (Ret (cx w) (.bool r)) := by
  unfold i_ValidLayout at hm
  refine Calls.enter [.agg #[v2]] Try.func90 rfl Try.ntmps90 rfl ?_
  refine WJ.seq ?_
  refine WJ.reg ?_
  refine SJ.box (cs := [v2]) rfl rfl rfl fun g4 => ?_
  refine SJ.q (YldS.yld (y_assign rfl)) rfl ?_
  refine SJ.nil ?_
  refine PJ.next ?_
  refine WJ.seq ?_
  refine WJ.seq ?_
  refine WJ.quiet ?_
  refine QJ.step (YldS.yld (y_fldB (o := 0) fld26_0 rfl)) rfl ?_
  refine QJ.step (YldS.yld (y_loadB (k := 0) (off := 0) (v := v2) rfl Try.isAgg24 rfl rfl)) rfl ?_
  refine QJ.step (YldS.yld (y_lenS Try.runUnderlying24 hr3 rfl)) rfl ?_
  obtain ⟨r5, h6, hm⟩ := bindS hm
  refine QJ.step (y_call Try.call65 rfl (RetG.quiet fun w hw => ok_i_between h6 w )) rfl ?_
  refine QJ.step (YldS.yld (y_not rfl)) rfl ?_
  refine QJ.done ?_
  refine PJ.next ?_
  refine WJ.cond (t := !r5) rfl (fun hb7 => ?_) (fun hb7 => ?_)
  · replace hm := ifT hm hb7
    refine WJ.seq ?_
    refine WJ.quiet ?_
    refine QJ.step (YldS.yld (y_assign rfl)) rfl ?_
    refine QJ.done ?_
    refine PJ.next ?_
    refine WJ.ret ?_
    refine PJ.then_ret ?_
    obtain rfl := Option.some.inj hm
    refine PJ.sel (L' := []) [] ⟨List.nodup_nil, rfl⟩ ?_
    exact PJ.retn (vs := [.bool false]) Try.results90 ⟨rfl, trivial⟩ ⟨rfl, rfl⟩
  · replace hm := ifF hm hb7
    refine WJ.skip ?_
    refine PJ.next ?_
    refine WJ.seq ?_
    refine WJ.reg ?_
    refine SJ.q (YldS.yld (y_build0 Try.runUnderlying70 zv70 Try.sizeOf4)) rfl ?_
    refine SJ.allocA (R := fBool) (xs := List.replicate 256 false) 256 zv70 rfl rfl rfl rfl fun g8 => ?_
    refine SJ.storeA (k := 0) (ys := (List.replicate 256 false)) rfl rfl rfl rfl (by simp) Try.sizeOf70 (by simp [length_encs, fBool]) ?_
    refine SJ.nil ?_
    refine PJ.next ?_
    obtain ⟨kj9, hk10, hm⟩ := withK_open hm
    refine WJ.join (X := Unit) (fun (_ : Unit) => kj9  = some r) (fun (_ : Unit) => []) (fun (_ : Unit) => []) ?_ ?_
    · clear hk10
      refine WJ.seq ?_
      refine WJ.quiet ?_
      refine QJ.step (YldS.yld (y_fldB (o := 0) fld26_0 rfl)) rfl ?_
      refine QJ.step (YldS.yld (y_loadB (k := 1) (off := 0) (v := v2) rfl Try.isAgg24 rfl rfl)) rfl ?_
      refine QJ.step (YldS.yld (y_lenS Try.runUnderlying24 hr3 rfl)) rfl ?_
      refine QJ.step (YldS.yld (y_move rfl)) rfl ?_
      refine QJ.done ?_
      refine PJ.next ?_
      refine WJ.block ?_
      refine WJ.sel (L' := (fun (x : (List Bool) × Int) => [row (av g8 256) 70 fBool x.1]) ((List.replicate 256 false), 0)) [0] ⟨by decide, rfl⟩ ?_
      refine WJ.sub (m' := (fun (x : (List Bool) × Int) => [(3, pt g8 0), (14, v2), (15, .int .i64 (List.length x1.rows : Int)), (16, .int .i64 x.2)]) ((List.replicate 256 false), 0)) ⟨rfl, rfl, rfl, rfl, trivial⟩ ?_
      refine WJ.loop (X := (List Bool) × Int) (fun N (x : (List Bool) × Int) => i_ValidLayout_l1 kj9 x1 N x.1 x.2 = some r) (fun (x : (List Bool) × Int) => [(3, pt g8 0), (14, v2), (15, .int .i64 (List.length x1.rows : Int)), (16, .int .i64 x.2)]) (fun (x : (List Bool) × Int) => [row (av g8 256) 70 fBool x.1]) ?_ N ((List.replicate 256 false), 0) hm
      · rintro N ⟨l11, x12⟩ hI
        have hm := hI; clear hI
        cases N with
        | zero => cases hm
        | succ N =>
        unfold i_ValidLayout_l1 at hm
        refine WJ.seq ?_
        refine WJ.quiet ?_
        refine QJ.step (YldS.yld (y_bin rfl rfl rfl)) rfl ?_
        refine QJ.done ?_
        refine PJ.next ?_
        refine WJ.seq ?_
        refine WJ.cond (t := decide (x12 < (List.length x1.rows : Int))) rfl (fun hb13 => ?_) (fun hb13 => ?_)
        · replace hm := ifT hm hb13
          refine WJ.skip ?_
          refine PJ.next ?_
          obtain ⟨kj15, hk16, hm⟩ := withK_open hm
          refine WJ.join (X := (List Bool)) (fun (x : (List Bool)) => kj15 x = some r) (fun (x : (List Bool)) => [(3, pt g8 0), (14, v2), (15, .int .i64 (List.length x1.rows : Int)), (16, .int .i64 x12)]) (fun (x : (List Bool)) => [row (av g8 256) 70 fBool x]) ?_ ?_
          · clear hk16
            refine WJ.block ?_
            refine WJ.seq ?_
            refine WJ.quiet ?_
            obtain ⟨e17, h18, hm⟩ := bindS hm
            obtain ⟨ad19, _, rfl, ha20, hy21⟩ := hr3.elem h18
            refine QJ.step (YldS.yld (hy21 Try.runUnderlying24 Try.sizeOf9 rfl rfl)) rfl ?_
            refine QJ.step (YldS.yld (y_load1 (v := str e17) Try.isAgg9 ha20 St.frozenC rfl)) rfl ?_
            refine QJ.step (YldS.yld (y_assign rfl)) rfl ?_
            refine QJ.done ?_
            refine PJ.next ?_
            refine WJ.seq ?_
            refine WJ.seq ?_
            refine WJ.quiet ?_
            refine QJ.step (YldS.yld (y_move rfl)) rfl ?_
            refine QJ.step (YldS.yld (y_lenStr Try.runUnderlying9 rfl)) rfl ?_
            refine QJ.step (YldS.yld (y_bin rfl rfl rfl)) rfl ?_
            refine QJ.step (YldS.yld (y_move rfl)) rfl ?_
            obtain ⟨t22, h23, hm⟩ := bindS hm
            refine QJ.cut 4 [(3, pt g8 0), (5, str e17), (14, v2), (15, .int .i64 (List.length x1.rows : Int)), (16, .int .i64 x12), (27, .bool t22)] ?_ ?_
            · rcases Bool.eq_false_or_eq_true ((List.length e17 : Int) == 0) with hb24 | hb24
              · obtain rfl := orT h23 hb24
                refine QJ.off rfl rfl (cB hb24) rfl rfl ?_
                refine QJ.off rfl rfl (cB hb24) rfl rfl ?_
                refine QJ.off rfl rfl (cB hb24) rfl rfl ?_
                refine QJ.step (YldS.yld (y_pick_t (cB hb24) rfl)) rfl ?_
                exact QJ.cut_end ⟨rfl, rfl, rfl, rfl, rfl, rfl, trivial⟩
              · replace h23 := orF h23 hb24
                refine QJ.on rfl rfl (cB hb24) (YldS.yld (y_move rfl)) rfl ?_
                obtain ⟨r25, h26, h23⟩ := bindS h23
                refine QJ.on rfl rfl (cB hb24) (y_call Try.call68 rfl (RetG.quiet fun w hw => ok_i_isText h26 w )) rfl ?_
                refine QJ.on rfl rfl (cB hb24) (YldS.yld (y_not rfl)) rfl ?_
                refine QJ.step (YldS.yld (y_pick_f (cB hb24) rfl)) rfl ?_
                obtain rfl := Option.some.inj h23
                exact QJ.cut_end ⟨rfl, rfl, rfl, rfl, rfl, rfl, trivial⟩
            refine QJ.done ?_
            refine PJ.next ?_
            refine WJ.cond (t := t22) rfl (fun hb27 => ?_) (fun hb27 => ?_)
            · replace hm := ifT hm hb27
              refine WJ.seq ?_
              refine WJ.quiet ?_
              refine QJ.step (YldS.yld (y_assign rfl)) rfl ?_
              refine QJ.done ?_
              refine PJ.next ?_
              refine WJ.ret ?_
              refine PJ.then_ret (PJ.block_ret (PJ.then_ret (PJ.then_ret (PJ.block_ret (PJ.then_ret ?_)))))
              obtain rfl := Option.some.inj hm
              refine PJ.sel (L' := []) [] ⟨List.nodup_nil, rfl⟩ ?_
              exact PJ.retn (vs := [.bool false]) Try.results90 ⟨rfl, trivial⟩ ⟨rfl, rfl⟩
            · replace hm := ifF hm hb27
              refine WJ.skip ?_
              refine PJ.next ?_
              refine WJ.seq ?_
              refine WJ.quiet ?_
              refine QJ.step (YldS.yld (y_move rfl)) rfl ?_
              refine QJ.step (YldS.yld (y_lenStr Try.runUnderlying9 rfl)) rfl ?_
              refine QJ.step (YldS.yld (y_move rfl)) rfl ?_
              refine QJ.done ?_
              refine PJ.next ?_
              refine WJ.block ?_
              refine WJ.sel (L' := (fun (x : (List Bool) × Int) => [row (av g8 256) 70 fBool x.1]) (l11, 0)) [0] ⟨by decide, rfl⟩ ?_
              refine WJ.sub (m' := (fun (x : (List Bool) × Int) => [(3, pt g8 0), (5, str e17), (14, v2), (15, .int .i64 (List.length x1.rows : Int)), (16, .int .i64 x12), (29, .int .i64 (List.length e17 : Int)), (30, .int .i64 x.2)]) (l11, 0)) ⟨rfl, rfl, rfl, rfl, rfl, rfl, rfl, trivial⟩ ?_
              refine WJ.loop (X := (List Bool) × Int) (fun N (x : (List Bool) × Int) => i_ValidLayout_l2 kj15 e17 N x.1 x.2 = some r) (fun (x : (List Bool) × Int) => [(3, pt g8 0), (5, str e17), (14, v2), (15, .int .i64 (List.length x1.rows : Int)), (16, .int .i64 x12), (29, .int .i64 (List.length e17 : Int)), (30, .int .i64 x.2)]) (fun (x : (List Bool) × Int) => [row (av g8 256) 70 fBool x.1]) ?_ N (l11, 0) hm
              · rintro N ⟨l28, x29⟩ hI
                have hm := hI; clear hI
                cases N with
                | zero => cases hm
                | succ N =>
                unfold i_ValidLayout_l2 at hm
                refine WJ.seq ?_
                refine WJ.quiet ?_
                refine QJ.step (YldS.yld (y_bin rfl rfl rfl)) rfl ?_
                refine QJ.done ?_
                refine PJ.next ?_
                refine WJ.seq ?_
                refine WJ.cond (t := decide (x29 < (List.length e17 : Int))) rfl (fun hb30 => ?_) (fun hb30 => ?_)
                · replace hm := ifT hm hb30
                  refine WJ.skip ?_
                  refine PJ.next ?_
                  refine WJ.seq ?_
                  refine WJ.block ?_
                  refine WJ.seq ?_
                  refine WJ.quiet ?_
                  refine QJ.step (YldS.yld (y_move rfl)) rfl ?_
                  refine QJ.step (YldS.yld (y_assign rfl)) rfl ?_
                  refine QJ.done ?_
                  refine PJ.next ?_
                  refine WJ.seq ?_
                  refine WJ.seq ?_
                  refine WJ.quiet ?_
                  refine QJ.step (YldS.yld (y_move rfl)) rfl ?_
                  refine QJ.step (YldS.yld (y_move rfl)) rfl ?_
                  obtain ⟨c31, h32, hm⟩ := bindS hm
                  refine QJ.step (YldS.yld (y_idxStr Try.runUnderlying9 rfl rfl h32)) rfl ?_
                  refine QJ.step (YldS.yld (y_bin8 c31 (47 : UInt8) rfl rfl rfl)) rfl ?_
                  refine QJ.step (YldS.yld (y_move rfl)) rfl ?_
                  obtain ⟨t33, h34, hm⟩ := bindS hm
                  refine QJ.cut 6 [(3, pt g8 0), (5, str e17), (6, .int .i64 x29), (14, v2), (15, .int .i64 (List.length x1.rows : Int)), (16, .int .i64 x12), (29, .int .i64 (List.length e17 : Int)), (30, .int .i64 x29), (43, .bool t33)] ?_ ?_
                  · rcases Bool.eq_false_or_eq_true (c31 == (47 : UInt8)) with hb35 | hb35
                    · obtain rfl := orT h34 hb35
                      refine QJ.off rfl rfl (cB hb35) rfl rfl ?_
                      refine QJ.off rfl rfl (cB hb35) rfl rfl ?_
                      refine QJ.off rfl rfl (cB hb35) rfl rfl ?_
                      refine QJ.off rfl rfl (cB hb35) rfl rfl ?_
                      refine QJ.off rfl rfl (cB hb35) rfl rfl ?_
                      refine QJ.step (YldS.yld (y_pick_t (cB hb35) rfl)) rfl ?_
                      exact QJ.cut_end ⟨rfl, rfl, rfl, rfl, rfl, rfl, rfl, rfl, rfl, trivial⟩
                    · replace h34 := orF h34 hb35
                      refine QJ.on rfl rfl (cB hb35) (YldS.yld (y_move rfl)) rfl ?_
                      refine QJ.on rfl rfl (cB hb35) (YldS.yld (y_move rfl)) rfl ?_
                      obtain ⟨c36, h37, h34⟩ := bindS h34
                      refine QJ.on rfl rfl (cB hb35) (YldS.yld (y_idxStr Try.runUnderlying9 rfl rfl h37)) rfl ?_
                      obtain ⟨e38, h39, h34⟩ := bindS h34
                      refine QJ.on rfl rfl (cB hb35) (YldS.yld (y_ixArr (k := 0) (R := fBool) rfl Try.runUnderlying70 Try.sizeOf4 rfl rfl h39)) rfl ?_
                      refine QJ.on rfl rfl (cB hb35) (YldS.yld (y_loadR (k := 0) (i := (Int.toNat (UInt8.toNat c36 : Int))) (off := 0) (u := .bool e38) rfl Try.isAgg4 rfl (idx_get h39) rfl)) rfl ?_
                      refine QJ.step (YldS.yld (y_pick_f (cB hb35) rfl)) rfl ?_
                      obtain rfl := Option.some.inj h34
                      exact QJ.cut_end ⟨rfl, rfl, rfl, rfl, rfl, rfl, rfl, rfl, rfl, trivial⟩
                  refine QJ.done ?_
                  refine PJ.next ?_
                  refine WJ.cond (t := t33) rfl (fun hb40 => ?_) (fun hb40 => ?_)
                  · replace hm := ifT hm hb40
                    refine WJ.seq ?_
                    refine WJ.quiet ?_
                    refine QJ.step (YldS.yld (y_assign rfl)) rfl ?_
                    refine QJ.done ?_
                    refine PJ.next ?_
                    refine WJ.ret ?_
                    refine PJ.then_ret (PJ.block_ret (PJ.then_ret (PJ.then_ret (PJ.block_ret (PJ.block_ret (PJ.then_ret (PJ.then_ret (PJ.block_ret (PJ.then_ret ?_)))))))))
                    obtain rfl := Option.some.inj hm
                    refine PJ.sel (L' := []) [] ⟨List.nodup_nil, rfl⟩ ?_
                    exact PJ.retn (vs := [.bool false]) Try.results90 ⟨rfl, trivial⟩ ⟨rfl, rfl⟩
                  · replace hm := ifF hm hb40
                    refine WJ.skip ?_
                    refine PJ.next ?_
                    refine WJ.reg ?_
                    refine SJ.q (YldS.yld (y_move rfl)) rfl ?_
                    refine SJ.q (YldS.yld (y_move rfl)) rfl ?_
                    obtain ⟨c41, h42, hm⟩ := bindS hm
                    refine SJ.q (YldS.yld (y_idxStr Try.runUnderlying9 rfl rfl h42)) rfl ?_
                    obtain ⟨e43, h44, hm⟩ := bindS hm
                    refine SJ.q (YldS.yld (y_ixArr (k := 0) (R := fBool) rfl Try.runUnderlying70 Try.sizeOf4 rfl rfl h44)) rfl ?_
                    refine SJ.storeRL (k := 0) (i := (Int.toNat (UInt8.toNat c41 : Int))) (off := 0) (us := [.bool true]) (b := true) rfl rfl (idx_get h44) rfl rfl Try.sizeOf4 rfl rfl rfl ?_
                    refine SJ.nil ?_
                    refine PJ.block_normal (PJ.next ?_)
                    refine WJ.quiet ?_
                    refine QJ.step (YldS.yld (y_bin rfl rfl rfl)) rfl ?_
                    refine QJ.step (YldS.yld (y_move rfl)) rfl ?_
                    refine QJ.done ?_
                    exact PJ.round ((List.set l28 (Int.toNat (UInt8.toNat c41 : Int)) true), w64 (x29 + 1)) [0] hm ⟨rfl, rfl, rfl, rfl, rfl, rfl, rfl, trivial⟩ ⟨by decide, rfl⟩
                · replace hm := ifF hm hb30
                  refine WJ.exit ?_
                  refine PJ.then_exit (PJ.then_exit (PJ.block_exit (PJ.block_normal ?_)))
                  exact PJ.joined l28 [0] hm ⟨rfl, rfl, rfl, rfl, trivial⟩ ⟨by decide, rfl⟩
          · rintro l14 hm
            subst hk16
            refine WJ.quiet ?_
            refine QJ.step (YldS.yld (y_bin rfl rfl rfl)) rfl ?_
            refine QJ.step (YldS.yld (y_move rfl)) rfl ?_
            refine QJ.done ?_
            exact PJ.round (l14, w64 (x12 + 1)) [0] hm ⟨rfl, rfl, rfl, rfl, trivial⟩ ⟨by decide, rfl⟩
        · replace hm := ifF hm hb13
          refine WJ.exit ?_
          refine PJ.then_exit (PJ.then_exit (PJ.block_exit ?_))
          exact PJ.joined () [] hm trivial ⟨List.nodup_nil, rfl⟩
    · rintro _ hm
      subst hk10
      refine WJ.seq ?_
      refine WJ.quiet ?_
      refine QJ.step (YldS.yld (y_assign rfl)) rfl ?_
      refine QJ.done ?_
      refine PJ.next ?_
      refine WJ.ret ?_
      obtain rfl := Option.some.inj hm
      refine PJ.sel (L' := []) [] ⟨List.nodup_nil, rfl⟩ ?_
      exact PJ.retn (vs := [.bool true]) Try.results90 ⟨rfl, trivial⟩ ⟨rfl, rfl⟩

set_option maxRecDepth 100000 in
set_option maxHeartbeats 1000000 in
theorem ok_i_Layout_spot {N : Nat} {x1 : Layout} {letter4 : UInt8} {r : Int × Int × Bool} (hm : i_Layout_spot N x1 letter4 = some r) (w : World) (v2 : Value) (hr3 : RdS w (cx w).Fz v2 fStr.rp x1.rows) :
    Calls Try.prog 49 #[.agg #[v2], .int .u8 (UInt8.toNat letter4 : Int)] w (Ret (cx w) (tup [.int .i64 r.1, .int .i64 r.2.1, .bool r.2.2])) := by
  unfold i_Layout_spot at hm
  refine Calls.enter [.agg #[v2], .int .u8 (UInt8.toNat letter4 : Int)] Try.func49 rfl Try.ntmps49 rfl ?_
  refine WJ.seq ?_
  refine WJ.reg ?_
  refine SJ.box (cs := [v2]) rfl rfl rfl fun g5 => ?_
  refine SJ.q (YldS.yld (y_assign rfl)) rfl ?_
  refine SJ.q (YldS.yld (y_assign rfl)) rfl ?_
  refine SJ.q (YldS.yld (y_assign rfl)) rfl ?_
  refine SJ.nil ?_
  refine PJ.next ?_
  obtain ⟨kj6, hk7, hm⟩ := withK_open hm
  refine WJ.join (X := Unit) (fun (_ : Unit) => kj6  = some r) (fun (_ : Unit) => []) (fun (_ : Unit) => []) ?_ ?_
  · clear hk7
    refine WJ.seq ?_
    refine WJ.quiet ?_
    refine QJ.step (YldS.yld (y_fldB (o := 0) fld26_0 rfl)) rfl ?_
    refine QJ.step (YldS.yld (y_loadB (k := 0) (off := 0) (v := v2) rfl Try.isAgg24 rfl rfl)) rfl ?_
    refine QJ.step (YldS.yld (y_lenS Try.runUnderlying24 hr3 rfl)) rfl ?_
    refine QJ.step (YldS.yld (y_move rfl)) rfl ?_
    refine QJ.done ?_
    refine PJ.next ?_
    refine WJ.block ?_
    refine WJ.sel (L' := (fun (x : Int) => []) 0) [] ⟨List.nodup_nil, rfl⟩ ?_
    refine WJ.sub (m' := (fun (x : Int) => [(1, .int .u8 (UInt8.toNat letter4 : Int)), (11, v2), (12, .int .i64 (List.length x1.rows : Int)), (13, .int .i64 x)]) 0) ⟨rfl, rfl, rfl, rfl, trivial⟩ ?_
    refine WJ.loop (X := Int) (fun N (x : Int) => i_Layout_spot_l1 kj6 x1 letter4 N x = some r) (fun (x : Int) => [(1, .int .u8 (UInt8.toNat letter4 : Int)), (11, v2), (12, .int .i64 (List.length x1.rows : Int)), (13, .int .i64 x)]) (fun (x : Int) => []) ?_ N 0 hm
    · rintro N x8 hI
      have hm := hI; clear hI
      cases N with
      | zero => cases hm
      | succ N =>
      unfold i_Layout_spot_l1 at hm
      refine WJ.seq ?_
      refine WJ.quiet ?_
      refine QJ.step (YldS.yld (y_bin rfl rfl rfl)) rfl ?_
      refine QJ.done ?_
      refine PJ.next ?_
      refine WJ.seq ?_
      refine WJ.cond (t := decide (x8 < (List.length x1.rows : Int))) rfl (fun hb9 => ?_) (fun hb9 => ?_)
      · replace hm := ifT hm hb9
        refine WJ.skip ?_
        refine PJ.next ?_
        obtain ⟨kj10, hk11, hm⟩ := withK_open hm
        refine WJ.join (X := Unit) (fun (_ : Unit) => kj10  = some r) (fun (_ : Unit) => [(1, .int .u8 (UInt8.toNat letter4 : Int)), (11, v2), (12, .int .i64 (List.length x1.rows : Int)), (13, .int .i64 x8)]) (fun (_ : Unit) => []) ?_ ?_
        · clear hk11
          refine WJ.block ?_
          refine WJ.seq ?_
          refine WJ.quiet ?_
          refine QJ.step (YldS.yld (y_move rfl)) rfl ?_
          obtain ⟨e12, h13, hm⟩ := bindS hm
          obtain ⟨ad14, _, rfl, ha15, hy16⟩ := hr3.elem h13
          refine QJ.step (YldS.yld (hy16 Try.runUnderlying24 Try.sizeOf9 rfl rfl)) rfl ?_
          refine QJ.step (YldS.yld (y_load1 (v := str e12) Try.isAgg9 ha15 St.frozenC rfl)) rfl ?_
          refine QJ.step (YldS.yld (y_assign rfl)) rfl ?_
          refine QJ.step (YldS.yld (y_assign rfl)) rfl ?_
          refine QJ.done ?_
          refine PJ.next ?_
          refine WJ.seq ?_
          refine WJ.quiet ?_
          refine QJ.step (YldS.yld (y_move rfl)) rfl ?_
          refine QJ.step (YldS.yld (y_lenStr Try.runUnderlying9 rfl)) rfl ?_
          refine QJ.step (YldS.yld (y_move rfl)) rfl ?_
          refine QJ.done ?_
          refine PJ.next ?_
          refine WJ.block ?_
          refine WJ.sel (L' := (fun (x : Int) => []) 0) [] ⟨List.nodup_nil, rfl⟩ ?_
          refine WJ.sub (m' := (fun (x : Int) => [(1, .int .u8 (UInt8.toNat letter4 : Int)), (7, .int .i64 x8), (8, str e12), (11, v2), (12, .int .i64 (List.length x1.rows : Int)), (13, .int .i64 x8), (19, .int .i64 (List.length e12 : Int)), (20, .int .i64 x)]) 0) ⟨rfl, rfl, rfl, rfl, rfl, rfl, rfl, rfl, trivial⟩ ?_
          refine WJ.loop (X := Int) (fun N (x : Int) => i_Layout_spot_l2 kj10 letter4 x8 e12 N x = some r) (fun (x : Int) => [(1, .int .u8 (UInt8.toNat letter4 : Int)), (7, .int .i64 x8), (8, str e12), (11, v2), (12, .int .i64 (List.length x1.rows : Int)), (13, .int .i64 x8), (19, .int .i64 (List.length e12 : Int)), (20, .int .i64 x)]) (fun (x : Int) => []) ?_ N 0 hm
          · rintro N x17 hI
            have hm := hI; clear hI
            cases N with
            | zero => cases hm
            | succ N =>
            unfold i_Layout_spot_l2 at hm
            refine WJ.seq ?_
            refine WJ.quiet ?_
            refine QJ.step (YldS.yld (y_bin rfl rfl rfl)) rfl ?_
            refine QJ.done ?_
            refine PJ.next ?_
            refine WJ.seq ?_
            refine WJ.cond (t := decide (x17 < (List.length e12 : Int))) rfl (fun hb18 => ?_) (fun hb18 => ?_)
            · replace hm := ifT hm hb18
              refine WJ.skip ?_
              refine PJ.next ?_
              refine WJ.seq ?_
              refine WJ.block ?_
              refine WJ.seq ?_
              refine WJ.quiet ?_
              refine QJ.step (YldS.yld (y_move rfl)) rfl ?_
              refine QJ.step (YldS.yld (y_assign rfl)) rfl ?_
              refine QJ.done ?_
              refine PJ.next ?_
              refine WJ.seq ?_
              refine WJ.quiet ?_
              refine QJ.step (YldS.yld (y_move rfl)) rfl ?_
              refine QJ.step (YldS.yld (y_move rfl)) rfl ?_
              obtain ⟨c19, h20, hm⟩ := bindS hm
              refine QJ.step (YldS.yld (y_idxStr Try.runUnderlying9 rfl rfl h20)) rfl ?_
              refine QJ.step (YldS.yld (y_move rfl)) rfl ?_
              refine QJ.step (YldS.yld (y_bin8 c19 letter4 rfl rfl rfl)) rfl ?_
              refine QJ.done ?_
              refine PJ.next ?_
              refine WJ.cond (t := (c19 == letter4)) rfl (fun hb21 => ?_) (fun hb21 => ?_)
              · replace hm := ifT hm hb21
                refine WJ.seq ?_
                refine WJ.quiet ?_
                refine QJ.step (YldS.yld (y_move rfl)) rfl ?_
                refine QJ.step (YldS.yld (y_move rfl)) rfl ?_
                refine QJ.step (YldS.yld (y_assign rfl)) rfl ?_
                refine QJ.step (YldS.yld (y_assign rfl)) rfl ?_
                refine QJ.step (YldS.yld (y_assign rfl)) rfl ?_
                refine QJ.done ?_
                refine PJ.next ?_
                refine WJ.ret ?_
                refine PJ.block_ret (PJ.then_ret (PJ.then_ret (PJ.block_ret (PJ.block_ret (PJ.then_ret (PJ.then_ret (PJ.block_ret (PJ.then_ret ?_))))))))
                obtain rfl := Option.some.inj hm
                refine PJ.sel (L' := []) [] ⟨List.nodup_nil, rfl⟩ ?_
                exact PJ.retn (vs := [.int .i64 x8, .int .i64 x17, .bool true]) Try.results49 ⟨rfl, rfl, rfl, trivial⟩ ⟨rfl, rfl⟩
              · replace hm := ifF hm hb21
                refine WJ.skip ?_
                refine PJ.block_normal (PJ.next ?_)
                refine WJ.quiet ?_
                refine QJ.step (YldS.yld (y_bin rfl rfl rfl)) rfl ?_
                refine QJ.step (YldS.yld (y_move rfl)) rfl ?_
                refine QJ.done ?_
                exact PJ.round (w64 (x17 + 1)) [] hm ⟨rfl, rfl, rfl, rfl, rfl, rfl, rfl, rfl, trivial⟩ ⟨List.nodup_nil, rfl⟩
            · replace hm := ifF hm hb18
              refine WJ.exit ?_
              refine PJ.then_exit (PJ.then_exit (PJ.block_exit (PJ.block_normal ?_)))
              exact PJ.joined () [] hm ⟨rfl, rfl, rfl, rfl, trivial⟩ ⟨List.nodup_nil, rfl⟩
        · rintro _ hm
          subst hk11
          refine WJ.quiet ?_
          refine QJ.step (YldS.yld (y_bin rfl rfl rfl)) rfl ?_
          refine QJ.step (YldS.yld (y_move rfl)) rfl ?_
          refine QJ.done ?_
          exact PJ.round (w64 (x8 + 1)) [] hm ⟨rfl, rfl, rfl, rfl, trivial⟩ ⟨List.nodup_nil, rfl⟩
      · replace hm := ifF hm hb9
        refine WJ.exit ?_
        refine PJ.then_exit (PJ.then_exit (PJ.block_exit ?_))
        exact PJ.joined () [] hm trivial ⟨List.nodup_nil, rfl⟩
  · rintro _ hm
    subst hk7
    refine WJ.seq ?_
    refine WJ.quiet ?_
    refine QJ.step (YldS.yld (y_assign rfl)) rfl ?_
    refine QJ.step (YldS.yld (y_assign rfl)) rfl ?_
    refine QJ.step (YldS.yld (y_assign rfl)) rfl ?_
    refine QJ.done ?_
    refine PJ.next ?_
    refine WJ.ret ?_
    obtain rfl := Option.some.inj hm
    refine PJ.sel (L' := []) [] ⟨List.nodup_nil, rfl⟩ ?_
    exact PJ.retn (vs := [.int .i64 0, .int .i64 0, .bool false]) Try.results49 ⟨rfl, rfl, rfl, trivial⟩ ⟨rfl, rfl⟩

set_option maxRecDepth 100000 in
set_option maxHeartbeats 1000000 in
theorem ok_i_compareCode {N : Nat} {a1 : Layout} {b4 : Layout} {r : Int} (hm : i_compareCode N a1 b4 = some r) (w : World) (v2 : Value) (hr3 : RdS w (cx w).Fz v2 fStr.rp a1.rows) (v5 : Value) (hr6 : RdS w (cx w).Fz v5 fStr.rp b4.rows) :
    Calls Try.prog 43 #[.agg #[v2], .agg #[v5]] w (Ret (cx w) (.int .i64 r)) := by
  unfold i_compareCode at hm
  refine Calls.enter [.agg #[v2], .agg #[v5]] Try.func43 rfl Try.ntmps43 rfl ?_
  refine WJ.seq ?_
  refine WJ.reg ?_
  refine SJ.box (cs := [v2]) rfl rfl rfl fun g7 => ?_
  refine SJ.box (cs := [v5]) rfl rfl rfl fun g8 => ?_
  refine SJ.q (YldS.yld (y_assign rfl)) rfl ?_
  refine SJ.nil ?_
  refine PJ.next ?_
  refine WJ.seq ?_
  refine WJ.seq ?_
  refine WJ.quiet ?_
  refine QJ.step (YldS.yld (y_loadBN (k := 1) (off := 0) (us := [v2]) rfl Try.isAgg26 Try.sizeOf26 rfl rfl)) rfl ?_
  obtain ⟨r9, h10, hm⟩ := bindS hm
  refine QJ.step (y_call Try.call90 rfl (RetG.quiet fun w hw => ok_i_ValidLayout h10 w _ (hr3.st hw))) rfl ?_
  refine QJ.step (YldS.yld (y_not rfl)) rfl ?_
  refine QJ.step (YldS.yld (y_move rfl)) rfl ?_
  obtain ⟨t11, h12, hm⟩ := bindS hm
  refine QJ.cut 4 [(2, pt g7 0), (3, pt g8 0), (18, .bool t11)] ?_ ?_
  · rcases Bool.eq_false_or_eq_true (!r9) with hb13 | hb13
    · obtain rfl := orT h12 hb13
      refine QJ.off rfl rfl (cB hb13) rfl rfl ?_
      refine QJ.off rfl rfl (cB hb13) rfl rfl ?_
      refine QJ.off rfl rfl (cB hb13) rfl rfl ?_
      refine QJ.step (YldS.yld (y_pick_t (cB hb13) rfl)) rfl ?_
      exact QJ.cut_end ⟨rfl, rfl, rfl, trivial⟩
    · replace h12 := orF h12 hb13
      refine QJ.on rfl rfl (cB hb13) (YldS.yld (y_loadBN (k := 0) (off := 0) (us := [v5]) rfl Try.isAgg26 Try.sizeOf26 rfl rfl)) rfl ?_
      obtain ⟨r14, h15, h12⟩ := bindS h12
      refine QJ.on rfl rfl (cB hb13) (y_call Try.call90 rfl (RetG.quiet fun w hw => ok_i_ValidLayout h15 w _ (hr6.st hw))) rfl ?_
      refine QJ.on rfl rfl (cB hb13) (YldS.yld (y_not rfl)) rfl ?_
      refine QJ.step (YldS.yld (y_pick_f (cB hb13) rfl)) rfl ?_
      obtain rfl := Option.some.inj h12
      exact QJ.cut_end ⟨rfl, rfl, rfl, trivial⟩
  refine QJ.done ?_
  refine PJ.next ?_
  refine WJ.cond (t := t11) rfl (fun hb16 => ?_) (fun hb16 => ?_)
  · replace hm := ifT hm hb16
    refine WJ.seq ?_
    refine WJ.quiet ?_
    refine QJ.step (YldS.yld (y_assign rfl)) rfl ?_
    refine QJ.done ?_
    refine PJ.next ?_
    refine WJ.ret ?_
    refine PJ.then_ret ?_
    obtain rfl := Option.some.inj hm
    refine PJ.sel (L' := []) [] ⟨List.nodup_nil, rfl⟩ ?_
    exact PJ.retn (vs := [.int .i64 1]) Try.results43 ⟨rfl, trivial⟩ ⟨rfl, rfl⟩
  · replace hm := ifF hm hb16
    refine WJ.skip ?_
    refine PJ.next ?_
    refine WJ.seq ?_
    refine WJ.seq ?_
    refine WJ.quiet ?_
    refine QJ.step (YldS.yld (y_fldB (o := 0) fld26_0 rfl)) rfl ?_
    refine QJ.step (YldS.yld (y_loadB (k := 1) (off := 0) (v := v2) rfl Try.isAgg24 rfl rfl)) rfl ?_
    refine QJ.step (YldS.yld (y_lenS Try.runUnderlying24 hr3 rfl)) rfl ?_
    refine QJ.step (YldS.yld (y_fldB (o := 0) fld26_0 rfl)) rfl ?_
    refine QJ.step (YldS.yld (y_loadB (k := 0) (off := 0) (v := v5) rfl Try.isAgg24 rfl rfl)) rfl ?_
    refine QJ.step (YldS.yld (y_lenS Try.runUnderlying24 hr6 rfl)) rfl ?_
    refine QJ.step (YldS.yld (y_bin rfl rfl rfl)) rfl ?_
    refine QJ.done ?_
    refine PJ.next ?_
    refine WJ.cond (t := ((List.length a1.rows : Int) != (List.length b4.rows : Int))) rfl (fun hb17 => ?_) (fun hb17 => ?_)
    · replace hm := ifT hm hb17
      refine WJ.seq ?_
      refine WJ.quiet ?_
      refine QJ.step (YldS.yld (y_assign rfl)) rfl ?_
      refine QJ.done ?_
      refine PJ.next ?_
      refine WJ.ret ?_
      refine PJ.then_ret ?_
      obtain rfl := Option.some.inj hm
      refine PJ.sel (L' := []) [] ⟨List.nodup_nil, rfl⟩ ?_
      exact PJ.retn (vs := [.int .i64 9]) Try.results43 ⟨rfl, trivial⟩ ⟨rfl, rfl⟩
    · replace hm := ifF hm hb17
      refine WJ.skip ?_
      refine PJ.next ?_
      obtain ⟨kj18, hk19, hm⟩ := withK_open hm
      refine WJ.join (X := Unit) (fun (_ : Unit) => kj18  = some r) (fun (_ : Unit) => []) (fun (_ : Unit) => []) ?_ ?_
      · clear hk19
        refine WJ.seq ?_
        refine WJ.quiet ?_
        refine QJ.step (YldS.yld (y_fldB (o := 0) fld26_0 rfl)) rfl ?_
        refine QJ.step (YldS.yld (y_loadB (k := 1) (off := 0) (v := v2) rfl Try.isAgg24 rfl rfl)) rfl ?_
        refine QJ.step (YldS.yld (y_lenS Try.runUnderlying24 hr3 rfl)) rfl ?_
        refine QJ.step (YldS.yld (y_move rfl)) rfl ?_
        refine QJ.done ?_
        refine PJ.next ?_
        refine WJ.block ?_
        refine WJ.sel (L' := (fun (x : Int) => [box g8 26 [v5]]) 0) [0] ⟨by decide, rfl⟩ ?_
        refine WJ.sub (m' := (fun (x : Int) => [(3, pt g8 0), (27, v2), (28, .int .i64 (List.length a1.rows : Int)), (29, .int .i64 x)]) 0) ⟨rfl, rfl, rfl, rfl, trivial⟩ ?_
        refine WJ.loop (X := Int) (fun N (x : Int) => i_compareCode_l1 kj18 a1 b4 N x = some r) (fun (x : Int) => [(3, pt g8 0), (27, v2), (28, .int .i64 (List.length a1.rows : Int)), (29, .int .i64 x)]) (fun (x : Int) => [box g8 26 [v5]]) ?_ N 0 hm
        · rintro N x20 hI
          have hm := hI; clear hI
          cases N with
          | zero => cases hm
          | succ N =>
          unfold i_compareCode_l1 at hm
          refine WJ.seq ?_
          refine WJ.quiet ?_
          refine QJ.step (YldS.yld (y_bin rfl rfl rfl)) rfl ?_
          refine QJ.done ?_
          refine PJ.next ?_
          refine WJ.seq ?_
          refine WJ.cond (t := decide (x20 < (List.length a1.rows : Int))) rfl (fun hb21 => ?_) (fun hb21 => ?_)
          · replace hm := ifT hm hb21
            refine WJ.skip ?_
            refine PJ.next ?_
            obtain ⟨kj22, hk23, hm⟩ := withK_open hm
            refine WJ.join (X := Unit) (fun (_ : Unit) => kj22  = some r) (fun (_ : Unit) => [(3, pt g8 0), (27, v2), (28, .int .i64 (List.length a1.rows : Int)), (29, .int .i64 x20)]) (fun (_ : Unit) => [box g8 26 [v5]]) ?_ ?_
            · clear hk23
              refine WJ.block ?_
              refine WJ.seq ?_
              refine WJ.quiet ?_
              refine QJ.step (YldS.yld (y_move rfl)) rfl ?_
              obtain ⟨e24, h25, hm⟩ := bindS hm
              obtain ⟨ad26, _, rfl, ha27, hy28⟩ := hr3.elem h25
              refine QJ.step (YldS.yld (hy28 Try.runUnderlying24 Try.sizeOf9 rfl rfl)) rfl ?_
              refine QJ.step (YldS.yld (y_load1 (v := str e24) Try.isAgg9 ha27 St.frozenC rfl)) rfl ?_
              refine QJ.step (YldS.yld (y_assign rfl)) rfl ?_
              refine QJ.step (YldS.yld (y_assign rfl)) rfl ?_
              refine QJ.done ?_
              refine PJ.next ?_
              refine WJ.seq ?_
              refine WJ.seq ?_
              refine WJ.quiet ?_
              refine QJ.step (YldS.yld (y_move rfl)) rfl ?_
              refine QJ.step (YldS.yld (y_lenStr Try.runUnderlying9 rfl)) rfl ?_
              refine QJ.step (YldS.yld (y_fldB (o := 0) fld26_0 rfl)) rfl ?_
              refine QJ.step (YldS.yld (y_loadB (k := 0) (off := 0) (v := v5) rfl Try.isAgg24 rfl rfl)) rfl ?_
              refine QJ.step (YldS.yld (y_move rfl)) rfl ?_
              obtain ⟨e29, h30, hm⟩ := bindS hm
              obtain ⟨ad31, _, rfl, ha32, hy33⟩ := hr6.elem h30
              refine QJ.step (YldS.yld (hy33 Try.runUnderlying24 Try.sizeOf9 rfl rfl)) rfl ?_
              refine QJ.step (YldS.yld (y_load1 (v := str e29) Try.isAgg9 ha32 St.frozenC rfl)) rfl ?_
              refine QJ.step (YldS.yld (y_lenStr Try.runUnderlying9 rfl)) rfl ?_
              refine QJ.step (YldS.yld (y_bin rfl rfl rfl)) rfl ?_
              refine QJ.done ?_
              refine PJ.next ?_
              refine WJ.cond (t := ((List.length e24 : Int) != (List.length e29 : Int))) rfl (fun hb34 => ?_) (fun hb34 => ?_)
              · replace hm := ifT hm hb34
                refine WJ.seq ?_
                refine WJ.quiet ?_
                refine QJ.step (YldS.yld (y_assign rfl)) rfl ?_
                refine QJ.done ?_
                refine PJ.next ?_
                refine WJ.ret ?_
                refine PJ.then_ret (PJ.block_ret (PJ.then_ret (PJ.then_ret (PJ.block_ret (PJ.then_ret ?_)))))
                obtain rfl := Option.some.inj hm
                refine PJ.sel (L' := []) [] ⟨List.nodup_nil, rfl⟩ ?_
                exact PJ.retn (vs := [.int .i64 9]) Try.results43 ⟨rfl, trivial⟩ ⟨rfl, rfl⟩
              · replace hm := ifF hm hb34
                refine WJ.skip ?_
                refine PJ.next ?_
                refine WJ.seq ?_
                refine WJ.quiet ?_
                refine QJ.step (YldS.yld (y_move rfl)) rfl ?_
                refine QJ.step (YldS.yld (y_lenStr Try.runUnderlying9 rfl)) rfl ?_
                refine QJ.step (YldS.yld (y_move rfl)) rfl ?_
                refine QJ.done ?_
                refine PJ.next ?_
                refine WJ.block ?_
                refine WJ.sel (L' := (fun (x : Int) => [box g8 26 [v5]]) 0) [0] ⟨by decide, rfl⟩ ?_
                refine WJ.sub (m' := (fun (x : Int) => [(3, pt g8 0), (6, str e24), (27, v2), (28, .int .i64 (List.length a1.rows : Int)), (29, .int .i64 x20), (44, .int .i64 (List.length e24 : Int)), (45, .int .i64 x)]) 0) ⟨rfl, rfl, rfl, rfl, rfl, rfl, rfl, trivial⟩ ?_
                refine WJ.loop (X := Int) (fun N (x : Int) => i_compareCode_l2 kj22 b4 e24 N x = some r) (fun (x : Int) => [(3, pt g8 0), (6, str e24), (27, v2), (28, .int .i64 (List.length a1.rows : Int)), (29, .int .i64 x20), (44, .int .i64 (List.length e24 : Int)), (45, .int .i64 x)]) (fun (x : Int) => [box g8 26 [v5]]) ?_ N 0 hm
                · rintro N x35 hI
                  have hm := hI; clear hI
                  cases N with
                  | zero => cases hm
                  | succ N =>
                  unfold i_compareCode_l2 at hm
                  refine WJ.seq ?_
                  refine WJ.quiet ?_
                  refine QJ.step (YldS.yld (y_bin rfl rfl rfl)) rfl ?_
                  refine QJ.done ?_
                  refine PJ.next ?_
                  refine WJ.seq ?_
                  refine WJ.cond (t := decide (x35 < (List.length e24 : Int))) rfl (fun hb36 => ?_) (fun hb36 => ?_)
                  · replace hm := ifT hm hb36
                    refine WJ.skip ?_
                    refine PJ.next ?_
                    refine WJ.seq ?_
                    refine WJ.block ?_
                    refine WJ.seq ?_
                    refine WJ.quiet ?_
                    refine QJ.step (YldS.yld (y_move rfl)) rfl ?_
                    refine QJ.step (YldS.yld (y_assign rfl)) rfl ?_
                    refine QJ.done ?_
                    refine PJ.next ?_
                    refine WJ.seq ?_
                    refine WJ.quiet_draw follows (by kernel_rfl) ?_
                    refine QJ.step (YldS.yld (y_loadBN (k := 0) (off := 0) (us := [v5]) rfl Try.isAgg26 Try.sizeOf26 rfl rfl)) rfl ?_
                    refine QJ.step (YldS.yld (y_move rfl)) rfl ?_
                    refine QJ.step (YldS.yld (y_move rfl)) rfl ?_
                    obtain ⟨c37, h38, hm⟩ := bindS hm
                    refine QJ.step (YldS.yld (y_idxStr Try.runUnderlying9 rfl rfl h38)) rfl ?_
                    obtain ⟨r39, h40, hm⟩ := bindS hm
                    refine QJ.step (y_call Try.call49 rfl (RetG.quiet fun w hw => ok_i_Layout_spot h40 w _ (hr6.st hw))) rfl ?_
                    refine QJ.step (YldS.yld (y_move rfl)) rfl ?_
                    refine QJ.step (YldS.yld (y_extract rfl rfl)) rfl ?_
                    refine QJ.step (YldS.yld (y_extract rfl rfl)) rfl ?_
                    refine QJ.step (YldS.yld (y_extract rfl rfl)) rfl ?_
                    refine QJ.step (YldS.yld (y_assign rfl)) rfl ?_
                    refine QJ.step (YldS.yld (y_assign rfl)) rfl ?_
                    refine QJ.step (YldS.yld (y_assign rfl)) rfl ?_
                    refine QJ.done ?_
                    refine PJ.next ?_
                    refine WJ.seq ?_
                    refine WJ.quiet ?_
                    refine QJ.step (YldS.yld (y_move rfl)) rfl ?_
                    refine QJ.step (YldS.yld (y_not rfl)) rfl ?_
                    refine QJ.done ?_
                    refine PJ.next ?_
                    refine WJ.cond (t := !r39.2.2) rfl (fun hb41 => ?_) (fun hb41 => ?_)
                    · replace hm := ifT hm hb41
                      refine WJ.seq ?_
                      refine WJ.quiet ?_
                      refine QJ.step (YldS.yld (y_assign rfl)) rfl ?_
                      refine QJ.done ?_
                      refine PJ.next ?_
                      refine WJ.ret ?_
                      refine PJ.block_ret (PJ.then_ret (PJ.then_ret (PJ.block_ret (PJ.block_ret (PJ.then_ret (PJ.then_ret (PJ.block_ret (PJ.then_ret ?_))))))))
                      obtain rfl := Option.some.inj hm
                      refine PJ.sel (L' := []) [] ⟨List.nodup_nil, rfl⟩ ?_
                      exact PJ.retn (vs := [.int .i64 9]) Try.results43 ⟨rfl, trivial⟩ ⟨rfl, rfl⟩
                    · replace hm := ifF hm hb41
                      refine WJ.skip ?_
                      refine PJ.block_normal (PJ.next ?_)
                      refine WJ.quiet ?_
                      refine QJ.step (YldS.yld (y_bin rfl rfl rfl)) rfl ?_
                      refine QJ.step (YldS.yld (y_move rfl)) rfl ?_
                      refine QJ.done ?_
                      exact PJ.round (w64 (x35 + 1)) [0] hm ⟨rfl, rfl, rfl, rfl, rfl, rfl, rfl, trivial⟩ ⟨by decide, rfl⟩
                  · replace hm := ifF hm hb36
                    refine WJ.exit ?_
                    refine PJ.then_exit (PJ.then_exit (PJ.block_exit (PJ.block_normal ?_)))
                    exact PJ.joined () [0] hm ⟨rfl, rfl, rfl, rfl, trivial⟩ ⟨by decide, rfl⟩
            · rintro _ hm
              subst hk23
              refine WJ.quiet ?_
              refine QJ.step (YldS.yld (y_bin rfl rfl rfl)) rfl ?_
              refine QJ.step (YldS.yld (y_move rfl)) rfl ?_
              refine QJ.done ?_
              exact PJ.round (w64 (x20 + 1)) [0] hm ⟨rfl, rfl, rfl, rfl, trivial⟩ ⟨by decide, rfl⟩
          · replace hm := ifF hm hb21
            refine WJ.exit ?_
            refine PJ.then_exit (PJ.then_exit (PJ.block_exit ?_))
            exact PJ.joined () [] hm trivial ⟨List.nodup_nil, rfl⟩
      · rintro _ hm
        subst hk19
        refine WJ.seq ?_
        refine WJ.quiet ?_
        refine QJ.step (YldS.yld (y_assign rfl)) rfl ?_
        refine QJ.done ?_
        refine PJ.next ?_
        refine WJ.ret ?_
        obtain rfl := Option.some.inj hm
        refine PJ.sel (L' := []) [] ⟨List.nodup_nil, rfl⟩ ?_
        exact PJ.retn (vs := [.int .i64 0]) Try.results43 ⟨rfl, trivial⟩ ⟨rfl, rfl⟩

set_option maxRecDepth 100000 in
set_option maxHeartbeats 1000000 in
theorem ok_i_Layout_exchanged {N : Nat} {x1 : Layout} {a4 : UInt8} {b5 : UInt8} {r : Layout} (hm : i_Layout_exchanged N x1 a4 b5 = some r) (w : World) (v2 : Value) (hr3 : RdS w (cx w).Fz v2 fStr.rp x1.rows) :
    Calls Try.prog 91 #[.agg #[v2], .int .u8 (UInt8.toNat a4 : Int), .int .u8 (UInt8.toNat b5 : Int)] w (RetG (cx w) fun u L => ∃ (u1 : Value), (u = .agg #[u1] ∧ L = [row u1 9 fStr r.rows])) := by
  unfold i_Layout_exchanged at hm
  refine Calls.enter [.agg #[v2], .int .u8 (UInt8.toNat a4 : Int), .int .u8 (UInt8.toNat b5 : Int)] Try.func91 rfl Try.ntmps91 rfl ?_
  refine WJ.seq ?_
  refine WJ.reg ?_
  refine SJ.box (cs := [v2]) rfl rfl rfl fun g6 => ?_
  refine SJ.alloc (cs := [.slice none 0 0]) Try.zeroValue26 rfl rfl fun g7 => ?_
  refine SJ.nil_row 9 fStr ?_
  refine SJ.nil ?_
  refine PJ.next ?_
  refine WJ.seq ?_
  refine WJ.reg ?_
  refine SJ.q (YldS.yld (y_build (parts := []) (places := [(0, 1)]) (r := [.slice none 0 0]) pl26 Try.zeroValue26 rfl rfl rfl rfl)) rfl ?_
  refine SJ.alloc (cs := [.slice none 0 0]) Try.zeroValue26 rfl rfl fun g8 => ?_
  refine SJ.nil_row 9 fStr ?_
  refine SJ.storeL (k := 1) (off := 0) (us := [.slice none 0 0]) rfl rfl rfl rfl Try.sizeOf26 rfl rfl ?_
  refine SJ.nil_row 9 fStr ?_
  refine SJ.erase 1 ?_
  refine SJ.nil ?_
  refine PJ.next ?_
  obtain ⟨kj11, hk12, hm⟩ := withK_open hm
  refine WJ.join (X := (List Str) × Value) (fun (x : (List Str) × Value) => kj11 x.1 = some r) (fun (x : (List Str) × Value) => [(6, pt g7 0), (7, pt g8 0)]) (fun (x : (List Str) × Value) => [row x.2 9 fStr x.1, box g8 26 [x.2], row (.slice none 0 0) 9 fStr [], box g7 26 [(.slice none 0 0)]]) ?_ ?_
  · clear hk12
    refine WJ.seq ?_
    refine WJ.quiet ?_
    refine QJ.step (YldS.yld (y_fldB (o := 0) fld26_0 rfl)) rfl ?_
    refine QJ.step (YldS.yld (y_loadB (k := 4) (off := 0) (v := v2) rfl Try.isAgg24 rfl rfl)) rfl ?_
    refine QJ.step (YldS.yld (y_lenS Try.runUnderlying24 hr3 rfl)) rfl ?_
    refine QJ.step (YldS.yld (y_move rfl)) rfl ?_
    refine QJ.done ?_
    refine PJ.next ?_
    refine WJ.block ?_
    refine WJ.sel (L' := (fun (x : (List Str) × Value × Int) => [row x.2.1 9 fStr x.1, box g8 26 [x.2.1], row (.slice none 0 0) 9 fStr [], box g7 26 [(.slice none 0 0)]]) ([], (.slice none 0 0), 0)) [0, 1, 2, 3] ⟨by decide, rfl⟩ ?_
    refine WJ.sub (m' := (fun (x : (List Str) × Value × Int) => [(1, .int .u8 (UInt8.toNat a4 : Int)), (2, .int .u8 (UInt8.toNat b5 : Int)), (6, pt g7 0), (7, pt g8 0), (15, v2), (16, .int .i64 (List.length x1.rows : Int)), (17, .int .i64 x.2.2)]) ([], (.slice none 0 0), 0)) ⟨rfl, rfl, rfl, rfl, rfl, rfl, rfl, trivial⟩ ?_
    refine WJ.loop (X := (List Str) × Value × Int) (fun N (x : (List Str) × Value × Int) => i_Layout_exchanged_l1 kj11 x1 a4 b5 N x.1 x.2.2 = some r) (fun (x : (List Str) × Value × Int) => [(1, .int .u8 (UInt8.toNat a4 : Int)), (2, .int .u8 (UInt8.toNat b5 : Int)), (6, pt g7 0), (7, pt g8 0), (15, v2), (16, .int .i64 (List.length x1.rows : Int)), (17, .int .i64 x.2.2)]) (fun (x : (List Str) × Value × Int) => [row x.2.1 9 fStr x.1, box g8 26 [x.2.1], row (.slice none 0 0) 9 fStr [], box g7 26 [(.slice none 0 0)]]) ?_ N ([], (.slice none 0 0), 0) hm
    · rintro N ⟨l13, v14, x15⟩ hI
      have hm := hI; clear hI
      cases N with
      | zero => cases hm
      | succ N =>
      unfold i_Layout_exchanged_l1 at hm
      refine WJ.seq ?_
      refine WJ.quiet ?_
      refine QJ.step (YldS.yld (y_bin rfl rfl rfl)) rfl ?_
      refine QJ.done ?_
      refine PJ.next ?_
      refine WJ.seq ?_
      refine WJ.cond (t := decide (x15 < (List.length x1.rows : Int))) rfl (fun hb16 => ?_) (fun hb16 => ?_)
      · replace hm := ifT hm hb16
        refine WJ.skip ?_
        refine PJ.next ?_
        obtain ⟨kj19, hk20, hm⟩ := withK_open hm
        refine WJ.join (X := (List Str) × Value) (fun (x : (List Str) × Value) => kj19 x.1 = some r) (fun (x : (List Str) × Value) => [(1, .int .u8 (UInt8.toNat a4 : Int)), (2, .int .u8 (UInt8.toNat b5 : Int)), (6, pt g7 0), (7, pt g8 0), (15, v2), (16, .int .i64 (List.length x1.rows : Int)), (17, .int .i64 x15)]) (fun (x : (List Str) × Value) => [row x.2 9 fStr x.1, box g8 26 [x.2], row (.slice none 0 0) 9 fStr [], box g7 26 [(.slice none 0 0)]]) ?_ ?_
        · clear hk20
          refine WJ.block ?_
          refine WJ.seq ?_
          refine WJ.quiet ?_
          obtain ⟨e21, h22, hm⟩ := bindS hm
          obtain ⟨ad23, _, rfl, ha24, hy25⟩ := hr3.elem h22
          refine QJ.step (YldS.yld (hy25 Try.runUnderlying24 Try.sizeOf9 rfl rfl)) rfl ?_
          refine QJ.step (YldS.yld (y_load1 (v := str e21) Try.isAgg9 ha24 St.frozenC rfl)) rfl ?_
          refine QJ.step (YldS.yld (y_assign rfl)) rfl ?_
          refine QJ.done ?_
          refine PJ.next ?_
          refine WJ.seq ?_
          refine WJ.reg ?_
          refine SJ.q (YldS.yld (y_move rfl)) rfl ?_
          obtain ⟨l26, h27, hm⟩ := bindS hm
          refine SJ.convBytes h27 Try.underlying9 Try.underlying22 Try.underlying5 rfl rfl fun v28 => ?_
          refine SJ.q (YldS.yld (y_assign rfl)) rfl ?_
          refine SJ.nil ?_
          refine PJ.next ?_
          obtain ⟨kj30, hk31, hm⟩ := withK_open hm
          refine WJ.join (X := (List UInt8)) (fun (x : (List UInt8)) => kj30 x = some r) (fun (x : (List UInt8)) => [(1, .int .u8 (UInt8.toNat a4 : Int)), (2, .int .u8 (UInt8.toNat b5 : Int)), (6, pt g7 0), (7, pt g8 0), (10, v28), (15, v2), (16, .int .i64 (List.length x1.rows : Int)), (17, .int .i64 x15)]) (fun (x : (List UInt8)) => [rowM v28 5 fByte x, row v14 9 fStr l13, box g8 26 [v14], row (.slice none 0 0) 9 fStr [], box g7 26 [(.slice none 0 0)]]) ?_ ?_
          · clear hk31
            refine WJ.seq ?_
            refine WJ.quiet ?_
            refine QJ.step (YldS.yld (y_move rfl)) rfl ?_
            refine QJ.step (YldS.yld (y_lenRowM (k := 0) rfl Try.runUnderlying22 rfl)) rfl ?_
            refine QJ.step (YldS.yld (y_move rfl)) rfl ?_
            refine QJ.done ?_
            refine PJ.next ?_
            refine WJ.block ?_
            refine WJ.sel (L' := (fun (x : (List UInt8) × Int) => [rowM v28 5 fByte x.1, row v14 9 fStr l13, box g8 26 [v14], row (.slice none 0 0) 9 fStr [], box g7 26 [(.slice none 0 0)]]) (l26, 0)) [0, 1, 2, 3, 4] ⟨by decide, rfl⟩ ?_
            refine WJ.sub (m' := (fun (x : (List UInt8) × Int) => [(1, .int .u8 (UInt8.toNat a4 : Int)), (2, .int .u8 (UInt8.toNat b5 : Int)), (6, pt g7 0), (7, pt g8 0), (10, v28), (15, v2), (16, .int .i64 (List.length x1.rows : Int)), (17, .int .i64 x15), (23, v28), (24, .int .i64 (List.length l26 : Int)), (25, .int .i64 x.2)]) (l26, 0)) ⟨rfl, rfl, rfl, rfl, rfl, rfl, rfl, rfl, rfl, rfl, rfl, trivial⟩ ?_
            refine WJ.loop (X := (List UInt8) × Int) (fun N (x : (List UInt8) × Int) => i_Layout_exchanged_l2 kj30 a4 b5 l26 N x.1 x.2 = some r) (fun (x : (List UInt8) × Int) => [(1, .int .u8 (UInt8.toNat a4 : Int)), (2, .int .u8 (UInt8.toNat b5 : Int)), (6, pt g7 0), (7, pt g8 0), (10, v28), (15, v2), (16, .int .i64 (List.length x1.rows : Int)), (17, .int .i64 x15), (23, v28), (24, .int .i64 (List.length l26 : Int)), (25, .int .i64 x.2)]) (fun (x : (List UInt8) × Int) => [rowM v28 5 fByte x.1, row v14 9 fStr l13, box g8 26 [v14], row (.slice none 0 0) 9 fStr [], box g7 26 [(.slice none 0 0)]]) ?_ N (l26, 0) hm
            · rintro N ⟨l32, x33⟩ hI
              have hm := hI; clear hI
              cases N with
              | zero => cases hm
              | succ N =>
              unfold i_Layout_exchanged_l2 at hm
              refine WJ.seq ?_
              refine WJ.quiet ?_
              refine QJ.step (YldS.yld (y_bin rfl rfl rfl)) rfl ?_
              refine QJ.done ?_
              refine PJ.next ?_
              refine WJ.seq ?_
              refine WJ.cond (t := decide (x33 < (List.length l26 : Int))) rfl (fun hb34 => ?_) (fun hb34 => ?_)
              · replace hm := ifT hm hb34
                refine WJ.skip ?_
                refine PJ.next ?_
                obtain ⟨kj36, hk37, hm⟩ := withK_open hm
                refine WJ.join (X := (List UInt8)) (fun (x : (List UInt8)) => kj36 x = some r) (fun (x : (List UInt8)) => [(1, .int .u8 (UInt8.toNat a4 : Int)), (2, .int .u8 (UInt8.toNat b5 : Int)), (6, pt g7 0), (7, pt g8 0), (10, v28), (15, v2), (16, .int .i64 (List.length x1.rows : Int)), (17, .int .i64 x15), (23, v28), (24, .int .i64 (List.length l26 : Int)), (25, .int .i64 x33)]) (fun (x : (List UInt8)) => [rowM v28 5 fByte x, row v14 9 fStr l13, box g8 26 [v14], row (.slice none 0 0) 9 fStr [], box g7 26 [(.slice none 0 0)]]) ?_ ?_
                · clear hk37
                  refine WJ.block ?_
                  refine WJ.seq ?_
                  refine WJ.quiet ?_
                  refine QJ.step (YldS.yld (y_move rfl)) rfl ?_
                  obtain ⟨e38, h39, hm⟩ := bindS hm
                  refine QJ.step (YldS.yld (y_ixRowM (k := 0) (R := fByte) rfl Try.runUnderlying22 Try.sizeOf5 rfl rfl h39)) rfl ?_
                  refine QJ.step (YldS.yld (y_loadRM (k := 0) (i := (Int.toNat x33)) (off := 0) (u := .int .u8 (UInt8.toNat e38 : Int)) rfl Try.isAgg5 rfl (idx_get h39) rfl)) rfl ?_
                  refine QJ.step (YldS.yld (y_assign rfl)) rfl ?_
                  refine QJ.step (YldS.yld (y_assign rfl)) rfl ?_
                  refine QJ.done ?_
                  refine PJ.next ?_
                  refine WJ.seq ?_
                  refine WJ.quiet ?_
                  refine QJ.step (YldS.yld (y_move rfl)) rfl ?_
                  refine QJ.done ?_
                  refine PJ.next ?_
                  refine WJ.block ?_
                  refine WJ.seq ?_
                  refine WJ.quiet ?_
                  refine QJ.step (YldS.yld (y_move rfl)) rfl ?_
                  refine QJ.step (YldS.yld (y_bin8 e38 a4 rfl rfl rfl)) rfl ?_
                  refine QJ.step (YldS.yld (y_assign rfl)) rfl ?_
                  refine QJ.done ?_
                  refine PJ.next ?_
                  refine WJ.cond (t := (e38 == a4)) rfl (fun hb40 => ?_) (fun hb40 => ?_)
                  · replace hm := ifT hm hb40
                    refine WJ.reg ?_
                    refine SJ.q (YldS.yld (y_move rfl)) rfl ?_
                    refine SJ.q (YldS.yld (y_move rfl)) rfl ?_
                    refine SJ.q (YldS.yld (y_move rfl)) rfl ?_
                    obtain ⟨e41, h42, hm⟩ := bindS hm
                    refine SJ.q (YldS.yld (y_ixRowM (k := 0) (R := fByte) rfl Try.runUnderlying22 Try.sizeOf5 rfl rfl h42)) rfl ?_
                    refine SJ.storeRLM (k := 0) (i := (Int.toNat x33)) (off := 0) (us := [.int .u8 (UInt8.toNat b5 : Int)]) (b := b5) rfl rfl (idx_get h42) rfl rfl Try.sizeOf5 rfl rfl rfl ?_
                    refine SJ.nil ?_
                    refine PJ.block_normal (PJ.block_normal ?_)
                    exact PJ.joined (List.set l32 (Int.toNat x33) b5) [0, 1, 2, 3, 4] hm ⟨rfl, rfl, rfl, rfl, rfl, rfl, rfl, rfl, rfl, rfl, rfl, trivial⟩ ⟨by decide, rfl⟩
                  · replace hm := ifF hm hb40
                    refine WJ.seq ?_
                    refine WJ.quiet ?_
                    refine QJ.step (YldS.yld (y_move rfl)) rfl ?_
                    refine QJ.step (YldS.yld (y_bin8 e38 b5 rfl rfl rfl)) rfl ?_
                    refine QJ.step (YldS.yld (y_assign rfl)) rfl ?_
                    refine QJ.done ?_
                    refine PJ.next ?_
                    refine WJ.cond (t := (e38 == b5)) rfl (fun hb43 => ?_) (fun hb43 => ?_)
                    · replace hm := ifT hm hb43
                      refine WJ.reg ?_
                      refine SJ.q (YldS.yld (y_move rfl)) rfl ?_
                      refine SJ.q (YldS.yld (y_move rfl)) rfl ?_
                      refine SJ.q (YldS.yld (y_move rfl)) rfl ?_
                      obtain ⟨e44, h45, hm⟩ := bindS hm
                      refine SJ.q (YldS.yld (y_ixRowM (k := 0) (R := fByte) rfl Try.runUnderlying22 Try.sizeOf5 rfl rfl h45)) rfl ?_
                      refine SJ.storeRLM (k := 0) (i := (Int.toNat x33)) (off := 0) (us := [.int .u8 (UInt8.toNat a4 : Int)]) (b := a4) rfl rfl (idx_get h45) rfl rfl Try.sizeOf5 rfl rfl rfl ?_
                      refine SJ.nil ?_
                      refine PJ.block_normal (PJ.block_normal ?_)
                      exact PJ.joined (List.set l32 (Int.toNat x33) a4) [0, 1, 2, 3, 4] hm ⟨rfl, rfl, rfl, rfl, rfl, rfl, rfl, rfl, rfl, rfl, rfl, trivial⟩ ⟨by decide, rfl⟩
                    · replace hm := ifF hm hb43
                      refine WJ.skip ?_
                      refine PJ.block_normal (PJ.block_normal ?_)
                      exact PJ.joined l32 [0, 1, 2, 3, 4] hm ⟨rfl, rfl, rfl, rfl, rfl, rfl, rfl, rfl, rfl, rfl, rfl, trivial⟩ ⟨by decide, rfl⟩
                · rintro l35 hm
                  subst hk37
                  refine WJ.quiet ?_
                  refine QJ.step (YldS.yld (y_bin rfl rfl rfl)) rfl ?_
                  refine QJ.step (YldS.yld (y_move rfl)) rfl ?_
                  refine QJ.done ?_
                  exact PJ.round (l35, w64 (x33 + 1)) [0, 1, 2, 3, 4] hm ⟨rfl, rfl, rfl, rfl, rfl, rfl, rfl, rfl, rfl, rfl, rfl, trivial⟩ ⟨by decide, rfl⟩
              · replace hm := ifF hm hb34
                refine WJ.exit ?_
                refine PJ.then_exit (PJ.then_exit (PJ.block_exit ?_))
                exact PJ.joined l32 [0, 1, 2, 3, 4] hm ⟨rfl, rfl, rfl, rfl, rfl, rfl, rfl, rfl, trivial⟩ ⟨by decide, rfl⟩
          · rintro l29 hm
            subst hk31
            refine WJ.reg ?_
            refine SJ.q (YldS.yld (y_fldB (o := 0) fld26_0 rfl)) rfl ?_
            refine SJ.q (YldS.yld (y_loadB (k := 2) (off := 0) (v := v14) rfl Try.isAgg24 rfl rfl)) rfl ?_
            refine SJ.q (YldS.yld (y_move rfl)) rfl ?_
            refine SJ.q (YldS.yld (y_b2s Try.underlying22 Try.underlying9 Try.underlying5 (fun w hw => ⟨_, (hw.rowM_rd (k := 0) rfl)⟩) rfl)) rfl ?_
            refine SJ.buildSlice (R := fStr) (os := [.tmp 49]) [l29] Try.runUnderlying24 Try.sizeOf9 Try.zeroValue9 rfl rfl rfl rfl rfl rfl fun v46 => ?_
            obtain ⟨l47, h48, hm⟩ := bindS hm
            refine SJ.append (k := 2) (R := fStr) h48 rfl Try.underlying24 el9 rfl rfl rfl (fun w hw => (hw.row_rd (k := 0) rfl)) rfl fun v49 => ?_
            refine SJ.q (YldS.yld (y_fldB (o := 0) fld26_0 rfl)) rfl ?_
            refine SJ.rowCells (k := 2) rfl fun hc50 => ?_
            refine SJ.storeL (k := 3) (off := 0) (us := [v49]) rfl rfl rfl hc50.1 Try.sizeOf24 rfl (by simp [hc50.2]) ?_
            refine SJ.nil ?_
            refine PJ.block_normal ?_
            exact PJ.joined (l47, v49) [2, 3, 4, 5] hm ⟨rfl, rfl, rfl, rfl, rfl, rfl, rfl, trivial⟩ ⟨by decide, rfl⟩
        · rintro ⟨l17, v18⟩ hm
          subst hk20
          refine WJ.quiet ?_
          refine QJ.step (YldS.yld (y_bin rfl rfl rfl)) rfl ?_
          refine QJ.step (YldS.yld (y_move rfl)) rfl ?_
          refine QJ.done ?_
          exact PJ.round (l17, v18, w64 (x15 + 1)) [0, 1, 2, 3] hm ⟨rfl, rfl, rfl, rfl, rfl, rfl, rfl, trivial⟩ ⟨by decide, rfl⟩
      · replace hm := ifF hm hb16
        refine WJ.exit ?_
        refine PJ.then_exit (PJ.then_exit (PJ.block_exit ?_))
        exact PJ.joined (l13, v14) [0, 1, 2, 3] hm ⟨rfl, rfl, trivial⟩ ⟨by decide, rfl⟩
  · rintro ⟨l9, v10⟩ hm
    subst hk12
    refine WJ.seq ?_
    refine WJ.reg ?_
    refine SJ.q (YldS.yld (y_loadBN (k := 1) (off := 0) (us := [v10]) rfl Try.isAgg26 Try.sizeOf26 rfl rfl)) rfl ?_
    refine SJ.rowCells (k := 0) rfl fun hc51 => ?_
    refine SJ.storeL (k := 3) (off := 0) (us := [v10]) rfl rfl rfl rfl Try.sizeOf26 rfl (by simp only [List.all_cons, hc51.2]; rfl) ?_
    refine SJ.erase 2 ?_
    refine SJ.nil ?_
    refine PJ.next ?_
    refine WJ.ret ?_
    obtain rfl := Option.some.inj hm
    exact PJ.retn_sel (vs := [.agg #[v10]]) Try.results91 ⟨⟨2, g7, 26, [v10], rfl, rfl, .inl ⟨Try.isAgg26, Try.sizeOf26, rfl⟩⟩, trivial⟩ [0] ⟨by decide, rfl⟩ ⟨_, rfl, rfl⟩

set_option maxRecDepth 100000 in
set_option maxHeartbeats 1000000 in
theorem ok_i_exchangePlan {N : Nat} {a1 : Layout} {b4 : Layout} {r : (List Str)} (hm : i_exchangePlan N a1 b4 = some r) (w : World) (v2 : Value) (hr3 : RdS w (cx w).Fz v2 fStr.rp a1.rows) (v5 : Value) (hr6 : RdS w (cx w).Fz v5 fStr.rp b4.rows) :
    Calls Try.prog 44 #[.agg #[v2], .agg #[v5]] w (RetG (cx w) fun u L => ∃ (u1 : Value), (u = u1 ∧ L = [row u1 9 fStr r])) := by
  unfold i_exchangePlan at hm
  refine Calls.enter [.agg #[v2], .agg #[v5]] Try.func44 rfl Try.ntmps44 rfl ?_
  refine WJ.seq ?_
  refine WJ.reg ?_
  refine SJ.box (cs := [v2]) rfl rfl rfl fun g7 => ?_
  refine SJ.box (cs := [v5]) rfl rfl rfl fun g8 => ?_
  refine SJ.q (YldS.yld (y_assign rfl)) rfl ?_
  refine SJ.nil ?_
  refine PJ.next ?_
  refine WJ.seq ?_
  refine WJ.reg ?_
  refine SJ.buildSlice (R := fStr) (os := []) [] Try.runUnderlying24 Try.sizeOf9 Try.zeroValue9 rfl rfl rfl rfl rfl rfl fun v9 => ?_
  refine SJ.q (YldS.yld (y_assign rfl)) rfl ?_
  refine SJ.nil ?_
  refine PJ.next ?_
  obtain ⟨kj12, hk13, hm⟩ := withK_open hm
  refine WJ.join (X := (List Str) × Value) (fun (x : (List Str) × Value) => kj12 x.1 = some r) (fun (x : (List Str) × Value) => [(5, x.2)]) (fun (x : (List Str) × Value) => [row x.2 9 fStr x.1]) ?_ ?_
  · clear hk13
    refine WJ.seq ?_
    refine WJ.quiet ?_
    refine QJ.step (YldS.yld (y_fldB (o := 0) fld26_0 rfl)) rfl ?_
    refine QJ.step (YldS.yld (y_loadB (k := 1) (off := 0) (v := v5) rfl Try.isAgg24 rfl rfl)) rfl ?_
    refine QJ.step (YldS.yld (y_lenS Try.runUnderlying24 hr6 rfl)) rfl ?_
    refine QJ.step (YldS.yld (y_move rfl)) rfl ?_
    refine QJ.done ?_
    refine PJ.next ?_
    refine WJ.block ?_
    refine WJ.fovF hr3 ?_
    refine WJ.sel (L' := (fun (x : (List Str) × Value × (List Str) × Value × Int) => [fov (cx w) x.2.1 fStr.rp x.1, row x.2.2.2.1 9 fStr x.2.2.1, box g8 26 [v5], box g7 26 [x.2.1]]) (a1.rows, v2, [], v9, 0)) [0, 1, 2, 3] ⟨by decide, rfl⟩ ?_
    refine WJ.sub (m' := (fun (x : (List Str) × Value × (List Str) × Value × Int) => [(2, pt g7 0), (3, pt g8 0), (5, x.2.2.2.1), (13, .int .i64 (List.length b4.rows : Int)), (14, .int .i64 x.2.2.2.2)]) (a1.rows, v2, [], v9, 0)) ⟨rfl, rfl, rfl, rfl, rfl, trivial⟩ ?_
    refine WJ.loop (X := (List Str) × Value × (List Str) × Value × Int) (fun N (x : (List Str) × Value × (List Str) × Value × Int) => i_exchangePlan_l1 kj12 b4 N x.1 x.2.2.1 x.2.2.2.2 = some r) (fun (x : (List Str) × Value × (List Str) × Value × Int) => [(2, pt g7 0), (3, pt g8 0), (5, x.2.2.2.1), (13, .int .i64 (List.length b4.rows : Int)), (14, .int .i64 x.2.2.2.2)]) (fun (x : (List Str) × Value × (List Str) × Value × Int) => [fov (cx w) x.2.1 fStr.rp x.1, row x.2.2.2.1 9 fStr x.2.2.1, box g8 26 [v5], box g7 26 [x.2.1]]) ?_ N (a1.rows, v2, [], v9, 0) hm
    · rintro N ⟨l14, v15, l16, v17, x18⟩ hI
      have hm := hI; clear hI
      cases N with
      | zero => cases hm
      | succ N =>
      unfold i_exchangePlan_l1 at hm
      refine WJ.seq ?_
      refine WJ.quiet ?_
      refine QJ.step (YldS.yld (y_bin rfl rfl rfl)) rfl ?_
      refine QJ.done ?_
      refine PJ.next ?_
      refine WJ.seq ?_
      refine WJ.cond (t := decide (x18 < (List.length b4.rows : Int))) rfl (fun hb19 => ?_) (fun hb19 => ?_)
      · replace hm := ifT hm hb19
        refine WJ.skip ?_
        refine PJ.next ?_
        obtain ⟨kj24, hk25, hm⟩ := withK_open hm
        refine WJ.join (X := (List Str) × Value × (List Str) × Value) (fun (x : (List Str) × Value × (List Str) × Value) => kj24 x.1 x.2.2.1 = some r) (fun (x : (List Str) × Value × (List Str) × Value) => [(2, pt g7 0), (3, pt g8 0), (5, x.2.2.2), (13, .int .i64 (List.length b4.rows : Int)), (14, .int .i64 x18)]) (fun (x : (List Str) × Value × (List Str) × Value) => [fov (cx w) x.2.1 fStr.rp x.1, row x.2.2.2 9 fStr x.2.2.1, box g8 26 [v5], box g7 26 [x.2.1]]) ?_ ?_
        · clear hk25
          refine WJ.block ?_
          refine WJ.seq ?_
          refine WJ.quiet ?_
          refine QJ.step (YldS.yld (y_move rfl)) rfl ?_
          refine QJ.step (YldS.yld (y_assign rfl)) rfl ?_
          refine QJ.done ?_
          refine PJ.next ?_
          refine WJ.seq ?_
          refine WJ.quiet ?_
          refine QJ.step (YldS.yld (y_fldB (o := 0) fld26_0 rfl)) rfl ?_
          refine QJ.step (YldS.yld (y_loadB (k := 2) (off := 0) (v := v5) rfl Try.isAgg24 rfl rfl)) rfl ?_
          refine QJ.step (YldS.yld (y_move rfl)) rfl ?_
          obtain ⟨e26, h27, hm⟩ := bindS hm
          obtain ⟨ad28, _, rfl, ha29, hy30⟩ := hr6.elem h27
          refine QJ.step (YldS.yld (hy30 Try.runUnderlying24 Try.sizeOf9 rfl rfl)) rfl ?_
          refine QJ.step (YldS.yld (y_load1 (v := str e26) Try.isAgg9 ha29 St.frozenC rfl)) rfl ?_
          refine QJ.step (YldS.yld (y_lenStr Try.runUnderlying9 rfl)) rfl ?_
          refine QJ.step (YldS.yld (y_move rfl)) rfl ?_
          refine QJ.done ?_
          refine PJ.next ?_
          refine WJ.block ?_
          refine WJ.sel (L' := (fun (x : (List Str) × Value × (List Str) × Value × Int) => [fov (cx w) x.2.1 fStr.rp x.1, row x.2.2.2.1 9 fStr x.2.2.1, box g8 26 [v5], box g7 26 [x.2.1]]) (l14, v15, l16, v17, 0)) [0, 1, 2, 3] ⟨by decide, rfl⟩ ?_
          refine WJ.sub (m' := (fun (x : (List Str) × Value × (List Str) × Value × Int) => [(2, pt g7 0), (3, pt g8 0), (5, x.2.2.2.1), (6, .int .i64 x18), (13, .int .i64 (List.length b4.rows : Int)), (14, .int .i64 x18), (22, .int .i64 (List.length e26 : Int)), (23, .int .i64 x.2.2.2.2)]) (l14, v15, l16, v17, 0)) ⟨rfl, rfl, rfl, rfl, rfl, rfl, rfl, rfl, trivial⟩ ?_
          refine WJ.loop (X := (List Str) × Value × (List Str) × Value × Int) (fun N (x : (List Str) × Value × (List Str) × Value × Int) => i_exchangePlan_l2 kj24 b4 x18 e26 N x.1 x.2.2.1 x.2.2.2.2 = some r) (fun (x : (List Str) × Value × (List Str) × Value × Int) => [(2, pt g7 0), (3, pt g8 0), (5, x.2.2.2.1), (6, .int .i64 x18), (13, .int .i64 (List.length b4.rows : Int)), (14, .int .i64 x18), (22, .int .i64 (List.length e26 : Int)), (23, .int .i64 x.2.2.2.2)]) (fun (x : (List Str) × Value × (List Str) × Value × Int) => [fov (cx w) x.2.1 fStr.rp x.1, row x.2.2.2.1 9 fStr x.2.2.1, box g8 26 [v5], box g7 26 [x.2.1]]) ?_ N (l14, v15, l16, v17, 0) hm
          · rintro N ⟨l31, v32, l33, v34, x35⟩ hI
            have hm := hI; clear hI
            cases N with
            | zero => cases hm
            | succ N =>
            unfold i_exchangePlan_l2 at hm
            refine WJ.seq ?_
            refine WJ.quiet ?_
            refine QJ.step (YldS.yld (y_bin rfl rfl rfl)) rfl ?_
            refine QJ.done ?_
            refine PJ.next ?_
            refine WJ.seq ?_
            refine WJ.cond (t := decide (x35 < (List.length e26 : Int))) rfl (fun hb36 => ?_) (fun hb36 => ?_)
            · replace hm := ifT hm hb36
              refine WJ.skip ?_
              refine PJ.next ?_
              obtain ⟨kj41, hk42, hm⟩ := withK_open hm
              refine WJ.join (X := (List Str) × Value × (List Str) × Value) (fun (x : (List Str) × Value × (List Str) × Value) => kj41 x.1 x.2.2.1 = some r) (fun (x : (List Str) × Value × (List Str) × Value) => [(2, pt g7 0), (3, pt g8 0), (5, x.2.2.2), (6, .int .i64 x18), (13, .int .i64 (List.length b4.rows : Int)), (14, .int .i64 x18), (22, .int .i64 (List.length e26 : Int)), (23, .int .i64 x35)]) (fun (x : (List Str) × Value × (List Str) × Value) => [fov (cx w) x.2.1 fStr.rp x.1, row x.2.2.2 9 fStr x.2.2.1, box g8 26 [v5], box g7 26 [x.2.1]]) ?_ ?_
              · clear hk42
                refine WJ.block ?_
                refine WJ.seq ?_
                refine WJ.quiet ?_
                refine QJ.step (YldS.yld (y_move rfl)) rfl ?_
                refine QJ.step (YldS.yld (y_assign rfl)) rfl ?_
                refine QJ.done ?_
                refine PJ.next ?_
                refine WJ.seq ?_
                refine WJ.quiet_draw follows (by kernel_rfl) ?_
                refine QJ.step (YldS.yld (y_fldB (o := 0) fld26_0 rfl)) rfl ?_
                refine QJ.step (YldS.yld (y_loadB (k := 3) (off := 0) (v := v32) rfl Try.isAgg24 rfl rfl)) rfl ?_
                refine QJ.step (YldS.yld (y_move rfl)) rfl ?_
                obtain ⟨e43, h44, hm⟩ := bindS hm
                refine QJ.step (YldS.yld (y_ixRowF (k := 0) (R := fStr) rfl Try.runUnderlying24 Try.sizeOf9 rfl rfl h44)) rfl ?_
                refine QJ.step (YldS.yld (y_loadRF (k := 0) (i := (Int.toNat x18)) (off := 0) (u := str e43) rfl Try.isAgg9 rfl (idx_get h44) rfl)) rfl ?_
                refine QJ.step (YldS.yld (y_move rfl)) rfl ?_
                obtain ⟨c45, h46, hm⟩ := bindS hm
                refine QJ.step (YldS.yld (y_idxStr Try.runUnderlying9 rfl rfl h46)) rfl ?_
                refine QJ.step (YldS.yld (y_fldB (o := 0) fld26_0 rfl)) rfl ?_
                refine QJ.step (YldS.yld (y_loadB (k := 2) (off := 0) (v := v5) rfl Try.isAgg24 rfl rfl)) rfl ?_
                refine QJ.step (YldS.yld (y_move rfl)) rfl ?_
                obtain ⟨e47, h48, hm⟩ := bindS hm
                obtain ⟨ad49, _, rfl, ha50, hy51⟩ := hr6.elem h48
                refine QJ.step (YldS.yld (hy51 Try.runUnderlying24 Try.sizeOf9 rfl rfl)) rfl ?_
                refine QJ.step (YldS.yld (y_load1 (v := str e47) Try.isAgg9 ha50 St.frozenC rfl)) rfl ?_
                refine QJ.step (YldS.yld (y_move rfl)) rfl ?_
                obtain ⟨c52, h53, hm⟩ := bindS hm
                refine QJ.step (YldS.yld (y_idxStr Try.runUnderlying9 rfl rfl h53)) rfl ?_
                refine QJ.step (YldS.yld (y_assign rfl)) rfl ?_
                refine QJ.step (YldS.yld (y_assign rfl)) rfl ?_
                refine QJ.done ?_
                refine PJ.next ?_
                refine WJ.seq ?_
                refine WJ.quiet ?_
                refine QJ.step (YldS.yld (y_move rfl)) rfl ?_
                refine QJ.step (YldS.yld (y_move rfl)) rfl ?_
                refine QJ.step (YldS.yld (y_bin8 c45 c52 rfl rfl rfl)) rfl ?_
                refine QJ.done ?_
                refine PJ.next ?_
                refine WJ.cond (t := (c45 != c52)) rfl (fun hb54 => ?_) (fun hb54 => ?_)
                · replace hm := ifT hm hb54
                  refine WJ.seq ?_
                  refine WJ.reg ?_
                  refine SJ.q (YldS.yld (y_move rfl)) rfl ?_
                  refine SJ.q (YldS.yld (y_move rfl)) rfl ?_
                  refine SJ.q (YldS.yld (y_move rfl)) rfl ?_
                  refine SJ.buildSlice (R := fByte) (os := [.tmp 44, .tmp 45]) [c45, c52] Try.runUnderlying22 Try.sizeOf5 Try.zeroValue5 rfl rfl rfl rfl rfl rfl fun v55 => ?_
                  refine SJ.q (YldS.yld (y_b2s Try.underlying22 Try.underlying9 Try.underlying5 (fun w hw => ⟨_, (hw.row_rd (k := 0) rfl)⟩) rfl)) rfl ?_
                  refine SJ.buildSlice (R := fStr) (os := [.tmp 47]) [[c45, c52]] Try.runUnderlying24 Try.sizeOf9 Try.zeroValue9 rfl rfl rfl rfl rfl rfl fun v56 => ?_
                  obtain ⟨l57, h58, hm⟩ := bindS hm
                  refine SJ.append (k := 3) (R := fStr) h58 rfl Try.underlying24 el9 rfl rfl rfl (fun w hw => (hw.row_rd (k := 0) rfl)) rfl fun v59 => ?_
                  refine SJ.q (YldS.yld (y_assign rfl)) rfl ?_
                  refine SJ.nil ?_
                  refine PJ.next ?_
                  refine WJ.reg ?_
                  refine SJ.q (YldS.yld (y_loadBN (k := 5) (off := 0) (us := [v32]) rfl Try.isAgg26 Try.sizeOf26 rfl rfl)) rfl ?_
                  refine SJ.q (YldS.yld (y_move rfl)) rfl ?_
                  refine SJ.q (YldS.yld (y_move rfl)) rfl ?_
                  obtain ⟨r60, h61, hm⟩ := bindS hm
                  refine SJ.call Try.call91 rfl (fun w hw => ok_i_Layout_exchanged h61 w _ (hw.rowF_rd (k := 2) rfl)) rfl ?_
                  rintro _ _ ⟨v62, rfl, rfl⟩
                  refine SJ.rowCells (k := 0) rfl fun hc63 => ?_
                  refine SJ.storeL (k := 6) (off := 0) (us := [v62]) rfl rfl rfl rfl Try.sizeOf26 rfl (by simp only [List.all_cons, hc63.2]; rfl) ?_
                  refine SJ.erase 3 ?_
                  refine SJ.nil ?_
                  refine PJ.block_normal ?_
                  refine PJ.rowF 0 rfl ?_
                  exact PJ.joined (r60.rows, v62, l57, v59) [0, 3, 4, 5] hm ⟨rfl, rfl, rfl, rfl, rfl, rfl, rfl, rfl, trivial⟩ ⟨by decide, rfl⟩
                · replace hm := ifF hm hb54
                  refine WJ.skip ?_
                  refine PJ.block_normal ?_
                  exact PJ.joined (l31, v32, l33, v34) [0, 1, 2, 3] hm ⟨rfl, rfl, rfl, rfl, rfl, rfl, rfl, rfl, trivial⟩ ⟨by decide, rfl⟩
              · rintro ⟨l37, v38, l39, v40⟩ hm
                subst hk42
                refine WJ.quiet ?_
                refine QJ.step (YldS.yld (y_bin rfl rfl rfl)) rfl ?_
                refine QJ.step (YldS.yld (y_move rfl)) rfl ?_
                refine QJ.done ?_
                exact PJ.round (l37, v38, l39, v40, w64 (x35 + 1)) [0, 1, 2, 3] hm ⟨rfl, rfl, rfl, rfl, rfl, rfl, rfl, rfl, trivial⟩ ⟨by decide, rfl⟩
            · replace hm := ifF hm hb36
              refine WJ.exit ?_
              refine PJ.then_exit (PJ.then_exit (PJ.block_exit (PJ.block_normal ?_)))
              exact PJ.joined (l31, v32, l33, v34) [0, 1, 2, 3] hm ⟨rfl, rfl, rfl, rfl, rfl, trivial⟩ ⟨by decide, rfl⟩
        · rintro ⟨l20, v21, l22, v23⟩ hm
          subst hk25
          refine WJ.quiet ?_
          refine QJ.step (YldS.yld (y_bin rfl rfl rfl)) rfl ?_
          refine QJ.step (YldS.yld (y_move rfl)) rfl ?_
          refine QJ.done ?_
          exact PJ.round (l20, v21, l22, v23, w64 (x18 + 1)) [0, 1, 2, 3] hm ⟨rfl, rfl, rfl, rfl, rfl, trivial⟩ ⟨by decide, rfl⟩
      · replace hm := ifF hm hb19
        refine WJ.exit ?_
        refine PJ.then_exit (PJ.then_exit (PJ.block_exit ?_))
        exact PJ.joined (l16, v17) [1] hm ⟨rfl, trivial⟩ ⟨by decide, rfl⟩
  · rintro ⟨l10, v11⟩ hm
    subst hk13
    refine WJ.seq ?_
    refine WJ.quiet ?_
    refine QJ.step (YldS.yld (y_move rfl)) rfl ?_
    refine QJ.step (YldS.yld (y_assign rfl)) rfl ?_
    refine QJ.done ?_
    refine PJ.next ?_
    refine WJ.ret ?_
    obtain rfl := Option.some.inj hm
    refine PJ.sel (L' := [row v11 9 fStr l10]) [0] ⟨by decide, rfl⟩ ?_
    exact PJ.retn (vs := [v11]) Try.results44 ⟨rfl, trivial⟩ ⟨_, rfl, rfl⟩

set_option maxRecDepth 100000 in
set_option maxHeartbeats 1000000 in
theorem ok_i_ExchangePlan {N : Nat} {a1 : Layout} {b4 : Layout} {r : (List Str) × Int} (hm : i_ExchangePlan N a1 b4 = some r) (w : World) (v2 : Value) (hr3 : RdS w (cx w).Fz v2 fStr.rp a1.rows) (v5 : Value) (hr6 : RdS w (cx w).Fz v5 fStr.rp b4.rows) :
    Calls Try.prog 8 #[.agg #[v2], .agg #[v5]] w (RetG (cx w) fun u L => ∃ (u1 : Value), (u = tup [u1, .int .i64 r.2] ∧ L = [row u1 9 fStr r.1])) := by
  unfold i_ExchangePlan at hm
  refine Calls.enter [.agg #[v2], .agg #[v5]] Try.func8 rfl Try.ntmps8 rfl ?_
  refine WJ.seq ?_
  refine WJ.reg ?_
  refine SJ.box (cs := [v2]) rfl rfl rfl fun g7 => ?_
  refine SJ.box (cs := [v5]) rfl rfl rfl fun g8 => ?_
  refine SJ.q (YldS.yld (y_assign rfl)) rfl ?_
  refine SJ.q (YldS.yld (y_assign rfl)) rfl ?_
  refine SJ.nil ?_
  refine PJ.next ?_
  refine WJ.seq ?_
  refine WJ.seq ?_
  refine WJ.quiet ?_
  refine QJ.step (YldS.yld (y_loadBN (k := 1) (off := 0) (us := [v2]) rfl Try.isAgg26 Try.sizeOf26 rfl rfl)) rfl ?_
  refine QJ.step (YldS.yld (y_loadBN (k := 0) (off := 0) (us := [v5]) rfl Try.isAgg26 Try.sizeOf26 rfl rfl)) rfl ?_
  obtain ⟨r9, h10, hm⟩ := bindS hm
  refine QJ.step (y_call Try.call43 rfl (RetG.quiet fun w hw => ok_i_compareCode h10 w _ (hr3.st hw) _ (hr6.st hw))) rfl ?_
  refine QJ.step (YldS.yld (y_assign rfl)) rfl ?_
  refine QJ.done ?_
  refine PJ.next ?_
  refine WJ.seq ?_
  refine WJ.quiet ?_
  refine QJ.step (YldS.yld (y_move rfl)) rfl ?_
  refine QJ.step (YldS.yld (y_bin rfl rfl rfl)) rfl ?_
  refine QJ.done ?_
  refine PJ.next ?_
  refine WJ.cond (t := (r9 != 0)) rfl (fun hb11 => ?_) (fun hb11 => ?_)
  · replace hm := ifT hm hb11
    refine WJ.seq ?_
    refine WJ.quiet ?_
    refine QJ.step (YldS.yld (y_move rfl)) rfl ?_
    refine QJ.step (YldS.yld (y_assign rfl)) rfl ?_
    refine QJ.step (YldS.yld (y_assign rfl)) rfl ?_
    refine QJ.done ?_
    refine PJ.next ?_
    refine WJ.ret ?_
    refine PJ.then_ret ?_
    refine PJ.nil_row 9 fStr ?_
    obtain rfl := Option.some.inj hm
    refine PJ.sel (L' := [row (.slice none 0 0) 9 fStr []]) [0] ⟨by decide, rfl⟩ ?_
    exact PJ.retn (vs := [(.slice none 0 0), .int .i64 r9]) Try.results8 ⟨rfl, rfl, trivial⟩ ⟨_, rfl, rfl⟩
  · replace hm := ifF hm hb11
    refine WJ.skip ?_
    refine PJ.next ?_
    refine WJ.seq ?_
    refine WJ.reg ?_
    refine SJ.q (YldS.yld (y_loadBN (k := 1) (off := 0) (us := [v2]) rfl Try.isAgg26 Try.sizeOf26 rfl rfl)) rfl ?_
    refine SJ.q (YldS.yld (y_loadBN (k := 0) (off := 0) (us := [v5]) rfl Try.isAgg26 Try.sizeOf26 rfl rfl)) rfl ?_
    obtain ⟨r12, h13, hm⟩ := bindS hm
    refine SJ.call Try.call44 rfl (fun w hw => ok_i_exchangePlan h13 w _ (hr3.st hw) _ (hr6.st hw)) rfl ?_
    rintro v14 _ ⟨_, rfl, rfl⟩
    refine SJ.q (YldS.yld (y_assign rfl)) rfl ?_
    refine SJ.q (YldS.yld (y_assign rfl)) rfl ?_
    refine SJ.nil ?_
    refine PJ.next ?_
    refine WJ.ret ?_
    obtain rfl := Option.some.inj hm
    refine PJ.sel (L' := [row v14 9 fStr r12]) [0] ⟨by decide, rfl⟩ ?_
    exact PJ.retn (vs := [v14, .int .i64 0]) Try.results8 ⟨rfl, rfl, trivial⟩ ⟨_, rfl, rfl⟩

set_option maxRecDepth 100000 in
set_option maxHeartbeats 1000000 in
theorem ok_s_l02Letter {s1 : Str} {r : Bool} (hm : s_l02Letter s1 = some r) (w : World)  :
    Calls Try.prog 54 #[str s1] w (Ret (cx w) (.bool r)) := by
  unfold s_l02Letter at hm
  refine Calls.enter [str s1] Try.func54 rfl Try.ntmps54 rfl ?_
  refine WJ.seq ?_
  refine WJ.quiet ?_
  refine QJ.step (YldS.yld (y_assign rfl)) rfl ?_
  refine QJ.done ?_
  refine PJ.next ?_
  refine WJ.seq ?_
  refine WJ.quiet ?_
  refine QJ.step (YldS.yld (y_move rfl)) rfl ?_
  refine QJ.step (YldS.yld (y_lenStr Try.runUnderlying9 rfl)) rfl ?_
  refine QJ.step (YldS.yld (y_bin rfl rfl rfl)) rfl ?_
  refine QJ.step (YldS.yld (y_move rfl)) rfl ?_
  obtain ⟨t2, h3, hm⟩ := bindS hm
  refine QJ.cut 4 [(0, str s1), (10, .bool t2)] ?_ ?_
  · rcases Bool.eq_false_or_eq_true ((List.length s1 : Int) == 1) with hb4 | hb4
    · replace h3 := andT h3 hb4
      refine QJ.on rfl rfl (cB hb4) (YldS.yld (y_move rfl)) rfl ?_
      obtain ⟨c5, h6, h3⟩ := bindS h3
      refine QJ.on rfl rfl (cB hb4) (YldS.yld (y_idxStr Try.runUnderlying9 rfl rfl h6)) rfl ?_
      refine QJ.on rfl rfl (cB hb4) (YldS.yld (y_bin8 c5 (32 : UInt8) rfl rfl rfl)) rfl ?_
      refine QJ.step (YldS.yld (y_pick_t (cB hb4) rfl)) rfl ?_
      obtain rfl := Option.some.inj h3
      exact QJ.cut_end ⟨rfl, rfl, trivial⟩
    · obtain rfl := andF h3 hb4
      refine QJ.off rfl rfl (cB hb4) rfl rfl ?_
      refine QJ.off rfl rfl (cB hb4) rfl rfl ?_
      refine QJ.off rfl rfl (cB hb4) rfl rfl ?_
      refine QJ.step (YldS.yld (y_pick_f (cB hb4) rfl)) rfl ?_
      exact QJ.cut_end ⟨rfl, rfl, trivial⟩
  refine QJ.step (YldS.yld (y_move rfl)) rfl ?_
  obtain ⟨t7, h8, hm⟩ := bindS hm
  refine QJ.cut 4 [(15, .bool t7)] ?_ ?_
  · rcases Bool.eq_false_or_eq_true t2 with hb9 | hb9
    · replace h8 := andT h8 hb9
      refine QJ.on rfl rfl (cB hb9) (YldS.yld (y_move rfl)) rfl ?_
      obtain ⟨c10, h11, h8⟩ := bindS h8
      refine QJ.on rfl rfl (cB hb9) (YldS.yld (y_idxStr Try.runUnderlying9 rfl rfl h11)) rfl ?_
      refine QJ.on rfl rfl (cB hb9) (YldS.yld (y_bin8 c10 (127 : UInt8) rfl rfl rfl)) rfl ?_
      refine QJ.step (YldS.yld (y_pick_t (cB hb9) rfl)) rfl ?_
      obtain rfl := Option.some.inj h8
      exact QJ.cut_end ⟨rfl, trivial⟩
    · obtain rfl := andF h8 hb9
      refine QJ.off rfl rfl (cB hb9) rfl rfl ?_
      refine QJ.off rfl rfl (cB hb9) rfl rfl ?_
      refine QJ.off rfl rfl (cB hb9) rfl rfl ?_
      refine QJ.step (YldS.yld (y_pick_f (cB hb9) rfl)) rfl ?_
      exact QJ.cut_end ⟨rfl, trivial⟩
  refine QJ.step (YldS.yld (y_assign rfl)) rfl ?_
  refine QJ.done ?_
  refine PJ.next ?_
  refine WJ.ret ?_
  obtain rfl := Option.some.inj hm
  refine PJ.sel (L' := []) [] ⟨List.nodup_nil, rfl⟩ ?_
  exact PJ.retn (vs := [.bool t7]) Try.results54 ⟨rfl, trivial⟩ ⟨rfl, rfl⟩

set_option maxRecDepth 100000 in
set_option maxHeartbeats 1000000 in
theorem ok_s_l00In {n1 : Int} {low2 : Int} {high3 : Int} {r : Bool} (hm : s_l00In n1 low2 high3 = some r) (w : World)  :
    Calls Try.prog 93 #[.int .i64 n1, .int .i64 low2, .int .i64 high3] w (Ret (cx w) (.bool r)) := by
  unfold s_l00In at hm
  refine Calls.enter [.int .i64 n1, .int .i64 low2, .int .i64 high3] Try.func93 rfl Try.ntmps93 rfl ?_
  refine WJ.seq ?_
  refine WJ.quiet ?_
  refine QJ.step (YldS.yld (y_assign rfl)) rfl ?_
  refine QJ.done ?_
  refine PJ.next ?_
  refine WJ.seq ?_
  refine WJ.quiet ?_
  refine QJ.step (YldS.yld (y_move rfl)) rfl ?_
  refine QJ.step (YldS.yld (y_move rfl)) rfl ?_
  refine QJ.step (YldS.yld (y_bin rfl rfl rfl)) rfl ?_
  refine QJ.step (YldS.yld (y_move rfl)) rfl ?_
  obtain ⟨t4, h5, hm⟩ := bindS hm
  refine QJ.cut 4 [(14, .bool t4)] ?_ ?_
  · rcases Bool.eq_false_or_eq_true (decide (n1 ≥ low2)) with hb6 | hb6
    · replace h5 := andT h5 hb6
      refine QJ.on rfl rfl (cB hb6) (YldS.yld (y_move rfl)) rfl ?_
      refine QJ.on rfl rfl (cB hb6) (YldS.yld (y_move rfl)) rfl ?_
      refine QJ.on rfl rfl (cB hb6) (YldS.yld (y_bin rfl rfl rfl)) rfl ?_
      refine QJ.step (YldS.yld (y_pick_t (cB hb6) rfl)) rfl ?_
      obtain rfl := Option.some.inj h5
      exact QJ.cut_end ⟨rfl, trivial⟩
    · obtain rfl := andF h5 hb6
      refine QJ.off rfl rfl (cB hb6) rfl rfl ?_
      refine QJ.off rfl rfl (cB hb6) rfl rfl ?_
      refine QJ.off rfl rfl (cB hb6) rfl rfl ?_
      refine QJ.step (YldS.yld (y_pick_f (cB hb6) rfl)) rfl ?_
      exact QJ.cut_end ⟨rfl, trivial⟩
  refine QJ.step (YldS.yld (y_assign rfl)) rfl ?_
  refine QJ.done ?_
  refine PJ.next ?_
  refine WJ.ret ?_
  obtain rfl := Option.some.inj hm
  refine PJ.sel (L' := []) [] ⟨List.nodup_nil, rfl⟩ ?_
  exact PJ.retn (vs := [.bool t4]) Try.results93 ⟨rfl, trivial⟩ ⟨rfl, rfl⟩

set_option maxRecDepth 100000 in
set_option maxHeartbeats 1000000 in
theorem ok_s_l06Row {N : Nat} {s1 : Str} {r : Bool} (hm : s_l06Row N s1 = some r) (w : World)  :
    Calls Try.prog 92 #[str s1] w (Ret (cx w) (.bool r)) := by
  unfold s_l06Row at hm
  refine Calls.enter [str s1] Try.func92 rfl Try.ntmps92 rfl ?_
  refine WJ.seq ?_
  refine WJ.quiet ?_
  refine QJ.step (YldS.yld (y_assign rfl)) rfl ?_
  refine QJ.done ?_
  refine PJ.next ?_
  obtain ⟨kj2, hk3, hm⟩ := withK_open hm
  refine WJ.join (X := Unit) (fun (_ : Unit) => kj2  = some r) (fun (_ : Unit) => [(0, str s1)]) (fun (_ : Unit) => []) ?_ ?_
  · clear hk3
    refine WJ.seq ?_
    refine WJ.quiet ?_
    refine QJ.step (YldS.yld (y_assign rfl)) rfl ?_
    refine QJ.done ?_
    refine PJ.next ?_
    refine WJ.block ?_
    refine WJ.sel (L' := (fun (x : Int) => []) 0) [] ⟨List.nodup_nil, rfl⟩ ?_
    refine WJ.sub (m' := (fun (x : Int) => [(0, str s1), (3, .int .i64 x)]) 0) ⟨rfl, rfl, trivial⟩ ?_
    refine WJ.loop (X := Int) (fun N (x : Int) => s_l06Row_l1 kj2 s1 N x = some r) (fun (x : Int) => [(0, str s1), (3, .int .i64 x)]) (fun (x : Int) => []) ?_ N 0 hm
    · rintro N i4 hI
      have hm := hI; clear hI
      cases N with
      | zero => cases hm
      | succ N =>
      unfold s_l06Row_l1 at hm
      refine WJ.seq ?_
      refine WJ.seq ?_
      refine WJ.quiet ?_
      refine QJ.step (YldS.yld (y_move rfl)) rfl ?_
      refine QJ.step (YldS.yld (y_move rfl)) rfl ?_
      refine QJ.step (YldS.yld (y_lenStr Try.runUnderlying9 rfl)) rfl ?_
      refine QJ.step (YldS.yld (y_bin rfl rfl rfl)) rfl ?_
      refine QJ.done ?_
      refine PJ.next ?_
      refine WJ.cond (t := decide (i4 < (List.length s1 : Int))) rfl (fun hb5 => ?_) (fun hb5 => ?_)
      · replace hm := ifT hm hb5
        refine WJ.skip ?_
        refine PJ.next ?_
        refine WJ.seq ?_
        refine WJ.block ?_
        refine WJ.seq ?_
        refine WJ.quiet ?_
        refine QJ.step (YldS.yld (y_move rfl)) rfl ?_
        refine QJ.step (YldS.yld (y_move rfl)) rfl ?_
        refine QJ.step (YldS.yld (y_move rfl)) rfl ?_
        refine QJ.step (YldS.yld (y_bin rfl rfl rfl)) rfl ?_
        obtain ⟨s6, h7, hm⟩ := bindS hm
        refine QJ.step (YldS.yld (y_subStr (i := some i4) (j := some (w64 (i4 + 1))) h7 Try.runUnderlying9 rfl ⟨_, rfl⟩ ⟨_, rfl⟩)) rfl ?_
        obtain ⟨r8, h9, hm⟩ := bindS hm
        refine QJ.step (y_call Try.call54 rfl (RetG.quiet fun w hw => ok_s_l02Letter h9 w )) rfl ?_
        refine QJ.step (YldS.yld (y_not rfl)) rfl ?_
        refine QJ.step (YldS.yld (y_move rfl)) rfl ?_
        obtain ⟨t10, h11, hm⟩ := bindS hm
        refine QJ.cut 5 [(0, str s1), (3, .int .i64 i4), (22, .bool t10)] ?_ ?_
        · rcases Bool.eq_false_or_eq_true (!r8) with hb12 | hb12
          · obtain rfl := orT h11 hb12
            refine QJ.off rfl rfl (cB hb12) rfl rfl ?_
            refine QJ.off rfl rfl (cB hb12) rfl rfl ?_
            refine QJ.off rfl rfl (cB hb12) rfl rfl ?_
            refine QJ.off rfl rfl (cB hb12) rfl rfl ?_
            refine QJ.step (YldS.yld (y_pick_t (cB hb12) rfl)) rfl ?_
            exact QJ.cut_end ⟨rfl, rfl, rfl, trivial⟩
          · replace h11 := orF h11 hb12
            refine QJ.on rfl rfl (cB hb12) (YldS.yld (y_move rfl)) rfl ?_
            refine QJ.on rfl rfl (cB hb12) (YldS.yld (y_move rfl)) rfl ?_
            obtain ⟨c13, h14, h11⟩ := bindS h11
            refine QJ.on rfl rfl (cB hb12) (YldS.yld (y_idxStr Try.runUnderlying9 rfl rfl h14)) rfl ?_
            refine QJ.on rfl rfl (cB hb12) (YldS.yld (y_bin8 c13 (47 : UInt8) rfl rfl rfl)) rfl ?_
            refine QJ.step (YldS.yld (y_pick_f (cB hb12) rfl)) rfl ?_
            obtain rfl := Option.some.inj h11
            exact QJ.cut_end ⟨rfl, rfl, rfl, trivial⟩
        refine QJ.done ?_
        refine PJ.next ?_
        refine WJ.cond (t := t10) rfl (fun hb15 => ?_) (fun hb15 => ?_)
        · replace hm := ifT hm hb15
          refine WJ.seq ?_
          refine WJ.quiet ?_
          refine QJ.step (YldS.yld (y_assign rfl)) rfl ?_
          refine QJ.done ?_
          refine PJ.next ?_
          refine WJ.ret ?_
          refine PJ.block_ret (PJ.then_ret (PJ.then_ret (PJ.block_ret (PJ.then_ret ?_))))
          obtain rfl := Option.some.inj hm
          refine PJ.sel (L' := []) [] ⟨List.nodup_nil, rfl⟩ ?_
          exact PJ.retn (vs := [.bool false]) Try.results92 ⟨rfl, trivial⟩ ⟨rfl, rfl⟩
        · replace hm := ifF hm hb15
          refine WJ.skip ?_
          refine PJ.block_normal (PJ.next ?_)
          refine WJ.quiet ?_
          refine QJ.step (YldS.yld (y_move rfl)) rfl ?_
          refine QJ.step (YldS.yld (y_bin rfl rfl rfl)) rfl ?_
          refine QJ.step (YldS.yld (y_assign rfl)) rfl ?_
          refine QJ.done ?_
          exact PJ.round (w64 (i4 + 1)) [] hm ⟨rfl, rfl, trivial⟩ ⟨List.nodup_nil, rfl⟩
      · replace hm := ifF hm hb5
        refine WJ.exit ?_
        refine PJ.then_exit (PJ.then_exit (PJ.block_exit ?_))
        exact PJ.joined () [] hm ⟨rfl, trivial⟩ ⟨List.nodup_nil, rfl⟩
  · rintro _ hm
    subst hk3
    refine WJ.seq ?_
    refine WJ.quiet ?_
    refine QJ.step (YldS.yld (y_move rfl)) rfl ?_
    refine QJ.step (YldS.yld (y_lenStr Try.runUnderlying9 rfl)) rfl ?_
    obtain ⟨r16, h17, hm⟩ := bindS hm
    refine QJ.step (y_call Try.call93 rfl (RetG.quiet fun w hw => ok_s_l00In h17 w )) rfl ?_
    refine QJ.step (YldS.yld (y_assign rfl)) rfl ?_
    refine QJ.done ?_
    refine PJ.next ?_
    refine WJ.ret ?_
    obtain rfl := Option.some.inj hm
    refine PJ.sel (L' := []) [] ⟨List.nodup_nil, rfl⟩ ?_
    exact PJ.retn (vs := [.bool r16]) Try.results92 ⟨rfl, trivial⟩ ⟨rfl, rfl⟩

set_option maxRecDepth 100000 in
set_option maxHeartbeats 1000000 in
theorem ok_s_l06At {N : Nat} {rows1 : List Str} {letter4 : UInt8} {r : Int × Int} (hm : s_l06At N rows1 letter4 = some r) (w : World) (v2 : Value) (hr3 : RdS w (cx w).Fz v2 fStr.rp rows1) :
    Calls Try.prog 51 #[v2, .int .u8 (UInt8.toNat letter4 : Int)] w (Ret (cx w) (tup [.int .i64 r.1, .int .i64 r.2])) := by
  unfold s_l06At at hm
  refine Calls.enter [v2, .int .u8 (UInt8.toNat letter4 : Int)] Try.func51 rfl Try.ntmps51 rfl ?_
  refine WJ.seq ?_
  refine WJ.quiet ?_
  refine QJ.step (YldS.yld (y_assign rfl)) rfl ?_
  refine QJ.step (YldS.yld (y_assign rfl)) rfl ?_
  refine QJ.done ?_
  refine PJ.next ?_
  obtain ⟨kj5, hk6, hm⟩ := withK_open hm
  refine WJ.join (X := Unit) (fun (_ : Unit) => kj5  = some r) (fun (_ : Unit) => []) (fun (_ : Unit) => []) ?_ ?_
  · clear hk6
    refine WJ.seq ?_
    refine WJ.quiet ?_
    refine QJ.step (YldS.yld (y_assign rfl)) rfl ?_
    refine QJ.done ?_
    refine PJ.next ?_
    refine WJ.block ?_
    refine WJ.sel (L' := (fun (x : Int) => []) 0) [] ⟨List.nodup_nil, rfl⟩ ?_
    refine WJ.sub (m' := (fun (x : Int) => [(0, v2), (1, .int .u8 (UInt8.toNat letter4 : Int)), (6, .int .i64 x)]) 0) ⟨rfl, rfl, rfl, trivial⟩ ?_
    refine WJ.loop (X := Int) (fun N (x : Int) => s_l06At_l1 kj5 rows1 letter4 N x = some r) (fun (x : Int) => [(0, v2), (1, .int .u8 (UInt8.toNat letter4 : Int)), (6, .int .i64 x)]) (fun (x : Int) => []) ?_ N 0 hm
    · rintro N r7 hI
      have hm := hI; clear hI
      cases N with
      | zero => cases hm
      | succ N =>
      unfold s_l06At_l1 at hm
      refine WJ.seq ?_
      refine WJ.seq ?_
      refine WJ.quiet ?_
      refine QJ.step (YldS.yld (y_move rfl)) rfl ?_
      refine QJ.step (YldS.yld (y_move rfl)) rfl ?_
      refine QJ.step (YldS.yld (y_lenS Try.runUnderlying24 hr3 rfl)) rfl ?_
      refine QJ.step (YldS.yld (y_bin rfl rfl rfl)) rfl ?_
      refine QJ.done ?_
      refine PJ.next ?_
      refine WJ.cond (t := decide (r7 < (List.length rows1 : Int))) rfl (fun hb8 => ?_) (fun hb8 => ?_)
      · replace hm := ifT hm hb8
        refine WJ.skip ?_
        refine PJ.next ?_
        obtain ⟨kj9, hk10, hm⟩ := withK_open hm
        refine WJ.join (X := Unit) (fun (_ : Unit) => kj9  = some r) (fun (_ : Unit) => [(0, v2), (1, .int .u8 (UInt8.toNat letter4 : Int)), (6, .int .i64 r7)]) (fun (_ : Unit) => []) ?_ ?_
        · clear hk10
          refine WJ.block ?_
          refine WJ.seq ?_
          refine WJ.quiet ?_
          refine QJ.step (YldS.yld (y_assign rfl)) rfl ?_
          refine QJ.done ?_
          refine PJ.next ?_
          refine WJ.block ?_
          refine WJ.sel (L' := (fun (x : Int) => []) 0) [] ⟨List.nodup_nil, rfl⟩ ?_
          refine WJ.sub (m' := (fun (x : Int) => [(0, v2), (1, .int .u8 (UInt8.toNat letter4 : Int)), (6, .int .i64 r7), (7, .int .i64 x)]) 0) ⟨rfl, rfl, rfl, rfl, trivial⟩ ?_
          refine WJ.loop (X := Int) (fun N (x : Int) => s_l06At_l2 kj9 rows1 letter4 r7 N x = some r) (fun (x : Int) => [(0, v2), (1, .int .u8 (UInt8.toNat letter4 : Int)), (6, .int .i64 r7), (7, .int .i64 x)]) (fun (x : Int) => []) ?_ N 0 hm
          · rintro N c11 hI
            have hm := hI; clear hI
            cases N with
            | zero => cases hm
            | succ N =>
            unfold s_l06At_l2 at hm
            refine WJ.seq ?_
            refine WJ.seq ?_
            refine WJ.quiet ?_
            refine QJ.step (YldS.yld (y_move rfl)) rfl ?_
            refine QJ.step (YldS.yld (y_move rfl)) rfl ?_
            refine QJ.step (YldS.yld (y_move rfl)) rfl ?_
            obtain ⟨e12, h13, hm⟩ := bindS hm
            obtain ⟨ad14, _, rfl, ha15, hy16⟩ := hr3.elem h13
            refine QJ.step (YldS.yld (hy16 Try.runUnderlying24 Try.sizeOf9 rfl rfl)) rfl ?_
            refine QJ.step (YldS.yld (y_load1 (v := str e12) Try.isAgg9 ha15 St.frozenC rfl)) rfl ?_
            refine QJ.step (YldS.yld (y_lenStr Try.runUnderlying9 rfl)) rfl ?_
            refine QJ.step (YldS.yld (y_bin rfl rfl rfl)) rfl ?_
            refine QJ.done ?_
            refine PJ.next ?_
            refine WJ.cond (t := decide (c11 < (List.length e12 : Int))) rfl (fun hb17 => ?_) (fun hb17 => ?_)
            · replace hm := ifT hm hb17
              refine WJ.skip ?_
              refine PJ.next ?_
              refine WJ.seq ?_
              refine WJ.block ?_
              refine WJ.seq ?_
              refine WJ.quiet ?_
              refine QJ.step (YldS.yld (y_move rfl)) rfl ?_
              refine QJ.step (YldS.yld (y_move rfl)) rfl ?_
              obtain ⟨e18, h19, hm⟩ := bindS hm
              obtain ⟨ad20, _, rfl, ha21, hy22⟩ := hr3.elem h19
              refine QJ.step (YldS.yld (hy22 Try.runUnderlying24 Try.sizeOf9 rfl rfl)) rfl ?_
              refine QJ.step (YldS.yld (y_load1 (v := str e18) Try.isAgg9 ha21 St.frozenC rfl)) rfl ?_
              refine QJ.step (YldS.yld (y_move rfl)) rfl ?_
              obtain ⟨c23, h24, hm⟩ := bindS hm
              refine QJ.step (YldS.yld (y_idxStr Try.runUnderlying9 rfl rfl h24)) rfl ?_
              refine QJ.step (YldS.yld (y_move rfl)) rfl ?_
              refine QJ.step (YldS.yld (y_bin8 c23 letter4 rfl rfl rfl)) rfl ?_
              refine QJ.done ?_
              refine PJ.next ?_
              refine WJ.cond (t := (c23 == letter4)) rfl (fun hb25 => ?_) (fun hb25 => ?_)
              · replace hm := ifT hm hb25
                refine WJ.seq ?_
                refine WJ.quiet ?_
                refine QJ.step (YldS.yld (y_move rfl)) rfl ?_
                refine QJ.step (YldS.yld (y_move rfl)) rfl ?_
                refine QJ.step (YldS.yld (y_assign rfl)) rfl ?_
                refine QJ.step (YldS.yld (y_assign rfl)) rfl ?_
                refine QJ.done ?_
                refine PJ.next ?_
                refine WJ.ret ?_
                refine PJ.block_ret (PJ.then_ret (PJ.then_ret (PJ.block_ret (PJ.block_ret (PJ.then_ret (PJ.then_ret (PJ.block_ret (PJ.then_ret ?_))))))))
                obtain rfl := Option.some.inj hm
                refine PJ.sel (L' := []) [] ⟨List.nodup_nil, rfl⟩ ?_
                exact PJ.retn (vs := [.int .i64 r7, .int .i64 c11]) Try.results51 ⟨rfl, rfl, trivial⟩ ⟨rfl, rfl⟩
              · replace hm := ifF hm hb25
                refine WJ.skip ?_
                refine PJ.block_normal (PJ.next ?_)
                refine WJ.quiet ?_
                refine QJ.step (YldS.yld (y_move rfl)) rfl ?_
                refine QJ.step (YldS.yld (y_bin rfl rfl rfl)) rfl ?_
                refine QJ.step (YldS.yld (y_assign rfl)) rfl ?_
                refine QJ.done ?_
                exact PJ.round (w64 (c11 + 1)) [] hm ⟨rfl, rfl, rfl, rfl, trivial⟩ ⟨List.nodup_nil, rfl⟩
            · replace hm := ifF hm hb17
              refine WJ.exit ?_
              refine PJ.then_exit (PJ.then_exit (PJ.block_exit (PJ.block_normal ?_)))
              exact PJ.joined () [] hm ⟨rfl, rfl, rfl, trivial⟩ ⟨List.nodup_nil, rfl⟩
        · rintro _ hm
          subst hk10
          refine WJ.quiet ?_
          refine QJ.step (YldS.yld (y_move rfl)) rfl ?_
          refine QJ.step (YldS.yld (y_bin rfl rfl rfl)) rfl ?_
          refine QJ.step (YldS.yld (y_assign rfl)) rfl ?_
          refine QJ.done ?_
          exact PJ.round (w64 (r7 + 1)) [] hm ⟨rfl, rfl, rfl, trivial⟩ ⟨List.nodup_nil, rfl⟩
      · replace hm := ifF hm hb8
        refine WJ.exit ?_
        refine PJ.then_exit (PJ.then_exit (PJ.block_exit ?_))
        exact PJ.joined () [] hm trivial ⟨List.nodup_nil, rfl⟩
  · rintro _ hm
    subst hk6
    refine WJ.seq ?_
    refine WJ.quiet ?_
    refine QJ.step (YldS.yld (y_assign rfl)) rfl ?_
    refine QJ.step (YldS.yld (y_assign rfl)) rfl ?_
    refine QJ.done ?_
    refine PJ.next ?_
    refine WJ.ret ?_
    obtain rfl := Option.some.inj hm
    refine PJ.sel (L' := []) [] ⟨List.nodup_nil, rfl⟩ ?_
    exact PJ.retn (vs := [.int .i64 (-1), .int .i64 (-1)]) Try.results51 ⟨rfl, rfl, trivial⟩ ⟨rfl, rfl⟩

set_option maxRecDepth 100000 in
set_option maxHeartbeats 1000000 in
theorem ok_s_l06Ok {N : Nat} {x1 : Layout} {r : Bool} (hm : s_l06Ok N x1 = some r) (w : World) (ad2 : Addr) (v4 : Value) (ha3 : At w (cx w).Fz ad2 [v4]) (hr5 : RdS w (cx w).Fz v4 fStr.rp x1.rows) :
    Calls Try.prog 53 #[.pointer (some ad2)] w (Ret (cx w) (.bool r)) := by
  unfold s_l06Ok at hm
  refine Calls.enter [.pointer (some ad2)] Try.func53 rfl Try.ntmps53 rfl ?_
  refine WJ.seq ?_
  refine WJ.quiet ?_
  refine QJ.step (YldS.yld (y_assign rfl)) rfl ?_
  refine QJ.done ?_
  refine PJ.next ?_
  obtain ⟨kj6, hk7, hm⟩ := withK_open hm
  refine WJ.join (X := Unit) (fun (_ : Unit) => kj6  = some r) (fun (_ : Unit) => [(0, .pointer (some ad2))]) (fun (_ : Unit) => []) ?_ ?_
  · clear hk7
    refine WJ.seq ?_
    refine WJ.quiet ?_
    refine QJ.step (YldS.yld (y_assign rfl)) rfl ?_
    refine QJ.done ?_
    refine PJ.next ?_
    refine WJ.block ?_
    refine WJ.sel (L' := (fun (x : Int) => []) 0) [] ⟨List.nodup_nil, rfl⟩ ?_
    refine WJ.sub (m' := (fun (x : Int) => [(0, .pointer (some ad2)), (3, .int .i64 x)]) 0) ⟨rfl, rfl, trivial⟩ ?_
    refine WJ.loop (X := Int) (fun N (x : Int) => s_l06Ok_l1 kj6 x1 N x = some r) (fun (x : Int) => [(0, .pointer (some ad2)), (3, .int .i64 x)]) (fun (x : Int) => []) ?_ N 0 hm
    · rintro N r8 hI
      have hm := hI; clear hI
      cases N with
      | zero => cases hm
      | succ N =>
      unfold s_l06Ok_l1 at hm
      refine WJ.seq ?_
      refine WJ.seq ?_
      refine WJ.quiet ?_
      refine QJ.step (YldS.yld (y_move rfl)) rfl ?_
      refine QJ.step (YldS.yld (y_move rfl)) rfl ?_
      refine QJ.step (YldS.yld (y_nil rfl)) rfl ?_
      refine QJ.step (YldS.yld (y_fld (ad := ad2) fld26_0 rfl)) rfl ?_
      refine QJ.step (YldS.yld (y_load1 (v := v4) Try.isAgg24 (ha3.sub 0 1) St.frozenC rfl)) rfl ?_
      refine QJ.step (YldS.yld (y_lenS Try.runUnderlying24 hr5 rfl)) rfl ?_
      refine QJ.step (YldS.yld (y_bin rfl rfl rfl)) rfl ?_
      refine QJ.done ?_
      refine PJ.next ?_
      refine WJ.cond (t := decide (r8 < (List.length x1.rows : Int))) rfl (fun hb9 => ?_) (fun hb9 => ?_)
      · replace hm := ifT hm hb9
        refine WJ.skip ?_
        refine PJ.next ?_
        obtain ⟨kj10, hk11, hm⟩ := withK_open hm
        refine WJ.join (X := Unit) (fun (_ : Unit) => kj10  = some r) (fun (_ : Unit) => [(0, .pointer (some ad2)), (3, .int .i64 r8)]) (fun (_ : Unit) => []) ?_ ?_
        · clear hk11
          refine WJ.block ?_
          refine WJ.seq ?_
          refine WJ.seq ?_
          refine WJ.quiet ?_
          refine QJ.step (YldS.yld (y_move rfl)) rfl ?_
          refine QJ.step (YldS.yld (y_nil rfl)) rfl ?_
          refine QJ.step (YldS.yld (y_fld (ad := ad2) fld26_0 rfl)) rfl ?_
          refine QJ.step (YldS.yld (y_load1 (v := v4) Try.isAgg24 (ha3.sub 0 1) St.frozenC rfl)) rfl ?_
          refine QJ.step (YldS.yld (y_move rfl)) rfl ?_
          obtain ⟨e12, h13, hm⟩ := bindS hm
          obtain ⟨ad14, _, rfl, ha15, hy16⟩ := hr5.elem h13
          refine QJ.step (YldS.yld (hy16 Try.runUnderlying24 Try.sizeOf9 rfl rfl)) rfl ?_
          refine QJ.step (YldS.yld (y_load1 (v := str e12) Try.isAgg9 ha15 St.frozenC rfl)) rfl ?_
          obtain ⟨r17, h18, hm⟩ := bindS hm
          refine QJ.step (y_call Try.call92 rfl (RetG.quiet fun w hw => ok_s_l06Row h18 w )) rfl ?_
          refine QJ.step (YldS.yld (y_not rfl)) rfl ?_
          refine QJ.done ?_
          refine PJ.next ?_
          refine WJ.cond (t := !r17) rfl (fun hb19 => ?_) (fun hb19 => ?_)
          · replace hm := ifT hm hb19
            refine WJ.seq ?_
            refine WJ.quiet ?_
            refine QJ.step (YldS.yld (y_assign rfl)) rfl ?_
            refine QJ.done ?_
            refine PJ.next ?_
            refine WJ.ret ?_
            refine PJ.then_ret (PJ.block_ret (PJ.then_ret (PJ.then_ret (PJ.block_ret (PJ.then_ret ?_)))))
            obtain rfl := Option.some.inj hm
            refine PJ.sel (L' := []) [] ⟨List.nodup_nil, rfl⟩ ?_
            exact PJ.retn (vs := [.bool false]) Try.results53 ⟨rfl, trivial⟩ ⟨rfl, rfl⟩
          · replace hm := ifF hm hb19
            refine WJ.skip ?_
            refine PJ.next ?_
            refine WJ.seq ?_
            refine WJ.quiet ?_
            refine QJ.step (YldS.yld (y_assign rfl)) rfl ?_
            refine QJ.done ?_
            refine PJ.next ?_
            refine WJ.block ?_
            refine WJ.sel (L' := (fun (x : Int) => []) 0) [] ⟨List.nodup_nil, rfl⟩ ?_
            refine WJ.sub (m' := (fun (x : Int) => [(0, .pointer (some ad2)), (3, .int .i64 r8), (4, .int .i64 x)]) 0) ⟨rfl, rfl, rfl, trivial⟩ ?_
            refine WJ.loop (X := Int) (fun N (x : Int) => s_l06Ok_l2 kj10 x1 r8 N x = some r) (fun (x : Int) => [(0, .pointer (some ad2)), (3, .int .i64 r8), (4, .int .i64 x)]) (fun (x : Int) => []) ?_ N 0 hm
            · rintro N c20 hI
              have hm := hI; clear hI
              cases N with
              | zero => cases hm
              | succ N =>
              unfold s_l06Ok_l2 at hm
              refine WJ.seq ?_
              refine WJ.seq ?_
              refine WJ.quiet ?_
              refine QJ.step (YldS.yld (y_move rfl)) rfl ?_
              refine QJ.step (YldS.yld (y_move rfl)) rfl ?_
              refine QJ.step (YldS.yld (y_nil rfl)) rfl ?_
              refine QJ.step (YldS.yld (y_fld (ad := ad2) fld26_0 rfl)) rfl ?_
              refine QJ.step (YldS.yld (y_load1 (v := v4) Try.isAgg24 (ha3.sub 0 1) St.frozenC rfl)) rfl ?_
              refine QJ.step (YldS.yld (y_move rfl)) rfl ?_
              obtain ⟨e21, h22, hm⟩ := bindS hm
              obtain ⟨ad23, _, rfl, ha24, hy25⟩ := hr5.elem h22
              refine QJ.step (YldS.yld (hy25 Try.runUnderlying24 Try.sizeOf9 rfl rfl)) rfl ?_
              refine QJ.step (YldS.yld (y_load1 (v := str e21) Try.isAgg9 ha24 St.frozenC rfl)) rfl ?_
              refine QJ.step (YldS.yld (y_lenStr Try.runUnderlying9 rfl)) rfl ?_
              refine QJ.step (YldS.yld (y_bin rfl rfl rfl)) rfl ?_
              refine QJ.done ?_
              refine PJ.next ?_
              refine WJ.cond (t := decide (c20 < (List.length e21 : Int))) rfl (fun hb26 => ?_) (fun hb26 => ?_)
              · replace hm := ifT hm hb26
                refine WJ.skip ?_
                refine PJ.next ?_
                refine WJ.seq ?_
                refine WJ.block ?_
                refine WJ.seq ?_
                refine WJ.quiet_draw follows (by kernel_rfl) ?_
                refine QJ.step (YldS.yld (y_move rfl)) rfl ?_
                refine QJ.step (YldS.yld (y_nil rfl)) rfl ?_
                refine QJ.step (YldS.yld (y_fld (ad := ad2) fld26_0 rfl)) rfl ?_
                refine QJ.step (YldS.yld (y_load1 (v := v4) Try.isAgg24 (ha3.sub 0 1) St.frozenC rfl)) rfl ?_
                refine QJ.step (YldS.yld (y_move rfl)) rfl ?_
                refine QJ.step (YldS.yld (y_nil rfl)) rfl ?_
                refine QJ.step (YldS.yld (y_fld (ad := ad2) fld26_0 rfl)) rfl ?_
                refine QJ.step (YldS.yld (y_load1 (v := v4) Try.isAgg24 (ha3.sub 0 1) St.frozenC rfl)) rfl ?_
                refine QJ.step (YldS.yld (y_move rfl)) rfl ?_
                obtain ⟨e27, h28, hm⟩ := bindS hm
                obtain ⟨ad29, _, rfl, ha30, hy31⟩ := hr5.elem h28
                refine QJ.step (YldS.yld (hy31 Try.runUnderlying24 Try.sizeOf9 rfl rfl)) rfl ?_
                refine QJ.step (YldS.yld (y_load1 (v := str e27) Try.isAgg9 ha30 St.frozenC rfl)) rfl ?_
                refine QJ.step (YldS.yld (y_move rfl)) rfl ?_
                obtain ⟨c32, h33, hm⟩ := bindS hm
                refine QJ.step (YldS.yld (y_idxStr Try.runUnderlying9 rfl rfl h33)) rfl ?_
                obtain ⟨r34, h35, hm⟩ := bindS hm
                refine QJ.step (y_call Try.call51 rfl (RetG.quiet fun w hw => ok_s_l06At h35 w _ (hr5.st hw))) rfl ?_
                refine QJ.step (YldS.yld (y_move rfl)) rfl ?_
                refine QJ.step (YldS.yld (y_extract rfl rfl)) rfl ?_
                refine QJ.step (YldS.yld (y_extract rfl rfl)) rfl ?_
                refine QJ.step (YldS.yld (y_assign rfl)) rfl ?_
                refine QJ.step (YldS.yld (y_assign rfl)) rfl ?_
                refine QJ.done ?_
                refine PJ.next ?_
                refine WJ.seq ?_
                refine WJ.quiet ?_
                refine QJ.step (YldS.yld (y_move rfl)) rfl ?_
                refine QJ.step (YldS.yld (y_move rfl)) rfl ?_
                refine QJ.step (YldS.yld (y_bin rfl rfl rfl)) rfl ?_
                refine QJ.step (YldS.yld (y_move rfl)) rfl ?_
                obtain ⟨t36, h37, hm⟩ := bindS hm
                refine QJ.cut 4 [(0, .pointer (some ad2)), (3, .int .i64 r8), (4, .int .i64 c20), (61, .bool t36)] ?_ ?_
                · rcases Bool.eq_false_or_eq_true (r34.1 != r8) with hb38 | hb38
                  · obtain rfl := orT h37 hb38
                    refine QJ.off rfl rfl (cB hb38) rfl rfl ?_
                    refine QJ.off rfl rfl (cB hb38) rfl rfl ?_
                    refine QJ.off rfl rfl (cB hb38) rfl rfl ?_
                    refine QJ.step (YldS.yld (y_pick_t (cB hb38) rfl)) rfl ?_
                    exact QJ.cut_end ⟨rfl, rfl, rfl, rfl, trivial⟩
                  · replace h37 := orF h37 hb38
                    refine QJ.on rfl rfl (cB hb38) (YldS.yld (y_move rfl)) rfl ?_
                    refine QJ.on rfl rfl (cB hb38) (YldS.yld (y_move rfl)) rfl ?_
                    refine QJ.on rfl rfl (cB hb38) (YldS.yld (y_bin rfl rfl rfl)) rfl ?_
                    refine QJ.step (YldS.yld (y_pick_f (cB hb38) rfl)) rfl ?_
                    obtain rfl := Option.some.inj h37
                    exact QJ.cut_end ⟨rfl, rfl, rfl, rfl, trivial⟩
                refine QJ.done ?_
                refine PJ.next ?_
                refine WJ.cond (t := t36) rfl (fun hb39 => ?_) (fun hb39 => ?_)
                · replace hm := ifT hm hb39
                  refine WJ.seq ?_
                  refine WJ.quiet ?_
                  refine QJ.step (YldS.yld (y_assign rfl)) rfl ?_
                  refine QJ.done ?_
                  refine PJ.next ?_
                  refine WJ.ret ?_
                  refine PJ.block_ret (PJ.then_ret (PJ.then_ret (PJ.block_ret (PJ.block_ret (PJ.then_ret (PJ.then_ret (PJ.block_ret (PJ.then_ret ?_))))))))
                  obtain rfl := Option.some.inj hm
                  refine PJ.sel (L' := []) [] ⟨List.nodup_nil, rfl⟩ ?_
                  exact PJ.retn (vs := [.bool false]) Try.results53 ⟨rfl, trivial⟩ ⟨rfl, rfl⟩
                · replace hm := ifF hm hb39
                  refine WJ.skip ?_
                  refine PJ.block_normal (PJ.next ?_)
                  refine WJ.quiet ?_
                  refine QJ.step (YldS.yld (y_move rfl)) rfl ?_
                  refine QJ.step (YldS.yld (y_bin rfl rfl rfl)) rfl ?_
                  refine QJ.step (YldS.yld (y_assign rfl)) rfl ?_
                  refine QJ.done ?_
                  exact PJ.round (w64 (c20 + 1)) [] hm ⟨rfl, rfl, rfl, trivial⟩ ⟨List.nodup_nil, rfl⟩
              · replace hm := ifF hm hb26
                refine WJ.exit ?_
                refine PJ.then_exit (PJ.then_exit (PJ.block_exit (PJ.block_normal ?_)))
                exact PJ.joined () [] hm ⟨rfl, rfl, trivial⟩ ⟨List.nodup_nil, rfl⟩
        · rintro _ hm
          subst hk11
          refine WJ.quiet ?_
          refine QJ.step (YldS.yld (y_move rfl)) rfl ?_
          refine QJ.step (YldS.yld (y_bin rfl rfl rfl)) rfl ?_
          refine QJ.step (YldS.yld (y_assign rfl)) rfl ?_
          refine QJ.done ?_
          exact PJ.round (w64 (r8 + 1)) [] hm ⟨rfl, rfl, trivial⟩ ⟨List.nodup_nil, rfl⟩
      · replace hm := ifF hm hb9
        refine WJ.exit ?_
        refine PJ.then_exit (PJ.then_exit (PJ.block_exit ?_))
        exact PJ.joined () [] hm ⟨rfl, trivial⟩ ⟨List.nodup_nil, rfl⟩
  · rintro _ hm
    subst hk7
    refine WJ.seq ?_
    refine WJ.quiet ?_
    refine QJ.step (YldS.yld (y_move rfl)) rfl ?_
    refine QJ.step (YldS.yld (y_nil rfl)) rfl ?_
    refine QJ.step (YldS.yld (y_fld (ad := ad2) fld26_0 rfl)) rfl ?_
    refine QJ.step (YldS.yld (y_load1 (v := v4) Try.isAgg24 (ha3.sub 0 1) St.frozenC rfl)) rfl ?_
    refine QJ.step (YldS.yld (y_lenS Try.runUnderlying24 hr5 rfl)) rfl ?_
    obtain ⟨r40, h41, hm⟩ := bindS hm
    refine QJ.step (y_call Try.call93 rfl (RetG.quiet fun w hw => ok_s_l00In h41 w )) rfl ?_
    refine QJ.step (YldS.yld (y_assign rfl)) rfl ?_
    refine QJ.done ?_
    refine PJ.next ?_
    refine WJ.ret ?_
    obtain rfl := Option.some.inj hm
    refine PJ.sel (L' := []) [] ⟨List.nodup_nil, rfl⟩ ?_
    exact PJ.retn (vs := [.bool r40]) Try.results53 ⟨rfl, trivial⟩ ⟨rfl, rfl⟩

set_option maxRecDepth 100000 in
set_option maxHeartbeats 1000000 in
theorem ok_s_l06Both {N : Nat} {a1 : Layout} {b6 : Layout} {r : Int} (hm : s_l06Both N a1 b6 = some r) (w : World) (ad2 : Addr) (v4 : Value) (ha3 : At w (cx w).Fz ad2 [v4]) (hr5 : RdS w (cx w).Fz v4 fStr.rp a1.rows) (ad7 : Addr) (v9 : Value) (ha8 : At w (cx w).Fz ad7 [v9]) (hr10 : RdS w (cx w).Fz v9 fStr.rp b6.rows) :
    Calls Try.prog 45 #[.pointer (some ad2), .pointer (some ad7)] w (Ret (cx w) (.int .i64 r)) := by
  unfold s_l06Both at hm
  refine Calls.enter [.pointer (some ad2), .pointer (some ad7)] Try.func45 rfl Try.ntmps45 rfl ?_
  refine WJ.seq ?_
  refine WJ.quiet ?_
  refine QJ.step (YldS.yld (y_assign rfl)) rfl ?_
  refine QJ.done ?_
  refine PJ.next ?_
  refine WJ.seq ?_
  refine WJ.seq ?_
  refine WJ.quiet ?_
  refine QJ.step (YldS.yld (y_move rfl)) rfl ?_
  obtain ⟨r11, h12, hm⟩ := bindS hm
  refine QJ.step (y_call Try.call53 rfl (RetG.quiet fun w hw => ok_s_l06Ok h12 w _ _ (ha3.st hw) (hr5.st hw))) rfl ?_
  refine QJ.step (YldS.yld (y_not rfl)) rfl ?_
  refine QJ.step (YldS.yld (y_move rfl)) rfl ?_
  obtain ⟨t13, h14, hm⟩ := bindS hm
  refine QJ.cut 4 [(0, .pointer (some ad2)), (1, .pointer (some ad7)), (16, .bool t13)] ?_ ?_
  · rcases Bool.eq_false_or_eq_true (!r11) with hb15 | hb15
    · obtain rfl := orT h14 hb15
      refine QJ.off rfl rfl (cB hb15) rfl rfl ?_
      refine QJ.off rfl rfl (cB hb15) rfl rfl ?_
      refine QJ.off rfl rfl (cB hb15) rfl rfl ?_
      refine QJ.step (YldS.yld (y_pick_t (cB hb15) rfl)) rfl ?_
      exact QJ.cut_end ⟨rfl, rfl, rfl, trivial⟩
    · replace h14 := orF h14 hb15
      refine QJ.on rfl rfl (cB hb15) (YldS.yld (y_move rfl)) rfl ?_
      obtain ⟨r16, h17, h14⟩ := bindS h14
      refine QJ.on rfl rfl (cB hb15) (y_call Try.call53 rfl (RetG.quiet fun w hw => ok_s_l06Ok h17 w _ _ (ha8.st hw) (hr10.st hw))) rfl ?_
      refine QJ.on rfl rfl (cB hb15) (YldS.yld (y_not rfl)) rfl ?_
      refine QJ.step (YldS.yld (y_pick_f (cB hb15) rfl)) rfl ?_
      obtain rfl := Option.some.inj h14
      exact QJ.cut_end ⟨rfl, rfl, rfl, trivial⟩
  refine QJ.done ?_
  refine PJ.next ?_
  refine WJ.cond (t := t13) rfl (fun hb18 => ?_) (fun hb18 => ?_)
  · replace hm := ifT hm hb18
    refine WJ.seq ?_
    refine WJ.quiet ?_
    refine QJ.step (YldS.yld (y_assign rfl)) rfl ?_
    refine QJ.done ?_
    refine PJ.next ?_
    refine WJ.ret ?_
    refine PJ.then_ret ?_
    obtain rfl := Option.some.inj hm
    refine PJ.sel (L' := []) [] ⟨List.nodup_nil, rfl⟩ ?_
    exact PJ.retn (vs := [.int .i64 1]) Try.results45 ⟨rfl, trivial⟩ ⟨rfl, rfl⟩
  · replace hm := ifF hm hb18
    refine WJ.skip ?_
    refine PJ.next ?_
    refine WJ.seq ?_
    refine WJ.seq ?_
    refine WJ.quiet_draw follows (by kernel_rfl) ?_
    refine QJ.step (YldS.yld (y_move rfl)) rfl ?_
    refine QJ.step (YldS.yld (y_nil rfl)) rfl ?_
    refine QJ.step (YldS.yld (y_fld (ad := ad2) fld26_0 rfl)) rfl ?_
    refine QJ.step (YldS.yld (y_load1 (v := v4) Try.isAgg24 (ha3.sub 0 1) St.frozenC rfl)) rfl ?_
    refine QJ.step (YldS.yld (y_lenS Try.runUnderlying24 hr5 rfl)) rfl ?_
    refine QJ.step (YldS.yld (y_move rfl)) rfl ?_
    refine QJ.step (YldS.yld (y_nil rfl)) rfl ?_
    refine QJ.step (YldS.yld (y_fld (ad := ad7) fld26_0 rfl)) rfl ?_
    refine QJ.step (YldS.yld (y_load1 (v := v9) Try.isAgg24 (ha8.sub 0 1) St.frozenC rfl)) rfl ?_
    refine QJ.step (YldS.yld (y_lenS Try.runUnderlying24 hr10 rfl)) rfl ?_
    refine QJ.step (YldS.yld (y_bin rfl rfl rfl)) rfl ?_
    refine QJ.done ?_
    refine PJ.next ?_
    refine WJ.cond (t := ((List.length a1.rows : Int) != (List.length b6.rows : Int))) rfl (fun hb19 => ?_) (fun hb19 => ?_)
    · replace hm := ifT hm hb19
      refine WJ.seq ?_
      refine WJ.quiet ?_
      refine QJ.step (YldS.yld (y_assign rfl)) rfl ?_
      refine QJ.done ?_
      refine PJ.next ?_
      refine WJ.ret ?_
      refine PJ.then_ret ?_
      obtain rfl := Option.some.inj hm
      refine PJ.sel (L' := []) [] ⟨List.nodup_nil, rfl⟩ ?_
      exact PJ.retn (vs := [.int .i64 9]) Try.results45 ⟨rfl, trivial⟩ ⟨rfl, rfl⟩
    · replace hm := ifF hm hb19
      refine WJ.skip ?_
      refine PJ.next ?_
      obtain ⟨kj20, hk21, hm⟩ := withK_open hm
      refine WJ.join (X := Unit) (fun (_ : Unit) => kj20  = some r) (fun (_ : Unit) => []) (fun (_ : Unit) => []) ?_ ?_
      · clear hk21
        refine WJ.seq ?_
        refine WJ.quiet ?_
        refine QJ.step (YldS.yld (y_assign rfl)) rfl ?_
        refine QJ.done ?_
        refine PJ.next ?_
        refine WJ.block ?_
        refine WJ.sel (L' := (fun (x : Int) => []) 0) [] ⟨List.nodup_nil, rfl⟩ ?_
        refine WJ.sub (m' := (fun (x : Int) => [(0, .pointer (some ad2)), (1, .pointer (some ad7)), (5, .int .i64 x)]) 0) ⟨rfl, rfl, rfl, trivial⟩ ?_
        refine WJ.loop (X := Int) (fun N (x : Int) => s_l06Both_l1 kj20 a1 b6 N x = some r) (fun (x : Int) => [(0, .pointer (some ad2)), (1, .pointer (some ad7)), (5, .int .i64 x)]) (fun (x : Int) => []) ?_ N 0 hm
        · rintro N r22 hI
          have hm := hI; clear hI
          cases N with
          | zero => cases hm
          | succ N =>
          unfold s_l06Both_l1 at hm
          refine WJ.seq ?_
          refine WJ.seq ?_
          refine WJ.quiet ?_
          refine QJ.step (YldS.yld (y_move rfl)) rfl ?_
          refine QJ.step (YldS.yld (y_move rfl)) rfl ?_
          refine QJ.step (YldS.yld (y_nil rfl)) rfl ?_
          refine QJ.step (YldS.yld (y_fld (ad := ad2) fld26_0 rfl)) rfl ?_
          refine QJ.step (YldS.yld (y_load1 (v := v4) Try.isAgg24 (ha3.sub 0 1) St.frozenC rfl)) rfl ?_
          refine QJ.step (YldS.yld (y_lenS Try.runUnderlying24 hr5 rfl)) rfl ?_
          refine QJ.step (YldS.yld (y_bin rfl rfl rfl)) rfl ?_
          refine QJ.done ?_
          refine PJ.next ?_
          refine WJ.cond (t := decide (r22 < (List.length a1.rows : Int))) rfl (fun hb23 => ?_) (fun hb23 => ?_)
          · replace hm := ifT hm hb23
            refine WJ.skip ?_
            refine PJ.next ?_
            obtain ⟨kj24, hk25, hm⟩ := withK_open hm
            refine WJ.join (X := Unit) (fun (_ : Unit) => kj24  = some r) (fun (_ : Unit) => [(0, .pointer (some ad2)), (1, .pointer (some ad7)), (5, .int .i64 r22)]) (fun (_ : Unit) => []) ?_ ?_
            · clear hk25
              refine WJ.block ?_
              refine WJ.seq ?_
              refine WJ.seq ?_
              refine WJ.quiet_draw follows (by kernel_rfl) ?_
              refine QJ.step (YldS.yld (y_move rfl)) rfl ?_
              refine QJ.step (YldS.yld (y_nil rfl)) rfl ?_
              refine QJ.step (YldS.yld (y_fld (ad := ad2) fld26_0 rfl)) rfl ?_
              refine QJ.step (YldS.yld (y_load1 (v := v4) Try.isAgg24 (ha3.sub 0 1) St.frozenC rfl)) rfl ?_
              refine QJ.step (YldS.yld (y_move rfl)) rfl ?_
              obtain ⟨e26, h27, hm⟩ := bindS hm
              obtain ⟨ad28, _, rfl, ha29, hy30⟩ := hr5.elem h27
              refine QJ.step (YldS.yld (hy30 Try.runUnderlying24 Try.sizeOf9 rfl rfl)) rfl ?_
              refine QJ.step (YldS.yld (y_load1 (v := str e26) Try.isAgg9 ha29 St.frozenC rfl)) rfl ?_
              refine QJ.step (YldS.yld (y_lenStr Try.runUnderlying9 rfl)) rfl ?_
              refine QJ.step (YldS.yld (y_move rfl)) rfl ?_
              refine QJ.step (YldS.yld (y_nil rfl)) rfl ?_
              refine QJ.step (YldS.yld (y_fld (ad := ad7) fld26_0 rfl)) rfl ?_
              refine QJ.step (YldS.yld (y_load1 (v := v9) Try.isAgg24 (ha8.sub 0 1) St.frozenC rfl)) rfl ?_
              refine QJ.step (YldS.yld (y_move rfl)) rfl ?_
              obtain ⟨e31, h32, hm⟩ := bindS hm
              obtain ⟨ad33, _, rfl, ha34, hy35⟩ := hr10.elem h32
              refine QJ.step (YldS.yld (hy35 Try.runUnderlying24 Try.sizeOf9 rfl rfl)) rfl ?_
              refine QJ.step (YldS.yld (y_load1 (v := str e31) Try.isAgg9 ha34 St.frozenC rfl)) rfl ?_
              refine QJ.step (YldS.yld (y_lenStr Try.runUnderlying9 rfl)) rfl ?_
              refine QJ.step (YldS.yld (y_bin rfl rfl rfl)) rfl ?_
              refine QJ.done ?_
              refine PJ.next ?_
              refine WJ.cond (t := ((List.length e26 : Int) != (List.length e31 : Int))) rfl (fun hb36 => ?_) (fun hb36 => ?_)
              · replace hm := ifT hm hb36
                refine WJ.seq ?_
                refine WJ.quiet ?_
                refine QJ.step (YldS.yld (y_assign rfl)) rfl ?_
                refine QJ.done ?_
                refine PJ.next ?_
                refine WJ.ret ?_
                refine PJ.then_ret (PJ.block_ret (PJ.then_ret (PJ.then_ret (PJ.block_ret (PJ.then_ret ?_)))))
                obtain rfl := Option.some.inj hm
                refine PJ.sel (L' := []) [] ⟨List.nodup_nil, rfl⟩ ?_
                exact PJ.retn (vs := [.int .i64 9]) Try.results45 ⟨rfl, trivial⟩ ⟨rfl, rfl⟩
              · replace hm := ifF hm hb36
                refine WJ.skip ?_
                refine PJ.next ?_
                refine WJ.seq ?_
                refine WJ.quiet ?_
                refine QJ.step (YldS.yld (y_assign rfl)) rfl ?_
                refine QJ.done ?_
                refine PJ.next ?_
                refine WJ.block ?_
                refine WJ.sel (L' := (fun (x : Int) => []) 0) [] ⟨List.nodup_nil, rfl⟩ ?_
                refine WJ.sub (m' := (fun (x : Int) => [(0, .pointer (some ad2)), (1, .pointer (some ad7)), (5, .int .i64 r22), (6, .int .i64 x)]) 0) ⟨rfl, rfl, rfl, rfl, trivial⟩ ?_
                refine WJ.loop (X := Int) (fun N (x : Int) => s_l06Both_l2 kj24 a1 b6 r22 N x = some r) (fun (x : Int) => [(0, .pointer (some ad2)), (1, .pointer (some ad7)), (5, .int .i64 r22), (6, .int .i64 x)]) (fun (x : Int) => []) ?_ N 0 hm
                · rintro N c37 hI
                  have hm := hI; clear hI
                  cases N with
                  | zero => cases hm
                  | succ N =>
                  unfold s_l06Both_l2 at hm
                  refine WJ.seq ?_
                  refine WJ.seq ?_
                  refine WJ.quiet ?_
                  refine QJ.step (YldS.yld (y_move rfl)) rfl ?_
                  refine QJ.step (YldS.yld (y_move rfl)) rfl ?_
                  refine QJ.step (YldS.yld (y_nil rfl)) rfl ?_
                  refine QJ.step (YldS.yld (y_fld (ad := ad2) fld26_0 rfl)) rfl ?_
                  refine QJ.step (YldS.yld (y_load1 (v := v4) Try.isAgg24 (ha3.sub 0 1) St.frozenC rfl)) rfl ?_
                  refine QJ.step (YldS.yld (y_move rfl)) rfl ?_
                  obtain ⟨e38, h39, hm⟩ := bindS hm
                  obtain ⟨ad40, _, rfl, ha41, hy42⟩ := hr5.elem h39
                  refine QJ.step (YldS.yld (hy42 Try.runUnderlying24 Try.sizeOf9 rfl rfl)) rfl ?_
                  refine QJ.step (YldS.yld (y_load1 (v := str e38) Try.isAgg9 ha41 St.frozenC rfl)) rfl ?_
                  refine QJ.step (YldS.yld (y_lenStr Try.runUnderlying9 rfl)) rfl ?_
                  refine QJ.step (YldS.yld (y_bin rfl rfl rfl)) rfl ?_
                  refine QJ.done ?_
                  refine PJ.next ?_
                  refine WJ.cond (t := decide (c37 < (List.length e38 : Int))) rfl (fun hb43 => ?_) (fun hb43 => ?_)
                  · replace hm := ifT hm hb43
                    refine WJ.skip ?_
                    refine PJ.next ?_
                    refine WJ.seq ?_
                    refine WJ.block ?_
                    refine WJ.seq ?_
                    refine WJ.quiet_draw follows (by kernel_rfl) ?_
                    refine QJ.step (YldS.yld (y_move rfl)) rfl ?_
                    refine QJ.step (YldS.yld (y_nil rfl)) rfl ?_
                    refine QJ.step (YldS.yld (y_fld (ad := ad7) fld26_0 rfl)) rfl ?_
                    refine QJ.step (YldS.yld (y_load1 (v := v9) Try.isAgg24 (ha8.sub 0 1) St.frozenC rfl)) rfl ?_
                    refine QJ.step (YldS.yld (y_move rfl)) rfl ?_
                    refine QJ.step (YldS.yld (y_nil rfl)) rfl ?_
                    refine QJ.step (YldS.yld (y_fld (ad := ad2) fld26_0 rfl)) rfl ?_
                    refine QJ.step (YldS.yld (y_load1 (v := v4) Try.isAgg24 (ha3.sub 0 1) St.frozenC rfl)) rfl ?_
                    refine QJ.step (YldS.yld (y_move rfl)) rfl ?_
                    obtain ⟨e44, h45, hm⟩ := bindS hm
                    obtain ⟨ad46, _, rfl, ha47, hy48⟩ := hr5.elem h45
                    refine QJ.step (YldS.yld (hy48 Try.runUnderlying24 Try.sizeOf9 rfl rfl)) rfl ?_
                    refine QJ.step (YldS.yld (y_load1 (v := str e44) Try.isAgg9 ha47 St.frozenC rfl)) rfl ?_
                    refine QJ.step (YldS.yld (y_move rfl)) rfl ?_
                    obtain ⟨c49, h50, hm⟩ := bindS hm
                    refine QJ.step (YldS.yld (y_idxStr Try.runUnderlying9 rfl rfl h50)) rfl ?_
                    obtain ⟨r51, h52, hm⟩ := bindS hm
                    refine QJ.step (y_call Try.call51 rfl (RetG.quiet fun w hw => ok_s_l06At h52 w _ (hr10.st hw))) rfl ?_
                    refine QJ.step (YldS.yld (y_move rfl)) rfl ?_
                    refine QJ.step (YldS.yld (y_extract rfl rfl)) rfl ?_
                    refine QJ.step (YldS.yld (y_extract rfl rfl)) rfl ?_
                    refine QJ.step (YldS.yld (y_assign rfl)) rfl ?_
                    refine QJ.step (YldS.yld (y_assign rfl)) rfl ?_
                    refine QJ.done ?_
                    refine PJ.next ?_
                    refine WJ.seq ?_
                    refine WJ.quiet ?_
                    refine QJ.step (YldS.yld (y_move rfl)) rfl ?_
                    refine QJ.step (YldS.yld (y_bin rfl rfl rfl)) rfl ?_
                    refine QJ.done ?_
                    refine PJ.next ?_
                    refine WJ.cond (t := decide (r51.1 < 0)) rfl (fun hb53 => ?_) (fun hb53 => ?_)
                    · replace hm := ifT hm hb53
                      refine WJ.seq ?_
                      refine WJ.quiet ?_
                      refine QJ.step (YldS.yld (y_assign rfl)) rfl ?_
                      refine QJ.done ?_
                      refine PJ.next ?_
                      refine WJ.ret ?_
                      refine PJ.block_ret (PJ.then_ret (PJ.then_ret (PJ.block_ret (PJ.block_ret (PJ.then_ret (PJ.then_ret (PJ.block_ret (PJ.then_ret ?_))))))))
                      obtain rfl := Option.some.inj hm
                      refine PJ.sel (L' := []) [] ⟨List.nodup_nil, rfl⟩ ?_
                      exact PJ.retn (vs := [.int .i64 9]) Try.results45 ⟨rfl, trivial⟩ ⟨rfl, rfl⟩
                    · replace hm := ifF hm hb53
                      refine WJ.skip ?_
                      refine PJ.block_normal (PJ.next ?_)
                      refine WJ.quiet ?_
                      refine QJ.step (YldS.yld (y_move rfl)) rfl ?_
                      refine QJ.step (YldS.yld (y_bin rfl rfl rfl)) rfl ?_
                      refine QJ.step (YldS.yld (y_assign rfl)) rfl ?_
                      refine QJ.done ?_
                      exact PJ.round (w64 (c37 + 1)) [] hm ⟨rfl, rfl, rfl, rfl, trivial⟩ ⟨List.nodup_nil, rfl⟩
                  · replace hm := ifF hm hb43
                    refine WJ.exit ?_
                    refine PJ.then_exit (PJ.then_exit (PJ.block_exit (PJ.block_normal ?_)))
                    exact PJ.joined () [] hm ⟨rfl, rfl, rfl, trivial⟩ ⟨List.nodup_nil, rfl⟩
            · rintro _ hm
              subst hk25
              refine WJ.quiet ?_
              refine QJ.step (YldS.yld (y_move rfl)) rfl ?_
              refine QJ.step (YldS.yld (y_bin rfl rfl rfl)) rfl ?_
              refine QJ.step (YldS.yld (y_assign rfl)) rfl ?_
              refine QJ.done ?_
              exact PJ.round (w64 (r22 + 1)) [] hm ⟨rfl, rfl, rfl, trivial⟩ ⟨List.nodup_nil, rfl⟩
          · replace hm := ifF hm hb23
            refine WJ.exit ?_
            refine PJ.then_exit (PJ.then_exit (PJ.block_exit ?_))
            exact PJ.joined () [] hm trivial ⟨List.nodup_nil, rfl⟩
      · rintro _ hm
        subst hk21
        refine WJ.seq ?_
        refine WJ.quiet ?_
        refine QJ.step (YldS.yld (y_assign rfl)) rfl ?_
        refine QJ.done ?_
        refine PJ.next ?_
        refine WJ.ret ?_
        obtain rfl := Option.some.inj hm
        refine PJ.sel (L' := []) [] ⟨List.nodup_nil, rfl⟩ ?_
        exact PJ.retn (vs := [.int .i64 0]) Try.results45 ⟨rfl, trivial⟩ ⟨rfl, rfl⟩

set_option maxRecDepth 100000 in
set_option maxHeartbeats 1000000 in
theorem ok_s_l06Plan {N : Nat} {a1 : Layout} {b6 : Layout} {r : (List Str)} (hm : s_l06Plan N a1 b6 = some r) (w : World) (ad2 : Addr) (v4 : Value) (ha3 : At w (cx w).Fz ad2 [v4]) (hr5 : RdS w (cx w).Fz v4 fStr.rp a1.rows) (ad7 : Addr) (v9 : Value) (ha8 : At w (cx w).Fz ad7 [v9]) (hr10 : RdS w (cx w).Fz v9 fStr.rp b6.rows) :
    Calls Try.prog 46 #[.pointer (some ad2), .pointer (some ad7)] w (RetG (cx w) fun u L => ∃ (u1 : Value), (u = u1 ∧ L = [row u1 9 fStr r])) := by
  unfold s_l06Plan at hm
  refine Calls.enter [.pointer (some ad2), .pointer (some ad7)] Try.func46 rfl Try.ntmps46 rfl ?_
  refine WJ.seq ?_
  refine WJ.quiet ?_
  refine QJ.step (YldS.yld (y_assign rfl)) rfl ?_
  refine QJ.done ?_
  refine PJ.next ?_
  refine WJ.seq ?_
  refine WJ.reg ?_
  refine SJ.buildSlice (R := fStr) (os := []) [] Try.runUnderlying24 Try.sizeOf9 Try.zeroValue9 rfl rfl rfl rfl rfl rfl fun v11 => ?_
  refine SJ.q (YldS.yld (y_assign rfl)) rfl ?_
  refine SJ.nil ?_
  refine PJ.next ?_
  refine WJ.seq ?_
  refine WJ.reg ?_
  refine SJ.buildSlice (R := fStr) (os := []) [] Try.runUnderlying24 Try.sizeOf9 Try.zeroValue9 rfl rfl rfl rfl rfl rfl fun v12 => ?_
  refine SJ.q (YldS.yld (y_move rfl)) rfl ?_
  refine SJ.q (YldS.yld (y_nil rfl)) rfl ?_
  refine SJ.q (YldS.yld (y_fld (ad := ad2) fld26_0 rfl)) rfl ?_
  refine SJ.q (YldS.yld (y_load1 (v := v4) Try.isAgg24 (ha3.sub 0 1) St.frozenC rfl)) rfl ?_
  obtain ⟨l13, h14, hm⟩ := bindS hm
  refine SJ.append (k := 0) (R := fStr) h14 rfl Try.underlying24 el9 rfl rfl rfl (fun w hw => (hr5.st hw)) rfl fun v15 => ?_
  refine SJ.rowCells (k := 0) rfl fun hc16 => ?_
  refine SJ.q (YldS.yld (y_build (parts := [(0, .tmp 17)]) (places := [(0, 1)]) (r := [v15]) pl26 Try.zeroValue26 rfl rfl (show _ = [(0, [v15])] from by simp only [List.map, hc16.1]; try rfl) rfl)) rfl ?_
  refine SJ.alloc (cs := [.slice none 0 0]) Try.zeroValue26 rfl rfl fun g17 => ?_
  refine SJ.nil_row 9 fStr ?_
  refine SJ.rowCells (k := 2) rfl fun hc18 => ?_
  refine SJ.storeL (k := 1) (off := 0) (us := [v15]) rfl rfl rfl rfl Try.sizeOf26 rfl (by simp only [List.all_cons, hc18.2]; rfl) ?_
  refine SJ.erase 0 ?_
  refine SJ.nil ?_
  refine PJ.next ?_
  obtain ⟨kj21, hk22, hm⟩ := withK_open hm
  refine WJ.join (X := (List Str) × Value) (fun (x : (List Str) × Value) => kj21 x.1 = some r) (fun (x : (List Str) × Value) => [(5, x.2)]) (fun (x : (List Str) × Value) => [row x.2 9 fStr x.1]) ?_ ?_
  · clear hk22
    refine WJ.seq ?_
    refine WJ.quiet ?_
    refine QJ.step (YldS.yld (y_assign rfl)) rfl ?_
    refine QJ.done ?_
    refine PJ.next ?_
    refine WJ.block ?_
    refine WJ.sel (L' := (fun (x : (List Str) × Value × (List Str) × Value × Int) => [box g17 26 [x.2.1], row x.2.1 9 fStr x.1, row x.2.2.2.1 9 fStr x.2.2.1]) (l13, v15, [], v11, 0)) [0, 1, 2] ⟨by decide, rfl⟩ ?_
    refine WJ.sub (m' := (fun (x : (List Str) × Value × (List Str) × Value × Int) => [(1, .pointer (some ad7)), (5, x.2.2.2.1), (6, pt g17 0), (7, .int .i64 x.2.2.2.2)]) (l13, v15, [], v11, 0)) ⟨rfl, rfl, rfl, rfl, trivial⟩ ?_
    refine WJ.loop (X := (List Str) × Value × (List Str) × Value × Int) (fun N (x : (List Str) × Value × (List Str) × Value × Int) => s_l06Plan_l1 kj21 b6 N x.1 x.2.2.1 x.2.2.2.2 = some r) (fun (x : (List Str) × Value × (List Str) × Value × Int) => [(1, .pointer (some ad7)), (5, x.2.2.2.1), (6, pt g17 0), (7, .int .i64 x.2.2.2.2)]) (fun (x : (List Str) × Value × (List Str) × Value × Int) => [box g17 26 [x.2.1], row x.2.1 9 fStr x.1, row x.2.2.2.1 9 fStr x.2.2.1]) ?_ N (l13, v15, [], v11, 0) hm
    · rintro N ⟨l23, v24, l25, v26, r27⟩ hI
      have hm := hI; clear hI
      cases N with
      | zero => cases hm
      | succ N =>
      unfold s_l06Plan_l1 at hm
      refine WJ.seq ?_
      refine WJ.seq ?_
      refine WJ.quiet ?_
      refine QJ.step (YldS.yld (y_move rfl)) rfl ?_
      refine QJ.step (YldS.yld (y_move rfl)) rfl ?_
      refine QJ.step (YldS.yld (y_nil rfl)) rfl ?_
      refine QJ.step (YldS.yld (y_fld (ad := ad7) fld26_0 rfl)) rfl ?_
      refine QJ.step (YldS.yld (y_load1 (v := v9) Try.isAgg24 (ha8.sub 0 1) St.frozenC rfl)) rfl ?_
      refine QJ.step (YldS.yld (y_lenS Try.runUnderlying24 hr10 rfl)) rfl ?_
      refine QJ.step (YldS.yld (y_bin rfl rfl rfl)) rfl ?_
      refine QJ.done ?_
      refine PJ.next ?_
      refine WJ.cond (t := decide (r27 < (List.length b6.rows : Int))) rfl (fun hb28 => ?_) (fun hb28 => ?_)
      · replace hm := ifT hm hb28
        refine WJ.skip ?_
        refine PJ.next ?_
        obtain ⟨kj33, hk34, hm⟩ := withK_open hm
        refine WJ.join (X := (List Str) × Value × (List Str) × Value) (fun (x : (List Str) × Value × (List Str) × Value) => kj33 x.1 x.2.2.1 = some r) (fun (x : (List Str) × Value × (List Str) × Value) => [(1, .pointer (some ad7)), (5, x.2.2.2), (6, pt g17 0), (7, .int .i64 r27)]) (fun (x : (List Str) × Value × (List Str) × Value) => [box g17 26 [x.2.1], row x.2.1 9 fStr x.1, row x.2.2.2 9 fStr x.2.2.1]) ?_ ?_
        · clear hk34
          refine WJ.block ?_
          refine WJ.seq ?_
          refine WJ.quiet ?_
          refine QJ.step (YldS.yld (y_assign rfl)) rfl ?_
          refine QJ.done ?_
          refine PJ.next ?_
          refine WJ.block ?_
          refine WJ.sel (L' := (fun (x : (List Str) × Value × (List Str) × Value × Int) => [box g17 26 [x.2.1], row x.2.1 9 fStr x.1, row x.2.2.2.1 9 fStr x.2.2.1]) (l23, v24, l25, v26, 0)) [0, 1, 2] ⟨by decide, rfl⟩ ?_
          refine WJ.sub (m' := (fun (x : (List Str) × Value × (List Str) × Value × Int) => [(1, .pointer (some ad7)), (5, x.2.2.2.1), (6, pt g17 0), (7, .int .i64 r27), (8, .int .i64 x.2.2.2.2)]) (l23, v24, l25, v26, 0)) ⟨rfl, rfl, rfl, rfl, rfl, trivial⟩ ?_
          refine WJ.loop (X := (List Str) × Value × (List Str) × Value × Int) (fun N (x : (List Str) × Value × (List Str) × Value × Int) => s_l06Plan_l2 kj33 b6 r27 N x.1 x.2.2.1 x.2.2.2.2 = some r) (fun (x : (List Str) × Value × (List Str) × Value × Int) => [(1, .pointer (some ad7)), (5, x.2.2.2.1), (6, pt g17 0), (7, .int .i64 r27), (8, .int .i64 x.2.2.2.2)]) (fun (x : (List Str) × Value × (List Str) × Value × Int) => [box g17 26 [x.2.1], row x.2.1 9 fStr x.1, row x.2.2.2.1 9 fStr x.2.2.1]) ?_ N (l23, v24, l25, v26, 0) hm
          · rintro N ⟨l35, v36, l37, v38, c39⟩ hI
            have hm := hI; clear hI
            cases N with
            | zero => cases hm
            | succ N =>
            unfold s_l06Plan_l2 at hm
            refine WJ.seq ?_
            refine WJ.seq ?_
            refine WJ.quiet ?_
            refine QJ.step (YldS.yld (y_move rfl)) rfl ?_
            refine QJ.step (YldS.yld (y_move rfl)) rfl ?_
            refine QJ.step (YldS.yld (y_nil rfl)) rfl ?_
            refine QJ.step (YldS.yld (y_fld (ad := ad7) fld26_0 rfl)) rfl ?_
            refine QJ.step (YldS.yld (y_load1 (v := v9) Try.isAgg24 (ha8.sub 0 1) St.frozenC rfl)) rfl ?_
            refine QJ.step (YldS.yld (y_move rfl)) rfl ?_
            obtain ⟨e40, h41, hm⟩ := bindS hm
            obtain ⟨ad42, _, rfl, ha43, hy44⟩ := hr10.elem h41
            refine QJ.step (YldS.yld (hy44 Try.runUnderlying24 Try.sizeOf9 rfl rfl)) rfl ?_
            refine QJ.step (YldS.yld (y_load1 (v := str e40) Try.isAgg9 ha43 St.frozenC rfl)) rfl ?_
            refine QJ.step (YldS.yld (y_lenStr Try.runUnderlying9 rfl)) rfl ?_
            refine QJ.step (YldS.yld (y_bin rfl rfl rfl)) rfl ?_
            refine QJ.done ?_
            refine PJ.next ?_
            refine WJ.cond (t := decide (c39 < (List.length e40 : Int))) rfl (fun hb45 => ?_) (fun hb45 => ?_)
            · replace hm := ifT hm hb45
              refine WJ.skip ?_
              refine PJ.next ?_
              obtain ⟨kj50, hk51, hm⟩ := withK_open hm
              refine WJ.join (X := (List Str) × Value × (List Str) × Value) (fun (x : (List Str) × Value × (List Str) × Value) => kj50 x.1 x.2.2.1 = some r) (fun (x : (List Str) × Value × (List Str) × Value) => [(1, .pointer (some ad7)), (5, x.2.2.2), (6, pt g17 0), (7, .int .i64 r27), (8, .int .i64 c39)]) (fun (x : (List Str) × Value × (List Str) × Value) => [row x.2.1 9 fStr x.1, box g17 26 [x.2.1], row x.2.2.2 9 fStr x.2.2.1]) ?_ ?_
              · clear hk51
                refine WJ.block ?_
                refine WJ.seq ?_
                refine WJ.quiet ?_
                refine QJ.step (YldS.yld (y_fldB (o := 0) fld26_0 rfl)) rfl ?_
                refine QJ.step (YldS.yld (y_loadB (k := 0) (off := 0) (v := v36) rfl Try.isAgg24 rfl rfl)) rfl ?_
                refine QJ.step (YldS.yld (y_move rfl)) rfl ?_
                obtain ⟨e52, h53, hm⟩ := bindS hm
                refine QJ.step (YldS.yld (y_ixRow (k := 1) (R := fStr) rfl Try.runUnderlying24 Try.sizeOf9 rfl rfl h53)) rfl ?_
                refine QJ.step (YldS.yld (y_loadR (k := 1) (i := (Int.toNat r27)) (off := 0) (u := str e52) rfl Try.isAgg9 rfl (idx_get h53) rfl)) rfl ?_
                refine QJ.step (YldS.yld (y_move rfl)) rfl ?_
                obtain ⟨c54, h55, hm⟩ := bindS hm
                refine QJ.step (YldS.yld (y_idxStr Try.runUnderlying9 rfl rfl h55)) rfl ?_
                refine QJ.step (YldS.yld (y_assign rfl)) rfl ?_
                refine QJ.done ?_
                refine PJ.next ?_
                refine WJ.seq ?_
                refine WJ.quiet ?_
                refine QJ.step (YldS.yld (y_move rfl)) rfl ?_
                refine QJ.step (YldS.yld (y_nil rfl)) rfl ?_
                refine QJ.step (YldS.yld (y_fld (ad := ad7) fld26_0 rfl)) rfl ?_
                refine QJ.step (YldS.yld (y_load1 (v := v9) Try.isAgg24 (ha8.sub 0 1) St.frozenC rfl)) rfl ?_
                refine QJ.step (YldS.yld (y_move rfl)) rfl ?_
                obtain ⟨e56, h57, hm⟩ := bindS hm
                obtain ⟨ad58, _, rfl, ha59, hy60⟩ := hr10.elem h57
                refine QJ.step (YldS.yld (hy60 Try.runUnderlying24 Try.sizeOf9 rfl rfl)) rfl ?_
                refine QJ.step (YldS.yld (y_load1 (v := str e56) Try.isAgg9 ha59 St.frozenC rfl)) rfl ?_
                refine QJ.step (YldS.yld (y_move rfl)) rfl ?_
                obtain ⟨c61, h62, hm⟩ := bindS hm
                refine QJ.step (YldS.yld (y_idxStr Try.runUnderlying9 rfl rfl h62)) rfl ?_
                refine QJ.step (YldS.yld (y_assign rfl)) rfl ?_
                refine QJ.done ?_
                refine PJ.next ?_
                refine WJ.seq ?_
                refine WJ.quiet ?_
                refine QJ.step (YldS.yld (y_move rfl)) rfl ?_
                refine QJ.step (YldS.yld (y_move rfl)) rfl ?_
                refine QJ.step (YldS.yld (y_bin8 c54 c61 rfl rfl rfl)) rfl ?_
                refine QJ.done ?_
                refine PJ.next ?_
                refine WJ.cond (t := (c54 != c61)) rfl (fun hb63 => ?_) (fun hb63 => ?_)
                · replace hm := ifT hm hb63
                  refine WJ.seq ?_
                  refine WJ.reg ?_
                  refine SJ.q (YldS.yld (y_move rfl)) rfl ?_
                  refine SJ.q (YldS.yld (y_move rfl)) rfl ?_
                  obtain ⟨r64, h65, hm⟩ := bindS hm
                  refine SJ.call Try.call55 rfl (fun w hw => ok_s_l06Change h65 w _ _ (hw.box_at (k := 0) rfl) (hw.row_rd (k := 1) rfl)) rfl ?_
                  rintro _ _ ⟨v66, rfl, rfl⟩
                  refine SJ.rowCells (k := 0) rfl fun hc67 => ?_
                  refine SJ.storeL (k := 1) (off := 0) (us := [v66]) rfl rfl rfl rfl Try.sizeOf26 rfl (by simp only [List.all_cons, hc67.2]; rfl) ?_
                  refine SJ.erase 2 ?_
                  refine SJ.nil ?_
                  refine PJ.next ?_
                  refine WJ.reg ?_
                  refine SJ.q (YldS.yld (y_move rfl)) rfl ?_
                  refine SJ.q (YldS.yld (y_move rfl)) rfl ?_
                  refine SJ.q (YldS.yld (y_move rfl)) rfl ?_
                  refine SJ.buildSlice (R := fByte) (os := [.tmp 63, .tmp 64]) [c54, c61] Try.runUnderlying22 Try.sizeOf5 Try.zeroValue5 rfl rfl rfl rfl rfl rfl fun v68 => ?_
                  refine SJ.q (YldS.yld (y_b2s Try.underlying22 Try.underlying9 Try.underlying5 (fun w hw => ⟨_, (hw.row_rd (k := 0) rfl)⟩) rfl)) rfl ?_
                  refine SJ.buildSlice (R := fStr) (os := [.tmp 66]) [[c54, c61]] Try.runUnderlying24 Try.sizeOf9 Try.zeroValue9 rfl rfl rfl rfl rfl rfl fun v69 => ?_
                  obtain ⟨l70, h71, hm⟩ := bindS hm
                  refine SJ.append (k := 4) (R := fStr) h71 rfl Try.underlying24 el9 rfl rfl rfl (fun w hw => (hw.row_rd (k := 0) rfl)) rfl fun v72 => ?_
                  refine SJ.q (YldS.yld (y_assign rfl)) rfl ?_
                  refine SJ.nil ?_
                  refine PJ.block_normal ?_
                  exact PJ.joined (r64.rows, v66, l70, v72) [2, 3, 4] hm ⟨rfl, rfl, rfl, rfl, rfl, trivial⟩ ⟨by decide, rfl⟩
                · replace hm := ifF hm hb63
                  refine WJ.skip ?_
                  refine PJ.block_normal ?_
                  exact PJ.joined (l35, v36, l37, v38) [1, 0, 2] hm ⟨rfl, rfl, rfl, rfl, rfl, trivial⟩ ⟨by decide, rfl⟩
              · rintro ⟨l46, v47, l48, v49⟩ hm
                subst hk51
                refine WJ.quiet ?_
                refine QJ.step (YldS.yld (y_move rfl)) rfl ?_
                refine QJ.step (YldS.yld (y_bin rfl rfl rfl)) rfl ?_
                refine QJ.step (YldS.yld (y_assign rfl)) rfl ?_
                refine QJ.done ?_
                exact PJ.round (l46, v47, l48, v49, w64 (c39 + 1)) [1, 0, 2] hm ⟨rfl, rfl, rfl, rfl, rfl, trivial⟩ ⟨by decide, rfl⟩
            · replace hm := ifF hm hb45
              refine WJ.exit ?_
              refine PJ.then_exit (PJ.then_exit (PJ.block_exit (PJ.block_normal ?_)))
              exact PJ.joined (l35, v36, l37, v38) [0, 1, 2] hm ⟨rfl, rfl, rfl, rfl, trivial⟩ ⟨by decide, rfl⟩
        · rintro ⟨l29, v30, l31, v32⟩ hm
          subst hk34
          refine WJ.quiet ?_
          refine QJ.step (YldS.yld (y_move rfl)) rfl ?_
          refine QJ.step (YldS.yld (y_bin rfl rfl rfl)) rfl ?_
          refine QJ.step (YldS.yld (y_assign rfl)) rfl ?_
          refine QJ.done ?_
          exact PJ.round (l29, v30, l31, v32, w64 (r27 + 1)) [0, 1, 2] hm ⟨rfl, rfl, rfl, rfl, trivial⟩ ⟨by decide, rfl⟩
      · replace hm := ifF hm hb28
        refine WJ.exit ?_
        refine PJ.then_exit (PJ.then_exit (PJ.block_exit ?_))
        exact PJ.joined (l25, v26) [2] hm ⟨rfl, trivial⟩ ⟨by decide, rfl⟩
  · rintro ⟨l19, v20⟩ hm
    subst hk22
    refine WJ.seq ?_
    refine WJ.quiet ?_
    refine QJ.step (YldS.yld (y_move rfl)) rfl ?_
    refine QJ.step (YldS.yld (y_assign rfl)) rfl ?_
    refine QJ.done ?_
    refine PJ.next ?_
    refine WJ.ret ?_
    obtain rfl := Option.some.inj hm
    refine PJ.sel (L' := [row v20 9 fStr l19]) [0] ⟨by decide, rfl⟩ ?_
    exact PJ.retn (vs := [v20]) Try.results46 ⟨rfl, trivial⟩ ⟨_, rfl, rfl⟩

set_option maxRecDepth 100000 in
set_option maxHeartbeats 1000000 in
theorem ok_s_ExchangePlan {N : Nat} {a1 : Layout} {b4 : Layout} {r : (List Str) × Int} (hm : s_ExchangePlan N a1 b4 = some r) (w : World) (v2 : Value) (hr3 : RdS w (cx w).Fz v2 fStr.rp a1.rows) (v5 : Value) (hr6 : RdS w (cx w).Fz v5 fStr.rp b4.rows) :
    Calls Try.prog 9 #[.agg #[v2], .agg #[v5]] w (RetG (cx w) fun u L => ∃ (u1 : Value), (u = tup [u1, .int .i64 r.2] ∧ L = [row u1 9 fStr r.1])) := by
  unfold s_ExchangePlan at hm
  refine Calls.enter [.agg #[v2], .agg #[v5]] Try.func9 rfl Try.ntmps9 rfl ?_
  refine WJ.seq ?_
  refine WJ.reg ?_
  refine SJ.box (cs := [v2]) rfl rfl rfl fun g7 => ?_
  refine SJ.box (cs := [v5]) rfl rfl rfl fun g8 => ?_
  refine SJ.q (YldS.yld (y_assign rfl)) rfl ?_
  refine SJ.q (YldS.yld (y_assign rfl)) rfl ?_
  refine SJ.nil ?_
  refine PJ.next ?_
  refine WJ.seq ?_
  refine WJ.quiet ?_
  obtain ⟨r9, h10, hm⟩ := bindS hm
  refine QJ.step (y_call Try.call45 rfl (RetG.quiet fun w hw => ok_s_l06Both h10 w _ _ (hw.box_at (k := 1) rfl) (hr3.st hw) _ _ (hw.box_at (k := 0) rfl) (hr6.st hw))) rfl ?_
  refine QJ.step (YldS.yld (y_assign rfl)) rfl ?_
  refine QJ.done ?_
  refine PJ.next ?_
  refine WJ.seq ?_
  refine WJ.seq ?_
  refine WJ.quiet ?_
  refine QJ.step (YldS.yld (y_move rfl)) rfl ?_
  refine QJ.step (YldS.yld (y_bin rfl rfl rfl)) rfl ?_
  refine QJ.done ?_
  refine PJ.next ?_
  refine WJ.cond (t := (r9 != 0)) rfl (fun hb11 => ?_) (fun hb11 => ?_)
  · replace hm := ifT hm hb11
    refine WJ.seq ?_
    refine WJ.quiet ?_
    refine QJ.step (YldS.yld (y_move rfl)) rfl ?_
    refine QJ.step (YldS.yld (y_assign rfl)) rfl ?_
    refine QJ.step (YldS.yld (y_assign rfl)) rfl ?_
    refine QJ.done ?_
    refine PJ.next ?_
    refine WJ.ret ?_
    refine PJ.then_ret ?_
    refine PJ.nil_row 9 fStr ?_
    obtain rfl := Option.some.inj hm
    refine PJ.sel (L' := [row (.slice none 0 0) 9 fStr []]) [0] ⟨by decide, rfl⟩ ?_
    exact PJ.retn (vs := [(.slice none 0 0), .int .i64 r9]) Try.results9 ⟨rfl, rfl, trivial⟩ ⟨_, rfl, rfl⟩
  · replace hm := ifF hm hb11
    refine WJ.skip ?_
    refine PJ.next ?_
    refine WJ.seq ?_
    refine WJ.reg ?_
    obtain ⟨r12, h13, hm⟩ := bindS hm
    refine SJ.call Try.call46 rfl (fun w hw => ok_s_l06Plan h13 w _ _ (hw.box_at (k := 1) rfl) (hr3.st hw) _ _ (hw.box_at (k := 0) rfl) (hr6.st hw)) rfl ?_
    rintro v14 _ ⟨_, rfl, rfl⟩
    refine SJ.q (YldS.yld (y_assign rfl)) rfl ?_
    refine SJ.q (YldS.yld (y_assign rfl)) rfl ?_
    refine SJ.nil ?_
    refine PJ.next ?_
    refine WJ.ret ?_
    obtain rfl := Option.some.inj hm
    refine PJ.sel (L' := [row v14 9 fStr r12]) [0] ⟨by decide, rfl⟩ ?_
    exact PJ.retn (vs := [v14, .int .i64 0]) Try.results9 ⟨rfl, rfl, trivial⟩ ⟨_, rfl, rfl⟩

end Go.Proofs.Ytllaacpkpofbiaa
