/-
  The walks: a call hands back what its plain function computes, where that has a value. No other conditions.
-/
import Derived.Test.YtoojddajhalimaaFnWordStartsM
import Derived.Test.YtoojddajhalimaaChecked
namespace Go.Proofs.Ytoojddajhalimaa
open Go.RowKit Go.Proofs
set_option linter.unusedVariables false
set_option linter.unusedSimpArgs false

theorem follows : Try.prog.follows .mixedOrders = true := by kernel_rfl

theorem pl185 : PlacesOk Try.prog 185 [(0, 1), (1, 1), (2, 1)] := ⟨_, Try.runUnderlying185, fun w => by simp [Try.sizeOf3, Try.sizeOf22, Try.sizeOf183]⟩
theorem fld185_1 : FieldOk Try.prog 185 1 1 3 0 := ⟨_, _, Try.runUnderlying185, rfl, rfl, rfl, Try.sizeOf3⟩
theorem fld185_0 : FieldOk Try.prog 185 0 0 22 0 := ⟨_, _, Try.runUnderlying185, rfl, rfl, rfl, Try.sizeOf22⟩
theorem fld185_2 : FieldOk Try.prog 185 2 2 183 0 := ⟨_, _, Try.runUnderlying185, rfl, rfl, rfl, Try.sizeOf183⟩
set_option maxRecDepth 100000 in
theorem el9 : ElemOk Try.prog 9 1 (fStr.enc []) := ⟨_, _, Try.type9, rfl, rfl, rfl, by decide⟩

set_option maxRecDepth 100000 in
set_option maxHeartbeats 1000000 in
theorem ok_w_f6big {code1 : List UInt8} {r : Bool} (hm : w_f6big code1 = some r) (w : World) (v2 : Value) (hr3 : RdS w (cx w).Fz v2 fByte.rp code1) :
    Calls Try.prog 10 #[v2] w (Ret (cx w) (.bool r)) := by
  unfold w_f6big at hm
  refine Calls.enter [v2] Try.func10 rfl Try.ntmps10 rfl ?_
  refine WJ.seq ?_
  refine WJ.quiet ?_
  refine QJ.step (YldS.yld (y_assign rfl)) rfl ?_
  refine QJ.done ?_
  refine PJ.next ?_
  refine WJ.seq ?_
  refine WJ.quiet ?_
  refine QJ.step (YldS.yld (y_move rfl)) rfl ?_
  refine QJ.step (YldS.yld (y_lenS Try.runUnderlying22 hr3 rfl)) rfl ?_
  refine QJ.step (YldS.yld (y_bin rfl rfl rfl)) rfl ?_
  refine QJ.step (YldS.yld (y_assign rfl)) rfl ?_
  refine QJ.done ?_
  refine PJ.next ?_
  refine WJ.ret ?_
  obtain rfl := Option.some.inj hm
  refine PJ.sel (L' := []) [] ⟨List.nodup_nil, rfl⟩ ?_
  exact PJ.retn (vs := [.bool (decide ((List.length code1 : Int) > 4096))]) Try.results10 ⟨rfl, trivial⟩ ⟨rfl, rfl⟩

set_option maxRecDepth 100000 in
set_option maxHeartbeats 1000000 in
theorem ok_s_l00From {code1 : List UInt8} {r : L00Src} (hm : s_l00From code1 = some r) (w : World) (v2 : Value) (hr3 : RdS w (cx w).Fz v2 fByte.rp code1) :
    Calls Try.prog 95 #[v2] w (RetG (cx w) fun u L => ∃ (u1 : Nat), (u = pt u1 0 ∧ L = [box u1 185 [v2, .int .i64 r.at_, .int .u64 r.seed]])) := by
  unfold s_l00From at hm
  refine Calls.enter [v2] Try.func95 rfl Try.ntmps95 rfl ?_
  refine WJ.seq ?_
  refine WJ.quiet ?_
  refine QJ.step (YldS.yld (y_assign rfl)) rfl ?_
  refine QJ.done ?_
  refine PJ.next ?_
  refine WJ.seq ?_
  refine WJ.reg ?_
  refine SJ.q (YldS.yld (y_move rfl)) rfl ?_
  refine SJ.q (YldS.yld (y_build (parts := [(0, .tmp 3)]) (places := [(0, 1), (1, 1), (2, 1)]) (r := [v2, .int .i64 0, .int .u64 0]) pl185 Try.zeroValue185 rfl rfl (show _ = [(0, [v2])] from by simp only [List.map, RdS.cells1 hr3]) rfl)) rfl ?_
  refine SJ.box (cs := [v2, .int .i64 0, .int .u64 0]) rfl rfl rfl fun g4 => ?_
  refine SJ.q (YldS.yld (y_assign rfl)) rfl ?_
  refine SJ.nil ?_
  refine PJ.next ?_
  refine WJ.ret ?_
  obtain rfl := Option.some.inj hm
  refine PJ.sel (L' := [box g4 185 [v2, .int .i64 0, .int .u64 0]]) [0] ⟨by decide, rfl⟩ ?_
  exact PJ.retn (vs := [pt g4 0]) Try.results95 ⟨rfl, trivial⟩ ⟨_, rfl, rfl⟩

set_option maxRecDepth 100000 in
set_option maxHeartbeats 1000000 in
theorem ok_s_l00Src_next {s1 : L00Src} {g2 : Nat} {r : Int × L00Src} (hm : s_l00Src_next s1 = some r) (w : World) (S : Nat → Prop) (v3 : Value) (hr4 : RdS w (Cx.Fz ⟨w, S⟩) v3 fByte.rp s1.code) (hA : (box g2 185 [v3, .int .i64 s1.at_, .int .u64 s1.seed]).holds w S) :
    Calls Try.prog 181 #[pt g2 0] w (RetG ⟨w, S⟩ fun u L => (u = .int .i64 r.1 ∧ L = [box g2 185 [v3, .int .i64 r.2.at_, .int .u64 r.2.seed]])) := by
  unfold s_l00Src_next at hm
  refine Calls.enter1 hA [pt g2 0] Try.func181 rfl Try.ntmps181 rfl ?_
  refine WJ.seq ?_
  refine WJ.quiet ?_
  refine QJ.step (YldS.yld (y_assign rfl)) rfl ?_
  refine QJ.done ?_
  refine PJ.next ?_
  refine WJ.seq ?_
  refine WJ.quiet ?_
  refine QJ.step (YldS.yld (y_assign rfl)) rfl ?_
  refine QJ.done ?_
  refine PJ.next ?_
  obtain ⟨k6, hk7, hm⟩ := withK_open hm
  refine WJ.join (X := Int) (fun (x : Int) => k6 x = some r) (fun (x : Int) => [(0, pt g2 0), (3, .int .i64 x)]) (fun (x : Int) => [box g2 185 [v3, .int .i64 s1.at_, .int .u64 s1.seed]]) ?_ ?_
  · clear hk7
    refine WJ.seq ?_
    refine WJ.quiet_draw follows (by kernel_rfl) ?_
    refine QJ.step (YldS.yld (y_move rfl)) rfl ?_
    refine QJ.step (YldS.yld (y_nil rfl)) rfl ?_
    refine QJ.step (YldS.yld (y_fldB (o := 0) fld185_1 rfl)) rfl ?_
    refine QJ.step (YldS.yld (y_loadB (k := 0) (off := 1) (v := .int .i64 s1.at_) rfl Try.isAgg3 rfl rfl)) rfl ?_
    refine QJ.step (YldS.yld (y_move rfl)) rfl ?_
    refine QJ.step (YldS.yld (y_nil rfl)) rfl ?_
    refine QJ.step (YldS.yld (y_fldB (o := 0) fld185_0 rfl)) rfl ?_
    refine QJ.step (YldS.yld (y_loadB (k := 0) (off := 0) (v := v3) rfl Try.isAgg22 rfl rfl)) rfl ?_
    refine QJ.step (YldS.yld (y_lenS Try.runUnderlying22 hr4 rfl)) rfl ?_
    refine QJ.step (YldS.yld (y_bin rfl rfl rfl)) rfl ?_
    refine QJ.done ?_
    refine PJ.next ?_
    refine WJ.cond (t := decide (s1.at_ < (List.length s1.code : Int))) rfl (fun hb8 => ?_) (fun hb8 => ?_)
    · replace hm := ifT hm hb8
      refine WJ.quiet_draw follows (by kernel_rfl) ?_
      refine QJ.step (YldS.yld (y_move rfl)) rfl ?_
      refine QJ.step (YldS.yld (y_nil rfl)) rfl ?_
      refine QJ.step (YldS.yld (y_fldB (o := 0) fld185_0 rfl)) rfl ?_
      refine QJ.step (YldS.yld (y_loadB (k := 0) (off := 0) (v := v3) rfl Try.isAgg22 rfl rfl)) rfl ?_
      refine QJ.step (YldS.yld (y_move rfl)) rfl ?_
      refine QJ.step (YldS.yld (y_nil rfl)) rfl ?_
      refine QJ.step (YldS.yld (y_fldB (o := 0) fld185_1 rfl)) rfl ?_
      refine QJ.step (YldS.yld (y_loadB (k := 0) (off := 1) (v := .int .i64 s1.at_) rfl Try.isAgg3 rfl rfl)) rfl ?_
      obtain ⟨e9, h10, hm⟩ := bindS hm
      obtain ⟨ad11, _, rfl, ha12, hy13⟩ := hr4.elem h10
      refine QJ.step (YldS.yld (hy13 Try.runUnderlying22 Try.sizeOf5 rfl rfl)) rfl ?_
      refine QJ.step (YldS.yld (y_load1 (v := .int .u8 (UInt8.toNat e9 : Int)) Try.isAgg5 ha12 St.frozenC rfl)) rfl ?_
      refine QJ.step (YldS.yld (y_conv8 Try.runUnderlying5 Try.runUnderlying3 rfl)) rfl ?_
      refine QJ.step (YldS.yld (y_assign rfl)) rfl ?_
      refine QJ.done ?_
      exact PJ.joined (UInt8.toNat e9 : Int) [0] hm ⟨rfl, rfl, trivial⟩ ⟨by decide, rfl⟩
    · replace hm := ifF hm hb8
      refine WJ.skip ?_
      exact PJ.joined 0 [0] hm ⟨rfl, rfl, trivial⟩ ⟨by decide, rfl⟩
  · rintro b5 hm
    subst hk7
    refine WJ.seq ?_
    refine WJ.reg ?_
    refine SJ.q (YldS.yld (y_move rfl)) rfl ?_
    refine SJ.q (YldS.yld (y_nil rfl)) rfl ?_
    refine SJ.q (YldS.yld (y_fldB (o := 0) fld185_1 rfl)) rfl ?_
    refine SJ.q (YldS.yld (y_loadB (k := 0) (off := 1) (v := .int .i64 s1.at_) rfl Try.isAgg3 rfl rfl)) rfl ?_
    refine SJ.q (YldS.yld (y_bin rfl rfl rfl)) rfl ?_
    refine SJ.q (YldS.yld (y_nil rfl)) rfl ?_
    refine SJ.q (YldS.yld (y_fldB (o := 0) fld185_1 rfl)) rfl ?_
    refine SJ.storeL (k := 0) (off := 1) (us := [.int .i64 (w64 (s1.at_ + 1))]) rfl rfl rfl rfl Try.sizeOf3 rfl rfl ?_
    refine SJ.nil ?_
    refine PJ.next ?_
    refine WJ.seq ?_
    refine WJ.reg ?_
    refine SJ.q (YldS.yld (y_move rfl)) rfl ?_
    refine SJ.q (YldS.yld (y_move rfl)) rfl ?_
    refine SJ.q (YldS.yld (y_nil rfl)) rfl ?_
    refine SJ.q (YldS.yld (y_fldB (o := 0) fld185_2 rfl)) rfl ?_
    refine SJ.q (YldS.yld (y_loadB (k := 0) (off := 2) (v := .int .u64 s1.seed) rfl Try.isAgg183 rfl rfl)) rfl ?_
    refine SJ.q (YldS.yld (y_bin rfl rfl rfl)) rfl ?_
    refine SJ.q (YldS.yld (y_move rfl)) rfl ?_
    refine SJ.q (YldS.yld (y_convI Try.runUnderlying3 Try.runUnderlying183 rfl)) rfl ?_
    refine SJ.q (YldS.yld (y_bin rfl rfl rfl)) rfl ?_
    refine SJ.q (YldS.yld (y_bin rfl rfl rfl)) rfl ?_
    refine SJ.q (YldS.yld (y_nil rfl)) rfl ?_
    refine SJ.q (YldS.yld (y_fldB (o := 0) fld185_2 rfl)) rfl ?_
    refine SJ.storeL (k := 0) (off := 2) (us := [.int .u64 (IntKind.u64.wrap ((IntKind.u64.wrap ((IntKind.u64.wrap (s1.seed * 6364136223846793005)) + (IntKind.u64.wrap b5))) + 1442695040888963407))]) rfl rfl rfl rfl Try.sizeOf183 rfl rfl ?_
    refine SJ.nil ?_
    refine PJ.next ?_
    refine WJ.seq ?_
    refine WJ.seq ?_
    refine WJ.quiet_draw follows (by kernel_rfl) ?_
    refine QJ.step (YldS.yld (y_move rfl)) rfl ?_
    refine QJ.step (YldS.yld (y_nil rfl)) rfl ?_
    refine QJ.step (YldS.yld (y_fldB (o := 0) fld185_1 rfl)) rfl ?_
    refine QJ.step (YldS.yld (y_loadB (k := 0) (off := 1) (v := .int .i64 (w64 (s1.at_ + 1))) rfl Try.isAgg3 rfl rfl)) rfl ?_
    refine QJ.step (YldS.yld (y_move rfl)) rfl ?_
    refine QJ.step (YldS.yld (y_nil rfl)) rfl ?_
    refine QJ.step (YldS.yld (y_fldB (o := 0) fld185_0 rfl)) rfl ?_
    refine QJ.step (YldS.yld (y_loadB (k := 0) (off := 0) (v := v3) rfl Try.isAgg22 rfl rfl)) rfl ?_
    refine QJ.step (YldS.yld (y_lenS Try.runUnderlying22 hr4 rfl)) rfl ?_
    refine QJ.step (YldS.yld (y_bin rfl rfl rfl)) rfl ?_
    refine QJ.done ?_
    refine PJ.next ?_
    refine WJ.cond (t := decide ((w64 (s1.at_ + 1)) ≤ (List.length s1.code : Int))) rfl (fun hb14 => ?_) (fun hb14 => ?_)
    · replace hm := ifT hm hb14
      refine WJ.seq ?_
      refine WJ.quiet ?_
      refine QJ.step (YldS.yld (y_move rfl)) rfl ?_
      refine QJ.step (YldS.yld (y_assign rfl)) rfl ?_
      refine QJ.done ?_
      refine PJ.next ?_
      refine WJ.ret ?_
      refine PJ.then_ret ?_
      obtain rfl := Option.some.inj hm
      refine PJ.sel (L' := [box g2 185 [v3, .int .i64 (w64 (s1.at_ + 1)), .int .u64 (IntKind.u64.wrap ((IntKind.u64.wrap ((IntKind.u64.wrap (s1.seed * 6364136223846793005)) + (IntKind.u64.wrap b5))) + 1442695040888963407))]]) [0] ⟨by decide, rfl⟩ ?_
      exact PJ.retn (vs := [.int .i64 b5]) Try.results181 ⟨rfl, trivial⟩ ⟨rfl, rfl⟩
    · replace hm := ifF hm hb14
      refine WJ.skip ?_
      refine PJ.next ?_
      refine WJ.seq ?_
      refine WJ.quiet ?_
      refine QJ.step (YldS.yld (y_move rfl)) rfl ?_
      refine QJ.step (YldS.yld (y_nil rfl)) rfl ?_
      refine QJ.step (YldS.yld (y_fldB (o := 0) fld185_2 rfl)) rfl ?_
      refine QJ.step (YldS.yld (y_loadB (k := 0) (off := 2) (v := .int .u64 (IntKind.u64.wrap ((IntKind.u64.wrap ((IntKind.u64.wrap (s1.seed * 6364136223846793005)) + (IntKind.u64.wrap b5))) + 1442695040888963407))) rfl Try.isAgg183 rfl rfl)) rfl ?_
      refine QJ.step (YldS.yld (y_shru rfl rfl rfl)) rfl ?_
      refine QJ.step (YldS.yld (y_andu rfl rfl rfl)) rfl ?_
      refine QJ.step (YldS.yld (y_convI Try.runUnderlying183 Try.runUnderlying2 rfl)) rfl ?_
      refine QJ.step (YldS.yld (y_assign rfl)) rfl ?_
      refine QJ.done ?_
      refine PJ.next ?_
      refine WJ.ret ?_
      obtain rfl := Option.some.inj hm
      refine PJ.sel (L' := [box g2 185 [v3, .int .i64 (w64 (s1.at_ + 1)), .int .u64 (IntKind.u64.wrap ((IntKind.u64.wrap ((IntKind.u64.wrap (s1.seed * 6364136223846793005)) + (IntKind.u64.wrap b5))) + 1442695040888963407))]]) [0] ⟨by decide, rfl⟩ ?_
      exact PJ.retn (vs := [.int .i64 (w64 (uand (ushr (IntKind.u64.wrap ((IntKind.u64.wrap ((IntKind.u64.wrap (s1.seed * 6364136223846793005)) + (IntKind.u64.wrap b5))) + 1442695040888963407)) 40) 255))]) Try.results181 ⟨rfl, trivial⟩ ⟨rfl, rfl⟩

set_option maxRecDepth 100000 in
set_option maxHeartbeats 1000000 in
theorem ok_s_l00Src_pick {s1 : L00Src} {n5 : Int} {g2 : Nat} {r : Int × L00Src} (hm : s_l00Src_pick s1 n5 = some r) (w : World) (S : Nat → Prop) (v3 : Value) (hr4 : RdS w (Cx.Fz ⟨w, S⟩) v3 fByte.rp s1.code) (hA : (box g2 185 [v3, .int .i64 s1.at_, .int .u64 s1.seed]).holds w S) :
    Calls Try.prog 97 #[pt g2 0, .int .i64 n5] w (RetG ⟨w, S⟩ fun u L => (u = .int .i64 r.1 ∧ L = [box g2 185 [v3, .int .i64 r.2.at_, .int .u64 r.2.seed]])) := by
  unfold s_l00Src_pick at hm
  refine Calls.enter1 hA [pt g2 0, .int .i64 n5] Try.func97 rfl Try.ntmps97 rfl ?_
  refine WJ.seq ?_
  refine WJ.quiet ?_
  refine QJ.step (YldS.yld (y_assign rfl)) rfl ?_
  refine QJ.done ?_
  refine PJ.next ?_
  refine WJ.seq ?_
  refine WJ.seq ?_
  refine WJ.quiet ?_
  refine QJ.step (YldS.yld (y_move rfl)) rfl ?_
  refine QJ.step (YldS.yld (y_bin rfl rfl rfl)) rfl ?_
  refine QJ.done ?_
  refine PJ.next ?_
  refine WJ.cond (t := decide (n5 ≤ 1)) rfl (fun hb6 => ?_) (fun hb6 => ?_)
  · replace hm := ifT hm hb6
    refine WJ.seq ?_
    refine WJ.quiet ?_
    refine QJ.step (YldS.yld (y_assign rfl)) rfl ?_
    refine QJ.done ?_
    refine PJ.next ?_
    refine WJ.ret ?_
    refine PJ.then_ret ?_
    obtain rfl := Option.some.inj hm
    refine PJ.sel (L' := [box g2 185 [v3, .int .i64 s1.at_, .int .u64 s1.seed]]) [0] ⟨by decide, rfl⟩ ?_
    exact PJ.retn (vs := [.int .i64 0]) Try.results97 ⟨rfl, trivial⟩ ⟨rfl, rfl⟩
  · replace hm := ifF hm hb6
    refine WJ.skip ?_
    refine PJ.next ?_
    refine WJ.seq ?_
    refine WJ.reg ?_
    refine SJ.q (YldS.yld (y_move rfl)) rfl ?_
    obtain ⟨r7, h8, hm⟩ := bindS hm
    refine SJ.call1 (k := 0) rfl Try.call181 rfl (fun w S hw hA hO => ok_s_l00Src_next h8 w S _ (hr4.st1 hw hO) hA) rfl ?_
    rintro _ _ ⟨rfl, rfl⟩
    refine SJ.q (YldS.yld (y_assign rfl)) rfl ?_
    refine SJ.nil ?_
    refine PJ.next ?_
    obtain ⟨k12, hk13, hm⟩ := withK_open hm
    refine WJ.join (X := Int × Int × Int) (fun (x : Int × Int × Int) => k12 x.1 x.2.1 x.2.2 = some r) (fun (x : Int × Int × Int) => [(1, .int .i64 n5), (5, .int .i64 x.2.2)]) (fun (x : Int × Int × Int) => [box g2 185 [v3, .int .i64 x.1, .int .u64 x.2.1]]) ?_ ?_
    · clear hk13
      refine WJ.seq ?_
      refine WJ.quiet ?_
      refine QJ.step (YldS.yld (y_move rfl)) rfl ?_
      refine QJ.step (YldS.yld (y_bin rfl rfl rfl)) rfl ?_
      refine QJ.done ?_
      refine PJ.next ?_
      refine WJ.cond (t := decide (n5 > 200)) rfl (fun hb14 => ?_) (fun hb14 => ?_)
      · replace hm := ifT hm hb14
        refine WJ.reg ?_
        refine SJ.q (YldS.yld (y_move rfl)) rfl ?_
        refine SJ.q (YldS.yld (y_bin rfl rfl rfl)) rfl ?_
        refine SJ.q (YldS.yld (y_move rfl)) rfl ?_
        obtain ⟨r15, h16, hm⟩ := bindS hm
        refine SJ.call1 (k := 0) rfl Try.call181 rfl (fun w S hw hA hO => ok_s_l00Src_next h16 w S _ (hr4.st1 hw hO) hA) rfl ?_
        rintro _ _ ⟨rfl, rfl⟩
        refine SJ.q (YldS.yld (y_bin rfl rfl rfl)) rfl ?_
        refine SJ.q (YldS.yld (y_assign rfl)) rfl ?_
        refine SJ.nil ?_
        exact PJ.joined (r15.2.at_, r15.2.seed, w64 ((w64 (r7.1 * 256)) + r15.1)) [0] hm ⟨rfl, rfl, trivial⟩ ⟨by decide, rfl⟩
      · replace hm := ifF hm hb14
        refine WJ.skip ?_
        exact PJ.joined (r7.2.at_, r7.2.seed, r7.1) [0] hm ⟨rfl, rfl, trivial⟩ ⟨by decide, rfl⟩
    · rintro ⟨x9, x10, x11⟩ hm
      subst hk13
      refine WJ.seq ?_
      refine WJ.quiet ?_
      refine QJ.step (YldS.yld (y_move rfl)) rfl ?_
      refine QJ.step (YldS.yld (y_move rfl)) rfl ?_
      obtain ⟨q17, h18, hm⟩ := bindS hm
      refine QJ.step (YldS.yld (y_rem' h18 rfl rfl)) rfl ?_
      refine QJ.step (YldS.yld (y_assign rfl)) rfl ?_
      refine QJ.done ?_
      refine PJ.next ?_
      refine WJ.ret ?_
      obtain rfl := Option.some.inj hm
      refine PJ.sel (L' := [box g2 185 [v3, .int .i64 x9, .int .u64 x10]]) [0] ⟨by decide, rfl⟩ ?_
      exact PJ.retn (vs := [.int .i64 q17]) Try.results97 ⟨rfl, trivial⟩ ⟨rfl, rfl⟩

set_option maxRecDepth 100000 in
set_option maxHeartbeats 1000000 in
theorem ok_s_l00Src_text {s1 : L00Src} {list5 : List Str} {g2 : Nat} {r : Str × L00Src} (hm : s_l00Src_text s1 list5 = some r) (w : World) (S : Nat → Prop) (v3 : Value) (hr4 : RdS w (Cx.Fz ⟨w, S⟩) v3 fByte.rp s1.code) (v6 : Value) (hr7 : RdS w (Cx.Fz ⟨w, S⟩) v6 fStr.rp list5) (hA : (box g2 185 [v3, .int .i64 s1.at_, .int .u64 s1.seed]).holds w S) :
    Calls Try.prog 113 #[pt g2 0, v6] w (RetG ⟨w, S⟩ fun u L => (u = str r.1 ∧ L = [box g2 185 [v3, .int .i64 r.2.at_, .int .u64 r.2.seed]])) := by
  unfold s_l00Src_text at hm
  refine Calls.enter1 hA [pt g2 0, v6] Try.func113 rfl Try.ntmps113 rfl ?_
  refine WJ.seq ?_
  refine WJ.quiet ?_
  refine QJ.step (YldS.yld (y_assign rfl)) rfl ?_
  refine QJ.done ?_
  refine PJ.next ?_
  refine WJ.seq ?_
  refine WJ.reg ?_
  refine SJ.q (YldS.yld (y_move rfl)) rfl ?_
  refine SJ.q (YldS.yld (y_move rfl)) rfl ?_
  refine SJ.q (YldS.yld (y_move rfl)) rfl ?_
  refine SJ.q (YldS.yld (y_lenS Try.runUnderlying78 hr7 rfl)) rfl ?_
  obtain ⟨r8, h9, hm⟩ := bindS hm
  refine SJ.call1 (k := 0) rfl Try.call97 rfl (fun w S hw hA hO => ok_s_l00Src_pick h9 w S _ (hr4.st1 hw hO) hA) rfl ?_
  rintro _ _ ⟨rfl, rfl⟩
  obtain ⟨e10, h11, hm⟩ := bindS hm
  obtain ⟨ad12, _, rfl, ha13, hy14⟩ := hr7.elem h11
  refine SJ.q (YldS.yld (hy14 Try.runUnderlying78 Try.sizeOf9 rfl rfl)) rfl ?_
  refine SJ.q (YldS.yld (y_load1 (v := str e10) Try.isAgg9 ha13 St.frozenC rfl)) rfl ?_
  refine SJ.q (YldS.yld (y_assign rfl)) rfl ?_
  refine SJ.nil ?_
  refine PJ.next ?_
  refine WJ.ret ?_
  obtain rfl := Option.some.inj hm
  refine PJ.sel (L' := [box g2 185 [v3, .int .i64 r8.2.at_, .int .u64 r8.2.seed]]) [0] ⟨by decide, rfl⟩ ?_
  exact PJ.retn (vs := [str e10]) Try.results113 ⟨rfl, trivial⟩ ⟨rfl, rfl⟩

set_option maxRecDepth 100000 in
set_option maxHeartbeats 1000000 in
theorem ok_s_l01Small {c1 : UInt8} {r : Bool} (hm : s_l01Small c1 = some r) (w : World)  :
    Calls Try.prog 194 #[.int .u8 (UInt8.toNat c1 : Int)] w (Ret (cx w) (.bool r)) := by
  unfold s_l01Small at hm
  refine Calls.enter [.int .u8 (UInt8.toNat c1 : Int)] Try.func194 rfl Try.ntmps194 rfl ?_
  refine WJ.seq ?_
  refine WJ.quiet ?_
  refine QJ.step (YldS.yld (y_assign rfl)) rfl ?_
  refine QJ.done ?_
  refine PJ.next ?_
  refine WJ.seq ?_
  refine WJ.quiet ?_
  refine QJ.step (YldS.yld (y_move rfl)) rfl ?_
  refine QJ.step (YldS.yld (y_bin8 c1 (97 : UInt8) rfl rfl rfl)) rfl ?_
  refine QJ.step (YldS.yld (y_move rfl)) rfl ?_
  obtain ⟨t2, h3, hm⟩ := bindS hm
  refine QJ.cut 3 [(8, .bool t2)] ?_ ?_
  · rcases Bool.eq_false_or_eq_true (decide (c1 ≥ (97 : UInt8))) with hb4 | hb4
    · replace h3 := andT h3 hb4
      refine QJ.on rfl rfl (cB hb4) (YldS.yld (y_move rfl)) rfl ?_
      refine QJ.on rfl rfl (cB hb4) (YldS.yld (y_bin8 c1 (122 : UInt8) rfl rfl rfl)) rfl ?_
      refine QJ.step (YldS.yld (y_pick_t (cB hb4) rfl)) rfl ?_
      obtain rfl := Option.some.inj h3
      exact QJ.cut_end ⟨rfl, trivial⟩
    · obtain rfl := andF h3 hb4
      refine QJ.off rfl rfl (cB hb4) rfl rfl ?_
      refine QJ.off rfl rfl (cB hb4) rfl rfl ?_
      refine QJ.step (YldS.yld (y_pick_f (cB hb4) rfl)) rfl ?_
      exact QJ.cut_end ⟨rfl, trivial⟩
  refine QJ.step (YldS.yld (y_assign rfl)) rfl ?_
  refine QJ.done ?_
  refine PJ.next ?_
  refine WJ.ret ?_
  obtain rfl := Option.some.inj hm
  refine PJ.sel (L' := []) [] ⟨List.nodup_nil, rfl⟩ ?_
  exact PJ.retn (vs := [.bool t2]) Try.results194 ⟨rfl, trivial⟩ ⟨rfl, rfl⟩

set_option maxRecDepth 100000 in
set_option maxHeartbeats 1000000 in
theorem ok_s_l00In {n1 : Int} {low2 : Int} {high3 : Int} {r : Bool} (hm : s_l00In n1 low2 high3 = some r) (w : World)  :
    Calls Try.prog 110 #[.int .i64 n1, .int .i64 low2, .int .i64 high3] w (Ret (cx w) (.bool r)) := by
  unfold s_l00In at hm
  refine Calls.enter [.int .i64 n1, .int .i64 low2, .int .i64 high3] Try.func110 rfl Try.ntmps110 rfl ?_
  refine WJ.seq ?_
  refine WJ.quiet ?_
  refine QJ.step (YldS.yld (y_assign rfl)) rfl ?_
  refine QJ.done ?_
  refine PJ.next ?_
  refine WJ.seq ?_
  refine WJ.quiet ?_
  refine QJ.step (YldS.yld (y_move rfl)) rfl ?_
  refine QJ.step (YldS.yld (y_move rfl)) rfl ?_
  refine QJ.step (YldS.yld (y_bin rfl rfl rfl)) rfl ?_
  refine QJ.step (YldS.yld (y_move rfl)) rfl ?_
  obtain ⟨t4, h5, hm⟩ := bindS hm
  refine QJ.cut 4 [(14, .bool t4)] ?_ ?_
  · rcases Bool.eq_false_or_eq_true (decide (n1 ≥ low2)) with hb6 | hb6
    · replace h5 := andT h5 hb6
      refine QJ.on rfl rfl (cB hb6) (YldS.yld (y_move rfl)) rfl ?_
      refine QJ.on rfl rfl (cB hb6) (YldS.yld (y_move rfl)) rfl ?_
      refine QJ.on rfl rfl (cB hb6) (YldS.yld (y_bin rfl rfl rfl)) rfl ?_
      refine QJ.step (YldS.yld (y_pick_t (cB hb6) rfl)) rfl ?_
      obtain rfl := Option.some.inj h5
      exact QJ.cut_end ⟨rfl, trivial⟩
    · obtain rfl := andF h5 hb6
      refine QJ.off rfl rfl (cB hb6) rfl rfl ?_
      refine QJ.off rfl rfl (cB hb6) rfl rfl ?_
      refine QJ.off rfl rfl (cB hb6) rfl rfl ?_
      refine QJ.step (YldS.yld (y_pick_f (cB hb6) rfl)) rfl ?_
      exact QJ.cut_end ⟨rfl, trivial⟩
  refine QJ.step (YldS.yld (y_assign rfl)) rfl ?_
  refine QJ.done ?_
  refine PJ.next ?_
  refine WJ.ret ?_
  obtain rfl := Option.some.inj hm
  refine PJ.sel (L' := []) [] ⟨List.nodup_nil, rfl⟩ ?_
  exact PJ.retn (vs := [.bool t4]) Try.results110 ⟨rfl, trivial⟩ ⟨rfl, rfl⟩

set_option maxRecDepth 100000 in
set_option maxHeartbeats 1000000 in
theorem ok_s_l16Word {N : Nat} {s1 : Str} {most2 : Int} {r : Bool} (hm : s_l16Word N s1 most2 = some r) (w : World)  :
    Calls Try.prog 147 #[str s1, .int .i64 most2] w (Ret (cx w) (.bool r)) := by
  unfold s_l16Word at hm
  refine Calls.enter [str s1, .int .i64 most2] Try.func147 rfl Try.ntmps147 rfl ?_
  refine WJ.seq ?_
  refine WJ.quiet ?_
  refine QJ.step (YldS.yld (y_assign rfl)) rfl ?_
  refine QJ.done ?_
  refine PJ.next ?_
  obtain ⟨k3, hk4, hm⟩ := withK_open hm
  refine WJ.join (X := Unit) (fun (_ : Unit) => k3  = some r) (fun (_ : Unit) => [(0, str s1), (1, .int .i64 most2)]) (fun (_ : Unit) => []) ?_ ?_
  · clear hk4
    refine WJ.seq ?_
    refine WJ.quiet ?_
    refine QJ.step (YldS.yld (y_assign rfl)) rfl ?_
    refine QJ.done ?_
    refine PJ.next ?_
    refine WJ.block ?_
    refine WJ.sel (L' := (fun (x : Int) => []) 0) [] ⟨List.nodup_nil, rfl⟩ ?_
    refine WJ.sub (m' := (fun (x : Int) => [(0, str s1), (1, .int .i64 most2), (5, .int .i64 x)]) 0) ⟨rfl, rfl, rfl, trivial⟩ ?_
    refine WJ.loop (X := Int) (fun N (x : Int) => s_l16Word_l1 k3 s1 N x = some r) (fun (x : Int) => [(0, str s1), (1, .int .i64 most2), (5, .int .i64 x)]) (fun (x : Int) => []) ?_ N 0 hm
    · rintro N i5 hI
      have hm := hI; clear hI
      cases N with
      | zero => cases hm
      | succ N =>
      unfold s_l16Word_l1 at hm
      refine WJ.seq ?_
      refine WJ.seq ?_
      refine WJ.quiet ?_
      refine QJ.step (YldS.yld (y_move rfl)) rfl ?_
      refine QJ.step (YldS.yld (y_move rfl)) rfl ?_
      refine QJ.step (YldS.yld (y_lenStr Try.runUnderlying9 rfl)) rfl ?_
      refine QJ.step (YldS.yld (y_bin rfl rfl rfl)) rfl ?_
      refine QJ.done ?_
      refine PJ.next ?_
      refine WJ.cond (t := decide (i5 < (List.length s1 : Int))) rfl (fun hb6 => ?_) (fun hb6 => ?_)
      · replace hm := ifT hm hb6
        refine WJ.skip ?_
        refine PJ.next ?_
        refine WJ.seq ?_
        refine WJ.block ?_
        refine WJ.seq ?_
        refine WJ.quiet ?_
        refine QJ.step (YldS.yld (y_move rfl)) rfl ?_
        refine QJ.step (YldS.yld (y_move rfl)) rfl ?_
        obtain ⟨c7, h8, hm⟩ := bindS hm
        refine QJ.step (YldS.yld (y_idxStr Try.runUnderlying9 rfl rfl h8)) rfl ?_
        obtain ⟨r9, h10, hm⟩ := bindS hm
        refine QJ.step (y_call Try.call194 rfl (RetG.quiet fun w hw => ok_s_l01Small h10 w )) rfl ?_
        refine QJ.step (YldS.yld (y_not rfl)) rfl ?_
        refine QJ.done ?_
        refine PJ.next ?_
        refine WJ.cond (t := !r9) rfl (fun hb11 => ?_) (fun hb11 => ?_)
        · replace hm := ifT hm hb11
          refine WJ.seq ?_
          refine WJ.quiet ?_
          refine QJ.step (YldS.yld (y_assign rfl)) rfl ?_
          refine QJ.done ?_
          refine PJ.next ?_
          refine WJ.ret ?_
          refine PJ.block_ret (PJ.then_ret (PJ.then_ret (PJ.block_ret (PJ.then_ret ?_))))
          obtain rfl := Option.some.inj hm
          refine PJ.sel (L' := []) [] ⟨List.nodup_nil, rfl⟩ ?_
          exact PJ.retn (vs := [.bool false]) Try.results147 ⟨rfl, trivial⟩ ⟨rfl, rfl⟩
        · replace hm := ifF hm hb11
          refine WJ.skip ?_
          refine PJ.block_normal (PJ.next ?_)
          refine WJ.quiet ?_
          refine QJ.step (YldS.yld (y_move rfl)) rfl ?_
          refine QJ.step (YldS.yld (y_bin rfl rfl rfl)) rfl ?_
          refine QJ.step (YldS.yld (y_assign rfl)) rfl ?_
          refine QJ.done ?_
          exact PJ.round (w64 (i5 + 1)) [] hm ⟨rfl, rfl, rfl, trivial⟩ ⟨List.nodup_nil, rfl⟩
      · replace hm := ifF hm hb6
        refine WJ.exit ?_
        refine PJ.then_exit (PJ.then_exit (PJ.block_exit ?_))
        exact PJ.joined () [] hm ⟨rfl, rfl, trivial⟩ ⟨List.nodup_nil, rfl⟩
  · rintro _ hm
    subst hk4
    refine WJ.seq ?_
    refine WJ.quiet ?_
    refine QJ.step (YldS.yld (y_move rfl)) rfl ?_
    refine QJ.step (YldS.yld (y_lenStr Try.runUnderlying9 rfl)) rfl ?_
    refine QJ.step (YldS.yld (y_move rfl)) rfl ?_
    obtain ⟨r12, h13, hm⟩ := bindS hm
    refine QJ.step (y_call Try.call110 rfl (RetG.quiet fun w hw => ok_s_l00In h13 w )) rfl ?_
    refine QJ.step (YldS.yld (y_assign rfl)) rfl ?_
    refine QJ.done ?_
    refine PJ.next ?_
    refine WJ.ret ?_
    obtain rfl := Option.some.inj hm
    refine PJ.sel (L' := []) [] ⟨List.nodup_nil, rfl⟩ ?_
    exact PJ.retn (vs := [.bool r12]) Try.results147 ⟨rfl, trivial⟩ ⟨rfl, rfl⟩

set_option maxRecDepth 100000 in
set_option maxHeartbeats 1000000 in
theorem ok_s_l16List {N : Nat} {words1 : List Str} {r : Bool} (hm : s_l16List N words1 = some r) (w : World) (v2 : Value) (hr3 : RdS w (cx w).Fz v2 fStr.rp words1) :
    Calls Try.prog 144 #[v2] w (Ret (cx w) (.bool r)) := by
  unfold s_l16List at hm
  refine Calls.enter [v2] Try.func144 rfl Try.ntmps144 rfl ?_
  refine WJ.seq ?_
  refine WJ.quiet ?_
  refine QJ.step (YldS.yld (y_assign rfl)) rfl ?_
  refine QJ.done ?_
  refine PJ.next ?_
  obtain ⟨k4, hk5, hm⟩ := withK_open hm
  refine WJ.join (X := Unit) (fun (_ : Unit) => k4  = some r) (fun (_ : Unit) => [(0, v2)]) (fun (_ : Unit) => []) ?_ ?_
  · clear hk5
    refine WJ.seq ?_
    refine WJ.quiet ?_
    refine QJ.step (YldS.yld (y_assign rfl)) rfl ?_
    refine QJ.done ?_
    refine PJ.next ?_
    refine WJ.block ?_
    refine WJ.sel (L' := (fun (x : Int) => []) 0) [] ⟨List.nodup_nil, rfl⟩ ?_
    refine WJ.sub (m' := (fun (x : Int) => [(0, v2), (3, .int .i64 x)]) 0) ⟨rfl, rfl, trivial⟩ ?_
    refine WJ.loop (X := Int) (fun N (x : Int) => s_l16List_l1 k4 words1 N x = some r) (fun (x : Int) => [(0, v2), (3, .int .i64 x)]) (fun (x : Int) => []) ?_ N 0 hm
    · rintro N i6 hI
      have hm := hI; clear hI
      cases N with
      | zero => cases hm
      | succ N =>
      unfold s_l16List_l1 at hm
      refine WJ.seq ?_
      refine WJ.seq ?_
      refine WJ.quiet ?_
      refine QJ.step (YldS.yld (y_move rfl)) rfl ?_
      refine QJ.step (YldS.yld (y_move rfl)) rfl ?_
      refine QJ.step (YldS.yld (y_lenS Try.runUnderlying78 hr3 rfl)) rfl ?_
      refine QJ.step (YldS.yld (y_bin rfl rfl rfl)) rfl ?_
      refine QJ.done ?_
      refine PJ.next ?_
      refine WJ.cond (t := decide (i6 < (List.length words1 : Int))) rfl (fun hb7 => ?_) (fun hb7 => ?_)
      · replace hm := ifT hm hb7
        refine WJ.skip ?_
        refine PJ.next ?_
        obtain ⟨k9, hk9, hm⟩ := withK_open hm
        refine WJ.join (X := Unit) (fun (_ : Unit) => k9  = some r) (fun (_ : Unit) => [(0, v2), (3, .int .i64 i6)]) (fun (_ : Unit) => []) ?_ ?_
        · clear hk9
          refine WJ.block ?_
          refine WJ.seq ?_
          refine WJ.seq ?_
          refine WJ.quiet ?_
          refine QJ.step (YldS.yld (y_move rfl)) rfl ?_
          refine QJ.step (YldS.yld (y_move rfl)) rfl ?_
          obtain ⟨e10, h11, hm⟩ := bindS hm
          obtain ⟨ad12, _, rfl, ha13, hy14⟩ := hr3.elem h11
          refine QJ.step (YldS.yld (hy14 Try.runUnderlying78 Try.sizeOf9 rfl rfl)) rfl ?_
          refine QJ.step (YldS.yld (y_load1 (v := str e10) Try.isAgg9 ha13 St.frozenC rfl)) rfl ?_
          obtain ⟨r15, h16, hm⟩ := bindS hm
          refine QJ.step (y_call Try.call147 rfl (RetG.quiet fun w hw => ok_s_l16Word h16 w )) rfl ?_
          refine QJ.step (YldS.yld (y_not rfl)) rfl ?_
          refine QJ.done ?_
          refine PJ.next ?_
          refine WJ.cond (t := !r15) rfl (fun hb17 => ?_) (fun hb17 => ?_)
          · replace hm := ifT hm hb17
            refine WJ.seq ?_
            refine WJ.quiet ?_
            refine QJ.step (YldS.yld (y_assign rfl)) rfl ?_
            refine QJ.done ?_
            refine PJ.next ?_
            refine WJ.ret ?_
            refine PJ.then_ret (PJ.block_ret (PJ.then_ret (PJ.then_ret (PJ.block_ret (PJ.then_ret ?_)))))
            obtain rfl := Option.some.inj hm
            refine PJ.sel (L' := []) [] ⟨List.nodup_nil, rfl⟩ ?_
            exact PJ.retn (vs := [.bool false]) Try.results144 ⟨rfl, trivial⟩ ⟨rfl, rfl⟩
          · replace hm := ifF hm hb17
            refine WJ.skip ?_
            refine PJ.next ?_
            refine WJ.seq ?_
            refine WJ.quiet ?_
            refine QJ.step (YldS.yld (y_assign rfl)) rfl ?_
            refine QJ.done ?_
            refine PJ.next ?_
            refine WJ.block ?_
            refine WJ.sel (L' := (fun (x : Int) => []) 0) [] ⟨List.nodup_nil, rfl⟩ ?_
            refine WJ.sub (m' := (fun (x : Int) => [(0, v2), (3, .int .i64 i6), (4, .int .i64 x)]) 0) ⟨rfl, rfl, rfl, trivial⟩ ?_
            refine WJ.loop (X := Int) (fun N (x : Int) => s_l16List_l2 k9 words1 i6 N x = some r) (fun (x : Int) => [(0, v2), (3, .int .i64 i6), (4, .int .i64 x)]) (fun (x : Int) => []) ?_ N 0 hm
            · rintro N k18 hI
              have hm := hI; clear hI
              cases N with
              | zero => cases hm
              | succ N =>
              unfold s_l16List_l2 at hm
              refine WJ.seq ?_
              refine WJ.seq ?_
              refine WJ.quiet ?_
              refine QJ.step (YldS.yld (y_move rfl)) rfl ?_
              refine QJ.step (YldS.yld (y_move rfl)) rfl ?_
              refine QJ.step (YldS.yld (y_bin rfl rfl rfl)) rfl ?_
              refine QJ.done ?_
              refine PJ.next ?_
              refine WJ.cond (t := decide (k18 < i6)) rfl (fun hb19 => ?_) (fun hb19 => ?_)
              · replace hm := ifT hm hb19
                refine WJ.skip ?_
                refine PJ.next ?_
                refine WJ.seq ?_
                refine WJ.block ?_
                refine WJ.seq ?_
                refine WJ.quiet_draw follows (by kernel_rfl) ?_
                refine QJ.step (YldS.yld (y_move rfl)) rfl ?_
                refine QJ.step (YldS.yld (y_move rfl)) rfl ?_
                obtain ⟨e20, h21, hm⟩ := bindS hm
                obtain ⟨ad22, _, rfl, ha23, hy24⟩ := hr3.elem h21
                refine QJ.step (YldS.yld (hy24 Try.runUnderlying78 Try.sizeOf9 rfl rfl)) rfl ?_
                refine QJ.step (YldS.yld (y_load1 (v := str e20) Try.isAgg9 ha23 St.frozenC rfl)) rfl ?_
                refine QJ.step (YldS.yld (y_move rfl)) rfl ?_
                refine QJ.step (YldS.yld (y_move rfl)) rfl ?_
                obtain ⟨e25, h26, hm⟩ := bindS hm
                obtain ⟨ad27, _, rfl, ha28, hy29⟩ := hr3.elem h26
                refine QJ.step (YldS.yld (hy29 Try.runUnderlying78 Try.sizeOf9 rfl rfl)) rfl ?_
                refine QJ.step (YldS.yld (y_load1 (v := str e25) Try.isAgg9 ha28 St.frozenC rfl)) rfl ?_
                refine QJ.step (YldS.yld (y_binS rfl rfl rfl)) rfl ?_
                refine QJ.done ?_
                refine PJ.next ?_
                refine WJ.cond (t := (e20 == e25)) rfl (fun hb30 => ?_) (fun hb30 => ?_)
                · replace hm := ifT hm hb30
                  refine WJ.seq ?_
                  refine WJ.quiet ?_
                  refine QJ.step (YldS.yld (y_assign rfl)) rfl ?_
                  refine QJ.done ?_
                  refine PJ.next ?_
                  refine WJ.ret ?_
                  refine PJ.block_ret (PJ.then_ret (PJ.then_ret (PJ.block_ret (PJ.block_ret (PJ.then_ret (PJ.then_ret (PJ.block_ret (PJ.then_ret ?_))))))))
                  obtain rfl := Option.some.inj hm
                  refine PJ.sel (L' := []) [] ⟨List.nodup_nil, rfl⟩ ?_
                  exact PJ.retn (vs := [.bool false]) Try.results144 ⟨rfl, trivial⟩ ⟨rfl, rfl⟩
                · replace hm := ifF hm hb30
                  refine WJ.skip ?_
                  refine PJ.block_normal (PJ.next ?_)
                  refine WJ.quiet ?_
                  refine QJ.step (YldS.yld (y_move rfl)) rfl ?_
                  refine QJ.step (YldS.yld (y_bin rfl rfl rfl)) rfl ?_
                  refine QJ.step (YldS.yld (y_assign rfl)) rfl ?_
                  refine QJ.done ?_
                  exact PJ.round (w64 (k18 + 1)) [] hm ⟨rfl, rfl, rfl, trivial⟩ ⟨List.nodup_nil, rfl⟩
              · replace hm := ifF hm hb19
                refine WJ.exit ?_
                refine PJ.then_exit (PJ.then_exit (PJ.block_exit (PJ.block_normal ?_)))
                exact PJ.joined () [] hm ⟨rfl, rfl, trivial⟩ ⟨List.nodup_nil, rfl⟩
        · rintro _ hm
          subst hk9
          refine WJ.quiet ?_
          refine QJ.step (YldS.yld (y_move rfl)) rfl ?_
          refine QJ.step (YldS.yld (y_bin rfl rfl rfl)) rfl ?_
          refine QJ.step (YldS.yld (y_assign rfl)) rfl ?_
          refine QJ.done ?_
          exact PJ.round (w64 (i6 + 1)) [] hm ⟨rfl, rfl, trivial⟩ ⟨List.nodup_nil, rfl⟩
      · replace hm := ifF hm hb7
        refine WJ.exit ?_
        refine PJ.then_exit (PJ.then_exit (PJ.block_exit ?_))
        exact PJ.joined () [] hm ⟨rfl, trivial⟩ ⟨List.nodup_nil, rfl⟩
  · rintro _ hm
    subst hk5
    refine WJ.seq ?_
    refine WJ.quiet ?_
    refine QJ.step (YldS.yld (y_move rfl)) rfl ?_
    refine QJ.step (YldS.yld (y_lenS Try.runUnderlying78 hr3 rfl)) rfl ?_
    refine QJ.step (YldS.yld (y_bin rfl rfl rfl)) rfl ?_
    refine QJ.step (YldS.yld (y_assign rfl)) rfl ?_
    refine QJ.done ?_
    refine PJ.next ?_
    refine WJ.ret ?_
    obtain rfl := Option.some.inj hm
    refine PJ.sel (L' := []) [] ⟨List.nodup_nil, rfl⟩ ?_
    exact PJ.retn (vs := [.bool (decide ((List.length words1 : Int) ≤ 30))]) Try.results144 ⟨rfl, trivial⟩ ⟨rfl, rfl⟩

set_option maxRecDepth 100000 in
set_option maxHeartbeats 1000000 in
theorem ok_s_l16DrawWords {N : Nat} {s1 : L00Src} {g2 : Nat} {r : (List Str) × L00Src} (hm : s_l16DrawWords N s1 = some r) (w : World) (S : Nat → Prop) (v3 : Value) (hr4 : RdS w (Cx.Fz ⟨w, S⟩) v3 fByte.rp s1.code) (hA : (box g2 185 [v3, .int .i64 s1.at_, .int .u64 s1.seed]).holds w S) :
    Calls Try.prog 141 #[pt g2 0] w (RetG ⟨w, S⟩ fun u L => ∃ (u1 : Value), (u = u1 ∧ L = [box g2 185 [v3, .int .i64 r.2.at_, .int .u64 r.2.seed], row u1 9 fStr r.1])) := by
  unfold s_l16DrawWords at hm
  refine Calls.enter1 hA [pt g2 0] Try.func141 rfl Try.ntmps141 rfl ?_
  refine WJ.seq ?_
  refine WJ.quiet ?_
  refine QJ.step (YldS.yld (y_assign rfl)) rfl ?_
  refine QJ.done ?_
  refine PJ.next ?_
  refine WJ.seq ?_
  refine WJ.reg ?_
  refine SJ.buildSlice (R := fStr) (os := []) [] Try.runUnderlying78 Try.sizeOf9 Try.zeroValue9 rfl rfl rfl rfl rfl rfl fun v5 => ?_
  refine SJ.q (YldS.yld (y_assign rfl)) rfl ?_
  refine SJ.nil ?_
  refine PJ.next ?_
  obtain ⟨k10, hk11, hm⟩ := withK_open hm
  refine WJ.join (X := Int × Int × (List Str) × Value) (fun (x : Int × Int × (List Str) × Value) => k10 x.1 x.2.1 x.2.2.1 = some r) (fun (x : Int × Int × (List Str) × Value) => [(0, pt g2 0), (3, x.2.2.2)]) (fun (x : Int × Int × (List Str) × Value) => [box g2 185 [v3, .int .i64 x.1, .int .u64 x.2.1], row x.2.2.2 9 fStr x.2.2.1]) ?_ ?_
  · clear hk11
    refine WJ.seq ?_
    refine WJ.reg ?_
    refine SJ.q (YldS.yld (y_move rfl)) rfl ?_
    obtain ⟨r12, h13, hm⟩ := bindS hm
    refine SJ.call1 (k := 1) rfl Try.call97 rfl (fun w S hw hA hO => ok_s_l00Src_pick h13 w S _ (hr4.st1 hw hO) hA) rfl ?_
    rintro _ _ ⟨rfl, rfl⟩
    refine SJ.q (YldS.yld (y_assign rfl)) rfl ?_
    refine SJ.nil ?_
    refine PJ.next ?_
    refine WJ.block ?_
    refine WJ.sel (L' := (fun (x : Int × Int × (List Str) × Value × Int) => [box g2 185 [v3, .int .i64 x.1, .int .u64 x.2.1], row x.2.2.2.1 9 fStr x.2.2.1]) (r12.2.at_, r12.2.seed, [], v5, r12.1)) [0, 1] ⟨by decide, rfl⟩ ?_
    refine WJ.sub (m' := (fun (x : Int × Int × (List Str) × Value × Int) => [(0, pt g2 0), (3, x.2.2.2.1), (4, .int .i64 x.2.2.2.2)]) (r12.2.at_, r12.2.seed, [], v5, r12.1)) ⟨rfl, rfl, rfl, trivial⟩ ?_
    refine WJ.loop (X := Int × Int × (List Str) × Value × Int) (fun N (x : Int × Int × (List Str) × Value × Int) => s_l16DrawWords_l1 k10 s1 N x.1 x.2.1 x.2.2.1 x.2.2.2.2 = some r) (fun (x : Int × Int × (List Str) × Value × Int) => [(0, pt g2 0), (3, x.2.2.2.1), (4, .int .i64 x.2.2.2.2)]) (fun (x : Int × Int × (List Str) × Value × Int) => [box g2 185 [v3, .int .i64 x.1, .int .u64 x.2.1], row x.2.2.2.1 9 fStr x.2.2.1]) ?_ N (r12.2.at_, r12.2.seed, [], v5, r12.1) hm
    · rintro N ⟨x14, x15, l16, v17, k18⟩ hI
      have hm := hI; clear hI
      cases N with
      | zero => cases hm
      | succ N =>
      unfold s_l16DrawWords_l1 at hm
      refine WJ.seq ?_
      refine WJ.seq ?_
      refine WJ.quiet ?_
      refine QJ.step (YldS.yld (y_move rfl)) rfl ?_
      refine QJ.step (YldS.yld (y_bin rfl rfl rfl)) rfl ?_
      refine QJ.done ?_
      refine PJ.next ?_
      refine WJ.cond (t := decide (k18 > 0)) rfl (fun hb19 => ?_) (fun hb19 => ?_)
      · replace hm := ifT hm hb19
        refine WJ.skip ?_
        refine PJ.next ?_
        obtain ⟨k25, hk25, hm⟩ := withK_open hm
        refine WJ.join (X := Int × Int × (List Str) × Value) (fun (x : Int × Int × (List Str) × Value) => k25 x.1 x.2.1 x.2.2.1 = some r) (fun (x : Int × Int × (List Str) × Value) => [(0, pt g2 0), (3, x.2.2.2), (4, .int .i64 k18)]) (fun (x : Int × Int × (List Str) × Value) => [box g2 185 [v3, .int .i64 x.1, .int .u64 x.2.1], row x.2.2.2 9 fStr x.2.2.1]) ?_ ?_
        · clear hk25
          refine WJ.block ?_
          refine WJ.seq ?_
          refine WJ.reg ?_
          refine SJ.q (YldS.yld (y_move rfl)) rfl ?_
          refine SJ.buildSlice (R := fStr) (os := [.const (str [98, 97, 114]), .const (str [98, 97, 114, 107]), .const (str [98, 97, 114, 110]), .const (str [98, 97, 115, 101]), .const (str [98, 101, 108, 108]), .const (str [99, 97, 114, 114, 105, 97, 103, 101]), .const (str [99, 97, 114, 98, 111, 110]), .const (str [99, 97, 114, 100]), .const (str [99, 97, 114, 101]), .const (str [107, 101, 121])]) [[98, 97, 114], [98, 97, 114, 107], [98, 97, 114, 110], [98, 97, 115, 101], [98, 101, 108, 108], [99, 97, 114, 114, 105, 97, 103, 101], [99, 97, 114, 98, 111, 110], [99, 97, 114, 100], [99, 97, 114, 101], [107, 101, 121]] Try.runUnderlying78 Try.sizeOf9 Try.zeroValue9 rfl rfl rfl rfl rfl rfl fun v26 => ?_
          obtain ⟨r27, h28, hm⟩ := bindS hm
          refine SJ.call2 (k := 1) rfl Try.call113 rfl (fun w S hw hA hO hB => ok_s_l00Src_text h28 w S _ (hr4.st1 hw hO) _ (hB.row_rd (j := 0) (k := 1) rfl rfl) hA) rfl ?_
          rintro _ _ ⟨rfl, rfl⟩
          refine SJ.q (YldS.yld (y_assign rfl)) rfl ?_
          refine SJ.nil ?_
          refine PJ.next ?_
          refine WJ.seq ?_
          refine WJ.reg ?_
          refine SJ.buildSlice (R := fStr) (os := []) [] Try.runUnderlying78 Try.sizeOf9 Try.zeroValue9 rfl rfl rfl rfl rfl rfl fun v29 => ?_
          refine SJ.q (YldS.yld (y_move rfl)) rfl ?_
          obtain ⟨l30, h31, hm⟩ := bindS hm
          refine SJ.append (k := 0) (R := fStr) h31 rfl Try.underlying78 el9 rfl rfl rfl (fun w hw => (hw.row_rd (k := 3) rfl)) rfl fun v32 => ?_
          refine SJ.q (YldS.yld (y_move rfl)) rfl ?_
          refine SJ.buildSlice (R := fStr) (os := [.tmp 21]) [r27.1] Try.runUnderlying78 Try.sizeOf9 Try.zeroValue9 rfl rfl rfl rfl rfl rfl fun v33 => ?_
          obtain ⟨l34, h35, hm⟩ := bindS hm
          refine SJ.append (k := 1) (R := fStr) h35 rfl Try.underlying78 el9 rfl rfl rfl (fun w hw => (hw.row_rd (k := 0) rfl)) rfl fun v36 => ?_
          obtain ⟨r37, h38, hm⟩ := bindS hm
          refine SJ.q (y_call Try.call144 rfl (RetG.quiet fun w hw => ok_s_l16List h38 w _ (hw.row_rd (k := 1) rfl))) rfl ?_
          refine SJ.nil ?_
          refine PJ.next ?_
          refine WJ.cond (t := r37) rfl (fun hb39 => ?_) (fun hb39 => ?_)
          · replace hm := ifT hm hb39
            refine WJ.reg ?_
            refine SJ.q (YldS.yld (y_move rfl)) rfl ?_
            refine SJ.q (YldS.yld (y_move rfl)) rfl ?_
            refine SJ.buildSlice (R := fStr) (os := [.tmp 26]) [r27.1] Try.runUnderlying78 Try.sizeOf9 Try.zeroValue9 rfl rfl rfl rfl rfl rfl fun v40 => ?_
            obtain ⟨l41, h42, hm⟩ := bindS hm
            refine SJ.append (k := 5) (R := fStr) h42 rfl Try.underlying78 el9 rfl rfl rfl (fun w hw => (hw.row_rd (k := 0) rfl)) rfl fun v43 => ?_
            refine SJ.q (YldS.yld (y_assign rfl)) rfl ?_
            refine SJ.nil ?_
            refine PJ.block_normal ?_
            exact PJ.joined (r27.2.at_, r27.2.seed, l41, v43) [3, 5] hm ⟨rfl, rfl, rfl, trivial⟩ ⟨by decide, rfl⟩
          · replace hm := ifF hm hb39
            refine WJ.skip ?_
            refine PJ.block_normal ?_
            exact PJ.joined (r27.2.at_, r27.2.seed, l16, v17) [2, 4] hm ⟨rfl, rfl, rfl, trivial⟩ ⟨by decide, rfl⟩
        · rintro ⟨x20, x21, l22, v23⟩ hm
          subst hk25
          refine WJ.quiet ?_
          refine QJ.step (YldS.yld (y_move rfl)) rfl ?_
          refine QJ.step (YldS.yld (y_bin rfl rfl rfl)) rfl ?_
          refine QJ.step (YldS.yld (y_assign rfl)) rfl ?_
          refine QJ.done ?_
          exact PJ.round (x20, x21, l22, v23, w64 (k18 - 1)) [0, 1] hm ⟨rfl, rfl, rfl, trivial⟩ ⟨by decide, rfl⟩
      · replace hm := ifF hm hb19
        refine WJ.exit ?_
        refine PJ.then_exit (PJ.then_exit (PJ.block_exit ?_))
        exact PJ.joined (x14, x15, l16, v17) [0, 1] hm ⟨rfl, rfl, trivial⟩ ⟨by decide, rfl⟩
  · rintro ⟨x6, x7, l8, v9⟩ hm
    subst hk11
    obtain ⟨k48, hk49, hm⟩ := withK_open hm
    refine WJ.join (X := Int × Int × (List Str) × Value) (fun (x : Int × Int × (List Str) × Value) => k48 x.1 x.2.1 x.2.2.1 = some r) (fun (x : Int × Int × (List Str) × Value) => [(3, x.2.2.2)]) (fun (x : Int × Int × (List Str) × Value) => [box g2 185 [v3, .int .i64 x.1, .int .u64 x.2.1], row x.2.2.2 9 fStr x.2.2.1]) ?_ ?_
    · clear hk49
      refine WJ.seq ?_
      refine WJ.reg ?_
      refine SJ.q (YldS.yld (y_move rfl)) rfl ?_
      obtain ⟨r50, h51, hm⟩ := bindS hm
      refine SJ.call1 (k := 0) rfl Try.call97 rfl (fun w S hw hA hO => ok_s_l00Src_pick h51 w S _ (hr4.st1 hw hO) hA) rfl ?_
      rintro _ _ ⟨rfl, rfl⟩
      refine SJ.nil ?_
      refine PJ.next ?_
      refine WJ.block ?_
      refine WJ.seq ?_
      refine WJ.quiet ?_
      refine QJ.step (YldS.yld (y_bin rfl rfl rfl)) rfl ?_
      refine QJ.step (YldS.yld (y_assign rfl)) rfl ?_
      refine QJ.done ?_
      refine PJ.next ?_
      refine WJ.cond (t := (r50.1 == 0)) rfl (fun hb52 => ?_) (fun hb52 => ?_)
      · replace hm := ifT hm hb52
        refine WJ.reg ?_
        refine SJ.q (YldS.yld (y_move rfl)) rfl ?_
        refine SJ.q (YldS.yld (y_move rfl)) rfl ?_
        refine SJ.buildSlice (R := fStr) (os := [.const (str []), .const (str [66, 97, 114]), .const (str [97, 98, 99, 100, 101, 102, 103, 104, 105, 106, 107, 108, 109, 110, 111, 112, 113, 114, 115, 116, 117, 118, 119, 120, 121, 122, 97, 98, 99, 100]), .const (str [97, 98, 99, 100, 101, 102, 103, 104, 105, 106, 107, 108, 109, 110, 111, 112, 113, 114, 115, 116, 117, 118, 119, 120, 121, 122, 97, 98, 99, 100, 101])]) [[], [66, 97, 114], [97, 98, 99, 100, 101, 102, 103, 104, 105, 106, 107, 108, 109, 110, 111, 112, 113, 114, 115, 116, 117, 118, 119, 120, 121, 122, 97, 98, 99, 100], [97, 98, 99, 100, 101, 102, 103, 104, 105, 106, 107, 108, 109, 110, 111, 112, 113, 114, 115, 116, 117, 118, 119, 120, 121, 122, 97, 98, 99, 100, 101]] Try.runUnderlying78 Try.sizeOf9 Try.zeroValue9 rfl rfl rfl rfl rfl rfl fun v53 => ?_
        obtain ⟨r54, h55, hm⟩ := bindS hm
        refine SJ.call2 (k := 1) rfl Try.call113 rfl (fun w S hw hA hO hB => ok_s_l00Src_text h55 w S _ (hr4.st1 hw hO) _ (hB.row_rd (j := 0) (k := 1) rfl rfl) hA) rfl ?_
        rintro _ _ ⟨rfl, rfl⟩
        refine SJ.buildSlice (R := fStr) (os := [.tmp 36]) [r54.1] Try.runUnderlying78 Try.sizeOf9 Try.zeroValue9 rfl rfl rfl rfl rfl rfl fun v56 => ?_
        obtain ⟨l57, h58, hm⟩ := bindS hm
        refine SJ.append (k := 3) (R := fStr) h58 rfl Try.underlying78 el9 rfl rfl rfl (fun w hw => (hw.row_rd (k := 0) rfl)) rfl fun v59 => ?_
        refine SJ.q (YldS.yld (y_assign rfl)) rfl ?_
        refine SJ.nil ?_
        refine PJ.block_normal ?_
        exact PJ.joined (r54.2.at_, r54.2.seed, l57, v59) [1, 3] hm ⟨rfl, trivial⟩ ⟨by decide, rfl⟩
      · replace hm := ifF hm hb52
        refine WJ.seq ?_
        refine WJ.quiet ?_
        refine QJ.step (YldS.yld (y_bin rfl rfl rfl)) rfl ?_
        refine QJ.step (YldS.yld (y_assign rfl)) rfl ?_
        refine QJ.done ?_
        refine PJ.next ?_
        refine WJ.cond (t := (r50.1 == 1)) rfl (fun hb60 => ?_) (fun hb60 => ?_)
        · replace hm := ifT hm hb60
          refine WJ.seq ?_
          refine WJ.reg ?_
          refine SJ.buildSlice (R := fStr) (os := []) [] Try.runUnderlying78 Try.sizeOf9 Try.zeroValue9 rfl rfl rfl rfl rfl rfl fun v61 => ?_
          refine SJ.q (YldS.yld (y_assign rfl)) rfl ?_
          refine SJ.nil ?_
          refine PJ.next ?_
          refine WJ.seq ?_
          refine WJ.reg ?_
          refine SJ.q (YldS.yld (y_move rfl)) rfl ?_
          obtain ⟨r62, h63, hm⟩ := bindS hm
          refine SJ.call1 (k := 1) rfl Try.call97 rfl (fun w S hw hA hO => ok_s_l00Src_pick h63 w S _ (hr4.st1 hw hO) hA) rfl ?_
          rintro _ _ ⟨rfl, rfl⟩
          refine SJ.q (YldS.yld (y_bin rfl rfl rfl)) rfl ?_
          refine SJ.q (YldS.yld (y_assign rfl)) rfl ?_
          refine SJ.nil ?_
          refine PJ.next ?_
          refine WJ.block ?_
          refine WJ.sel (L' := (fun (x : (List Str) × Value × Int) => [box g2 185 [v3, .int .i64 r62.2.at_, .int .u64 r62.2.seed], row x.2.1 9 fStr x.1]) ([], v61, w64 (30 + r62.1))) [0, 1] ⟨by decide, rfl⟩ ?_
          refine WJ.sub (m' := (fun (x : (List Str) × Value × Int) => [(3, x.2.1), (6, .int .i64 x.2.2)]) ([], v61, w64 (30 + r62.1))) ⟨rfl, rfl, trivial⟩ ?_
          refine WJ.loop (X := (List Str) × Value × Int) (fun N (x : (List Str) × Value × Int) => s_l16DrawWords_l2 k48 r62 N x.1 x.2.2 = some r) (fun (x : (List Str) × Value × Int) => [(3, x.2.1), (6, .int .i64 x.2.2)]) (fun (x : (List Str) × Value × Int) => [box g2 185 [v3, .int .i64 r62.2.at_, .int .u64 r62.2.seed], row x.2.1 9 fStr x.1]) ?_ N ([], v61, w64 (30 + r62.1)) hm
          · rintro N ⟨l64, v65, k66⟩ hI
            have hm := hI; clear hI
            cases N with
            | zero => cases hm
            | succ N =>
            unfold s_l16DrawWords_l2 at hm
            refine WJ.seq ?_
            refine WJ.seq ?_
            refine WJ.quiet ?_
            refine QJ.step (YldS.yld (y_move rfl)) rfl ?_
            refine QJ.step (YldS.yld (y_bin rfl rfl rfl)) rfl ?_
            refine QJ.done ?_
            refine PJ.next ?_
            refine WJ.cond (t := decide (k66 > 0)) rfl (fun hb67 => ?_) (fun hb67 => ?_)
            · replace hm := ifT hm hb67
              refine WJ.skip ?_
              refine PJ.next ?_
              refine WJ.seq ?_
              refine WJ.block ?_
              refine WJ.seq ?_
              refine WJ.quiet ?_
              refine QJ.step (YldS.yld (y_move rfl)) rfl ?_
              refine QJ.step (YldS.yld (y_lenRow (k := 1) rfl Try.runUnderlying78 rfl)) rfl ?_
              refine QJ.step (YldS.yld (y_convTo8 Try.runUnderlying3 Try.runUnderlying5 rfl)) rfl ?_
              refine QJ.step (YldS.yld (y_assign rfl)) rfl ?_
              refine QJ.done ?_
              refine PJ.next ?_
              refine WJ.reg ?_
              refine SJ.q (YldS.yld (y_move rfl)) rfl ?_
              refine SJ.q (YldS.yld (y_move rfl)) rfl ?_
              refine SJ.q (YldS.yld (y_quo8 (a := (UInt8.ofInt (List.length l64 : Int))) rfl rfl (by decide))) rfl ?_
              refine SJ.q (YldS.yld (y_bin8 (97 : UInt8) (UInt8.ofInt (Int.tdiv (UInt8.toNat (UInt8.ofInt (List.length l64 : Int)) : Int) 26)) rfl rfl rfl)) rfl ?_
              refine SJ.q (YldS.yld (y_move rfl)) rfl ?_
              refine SJ.q (YldS.yld (y_rem8 (a := (UInt8.ofInt (List.length l64 : Int))) rfl rfl (by decide))) rfl ?_
              refine SJ.q (YldS.yld (y_bin8 (97 : UInt8) (UInt8.ofInt (Int.tmod (UInt8.toNat (UInt8.ofInt (List.length l64 : Int)) : Int) 26)) rfl rfl rfl)) rfl ?_
              refine SJ.buildSlice (R := fByte) (os := [.tmp 55, .tmp 58]) [(97 : UInt8) + (UInt8.ofInt (Int.tdiv (UInt8.toNat (UInt8.ofInt (List.length l64 : Int)) : Int) 26)), (97 : UInt8) + (UInt8.ofInt (Int.tmod (UInt8.toNat (UInt8.ofInt (List.length l64 : Int)) : Int) 26))] Try.runUnderlying22 Try.sizeOf5 Try.zeroValue5 rfl rfl rfl rfl rfl rfl fun v68 => ?_
              refine SJ.q (YldS.yld (y_b2s Try.underlying22 Try.underlying9 Try.underlying5 (fun w hw => ⟨_, (hw.row_rd (k := 0) rfl)⟩) rfl)) rfl ?_
              refine SJ.buildSlice (R := fStr) (os := [.tmp 60]) [[(97 : UInt8) + (UInt8.ofInt (Int.tdiv (UInt8.toNat (UInt8.ofInt (List.length l64 : Int)) : Int) 26)), (97 : UInt8) + (UInt8.ofInt (Int.tmod (UInt8.toNat (UInt8.ofInt (List.length l64 : Int)) : Int) 26))]] Try.runUnderlying78 Try.sizeOf9 Try.zeroValue9 rfl rfl rfl rfl rfl rfl fun v69 => ?_
              obtain ⟨l70, h71, hm⟩ := bindS hm
              refine SJ.append (k := 3) (R := fStr) h71 rfl Try.underlying78 el9 rfl rfl rfl (fun w hw => (hw.row_rd (k := 0) rfl)) rfl fun v72 => ?_
              refine SJ.q (YldS.yld (y_assign rfl)) rfl ?_
              refine SJ.nil ?_
              refine PJ.block_normal (PJ.next ?_)
              refine WJ.quiet ?_
              refine QJ.step (YldS.yld (y_move rfl)) rfl ?_
              refine QJ.step (YldS.yld (y_bin rfl rfl rfl)) rfl ?_
              refine QJ.step (YldS.yld (y_assign rfl)) rfl ?_
              refine QJ.done ?_
              exact PJ.round (l70, v72, w64 (k66 - 1)) [2, 3] hm ⟨rfl, rfl, trivial⟩ ⟨by decide, rfl⟩
            · replace hm := ifF hm hb67
              refine WJ.exit ?_
              refine PJ.then_exit (PJ.then_exit (PJ.block_exit (PJ.block_normal ?_)))
              exact PJ.joined (r62.2.at_, r62.2.seed, l64, v65) [0, 1] hm ⟨rfl, trivial⟩ ⟨by decide, rfl⟩
        · replace hm := ifF hm hb60
          refine WJ.skip ?_
          refine PJ.block_normal ?_
          exact PJ.joined (r50.2.at_, r50.2.seed, l8, v9) [0, 1] hm ⟨rfl, trivial⟩ ⟨by decide, rfl⟩
    · rintro ⟨x44, x45, l46, v47⟩ hm
      subst hk49
      refine WJ.seq ?_
      refine WJ.quiet ?_
      refine QJ.step (YldS.yld (y_move rfl)) rfl ?_
      refine QJ.step (YldS.yld (y_assign rfl)) rfl ?_
      refine QJ.done ?_
      refine PJ.next ?_
      refine WJ.ret ?_
      obtain rfl := Option.some.inj hm
      refine PJ.sel (L' := [box g2 185 [v3, .int .i64 x44, .int .u64 x45], row v47 9 fStr l46]) [0, 1] ⟨by decide, rfl⟩ ?_
      exact PJ.retn (vs := [v47]) Try.results141 ⟨rfl, trivial⟩ ⟨_, rfl, rfl⟩

set_option maxRecDepth 100000 in
set_option maxHeartbeats 1000000 in
theorem ok_s_DrawShortestStarts {N : Nat} {code1 : List UInt8} {r : (List Str)} (hm : s_DrawShortestStarts N code1 = some r) (w : World) (v2 : Value) (hr3 : RdS w (cx w).Fz v2 fByte.rp code1) :
    Calls Try.prog 53 #[v2] w (RetG (cx w) fun u L => ∃ (u1 : Value), (u = u1 ∧ L = [row u1 9 fStr r])) := by
  unfold s_DrawShortestStarts at hm
  refine Calls.enter [v2] Try.func53 rfl Try.ntmps53 rfl ?_
  refine WJ.seq ?_
  refine WJ.quiet ?_
  refine QJ.step (YldS.yld (y_assign rfl)) rfl ?_
  refine QJ.done ?_
  refine PJ.next ?_
  refine WJ.seq ?_
  refine WJ.reg ?_
  refine SJ.q (YldS.yld (y_move rfl)) rfl ?_
  obtain ⟨r4, h5, hm⟩ := bindS hm
  refine SJ.call Try.call95 rfl (fun w hw => ok_s_l00From h5 w _ (hr3.st hw)) rfl ?_
  rintro _ _ ⟨g6, rfl, rfl⟩
  obtain ⟨r7, h8, hm⟩ := bindS hm
  refine SJ.call1 (k := 0) rfl Try.call141 rfl (fun w S hw hA hO => ok_s_l16DrawWords h8 w S _ (hr3.st1 hw hO) hA) rfl ?_
  rintro v9 _ ⟨_, rfl, rfl⟩
  refine SJ.q (YldS.yld (y_assign rfl)) rfl ?_
  refine SJ.nil ?_
  refine PJ.next ?_
  refine WJ.ret ?_
  obtain rfl := Option.some.inj hm
  refine PJ.sel (L' := [row v9 9 fStr r7.1]) [1] ⟨by decide, rfl⟩ ?_
  exact PJ.retn (vs := [v9]) Try.results53 ⟨rfl, trivial⟩ ⟨_, rfl, rfl⟩

set_option maxRecDepth 100000 in
set_option maxHeartbeats 1000000 in
theorem ok_i_isSmallWord {N : Nat} {s1 : Str} {r : Bool} (hm : i_isSmallWord N s1 = some r) (w : World)  :
    Calls Try.prog 146 #[str s1] w (Ret (cx w) (.bool r)) := by
  unfold i_isSmallWord at hm
  refine Calls.enter [str s1] Try.func146 rfl Try.ntmps146 rfl ?_
  refine WJ.seq ?_
  refine WJ.quiet ?_
  refine QJ.step (YldS.yld (y_assign rfl)) rfl ?_
  refine QJ.done ?_
  refine PJ.next ?_
  obtain ⟨k2, hk3, hm⟩ := withK_open hm
  refine WJ.join (X := Unit) (fun (_ : Unit) => k2  = some r) (fun (_ : Unit) => [(0, str s1)]) (fun (_ : Unit) => []) ?_ ?_
  · clear hk3
    refine WJ.seq ?_
    refine WJ.quiet ?_
    refine QJ.step (YldS.yld (y_move rfl)) rfl ?_
    refine QJ.step (YldS.yld (y_lenStr Try.runUnderlying9 rfl)) rfl ?_
    refine QJ.step (YldS.yld (y_move rfl)) rfl ?_
    refine QJ.done ?_
    refine PJ.next ?_
    refine WJ.block ?_
    refine WJ.sel (L' := (fun (x : Int) => []) 0) [] ⟨List.nodup_nil, rfl⟩ ?_
    refine WJ.sub (m' := (fun (x : Int) => [(0, str s1), (5, .int .i64 (List.length s1 : Int)), (6, .int .i64 x)]) 0) ⟨rfl, rfl, rfl, trivial⟩ ?_
    refine WJ.loop (X := Int) (fun N (x : Int) => i_isSmallWord_l1 k2 s1 N x = some r) (fun (x : Int) => [(0, str s1), (5, .int .i64 (List.length s1 : Int)), (6, .int .i64 x)]) (fun (x : Int) => []) ?_ N 0 hm
    · rintro N x4 hI
      have hm := hI; clear hI
      cases N with
      | zero => cases hm
      | succ N =>
      unfold i_isSmallWord_l1 at hm
      refine WJ.seq ?_
      refine WJ.quiet ?_
      refine QJ.step (YldS.yld (y_bin rfl rfl rfl)) rfl ?_
      refine QJ.done ?_
      refine PJ.next ?_
      refine WJ.seq ?_
      refine WJ.cond (t := decide (x4 < (List.length s1 : Int))) rfl (fun hb5 => ?_) (fun hb5 => ?_)
      · replace hm := ifT hm hb5
        refine WJ.skip ?_
        refine PJ.next ?_
        refine WJ.seq ?_
        refine WJ.block ?_
        refine WJ.seq ?_
        refine WJ.quiet ?_
        refine QJ.step (YldS.yld (y_move rfl)) rfl ?_
        refine QJ.step (YldS.yld (y_assign rfl)) rfl ?_
        refine QJ.done ?_
        refine PJ.next ?_
        refine WJ.seq ?_
        refine WJ.quiet ?_
        refine QJ.step (YldS.yld (y_move rfl)) rfl ?_
        refine QJ.step (YldS.yld (y_move rfl)) rfl ?_
        obtain ⟨c6, h7, hm⟩ := bindS hm
        refine QJ.step (YldS.yld (y_idxStr Try.runUnderlying9 rfl rfl h7)) rfl ?_
        refine QJ.step (YldS.yld (y_bin8 c6 (97 : UInt8) rfl rfl rfl)) rfl ?_
        refine QJ.step (YldS.yld (y_move rfl)) rfl ?_
        obtain ⟨t8, h9, hm⟩ := bindS hm
        refine QJ.cut 5 [(0, str s1), (5, .int .i64 (List.length s1 : Int)), (6, .int .i64 x4), (18, .bool t8)] ?_ ?_
        · rcases Bool.eq_false_or_eq_true (decide (c6 < (97 : UInt8))) with hb10 | hb10
          · obtain rfl := orT h9 hb10
            refine QJ.off rfl rfl (cB hb10) rfl rfl ?_
            refine QJ.off rfl rfl (cB hb10) rfl rfl ?_
            refine QJ.off rfl rfl (cB hb10) rfl rfl ?_
            refine QJ.off rfl rfl (cB hb10) rfl rfl ?_
            refine QJ.step (YldS.yld (y_pick_t (cB hb10) rfl)) rfl ?_
            exact QJ.cut_end ⟨rfl, rfl, rfl, rfl, trivial⟩
          · replace h9 := orF h9 hb10
            refine QJ.on rfl rfl (cB hb10) (YldS.yld (y_move rfl)) rfl ?_
            refine QJ.on rfl rfl (cB hb10) (YldS.yld (y_move rfl)) rfl ?_
            obtain ⟨c11, h12, h9⟩ := bindS h9
            refine QJ.on rfl rfl (cB hb10) (YldS.yld (y_idxStr Try.runUnderlying9 rfl rfl h12)) rfl ?_
            refine QJ.on rfl rfl (cB hb10) (YldS.yld (y_bin8 c11 (122 : UInt8) rfl rfl rfl)) rfl ?_
            refine QJ.step (YldS.yld (y_pick_f (cB hb10) rfl)) rfl ?_
            obtain rfl := Option.some.inj h9
            exact QJ.cut_end ⟨rfl, rfl, rfl, rfl, trivial⟩
        refine QJ.done ?_
        refine PJ.next ?_
        refine WJ.cond (t := t8) rfl (fun hb13 => ?_) (fun hb13 => ?_)
        · replace hm := ifT hm hb13
          refine WJ.seq ?_
          refine WJ.quiet ?_
          refine QJ.step (YldS.yld (y_assign rfl)) rfl ?_
          refine QJ.done ?_
          refine PJ.next ?_
          refine WJ.ret ?_
          refine PJ.block_ret (PJ.then_ret (PJ.then_ret (PJ.block_ret (PJ.then_ret ?_))))
          obtain rfl := Option.some.inj hm
          refine PJ.sel (L' := []) [] ⟨List.nodup_nil, rfl⟩ ?_
          exact PJ.retn (vs := [.bool false]) Try.results146 ⟨rfl, trivial⟩ ⟨rfl, rfl⟩
        · replace hm := ifF hm hb13
          refine WJ.skip ?_
          refine PJ.block_normal (PJ.next ?_)
          refine WJ.quiet ?_
          refine QJ.step (YldS.yld (y_bin rfl rfl rfl)) rfl ?_
          refine QJ.step (YldS.yld (y_move rfl)) rfl ?_
          refine QJ.done ?_
          exact PJ.round (w64 (x4 + 1)) [] hm ⟨rfl, rfl, rfl, trivial⟩ ⟨List.nodup_nil, rfl⟩
      · replace hm := ifF hm hb5
        refine WJ.exit ?_
        refine PJ.then_exit (PJ.then_exit (PJ.block_exit ?_))
        exact PJ.joined () [] hm ⟨rfl, trivial⟩ ⟨List.nodup_nil, rfl⟩
  · rintro _ hm
    subst hk3
    refine WJ.seq ?_
    refine WJ.quiet ?_
    refine QJ.step (YldS.yld (y_move rfl)) rfl ?_
    refine QJ.step (YldS.yld (y_lenStr Try.runUnderlying9 rfl)) rfl ?_
    refine QJ.step (YldS.yld (y_bin rfl rfl rfl)) rfl ?_
    refine QJ.step (YldS.yld (y_move rfl)) rfl ?_
    obtain ⟨t14, h15, hm⟩ := bindS hm
    refine QJ.cut 4 [(27, .bool t14)] ?_ ?_
    · rcases Bool.eq_false_or_eq_true (decide ((List.length s1 : Int) ≥ 1)) with hb16 | hb16
      · replace h15 := andT h15 hb16
        refine QJ.on rfl rfl (cB hb16) (YldS.yld (y_move rfl)) rfl ?_
        refine QJ.on rfl rfl (cB hb16) (YldS.yld (y_lenStr Try.runUnderlying9 rfl)) rfl ?_
        refine QJ.on rfl rfl (cB hb16) (YldS.yld (y_bin rfl rfl rfl)) rfl ?_
        refine QJ.step (YldS.yld (y_pick_t (cB hb16) rfl)) rfl ?_
        obtain rfl := Option.some.inj h15
        exact QJ.cut_end ⟨rfl, trivial⟩
      · obtain rfl := andF h15 hb16
        refine QJ.off rfl rfl (cB hb16) rfl rfl ?_
        refine QJ.off rfl rfl (cB hb16) rfl rfl ?_
        refine QJ.off rfl rfl (cB hb16) rfl rfl ?_
        refine QJ.step (YldS.yld (y_pick_f (cB hb16) rfl)) rfl ?_
        exact QJ.cut_end ⟨rfl, trivial⟩
    refine QJ.step (YldS.yld (y_assign rfl)) rfl ?_
    refine QJ.done ?_
    refine PJ.next ?_
    refine WJ.ret ?_
    obtain rfl := Option.some.inj hm
    refine PJ.sel (L' := []) [] ⟨List.nodup_nil, rfl⟩ ?_
    exact PJ.retn (vs := [.bool t14]) Try.results146 ⟨rfl, trivial⟩ ⟨rfl, rfl⟩

set_option maxRecDepth 100000 in
set_option maxHeartbeats 1000000 in
theorem ok_i_areDifferentWords {N : Nat} {words1 : List Str} {r : Bool} (hm : i_areDifferentWords N words1 = some r) (w : World) (v2 : Value) (hr3 : RdS w (cx w).Fz v2 fStr.rp words1) :
    Calls Try.prog 142 #[v2] w (Ret (cx w) (.bool r)) := by
  unfold i_areDifferentWords at hm
  refine Calls.enter [v2] Try.func142 rfl Try.ntmps142 rfl ?_
  refine WJ.seq ?_
  refine WJ.quiet ?_
  refine QJ.step (YldS.yld (y_assign rfl)) rfl ?_
  refine QJ.done ?_
  refine PJ.next ?_
  refine WJ.seq ?_
  refine WJ.reg ?_
  refine SJ.makeMap rfl fun g4 => ?_
  refine SJ.q (YldS.yld (y_assign rfl)) rfl ?_
  refine SJ.nil ?_
  refine PJ.next ?_
  obtain ⟨k5, hk6, hm⟩ := withK_open hm
  refine WJ.join (X := Unit) (fun (_ : Unit) => k5  = some r) (fun (_ : Unit) => [(0, v2)]) (fun (_ : Unit) => []) ?_ ?_
  · clear hk6
    refine WJ.seq ?_
    refine WJ.quiet ?_
    refine QJ.step (YldS.yld (y_move rfl)) rfl ?_
    refine QJ.step (YldS.yld (y_lenS Try.runUnderlying78 hr3 rfl)) rfl ?_
    refine QJ.step (YldS.yld (y_move rfl)) rfl ?_
    refine QJ.done ?_
    refine PJ.next ?_
    refine WJ.block ?_
    refine WJ.sel (L' := (fun (x : (List (Str × Bool)) × Int) => [mp g4 x.1]) ([], 0)) [0] ⟨by decide, rfl⟩ ?_
    refine WJ.sub (m' := (fun (x : (List (Str × Bool)) × Int) => [(0, v2), (3, .map (some g4)), (7, v2), (8, .int .i64 (List.length words1 : Int)), (9, .int .i64 x.2)]) ([], 0)) ⟨rfl, rfl, rfl, rfl, rfl, trivial⟩ ?_
    refine WJ.loop (X := (List (Str × Bool)) × Int) (fun N (x : (List (Str × Bool)) × Int) => i_areDifferentWords_l1 k5 words1 N x.1 x.2 = some r) (fun (x : (List (Str × Bool)) × Int) => [(0, v2), (3, .map (some g4)), (7, v2), (8, .int .i64 (List.length words1 : Int)), (9, .int .i64 x.2)]) (fun (x : (List (Str × Bool)) × Int) => [mp g4 x.1]) ?_ N ([], 0) hm
    · rintro N ⟨mp7, x8⟩ hI
      have hm := hI; clear hI
      cases N with
      | zero => cases hm
      | succ N =>
      unfold i_areDifferentWords_l1 at hm
      refine WJ.seq ?_
      refine WJ.quiet ?_
      refine QJ.step (YldS.yld (y_bin rfl rfl rfl)) rfl ?_
      refine QJ.done ?_
      refine PJ.next ?_
      refine WJ.seq ?_
      refine WJ.cond (t := decide (x8 < (List.length words1 : Int))) rfl (fun hb9 => ?_) (fun hb9 => ?_)
      · replace hm := ifT hm hb9
        refine WJ.skip ?_
        refine PJ.next ?_
        refine WJ.seq ?_
        refine WJ.block ?_
        refine WJ.seq ?_
        refine WJ.quiet ?_
        obtain ⟨e10, h11, hm⟩ := bindS hm
        obtain ⟨ad12, _, rfl, ha13, hy14⟩ := hr3.elem h11
        refine QJ.step (YldS.yld (hy14 Try.runUnderlying78 Try.sizeOf9 rfl rfl)) rfl ?_
        refine QJ.step (YldS.yld (y_load1 (v := str e10) Try.isAgg9 ha13 St.frozenC rfl)) rfl ?_
        refine QJ.step (YldS.yld (y_assign rfl)) rfl ?_
        refine QJ.done ?_
        refine PJ.next ?_
        refine WJ.seq ?_
        refine WJ.seq ?_
        refine WJ.quiet ?_
        refine QJ.step (YldS.yld (y_move rfl)) rfl ?_
        obtain ⟨r15, h16, hm⟩ := bindS hm
        refine QJ.step (y_call Try.call146 rfl (RetG.quiet fun w hw => ok_i_isSmallWord h16 w )) rfl ?_
        refine QJ.step (YldS.yld (y_not rfl)) rfl ?_
        refine QJ.step (YldS.yld (y_move rfl)) rfl ?_
        obtain ⟨t17, h18, hm⟩ := bindS hm
        refine QJ.cut 4 [(0, v2), (3, .map (some g4)), (5, str e10), (7, v2), (8, .int .i64 (List.length words1 : Int)), (9, .int .i64 x8), (20, .bool t17)] ?_ ?_
        · rcases Bool.eq_false_or_eq_true (!r15) with hb19 | hb19
          · obtain rfl := orT h18 hb19
            refine QJ.off rfl rfl (cB hb19) rfl rfl ?_
            refine QJ.off rfl rfl (cB hb19) rfl rfl ?_
            refine QJ.off rfl rfl (cB hb19) rfl rfl ?_
            refine QJ.step (YldS.yld (y_pick_t (cB hb19) rfl)) rfl ?_
            exact QJ.cut_end ⟨rfl, rfl, rfl, rfl, rfl, rfl, rfl, trivial⟩
          · replace h18 := orF h18 hb19
            refine QJ.on rfl rfl (cB hb19) (YldS.yld (y_move rfl)) rfl ?_
            refine QJ.on rfl rfl (cB hb19) (YldS.yld (y_move rfl)) rfl ?_
            refine QJ.on rfl rfl (cB hb19) (YldS.yld (y_lookupSB (k := 0) rfl Try.underlying191 Try.underlying9 Try.zeroValue4 rfl rfl)) rfl ?_
            refine QJ.step (YldS.yld (y_pick_f (cB hb19) rfl)) rfl ?_
            obtain rfl := Option.some.inj h18
            exact QJ.cut_end ⟨rfl, rfl, rfl, rfl, rfl, rfl, rfl, trivial⟩
        refine QJ.done ?_
        refine PJ.next ?_
        refine WJ.cond (t := t17) rfl (fun hb20 => ?_) (fun hb20 => ?_)
        · replace hm := ifT hm hb20
          refine WJ.seq ?_
          refine WJ.quiet ?_
          refine QJ.step (YldS.yld (y_assign rfl)) rfl ?_
          refine QJ.done ?_
          refine PJ.next ?_
          refine WJ.ret ?_
          refine PJ.then_ret (PJ.block_ret (PJ.then_ret (PJ.then_ret (PJ.block_ret (PJ.then_ret ?_)))))
          obtain rfl := Option.some.inj hm
          refine PJ.sel (L' := []) [] ⟨List.nodup_nil, rfl⟩ ?_
          exact PJ.retn (vs := [.bool false]) Try.results142 ⟨rfl, trivial⟩ ⟨rfl, rfl⟩
        · replace hm := ifF hm hb20
          refine WJ.skip ?_
          refine PJ.next ?_
          refine WJ.reg ?_
          refine SJ.q (YldS.yld (y_move rfl)) rfl ?_
          refine SJ.q (YldS.yld (y_move rfl)) rfl ?_
          refine SJ.mapUpdateSB (k := 0) Try.underlying191 Try.underlying9 rfl rfl rfl rfl ?_
          refine SJ.nil ?_
          refine PJ.block_normal (PJ.next ?_)
          refine WJ.quiet ?_
          refine QJ.step (YldS.yld (y_bin rfl rfl rfl)) rfl ?_
          refine QJ.step (YldS.yld (y_move rfl)) rfl ?_
          refine QJ.done ?_
          exact PJ.round (mset mp7 e10 true, w64 (x8 + 1)) [0] hm ⟨rfl, rfl, rfl, rfl, rfl, trivial⟩ ⟨by decide, rfl⟩
      · replace hm := ifF hm hb9
        refine WJ.exit ?_
        refine PJ.then_exit (PJ.then_exit (PJ.block_exit ?_))
        exact PJ.joined () [] hm ⟨rfl, trivial⟩ ⟨List.nodup_nil, rfl⟩
  · rintro _ hm
    subst hk6
    refine WJ.seq ?_
    refine WJ.quiet ?_
    refine QJ.step (YldS.yld (y_move rfl)) rfl ?_
    refine QJ.step (YldS.yld (y_lenS Try.runUnderlying78 hr3 rfl)) rfl ?_
    refine QJ.step (YldS.yld (y_bin rfl rfl rfl)) rfl ?_
    refine QJ.step (YldS.yld (y_assign rfl)) rfl ?_
    refine QJ.done ?_
    refine PJ.next ?_
    refine WJ.ret ?_
    obtain rfl := Option.some.inj hm
    refine PJ.sel (L' := []) [] ⟨List.nodup_nil, rfl⟩ ?_
    exact PJ.retn (vs := [.bool (decide ((List.length words1 : Int) ≤ 30))]) Try.results142 ⟨rfl, trivial⟩ ⟨rfl, rfl⟩

set_option maxRecDepth 100000 in
set_option maxHeartbeats 1000000 in
theorem ok_stringslite_HasPrefix {s1 : Str} {prefix2 : Str} {r : Bool} (hm : stringslite_HasPrefix s1 prefix2 = some r) (w : World)  :
    Calls Try.prog 193 #[str s1, str prefix2] w (Ret (cx w) (.bool r)) := by
  unfold stringslite_HasPrefix at hm
  refine Calls.enter [str s1, str prefix2] Try.func193 rfl Try.ntmps193 rfl ?_
  refine WJ.seq ?_
  refine WJ.quiet ?_
  refine QJ.step (YldS.yld (y_assign rfl)) rfl ?_
  refine QJ.done ?_
  refine PJ.next ?_
  refine WJ.seq ?_
  refine WJ.quiet ?_
  refine QJ.step (YldS.yld (y_move rfl)) rfl ?_
  refine QJ.step (YldS.yld (y_lenStr Try.runUnderlying9 rfl)) rfl ?_
  refine QJ.step (YldS.yld (y_move rfl)) rfl ?_
  refine QJ.step (YldS.yld (y_lenStr Try.runUnderlying9 rfl)) rfl ?_
  refine QJ.step (YldS.yld (y_bin rfl rfl rfl)) rfl ?_
  refine QJ.step (YldS.yld (y_move rfl)) rfl ?_
  obtain ⟨t3, h4, hm⟩ := bindS hm
  refine QJ.cut 7 [(17, .bool t3)] ?_ ?_
  · rcases Bool.eq_false_or_eq_true (decide ((List.length s1 : Int) ≥ (List.length prefix2 : Int))) with hb5 | hb5
    · replace h4 := andT h4 hb5
      refine QJ.on rfl rfl (cB hb5) (YldS.yld (y_move rfl)) rfl ?_
      refine QJ.on rfl rfl (cB hb5) (YldS.yld (y_move rfl)) rfl ?_
      refine QJ.on rfl rfl (cB hb5) (YldS.yld (y_lenStr Try.runUnderlying9 rfl)) rfl ?_
      obtain ⟨s6, h7, h4⟩ := bindS h4
      refine QJ.on rfl rfl (cB hb5) (YldS.yld (y_subStr (i := none) (j := some (List.length prefix2 : Int)) h7 Try.runUnderlying9 rfl trivial ⟨_, rfl⟩)) rfl ?_
      refine QJ.on rfl rfl (cB hb5) (YldS.yld (y_move rfl)) rfl ?_
      refine QJ.on rfl rfl (cB hb5) (YldS.yld (y_binS rfl rfl rfl)) rfl ?_
      refine QJ.step (YldS.yld (y_pick_t (cB hb5) rfl)) rfl ?_
      obtain rfl := Option.some.inj h4
      exact QJ.cut_end ⟨rfl, trivial⟩
    · obtain rfl := andF h4 hb5
      refine QJ.off rfl rfl (cB hb5) rfl rfl ?_
      refine QJ.off rfl rfl (cB hb5) rfl rfl ?_
      refine QJ.off rfl rfl (cB hb5) rfl rfl ?_
      refine QJ.off rfl rfl (cB hb5) rfl rfl ?_
      refine QJ.off rfl rfl (cB hb5) rfl rfl ?_
      refine QJ.off rfl rfl (cB hb5) rfl rfl ?_
      refine QJ.step (YldS.yld (y_pick_f (cB hb5) rfl)) rfl ?_
      exact QJ.cut_end ⟨rfl, trivial⟩
  refine QJ.step (YldS.yld (y_assign rfl)) rfl ?_
  refine QJ.done ?_
  refine PJ.next ?_
  refine WJ.ret ?_
  obtain rfl := Option.some.inj hm
  refine PJ.sel (L' := []) [] ⟨List.nodup_nil, rfl⟩ ?_
  exact PJ.retn (vs := [.bool t3]) Try.results193 ⟨rfl, trivial⟩ ⟨rfl, rfl⟩

set_option maxRecDepth 100000 in
set_option maxHeartbeats 1000000 in
theorem ok_strings_HasPrefix {s1 : Str} {prefix2 : Str} {r : Bool} (hm : strings_HasPrefix s1 prefix2 = some r) (w : World)  :
    Calls Try.prog 143 #[str s1, str prefix2] w (Ret (cx w) (.bool r)) := by
  unfold strings_HasPrefix at hm
  refine Calls.enter [str s1, str prefix2] Try.func143 rfl Try.ntmps143 rfl ?_
  refine WJ.seq ?_
  refine WJ.quiet ?_
  refine QJ.step (YldS.yld (y_assign rfl)) rfl ?_
  refine QJ.done ?_
  refine PJ.next ?_
  refine WJ.seq ?_
  refine WJ.quiet ?_
  refine QJ.step (YldS.yld (y_move rfl)) rfl ?_
  refine QJ.step (YldS.yld (y_move rfl)) rfl ?_
  obtain ⟨r3, h4, hm⟩ := bindS hm
  refine QJ.step (y_call Try.call193 rfl (RetG.quiet fun w hw => ok_stringslite_HasPrefix h4 w )) rfl ?_
  refine QJ.step (YldS.yld (y_assign rfl)) rfl ?_
  refine QJ.done ?_
  refine PJ.next ?_
  refine WJ.ret ?_
  obtain rfl := Option.some.inj hm
  refine PJ.sel (L' := []) [] ⟨List.nodup_nil, rfl⟩ ?_
  exact PJ.retn (vs := [.bool r3]) Try.results143 ⟨rfl, trivial⟩ ⟨rfl, rfl⟩

set_option maxRecDepth 100000 in
set_option maxHeartbeats 1000000 in
theorem ok_i_ShortestStarts {N : Nat} {words1 : List Str} {r : (List Str) × Int} (hm : i_ShortestStarts N words1 = some r) (w : World) (v2 : Value) (hr3 : RdS w (cx w).Fz v2 fStr.rp words1) :
    Calls Try.prog 54 #[v2] w (RetG (cx w) fun u L => ∃ (u1 : Value), (u = tup [u1, .int .i64 r.2] ∧ L = [row u1 9 fStr r.1])) := by
  unfold i_ShortestStarts at hm
  refine Calls.enter [v2] Try.func54 rfl Try.ntmps54 rfl ?_
  refine WJ.seq ?_
  refine WJ.quiet ?_
  refine QJ.step (YldS.yld (y_assign rfl)) rfl ?_
  refine QJ.step (YldS.yld (y_assign rfl)) rfl ?_
  refine QJ.done ?_
  refine PJ.next ?_
  refine WJ.seq ?_
  refine WJ.seq ?_
  refine WJ.quiet ?_
  refine QJ.step (YldS.yld (y_move rfl)) rfl ?_
  obtain ⟨r4, h5, hm⟩ := bindS hm
  refine QJ.step (y_call Try.call142 rfl (RetG.quiet fun w hw => ok_i_areDifferentWords h5 w _ (hr3.st hw))) rfl ?_
  refine QJ.step (YldS.yld (y_not rfl)) rfl ?_
  refine QJ.done ?_
  refine PJ.next ?_
  refine WJ.cond (t := !r4) rfl (fun hb6 => ?_) (fun hb6 => ?_)
  · replace hm := ifT hm hb6
    refine WJ.seq ?_
    refine WJ.quiet ?_
    refine QJ.step (YldS.yld (y_assign rfl)) rfl ?_
    refine QJ.step (YldS.yld (y_assign rfl)) rfl ?_
    refine QJ.done ?_
    refine PJ.next ?_
    refine WJ.ret ?_
    refine PJ.then_ret ?_
    refine PJ.nil_row 9 fStr ?_
    obtain rfl := Option.some.inj hm
    refine PJ.sel (L' := [row (.slice none 0 0) 9 fStr []]) [0] ⟨by decide, rfl⟩ ?_
    exact PJ.retn (vs := [(.slice none 0 0), .int .i64 1]) Try.results54 ⟨rfl, rfl, trivial⟩ ⟨_, rfl, rfl⟩
  · replace hm := ifF hm hb6
    refine WJ.skip ?_
    refine PJ.next ?_
    refine WJ.seq ?_
    refine WJ.reg ?_
    refine SJ.buildSlice (R := fStr) (os := []) [] Try.runUnderlying78 Try.sizeOf9 Try.zeroValue9 rfl rfl rfl rfl rfl rfl fun v7 => ?_
    refine SJ.q (YldS.yld (y_assign rfl)) rfl ?_
    refine SJ.nil ?_
    refine PJ.next ?_
    obtain ⟨k10, hk11, hm⟩ := withK_open hm
    refine WJ.join (X := (List Str) × Value) (fun (x : (List Str) × Value) => k10 x.1 = some r) (fun (x : (List Str) × Value) => [(4, x.2)]) (fun (x : (List Str) × Value) => [row x.2 9 fStr x.1]) ?_ ?_
    · clear hk11
      refine WJ.seq ?_
      refine WJ.quiet ?_
      refine QJ.step (YldS.yld (y_move rfl)) rfl ?_
      refine QJ.step (YldS.yld (y_lenS Try.runUnderlying78 hr3 rfl)) rfl ?_
      refine QJ.step (YldS.yld (y_move rfl)) rfl ?_
      refine QJ.done ?_
      refine PJ.next ?_
      refine WJ.block ?_
      refine WJ.sel (L' := (fun (x : (List Str) × Value × Int) => [row x.2.1 9 fStr x.1]) ([], v7, 0)) [0] ⟨by decide, rfl⟩ ?_
      refine WJ.sub (m' := (fun (x : (List Str) × Value × Int) => [(0, v2), (4, x.2.1), (14, v2), (15, .int .i64 (List.length words1 : Int)), (16, .int .i64 x.2.2)]) ([], v7, 0)) ⟨rfl, rfl, rfl, rfl, rfl, trivial⟩ ?_
      refine WJ.loop (X := (List Str) × Value × Int) (fun N (x : (List Str) × Value × Int) => i_ShortestStarts_l1 k10 words1 N x.1 x.2.2 = some r) (fun (x : (List Str) × Value × Int) => [(0, v2), (4, x.2.1), (14, v2), (15, .int .i64 (List.length words1 : Int)), (16, .int .i64 x.2.2)]) (fun (x : (List Str) × Value × Int) => [row x.2.1 9 fStr x.1]) ?_ N ([], v7, 0) hm
      · rintro N ⟨l12, v13, x14⟩ hI
        have hm := hI; clear hI
        cases N with
        | zero => cases hm
        | succ N =>
        unfold i_ShortestStarts_l1 at hm
        refine WJ.seq ?_
        refine WJ.quiet ?_
        refine QJ.step (YldS.yld (y_bin rfl rfl rfl)) rfl ?_
        refine QJ.done ?_
        refine PJ.next ?_
        refine WJ.seq ?_
        refine WJ.cond (t := decide (x14 < (List.length words1 : Int))) rfl (fun hb15 => ?_) (fun hb15 => ?_)
        · replace hm := ifT hm hb15
          refine WJ.skip ?_
          refine PJ.next ?_
          obtain ⟨k19, hk19, hm⟩ := withK_open hm
          refine WJ.join (X := (List Str) × Value) (fun (x : (List Str) × Value) => k19 x.1 = some r) (fun (x : (List Str) × Value) => [(0, v2), (4, x.2), (14, v2), (15, .int .i64 (List.length words1 : Int)), (16, .int .i64 x14)]) (fun (x : (List Str) × Value) => [row x.2 9 fStr x.1]) ?_ ?_
          · clear hk19
            refine WJ.block ?_
            refine WJ.seq ?_
            refine WJ.quiet ?_
            refine QJ.step (YldS.yld (y_move rfl)) rfl ?_
            obtain ⟨e20, h21, hm⟩ := bindS hm
            obtain ⟨ad22, _, rfl, ha23, hy24⟩ := hr3.elem h21
            refine QJ.step (YldS.yld (hy24 Try.runUnderlying78 Try.sizeOf9 rfl rfl)) rfl ?_
            refine QJ.step (YldS.yld (y_load1 (v := str e20) Try.isAgg9 ha23 St.frozenC rfl)) rfl ?_
            refine QJ.step (YldS.yld (y_assign rfl)) rfl ?_
            refine QJ.step (YldS.yld (y_assign rfl)) rfl ?_
            refine QJ.done ?_
            refine PJ.next ?_
            refine WJ.seq ?_
            refine WJ.quiet ?_
            refine QJ.step (YldS.yld (y_assign rfl)) rfl ?_
            refine QJ.done ?_
            refine PJ.next ?_
            obtain ⟨k28, hk27, hm⟩ := withK_open hm
            refine WJ.join (X := Int) (fun (x : Int) => k28 x = some r) (fun (x : Int) => [(0, v2), (4, v13), (6, str e20), (7, .int .i64 x), (14, v2), (15, .int .i64 (List.length words1 : Int)), (16, .int .i64 x14)]) (fun (x : Int) => [row v13 9 fStr l12]) ?_ ?_
            · clear hk27
              refine WJ.seq ?_
              refine WJ.quiet ?_
              refine QJ.step (YldS.yld (y_move rfl)) rfl ?_
              refine QJ.step (YldS.yld (y_lenS Try.runUnderlying78 hr3 rfl)) rfl ?_
              refine QJ.step (YldS.yld (y_move rfl)) rfl ?_
              refine QJ.done ?_
              refine PJ.next ?_
              refine WJ.block ?_
              refine WJ.sel (L' := (fun (x : Int × Int) => [row v13 9 fStr l12]) (1, 0)) [0] ⟨by decide, rfl⟩ ?_
              refine WJ.sub (m' := (fun (x : Int × Int) => [(0, v2), (4, v13), (5, .int .i64 x14), (6, str e20), (7, .int .i64 x.1), (14, v2), (15, .int .i64 (List.length words1 : Int)), (16, .int .i64 x14), (21, v2), (22, .int .i64 (List.length words1 : Int)), (23, .int .i64 x.2)]) (1, 0)) ⟨rfl, rfl, rfl, rfl, rfl, rfl, rfl, rfl, rfl, rfl, rfl, trivial⟩ ?_
              refine WJ.loop (X := Int × Int) (fun N (x : Int × Int) => i_ShortestStarts_l2 k28 words1 x14 e20 N x.1 x.2 = some r) (fun (x : Int × Int) => [(0, v2), (4, v13), (5, .int .i64 x14), (6, str e20), (7, .int .i64 x.1), (14, v2), (15, .int .i64 (List.length words1 : Int)), (16, .int .i64 x14), (21, v2), (22, .int .i64 (List.length words1 : Int)), (23, .int .i64 x.2)]) (fun (x : Int × Int) => [row v13 9 fStr l12]) ?_ N (1, 0) hm
              · rintro N ⟨size28, x29⟩ hI
                have hm := hI; clear hI
                cases N with
                | zero => cases hm
                | succ N =>
                unfold i_ShortestStarts_l2 at hm
                refine WJ.seq ?_
                refine WJ.quiet ?_
                refine QJ.step (YldS.yld (y_bin rfl rfl rfl)) rfl ?_
                refine QJ.done ?_
                refine PJ.next ?_
                refine WJ.seq ?_
                refine WJ.cond (t := decide (x29 < (List.length words1 : Int))) rfl (fun hb30 => ?_) (fun hb30 => ?_)
                · replace hm := ifT hm hb30
                  refine WJ.skip ?_
                  refine PJ.next ?_
                  obtain ⟨k35, hk33, hm⟩ := withK_open hm
                  refine WJ.join (X := Int) (fun (x : Int) => k35 x = some r) (fun (x : Int) => [(0, v2), (4, v13), (5, .int .i64 x14), (6, str e20), (7, .int .i64 x), (14, v2), (15, .int .i64 (List.length words1 : Int)), (16, .int .i64 x14), (21, v2), (22, .int .i64 (List.length words1 : Int)), (23, .int .i64 x29)]) (fun (x : Int) => [row v13 9 fStr l12]) ?_ ?_
                  · clear hk33
                    refine WJ.block ?_
                    refine WJ.seq ?_
                    refine WJ.quiet ?_
                    refine QJ.step (YldS.yld (y_move rfl)) rfl ?_
                    obtain ⟨e34, h35, hm⟩ := bindS hm
                    obtain ⟨ad36, _, rfl, ha37, hy38⟩ := hr3.elem h35
                    refine QJ.step (YldS.yld (hy38 Try.runUnderlying78 Try.sizeOf9 rfl rfl)) rfl ?_
                    refine QJ.step (YldS.yld (y_load1 (v := str e34) Try.isAgg9 ha37 St.frozenC rfl)) rfl ?_
                    refine QJ.step (YldS.yld (y_assign rfl)) rfl ?_
                    refine QJ.step (YldS.yld (y_assign rfl)) rfl ?_
                    refine QJ.done ?_
                    refine PJ.next ?_
                    refine WJ.block ?_
                    refine WJ.sel (L' := (fun (x : Int) => [row v13 9 fStr l12]) size28) [0] ⟨by decide, rfl⟩ ?_
                    refine WJ.sub (m' := (fun (x : Int) => [(0, v2), (4, v13), (5, .int .i64 x14), (6, str e20), (7, .int .i64 x), (8, .int .i64 x29), (9, str e34), (14, v2), (15, .int .i64 (List.length words1 : Int)), (16, .int .i64 x14), (21, v2), (22, .int .i64 (List.length words1 : Int)), (23, .int .i64 x29)]) size28) ⟨rfl, rfl, rfl, rfl, rfl, rfl, rfl, rfl, rfl, rfl, rfl, rfl, rfl, trivial⟩ ?_
                    refine WJ.loop (X := Int) (fun N (x : Int) => i_ShortestStarts_l3 k35 x14 e20 x29 e34 N x = some r) (fun (x : Int) => [(0, v2), (4, v13), (5, .int .i64 x14), (6, str e20), (7, .int .i64 x), (8, .int .i64 x29), (9, str e34), (14, v2), (15, .int .i64 (List.length words1 : Int)), (16, .int .i64 x14), (21, v2), (22, .int .i64 (List.length words1 : Int)), (23, .int .i64 x29)]) (fun (x : Int) => [row v13 9 fStr l12]) ?_ N size28 hm
                    · rintro N size39 hI
                      have hm := hI; clear hI
                      cases N with
                      | zero => cases hm
                      | succ N =>
                      unfold i_ShortestStarts_l3 at hm
                      refine WJ.seq ?_
                      refine WJ.seq ?_
                      refine WJ.quiet ?_
                      refine QJ.step (YldS.yld (y_move rfl)) rfl ?_
                      refine QJ.step (YldS.yld (y_move rfl)) rfl ?_
                      refine QJ.step (YldS.yld (y_bin rfl rfl rfl)) rfl ?_
                      refine QJ.step (YldS.yld (y_move rfl)) rfl ?_
                      obtain ⟨t40, h41, hm⟩ := bindS hm
                      refine QJ.cut 5 [(0, v2), (4, v13), (5, .int .i64 x14), (6, str e20), (7, .int .i64 size39), (8, .int .i64 x29), (9, str e34), (14, v2), (15, .int .i64 (List.length words1 : Int)), (16, .int .i64 x14), (21, v2), (22, .int .i64 (List.length words1 : Int)), (23, .int .i64 x29), (36, .bool t40)] ?_ ?_
                      · rcases Bool.eq_false_or_eq_true (x29 != x14) with hb42 | hb42
                        · replace h41 := andT h41 hb42
                          refine QJ.on rfl rfl (cB hb42) (YldS.yld (y_move rfl)) rfl ?_
                          refine QJ.on rfl rfl (cB hb42) (YldS.yld (y_move rfl)) rfl ?_
                          refine QJ.on rfl rfl (cB hb42) (YldS.yld (y_lenStr Try.runUnderlying9 rfl)) rfl ?_
                          refine QJ.on rfl rfl (cB hb42) (YldS.yld (y_bin rfl rfl rfl)) rfl ?_
                          refine QJ.step (YldS.yld (y_pick_t (cB hb42) rfl)) rfl ?_
                          obtain rfl := Option.some.inj h41
                          exact QJ.cut_end ⟨rfl, rfl, rfl, rfl, rfl, rfl, rfl, rfl, rfl, rfl, rfl, rfl, rfl, rfl, trivial⟩
                        · obtain rfl := andF h41 hb42
                          refine QJ.off rfl rfl (cB hb42) rfl rfl ?_
                          refine QJ.off rfl rfl (cB hb42) rfl rfl ?_
                          refine QJ.off rfl rfl (cB hb42) rfl rfl ?_
                          refine QJ.off rfl rfl (cB hb42) rfl rfl ?_
                          refine QJ.step (YldS.yld (y_pick_f (cB hb42) rfl)) rfl ?_
                          exact QJ.cut_end ⟨rfl, rfl, rfl, rfl, rfl, rfl, rfl, rfl, rfl, rfl, rfl, rfl, rfl, rfl, trivial⟩
                      refine QJ.step (YldS.yld (y_move rfl)) rfl ?_
                      obtain ⟨t43, h44, hm⟩ := bindS hm
                      refine QJ.cut 6 [(0, v2), (4, v13), (5, .int .i64 x14), (6, str e20), (7, .int .i64 size39), (8, .int .i64 x29), (9, str e34), (14, v2), (15, .int .i64 (List.length words1 : Int)), (16, .int .i64 x14), (21, v2), (22, .int .i64 (List.length words1 : Int)), (23, .int .i64 x29), (43, .bool t43)] ?_ ?_
                      · rcases Bool.eq_false_or_eq_true t40 with hb45 | hb45
                        · replace h44 := andT h44 hb45
                          refine QJ.on rfl rfl (cB hb45) (YldS.yld (y_move rfl)) rfl ?_
                          refine QJ.on rfl rfl (cB hb45) (YldS.yld (y_move rfl)) rfl ?_
                          refine QJ.on rfl rfl (cB hb45) (YldS.yld (y_move rfl)) rfl ?_
                          obtain ⟨s46, h47, h44⟩ := bindS h44
                          refine QJ.on rfl rfl (cB hb45) (YldS.yld (y_subStr (i := none) (j := some size39) h47 Try.runUnderlying9 rfl trivial ⟨_, rfl⟩)) rfl ?_
                          obtain ⟨r48, h49, h44⟩ := bindS h44
                          refine QJ.on rfl rfl (cB hb45) (y_call Try.call143 rfl (RetG.quiet fun w hw => ok_strings_HasPrefix h49 w )) rfl ?_
                          refine QJ.step (YldS.yld (y_pick_t (cB hb45) rfl)) rfl ?_
                          obtain rfl := Option.some.inj h44
                          exact QJ.cut_end ⟨rfl, rfl, rfl, rfl, rfl, rfl, rfl, rfl, rfl, rfl, rfl, rfl, rfl, rfl, trivial⟩
                        · obtain rfl := andF h44 hb45
                          refine QJ.off rfl rfl (cB hb45) rfl rfl ?_
                          refine QJ.off rfl rfl (cB hb45) rfl rfl ?_
                          refine QJ.off rfl rfl (cB hb45) rfl rfl ?_
                          refine QJ.off rfl rfl (cB hb45) rfl rfl ?_
                          refine QJ.off rfl rfl (cB hb45) rfl rfl ?_
                          refine QJ.step (YldS.yld (y_pick_f (cB hb45) rfl)) rfl ?_
                          exact QJ.cut_end ⟨rfl, rfl, rfl, rfl, rfl, rfl, rfl, rfl, rfl, rfl, rfl, rfl, rfl, rfl, trivial⟩
                      refine QJ.done ?_
                      refine PJ.next ?_
                      refine WJ.cond (t := t43) rfl (fun hb50 => ?_) (fun hb50 => ?_)
                      · replace hm := ifT hm hb50
                        refine WJ.skip ?_
                        refine PJ.next ?_
                        refine WJ.block ?_
                        refine WJ.quiet ?_
                        refine QJ.step (YldS.yld (y_move rfl)) rfl ?_
                        refine QJ.step (YldS.yld (y_bin rfl rfl rfl)) rfl ?_
                        refine QJ.step (YldS.yld (y_assign rfl)) rfl ?_
                        refine QJ.done ?_
                        refine PJ.block_normal ?_
                        exact PJ.round (w64 (size39 + 1)) [0] hm ⟨rfl, rfl, rfl, rfl, rfl, rfl, rfl, rfl, rfl, rfl, rfl, rfl, rfl, trivial⟩ ⟨by decide, rfl⟩
                      · replace hm := ifF hm hb50
                        refine WJ.exit ?_
                        refine PJ.then_exit (PJ.then_exit (PJ.block_exit (PJ.block_normal ?_)))
                        exact PJ.joined size39 [0] hm ⟨rfl, rfl, rfl, rfl, rfl, rfl, rfl, rfl, rfl, rfl, rfl, trivial⟩ ⟨by decide, rfl⟩
                  · rintro size31 hm
                    subst hk33
                    refine WJ.quiet ?_
                    refine QJ.step (YldS.yld (y_bin rfl rfl rfl)) rfl ?_
                    refine QJ.step (YldS.yld (y_move rfl)) rfl ?_
                    refine QJ.done ?_
                    exact PJ.round (size31, w64 (x29 + 1)) [0] hm ⟨rfl, rfl, rfl, rfl, rfl, rfl, rfl, rfl, rfl, rfl, rfl, trivial⟩ ⟨by decide, rfl⟩
                · replace hm := ifF hm hb30
                  refine WJ.exit ?_
                  refine PJ.then_exit (PJ.then_exit (PJ.block_exit ?_))
                  exact PJ.joined size28 [0] hm ⟨rfl, rfl, rfl, rfl, rfl, rfl, rfl, trivial⟩ ⟨by decide, rfl⟩
            · rintro size25 hm
              subst hk27
              refine WJ.reg ?_
              refine SJ.q (YldS.yld (y_move rfl)) rfl ?_
              refine SJ.q (YldS.yld (y_move rfl)) rfl ?_
              refine SJ.q (YldS.yld (y_move rfl)) rfl ?_
              obtain ⟨s51, h52, hm⟩ := bindS hm
              refine SJ.q (YldS.yld (y_subStr (i := none) (j := some size25) h52 Try.runUnderlying9 rfl trivial ⟨_, rfl⟩)) rfl ?_
              refine SJ.buildSlice (R := fStr) (os := [.tmp 50]) [s51] Try.runUnderlying78 Try.sizeOf9 Try.zeroValue9 rfl rfl rfl rfl rfl rfl fun v53 => ?_
              obtain ⟨l54, h55, hm⟩ := bindS hm
              refine SJ.append (k := 1) (R := fStr) h55 rfl Try.underlying78 el9 rfl rfl rfl (fun w hw => (hw.row_rd (k := 0) rfl)) rfl fun v56 => ?_
              refine SJ.q (YldS.yld (y_assign rfl)) rfl ?_
              refine SJ.nil ?_
              refine PJ.block_normal ?_
              exact PJ.joined (l54, v56) [1] hm ⟨rfl, rfl, rfl, rfl, rfl, trivial⟩ ⟨by decide, rfl⟩
          · rintro ⟨l16, v17⟩ hm
            subst hk19
            refine WJ.quiet ?_
            refine QJ.step (YldS.yld (y_bin rfl rfl rfl)) rfl ?_
            refine QJ.step (YldS.yld (y_move rfl)) rfl ?_
            refine QJ.done ?_
            exact PJ.round (l16, v17, w64 (x14 + 1)) [0] hm ⟨rfl, rfl, rfl, rfl, rfl, trivial⟩ ⟨by decide, rfl⟩
        · replace hm := ifF hm hb15
          refine WJ.exit ?_
          refine PJ.then_exit (PJ.then_exit (PJ.block_exit ?_))
          exact PJ.joined (l12, v13) [0] hm ⟨rfl, trivial⟩ ⟨by decide, rfl⟩
    · rintro ⟨l8, v9⟩ hm
      subst hk11
      refine WJ.seq ?_
      refine WJ.quiet ?_
      refine QJ.step (YldS.yld (y_move rfl)) rfl ?_
      refine QJ.step (YldS.yld (y_assign rfl)) rfl ?_
      refine QJ.step (YldS.yld (y_assign rfl)) rfl ?_
      refine QJ.done ?_
      refine PJ.next ?_
      refine WJ.ret ?_
      obtain rfl := Option.some.inj hm
      refine PJ.sel (L' := [row v9 9 fStr l8]) [0] ⟨by decide, rfl⟩ ?_
      exact PJ.retn (vs := [v9, .int .i64 0]) Try.results54 ⟨rfl, rfl, trivial⟩ ⟨_, rfl, rfl⟩

set_option maxRecDepth 100000 in
set_option maxHeartbeats 1000000 in
theorem ok_s_l16Starts {word1 : Str} {start2 : Str} {r : Bool} (hm : s_l16Starts word1 start2 = some r) (w : World)  :
    Calls Try.prog 148 #[str word1, str start2] w (Ret (cx w) (.bool r)) := by
  unfold s_l16Starts at hm
  refine Calls.enter [str word1, str start2] Try.func148 rfl Try.ntmps148 rfl ?_
  refine WJ.seq ?_
  refine WJ.quiet ?_
  refine QJ.step (YldS.yld (y_assign rfl)) rfl ?_
  refine QJ.done ?_
  refine PJ.next ?_
  refine WJ.seq ?_
  refine WJ.quiet ?_
  refine QJ.step (YldS.yld (y_move rfl)) rfl ?_
  refine QJ.step (YldS.yld (y_lenStr Try.runUnderlying9 rfl)) rfl ?_
  refine QJ.step (YldS.yld (y_move rfl)) rfl ?_
  refine QJ.step (YldS.yld (y_lenStr Try.runUnderlying9 rfl)) rfl ?_
  refine QJ.step (YldS.yld (y_bin rfl rfl rfl)) rfl ?_
  refine QJ.step (YldS.yld (y_move rfl)) rfl ?_
  obtain ⟨t3, h4, hm⟩ := bindS hm
  refine QJ.cut 7 [(17, .bool t3)] ?_ ?_
  · rcases Bool.eq_false_or_eq_true (decide ((List.length word1 : Int) ≥ (List.length start2 : Int))) with hb5 | hb5
    · replace h4 := andT h4 hb5
      refine QJ.on rfl rfl (cB hb5) (YldS.yld (y_move rfl)) rfl ?_
      refine QJ.on rfl rfl (cB hb5) (YldS.yld (y_move rfl)) rfl ?_
      refine QJ.on rfl rfl (cB hb5) (YldS.yld (y_lenStr Try.runUnderlying9 rfl)) rfl ?_
      obtain ⟨s6, h7, h4⟩ := bindS h4
      refine QJ.on rfl rfl (cB hb5) (YldS.yld (y_subStr (i := none) (j := some (List.length start2 : Int)) h7 Try.runUnderlying9 rfl trivial ⟨_, rfl⟩)) rfl ?_
      refine QJ.on rfl rfl (cB hb5) (YldS.yld (y_move rfl)) rfl ?_
      refine QJ.on rfl rfl (cB hb5) (YldS.yld (y_binS rfl rfl rfl)) rfl ?_
      refine QJ.step (YldS.yld (y_pick_t (cB hb5) rfl)) rfl ?_
      obtain rfl := Option.some.inj h4
      exact QJ.cut_end ⟨rfl, trivial⟩
    · obtain rfl := andF h4 hb5
      refine QJ.off rfl rfl (cB hb5) rfl rfl ?_
      refine QJ.off rfl rfl (cB hb5) rfl rfl ?_
      refine QJ.off rfl rfl (cB hb5) rfl rfl ?_
      refine QJ.off rfl rfl (cB hb5) rfl rfl ?_
      refine QJ.off rfl rfl (cB hb5) rfl rfl ?_
      refine QJ.off rfl rfl (cB hb5) rfl rfl ?_
      refine QJ.step (YldS.yld (y_pick_f (cB hb5) rfl)) rfl ?_
      exact QJ.cut_end ⟨rfl, trivial⟩
  refine QJ.step (YldS.yld (y_assign rfl)) rfl ?_
  refine QJ.done ?_
  refine PJ.next ?_
  refine WJ.ret ?_
  obtain rfl := Option.some.inj hm
  refine PJ.sel (L' := []) [] ⟨List.nodup_nil, rfl⟩ ?_
  exact PJ.retn (vs := [.bool t3]) Try.results148 ⟨rfl, trivial⟩ ⟨rfl, rfl⟩

set_option maxRecDepth 100000 in
set_option maxHeartbeats 1000000 in
theorem ok_s_l16Count {N : Nat} {words1 : List Str} {start4 : Str} {r : Int} (hm : s_l16Count N words1 start4 = some r) (w : World) (v2 : Value) (hr3 : RdS w (cx w).Fz v2 fStr.rp words1) :
    Calls Try.prog 145 #[v2, str start4] w (Ret (cx w) (.int .i64 r)) := by
  unfold s_l16Count at hm
  refine Calls.enter [v2, str start4] Try.func145 rfl Try.ntmps145 rfl ?_
  refine WJ.seq ?_
  refine WJ.quiet ?_
  refine QJ.step (YldS.yld (y_assign rfl)) rfl ?_
  refine QJ.done ?_
  refine PJ.next ?_
  refine WJ.seq ?_
  refine WJ.quiet ?_
  refine QJ.step (YldS.yld (y_assign rfl)) rfl ?_
  refine QJ.done ?_
  refine PJ.next ?_
  obtain ⟨k6, hk7, hm⟩ := withK_open hm
  refine WJ.join (X := Int) (fun (x : Int) => k6 x = some r) (fun (x : Int) => [(5, .int .i64 x)]) (fun (x : Int) => []) ?_ ?_
  · clear hk7
    refine WJ.seq ?_
    refine WJ.quiet ?_
    refine QJ.step (YldS.yld (y_assign rfl)) rfl ?_
    refine QJ.done ?_
    refine PJ.next ?_
    refine WJ.block ?_
    refine WJ.sel (L' := (fun (x : Int × Int) => []) (0, 0)) [] ⟨List.nodup_nil, rfl⟩ ?_
    refine WJ.sub (m' := (fun (x : Int × Int) => [(0, v2), (1, str start4), (5, .int .i64 x.1), (6, .int .i64 x.2)]) (0, 0)) ⟨rfl, rfl, rfl, rfl, trivial⟩ ?_
    refine WJ.loop (X := Int × Int) (fun N (x : Int × Int) => s_l16Count_l1 k6 words1 start4 N x.1 x.2 = some r) (fun (x : Int × Int) => [(0, v2), (1, str start4), (5, .int .i64 x.1), (6, .int .i64 x.2)]) (fun (x : Int × Int) => []) ?_ N (0, 0) hm
    · rintro N ⟨n8, i9⟩ hI
      have hm := hI; clear hI
      cases N with
      | zero => cases hm
      | succ N =>
      unfold s_l16Count_l1 at hm
      refine WJ.seq ?_
      refine WJ.seq ?_
      refine WJ.quiet ?_
      refine QJ.step (YldS.yld (y_move rfl)) rfl ?_
      refine QJ.step (YldS.yld (y_move rfl)) rfl ?_
      refine QJ.step (YldS.yld (y_lenS Try.runUnderlying78 hr3 rfl)) rfl ?_
      refine QJ.step (YldS.yld (y_bin rfl rfl rfl)) rfl ?_
      refine QJ.done ?_
      refine PJ.next ?_
      refine WJ.cond (t := decide (i9 < (List.length words1 : Int))) rfl (fun hb10 => ?_) (fun hb10 => ?_)
      · replace hm := ifT hm hb10
        refine WJ.skip ?_
        refine PJ.next ?_
        obtain ⟨k13, hk13, hm⟩ := withK_open hm
        refine WJ.join (X := Int) (fun (x : Int) => k13 x = some r) (fun (x : Int) => [(0, v2), (1, str start4), (5, .int .i64 x), (6, .int .i64 i9)]) (fun (x : Int) => []) ?_ ?_
        · clear hk13
          refine WJ.block ?_
          refine WJ.seq ?_
          refine WJ.quiet ?_
          refine QJ.step (YldS.yld (y_move rfl)) rfl ?_
          refine QJ.step (YldS.yld (y_move rfl)) rfl ?_
          obtain ⟨e14, h15, hm⟩ := bindS hm
          obtain ⟨ad16, _, rfl, ha17, hy18⟩ := hr3.elem h15
          refine QJ.step (YldS.yld (hy18 Try.runUnderlying78 Try.sizeOf9 rfl rfl)) rfl ?_
          refine QJ.step (YldS.yld (y_load1 (v := str e14) Try.isAgg9 ha17 St.frozenC rfl)) rfl ?_
          refine QJ.step (YldS.yld (y_move rfl)) rfl ?_
          obtain ⟨r19, h20, hm⟩ := bindS hm
          refine QJ.step (y_call Try.call148 rfl (RetG.quiet fun w hw => ok_s_l16Starts h20 w )) rfl ?_
          refine QJ.done ?_
          refine PJ.next ?_
          refine WJ.cond (t := r19) rfl (fun hb21 => ?_) (fun hb21 => ?_)
          · replace hm := ifT hm hb21
            refine WJ.quiet ?_
            refine QJ.step (YldS.yld (y_move rfl)) rfl ?_
            refine QJ.step (YldS.yld (y_bin rfl rfl rfl)) rfl ?_
            refine QJ.step (YldS.yld (y_assign rfl)) rfl ?_
            refine QJ.done ?_
            refine PJ.block_normal ?_
            exact PJ.joined (w64 (n8 + 1)) [] hm ⟨rfl, rfl, rfl, rfl, trivial⟩ ⟨List.nodup_nil, rfl⟩
          · replace hm := ifF hm hb21
            refine WJ.skip ?_
            refine PJ.block_normal ?_
            exact PJ.joined n8 [] hm ⟨rfl, rfl, rfl, rfl, trivial⟩ ⟨List.nodup_nil, rfl⟩
        · rintro n11 hm
          subst hk13
          refine WJ.quiet ?_
          refine QJ.step (YldS.yld (y_move rfl)) rfl ?_
          refine QJ.step (YldS.yld (y_bin rfl rfl rfl)) rfl ?_
          refine QJ.step (YldS.yld (y_assign rfl)) rfl ?_
          refine QJ.done ?_
          exact PJ.round (n11, w64 (i9 + 1)) [] hm ⟨rfl, rfl, rfl, rfl, trivial⟩ ⟨List.nodup_nil, rfl⟩
      · replace hm := ifF hm hb10
        refine WJ.exit ?_
        refine PJ.then_exit (PJ.then_exit (PJ.block_exit ?_))
        exact PJ.joined n8 [] hm ⟨rfl, trivial⟩ ⟨List.nodup_nil, rfl⟩
  · rintro n5 hm
    subst hk7
    refine WJ.seq ?_
    refine WJ.quiet ?_
    refine QJ.step (YldS.yld (y_move rfl)) rfl ?_
    refine QJ.step (YldS.yld (y_assign rfl)) rfl ?_
    refine QJ.done ?_
    refine PJ.next ?_
    refine WJ.ret ?_
    obtain rfl := Option.some.inj hm
    refine PJ.sel (L' := []) [] ⟨List.nodup_nil, rfl⟩ ?_
    exact PJ.retn (vs := [.int .i64 n5]) Try.results145 ⟨rfl, trivial⟩ ⟨rfl, rfl⟩

set_option maxRecDepth 100000 in
set_option maxHeartbeats 1000000 in
theorem ok_s_ShortestStarts {N : Nat} {words1 : List Str} {r : (List Str) × Int} (hm : s_ShortestStarts N words1 = some r) (w : World) (v2 : Value) (hr3 : RdS w (cx w).Fz v2 fStr.rp words1) :
    Calls Try.prog 55 #[v2] w (RetG (cx w) fun u L => ∃ (u1 : Value), (u = tup [u1, .int .i64 r.2] ∧ L = [row u1 9 fStr r.1])) := by
  unfold s_ShortestStarts at hm
  refine Calls.enter [v2] Try.func55 rfl Try.ntmps55 rfl ?_
  refine WJ.seq ?_
  refine WJ.quiet ?_
  refine QJ.step (YldS.yld (y_assign rfl)) rfl ?_
  refine QJ.step (YldS.yld (y_assign rfl)) rfl ?_
  refine QJ.done ?_
  refine PJ.next ?_
  refine WJ.seq ?_
  refine WJ.seq ?_
  refine WJ.quiet ?_
  refine QJ.step (YldS.yld (y_move rfl)) rfl ?_
  obtain ⟨r4, h5, hm⟩ := bindS hm
  refine QJ.step (y_call Try.call144 rfl (RetG.quiet fun w hw => ok_s_l16List h5 w _ (hr3.st hw))) rfl ?_
  refine QJ.step (YldS.yld (y_not rfl)) rfl ?_
  refine QJ.done ?_
  refine PJ.next ?_
  refine WJ.cond (t := !r4) rfl (fun hb6 => ?_) (fun hb6 => ?_)
  · replace hm := ifT hm hb6
    refine WJ.seq ?_
    refine WJ.quiet ?_
    refine QJ.step (YldS.yld (y_assign rfl)) rfl ?_
    refine QJ.step (YldS.yld (y_assign rfl)) rfl ?_
    refine QJ.done ?_
    refine PJ.next ?_
    refine WJ.ret ?_
    refine PJ.then_ret ?_
    refine PJ.nil_row 9 fStr ?_
    obtain rfl := Option.some.inj hm
    refine PJ.sel (L' := [row (.slice none 0 0) 9 fStr []]) [0] ⟨by decide, rfl⟩ ?_
    exact PJ.retn (vs := [(.slice none 0 0), .int .i64 1]) Try.results55 ⟨rfl, rfl, trivial⟩ ⟨_, rfl, rfl⟩
  · replace hm := ifF hm hb6
    refine WJ.skip ?_
    refine PJ.next ?_
    refine WJ.seq ?_
    refine WJ.reg ?_
    refine SJ.buildSlice (R := fStr) (os := []) [] Try.runUnderlying78 Try.sizeOf9 Try.zeroValue9 rfl rfl rfl rfl rfl rfl fun v7 => ?_
    refine SJ.q (YldS.yld (y_assign rfl)) rfl ?_
    refine SJ.nil ?_
    refine PJ.next ?_
    obtain ⟨k10, hk11, hm⟩ := withK_open hm
    refine WJ.join (X := (List Str) × Value) (fun (x : (List Str) × Value) => k10 x.1 = some r) (fun (x : (List Str) × Value) => [(4, x.2)]) (fun (x : (List Str) × Value) => [row x.2 9 fStr x.1]) ?_ ?_
    · clear hk11
      refine WJ.seq ?_
      refine WJ.quiet ?_
      refine QJ.step (YldS.yld (y_assign rfl)) rfl ?_
      refine QJ.done ?_
      refine PJ.next ?_
      refine WJ.block ?_
      refine WJ.sel (L' := (fun (x : (List Str) × Value × Int) => [row x.2.1 9 fStr x.1]) ([], v7, 0)) [0] ⟨by decide, rfl⟩ ?_
      refine WJ.sub (m' := (fun (x : (List Str) × Value × Int) => [(0, v2), (4, x.2.1), (5, .int .i64 x.2.2)]) ([], v7, 0)) ⟨rfl, rfl, rfl, trivial⟩ ?_
      refine WJ.loop (X := (List Str) × Value × Int) (fun N (x : (List Str) × Value × Int) => s_ShortestStarts_l1 k10 words1 N x.1 x.2.2 = some r) (fun (x : (List Str) × Value × Int) => [(0, v2), (4, x.2.1), (5, .int .i64 x.2.2)]) (fun (x : (List Str) × Value × Int) => [row x.2.1 9 fStr x.1]) ?_ N ([], v7, 0) hm
      · rintro N ⟨l12, v13, i14⟩ hI
        have hm := hI; clear hI
        cases N with
        | zero => cases hm
        | succ N =>
        unfold s_ShortestStarts_l1 at hm
        refine WJ.seq ?_
        refine WJ.seq ?_
        refine WJ.quiet ?_
        refine QJ.step (YldS.yld (y_move rfl)) rfl ?_
        refine QJ.step (YldS.yld (y_move rfl)) rfl ?_
        refine QJ.step (YldS.yld (y_lenS Try.runUnderlying78 hr3 rfl)) rfl ?_
        refine QJ.step (YldS.yld (y_bin rfl rfl rfl)) rfl ?_
        refine QJ.done ?_
        refine PJ.next ?_
        refine WJ.cond (t := decide (i14 < (List.length words1 : Int))) rfl (fun hb15 => ?_) (fun hb15 => ?_)
        · replace hm := ifT hm hb15
          refine WJ.skip ?_
          refine PJ.next ?_
          obtain ⟨k19, hk19, hm⟩ := withK_open hm
          refine WJ.join (X := (List Str) × Value) (fun (x : (List Str) × Value) => k19 x.1 = some r) (fun (x : (List Str) × Value) => [(0, v2), (4, x.2), (5, .int .i64 i14)]) (fun (x : (List Str) × Value) => [row x.2 9 fStr x.1]) ?_ ?_
          · clear hk19
            refine WJ.block ?_
            refine WJ.seq ?_
            refine WJ.quiet ?_
            refine QJ.step (YldS.yld (y_assign rfl)) rfl ?_
            refine QJ.done ?_
            refine PJ.next ?_
            obtain ⟨k23, hk22, hm⟩ := withK_open hm
            refine WJ.join (X := Int) (fun (x : Int) => k23 x = some r) (fun (x : Int) => [(0, v2), (4, v13), (5, .int .i64 i14), (6, .int .i64 x)]) (fun (x : Int) => [row v13 9 fStr l12]) ?_ ?_
            · clear hk22
              refine WJ.block ?_
              refine WJ.sel (L' := (fun (x : Int) => [row v13 9 fStr l12]) 1) [0] ⟨by decide, rfl⟩ ?_
              refine WJ.sub (m' := (fun (x : Int) => [(0, v2), (4, v13), (5, .int .i64 i14), (6, .int .i64 x)]) 1) ⟨rfl, rfl, rfl, rfl, trivial⟩ ?_
              refine WJ.loop (X := Int) (fun N (x : Int) => s_ShortestStarts_l2 k23 words1 i14 N x = some r) (fun (x : Int) => [(0, v2), (4, v13), (5, .int .i64 i14), (6, .int .i64 x)]) (fun (x : Int) => [row v13 9 fStr l12]) ?_ N 1 hm
              · rintro N n23 hI
                have hm := hI; clear hI
                cases N with
                | zero => cases hm
                | succ N =>
                unfold s_ShortestStarts_l2 at hm
                refine WJ.seq ?_
                refine WJ.seq ?_
                refine WJ.quiet ?_
                refine QJ.step (YldS.yld (y_move rfl)) rfl ?_
                refine QJ.step (YldS.yld (y_move rfl)) rfl ?_
                refine QJ.step (YldS.yld (y_move rfl)) rfl ?_
                obtain ⟨e24, h25, hm⟩ := bindS hm
                obtain ⟨ad26, _, rfl, ha27, hy28⟩ := hr3.elem h25
                refine QJ.step (YldS.yld (hy28 Try.runUnderlying78 Try.sizeOf9 rfl rfl)) rfl ?_
                refine QJ.step (YldS.yld (y_load1 (v := str e24) Try.isAgg9 ha27 St.frozenC rfl)) rfl ?_
                refine QJ.step (YldS.yld (y_lenStr Try.runUnderlying9 rfl)) rfl ?_
                refine QJ.step (YldS.yld (y_bin rfl rfl rfl)) rfl ?_
                refine QJ.step (YldS.yld (y_move rfl)) rfl ?_
                obtain ⟨t29, h30, hm⟩ := bindS hm
                refine QJ.cut 10 [(0, v2), (4, v13), (5, .int .i64 i14), (6, .int .i64 n23), (34, .bool t29)] ?_ ?_
                · rcases Bool.eq_false_or_eq_true (decide (n23 < (List.length e24 : Int))) with hb31 | hb31
                  · replace h30 := andT h30 hb31
                    refine QJ.on rfl rfl (cB hb31) (YldS.yld (y_move rfl)) rfl ?_
                    refine QJ.on rfl rfl (cB hb31) (YldS.yld (y_move rfl)) rfl ?_
                    refine QJ.on rfl rfl (cB hb31) (YldS.yld (y_move rfl)) rfl ?_
                    obtain ⟨e32, h33, h30⟩ := bindS h30
                    obtain ⟨ad34, _, rfl, ha35, hy36⟩ := hr3.elem h33
                    refine QJ.on rfl rfl (cB hb31) (YldS.yld (hy36 Try.runUnderlying78 Try.sizeOf9 rfl rfl)) rfl ?_
                    refine QJ.on rfl rfl (cB hb31) (YldS.yld (y_load1 (v := str e32) Try.isAgg9 ha35 St.frozenC rfl)) rfl ?_
                    refine QJ.on rfl rfl (cB hb31) (YldS.yld (y_move rfl)) rfl ?_
                    obtain ⟨s37, h38, h30⟩ := bindS h30
                    refine QJ.on rfl rfl (cB hb31) (YldS.yld (y_subStr (i := none) (j := some n23) h38 Try.runUnderlying9 rfl trivial ⟨_, rfl⟩)) rfl ?_
                    obtain ⟨r39, h40, h30⟩ := bindS h30
                    refine QJ.on rfl rfl (cB hb31) (y_call Try.call145 rfl (RetG.quiet fun w hw => ok_s_l16Count h40 w _ (hr3.st hw))) rfl ?_
                    refine QJ.on rfl rfl (cB hb31) (YldS.yld (y_bin rfl rfl rfl)) rfl ?_
                    refine QJ.step (YldS.yld (y_pick_t (cB hb31) rfl)) rfl ?_
                    obtain rfl := Option.some.inj h30
                    exact QJ.cut_end ⟨rfl, rfl, rfl, rfl, rfl, trivial⟩
                  · obtain rfl := andF h30 hb31
                    refine QJ.off rfl rfl (cB hb31) rfl rfl ?_
                    refine QJ.off rfl rfl (cB hb31) rfl rfl ?_
                    refine QJ.off rfl rfl (cB hb31) rfl rfl ?_
                    refine QJ.off rfl rfl (cB hb31) rfl rfl ?_
                    refine QJ.off rfl rfl (cB hb31) rfl rfl ?_
                    refine QJ.off rfl rfl (cB hb31) rfl rfl ?_
                    refine QJ.off rfl rfl (cB hb31) rfl rfl ?_
                    refine QJ.off rfl rfl (cB hb31) rfl rfl ?_
                    refine QJ.off rfl rfl (cB hb31) rfl rfl ?_
                    refine QJ.step (YldS.yld (y_pick_f (cB hb31) rfl)) rfl ?_
                    exact QJ.cut_end ⟨rfl, rfl, rfl, rfl, rfl, trivial⟩
                refine QJ.done ?_
                refine PJ.next ?_
                refine WJ.cond (t := t29) rfl (fun hb41 => ?_) (fun hb41 => ?_)
                · replace hm := ifT hm hb41
                  refine WJ.skip ?_
                  refine PJ.next ?_
                  refine WJ.block ?_
                  refine WJ.quiet ?_
                  refine QJ.step (YldS.yld (y_move rfl)) rfl ?_
                  refine QJ.step (YldS.yld (y_bin rfl rfl rfl)) rfl ?_
                  refine QJ.step (YldS.yld (y_assign rfl)) rfl ?_
                  refine QJ.done ?_
                  refine PJ.block_normal ?_
                  exact PJ.round (w64 (n23 + 1)) [0] hm ⟨rfl, rfl, rfl, rfl, trivial⟩ ⟨by decide, rfl⟩
                · replace hm := ifF hm hb41
                  refine WJ.exit ?_
                  refine PJ.then_exit (PJ.then_exit (PJ.block_exit ?_))
                  exact PJ.joined n23 [0] hm ⟨rfl, rfl, rfl, rfl, trivial⟩ ⟨by decide, rfl⟩
            · rintro n20 hm
              subst hk22
              refine WJ.reg ?_
              refine SJ.q (YldS.yld (y_move rfl)) rfl ?_
              refine SJ.q (YldS.yld (y_move rfl)) rfl ?_
              refine SJ.q (YldS.yld (y_move rfl)) rfl ?_
              obtain ⟨e42, h43, hm⟩ := bindS hm
              obtain ⟨ad44, _, rfl, ha45, hy46⟩ := hr3.elem h43
              refine SJ.q (YldS.yld (hy46 Try.runUnderlying78 Try.sizeOf9 rfl rfl)) rfl ?_
              refine SJ.q (YldS.yld (y_load1 (v := str e42) Try.isAgg9 ha45 St.frozenC rfl)) rfl ?_
              refine SJ.q (YldS.yld (y_move rfl)) rfl ?_
              obtain ⟨s47, h48, hm⟩ := bindS hm
              refine SJ.q (YldS.yld (y_subStr (i := none) (j := some n20) h48 Try.runUnderlying9 rfl trivial ⟨_, rfl⟩)) rfl ?_
              refine SJ.buildSlice (R := fStr) (os := [.tmp 43]) [s47] Try.runUnderlying78 Try.sizeOf9 Try.zeroValue9 rfl rfl rfl rfl rfl rfl fun v49 => ?_
              obtain ⟨l50, h51, hm⟩ := bindS hm
              refine SJ.append (k := 1) (R := fStr) h51 rfl Try.underlying78 el9 rfl rfl rfl (fun w hw => (hw.row_rd (k := 0) rfl)) rfl fun v52 => ?_
              refine SJ.q (YldS.yld (y_assign rfl)) rfl ?_
              refine SJ.nil ?_
              refine PJ.block_normal ?_
              exact PJ.joined (l50, v52) [1] hm ⟨rfl, rfl, rfl, trivial⟩ ⟨by decide, rfl⟩
          · rintro ⟨l16, v17⟩ hm
            subst hk19
            refine WJ.quiet ?_
            refine QJ.step (YldS.yld (y_move rfl)) rfl ?_
            refine QJ.step (YldS.yld (y_bin rfl rfl rfl)) rfl ?_
            refine QJ.step (YldS.yld (y_assign rfl)) rfl ?_
            refine QJ.done ?_
            exact PJ.round (l16, v17, w64 (i14 + 1)) [0] hm ⟨rfl, rfl, rfl, trivial⟩ ⟨by decide, rfl⟩
        · replace hm := ifF hm hb15
          refine WJ.exit ?_
          refine PJ.then_exit (PJ.then_exit (PJ.block_exit ?_))
          exact PJ.joined (l12, v13) [0] hm ⟨rfl, trivial⟩ ⟨by decide, rfl⟩
    · rintro ⟨l8, v9⟩ hm
      subst hk11
      refine WJ.seq ?_
      refine WJ.quiet ?_
      refine QJ.step (YldS.yld (y_move rfl)) rfl ?_
      refine QJ.step (YldS.yld (y_assign rfl)) rfl ?_
      refine QJ.step (YldS.yld (y_assign rfl)) rfl ?_
      refine QJ.done ?_
      refine PJ.next ?_
      refine WJ.ret ?_
      obtain rfl := Option.some.inj hm
      refine PJ.sel (L' := [row v9 9 fStr l8]) [0] ⟨by decide, rfl⟩ ?_
      exact PJ.retn (vs := [v9, .int .i64 0]) Try.results55 ⟨rfl, rfl, trivial⟩ ⟨_, rfl, rfl⟩

set_option maxRecDepth 100000 in
set_option maxHeartbeats 1000000 in
theorem ok_s_DrawWordFor {N : Nat} {code1 : List UInt8} {r : (List Str) × Str} (hm : s_DrawWordFor N code1 = some r) (w : World) (v2 : Value) (hr3 : RdS w (cx w).Fz v2 fByte.rp code1) :
    Calls Try.prog 56 #[v2] w (RetG (cx w) fun u L => ∃ (u1 : Value), (u = tup [u1, str r.2] ∧ L = [row u1 9 fStr r.1])) := by
  unfold s_DrawWordFor at hm
  refine Calls.enter [v2] Try.func56 rfl Try.ntmps56 rfl ?_
  refine WJ.seq ?_
  refine WJ.quiet ?_
  refine QJ.step (YldS.yld (y_assign rfl)) rfl ?_
  refine QJ.step (YldS.yld (y_assign rfl)) rfl ?_
  refine QJ.done ?_
  refine PJ.next ?_
  refine WJ.seq ?_
  refine WJ.reg ?_
  refine SJ.q (YldS.yld (y_move rfl)) rfl ?_
  obtain ⟨r4, h5, hm⟩ := bindS hm
  refine SJ.call Try.call95 rfl (fun w hw => ok_s_l00From h5 w _ (hr3.st hw)) rfl ?_
  rintro _ _ ⟨g6, rfl, rfl⟩
  refine SJ.q (YldS.yld (y_assign rfl)) rfl ?_
  refine SJ.nil ?_
  refine PJ.next ?_
  refine WJ.seq ?_
  refine WJ.reg ?_
  refine SJ.q (YldS.yld (y_move rfl)) rfl ?_
  obtain ⟨r7, h8, hm⟩ := bindS hm
  refine SJ.call1 (k := 0) rfl Try.call141 rfl (fun w S hw hA hO => ok_s_l16DrawWords h8 w S _ (hr3.st1 hw hO) hA) rfl ?_
  rintro v9 _ ⟨_, rfl, rfl⟩
  refine SJ.q (YldS.yld (y_assign rfl)) rfl ?_
  refine SJ.nil ?_
  refine PJ.next ?_
  refine WJ.seq ?_
  refine WJ.reg ?_
  refine SJ.q (YldS.yld (y_move rfl)) rfl ?_
  refine SJ.q (YldS.yld (y_move rfl)) rfl ?_
  refine SJ.buildSlice (R := fStr) (os := [.const (str [98]), .const (str [98, 97]), .const (str [98, 97, 114]), .const (str [98, 97, 114, 107]), .const (str [99, 97]), .const (str [99, 97, 114]), .const (str [107]), .const (str [122]), .const (str []), .const (str [75])]) [[98], [98, 97], [98, 97, 114], [98, 97, 114, 107], [99, 97], [99, 97, 114], [107], [122], [], [75]] Try.runUnderlying78 Try.sizeOf9 Try.zeroValue9 rfl rfl rfl rfl rfl rfl fun v10 => ?_
  obtain ⟨r11, h12, hm⟩ := bindS hm
  refine SJ.call2 (k := 1) rfl Try.call113 rfl (fun w S hw hA hO hB => ok_s_l00Src_text h12 w S _ (hr3.st1 hw hO) _ (hB.row_rd (j := 0) (k := 1) rfl rfl) hA) rfl ?_
  rintro _ _ ⟨rfl, rfl⟩
  refine SJ.q (YldS.yld (y_assign rfl)) rfl ?_
  refine SJ.q (YldS.yld (y_assign rfl)) rfl ?_
  refine SJ.nil ?_
  refine PJ.next ?_
  refine WJ.ret ?_
  obtain rfl := Option.some.inj hm
  refine PJ.sel (L' := [row v9 9 fStr r7.1]) [2] ⟨by decide, rfl⟩ ?_
  exact PJ.retn (vs := [v9, str r11.1]) Try.results56 ⟨rfl, rfl, trivial⟩ ⟨_, rfl, rfl⟩

set_option maxRecDepth 100000 in
set_option maxHeartbeats 1000000 in
theorem ok_i_WordFor {N : Nat} {words1 : List Str} {start4 : Str} {r : Str × Int} (hm : i_WordFor N words1 start4 = some r) (w : World) (v2 : Value) (hr3 : RdS w (cx w).Fz v2 fStr.rp words1) :
    Calls Try.prog 57 #[v2, str start4] w (Ret (cx w) (tup [str r.1, .int .i64 r.2])) := by
  unfold i_WordFor at hm
  refine Calls.enter [v2, str start4] Try.func57 rfl Try.ntmps57 rfl ?_
  refine WJ.seq ?_
  refine WJ.quiet ?_
  refine QJ.step (YldS.yld (y_assign rfl)) rfl ?_
  refine QJ.step (YldS.yld (y_assign rfl)) rfl ?_
  refine QJ.done ?_
  refine PJ.next ?_
  refine WJ.seq ?_
  refine WJ.seq ?_
  refine WJ.quiet ?_
  refine QJ.step (YldS.yld (y_move rfl)) rfl ?_
  obtain ⟨r5, h6, hm⟩ := bindS hm
  refine QJ.step (y_call Try.call142 rfl (RetG.quiet fun w hw => ok_i_areDifferentWords h6 w _ (hr3.st hw))) rfl ?_
  refine QJ.step (YldS.yld (y_not rfl)) rfl ?_
  refine QJ.done ?_
  refine PJ.next ?_
  refine WJ.cond (t := !r5) rfl (fun hb7 => ?_) (fun hb7 => ?_)
  · replace hm := ifT hm hb7
    refine WJ.seq ?_
    refine WJ.quiet ?_
    refine QJ.step (YldS.yld (y_assign rfl)) rfl ?_
    refine QJ.step (YldS.yld (y_assign rfl)) rfl ?_
    refine QJ.done ?_
    refine PJ.next ?_
    refine WJ.ret ?_
    refine PJ.then_ret ?_
    obtain rfl := Option.some.inj hm
    refine PJ.sel (L' := []) [] ⟨List.nodup_nil, rfl⟩ ?_
    exact PJ.retn (vs := [str [], .int .i64 1]) Try.results57 ⟨rfl, rfl, trivial⟩ ⟨rfl, rfl⟩
  · replace hm := ifF hm hb7
    refine WJ.skip ?_
    refine PJ.next ?_
    refine WJ.seq ?_
    refine WJ.seq ?_
    refine WJ.quiet ?_
    refine QJ.step (YldS.yld (y_move rfl)) rfl ?_
    obtain ⟨r8, h9, hm⟩ := bindS hm
    refine QJ.step (y_call Try.call146 rfl (RetG.quiet fun w hw => ok_i_isSmallWord h9 w )) rfl ?_
    refine QJ.step (YldS.yld (y_not rfl)) rfl ?_
    refine QJ.done ?_
    refine PJ.next ?_
    refine WJ.cond (t := !r8) rfl (fun hb10 => ?_) (fun hb10 => ?_)
    · replace hm := ifT hm hb10
      refine WJ.seq ?_
      refine WJ.quiet ?_
      refine QJ.step (YldS.yld (y_assign rfl)) rfl ?_
      refine QJ.step (YldS.yld (y_assign rfl)) rfl ?_
      refine QJ.done ?_
      refine PJ.next ?_
      refine WJ.ret ?_
      refine PJ.then_ret ?_
      obtain rfl := Option.some.inj hm
      refine PJ.sel (L' := []) [] ⟨List.nodup_nil, rfl⟩ ?_
      exact PJ.retn (vs := [str [], .int .i64 2]) Try.results57 ⟨rfl, rfl, trivial⟩ ⟨rfl, rfl⟩
    · replace hm := ifF hm hb10
      refine WJ.skip ?_
      refine PJ.next ?_
      refine WJ.seq ?_
      refine WJ.reg ?_
      refine SJ.buildSlice (R := fStr) (os := []) [] Try.runUnderlying78 Try.sizeOf9 Try.zeroValue9 rfl rfl rfl rfl rfl rfl fun v11 => ?_
      refine SJ.q (YldS.yld (y_assign rfl)) rfl ?_
      refine SJ.nil ?_
      refine PJ.next ?_
      obtain ⟨k14, hk15, hm⟩ := withK_open hm
      refine WJ.join (X := (List Str) × Value) (fun (x : (List Str) × Value) => k14 x.1 = some r) (fun (x : (List Str) × Value) => [(6, x.2)]) (fun (x : (List Str) × Value) => [row x.2 9 fStr x.1]) ?_ ?_
      · clear hk15
        refine WJ.seq ?_
        refine WJ.quiet ?_
        refine QJ.step (YldS.yld (y_move rfl)) rfl ?_
        refine QJ.step (YldS.yld (y_lenS Try.runUnderlying78 hr3 rfl)) rfl ?_
        refine QJ.step (YldS.yld (y_move rfl)) rfl ?_
        refine QJ.done ?_
        refine PJ.next ?_
        refine WJ.block ?_
        refine WJ.sel (L' := (fun (x : (List Str) × Value × Int) => [row x.2.1 9 fStr x.1]) ([], v11, 0)) [0] ⟨by decide, rfl⟩ ?_
        refine WJ.sub (m' := (fun (x : (List Str) × Value × Int) => [(1, str start4), (6, x.2.1), (16, v2), (17, .int .i64 (List.length words1 : Int)), (18, .int .i64 x.2.2)]) ([], v11, 0)) ⟨rfl, rfl, rfl, rfl, rfl, trivial⟩ ?_
        refine WJ.loop (X := (List Str) × Value × Int) (fun N (x : (List Str) × Value × Int) => i_WordFor_l1 k14 words1 start4 N x.1 x.2.2 = some r) (fun (x : (List Str) × Value × Int) => [(1, str start4), (6, x.2.1), (16, v2), (17, .int .i64 (List.length words1 : Int)), (18, .int .i64 x.2.2)]) (fun (x : (List Str) × Value × Int) => [row x.2.1 9 fStr x.1]) ?_ N ([], v11, 0) hm
        · rintro N ⟨l16, v17, x18⟩ hI
          have hm := hI; clear hI
          cases N with
          | zero => cases hm
          | succ N =>
          unfold i_WordFor_l1 at hm
          refine WJ.seq ?_
          refine WJ.quiet ?_
          refine QJ.step (YldS.yld (y_bin rfl rfl rfl)) rfl ?_
          refine QJ.done ?_
          refine PJ.next ?_
          refine WJ.seq ?_
          refine WJ.cond (t := decide (x18 < (List.length words1 : Int))) rfl (fun hb19 => ?_) (fun hb19 => ?_)
          · replace hm := ifT hm hb19
            refine WJ.skip ?_
            refine PJ.next ?_
            obtain ⟨k23, hk23, hm⟩ := withK_open hm
            refine WJ.join (X := (List Str) × Value) (fun (x : (List Str) × Value) => k23 x.1 = some r) (fun (x : (List Str) × Value) => [(1, str start4), (6, x.2), (16, v2), (17, .int .i64 (List.length words1 : Int)), (18, .int .i64 x18)]) (fun (x : (List Str) × Value) => [row x.2 9 fStr x.1]) ?_ ?_
            · clear hk23
              refine WJ.block ?_
              refine WJ.seq ?_
              refine WJ.quiet ?_
              obtain ⟨e24, h25, hm⟩ := bindS hm
              obtain ⟨ad26, _, rfl, ha27, hy28⟩ := hr3.elem h25
              refine QJ.step (YldS.yld (hy28 Try.runUnderlying78 Try.sizeOf9 rfl rfl)) rfl ?_
              refine QJ.step (YldS.yld (y_load1 (v := str e24) Try.isAgg9 ha27 St.frozenC rfl)) rfl ?_
              refine QJ.step (YldS.yld (y_assign rfl)) rfl ?_
              refine QJ.done ?_
              refine PJ.next ?_
              refine WJ.seq ?_
              refine WJ.seq ?_
              refine WJ.quiet ?_
              refine QJ.step (YldS.yld (y_move rfl)) rfl ?_
              refine QJ.step (YldS.yld (y_move rfl)) rfl ?_
              refine QJ.step (YldS.yld (y_binS rfl rfl rfl)) rfl ?_
              refine QJ.done ?_
              refine PJ.next ?_
              refine WJ.cond (t := (e24 == start4)) rfl (fun hb29 => ?_) (fun hb29 => ?_)
              · replace hm := ifT hm hb29
                refine WJ.seq ?_
                refine WJ.quiet ?_
                refine QJ.step (YldS.yld (y_move rfl)) rfl ?_
                refine QJ.step (YldS.yld (y_assign rfl)) rfl ?_
                refine QJ.step (YldS.yld (y_assign rfl)) rfl ?_
                refine QJ.done ?_
                refine PJ.next ?_
                refine WJ.ret ?_
                refine PJ.then_ret (PJ.block_ret (PJ.then_ret (PJ.then_ret (PJ.block_ret (PJ.then_ret ?_)))))
                obtain rfl := Option.some.inj hm
                refine PJ.sel (L' := []) [] ⟨List.nodup_nil, rfl⟩ ?_
                exact PJ.retn (vs := [str e24, .int .i64 0]) Try.results57 ⟨rfl, rfl, trivial⟩ ⟨rfl, rfl⟩
              · replace hm := ifF hm hb29
                refine WJ.skip ?_
                refine PJ.next ?_
                refine WJ.seq ?_
                refine WJ.quiet ?_
                refine QJ.step (YldS.yld (y_move rfl)) rfl ?_
                refine QJ.step (YldS.yld (y_move rfl)) rfl ?_
                obtain ⟨r30, h31, hm⟩ := bindS hm
                refine QJ.step (y_call Try.call143 rfl (RetG.quiet fun w hw => ok_strings_HasPrefix h31 w )) rfl ?_
                refine QJ.done ?_
                refine PJ.next ?_
                refine WJ.cond (t := r30) rfl (fun hb32 => ?_) (fun hb32 => ?_)
                · replace hm := ifT hm hb32
                  refine WJ.reg ?_
                  refine SJ.q (YldS.yld (y_move rfl)) rfl ?_
                  refine SJ.q (YldS.yld (y_move rfl)) rfl ?_
                  refine SJ.buildSlice (R := fStr) (os := [.tmp 30]) [e24] Try.runUnderlying78 Try.sizeOf9 Try.zeroValue9 rfl rfl rfl rfl rfl rfl fun v33 => ?_
                  obtain ⟨l34, h35, hm⟩ := bindS hm
                  refine SJ.append (k := 1) (R := fStr) h35 rfl Try.underlying78 el9 rfl rfl rfl (fun w hw => (hw.row_rd (k := 0) rfl)) rfl fun v36 => ?_
                  refine SJ.q (YldS.yld (y_assign rfl)) rfl ?_
                  refine SJ.nil ?_
                  refine PJ.block_normal ?_
                  exact PJ.joined (l34, v36) [1] hm ⟨rfl, rfl, rfl, rfl, rfl, trivial⟩ ⟨by decide, rfl⟩
                · replace hm := ifF hm hb32
                  refine WJ.skip ?_
                  refine PJ.block_normal ?_
                  exact PJ.joined (l16, v17) [0] hm ⟨rfl, rfl, rfl, rfl, rfl, trivial⟩ ⟨by decide, rfl⟩
            · rintro ⟨l20, v21⟩ hm
              subst hk23
              refine WJ.quiet ?_
              refine QJ.step (YldS.yld (y_bin rfl rfl rfl)) rfl ?_
              refine QJ.step (YldS.yld (y_move rfl)) rfl ?_
              refine QJ.done ?_
              exact PJ.round (l20, v21, w64 (x18 + 1)) [0] hm ⟨rfl, rfl, rfl, rfl, rfl, trivial⟩ ⟨by decide, rfl⟩
          · replace hm := ifF hm hb19
            refine WJ.exit ?_
            refine PJ.then_exit (PJ.then_exit (PJ.block_exit ?_))
            exact PJ.joined (l16, v17) [0] hm ⟨rfl, trivial⟩ ⟨by decide, rfl⟩
      · rintro ⟨l12, v13⟩ hm
        subst hk15
        refine WJ.seq ?_
        refine WJ.seq ?_
        refine WJ.quiet ?_
        refine QJ.step (YldS.yld (y_move rfl)) rfl ?_
        refine QJ.step (YldS.yld (y_lenRow (k := 0) rfl Try.runUnderlying78 rfl)) rfl ?_
        refine QJ.done ?_
        refine PJ.next ?_
        refine WJ.block ?_
        refine WJ.seq ?_
        refine WJ.quiet ?_
        refine QJ.step (YldS.yld (y_bin rfl rfl rfl)) rfl ?_
        refine QJ.step (YldS.yld (y_assign rfl)) rfl ?_
        refine QJ.done ?_
        refine PJ.next ?_
        refine WJ.cond (t := ((List.length l12 : Int) == 0)) rfl (fun hb37 => ?_) (fun hb37 => ?_)
        · replace hm := ifT hm hb37
          refine WJ.seq ?_
          refine WJ.quiet ?_
          refine QJ.step (YldS.yld (y_assign rfl)) rfl ?_
          refine QJ.step (YldS.yld (y_assign rfl)) rfl ?_
          refine QJ.done ?_
          refine PJ.next ?_
          refine WJ.ret ?_
          refine PJ.block_ret (PJ.then_ret ?_)
          obtain rfl := Option.some.inj hm
          refine PJ.sel (L' := []) [] ⟨List.nodup_nil, rfl⟩ ?_
          exact PJ.retn (vs := [str [], .int .i64 3]) Try.results57 ⟨rfl, rfl, trivial⟩ ⟨rfl, rfl⟩
        · replace hm := ifF hm hb37
          refine WJ.seq ?_
          refine WJ.quiet ?_
          refine QJ.step (YldS.yld (y_bin rfl rfl rfl)) rfl ?_
          refine QJ.step (YldS.yld (y_assign rfl)) rfl ?_
          refine QJ.done ?_
          refine PJ.next ?_
          refine WJ.cond (t := ((List.length l12 : Int) == 1)) rfl (fun hb38 => ?_) (fun hb38 => ?_)
          · replace hm := ifT hm hb38
            refine WJ.seq ?_
            refine WJ.quiet ?_
            refine QJ.step (YldS.yld (y_move rfl)) rfl ?_
            obtain ⟨e39, h40, hm⟩ := bindS hm
            refine QJ.step (YldS.yld (y_ixRow (k := 0) (R := fStr) rfl Try.runUnderlying78 Try.sizeOf9 rfl rfl h40)) rfl ?_
            refine QJ.step (YldS.yld (y_loadR (k := 0) (i := (Int.toNat 0)) (off := 0) (u := str e39) rfl Try.isAgg9 rfl (idx_get h40) rfl)) rfl ?_
            refine QJ.step (YldS.yld (y_assign rfl)) rfl ?_
            refine QJ.step (YldS.yld (y_assign rfl)) rfl ?_
            refine QJ.done ?_
            refine PJ.next ?_
            refine WJ.ret ?_
            refine PJ.block_ret (PJ.then_ret ?_)
            obtain rfl := Option.some.inj hm
            refine PJ.sel (L' := []) [] ⟨List.nodup_nil, rfl⟩ ?_
            exact PJ.retn (vs := [str e39, .int .i64 0]) Try.results57 ⟨rfl, rfl, trivial⟩ ⟨rfl, rfl⟩
          · replace hm := ifF hm hb38
            refine WJ.skip ?_
            refine PJ.block_normal (PJ.next ?_)
            refine WJ.seq ?_
            refine WJ.quiet ?_
            refine QJ.step (YldS.yld (y_assign rfl)) rfl ?_
            refine QJ.step (YldS.yld (y_assign rfl)) rfl ?_
            refine QJ.done ?_
            refine PJ.next ?_
            refine WJ.ret ?_
            obtain rfl := Option.some.inj hm
            refine PJ.sel (L' := []) [] ⟨List.nodup_nil, rfl⟩ ?_
            exact PJ.retn (vs := [str [], .int .i64 9]) Try.results57 ⟨rfl, rfl, trivial⟩ ⟨rfl, rfl⟩

set_option maxRecDepth 100000 in
set_option maxHeartbeats 1000000 in
theorem ok_s_WordFor {N : Nat} {words1 : List Str} {start4 : Str} {r : Str × Int} (hm : s_WordFor N words1 start4 = some r) (w : World) (v2 : Value) (hr3 : RdS w (cx w).Fz v2 fStr.rp words1) :
    Calls Try.prog 58 #[v2, str start4] w (Ret (cx w) (tup [str r.1, .int .i64 r.2])) := by
  unfold s_WordFor at hm
  refine Calls.enter [v2, str start4] Try.func58 rfl Try.ntmps58 rfl ?_
  refine WJ.seq ?_
  refine WJ.quiet ?_
  refine QJ.step (YldS.yld (y_assign rfl)) rfl ?_
  refine QJ.step (YldS.yld (y_assign rfl)) rfl ?_
  refine QJ.done ?_
  refine PJ.next ?_
  refine WJ.seq ?_
  refine WJ.seq ?_
  refine WJ.quiet ?_
  refine QJ.step (YldS.yld (y_move rfl)) rfl ?_
  obtain ⟨r5, h6, hm⟩ := bindS hm
  refine QJ.step (y_call Try.call144 rfl (RetG.quiet fun w hw => ok_s_l16List h6 w _ (hr3.st hw))) rfl ?_
  refine QJ.step (YldS.yld (y_not rfl)) rfl ?_
  refine QJ.done ?_
  refine PJ.next ?_
  refine WJ.cond (t := !r5) rfl (fun hb7 => ?_) (fun hb7 => ?_)
  · replace hm := ifT hm hb7
    refine WJ.seq ?_
    refine WJ.quiet ?_
    refine QJ.step (YldS.yld (y_assign rfl)) rfl ?_
    refine QJ.step (YldS.yld (y_assign rfl)) rfl ?_
    refine QJ.done ?_
    refine PJ.next ?_
    refine WJ.ret ?_
    refine PJ.then_ret ?_
    obtain rfl := Option.some.inj hm
    refine PJ.sel (L' := []) [] ⟨List.nodup_nil, rfl⟩ ?_
    exact PJ.retn (vs := [str [], .int .i64 1]) Try.results58 ⟨rfl, rfl, trivial⟩ ⟨rfl, rfl⟩
  · replace hm := ifF hm hb7
    refine WJ.skip ?_
    refine PJ.next ?_
    refine WJ.seq ?_
    refine WJ.seq ?_
    refine WJ.quiet ?_
    refine QJ.step (YldS.yld (y_move rfl)) rfl ?_
    obtain ⟨r8, h9, hm⟩ := bindS hm
    refine QJ.step (y_call Try.call147 rfl (RetG.quiet fun w hw => ok_s_l16Word h9 w )) rfl ?_
    refine QJ.step (YldS.yld (y_not rfl)) rfl ?_
    refine QJ.done ?_
    refine PJ.next ?_
    refine WJ.cond (t := !r8) rfl (fun hb10 => ?_) (fun hb10 => ?_)
    · replace hm := ifT hm hb10
      refine WJ.seq ?_
      refine WJ.quiet ?_
      refine QJ.step (YldS.yld (y_assign rfl)) rfl ?_
      refine QJ.step (YldS.yld (y_assign rfl)) rfl ?_
      refine QJ.done ?_
      refine PJ.next ?_
      refine WJ.ret ?_
      refine PJ.then_ret ?_
      obtain rfl := Option.some.inj hm
      refine PJ.sel (L' := []) [] ⟨List.nodup_nil, rfl⟩ ?_
      exact PJ.retn (vs := [str [], .int .i64 2]) Try.results58 ⟨rfl, rfl, trivial⟩ ⟨rfl, rfl⟩
    · replace hm := ifF hm hb10
      refine WJ.skip ?_
      refine PJ.next ?_
      refine WJ.seq ?_
      refine WJ.quiet ?_
      refine QJ.step (YldS.yld (y_assign rfl)) rfl ?_
      refine QJ.done ?_
      refine PJ.next ?_
      obtain ⟨k12, hk13, hm⟩ := withK_open hm
      refine WJ.join (X := Str) (fun (x : Str) => k12 x = some r) (fun (x : Str) => [(0, v2), (1, str start4), (6, str x)]) (fun (x : Str) => []) ?_ ?_
      · clear hk13
        refine WJ.seq ?_
        refine WJ.quiet ?_
        refine QJ.step (YldS.yld (y_assign rfl)) rfl ?_
        refine QJ.done ?_
        refine PJ.next ?_
        refine WJ.block ?_
        refine WJ.sel (L' := (fun (x : Str × Int) => []) ([], 0)) [] ⟨List.nodup_nil, rfl⟩ ?_
        refine WJ.sub (m' := (fun (x : Str × Int) => [(0, v2), (1, str start4), (6, str x.1), (7, .int .i64 x.2)]) ([], 0)) ⟨rfl, rfl, rfl, rfl, trivial⟩ ?_
        refine WJ.loop (X := Str × Int) (fun N (x : Str × Int) => s_WordFor_l1 k12 words1 start4 N x.1 x.2 = some r) (fun (x : Str × Int) => [(0, v2), (1, str start4), (6, str x.1), (7, .int .i64 x.2)]) (fun (x : Str × Int) => []) ?_ N ([], 0) hm
        · rintro N ⟨found14, i15⟩ hI
          have hm := hI; clear hI
          cases N with
          | zero => cases hm
          | succ N =>
          unfold s_WordFor_l1 at hm
          refine WJ.seq ?_
          refine WJ.seq ?_
          refine WJ.quiet ?_
          refine QJ.step (YldS.yld (y_move rfl)) rfl ?_
          refine QJ.step (YldS.yld (y_move rfl)) rfl ?_
          refine QJ.step (YldS.yld (y_lenS Try.runUnderlying78 hr3 rfl)) rfl ?_
          refine QJ.step (YldS.yld (y_bin rfl rfl rfl)) rfl ?_
          refine QJ.done ?_
          refine PJ.next ?_
          refine WJ.cond (t := decide (i15 < (List.length words1 : Int))) rfl (fun hb16 => ?_) (fun hb16 => ?_)
          · replace hm := ifT hm hb16
            refine WJ.skip ?_
            refine PJ.next ?_
            obtain ⟨k19, hk19, hm⟩ := withK_open hm
            refine WJ.join (X := Str) (fun (x : Str) => k19 x = some r) (fun (x : Str) => [(0, v2), (1, str start4), (6, str x), (7, .int .i64 i15)]) (fun (x : Str) => []) ?_ ?_
            · clear hk19
              refine WJ.block ?_
              refine WJ.seq ?_
              refine WJ.seq ?_
              refine WJ.quiet ?_
              refine QJ.step (YldS.yld (y_move rfl)) rfl ?_
              refine QJ.step (YldS.yld (y_move rfl)) rfl ?_
              obtain ⟨e20, h21, hm⟩ := bindS hm
              obtain ⟨ad22, _, rfl, ha23, hy24⟩ := hr3.elem h21
              refine QJ.step (YldS.yld (hy24 Try.runUnderlying78 Try.sizeOf9 rfl rfl)) rfl ?_
              refine QJ.step (YldS.yld (y_load1 (v := str e20) Try.isAgg9 ha23 St.frozenC rfl)) rfl ?_
              refine QJ.step (YldS.yld (y_move rfl)) rfl ?_
              refine QJ.step (YldS.yld (y_binS rfl rfl rfl)) rfl ?_
              refine QJ.done ?_
              refine PJ.next ?_
              refine WJ.cond (t := (e20 == start4)) rfl (fun hb25 => ?_) (fun hb25 => ?_)
              · replace hm := ifT hm hb25
                refine WJ.seq ?_
                refine WJ.quiet ?_
                refine QJ.step (YldS.yld (y_move rfl)) rfl ?_
                refine QJ.step (YldS.yld (y_assign rfl)) rfl ?_
                refine QJ.step (YldS.yld (y_assign rfl)) rfl ?_
                refine QJ.done ?_
                refine PJ.next ?_
                refine WJ.ret ?_
                refine PJ.then_ret (PJ.block_ret (PJ.then_ret (PJ.then_ret (PJ.block_ret (PJ.then_ret ?_)))))
                obtain rfl := Option.some.inj hm
                refine PJ.sel (L' := []) [] ⟨List.nodup_nil, rfl⟩ ?_
                exact PJ.retn (vs := [str start4, .int .i64 0]) Try.results58 ⟨rfl, rfl, trivial⟩ ⟨rfl, rfl⟩
              · replace hm := ifF hm hb25
                refine WJ.skip ?_
                refine PJ.next ?_
                refine WJ.seq ?_
                refine WJ.quiet ?_
                refine QJ.step (YldS.yld (y_move rfl)) rfl ?_
                refine QJ.step (YldS.yld (y_move rfl)) rfl ?_
                obtain ⟨e26, h27, hm⟩ := bindS hm
                obtain ⟨ad28, _, rfl, ha29, hy30⟩ := hr3.elem h27
                refine QJ.step (YldS.yld (hy30 Try.runUnderlying78 Try.sizeOf9 rfl rfl)) rfl ?_
                refine QJ.step (YldS.yld (y_load1 (v := str e26) Try.isAgg9 ha29 St.frozenC rfl)) rfl ?_
                refine QJ.step (YldS.yld (y_move rfl)) rfl ?_
                obtain ⟨r31, h32, hm⟩ := bindS hm
                refine QJ.step (y_call Try.call148 rfl (RetG.quiet fun w hw => ok_s_l16Starts h32 w )) rfl ?_
                refine QJ.done ?_
                refine PJ.next ?_
                refine WJ.cond (t := r31) rfl (fun hb33 => ?_) (fun hb33 => ?_)
                · replace hm := ifT hm hb33
                  refine WJ.quiet ?_
                  refine QJ.step (YldS.yld (y_move rfl)) rfl ?_
                  refine QJ.step (YldS.yld (y_move rfl)) rfl ?_
                  obtain ⟨e34, h35, hm⟩ := bindS hm
                  obtain ⟨ad36, _, rfl, ha37, hy38⟩ := hr3.elem h35
                  refine QJ.step (YldS.yld (hy38 Try.runUnderlying78 Try.sizeOf9 rfl rfl)) rfl ?_
                  refine QJ.step (YldS.yld (y_load1 (v := str e34) Try.isAgg9 ha37 St.frozenC rfl)) rfl ?_
                  refine QJ.step (YldS.yld (y_assign rfl)) rfl ?_
                  refine QJ.done ?_
                  refine PJ.block_normal ?_
                  exact PJ.joined e34 [] hm ⟨rfl, rfl, rfl, rfl, trivial⟩ ⟨List.nodup_nil, rfl⟩
                · replace hm := ifF hm hb33
                  refine WJ.skip ?_
                  refine PJ.block_normal ?_
                  exact PJ.joined found14 [] hm ⟨rfl, rfl, rfl, rfl, trivial⟩ ⟨List.nodup_nil, rfl⟩
            · rintro found17 hm
              subst hk19
              refine WJ.quiet ?_
              refine QJ.step (YldS.yld (y_move rfl)) rfl ?_
              refine QJ.step (YldS.yld (y_bin rfl rfl rfl)) rfl ?_
              refine QJ.step (YldS.yld (y_assign rfl)) rfl ?_
              refine QJ.done ?_
              exact PJ.round (found17, w64 (i15 + 1)) [] hm ⟨rfl, rfl, rfl, rfl, trivial⟩ ⟨List.nodup_nil, rfl⟩
          · replace hm := ifF hm hb16
            refine WJ.exit ?_
            refine PJ.then_exit (PJ.then_exit (PJ.block_exit ?_))
            exact PJ.joined found14 [] hm ⟨rfl, rfl, rfl, trivial⟩ ⟨List.nodup_nil, rfl⟩
      · rintro found11 hm
        subst hk13
        refine WJ.seq ?_
        refine WJ.quiet ?_
        refine QJ.step (YldS.yld (y_move rfl)) rfl ?_
        refine QJ.step (YldS.yld (y_move rfl)) rfl ?_
        obtain ⟨r39, h40, hm⟩ := bindS hm
        refine QJ.step (y_call Try.call145 rfl (RetG.quiet fun w hw => ok_s_l16Count h40 w _ (hr3.st hw))) rfl ?_
        refine QJ.step (YldS.yld (y_assign rfl)) rfl ?_
        refine QJ.done ?_
        refine PJ.next ?_
        refine WJ.seq ?_
        refine WJ.seq ?_
        refine WJ.quiet ?_
        refine QJ.step (YldS.yld (y_move rfl)) rfl ?_
        refine QJ.step (YldS.yld (y_bin rfl rfl rfl)) rfl ?_
        refine QJ.done ?_
        refine PJ.next ?_
        refine WJ.cond (t := (r39 == 0)) rfl (fun hb41 => ?_) (fun hb41 => ?_)
        · replace hm := ifT hm hb41
          refine WJ.seq ?_
          refine WJ.quiet ?_
          refine QJ.step (YldS.yld (y_assign rfl)) rfl ?_
          refine QJ.step (YldS.yld (y_assign rfl)) rfl ?_
          refine QJ.done ?_
          refine PJ.next ?_
          refine WJ.ret ?_
          refine PJ.then_ret ?_
          obtain rfl := Option.some.inj hm
          refine PJ.sel (L' := []) [] ⟨List.nodup_nil, rfl⟩ ?_
          exact PJ.retn (vs := [str [], .int .i64 3]) Try.results58 ⟨rfl, rfl, trivial⟩ ⟨rfl, rfl⟩
        · replace hm := ifF hm hb41
          refine WJ.skip ?_
          refine PJ.next ?_
          refine WJ.seq ?_
          refine WJ.seq ?_
          refine WJ.quiet ?_
          refine QJ.step (YldS.yld (y_move rfl)) rfl ?_
          refine QJ.step (YldS.yld (y_bin rfl rfl rfl)) rfl ?_
          refine QJ.done ?_
          refine PJ.next ?_
          refine WJ.cond (t := decide (r39 > 1)) rfl (fun hb42 => ?_) (fun hb42 => ?_)
          · replace hm := ifT hm hb42
            refine WJ.seq ?_
            refine WJ.quiet ?_
            refine QJ.step (YldS.yld (y_assign rfl)) rfl ?_
            refine QJ.step (YldS.yld (y_assign rfl)) rfl ?_
            refine QJ.done ?_
            refine PJ.next ?_
            refine WJ.ret ?_
            refine PJ.then_ret ?_
            obtain rfl := Option.some.inj hm
            refine PJ.sel (L' := []) [] ⟨List.nodup_nil, rfl⟩ ?_
            exact PJ.retn (vs := [str [], .int .i64 9]) Try.results58 ⟨rfl, rfl, trivial⟩ ⟨rfl, rfl⟩
          · replace hm := ifF hm hb42
            refine WJ.skip ?_
            refine PJ.next ?_
            refine WJ.seq ?_
            refine WJ.quiet ?_
            refine QJ.step (YldS.yld (y_move rfl)) rfl ?_
            refine QJ.step (YldS.yld (y_assign rfl)) rfl ?_
            refine QJ.step (YldS.yld (y_assign rfl)) rfl ?_
            refine QJ.done ?_
            refine PJ.next ?_
            refine WJ.ret ?_
            obtain rfl := Option.some.inj hm
            refine PJ.sel (L' := []) [] ⟨List.nodup_nil, rfl⟩ ?_
            exact PJ.retn (vs := [str found11, .int .i64 0]) Try.results58 ⟨rfl, rfl, trivial⟩ ⟨rfl, rfl⟩

set_option maxRecDepth 100000 in
set_option maxHeartbeats 1000000 in
theorem ok_w_f6texts {N : Nat} {a1 : List Str} {b4 : List Str} {r : Bool} (hm : w_f6texts N a1 b4 = some r) (w : World) (v2 : Value) (hr3 : RdS w (cx w).Fz v2 fStr.rp a1) (v5 : Value) (hr6 : RdS w (cx w).Fz v5 fStr.rp b4) :
    Calls Try.prog 59 #[v2, v5] w (Ret (cx w) (.bool r)) := by
  unfold w_f6texts at hm
  refine Calls.enter [v2, v5] Try.func59 rfl Try.ntmps59 rfl ?_
  refine WJ.seq ?_
  refine WJ.quiet ?_
  refine QJ.step (YldS.yld (y_assign rfl)) rfl ?_
  refine QJ.done ?_
  refine PJ.next ?_
  refine WJ.seq ?_
  refine WJ.seq ?_
  refine WJ.quiet ?_
  refine QJ.step (YldS.yld (y_move rfl)) rfl ?_
  refine QJ.step (YldS.yld (y_lenS Try.runUnderlying78 hr3 rfl)) rfl ?_
  refine QJ.step (YldS.yld (y_move rfl)) rfl ?_
  refine QJ.step (YldS.yld (y_lenS Try.runUnderlying78 hr6 rfl)) rfl ?_
  refine QJ.step (YldS.yld (y_bin rfl rfl rfl)) rfl ?_
  refine QJ.done ?_
  refine PJ.next ?_
  refine WJ.cond (t := ((List.length a1 : Int) != (List.length b4 : Int))) rfl (fun hb7 => ?_) (fun hb7 => ?_)
  · replace hm := ifT hm hb7
    refine WJ.seq ?_
    refine WJ.quiet ?_
    refine QJ.step (YldS.yld (y_assign rfl)) rfl ?_
    refine QJ.done ?_
    refine PJ.next ?_
    refine WJ.ret ?_
    refine PJ.then_ret ?_
    obtain rfl := Option.some.inj hm
    refine PJ.sel (L' := []) [] ⟨List.nodup_nil, rfl⟩ ?_
    exact PJ.retn (vs := [.bool false]) Try.results59 ⟨rfl, trivial⟩ ⟨rfl, rfl⟩
  · replace hm := ifF hm hb7
    refine WJ.skip ?_
    refine PJ.next ?_
    obtain ⟨k8, hk9, hm⟩ := withK_open hm
    refine WJ.join (X := Unit) (fun (_ : Unit) => k8  = some r) (fun (_ : Unit) => []) (fun (_ : Unit) => []) ?_ ?_
    · clear hk9
      refine WJ.seq ?_
      refine WJ.quiet ?_
      refine QJ.step (YldS.yld (y_assign rfl)) rfl ?_
      refine QJ.done ?_
      refine PJ.next ?_
      refine WJ.block ?_
      refine WJ.sel (L' := (fun (x : Int) => []) 0) [] ⟨List.nodup_nil, rfl⟩ ?_
      refine WJ.sub (m' := (fun (x : Int) => [(0, v2), (1, v5), (5, .int .i64 x)]) 0) ⟨rfl, rfl, rfl, trivial⟩ ?_
      refine WJ.loop (X := Int) (fun N (x : Int) => w_f6texts_l1 k8 a1 b4 N x = some r) (fun (x : Int) => [(0, v2), (1, v5), (5, .int .i64 x)]) (fun (x : Int) => []) ?_ N 0 hm
      · rintro N i10 hI
        have hm := hI; clear hI
        cases N with
        | zero => cases hm
        | succ N =>
        unfold w_f6texts_l1 at hm
        refine WJ.seq ?_
        refine WJ.seq ?_
        refine WJ.quiet ?_
        refine QJ.step (YldS.yld (y_move rfl)) rfl ?_
        refine QJ.step (YldS.yld (y_move rfl)) rfl ?_
        refine QJ.step (YldS.yld (y_lenS Try.runUnderlying78 hr3 rfl)) rfl ?_
        refine QJ.step (YldS.yld (y_bin rfl rfl rfl)) rfl ?_
        refine QJ.done ?_
        refine PJ.next ?_
        refine WJ.cond (t := decide (i10 < (List.length a1 : Int))) rfl (fun hb11 => ?_) (fun hb11 => ?_)
        · replace hm := ifT hm hb11
          refine WJ.skip ?_
          refine PJ.next ?_
          refine WJ.seq ?_
          refine WJ.block ?_
          refine WJ.seq ?_
          refine WJ.quiet_draw follows (by kernel_rfl) ?_
          refine QJ.step (YldS.yld (y_move rfl)) rfl ?_
          refine QJ.step (YldS.yld (y_move rfl)) rfl ?_
          obtain ⟨e12, h13, hm⟩ := bindS hm
          obtain ⟨ad14, _, rfl, ha15, hy16⟩ := hr3.elem h13
          refine QJ.step (YldS.yld (hy16 Try.runUnderlying78 Try.sizeOf9 rfl rfl)) rfl ?_
          refine QJ.step (YldS.yld (y_load1 (v := str e12) Try.isAgg9 ha15 St.frozenC rfl)) rfl ?_
          refine QJ.step (YldS.yld (y_move rfl)) rfl ?_
          refine QJ.step (YldS.yld (y_move rfl)) rfl ?_
          obtain ⟨e17, h18, hm⟩ := bindS hm
          obtain ⟨ad19, _, rfl, ha20, hy21⟩ := hr6.elem h18
          refine QJ.step (YldS.yld (hy21 Try.runUnderlying78 Try.sizeOf9 rfl rfl)) rfl ?_
          refine QJ.step (YldS.yld (y_load1 (v := str e17) Try.isAgg9 ha20 St.frozenC rfl)) rfl ?_
          refine QJ.step (YldS.yld (y_binS rfl rfl rfl)) rfl ?_
          refine QJ.done ?_
          refine PJ.next ?_
          refine WJ.cond (t := (e12 != e17)) rfl (fun hb22 => ?_) (fun hb22 => ?_)
          · replace hm := ifT hm hb22
            refine WJ.seq ?_
            refine WJ.quiet ?_
            refine QJ.step (YldS.yld (y_assign rfl)) rfl ?_
            refine QJ.done ?_
            refine PJ.next ?_
            refine WJ.ret ?_
            refine PJ.block_ret (PJ.then_ret (PJ.then_ret (PJ.block_ret (PJ.then_ret ?_))))
            obtain rfl := Option.some.inj hm
            refine PJ.sel (L' := []) [] ⟨List.nodup_nil, rfl⟩ ?_
            exact PJ.retn (vs := [.bool false]) Try.results59 ⟨rfl, trivial⟩ ⟨rfl, rfl⟩
          · replace hm := ifF hm hb22
            refine WJ.skip ?_
            refine PJ.block_normal (PJ.next ?_)
            refine WJ.quiet ?_
            refine QJ.step (YldS.yld (y_move rfl)) rfl ?_
            refine QJ.step (YldS.yld (y_bin rfl rfl rfl)) rfl ?_
            refine QJ.step (YldS.yld (y_assign rfl)) rfl ?_
            refine QJ.done ?_
            exact PJ.round (w64 (i10 + 1)) [] hm ⟨rfl, rfl, rfl, trivial⟩ ⟨List.nodup_nil, rfl⟩
        · replace hm := ifF hm hb11
          refine WJ.exit ?_
          refine PJ.then_exit (PJ.then_exit (PJ.block_exit ?_))
          exact PJ.joined () [] hm trivial ⟨List.nodup_nil, rfl⟩
    · rintro _ hm
      subst hk9
      refine WJ.seq ?_
      refine WJ.quiet ?_
      refine QJ.step (YldS.yld (y_assign rfl)) rfl ?_
      refine QJ.done ?_
      refine PJ.next ?_
      refine WJ.ret ?_
      obtain rfl := Option.some.inj hm
      refine PJ.sel (L' := []) [] ⟨List.nodup_nil, rfl⟩ ?_
      exact PJ.retn (vs := [.bool true]) Try.results59 ⟨rfl, trivial⟩ ⟨rfl, rfl⟩

set_option maxRecDepth 100000 in
set_option maxHeartbeats 1000000 in
theorem ok_w_FnWordStarts {N : Nat} {code1 : List UInt8} {r : Bool} (hm : w_FnWordStarts N code1 = some r) (w : World) (v2 : Value) (hr3 : RdS w (cx w).Fz v2 fByte.rp code1) :
    Calls Try.prog 6 #[v2] w (Ret (cx w) (.bool r)) := by
  unfold w_FnWordStarts at hm
  refine Calls.enter [v2] Try.func6 rfl Try.ntmps6 rfl ?_
  refine WJ.seq ?_
  refine WJ.quiet ?_
  refine QJ.step (YldS.yld (y_assign rfl)) rfl ?_
  refine QJ.done ?_
  refine PJ.next ?_
  refine WJ.seq ?_
  refine WJ.seq ?_
  refine WJ.quiet ?_
  refine QJ.step (YldS.yld (y_move rfl)) rfl ?_
  obtain ⟨r4, h5, hm⟩ := bindS hm
  refine QJ.step (y_call Try.call10 rfl (RetG.quiet fun w hw => ok_w_f6big h5 w _ (hr3.st hw))) rfl ?_
  refine QJ.done ?_
  refine PJ.next ?_
  refine WJ.cond (t := r4) rfl (fun hb6 => ?_) (fun hb6 => ?_)
  · replace hm := ifT hm hb6
    refine WJ.seq ?_
    refine WJ.quiet ?_
    refine QJ.step (YldS.yld (y_assign rfl)) rfl ?_
    refine QJ.done ?_
    refine PJ.next ?_
    refine WJ.ret ?_
    refine PJ.then_ret ?_
    obtain rfl := Option.some.inj hm
    refine PJ.sel (L' := []) [] ⟨List.nodup_nil, rfl⟩ ?_
    exact PJ.retn (vs := [.bool true]) Try.results6 ⟨rfl, trivial⟩ ⟨rfl, rfl⟩
  · replace hm := ifF hm hb6
    refine WJ.skip ?_
    refine PJ.next ?_
    refine WJ.seq ?_
    refine WJ.reg ?_
    refine SJ.q (YldS.yld (y_move rfl)) rfl ?_
    obtain ⟨r7, h8, hm⟩ := bindS hm
    refine SJ.call Try.call53 rfl (fun w hw => ok_s_DrawShortestStarts h8 w _ (hr3.st hw)) rfl ?_
    rintro v9 _ ⟨_, rfl, rfl⟩
    refine SJ.q (YldS.yld (y_assign rfl)) rfl ?_
    refine SJ.nil ?_
    refine PJ.next ?_
    refine WJ.seq ?_
    refine WJ.reg ?_
    refine SJ.q (YldS.yld (y_move rfl)) rfl ?_
    obtain ⟨r10, h11, hm⟩ := bindS hm
    refine SJ.call Try.call54 rfl (fun w hw => ok_i_ShortestStarts h11 w _ (hw.row_rd (k := 0) rfl)) rfl ?_
    rintro _ _ ⟨v12, rfl, rfl⟩
    refine SJ.q (YldS.yld (y_move rfl)) rfl ?_
    refine SJ.q (YldS.yld (y_extract rfl rfl)) rfl ?_
    refine SJ.q (YldS.yld (y_extract rfl rfl)) rfl ?_
    refine SJ.q (YldS.yld (y_assign rfl)) rfl ?_
    refine SJ.q (YldS.yld (y_assign rfl)) rfl ?_
    refine SJ.nil ?_
    refine PJ.next ?_
    refine WJ.seq ?_
    refine WJ.reg ?_
    refine SJ.q (YldS.yld (y_move rfl)) rfl ?_
    obtain ⟨r13, h14, hm⟩ := bindS hm
    refine SJ.call Try.call55 rfl (fun w hw => ok_s_ShortestStarts h14 w _ (hw.row_rd (k := 1) rfl)) rfl ?_
    rintro _ _ ⟨v15, rfl, rfl⟩
    refine SJ.q (YldS.yld (y_move rfl)) rfl ?_
    refine SJ.q (YldS.yld (y_extract rfl rfl)) rfl ?_
    refine SJ.q (YldS.yld (y_extract rfl rfl)) rfl ?_
    refine SJ.q (YldS.yld (y_assign rfl)) rfl ?_
    refine SJ.q (YldS.yld (y_assign rfl)) rfl ?_
    refine SJ.nil ?_
    refine PJ.next ?_
    refine WJ.seq ?_
    refine WJ.reg ?_
    refine SJ.q (YldS.yld (y_move rfl)) rfl ?_
    obtain ⟨r16, h17, hm⟩ := bindS hm
    refine SJ.call Try.call56 rfl (fun w hw => ok_s_DrawWordFor h17 w _ (hr3.st hw)) rfl ?_
    rintro _ _ ⟨v18, rfl, rfl⟩
    refine SJ.q (YldS.yld (y_move rfl)) rfl ?_
    refine SJ.q (YldS.yld (y_extract rfl rfl)) rfl ?_
    refine SJ.q (YldS.yld (y_extract rfl rfl)) rfl ?_
    refine SJ.q (YldS.yld (y_assign rfl)) rfl ?_
    refine SJ.q (YldS.yld (y_assign rfl)) rfl ?_
    refine SJ.nil ?_
    refine PJ.next ?_
    refine WJ.seq ?_
    refine WJ.quiet ?_
    refine QJ.step (YldS.yld (y_move rfl)) rfl ?_
    refine QJ.step (YldS.yld (y_move rfl)) rfl ?_
    obtain ⟨r19, h20, hm⟩ := bindS hm
    refine QJ.step (y_call Try.call57 rfl (RetG.quiet fun w hw => ok_i_WordFor h20 w _ (hw.row_rd (k := 0) rfl))) rfl ?_
    refine QJ.step (YldS.yld (y_move rfl)) rfl ?_
    refine QJ.step (YldS.yld (y_extract rfl rfl)) rfl ?_
    refine QJ.step (YldS.yld (y_extract rfl rfl)) rfl ?_
    refine QJ.step (YldS.yld (y_assign rfl)) rfl ?_
    refine QJ.step (YldS.yld (y_assign rfl)) rfl ?_
    refine QJ.done ?_
    refine PJ.next ?_
    refine WJ.seq ?_
    refine WJ.quiet ?_
    refine QJ.step (YldS.yld (y_move rfl)) rfl ?_
    refine QJ.step (YldS.yld (y_move rfl)) rfl ?_
    obtain ⟨r21, h22, hm⟩ := bindS hm
    refine QJ.step (y_call Try.call58 rfl (RetG.quiet fun w hw => ok_s_WordFor h22 w _ (hw.row_rd (k := 0) rfl))) rfl ?_
    refine QJ.step (YldS.yld (y_move rfl)) rfl ?_
    refine QJ.step (YldS.yld (y_extract rfl rfl)) rfl ?_
    refine QJ.step (YldS.yld (y_extract rfl rfl)) rfl ?_
    refine QJ.step (YldS.yld (y_assign rfl)) rfl ?_
    refine QJ.step (YldS.yld (y_assign rfl)) rfl ?_
    refine QJ.done ?_
    refine PJ.next ?_
    refine WJ.seq ?_
    refine WJ.seq ?_
    refine WJ.quiet ?_
    refine QJ.step (YldS.yld (y_move rfl)) rfl ?_
    refine QJ.step (YldS.yld (y_move rfl)) rfl ?_
    refine QJ.step (YldS.yld (y_bin rfl rfl rfl)) rfl ?_
    refine QJ.step (YldS.yld (y_move rfl)) rfl ?_
    obtain ⟨t23, h24, hm⟩ := bindS hm
    refine QJ.cut 5 [(3, v9), (5, .int .i64 r10.2), (6, v15), (9, str r16.2), (10, str r19.1), (11, .int .i64 r19.2), (12, str r21.1), (13, .int .i64 r21.2), (59, .bool t23)] ?_ ?_
    · rcases Bool.eq_false_or_eq_true (r10.2 != r13.2) with hb25 | hb25
      · obtain rfl := orT h24 hb25
        refine QJ.off rfl rfl (cB hb25) rfl rfl ?_
        refine QJ.off rfl rfl (cB hb25) rfl rfl ?_
        refine QJ.off rfl rfl (cB hb25) rfl rfl ?_
        refine QJ.off rfl rfl (cB hb25) rfl rfl ?_
        refine QJ.step (YldS.yld (y_pick_t (cB hb25) rfl)) rfl ?_
        exact QJ.cut_end ⟨rfl, rfl, rfl, rfl, rfl, rfl, rfl, rfl, rfl, trivial⟩
      · replace h24 := orF h24 hb25
        refine QJ.on rfl rfl (cB hb25) (YldS.yld (y_move rfl)) rfl ?_
        refine QJ.on rfl rfl (cB hb25) (YldS.yld (y_move rfl)) rfl ?_
        obtain ⟨r26, h27, h24⟩ := bindS h24
        refine QJ.on rfl rfl (cB hb25) (y_call Try.call59 rfl (RetG.quiet fun w hw => ok_w_f6texts h27 w _ (hw.row_rd (k := 2) rfl) _ (hw.row_rd (k := 1) rfl))) rfl ?_
        refine QJ.on rfl rfl (cB hb25) (YldS.yld (y_not rfl)) rfl ?_
        refine QJ.step (YldS.yld (y_pick_f (cB hb25) rfl)) rfl ?_
        obtain rfl := Option.some.inj h24
        exact QJ.cut_end ⟨rfl, rfl, rfl, rfl, rfl, rfl, rfl, rfl, rfl, trivial⟩
    refine QJ.step (YldS.yld (y_move rfl)) rfl ?_
    obtain ⟨t28, h29, hm⟩ := bindS hm
    refine QJ.cut 4 [(3, v9), (5, .int .i64 r10.2), (6, v15), (9, str r16.2), (10, str r19.1), (11, .int .i64 r19.2), (12, str r21.1), (64, .bool t28)] ?_ ?_
    · rcases Bool.eq_false_or_eq_true t23 with hb30 | hb30
      · obtain rfl := orT h29 hb30
        refine QJ.off rfl rfl (cB hb30) rfl rfl ?_
        refine QJ.off rfl rfl (cB hb30) rfl rfl ?_
        refine QJ.off rfl rfl (cB hb30) rfl rfl ?_
        refine QJ.step (YldS.yld (y_pick_t (cB hb30) rfl)) rfl ?_
        exact QJ.cut_end ⟨rfl, rfl, rfl, rfl, rfl, rfl, rfl, rfl, trivial⟩
      · replace h29 := orF h29 hb30
        refine QJ.on rfl rfl (cB hb30) (YldS.yld (y_move rfl)) rfl ?_
        refine QJ.on rfl rfl (cB hb30) (YldS.yld (y_move rfl)) rfl ?_
        refine QJ.on rfl rfl (cB hb30) (YldS.yld (y_bin rfl rfl rfl)) rfl ?_
        refine QJ.step (YldS.yld (y_pick_f (cB hb30) rfl)) rfl ?_
        obtain rfl := Option.some.inj h29
        exact QJ.cut_end ⟨rfl, rfl, rfl, rfl, rfl, rfl, rfl, rfl, trivial⟩
    refine QJ.step (YldS.yld (y_move rfl)) rfl ?_
    obtain ⟨t31, h32, hm⟩ := bindS hm
    refine QJ.cut 4 [(3, v9), (5, .int .i64 r10.2), (6, v15), (9, str r16.2), (10, str r19.1), (11, .int .i64 r19.2), (69, .bool t31)] ?_ ?_
    · rcases Bool.eq_false_or_eq_true t28 with hb33 | hb33
      · obtain rfl := orT h32 hb33
        refine QJ.off rfl rfl (cB hb33) rfl rfl ?_
        refine QJ.off rfl rfl (cB hb33) rfl rfl ?_
        refine QJ.off rfl rfl (cB hb33) rfl rfl ?_
        refine QJ.step (YldS.yld (y_pick_t (cB hb33) rfl)) rfl ?_
        exact QJ.cut_end ⟨rfl, rfl, rfl, rfl, rfl, rfl, rfl, trivial⟩
      · replace h32 := orF h32 hb33
        refine QJ.on rfl rfl (cB hb33) (YldS.yld (y_move rfl)) rfl ?_
        refine QJ.on rfl rfl (cB hb33) (YldS.yld (y_move rfl)) rfl ?_
        refine QJ.on rfl rfl (cB hb33) (YldS.yld (y_binS rfl rfl rfl)) rfl ?_
        refine QJ.step (YldS.yld (y_pick_f (cB hb33) rfl)) rfl ?_
        obtain rfl := Option.some.inj h32
        exact QJ.cut_end ⟨rfl, rfl, rfl, rfl, rfl, rfl, rfl, trivial⟩
    refine QJ.done ?_
    refine PJ.next ?_
    refine WJ.cond (t := t31) rfl (fun hb34 => ?_) (fun hb34 => ?_)
    · replace hm := ifT hm hb34
      refine WJ.seq ?_
      refine WJ.quiet ?_
      refine QJ.step (YldS.yld (y_assign rfl)) rfl ?_
      refine QJ.done ?_
      refine PJ.next ?_
      refine WJ.ret ?_
      refine PJ.then_ret ?_
      obtain rfl := Option.some.inj hm
      refine PJ.sel (L' := []) [] ⟨List.nodup_nil, rfl⟩ ?_
      exact PJ.retn (vs := [.bool false]) Try.results6 ⟨rfl, trivial⟩ ⟨rfl, rfl⟩
    · replace hm := ifF hm hb34
      refine WJ.skip ?_
      refine PJ.next ?_
      refine WJ.seq ?_
      refine WJ.seq ?_
      refine WJ.quiet ?_
      refine QJ.step (YldS.yld (y_move rfl)) rfl ?_
      refine QJ.step (YldS.yld (y_bin rfl rfl rfl)) rfl ?_
      refine QJ.step (YldS.yld (y_move rfl)) rfl ?_
      obtain ⟨t35, h36, hm⟩ := bindS hm
      refine QJ.cut 14 [(3, v9), (5, .int .i64 r10.2), (6, v15), (86, .bool t35)] ?_ ?_
      · rcases Bool.eq_false_or_eq_true (r19.2 == 0) with hb37 | hb37
        · replace h36 := andT h36 hb37
          refine QJ.on rfl rfl (cB hb37) (YldS.yld (y_move rfl)) rfl ?_
          refine QJ.on rfl rfl (cB hb37) (YldS.yld (y_lenStr Try.runUnderlying9 rfl)) rfl ?_
          refine QJ.on rfl rfl (cB hb37) (YldS.yld (y_move rfl)) rfl ?_
          refine QJ.on rfl rfl (cB hb37) (YldS.yld (y_lenStr Try.runUnderlying9 rfl)) rfl ?_
          refine QJ.on rfl rfl (cB hb37) (YldS.yld (y_bin rfl rfl rfl)) rfl ?_
          refine QJ.on rfl rfl (cB hb37) (YldS.yld (y_move rfl)) rfl ?_
          obtain ⟨t38, h39, h36⟩ := bindS h36
          refine QJ.cut 7 [(3, v9), (5, .int .i64 r10.2), (6, v15), (72, .bool (r19.2 == 0)), (85, .bool t38)] ?_ ?_
          · rcases Bool.eq_false_or_eq_true (decide ((List.length r19.1 : Int) < (List.length r16.2 : Int))) with hb40 | hb40
            · obtain rfl := orT h39 hb40
              refine QJ.off rfl rfl (cB hb40) rfl rfl ?_
              refine QJ.off rfl rfl (cB hb40) rfl rfl ?_
              refine QJ.off rfl rfl (cB hb40) rfl rfl ?_
              refine QJ.off rfl rfl (cB hb40) rfl rfl ?_
              refine QJ.off rfl rfl (cB hb40) rfl rfl ?_
              refine QJ.off rfl rfl (cB hb40) rfl rfl ?_
              refine QJ.on rfl rfl (cB hb37) (YldS.yld (y_pick_t (cB hb40) rfl)) rfl ?_
              exact QJ.cut_end ⟨rfl, rfl, rfl, rfl, rfl, trivial⟩
            · replace h39 := orF h39 hb40
              refine QJ.on rfl rfl (cB hb40) (YldS.yld (y_move rfl)) rfl ?_
              refine QJ.on rfl rfl (cB hb40) (YldS.yld (y_move rfl)) rfl ?_
              refine QJ.on rfl rfl (cB hb40) (YldS.yld (y_lenStr Try.runUnderlying9 rfl)) rfl ?_
              obtain ⟨s41, h42, h39⟩ := bindS h39
              refine QJ.on rfl rfl (cB hb40) (YldS.yld (y_subStr (i := none) (j := some (List.length r16.2 : Int)) h42 Try.runUnderlying9 rfl trivial ⟨_, rfl⟩)) rfl ?_
              refine QJ.on rfl rfl (cB hb40) (YldS.yld (y_move rfl)) rfl ?_
              refine QJ.on rfl rfl (cB hb40) (YldS.yld (y_binS rfl rfl rfl)) rfl ?_
              refine QJ.on rfl rfl (cB hb37) (YldS.yld (y_pick_f (cB hb40) rfl)) rfl ?_
              obtain rfl := Option.some.inj h39
              exact QJ.cut_end ⟨rfl, rfl, rfl, rfl, rfl, trivial⟩
          refine QJ.step (YldS.yld (y_pick_t (cB hb37) rfl)) rfl ?_
          obtain rfl := Option.some.inj h36
          exact QJ.cut_end ⟨rfl, rfl, rfl, rfl, trivial⟩
        · obtain rfl := andF h36 hb37
          refine QJ.off rfl rfl (cB hb37) rfl rfl ?_
          refine QJ.off rfl rfl (cB hb37) rfl rfl ?_
          refine QJ.off rfl rfl (cB hb37) rfl rfl ?_
          refine QJ.off rfl rfl (cB hb37) rfl rfl ?_
          refine QJ.off rfl rfl (cB hb37) rfl rfl ?_
          refine QJ.off rfl rfl (cB hb37) rfl rfl ?_
          refine QJ.off_undef rfl rfl rfl rfl ?_
          refine QJ.off_undef rfl rfl rfl rfl ?_
          refine QJ.off_undef rfl rfl rfl rfl ?_
          refine QJ.off_undef rfl rfl rfl rfl ?_
          refine QJ.off_undef rfl rfl rfl rfl ?_
          refine QJ.off_undef rfl rfl rfl rfl ?_
          refine QJ.off rfl rfl (cB hb37) rfl rfl ?_
          refine QJ.step (YldS.yld (y_pick_f (cB hb37) rfl)) rfl ?_
          exact QJ.cut_end ⟨rfl, rfl, rfl, rfl, trivial⟩
      refine QJ.done ?_
      refine PJ.next ?_
      refine WJ.cond (t := t35) rfl (fun hb43 => ?_) (fun hb43 => ?_)
      · replace hm := ifT hm hb43
        refine WJ.seq ?_
        refine WJ.quiet ?_
        refine QJ.step (YldS.yld (y_assign rfl)) rfl ?_
        refine QJ.done ?_
        refine PJ.next ?_
        refine WJ.ret ?_
        refine PJ.then_ret ?_
        obtain rfl := Option.some.inj hm
        refine PJ.sel (L' := []) [] ⟨List.nodup_nil, rfl⟩ ?_
        exact PJ.retn (vs := [.bool false]) Try.results6 ⟨rfl, trivial⟩ ⟨rfl, rfl⟩
      · replace hm := ifF hm hb43
        refine WJ.skip ?_
        refine PJ.next ?_
        refine WJ.seq ?_
        refine WJ.seq ?_
        refine WJ.quiet ?_
        refine QJ.step (YldS.yld (y_move rfl)) rfl ?_
        refine QJ.step (YldS.yld (y_bin rfl rfl rfl)) rfl ?_
        refine QJ.done ?_
        refine PJ.next ?_
        refine WJ.cond (t := (r10.2 != 0)) rfl (fun hb44 => ?_) (fun hb44 => ?_)
        · replace hm := ifT hm hb44
          refine WJ.seq ?_
          refine WJ.quiet ?_
          refine QJ.step (YldS.yld (y_assign rfl)) rfl ?_
          refine QJ.done ?_
          refine PJ.next ?_
          refine WJ.ret ?_
          refine PJ.then_ret ?_
          obtain rfl := Option.some.inj hm
          refine PJ.sel (L' := []) [] ⟨List.nodup_nil, rfl⟩ ?_
          exact PJ.retn (vs := [.bool true]) Try.results6 ⟨rfl, trivial⟩ ⟨rfl, rfl⟩
        · replace hm := ifF hm hb44
          refine WJ.skip ?_
          refine PJ.next ?_
          obtain ⟨k45, hk46, hm⟩ := withK_open hm
          refine WJ.join (X := Unit) (fun (_ : Unit) => k45  = some r) (fun (_ : Unit) => []) (fun (_ : Unit) => []) ?_ ?_
          · clear hk46
            refine WJ.seq ?_
            refine WJ.quiet ?_
            refine QJ.step (YldS.yld (y_assign rfl)) rfl ?_
            refine QJ.done ?_
            refine PJ.next ?_
            refine WJ.block ?_
            refine WJ.sel (L' := (fun (x : Int) => [row v15 9 fStr r13.1, row v9 9 fStr r7]) 0) [1, 3] ⟨by decide, rfl⟩ ?_
            refine WJ.sub (m' := (fun (x : Int) => [(3, v9), (6, v15), (14, .int .i64 x)]) 0) ⟨rfl, rfl, rfl, trivial⟩ ?_
            refine WJ.loop (X := Int) (fun N (x : Int) => w_FnWordStarts_l1 k45 r7 r13 N x = some r) (fun (x : Int) => [(3, v9), (6, v15), (14, .int .i64 x)]) (fun (x : Int) => [row v15 9 fStr r13.1, row v9 9 fStr r7]) ?_ N 0 hm
            · rintro N i47 hI
              have hm := hI; clear hI
              cases N with
              | zero => cases hm
              | succ N =>
              unfold w_FnWordStarts_l1 at hm
              refine WJ.seq ?_
              refine WJ.seq ?_
              refine WJ.quiet ?_
              refine QJ.step (YldS.yld (y_move rfl)) rfl ?_
              refine QJ.step (YldS.yld (y_move rfl)) rfl ?_
              refine QJ.step (YldS.yld (y_lenRow (k := 1) rfl Try.runUnderlying78 rfl)) rfl ?_
              refine QJ.step (YldS.yld (y_bin rfl rfl rfl)) rfl ?_
              refine QJ.done ?_
              refine PJ.next ?_
              refine WJ.cond (t := decide (i47 < (List.length r7 : Int))) rfl (fun hb48 => ?_) (fun hb48 => ?_)
              · replace hm := ifT hm hb48
                refine WJ.skip ?_
                refine PJ.next ?_
                obtain ⟨k50, hk50, hm⟩ := withK_open hm
                refine WJ.join (X := Unit) (fun (_ : Unit) => k50  = some r) (fun (_ : Unit) => [(3, v9), (6, v15), (14, .int .i64 i47)]) (fun (_ : Unit) => [row v15 9 fStr r13.1, row v9 9 fStr r7]) ?_ ?_
                · clear hk50
                  refine WJ.block ?_
                  refine WJ.seq ?_
                  refine WJ.quiet ?_
                  refine QJ.step (YldS.yld (y_move rfl)) rfl ?_
                  refine QJ.step (YldS.yld (y_move rfl)) rfl ?_
                  refine QJ.step (YldS.yld (y_move rfl)) rfl ?_
                  obtain ⟨e51, h52, hm⟩ := bindS hm
                  refine QJ.step (YldS.yld (y_ixRow (k := 0) (R := fStr) rfl Try.runUnderlying78 Try.sizeOf9 rfl rfl h52)) rfl ?_
                  refine QJ.step (YldS.yld (y_loadR (k := 0) (i := (Int.toNat i47)) (off := 0) (u := str e51) rfl Try.isAgg9 rfl (idx_get h52) rfl)) rfl ?_
                  obtain ⟨r53, h54, hm⟩ := bindS hm
                  refine QJ.step (y_call Try.call57 rfl (RetG.quiet fun w hw => ok_i_WordFor h54 w _ (hw.row_rd (k := 1) rfl))) rfl ?_
                  refine QJ.step (YldS.yld (y_move rfl)) rfl ?_
                  refine QJ.step (YldS.yld (y_extract rfl rfl)) rfl ?_
                  refine QJ.step (YldS.yld (y_extract rfl rfl)) rfl ?_
                  refine QJ.step (YldS.yld (y_assign rfl)) rfl ?_
                  refine QJ.step (YldS.yld (y_assign rfl)) rfl ?_
                  refine QJ.done ?_
                  refine PJ.next ?_
                  refine WJ.seq ?_
                  refine WJ.seq ?_
                  refine WJ.quiet ?_
                  refine QJ.step (YldS.yld (y_move rfl)) rfl ?_
                  refine QJ.step (YldS.yld (y_bin rfl rfl rfl)) rfl ?_
                  refine QJ.step (YldS.yld (y_move rfl)) rfl ?_
                  obtain ⟨t55, h56, hm⟩ := bindS hm
                  refine QJ.cut 7 [(3, v9), (6, v15), (14, .int .i64 i47), (113, .bool t55)] ?_ ?_
                  · rcases Bool.eq_false_or_eq_true (r53.2 != 0) with hb57 | hb57
                    · obtain rfl := orT h56 hb57
                      refine QJ.off rfl rfl (cB hb57) rfl rfl ?_
                      refine QJ.off rfl rfl (cB hb57) rfl rfl ?_
                      refine QJ.off rfl rfl (cB hb57) rfl rfl ?_
                      refine QJ.off rfl rfl (cB hb57) rfl rfl ?_
                      refine QJ.off rfl rfl (cB hb57) rfl rfl ?_
                      refine QJ.off rfl rfl (cB hb57) rfl rfl ?_
                      refine QJ.step (YldS.yld (y_pick_t (cB hb57) rfl)) rfl ?_
                      exact QJ.cut_end ⟨rfl, rfl, rfl, rfl, trivial⟩
                    · replace h56 := orF h56 hb57
                      refine QJ.on rfl rfl (cB hb57) (YldS.yld (y_move rfl)) rfl ?_
                      refine QJ.on rfl rfl (cB hb57) (YldS.yld (y_move rfl)) rfl ?_
                      refine QJ.on rfl rfl (cB hb57) (YldS.yld (y_move rfl)) rfl ?_
                      obtain ⟨e58, h59, h56⟩ := bindS h56
                      refine QJ.on rfl rfl (cB hb57) (YldS.yld (y_ixRow (k := 1) (R := fStr) rfl Try.runUnderlying78 Try.sizeOf9 rfl rfl h59)) rfl ?_
                      refine QJ.on rfl rfl (cB hb57) (YldS.yld (y_loadR (k := 1) (i := (Int.toNat i47)) (off := 0) (u := str e58) rfl Try.isAgg9 rfl (idx_get h59) rfl)) rfl ?_
                      refine QJ.on rfl rfl (cB hb57) (YldS.yld (y_binS rfl rfl rfl)) rfl ?_
                      refine QJ.step (YldS.yld (y_pick_f (cB hb57) rfl)) rfl ?_
                      obtain rfl := Option.some.inj h56
                      exact QJ.cut_end ⟨rfl, rfl, rfl, rfl, trivial⟩
                  refine QJ.done ?_
                  refine PJ.next ?_
                  refine WJ.cond (t := t55) rfl (fun hb60 => ?_) (fun hb60 => ?_)
                  · replace hm := ifT hm hb60
                    refine WJ.seq ?_
                    refine WJ.quiet ?_
                    refine QJ.step (YldS.yld (y_assign rfl)) rfl ?_
                    refine QJ.done ?_
                    refine PJ.next ?_
                    refine WJ.ret ?_
                    refine PJ.then_ret (PJ.block_ret (PJ.then_ret (PJ.then_ret (PJ.block_ret (PJ.then_ret ?_)))))
                    obtain rfl := Option.some.inj hm
                    refine PJ.sel (L' := []) [] ⟨List.nodup_nil, rfl⟩ ?_
                    exact PJ.retn (vs := [.bool false]) Try.results6 ⟨rfl, trivial⟩ ⟨rfl, rfl⟩
                  · replace hm := ifF hm hb60
                    refine WJ.skip ?_
                    refine PJ.next ?_
                    refine WJ.seq ?_
                    refine WJ.quiet ?_
                    refine QJ.step (YldS.yld (y_move rfl)) rfl ?_
                    refine QJ.step (YldS.yld (y_move rfl)) rfl ?_
                    obtain ⟨e61, h62, hm⟩ := bindS hm
                    refine QJ.step (YldS.yld (y_ixRow (k := 0) (R := fStr) rfl Try.runUnderlying78 Try.sizeOf9 rfl rfl h62)) rfl ?_
                    refine QJ.step (YldS.yld (y_loadR (k := 0) (i := (Int.toNat i47)) (off := 0) (u := str e61) rfl Try.isAgg9 rfl (idx_get h62) rfl)) rfl ?_
                    refine QJ.step (YldS.yld (y_lenStr Try.runUnderlying9 rfl)) rfl ?_
                    refine QJ.step (YldS.yld (y_assign rfl)) rfl ?_
                    refine QJ.done ?_
                    refine PJ.next ?_
                    refine WJ.seq ?_
                    refine WJ.seq ?_
                    refine WJ.quiet ?_
                    refine QJ.step (YldS.yld (y_move rfl)) rfl ?_
                    refine QJ.step (YldS.yld (y_bin rfl rfl rfl)) rfl ?_
                    refine QJ.done ?_
                    refine PJ.next ?_
                    refine WJ.cond (t := decide ((List.length e61 : Int) < 2)) rfl (fun hb63 => ?_) (fun hb63 => ?_)
                    · replace hm := ifT hm hb63
                      refine WJ.exit ?_
                      refine PJ.then_exit (PJ.block_exit ?_)
                      exact PJ.joined () [0, 1] hm ⟨rfl, rfl, rfl, trivial⟩ ⟨by decide, rfl⟩
                    · replace hm := ifF hm hb63
                      refine WJ.skip ?_
                      refine PJ.next ?_
                      refine WJ.seq ?_
                      refine WJ.quiet ?_
                      refine QJ.step (YldS.yld (y_move rfl)) rfl ?_
                      refine QJ.step (YldS.yld (y_move rfl)) rfl ?_
                      refine QJ.step (YldS.yld (y_move rfl)) rfl ?_
                      obtain ⟨e64, h65, hm⟩ := bindS hm
                      refine QJ.step (YldS.yld (y_ixRow (k := 0) (R := fStr) rfl Try.runUnderlying78 Try.sizeOf9 rfl rfl h65)) rfl ?_
                      refine QJ.step (YldS.yld (y_loadR (k := 0) (i := (Int.toNat i47)) (off := 0) (u := str e64) rfl Try.isAgg9 rfl (idx_get h65) rfl)) rfl ?_
                      refine QJ.step (YldS.yld (y_move rfl)) rfl ?_
                      refine QJ.step (YldS.yld (y_bin rfl rfl rfl)) rfl ?_
                      obtain ⟨s66, h67, hm⟩ := bindS hm
                      refine QJ.step (YldS.yld (y_subStr (i := none) (j := some (w64 ((List.length e61 : Int) - 1))) h67 Try.runUnderlying9 rfl trivial ⟨_, rfl⟩)) rfl ?_
                      obtain ⟨r68, h69, hm⟩ := bindS hm
                      refine QJ.step (y_call Try.call57 rfl (RetG.quiet fun w hw => ok_i_WordFor h69 w _ (hw.row_rd (k := 1) rfl))) rfl ?_
                      refine QJ.step (YldS.yld (y_move rfl)) rfl ?_
                      refine QJ.step (YldS.yld (y_extract rfl rfl)) rfl ?_
                      refine QJ.step (YldS.yld (y_extract rfl rfl)) rfl ?_
                      refine QJ.step (YldS.yld (y_assign rfl)) rfl ?_
                      refine QJ.step (YldS.yld (y_assign rfl)) rfl ?_
                      refine QJ.done ?_
                      refine PJ.next ?_
                      refine WJ.seq ?_
                      refine WJ.quiet ?_
                      refine QJ.step (YldS.yld (y_move rfl)) rfl ?_
                      refine QJ.step (YldS.yld (y_bin rfl rfl rfl)) rfl ?_
                      refine QJ.done ?_
                      refine PJ.next ?_
                      refine WJ.cond (t := (r68.2 == 3)) rfl (fun hb70 => ?_) (fun hb70 => ?_)
                      · replace hm := ifT hm hb70
                        refine WJ.seq ?_
                        refine WJ.quiet ?_
                        refine QJ.step (YldS.yld (y_assign rfl)) rfl ?_
                        refine QJ.done ?_
                        refine PJ.next ?_
                        refine WJ.ret ?_
                        refine PJ.block_ret (PJ.then_ret (PJ.then_ret (PJ.block_ret (PJ.then_ret ?_))))
                        obtain rfl := Option.some.inj hm
                        refine PJ.sel (L' := []) [] ⟨List.nodup_nil, rfl⟩ ?_
                        exact PJ.retn (vs := [.bool false]) Try.results6 ⟨rfl, trivial⟩ ⟨rfl, rfl⟩
                      · replace hm := ifF hm hb70
                        refine WJ.skip ?_
                        refine PJ.block_normal ?_
                        exact PJ.joined () [0, 1] hm ⟨rfl, rfl, rfl, trivial⟩ ⟨by decide, rfl⟩
                · rintro _ hm
                  subst hk50
                  refine WJ.quiet ?_
                  refine QJ.step (YldS.yld (y_move rfl)) rfl ?_
                  refine QJ.step (YldS.yld (y_bin rfl rfl rfl)) rfl ?_
                  refine QJ.step (YldS.yld (y_assign rfl)) rfl ?_
                  refine QJ.done ?_
                  exact PJ.round (w64 (i47 + 1)) [0, 1] hm ⟨rfl, rfl, rfl, trivial⟩ ⟨by decide, rfl⟩
              · replace hm := ifF hm hb48
                refine WJ.exit ?_
                refine PJ.then_exit (PJ.then_exit (PJ.block_exit ?_))
                exact PJ.joined () [] hm trivial ⟨List.nodup_nil, rfl⟩
          · rintro _ hm
            subst hk46
            refine WJ.seq ?_
            refine WJ.quiet ?_
            refine QJ.step (YldS.yld (y_assign rfl)) rfl ?_
            refine QJ.done ?_
            refine PJ.next ?_
            refine WJ.ret ?_
            obtain rfl := Option.some.inj hm
            refine PJ.sel (L' := []) [] ⟨List.nodup_nil, rfl⟩ ?_
            exact PJ.retn (vs := [.bool true]) Try.results6 ⟨rfl, trivial⟩ ⟨rfl, rfl⟩

end Go.Proofs.Ytoojddajhalimaa
