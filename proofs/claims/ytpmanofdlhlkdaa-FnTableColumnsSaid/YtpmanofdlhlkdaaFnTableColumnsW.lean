/-
  The walks: a call hands back what its plain function computes, where that has a value. No other conditions.
-/
import Derived.Test.YtpmanofdlhlkdaaFnTableColumnsM
import Derived.Test.YtpmanofdlhlkdaaChecked
namespace Go.Proofs.Ytpmanofdlhlkdaa
open Go.RowKit Go.Proofs
set_option linter.unusedVariables false
set_option linter.unusedSimpArgs false

theorem follows : Try.prog.follows .mixedOrders = true := by kernel_rfl

def shL00Src : Sh L00Src UInt8 3 := ⟨fun v x => [v, .int .i64 x.at_, .int .u64 x.seed], fun x => x.code, 0, fun _ _ => rfl, fun _ _ => rfl, fun v x hv u hu => by
  simp only [List.mem_cons, List.not_mem_nil, or_false] at hu
  rcases hu with rfl | rfl | rfl <;> first | rfl | exact hv, by decide⟩

theorem pl161 : PlacesOk Try.prog 161 [(0, 1), (1, 1), (2, 1)] := ⟨_, Try.runUnderlying161, fun w => by simp [Try.sizeOf3, Try.sizeOf22, Try.sizeOf159]⟩
theorem fld161_1 : FieldOk Try.prog 161 1 1 3 0 := ⟨_, _, Try.runUnderlying161, rfl, rfl, rfl, Try.sizeOf3⟩
theorem fld161_0 : FieldOk Try.prog 161 0 0 22 0 := ⟨_, _, Try.runUnderlying161, rfl, rfl, rfl, Try.sizeOf22⟩
theorem fld161_2 : FieldOk Try.prog 161 2 2 159 0 := ⟨_, _, Try.runUnderlying161, rfl, rfl, rfl, Try.sizeOf159⟩
set_option maxRecDepth 100000 in
theorem el9 : ElemOk Try.prog 9 1 (fStr.enc []) := ⟨_, _, Try.type9, rfl, rfl, rfl, by decide⟩
set_option maxRecDepth 100000 in
theorem el45 : ElemOk Try.prog 45 1 [.slice none 0 0] := ⟨_, _, Try.type45, rfl, rfl, rfl, by decide⟩
set_option maxRecDepth 100000 in
theorem el2 : ElemOk Try.prog 2 1 (fI64.enc 0) := ⟨_, _, Try.type2, rfl, rfl, rfl, by decide⟩
set_option maxRecDepth 100000 in
theorem el8_5 : Elem8 Try.prog 5 := ⟨_, Try.type5, rfl, rfl, rfl⟩
set_option maxRecDepth 100000 in
theorem el5 : ElemOk Try.prog 5 1 (fByte.enc 0) := ⟨_, _, Try.type5, rfl, rfl, rfl, by decide⟩

set_option maxRecDepth 100000 in
set_option maxHeartbeats 1000000 in
theorem ok_w_f6big {code1 : List UInt8} {r : Bool} (hm : w_f6big code1 = some r) (w : World) (v2 : Value) (hr3 : RdS w (cx w).Fz v2 fByte.rp code1) :
    Calls Try.prog 7 #[v2] w (Ret (cx w) (.bool r)) := by
  unfold w_f6big at hm
  refine Calls.enter [v2] Try.func7 rfl Try.ntmps7 rfl ?_
  refine WJ.seq ?_
  refine WJ.quiet ?_
  refine QJ.step (YldS.yld (y_assign rfl)) rfl ?_
  refine QJ.done ?_
  refine PJ.next ?_
  refine WJ.seq ?_
  refine WJ.quiet ?_
  refine QJ.step (YldS.yld (y_move rfl)) rfl ?_
  refine QJ.step (YldS.yld (y_lenS Try.runUnderlying22 hr3 rfl)) rfl ?_
  refine QJ.step (YldS.yld (y_bin rfl rfl rfl)) rfl ?_
  refine QJ.step (YldS.yld (y_assign rfl)) rfl ?_
  refine QJ.done ?_
  refine PJ.next ?_
  refine WJ.ret ?_
  obtain rfl := Option.some.inj hm
  refine PJ.sel (L' := []) [] ⟨List.nodup_nil, rfl⟩ ?_
  exact PJ.retn (vs := [.bool (decide ((List.length code1 : Int) > 4096))]) Try.results7 ⟨rfl, trivial⟩ ⟨rfl, rfl⟩

set_option maxRecDepth 100000 in
set_option maxHeartbeats 1000000 in
theorem ok_s_l00From {code1 : List UInt8} {r : L00Src} (hm : s_l00From code1 = some r) (w : World) (v2 : Value) (hr3 : RdS w (cx w).Fz v2 fByte.rp code1) :
    Calls Try.prog 89 #[v2] w (RetG (cx w) fun u L => ∃ (u1 : Nat), (u = pt u1 0 ∧ L = [box u1 161 [v2, .int .i64 r.at_, .int .u64 r.seed]])) := by
  unfold s_l00From at hm
  refine Calls.enter [v2] Try.func89 rfl Try.ntmps89 rfl ?_
  refine WJ.seq ?_
  refine WJ.quiet ?_
  refine QJ.step (YldS.yld (y_assign rfl)) rfl ?_
  refine QJ.done ?_
  refine PJ.next ?_
  refine WJ.seq ?_
  refine WJ.reg ?_
  refine SJ.q (YldS.yld (y_move rfl)) rfl ?_
  refine SJ.q (YldS.yld (y_build (parts := [(0, .tmp 3)]) (places := [(0, 1), (1, 1), (2, 1)]) (r := [v2, .int .i64 0, .int .u64 0]) pl161 Try.zeroValue161 rfl rfl (show _ = [(0, [v2])] from by simp only [List.map, RdS.cells1 hr3]) rfl)) rfl ?_
  refine SJ.box (cs := [v2, .int .i64 0, .int .u64 0]) rfl rfl rfl fun g4 => ?_
  refine SJ.q (YldS.yld (y_assign rfl)) rfl ?_
  refine SJ.nil ?_
  refine PJ.next ?_
  refine WJ.ret ?_
  obtain rfl := Option.some.inj hm
  refine PJ.sel (L' := [box g4 161 [v2, .int .i64 0, .int .u64 0]]) [0] ⟨by decide, rfl⟩ ?_
  exact PJ.retn (vs := [pt g4 0]) Try.results89 ⟨rfl, trivial⟩ ⟨_, rfl, rfl⟩

set_option maxRecDepth 100000 in
set_option maxHeartbeats 1000000 in
theorem ok_s_l00Src_next {s1 : L00Src} {g2 : Nat} {r : Int × L00Src} (hm : s_l00Src_next s1 = some r) (w : World) (S : Nat → Prop) (v3 : Value) (hr4 : RdS w (Cx.Fz ⟨w, S⟩) v3 fByte.rp s1.code) (hA : (box g2 161 [v3, .int .i64 s1.at_, .int .u64 s1.seed]).holds w S) :
    Calls Try.prog 154 #[pt g2 0] w (RetG ⟨w, S⟩ fun u L => (u = .int .i64 r.1 ∧ L = [box g2 161 [v3, .int .i64 r.2.at_, .int .u64 r.2.seed]])) := by
  unfold s_l00Src_next at hm
  refine Calls.enter1 hA [pt g2 0] Try.func154 rfl Try.ntmps154 rfl ?_
  refine WJ.seq ?_
  refine WJ.quiet ?_
  refine QJ.step (YldS.yld (y_assign rfl)) rfl ?_
  refine QJ.done ?_
  refine PJ.next ?_
  refine WJ.seq ?_
  refine WJ.quiet ?_
  refine QJ.step (YldS.yld (y_assign rfl)) rfl ?_
  refine QJ.done ?_
  refine PJ.next ?_
  obtain ⟨kj6, hk7, hm⟩ := withK_open hm
  refine WJ.join (X := Int) (fun (x : Int) => kj6 x = some r) (fun (x : Int) => [(0, pt g2 0), (3, .int .i64 x)]) (fun (x : Int) => [box g2 161 [v3, .int .i64 s1.at_, .int .u64 s1.seed]]) ?_ ?_
  · clear hk7
    refine WJ.seq ?_
    refine WJ.quiet_draw follows (by kernel_rfl) ?_
    refine QJ.step (YldS.yld (y_move rfl)) rfl ?_
    refine QJ.step (YldS.yld (y_nil rfl)) rfl ?_
    refine QJ.step (YldS.yld (y_fldB (o := 0) fld161_1 rfl)) rfl ?_
    refine QJ.step (YldS.yld (y_loadB (k := 0) (off := 1) (v := .int .i64 s1.at_) rfl Try.isAgg3 rfl rfl)) rfl ?_
    refine QJ.step (YldS.yld (y_move rfl)) rfl ?_
    refine QJ.step (YldS.yld (y_nil rfl)) rfl ?_
    refine QJ.step (YldS.yld (y_fldB (o := 0) fld161_0 rfl)) rfl ?_
    refine QJ.step (YldS.yld (y_loadB (k := 0) (off := 0) (v := v3) rfl Try.isAgg22 rfl rfl)) rfl ?_
    refine QJ.step (YldS.yld (y_lenS Try.runUnderlying22 hr4 rfl)) rfl ?_
    refine QJ.step (YldS.yld (y_bin rfl rfl rfl)) rfl ?_
    refine QJ.done ?_
    refine PJ.next ?_
    refine WJ.cond (t := decide (s1.at_ < (List.length s1.code : Int))) rfl (fun hb8 => ?_) (fun hb8 => ?_)
    · replace hm := ifT hm hb8
      refine WJ.quiet_draw follows (by kernel_rfl) ?_
      refine QJ.step (YldS.yld (y_move rfl)) rfl ?_
      refine QJ.step (YldS.yld (y_nil rfl)) rfl ?_
      refine QJ.step (YldS.yld (y_fldB (o := 0) fld161_0 rfl)) rfl ?_
      refine QJ.step (YldS.yld (y_loadB (k := 0) (off := 0) (v := v3) rfl Try.isAgg22 rfl rfl)) rfl ?_
      refine QJ.step (YldS.yld (y_move rfl)) rfl ?_
      refine QJ.step (YldS.yld (y_nil rfl)) rfl ?_
      refine QJ.step (YldS.yld (y_fldB (o := 0) fld161_1 rfl)) rfl ?_
      refine QJ.step (YldS.yld (y_loadB (k := 0) (off := 1) (v := .int .i64 s1.at_) rfl Try.isAgg3 rfl rfl)) rfl ?_
      obtain ⟨e9, h10, hm⟩ := bindS hm
      obtain ⟨ad11, _, rfl, ha12, hy13⟩ := hr4.elem h10
      refine QJ.step (YldS.yld (hy13 Try.runUnderlying22 Try.sizeOf5 rfl rfl)) rfl ?_
      refine QJ.step (YldS.yld (y_load1 (v := .int .u8 (UInt8.toNat e9 : Int)) Try.isAgg5 ha12 St.frozenC rfl)) rfl ?_
      refine QJ.step (YldS.yld (y_conv8 Try.runUnderlying5 Try.runUnderlying3 rfl)) rfl ?_
      refine QJ.step (YldS.yld (y_assign rfl)) rfl ?_
      refine QJ.done ?_
      exact PJ.joined (UInt8.toNat e9 : Int) [0] hm ⟨rfl, rfl, trivial⟩ ⟨by decide, rfl⟩
    · replace hm := ifF hm hb8
      refine WJ.skip ?_
      exact PJ.joined 0 [0] hm ⟨rfl, rfl, trivial⟩ ⟨by decide, rfl⟩
  · rintro b5 hm
    subst hk7
    refine WJ.seq ?_
    refine WJ.reg ?_
    refine SJ.q (YldS.yld (y_move rfl)) rfl ?_
    refine SJ.q (YldS.yld (y_nil rfl)) rfl ?_
    refine SJ.q (YldS.yld (y_fldB (o := 0) fld161_1 rfl)) rfl ?_
    refine SJ.q (YldS.yld (y_loadB (k := 0) (off := 1) (v := .int .i64 s1.at_) rfl Try.isAgg3 rfl rfl)) rfl ?_
    refine SJ.q (YldS.yld (y_bin rfl rfl rfl)) rfl ?_
    refine SJ.q (YldS.yld (y_nil rfl)) rfl ?_
    refine SJ.q (YldS.yld (y_fldB (o := 0) fld161_1 rfl)) rfl ?_
    refine SJ.storeL (k := 0) (off := 1) (us := [.int .i64 (w64 (s1.at_ + 1))]) rfl rfl rfl rfl Try.sizeOf3 rfl rfl ?_
    refine SJ.nil ?_
    refine PJ.next ?_
    refine WJ.seq ?_
    refine WJ.reg ?_
    refine SJ.q (YldS.yld (y_move rfl)) rfl ?_
    refine SJ.q (YldS.yld (y_move rfl)) rfl ?_
    refine SJ.q (YldS.yld (y_nil rfl)) rfl ?_
    refine SJ.q (YldS.yld (y_fldB (o := 0) fld161_2 rfl)) rfl ?_
    refine SJ.q (YldS.yld (y_loadB (k := 0) (off := 2) (v := .int .u64 s1.seed) rfl Try.isAgg159 rfl rfl)) rfl ?_
    refine SJ.q (YldS.yld (y_bin rfl rfl rfl)) rfl ?_
    refine SJ.q (YldS.yld (y_move rfl)) rfl ?_
    refine SJ.q (YldS.yld (y_convI Try.runUnderlying3 Try.runUnderlying159 rfl)) rfl ?_
    refine SJ.q (YldS.yld (y_bin rfl rfl rfl)) rfl ?_
    refine SJ.q (YldS.yld (y_bin rfl rfl rfl)) rfl ?_
    refine SJ.q (YldS.yld (y_nil rfl)) rfl ?_
    refine SJ.q (YldS.yld (y_fldB (o := 0) fld161_2 rfl)) rfl ?_
    refine SJ.storeL (k := 0) (off := 2) (us := [.int .u64 (IntKind.u64.wrap ((IntKind.u64.wrap ((IntKind.u64.wrap (s1.seed * 6364136223846793005)) + (IntKind.u64.wrap b5))) + 1442695040888963407))]) rfl rfl rfl rfl Try.sizeOf159 rfl rfl ?_
    refine SJ.nil ?_
    refine PJ.next ?_
    refine WJ.seq ?_
    refine WJ.seq ?_
    refine WJ.quiet_draw follows (by kernel_rfl) ?_
    refine QJ.step (YldS.yld (y_move rfl)) rfl ?_
    refine QJ.step (YldS.yld (y_nil rfl)) rfl ?_
    refine QJ.step (YldS.yld (y_fldB (o := 0) fld161_1 rfl)) rfl ?_
    refine QJ.step (YldS.yld (y_loadB (k := 0) (off := 1) (v := .int .i64 (w64 (s1.at_ + 1))) rfl Try.isAgg3 rfl rfl)) rfl ?_
    refine QJ.step (YldS.yld (y_move rfl)) rfl ?_
    refine QJ.step (YldS.yld (y_nil rfl)) rfl ?_
    refine QJ.step (YldS.yld (y_fldB (o := 0) fld161_0 rfl)) rfl ?_
    refine QJ.step (YldS.yld (y_loadB (k := 0) (off := 0) (v := v3) rfl Try.isAgg22 rfl rfl)) rfl ?_
    refine QJ.step (YldS.yld (y_lenS Try.runUnderlying22 hr4 rfl)) rfl ?_
    refine QJ.step (YldS.yld (y_bin rfl rfl rfl)) rfl ?_
    refine QJ.done ?_
    refine PJ.next ?_
    refine WJ.cond (t := decide ((w64 (s1.at_ + 1)) ≤ (List.length s1.code : Int))) rfl (fun hb14 => ?_) (fun hb14 => ?_)
    · replace hm := ifT hm hb14
      refine WJ.seq ?_
      refine WJ.quiet ?_
      refine QJ.step (YldS.yld (y_move rfl)) rfl ?_
      refine QJ.step (YldS.yld (y_assign rfl)) rfl ?_
      refine QJ.done ?_
      refine PJ.next ?_
      refine WJ.ret ?_
      refine PJ.then_ret ?_
      obtain rfl := Option.some.inj hm
      refine PJ.sel (L' := [box g2 161 [v3, .int .i64 (w64 (s1.at_ + 1)), .int .u64 (IntKind.u64.wrap ((IntKind.u64.wrap ((IntKind.u64.wrap (s1.seed * 6364136223846793005)) + (IntKind.u64.wrap b5))) + 1442695040888963407))]]) [0] ⟨by decide, rfl⟩ ?_
      exact PJ.retn (vs := [.int .i64 b5]) Try.results154 ⟨rfl, trivial⟩ ⟨rfl, rfl⟩
    · replace hm := ifF hm hb14
      refine WJ.skip ?_
      refine PJ.next ?_
      refine WJ.seq ?_
      refine WJ.quiet ?_
      refine QJ.step (YldS.yld (y_move rfl)) rfl ?_
      refine QJ.step (YldS.yld (y_nil rfl)) rfl ?_
      refine QJ.step (YldS.yld (y_fldB (o := 0) fld161_2 rfl)) rfl ?_
      refine QJ.step (YldS.yld (y_loadB (k := 0) (off := 2) (v := .int .u64 (IntKind.u64.wrap ((IntKind.u64.wrap ((IntKind.u64.wrap (s1.seed * 6364136223846793005)) + (IntKind.u64.wrap b5))) + 1442695040888963407))) rfl Try.isAgg159 rfl rfl)) rfl ?_
      refine QJ.step (YldS.yld (y_shru rfl rfl rfl)) rfl ?_
      refine QJ.step (YldS.yld (y_andu rfl rfl rfl)) rfl ?_
      refine QJ.step (YldS.yld (y_convI Try.runUnderlying159 Try.runUnderlying2 rfl)) rfl ?_
      refine QJ.step (YldS.yld (y_assign rfl)) rfl ?_
      refine QJ.done ?_
      refine PJ.next ?_
      refine WJ.ret ?_
      obtain rfl := Option.some.inj hm
      refine PJ.sel (L' := [box g2 161 [v3, .int .i64 (w64 (s1.at_ + 1)), .int .u64 (IntKind.u64.wrap ((IntKind.u64.wrap ((IntKind.u64.wrap (s1.seed * 6364136223846793005)) + (IntKind.u64.wrap b5))) + 1442695040888963407))]]) [0] ⟨by decide, rfl⟩ ?_
      exact PJ.retn (vs := [.int .i64 (w64 (uand (ushr (IntKind.u64.wrap ((IntKind.u64.wrap ((IntKind.u64.wrap (s1.seed * 6364136223846793005)) + (IntKind.u64.wrap b5))) + 1442695040888963407)) 40) 255))]) Try.results154 ⟨rfl, trivial⟩ ⟨rfl, rfl⟩

set_option maxRecDepth 100000 in
set_option maxHeartbeats 1000000 in
theorem ok_s_l00Src_pick {s1 : L00Src} {n5 : Int} {g2 : Nat} {r : Int × L00Src} (hm : s_l00Src_pick s1 n5 = some r) (w : World) (S : Nat → Prop) (v3 : Value) (hr4 : RdS w (Cx.Fz ⟨w, S⟩) v3 fByte.rp s1.code) (hA : (box g2 161 [v3, .int .i64 s1.at_, .int .u64 s1.seed]).holds w S) :
    Calls Try.prog 92 #[pt g2 0, .int .i64 n5] w (RetG ⟨w, S⟩ fun u L => (u = .int .i64 r.1 ∧ L = [box g2 161 [v3, .int .i64 r.2.at_, .int .u64 r.2.seed]])) := by
  unfold s_l00Src_pick at hm
  refine Calls.enter1 hA [pt g2 0, .int .i64 n5] Try.func92 rfl Try.ntmps92 rfl ?_
  refine WJ.seq ?_
  refine WJ.quiet ?_
  refine QJ.step (YldS.yld (y_assign rfl)) rfl ?_
  refine QJ.done ?_
  refine PJ.next ?_
  refine WJ.seq ?_
  refine WJ.seq ?_
  refine WJ.quiet ?_
  refine QJ.step (YldS.yld (y_move rfl)) rfl ?_
  refine QJ.step (YldS.yld (y_bin rfl rfl rfl)) rfl ?_
  refine QJ.done ?_
  refine PJ.next ?_
  refine WJ.cond (t := decide (n5 ≤ 1)) rfl (fun hb6 => ?_) (fun hb6 => ?_)
  · replace hm := ifT hm hb6
    refine WJ.seq ?_
    refine WJ.quiet ?_
    refine QJ.step (YldS.yld (y_assign rfl)) rfl ?_
    refine QJ.done ?_
    refine PJ.next ?_
    refine WJ.ret ?_
    refine PJ.then_ret ?_
    obtain rfl := Option.some.inj hm
    refine PJ.sel (L' := [box g2 161 [v3, .int .i64 s1.at_, .int .u64 s1.seed]]) [0] ⟨by decide, rfl⟩ ?_
    exact PJ.retn (vs := [.int .i64 0]) Try.results92 ⟨rfl, trivial⟩ ⟨rfl, rfl⟩
  · replace hm := ifF hm hb6
    refine WJ.skip ?_
    refine PJ.next ?_
    refine WJ.seq ?_
    refine WJ.reg ?_
    refine SJ.q (YldS.yld (y_move rfl)) rfl ?_
    obtain ⟨r7, h8, hm⟩ := bindS hm
    refine SJ.call1 (k := 0) rfl Try.call154 rfl (fun w S hw hA hO => ok_s_l00Src_next h8 w S _ (hr4.st1 hw hO) hA) rfl ?_
    rintro _ _ ⟨rfl, rfl⟩
    refine SJ.q (YldS.yld (y_assign rfl)) rfl ?_
    refine SJ.nil ?_
    refine PJ.next ?_
    obtain ⟨kj12, hk13, hm⟩ := withK_open hm
    refine WJ.join (X := Int × Int × Int) (fun (x : Int × Int × Int) => kj12 x.1 x.2.1 x.2.2 = some r) (fun (x : Int × Int × Int) => [(1, .int .i64 n5), (5, .int .i64 x.2.2)]) (fun (x : Int × Int × Int) => [box g2 161 [v3, .int .i64 x.1, .int .u64 x.2.1]]) ?_ ?_
    · clear hk13
      refine WJ.seq ?_
      refine WJ.quiet ?_
      refine QJ.step (YldS.yld (y_move rfl)) rfl ?_
      refine QJ.step (YldS.yld (y_bin rfl rfl rfl)) rfl ?_
      refine QJ.done ?_
      refine PJ.next ?_
      refine WJ.cond (t := decide (n5 > 200)) rfl (fun hb14 => ?_) (fun hb14 => ?_)
      · replace hm := ifT hm hb14
        refine WJ.reg ?_
        refine SJ.q (YldS.yld (y_move rfl)) rfl ?_
        refine SJ.q (YldS.yld (y_bin rfl rfl rfl)) rfl ?_
        refine SJ.q (YldS.yld (y_move rfl)) rfl ?_
        obtain ⟨r15, h16, hm⟩ := bindS hm
        refine SJ.call1 (k := 0) rfl Try.call154 rfl (fun w S hw hA hO => ok_s_l00Src_next h16 w S _ (hr4.st1 hw hO) hA) rfl ?_
        rintro _ _ ⟨rfl, rfl⟩
        refine SJ.q (YldS.yld (y_bin rfl rfl rfl)) rfl ?_
        refine SJ.q (YldS.yld (y_assign rfl)) rfl ?_
        refine SJ.nil ?_
        exact PJ.joined (r15.2.at_, r15.2.seed, w64 ((w64 (r7.1 * 256)) + r15.1)) [0] hm ⟨rfl, rfl, trivial⟩ ⟨by decide, rfl⟩
      · replace hm := ifF hm hb14
        refine WJ.skip ?_
        exact PJ.joined (r7.2.at_, r7.2.seed, r7.1) [0] hm ⟨rfl, rfl, trivial⟩ ⟨by decide, rfl⟩
    · rintro ⟨x9, x10, x11⟩ hm
      subst hk13
      refine WJ.seq ?_
      refine WJ.quiet ?_
      refine QJ.step (YldS.yld (y_move rfl)) rfl ?_
      refine QJ.step (YldS.yld (y_move rfl)) rfl ?_
      obtain ⟨q17, h18, hm⟩ := bindS hm
      refine QJ.step (YldS.yld (y_rem' h18 rfl rfl)) rfl ?_
      refine QJ.step (YldS.yld (y_assign rfl)) rfl ?_
      refine QJ.done ?_
      refine PJ.next ?_
      refine WJ.ret ?_
      obtain rfl := Option.some.inj hm
      refine PJ.sel (L' := [box g2 161 [v3, .int .i64 x9, .int .u64 x10]]) [0] ⟨by decide, rfl⟩ ?_
      exact PJ.retn (vs := [.int .i64 q17]) Try.results92 ⟨rfl, trivial⟩ ⟨rfl, rfl⟩

set_option maxRecDepth 100000 in
set_option maxHeartbeats 1000000 in
theorem ok_s_l00Src_one {s1 : L00Src} {n5 : Int} {g2 : Nat} {r : Bool × L00Src} (hm : s_l00Src_one s1 n5 = some r) (w : World) (S : Nat → Prop) (v3 : Value) (hr4 : RdS w (Cx.Fz ⟨w, S⟩) v3 fByte.rp s1.code) (hA : (box g2 161 [v3, .int .i64 s1.at_, .int .u64 s1.seed]).holds w S) :
    Calls Try.prog 91 #[pt g2 0, .int .i64 n5] w (RetG ⟨w, S⟩ fun u L => (u = .bool r.1 ∧ L = [box g2 161 [v3, .int .i64 r.2.at_, .int .u64 r.2.seed]])) := by
  unfold s_l00Src_one at hm
  refine Calls.enter1 hA [pt g2 0, .int .i64 n5] Try.func91 rfl Try.ntmps91 rfl ?_
  refine WJ.seq ?_
  refine WJ.quiet ?_
  refine QJ.step (YldS.yld (y_assign rfl)) rfl ?_
  refine QJ.done ?_
  refine PJ.next ?_
  refine WJ.seq ?_
  refine WJ.reg ?_
  refine SJ.q (YldS.yld (y_move rfl)) rfl ?_
  refine SJ.q (YldS.yld (y_move rfl)) rfl ?_
  obtain ⟨r6, h7, hm⟩ := bindS hm
  refine SJ.call1 (k := 0) rfl Try.call92 rfl (fun w S hw hA hO => ok_s_l00Src_pick h7 w S _ (hr4.st1 hw hO) hA) rfl ?_
  rintro _ _ ⟨rfl, rfl⟩
  refine SJ.q (YldS.yld (y_bin rfl rfl rfl)) rfl ?_
  refine SJ.q (YldS.yld (y_assign rfl)) rfl ?_
  refine SJ.nil ?_
  refine PJ.next ?_
  refine WJ.ret ?_
  obtain rfl := Option.some.inj hm
  refine PJ.sel (L' := [box g2 161 [v3, .int .i64 r6.2.at_, .int .u64 r6.2.seed]]) [0] ⟨by decide, rfl⟩ ?_
  exact PJ.retn (vs := [.bool (r6.1 == 0)]) Try.results91 ⟨rfl, trivial⟩ ⟨rfl, rfl⟩

set_option maxRecDepth 100000 in
set_option maxHeartbeats 1000000 in
theorem ok_s_l00Src_among {s1 : L00Src} {list5 : List Int} {g2 : Nat} {r : Int × L00Src} (hm : s_l00Src_among s1 list5 = some r) (w : World) (S : Nat → Prop) (v3 : Value) (hr4 : RdS w (Cx.Fz ⟨w, S⟩) v3 fByte.rp s1.code) (v6 : Value) (hr7 : RdS w (Cx.Fz ⟨w, S⟩) v6 fI64.rp list5) (hA : (box g2 161 [v3, .int .i64 s1.at_, .int .u64 s1.seed]).holds w S) :
    Calls Try.prog 97 #[pt g2 0, v6] w (RetG ⟨w, S⟩ fun u L => (u = .int .i64 r.1 ∧ L = [box g2 161 [v3, .int .i64 r.2.at_, .int .u64 r.2.seed]])) := by
  unfold s_l00Src_among at hm
  refine Calls.enter1 hA [pt g2 0, v6] Try.func97 rfl Try.ntmps97 rfl ?_
  refine WJ.seq ?_
  refine WJ.quiet ?_
  refine QJ.step (YldS.yld (y_assign rfl)) rfl ?_
  refine QJ.done ?_
  refine PJ.next ?_
  refine WJ.seq ?_
  refine WJ.reg ?_
  refine SJ.q (YldS.yld (y_move rfl)) rfl ?_
  refine SJ.q (YldS.yld (y_move rfl)) rfl ?_
  refine SJ.q (YldS.yld (y_move rfl)) rfl ?_
  refine SJ.q (YldS.yld (y_lenS Try.runUnderlying27 hr7 rfl)) rfl ?_
  obtain ⟨r8, h9, hm⟩ := bindS hm
  refine SJ.call1 (k := 0) rfl Try.call92 rfl (fun w S hw hA hO => ok_s_l00Src_pick h9 w S _ (hr4.st1 hw hO) hA) rfl ?_
  rintro _ _ ⟨rfl, rfl⟩
  obtain ⟨e10, h11, hm⟩ := bindS hm
  obtain ⟨ad12, _, rfl, ha13, hy14⟩ := hr7.elem h11
  refine SJ.q (YldS.yld (hy14 Try.runUnderlying27 Try.sizeOf2 rfl rfl)) rfl ?_
  refine SJ.q (YldS.yld (y_load1 (v := .int .i64 e10) Try.isAgg2 ha13 St.frozenC rfl)) rfl ?_
  refine SJ.q (YldS.yld (y_assign rfl)) rfl ?_
  refine SJ.nil ?_
  refine PJ.next ?_
  refine WJ.ret ?_
  obtain rfl := Option.some.inj hm
  refine PJ.sel (L' := [box g2 161 [v3, .int .i64 r8.2.at_, .int .u64 r8.2.seed]]) [0] ⟨by decide, rfl⟩ ?_
  exact PJ.retn (vs := [.int .i64 e10]) Try.results97 ⟨rfl, trivial⟩ ⟨rfl, rfl⟩

set_option maxRecDepth 100000 in
set_option maxHeartbeats 1000000 in
theorem ok_s_l00Src_text {s1 : L00Src} {list5 : List Str} {g2 : Nat} {r : Str × L00Src} (hm : s_l00Src_text s1 list5 = some r) (w : World) (S : Nat → Prop) (v3 : Value) (hr4 : RdS w (Cx.Fz ⟨w, S⟩) v3 fByte.rp s1.code) (v6 : Value) (hr7 : RdS w (Cx.Fz ⟨w, S⟩) v6 fStr.rp list5) (hA : (box g2 161 [v3, .int .i64 s1.at_, .int .u64 s1.seed]).holds w S) :
    Calls Try.prog 96 #[pt g2 0, v6] w (RetG ⟨w, S⟩ fun u L => (u = str r.1 ∧ L = [box g2 161 [v3, .int .i64 r.2.at_, .int .u64 r.2.seed]])) := by
  unfold s_l00Src_text at hm
  refine Calls.enter1 hA [pt g2 0, v6] Try.func96 rfl Try.ntmps96 rfl ?_
  refine WJ.seq ?_
  refine WJ.quiet ?_
  refine QJ.step (YldS.yld (y_assign rfl)) rfl ?_
  refine QJ.done ?_
  refine PJ.next ?_
  refine WJ.seq ?_
  refine WJ.reg ?_
  refine SJ.q (YldS.yld (y_move rfl)) rfl ?_
  refine SJ.q (YldS.yld (y_move rfl)) rfl ?_
  refine SJ.q (YldS.yld (y_move rfl)) rfl ?_
  refine SJ.q (YldS.yld (y_lenS Try.runUnderlying45 hr7 rfl)) rfl ?_
  obtain ⟨r8, h9, hm⟩ := bindS hm
  refine SJ.call1 (k := 0) rfl Try.call92 rfl (fun w S hw hA hO => ok_s_l00Src_pick h9 w S _ (hr4.st1 hw hO) hA) rfl ?_
  rintro _ _ ⟨rfl, rfl⟩
  obtain ⟨e10, h11, hm⟩ := bindS hm
  obtain ⟨ad12, _, rfl, ha13, hy14⟩ := hr7.elem h11
  refine SJ.q (YldS.yld (hy14 Try.runUnderlying45 Try.sizeOf9 rfl rfl)) rfl ?_
  refine SJ.q (YldS.yld (y_load1 (v := str e10) Try.isAgg9 ha13 St.frozenC rfl)) rfl ?_
  refine SJ.q (YldS.yld (y_assign rfl)) rfl ?_
  refine SJ.nil ?_
  refine PJ.next ?_
  refine WJ.ret ?_
  obtain rfl := Option.some.inj hm
  refine PJ.sel (L' := [box g2 161 [v3, .int .i64 r8.2.at_, .int .u64 r8.2.seed]]) [0] ⟨by decide, rfl⟩ ?_
  exact PJ.retn (vs := [str e10]) Try.results96 ⟨rfl, trivial⟩ ⟨rfl, rfl⟩

set_option maxRecDepth 100000 in
set_option maxHeartbeats 1000000 in
theorem ok_s_l08Cell {s1 : L00Src} {g2 : Nat} {r : Str × L00Src} (hm : s_l08Cell s1 = some r) (w : World) (S : Nat → Prop) (v3 : Value) (hr4 : RdS w (Cx.Fz ⟨w, S⟩) v3 fByte.rp s1.code) (hA : (box g2 161 [v3, .int .i64 s1.at_, .int .u64 s1.seed]).holds w S) :
    Calls Try.prog 156 #[pt g2 0] w (RetG ⟨w, S⟩ fun u L => (u = str r.1 ∧ L = [box g2 161 [v3, .int .i64 r.2.at_, .int .u64 r.2.seed]])) := by
  unfold s_l08Cell at hm
  refine Calls.enter1 hA [pt g2 0] Try.func156 rfl Try.ntmps156 rfl ?_
  refine WJ.seq ?_
  refine WJ.quiet ?_
  refine QJ.step (YldS.yld (y_assign rfl)) rfl ?_
  refine QJ.done ?_
  refine PJ.next ?_
  refine WJ.seq ?_
  refine WJ.reg ?_
  refine SJ.q (YldS.yld (y_move rfl)) rfl ?_
  refine SJ.buildSlice (R := fStr) (os := [.const (str []), .const (str [97]), .const (str [105, 110, 107]), .const (str [49, 50]), .const (str [114, 105, 98, 98, 111, 110]), .const (str [120, 45, 114, 97, 121]), .const (str [52, 46, 53, 48]), .const (str [116, 111, 116, 97, 108])]) ([[], [97], [105, 110, 107], [49, 50], [114, 105, 98, 98, 111, 110], [120, 45, 114, 97, 121], [52, 46, 53, 48], [116, 111, 116, 97, 108]] : List Str) Try.runUnderlying45 Try.sizeOf9 Try.zeroValue9 rfl rfl rfl rfl rfl rfl fun v5 => ?_
  obtain ⟨r6, h7, hm⟩ := bindS hm
  refine SJ.call2 (k := 1) rfl Try.call96 rfl (fun w S hw hA hO hB => ok_s_l00Src_text h7 w S _ (hr4.st1 hw hO) _ (hB.row_rd (j := 0) (k := 1) rfl rfl) hA) rfl ?_
  rintro _ _ ⟨rfl, rfl⟩
  refine SJ.q (YldS.yld (y_assign rfl)) rfl ?_
  refine SJ.nil ?_
  refine PJ.next ?_
  refine WJ.ret ?_
  obtain rfl := Option.some.inj hm
  refine PJ.sel (L' := [box g2 161 [v3, .int .i64 r6.2.at_, .int .u64 r6.2.seed]]) [0] ⟨by decide, rfl⟩ ?_
  exact PJ.retn (vs := [str r6.1]) Try.results156 ⟨rfl, trivial⟩ ⟨rfl, rfl⟩

set_option maxRecDepth 100000 in
set_option maxHeartbeats 1000000 in
theorem ok_s_l08Table {N : Nat} {s1 : L00Src} {g2 : Nat} {r : (List (List Str)) × L00Src} (hm : s_l08Table N s1 = some r) (w : World) (S : Nat → Prop) (v3 : Value) (hr4 : RdS w (Cx.Fz ⟨w, S⟩) v3 fByte.rp s1.code) (hA : (box g2 161 [v3, .int .i64 s1.at_, .int .u64 s1.seed]).holds w S) :
    Calls Try.prog 95 #[pt g2 0] w (RetG ⟨w, S⟩ fun u L => ∃ (u1 : Value) (u2 : List (Raw 1)), (u = u1 ∧ L = [box g2 161 [v3, .int .i64 r.2.at_, .int .u64 r.2.seed], row u1 45 fRaw1 u2, inn (rSl fStr.rp) u2 r.1])) := by
  unfold s_l08Table at hm
  refine Calls.enter1 hA [pt g2 0] Try.func95 rfl Try.ntmps95 rfl ?_
  refine WJ.seq ?_
  refine WJ.quiet ?_
  refine QJ.step (YldS.yld (y_assign rfl)) rfl ?_
  refine QJ.done ?_
  refine PJ.next ?_
  refine WJ.seq ?_
  refine WJ.reg ?_
  refine SJ.buildSlice (R := fRaw1) (os := []) ([] : List (Raw 1)) Try.runUnderlying42 Try.sizeOf45 Try.zeroValue45 rfl rfl rfl rfl rfl rfl fun v5 => ?_
  refine SJ.inm_nil 9 fStr ?_
  refine SJ.q (YldS.yld (y_assign rfl)) rfl ?_
  refine SJ.nil ?_
  refine PJ.next ?_
  refine WJ.seq ?_
  refine WJ.reg ?_
  refine SJ.q (YldS.yld (y_move rfl)) rfl ?_
  obtain ⟨r6, h7, hm⟩ := bindS hm
  refine SJ.call1 (k := 2) rfl Try.call92 rfl (fun w S hw hA hO => ok_s_l00Src_pick h7 w S _ (hr4.st1 hw hO) hA) rfl ?_
  rintro _ _ ⟨rfl, rfl⟩
  refine SJ.q (YldS.yld (y_bin rfl rfl rfl)) rfl ?_
  refine SJ.q (YldS.yld (y_assign rfl)) rfl ?_
  refine SJ.nil ?_
  refine PJ.next ?_
  obtain ⟨kj11, hk12, hm⟩ := withK_open hm
  refine WJ.join (X := Int × Int × Int) (fun (x : Int × Int × Int) => kj11 x.1 x.2.1 x.2.2 = some r) (fun (x : Int × Int × Int) => [(0, pt g2 0), (3, v5), (4, .int .i64 x.2.2)]) (fun (x : Int × Int × Int) => [box g2 161 [v3, .int .i64 x.1, .int .u64 x.2.1], inm 9 fStr ([] : List (Raw 1)) ([] : List (List Str)), row v5 45 fRaw1 ([] : List (Raw 1))]) ?_ ?_
  · clear hk12
    refine WJ.seq ?_
    refine WJ.reg ?_
    refine SJ.q (YldS.yld (y_move rfl)) rfl ?_
    obtain ⟨r13, h14, hm⟩ := bindS hm
    refine SJ.call1 (k := 0) rfl Try.call91 rfl (fun w S hw hA hO => ok_s_l00Src_one h14 w S _ (hr4.st1 hw hO) hA) rfl ?_
    rintro _ _ ⟨rfl, rfl⟩
    refine SJ.nil ?_
    refine PJ.next ?_
    refine WJ.cond (t := r13.1) rfl (fun hb15 => ?_) (fun hb15 => ?_)
    · replace hm := ifT hm hb15
      refine WJ.reg ?_
      refine SJ.q (YldS.yld (y_move rfl)) rfl ?_
      obtain ⟨r16, h17, hm⟩ := bindS hm
      refine SJ.call1 (k := 0) rfl Try.call92 rfl (fun w S hw hA hO => ok_s_l00Src_pick h17 w S _ (hr4.st1 hw hO) hA) rfl ?_
      rintro _ _ ⟨rfl, rfl⟩
      refine SJ.q (YldS.yld (y_bin rfl rfl rfl)) rfl ?_
      refine SJ.q (YldS.yld (y_assign rfl)) rfl ?_
      refine SJ.nil ?_
      exact PJ.joined (r16.2.at_, r16.2.seed, w64 (12 + r16.1)) [0, 1, 2] hm ⟨rfl, rfl, rfl, trivial⟩ ⟨by decide, rfl⟩
    · replace hm := ifF hm hb15
      refine WJ.skip ?_
      exact PJ.joined (r13.2.at_, r13.2.seed, w64 (1 + r6.1)) [0, 1, 2] hm ⟨rfl, rfl, rfl, trivial⟩ ⟨by decide, rfl⟩
  · rintro ⟨x8, x9, n10⟩ hm
    subst hk12
    refine WJ.seq ?_
    refine WJ.reg ?_
    refine SJ.q (YldS.yld (y_move rfl)) rfl ?_
    obtain ⟨r18, h19, hm⟩ := bindS hm
    refine SJ.call1 (k := 0) rfl Try.call92 rfl (fun w S hw hA hO => ok_s_l00Src_pick h19 w S _ (hr4.st1 hw hO) hA) rfl ?_
    rintro _ _ ⟨rfl, rfl⟩
    refine SJ.q (YldS.yld (y_bin rfl rfl rfl)) rfl ?_
    refine SJ.q (YldS.yld (y_assign rfl)) rfl ?_
    refine SJ.nil ?_
    refine PJ.next ?_
    obtain ⟨kj23, hk24, hm⟩ := withK_open hm
    refine WJ.join (X := Int × Int × Int) (fun (x : Int × Int × Int) => kj23 x.1 x.2.1 x.2.2 = some r) (fun (x : Int × Int × Int) => [(0, pt g2 0), (3, v5), (4, .int .i64 n10), (5, .int .i64 x.2.2)]) (fun (x : Int × Int × Int) => [box g2 161 [v3, .int .i64 x.1, .int .u64 x.2.1], inm 9 fStr ([] : List (Raw 1)) ([] : List (List Str)), row v5 45 fRaw1 ([] : List (Raw 1))]) ?_ ?_
    · clear hk24
      refine WJ.seq ?_
      refine WJ.reg ?_
      refine SJ.q (YldS.yld (y_move rfl)) rfl ?_
      obtain ⟨r25, h26, hm⟩ := bindS hm
      refine SJ.call1 (k := 0) rfl Try.call91 rfl (fun w S hw hA hO => ok_s_l00Src_one h26 w S _ (hr4.st1 hw hO) hA) rfl ?_
      rintro _ _ ⟨rfl, rfl⟩
      refine SJ.nil ?_
      refine PJ.next ?_
      refine WJ.cond (t := r25.1) rfl (fun hb27 => ?_) (fun hb27 => ?_)
      · replace hm := ifT hm hb27
        refine WJ.reg ?_
        refine SJ.q (YldS.yld (y_move rfl)) rfl ?_
        refine SJ.buildSlice (R := fI64) (os := [.const (.int .i64 0), .const (.int .i64 40), .const (.int .i64 41)]) [0, 40, 41] Try.runUnderlying27 Try.sizeOf2 Try.zeroValue2 rfl rfl rfl rfl rfl rfl fun v28 => ?_
        obtain ⟨r29, h30, hm⟩ := bindS hm
        refine SJ.call2 (k := 1) rfl Try.call97 rfl (fun w S hw hA hO hB => ok_s_l00Src_among h30 w S _ (hr4.st1 hw hO) _ (hB.row_rd (j := 0) (k := 1) rfl rfl) hA) rfl ?_
        rintro _ _ ⟨rfl, rfl⟩
        refine SJ.q (YldS.yld (y_assign rfl)) rfl ?_
        refine SJ.nil ?_
        exact PJ.joined (r29.2.at_, r29.2.seed, r29.1) [0, 2, 3] hm ⟨rfl, rfl, rfl, rfl, trivial⟩ ⟨by decide, rfl⟩
      · replace hm := ifF hm hb27
        refine WJ.skip ?_
        exact PJ.joined (r25.2.at_, r25.2.seed, w64 (1 + r18.1)) [0, 1, 2] hm ⟨rfl, rfl, rfl, rfl, trivial⟩ ⟨by decide, rfl⟩
    · rintro ⟨x20, x21, many22⟩ hm
      subst hk24
      obtain ⟨kj36, hk37, hm⟩ := withK_open hm
      refine WJ.join (X := Int × Int × (List (List Str)) × (List (Raw 1)) × Value) (fun (x : Int × Int × (List (List Str)) × (List (Raw 1)) × Value) => kj36 x.1 x.2.1 x.2.2.1 = some r) (fun (x : Int × Int × (List (List Str)) × (List (Raw 1)) × Value) => [(0, pt g2 0), (3, x.2.2.2.2), (5, .int .i64 many22)]) (fun (x : Int × Int × (List (List Str)) × (List (Raw 1)) × Value) => [box g2 161 [v3, .int .i64 x.1, .int .u64 x.2.1], inm 9 fStr x.2.2.2.1 x.2.2.1, row x.2.2.2.2 45 fRaw1 x.2.2.2.1]) ?_ ?_
      · clear hk37
        refine WJ.seq ?_
        refine WJ.quiet ?_
        refine QJ.step (YldS.yld (y_move rfl)) rfl ?_
        refine QJ.step (YldS.yld (y_assign rfl)) rfl ?_
        refine QJ.done ?_
        refine PJ.next ?_
        refine WJ.block ?_
        refine WJ.sel (L' := (fun (x : Int × Int × (List (List Str)) × (List (Raw 1)) × Value × Int) => [box g2 161 [v3, .int .i64 x.1, .int .u64 x.2.1], inm 9 fStr x.2.2.2.1 x.2.2.1, row x.2.2.2.2.1 45 fRaw1 x.2.2.2.1]) (x20, x21, ([] : List (List Str)), ([] : List (Raw 1)), v5, many22)) [0, 1, 2] ⟨by decide, rfl⟩ ?_
        refine WJ.sub (m' := (fun (x : Int × Int × (List (List Str)) × (List (Raw 1)) × Value × Int) => [(0, pt g2 0), (3, x.2.2.2.2.1), (4, .int .i64 n10), (5, .int .i64 many22), (6, .int .i64 x.2.2.2.2.2)]) (x20, x21, ([] : List (List Str)), ([] : List (Raw 1)), v5, many22)) ⟨rfl, rfl, rfl, rfl, rfl, trivial⟩ ?_
        refine WJ.loop (X := Int × Int × (List (List Str)) × (List (Raw 1)) × Value × Int) (fun N (x : Int × Int × (List (List Str)) × (List (Raw 1)) × Value × Int) => s_l08Table_l1 kj36 s1 n10 N x.1 x.2.1 x.2.2.1 x.2.2.2.2.2 = some r) (fun (x : Int × Int × (List (List Str)) × (List (Raw 1)) × Value × Int) => [(0, pt g2 0), (3, x.2.2.2.2.1), (4, .int .i64 n10), (5, .int .i64 many22), (6, .int .i64 x.2.2.2.2.2)]) (fun (x : Int × Int × (List (List Str)) × (List (Raw 1)) × Value × Int) => [box g2 161 [v3, .int .i64 x.1, .int .u64 x.2.1], inm 9 fStr x.2.2.2.1 x.2.2.1, row x.2.2.2.2.1 45 fRaw1 x.2.2.2.1]) ?_ N (x20, x21, ([] : List (List Str)), ([] : List (Raw 1)), v5, many22) hm
        · rintro N ⟨x38, x39, l40, vs41, v42, k43⟩ hI
          have hm := hI; clear hI
          cases N with
          | zero => cases hm
          | succ N =>
          unfold s_l08Table_l1 at hm
          refine WJ.seq ?_
          refine WJ.seq ?_
          refine WJ.quiet ?_
          refine QJ.step (YldS.yld (y_move rfl)) rfl ?_
          refine QJ.step (YldS.yld (y_bin rfl rfl rfl)) rfl ?_
          refine QJ.done ?_
          refine PJ.next ?_
          refine WJ.cond (t := decide (k43 > 0)) rfl (fun hb44 => ?_) (fun hb44 => ?_)
          · replace hm := ifT hm hb44
            refine WJ.skip ?_
            refine PJ.next ?_
            obtain ⟨kj50, hk51, hm⟩ := withK_open hm
            refine WJ.join (X := (List (List Str)) × Int × Int × (List (Raw 1)) × Value) (fun (x : (List (List Str)) × Int × Int × (List (Raw 1)) × Value) => kj50 x.1 x.2.1 x.2.2.1 = some r) (fun (x : (List (List Str)) × Int × Int × (List (Raw 1)) × Value) => [(0, pt g2 0), (3, x.2.2.2.2), (4, .int .i64 n10), (5, .int .i64 many22), (6, .int .i64 k43)]) (fun (x : (List (List Str)) × Int × Int × (List (Raw 1)) × Value) => [inm 9 fStr x.2.2.2.1 x.1, box g2 161 [v3, .int .i64 x.2.1, .int .u64 x.2.2.1], row x.2.2.2.2 45 fRaw1 x.2.2.2.1]) ?_ ?_
            · clear hk51
              refine WJ.block ?_
              refine WJ.seq ?_
              refine WJ.reg ?_
              refine SJ.buildSlice (R := fStr) (os := []) [] Try.runUnderlying45 Try.sizeOf9 Try.zeroValue9 rfl rfl rfl rfl rfl rfl fun v52 => ?_
              refine SJ.q (YldS.yld (y_assign rfl)) rfl ?_
              refine SJ.nil ?_
              refine PJ.next ?_
              obtain ⟨kj57, hk58, hm⟩ := withK_open hm
              refine WJ.join (X := (List Str) × Value × Int × Int) (fun (x : (List Str) × Value × Int × Int) => kj57 x.1 x.2.2.1 x.2.2.2 = some r) (fun (x : (List Str) × Value × Int × Int) => [(0, pt g2 0), (3, v42), (4, .int .i64 n10), (5, .int .i64 many22), (6, .int .i64 k43), (7, x.2.1)]) (fun (x : (List Str) × Value × Int × Int) => [row x.2.1 9 fStr x.1, box g2 161 [v3, .int .i64 x.2.2.1, .int .u64 x.2.2.2], inm 9 fStr vs41 l40, row v42 45 fRaw1 vs41]) ?_ ?_
              · clear hk58
                refine WJ.seq ?_
                refine WJ.quiet ?_
                refine QJ.step (YldS.yld (y_move rfl)) rfl ?_
                refine QJ.step (YldS.yld (y_assign rfl)) rfl ?_
                refine QJ.done ?_
                refine PJ.next ?_
                refine WJ.block ?_
                refine WJ.sel (L' := (fun (x : (List Str) × Value × Int × Int × Int) => [row x.2.1 9 fStr x.1, box g2 161 [v3, .int .i64 x.2.2.1, .int .u64 x.2.2.2.1], inm 9 fStr vs41 l40, row v42 45 fRaw1 vs41]) ([], v52, x38, x39, n10)) [0, 1, 2, 3] ⟨by decide, rfl⟩ ?_
                refine WJ.sub (m' := (fun (x : (List Str) × Value × Int × Int × Int) => [(0, pt g2 0), (3, v42), (4, .int .i64 n10), (5, .int .i64 many22), (6, .int .i64 k43), (7, x.2.1), (8, .int .i64 x.2.2.2.2)]) ([], v52, x38, x39, n10)) ⟨rfl, rfl, rfl, rfl, rfl, rfl, rfl, trivial⟩ ?_
                refine WJ.loop (X := (List Str) × Value × Int × Int × Int) (fun N (x : (List Str) × Value × Int × Int × Int) => s_l08Table_l2 kj57 s1 N x.1 x.2.2.1 x.2.2.2.1 x.2.2.2.2 = some r) (fun (x : (List Str) × Value × Int × Int × Int) => [(0, pt g2 0), (3, v42), (4, .int .i64 n10), (5, .int .i64 many22), (6, .int .i64 k43), (7, x.2.1), (8, .int .i64 x.2.2.2.2)]) (fun (x : (List Str) × Value × Int × Int × Int) => [row x.2.1 9 fStr x.1, box g2 161 [v3, .int .i64 x.2.2.1, .int .u64 x.2.2.2.1], inm 9 fStr vs41 l40, row v42 45 fRaw1 vs41]) ?_ N ([], v52, x38, x39, n10) hm
                · rintro N ⟨l59, v60, x61, x62, j63⟩ hI
                  have hm := hI; clear hI
                  cases N with
                  | zero => cases hm
                  | succ N =>
                  unfold s_l08Table_l2 at hm
                  refine WJ.seq ?_
                  refine WJ.seq ?_
                  refine WJ.quiet ?_
                  refine QJ.step (YldS.yld (y_move rfl)) rfl ?_
                  refine QJ.step (YldS.yld (y_bin rfl rfl rfl)) rfl ?_
                  refine QJ.done ?_
                  refine PJ.next ?_
                  refine WJ.cond (t := decide (j63 > 0)) rfl (fun hb64 => ?_) (fun hb64 => ?_)
                  · replace hm := ifT hm hb64
                    refine WJ.skip ?_
                    refine PJ.next ?_
                    refine WJ.seq ?_
                    refine WJ.block ?_
                    refine WJ.reg ?_
                    refine SJ.q (YldS.yld (y_move rfl)) rfl ?_
                    refine SJ.q (YldS.yld (y_move rfl)) rfl ?_
                    obtain ⟨r65, h66, hm⟩ := bindS hm
                    refine SJ.call1 (k := 1) rfl Try.call156 rfl (fun w S hw hA hO => ok_s_l08Cell h66 w S _ (hr4.st1 hw hO) hA) rfl ?_
                    rintro _ _ ⟨rfl, rfl⟩
                    refine SJ.buildSlice (R := fStr) (os := [.tmp 40]) [r65.1] Try.runUnderlying45 Try.sizeOf9 Try.zeroValue9 rfl rfl rfl rfl rfl rfl fun v67 => ?_
                    obtain ⟨l68, h69, hm⟩ := bindS hm
                    refine SJ.append (k := 2) (R := fStr) h69 rfl Try.underlying45 el9 rfl rfl rfl (fun w hw => (hw.row_rd (k := 0) rfl)) rfl fun v70 => ?_
                    refine SJ.q (YldS.yld (y_assign rfl)) rfl ?_
                    refine SJ.nil ?_
                    refine PJ.block_normal (PJ.next ?_)
                    refine WJ.quiet ?_
                    refine QJ.step (YldS.yld (y_move rfl)) rfl ?_
                    refine QJ.step (YldS.yld (y_bin rfl rfl rfl)) rfl ?_
                    refine QJ.step (YldS.yld (y_assign rfl)) rfl ?_
                    refine QJ.done ?_
                    exact PJ.round (l68, v70, r65.2.at_, r65.2.seed, w64 (j63 - 1)) [2, 1, 3, 4] hm ⟨rfl, rfl, rfl, rfl, rfl, rfl, rfl, trivial⟩ ⟨by decide, rfl⟩
                  · replace hm := ifF hm hb64
                    refine WJ.exit ?_
                    refine PJ.then_exit (PJ.then_exit (PJ.block_exit ?_))
                    exact PJ.joined (l59, v60, x61, x62) [0, 1, 2, 3] hm ⟨rfl, rfl, rfl, rfl, rfl, rfl, trivial⟩ ⟨by decide, rfl⟩
              · rintro ⟨l53, v54, x55, x56⟩ hm
                subst hk58
                refine WJ.reg ?_
                refine SJ.q (YldS.yld (y_move rfl)) rfl ?_
                refine SJ.q (YldS.yld (y_move rfl)) rfl ?_
                refine SJ.rowCells (k := 0) rfl fun hc71 => ?_
                refine SJ.buildSlice (R := fRaw1) (os := [.tmp 44]) ([mkRaw1 v54 hc71.2] : List (Raw 1)) Try.runUnderlying42 Try.sizeOf45 Try.zeroValue45 rfl rfl rfl (by simp only [List.map_cons, List.map_nil, hc71.1]; rfl) rfl rfl fun v72 => ?_
                refine SJ.inm_nil 9 fStr ?_
                refine SJ.sel (L' := [row v54 9 fStr l53, inm 9 fStr [] ([] : List (List Str)), row v72 45 fRaw1 ([mkRaw1 v54 hc71.2] : List (Raw 1)), box g2 161 [v3, .int .i64 x55, .int .u64 x56], inm 9 fStr vs41 l40, row v42 45 fRaw1 vs41]) [2, 0, 1, 3, 4, 5] ⟨by decide, rfl⟩ ?_
                refine SJ.star ?_
                refine SJ.conv0 (fun w S h => inm_push hc71.2 h) ?_
                refine SJ.conv0 (B := inm 9 fStr ([mkRaw1 v54 hc71.2] : List (Raw 1)) ([l53] : List (List Str))) (fun w S h => h) ?_
                refine SJ.inm_len 3 rfl fun hl73 => ?_
                refine SJ.inm_len 0 rfl fun hl74 => ?_
                obtain ⟨l75, h76, hm⟩ := bindS hm
                refine SJ.append (k := 4) (R := fRaw1) (app_raw h76 hl73 hl74) rfl Try.underlying42 el45 rfl rfl rfl (fun w hw => (hw.row_rd (k := 1) rfl)) rfl fun v77 => ?_
                refine SJ.sel (L' := [inm 9 fStr vs41 l40, inm 9 fStr ([mkRaw1 v54 hc71.2] : List (Raw 1)) ([l53] : List (List Str)), row v72 45 fRaw1 ([mkRaw1 v54 hc71.2] : List (Raw 1)), box g2 161 [v3, .int .i64 x55, .int .u64 x56], row v77 45 fRaw1 (vs41 ++ ([mkRaw1 v54 hc71.2] : List (Raw 1)))]) [3, 0, 1, 2, 4] ⟨by decide, rfl⟩ ?_
                refine SJ.star ?_
                refine SJ.conv0 (fun w S h => inm_app h76 h) ?_
                refine SJ.q (YldS.yld (y_assign rfl)) rfl ?_
                refine SJ.nil ?_
                refine PJ.block_normal ?_
                exact PJ.joined (l75, x55, x56, (vs41 ++ ([mkRaw1 v54 hc71.2] : List (Raw 1))), v77) [0, 2, 3] hm ⟨rfl, rfl, rfl, rfl, rfl, trivial⟩ ⟨by decide, rfl⟩
            · rintro ⟨l45, x46, x47, vs48, v49⟩ hm
              subst hk51
              refine WJ.quiet ?_
              refine QJ.step (YldS.yld (y_move rfl)) rfl ?_
              refine QJ.step (YldS.yld (y_bin rfl rfl rfl)) rfl ?_
              refine QJ.step (YldS.yld (y_assign rfl)) rfl ?_
              refine QJ.done ?_
              exact PJ.round (x46, x47, l45, vs48, v49, w64 (k43 - 1)) [1, 0, 2] hm ⟨rfl, rfl, rfl, rfl, rfl, trivial⟩ ⟨by decide, rfl⟩
          · replace hm := ifF hm hb44
            refine WJ.exit ?_
            refine PJ.then_exit (PJ.then_exit (PJ.block_exit ?_))
            exact PJ.joined (x38, x39, l40, vs41, v42) [0, 1, 2] hm ⟨rfl, rfl, rfl, trivial⟩ ⟨by decide, rfl⟩
      · rintro ⟨x31, x32, l33, vs34, v35⟩ hm
        subst hk37
        obtain ⟨kj82, hk83, hm⟩ := withK_open hm
        refine WJ.join (X := Int × Int × (List (List Str)) × (List (Raw 1))) (fun (x : Int × Int × (List (List Str)) × (List (Raw 1))) => kj82 x.1 x.2.1 x.2.2.1 = some r) (fun (x : Int × Int × (List (List Str)) × (List (Raw 1))) => [(3, v35)]) (fun (x : Int × Int × (List (List Str)) × (List (Raw 1))) => [box g2 161 [v3, .int .i64 x.1, .int .u64 x.2.1], inn (rSl fStr.rp) x.2.2.2 x.2.2.1, row v35 45 fRaw1 x.2.2.2]) ?_ ?_
        · clear hk83
          refine WJ.seq ?_
          refine WJ.quiet ?_
          refine QJ.step (YldS.yld (y_move rfl)) rfl ?_
          refine QJ.step (YldS.yld (y_bin rfl rfl rfl)) rfl ?_
          refine QJ.done ?_
          refine PJ.next ?_
          refine WJ.cond (t := decide (many22 > 0)) rfl (fun hb84 => ?_) (fun hb84 => ?_)
          · replace hm := ifT hm hb84
            refine WJ.seq ?_
            refine WJ.inm_len 1 rfl fun hl85 => ?_
            refine WJ.reg ?_
            refine SJ.q (YldS.yld (y_move rfl)) rfl ?_
            refine SJ.q (YldS.yld (y_move rfl)) rfl ?_
            refine SJ.q (YldS.yld (y_move rfl)) rfl ?_
            obtain ⟨r86, h87, hm⟩ := bindS hm
            refine SJ.call1 (k := 0) rfl Try.call92 rfl (fun w S hw hA hO => ok_s_l00Src_pick h87 w S _ (hr4.st1 hw hO) hA) rfl ?_
            rintro _ _ ⟨rfl, rfl⟩
            obtain ⟨e88, h89, hm⟩ := bindS hm
            obtain ⟨y90, hy91⟩ := inn_idx hl85 h89
            refine SJ.q (YldS.yld (y_ixRow (k := 2) (R := fRaw1) rfl Try.runUnderlying42 Try.sizeOf45 rfl rfl hy91)) rfl ?_
            refine SJ.q (YldS.yld (y_loadR (k := 2) (i := (Int.toNat r86.1)) (off := 0) rfl Try.isAgg45 rfl (idx_get hy91) (raw_get y90))) rfl ?_
            refine SJ.q (YldS.yld (y_assign rfl)) rfl ?_
            refine SJ.nil ?_
            refine PJ.next ?_
            refine WJ.seq ?_
            refine WJ.reg ?_
            refine SJ.q (YldS.yld (y_move rfl)) rfl ?_
            obtain ⟨r92, h93, hm⟩ := bindS hm
            refine SJ.call1 (k := 0) rfl Try.call92 rfl (fun w S hw hA hO => ok_s_l00Src_pick h93 w S _ (hr4.st1 hw hO) hA) rfl ?_
            rintro _ _ ⟨rfl, rfl⟩
            refine SJ.nil ?_
            refine PJ.next ?_
            refine WJ.block ?_
            refine WJ.seq ?_
            refine WJ.quiet ?_
            refine QJ.step (YldS.yld (y_bin rfl rfl rfl)) rfl ?_
            refine QJ.step (YldS.yld (y_assign rfl)) rfl ?_
            refine QJ.done ?_
            refine PJ.next ?_
            refine WJ.cond (t := (r92.1 == 0)) rfl (fun hb94 => ?_) (fun hb94 => ?_)
            · replace hm := ifT hm hb94
              refine WJ.reg ?_
              refine SJ.q (YldS.yld (y_move rfl)) rfl ?_
              refine SJ.q (YldS.yld (y_move rfl)) rfl ?_
              refine SJ.buildSlice (R := fStr) (os := [.const (str [127]), .const (str [49, 50, 51, 52, 53, 54, 55, 56, 57, 48, 49, 50, 51, 52, 53, 54, 55, 56, 57, 48, 49, 50, 51, 52, 53, 54, 55, 56, 57, 48]), .const (str [49, 50, 51, 52, 53, 54, 55, 56, 57, 48, 49, 50, 51, 52, 53, 54, 55, 56, 57, 48, 49, 50, 51, 52, 53, 54, 55, 56, 57, 48, 49])]) ([[127], [49, 50, 51, 52, 53, 54, 55, 56, 57, 48, 49, 50, 51, 52, 53, 54, 55, 56, 57, 48, 49, 50, 51, 52, 53, 54, 55, 56, 57, 48], [49, 50, 51, 52, 53, 54, 55, 56, 57, 48, 49, 50, 51, 52, 53, 54, 55, 56, 57, 48, 49, 50, 51, 52, 53, 54, 55, 56, 57, 48, 49]] : List Str) Try.runUnderlying45 Try.sizeOf9 Try.zeroValue9 rfl rfl rfl rfl rfl rfl fun v95 => ?_
              obtain ⟨r96, h97, hm⟩ := bindS hm
              refine SJ.call2 (k := 1) rfl Try.call96 rfl (fun w S hw hA hO hB => ok_s_l00Src_text h97 w S _ (hr4.st1 hw hO) _ (hB.row_rd (j := 0) (k := 1) rfl rfl) hA) rfl ?_
              rintro _ _ ⟨rfl, rfl⟩
              obtain ⟨e98, h99, hm⟩ := bindS hm
              refine SJ.q (YldS.yld (y_ixG (R := fStr) (fun w hw => (hw.inm_rd (k := 2) rfl rfl hy91 h89)) Try.runUnderlying45 Try.sizeOf9 rfl rfl h99)) rfl ?_
              refine SJ.storeG (k := 2) (i := r86.1) (q := (Int.toNat 0)) (b0 := r96.1) rfl rfl hy91 h89 rfl (idx_get h99) rfl Try.sizeOf9 rfl rfl rfl ?_
              refine SJ.nil ?_
              refine PJ.block_normal ?_
              refine PJ.inm_inn 2 rfl ?_
              exact PJ.joined (r96.2.at_, r96.2.seed, (List.set l33 (Int.toNat r86.1) (List.set e88 (Int.toNat 0) r96.1)), vs34) [0, 2, 3] hm ⟨rfl, trivial⟩ ⟨by decide, rfl⟩
            · replace hm := ifF hm hb94
              refine WJ.seq ?_
              refine WJ.quiet ?_
              refine QJ.step (YldS.yld (y_bin rfl rfl rfl)) rfl ?_
              refine QJ.step (YldS.yld (y_assign rfl)) rfl ?_
              refine QJ.done ?_
              refine PJ.next ?_
              refine WJ.cond (t := (r92.1 == 1)) rfl (fun hb100 => ?_) (fun hb100 => ?_)
              · replace hm := ifT hm hb100
                refine WJ.inm_len 1 rfl fun hl101 => ?_
                refine WJ.reg ?_
                refine SJ.q (YldS.yld (y_move rfl)) rfl ?_
                refine SJ.q (YldS.yld (y_move rfl)) rfl ?_
                obtain ⟨e102, h103, hm⟩ := bindS hm
                obtain ⟨y104, hy105⟩ := inn_idx hl101 h103
                refine SJ.q (YldS.yld (y_ixRow (k := 2) (R := fRaw1) rfl Try.runUnderlying42 Try.sizeOf45 rfl rfl hy105)) rfl ?_
                refine SJ.q (YldS.yld (y_loadR (k := 2) (i := (Int.toNat 0)) (off := 0) rfl Try.isAgg45 rfl (idx_get hy105) (raw_get y104))) rfl ?_
                obtain ⟨l106, h107, hm⟩ := bindS hm
                refine SJ.q (YldS.yld (y_slcG (i := some 1) (j := none) (fun w hw => (hw.inm_rd (k := 1) rfl rfl hy105 h103)) h107 Try.runUnderlying45 Try.sizeOf9 rfl ⟨_, rfl⟩ trivial)) rfl ?_
                obtain ⟨e108, h109, hm⟩ := bindS hm
                obtain ⟨y110, hy111⟩ := inn_idx hl101 h109
                refine SJ.q (YldS.yld (y_ixRow (k := 2) (R := fRaw1) rfl Try.runUnderlying42 Try.sizeOf45 rfl rfl hy111)) rfl ?_
                refine SJ.slcCells (i := some 1) (j := none) (fun w hw => (hw.inm_rd (k := 1) rfl rfl hy105 h103)) h107 fun hc112 => ?_
                refine SJ.storeRL (k := 2) (i := (Int.toNat 0)) (off := 0) (us := [(slcV (raw0 y104) (Option.getD (some (1 : Int)) 0).toNat (Option.getD (none) (List.length e102 : Int)).toNat fStr.size)]) (b := (mkRaw1 (slcV (raw0 y104) (Option.getD (some (1 : Int)) 0).toNat (Option.getD (none) (List.length e102 : Int)).toNat fStr.size) hc112.2)) rfl rfl (idx_get hy111) rfl hc112.1 Try.sizeOf45 rfl (all1 hc112.2) (raw_put _ _) ?_
                refine SJ.inmPart 1 (i0 := 0) (i := some 1) (j := none) rfl hy105 h103 h107 hc112.2 ?_
                refine SJ.nil ?_
                refine PJ.block_normal ?_
                exact PJ.joined (r92.2.at_, r92.2.seed, (List.set l33 (Int.toNat 0) l106), (List.set vs34 (Int.toNat 0) (mkRaw1 (slcV (raw0 y104) (Option.getD (some (1 : Int)) 0).toNat (Option.getD (none) (List.length e102 : Int)).toNat fStr.size) hc112.2))) [0, 1, 2] hm ⟨rfl, trivial⟩ ⟨by decide, rfl⟩
              · replace hm := ifF hm hb100
                refine WJ.skip ?_
                refine PJ.block_normal ?_
                refine PJ.inm_inn 1 rfl ?_
                exact PJ.joined (r92.2.at_, r92.2.seed, l33, vs34) [0, 1, 2] hm ⟨rfl, trivial⟩ ⟨by decide, rfl⟩
          · replace hm := ifF hm hb84
            refine WJ.skip ?_
            refine PJ.inm_inn 1 rfl ?_
            exact PJ.joined (x31, x32, l33, vs34) [0, 1, 2] hm ⟨rfl, trivial⟩ ⟨by decide, rfl⟩
        · rintro ⟨x78, x79, l80, vs81⟩ hm
          subst hk83
          refine WJ.seq ?_
          refine WJ.quiet ?_
          refine QJ.step (YldS.yld (y_move rfl)) rfl ?_
          refine QJ.step (YldS.yld (y_assign rfl)) rfl ?_
          refine QJ.done ?_
          refine PJ.next ?_
          refine WJ.ret ?_
          obtain rfl := Option.some.inj hm
          refine PJ.sel (L' := [box g2 161 [v3, .int .i64 x78, .int .u64 x79], row v35 45 fRaw1 vs81, inn (rSl fStr.rp) vs81 l80]) [0, 2, 1] ⟨by decide, rfl⟩ ?_
          exact PJ.retn (vs := [v35]) Try.results95 ⟨rfl, trivial⟩ ⟨_, _, rfl, rfl⟩

set_option maxRecDepth 100000 in
set_option maxHeartbeats 1000000 in
theorem ok_s_DrawTableLines {N : Nat} {code1 : List UInt8} {r : (List (List Str)) × Str × Int} (hm : s_DrawTableLines N code1 = some r) (w : World) (v2 : Value) (hr3 : RdS w (cx w).Fz v2 fByte.rp code1) :
    Calls Try.prog 24 #[v2] w (RetG (cx w) fun u L => ∃ (u1 : Value) (u2 : List (Raw 1)), (u = tup [u1, str r.2.1, .int .i64 r.2.2] ∧ L = [row u1 45 fRaw1 u2, inn (rSl fStr.rp) u2 r.1])) := by
  unfold s_DrawTableLines at hm
  refine Calls.enter [v2] Try.func24 rfl Try.ntmps24 rfl ?_
  refine WJ.seq ?_
  refine WJ.quiet ?_
  refine QJ.step (YldS.yld (y_assign rfl)) rfl ?_
  refine QJ.step (YldS.yld (y_assign rfl)) rfl ?_
  refine QJ.step (YldS.yld (y_assign rfl)) rfl ?_
  refine QJ.done ?_
  refine PJ.next ?_
  refine WJ.seq ?_
  refine WJ.reg ?_
  refine SJ.q (YldS.yld (y_move rfl)) rfl ?_
  obtain ⟨r4, h5, hm⟩ := bindS hm
  refine SJ.call Try.call89 rfl (fun w hw => ok_s_l00From h5 w _ (hr3.st hw)) rfl ?_
  rintro _ _ ⟨g6, rfl, rfl⟩
  refine SJ.q (YldS.yld (y_assign rfl)) rfl ?_
  refine SJ.nil ?_
  refine PJ.next ?_
  refine WJ.seq ?_
  refine WJ.reg ?_
  refine SJ.q (YldS.yld (y_move rfl)) rfl ?_
  obtain ⟨r7, h8, hm⟩ := bindS hm
  refine SJ.call1 (k := 0) rfl Try.call95 rfl (fun w S hw hA hO => ok_s_l08Table h8 w S _ (hr3.st1 hw hO) hA) rfl ?_
  rintro v9 _ ⟨_, vs10, rfl, rfl⟩
  refine SJ.q (YldS.yld (y_assign rfl)) rfl ?_
  refine SJ.nil ?_
  refine PJ.next ?_
  refine WJ.seq ?_
  refine WJ.quiet ?_
  refine QJ.step (YldS.yld (y_assign rfl)) rfl ?_
  refine QJ.done ?_
  refine PJ.next ?_
  obtain ⟨kj14, hk15, hm⟩ := withK_open hm
  refine WJ.join (X := Int × Int × Str) (fun (x : Int × Int × Str) => kj14 x.1 x.2.1 x.2.2 = some r) (fun (x : Int × Int × Str) => [(5, pt g6 0), (6, v9), (7, str x.2.2)]) (fun (x : Int × Int × Str) => [box g6 161 [v2, .int .i64 x.1, .int .u64 x.2.1], row v9 45 fRaw1 vs10, inn (rSl fStr.rp) vs10 r7.1]) ?_ ?_
  · clear hk15
    refine WJ.seq ?_
    refine WJ.quiet ?_
    refine QJ.step (YldS.yld (y_move rfl)) rfl ?_
    refine QJ.step (YldS.yld (y_lenG (fun w hw => (hw.nst_rd (k := 1) (j := 2) rfl rfl)) Try.runUnderlying42 rfl)) rfl ?_
    refine QJ.step (YldS.yld (y_bin rfl rfl rfl)) rfl ?_
    refine QJ.done ?_
    refine PJ.next ?_
    refine WJ.cond (t := decide ((List.length r7.1 : Int) > 0)) rfl (fun hb16 => ?_) (fun hb16 => ?_)
    · replace hm := ifT hm hb16
      refine WJ.seq ?_
      refine WJ.quiet ?_
      refine QJ.step (YldS.yld (y_assign rfl)) rfl ?_
      refine QJ.done ?_
      refine PJ.next ?_
      refine WJ.block ?_
      refine WJ.sel (L' := (fun (x : Int × Int × Str × Int) => [box g6 161 [v2, .int .i64 x.1, .int .u64 x.2.1], row v9 45 fRaw1 vs10, inn (rSl fStr.rp) vs10 r7.1]) (r7.2.at_, r7.2.seed, [], 0)) [0, 1, 2] ⟨by decide, rfl⟩ ?_
      refine WJ.sub (m' := (fun (x : Int × Int × Str × Int) => [(5, pt g6 0), (6, v9), (7, str x.2.2.1), (8, .int .i64 x.2.2.2)]) (r7.2.at_, r7.2.seed, [], 0)) ⟨rfl, rfl, rfl, rfl, trivial⟩ ?_
      refine WJ.loop (X := Int × Int × Str × Int) (fun N (x : Int × Int × Str × Int) => s_DrawTableLines_l1 kj14 code1 r7 N x.1 x.2.1 x.2.2.1 x.2.2.2 = some r) (fun (x : Int × Int × Str × Int) => [(5, pt g6 0), (6, v9), (7, str x.2.2.1), (8, .int .i64 x.2.2.2)]) (fun (x : Int × Int × Str × Int) => [box g6 161 [v2, .int .i64 x.1, .int .u64 x.2.1], row v9 45 fRaw1 vs10, inn (rSl fStr.rp) vs10 r7.1]) ?_ N (r7.2.at_, r7.2.seed, [], 0) hm
      · rintro N ⟨x17, x18, sides19, k20⟩ hI
        have hm := hI; clear hI
        cases N with
        | zero => cases hm
        | succ N =>
        unfold s_DrawTableLines_l1 at hm
        refine WJ.seq ?_
        refine WJ.seq ?_
        refine WJ.inn_len 2 rfl fun hl21 => ?_
        refine WJ.quiet ?_
        refine QJ.step (YldS.yld (y_move rfl)) rfl ?_
        refine QJ.step (YldS.yld (y_move rfl)) rfl ?_
        obtain ⟨e22, h23, hm⟩ := bindS hm
        obtain ⟨y24, hy25⟩ := inn_idx hl21 h23
        refine QJ.step (YldS.yld (y_ixRow (k := 1) (R := fRaw1) rfl Try.runUnderlying42 Try.sizeOf45 rfl rfl hy25)) rfl ?_
        refine QJ.step (YldS.yld (y_loadR (k := 1) (i := (Int.toNat 0)) (off := 0) rfl Try.isAgg45 rfl (idx_get hy25) (raw_get y24))) rfl ?_
        refine QJ.step (YldS.yld (y_lenG (fun w hw => (hw.inn_rd (k := 2) rfl rfl hy25 h23)) Try.runUnderlying45 rfl)) rfl ?_
        refine QJ.step (YldS.yld (y_bin rfl rfl rfl)) rfl ?_
        refine QJ.done ?_
        refine PJ.next ?_
        refine WJ.cond (t := decide (k20 < (List.length e22 : Int))) rfl (fun hb26 => ?_) (fun hb26 => ?_)
        · replace hm := ifT hm hb26
          refine WJ.skip ?_
          refine PJ.next ?_
          refine WJ.seq ?_
          refine WJ.block ?_
          refine WJ.reg ?_
          refine SJ.q (YldS.yld (y_move rfl)) rfl ?_
          refine SJ.q (YldS.yld (y_move rfl)) rfl ?_
          refine SJ.buildSlice (R := fStr) (os := [.const (str [108]), .const (str [114])]) ([[108], [114]] : List Str) Try.runUnderlying45 Try.sizeOf9 Try.zeroValue9 rfl rfl rfl rfl rfl rfl fun v27 => ?_
          obtain ⟨r28, h29, hm⟩ := bindS hm
          refine SJ.call2 (k := 1) rfl Try.call96 rfl (fun w S hw hA hO hB => ok_s_l00Src_text h29 w S _ (hr3.st1 hw hO) _ (hB.row_rd (j := 0) (k := 1) rfl rfl) hA) rfl ?_
          rintro _ _ ⟨rfl, rfl⟩
          obtain ⟨s30, h31, hm⟩ := bindS hm
          refine SJ.q (YldS.yld (y_cat h31 rfl rfl)) rfl ?_
          refine SJ.q (YldS.yld (y_assign rfl)) rfl ?_
          refine SJ.nil ?_
          refine PJ.block_normal (PJ.next ?_)
          refine WJ.quiet ?_
          refine QJ.step (YldS.yld (y_move rfl)) rfl ?_
          refine QJ.step (YldS.yld (y_bin rfl rfl rfl)) rfl ?_
          refine QJ.step (YldS.yld (y_assign rfl)) rfl ?_
          refine QJ.done ?_
          exact PJ.round (r28.2.at_, r28.2.seed, s30, w64 (k20 + 1)) [0, 2, 3] hm ⟨rfl, rfl, rfl, rfl, trivial⟩ ⟨by decide, rfl⟩
        · replace hm := ifF hm hb26
          refine WJ.exit ?_
          refine PJ.then_exit (PJ.then_exit (PJ.block_exit ?_))
          exact PJ.joined (x17, x18, sides19) [0, 1, 2] hm ⟨rfl, rfl, rfl, trivial⟩ ⟨by decide, rfl⟩
    · replace hm := ifF hm hb16
      refine WJ.skip ?_
      exact PJ.joined (r7.2.at_, r7.2.seed, []) [0, 1, 2] hm ⟨rfl, rfl, rfl, trivial⟩ ⟨by decide, rfl⟩
  · rintro ⟨x11, x12, sides13⟩ hm
    subst hk15
    obtain ⟨kj35, hk36, hm⟩ := withK_open hm
    refine WJ.join (X := Int × Int × Str) (fun (x : Int × Int × Str) => kj35 x.1 x.2.1 x.2.2 = some r) (fun (x : Int × Int × Str) => [(5, pt g6 0), (6, v9), (7, str x.2.2)]) (fun (x : Int × Int × Str) => [box g6 161 [v2, .int .i64 x.1, .int .u64 x.2.1], row v9 45 fRaw1 vs10, inn (rSl fStr.rp) vs10 r7.1]) ?_ ?_
    · clear hk36
      refine WJ.seq ?_
      refine WJ.reg ?_
      refine SJ.q (YldS.yld (y_move rfl)) rfl ?_
      obtain ⟨r37, h38, hm⟩ := bindS hm
      refine SJ.call1 (k := 0) rfl Try.call92 rfl (fun w S hw hA hO => ok_s_l00Src_pick h38 w S _ (hr3.st1 hw hO) hA) rfl ?_
      rintro _ _ ⟨rfl, rfl⟩
      refine SJ.nil ?_
      refine PJ.next ?_
      refine WJ.block ?_
      refine WJ.seq ?_
      refine WJ.quiet ?_
      refine QJ.step (YldS.yld (y_bin rfl rfl rfl)) rfl ?_
      refine QJ.step (YldS.yld (y_assign rfl)) rfl ?_
      refine QJ.done ?_
      refine PJ.next ?_
      refine WJ.cond (t := (r37.1 == 0)) rfl (fun hb39 => ?_) (fun hb39 => ?_)
      · replace hm := ifT hm hb39
        refine WJ.reg ?_
        refine SJ.q (YldS.yld (y_move rfl)) rfl ?_
        refine SJ.q (YldS.yld (y_move rfl)) rfl ?_
        refine SJ.buildSlice (R := fStr) (os := [.const (str [108]), .const (str [120])]) ([[108], [120]] : List Str) Try.runUnderlying45 Try.sizeOf9 Try.zeroValue9 rfl rfl rfl rfl rfl rfl fun v40 => ?_
        obtain ⟨r41, h42, hm⟩ := bindS hm
        refine SJ.call2 (k := 1) rfl Try.call96 rfl (fun w S hw hA hO hB => ok_s_l00Src_text h42 w S _ (hr3.st1 hw hO) _ (hB.row_rd (j := 0) (k := 1) rfl rfl) hA) rfl ?_
        rintro _ _ ⟨rfl, rfl⟩
        obtain ⟨s43, h44, hm⟩ := bindS hm
        refine SJ.q (YldS.yld (y_cat h44 rfl rfl)) rfl ?_
        refine SJ.q (YldS.yld (y_assign rfl)) rfl ?_
        refine SJ.nil ?_
        refine PJ.block_normal ?_
        exact PJ.joined (r41.2.at_, r41.2.seed, s43) [0, 2, 3] hm ⟨rfl, rfl, rfl, trivial⟩ ⟨by decide, rfl⟩
      · replace hm := ifF hm hb39
        refine WJ.seq ?_
        refine WJ.quiet ?_
        refine QJ.step (YldS.yld (y_bin rfl rfl rfl)) rfl ?_
        refine QJ.step (YldS.yld (y_assign rfl)) rfl ?_
        refine QJ.done ?_
        refine PJ.next ?_
        refine WJ.cond (t := (r37.1 == 1)) rfl (fun hb45 => ?_) (fun hb45 => ?_)
        · replace hm := ifT hm hb45
          refine WJ.seq ?_
          refine WJ.reg ?_
          refine SJ.q (YldS.yld (y_move rfl)) rfl ?_
          refine SJ.q (YldS.yld (y_move rfl)) rfl ?_
          refine SJ.q (YldS.yld (y_move rfl)) rfl ?_
          refine SJ.buildSlice (R := fI64) (os := [.const (.int .i64 (-1)), .const (.int .i64 0), .const (.int .i64 20), .const (.int .i64 21)]) [(-1), 0, 20, 21] Try.runUnderlying27 Try.sizeOf2 Try.zeroValue2 rfl rfl rfl rfl rfl rfl fun v46 => ?_
          obtain ⟨r47, h48, hm⟩ := bindS hm
          refine SJ.call2 (k := 1) rfl Try.call97 rfl (fun w S hw hA hO hB => ok_s_l00Src_among h48 w S _ (hr3.st1 hw hO) _ (hB.row_rd (j := 0) (k := 1) rfl rfl) hA) rfl ?_
          rintro _ _ ⟨rfl, rfl⟩
          refine SJ.q (YldS.yld (y_assign rfl)) rfl ?_
          refine SJ.q (YldS.yld (y_assign rfl)) rfl ?_
          refine SJ.q (YldS.yld (y_assign rfl)) rfl ?_
          refine SJ.nil ?_
          refine PJ.next ?_
          refine WJ.ret ?_
          refine PJ.block_ret (PJ.then_ret ?_)
          obtain rfl := Option.some.inj hm
          refine PJ.sel (L' := [row v9 45 fRaw1 vs10, inn (rSl fStr.rp) vs10 r7.1]) [2, 3] ⟨by decide, rfl⟩ ?_
          exact PJ.retn (vs := [v9, str sides13, .int .i64 r47.1]) Try.results24 ⟨rfl, rfl, rfl, trivial⟩ ⟨_, _, rfl, rfl⟩
        · replace hm := ifF hm hb45
          refine WJ.skip ?_
          refine PJ.block_normal ?_
          exact PJ.joined (r37.2.at_, r37.2.seed, sides13) [0, 1, 2] hm ⟨rfl, rfl, rfl, trivial⟩ ⟨by decide, rfl⟩
    · rintro ⟨x32, x33, sides34⟩ hm
      subst hk36
      refine WJ.seq ?_
      refine WJ.reg ?_
      refine SJ.q (YldS.yld (y_move rfl)) rfl ?_
      refine SJ.q (YldS.yld (y_move rfl)) rfl ?_
      refine SJ.q (YldS.yld (y_move rfl)) rfl ?_
      obtain ⟨r49, h50, hm⟩ := bindS hm
      refine SJ.call1 (k := 0) rfl Try.call92 rfl (fun w S hw hA hO => ok_s_l00Src_pick h50 w S _ (hr3.st1 hw hO) hA) rfl ?_
      rintro _ _ ⟨rfl, rfl⟩
      refine SJ.q (YldS.yld (y_assign rfl)) rfl ?_
      refine SJ.q (YldS.yld (y_assign rfl)) rfl ?_
      refine SJ.q (YldS.yld (y_assign rfl)) rfl ?_
      refine SJ.nil ?_
      refine PJ.next ?_
      refine WJ.ret ?_
      obtain rfl := Option.some.inj hm
      refine PJ.sel (L' := [row v9 45 fRaw1 vs10, inn (rSl fStr.rp) vs10 r7.1]) [1, 2] ⟨by decide, rfl⟩ ?_
      exact PJ.retn (vs := [v9, str sides34, .int .i64 r49.1]) Try.results24 ⟨rfl, rfl, rfl, trivial⟩ ⟨_, _, rfl, rfl⟩

set_option maxRecDepth 100000 in
set_option maxHeartbeats 1000000 in
theorem ok_i_between {n1 : Int} {low2 : Int} {high3 : Int} {r : Bool} (hm : i_between n1 low2 high3 = some r) (w : World)  :
    Calls Try.prog 99 #[.int .i64 n1, .int .i64 low2, .int .i64 high3] w (Ret (cx w) (.bool r)) := by
  unfold i_between at hm
  refine Calls.enter [.int .i64 n1, .int .i64 low2, .int .i64 high3] Try.func99 rfl Try.ntmps99 rfl ?_
  refine WJ.seq ?_
  refine WJ.quiet ?_
  refine QJ.step (YldS.yld (y_assign rfl)) rfl ?_
  refine QJ.done ?_
  refine PJ.next ?_
  refine WJ.seq ?_
  refine WJ.quiet ?_
  refine QJ.step (YldS.yld (y_move rfl)) rfl ?_
  refine QJ.step (YldS.yld (y_move rfl)) rfl ?_
  refine QJ.step (YldS.yld (y_bin rfl rfl rfl)) rfl ?_
  refine QJ.step (YldS.yld (y_move rfl)) rfl ?_
  obtain ⟨t4, h5, hm⟩ := bindS hm
  refine QJ.cut 4 [(14, .bool t4)] ?_ ?_
  · rcases Bool.eq_false_or_eq_true (decide (n1 ≥ low2)) with hb6 | hb6
    · replace h5 := andT h5 hb6
      refine QJ.on rfl rfl (cB hb6) (YldS.yld (y_move rfl)) rfl ?_
      refine QJ.on rfl rfl (cB hb6) (YldS.yld (y_move rfl)) rfl ?_
      refine QJ.on rfl rfl (cB hb6) (YldS.yld (y_bin rfl rfl rfl)) rfl ?_
      refine QJ.step (YldS.yld (y_pick_t (cB hb6) rfl)) rfl ?_
      obtain rfl := Option.some.inj h5
      exact QJ.cut_end ⟨rfl, trivial⟩
    · obtain rfl := andF h5 hb6
      refine QJ.off rfl rfl (cB hb6) rfl rfl ?_
      refine QJ.off rfl rfl (cB hb6) rfl rfl ?_
      refine QJ.off rfl rfl (cB hb6) rfl rfl ?_
      refine QJ.step (YldS.yld (y_pick_f (cB hb6) rfl)) rfl ?_
      exact QJ.cut_end ⟨rfl, trivial⟩
  refine QJ.step (YldS.yld (y_assign rfl)) rfl ?_
  refine QJ.done ?_
  refine PJ.next ?_
  refine WJ.ret ?_
  obtain rfl := Option.some.inj hm
  refine PJ.sel (L' := []) [] ⟨List.nodup_nil, rfl⟩ ?_
  exact PJ.retn (vs := [.bool t4]) Try.results99 ⟨rfl, trivial⟩ ⟨rfl, rfl⟩

set_option maxRecDepth 100000 in
set_option maxHeartbeats 1000000 in
theorem ok_i_isText {N : Nat} {s1 : Str} {low2 : UInt8} {most3 : Int} {r : Bool} (hm : i_isText N s1 low2 most3 = some r) (w : World)  :
    Calls Try.prog 157 #[str s1, .int .u8 (UInt8.toNat low2 : Int), .int .i64 most3] w (Ret (cx w) (.bool r)) := by
  unfold i_isText at hm
  refine Calls.enter [str s1, .int .u8 (UInt8.toNat low2 : Int), .int .i64 most3] Try.func157 rfl Try.ntmps157 rfl ?_
  refine WJ.seq ?_
  refine WJ.quiet ?_
  refine QJ.step (YldS.yld (y_assign rfl)) rfl ?_
  refine QJ.done ?_
  refine PJ.next ?_
  refine WJ.seq ?_
  refine WJ.seq ?_
  refine WJ.quiet ?_
  refine QJ.step (YldS.yld (y_move rfl)) rfl ?_
  refine QJ.step (YldS.yld (y_lenStr Try.runUnderlying9 rfl)) rfl ?_
  refine QJ.step (YldS.yld (y_move rfl)) rfl ?_
  refine QJ.step (YldS.yld (y_bin rfl rfl rfl)) rfl ?_
  refine QJ.done ?_
  refine PJ.next ?_
  refine WJ.cond (t := decide ((List.length s1 : Int) > most3)) rfl (fun hb4 => ?_) (fun hb4 => ?_)
  · replace hm := ifT hm hb4
    refine WJ.seq ?_
    refine WJ.quiet ?_
    refine QJ.step (YldS.yld (y_assign rfl)) rfl ?_
    refine QJ.done ?_
    refine PJ.next ?_
    refine WJ.ret ?_
    refine PJ.then_ret ?_
    obtain rfl := Option.some.inj hm
    refine PJ.sel (L' := []) [] ⟨List.nodup_nil, rfl⟩ ?_
    exact PJ.retn (vs := [.bool false]) Try.results157 ⟨rfl, trivial⟩ ⟨rfl, rfl⟩
  · replace hm := ifF hm hb4
    refine WJ.skip ?_
    refine PJ.next ?_
    obtain ⟨kj5, hk6, hm⟩ := withK_open hm
    refine WJ.join (X := Unit) (fun (_ : Unit) => kj5  = some r) (fun (_ : Unit) => []) (fun (_ : Unit) => []) ?_ ?_
    · clear hk6
      refine WJ.seq ?_
      refine WJ.quiet ?_
      refine QJ.step (YldS.yld (y_move rfl)) rfl ?_
      refine QJ.step (YldS.yld (y_lenStr Try.runUnderlying9 rfl)) rfl ?_
      refine QJ.step (YldS.yld (y_move rfl)) rfl ?_
      refine QJ.done ?_
      refine PJ.next ?_
      refine WJ.block ?_
      refine WJ.sel (L' := (fun (x : Int) => []) 0) [] ⟨List.nodup_nil, rfl⟩ ?_
      refine WJ.sub (m' := (fun (x : Int) => [(0, str s1), (1, .int .u8 (UInt8.toNat low2 : Int)), (13, .int .i64 (List.length s1 : Int)), (14, .int .i64 x)]) 0) ⟨rfl, rfl, rfl, rfl, trivial⟩ ?_
      refine WJ.loop (X := Int) (fun N (x : Int) => i_isText_l1 kj5 s1 low2 N x = some r) (fun (x : Int) => [(0, str s1), (1, .int .u8 (UInt8.toNat low2 : Int)), (13, .int .i64 (List.length s1 : Int)), (14, .int .i64 x)]) (fun (x : Int) => []) ?_ N 0 hm
      · rintro N x7 hI
        have hm := hI; clear hI
        cases N with
        | zero => cases hm
        | succ N =>
        unfold i_isText_l1 at hm
        refine WJ.seq ?_
        refine WJ.quiet ?_
        refine QJ.step (YldS.yld (y_bin rfl rfl rfl)) rfl ?_
        refine QJ.done ?_
        refine PJ.next ?_
        refine WJ.seq ?_
        refine WJ.cond (t := decide (x7 < (List.length s1 : Int))) rfl (fun hb8 => ?_) (fun hb8 => ?_)
        · replace hm := ifT hm hb8
          refine WJ.skip ?_
          refine PJ.next ?_
          refine WJ.seq ?_
          refine WJ.block ?_
          refine WJ.seq ?_
          refine WJ.quiet ?_
          refine QJ.step (YldS.yld (y_move rfl)) rfl ?_
          refine QJ.step (YldS.yld (y_assign rfl)) rfl ?_
          refine QJ.done ?_
          refine PJ.next ?_
          refine WJ.seq ?_
          refine WJ.quiet ?_
          refine QJ.step (YldS.yld (y_move rfl)) rfl ?_
          refine QJ.step (YldS.yld (y_move rfl)) rfl ?_
          obtain ⟨c9, h10, hm⟩ := bindS hm
          refine QJ.step (YldS.yld (y_idxStr Try.runUnderlying9 rfl rfl h10)) rfl ?_
          refine QJ.step (YldS.yld (y_move rfl)) rfl ?_
          refine QJ.step (YldS.yld (y_bin8 c9 low2 rfl rfl rfl)) rfl ?_
          refine QJ.step (YldS.yld (y_move rfl)) rfl ?_
          obtain ⟨t11, h12, hm⟩ := bindS hm
          refine QJ.cut 5 [(0, str s1), (1, .int .u8 (UInt8.toNat low2 : Int)), (13, .int .i64 (List.length s1 : Int)), (14, .int .i64 x7), (27, .bool t11)] ?_ ?_
          · rcases Bool.eq_false_or_eq_true (decide (c9 < low2)) with hb13 | hb13
            · obtain rfl := orT h12 hb13
              refine QJ.off rfl rfl (cB hb13) rfl rfl ?_
              refine QJ.off rfl rfl (cB hb13) rfl rfl ?_
              refine QJ.off rfl rfl (cB hb13) rfl rfl ?_
              refine QJ.off rfl rfl (cB hb13) rfl rfl ?_
              refine QJ.step (YldS.yld (y_pick_t (cB hb13) rfl)) rfl ?_
              exact QJ.cut_end ⟨rfl, rfl, rfl, rfl, rfl, trivial⟩
            · replace h12 := orF h12 hb13
              refine QJ.on rfl rfl (cB hb13) (YldS.yld (y_move rfl)) rfl ?_
              refine QJ.on rfl rfl (cB hb13) (YldS.yld (y_move rfl)) rfl ?_
              obtain ⟨c14, h15, h12⟩ := bindS h12
              refine QJ.on rfl rfl (cB hb13) (YldS.yld (y_idxStr Try.runUnderlying9 rfl rfl h15)) rfl ?_
              refine QJ.on rfl rfl (cB hb13) (YldS.yld (y_bin8 c14 (126 : UInt8) rfl rfl rfl)) rfl ?_
              refine QJ.step (YldS.yld (y_pick_f (cB hb13) rfl)) rfl ?_
              obtain rfl := Option.some.inj h12
              exact QJ.cut_end ⟨rfl, rfl, rfl, rfl, rfl, trivial⟩
          refine QJ.done ?_
          refine PJ.next ?_
          refine WJ.cond (t := t11) rfl (fun hb16 => ?_) (fun hb16 => ?_)
          · replace hm := ifT hm hb16
            refine WJ.seq ?_
            refine WJ.quiet ?_
            refine QJ.step (YldS.yld (y_assign rfl)) rfl ?_
            refine QJ.done ?_
            refine PJ.next ?_
            refine WJ.ret ?_
            refine PJ.block_ret (PJ.then_ret (PJ.then_ret (PJ.block_ret (PJ.then_ret ?_))))
            obtain rfl := Option.some.inj hm
            refine PJ.sel (L' := []) [] ⟨List.nodup_nil, rfl⟩ ?_
            exact PJ.retn (vs := [.bool false]) Try.results157 ⟨rfl, trivial⟩ ⟨rfl, rfl⟩
          · replace hm := ifF hm hb16
            refine WJ.skip ?_
            refine PJ.block_normal (PJ.next ?_)
            refine WJ.quiet ?_
            refine QJ.step (YldS.yld (y_bin rfl rfl rfl)) rfl ?_
            refine QJ.step (YldS.yld (y_move rfl)) rfl ?_
            refine QJ.done ?_
            exact PJ.round (w64 (x7 + 1)) [] hm ⟨rfl, rfl, rfl, rfl, trivial⟩ ⟨List.nodup_nil, rfl⟩
        · replace hm := ifF hm hb8
          refine WJ.exit ?_
          refine PJ.then_exit (PJ.then_exit (PJ.block_exit ?_))
          exact PJ.joined () [] hm trivial ⟨List.nodup_nil, rfl⟩
    · rintro _ hm
      subst hk6
      refine WJ.seq ?_
      refine WJ.quiet ?_
      refine QJ.step (YldS.yld (y_assign rfl)) rfl ?_
      refine QJ.done ?_
      refine PJ.next ?_
      refine WJ.ret ?_
      obtain rfl := Option.some.inj hm
      refine PJ.sel (L' := []) [] ⟨List.nodup_nil, rfl⟩ ?_
      exact PJ.retn (vs := [.bool true]) Try.results157 ⟨rfl, trivial⟩ ⟨rfl, rfl⟩

set_option maxRecDepth 100000 in
set_option maxHeartbeats 1000000 in
theorem ok_i_isTable {N : Nat} {rows1 : List (List Str)} {r : Bool} (hm : i_isTable N rows1 = some r) (w : World) (v2 : Value) (hr3 : RdS w (cx w).Fz v2 (rSl fStr.rp) rows1) :
    Calls Try.prog 98 #[v2] w (Ret (cx w) (.bool r)) := by
  unfold i_isTable at hm
  refine Calls.enter [v2] Try.func98 rfl Try.ntmps98 rfl ?_
  refine WJ.seq ?_
  refine WJ.quiet ?_
  refine QJ.step (YldS.yld (y_assign rfl)) rfl ?_
  refine QJ.done ?_
  refine PJ.next ?_
  refine WJ.seq ?_
  refine WJ.seq ?_
  refine WJ.quiet ?_
  refine QJ.step (YldS.yld (y_move rfl)) rfl ?_
  refine QJ.step (YldS.yld (y_lenS Try.runUnderlying42 hr3 rfl)) rfl ?_
  obtain ⟨r4, h5, hm⟩ := bindS hm
  refine QJ.step (y_call Try.call99 rfl (RetG.quiet fun w hw => ok_i_between h5 w )) rfl ?_
  refine QJ.step (YldS.yld (y_not rfl)) rfl ?_
  refine QJ.done ?_
  refine PJ.next ?_
  refine WJ.cond (t := !r4) rfl (fun hb6 => ?_) (fun hb6 => ?_)
  · replace hm := ifT hm hb6
    refine WJ.seq ?_
    refine WJ.quiet ?_
    refine QJ.step (YldS.yld (y_assign rfl)) rfl ?_
    refine QJ.done ?_
    refine PJ.next ?_
    refine WJ.ret ?_
    refine PJ.then_ret ?_
    obtain rfl := Option.some.inj hm
    refine PJ.sel (L' := []) [] ⟨List.nodup_nil, rfl⟩ ?_
    exact PJ.retn (vs := [.bool false]) Try.results98 ⟨rfl, trivial⟩ ⟨rfl, rfl⟩
  · replace hm := ifF hm hb6
    refine WJ.skip ?_
    refine PJ.next ?_
    obtain ⟨kj7, hk8, hm⟩ := withK_open hm
    refine WJ.join (X := Unit) (fun (_ : Unit) => kj7  = some r) (fun (_ : Unit) => []) (fun (_ : Unit) => []) ?_ ?_
    · clear hk8
      refine WJ.seq ?_
      refine WJ.quiet ?_
      refine QJ.step (YldS.yld (y_move rfl)) rfl ?_
      refine QJ.step (YldS.yld (y_lenS Try.runUnderlying42 hr3 rfl)) rfl ?_
      refine QJ.step (YldS.yld (y_move rfl)) rfl ?_
      refine QJ.done ?_
      refine PJ.next ?_
      refine WJ.block ?_
      refine WJ.sel (L' := (fun (x : Int) => []) 0) [] ⟨List.nodup_nil, rfl⟩ ?_
      refine WJ.sub (m' := (fun (x : Int) => [(0, v2), (11, v2), (12, .int .i64 (List.length rows1 : Int)), (13, .int .i64 x)]) 0) ⟨rfl, rfl, rfl, rfl, trivial⟩ ?_
      refine WJ.loop (X := Int) (fun N (x : Int) => i_isTable_l1 kj7 rows1 N x = some r) (fun (x : Int) => [(0, v2), (11, v2), (12, .int .i64 (List.length rows1 : Int)), (13, .int .i64 x)]) (fun (x : Int) => []) ?_ N 0 hm
      · rintro N x9 hI
        have hm := hI; clear hI
        cases N with
        | zero => cases hm
        | succ N =>
        unfold i_isTable_l1 at hm
        refine WJ.seq ?_
        refine WJ.quiet ?_
        refine QJ.step (YldS.yld (y_bin rfl rfl rfl)) rfl ?_
        refine QJ.done ?_
        refine PJ.next ?_
        refine WJ.seq ?_
        refine WJ.cond (t := decide (x9 < (List.length rows1 : Int))) rfl (fun hb10 => ?_) (fun hb10 => ?_)
        · replace hm := ifT hm hb10
          refine WJ.skip ?_
          refine PJ.next ?_
          obtain ⟨kj11, hk12, hm⟩ := withK_open hm
          refine WJ.join (X := Unit) (fun (_ : Unit) => kj11  = some r) (fun (_ : Unit) => [(0, v2), (11, v2), (12, .int .i64 (List.length rows1 : Int)), (13, .int .i64 x9)]) (fun (_ : Unit) => []) ?_ ?_
          · clear hk12
            refine WJ.block ?_
            refine WJ.seq ?_
            refine WJ.quiet ?_
            obtain ⟨e13, h14, hm⟩ := bindS hm
            obtain ⟨ad15, _, ⟨v18, rfl, hr19⟩, ha16, hy17⟩ := hr3.elem h14
            refine QJ.step (YldS.yld (hy17 Try.runUnderlying42 Try.sizeOf45 rfl rfl)) rfl ?_
            refine QJ.step (YldS.yld (y_load1 (v := v18) Try.isAgg45 ha16 St.frozenC rfl)) rfl ?_
            refine QJ.step (YldS.yld (y_assign rfl)) rfl ?_
            refine QJ.done ?_
            refine PJ.next ?_
            refine WJ.seq ?_
            refine WJ.seq ?_
            refine WJ.quiet ?_
            refine QJ.step (YldS.yld (y_move rfl)) rfl ?_
            refine QJ.step (YldS.yld (y_lenS Try.runUnderlying45 hr19 rfl)) rfl ?_
            refine QJ.step (YldS.yld (y_move rfl)) rfl ?_
            obtain ⟨e20, h21, hm⟩ := bindS hm
            obtain ⟨ad22, _, ⟨v25, rfl, hr26⟩, ha23, hy24⟩ := hr3.elem h21
            refine QJ.step (YldS.yld (hy24 Try.runUnderlying42 Try.sizeOf45 rfl rfl)) rfl ?_
            refine QJ.step (YldS.yld (y_load1 (v := v25) Try.isAgg45 ha23 St.frozenC rfl)) rfl ?_
            refine QJ.step (YldS.yld (y_lenS Try.runUnderlying45 hr26 rfl)) rfl ?_
            refine QJ.step (YldS.yld (y_bin rfl rfl rfl)) rfl ?_
            refine QJ.step (YldS.yld (y_move rfl)) rfl ?_
            obtain ⟨t27, h28, hm⟩ := bindS hm
            refine QJ.cut 5 [(0, v2), (4, v18), (11, v2), (12, .int .i64 (List.length rows1 : Int)), (13, .int .i64 x9), (29, .bool t27)] ?_ ?_
            · rcases Bool.eq_false_or_eq_true ((List.length e13 : Int) != (List.length e20 : Int)) with hb29 | hb29
              · obtain rfl := orT h28 hb29
                refine QJ.off rfl rfl (cB hb29) rfl rfl ?_
                refine QJ.off rfl rfl (cB hb29) rfl rfl ?_
                refine QJ.off rfl rfl (cB hb29) rfl rfl ?_
                refine QJ.off rfl rfl (cB hb29) rfl rfl ?_
                refine QJ.step (YldS.yld (y_pick_t (cB hb29) rfl)) rfl ?_
                exact QJ.cut_end ⟨rfl, rfl, rfl, rfl, rfl, rfl, trivial⟩
              · replace h28 := orF h28 hb29
                refine QJ.on rfl rfl (cB hb29) (YldS.yld (y_move rfl)) rfl ?_
                refine QJ.on rfl rfl (cB hb29) (YldS.yld (y_lenS Try.runUnderlying45 hr19 rfl)) rfl ?_
                obtain ⟨r30, h31, h28⟩ := bindS h28
                refine QJ.on rfl rfl (cB hb29) (y_call Try.call99 rfl (RetG.quiet fun w hw => ok_i_between h31 w )) rfl ?_
                refine QJ.on rfl rfl (cB hb29) (YldS.yld (y_not rfl)) rfl ?_
                refine QJ.step (YldS.yld (y_pick_f (cB hb29) rfl)) rfl ?_
                obtain rfl := Option.some.inj h28
                exact QJ.cut_end ⟨rfl, rfl, rfl, rfl, rfl, rfl, trivial⟩
            refine QJ.done ?_
            refine PJ.next ?_
            refine WJ.cond (t := t27) rfl (fun hb32 => ?_) (fun hb32 => ?_)
            · replace hm := ifT hm hb32
              refine WJ.seq ?_
              refine WJ.quiet ?_
              refine QJ.step (YldS.yld (y_assign rfl)) rfl ?_
              refine QJ.done ?_
              refine PJ.next ?_
              refine WJ.ret ?_
              refine PJ.then_ret (PJ.block_ret (PJ.then_ret (PJ.then_ret (PJ.block_ret (PJ.then_ret ?_)))))
              obtain rfl := Option.some.inj hm
              refine PJ.sel (L' := []) [] ⟨List.nodup_nil, rfl⟩ ?_
              exact PJ.retn (vs := [.bool false]) Try.results98 ⟨rfl, trivial⟩ ⟨rfl, rfl⟩
            · replace hm := ifF hm hb32
              refine WJ.skip ?_
              refine PJ.next ?_
              refine WJ.seq ?_
              refine WJ.quiet ?_
              refine QJ.step (YldS.yld (y_move rfl)) rfl ?_
              refine QJ.step (YldS.yld (y_lenS Try.runUnderlying45 hr19 rfl)) rfl ?_
              refine QJ.step (YldS.yld (y_move rfl)) rfl ?_
              refine QJ.done ?_
              refine PJ.next ?_
              refine WJ.block ?_
              refine WJ.sel (L' := (fun (x : Int) => []) 0) [] ⟨List.nodup_nil, rfl⟩ ?_
              refine WJ.sub (m' := (fun (x : Int) => [(0, v2), (11, v2), (12, .int .i64 (List.length rows1 : Int)), (13, .int .i64 x9), (30, v18), (31, .int .i64 (List.length e13 : Int)), (32, .int .i64 x)]) 0) ⟨rfl, rfl, rfl, rfl, rfl, rfl, rfl, trivial⟩ ?_
              refine WJ.loop (X := Int) (fun N (x : Int) => i_isTable_l2 kj11 e13 N x = some r) (fun (x : Int) => [(0, v2), (11, v2), (12, .int .i64 (List.length rows1 : Int)), (13, .int .i64 x9), (30, v18), (31, .int .i64 (List.length e13 : Int)), (32, .int .i64 x)]) (fun (x : Int) => []) ?_ N 0 hm
              · rintro N x33 hI
                have hm := hI; clear hI
                cases N with
                | zero => cases hm
                | succ N =>
                unfold i_isTable_l2 at hm
                refine WJ.seq ?_
                refine WJ.quiet ?_
                refine QJ.step (YldS.yld (y_bin rfl rfl rfl)) rfl ?_
                refine QJ.done ?_
                refine PJ.next ?_
                refine WJ.seq ?_
                refine WJ.cond (t := decide (x33 < (List.length e13 : Int))) rfl (fun hb34 => ?_) (fun hb34 => ?_)
                · replace hm := ifT hm hb34
                  refine WJ.skip ?_
                  refine PJ.next ?_
                  refine WJ.seq ?_
                  refine WJ.block ?_
                  refine WJ.seq ?_
                  refine WJ.quiet ?_
                  obtain ⟨e35, h36, hm⟩ := bindS hm
                  obtain ⟨ad37, _, rfl, ha38, hy39⟩ := hr19.elem h36
                  refine QJ.step (YldS.yld (hy39 Try.runUnderlying45 Try.sizeOf9 rfl rfl)) rfl ?_
                  refine QJ.step (YldS.yld (y_load1 (v := str e35) Try.isAgg9 ha38 St.frozenC rfl)) rfl ?_
                  refine QJ.step (YldS.yld (y_assign rfl)) rfl ?_
                  refine QJ.done ?_
                  refine PJ.next ?_
                  refine WJ.seq ?_
                  refine WJ.quiet ?_
                  refine QJ.step (YldS.yld (y_move rfl)) rfl ?_
                  obtain ⟨r40, h41, hm⟩ := bindS hm
                  refine QJ.step (y_call Try.call157 rfl (RetG.quiet fun w hw => ok_i_isText h41 w )) rfl ?_
                  refine QJ.step (YldS.yld (y_not rfl)) rfl ?_
                  refine QJ.done ?_
                  refine PJ.next ?_
                  refine WJ.cond (t := !r40) rfl (fun hb42 => ?_) (fun hb42 => ?_)
                  · replace hm := ifT hm hb42
                    refine WJ.seq ?_
                    refine WJ.quiet ?_
                    refine QJ.step (YldS.yld (y_assign rfl)) rfl ?_
                    refine QJ.done ?_
                    refine PJ.next ?_
                    refine WJ.ret ?_
                    refine PJ.block_ret (PJ.then_ret (PJ.then_ret (PJ.block_ret (PJ.block_ret (PJ.then_ret (PJ.then_ret (PJ.block_ret (PJ.then_ret ?_))))))))
                    obtain rfl := Option.some.inj hm
                    refine PJ.sel (L' := []) [] ⟨List.nodup_nil, rfl⟩ ?_
                    exact PJ.retn (vs := [.bool false]) Try.results98 ⟨rfl, trivial⟩ ⟨rfl, rfl⟩
                  · replace hm := ifF hm hb42
                    refine WJ.skip ?_
                    refine PJ.block_normal (PJ.next ?_)
                    refine WJ.quiet ?_
                    refine QJ.step (YldS.yld (y_bin rfl rfl rfl)) rfl ?_
                    refine QJ.step (YldS.yld (y_move rfl)) rfl ?_
                    refine QJ.done ?_
                    exact PJ.round (w64 (x33 + 1)) [] hm ⟨rfl, rfl, rfl, rfl, rfl, rfl, rfl, trivial⟩ ⟨List.nodup_nil, rfl⟩
                · replace hm := ifF hm hb34
                  refine WJ.exit ?_
                  refine PJ.then_exit (PJ.then_exit (PJ.block_exit (PJ.block_normal ?_)))
                  exact PJ.joined () [] hm ⟨rfl, rfl, rfl, rfl, trivial⟩ ⟨List.nodup_nil, rfl⟩
          · rintro _ hm
            subst hk12
            refine WJ.quiet ?_
            refine QJ.step (YldS.yld (y_bin rfl rfl rfl)) rfl ?_
            refine QJ.step (YldS.yld (y_move rfl)) rfl ?_
            refine QJ.done ?_
            exact PJ.round (w64 (x9 + 1)) [] hm ⟨rfl, rfl, rfl, rfl, trivial⟩ ⟨List.nodup_nil, rfl⟩
        · replace hm := ifF hm hb10
          refine WJ.exit ?_
          refine PJ.then_exit (PJ.then_exit (PJ.block_exit ?_))
          exact PJ.joined () [] hm trivial ⟨List.nodup_nil, rfl⟩
    · rintro _ hm
      subst hk8
      refine WJ.seq ?_
      refine WJ.quiet ?_
      refine QJ.step (YldS.yld (y_assign rfl)) rfl ?_
      refine QJ.done ?_
      refine PJ.next ?_
      refine WJ.ret ?_
      obtain rfl := Option.some.inj hm
      refine PJ.sel (L' := []) [] ⟨List.nodup_nil, rfl⟩ ?_
      exact PJ.retn (vs := [.bool true]) Try.results98 ⟨rfl, trivial⟩ ⟨rfl, rfl⟩

set_option maxRecDepth 100000 in
set_option maxHeartbeats 1000000 in
theorem ok_i_columnWidths {N : Nat} {rows1 : List (List Str)} {r : (List Int)} (hm : i_columnWidths N rows1 = some r) (w : World) (v2 : Value) (hr3 : RdS w (cx w).Fz v2 (rSl fStr.rp) rows1) :
    Calls Try.prog 100 #[v2] w (RetG (cx w) fun u L => ∃ (u1 : Value), (u = u1 ∧ L = [row u1 2 fI64 r])) := by
  unfold i_columnWidths at hm
  refine Calls.enter [v2] Try.func100 rfl Try.ntmps100 rfl ?_
  refine WJ.seq ?_
  refine WJ.quiet ?_
  refine QJ.step (YldS.yld (y_assign rfl)) rfl ?_
  refine QJ.done ?_
  refine PJ.next ?_
  refine WJ.seq ?_
  refine WJ.reg ?_
  refine SJ.q (YldS.yld (y_move rfl)) rfl ?_
  obtain ⟨e4, h5, hm⟩ := bindS hm
  obtain ⟨ad6, _, ⟨v9, rfl, hr10⟩, ha7, hy8⟩ := hr3.elem h5
  refine SJ.q (YldS.yld (hy8 Try.runUnderlying42 Try.sizeOf45 rfl rfl)) rfl ?_
  refine SJ.q (YldS.yld (y_load1 (v := v9) Try.isAgg45 ha7 St.frozenC rfl)) rfl ?_
  refine SJ.q (YldS.yld (y_lenS Try.runUnderlying45 hr10 rfl)) rfl ?_
  obtain ⟨l11, h12, hm⟩ := bindS hm
  refine SJ.makeSlice (R := fI64) (z := 0) h12 Try.underlying27 el2 rfl rfl rfl fun v13 => ?_
  refine SJ.q (YldS.yld (y_assign rfl)) rfl ?_
  refine SJ.nil ?_
  refine PJ.next ?_
  obtain ⟨kj15, hk16, hm⟩ := withK_open hm
  refine WJ.join (X := (List Int)) (fun (x : (List Int)) => kj15 x = some r) (fun (x : (List Int)) => [(3, v13)]) (fun (x : (List Int)) => [row v13 2 fI64 x]) ?_ ?_
  · clear hk16
    refine WJ.seq ?_
    refine WJ.quiet ?_
    refine QJ.step (YldS.yld (y_move rfl)) rfl ?_
    refine QJ.step (YldS.yld (y_lenS Try.runUnderlying42 hr3 rfl)) rfl ?_
    refine QJ.step (YldS.yld (y_move rfl)) rfl ?_
    refine QJ.done ?_
    refine PJ.next ?_
    refine WJ.block ?_
    refine WJ.sel (L' := (fun (x : (List Int) × Int) => [row v13 2 fI64 x.1]) (l11, 0)) [0] ⟨by decide, rfl⟩ ?_
    refine WJ.sub (m' := (fun (x : (List Int) × Int) => [(3, v13), (13, v2), (14, .int .i64 (List.length rows1 : Int)), (15, .int .i64 x.2)]) (l11, 0)) ⟨rfl, rfl, rfl, rfl, trivial⟩ ?_
    refine WJ.loop (X := (List Int) × Int) (fun N (x : (List Int) × Int) => i_columnWidths_l1 kj15 rows1 N x.1 x.2 = some r) (fun (x : (List Int) × Int) => [(3, v13), (13, v2), (14, .int .i64 (List.length rows1 : Int)), (15, .int .i64 x.2)]) (fun (x : (List Int) × Int) => [row v13 2 fI64 x.1]) ?_ N (l11, 0) hm
    · rintro N ⟨l17, x18⟩ hI
      have hm := hI; clear hI
      cases N with
      | zero => cases hm
      | succ N =>
      unfold i_columnWidths_l1 at hm
      refine WJ.seq ?_
      refine WJ.quiet ?_
      refine QJ.step (YldS.yld (y_bin rfl rfl rfl)) rfl ?_
      refine QJ.done ?_
      refine PJ.next ?_
      refine WJ.seq ?_
      refine WJ.cond (t := decide (x18 < (List.length rows1 : Int))) rfl (fun hb19 => ?_) (fun hb19 => ?_)
      · replace hm := ifT hm hb19
        refine WJ.skip ?_
        refine PJ.next ?_
        obtain ⟨kj21, hk22, hm⟩ := withK_open hm
        refine WJ.join (X := (List Int)) (fun (x : (List Int)) => kj21 x = some r) (fun (x : (List Int)) => [(3, v13), (13, v2), (14, .int .i64 (List.length rows1 : Int)), (15, .int .i64 x18)]) (fun (x : (List Int)) => [row v13 2 fI64 x]) ?_ ?_
        · clear hk22
          refine WJ.block ?_
          refine WJ.seq ?_
          refine WJ.quiet ?_
          obtain ⟨e23, h24, hm⟩ := bindS hm
          obtain ⟨ad25, _, ⟨v28, rfl, hr29⟩, ha26, hy27⟩ := hr3.elem h24
          refine QJ.step (YldS.yld (hy27 Try.runUnderlying42 Try.sizeOf45 rfl rfl)) rfl ?_
          refine QJ.step (YldS.yld (y_load1 (v := v28) Try.isAgg45 ha26 St.frozenC rfl)) rfl ?_
          refine QJ.step (YldS.yld (y_assign rfl)) rfl ?_
          refine QJ.done ?_
          refine PJ.next ?_
          refine WJ.seq ?_
          refine WJ.quiet ?_
          refine QJ.step (YldS.yld (y_move rfl)) rfl ?_
          refine QJ.step (YldS.yld (y_lenS Try.runUnderlying45 hr29 rfl)) rfl ?_
          refine QJ.step (YldS.yld (y_move rfl)) rfl ?_
          refine QJ.done ?_
          refine PJ.next ?_
          refine WJ.block ?_
          refine WJ.sel (L' := (fun (x : (List Int) × Int) => [row v13 2 fI64 x.1]) (l17, 0)) [0] ⟨by decide, rfl⟩ ?_
          refine WJ.sub (m' := (fun (x : (List Int) × Int) => [(3, v13), (13, v2), (14, .int .i64 (List.length rows1 : Int)), (15, .int .i64 x18), (19, v28), (20, .int .i64 (List.length e23 : Int)), (21, .int .i64 x.2)]) (l17, 0)) ⟨rfl, rfl, rfl, rfl, rfl, rfl, rfl, trivial⟩ ?_
          refine WJ.loop (X := (List Int) × Int) (fun N (x : (List Int) × Int) => i_columnWidths_l2 kj21 e23 N x.1 x.2 = some r) (fun (x : (List Int) × Int) => [(3, v13), (13, v2), (14, .int .i64 (List.length rows1 : Int)), (15, .int .i64 x18), (19, v28), (20, .int .i64 (List.length e23 : Int)), (21, .int .i64 x.2)]) (fun (x : (List Int) × Int) => [row v13 2 fI64 x.1]) ?_ N (l17, 0) hm
          · rintro N ⟨l30, x31⟩ hI
            have hm := hI; clear hI
            cases N with
            | zero => cases hm
            | succ N =>
            unfold i_columnWidths_l2 at hm
            refine WJ.seq ?_
            refine WJ.quiet ?_
            refine QJ.step (YldS.yld (y_bin rfl rfl rfl)) rfl ?_
            refine QJ.done ?_
            refine PJ.next ?_
            refine WJ.seq ?_
            refine WJ.cond (t := decide (x31 < (List.length e23 : Int))) rfl (fun hb32 => ?_) (fun hb32 => ?_)
            · replace hm := ifT hm hb32
              refine WJ.skip ?_
              refine PJ.next ?_
              refine WJ.seq ?_
              refine WJ.block ?_
              refine WJ.seq ?_
              refine WJ.quiet ?_
              refine QJ.step (YldS.yld (y_move rfl)) rfl ?_
              obtain ⟨e33, h34, hm⟩ := bindS hm
              obtain ⟨ad35, _, rfl, ha36, hy37⟩ := hr29.elem h34
              refine QJ.step (YldS.yld (hy37 Try.runUnderlying45 Try.sizeOf9 rfl rfl)) rfl ?_
              refine QJ.step (YldS.yld (y_load1 (v := str e33) Try.isAgg9 ha36 St.frozenC rfl)) rfl ?_
              refine QJ.step (YldS.yld (y_assign rfl)) rfl ?_
              refine QJ.step (YldS.yld (y_assign rfl)) rfl ?_
              refine QJ.done ?_
              refine PJ.next ?_
              refine WJ.reg ?_
              refine SJ.q (YldS.yld (y_move rfl)) rfl ?_
              refine SJ.q (YldS.yld (y_move rfl)) rfl ?_
              refine SJ.q (YldS.yld (y_move rfl)) rfl ?_
              refine SJ.q (YldS.yld (y_move rfl)) rfl ?_
              obtain ⟨e38, h39, hm⟩ := bindS hm
              refine SJ.q (YldS.yld (y_ixRow (k := 0) (R := fI64) rfl Try.runUnderlying27 Try.sizeOf2 rfl rfl h39)) rfl ?_
              refine SJ.q (YldS.yld (y_loadR (k := 0) (i := (Int.toNat x31)) (off := 0) (u := .int .i64 e38) rfl Try.isAgg2 rfl (idx_get h39) rfl)) rfl ?_
              refine SJ.q (YldS.yld (y_move rfl)) rfl ?_
              refine SJ.q (YldS.yld (y_lenStr Try.runUnderlying9 rfl)) rfl ?_
              refine SJ.q (YldS.yld (y_max rfl rfl)) rfl ?_
              obtain ⟨e40, h41, hm⟩ := bindS hm
              refine SJ.q (YldS.yld (y_ixRow (k := 0) (R := fI64) rfl Try.runUnderlying27 Try.sizeOf2 rfl rfl h41)) rfl ?_
              refine SJ.storeRL (k := 0) (i := (Int.toNat x31)) (off := 0) (us := [.int .i64 (imax e38 (List.length e33 : Int))]) (b := imax e38 (List.length e33 : Int)) rfl rfl (idx_get h41) rfl rfl Try.sizeOf2 rfl rfl rfl ?_
              refine SJ.nil ?_
              refine PJ.block_normal (PJ.next ?_)
              refine WJ.quiet ?_
              refine QJ.step (YldS.yld (y_bin rfl rfl rfl)) rfl ?_
              refine QJ.step (YldS.yld (y_move rfl)) rfl ?_
              refine QJ.done ?_
              exact PJ.round ((List.set l30 (Int.toNat x31) (imax e38 (List.length e33 : Int))), w64 (x31 + 1)) [0] hm ⟨rfl, rfl, rfl, rfl, rfl, rfl, rfl, trivial⟩ ⟨by decide, rfl⟩
            · replace hm := ifF hm hb32
              refine WJ.exit ?_
              refine PJ.then_exit (PJ.then_exit (PJ.block_exit (PJ.block_normal ?_)))
              exact PJ.joined l30 [0] hm ⟨rfl, rfl, rfl, rfl, trivial⟩ ⟨by decide, rfl⟩
        · rintro l20 hm
          subst hk22
          refine WJ.quiet ?_
          refine QJ.step (YldS.yld (y_bin rfl rfl rfl)) rfl ?_
          refine QJ.step (YldS.yld (y_move rfl)) rfl ?_
          refine QJ.done ?_
          exact PJ.round (l20, w64 (x18 + 1)) [0] hm ⟨rfl, rfl, rfl, rfl, trivial⟩ ⟨by decide, rfl⟩
      · replace hm := ifF hm hb19
        refine WJ.exit ?_
        refine PJ.then_exit (PJ.then_exit (PJ.block_exit ?_))
        exact PJ.joined l17 [0] hm ⟨rfl, trivial⟩ ⟨by decide, rfl⟩
  · rintro l14 hm
    subst hk16
    refine WJ.seq ?_
    refine WJ.quiet ?_
    refine QJ.step (YldS.yld (y_move rfl)) rfl ?_
    refine QJ.step (YldS.yld (y_assign rfl)) rfl ?_
    refine QJ.done ?_
    refine PJ.next ?_
    refine WJ.ret ?_
    obtain rfl := Option.some.inj hm
    refine PJ.sel (L' := [row v13 2 fI64 l14]) [0] ⟨by decide, rfl⟩ ?_
    exact PJ.retn (vs := [v13]) Try.results100 ⟨rfl, trivial⟩ ⟨_, rfl, rfl⟩

set_option maxRecDepth 100000 in
set_option maxHeartbeats 1000000 in
theorem ok_i_repeat {N : Nat} {s1 : Str} {n2 : Int} {r : Str} (hm : i_repeat N s1 n2 = some r) (w : World)  :
    Calls Try.prog 101 #[str s1, .int .i64 n2] w (Ret (cx w) (str r)) := by
  unfold i_repeat at hm
  refine Calls.enter [str s1, .int .i64 n2] Try.func101 rfl Try.ntmps101 rfl ?_
  refine WJ.seq ?_
  refine WJ.quiet ?_
  refine QJ.step (YldS.yld (y_assign rfl)) rfl ?_
  refine QJ.done ?_
  refine PJ.next ?_
  refine WJ.seq ?_
  refine WJ.reg ?_
  refine SJ.buildSlice (R := fByte) (os := []) [] Try.runUnderlying22 Try.sizeOf5 Try.zeroValue5 rfl rfl rfl rfl rfl rfl fun v3 => ?_
  refine SJ.q (YldS.yld (y_assign rfl)) rfl ?_
  refine SJ.nil ?_
  refine PJ.next ?_
  obtain ⟨kj6, hk7, hm⟩ := withK_open hm
  refine WJ.join (X := (List UInt8) × Value) (fun (x : (List UInt8) × Value) => kj6 x.1 = some r) (fun (x : (List UInt8) × Value) => [(5, x.2)]) (fun (x : (List UInt8) × Value) => [row x.2 5 fByte x.1]) ?_ ?_
  · clear hk7
    refine WJ.seq ?_
    refine WJ.quiet ?_
    refine QJ.step (YldS.yld (y_move rfl)) rfl ?_
    refine QJ.step (YldS.yld (y_max rfl rfl)) rfl ?_
    refine QJ.step (YldS.yld (y_move rfl)) rfl ?_
    refine QJ.done ?_
    refine PJ.next ?_
    refine WJ.block ?_
    refine WJ.sel (L' := (fun (x : (List UInt8) × Value × Int) => [row x.2.1 5 fByte x.1]) ([], v3, 0)) [0] ⟨by decide, rfl⟩ ?_
    refine WJ.sub (m' := (fun (x : (List UInt8) × Value × Int) => [(0, str s1), (5, x.2.1), (8, .int .i64 (imax n2 0)), (9, .int .i64 x.2.2)]) ([], v3, 0)) ⟨rfl, rfl, rfl, rfl, trivial⟩ ?_
    refine WJ.loop (X := (List UInt8) × Value × Int) (fun N (x : (List UInt8) × Value × Int) => i_repeat_l1 kj6 s1 n2 N x.1 x.2.2 = some r) (fun (x : (List UInt8) × Value × Int) => [(0, str s1), (5, x.2.1), (8, .int .i64 (imax n2 0)), (9, .int .i64 x.2.2)]) (fun (x : (List UInt8) × Value × Int) => [row x.2.1 5 fByte x.1]) ?_ N ([], v3, 0) hm
    · rintro N ⟨l8, v9, x10⟩ hI
      have hm := hI; clear hI
      cases N with
      | zero => cases hm
      | succ N =>
      unfold i_repeat_l1 at hm
      refine WJ.seq ?_
      refine WJ.quiet ?_
      refine QJ.step (YldS.yld (y_bin rfl rfl rfl)) rfl ?_
      refine QJ.done ?_
      refine PJ.next ?_
      refine WJ.seq ?_
      refine WJ.cond (t := decide (x10 < (imax n2 0))) rfl (fun hb11 => ?_) (fun hb11 => ?_)
      · replace hm := ifT hm hb11
        refine WJ.skip ?_
        refine PJ.next ?_
        refine WJ.seq ?_
        refine WJ.block ?_
        refine WJ.reg ?_
        refine SJ.q (YldS.yld (y_move rfl)) rfl ?_
        refine SJ.q (YldS.yld (y_move rfl)) rfl ?_
        obtain ⟨l12, h13, hm⟩ := bindS hm
        refine SJ.appendStr (k := 0) h13 rfl Try.underlying22 Try.underlying9 el8_5 rfl rfl rfl fun v14 => ?_
        refine SJ.q (YldS.yld (y_assign rfl)) rfl ?_
        refine SJ.nil ?_
        refine PJ.block_normal (PJ.next ?_)
        refine WJ.quiet ?_
        refine QJ.step (YldS.yld (y_bin rfl rfl rfl)) rfl ?_
        refine QJ.step (YldS.yld (y_move rfl)) rfl ?_
        refine QJ.done ?_
        exact PJ.round (l12, v14, w64 (x10 + 1)) [0] hm ⟨rfl, rfl, rfl, rfl, trivial⟩ ⟨by decide, rfl⟩
      · replace hm := ifF hm hb11
        refine WJ.exit ?_
        refine PJ.then_exit (PJ.then_exit (PJ.block_exit ?_))
        exact PJ.joined (l8, v9) [0] hm ⟨rfl, trivial⟩ ⟨by decide, rfl⟩
  · rintro ⟨l4, v5⟩ hm
    subst hk7
    refine WJ.seq ?_
    refine WJ.quiet ?_
    refine QJ.step (YldS.yld (y_move rfl)) rfl ?_
    refine QJ.step (YldS.yld (y_b2s Try.underlying22 Try.underlying9 Try.underlying5 (fun w hw => ⟨_, (hw.row_rd (k := 0) rfl)⟩) rfl)) rfl ?_
    refine QJ.step (YldS.yld (y_assign rfl)) rfl ?_
    refine QJ.done ?_
    refine PJ.next ?_
    refine WJ.ret ?_
    obtain rfl := Option.some.inj hm
    refine PJ.sel (L' := []) [] ⟨List.nodup_nil, rfl⟩ ?_
    exact PJ.retn (vs := [str l4]) Try.results101 ⟨rfl, trivial⟩ ⟨rfl, rfl⟩

set_option maxRecDepth 100000 in
set_option maxHeartbeats 1000000 in
theorem ok_i_TableLines {N : Nat} {rows1 : List (List Str)} {sides4 : Str} {gap5 : Int} {r : (List Str) × Int} (hm : i_TableLines N rows1 sides4 gap5 = some r) (w : World) (v2 : Value) (hr3 : RdS w (cx w).Fz v2 (rSl fStr.rp) rows1) :
    Calls Try.prog 25 #[v2, str sides4, .int .i64 gap5] w (RetG (cx w) fun u L => ∃ (u1 : Value), (u = tup [u1, .int .i64 r.2] ∧ L = [row u1 9 fStr r.1])) := by
  unfold i_TableLines at hm
  refine Calls.enter [v2, str sides4, .int .i64 gap5] Try.func25 rfl Try.ntmps25 rfl ?_
  refine WJ.seq ?_
  refine WJ.quiet ?_
  refine QJ.step (YldS.yld (y_assign rfl)) rfl ?_
  refine QJ.step (YldS.yld (y_assign rfl)) rfl ?_
  refine QJ.done ?_
  refine PJ.next ?_
  refine WJ.seq ?_
  refine WJ.seq ?_
  refine WJ.quiet ?_
  refine QJ.step (YldS.yld (y_move rfl)) rfl ?_
  obtain ⟨r6, h7, hm⟩ := bindS hm
  refine QJ.step (y_call Try.call98 rfl (RetG.quiet fun w hw => ok_i_isTable h7 w _ (hr3.st hw))) rfl ?_
  refine QJ.step (YldS.yld (y_not rfl)) rfl ?_
  refine QJ.done ?_
  refine PJ.next ?_
  refine WJ.cond (t := !r6) rfl (fun hb8 => ?_) (fun hb8 => ?_)
  · replace hm := ifT hm hb8
    refine WJ.seq ?_
    refine WJ.quiet ?_
    refine QJ.step (YldS.yld (y_assign rfl)) rfl ?_
    refine QJ.step (YldS.yld (y_assign rfl)) rfl ?_
    refine QJ.done ?_
    refine PJ.next ?_
    refine WJ.ret ?_
    refine PJ.then_ret ?_
    refine PJ.nil_row 9 fStr ?_
    obtain rfl := Option.some.inj hm
    refine PJ.sel (L' := [row (.slice none 0 0) 9 fStr []]) [0] ⟨by decide, rfl⟩ ?_
    exact PJ.retn (vs := [(.slice none 0 0), .int .i64 1]) Try.results25 ⟨rfl, rfl, trivial⟩ ⟨_, rfl, rfl⟩
  · replace hm := ifF hm hb8
    refine WJ.skip ?_
    refine PJ.next ?_
    refine WJ.seq ?_
    refine WJ.seq ?_
    refine WJ.quiet ?_
    refine QJ.step (YldS.yld (y_move rfl)) rfl ?_
    refine QJ.step (YldS.yld (y_lenStr Try.runUnderlying9 rfl)) rfl ?_
    refine QJ.step (YldS.yld (y_move rfl)) rfl ?_
    obtain ⟨e9, h10, hm⟩ := bindS hm
    obtain ⟨ad11, _, ⟨v14, rfl, hr15⟩, ha12, hy13⟩ := hr3.elem h10
    refine QJ.step (YldS.yld (hy13 Try.runUnderlying42 Try.sizeOf45 rfl rfl)) rfl ?_
    refine QJ.step (YldS.yld (y_load1 (v := v14) Try.isAgg45 ha12 St.frozenC rfl)) rfl ?_
    refine QJ.step (YldS.yld (y_lenS Try.runUnderlying45 hr15 rfl)) rfl ?_
    refine QJ.step (YldS.yld (y_bin rfl rfl rfl)) rfl ?_
    refine QJ.step (YldS.yld (y_move rfl)) rfl ?_
    obtain ⟨t16, h17, hm⟩ := bindS hm
    refine QJ.cut 4 [(0, v2), (1, str sides4), (2, .int .i64 gap5), (31, .bool t16)] ?_ ?_
    · rcases Bool.eq_false_or_eq_true ((List.length sides4 : Int) != (List.length e9 : Int)) with hb18 | hb18
      · obtain rfl := orT h17 hb18
        refine QJ.off rfl rfl (cB hb18) rfl rfl ?_
        refine QJ.off rfl rfl (cB hb18) rfl rfl ?_
        refine QJ.off rfl rfl (cB hb18) rfl rfl ?_
        refine QJ.step (YldS.yld (y_pick_t (cB hb18) rfl)) rfl ?_
        exact QJ.cut_end ⟨rfl, rfl, rfl, rfl, trivial⟩
      · replace h17 := orF h17 hb18
        refine QJ.on rfl rfl (cB hb18) (YldS.yld (y_move rfl)) rfl ?_
        obtain ⟨r19, h20, h17⟩ := bindS h17
        refine QJ.on rfl rfl (cB hb18) (y_call Try.call99 rfl (RetG.quiet fun w hw => ok_i_between h20 w )) rfl ?_
        refine QJ.on rfl rfl (cB hb18) (YldS.yld (y_not rfl)) rfl ?_
        refine QJ.step (YldS.yld (y_pick_f (cB hb18) rfl)) rfl ?_
        obtain rfl := Option.some.inj h17
        exact QJ.cut_end ⟨rfl, rfl, rfl, rfl, trivial⟩
    refine QJ.done ?_
    refine PJ.next ?_
    refine WJ.cond (t := t16) rfl (fun hb21 => ?_) (fun hb21 => ?_)
    · replace hm := ifT hm hb21
      refine WJ.seq ?_
      refine WJ.quiet ?_
      refine QJ.step (YldS.yld (y_assign rfl)) rfl ?_
      refine QJ.step (YldS.yld (y_assign rfl)) rfl ?_
      refine QJ.done ?_
      refine PJ.next ?_
      refine WJ.ret ?_
      refine PJ.then_ret ?_
      refine PJ.nil_row 9 fStr ?_
      obtain rfl := Option.some.inj hm
      refine PJ.sel (L' := [row (.slice none 0 0) 9 fStr []]) [0] ⟨by decide, rfl⟩ ?_
      exact PJ.retn (vs := [(.slice none 0 0), .int .i64 2]) Try.results25 ⟨rfl, rfl, trivial⟩ ⟨_, rfl, rfl⟩
    · replace hm := ifF hm hb21
      refine WJ.skip ?_
      refine PJ.next ?_
      obtain ⟨kj22, hk23, hm⟩ := withK_open hm
      refine WJ.join (X := Unit) (fun (_ : Unit) => kj22  = some r) (fun (_ : Unit) => [(0, v2), (1, str sides4), (2, .int .i64 gap5)]) (fun (_ : Unit) => []) ?_ ?_
      · clear hk23
        refine WJ.seq ?_
        refine WJ.quiet ?_
        refine QJ.step (YldS.yld (y_move rfl)) rfl ?_
        refine QJ.step (YldS.yld (y_lenStr Try.runUnderlying9 rfl)) rfl ?_
        refine QJ.step (YldS.yld (y_move rfl)) rfl ?_
        refine QJ.done ?_
        refine PJ.next ?_
        refine WJ.block ?_
        refine WJ.sel (L' := (fun (x : Int) => []) 0) [] ⟨List.nodup_nil, rfl⟩ ?_
        refine WJ.sub (m' := (fun (x : Int) => [(0, v2), (1, str sides4), (2, .int .i64 gap5), (33, .int .i64 (List.length sides4 : Int)), (34, .int .i64 x)]) 0) ⟨rfl, rfl, rfl, rfl, rfl, trivial⟩ ?_
        refine WJ.loop (X := Int) (fun N (x : Int) => i_TableLines_l1 kj22 sides4 N x = some r) (fun (x : Int) => [(0, v2), (1, str sides4), (2, .int .i64 gap5), (33, .int .i64 (List.length sides4 : Int)), (34, .int .i64 x)]) (fun (x : Int) => []) ?_ N 0 hm
        · rintro N x24 hI
          have hm := hI; clear hI
          cases N with
          | zero => cases hm
          | succ N =>
          unfold i_TableLines_l1 at hm
          refine WJ.seq ?_
          refine WJ.quiet ?_
          refine QJ.step (YldS.yld (y_bin rfl rfl rfl)) rfl ?_
          refine QJ.done ?_
          refine PJ.next ?_
          refine WJ.seq ?_
          refine WJ.cond (t := decide (x24 < (List.length sides4 : Int))) rfl (fun hb25 => ?_) (fun hb25 => ?_)
          · replace hm := ifT hm hb25
            refine WJ.skip ?_
            refine PJ.next ?_
            refine WJ.seq ?_
            refine WJ.block ?_
            refine WJ.seq ?_
            refine WJ.quiet ?_
            refine QJ.step (YldS.yld (y_move rfl)) rfl ?_
            refine QJ.step (YldS.yld (y_assign rfl)) rfl ?_
            refine QJ.done ?_
            refine PJ.next ?_
            refine WJ.seq ?_
            refine WJ.quiet ?_
            refine QJ.step (YldS.yld (y_move rfl)) rfl ?_
            refine QJ.step (YldS.yld (y_move rfl)) rfl ?_
            obtain ⟨c26, h27, hm⟩ := bindS hm
            refine QJ.step (YldS.yld (y_idxStr Try.runUnderlying9 rfl rfl h27)) rfl ?_
            refine QJ.step (YldS.yld (y_bin8 c26 (108 : UInt8) rfl rfl rfl)) rfl ?_
            refine QJ.step (YldS.yld (y_move rfl)) rfl ?_
            obtain ⟨t28, h29, hm⟩ := bindS hm
            refine QJ.cut 5 [(0, v2), (1, str sides4), (2, .int .i64 gap5), (33, .int .i64 (List.length sides4 : Int)), (34, .int .i64 x24), (46, .bool t28)] ?_ ?_
            · rcases Bool.eq_false_or_eq_true (c26 != (108 : UInt8)) with hb30 | hb30
              · replace h29 := andT h29 hb30
                refine QJ.on rfl rfl (cB hb30) (YldS.yld (y_move rfl)) rfl ?_
                refine QJ.on rfl rfl (cB hb30) (YldS.yld (y_move rfl)) rfl ?_
                obtain ⟨c31, h32, h29⟩ := bindS h29
                refine QJ.on rfl rfl (cB hb30) (YldS.yld (y_idxStr Try.runUnderlying9 rfl rfl h32)) rfl ?_
                refine QJ.on rfl rfl (cB hb30) (YldS.yld (y_bin8 c31 (114 : UInt8) rfl rfl rfl)) rfl ?_
                refine QJ.step (YldS.yld (y_pick_t (cB hb30) rfl)) rfl ?_
                obtain rfl := Option.some.inj h29
                exact QJ.cut_end ⟨rfl, rfl, rfl, rfl, rfl, rfl, trivial⟩
              · obtain rfl := andF h29 hb30
                refine QJ.off rfl rfl (cB hb30) rfl rfl ?_
                refine QJ.off rfl rfl (cB hb30) rfl rfl ?_
                refine QJ.off rfl rfl (cB hb30) rfl rfl ?_
                refine QJ.off rfl rfl (cB hb30) rfl rfl ?_
                refine QJ.step (YldS.yld (y_pick_f (cB hb30) rfl)) rfl ?_
                exact QJ.cut_end ⟨rfl, rfl, rfl, rfl, rfl, rfl, trivial⟩
            refine QJ.done ?_
            refine PJ.next ?_
            refine WJ.cond (t := t28) rfl (fun hb33 => ?_) (fun hb33 => ?_)
            · replace hm := ifT hm hb33
              refine WJ.seq ?_
              refine WJ.quiet ?_
              refine QJ.step (YldS.yld (y_assign rfl)) rfl ?_
              refine QJ.step (YldS.yld (y_assign rfl)) rfl ?_
              refine QJ.done ?_
              refine PJ.next ?_
              refine WJ.ret ?_
              refine PJ.block_ret (PJ.then_ret (PJ.then_ret (PJ.block_ret (PJ.then_ret ?_))))
              refine PJ.nil_row 9 fStr ?_
              obtain rfl := Option.some.inj hm
              refine PJ.sel (L' := [row (.slice none 0 0) 9 fStr []]) [0] ⟨by decide, rfl⟩ ?_
              exact PJ.retn (vs := [(.slice none 0 0), .int .i64 2]) Try.results25 ⟨rfl, rfl, trivial⟩ ⟨_, rfl, rfl⟩
            · replace hm := ifF hm hb33
              refine WJ.skip ?_
              refine PJ.block_normal (PJ.next ?_)
              refine WJ.quiet ?_
              refine QJ.step (YldS.yld (y_bin rfl rfl rfl)) rfl ?_
              refine QJ.step (YldS.yld (y_move rfl)) rfl ?_
              refine QJ.done ?_
              exact PJ.round (w64 (x24 + 1)) [] hm ⟨rfl, rfl, rfl, rfl, rfl, trivial⟩ ⟨List.nodup_nil, rfl⟩
          · replace hm := ifF hm hb25
            refine WJ.exit ?_
            refine PJ.then_exit (PJ.then_exit (PJ.block_exit ?_))
            exact PJ.joined () [] hm ⟨rfl, rfl, rfl, trivial⟩ ⟨List.nodup_nil, rfl⟩
      · rintro _ hm
        subst hk23
        refine WJ.seq ?_
        refine WJ.reg ?_
        refine SJ.q (YldS.yld (y_move rfl)) rfl ?_
        obtain ⟨r34, h35, hm⟩ := bindS hm
        refine SJ.call Try.call100 rfl (fun w hw => ok_i_columnWidths h35 w _ (hr3.st hw)) rfl ?_
        rintro v36 _ ⟨_, rfl, rfl⟩
        refine SJ.q (YldS.yld (y_assign rfl)) rfl ?_
        refine SJ.nil ?_
        refine PJ.next ?_
        refine WJ.seq ?_
        refine WJ.reg ?_
        refine SJ.buildSlice (R := fStr) (os := []) [] Try.runUnderlying45 Try.sizeOf9 Try.zeroValue9 rfl rfl rfl rfl rfl rfl fun v37 => ?_
        refine SJ.q (YldS.yld (y_assign rfl)) rfl ?_
        refine SJ.nil ?_
        refine PJ.next ?_
        obtain ⟨kj40, hk41, hm⟩ := withK_open hm
        refine WJ.join (X := (List Str) × Value) (fun (x : (List Str) × Value) => kj40 x.1 = some r) (fun (x : (List Str) × Value) => [(10, x.2)]) (fun (x : (List Str) × Value) => [row x.2 9 fStr x.1]) ?_ ?_
        · clear hk41
          refine WJ.seq ?_
          refine WJ.quiet ?_
          refine QJ.step (YldS.yld (y_move rfl)) rfl ?_
          refine QJ.step (YldS.yld (y_lenS Try.runUnderlying42 hr3 rfl)) rfl ?_
          refine QJ.step (YldS.yld (y_move rfl)) rfl ?_
          refine QJ.done ?_
          refine PJ.next ?_
          refine WJ.block ?_
          refine WJ.sel (L' := (fun (x : (List Str) × Value × Int) => [row x.2.1 9 fStr x.1, row v36 2 fI64 r34]) ([], v37, 0)) [0, 1] ⟨by decide, rfl⟩ ?_
          refine WJ.sub (m' := (fun (x : (List Str) × Value × Int) => [(1, str sides4), (2, .int .i64 gap5), (9, v36), (10, x.2.1), (51, v2), (52, .int .i64 (List.length rows1 : Int)), (53, .int .i64 x.2.2)]) ([], v37, 0)) ⟨rfl, rfl, rfl, rfl, rfl, rfl, rfl, trivial⟩ ?_
          refine WJ.loop (X := (List Str) × Value × Int) (fun N (x : (List Str) × Value × Int) => i_TableLines_l2 kj40 rows1 sides4 gap5 r34 N x.1 x.2.2 = some r) (fun (x : (List Str) × Value × Int) => [(1, str sides4), (2, .int .i64 gap5), (9, v36), (10, x.2.1), (51, v2), (52, .int .i64 (List.length rows1 : Int)), (53, .int .i64 x.2.2)]) (fun (x : (List Str) × Value × Int) => [row x.2.1 9 fStr x.1, row v36 2 fI64 r34]) ?_ N ([], v37, 0) hm
          · rintro N ⟨l42, v43, x44⟩ hI
            have hm := hI; clear hI
            cases N with
            | zero => cases hm
            | succ N =>
            unfold i_TableLines_l2 at hm
            refine WJ.seq ?_
            refine WJ.quiet ?_
            refine QJ.step (YldS.yld (y_bin rfl rfl rfl)) rfl ?_
            refine QJ.done ?_
            refine PJ.next ?_
            refine WJ.seq ?_
            refine WJ.cond (t := decide (x44 < (List.length rows1 : Int))) rfl (fun hb45 => ?_) (fun hb45 => ?_)
            · replace hm := ifT hm hb45
              refine WJ.skip ?_
              refine PJ.next ?_
              obtain ⟨kj48, hk49, hm⟩ := withK_open hm
              refine WJ.join (X := (List Str) × Value) (fun (x : (List Str) × Value) => kj48 x.1 = some r) (fun (x : (List Str) × Value) => [(1, str sides4), (2, .int .i64 gap5), (9, v36), (10, x.2), (51, v2), (52, .int .i64 (List.length rows1 : Int)), (53, .int .i64 x44)]) (fun (x : (List Str) × Value) => [row x.2 9 fStr x.1, row v36 2 fI64 r34]) ?_ ?_
              · clear hk49
                refine WJ.block ?_
                refine WJ.seq ?_
                refine WJ.quiet ?_
                obtain ⟨e50, h51, hm⟩ := bindS hm
                obtain ⟨ad52, _, ⟨v55, rfl, hr56⟩, ha53, hy54⟩ := hr3.elem h51
                refine QJ.step (YldS.yld (hy54 Try.runUnderlying42 Try.sizeOf45 rfl rfl)) rfl ?_
                refine QJ.step (YldS.yld (y_load1 (v := v55) Try.isAgg45 ha53 St.frozenC rfl)) rfl ?_
                refine QJ.step (YldS.yld (y_assign rfl)) rfl ?_
                refine QJ.done ?_
                refine PJ.next ?_
                refine WJ.seq ?_
                refine WJ.quiet ?_
                refine QJ.step (YldS.yld (y_assign rfl)) rfl ?_
                refine QJ.done ?_
                refine PJ.next ?_
                obtain ⟨kj58, hk59, hm⟩ := withK_open hm
                refine WJ.join (X := Str) (fun (x : Str) => kj58 x = some r) (fun (x : Str) => [(1, str sides4), (2, .int .i64 gap5), (9, v36), (10, v43), (13, str x), (51, v2), (52, .int .i64 (List.length rows1 : Int)), (53, .int .i64 x44)]) (fun (x : Str) => [row v43 9 fStr l42, row v36 2 fI64 r34]) ?_ ?_
                · clear hk59
                  refine WJ.seq ?_
                  refine WJ.quiet ?_
                  refine QJ.step (YldS.yld (y_move rfl)) rfl ?_
                  refine QJ.step (YldS.yld (y_lenS Try.runUnderlying45 hr56 rfl)) rfl ?_
                  refine QJ.step (YldS.yld (y_move rfl)) rfl ?_
                  refine QJ.done ?_
                  refine PJ.next ?_
                  refine WJ.block ?_
                  refine WJ.sel (L' := (fun (x : Str × Int) => [row v43 9 fStr l42, row v36 2 fI64 r34]) ([], 0)) [0, 1] ⟨by decide, rfl⟩ ?_
                  refine WJ.sub (m' := (fun (x : Str × Int) => [(1, str sides4), (2, .int .i64 gap5), (9, v36), (10, v43), (13, str x.1), (51, v2), (52, .int .i64 (List.length rows1 : Int)), (53, .int .i64 x44), (57, v55), (58, .int .i64 (List.length e50 : Int)), (59, .int .i64 x.2)]) ([], 0)) ⟨rfl, rfl, rfl, rfl, rfl, rfl, rfl, rfl, rfl, rfl, rfl, trivial⟩ ?_
                  refine WJ.loop (X := Str × Int) (fun N (x : Str × Int) => i_TableLines_l3 kj58 sides4 gap5 r34 e50 N x.1 x.2 = some r) (fun (x : Str × Int) => [(1, str sides4), (2, .int .i64 gap5), (9, v36), (10, v43), (13, str x.1), (51, v2), (52, .int .i64 (List.length rows1 : Int)), (53, .int .i64 x44), (57, v55), (58, .int .i64 (List.length e50 : Int)), (59, .int .i64 x.2)]) (fun (x : Str × Int) => [row v43 9 fStr l42, row v36 2 fI64 r34]) ?_ N ([], 0) hm
                  · rintro N ⟨line60, x61⟩ hI
                    have hm := hI; clear hI
                    cases N with
                    | zero => cases hm
                    | succ N =>
                    unfold i_TableLines_l3 at hm
                    refine WJ.seq ?_
                    refine WJ.quiet ?_
                    refine QJ.step (YldS.yld (y_bin rfl rfl rfl)) rfl ?_
                    refine QJ.done ?_
                    refine PJ.next ?_
                    refine WJ.seq ?_
                    refine WJ.cond (t := decide (x61 < (List.length e50 : Int))) rfl (fun hb62 => ?_) (fun hb62 => ?_)
                    · replace hm := ifT hm hb62
                      refine WJ.skip ?_
                      refine PJ.next ?_
                      obtain ⟨kj64, hk65, hm⟩ := withK_open hm
                      refine WJ.join (X := Str) (fun (x : Str) => kj64 x = some r) (fun (x : Str) => [(1, str sides4), (2, .int .i64 gap5), (9, v36), (10, v43), (13, str x), (51, v2), (52, .int .i64 (List.length rows1 : Int)), (53, .int .i64 x44), (57, v55), (58, .int .i64 (List.length e50 : Int)), (59, .int .i64 x61)]) (fun (x : Str) => [row v43 9 fStr l42, row v36 2 fI64 r34]) ?_ ?_
                      · clear hk65
                        refine WJ.block ?_
                        refine WJ.seq ?_
                        refine WJ.quiet ?_
                        refine QJ.step (YldS.yld (y_move rfl)) rfl ?_
                        obtain ⟨e66, h67, hm⟩ := bindS hm
                        obtain ⟨ad68, _, rfl, ha69, hy70⟩ := hr56.elem h67
                        refine QJ.step (YldS.yld (hy70 Try.runUnderlying45 Try.sizeOf9 rfl rfl)) rfl ?_
                        refine QJ.step (YldS.yld (y_load1 (v := str e66) Try.isAgg9 ha69 St.frozenC rfl)) rfl ?_
                        refine QJ.step (YldS.yld (y_assign rfl)) rfl ?_
                        refine QJ.step (YldS.yld (y_assign rfl)) rfl ?_
                        refine QJ.done ?_
                        refine PJ.next ?_
                        obtain ⟨kj72, hk73, hm⟩ := withK_open hm
                        refine WJ.join (X := Str) (fun (x : Str) => kj72 x = some r) (fun (x : Str) => [(1, str sides4), (2, .int .i64 gap5), (9, v36), (10, v43), (13, str x), (14, .int .i64 x61), (15, str e66), (51, v2), (52, .int .i64 (List.length rows1 : Int)), (53, .int .i64 x44), (57, v55), (58, .int .i64 (List.length e50 : Int)), (59, .int .i64 x61)]) (fun (x : Str) => [row v43 9 fStr l42, row v36 2 fI64 r34]) ?_ ?_
                        · clear hk73
                          refine WJ.seq ?_
                          refine WJ.quiet ?_
                          refine QJ.step (YldS.yld (y_move rfl)) rfl ?_
                          refine QJ.step (YldS.yld (y_bin rfl rfl rfl)) rfl ?_
                          refine QJ.done ?_
                          refine PJ.next ?_
                          refine WJ.cond (t := decide (x61 > 0)) rfl (fun hb74 => ?_) (fun hb74 => ?_)
                          · replace hm := ifT hm hb74
                            refine WJ.quiet ?_
                            refine QJ.step (YldS.yld (y_move rfl)) rfl ?_
                            refine QJ.step (YldS.yld (y_move rfl)) rfl ?_
                            obtain ⟨r75, h76, hm⟩ := bindS hm
                            refine QJ.step (y_call Try.call101 rfl (RetG.quiet fun w hw => ok_i_repeat h76 w )) rfl ?_
                            obtain ⟨s77, h78, hm⟩ := bindS hm
                            refine QJ.step (YldS.yld (y_cat h78 rfl rfl)) rfl ?_
                            refine QJ.step (YldS.yld (y_assign rfl)) rfl ?_
                            refine QJ.done ?_
                            exact PJ.joined s77 [0, 1] hm ⟨rfl, rfl, rfl, rfl, rfl, rfl, rfl, rfl, rfl, rfl, rfl, rfl, rfl, trivial⟩ ⟨by decide, rfl⟩
                          · replace hm := ifF hm hb74
                            refine WJ.skip ?_
                            exact PJ.joined line60 [0, 1] hm ⟨rfl, rfl, rfl, rfl, rfl, rfl, rfl, rfl, rfl, rfl, rfl, rfl, rfl, trivial⟩ ⟨by decide, rfl⟩
                        · rintro line71 hm
                          subst hk73
                          refine WJ.seq ?_
                          refine WJ.quiet ?_
                          refine QJ.step (YldS.yld (y_move rfl)) rfl ?_
                          refine QJ.step (YldS.yld (y_move rfl)) rfl ?_
                          obtain ⟨e79, h80, hm⟩ := bindS hm
                          refine QJ.step (YldS.yld (y_ixRow (k := 1) (R := fI64) rfl Try.runUnderlying27 Try.sizeOf2 rfl rfl h80)) rfl ?_
                          refine QJ.step (YldS.yld (y_loadR (k := 1) (i := (Int.toNat x61)) (off := 0) (u := .int .i64 e79) rfl Try.isAgg2 rfl (idx_get h80) rfl)) rfl ?_
                          refine QJ.step (YldS.yld (y_move rfl)) rfl ?_
                          refine QJ.step (YldS.yld (y_lenStr Try.runUnderlying9 rfl)) rfl ?_
                          refine QJ.step (YldS.yld (y_bin rfl rfl rfl)) rfl ?_
                          obtain ⟨r81, h82, hm⟩ := bindS hm
                          refine QJ.step (y_call Try.call101 rfl (RetG.quiet fun w hw => ok_i_repeat h82 w )) rfl ?_
                          refine QJ.step (YldS.yld (y_assign rfl)) rfl ?_
                          refine QJ.done ?_
                          refine PJ.next ?_
                          refine WJ.seq ?_
                          refine WJ.quiet ?_
                          refine QJ.step (YldS.yld (y_move rfl)) rfl ?_
                          refine QJ.step (YldS.yld (y_move rfl)) rfl ?_
                          obtain ⟨c83, h84, hm⟩ := bindS hm
                          refine QJ.step (YldS.yld (y_idxStr Try.runUnderlying9 rfl rfl h84)) rfl ?_
                          refine QJ.step (YldS.yld (y_bin8 c83 (108 : UInt8) rfl rfl rfl)) rfl ?_
                          refine QJ.done ?_
                          refine PJ.next ?_
                          refine WJ.cond (t := (c83 == (108 : UInt8))) rfl (fun hb85 => ?_) (fun hb85 => ?_)
                          · replace hm := ifT hm hb85
                            refine WJ.quiet ?_
                            refine QJ.step (YldS.yld (y_move rfl)) rfl ?_
                            refine QJ.step (YldS.yld (y_move rfl)) rfl ?_
                            refine QJ.step (YldS.yld (y_move rfl)) rfl ?_
                            obtain ⟨s86, h87, hm⟩ := bindS hm
                            refine QJ.step (YldS.yld (y_cat h87 rfl rfl)) rfl ?_
                            obtain ⟨s88, h89, hm⟩ := bindS hm
                            refine QJ.step (YldS.yld (y_cat h89 rfl rfl)) rfl ?_
                            refine QJ.step (YldS.yld (y_assign rfl)) rfl ?_
                            refine QJ.done ?_
                            refine PJ.block_normal ?_
                            exact PJ.joined s88 [0, 1] hm ⟨rfl, rfl, rfl, rfl, rfl, rfl, rfl, rfl, rfl, rfl, rfl, trivial⟩ ⟨by decide, rfl⟩
                          · replace hm := ifF hm hb85
                            refine WJ.quiet ?_
                            refine QJ.step (YldS.yld (y_move rfl)) rfl ?_
                            refine QJ.step (YldS.yld (y_move rfl)) rfl ?_
                            refine QJ.step (YldS.yld (y_move rfl)) rfl ?_
                            obtain ⟨s90, h91, hm⟩ := bindS hm
                            refine QJ.step (YldS.yld (y_cat h91 rfl rfl)) rfl ?_
                            obtain ⟨s92, h93, hm⟩ := bindS hm
                            refine QJ.step (YldS.yld (y_cat h93 rfl rfl)) rfl ?_
                            refine QJ.step (YldS.yld (y_assign rfl)) rfl ?_
                            refine QJ.done ?_
                            refine PJ.block_normal ?_
                            exact PJ.joined s92 [0, 1] hm ⟨rfl, rfl, rfl, rfl, rfl, rfl, rfl, rfl, rfl, rfl, rfl, trivial⟩ ⟨by decide, rfl⟩
                      · rintro line63 hm
                        subst hk65
                        refine WJ.quiet ?_
                        refine QJ.step (YldS.yld (y_bin rfl rfl rfl)) rfl ?_
                        refine QJ.step (YldS.yld (y_move rfl)) rfl ?_
                        refine QJ.done ?_
                        exact PJ.round (line63, w64 (x61 + 1)) [0, 1] hm ⟨rfl, rfl, rfl, rfl, rfl, rfl, rfl, rfl, rfl, rfl, rfl, trivial⟩ ⟨by decide, rfl⟩
                    · replace hm := ifF hm hb62
                      refine WJ.exit ?_
                      refine PJ.then_exit (PJ.then_exit (PJ.block_exit ?_))
                      exact PJ.joined line60 [0, 1] hm ⟨rfl, rfl, rfl, rfl, rfl, rfl, rfl, rfl, trivial⟩ ⟨by decide, rfl⟩
                · rintro line57 hm
                  subst hk59
                  refine WJ.reg ?_
                  refine SJ.q (YldS.yld (y_move rfl)) rfl ?_
                  refine SJ.q (YldS.yld (y_move rfl)) rfl ?_
                  refine SJ.buildSlice (R := fStr) (os := [.tmp 94]) [line57] Try.runUnderlying45 Try.sizeOf9 Try.zeroValue9 rfl rfl rfl rfl rfl rfl fun v94 => ?_
                  obtain ⟨l95, h96, hm⟩ := bindS hm
                  refine SJ.append (k := 1) (R := fStr) h96 rfl Try.underlying45 el9 rfl rfl rfl (fun w hw => (hw.row_rd (k := 0) rfl)) rfl fun v97 => ?_
                  refine SJ.q (YldS.yld (y_assign rfl)) rfl ?_
                  refine SJ.nil ?_
                  refine PJ.block_normal ?_
                  exact PJ.joined (l95, v97) [1, 2] hm ⟨rfl, rfl, rfl, rfl, rfl, rfl, rfl, trivial⟩ ⟨by decide, rfl⟩
              · rintro ⟨l46, v47⟩ hm
                subst hk49
                refine WJ.quiet ?_
                refine QJ.step (YldS.yld (y_bin rfl rfl rfl)) rfl ?_
                refine QJ.step (YldS.yld (y_move rfl)) rfl ?_
                refine QJ.done ?_
                exact PJ.round (l46, v47, w64 (x44 + 1)) [0, 1] hm ⟨rfl, rfl, rfl, rfl, rfl, rfl, rfl, trivial⟩ ⟨by decide, rfl⟩
            · replace hm := ifF hm hb45
              refine WJ.exit ?_
              refine PJ.then_exit (PJ.then_exit (PJ.block_exit ?_))
              exact PJ.joined (l42, v43) [0] hm ⟨rfl, trivial⟩ ⟨by decide, rfl⟩
        · rintro ⟨l38, v39⟩ hm
          subst hk41
          refine WJ.seq ?_
          refine WJ.quiet ?_
          refine QJ.step (YldS.yld (y_move rfl)) rfl ?_
          refine QJ.step (YldS.yld (y_assign rfl)) rfl ?_
          refine QJ.step (YldS.yld (y_assign rfl)) rfl ?_
          refine QJ.done ?_
          refine PJ.next ?_
          refine WJ.ret ?_
          obtain rfl := Option.some.inj hm
          refine PJ.sel (L' := [row v39 9 fStr l38]) [0] ⟨by decide, rfl⟩ ?_
          exact PJ.retn (vs := [v39, .int .i64 0]) Try.results25 ⟨rfl, rfl, trivial⟩ ⟨_, rfl, rfl⟩

set_option maxRecDepth 100000 in
set_option maxHeartbeats 1000000 in
theorem ok_s_l00In {n1 : Int} {low2 : Int} {high3 : Int} {r : Bool} (hm : s_l00In n1 low2 high3 = some r) (w : World)  :
    Calls Try.prog 103 #[.int .i64 n1, .int .i64 low2, .int .i64 high3] w (Ret (cx w) (.bool r)) := by
  unfold s_l00In at hm
  refine Calls.enter [.int .i64 n1, .int .i64 low2, .int .i64 high3] Try.func103 rfl Try.ntmps103 rfl ?_
  refine WJ.seq ?_
  refine WJ.quiet ?_
  refine QJ.step (YldS.yld (y_assign rfl)) rfl ?_
  refine QJ.done ?_
  refine PJ.next ?_
  refine WJ.seq ?_
  refine WJ.quiet ?_
  refine QJ.step (YldS.yld (y_move rfl)) rfl ?_
  refine QJ.step (YldS.yld (y_move rfl)) rfl ?_
  refine QJ.step (YldS.yld (y_bin rfl rfl rfl)) rfl ?_
  refine QJ.step (YldS.yld (y_move rfl)) rfl ?_
  obtain ⟨t4, h5, hm⟩ := bindS hm
  refine QJ.cut 4 [(14, .bool t4)] ?_ ?_
  · rcases Bool.eq_false_or_eq_true (decide (n1 ≥ low2)) with hb6 | hb6
    · replace h5 := andT h5 hb6
      refine QJ.on rfl rfl (cB hb6) (YldS.yld (y_move rfl)) rfl ?_
      refine QJ.on rfl rfl (cB hb6) (YldS.yld (y_move rfl)) rfl ?_
      refine QJ.on rfl rfl (cB hb6) (YldS.yld (y_bin rfl rfl rfl)) rfl ?_
      refine QJ.step (YldS.yld (y_pick_t (cB hb6) rfl)) rfl ?_
      obtain rfl := Option.some.inj h5
      exact QJ.cut_end ⟨rfl, trivial⟩
    · obtain rfl := andF h5 hb6
      refine QJ.off rfl rfl (cB hb6) rfl rfl ?_
      refine QJ.off rfl rfl (cB hb6) rfl rfl ?_
      refine QJ.off rfl rfl (cB hb6) rfl rfl ?_
      refine QJ.step (YldS.yld (y_pick_f (cB hb6) rfl)) rfl ?_
      exact QJ.cut_end ⟨rfl, trivial⟩
  refine QJ.step (YldS.yld (y_assign rfl)) rfl ?_
  refine QJ.done ?_
  refine PJ.next ?_
  refine WJ.ret ?_
  obtain rfl := Option.some.inj hm
  refine PJ.sel (L' := []) [] ⟨List.nodup_nil, rfl⟩ ?_
  exact PJ.retn (vs := [.bool t4]) Try.results103 ⟨rfl, trivial⟩ ⟨rfl, rfl⟩

set_option maxRecDepth 100000 in
set_option maxHeartbeats 1000000 in
theorem ok_s_l00Text {N : Nat} {s1 : Str} {most2 : Int} {r : Bool} (hm : s_l00Text N s1 most2 = some r) (w : World)  :
    Calls Try.prog 158 #[str s1, .int .i64 most2] w (Ret (cx w) (.bool r)) := by
  unfold s_l00Text at hm
  refine Calls.enter [str s1, .int .i64 most2] Try.func158 rfl Try.ntmps158 rfl ?_
  refine WJ.seq ?_
  refine WJ.quiet ?_
  refine QJ.step (YldS.yld (y_assign rfl)) rfl ?_
  refine QJ.done ?_
  refine PJ.next ?_
  obtain ⟨kj3, hk4, hm⟩ := withK_open hm
  refine WJ.join (X := Unit) (fun (_ : Unit) => kj3  = some r) (fun (_ : Unit) => [(0, str s1), (1, .int .i64 most2)]) (fun (_ : Unit) => []) ?_ ?_
  · clear hk4
    refine WJ.seq ?_
    refine WJ.quiet ?_
    refine QJ.step (YldS.yld (y_assign rfl)) rfl ?_
    refine QJ.done ?_
    refine PJ.next ?_
    refine WJ.block ?_
    refine WJ.sel (L' := (fun (x : Int) => []) 0) [] ⟨List.nodup_nil, rfl⟩ ?_
    refine WJ.sub (m' := (fun (x : Int) => [(0, str s1), (1, .int .i64 most2), (5, .int .i64 x)]) 0) ⟨rfl, rfl, rfl, trivial⟩ ?_
    refine WJ.loop (X := Int) (fun N (x : Int) => s_l00Text_l1 kj3 s1 N x = some r) (fun (x : Int) => [(0, str s1), (1, .int .i64 most2), (5, .int .i64 x)]) (fun (x : Int) => []) ?_ N 0 hm
    · rintro N i5 hI
      have hm := hI; clear hI
      cases N with
      | zero => cases hm
      | succ N =>
      unfold s_l00Text_l1 at hm
      refine WJ.seq ?_
      refine WJ.seq ?_
      refine WJ.quiet ?_
      refine QJ.step (YldS.yld (y_move rfl)) rfl ?_
      refine QJ.step (YldS.yld (y_move rfl)) rfl ?_
      refine QJ.step (YldS.yld (y_lenStr Try.runUnderlying9 rfl)) rfl ?_
      refine QJ.step (YldS.yld (y_bin rfl rfl rfl)) rfl ?_
      refine QJ.done ?_
      refine PJ.next ?_
      refine WJ.cond (t := decide (i5 < (List.length s1 : Int))) rfl (fun hb6 => ?_) (fun hb6 => ?_)
      · replace hm := ifT hm hb6
        refine WJ.skip ?_
        refine PJ.next ?_
        refine WJ.seq ?_
        refine WJ.block ?_
        refine WJ.seq ?_
        refine WJ.quiet ?_
        refine QJ.step (YldS.yld (y_move rfl)) rfl ?_
        refine QJ.step (YldS.yld (y_move rfl)) rfl ?_
        obtain ⟨c7, h8, hm⟩ := bindS hm
        refine QJ.step (YldS.yld (y_idxStr Try.runUnderlying9 rfl rfl h8)) rfl ?_
        refine QJ.step (YldS.yld (y_bin8 c7 (32 : UInt8) rfl rfl rfl)) rfl ?_
        refine QJ.step (YldS.yld (y_move rfl)) rfl ?_
        obtain ⟨t9, h10, hm⟩ := bindS hm
        refine QJ.cut 5 [(0, str s1), (1, .int .i64 most2), (5, .int .i64 i5), (21, .bool t9)] ?_ ?_
        · rcases Bool.eq_false_or_eq_true (decide (c7 < (32 : UInt8))) with hb11 | hb11
          · obtain rfl := orT h10 hb11
            refine QJ.off rfl rfl (cB hb11) rfl rfl ?_
            refine QJ.off rfl rfl (cB hb11) rfl rfl ?_
            refine QJ.off rfl rfl (cB hb11) rfl rfl ?_
            refine QJ.off rfl rfl (cB hb11) rfl rfl ?_
            refine QJ.step (YldS.yld (y_pick_t (cB hb11) rfl)) rfl ?_
            exact QJ.cut_end ⟨rfl, rfl, rfl, rfl, trivial⟩
          · replace h10 := orF h10 hb11
            refine QJ.on rfl rfl (cB hb11) (YldS.yld (y_move rfl)) rfl ?_
            refine QJ.on rfl rfl (cB hb11) (YldS.yld (y_move rfl)) rfl ?_
            obtain ⟨c12, h13, h10⟩ := bindS h10
            refine QJ.on rfl rfl (cB hb11) (YldS.yld (y_idxStr Try.runUnderlying9 rfl rfl h13)) rfl ?_
            refine QJ.on rfl rfl (cB hb11) (YldS.yld (y_bin8 c12 (126 : UInt8) rfl rfl rfl)) rfl ?_
            refine QJ.step (YldS.yld (y_pick_f (cB hb11) rfl)) rfl ?_
            obtain rfl := Option.some.inj h10
            exact QJ.cut_end ⟨rfl, rfl, rfl, rfl, trivial⟩
        refine QJ.done ?_
        refine PJ.next ?_
        refine WJ.cond (t := t9) rfl (fun hb14 => ?_) (fun hb14 => ?_)
        · replace hm := ifT hm hb14
          refine WJ.seq ?_
          refine WJ.quiet ?_
          refine QJ.step (YldS.yld (y_assign rfl)) rfl ?_
          refine QJ.done ?_
          refine PJ.next ?_
          refine WJ.ret ?_
          refine PJ.block_ret (PJ.then_ret (PJ.then_ret (PJ.block_ret (PJ.then_ret ?_))))
          obtain rfl := Option.some.inj hm
          refine PJ.sel (L' := []) [] ⟨List.nodup_nil, rfl⟩ ?_
          exact PJ.retn (vs := [.bool false]) Try.results158 ⟨rfl, trivial⟩ ⟨rfl, rfl⟩
        · replace hm := ifF hm hb14
          refine WJ.skip ?_
          refine PJ.block_normal (PJ.next ?_)
          refine WJ.quiet ?_
          refine QJ.step (YldS.yld (y_move rfl)) rfl ?_
          refine QJ.step (YldS.yld (y_bin rfl rfl rfl)) rfl ?_
          refine QJ.step (YldS.yld (y_assign rfl)) rfl ?_
          refine QJ.done ?_
          exact PJ.round (w64 (i5 + 1)) [] hm ⟨rfl, rfl, rfl, trivial⟩ ⟨List.nodup_nil, rfl⟩
      · replace hm := ifF hm hb6
        refine WJ.exit ?_
        refine PJ.then_exit (PJ.then_exit (PJ.block_exit ?_))
        exact PJ.joined () [] hm ⟨rfl, rfl, trivial⟩ ⟨List.nodup_nil, rfl⟩
  · rintro _ hm
    subst hk4
    refine WJ.seq ?_
    refine WJ.quiet ?_
    refine QJ.step (YldS.yld (y_move rfl)) rfl ?_
    refine QJ.step (YldS.yld (y_lenStr Try.runUnderlying9 rfl)) rfl ?_
    refine QJ.step (YldS.yld (y_move rfl)) rfl ?_
    refine QJ.step (YldS.yld (y_bin rfl rfl rfl)) rfl ?_
    refine QJ.step (YldS.yld (y_assign rfl)) rfl ?_
    refine QJ.done ?_
    refine PJ.next ?_
    refine WJ.ret ?_
    obtain rfl := Option.some.inj hm
    refine PJ.sel (L' := []) [] ⟨List.nodup_nil, rfl⟩ ?_
    exact PJ.retn (vs := [.bool (decide ((List.length s1 : Int) ≤ most2))]) Try.results158 ⟨rfl, trivial⟩ ⟨rfl, rfl⟩

set_option maxRecDepth 100000 in
set_option maxHeartbeats 1000000 in
theorem ok_s_l08Rows {N : Nat} {rows1 : List (List Str)} {r : Bool} (hm : s_l08Rows N rows1 = some r) (w : World) (v2 : Value) (hr3 : RdS w (cx w).Fz v2 (rSl fStr.rp) rows1) :
    Calls Try.prog 102 #[v2] w (Ret (cx w) (.bool r)) := by
  unfold s_l08Rows at hm
  refine Calls.enter [v2] Try.func102 rfl Try.ntmps102 rfl ?_
  refine WJ.seq ?_
  refine WJ.quiet ?_
  refine QJ.step (YldS.yld (y_assign rfl)) rfl ?_
  refine QJ.done ?_
  refine PJ.next ?_
  obtain ⟨kj4, hk5, hm⟩ := withK_open hm
  refine WJ.join (X := Unit) (fun (_ : Unit) => kj4  = some r) (fun (_ : Unit) => [(0, v2)]) (fun (_ : Unit) => []) ?_ ?_
  · clear hk5
    refine WJ.seq ?_
    refine WJ.quiet ?_
    refine QJ.step (YldS.yld (y_assign rfl)) rfl ?_
    refine QJ.done ?_
    refine PJ.next ?_
    refine WJ.block ?_
    refine WJ.sel (L' := (fun (x : Int) => []) 0) [] ⟨List.nodup_nil, rfl⟩ ?_
    refine WJ.sub (m' := (fun (x : Int) => [(0, v2), (3, .int .i64 x)]) 0) ⟨rfl, rfl, trivial⟩ ?_
    refine WJ.loop (X := Int) (fun N (x : Int) => s_l08Rows_l1 kj4 rows1 N x = some r) (fun (x : Int) => [(0, v2), (3, .int .i64 x)]) (fun (x : Int) => []) ?_ N 0 hm
    · rintro N i6 hI
      have hm := hI; clear hI
      cases N with
      | zero => cases hm
      | succ N =>
      unfold s_l08Rows_l1 at hm
      refine WJ.seq ?_
      refine WJ.seq ?_
      refine WJ.quiet ?_
      refine QJ.step (YldS.yld (y_move rfl)) rfl ?_
      refine QJ.step (YldS.yld (y_move rfl)) rfl ?_
      refine QJ.step (YldS.yld (y_lenS Try.runUnderlying42 hr3 rfl)) rfl ?_
      refine QJ.step (YldS.yld (y_bin rfl rfl rfl)) rfl ?_
      refine QJ.done ?_
      refine PJ.next ?_
      refine WJ.cond (t := decide (i6 < (List.length rows1 : Int))) rfl (fun hb7 => ?_) (fun hb7 => ?_)
      · replace hm := ifT hm hb7
        refine WJ.skip ?_
        refine PJ.next ?_
        obtain ⟨kj8, hk9, hm⟩ := withK_open hm
        refine WJ.join (X := Unit) (fun (_ : Unit) => kj8  = some r) (fun (_ : Unit) => [(0, v2), (3, .int .i64 i6)]) (fun (_ : Unit) => []) ?_ ?_
        · clear hk9
          refine WJ.block ?_
          refine WJ.seq ?_
          refine WJ.seq ?_
          refine WJ.quiet_draw follows (by kernel_rfl) ?_
          refine QJ.step (YldS.yld (y_move rfl)) rfl ?_
          refine QJ.step (YldS.yld (y_move rfl)) rfl ?_
          obtain ⟨e10, h11, hm⟩ := bindS hm
          obtain ⟨ad12, _, ⟨v15, rfl, hr16⟩, ha13, hy14⟩ := hr3.elem h11
          refine QJ.step (YldS.yld (hy14 Try.runUnderlying42 Try.sizeOf45 rfl rfl)) rfl ?_
          refine QJ.step (YldS.yld (y_load1 (v := v15) Try.isAgg45 ha13 St.frozenC rfl)) rfl ?_
          refine QJ.step (YldS.yld (y_lenS Try.runUnderlying45 hr16 rfl)) rfl ?_
          refine QJ.step (YldS.yld (y_move rfl)) rfl ?_
          obtain ⟨e17, h18, hm⟩ := bindS hm
          obtain ⟨ad19, _, ⟨v22, rfl, hr23⟩, ha20, hy21⟩ := hr3.elem h18
          refine QJ.step (YldS.yld (hy21 Try.runUnderlying42 Try.sizeOf45 rfl rfl)) rfl ?_
          refine QJ.step (YldS.yld (y_load1 (v := v22) Try.isAgg45 ha20 St.frozenC rfl)) rfl ?_
          refine QJ.step (YldS.yld (y_lenS Try.runUnderlying45 hr23 rfl)) rfl ?_
          refine QJ.step (YldS.yld (y_bin rfl rfl rfl)) rfl ?_
          refine QJ.step (YldS.yld (y_move rfl)) rfl ?_
          obtain ⟨t24, h25, hm⟩ := bindS hm
          refine QJ.cut 8 [(0, v2), (3, .int .i64 i6), (29, .bool t24)] ?_ ?_
          · rcases Bool.eq_false_or_eq_true ((List.length e10 : Int) != (List.length e17 : Int)) with hb26 | hb26
            · obtain rfl := orT h25 hb26
              refine QJ.off rfl rfl (cB hb26) rfl rfl ?_
              refine QJ.off rfl rfl (cB hb26) rfl rfl ?_
              refine QJ.off rfl rfl (cB hb26) rfl rfl ?_
              refine QJ.off rfl rfl (cB hb26) rfl rfl ?_
              refine QJ.off rfl rfl (cB hb26) rfl rfl ?_
              refine QJ.off rfl rfl (cB hb26) rfl rfl ?_
              refine QJ.off rfl rfl (cB hb26) rfl rfl ?_
              refine QJ.step (YldS.yld (y_pick_t (cB hb26) rfl)) rfl ?_
              exact QJ.cut_end ⟨rfl, rfl, rfl, trivial⟩
            · replace h25 := orF h25 hb26
              refine QJ.on rfl rfl (cB hb26) (YldS.yld (y_move rfl)) rfl ?_
              refine QJ.on rfl rfl (cB hb26) (YldS.yld (y_move rfl)) rfl ?_
              obtain ⟨e27, h28, h25⟩ := bindS h25
              obtain ⟨ad29, _, ⟨v32, rfl, hr33⟩, ha30, hy31⟩ := hr3.elem h28
              refine QJ.on rfl rfl (cB hb26) (YldS.yld (hy31 Try.runUnderlying42 Try.sizeOf45 rfl rfl)) rfl ?_
              refine QJ.on rfl rfl (cB hb26) (YldS.yld (y_load1 (v := v32) Try.isAgg45 ha30 St.frozenC rfl)) rfl ?_
              refine QJ.on rfl rfl (cB hb26) (YldS.yld (y_lenS Try.runUnderlying45 hr33 rfl)) rfl ?_
              obtain ⟨r34, h35, h25⟩ := bindS h25
              refine QJ.on rfl rfl (cB hb26) (y_call Try.call103 rfl (RetG.quiet fun w hw => ok_s_l00In h35 w )) rfl ?_
              refine QJ.on rfl rfl (cB hb26) (YldS.yld (y_not rfl)) rfl ?_
              refine QJ.step (YldS.yld (y_pick_f (cB hb26) rfl)) rfl ?_
              obtain rfl := Option.some.inj h25
              exact QJ.cut_end ⟨rfl, rfl, rfl, trivial⟩
          refine QJ.done ?_
          refine PJ.next ?_
          refine WJ.cond (t := t24) rfl (fun hb36 => ?_) (fun hb36 => ?_)
          · replace hm := ifT hm hb36
            refine WJ.seq ?_
            refine WJ.quiet ?_
            refine QJ.step (YldS.yld (y_assign rfl)) rfl ?_
            refine QJ.done ?_
            refine PJ.next ?_
            refine WJ.ret ?_
            refine PJ.then_ret (PJ.block_ret (PJ.then_ret (PJ.then_ret (PJ.block_ret (PJ.then_ret ?_)))))
            obtain rfl := Option.some.inj hm
            refine PJ.sel (L' := []) [] ⟨List.nodup_nil, rfl⟩ ?_
            exact PJ.retn (vs := [.bool false]) Try.results102 ⟨rfl, trivial⟩ ⟨rfl, rfl⟩
          · replace hm := ifF hm hb36
            refine WJ.skip ?_
            refine PJ.next ?_
            refine WJ.seq ?_
            refine WJ.quiet ?_
            refine QJ.step (YldS.yld (y_assign rfl)) rfl ?_
            refine QJ.done ?_
            refine PJ.next ?_
            refine WJ.block ?_
            refine WJ.sel (L' := (fun (x : Int) => []) 0) [] ⟨List.nodup_nil, rfl⟩ ?_
            refine WJ.sub (m' := (fun (x : Int) => [(0, v2), (3, .int .i64 i6), (4, .int .i64 x)]) 0) ⟨rfl, rfl, rfl, trivial⟩ ?_
            refine WJ.loop (X := Int) (fun N (x : Int) => s_l08Rows_l2 kj8 rows1 i6 N x = some r) (fun (x : Int) => [(0, v2), (3, .int .i64 i6), (4, .int .i64 x)]) (fun (x : Int) => []) ?_ N 0 hm
            · rintro N k37 hI
              have hm := hI; clear hI
              cases N with
              | zero => cases hm
              | succ N =>
              unfold s_l08Rows_l2 at hm
              refine WJ.seq ?_
              refine WJ.seq ?_
              refine WJ.quiet ?_
              refine QJ.step (YldS.yld (y_move rfl)) rfl ?_
              refine QJ.step (YldS.yld (y_move rfl)) rfl ?_
              refine QJ.step (YldS.yld (y_move rfl)) rfl ?_
              obtain ⟨e38, h39, hm⟩ := bindS hm
              obtain ⟨ad40, _, ⟨v43, rfl, hr44⟩, ha41, hy42⟩ := hr3.elem h39
              refine QJ.step (YldS.yld (hy42 Try.runUnderlying42 Try.sizeOf45 rfl rfl)) rfl ?_
              refine QJ.step (YldS.yld (y_load1 (v := v43) Try.isAgg45 ha41 St.frozenC rfl)) rfl ?_
              refine QJ.step (YldS.yld (y_lenS Try.runUnderlying45 hr44 rfl)) rfl ?_
              refine QJ.step (YldS.yld (y_bin rfl rfl rfl)) rfl ?_
              refine QJ.done ?_
              refine PJ.next ?_
              refine WJ.cond (t := decide (k37 < (List.length e38 : Int))) rfl (fun hb45 => ?_) (fun hb45 => ?_)
              · replace hm := ifT hm hb45
                refine WJ.skip ?_
                refine PJ.next ?_
                refine WJ.seq ?_
                refine WJ.block ?_
                refine WJ.seq ?_
                refine WJ.quiet ?_
                refine QJ.step (YldS.yld (y_move rfl)) rfl ?_
                refine QJ.step (YldS.yld (y_move rfl)) rfl ?_
                obtain ⟨e46, h47, hm⟩ := bindS hm
                obtain ⟨ad48, _, ⟨v51, rfl, hr52⟩, ha49, hy50⟩ := hr3.elem h47
                refine QJ.step (YldS.yld (hy50 Try.runUnderlying42 Try.sizeOf45 rfl rfl)) rfl ?_
                refine QJ.step (YldS.yld (y_load1 (v := v51) Try.isAgg45 ha49 St.frozenC rfl)) rfl ?_
                refine QJ.step (YldS.yld (y_move rfl)) rfl ?_
                obtain ⟨e53, h54, hm⟩ := bindS hm
                obtain ⟨ad55, _, rfl, ha56, hy57⟩ := hr52.elem h54
                refine QJ.step (YldS.yld (hy57 Try.runUnderlying45 Try.sizeOf9 rfl rfl)) rfl ?_
                refine QJ.step (YldS.yld (y_load1 (v := str e53) Try.isAgg9 ha56 St.frozenC rfl)) rfl ?_
                obtain ⟨r58, h59, hm⟩ := bindS hm
                refine QJ.step (y_call Try.call158 rfl (RetG.quiet fun w hw => ok_s_l00Text h59 w )) rfl ?_
                refine QJ.step (YldS.yld (y_not rfl)) rfl ?_
                refine QJ.done ?_
                refine PJ.next ?_
                refine WJ.cond (t := !r58) rfl (fun hb60 => ?_) (fun hb60 => ?_)
                · replace hm := ifT hm hb60
                  refine WJ.seq ?_
                  refine WJ.quiet ?_
                  refine QJ.step (YldS.yld (y_assign rfl)) rfl ?_
                  refine QJ.done ?_
                  refine PJ.next ?_
                  refine WJ.ret ?_
                  refine PJ.block_ret (PJ.then_ret (PJ.then_ret (PJ.block_ret (PJ.block_ret (PJ.then_ret (PJ.then_ret (PJ.block_ret (PJ.then_ret ?_))))))))
                  obtain rfl := Option.some.inj hm
                  refine PJ.sel (L' := []) [] ⟨List.nodup_nil, rfl⟩ ?_
                  exact PJ.retn (vs := [.bool false]) Try.results102 ⟨rfl, trivial⟩ ⟨rfl, rfl⟩
                · replace hm := ifF hm hb60
                  refine WJ.skip ?_
                  refine PJ.block_normal (PJ.next ?_)
                  refine WJ.quiet ?_
                  refine QJ.step (YldS.yld (y_move rfl)) rfl ?_
                  refine QJ.step (YldS.yld (y_bin rfl rfl rfl)) rfl ?_
                  refine QJ.step (YldS.yld (y_assign rfl)) rfl ?_
                  refine QJ.done ?_
                  exact PJ.round (w64 (k37 + 1)) [] hm ⟨rfl, rfl, rfl, trivial⟩ ⟨List.nodup_nil, rfl⟩
              · replace hm := ifF hm hb45
                refine WJ.exit ?_
                refine PJ.then_exit (PJ.then_exit (PJ.block_exit (PJ.block_normal ?_)))
                exact PJ.joined () [] hm ⟨rfl, rfl, trivial⟩ ⟨List.nodup_nil, rfl⟩
        · rintro _ hm
          subst hk9
          refine WJ.quiet ?_
          refine QJ.step (YldS.yld (y_move rfl)) rfl ?_
          refine QJ.step (YldS.yld (y_bin rfl rfl rfl)) rfl ?_
          refine QJ.step (YldS.yld (y_assign rfl)) rfl ?_
          refine QJ.done ?_
          exact PJ.round (w64 (i6 + 1)) [] hm ⟨rfl, rfl, trivial⟩ ⟨List.nodup_nil, rfl⟩
      · replace hm := ifF hm hb7
        refine WJ.exit ?_
        refine PJ.then_exit (PJ.then_exit (PJ.block_exit ?_))
        exact PJ.joined () [] hm ⟨rfl, trivial⟩ ⟨List.nodup_nil, rfl⟩
  · rintro _ hm
    subst hk5
    refine WJ.seq ?_
    refine WJ.quiet ?_
    refine QJ.step (YldS.yld (y_move rfl)) rfl ?_
    refine QJ.step (YldS.yld (y_lenS Try.runUnderlying42 hr3 rfl)) rfl ?_
    obtain ⟨r61, h62, hm⟩ := bindS hm
    refine QJ.step (y_call Try.call103 rfl (RetG.quiet fun w hw => ok_s_l00In h62 w )) rfl ?_
    refine QJ.step (YldS.yld (y_assign rfl)) rfl ?_
    refine QJ.done ?_
    refine PJ.next ?_
    refine WJ.ret ?_
    obtain rfl := Option.some.inj hm
    refine PJ.sel (L' := []) [] ⟨List.nodup_nil, rfl⟩ ?_
    exact PJ.retn (vs := [.bool r61]) Try.results102 ⟨rfl, trivial⟩ ⟨rfl, rfl⟩

set_option maxRecDepth 100000 in
set_option maxHeartbeats 1000000 in
theorem ok_s_l00Max {a1 : Int} {b2 : Int} {r : Int} (hm : s_l00Max a1 b2 = some r) (w : World)  :
    Calls Try.prog 116 #[.int .i64 a1, .int .i64 b2] w (Ret (cx w) (.int .i64 r)) := by
  unfold s_l00Max at hm
  refine Calls.enter [.int .i64 a1, .int .i64 b2] Try.func116 rfl Try.ntmps116 rfl ?_
  refine WJ.seq ?_
  refine WJ.quiet ?_
  refine QJ.step (YldS.yld (y_assign rfl)) rfl ?_
  refine QJ.done ?_
  refine PJ.next ?_
  refine WJ.seq ?_
  refine WJ.seq ?_
  refine WJ.quiet ?_
  refine QJ.step (YldS.yld (y_move rfl)) rfl ?_
  refine QJ.step (YldS.yld (y_move rfl)) rfl ?_
  refine QJ.step (YldS.yld (y_bin rfl rfl rfl)) rfl ?_
  refine QJ.done ?_
  refine PJ.next ?_
  refine WJ.cond (t := decide (a1 > b2)) rfl (fun hb3 => ?_) (fun hb3 => ?_)
  · replace hm := ifT hm hb3
    refine WJ.seq ?_
    refine WJ.quiet ?_
    refine QJ.step (YldS.yld (y_move rfl)) rfl ?_
    refine QJ.step (YldS.yld (y_assign rfl)) rfl ?_
    refine QJ.done ?_
    refine PJ.next ?_
    refine WJ.ret ?_
    refine PJ.then_ret ?_
    obtain rfl := Option.some.inj hm
    refine PJ.sel (L' := []) [] ⟨List.nodup_nil, rfl⟩ ?_
    exact PJ.retn (vs := [.int .i64 a1]) Try.results116 ⟨rfl, trivial⟩ ⟨rfl, rfl⟩
  · replace hm := ifF hm hb3
    refine WJ.skip ?_
    refine PJ.next ?_
    refine WJ.seq ?_
    refine WJ.quiet ?_
    refine QJ.step (YldS.yld (y_move rfl)) rfl ?_
    refine QJ.step (YldS.yld (y_assign rfl)) rfl ?_
    refine QJ.done ?_
    refine PJ.next ?_
    refine WJ.ret ?_
    obtain rfl := Option.some.inj hm
    refine PJ.sel (L' := []) [] ⟨List.nodup_nil, rfl⟩ ?_
    exact PJ.retn (vs := [.int .i64 b2]) Try.results116 ⟨rfl, trivial⟩ ⟨rfl, rfl⟩

set_option maxRecDepth 100000 in
set_option maxHeartbeats 1000000 in
theorem ok_s_l08Widths {N : Nat} {rows1 : List (List Str)} {r : (List Int)} (hm : s_l08Widths N rows1 = some r) (w : World) (v2 : Value) (hr3 : RdS w (cx w).Fz v2 (rSl fStr.rp) rows1) :
    Calls Try.prog 104 #[v2] w (RetG (cx w) fun u L => ∃ (u1 : Value), (u = u1 ∧ L = [row u1 2 fI64 r])) := by
  unfold s_l08Widths at hm
  refine Calls.enter [v2] Try.func104 rfl Try.ntmps104 rfl ?_
  refine WJ.seq ?_
  refine WJ.quiet ?_
  refine QJ.step (YldS.yld (y_assign rfl)) rfl ?_
  refine QJ.done ?_
  refine PJ.next ?_
  refine WJ.seq ?_
  refine WJ.reg ?_
  refine SJ.q (YldS.yld (y_move rfl)) rfl ?_
  obtain ⟨e4, h5, hm⟩ := bindS hm
  obtain ⟨ad6, _, ⟨v9, rfl, hr10⟩, ha7, hy8⟩ := hr3.elem h5
  refine SJ.q (YldS.yld (hy8 Try.runUnderlying42 Try.sizeOf45 rfl rfl)) rfl ?_
  refine SJ.q (YldS.yld (y_load1 (v := v9) Try.isAgg45 ha7 St.frozenC rfl)) rfl ?_
  refine SJ.q (YldS.yld (y_lenS Try.runUnderlying45 hr10 rfl)) rfl ?_
  obtain ⟨l11, h12, hm⟩ := bindS hm
  refine SJ.makeSlice (R := fI64) (z := 0) h12 Try.underlying27 el2 rfl rfl rfl fun v13 => ?_
  refine SJ.q (YldS.yld (y_assign rfl)) rfl ?_
  refine SJ.nil ?_
  refine PJ.next ?_
  obtain ⟨kj15, hk16, hm⟩ := withK_open hm
  refine WJ.join (X := (List Int)) (fun (x : (List Int)) => kj15 x = some r) (fun (x : (List Int)) => [(3, v13)]) (fun (x : (List Int)) => [row v13 2 fI64 x]) ?_ ?_
  · clear hk16
    refine WJ.seq ?_
    refine WJ.quiet ?_
    refine QJ.step (YldS.yld (y_assign rfl)) rfl ?_
    refine QJ.done ?_
    refine PJ.next ?_
    refine WJ.block ?_
    refine WJ.sel (L' := (fun (x : (List Int) × Int) => [row v13 2 fI64 x.1]) (l11, 0)) [0] ⟨by decide, rfl⟩ ?_
    refine WJ.sub (m' := (fun (x : (List Int) × Int) => [(0, v2), (3, v13), (4, .int .i64 x.2)]) (l11, 0)) ⟨rfl, rfl, rfl, trivial⟩ ?_
    refine WJ.loop (X := (List Int) × Int) (fun N (x : (List Int) × Int) => s_l08Widths_l1 kj15 rows1 N x.1 x.2 = some r) (fun (x : (List Int) × Int) => [(0, v2), (3, v13), (4, .int .i64 x.2)]) (fun (x : (List Int) × Int) => [row v13 2 fI64 x.1]) ?_ N (l11, 0) hm
    · rintro N ⟨l17, i18⟩ hI
      have hm := hI; clear hI
      cases N with
      | zero => cases hm
      | succ N =>
      unfold s_l08Widths_l1 at hm
      refine WJ.seq ?_
      refine WJ.seq ?_
      refine WJ.quiet ?_
      refine QJ.step (YldS.yld (y_move rfl)) rfl ?_
      refine QJ.step (YldS.yld (y_move rfl)) rfl ?_
      refine QJ.step (YldS.yld (y_lenS Try.runUnderlying42 hr3 rfl)) rfl ?_
      refine QJ.step (YldS.yld (y_bin rfl rfl rfl)) rfl ?_
      refine QJ.done ?_
      refine PJ.next ?_
      refine WJ.cond (t := decide (i18 < (List.length rows1 : Int))) rfl (fun hb19 => ?_) (fun hb19 => ?_)
      · replace hm := ifT hm hb19
        refine WJ.skip ?_
        refine PJ.next ?_
        obtain ⟨kj21, hk22, hm⟩ := withK_open hm
        refine WJ.join (X := (List Int)) (fun (x : (List Int)) => kj21 x = some r) (fun (x : (List Int)) => [(0, v2), (3, v13), (4, .int .i64 i18)]) (fun (x : (List Int)) => [row v13 2 fI64 x]) ?_ ?_
        · clear hk22
          refine WJ.block ?_
          refine WJ.seq ?_
          refine WJ.quiet ?_
          refine QJ.step (YldS.yld (y_assign rfl)) rfl ?_
          refine QJ.done ?_
          refine PJ.next ?_
          refine WJ.block ?_
          refine WJ.sel (L' := (fun (x : (List Int) × Int) => [row v13 2 fI64 x.1]) (l17, 0)) [0] ⟨by decide, rfl⟩ ?_
          refine WJ.sub (m' := (fun (x : (List Int) × Int) => [(0, v2), (3, v13), (4, .int .i64 i18), (5, .int .i64 x.2)]) (l17, 0)) ⟨rfl, rfl, rfl, rfl, trivial⟩ ?_
          refine WJ.loop (X := (List Int) × Int) (fun N (x : (List Int) × Int) => s_l08Widths_l2 kj21 rows1 i18 N x.1 x.2 = some r) (fun (x : (List Int) × Int) => [(0, v2), (3, v13), (4, .int .i64 i18), (5, .int .i64 x.2)]) (fun (x : (List Int) × Int) => [row v13 2 fI64 x.1]) ?_ N (l17, 0) hm
          · rintro N ⟨l23, k24⟩ hI
            have hm := hI; clear hI
            cases N with
            | zero => cases hm
            | succ N =>
            unfold s_l08Widths_l2 at hm
            refine WJ.seq ?_
            refine WJ.seq ?_
            refine WJ.quiet ?_
            refine QJ.step (YldS.yld (y_move rfl)) rfl ?_
            refine QJ.step (YldS.yld (y_move rfl)) rfl ?_
            refine QJ.step (YldS.yld (y_move rfl)) rfl ?_
            obtain ⟨e25, h26, hm⟩ := bindS hm
            obtain ⟨ad27, _, ⟨v30, rfl, hr31⟩, ha28, hy29⟩ := hr3.elem h26
            refine QJ.step (YldS.yld (hy29 Try.runUnderlying42 Try.sizeOf45 rfl rfl)) rfl ?_
            refine QJ.step (YldS.yld (y_load1 (v := v30) Try.isAgg45 ha28 St.frozenC rfl)) rfl ?_
            refine QJ.step (YldS.yld (y_lenS Try.runUnderlying45 hr31 rfl)) rfl ?_
            refine QJ.step (YldS.yld (y_bin rfl rfl rfl)) rfl ?_
            refine QJ.done ?_
            refine PJ.next ?_
            refine WJ.cond (t := decide (k24 < (List.length e25 : Int))) rfl (fun hb32 => ?_) (fun hb32 => ?_)
            · replace hm := ifT hm hb32
              refine WJ.skip ?_
              refine PJ.next ?_
              refine WJ.seq ?_
              refine WJ.block ?_
              obtain ⟨e33, h34, hm⟩ := bindS hm
              obtain ⟨e35, h36, hm⟩ := bindS hm
              obtain ⟨ad37, _, ⟨v40, rfl, hr41⟩, ha38, hy39⟩ := hr3.elem h36
              obtain ⟨e42, h43, hm⟩ := bindS hm
              obtain ⟨ad44, _, rfl, ha45, hy46⟩ := hr41.elem h43
              obtain ⟨r47, h48, hm⟩ := bindS hm
              obtain ⟨e49, h50, hm⟩ := bindS hm
              refine WJ.draws (N := 17) (listed0 := #[false, false, false, false, false, false, false, false, false, false, false, false, false, false, false, false, false]) [] follows rfl rfl ?_
              refine RJ.first 0 (listed' := #[true, false, false, false, false, false, false, false, false, false, false, false, false, false, false, false, false]) [] rfl (by kernel_rfl) rfl ⟨List.nodup_nil, rfl⟩ (y_move rfl) rfl ?_
              refine RJ.first 1 (listed' := #[true, true, false, false, false, false, false, false, false, false, false, false, false, false, false, false, false]) [] rfl (by kernel_rfl) rfl ⟨List.nodup_nil, rfl⟩ (y_move rfl) rfl ?_
              refine RJ.first 2 (listed' := #[true, true, true, false, false, false, false, false, false, false, false, false, false, false, false, false, false]) [] rfl (by kernel_rfl) rfl ⟨List.nodup_nil, rfl⟩ (y_move rfl) rfl ?_
              refine RJ.first 3 (listed' := #[true, true, true, true, false, false, false, false, false, false, false, false, false, false, false, false, false]) [] rfl (by kernel_rfl) rfl ⟨List.nodup_nil, rfl⟩ (y_move rfl) rfl ?_
              refine RJ.first 6 (listed' := #[true, true, true, true, false, false, true, false, false, false, false, false, false, false, false, false, false]) [] rfl (by kernel_rfl) rfl ⟨List.nodup_nil, rfl⟩ (y_move rfl) rfl ?_
              refine RJ.first 7 (listed' := #[true, true, true, true, false, false, true, true, false, false, false, false, false, false, false, false, false]) [] rfl (by kernel_rfl) rfl ⟨List.nodup_nil, rfl⟩ (y_move rfl) rfl ?_
              refine RJ.first 8 (listed' := #[true, true, true, true, false, false, true, true, true, false, false, false, false, false, false, false, false]) [] rfl (by kernel_rfl) rfl ⟨List.nodup_nil, rfl⟩ (hy39 Try.runUnderlying42 Try.sizeOf45 rfl rfl) rfl ?_
              refine RJ.first 9 (listed' := #[true, true, true, true, false, false, true, true, true, true, false, false, false, false, false, false, false]) [] rfl (by kernel_rfl) rfl ⟨List.nodup_nil, rfl⟩ (y_load1 (v := v40) Try.isAgg45 ha38 St.frozenC rfl) rfl ?_
              refine RJ.first 10 (listed' := #[true, true, true, true, false, false, true, true, true, true, true, false, false, false, false, false, false]) [] rfl (by kernel_rfl) rfl ⟨List.nodup_nil, rfl⟩ (y_move rfl) rfl ?_
              refine RJ.first 11 (listed' := #[true, true, true, true, false, false, true, true, true, true, true, true, false, false, false, false, false]) [] rfl (by kernel_rfl) rfl ⟨List.nodup_nil, rfl⟩ (hy46 Try.runUnderlying45 Try.sizeOf9 rfl rfl) rfl ?_
              refine RJ.first 12 (listed' := #[true, true, true, true, false, false, true, true, true, true, true, true, true, false, false, false, false]) [] rfl (by kernel_rfl) rfl ⟨List.nodup_nil, rfl⟩ (y_load1 (v := str e42) Try.isAgg9 ha45 St.frozenC rfl) rfl ?_
              refine RJ.first 13 (listed' := #[true, true, true, true, false, false, true, true, true, true, true, true, true, true, false, false, false]) [] rfl (by kernel_rfl) rfl ⟨List.nodup_nil, rfl⟩ (y_lenStr Try.runUnderlying9 rfl) rfl ?_
              refine RJ.step1 4 [] (by kernel_rfl) ⟨List.nodup_nil, rfl⟩ ?_
              refine RO.of (listed' := #[true, true, true, true, true, false, true, true, true, true, true, true, true, true, false, false, false]) rfl rfl ?_
              refine SJ.q (YldS.yld (y_ixRow (k := 0) (R := fI64) rfl Try.runUnderlying27 Try.sizeOf2 rfl rfl h34)) rfl ?_
              refine SJ.nil ?_
              refine PJ.draw ?_
              refine RJ.step1 5 [] (by kernel_rfl) ⟨List.nodup_nil, rfl⟩ ?_
              refine RO.of (listed' := #[true, true, true, true, true, true, true, true, true, true, true, true, true, true, false, false, false]) rfl rfl ?_
              refine SJ.q (YldS.yld (y_loadR (k := 0) (i := (Int.toNat k24)) (off := 0) (u := .int .i64 e33) rfl Try.isAgg2 rfl (idx_get h34) rfl)) rfl ?_
              refine SJ.nil ?_
              refine PJ.draw ?_
              refine RJ.step1 14 [] (by kernel_rfl) ⟨List.nodup_nil, rfl⟩ ?_
              refine RO.of (listed' := #[true, true, true, true, true, true, true, true, true, true, true, true, true, true, true, false, false]) rfl rfl ?_
              refine SJ.q (y_call Try.call116 rfl (RetG.quiet fun w hw => ok_s_l00Max h48 w )) rfl ?_
              refine SJ.nil ?_
              refine PJ.draw ?_
              refine RJ.step1 15 [] (by kernel_rfl) ⟨List.nodup_nil, rfl⟩ ?_
              refine RO.of (listed' := #[true, true, true, true, true, true, true, true, true, true, true, true, true, true, true, true, false]) rfl rfl ?_
              refine SJ.q (YldS.yld (y_ixRow (k := 0) (R := fI64) rfl Try.runUnderlying27 Try.sizeOf2 rfl rfl h50)) rfl ?_
              refine SJ.nil ?_
              refine PJ.draw ?_
              refine RJ.step1 16 [] (by kernel_rfl) ⟨List.nodup_nil, rfl⟩ ?_
              refine RO.of (listed' := #[true, true, true, true, true, true, true, true, true, true, true, true, true, true, true, true, true]) rfl rfl ?_
              refine SJ.storeRL (k := 0) (i := (Int.toNat k24)) (off := 0) (us := [.int .i64 r47]) (b := r47) rfl rfl (idx_get h50) rfl rfl Try.sizeOf2 rfl rfl rfl ?_
              refine SJ.nil ?_
              refine PJ.draw ?_
              refine RJ.fin [] (by kernel_rfl) ⟨List.nodup_nil, rfl⟩ ?_
              refine PJ.block_normal (PJ.next ?_)
              refine WJ.quiet ?_
              refine QJ.step (YldS.yld (y_move rfl)) rfl ?_
              refine QJ.step (YldS.yld (y_bin rfl rfl rfl)) rfl ?_
              refine QJ.step (YldS.yld (y_assign rfl)) rfl ?_
              refine QJ.done ?_
              exact PJ.round ((List.set l23 (Int.toNat k24) r47), w64 (k24 + 1)) [0] hm ⟨rfl, rfl, rfl, rfl, trivial⟩ ⟨by decide, rfl⟩
            · replace hm := ifF hm hb32
              refine WJ.exit ?_
              refine PJ.then_exit (PJ.then_exit (PJ.block_exit (PJ.block_normal ?_)))
              exact PJ.joined l23 [0] hm ⟨rfl, rfl, rfl, trivial⟩ ⟨by decide, rfl⟩
        · rintro l20 hm
          subst hk22
          refine WJ.quiet ?_
          refine QJ.step (YldS.yld (y_move rfl)) rfl ?_
          refine QJ.step (YldS.yld (y_bin rfl rfl rfl)) rfl ?_
          refine QJ.step (YldS.yld (y_assign rfl)) rfl ?_
          refine QJ.done ?_
          exact PJ.round (l20, w64 (i18 + 1)) [0] hm ⟨rfl, rfl, rfl, trivial⟩ ⟨by decide, rfl⟩
      · replace hm := ifF hm hb19
        refine WJ.exit ?_
        refine PJ.then_exit (PJ.then_exit (PJ.block_exit ?_))
        exact PJ.joined l17 [0] hm ⟨rfl, trivial⟩ ⟨by decide, rfl⟩
  · rintro l14 hm
    subst hk16
    refine WJ.seq ?_
    refine WJ.quiet ?_
    refine QJ.step (YldS.yld (y_move rfl)) rfl ?_
    refine QJ.step (YldS.yld (y_assign rfl)) rfl ?_
    refine QJ.done ?_
    refine PJ.next ?_
    refine WJ.ret ?_
    obtain rfl := Option.some.inj hm
    refine PJ.sel (L' := [row v13 2 fI64 l14]) [0] ⟨by decide, rfl⟩ ?_
    exact PJ.retn (vs := [v13]) Try.results104 ⟨rfl, trivial⟩ ⟨_, rfl, rfl⟩

set_option maxRecDepth 100000 in
set_option maxHeartbeats 1000000 in
theorem ok_s_l08Blanks {N : Nat} {n1 : Int} {r : Str} (hm : s_l08Blanks N n1 = some r) (w : World)  :
    Calls Try.prog 105 #[.int .i64 n1] w (Ret (cx w) (str r)) := by
  unfold s_l08Blanks at hm
  refine Calls.enter [.int .i64 n1] Try.func105 rfl Try.ntmps105 rfl ?_
  refine WJ.seq ?_
  refine WJ.quiet ?_
  refine QJ.step (YldS.yld (y_assign rfl)) rfl ?_
  refine QJ.done ?_
  refine PJ.next ?_
  refine WJ.seq ?_
  refine WJ.reg ?_
  refine SJ.buildSlice (R := fByte) (os := []) [] Try.runUnderlying22 Try.sizeOf5 Try.zeroValue5 rfl rfl rfl rfl rfl rfl fun v2 => ?_
  refine SJ.q (YldS.yld (y_assign rfl)) rfl ?_
  refine SJ.nil ?_
  refine PJ.next ?_
  obtain ⟨kj5, hk6, hm⟩ := withK_open hm
  refine WJ.join (X := (List UInt8) × Value) (fun (x : (List UInt8) × Value) => kj5 x.1 = some r) (fun (x : (List UInt8) × Value) => [(3, x.2)]) (fun (x : (List UInt8) × Value) => [row x.2 5 fByte x.1]) ?_ ?_
  · clear hk6
    refine WJ.seq ?_
    refine WJ.quiet ?_
    refine QJ.step (YldS.yld (y_assign rfl)) rfl ?_
    refine QJ.done ?_
    refine PJ.next ?_
    refine WJ.block ?_
    refine WJ.sel (L' := (fun (x : (List UInt8) × Value × Int) => [row x.2.1 5 fByte x.1]) ([], v2, 0)) [0] ⟨by decide, rfl⟩ ?_
    refine WJ.sub (m' := (fun (x : (List UInt8) × Value × Int) => [(0, .int .i64 n1), (3, x.2.1), (4, .int .i64 x.2.2)]) ([], v2, 0)) ⟨rfl, rfl, rfl, trivial⟩ ?_
    refine WJ.loop (X := (List UInt8) × Value × Int) (fun N (x : (List UInt8) × Value × Int) => s_l08Blanks_l1 kj5 n1 N x.1 x.2.2 = some r) (fun (x : (List UInt8) × Value × Int) => [(0, .int .i64 n1), (3, x.2.1), (4, .int .i64 x.2.2)]) (fun (x : (List UInt8) × Value × Int) => [row x.2.1 5 fByte x.1]) ?_ N ([], v2, 0) hm
    · rintro N ⟨l7, v8, k9⟩ hI
      have hm := hI; clear hI
      cases N with
      | zero => cases hm
      | succ N =>
      unfold s_l08Blanks_l1 at hm
      refine WJ.seq ?_
      refine WJ.seq ?_
      refine WJ.quiet ?_
      refine QJ.step (YldS.yld (y_move rfl)) rfl ?_
      refine QJ.step (YldS.yld (y_move rfl)) rfl ?_
      refine QJ.step (YldS.yld (y_bin rfl rfl rfl)) rfl ?_
      refine QJ.done ?_
      refine PJ.next ?_
      refine WJ.cond (t := decide (k9 < n1)) rfl (fun hb10 => ?_) (fun hb10 => ?_)
      · replace hm := ifT hm hb10
        refine WJ.skip ?_
        refine PJ.next ?_
        refine WJ.seq ?_
        refine WJ.block ?_
        refine WJ.reg ?_
        refine SJ.q (YldS.yld (y_move rfl)) rfl ?_
        refine SJ.buildSlice (R := fByte) (os := [.const (.int .u8 (UInt8.toNat 32 : Int))]) [32] Try.runUnderlying22 Try.sizeOf5 Try.zeroValue5 rfl rfl rfl rfl rfl rfl fun v11 => ?_
        obtain ⟨l12, h13, hm⟩ := bindS hm
        refine SJ.append (k := 1) (R := fByte) h13 rfl Try.underlying22 el5 rfl rfl rfl (fun w hw => (hw.row_rd (k := 0) rfl)) rfl fun v14 => ?_
        refine SJ.q (YldS.yld (y_assign rfl)) rfl ?_
        refine SJ.nil ?_
        refine PJ.block_normal (PJ.next ?_)
        refine WJ.quiet ?_
        refine QJ.step (YldS.yld (y_move rfl)) rfl ?_
        refine QJ.step (YldS.yld (y_bin rfl rfl rfl)) rfl ?_
        refine QJ.step (YldS.yld (y_assign rfl)) rfl ?_
        refine QJ.done ?_
        exact PJ.round (l12, v14, w64 (k9 + 1)) [1] hm ⟨rfl, rfl, rfl, trivial⟩ ⟨by decide, rfl⟩
      · replace hm := ifF hm hb10
        refine WJ.exit ?_
        refine PJ.then_exit (PJ.then_exit (PJ.block_exit ?_))
        exact PJ.joined (l7, v8) [0] hm ⟨rfl, trivial⟩ ⟨by decide, rfl⟩
  · rintro ⟨l3, v4⟩ hm
    subst hk6
    refine WJ.seq ?_
    refine WJ.quiet ?_
    refine QJ.step (YldS.yld (y_move rfl)) rfl ?_
    refine QJ.step (YldS.yld (y_b2s Try.underlying22 Try.underlying9 Try.underlying5 (fun w hw => ⟨_, (hw.row_rd (k := 0) rfl)⟩) rfl)) rfl ?_
    refine QJ.step (YldS.yld (y_assign rfl)) rfl ?_
    refine QJ.done ?_
    refine PJ.next ?_
    refine WJ.ret ?_
    obtain rfl := Option.some.inj hm
    refine PJ.sel (L' := []) [] ⟨List.nodup_nil, rfl⟩ ?_
    exact PJ.retn (vs := [str l3]) Try.results105 ⟨rfl, trivial⟩ ⟨rfl, rfl⟩

set_option maxRecDepth 100000 in
set_option maxHeartbeats 1000000 in
theorem ok_s_TableLines {N : Nat} {rows1 : List (List Str)} {sides4 : Str} {gap5 : Int} {r : (List Str) × Int} (hm : s_TableLines N rows1 sides4 gap5 = some r) (w : World) (v2 : Value) (hr3 : RdS w (cx w).Fz v2 (rSl fStr.rp) rows1) :
    Calls Try.prog 26 #[v2, str sides4, .int .i64 gap5] w (RetG (cx w) fun u L => ∃ (u1 : Value), (u = tup [u1, .int .i64 r.2] ∧ L = [row u1 9 fStr r.1])) := by
  unfold s_TableLines at hm
  refine Calls.enter [v2, str sides4, .int .i64 gap5] Try.func26 rfl Try.ntmps26 rfl ?_
  refine WJ.seq ?_
  refine WJ.quiet ?_
  refine QJ.step (YldS.yld (y_assign rfl)) rfl ?_
  refine QJ.step (YldS.yld (y_assign rfl)) rfl ?_
  refine QJ.done ?_
  refine PJ.next ?_
  refine WJ.seq ?_
  refine WJ.seq ?_
  refine WJ.quiet ?_
  refine QJ.step (YldS.yld (y_move rfl)) rfl ?_
  obtain ⟨r6, h7, hm⟩ := bindS hm
  refine QJ.step (y_call Try.call102 rfl (RetG.quiet fun w hw => ok_s_l08Rows h7 w _ (hr3.st hw))) rfl ?_
  refine QJ.step (YldS.yld (y_not rfl)) rfl ?_
  refine QJ.done ?_
  refine PJ.next ?_
  refine WJ.cond (t := !r6) rfl (fun hb8 => ?_) (fun hb8 => ?_)
  · replace hm := ifT hm hb8
    refine WJ.seq ?_
    refine WJ.quiet ?_
    refine QJ.step (YldS.yld (y_assign rfl)) rfl ?_
    refine QJ.step (YldS.yld (y_assign rfl)) rfl ?_
    refine QJ.done ?_
    refine PJ.next ?_
    refine WJ.ret ?_
    refine PJ.then_ret ?_
    refine PJ.nil_row 9 fStr ?_
    obtain rfl := Option.some.inj hm
    refine PJ.sel (L' := [row (.slice none 0 0) 9 fStr []]) [0] ⟨by decide, rfl⟩ ?_
    exact PJ.retn (vs := [(.slice none 0 0), .int .i64 1]) Try.results26 ⟨rfl, rfl, trivial⟩ ⟨_, rfl, rfl⟩
  · replace hm := ifF hm hb8
    refine WJ.skip ?_
    refine PJ.next ?_
    obtain ⟨kj9, hk10, hm⟩ := withK_open hm
    refine WJ.join (X := Unit) (fun (_ : Unit) => kj9  = some r) (fun (_ : Unit) => [(0, v2), (1, str sides4), (2, .int .i64 gap5)]) (fun (_ : Unit) => []) ?_ ?_
    · clear hk10
      refine WJ.seq ?_
      refine WJ.quiet ?_
      refine QJ.step (YldS.yld (y_assign rfl)) rfl ?_
      refine QJ.done ?_
      refine PJ.next ?_
      refine WJ.block ?_
      refine WJ.sel (L' := (fun (x : Int) => []) 0) [] ⟨List.nodup_nil, rfl⟩ ?_
      refine WJ.sub (m' := (fun (x : Int) => [(0, v2), (1, str sides4), (2, .int .i64 gap5), (8, .int .i64 x)]) 0) ⟨rfl, rfl, rfl, rfl, trivial⟩ ?_
      refine WJ.loop (X := Int) (fun N (x : Int) => s_TableLines_l1 kj9 sides4 N x = some r) (fun (x : Int) => [(0, v2), (1, str sides4), (2, .int .i64 gap5), (8, .int .i64 x)]) (fun (x : Int) => []) ?_ N 0 hm
      · rintro N i11 hI
        have hm := hI; clear hI
        cases N with
        | zero => cases hm
        | succ N =>
        unfold s_TableLines_l1 at hm
        refine WJ.seq ?_
        refine WJ.seq ?_
        refine WJ.quiet ?_
        refine QJ.step (YldS.yld (y_move rfl)) rfl ?_
        refine QJ.step (YldS.yld (y_move rfl)) rfl ?_
        refine QJ.step (YldS.yld (y_lenStr Try.runUnderlying9 rfl)) rfl ?_
        refine QJ.step (YldS.yld (y_bin rfl rfl rfl)) rfl ?_
        refine QJ.done ?_
        refine PJ.next ?_
        refine WJ.cond (t := decide (i11 < (List.length sides4 : Int))) rfl (fun hb12 => ?_) (fun hb12 => ?_)
        · replace hm := ifT hm hb12
          refine WJ.skip ?_
          refine PJ.next ?_
          refine WJ.seq ?_
          refine WJ.block ?_
          refine WJ.seq ?_
          refine WJ.quiet ?_
          refine QJ.step (YldS.yld (y_move rfl)) rfl ?_
          refine QJ.step (YldS.yld (y_move rfl)) rfl ?_
          obtain ⟨c13, h14, hm⟩ := bindS hm
          refine QJ.step (YldS.yld (y_idxStr Try.runUnderlying9 rfl rfl h14)) rfl ?_
          refine QJ.step (YldS.yld (y_bin8 c13 (108 : UInt8) rfl rfl rfl)) rfl ?_
          refine QJ.step (YldS.yld (y_move rfl)) rfl ?_
          obtain ⟨t15, h16, hm⟩ := bindS hm
          refine QJ.cut 5 [(0, v2), (1, str sides4), (2, .int .i64 gap5), (8, .int .i64 i11), (33, .bool t15)] ?_ ?_
          · rcases Bool.eq_false_or_eq_true (c13 != (108 : UInt8)) with hb17 | hb17
            · replace h16 := andT h16 hb17
              refine QJ.on rfl rfl (cB hb17) (YldS.yld (y_move rfl)) rfl ?_
              refine QJ.on rfl rfl (cB hb17) (YldS.yld (y_move rfl)) rfl ?_
              obtain ⟨c18, h19, h16⟩ := bindS h16
              refine QJ.on rfl rfl (cB hb17) (YldS.yld (y_idxStr Try.runUnderlying9 rfl rfl h19)) rfl ?_
              refine QJ.on rfl rfl (cB hb17) (YldS.yld (y_bin8 c18 (114 : UInt8) rfl rfl rfl)) rfl ?_
              refine QJ.step (YldS.yld (y_pick_t (cB hb17) rfl)) rfl ?_
              obtain rfl := Option.some.inj h16
              exact QJ.cut_end ⟨rfl, rfl, rfl, rfl, rfl, trivial⟩
            · obtain rfl := andF h16 hb17
              refine QJ.off rfl rfl (cB hb17) rfl rfl ?_
              refine QJ.off rfl rfl (cB hb17) rfl rfl ?_
              refine QJ.off rfl rfl (cB hb17) rfl rfl ?_
              refine QJ.off rfl rfl (cB hb17) rfl rfl ?_
              refine QJ.step (YldS.yld (y_pick_f (cB hb17) rfl)) rfl ?_
              exact QJ.cut_end ⟨rfl, rfl, rfl, rfl, rfl, trivial⟩
          refine QJ.done ?_
          refine PJ.next ?_
          refine WJ.cond (t := t15) rfl (fun hb20 => ?_) (fun hb20 => ?_)
          · replace hm := ifT hm hb20
            refine WJ.seq ?_
            refine WJ.quiet ?_
            refine QJ.step (YldS.yld (y_assign rfl)) rfl ?_
            refine QJ.step (YldS.yld (y_assign rfl)) rfl ?_
            refine QJ.done ?_
            refine PJ.next ?_
            refine WJ.ret ?_
            refine PJ.block_ret (PJ.then_ret (PJ.then_ret (PJ.block_ret (PJ.then_ret ?_))))
            refine PJ.nil_row 9 fStr ?_
            obtain rfl := Option.some.inj hm
            refine PJ.sel (L' := [row (.slice none 0 0) 9 fStr []]) [0] ⟨by decide, rfl⟩ ?_
            exact PJ.retn (vs := [(.slice none 0 0), .int .i64 2]) Try.results26 ⟨rfl, rfl, trivial⟩ ⟨_, rfl, rfl⟩
          · replace hm := ifF hm hb20
            refine WJ.skip ?_
            refine PJ.block_normal (PJ.next ?_)
            refine WJ.quiet ?_
            refine QJ.step (YldS.yld (y_move rfl)) rfl ?_
            refine QJ.step (YldS.yld (y_bin rfl rfl rfl)) rfl ?_
            refine QJ.step (YldS.yld (y_assign rfl)) rfl ?_
            refine QJ.done ?_
            exact PJ.round (w64 (i11 + 1)) [] hm ⟨rfl, rfl, rfl, rfl, trivial⟩ ⟨List.nodup_nil, rfl⟩
        · replace hm := ifF hm hb12
          refine WJ.exit ?_
          refine PJ.then_exit (PJ.then_exit (PJ.block_exit ?_))
          exact PJ.joined () [] hm ⟨rfl, rfl, rfl, trivial⟩ ⟨List.nodup_nil, rfl⟩
    · rintro _ hm
      subst hk10
      refine WJ.seq ?_
      refine WJ.seq ?_
      refine WJ.quiet ?_
      refine QJ.step (YldS.yld (y_move rfl)) rfl ?_
      refine QJ.step (YldS.yld (y_lenStr Try.runUnderlying9 rfl)) rfl ?_
      refine QJ.step (YldS.yld (y_move rfl)) rfl ?_
      obtain ⟨e21, h22, hm⟩ := bindS hm
      obtain ⟨ad23, _, ⟨v26, rfl, hr27⟩, ha24, hy25⟩ := hr3.elem h22
      refine QJ.step (YldS.yld (hy25 Try.runUnderlying42 Try.sizeOf45 rfl rfl)) rfl ?_
      refine QJ.step (YldS.yld (y_load1 (v := v26) Try.isAgg45 ha24 St.frozenC rfl)) rfl ?_
      refine QJ.step (YldS.yld (y_lenS Try.runUnderlying45 hr27 rfl)) rfl ?_
      refine QJ.step (YldS.yld (y_bin rfl rfl rfl)) rfl ?_
      refine QJ.step (YldS.yld (y_move rfl)) rfl ?_
      obtain ⟨t28, h29, hm⟩ := bindS hm
      refine QJ.cut 4 [(0, v2), (1, str sides4), (2, .int .i64 gap5), (45, .bool t28)] ?_ ?_
      · rcases Bool.eq_false_or_eq_true ((List.length sides4 : Int) != (List.length e21 : Int)) with hb30 | hb30
        · obtain rfl := orT h29 hb30
          refine QJ.off rfl rfl (cB hb30) rfl rfl ?_
          refine QJ.off rfl rfl (cB hb30) rfl rfl ?_
          refine QJ.off rfl rfl (cB hb30) rfl rfl ?_
          refine QJ.step (YldS.yld (y_pick_t (cB hb30) rfl)) rfl ?_
          exact QJ.cut_end ⟨rfl, rfl, rfl, rfl, trivial⟩
        · replace h29 := orF h29 hb30
          refine QJ.on rfl rfl (cB hb30) (YldS.yld (y_move rfl)) rfl ?_
          obtain ⟨r31, h32, h29⟩ := bindS h29
          refine QJ.on rfl rfl (cB hb30) (y_call Try.call103 rfl (RetG.quiet fun w hw => ok_s_l00In h32 w )) rfl ?_
          refine QJ.on rfl rfl (cB hb30) (YldS.yld (y_not rfl)) rfl ?_
          refine QJ.step (YldS.yld (y_pick_f (cB hb30) rfl)) rfl ?_
          obtain rfl := Option.some.inj h29
          exact QJ.cut_end ⟨rfl, rfl, rfl, rfl, trivial⟩
      refine QJ.done ?_
      refine PJ.next ?_
      refine WJ.cond (t := t28) rfl (fun hb33 => ?_) (fun hb33 => ?_)
      · replace hm := ifT hm hb33
        refine WJ.seq ?_
        refine WJ.quiet ?_
        refine QJ.step (YldS.yld (y_assign rfl)) rfl ?_
        refine QJ.step (YldS.yld (y_assign rfl)) rfl ?_
        refine QJ.done ?_
        refine PJ.next ?_
        refine WJ.ret ?_
        refine PJ.then_ret ?_
        refine PJ.nil_row 9 fStr ?_
        obtain rfl := Option.some.inj hm
        refine PJ.sel (L' := [row (.slice none 0 0) 9 fStr []]) [0] ⟨by decide, rfl⟩ ?_
        exact PJ.retn (vs := [(.slice none 0 0), .int .i64 2]) Try.results26 ⟨rfl, rfl, trivial⟩ ⟨_, rfl, rfl⟩
      · replace hm := ifF hm hb33
        refine WJ.skip ?_
        refine PJ.next ?_
        refine WJ.seq ?_
        refine WJ.reg ?_
        refine SJ.q (YldS.yld (y_move rfl)) rfl ?_
        obtain ⟨r34, h35, hm⟩ := bindS hm
        refine SJ.call Try.call104 rfl (fun w hw => ok_s_l08Widths h35 w _ (hr3.st hw)) rfl ?_
        rintro v36 _ ⟨_, rfl, rfl⟩
        refine SJ.q (YldS.yld (y_assign rfl)) rfl ?_
        refine SJ.nil ?_
        refine PJ.next ?_
        refine WJ.seq ?_
        refine WJ.reg ?_
        refine SJ.buildSlice (R := fStr) (os := []) [] Try.runUnderlying45 Try.sizeOf9 Try.zeroValue9 rfl rfl rfl rfl rfl rfl fun v37 => ?_
        refine SJ.q (YldS.yld (y_assign rfl)) rfl ?_
        refine SJ.nil ?_
        refine PJ.next ?_
        obtain ⟨kj40, hk41, hm⟩ := withK_open hm
        refine WJ.join (X := (List Str) × Value) (fun (x : (List Str) × Value) => kj40 x.1 = some r) (fun (x : (List Str) × Value) => [(10, x.2)]) (fun (x : (List Str) × Value) => [row x.2 9 fStr x.1]) ?_ ?_
        · clear hk41
          refine WJ.seq ?_
          refine WJ.quiet ?_
          refine QJ.step (YldS.yld (y_assign rfl)) rfl ?_
          refine QJ.done ?_
          refine PJ.next ?_
          refine WJ.block ?_
          refine WJ.sel (L' := (fun (x : (List Str) × Value × Int) => [row x.2.1 9 fStr x.1, row v36 2 fI64 r34]) ([], v37, 0)) [0, 1] ⟨by decide, rfl⟩ ?_
          refine WJ.sub (m' := (fun (x : (List Str) × Value × Int) => [(0, v2), (1, str sides4), (2, .int .i64 gap5), (9, v36), (10, x.2.1), (11, .int .i64 x.2.2)]) ([], v37, 0)) ⟨rfl, rfl, rfl, rfl, rfl, rfl, trivial⟩ ?_
          refine WJ.loop (X := (List Str) × Value × Int) (fun N (x : (List Str) × Value × Int) => s_TableLines_l2 kj40 rows1 sides4 gap5 r34 N x.1 x.2.2 = some r) (fun (x : (List Str) × Value × Int) => [(0, v2), (1, str sides4), (2, .int .i64 gap5), (9, v36), (10, x.2.1), (11, .int .i64 x.2.2)]) (fun (x : (List Str) × Value × Int) => [row x.2.1 9 fStr x.1, row v36 2 fI64 r34]) ?_ N ([], v37, 0) hm
          · rintro N ⟨l42, v43, i44⟩ hI
            have hm := hI; clear hI
            cases N with
            | zero => cases hm
            | succ N =>
            unfold s_TableLines_l2 at hm
            refine WJ.seq ?_
            refine WJ.seq ?_
            refine WJ.quiet ?_
            refine QJ.step (YldS.yld (y_move rfl)) rfl ?_
            refine QJ.step (YldS.yld (y_move rfl)) rfl ?_
            refine QJ.step (YldS.yld (y_lenS Try.runUnderlying42 hr3 rfl)) rfl ?_
            refine QJ.step (YldS.yld (y_bin rfl rfl rfl)) rfl ?_
            refine QJ.done ?_
            refine PJ.next ?_
            refine WJ.cond (t := decide (i44 < (List.length rows1 : Int))) rfl (fun hb45 => ?_) (fun hb45 => ?_)
            · replace hm := ifT hm hb45
              refine WJ.skip ?_
              refine PJ.next ?_
              obtain ⟨kj48, hk49, hm⟩ := withK_open hm
              refine WJ.join (X := (List Str) × Value) (fun (x : (List Str) × Value) => kj48 x.1 = some r) (fun (x : (List Str) × Value) => [(0, v2), (1, str sides4), (2, .int .i64 gap5), (9, v36), (10, x.2), (11, .int .i64 i44)]) (fun (x : (List Str) × Value) => [row x.2 9 fStr x.1, row v36 2 fI64 r34]) ?_ ?_
              · clear hk49
                refine WJ.block ?_
                refine WJ.seq ?_
                refine WJ.quiet ?_
                refine QJ.step (YldS.yld (y_assign rfl)) rfl ?_
                refine QJ.done ?_
                refine PJ.next ?_
                obtain ⟨kj51, hk52, hm⟩ := withK_open hm
                refine WJ.join (X := Str) (fun (x : Str) => kj51 x = some r) (fun (x : Str) => [(0, v2), (1, str sides4), (2, .int .i64 gap5), (9, v36), (10, v43), (11, .int .i64 i44), (12, str x)]) (fun (x : Str) => [row v43 9 fStr l42, row v36 2 fI64 r34]) ?_ ?_
                · clear hk52
                  refine WJ.seq ?_
                  refine WJ.quiet ?_
                  refine QJ.step (YldS.yld (y_assign rfl)) rfl ?_
                  refine QJ.done ?_
                  refine PJ.next ?_
                  refine WJ.block ?_
                  refine WJ.sel (L' := (fun (x : Str × Int) => [row v43 9 fStr l42, row v36 2 fI64 r34]) ([], 0)) [0, 1] ⟨by decide, rfl⟩ ?_
                  refine WJ.sub (m' := (fun (x : Str × Int) => [(0, v2), (1, str sides4), (2, .int .i64 gap5), (9, v36), (10, v43), (11, .int .i64 i44), (12, str x.1), (13, .int .i64 x.2)]) ([], 0)) ⟨rfl, rfl, rfl, rfl, rfl, rfl, rfl, rfl, trivial⟩ ?_
                  refine WJ.loop (X := Str × Int) (fun N (x : Str × Int) => s_TableLines_l3 kj51 rows1 sides4 gap5 r34 i44 N x.1 x.2 = some r) (fun (x : Str × Int) => [(0, v2), (1, str sides4), (2, .int .i64 gap5), (9, v36), (10, v43), (11, .int .i64 i44), (12, str x.1), (13, .int .i64 x.2)]) (fun (x : Str × Int) => [row v43 9 fStr l42, row v36 2 fI64 r34]) ?_ N ([], 0) hm
                  · rintro N ⟨line53, k54⟩ hI
                    have hm := hI; clear hI
                    cases N with
                    | zero => cases hm
                    | succ N =>
                    unfold s_TableLines_l3 at hm
                    refine WJ.seq ?_
                    refine WJ.seq ?_
                    refine WJ.quiet ?_
                    refine QJ.step (YldS.yld (y_move rfl)) rfl ?_
                    refine QJ.step (YldS.yld (y_move rfl)) rfl ?_
                    refine QJ.step (YldS.yld (y_move rfl)) rfl ?_
                    obtain ⟨e55, h56, hm⟩ := bindS hm
                    obtain ⟨ad57, _, ⟨v60, rfl, hr61⟩, ha58, hy59⟩ := hr3.elem h56
                    refine QJ.step (YldS.yld (hy59 Try.runUnderlying42 Try.sizeOf45 rfl rfl)) rfl ?_
                    refine QJ.step (YldS.yld (y_load1 (v := v60) Try.isAgg45 ha58 St.frozenC rfl)) rfl ?_
                    refine QJ.step (YldS.yld (y_lenS Try.runUnderlying45 hr61 rfl)) rfl ?_
                    refine QJ.step (YldS.yld (y_bin rfl rfl rfl)) rfl ?_
                    refine QJ.done ?_
                    refine PJ.next ?_
                    refine WJ.cond (t := decide (k54 < (List.length e55 : Int))) rfl (fun hb62 => ?_) (fun hb62 => ?_)
                    · replace hm := ifT hm hb62
                      refine WJ.skip ?_
                      refine PJ.next ?_
                      obtain ⟨kj64, hk65, hm⟩ := withK_open hm
                      refine WJ.join (X := Str) (fun (x : Str) => kj64 x = some r) (fun (x : Str) => [(0, v2), (1, str sides4), (2, .int .i64 gap5), (9, v36), (10, v43), (11, .int .i64 i44), (12, str x), (13, .int .i64 k54)]) (fun (x : Str) => [row v43 9 fStr l42, row v36 2 fI64 r34]) ?_ ?_
                      · clear hk65
                        refine WJ.block ?_
                        obtain ⟨kj67, hk68, hm⟩ := withK_open hm
                        refine WJ.join (X := Str) (fun (x : Str) => kj67 x = some r) (fun (x : Str) => [(0, v2), (1, str sides4), (2, .int .i64 gap5), (9, v36), (10, v43), (11, .int .i64 i44), (12, str x), (13, .int .i64 k54)]) (fun (x : Str) => [row v43 9 fStr l42, row v36 2 fI64 r34]) ?_ ?_
                        · clear hk68
                          refine WJ.seq ?_
                          refine WJ.quiet ?_
                          refine QJ.step (YldS.yld (y_move rfl)) rfl ?_
                          refine QJ.step (YldS.yld (y_bin rfl rfl rfl)) rfl ?_
                          refine QJ.done ?_
                          refine PJ.next ?_
                          refine WJ.cond (t := decide (k54 > 0)) rfl (fun hb69 => ?_) (fun hb69 => ?_)
                          · replace hm := ifT hm hb69
                            refine WJ.quiet ?_
                            refine QJ.step (YldS.yld (y_move rfl)) rfl ?_
                            refine QJ.step (YldS.yld (y_move rfl)) rfl ?_
                            obtain ⟨r70, h71, hm⟩ := bindS hm
                            refine QJ.step (y_call Try.call105 rfl (RetG.quiet fun w hw => ok_s_l08Blanks h71 w )) rfl ?_
                            obtain ⟨s72, h73, hm⟩ := bindS hm
                            refine QJ.step (YldS.yld (y_cat h73 rfl rfl)) rfl ?_
                            refine QJ.step (YldS.yld (y_assign rfl)) rfl ?_
                            refine QJ.done ?_
                            exact PJ.joined s72 [0, 1] hm ⟨rfl, rfl, rfl, rfl, rfl, rfl, rfl, rfl, trivial⟩ ⟨by decide, rfl⟩
                          · replace hm := ifF hm hb69
                            refine WJ.skip ?_
                            exact PJ.joined line53 [0, 1] hm ⟨rfl, rfl, rfl, rfl, rfl, rfl, rfl, rfl, trivial⟩ ⟨by decide, rfl⟩
                        · rintro line66 hm
                          subst hk68
                          refine WJ.seq ?_
                          refine WJ.quiet_draw follows (by kernel_rfl) ?_
                          refine QJ.step (YldS.yld (y_move rfl)) rfl ?_
                          refine QJ.step (YldS.yld (y_move rfl)) rfl ?_
                          obtain ⟨e74, h75, hm⟩ := bindS hm
                          refine QJ.step (YldS.yld (y_ixRow (k := 1) (R := fI64) rfl Try.runUnderlying27 Try.sizeOf2 rfl rfl h75)) rfl ?_
                          refine QJ.step (YldS.yld (y_loadR (k := 1) (i := (Int.toNat k54)) (off := 0) (u := .int .i64 e74) rfl Try.isAgg2 rfl (idx_get h75) rfl)) rfl ?_
                          refine QJ.step (YldS.yld (y_move rfl)) rfl ?_
                          refine QJ.step (YldS.yld (y_move rfl)) rfl ?_
                          obtain ⟨e76, h77, hm⟩ := bindS hm
                          obtain ⟨ad78, _, ⟨v81, rfl, hr82⟩, ha79, hy80⟩ := hr3.elem h77
                          refine QJ.step (YldS.yld (hy80 Try.runUnderlying42 Try.sizeOf45 rfl rfl)) rfl ?_
                          refine QJ.step (YldS.yld (y_load1 (v := v81) Try.isAgg45 ha79 St.frozenC rfl)) rfl ?_
                          refine QJ.step (YldS.yld (y_move rfl)) rfl ?_
                          obtain ⟨e83, h84, hm⟩ := bindS hm
                          obtain ⟨ad85, _, rfl, ha86, hy87⟩ := hr82.elem h84
                          refine QJ.step (YldS.yld (hy87 Try.runUnderlying45 Try.sizeOf9 rfl rfl)) rfl ?_
                          refine QJ.step (YldS.yld (y_load1 (v := str e83) Try.isAgg9 ha86 St.frozenC rfl)) rfl ?_
                          refine QJ.step (YldS.yld (y_lenStr Try.runUnderlying9 rfl)) rfl ?_
                          refine QJ.step (YldS.yld (y_bin rfl rfl rfl)) rfl ?_
                          obtain ⟨r88, h89, hm⟩ := bindS hm
                          refine QJ.step (y_call Try.call105 rfl (RetG.quiet fun w hw => ok_s_l08Blanks h89 w )) rfl ?_
                          refine QJ.step (YldS.yld (y_assign rfl)) rfl ?_
                          refine QJ.done ?_
                          refine PJ.next ?_
                          refine WJ.seq ?_
                          refine WJ.quiet ?_
                          refine QJ.step (YldS.yld (y_move rfl)) rfl ?_
                          refine QJ.step (YldS.yld (y_move rfl)) rfl ?_
                          obtain ⟨c90, h91, hm⟩ := bindS hm
                          refine QJ.step (YldS.yld (y_idxStr Try.runUnderlying9 rfl rfl h91)) rfl ?_
                          refine QJ.step (YldS.yld (y_bin8 c90 (108 : UInt8) rfl rfl rfl)) rfl ?_
                          refine QJ.done ?_
                          refine PJ.next ?_
                          refine WJ.cond (t := (c90 == (108 : UInt8))) rfl (fun hb92 => ?_) (fun hb92 => ?_)
                          · replace hm := ifT hm hb92
                            refine WJ.quiet ?_
                            refine QJ.step (YldS.yld (y_move rfl)) rfl ?_
                            refine QJ.step (YldS.yld (y_move rfl)) rfl ?_
                            refine QJ.step (YldS.yld (y_move rfl)) rfl ?_
                            obtain ⟨e93, h94, hm⟩ := bindS hm
                            obtain ⟨ad95, _, ⟨v98, rfl, hr99⟩, ha96, hy97⟩ := hr3.elem h94
                            refine QJ.step (YldS.yld (hy97 Try.runUnderlying42 Try.sizeOf45 rfl rfl)) rfl ?_
                            refine QJ.step (YldS.yld (y_load1 (v := v98) Try.isAgg45 ha96 St.frozenC rfl)) rfl ?_
                            refine QJ.step (YldS.yld (y_move rfl)) rfl ?_
                            obtain ⟨e100, h101, hm⟩ := bindS hm
                            obtain ⟨ad102, _, rfl, ha103, hy104⟩ := hr99.elem h101
                            refine QJ.step (YldS.yld (hy104 Try.runUnderlying45 Try.sizeOf9 rfl rfl)) rfl ?_
                            refine QJ.step (YldS.yld (y_load1 (v := str e100) Try.isAgg9 ha103 St.frozenC rfl)) rfl ?_
                            refine QJ.step (YldS.yld (y_move rfl)) rfl ?_
                            obtain ⟨s105, h106, hm⟩ := bindS hm
                            refine QJ.step (YldS.yld (y_cat h106 rfl rfl)) rfl ?_
                            obtain ⟨s107, h108, hm⟩ := bindS hm
                            refine QJ.step (YldS.yld (y_cat h108 rfl rfl)) rfl ?_
                            refine QJ.step (YldS.yld (y_assign rfl)) rfl ?_
                            refine QJ.done ?_
                            refine PJ.block_normal ?_
                            exact PJ.joined s107 [0, 1] hm ⟨rfl, rfl, rfl, rfl, rfl, rfl, rfl, rfl, trivial⟩ ⟨by decide, rfl⟩
                          · replace hm := ifF hm hb92
                            refine WJ.quiet ?_
                            refine QJ.step (YldS.yld (y_move rfl)) rfl ?_
                            refine QJ.step (YldS.yld (y_move rfl)) rfl ?_
                            refine QJ.step (YldS.yld (y_move rfl)) rfl ?_
                            refine QJ.step (YldS.yld (y_move rfl)) rfl ?_
                            obtain ⟨e109, h110, hm⟩ := bindS hm
                            obtain ⟨ad111, _, ⟨v114, rfl, hr115⟩, ha112, hy113⟩ := hr3.elem h110
                            refine QJ.step (YldS.yld (hy113 Try.runUnderlying42 Try.sizeOf45 rfl rfl)) rfl ?_
                            refine QJ.step (YldS.yld (y_load1 (v := v114) Try.isAgg45 ha112 St.frozenC rfl)) rfl ?_
                            refine QJ.step (YldS.yld (y_move rfl)) rfl ?_
                            obtain ⟨e116, h117, hm⟩ := bindS hm
                            obtain ⟨ad118, _, rfl, ha119, hy120⟩ := hr115.elem h117
                            refine QJ.step (YldS.yld (hy120 Try.runUnderlying45 Try.sizeOf9 rfl rfl)) rfl ?_
                            refine QJ.step (YldS.yld (y_load1 (v := str e116) Try.isAgg9 ha119 St.frozenC rfl)) rfl ?_
                            obtain ⟨s121, h122, hm⟩ := bindS hm
                            refine QJ.step (YldS.yld (y_cat h122 rfl rfl)) rfl ?_
                            obtain ⟨s123, h124, hm⟩ := bindS hm
                            refine QJ.step (YldS.yld (y_cat h124 rfl rfl)) rfl ?_
                            refine QJ.step (YldS.yld (y_assign rfl)) rfl ?_
                            refine QJ.done ?_
                            refine PJ.block_normal ?_
                            exact PJ.joined s123 [0, 1] hm ⟨rfl, rfl, rfl, rfl, rfl, rfl, rfl, rfl, trivial⟩ ⟨by decide, rfl⟩
                      · rintro line63 hm
                        subst hk65
                        refine WJ.quiet ?_
                        refine QJ.step (YldS.yld (y_move rfl)) rfl ?_
                        refine QJ.step (YldS.yld (y_bin rfl rfl rfl)) rfl ?_
                        refine QJ.step (YldS.yld (y_assign rfl)) rfl ?_
                        refine QJ.done ?_
                        exact PJ.round (line63, w64 (k54 + 1)) [0, 1] hm ⟨rfl, rfl, rfl, rfl, rfl, rfl, rfl, rfl, trivial⟩ ⟨by decide, rfl⟩
                    · replace hm := ifF hm hb62
                      refine WJ.exit ?_
                      refine PJ.then_exit (PJ.then_exit (PJ.block_exit ?_))
                      exact PJ.joined line53 [0, 1] hm ⟨rfl, rfl, rfl, rfl, rfl, rfl, rfl, trivial⟩ ⟨by decide, rfl⟩
                · rintro line50 hm
                  subst hk52
                  refine WJ.reg ?_
                  refine SJ.q (YldS.yld (y_move rfl)) rfl ?_
                  refine SJ.q (YldS.yld (y_move rfl)) rfl ?_
                  refine SJ.buildSlice (R := fStr) (os := [.tmp 111]) [line50] Try.runUnderlying45 Try.sizeOf9 Try.zeroValue9 rfl rfl rfl rfl rfl rfl fun v125 => ?_
                  obtain ⟨l126, h127, hm⟩ := bindS hm
                  refine SJ.append (k := 1) (R := fStr) h127 rfl Try.underlying45 el9 rfl rfl rfl (fun w hw => (hw.row_rd (k := 0) rfl)) rfl fun v128 => ?_
                  refine SJ.q (YldS.yld (y_assign rfl)) rfl ?_
                  refine SJ.nil ?_
                  refine PJ.block_normal ?_
                  exact PJ.joined (l126, v128) [1, 2] hm ⟨rfl, rfl, rfl, rfl, rfl, rfl, trivial⟩ ⟨by decide, rfl⟩
              · rintro ⟨l46, v47⟩ hm
                subst hk49
                refine WJ.quiet ?_
                refine QJ.step (YldS.yld (y_move rfl)) rfl ?_
                refine QJ.step (YldS.yld (y_bin rfl rfl rfl)) rfl ?_
                refine QJ.step (YldS.yld (y_assign rfl)) rfl ?_
                refine QJ.done ?_
                exact PJ.round (l46, v47, w64 (i44 + 1)) [0, 1] hm ⟨rfl, rfl, rfl, rfl, rfl, rfl, trivial⟩ ⟨by decide, rfl⟩
            · replace hm := ifF hm hb45
              refine WJ.exit ?_
              refine PJ.then_exit (PJ.then_exit (PJ.block_exit ?_))
              exact PJ.joined (l42, v43) [0] hm ⟨rfl, trivial⟩ ⟨by decide, rfl⟩
        · rintro ⟨l38, v39⟩ hm
          subst hk41
          refine WJ.seq ?_
          refine WJ.quiet ?_
          refine QJ.step (YldS.yld (y_move rfl)) rfl ?_
          refine QJ.step (YldS.yld (y_assign rfl)) rfl ?_
          refine QJ.step (YldS.yld (y_assign rfl)) rfl ?_
          refine QJ.done ?_
          refine PJ.next ?_
          refine WJ.ret ?_
          obtain rfl := Option.some.inj hm
          refine PJ.sel (L' := [row v39 9 fStr l38]) [0] ⟨by decide, rfl⟩ ?_
          exact PJ.retn (vs := [v39, .int .i64 0]) Try.results26 ⟨rfl, rfl, trivial⟩ ⟨_, rfl, rfl⟩

set_option maxRecDepth 100000 in
set_option maxHeartbeats 1000000 in
theorem ok_i_ColumnWidths {N : Nat} {rows1 : List (List Str)} {r : (List Int) × Int} (hm : i_ColumnWidths N rows1 = some r) (w : World) (v2 : Value) (hr3 : RdS w (cx w).Fz v2 (rSl fStr.rp) rows1) :
    Calls Try.prog 27 #[v2] w (RetG (cx w) fun u L => ∃ (u1 : Value), (u = tup [u1, .int .i64 r.2] ∧ L = [row u1 2 fI64 r.1])) := by
  unfold i_ColumnWidths at hm
  refine Calls.enter [v2] Try.func27 rfl Try.ntmps27 rfl ?_
  refine WJ.seq ?_
  refine WJ.quiet ?_
  refine QJ.step (YldS.yld (y_assign rfl)) rfl ?_
  refine QJ.step (YldS.yld (y_assign rfl)) rfl ?_
  refine QJ.done ?_
  refine PJ.next ?_
  refine WJ.seq ?_
  refine WJ.seq ?_
  refine WJ.quiet ?_
  refine QJ.step (YldS.yld (y_move rfl)) rfl ?_
  obtain ⟨r4, h5, hm⟩ := bindS hm
  refine QJ.step (y_call Try.call98 rfl (RetG.quiet fun w hw => ok_i_isTable h5 w _ (hr3.st hw))) rfl ?_
  refine QJ.step (YldS.yld (y_not rfl)) rfl ?_
  refine QJ.done ?_
  refine PJ.next ?_
  refine WJ.cond (t := !r4) rfl (fun hb6 => ?_) (fun hb6 => ?_)
  · replace hm := ifT hm hb6
    refine WJ.seq ?_
    refine WJ.quiet ?_
    refine QJ.step (YldS.yld (y_assign rfl)) rfl ?_
    refine QJ.step (YldS.yld (y_assign rfl)) rfl ?_
    refine QJ.done ?_
    refine PJ.next ?_
    refine WJ.ret ?_
    refine PJ.then_ret ?_
    refine PJ.nil_row 2 fI64 ?_
    obtain rfl := Option.some.inj hm
    refine PJ.sel (L' := [row (.slice none 0 0) 2 fI64 []]) [0] ⟨by decide, rfl⟩ ?_
    exact PJ.retn (vs := [(.slice none 0 0), .int .i64 1]) Try.results27 ⟨rfl, rfl, trivial⟩ ⟨_, rfl, rfl⟩
  · replace hm := ifF hm hb6
    refine WJ.skip ?_
    refine PJ.next ?_
    refine WJ.seq ?_
    refine WJ.reg ?_
    refine SJ.q (YldS.yld (y_move rfl)) rfl ?_
    obtain ⟨r7, h8, hm⟩ := bindS hm
    refine SJ.call Try.call100 rfl (fun w hw => ok_i_columnWidths h8 w _ (hr3.st hw)) rfl ?_
    rintro v9 _ ⟨_, rfl, rfl⟩
    refine SJ.q (YldS.yld (y_assign rfl)) rfl ?_
    refine SJ.q (YldS.yld (y_assign rfl)) rfl ?_
    refine SJ.nil ?_
    refine PJ.next ?_
    refine WJ.ret ?_
    obtain rfl := Option.some.inj hm
    refine PJ.sel (L' := [row v9 2 fI64 r7]) [0] ⟨by decide, rfl⟩ ?_
    exact PJ.retn (vs := [v9, .int .i64 0]) Try.results27 ⟨rfl, rfl, trivial⟩ ⟨_, rfl, rfl⟩

set_option maxRecDepth 100000 in
set_option maxHeartbeats 1000000 in
theorem ok_s_ColumnWidths {N : Nat} {rows1 : List (List Str)} {r : (List Int) × Int} (hm : s_ColumnWidths N rows1 = some r) (w : World) (v2 : Value) (hr3 : RdS w (cx w).Fz v2 (rSl fStr.rp) rows1) :
    Calls Try.prog 28 #[v2] w (RetG (cx w) fun u L => ∃ (u1 : Value), (u = tup [u1, .int .i64 r.2] ∧ L = [row u1 2 fI64 r.1])) := by
  unfold s_ColumnWidths at hm
  refine Calls.enter [v2] Try.func28 rfl Try.ntmps28 rfl ?_
  refine WJ.seq ?_
  refine WJ.quiet ?_
  refine QJ.step (YldS.yld (y_assign rfl)) rfl ?_
  refine QJ.step (YldS.yld (y_assign rfl)) rfl ?_
  refine QJ.done ?_
  refine PJ.next ?_
  refine WJ.seq ?_
  refine WJ.seq ?_
  refine WJ.quiet ?_
  refine QJ.step (YldS.yld (y_move rfl)) rfl ?_
  obtain ⟨r4, h5, hm⟩ := bindS hm
  refine QJ.step (y_call Try.call102 rfl (RetG.quiet fun w hw => ok_s_l08Rows h5 w _ (hr3.st hw))) rfl ?_
  refine QJ.step (YldS.yld (y_not rfl)) rfl ?_
  refine QJ.done ?_
  refine PJ.next ?_
  refine WJ.cond (t := !r4) rfl (fun hb6 => ?_) (fun hb6 => ?_)
  · replace hm := ifT hm hb6
    refine WJ.seq ?_
    refine WJ.quiet ?_
    refine QJ.step (YldS.yld (y_assign rfl)) rfl ?_
    refine QJ.step (YldS.yld (y_assign rfl)) rfl ?_
    refine QJ.done ?_
    refine PJ.next ?_
    refine WJ.ret ?_
    refine PJ.then_ret ?_
    refine PJ.nil_row 2 fI64 ?_
    obtain rfl := Option.some.inj hm
    refine PJ.sel (L' := [row (.slice none 0 0) 2 fI64 []]) [0] ⟨by decide, rfl⟩ ?_
    exact PJ.retn (vs := [(.slice none 0 0), .int .i64 1]) Try.results28 ⟨rfl, rfl, trivial⟩ ⟨_, rfl, rfl⟩
  · replace hm := ifF hm hb6
    refine WJ.skip ?_
    refine PJ.next ?_
    refine WJ.seq ?_
    refine WJ.reg ?_
    refine SJ.q (YldS.yld (y_move rfl)) rfl ?_
    obtain ⟨r7, h8, hm⟩ := bindS hm
    refine SJ.call Try.call104 rfl (fun w hw => ok_s_l08Widths h8 w _ (hr3.st hw)) rfl ?_
    rintro v9 _ ⟨_, rfl, rfl⟩
    refine SJ.q (YldS.yld (y_assign rfl)) rfl ?_
    refine SJ.q (YldS.yld (y_assign rfl)) rfl ?_
    refine SJ.nil ?_
    refine PJ.next ?_
    refine WJ.ret ?_
    obtain rfl := Option.some.inj hm
    refine PJ.sel (L' := [row v9 2 fI64 r7]) [0] ⟨by decide, rfl⟩ ?_
    exact PJ.retn (vs := [v9, .int .i64 0]) Try.results28 ⟨rfl, rfl, trivial⟩ ⟨_, rfl, rfl⟩

set_option maxRecDepth 100000 in
set_option maxHeartbeats 1000000 in
theorem ok_s_l08DrawWidths {N : Nat} {s1 : L00Src} {g2 : Nat} {r : (List Int) × L00Src} (hm : s_l08DrawWidths N s1 = some r) (w : World) (S : Nat → Prop) (v3 : Value) (hr4 : RdS w (Cx.Fz ⟨w, S⟩) v3 fByte.rp s1.code) (hA : (box g2 161 [v3, .int .i64 s1.at_, .int .u64 s1.seed]).holds w S) :
    Calls Try.prog 106 #[pt g2 0] w (RetG ⟨w, S⟩ fun u L => ∃ (u1 : Value), (u = u1 ∧ L = [box g2 161 [v3, .int .i64 r.2.at_, .int .u64 r.2.seed], row u1 2 fI64 r.1])) := by
  unfold s_l08DrawWidths at hm
  refine Calls.enter1 hA [pt g2 0] Try.func106 rfl Try.ntmps106 rfl ?_
  refine WJ.seq ?_
  refine WJ.quiet ?_
  refine QJ.step (YldS.yld (y_assign rfl)) rfl ?_
  refine QJ.done ?_
  refine PJ.next ?_
  refine WJ.seq ?_
  refine WJ.reg ?_
  refine SJ.buildSlice (R := fI64) (os := []) [] Try.runUnderlying27 Try.sizeOf2 Try.zeroValue2 rfl rfl rfl rfl rfl rfl fun v5 => ?_
  refine SJ.q (YldS.yld (y_assign rfl)) rfl ?_
  refine SJ.nil ?_
  refine PJ.next ?_
  obtain ⟨kj10, hk11, hm⟩ := withK_open hm
  refine WJ.join (X := Int × Int × (List Int) × Value) (fun (x : Int × Int × (List Int) × Value) => kj10 x.1 x.2.1 x.2.2.1 = some r) (fun (x : Int × Int × (List Int) × Value) => [(0, pt g2 0), (3, x.2.2.2)]) (fun (x : Int × Int × (List Int) × Value) => [box g2 161 [v3, .int .i64 x.1, .int .u64 x.2.1], row x.2.2.2 2 fI64 x.2.2.1]) ?_ ?_
  · clear hk11
    refine WJ.seq ?_
    refine WJ.reg ?_
    refine SJ.q (YldS.yld (y_move rfl)) rfl ?_
    obtain ⟨r12, h13, hm⟩ := bindS hm
    refine SJ.call1 (k := 1) rfl Try.call92 rfl (fun w S hw hA hO => ok_s_l00Src_pick h13 w S _ (hr4.st1 hw hO) hA) rfl ?_
    rintro _ _ ⟨rfl, rfl⟩
    refine SJ.q (YldS.yld (y_bin rfl rfl rfl)) rfl ?_
    refine SJ.q (YldS.yld (y_assign rfl)) rfl ?_
    refine SJ.nil ?_
    refine PJ.next ?_
    refine WJ.block ?_
    refine WJ.sel (L' := (fun (x : Int × Int × (List Int) × Value × Int) => [box g2 161 [v3, .int .i64 x.1, .int .u64 x.2.1], row x.2.2.2.1 2 fI64 x.2.2.1]) (r12.2.at_, r12.2.seed, [], v5, w64 (1 + r12.1))) [0, 1] ⟨by decide, rfl⟩ ?_
    refine WJ.sub (m' := (fun (x : Int × Int × (List Int) × Value × Int) => [(0, pt g2 0), (3, x.2.2.2.1), (4, .int .i64 x.2.2.2.2)]) (r12.2.at_, r12.2.seed, [], v5, w64 (1 + r12.1))) ⟨rfl, rfl, rfl, trivial⟩ ?_
    refine WJ.loop (X := Int × Int × (List Int) × Value × Int) (fun N (x : Int × Int × (List Int) × Value × Int) => s_l08DrawWidths_l1 kj10 s1 N x.1 x.2.1 x.2.2.1 x.2.2.2.2 = some r) (fun (x : Int × Int × (List Int) × Value × Int) => [(0, pt g2 0), (3, x.2.2.2.1), (4, .int .i64 x.2.2.2.2)]) (fun (x : Int × Int × (List Int) × Value × Int) => [box g2 161 [v3, .int .i64 x.1, .int .u64 x.2.1], row x.2.2.2.1 2 fI64 x.2.2.1]) ?_ N (r12.2.at_, r12.2.seed, [], v5, w64 (1 + r12.1)) hm
    · rintro N ⟨x14, x15, l16, v17, k18⟩ hI
      have hm := hI; clear hI
      cases N with
      | zero => cases hm
      | succ N =>
      unfold s_l08DrawWidths_l1 at hm
      refine WJ.seq ?_
      refine WJ.seq ?_
      refine WJ.quiet ?_
      refine QJ.step (YldS.yld (y_move rfl)) rfl ?_
      refine QJ.step (YldS.yld (y_bin rfl rfl rfl)) rfl ?_
      refine QJ.done ?_
      refine PJ.next ?_
      refine WJ.cond (t := decide (k18 > 0)) rfl (fun hb19 => ?_) (fun hb19 => ?_)
      · replace hm := ifT hm hb19
        refine WJ.skip ?_
        refine PJ.next ?_
        refine WJ.seq ?_
        refine WJ.block ?_
        refine WJ.reg ?_
        refine SJ.q (YldS.yld (y_move rfl)) rfl ?_
        refine SJ.q (YldS.yld (y_move rfl)) rfl ?_
        obtain ⟨r20, h21, hm⟩ := bindS hm
        refine SJ.call1 (k := 0) rfl Try.call92 rfl (fun w S hw hA hO => ok_s_l00Src_pick h21 w S _ (hr4.st1 hw hO) hA) rfl ?_
        rintro _ _ ⟨rfl, rfl⟩
        refine SJ.buildSlice (R := fI64) (os := [.tmp 15]) [r20.1] Try.runUnderlying27 Try.sizeOf2 Try.zeroValue2 rfl rfl rfl rfl rfl rfl fun v22 => ?_
        obtain ⟨l23, h24, hm⟩ := bindS hm
        refine SJ.append (k := 2) (R := fI64) h24 rfl Try.underlying27 el2 rfl rfl rfl (fun w hw => (hw.row_rd (k := 0) rfl)) rfl fun v25 => ?_
        refine SJ.q (YldS.yld (y_assign rfl)) rfl ?_
        refine SJ.nil ?_
        refine PJ.block_normal (PJ.next ?_)
        refine WJ.quiet ?_
        refine QJ.step (YldS.yld (y_move rfl)) rfl ?_
        refine QJ.step (YldS.yld (y_bin rfl rfl rfl)) rfl ?_
        refine QJ.step (YldS.yld (y_assign rfl)) rfl ?_
        refine QJ.done ?_
        exact PJ.round (r20.2.at_, r20.2.seed, l23, v25, w64 (k18 - 1)) [1, 2] hm ⟨rfl, rfl, rfl, trivial⟩ ⟨by decide, rfl⟩
      · replace hm := ifF hm hb19
        refine WJ.exit ?_
        refine PJ.then_exit (PJ.then_exit (PJ.block_exit ?_))
        exact PJ.joined (x14, x15, l16, v17) [0, 1] hm ⟨rfl, rfl, trivial⟩ ⟨by decide, rfl⟩
  · rintro ⟨x6, x7, l8, v9⟩ hm
    subst hk11
    obtain ⟨kj30, hk31, hm⟩ := withK_open hm
    refine WJ.join (X := Int × Int × (List Int) × Value) (fun (x : Int × Int × (List Int) × Value) => kj30 x.1 x.2.1 x.2.2.1 = some r) (fun (x : Int × Int × (List Int) × Value) => [(3, x.2.2.2)]) (fun (x : Int × Int × (List Int) × Value) => [box g2 161 [v3, .int .i64 x.1, .int .u64 x.2.1], row x.2.2.2 2 fI64 x.2.2.1]) ?_ ?_
    · clear hk31
      refine WJ.seq ?_
      refine WJ.reg ?_
      refine SJ.q (YldS.yld (y_move rfl)) rfl ?_
      obtain ⟨r32, h33, hm⟩ := bindS hm
      refine SJ.call1 (k := 0) rfl Try.call92 rfl (fun w S hw hA hO => ok_s_l00Src_pick h33 w S _ (hr4.st1 hw hO) hA) rfl ?_
      rintro _ _ ⟨rfl, rfl⟩
      refine SJ.nil ?_
      refine PJ.next ?_
      refine WJ.block ?_
      refine WJ.seq ?_
      refine WJ.quiet ?_
      refine QJ.step (YldS.yld (y_bin rfl rfl rfl)) rfl ?_
      refine QJ.step (YldS.yld (y_assign rfl)) rfl ?_
      refine QJ.done ?_
      refine PJ.next ?_
      refine WJ.cond (t := (r32.1 == 0)) rfl (fun hb34 => ?_) (fun hb34 => ?_)
      · replace hm := ifT hm hb34
        refine WJ.reg ?_
        refine SJ.q (YldS.yld (y_move rfl)) rfl ?_
        refine SJ.q (YldS.yld (y_move rfl)) rfl ?_
        refine SJ.buildSlice (R := fI64) (os := [.const (.int .i64 (-1)), .const (.int .i64 0), .const (.int .i64 120), .const (.int .i64 121), .const (.int .i64 (-9223372036854775808))]) [(-1), 0, 120, 121, (-9223372036854775808)] Try.runUnderlying27 Try.sizeOf2 Try.zeroValue2 rfl rfl rfl rfl rfl rfl fun v35 => ?_
        obtain ⟨r36, h37, hm⟩ := bindS hm
        refine SJ.call2 (k := 1) rfl Try.call97 rfl (fun w S hw hA hO hB => ok_s_l00Src_among h37 w S _ (hr4.st1 hw hO) _ (hB.row_rd (j := 0) (k := 1) rfl rfl) hA) rfl ?_
        rintro _ _ ⟨rfl, rfl⟩
        obtain ⟨e38, h39, hm⟩ := bindS hm
        refine SJ.q (YldS.yld (y_ixRow (k := 2) (R := fI64) rfl Try.runUnderlying27 Try.sizeOf2 rfl rfl h39)) rfl ?_
        refine SJ.storeRL (k := 2) (i := (Int.toNat 0)) (off := 0) (us := [.int .i64 r36.1]) (b := r36.1) rfl rfl (idx_get h39) rfl rfl Try.sizeOf2 rfl rfl rfl ?_
        refine SJ.nil ?_
        refine PJ.block_normal ?_
        exact PJ.joined (r36.2.at_, r36.2.seed, (List.set l8 (Int.toNat 0) r36.1), v9) [0, 2] hm ⟨rfl, trivial⟩ ⟨by decide, rfl⟩
      · replace hm := ifF hm hb34
        refine WJ.seq ?_
        refine WJ.quiet ?_
        refine QJ.step (YldS.yld (y_bin rfl rfl rfl)) rfl ?_
        refine QJ.step (YldS.yld (y_assign rfl)) rfl ?_
        refine QJ.done ?_
        refine PJ.next ?_
        refine WJ.cond (t := (r32.1 == 1)) rfl (fun hb40 => ?_) (fun hb40 => ?_)
        · replace hm := ifT hm hb40
          refine WJ.reg ?_
          refine SJ.q (YldS.yld (y_move rfl)) rfl ?_
          refine SJ.buildSlice (R := fI64) (os := [.const (.int .i64 0), .const (.int .i64 12), .const (.int .i64 13)]) [0, 12, 13] Try.runUnderlying27 Try.sizeOf2 Try.zeroValue2 rfl rfl rfl rfl rfl rfl fun v41 => ?_
          obtain ⟨r42, h43, hm⟩ := bindS hm
          refine SJ.call2 (k := 1) rfl Try.call97 rfl (fun w S hw hA hO hB => ok_s_l00Src_among h43 w S _ (hr4.st1 hw hO) _ (hB.row_rd (j := 0) (k := 1) rfl rfl) hA) rfl ?_
          rintro _ _ ⟨rfl, rfl⟩
          obtain ⟨l44, h45, hm⟩ := bindS hm
          refine SJ.makeSlice (R := fI64) (z := 0) h45 Try.underlying27 el2 rfl rfl rfl fun v46 => ?_
          refine SJ.q (YldS.yld (y_assign rfl)) rfl ?_
          refine SJ.nil ?_
          refine PJ.block_normal ?_
          exact PJ.joined (r42.2.at_, r42.2.seed, l44, v46) [1, 0] hm ⟨rfl, trivial⟩ ⟨by decide, rfl⟩
        · replace hm := ifF hm hb40
          refine WJ.skip ?_
          refine PJ.block_normal ?_
          exact PJ.joined (r32.2.at_, r32.2.seed, l8, v9) [0, 1] hm ⟨rfl, trivial⟩ ⟨by decide, rfl⟩
    · rintro ⟨x26, x27, l28, v29⟩ hm
      subst hk31
      refine WJ.seq ?_
      refine WJ.quiet ?_
      refine QJ.step (YldS.yld (y_move rfl)) rfl ?_
      refine QJ.step (YldS.yld (y_assign rfl)) rfl ?_
      refine QJ.done ?_
      refine PJ.next ?_
      refine WJ.ret ?_
      obtain rfl := Option.some.inj hm
      refine PJ.sel (L' := [box g2 161 [v3, .int .i64 x26, .int .u64 x27], row v29 2 fI64 l28]) [0, 1] ⟨by decide, rfl⟩ ?_
      exact PJ.retn (vs := [v29]) Try.results106 ⟨rfl, trivial⟩ ⟨_, rfl, rfl⟩

set_option maxRecDepth 100000 in
set_option maxHeartbeats 1000000 in
theorem ok_s_DrawStopsFor {N : Nat} {code1 : List UInt8} {r : (List Int) × Int × Int} (hm : s_DrawStopsFor N code1 = some r) (w : World) (v2 : Value) (hr3 : RdS w (cx w).Fz v2 fByte.rp code1) :
    Calls Try.prog 29 #[v2] w (RetG (cx w) fun u L => ∃ (u1 : Value), (u = tup [u1, .int .i64 r.2.1, .int .i64 r.2.2] ∧ L = [row u1 2 fI64 r.1])) := by
  unfold s_DrawStopsFor at hm
  refine Calls.enter [v2] Try.func29 rfl Try.ntmps29 rfl ?_
  refine WJ.seq ?_
  refine WJ.quiet ?_
  refine QJ.step (YldS.yld (y_assign rfl)) rfl ?_
  refine QJ.step (YldS.yld (y_assign rfl)) rfl ?_
  refine QJ.step (YldS.yld (y_assign rfl)) rfl ?_
  refine QJ.done ?_
  refine PJ.next ?_
  refine WJ.seq ?_
  refine WJ.reg ?_
  refine SJ.q (YldS.yld (y_move rfl)) rfl ?_
  obtain ⟨r4, h5, hm⟩ := bindS hm
  refine SJ.call Try.call89 rfl (fun w hw => ok_s_l00From h5 w _ (hr3.st hw)) rfl ?_
  rintro _ _ ⟨g6, rfl, rfl⟩
  refine SJ.q (YldS.yld (y_assign rfl)) rfl ?_
  refine SJ.nil ?_
  refine PJ.next ?_
  refine WJ.seq ?_
  refine WJ.reg ?_
  refine SJ.q (YldS.yld (y_move rfl)) rfl ?_
  obtain ⟨r7, h8, hm⟩ := bindS hm
  refine SJ.call1 (k := 0) rfl Try.call106 rfl (fun w S hw hA hO => ok_s_l08DrawWidths h8 w S _ (hr3.st1 hw hO) hA) rfl ?_
  rintro v9 _ ⟨_, rfl, rfl⟩
  refine SJ.q (YldS.yld (y_assign rfl)) rfl ?_
  refine SJ.nil ?_
  refine PJ.next ?_
  refine WJ.seq ?_
  refine WJ.reg ?_
  refine SJ.q (YldS.yld (y_move rfl)) rfl ?_
  obtain ⟨r10, h11, hm⟩ := bindS hm
  refine SJ.call1 (k := 0) rfl Try.call92 rfl (fun w S hw hA hO => ok_s_l00Src_pick h11 w S _ (hr3.st1 hw hO) hA) rfl ?_
  rintro _ _ ⟨rfl, rfl⟩
  refine SJ.q (YldS.yld (y_assign rfl)) rfl ?_
  refine SJ.nil ?_
  refine PJ.next ?_
  obtain ⟨kj15, hk16, hm⟩ := withK_open hm
  refine WJ.join (X := Int × Int × Int) (fun (x : Int × Int × Int) => kj15 x.1 x.2.1 x.2.2 = some r) (fun (x : Int × Int × Int) => [(5, pt g6 0), (6, v9), (7, .int .i64 x.2.2)]) (fun (x : Int × Int × Int) => [box g6 161 [v2, .int .i64 x.1, .int .u64 x.2.1], row v9 2 fI64 r7.1]) ?_ ?_
  · clear hk16
    refine WJ.seq ?_
    refine WJ.reg ?_
    refine SJ.q (YldS.yld (y_move rfl)) rfl ?_
    obtain ⟨r17, h18, hm⟩ := bindS hm
    refine SJ.call1 (k := 0) rfl Try.call91 rfl (fun w S hw hA hO => ok_s_l00Src_one h18 w S _ (hr3.st1 hw hO) hA) rfl ?_
    rintro _ _ ⟨rfl, rfl⟩
    refine SJ.nil ?_
    refine PJ.next ?_
    refine WJ.cond (t := r17.1) rfl (fun hb19 => ?_) (fun hb19 => ?_)
    · replace hm := ifT hm hb19
      refine WJ.reg ?_
      refine SJ.q (YldS.yld (y_move rfl)) rfl ?_
      refine SJ.buildSlice (R := fI64) (os := [.const (.int .i64 (-1)), .const (.int .i64 0), .const (.int .i64 119), .const (.int .i64 120)]) [(-1), 0, 119, 120] Try.runUnderlying27 Try.sizeOf2 Try.zeroValue2 rfl rfl rfl rfl rfl rfl fun v20 => ?_
      obtain ⟨r21, h22, hm⟩ := bindS hm
      refine SJ.call2 (k := 1) rfl Try.call97 rfl (fun w S hw hA hO hB => ok_s_l00Src_among h22 w S _ (hr3.st1 hw hO) _ (hB.row_rd (j := 0) (k := 1) rfl rfl) hA) rfl ?_
      rintro _ _ ⟨rfl, rfl⟩
      refine SJ.q (YldS.yld (y_assign rfl)) rfl ?_
      refine SJ.nil ?_
      exact PJ.joined (r21.2.at_, r21.2.seed, r21.1) [0, 2] hm ⟨rfl, rfl, rfl, trivial⟩ ⟨by decide, rfl⟩
    · replace hm := ifF hm hb19
      refine WJ.skip ?_
      exact PJ.joined (r17.2.at_, r17.2.seed, r10.1) [0, 1] hm ⟨rfl, rfl, rfl, trivial⟩ ⟨by decide, rfl⟩
  · rintro ⟨x12, x13, left14⟩ hm
    subst hk16
    refine WJ.seq ?_
    refine WJ.seq ?_
    refine WJ.reg ?_
    refine SJ.q (YldS.yld (y_move rfl)) rfl ?_
    obtain ⟨r23, h24, hm⟩ := bindS hm
    refine SJ.call1 (k := 0) rfl Try.call91 rfl (fun w S hw hA hO => ok_s_l00Src_one h24 w S _ (hr3.st1 hw hO) hA) rfl ?_
    rintro _ _ ⟨rfl, rfl⟩
    refine SJ.nil ?_
    refine PJ.next ?_
    refine WJ.cond (t := r23.1) rfl (fun hb25 => ?_) (fun hb25 => ?_)
    · replace hm := ifT hm hb25
      refine WJ.seq ?_
      refine WJ.reg ?_
      refine SJ.q (YldS.yld (y_move rfl)) rfl ?_
      refine SJ.q (YldS.yld (y_move rfl)) rfl ?_
      refine SJ.q (YldS.yld (y_move rfl)) rfl ?_
      refine SJ.buildSlice (R := fI64) (os := [.const (.int .i64 0), .const (.int .i64 1), .const (.int .i64 120), .const (.int .i64 121)]) [0, 1, 120, 121] Try.runUnderlying27 Try.sizeOf2 Try.zeroValue2 rfl rfl rfl rfl rfl rfl fun v26 => ?_
      obtain ⟨r27, h28, hm⟩ := bindS hm
      refine SJ.call2 (k := 1) rfl Try.call97 rfl (fun w S hw hA hO hB => ok_s_l00Src_among h28 w S _ (hr3.st1 hw hO) _ (hB.row_rd (j := 0) (k := 1) rfl rfl) hA) rfl ?_
      rintro _ _ ⟨rfl, rfl⟩
      refine SJ.q (YldS.yld (y_assign rfl)) rfl ?_
      refine SJ.q (YldS.yld (y_assign rfl)) rfl ?_
      refine SJ.q (YldS.yld (y_assign rfl)) rfl ?_
      refine SJ.nil ?_
      refine PJ.next ?_
      refine WJ.ret ?_
      refine PJ.then_ret ?_
      obtain rfl := Option.some.inj hm
      refine PJ.sel (L' := [row v9 2 fI64 r7.1]) [2] ⟨by decide, rfl⟩ ?_
      exact PJ.retn (vs := [v9, .int .i64 left14, .int .i64 r27.1]) Try.results29 ⟨rfl, rfl, rfl, trivial⟩ ⟨_, rfl, rfl⟩
    · replace hm := ifF hm hb25
      refine WJ.skip ?_
      refine PJ.next ?_
      refine WJ.seq ?_
      refine WJ.reg ?_
      refine SJ.q (YldS.yld (y_move rfl)) rfl ?_
      refine SJ.q (YldS.yld (y_move rfl)) rfl ?_
      refine SJ.q (YldS.yld (y_move rfl)) rfl ?_
      obtain ⟨r29, h30, hm⟩ := bindS hm
      refine SJ.call1 (k := 0) rfl Try.call92 rfl (fun w S hw hA hO => ok_s_l00Src_pick h30 w S _ (hr3.st1 hw hO) hA) rfl ?_
      rintro _ _ ⟨rfl, rfl⟩
      refine SJ.q (YldS.yld (y_bin rfl rfl rfl)) rfl ?_
      refine SJ.q (YldS.yld (y_assign rfl)) rfl ?_
      refine SJ.q (YldS.yld (y_assign rfl)) rfl ?_
      refine SJ.q (YldS.yld (y_assign rfl)) rfl ?_
      refine SJ.nil ?_
      refine PJ.next ?_
      refine WJ.ret ?_
      obtain rfl := Option.some.inj hm
      refine PJ.sel (L' := [row v9 2 fI64 r7.1]) [1] ⟨by decide, rfl⟩ ?_
      exact PJ.retn (vs := [v9, .int .i64 left14, .int .i64 (w64 (1 + r29.1))]) Try.results29 ⟨rfl, rfl, rfl, trivial⟩ ⟨_, rfl, rfl⟩

set_option maxRecDepth 100000 in
set_option maxHeartbeats 1000000 in
theorem ok_i_areWidths {N : Nat} {widths1 : List Int} {r : Bool} (hm : i_areWidths N widths1 = some r) (w : World) (v2 : Value) (hr3 : RdS w (cx w).Fz v2 fI64.rp widths1) :
    Calls Try.prog 107 #[v2] w (Ret (cx w) (.bool r)) := by
  unfold i_areWidths at hm
  refine Calls.enter [v2] Try.func107 rfl Try.ntmps107 rfl ?_
  refine WJ.seq ?_
  refine WJ.quiet ?_
  refine QJ.step (YldS.yld (y_assign rfl)) rfl ?_
  refine QJ.done ?_
  refine PJ.next ?_
  obtain ⟨kj4, hk5, hm⟩ := withK_open hm
  refine WJ.join (X := Unit) (fun (_ : Unit) => kj4  = some r) (fun (_ : Unit) => [(0, v2)]) (fun (_ : Unit) => []) ?_ ?_
  · clear hk5
    refine WJ.seq ?_
    refine WJ.quiet ?_
    refine QJ.step (YldS.yld (y_move rfl)) rfl ?_
    refine QJ.step (YldS.yld (y_lenS Try.runUnderlying27 hr3 rfl)) rfl ?_
    refine QJ.step (YldS.yld (y_move rfl)) rfl ?_
    refine QJ.done ?_
    refine PJ.next ?_
    refine WJ.block ?_
    refine WJ.sel (L' := (fun (x : Int) => []) 0) [] ⟨List.nodup_nil, rfl⟩ ?_
    refine WJ.sub (m' := (fun (x : Int) => [(0, v2), (5, v2), (6, .int .i64 (List.length widths1 : Int)), (7, .int .i64 x)]) 0) ⟨rfl, rfl, rfl, rfl, trivial⟩ ?_
    refine WJ.loop (X := Int) (fun N (x : Int) => i_areWidths_l1 kj4 widths1 N x = some r) (fun (x : Int) => [(0, v2), (5, v2), (6, .int .i64 (List.length widths1 : Int)), (7, .int .i64 x)]) (fun (x : Int) => []) ?_ N 0 hm
    · rintro N x6 hI
      have hm := hI; clear hI
      cases N with
      | zero => cases hm
      | succ N =>
      unfold i_areWidths_l1 at hm
      refine WJ.seq ?_
      refine WJ.quiet ?_
      refine QJ.step (YldS.yld (y_bin rfl rfl rfl)) rfl ?_
      refine QJ.done ?_
      refine PJ.next ?_
      refine WJ.seq ?_
      refine WJ.cond (t := decide (x6 < (List.length widths1 : Int))) rfl (fun hb7 => ?_) (fun hb7 => ?_)
      · replace hm := ifT hm hb7
        refine WJ.skip ?_
        refine PJ.next ?_
        refine WJ.seq ?_
        refine WJ.block ?_
        refine WJ.seq ?_
        refine WJ.quiet ?_
        obtain ⟨e8, h9, hm⟩ := bindS hm
        obtain ⟨ad10, _, rfl, ha11, hy12⟩ := hr3.elem h9
        refine QJ.step (YldS.yld (hy12 Try.runUnderlying27 Try.sizeOf2 rfl rfl)) rfl ?_
        refine QJ.step (YldS.yld (y_load1 (v := .int .i64 e8) Try.isAgg2 ha11 St.frozenC rfl)) rfl ?_
        refine QJ.step (YldS.yld (y_assign rfl)) rfl ?_
        refine QJ.done ?_
        refine PJ.next ?_
        refine WJ.seq ?_
        refine WJ.quiet ?_
        refine QJ.step (YldS.yld (y_move rfl)) rfl ?_
        obtain ⟨r13, h14, hm⟩ := bindS hm
        refine QJ.step (y_call Try.call99 rfl (RetG.quiet fun w hw => ok_i_between h14 w )) rfl ?_
        refine QJ.step (YldS.yld (y_not rfl)) rfl ?_
        refine QJ.done ?_
        refine PJ.next ?_
        refine WJ.cond (t := !r13) rfl (fun hb15 => ?_) (fun hb15 => ?_)
        · replace hm := ifT hm hb15
          refine WJ.seq ?_
          refine WJ.quiet ?_
          refine QJ.step (YldS.yld (y_assign rfl)) rfl ?_
          refine QJ.done ?_
          refine PJ.next ?_
          refine WJ.ret ?_
          refine PJ.block_ret (PJ.then_ret (PJ.then_ret (PJ.block_ret (PJ.then_ret ?_))))
          obtain rfl := Option.some.inj hm
          refine PJ.sel (L' := []) [] ⟨List.nodup_nil, rfl⟩ ?_
          exact PJ.retn (vs := [.bool false]) Try.results107 ⟨rfl, trivial⟩ ⟨rfl, rfl⟩
        · replace hm := ifF hm hb15
          refine WJ.skip ?_
          refine PJ.block_normal (PJ.next ?_)
          refine WJ.quiet ?_
          refine QJ.step (YldS.yld (y_bin rfl rfl rfl)) rfl ?_
          refine QJ.step (YldS.yld (y_move rfl)) rfl ?_
          refine QJ.done ?_
          exact PJ.round (w64 (x6 + 1)) [] hm ⟨rfl, rfl, rfl, rfl, trivial⟩ ⟨List.nodup_nil, rfl⟩
      · replace hm := ifF hm hb7
        refine WJ.exit ?_
        refine PJ.then_exit (PJ.then_exit (PJ.block_exit ?_))
        exact PJ.joined () [] hm ⟨rfl, trivial⟩ ⟨List.nodup_nil, rfl⟩
  · rintro _ hm
    subst hk5
    refine WJ.seq ?_
    refine WJ.quiet ?_
    refine QJ.step (YldS.yld (y_move rfl)) rfl ?_
    refine QJ.step (YldS.yld (y_lenS Try.runUnderlying27 hr3 rfl)) rfl ?_
    obtain ⟨r16, h17, hm⟩ := bindS hm
    refine QJ.step (y_call Try.call99 rfl (RetG.quiet fun w hw => ok_i_between h17 w )) rfl ?_
    refine QJ.step (YldS.yld (y_assign rfl)) rfl ?_
    refine QJ.done ?_
    refine PJ.next ?_
    refine WJ.ret ?_
    obtain rfl := Option.some.inj hm
    refine PJ.sel (L' := []) [] ⟨List.nodup_nil, rfl⟩ ?_
    exact PJ.retn (vs := [.bool r16]) Try.results107 ⟨rfl, trivial⟩ ⟨rfl, rfl⟩

set_option maxRecDepth 100000 in
set_option maxHeartbeats 1000000 in
theorem ok_i_isColumn {n1 : Int} {r : Bool} (hm : i_isColumn n1 = some r) (w : World)  :
    Calls Try.prog 108 #[.int .i64 n1] w (Ret (cx w) (.bool r)) := by
  unfold i_isColumn at hm
  refine Calls.enter [.int .i64 n1] Try.func108 rfl Try.ntmps108 rfl ?_
  refine WJ.seq ?_
  refine WJ.quiet ?_
  refine QJ.step (YldS.yld (y_assign rfl)) rfl ?_
  refine QJ.done ?_
  refine PJ.next ?_
  refine WJ.seq ?_
  refine WJ.quiet ?_
  refine QJ.step (YldS.yld (y_move rfl)) rfl ?_
  obtain ⟨r2, h3, hm⟩ := bindS hm
  refine QJ.step (y_call Try.call99 rfl (RetG.quiet fun w hw => ok_i_between h3 w )) rfl ?_
  refine QJ.step (YldS.yld (y_assign rfl)) rfl ?_
  refine QJ.done ?_
  refine PJ.next ?_
  refine WJ.ret ?_
  obtain rfl := Option.some.inj hm
  refine PJ.sel (L' := []) [] ⟨List.nodup_nil, rfl⟩ ?_
  exact PJ.retn (vs := [.bool r2]) Try.results108 ⟨rfl, trivial⟩ ⟨rfl, rfl⟩

set_option maxRecDepth 100000 in
set_option maxHeartbeats 1000000 in
theorem ok_i_ValidRack {N : Nat} {stops1 : List Int} {r : Bool} (hm : i_ValidRack N stops1 = some r) (w : World) (v2 : Value) (hr3 : RdS w (cx w).Fz v2 fI64.rp stops1) :
    Calls Try.prog 109 #[v2] w (Ret (cx w) (.bool r)) := by
  unfold i_ValidRack at hm
  refine Calls.enter [v2] Try.func109 rfl Try.ntmps109 rfl ?_
  refine WJ.seq ?_
  refine WJ.quiet ?_
  refine QJ.step (YldS.yld (y_assign rfl)) rfl ?_
  refine QJ.done ?_
  refine PJ.next ?_
  refine WJ.seq ?_
  refine WJ.seq ?_
  refine WJ.quiet ?_
  refine QJ.step (YldS.yld (y_move rfl)) rfl ?_
  refine QJ.step (YldS.yld (y_lenS Try.runUnderlying27 hr3 rfl)) rfl ?_
  refine QJ.step (YldS.yld (y_bin rfl rfl rfl)) rfl ?_
  refine QJ.done ?_
  refine PJ.next ?_
  refine WJ.cond (t := decide ((List.length stops1 : Int) > 12)) rfl (fun hb4 => ?_) (fun hb4 => ?_)
  · replace hm := ifT hm hb4
    refine WJ.seq ?_
    refine WJ.quiet ?_
    refine QJ.step (YldS.yld (y_assign rfl)) rfl ?_
    refine QJ.done ?_
    refine PJ.next ?_
    refine WJ.ret ?_
    refine PJ.then_ret ?_
    obtain rfl := Option.some.inj hm
    refine PJ.sel (L' := []) [] ⟨List.nodup_nil, rfl⟩ ?_
    exact PJ.retn (vs := [.bool false]) Try.results109 ⟨rfl, trivial⟩ ⟨rfl, rfl⟩
  · replace hm := ifF hm hb4
    refine WJ.skip ?_
    refine PJ.next ?_
    obtain ⟨kj5, hk6, hm⟩ := withK_open hm
    refine WJ.join (X := Unit) (fun (_ : Unit) => kj5  = some r) (fun (_ : Unit) => []) (fun (_ : Unit) => []) ?_ ?_
    · clear hk6
      refine WJ.seq ?_
      refine WJ.quiet ?_
      refine QJ.step (YldS.yld (y_move rfl)) rfl ?_
      refine QJ.step (YldS.yld (y_lenS Try.runUnderlying27 hr3 rfl)) rfl ?_
      refine QJ.step (YldS.yld (y_move rfl)) rfl ?_
      refine QJ.done ?_
      refine PJ.next ?_
      refine WJ.block ?_
      refine WJ.sel (L' := (fun (x : Int) => []) 0) [] ⟨List.nodup_nil, rfl⟩ ?_
      refine WJ.sub (m' := (fun (x : Int) => [(0, v2), (8, v2), (9, .int .i64 (List.length stops1 : Int)), (10, .int .i64 x)]) 0) ⟨rfl, rfl, rfl, rfl, trivial⟩ ?_
      refine WJ.loop (X := Int) (fun N (x : Int) => i_ValidRack_l1 kj5 stops1 N x = some r) (fun (x : Int) => [(0, v2), (8, v2), (9, .int .i64 (List.length stops1 : Int)), (10, .int .i64 x)]) (fun (x : Int) => []) ?_ N 0 hm
      · rintro N x7 hI
        have hm := hI; clear hI
        cases N with
        | zero => cases hm
        | succ N =>
        unfold i_ValidRack_l1 at hm
        refine WJ.seq ?_
        refine WJ.quiet ?_
        refine QJ.step (YldS.yld (y_bin rfl rfl rfl)) rfl ?_
        refine QJ.done ?_
        refine PJ.next ?_
        refine WJ.seq ?_
        refine WJ.cond (t := decide (x7 < (List.length stops1 : Int))) rfl (fun hb8 => ?_) (fun hb8 => ?_)
        · replace hm := ifT hm hb8
          refine WJ.skip ?_
          refine PJ.next ?_
          refine WJ.seq ?_
          refine WJ.block ?_
          refine WJ.seq ?_
          refine WJ.quiet ?_
          refine QJ.step (YldS.yld (y_move rfl)) rfl ?_
          obtain ⟨e9, h10, hm⟩ := bindS hm
          obtain ⟨ad11, _, rfl, ha12, hy13⟩ := hr3.elem h10
          refine QJ.step (YldS.yld (hy13 Try.runUnderlying27 Try.sizeOf2 rfl rfl)) rfl ?_
          refine QJ.step (YldS.yld (y_load1 (v := .int .i64 e9) Try.isAgg2 ha12 St.frozenC rfl)) rfl ?_
          refine QJ.step (YldS.yld (y_assign rfl)) rfl ?_
          refine QJ.step (YldS.yld (y_assign rfl)) rfl ?_
          refine QJ.done ?_
          refine PJ.next ?_
          refine WJ.seq ?_
          refine WJ.quiet ?_
          refine QJ.step (YldS.yld (y_move rfl)) rfl ?_
          obtain ⟨r14, h15, hm⟩ := bindS hm
          refine QJ.step (y_call Try.call108 rfl (RetG.quiet fun w hw => ok_i_isColumn h15 w )) rfl ?_
          refine QJ.step (YldS.yld (y_not rfl)) rfl ?_
          refine QJ.step (YldS.yld (y_move rfl)) rfl ?_
          obtain ⟨t16, h17, hm⟩ := bindS hm
          refine QJ.cut 12 [(0, v2), (8, v2), (9, .int .i64 (List.length stops1 : Int)), (10, .int .i64 x7), (30, .bool t16)] ?_ ?_
          · rcases Bool.eq_false_or_eq_true (!r14) with hb18 | hb18
            · obtain rfl := orT h17 hb18
              refine QJ.off rfl rfl (cB hb18) rfl rfl ?_
              refine QJ.off rfl rfl (cB hb18) rfl rfl ?_
              refine QJ.off rfl rfl (cB hb18) rfl rfl ?_
              refine QJ.off_undef rfl rfl rfl rfl ?_
              refine QJ.off_undef rfl rfl rfl rfl ?_
              refine QJ.off_undef rfl rfl rfl rfl ?_
              refine QJ.off_undef rfl rfl rfl rfl ?_
              refine QJ.off_undef rfl rfl rfl rfl ?_
              refine QJ.off_undef rfl rfl rfl rfl ?_
              refine QJ.off_undef rfl rfl rfl rfl ?_
              refine QJ.off rfl rfl (cB hb18) rfl rfl ?_
              refine QJ.step (YldS.yld (y_pick_t (cB hb18) rfl)) rfl ?_
              exact QJ.cut_end ⟨rfl, rfl, rfl, rfl, rfl, trivial⟩
            · replace h17 := orF h17 hb18
              refine QJ.on rfl rfl (cB hb18) (YldS.yld (y_move rfl)) rfl ?_
              refine QJ.on rfl rfl (cB hb18) (YldS.yld (y_bin rfl rfl rfl)) rfl ?_
              refine QJ.on rfl rfl (cB hb18) (YldS.yld (y_move rfl)) rfl ?_
              obtain ⟨t19, h20, h17⟩ := bindS h17
              refine QJ.cut 8 [(0, v2), (8, v2), (9, .int .i64 (List.length stops1 : Int)), (10, .int .i64 x7), (18, .bool (!r14)), (29, .bool t19)] ?_ ?_
              · rcases Bool.eq_false_or_eq_true (decide (x7 > 0)) with hb21 | hb21
                · replace h20 := andT h20 hb21
                  refine QJ.on rfl rfl (cB hb21) (YldS.yld (y_move rfl)) rfl ?_
                  refine QJ.on rfl rfl (cB hb21) (YldS.yld (y_move rfl)) rfl ?_
                  refine QJ.on rfl rfl (cB hb21) (YldS.yld (y_move rfl)) rfl ?_
                  refine QJ.on rfl rfl (cB hb21) (YldS.yld (y_bin rfl rfl rfl)) rfl ?_
                  obtain ⟨e22, h23, h20⟩ := bindS h20
                  obtain ⟨ad24, _, rfl, ha25, hy26⟩ := hr3.elem h23
                  refine QJ.on rfl rfl (cB hb21) (YldS.yld (hy26 Try.runUnderlying27 Try.sizeOf2 rfl rfl)) rfl ?_
                  refine QJ.on rfl rfl (cB hb21) (YldS.yld (y_load1 (v := .int .i64 e22) Try.isAgg2 ha25 St.frozenC rfl)) rfl ?_
                  refine QJ.on rfl rfl (cB hb21) (YldS.yld (y_bin rfl rfl rfl)) rfl ?_
                  refine QJ.on rfl rfl (cB hb18) (YldS.yld (y_pick_t (cB hb21) rfl)) rfl ?_
                  obtain rfl := Option.some.inj h20
                  exact QJ.cut_end ⟨rfl, rfl, rfl, rfl, rfl, rfl, trivial⟩
                · obtain rfl := andF h20 hb21
                  refine QJ.off rfl rfl (cB hb21) rfl rfl ?_
                  refine QJ.off rfl rfl (cB hb21) rfl rfl ?_
                  refine QJ.off rfl rfl (cB hb21) rfl rfl ?_
                  refine QJ.off rfl rfl (cB hb21) rfl rfl ?_
                  refine QJ.off rfl rfl (cB hb21) rfl rfl ?_
                  refine QJ.off rfl rfl (cB hb21) rfl rfl ?_
                  refine QJ.off rfl rfl (cB hb21) rfl rfl ?_
                  refine QJ.on rfl rfl (cB hb18) (YldS.yld (y_pick_f (cB hb21) rfl)) rfl ?_
                  exact QJ.cut_end ⟨rfl, rfl, rfl, rfl, rfl, rfl, trivial⟩
              refine QJ.step (YldS.yld (y_pick_f (cB hb18) rfl)) rfl ?_
              obtain rfl := Option.some.inj h17
              exact QJ.cut_end ⟨rfl, rfl, rfl, rfl, rfl, trivial⟩
          refine QJ.done ?_
          refine PJ.next ?_
          refine WJ.cond (t := t16) rfl (fun hb27 => ?_) (fun hb27 => ?_)
          · replace hm := ifT hm hb27
            refine WJ.seq ?_
            refine WJ.quiet ?_
            refine QJ.step (YldS.yld (y_assign rfl)) rfl ?_
            refine QJ.done ?_
            refine PJ.next ?_
            refine WJ.ret ?_
            refine PJ.block_ret (PJ.then_ret (PJ.then_ret (PJ.block_ret (PJ.then_ret ?_))))
            obtain rfl := Option.some.inj hm
            refine PJ.sel (L' := []) [] ⟨List.nodup_nil, rfl⟩ ?_
            exact PJ.retn (vs := [.bool false]) Try.results109 ⟨rfl, trivial⟩ ⟨rfl, rfl⟩
          · replace hm := ifF hm hb27
            refine WJ.skip ?_
            refine PJ.block_normal (PJ.next ?_)
            refine WJ.quiet ?_
            refine QJ.step (YldS.yld (y_bin rfl rfl rfl)) rfl ?_
            refine QJ.step (YldS.yld (y_move rfl)) rfl ?_
            refine QJ.done ?_
            exact PJ.round (w64 (x7 + 1)) [] hm ⟨rfl, rfl, rfl, rfl, trivial⟩ ⟨List.nodup_nil, rfl⟩
        · replace hm := ifF hm hb8
          refine WJ.exit ?_
          refine PJ.then_exit (PJ.then_exit (PJ.block_exit ?_))
          exact PJ.joined () [] hm trivial ⟨List.nodup_nil, rfl⟩
    · rintro _ hm
      subst hk6
      refine WJ.seq ?_
      refine WJ.quiet ?_
      refine QJ.step (YldS.yld (y_assign rfl)) rfl ?_
      refine QJ.done ?_
      refine PJ.next ?_
      refine WJ.ret ?_
      obtain rfl := Option.some.inj hm
      refine PJ.sel (L' := []) [] ⟨List.nodup_nil, rfl⟩ ?_
      exact PJ.retn (vs := [.bool true]) Try.results109 ⟨rfl, trivial⟩ ⟨rfl, rfl⟩

set_option maxRecDepth 100000 in
set_option maxHeartbeats 1000000 in
theorem ok_i_StopsFor {N : Nat} {widths1 : List Int} {left4 : Int} {gap5 : Int} {r : (List Int) × Int} (hm : i_StopsFor N widths1 left4 gap5 = some r) (w : World) (v2 : Value) (hr3 : RdS w (cx w).Fz v2 fI64.rp widths1) :
    Calls Try.prog 30 #[v2, .int .i64 left4, .int .i64 gap5] w (RetG (cx w) fun u L => ∃ (u1 : Value), (u = tup [u1, .int .i64 r.2] ∧ L = [row u1 2 fI64 r.1])) := by
  unfold i_StopsFor at hm
  refine Calls.enter [v2, .int .i64 left4, .int .i64 gap5] Try.func30 rfl Try.ntmps30 rfl ?_
  refine WJ.seq ?_
  refine WJ.quiet ?_
  refine QJ.step (YldS.yld (y_assign rfl)) rfl ?_
  refine QJ.step (YldS.yld (y_assign rfl)) rfl ?_
  refine QJ.done ?_
  refine PJ.next ?_
  refine WJ.seq ?_
  refine WJ.seq ?_
  refine WJ.quiet ?_
  refine QJ.step (YldS.yld (y_move rfl)) rfl ?_
  obtain ⟨r6, h7, hm⟩ := bindS hm
  refine QJ.step (y_call Try.call107 rfl (RetG.quiet fun w hw => ok_i_areWidths h7 w _ (hr3.st hw))) rfl ?_
  refine QJ.step (YldS.yld (y_not rfl)) rfl ?_
  refine QJ.step (YldS.yld (y_move rfl)) rfl ?_
  obtain ⟨t8, h9, hm⟩ := bindS hm
  refine QJ.cut 4 [(0, v2), (1, .int .i64 left4), (2, .int .i64 gap5), (19, .bool t8)] ?_ ?_
  · rcases Bool.eq_false_or_eq_true (!r6) with hb10 | hb10
    · obtain rfl := orT h9 hb10
      refine QJ.off rfl rfl (cB hb10) rfl rfl ?_
      refine QJ.off rfl rfl (cB hb10) rfl rfl ?_
      refine QJ.off rfl rfl (cB hb10) rfl rfl ?_
      refine QJ.step (YldS.yld (y_pick_t (cB hb10) rfl)) rfl ?_
      exact QJ.cut_end ⟨rfl, rfl, rfl, rfl, trivial⟩
    · replace h9 := orF h9 hb10
      refine QJ.on rfl rfl (cB hb10) (YldS.yld (y_move rfl)) rfl ?_
      obtain ⟨r11, h12, h9⟩ := bindS h9
      refine QJ.on rfl rfl (cB hb10) (y_call Try.call108 rfl (RetG.quiet fun w hw => ok_i_isColumn h12 w )) rfl ?_
      refine QJ.on rfl rfl (cB hb10) (YldS.yld (y_not rfl)) rfl ?_
      refine QJ.step (YldS.yld (y_pick_f (cB hb10) rfl)) rfl ?_
      obtain rfl := Option.some.inj h9
      exact QJ.cut_end ⟨rfl, rfl, rfl, rfl, trivial⟩
  refine QJ.step (YldS.yld (y_move rfl)) rfl ?_
  obtain ⟨t13, h14, hm⟩ := bindS hm
  refine QJ.cut 4 [(0, v2), (1, .int .i64 left4), (2, .int .i64 gap5), (24, .bool t13)] ?_ ?_
  · rcases Bool.eq_false_or_eq_true t8 with hb15 | hb15
    · obtain rfl := orT h14 hb15
      refine QJ.off rfl rfl (cB hb15) rfl rfl ?_
      refine QJ.off rfl rfl (cB hb15) rfl rfl ?_
      refine QJ.off rfl rfl (cB hb15) rfl rfl ?_
      refine QJ.step (YldS.yld (y_pick_t (cB hb15) rfl)) rfl ?_
      exact QJ.cut_end ⟨rfl, rfl, rfl, rfl, trivial⟩
    · replace h14 := orF h14 hb15
      refine QJ.on rfl rfl (cB hb15) (YldS.yld (y_move rfl)) rfl ?_
      obtain ⟨r16, h17, h14⟩ := bindS h14
      refine QJ.on rfl rfl (cB hb15) (y_call Try.call99 rfl (RetG.quiet fun w hw => ok_i_between h17 w )) rfl ?_
      refine QJ.on rfl rfl (cB hb15) (YldS.yld (y_not rfl)) rfl ?_
      refine QJ.step (YldS.yld (y_pick_f (cB hb15) rfl)) rfl ?_
      obtain rfl := Option.some.inj h14
      exact QJ.cut_end ⟨rfl, rfl, rfl, rfl, trivial⟩
  refine QJ.done ?_
  refine PJ.next ?_
  refine WJ.cond (t := t13) rfl (fun hb18 => ?_) (fun hb18 => ?_)
  · replace hm := ifT hm hb18
    refine WJ.seq ?_
    refine WJ.quiet ?_
    refine QJ.step (YldS.yld (y_assign rfl)) rfl ?_
    refine QJ.step (YldS.yld (y_assign rfl)) rfl ?_
    refine QJ.done ?_
    refine PJ.next ?_
    refine WJ.ret ?_
    refine PJ.then_ret ?_
    refine PJ.nil_row 2 fI64 ?_
    obtain rfl := Option.some.inj hm
    refine PJ.sel (L' := [row (.slice none 0 0) 2 fI64 []]) [0] ⟨by decide, rfl⟩ ?_
    exact PJ.retn (vs := [(.slice none 0 0), .int .i64 2]) Try.results30 ⟨rfl, rfl, trivial⟩ ⟨_, rfl, rfl⟩
  · replace hm := ifF hm hb18
    refine WJ.skip ?_
    refine PJ.next ?_
    refine WJ.seq ?_
    refine WJ.reg ?_
    refine SJ.buildSlice (R := fI64) (os := []) [] Try.runUnderlying27 Try.sizeOf2 Try.zeroValue2 rfl rfl rfl rfl rfl rfl fun v19 => ?_
    refine SJ.q (YldS.yld (y_assign rfl)) rfl ?_
    refine SJ.nil ?_
    refine PJ.next ?_
    refine WJ.seq ?_
    refine WJ.quiet ?_
    refine QJ.step (YldS.yld (y_move rfl)) rfl ?_
    refine QJ.step (YldS.yld (y_assign rfl)) rfl ?_
    refine QJ.done ?_
    refine PJ.next ?_
    obtain ⟨kj23, hk24, hm⟩ := withK_open hm
    refine WJ.join (X := (List Int) × Value × Int) (fun (x : (List Int) × Value × Int) => kj23 x.1 x.2.2 = some r) (fun (x : (List Int) × Value × Int) => [(2, .int .i64 gap5), (8, x.2.1), (9, .int .i64 x.2.2)]) (fun (x : (List Int) × Value × Int) => [row x.2.1 2 fI64 x.1]) ?_ ?_
    · clear hk24
      refine WJ.seq ?_
      refine WJ.quiet ?_
      refine QJ.step (YldS.yld (y_move rfl)) rfl ?_
      refine QJ.step (YldS.yld (y_lenS Try.runUnderlying27 hr3 rfl)) rfl ?_
      refine QJ.step (YldS.yld (y_move rfl)) rfl ?_
      refine QJ.done ?_
      refine PJ.next ?_
      refine WJ.block ?_
      refine WJ.sel (L' := (fun (x : (List Int) × Value × Int × Int) => [row x.2.1 2 fI64 x.1]) ([], v19, left4, 0)) [0] ⟨by decide, rfl⟩ ?_
      refine WJ.sub (m' := (fun (x : (List Int) × Value × Int × Int) => [(2, .int .i64 gap5), (8, x.2.1), (9, .int .i64 x.2.2.1), (27, v2), (28, .int .i64 (List.length widths1 : Int)), (29, .int .i64 x.2.2.2)]) ([], v19, left4, 0)) ⟨rfl, rfl, rfl, rfl, rfl, rfl, trivial⟩ ?_
      refine WJ.loop (X := (List Int) × Value × Int × Int) (fun N (x : (List Int) × Value × Int × Int) => i_StopsFor_l1 kj23 widths1 gap5 N x.1 x.2.2.1 x.2.2.2 = some r) (fun (x : (List Int) × Value × Int × Int) => [(2, .int .i64 gap5), (8, x.2.1), (9, .int .i64 x.2.2.1), (27, v2), (28, .int .i64 (List.length widths1 : Int)), (29, .int .i64 x.2.2.2)]) (fun (x : (List Int) × Value × Int × Int) => [row x.2.1 2 fI64 x.1]) ?_ N ([], v19, left4, 0) hm
      · rintro N ⟨l25, v26, at27, x28⟩ hI
        have hm := hI; clear hI
        cases N with
        | zero => cases hm
        | succ N =>
        unfold i_StopsFor_l1 at hm
        refine WJ.seq ?_
        refine WJ.quiet ?_
        refine QJ.step (YldS.yld (y_bin rfl rfl rfl)) rfl ?_
        refine QJ.done ?_
        refine PJ.next ?_
        refine WJ.seq ?_
        refine WJ.cond (t := decide (x28 < (List.length widths1 : Int))) rfl (fun hb29 => ?_) (fun hb29 => ?_)
        · replace hm := ifT hm hb29
          refine WJ.skip ?_
          refine PJ.next ?_
          refine WJ.seq ?_
          refine WJ.block ?_
          refine WJ.seq ?_
          refine WJ.quiet ?_
          obtain ⟨e30, h31, hm⟩ := bindS hm
          obtain ⟨ad32, _, rfl, ha33, hy34⟩ := hr3.elem h31
          refine QJ.step (YldS.yld (hy34 Try.runUnderlying27 Try.sizeOf2 rfl rfl)) rfl ?_
          refine QJ.step (YldS.yld (y_load1 (v := .int .i64 e30) Try.isAgg2 ha33 St.frozenC rfl)) rfl ?_
          refine QJ.step (YldS.yld (y_assign rfl)) rfl ?_
          refine QJ.done ?_
          refine PJ.next ?_
          refine WJ.seq ?_
          refine WJ.reg ?_
          refine SJ.q (YldS.yld (y_move rfl)) rfl ?_
          refine SJ.q (YldS.yld (y_move rfl)) rfl ?_
          refine SJ.buildSlice (R := fI64) (os := [.tmp 34]) [at27] Try.runUnderlying27 Try.sizeOf2 Try.zeroValue2 rfl rfl rfl rfl rfl rfl fun v35 => ?_
          obtain ⟨l36, h37, hm⟩ := bindS hm
          refine SJ.append (k := 1) (R := fI64) h37 rfl Try.underlying27 el2 rfl rfl rfl (fun w hw => (hw.row_rd (k := 0) rfl)) rfl fun v38 => ?_
          refine SJ.q (YldS.yld (y_assign rfl)) rfl ?_
          refine SJ.nil ?_
          refine PJ.next ?_
          refine WJ.quiet ?_
          refine QJ.step (YldS.yld (y_move rfl)) rfl ?_
          refine QJ.step (YldS.yld (y_move rfl)) rfl ?_
          refine QJ.step (YldS.yld (y_move rfl)) rfl ?_
          refine QJ.step (YldS.yld (y_bin rfl rfl rfl)) rfl ?_
          refine QJ.step (YldS.yld (y_bin rfl rfl rfl)) rfl ?_
          refine QJ.step (YldS.yld (y_assign rfl)) rfl ?_
          refine QJ.done ?_
          refine PJ.block_normal (PJ.next ?_)
          refine WJ.quiet ?_
          refine QJ.step (YldS.yld (y_bin rfl rfl rfl)) rfl ?_
          refine QJ.step (YldS.yld (y_move rfl)) rfl ?_
          refine QJ.done ?_
          exact PJ.round (l36, v38, w64 (at27 + (w64 (e30 + gap5))), w64 (x28 + 1)) [1] hm ⟨rfl, rfl, rfl, rfl, rfl, rfl, trivial⟩ ⟨by decide, rfl⟩
        · replace hm := ifF hm hb29
          refine WJ.exit ?_
          refine PJ.then_exit (PJ.then_exit (PJ.block_exit ?_))
          exact PJ.joined (l25, v26, at27) [0] hm ⟨rfl, rfl, rfl, trivial⟩ ⟨by decide, rfl⟩
    · rintro ⟨l20, v21, at22⟩ hm
      subst hk24
      refine WJ.seq ?_
      refine WJ.seq ?_
      refine WJ.quiet ?_
      refine QJ.step (YldS.yld (y_move rfl)) rfl ?_
      obtain ⟨r39, h40, hm⟩ := bindS hm
      refine QJ.step (y_call Try.call109 rfl (RetG.quiet fun w hw => ok_i_ValidRack h40 w _ (hw.row_rd (k := 0) rfl))) rfl ?_
      refine QJ.step (YldS.yld (y_not rfl)) rfl ?_
      refine QJ.step (YldS.yld (y_move rfl)) rfl ?_
      obtain ⟨t41, h42, hm⟩ := bindS hm
      refine QJ.cut 5 [(8, v21), (51, .bool t41)] ?_ ?_
      · rcases Bool.eq_false_or_eq_true (!r39) with hb43 | hb43
        · obtain rfl := orT h42 hb43
          refine QJ.off rfl rfl (cB hb43) rfl rfl ?_
          refine QJ.off rfl rfl (cB hb43) rfl rfl ?_
          refine QJ.off rfl rfl (cB hb43) rfl rfl ?_
          refine QJ.off rfl rfl (cB hb43) rfl rfl ?_
          refine QJ.step (YldS.yld (y_pick_t (cB hb43) rfl)) rfl ?_
          exact QJ.cut_end ⟨rfl, rfl, trivial⟩
        · replace h42 := orF h42 hb43
          refine QJ.on rfl rfl (cB hb43) (YldS.yld (y_move rfl)) rfl ?_
          refine QJ.on rfl rfl (cB hb43) (YldS.yld (y_move rfl)) rfl ?_
          refine QJ.on rfl rfl (cB hb43) (YldS.yld (y_bin rfl rfl rfl)) rfl ?_
          refine QJ.on rfl rfl (cB hb43) (YldS.yld (y_bin rfl rfl rfl)) rfl ?_
          refine QJ.step (YldS.yld (y_pick_f (cB hb43) rfl)) rfl ?_
          obtain rfl := Option.some.inj h42
          exact QJ.cut_end ⟨rfl, rfl, trivial⟩
      refine QJ.done ?_
      refine PJ.next ?_
      refine WJ.cond (t := t41) rfl (fun hb44 => ?_) (fun hb44 => ?_)
      · replace hm := ifT hm hb44
        refine WJ.seq ?_
        refine WJ.quiet ?_
        refine QJ.step (YldS.yld (y_assign rfl)) rfl ?_
        refine QJ.step (YldS.yld (y_assign rfl)) rfl ?_
        refine QJ.done ?_
        refine PJ.next ?_
        refine WJ.ret ?_
        refine PJ.then_ret ?_
        refine PJ.nil_row 2 fI64 ?_
        obtain rfl := Option.some.inj hm
        refine PJ.sel (L' := [row (.slice none 0 0) 2 fI64 []]) [0] ⟨by decide, rfl⟩ ?_
        exact PJ.retn (vs := [(.slice none 0 0), .int .i64 5]) Try.results30 ⟨rfl, rfl, trivial⟩ ⟨_, rfl, rfl⟩
      · replace hm := ifF hm hb44
        refine WJ.skip ?_
        refine PJ.next ?_
        refine WJ.seq ?_
        refine WJ.quiet ?_
        refine QJ.step (YldS.yld (y_move rfl)) rfl ?_
        refine QJ.step (YldS.yld (y_assign rfl)) rfl ?_
        refine QJ.step (YldS.yld (y_assign rfl)) rfl ?_
        refine QJ.done ?_
        refine PJ.next ?_
        refine WJ.ret ?_
        obtain rfl := Option.some.inj hm
        refine PJ.sel (L' := [row v21 2 fI64 l20]) [0] ⟨by decide, rfl⟩ ?_
        exact PJ.retn (vs := [v21, .int .i64 0]) Try.results30 ⟨rfl, rfl, trivial⟩ ⟨_, rfl, rfl⟩

set_option maxRecDepth 100000 in
set_option maxHeartbeats 1000000 in
theorem ok_s_l08Columns {N : Nat} {widths1 : List Int} {r : Bool} (hm : s_l08Columns N widths1 = some r) (w : World) (v2 : Value) (hr3 : RdS w (cx w).Fz v2 fI64.rp widths1) :
    Calls Try.prog 110 #[v2] w (Ret (cx w) (.bool r)) := by
  unfold s_l08Columns at hm
  refine Calls.enter [v2] Try.func110 rfl Try.ntmps110 rfl ?_
  refine WJ.seq ?_
  refine WJ.quiet ?_
  refine QJ.step (YldS.yld (y_assign rfl)) rfl ?_
  refine QJ.done ?_
  refine PJ.next ?_
  obtain ⟨kj4, hk5, hm⟩ := withK_open hm
  refine WJ.join (X := Unit) (fun (_ : Unit) => kj4  = some r) (fun (_ : Unit) => [(0, v2)]) (fun (_ : Unit) => []) ?_ ?_
  · clear hk5
    refine WJ.seq ?_
    refine WJ.quiet ?_
    refine QJ.step (YldS.yld (y_assign rfl)) rfl ?_
    refine QJ.done ?_
    refine PJ.next ?_
    refine WJ.block ?_
    refine WJ.sel (L' := (fun (x : Int) => []) 0) [] ⟨List.nodup_nil, rfl⟩ ?_
    refine WJ.sub (m' := (fun (x : Int) => [(0, v2), (3, .int .i64 x)]) 0) ⟨rfl, rfl, trivial⟩ ?_
    refine WJ.loop (X := Int) (fun N (x : Int) => s_l08Columns_l1 kj4 widths1 N x = some r) (fun (x : Int) => [(0, v2), (3, .int .i64 x)]) (fun (x : Int) => []) ?_ N 0 hm
    · rintro N i6 hI
      have hm := hI; clear hI
      cases N with
      | zero => cases hm
      | succ N =>
      unfold s_l08Columns_l1 at hm
      refine WJ.seq ?_
      refine WJ.seq ?_
      refine WJ.quiet ?_
      refine QJ.step (YldS.yld (y_move rfl)) rfl ?_
      refine QJ.step (YldS.yld (y_move rfl)) rfl ?_
      refine QJ.step (YldS.yld (y_lenS Try.runUnderlying27 hr3 rfl)) rfl ?_
      refine QJ.step (YldS.yld (y_bin rfl rfl rfl)) rfl ?_
      refine QJ.done ?_
      refine PJ.next ?_
      refine WJ.cond (t := decide (i6 < (List.length widths1 : Int))) rfl (fun hb7 => ?_) (fun hb7 => ?_)
      · replace hm := ifT hm hb7
        refine WJ.skip ?_
        refine PJ.next ?_
        refine WJ.seq ?_
        refine WJ.block ?_
        refine WJ.seq ?_
        refine WJ.quiet ?_
        refine QJ.step (YldS.yld (y_move rfl)) rfl ?_
        refine QJ.step (YldS.yld (y_move rfl)) rfl ?_
        obtain ⟨e8, h9, hm⟩ := bindS hm
        obtain ⟨ad10, _, rfl, ha11, hy12⟩ := hr3.elem h9
        refine QJ.step (YldS.yld (hy12 Try.runUnderlying27 Try.sizeOf2 rfl rfl)) rfl ?_
        refine QJ.step (YldS.yld (y_load1 (v := .int .i64 e8) Try.isAgg2 ha11 St.frozenC rfl)) rfl ?_
        obtain ⟨r13, h14, hm⟩ := bindS hm
        refine QJ.step (y_call Try.call103 rfl (RetG.quiet fun w hw => ok_s_l00In h14 w )) rfl ?_
        refine QJ.step (YldS.yld (y_not rfl)) rfl ?_
        refine QJ.done ?_
        refine PJ.next ?_
        refine WJ.cond (t := !r13) rfl (fun hb15 => ?_) (fun hb15 => ?_)
        · replace hm := ifT hm hb15
          refine WJ.seq ?_
          refine WJ.quiet ?_
          refine QJ.step (YldS.yld (y_assign rfl)) rfl ?_
          refine QJ.done ?_
          refine PJ.next ?_
          refine WJ.ret ?_
          refine PJ.block_ret (PJ.then_ret (PJ.then_ret (PJ.block_ret (PJ.then_ret ?_))))
          obtain rfl := Option.some.inj hm
          refine PJ.sel (L' := []) [] ⟨List.nodup_nil, rfl⟩ ?_
          exact PJ.retn (vs := [.bool false]) Try.results110 ⟨rfl, trivial⟩ ⟨rfl, rfl⟩
        · replace hm := ifF hm hb15
          refine WJ.skip ?_
          refine PJ.block_normal (PJ.next ?_)
          refine WJ.quiet ?_
          refine QJ.step (YldS.yld (y_move rfl)) rfl ?_
          refine QJ.step (YldS.yld (y_bin rfl rfl rfl)) rfl ?_
          refine QJ.step (YldS.yld (y_assign rfl)) rfl ?_
          refine QJ.done ?_
          exact PJ.round (w64 (i6 + 1)) [] hm ⟨rfl, rfl, trivial⟩ ⟨List.nodup_nil, rfl⟩
      · replace hm := ifF hm hb7
        refine WJ.exit ?_
        refine PJ.then_exit (PJ.then_exit (PJ.block_exit ?_))
        exact PJ.joined () [] hm ⟨rfl, trivial⟩ ⟨List.nodup_nil, rfl⟩
  · rintro _ hm
    subst hk5
    refine WJ.seq ?_
    refine WJ.quiet ?_
    refine QJ.step (YldS.yld (y_move rfl)) rfl ?_
    refine QJ.step (YldS.yld (y_lenS Try.runUnderlying27 hr3 rfl)) rfl ?_
    obtain ⟨r16, h17, hm⟩ := bindS hm
    refine QJ.step (y_call Try.call103 rfl (RetG.quiet fun w hw => ok_s_l00In h17 w )) rfl ?_
    refine QJ.step (YldS.yld (y_assign rfl)) rfl ?_
    refine QJ.done ?_
    refine PJ.next ?_
    refine WJ.ret ?_
    obtain rfl := Option.some.inj hm
    refine PJ.sel (L' := []) [] ⟨List.nodup_nil, rfl⟩ ?_
    exact PJ.retn (vs := [.bool r16]) Try.results110 ⟨rfl, trivial⟩ ⟨rfl, rfl⟩

set_option maxRecDepth 100000 in
set_option maxHeartbeats 1000000 in
theorem ok_s_l00Rises {N : Nat} {list1 : List Int} {low4 : Int} {high5 : Int} {r : Bool} (hm : s_l00Rises N list1 low4 high5 = some r) (w : World) (v2 : Value) (hr3 : RdS w (cx w).Fz v2 fI64.rp list1) :
    Calls Try.prog 159 #[v2, .int .i64 low4, .int .i64 high5] w (Ret (cx w) (.bool r)) := by
  unfold s_l00Rises at hm
  refine Calls.enter [v2, .int .i64 low4, .int .i64 high5] Try.func159 rfl Try.ntmps159 rfl ?_
  refine WJ.seq ?_
  refine WJ.quiet ?_
  refine QJ.step (YldS.yld (y_assign rfl)) rfl ?_
  refine QJ.done ?_
  refine PJ.next ?_
  obtain ⟨kj6, hk7, hm⟩ := withK_open hm
  refine WJ.join (X := Unit) (fun (_ : Unit) => kj6  = some r) (fun (_ : Unit) => []) (fun (_ : Unit) => []) ?_ ?_
  · clear hk7
    refine WJ.seq ?_
    refine WJ.quiet ?_
    refine QJ.step (YldS.yld (y_assign rfl)) rfl ?_
    refine QJ.done ?_
    refine PJ.next ?_
    refine WJ.block ?_
    refine WJ.sel (L' := (fun (x : Int) => []) 0) [] ⟨List.nodup_nil, rfl⟩ ?_
    refine WJ.sub (m' := (fun (x : Int) => [(0, v2), (1, .int .i64 low4), (2, .int .i64 high5), (7, .int .i64 x)]) 0) ⟨rfl, rfl, rfl, rfl, trivial⟩ ?_
    refine WJ.loop (X := Int) (fun N (x : Int) => s_l00Rises_l1 kj6 list1 low4 high5 N x = some r) (fun (x : Int) => [(0, v2), (1, .int .i64 low4), (2, .int .i64 high5), (7, .int .i64 x)]) (fun (x : Int) => []) ?_ N 0 hm
    · rintro N i8 hI
      have hm := hI; clear hI
      cases N with
      | zero => cases hm
      | succ N =>
      unfold s_l00Rises_l1 at hm
      refine WJ.seq ?_
      refine WJ.seq ?_
      refine WJ.quiet ?_
      refine QJ.step (YldS.yld (y_move rfl)) rfl ?_
      refine QJ.step (YldS.yld (y_move rfl)) rfl ?_
      refine QJ.step (YldS.yld (y_lenS Try.runUnderlying27 hr3 rfl)) rfl ?_
      refine QJ.step (YldS.yld (y_bin rfl rfl rfl)) rfl ?_
      refine QJ.done ?_
      refine PJ.next ?_
      refine WJ.cond (t := decide (i8 < (List.length list1 : Int))) rfl (fun hb9 => ?_) (fun hb9 => ?_)
      · replace hm := ifT hm hb9
        refine WJ.skip ?_
        refine PJ.next ?_
        refine WJ.seq ?_
        refine WJ.block ?_
        refine WJ.seq ?_
        refine WJ.quiet_draw follows (by kernel_rfl) ?_
        refine QJ.step (YldS.yld (y_move rfl)) rfl ?_
        refine QJ.step (YldS.yld (y_move rfl)) rfl ?_
        obtain ⟨e10, h11, hm⟩ := bindS hm
        obtain ⟨ad12, _, rfl, ha13, hy14⟩ := hr3.elem h11
        refine QJ.step (YldS.yld (hy14 Try.runUnderlying27 Try.sizeOf2 rfl rfl)) rfl ?_
        refine QJ.step (YldS.yld (y_load1 (v := .int .i64 e10) Try.isAgg2 ha13 St.frozenC rfl)) rfl ?_
        refine QJ.step (YldS.yld (y_move rfl)) rfl ?_
        refine QJ.step (YldS.yld (y_move rfl)) rfl ?_
        obtain ⟨r15, h16, hm⟩ := bindS hm
        refine QJ.step (y_call Try.call103 rfl (RetG.quiet fun w hw => ok_s_l00In h16 w )) rfl ?_
        refine QJ.step (YldS.yld (y_not rfl)) rfl ?_
        refine QJ.step (YldS.yld (y_move rfl)) rfl ?_
        obtain ⟨t17, h18, hm⟩ := bindS hm
        refine QJ.cut 15 [(0, v2), (1, .int .i64 low4), (2, .int .i64 high5), (7, .int .i64 i8), (37, .bool t17)] ?_ ?_
        · rcases Bool.eq_false_or_eq_true (!r15) with hb19 | hb19
          · obtain rfl := orT h18 hb19
            refine QJ.off rfl rfl (cB hb19) rfl rfl ?_
            refine QJ.off rfl rfl (cB hb19) rfl rfl ?_
            refine QJ.off rfl rfl (cB hb19) rfl rfl ?_
            refine QJ.off_undef rfl rfl rfl rfl ?_
            refine QJ.off_undef rfl rfl rfl rfl ?_
            refine QJ.off_undef rfl rfl rfl rfl ?_
            refine QJ.off_undef rfl rfl rfl rfl ?_
            refine QJ.off_undef rfl rfl rfl rfl ?_
            refine QJ.off_undef rfl rfl rfl rfl ?_
            refine QJ.off_undef rfl rfl rfl rfl ?_
            refine QJ.off_undef rfl rfl rfl rfl ?_
            refine QJ.off_undef rfl rfl rfl rfl ?_
            refine QJ.off_undef rfl rfl rfl rfl ?_
            refine QJ.off rfl rfl (cB hb19) rfl rfl ?_
            refine QJ.step (YldS.yld (y_pick_t (cB hb19) rfl)) rfl ?_
            exact QJ.cut_end ⟨rfl, rfl, rfl, rfl, rfl, trivial⟩
          · replace h18 := orF h18 hb19
            refine QJ.on rfl rfl (cB hb19) (YldS.yld (y_move rfl)) rfl ?_
            refine QJ.on rfl rfl (cB hb19) (YldS.yld (y_bin rfl rfl rfl)) rfl ?_
            refine QJ.on rfl rfl (cB hb19) (YldS.yld (y_move rfl)) rfl ?_
            obtain ⟨t20, h21, h18⟩ := bindS h18
            refine QJ.cut 11 [(0, v2), (1, .int .i64 low4), (2, .int .i64 high5), (7, .int .i64 i8), (22, .bool (!r15)), (36, .bool t20)] ?_ ?_
            · rcases Bool.eq_false_or_eq_true (decide (i8 > 0)) with hb22 | hb22
              · replace h21 := andT h21 hb22
                refine QJ.on rfl rfl (cB hb22) (YldS.yld (y_move rfl)) rfl ?_
                refine QJ.on rfl rfl (cB hb22) (YldS.yld (y_move rfl)) rfl ?_
                refine QJ.on rfl rfl (cB hb22) (YldS.yld (y_bin rfl rfl rfl)) rfl ?_
                obtain ⟨e23, h24, h21⟩ := bindS h21
                obtain ⟨ad25, _, rfl, ha26, hy27⟩ := hr3.elem h24
                refine QJ.on rfl rfl (cB hb22) (YldS.yld (hy27 Try.runUnderlying27 Try.sizeOf2 rfl rfl)) rfl ?_
                refine QJ.on rfl rfl (cB hb22) (YldS.yld (y_load1 (v := .int .i64 e23) Try.isAgg2 ha26 St.frozenC rfl)) rfl ?_
                refine QJ.on rfl rfl (cB hb22) (YldS.yld (y_move rfl)) rfl ?_
                refine QJ.on rfl rfl (cB hb22) (YldS.yld (y_move rfl)) rfl ?_
                obtain ⟨e28, h29, h21⟩ := bindS h21
                obtain ⟨ad30, _, rfl, ha31, hy32⟩ := hr3.elem h29
                refine QJ.on rfl rfl (cB hb22) (YldS.yld (hy32 Try.runUnderlying27 Try.sizeOf2 rfl rfl)) rfl ?_
                refine QJ.on rfl rfl (cB hb22) (YldS.yld (y_load1 (v := .int .i64 e28) Try.isAgg2 ha31 St.frozenC rfl)) rfl ?_
                refine QJ.on rfl rfl (cB hb22) (YldS.yld (y_bin rfl rfl rfl)) rfl ?_
                refine QJ.on rfl rfl (cB hb19) (YldS.yld (y_pick_t (cB hb22) rfl)) rfl ?_
                obtain rfl := Option.some.inj h21
                exact QJ.cut_end ⟨rfl, rfl, rfl, rfl, rfl, rfl, trivial⟩
              · obtain rfl := andF h21 hb22
                refine QJ.off rfl rfl (cB hb22) rfl rfl ?_
                refine QJ.off rfl rfl (cB hb22) rfl rfl ?_
                refine QJ.off rfl rfl (cB hb22) rfl rfl ?_
                refine QJ.off rfl rfl (cB hb22) rfl rfl ?_
                refine QJ.off rfl rfl (cB hb22) rfl rfl ?_
                refine QJ.off rfl rfl (cB hb22) rfl rfl ?_
                refine QJ.off rfl rfl (cB hb22) rfl rfl ?_
                refine QJ.off rfl rfl (cB hb22) rfl rfl ?_
                refine QJ.off rfl rfl (cB hb22) rfl rfl ?_
                refine QJ.off rfl rfl (cB hb22) rfl rfl ?_
                refine QJ.on rfl rfl (cB hb19) (YldS.yld (y_pick_f (cB hb22) rfl)) rfl ?_
                exact QJ.cut_end ⟨rfl, rfl, rfl, rfl, rfl, rfl, trivial⟩
            refine QJ.step (YldS.yld (y_pick_f (cB hb19) rfl)) rfl ?_
            obtain rfl := Option.some.inj h18
            exact QJ.cut_end ⟨rfl, rfl, rfl, rfl, rfl, trivial⟩
        refine QJ.done ?_
        refine PJ.next ?_
        refine WJ.cond (t := t17) rfl (fun hb33 => ?_) (fun hb33 => ?_)
        · replace hm := ifT hm hb33
          refine WJ.seq ?_
          refine WJ.quiet ?_
          refine QJ.step (YldS.yld (y_assign rfl)) rfl ?_
          refine QJ.done ?_
          refine PJ.next ?_
          refine WJ.ret ?_
          refine PJ.block_ret (PJ.then_ret (PJ.then_ret (PJ.block_ret (PJ.then_ret ?_))))
          obtain rfl := Option.some.inj hm
          refine PJ.sel (L' := []) [] ⟨List.nodup_nil, rfl⟩ ?_
          exact PJ.retn (vs := [.bool false]) Try.results159 ⟨rfl, trivial⟩ ⟨rfl, rfl⟩
        · replace hm := ifF hm hb33
          refine WJ.skip ?_
          refine PJ.block_normal (PJ.next ?_)
          refine WJ.quiet ?_
          refine QJ.step (YldS.yld (y_move rfl)) rfl ?_
          refine QJ.step (YldS.yld (y_bin rfl rfl rfl)) rfl ?_
          refine QJ.step (YldS.yld (y_assign rfl)) rfl ?_
          refine QJ.done ?_
          exact PJ.round (w64 (i8 + 1)) [] hm ⟨rfl, rfl, rfl, rfl, trivial⟩ ⟨List.nodup_nil, rfl⟩
      · replace hm := ifF hm hb9
        refine WJ.exit ?_
        refine PJ.then_exit (PJ.then_exit (PJ.block_exit ?_))
        exact PJ.joined () [] hm trivial ⟨List.nodup_nil, rfl⟩
  · rintro _ hm
    subst hk7
    refine WJ.seq ?_
    refine WJ.quiet ?_
    refine QJ.step (YldS.yld (y_assign rfl)) rfl ?_
    refine QJ.done ?_
    refine PJ.next ?_
    refine WJ.ret ?_
    obtain rfl := Option.some.inj hm
    refine PJ.sel (L' := []) [] ⟨List.nodup_nil, rfl⟩ ?_
    exact PJ.retn (vs := [.bool true]) Try.results159 ⟨rfl, trivial⟩ ⟨rfl, rfl⟩

set_option maxRecDepth 100000 in
set_option maxHeartbeats 1000000 in
theorem ok_s_l08Ok {N : Nat} {stops1 : List Int} {r : Bool} (hm : s_l08Ok N stops1 = some r) (w : World) (v2 : Value) (hr3 : RdS w (cx w).Fz v2 fI64.rp stops1) :
    Calls Try.prog 111 #[v2] w (Ret (cx w) (.bool r)) := by
  unfold s_l08Ok at hm
  refine Calls.enter [v2] Try.func111 rfl Try.ntmps111 rfl ?_
  refine WJ.seq ?_
  refine WJ.quiet ?_
  refine QJ.step (YldS.yld (y_assign rfl)) rfl ?_
  refine QJ.done ?_
  refine PJ.next ?_
  refine WJ.seq ?_
  refine WJ.quiet ?_
  refine QJ.step (YldS.yld (y_move rfl)) rfl ?_
  refine QJ.step (YldS.yld (y_lenS Try.runUnderlying27 hr3 rfl)) rfl ?_
  refine QJ.step (YldS.yld (y_bin rfl rfl rfl)) rfl ?_
  refine QJ.step (YldS.yld (y_move rfl)) rfl ?_
  obtain ⟨t4, h5, hm⟩ := bindS hm
  refine QJ.cut 3 [(9, .bool t4)] ?_ ?_
  · rcases Bool.eq_false_or_eq_true (decide ((List.length stops1 : Int) ≤ 12)) with hb6 | hb6
    · replace h5 := andT h5 hb6
      refine QJ.on rfl rfl (cB hb6) (YldS.yld (y_move rfl)) rfl ?_
      obtain ⟨r7, h8, h5⟩ := bindS h5
      refine QJ.on rfl rfl (cB hb6) (y_call Try.call159 rfl (RetG.quiet fun w hw => ok_s_l00Rises h8 w _ (hr3.st hw))) rfl ?_
      refine QJ.step (YldS.yld (y_pick_t (cB hb6) rfl)) rfl ?_
      obtain rfl := Option.some.inj h5
      exact QJ.cut_end ⟨rfl, trivial⟩
    · obtain rfl := andF h5 hb6
      refine QJ.off rfl rfl (cB hb6) rfl rfl ?_
      refine QJ.off rfl rfl (cB hb6) rfl rfl ?_
      refine QJ.step (YldS.yld (y_pick_f (cB hb6) rfl)) rfl ?_
      exact QJ.cut_end ⟨rfl, trivial⟩
  refine QJ.step (YldS.yld (y_assign rfl)) rfl ?_
  refine QJ.done ?_
  refine PJ.next ?_
  refine WJ.ret ?_
  obtain rfl := Option.some.inj hm
  refine PJ.sel (L' := []) [] ⟨List.nodup_nil, rfl⟩ ?_
  exact PJ.retn (vs := [.bool t4]) Try.results111 ⟨rfl, trivial⟩ ⟨rfl, rfl⟩

set_option maxRecDepth 100000 in
set_option maxHeartbeats 1000000 in
theorem ok_s_StopsFor {N : Nat} {widths1 : List Int} {left4 : Int} {gap5 : Int} {r : (List Int) × Int} (hm : s_StopsFor N widths1 left4 gap5 = some r) (w : World) (v2 : Value) (hr3 : RdS w (cx w).Fz v2 fI64.rp widths1) :
    Calls Try.prog 31 #[v2, .int .i64 left4, .int .i64 gap5] w (RetG (cx w) fun u L => ∃ (u1 : Value), (u = tup [u1, .int .i64 r.2] ∧ L = [row u1 2 fI64 r.1])) := by
  unfold s_StopsFor at hm
  refine Calls.enter [v2, .int .i64 left4, .int .i64 gap5] Try.func31 rfl Try.ntmps31 rfl ?_
  refine WJ.seq ?_
  refine WJ.quiet ?_
  refine QJ.step (YldS.yld (y_assign rfl)) rfl ?_
  refine QJ.step (YldS.yld (y_assign rfl)) rfl ?_
  refine QJ.done ?_
  refine PJ.next ?_
  refine WJ.seq ?_
  refine WJ.seq ?_
  refine WJ.quiet ?_
  refine QJ.step (YldS.yld (y_move rfl)) rfl ?_
  obtain ⟨r6, h7, hm⟩ := bindS hm
  refine QJ.step (y_call Try.call110 rfl (RetG.quiet fun w hw => ok_s_l08Columns h7 w _ (hr3.st hw))) rfl ?_
  refine QJ.step (YldS.yld (y_not rfl)) rfl ?_
  refine QJ.step (YldS.yld (y_move rfl)) rfl ?_
  obtain ⟨t8, h9, hm⟩ := bindS hm
  refine QJ.cut 4 [(0, v2), (1, .int .i64 left4), (2, .int .i64 gap5), (18, .bool t8)] ?_ ?_
  · rcases Bool.eq_false_or_eq_true (!r6) with hb10 | hb10
    · obtain rfl := orT h9 hb10
      refine QJ.off rfl rfl (cB hb10) rfl rfl ?_
      refine QJ.off rfl rfl (cB hb10) rfl rfl ?_
      refine QJ.off rfl rfl (cB hb10) rfl rfl ?_
      refine QJ.step (YldS.yld (y_pick_t (cB hb10) rfl)) rfl ?_
      exact QJ.cut_end ⟨rfl, rfl, rfl, rfl, trivial⟩
    · replace h9 := orF h9 hb10
      refine QJ.on rfl rfl (cB hb10) (YldS.yld (y_move rfl)) rfl ?_
      obtain ⟨r11, h12, h9⟩ := bindS h9
      refine QJ.on rfl rfl (cB hb10) (y_call Try.call103 rfl (RetG.quiet fun w hw => ok_s_l00In h12 w )) rfl ?_
      refine QJ.on rfl rfl (cB hb10) (YldS.yld (y_not rfl)) rfl ?_
      refine QJ.step (YldS.yld (y_pick_f (cB hb10) rfl)) rfl ?_
      obtain rfl := Option.some.inj h9
      exact QJ.cut_end ⟨rfl, rfl, rfl, rfl, trivial⟩
  refine QJ.step (YldS.yld (y_move rfl)) rfl ?_
  obtain ⟨t13, h14, hm⟩ := bindS hm
  refine QJ.cut 4 [(0, v2), (1, .int .i64 left4), (2, .int .i64 gap5), (23, .bool t13)] ?_ ?_
  · rcases Bool.eq_false_or_eq_true t8 with hb15 | hb15
    · obtain rfl := orT h14 hb15
      refine QJ.off rfl rfl (cB hb15) rfl rfl ?_
      refine QJ.off rfl rfl (cB hb15) rfl rfl ?_
      refine QJ.off rfl rfl (cB hb15) rfl rfl ?_
      refine QJ.step (YldS.yld (y_pick_t (cB hb15) rfl)) rfl ?_
      exact QJ.cut_end ⟨rfl, rfl, rfl, rfl, trivial⟩
    · replace h14 := orF h14 hb15
      refine QJ.on rfl rfl (cB hb15) (YldS.yld (y_move rfl)) rfl ?_
      obtain ⟨r16, h17, h14⟩ := bindS h14
      refine QJ.on rfl rfl (cB hb15) (y_call Try.call103 rfl (RetG.quiet fun w hw => ok_s_l00In h17 w )) rfl ?_
      refine QJ.on rfl rfl (cB hb15) (YldS.yld (y_not rfl)) rfl ?_
      refine QJ.step (YldS.yld (y_pick_f (cB hb15) rfl)) rfl ?_
      obtain rfl := Option.some.inj h14
      exact QJ.cut_end ⟨rfl, rfl, rfl, rfl, trivial⟩
  refine QJ.done ?_
  refine PJ.next ?_
  refine WJ.cond (t := t13) rfl (fun hb18 => ?_) (fun hb18 => ?_)
  · replace hm := ifT hm hb18
    refine WJ.seq ?_
    refine WJ.quiet ?_
    refine QJ.step (YldS.yld (y_assign rfl)) rfl ?_
    refine QJ.step (YldS.yld (y_assign rfl)) rfl ?_
    refine QJ.done ?_
    refine PJ.next ?_
    refine WJ.ret ?_
    refine PJ.then_ret ?_
    refine PJ.nil_row 2 fI64 ?_
    obtain rfl := Option.some.inj hm
    refine PJ.sel (L' := [row (.slice none 0 0) 2 fI64 []]) [0] ⟨by decide, rfl⟩ ?_
    exact PJ.retn (vs := [(.slice none 0 0), .int .i64 2]) Try.results31 ⟨rfl, rfl, trivial⟩ ⟨_, rfl, rfl⟩
  · replace hm := ifF hm hb18
    refine WJ.skip ?_
    refine PJ.next ?_
    refine WJ.seq ?_
    refine WJ.reg ?_
    refine SJ.buildSlice (R := fI64) (os := []) [] Try.runUnderlying27 Try.sizeOf2 Try.zeroValue2 rfl rfl rfl rfl rfl rfl fun v19 => ?_
    refine SJ.q (YldS.yld (y_assign rfl)) rfl ?_
    refine SJ.nil ?_
    refine PJ.next ?_
    refine WJ.seq ?_
    refine WJ.quiet ?_
    refine QJ.step (YldS.yld (y_move rfl)) rfl ?_
    refine QJ.step (YldS.yld (y_assign rfl)) rfl ?_
    refine QJ.done ?_
    refine PJ.next ?_
    obtain ⟨kj23, hk24, hm⟩ := withK_open hm
    refine WJ.join (X := (List Int) × Value × Int) (fun (x : (List Int) × Value × Int) => kj23 x.1 x.2.2 = some r) (fun (x : (List Int) × Value × Int) => [(2, .int .i64 gap5), (8, x.2.1), (9, .int .i64 x.2.2)]) (fun (x : (List Int) × Value × Int) => [row x.2.1 2 fI64 x.1]) ?_ ?_
    · clear hk24
      refine WJ.seq ?_
      refine WJ.quiet ?_
      refine QJ.step (YldS.yld (y_assign rfl)) rfl ?_
      refine QJ.done ?_
      refine PJ.next ?_
      refine WJ.block ?_
      refine WJ.sel (L' := (fun (x : (List Int) × Value × Int × Int) => [row x.2.1 2 fI64 x.1]) ([], v19, left4, 0)) [0] ⟨by decide, rfl⟩ ?_
      refine WJ.sub (m' := (fun (x : (List Int) × Value × Int × Int) => [(0, v2), (2, .int .i64 gap5), (8, x.2.1), (9, .int .i64 x.2.2.1), (10, .int .i64 x.2.2.2)]) ([], v19, left4, 0)) ⟨rfl, rfl, rfl, rfl, rfl, trivial⟩ ?_
      refine WJ.loop (X := (List Int) × Value × Int × Int) (fun N (x : (List Int) × Value × Int × Int) => s_StopsFor_l1 kj23 widths1 gap5 N x.1 x.2.2.1 x.2.2.2 = some r) (fun (x : (List Int) × Value × Int × Int) => [(0, v2), (2, .int .i64 gap5), (8, x.2.1), (9, .int .i64 x.2.2.1), (10, .int .i64 x.2.2.2)]) (fun (x : (List Int) × Value × Int × Int) => [row x.2.1 2 fI64 x.1]) ?_ N ([], v19, left4, 0) hm
      · rintro N ⟨l25, v26, at27, i28⟩ hI
        have hm := hI; clear hI
        cases N with
        | zero => cases hm
        | succ N =>
        unfold s_StopsFor_l1 at hm
        refine WJ.seq ?_
        refine WJ.seq ?_
        refine WJ.quiet ?_
        refine QJ.step (YldS.yld (y_move rfl)) rfl ?_
        refine QJ.step (YldS.yld (y_move rfl)) rfl ?_
        refine QJ.step (YldS.yld (y_lenS Try.runUnderlying27 hr3 rfl)) rfl ?_
        refine QJ.step (YldS.yld (y_bin rfl rfl rfl)) rfl ?_
        refine QJ.done ?_
        refine PJ.next ?_
        refine WJ.cond (t := decide (i28 < (List.length widths1 : Int))) rfl (fun hb29 => ?_) (fun hb29 => ?_)
        · replace hm := ifT hm hb29
          refine WJ.skip ?_
          refine PJ.next ?_
          refine WJ.seq ?_
          refine WJ.block ?_
          refine WJ.seq ?_
          refine WJ.reg ?_
          refine SJ.q (YldS.yld (y_move rfl)) rfl ?_
          refine SJ.q (YldS.yld (y_move rfl)) rfl ?_
          refine SJ.buildSlice (R := fI64) (os := [.tmp 33]) [at27] Try.runUnderlying27 Try.sizeOf2 Try.zeroValue2 rfl rfl rfl rfl rfl rfl fun v30 => ?_
          obtain ⟨l31, h32, hm⟩ := bindS hm
          refine SJ.append (k := 1) (R := fI64) h32 rfl Try.underlying27 el2 rfl rfl rfl (fun w hw => (hw.row_rd (k := 0) rfl)) rfl fun v33 => ?_
          refine SJ.q (YldS.yld (y_assign rfl)) rfl ?_
          refine SJ.nil ?_
          refine PJ.next ?_
          refine WJ.quiet ?_
          refine QJ.step (YldS.yld (y_move rfl)) rfl ?_
          refine QJ.step (YldS.yld (y_move rfl)) rfl ?_
          refine QJ.step (YldS.yld (y_move rfl)) rfl ?_
          obtain ⟨e34, h35, hm⟩ := bindS hm
          obtain ⟨ad36, _, rfl, ha37, hy38⟩ := hr3.elem h35
          refine QJ.step (YldS.yld (hy38 Try.runUnderlying27 Try.sizeOf2 rfl rfl)) rfl ?_
          refine QJ.step (YldS.yld (y_load1 (v := .int .i64 e34) Try.isAgg2 ha37 St.frozenC rfl)) rfl ?_
          refine QJ.step (YldS.yld (y_move rfl)) rfl ?_
          refine QJ.step (YldS.yld (y_bin rfl rfl rfl)) rfl ?_
          refine QJ.step (YldS.yld (y_bin rfl rfl rfl)) rfl ?_
          refine QJ.step (YldS.yld (y_assign rfl)) rfl ?_
          refine QJ.done ?_
          refine PJ.block_normal (PJ.next ?_)
          refine WJ.quiet ?_
          refine QJ.step (YldS.yld (y_move rfl)) rfl ?_
          refine QJ.step (YldS.yld (y_bin rfl rfl rfl)) rfl ?_
          refine QJ.step (YldS.yld (y_assign rfl)) rfl ?_
          refine QJ.done ?_
          exact PJ.round (l31, v33, w64 (at27 + (w64 (e34 + gap5))), w64 (i28 + 1)) [1] hm ⟨rfl, rfl, rfl, rfl, rfl, trivial⟩ ⟨by decide, rfl⟩
        · replace hm := ifF hm hb29
          refine WJ.exit ?_
          refine PJ.then_exit (PJ.then_exit (PJ.block_exit ?_))
          exact PJ.joined (l25, v26, at27) [0] hm ⟨rfl, rfl, rfl, trivial⟩ ⟨by decide, rfl⟩
    · rintro ⟨l20, v21, at22⟩ hm
      subst hk24
      refine WJ.seq ?_
      refine WJ.seq ?_
      refine WJ.quiet ?_
      refine QJ.step (YldS.yld (y_move rfl)) rfl ?_
      refine QJ.step (YldS.yld (y_move rfl)) rfl ?_
      refine QJ.step (YldS.yld (y_bin rfl rfl rfl)) rfl ?_
      refine QJ.step (YldS.yld (y_bin rfl rfl rfl)) rfl ?_
      refine QJ.step (YldS.yld (y_move rfl)) rfl ?_
      obtain ⟨t39, h40, hm⟩ := bindS hm
      refine QJ.cut 4 [(8, v21), (52, .bool t39)] ?_ ?_
      · rcases Bool.eq_false_or_eq_true (decide ((w64 (at22 - gap5)) > 120)) with hb41 | hb41
        · obtain rfl := orT h40 hb41
          refine QJ.off rfl rfl (cB hb41) rfl rfl ?_
          refine QJ.off rfl rfl (cB hb41) rfl rfl ?_
          refine QJ.off rfl rfl (cB hb41) rfl rfl ?_
          refine QJ.step (YldS.yld (y_pick_t (cB hb41) rfl)) rfl ?_
          exact QJ.cut_end ⟨rfl, rfl, trivial⟩
        · replace h40 := orF h40 hb41
          refine QJ.on rfl rfl (cB hb41) (YldS.yld (y_move rfl)) rfl ?_
          obtain ⟨r42, h43, h40⟩ := bindS h40
          refine QJ.on rfl rfl (cB hb41) (y_call Try.call111 rfl (RetG.quiet fun w hw => ok_s_l08Ok h43 w _ (hw.row_rd (k := 0) rfl))) rfl ?_
          refine QJ.on rfl rfl (cB hb41) (YldS.yld (y_not rfl)) rfl ?_
          refine QJ.step (YldS.yld (y_pick_f (cB hb41) rfl)) rfl ?_
          obtain rfl := Option.some.inj h40
          exact QJ.cut_end ⟨rfl, rfl, trivial⟩
      refine QJ.done ?_
      refine PJ.next ?_
      refine WJ.cond (t := t39) rfl (fun hb44 => ?_) (fun hb44 => ?_)
      · replace hm := ifT hm hb44
        refine WJ.seq ?_
        refine WJ.quiet ?_
        refine QJ.step (YldS.yld (y_assign rfl)) rfl ?_
        refine QJ.step (YldS.yld (y_assign rfl)) rfl ?_
        refine QJ.done ?_
        refine PJ.next ?_
        refine WJ.ret ?_
        refine PJ.then_ret ?_
        refine PJ.nil_row 2 fI64 ?_
        obtain rfl := Option.some.inj hm
        refine PJ.sel (L' := [row (.slice none 0 0) 2 fI64 []]) [0] ⟨by decide, rfl⟩ ?_
        exact PJ.retn (vs := [(.slice none 0 0), .int .i64 5]) Try.results31 ⟨rfl, rfl, trivial⟩ ⟨_, rfl, rfl⟩
      · replace hm := ifF hm hb44
        refine WJ.skip ?_
        refine PJ.next ?_
        refine WJ.seq ?_
        refine WJ.quiet ?_
        refine QJ.step (YldS.yld (y_move rfl)) rfl ?_
        refine QJ.step (YldS.yld (y_assign rfl)) rfl ?_
        refine QJ.step (YldS.yld (y_assign rfl)) rfl ?_
        refine QJ.done ?_
        refine PJ.next ?_
        refine WJ.ret ?_
        obtain rfl := Option.some.inj hm
        refine PJ.sel (L' := [row v21 2 fI64 l20]) [0] ⟨by decide, rfl⟩ ?_
        exact PJ.retn (vs := [v21, .int .i64 0]) Try.results31 ⟨rfl, rfl, trivial⟩ ⟨_, rfl, rfl⟩

end Go.Proofs.Ytpmanofdlhlkdaa
