/-
  The walks: a call hands back what its plain function computes, where that has a value. No other conditions.
-/
import Derived.Test.YtoojddajhalimaaFnCorrectedM
import Derived.Test.YtoojddajhalimaaChecked
namespace Go.Proofs.Ytoojddajhalimaa
open Go.RowKit Go.Proofs
set_option linter.unusedVariables false
set_option linter.unusedSimpArgs false

theorem follows : Try.prog.follows .mixedOrders = true := by kernel_rfl

def Over.enc (x : Over) : List Value := [str x.under, str x.top, str x.seen]
def fOver : FRp Over := ⟨3, Over.enc, fun _ => rfl, by decide, fun x u hu => by
  simp only [Over.enc, List.mem_cons, List.not_mem_nil, or_false] at hu
  rcases hu with rfl | rfl | rfl <;> rfl⟩

theorem pl185 : PlacesOk Try.prog 185 [(0, 1), (1, 1), (2, 1)] := ⟨_, Try.runUnderlying185, fun w => by simp [Try.sizeOf3, Try.sizeOf22, Try.sizeOf183]⟩
theorem fld185_1 : FieldOk Try.prog 185 1 1 3 0 := ⟨_, _, Try.runUnderlying185, rfl, rfl, rfl, Try.sizeOf3⟩
theorem fld185_0 : FieldOk Try.prog 185 0 0 22 0 := ⟨_, _, Try.runUnderlying185, rfl, rfl, rfl, Try.sizeOf22⟩
theorem fld185_2 : FieldOk Try.prog 185 2 2 183 0 := ⟨_, _, Try.runUnderlying185, rfl, rfl, rfl, Try.sizeOf183⟩
theorem pl39 : PlacesOk Try.prog 39 [(0, 1), (1, 1), (2, 1)] := ⟨_, Try.runUnderlying39, fun w => by simp [Try.sizeOf9]⟩
theorem fld39_1 : FieldOk Try.prog 39 1 1 9 0 := ⟨_, _, Try.runUnderlying39, rfl, rfl, rfl, Try.sizeOf9⟩
theorem fld39_2 : FieldOk Try.prog 39 2 2 9 0 := ⟨_, _, Try.runUnderlying39, rfl, rfl, rfl, Try.sizeOf9⟩
set_option maxRecDepth 100000 in
theorem el39 : ElemOk Try.prog 39 3 (fOver.enc (Over.mk [] [] [])) := ⟨_, _, Try.type39, rfl, rfl, rfl, by decide⟩
theorem fld39_0 : FieldOk Try.prog 39 0 0 9 0 := ⟨_, _, Try.runUnderlying39, rfl, rfl, rfl, Try.sizeOf9⟩
set_option maxRecDepth 100000 in
theorem el5 : ElemOk Try.prog 5 1 (fByte.enc 0) := ⟨_, _, Try.type5, rfl, rfl, rfl, by decide⟩

set_option maxRecDepth 100000 in
set_option maxHeartbeats 1000000 in
theorem ok_w_f6big {code1 : List UInt8} {r : Bool} (hm : w_f6big code1 = some r) (w : World) (v2 : Value) (hr3 : RdS w (cx w).Fz v2 fByte.rp code1) :
    Calls Try.prog 10 #[v2] w (Ret (cx w) (.bool r)) := by
  unfold w_f6big at hm
  refine Calls.enter [v2] Try.func10 rfl Try.ntmps10 rfl ?_
  refine WJ.seq ?_
  refine WJ.quiet ?_
  refine QJ.step (YldS.yld (y_assign rfl)) rfl ?_
  refine QJ.done ?_
  refine PJ.next ?_
  refine WJ.seq ?_
  refine WJ.quiet ?_
  refine QJ.step (YldS.yld (y_move rfl)) rfl ?_
  refine QJ.step (YldS.yld (y_lenS Try.runUnderlying22 hr3 rfl)) rfl ?_
  refine QJ.step (YldS.yld (y_bin rfl rfl rfl)) rfl ?_
  refine QJ.step (YldS.yld (y_assign rfl)) rfl ?_
  refine QJ.done ?_
  refine PJ.next ?_
  refine WJ.ret ?_
  obtain rfl := Option.some.inj hm
  refine PJ.sel (L' := []) [] ⟨List.nodup_nil, rfl⟩ ?_
  exact PJ.retn (vs := [.bool (decide ((List.length code1 : Int) > 4096))]) Try.results10 ⟨rfl, trivial⟩ ⟨rfl, rfl⟩

set_option maxRecDepth 100000 in
set_option maxHeartbeats 1000000 in
theorem ok_s_l00From {code1 : List UInt8} {r : L00Src} (hm : s_l00From code1 = some r) (w : World) (v2 : Value) (hr3 : RdS w (cx w).Fz v2 fByte.rp code1) :
    Calls Try.prog 95 #[v2] w (RetG (cx w) fun u L => ∃ (u1 : Nat), (u = pt u1 0 ∧ L = [box u1 185 [v2, .int .i64 r.at_, .int .u64 r.seed]])) := by
  unfold s_l00From at hm
  refine Calls.enter [v2] Try.func95 rfl Try.ntmps95 rfl ?_
  refine WJ.seq ?_
  refine WJ.quiet ?_
  refine QJ.step (YldS.yld (y_assign rfl)) rfl ?_
  refine QJ.done ?_
  refine PJ.next ?_
  refine WJ.seq ?_
  refine WJ.reg ?_
  refine SJ.q (YldS.yld (y_move rfl)) rfl ?_
  refine SJ.q (YldS.yld (y_build (parts := [(0, .tmp 3)]) (places := [(0, 1), (1, 1), (2, 1)]) (r := [v2, .int .i64 0, .int .u64 0]) pl185 Try.zeroValue185 rfl rfl (show _ = [(0, [v2])] from by simp only [List.map, RdS.cells1 hr3]) rfl)) rfl ?_
  refine SJ.box (cs := [v2, .int .i64 0, .int .u64 0]) rfl rfl rfl fun g4 => ?_
  refine SJ.q (YldS.yld (y_assign rfl)) rfl ?_
  refine SJ.nil ?_
  refine PJ.next ?_
  refine WJ.ret ?_
  obtain rfl := Option.some.inj hm
  refine PJ.sel (L' := [box g4 185 [v2, .int .i64 0, .int .u64 0]]) [0] ⟨by decide, rfl⟩ ?_
  exact PJ.retn (vs := [pt g4 0]) Try.results95 ⟨rfl, trivial⟩ ⟨_, rfl, rfl⟩

set_option maxRecDepth 100000 in
set_option maxHeartbeats 1000000 in
theorem ok_s_l00Src_next {s1 : L00Src} {g2 : Nat} {r : Int × L00Src} (hm : s_l00Src_next s1 = some r) (w : World) (S : Nat → Prop) (v3 : Value) (hr4 : RdS w (Cx.Fz ⟨w, S⟩) v3 fByte.rp s1.code) (hA : (box g2 185 [v3, .int .i64 s1.at_, .int .u64 s1.seed]).holds w S) :
    Calls Try.prog 181 #[pt g2 0] w (RetG ⟨w, S⟩ fun u L => (u = .int .i64 r.1 ∧ L = [box g2 185 [v3, .int .i64 r.2.at_, .int .u64 r.2.seed]])) := by
  unfold s_l00Src_next at hm
  refine Calls.enter1 hA [pt g2 0] Try.func181 rfl Try.ntmps181 rfl ?_
  refine WJ.seq ?_
  refine WJ.quiet ?_
  refine QJ.step (YldS.yld (y_assign rfl)) rfl ?_
  refine QJ.done ?_
  refine PJ.next ?_
  refine WJ.seq ?_
  refine WJ.quiet ?_
  refine QJ.step (YldS.yld (y_assign rfl)) rfl ?_
  refine QJ.done ?_
  refine PJ.next ?_
  obtain ⟨k6, hk7, hm⟩ := withK_open hm
  refine WJ.join (X := Int) (fun (x : Int) => k6 x = some r) (fun (x : Int) => [(0, pt g2 0), (3, .int .i64 x)]) (fun (x : Int) => [box g2 185 [v3, .int .i64 s1.at_, .int .u64 s1.seed]]) ?_ ?_
  · clear hk7
    refine WJ.seq ?_
    refine WJ.quiet_draw follows (by kernel_rfl) ?_
    refine QJ.step (YldS.yld (y_move rfl)) rfl ?_
    refine QJ.step (YldS.yld (y_nil rfl)) rfl ?_
    refine QJ.step (YldS.yld (y_fldB (o := 0) fld185_1 rfl)) rfl ?_
    refine QJ.step (YldS.yld (y_loadB (k := 0) (off := 1) (v := .int .i64 s1.at_) rfl Try.isAgg3 rfl rfl)) rfl ?_
    refine QJ.step (YldS.yld (y_move rfl)) rfl ?_
    refine QJ.step (YldS.yld (y_nil rfl)) rfl ?_
    refine QJ.step (YldS.yld (y_fldB (o := 0) fld185_0 rfl)) rfl ?_
    refine QJ.step (YldS.yld (y_loadB (k := 0) (off := 0) (v := v3) rfl Try.isAgg22 rfl rfl)) rfl ?_
    refine QJ.step (YldS.yld (y_lenS Try.runUnderlying22 hr4 rfl)) rfl ?_
    refine QJ.step (YldS.yld (y_bin rfl rfl rfl)) rfl ?_
    refine QJ.done ?_
    refine PJ.next ?_
    refine WJ.cond (t := decide (s1.at_ < (List.length s1.code : Int))) rfl (fun hb8 => ?_) (fun hb8 => ?_)
    · replace hm := ifT hm hb8
      refine WJ.quiet_draw follows (by kernel_rfl) ?_
      refine QJ.step (YldS.yld (y_move rfl)) rfl ?_
      refine QJ.step (YldS.yld (y_nil rfl)) rfl ?_
      refine QJ.step (YldS.yld (y_fldB (o := 0) fld185_0 rfl)) rfl ?_
      refine QJ.step (YldS.yld (y_loadB (k := 0) (off := 0) (v := v3) rfl Try.isAgg22 rfl rfl)) rfl ?_
      refine QJ.step (YldS.yld (y_move rfl)) rfl ?_
      refine QJ.step (YldS.yld (y_nil rfl)) rfl ?_
      refine QJ.step (YldS.yld (y_fldB (o := 0) fld185_1 rfl)) rfl ?_
      refine QJ.step (YldS.yld (y_loadB (k := 0) (off := 1) (v := .int .i64 s1.at_) rfl Try.isAgg3 rfl rfl)) rfl ?_
      obtain ⟨e9, h10, hm⟩ := bindS hm
      obtain ⟨ad11, _, rfl, ha12, hy13⟩ := hr4.elem h10
      refine QJ.step (YldS.yld (hy13 Try.runUnderlying22 Try.sizeOf5 rfl rfl)) rfl ?_
      refine QJ.step (YldS.yld (y_load1 (v := .int .u8 (UInt8.toNat e9 : Int)) Try.isAgg5 ha12 St.frozenC rfl)) rfl ?_
      refine QJ.step (YldS.yld (y_conv8 Try.runUnderlying5 Try.runUnderlying3 rfl)) rfl ?_
      refine QJ.step (YldS.yld (y_assign rfl)) rfl ?_
      refine QJ.done ?_
      exact PJ.joined (UInt8.toNat e9 : Int) [0] hm ⟨rfl, rfl, trivial⟩ ⟨by decide, rfl⟩
    · replace hm := ifF hm hb8
      refine WJ.skip ?_
      exact PJ.joined 0 [0] hm ⟨rfl, rfl, trivial⟩ ⟨by decide, rfl⟩
  · rintro b5 hm
    subst hk7
    refine WJ.seq ?_
    refine WJ.reg ?_
    refine SJ.q (YldS.yld (y_move rfl)) rfl ?_
    refine SJ.q (YldS.yld (y_nil rfl)) rfl ?_
    refine SJ.q (YldS.yld (y_fldB (o := 0) fld185_1 rfl)) rfl ?_
    refine SJ.q (YldS.yld (y_loadB (k := 0) (off := 1) (v := .int .i64 s1.at_) rfl Try.isAgg3 rfl rfl)) rfl ?_
    refine SJ.q (YldS.yld (y_bin rfl rfl rfl)) rfl ?_
    refine SJ.q (YldS.yld (y_nil rfl)) rfl ?_
    refine SJ.q (YldS.yld (y_fldB (o := 0) fld185_1 rfl)) rfl ?_
    refine SJ.storeL (k := 0) (off := 1) (us := [.int .i64 (w64 (s1.at_ + 1))]) rfl rfl rfl rfl Try.sizeOf3 rfl rfl ?_
    refine SJ.nil ?_
    refine PJ.next ?_
    refine WJ.seq ?_
    refine WJ.reg ?_
    refine SJ.q (YldS.yld (y_move rfl)) rfl ?_
    refine SJ.q (YldS.yld (y_move rfl)) rfl ?_
    refine SJ.q (YldS.yld (y_nil rfl)) rfl ?_
    refine SJ.q (YldS.yld (y_fldB (o := 0) fld185_2 rfl)) rfl ?_
    refine SJ.q (YldS.yld (y_loadB (k := 0) (off := 2) (v := .int .u64 s1.seed) rfl Try.isAgg183 rfl rfl)) rfl ?_
    refine SJ.q (YldS.yld (y_bin rfl rfl rfl)) rfl ?_
    refine SJ.q (YldS.yld (y_move rfl)) rfl ?_
    refine SJ.q (YldS.yld (y_convI Try.runUnderlying3 Try.runUnderlying183 rfl)) rfl ?_
    refine SJ.q (YldS.yld (y_bin rfl rfl rfl)) rfl ?_
    refine SJ.q (YldS.yld (y_bin rfl rfl rfl)) rfl ?_
    refine SJ.q (YldS.yld (y_nil rfl)) rfl ?_
    refine SJ.q (YldS.yld (y_fldB (o := 0) fld185_2 rfl)) rfl ?_
    refine SJ.storeL (k := 0) (off := 2) (us := [.int .u64 (IntKind.u64.wrap ((IntKind.u64.wrap ((IntKind.u64.wrap (s1.seed * 6364136223846793005)) + (IntKind.u64.wrap b5))) + 1442695040888963407))]) rfl rfl rfl rfl Try.sizeOf183 rfl rfl ?_
    refine SJ.nil ?_
    refine PJ.next ?_
    refine WJ.seq ?_
    refine WJ.seq ?_
    refine WJ.quiet_draw follows (by kernel_rfl) ?_
    refine QJ.step (YldS.yld (y_move rfl)) rfl ?_
    refine QJ.step (YldS.yld (y_nil rfl)) rfl ?_
    refine QJ.step (YldS.yld (y_fldB (o := 0) fld185_1 rfl)) rfl ?_
    refine QJ.step (YldS.yld (y_loadB (k := 0) (off := 1) (v := .int .i64 (w64 (s1.at_ + 1))) rfl Try.isAgg3 rfl rfl)) rfl ?_
    refine QJ.step (YldS.yld (y_move rfl)) rfl ?_
    refine QJ.step (YldS.yld (y_nil rfl)) rfl ?_
    refine QJ.step (YldS.yld (y_fldB (o := 0) fld185_0 rfl)) rfl ?_
    refine QJ.step (YldS.yld (y_loadB (k := 0) (off := 0) (v := v3) rfl Try.isAgg22 rfl rfl)) rfl ?_
    refine QJ.step (YldS.yld (y_lenS Try.runUnderlying22 hr4 rfl)) rfl ?_
    refine QJ.step (YldS.yld (y_bin rfl rfl rfl)) rfl ?_
    refine QJ.done ?_
    refine PJ.next ?_
    refine WJ.cond (t := decide ((w64 (s1.at_ + 1)) ≤ (List.length s1.code : Int))) rfl (fun hb14 => ?_) (fun hb14 => ?_)
    · replace hm := ifT hm hb14
      refine WJ.seq ?_
      refine WJ.quiet ?_
      refine QJ.step (YldS.yld (y_move rfl)) rfl ?_
      refine QJ.step (YldS.yld (y_assign rfl)) rfl ?_
      refine QJ.done ?_
      refine PJ.next ?_
      refine WJ.ret ?_
      refine PJ.then_ret ?_
      obtain rfl := Option.some.inj hm
      refine PJ.sel (L' := [box g2 185 [v3, .int .i64 (w64 (s1.at_ + 1)), .int .u64 (IntKind.u64.wrap ((IntKind.u64.wrap ((IntKind.u64.wrap (s1.seed * 6364136223846793005)) + (IntKind.u64.wrap b5))) + 1442695040888963407))]]) [0] ⟨by decide, rfl⟩ ?_
      exact PJ.retn (vs := [.int .i64 b5]) Try.results181 ⟨rfl, trivial⟩ ⟨rfl, rfl⟩
    · replace hm := ifF hm hb14
      refine WJ.skip ?_
      refine PJ.next ?_
      refine WJ.seq ?_
      refine WJ.quiet ?_
      refine QJ.step (YldS.yld (y_move rfl)) rfl ?_
      refine QJ.step (YldS.yld (y_nil rfl)) rfl ?_
      refine QJ.step (YldS.yld (y_fldB (o := 0) fld185_2 rfl)) rfl ?_
      refine QJ.step (YldS.yld (y_loadB (k := 0) (off := 2) (v := .int .u64 (IntKind.u64.wrap ((IntKind.u64.wrap ((IntKind.u64.wrap (s1.seed * 6364136223846793005)) + (IntKind.u64.wrap b5))) + 1442695040888963407))) rfl Try.isAgg183 rfl rfl)) rfl ?_
      refine QJ.step (YldS.yld (y_shru rfl rfl rfl)) rfl ?_
      refine QJ.step (YldS.yld (y_andu rfl rfl rfl)) rfl ?_
      refine QJ.step (YldS.yld (y_convI Try.runUnderlying183 Try.runUnderlying2 rfl)) rfl ?_
      refine QJ.step (YldS.yld (y_assign rfl)) rfl ?_
      refine QJ.done ?_
      refine PJ.next ?_
      refine WJ.ret ?_
      obtain rfl := Option.some.inj hm
      refine PJ.sel (L' := [box g2 185 [v3, .int .i64 (w64 (s1.at_ + 1)), .int .u64 (IntKind.u64.wrap ((IntKind.u64.wrap ((IntKind.u64.wrap (s1.seed * 6364136223846793005)) + (IntKind.u64.wrap b5))) + 1442695040888963407))]]) [0] ⟨by decide, rfl⟩ ?_
      exact PJ.retn (vs := [.int .i64 (w64 (uand (ushr (IntKind.u64.wrap ((IntKind.u64.wrap ((IntKind.u64.wrap (s1.seed * 6364136223846793005)) + (IntKind.u64.wrap b5))) + 1442695040888963407)) 40) 255))]) Try.results181 ⟨rfl, trivial⟩ ⟨rfl, rfl⟩

set_option maxRecDepth 100000 in
set_option maxHeartbeats 1000000 in
theorem ok_s_l00Src_pick {s1 : L00Src} {n5 : Int} {g2 : Nat} {r : Int × L00Src} (hm : s_l00Src_pick s1 n5 = some r) (w : World) (S : Nat → Prop) (v3 : Value) (hr4 : RdS w (Cx.Fz ⟨w, S⟩) v3 fByte.rp s1.code) (hA : (box g2 185 [v3, .int .i64 s1.at_, .int .u64 s1.seed]).holds w S) :
    Calls Try.prog 97 #[pt g2 0, .int .i64 n5] w (RetG ⟨w, S⟩ fun u L => (u = .int .i64 r.1 ∧ L = [box g2 185 [v3, .int .i64 r.2.at_, .int .u64 r.2.seed]])) := by
  unfold s_l00Src_pick at hm
  refine Calls.enter1 hA [pt g2 0, .int .i64 n5] Try.func97 rfl Try.ntmps97 rfl ?_
  refine WJ.seq ?_
  refine WJ.quiet ?_
  refine QJ.step (YldS.yld (y_assign rfl)) rfl ?_
  refine QJ.done ?_
  refine PJ.next ?_
  refine WJ.seq ?_
  refine WJ.seq ?_
  refine WJ.quiet ?_
  refine QJ.step (YldS.yld (y_move rfl)) rfl ?_
  refine QJ.step (YldS.yld (y_bin rfl rfl rfl)) rfl ?_
  refine QJ.done ?_
  refine PJ.next ?_
  refine WJ.cond (t := decide (n5 ≤ 1)) rfl (fun hb6 => ?_) (fun hb6 => ?_)
  · replace hm := ifT hm hb6
    refine WJ.seq ?_
    refine WJ.quiet ?_
    refine QJ.step (YldS.yld (y_assign rfl)) rfl ?_
    refine QJ.done ?_
    refine PJ.next ?_
    refine WJ.ret ?_
    refine PJ.then_ret ?_
    obtain rfl := Option.some.inj hm
    refine PJ.sel (L' := [box g2 185 [v3, .int .i64 s1.at_, .int .u64 s1.seed]]) [0] ⟨by decide, rfl⟩ ?_
    exact PJ.retn (vs := [.int .i64 0]) Try.results97 ⟨rfl, trivial⟩ ⟨rfl, rfl⟩
  · replace hm := ifF hm hb6
    refine WJ.skip ?_
    refine PJ.next ?_
    refine WJ.seq ?_
    refine WJ.reg ?_
    refine SJ.q (YldS.yld (y_move rfl)) rfl ?_
    obtain ⟨r7, h8, hm⟩ := bindS hm
    refine SJ.call1 (k := 0) rfl Try.call181 rfl (fun w S hw hA hO => ok_s_l00Src_next h8 w S _ (hr4.st1 hw hO) hA) rfl ?_
    rintro _ _ ⟨rfl, rfl⟩
    refine SJ.q (YldS.yld (y_assign rfl)) rfl ?_
    refine SJ.nil ?_
    refine PJ.next ?_
    obtain ⟨k12, hk13, hm⟩ := withK_open hm
    refine WJ.join (X := Int × Int × Int) (fun (x : Int × Int × Int) => k12 x.1 x.2.1 x.2.2 = some r) (fun (x : Int × Int × Int) => [(1, .int .i64 n5), (5, .int .i64 x.2.2)]) (fun (x : Int × Int × Int) => [box g2 185 [v3, .int .i64 x.1, .int .u64 x.2.1]]) ?_ ?_
    · clear hk13
      refine WJ.seq ?_
      refine WJ.quiet ?_
      refine QJ.step (YldS.yld (y_move rfl)) rfl ?_
      refine QJ.step (YldS.yld (y_bin rfl rfl rfl)) rfl ?_
      refine QJ.done ?_
      refine PJ.next ?_
      refine WJ.cond (t := decide (n5 > 200)) rfl (fun hb14 => ?_) (fun hb14 => ?_)
      · replace hm := ifT hm hb14
        refine WJ.reg ?_
        refine SJ.q (YldS.yld (y_move rfl)) rfl ?_
        refine SJ.q (YldS.yld (y_bin rfl rfl rfl)) rfl ?_
        refine SJ.q (YldS.yld (y_move rfl)) rfl ?_
        obtain ⟨r15, h16, hm⟩ := bindS hm
        refine SJ.call1 (k := 0) rfl Try.call181 rfl (fun w S hw hA hO => ok_s_l00Src_next h16 w S _ (hr4.st1 hw hO) hA) rfl ?_
        rintro _ _ ⟨rfl, rfl⟩
        refine SJ.q (YldS.yld (y_bin rfl rfl rfl)) rfl ?_
        refine SJ.q (YldS.yld (y_assign rfl)) rfl ?_
        refine SJ.nil ?_
        exact PJ.joined (r15.2.at_, r15.2.seed, w64 ((w64 (r7.1 * 256)) + r15.1)) [0] hm ⟨rfl, rfl, trivial⟩ ⟨by decide, rfl⟩
      · replace hm := ifF hm hb14
        refine WJ.skip ?_
        exact PJ.joined (r7.2.at_, r7.2.seed, r7.1) [0] hm ⟨rfl, rfl, trivial⟩ ⟨by decide, rfl⟩
    · rintro ⟨x9, x10, x11⟩ hm
      subst hk13
      refine WJ.seq ?_
      refine WJ.quiet ?_
      refine QJ.step (YldS.yld (y_move rfl)) rfl ?_
      refine QJ.step (YldS.yld (y_move rfl)) rfl ?_
      obtain ⟨q17, h18, hm⟩ := bindS hm
      refine QJ.step (YldS.yld (y_rem' h18 rfl rfl)) rfl ?_
      refine QJ.step (YldS.yld (y_assign rfl)) rfl ?_
      refine QJ.done ?_
      refine PJ.next ?_
      refine WJ.ret ?_
      obtain rfl := Option.some.inj hm
      refine PJ.sel (L' := [box g2 185 [v3, .int .i64 x9, .int .u64 x10]]) [0] ⟨by decide, rfl⟩ ?_
      exact PJ.retn (vs := [.int .i64 q17]) Try.results97 ⟨rfl, trivial⟩ ⟨rfl, rfl⟩

set_option maxRecDepth 100000 in
set_option maxHeartbeats 1000000 in
theorem ok_s_l00Src_text {s1 : L00Src} {list5 : List Str} {g2 : Nat} {r : Str × L00Src} (hm : s_l00Src_text s1 list5 = some r) (w : World) (S : Nat → Prop) (v3 : Value) (hr4 : RdS w (Cx.Fz ⟨w, S⟩) v3 fByte.rp s1.code) (v6 : Value) (hr7 : RdS w (Cx.Fz ⟨w, S⟩) v6 fStr.rp list5) (hA : (box g2 185 [v3, .int .i64 s1.at_, .int .u64 s1.seed]).holds w S) :
    Calls Try.prog 113 #[pt g2 0, v6] w (RetG ⟨w, S⟩ fun u L => (u = str r.1 ∧ L = [box g2 185 [v3, .int .i64 r.2.at_, .int .u64 r.2.seed]])) := by
  unfold s_l00Src_text at hm
  refine Calls.enter1 hA [pt g2 0, v6] Try.func113 rfl Try.ntmps113 rfl ?_
  refine WJ.seq ?_
  refine WJ.quiet ?_
  refine QJ.step (YldS.yld (y_assign rfl)) rfl ?_
  refine QJ.done ?_
  refine PJ.next ?_
  refine WJ.seq ?_
  refine WJ.reg ?_
  refine SJ.q (YldS.yld (y_move rfl)) rfl ?_
  refine SJ.q (YldS.yld (y_move rfl)) rfl ?_
  refine SJ.q (YldS.yld (y_move rfl)) rfl ?_
  refine SJ.q (YldS.yld (y_lenS Try.runUnderlying78 hr7 rfl)) rfl ?_
  obtain ⟨r8, h9, hm⟩ := bindS hm
  refine SJ.call1 (k := 0) rfl Try.call97 rfl (fun w S hw hA hO => ok_s_l00Src_pick h9 w S _ (hr4.st1 hw hO) hA) rfl ?_
  rintro _ _ ⟨rfl, rfl⟩
  obtain ⟨e10, h11, hm⟩ := bindS hm
  obtain ⟨ad12, _, rfl, ha13, hy14⟩ := hr7.elem h11
  refine SJ.q (YldS.yld (hy14 Try.runUnderlying78 Try.sizeOf9 rfl rfl)) rfl ?_
  refine SJ.q (YldS.yld (y_load1 (v := str e10) Try.isAgg9 ha13 St.frozenC rfl)) rfl ?_
  refine SJ.q (YldS.yld (y_assign rfl)) rfl ?_
  refine SJ.nil ?_
  refine PJ.next ?_
  refine WJ.ret ?_
  obtain rfl := Option.some.inj hm
  refine PJ.sel (L' := [box g2 185 [v3, .int .i64 r8.2.at_, .int .u64 r8.2.seed]]) [0] ⟨by decide, rfl⟩ ?_
  exact PJ.retn (vs := [str e10]) Try.results113 ⟨rfl, trivial⟩ ⟨rfl, rfl⟩

set_option maxRecDepth 100000 in
set_option maxHeartbeats 1000000 in
theorem ok_s_l02Letter {s1 : Str} {r : Bool} (hm : s_l02Letter s1 = some r) (w : World)  :
    Calls Try.prog 116 #[str s1] w (Ret (cx w) (.bool r)) := by
  unfold s_l02Letter at hm
  refine Calls.enter [str s1] Try.func116 rfl Try.ntmps116 rfl ?_
  refine WJ.seq ?_
  refine WJ.quiet ?_
  refine QJ.step (YldS.yld (y_assign rfl)) rfl ?_
  refine QJ.done ?_
  refine PJ.next ?_
  refine WJ.seq ?_
  refine WJ.quiet ?_
  refine QJ.step (YldS.yld (y_move rfl)) rfl ?_
  refine QJ.step (YldS.yld (y_lenStr Try.runUnderlying9 rfl)) rfl ?_
  refine QJ.step (YldS.yld (y_bin rfl rfl rfl)) rfl ?_
  refine QJ.step (YldS.yld (y_move rfl)) rfl ?_
  obtain ⟨t2, h3, hm⟩ := bindS hm
  refine QJ.cut 4 [(0, str s1), (10, .bool t2)] ?_ ?_
  · rcases Bool.eq_false_or_eq_true ((List.length s1 : Int) == 1) with hb4 | hb4
    · replace h3 := andT h3 hb4
      refine QJ.on rfl rfl (cB hb4) (YldS.yld (y_move rfl)) rfl ?_
      obtain ⟨c5, h6, h3⟩ := bindS h3
      refine QJ.on rfl rfl (cB hb4) (YldS.yld (y_idxStr Try.runUnderlying9 rfl rfl h6)) rfl ?_
      refine QJ.on rfl rfl (cB hb4) (YldS.yld (y_bin8 c5 (32 : UInt8) rfl rfl rfl)) rfl ?_
      refine QJ.step (YldS.yld (y_pick_t (cB hb4) rfl)) rfl ?_
      obtain rfl := Option.some.inj h3
      exact QJ.cut_end ⟨rfl, rfl, trivial⟩
    · obtain rfl := andF h3 hb4
      refine QJ.off rfl rfl (cB hb4) rfl rfl ?_
      refine QJ.off rfl rfl (cB hb4) rfl rfl ?_
      refine QJ.off rfl rfl (cB hb4) rfl rfl ?_
      refine QJ.step (YldS.yld (y_pick_f (cB hb4) rfl)) rfl ?_
      exact QJ.cut_end ⟨rfl, rfl, trivial⟩
  refine QJ.step (YldS.yld (y_move rfl)) rfl ?_
  obtain ⟨t7, h8, hm⟩ := bindS hm
  refine QJ.cut 4 [(15, .bool t7)] ?_ ?_
  · rcases Bool.eq_false_or_eq_true t2 with hb9 | hb9
    · replace h8 := andT h8 hb9
      refine QJ.on rfl rfl (cB hb9) (YldS.yld (y_move rfl)) rfl ?_
      obtain ⟨c10, h11, h8⟩ := bindS h8
      refine QJ.on rfl rfl (cB hb9) (YldS.yld (y_idxStr Try.runUnderlying9 rfl rfl h11)) rfl ?_
      refine QJ.on rfl rfl (cB hb9) (YldS.yld (y_bin8 c10 (127 : UInt8) rfl rfl rfl)) rfl ?_
      refine QJ.step (YldS.yld (y_pick_t (cB hb9) rfl)) rfl ?_
      obtain rfl := Option.some.inj h8
      exact QJ.cut_end ⟨rfl, trivial⟩
    · obtain rfl := andF h8 hb9
      refine QJ.off rfl rfl (cB hb9) rfl rfl ?_
      refine QJ.off rfl rfl (cB hb9) rfl rfl ?_
      refine QJ.off rfl rfl (cB hb9) rfl rfl ?_
      refine QJ.step (YldS.yld (y_pick_f (cB hb9) rfl)) rfl ?_
      exact QJ.cut_end ⟨rfl, trivial⟩
  refine QJ.step (YldS.yld (y_assign rfl)) rfl ?_
  refine QJ.done ?_
  refine PJ.next ?_
  refine WJ.ret ?_
  obtain rfl := Option.some.inj hm
  refine PJ.sel (L' := []) [] ⟨List.nodup_nil, rfl⟩ ?_
  exact PJ.retn (vs := [.bool t7]) Try.results116 ⟨rfl, trivial⟩ ⟨rfl, rfl⟩

set_option maxRecDepth 100000 in
set_option maxHeartbeats 1000000 in
theorem ok_s_l12One {x1 : Over} {r : Bool} (hm : s_l12One x1 = some r) (w : World) (ad2 : Addr) (ha3 : At w (cx w).Fz ad2 (fOver.enc x1)) :
    Calls Try.prog 182 #[.pointer (some ad2)] w (Ret (cx w) (.bool r)) := by
  unfold s_l12One at hm
  refine Calls.enter [.pointer (some ad2)] Try.func182 rfl Try.ntmps182 rfl ?_
  refine WJ.seq ?_
  refine WJ.quiet ?_
  refine QJ.step (YldS.yld (y_assign rfl)) rfl ?_
  refine QJ.done ?_
  refine PJ.next ?_
  refine WJ.seq ?_
  refine WJ.quiet_draw follows (by kernel_rfl) ?_
  refine QJ.step (YldS.yld (y_move rfl)) rfl ?_
  refine QJ.step (YldS.yld (y_nil rfl)) rfl ?_
  refine QJ.step (YldS.yld (y_fld (ad := ad2) fld39_0 rfl)) rfl ?_
  refine QJ.step (YldS.yld (y_load1 (v := str x1.under) Try.isAgg9 (ha3.sub 0 1) St.frozenC rfl)) rfl ?_
  obtain ⟨r4, h5, hm⟩ := bindS hm
  refine QJ.step (y_call Try.call116 rfl (RetG.quiet fun w hw => ok_s_l02Letter h5 w )) rfl ?_
  refine QJ.step (YldS.yld (y_move rfl)) rfl ?_
  obtain ⟨t6, h7, hm⟩ := bindS hm
  refine QJ.cut 6 [(0, .pointer (some ad2)), (14, .bool t6)] ?_ ?_
  · rcases Bool.eq_false_or_eq_true r4 with hb8 | hb8
    · replace h7 := andT h7 hb8
      refine QJ.on rfl rfl (cB hb8) (YldS.yld (y_move rfl)) rfl ?_
      refine QJ.on rfl rfl (cB hb8) (YldS.yld (y_nil rfl)) rfl ?_
      refine QJ.on rfl rfl (cB hb8) (YldS.yld (y_fld (ad := ad2) fld39_1 rfl)) rfl ?_
      refine QJ.on rfl rfl (cB hb8) (YldS.yld (y_load1 (v := str x1.top) Try.isAgg9 (ha3.sub 1 1) St.frozenC rfl)) rfl ?_
      obtain ⟨r9, h10, h7⟩ := bindS h7
      refine QJ.on rfl rfl (cB hb8) (y_call Try.call116 rfl (RetG.quiet fun w hw => ok_s_l02Letter h10 w )) rfl ?_
      refine QJ.step (YldS.yld (y_pick_t (cB hb8) rfl)) rfl ?_
      obtain rfl := Option.some.inj h7
      exact QJ.cut_end ⟨rfl, rfl, trivial⟩
    · obtain rfl := andF h7 hb8
      refine QJ.off rfl rfl (cB hb8) rfl rfl ?_
      refine QJ.off rfl rfl (cB hb8) rfl rfl ?_
      refine QJ.off rfl rfl (cB hb8) rfl rfl ?_
      refine QJ.off rfl rfl (cB hb8) rfl rfl ?_
      refine QJ.off rfl rfl (cB hb8) rfl rfl ?_
      refine QJ.step (YldS.yld (y_pick_f (cB hb8) rfl)) rfl ?_
      exact QJ.cut_end ⟨rfl, rfl, trivial⟩
  refine QJ.step (YldS.yld (y_move rfl)) rfl ?_
  obtain ⟨t11, h12, hm⟩ := bindS hm
  refine QJ.cut 6 [(0, .pointer (some ad2)), (21, .bool t11)] ?_ ?_
  · rcases Bool.eq_false_or_eq_true t6 with hb13 | hb13
    · replace h12 := andT h12 hb13
      refine QJ.on rfl rfl (cB hb13) (YldS.yld (y_move rfl)) rfl ?_
      refine QJ.on rfl rfl (cB hb13) (YldS.yld (y_nil rfl)) rfl ?_
      refine QJ.on rfl rfl (cB hb13) (YldS.yld (y_fld (ad := ad2) fld39_2 rfl)) rfl ?_
      refine QJ.on rfl rfl (cB hb13) (YldS.yld (y_load1 (v := str x1.seen) Try.isAgg9 (ha3.sub 2 1) St.frozenC rfl)) rfl ?_
      obtain ⟨r14, h15, h12⟩ := bindS h12
      refine QJ.on rfl rfl (cB hb13) (y_call Try.call116 rfl (RetG.quiet fun w hw => ok_s_l02Letter h15 w )) rfl ?_
      refine QJ.step (YldS.yld (y_pick_t (cB hb13) rfl)) rfl ?_
      obtain rfl := Option.some.inj h12
      exact QJ.cut_end ⟨rfl, rfl, trivial⟩
    · obtain rfl := andF h12 hb13
      refine QJ.off rfl rfl (cB hb13) rfl rfl ?_
      refine QJ.off rfl rfl (cB hb13) rfl rfl ?_
      refine QJ.off rfl rfl (cB hb13) rfl rfl ?_
      refine QJ.off rfl rfl (cB hb13) rfl rfl ?_
      refine QJ.off rfl rfl (cB hb13) rfl rfl ?_
      refine QJ.step (YldS.yld (y_pick_f (cB hb13) rfl)) rfl ?_
      exact QJ.cut_end ⟨rfl, rfl, trivial⟩
  refine QJ.step (YldS.yld (y_move rfl)) rfl ?_
  obtain ⟨t16, h17, hm⟩ := bindS hm
  refine QJ.cut 10 [(0, .pointer (some ad2)), (32, .bool t16)] ?_ ?_
  · rcases Bool.eq_false_or_eq_true t11 with hb18 | hb18
    · replace h17 := andT h17 hb18
      refine QJ.on rfl rfl (cB hb18) (YldS.yld (y_move rfl)) rfl ?_
      refine QJ.on rfl rfl (cB hb18) (YldS.yld (y_nil rfl)) rfl ?_
      refine QJ.on rfl rfl (cB hb18) (YldS.yld (y_fld (ad := ad2) fld39_0 rfl)) rfl ?_
      refine QJ.on rfl rfl (cB hb18) (YldS.yld (y_load1 (v := str x1.under) Try.isAgg9 (ha3.sub 0 1) St.frozenC rfl)) rfl ?_
      refine QJ.on rfl rfl (cB hb18) (YldS.yld (y_move rfl)) rfl ?_
      refine QJ.on rfl rfl (cB hb18) (YldS.yld (y_nil rfl)) rfl ?_
      refine QJ.on rfl rfl (cB hb18) (YldS.yld (y_fld (ad := ad2) fld39_2 rfl)) rfl ?_
      refine QJ.on rfl rfl (cB hb18) (YldS.yld (y_load1 (v := str x1.seen) Try.isAgg9 (ha3.sub 2 1) St.frozenC rfl)) rfl ?_
      refine QJ.on rfl rfl (cB hb18) (YldS.yld (y_binS rfl rfl rfl)) rfl ?_
      refine QJ.step (YldS.yld (y_pick_t (cB hb18) rfl)) rfl ?_
      obtain rfl := Option.some.inj h17
      exact QJ.cut_end ⟨rfl, rfl, trivial⟩
    · obtain rfl := andF h17 hb18
      refine QJ.off rfl rfl (cB hb18) rfl rfl ?_
      refine QJ.off rfl rfl (cB hb18) rfl rfl ?_
      refine QJ.off rfl rfl (cB hb18) rfl rfl ?_
      refine QJ.off rfl rfl (cB hb18) rfl rfl ?_
      refine QJ.off rfl rfl (cB hb18) rfl rfl ?_
      refine QJ.off rfl rfl (cB hb18) rfl rfl ?_
      refine QJ.off rfl rfl (cB hb18) rfl rfl ?_
      refine QJ.off rfl rfl (cB hb18) rfl rfl ?_
      refine QJ.off rfl rfl (cB hb18) rfl rfl ?_
      refine QJ.step (YldS.yld (y_pick_f (cB hb18) rfl)) rfl ?_
      exact QJ.cut_end ⟨rfl, rfl, trivial⟩
  refine QJ.step (YldS.yld (y_move rfl)) rfl ?_
  obtain ⟨t19, h20, hm⟩ := bindS hm
  refine QJ.cut 10 [(0, .pointer (some ad2)), (43, .bool t19)] ?_ ?_
  · rcases Bool.eq_false_or_eq_true t16 with hb21 | hb21
    · replace h20 := andT h20 hb21
      refine QJ.on rfl rfl (cB hb21) (YldS.yld (y_move rfl)) rfl ?_
      refine QJ.on rfl rfl (cB hb21) (YldS.yld (y_nil rfl)) rfl ?_
      refine QJ.on rfl rfl (cB hb21) (YldS.yld (y_fld (ad := ad2) fld39_1 rfl)) rfl ?_
      refine QJ.on rfl rfl (cB hb21) (YldS.yld (y_load1 (v := str x1.top) Try.isAgg9 (ha3.sub 1 1) St.frozenC rfl)) rfl ?_
      refine QJ.on rfl rfl (cB hb21) (YldS.yld (y_move rfl)) rfl ?_
      refine QJ.on rfl rfl (cB hb21) (YldS.yld (y_nil rfl)) rfl ?_
      refine QJ.on rfl rfl (cB hb21) (YldS.yld (y_fld (ad := ad2) fld39_2 rfl)) rfl ?_
      refine QJ.on rfl rfl (cB hb21) (YldS.yld (y_load1 (v := str x1.seen) Try.isAgg9 (ha3.sub 2 1) St.frozenC rfl)) rfl ?_
      refine QJ.on rfl rfl (cB hb21) (YldS.yld (y_binS rfl rfl rfl)) rfl ?_
      refine QJ.step (YldS.yld (y_pick_t (cB hb21) rfl)) rfl ?_
      obtain rfl := Option.some.inj h20
      exact QJ.cut_end ⟨rfl, rfl, trivial⟩
    · obtain rfl := andF h20 hb21
      refine QJ.off rfl rfl (cB hb21) rfl rfl ?_
      refine QJ.off rfl rfl (cB hb21) rfl rfl ?_
      refine QJ.off rfl rfl (cB hb21) rfl rfl ?_
      refine QJ.off rfl rfl (cB hb21) rfl rfl ?_
      refine QJ.off rfl rfl (cB hb21) rfl rfl ?_
      refine QJ.off rfl rfl (cB hb21) rfl rfl ?_
      refine QJ.off rfl rfl (cB hb21) rfl rfl ?_
      refine QJ.off rfl rfl (cB hb21) rfl rfl ?_
      refine QJ.off rfl rfl (cB hb21) rfl rfl ?_
      refine QJ.step (YldS.yld (y_pick_f (cB hb21) rfl)) rfl ?_
      exact QJ.cut_end ⟨rfl, rfl, trivial⟩
  refine QJ.step (YldS.yld (y_move rfl)) rfl ?_
  obtain ⟨t22, h23, hm⟩ := bindS hm
  refine QJ.cut 10 [(54, .bool t22)] ?_ ?_
  · rcases Bool.eq_false_or_eq_true t19 with hb24 | hb24
    · replace h23 := andT h23 hb24
      refine QJ.on rfl rfl (cB hb24) (YldS.yld (y_move rfl)) rfl ?_
      refine QJ.on rfl rfl (cB hb24) (YldS.yld (y_nil rfl)) rfl ?_
      refine QJ.on rfl rfl (cB hb24) (YldS.yld (y_fld (ad := ad2) fld39_0 rfl)) rfl ?_
      refine QJ.on rfl rfl (cB hb24) (YldS.yld (y_load1 (v := str x1.under) Try.isAgg9 (ha3.sub 0 1) St.frozenC rfl)) rfl ?_
      refine QJ.on rfl rfl (cB hb24) (YldS.yld (y_move rfl)) rfl ?_
      refine QJ.on rfl rfl (cB hb24) (YldS.yld (y_nil rfl)) rfl ?_
      refine QJ.on rfl rfl (cB hb24) (YldS.yld (y_fld (ad := ad2) fld39_1 rfl)) rfl ?_
      refine QJ.on rfl rfl (cB hb24) (YldS.yld (y_load1 (v := str x1.top) Try.isAgg9 (ha3.sub 1 1) St.frozenC rfl)) rfl ?_
      refine QJ.on rfl rfl (cB hb24) (YldS.yld (y_binS rfl rfl rfl)) rfl ?_
      refine QJ.step (YldS.yld (y_pick_t (cB hb24) rfl)) rfl ?_
      obtain rfl := Option.some.inj h23
      exact QJ.cut_end ⟨rfl, trivial⟩
    · obtain rfl := andF h23 hb24
      refine QJ.off rfl rfl (cB hb24) rfl rfl ?_
      refine QJ.off rfl rfl (cB hb24) rfl rfl ?_
      refine QJ.off rfl rfl (cB hb24) rfl rfl ?_
      refine QJ.off rfl rfl (cB hb24) rfl rfl ?_
      refine QJ.off rfl rfl (cB hb24) rfl rfl ?_
      refine QJ.off rfl rfl (cB hb24) rfl rfl ?_
      refine QJ.off rfl rfl (cB hb24) rfl rfl ?_
      refine QJ.off rfl rfl (cB hb24) rfl rfl ?_
      refine QJ.off rfl rfl (cB hb24) rfl rfl ?_
      refine QJ.step (YldS.yld (y_pick_f (cB hb24) rfl)) rfl ?_
      exact QJ.cut_end ⟨rfl, trivial⟩
  refine QJ.step (YldS.yld (y_assign rfl)) rfl ?_
  refine QJ.done ?_
  refine PJ.next ?_
  refine WJ.ret ?_
  obtain rfl := Option.some.inj hm
  refine PJ.sel (L' := []) [] ⟨List.nodup_nil, rfl⟩ ?_
  exact PJ.retn (vs := [.bool t22]) Try.results182 ⟨rfl, trivial⟩ ⟨rfl, rfl⟩

set_option maxRecDepth 100000 in
set_option maxHeartbeats 1000000 in
theorem ok_s_l12Ok {N : Nat} {rules1 : List Over} {r : Bool} (hm : s_l12Ok N rules1 = some r) (w : World) (v2 : Value) (hr3 : RdS w (cx w).Fz v2 fOver.rp rules1) :
    Calls Try.prog 104 #[v2] w (Ret (cx w) (.bool r)) := by
  unfold s_l12Ok at hm
  refine Calls.enter [v2] Try.func104 rfl Try.ntmps104 rfl ?_
  refine WJ.seq ?_
  refine WJ.quiet ?_
  refine QJ.step (YldS.yld (y_assign rfl)) rfl ?_
  refine QJ.done ?_
  refine PJ.next ?_
  obtain ⟨k4, hk5, hm⟩ := withK_open hm
  refine WJ.join (X := Unit) (fun (_ : Unit) => k4  = some r) (fun (_ : Unit) => [(0, v2)]) (fun (_ : Unit) => []) ?_ ?_
  · clear hk5
    refine WJ.seq ?_
    refine WJ.quiet ?_
    refine QJ.step (YldS.yld (y_assign rfl)) rfl ?_
    refine QJ.done ?_
    refine PJ.next ?_
    refine WJ.block ?_
    refine WJ.sel (L' := (fun (x : Int) => []) 0) [] ⟨List.nodup_nil, rfl⟩ ?_
    refine WJ.sub (m' := (fun (x : Int) => [(0, v2), (3, .int .i64 x)]) 0) ⟨rfl, rfl, trivial⟩ ?_
    refine WJ.loop (X := Int) (fun N (x : Int) => s_l12Ok_l1 k4 rules1 N x = some r) (fun (x : Int) => [(0, v2), (3, .int .i64 x)]) (fun (x : Int) => []) ?_ N 0 hm
    · rintro N i6 hI
      have hm := hI; clear hI
      cases N with
      | zero => cases hm
      | succ N =>
      unfold s_l12Ok_l1 at hm
      refine WJ.seq ?_
      refine WJ.seq ?_
      refine WJ.quiet ?_
      refine QJ.step (YldS.yld (y_move rfl)) rfl ?_
      refine QJ.step (YldS.yld (y_move rfl)) rfl ?_
      refine QJ.step (YldS.yld (y_lenS Try.runUnderlying24 hr3 rfl)) rfl ?_
      refine QJ.step (YldS.yld (y_bin rfl rfl rfl)) rfl ?_
      refine QJ.done ?_
      refine PJ.next ?_
      refine WJ.cond (t := decide (i6 < (List.length rules1 : Int))) rfl (fun hb7 => ?_) (fun hb7 => ?_)
      · replace hm := ifT hm hb7
        refine WJ.skip ?_
        refine PJ.next ?_
        obtain ⟨k9, hk9, hm⟩ := withK_open hm
        refine WJ.join (X := Unit) (fun (_ : Unit) => k9  = some r) (fun (_ : Unit) => [(0, v2), (3, .int .i64 i6)]) (fun (_ : Unit) => []) ?_ ?_
        · clear hk9
          refine WJ.block ?_
          refine WJ.seq ?_
          refine WJ.seq ?_
          refine WJ.quiet ?_
          refine QJ.step (YldS.yld (y_move rfl)) rfl ?_
          refine QJ.step (YldS.yld (y_move rfl)) rfl ?_
          obtain ⟨e10, h11, hm⟩ := bindS hm
          obtain ⟨ad12, _, rfl, ha13, hy14⟩ := hr3.elem h11
          refine QJ.step (YldS.yld (hy14 Try.runUnderlying24 Try.sizeOf39 rfl rfl)) rfl ?_
          obtain ⟨r15, h16, hm⟩ := bindS hm
          refine QJ.step (y_call Try.call182 rfl (RetG.quiet fun w hw => ok_s_l12One h16 w _ (ha13.st hw))) rfl ?_
          refine QJ.step (YldS.yld (y_not rfl)) rfl ?_
          refine QJ.done ?_
          refine PJ.next ?_
          refine WJ.cond (t := !r15) rfl (fun hb17 => ?_) (fun hb17 => ?_)
          · replace hm := ifT hm hb17
            refine WJ.seq ?_
            refine WJ.quiet ?_
            refine QJ.step (YldS.yld (y_assign rfl)) rfl ?_
            refine QJ.done ?_
            refine PJ.next ?_
            refine WJ.ret ?_
            refine PJ.then_ret (PJ.block_ret (PJ.then_ret (PJ.then_ret (PJ.block_ret (PJ.then_ret ?_)))))
            obtain rfl := Option.some.inj hm
            refine PJ.sel (L' := []) [] ⟨List.nodup_nil, rfl⟩ ?_
            exact PJ.retn (vs := [.bool false]) Try.results104 ⟨rfl, trivial⟩ ⟨rfl, rfl⟩
          · replace hm := ifF hm hb17
            refine WJ.skip ?_
            refine PJ.next ?_
            refine WJ.seq ?_
            refine WJ.quiet ?_
            refine QJ.step (YldS.yld (y_assign rfl)) rfl ?_
            refine QJ.done ?_
            refine PJ.next ?_
            refine WJ.block ?_
            refine WJ.sel (L' := (fun (x : Int) => []) 0) [] ⟨List.nodup_nil, rfl⟩ ?_
            refine WJ.sub (m' := (fun (x : Int) => [(0, v2), (3, .int .i64 i6), (4, .int .i64 x)]) 0) ⟨rfl, rfl, rfl, trivial⟩ ?_
            refine WJ.loop (X := Int) (fun N (x : Int) => s_l12Ok_l2 k9 rules1 i6 N x = some r) (fun (x : Int) => [(0, v2), (3, .int .i64 i6), (4, .int .i64 x)]) (fun (x : Int) => []) ?_ N 0 hm
            · rintro N k18 hI
              have hm := hI; clear hI
              cases N with
              | zero => cases hm
              | succ N =>
              unfold s_l12Ok_l2 at hm
              refine WJ.seq ?_
              refine WJ.seq ?_
              refine WJ.quiet ?_
              refine QJ.step (YldS.yld (y_move rfl)) rfl ?_
              refine QJ.step (YldS.yld (y_move rfl)) rfl ?_
              refine QJ.step (YldS.yld (y_bin rfl rfl rfl)) rfl ?_
              refine QJ.done ?_
              refine PJ.next ?_
              refine WJ.cond (t := decide (k18 < i6)) rfl (fun hb19 => ?_) (fun hb19 => ?_)
              · replace hm := ifT hm hb19
                refine WJ.skip ?_
                refine PJ.next ?_
                refine WJ.seq ?_
                refine WJ.block ?_
                refine WJ.seq ?_
                refine WJ.quiet_draw follows (by kernel_rfl) ?_
                refine QJ.step (YldS.yld (y_move rfl)) rfl ?_
                refine QJ.step (YldS.yld (y_move rfl)) rfl ?_
                obtain ⟨e20, h21, hm⟩ := bindS hm
                obtain ⟨ad22, _, rfl, ha23, hy24⟩ := hr3.elem h21
                refine QJ.step (YldS.yld (hy24 Try.runUnderlying24 Try.sizeOf39 rfl rfl)) rfl ?_
                refine QJ.step (YldS.yld (y_fld (ad := ad22) fld39_0 rfl)) rfl ?_
                refine QJ.step (YldS.yld (y_load1 (v := str e20.under) Try.isAgg9 (ha23.sub 0 1) St.frozenC rfl)) rfl ?_
                refine QJ.step (YldS.yld (y_move rfl)) rfl ?_
                refine QJ.step (YldS.yld (y_move rfl)) rfl ?_
                obtain ⟨e25, h26, hm⟩ := bindS hm
                obtain ⟨ad27, _, rfl, ha28, hy29⟩ := hr3.elem h26
                refine QJ.step (YldS.yld (hy29 Try.runUnderlying24 Try.sizeOf39 rfl rfl)) rfl ?_
                refine QJ.step (YldS.yld (y_fld (ad := ad27) fld39_0 rfl)) rfl ?_
                refine QJ.step (YldS.yld (y_load1 (v := str e25.under) Try.isAgg9 (ha28.sub 0 1) St.frozenC rfl)) rfl ?_
                refine QJ.step (YldS.yld (y_binS rfl rfl rfl)) rfl ?_
                refine QJ.step (YldS.yld (y_move rfl)) rfl ?_
                obtain ⟨t30, h31, hm⟩ := bindS hm
                refine QJ.cut 12 [(0, v2), (3, .int .i64 i6), (4, .int .i64 k18), (44, .bool t30)] ?_ ?_
                · rcases Bool.eq_false_or_eq_true (e20.under == e25.under) with hb32 | hb32
                  · replace h31 := andT h31 hb32
                    refine QJ.on rfl rfl (cB hb32) (YldS.yld (y_move rfl)) rfl ?_
                    refine QJ.on rfl rfl (cB hb32) (YldS.yld (y_move rfl)) rfl ?_
                    obtain ⟨e33, h34, h31⟩ := bindS h31
                    obtain ⟨ad35, _, rfl, ha36, hy37⟩ := hr3.elem h34
                    refine QJ.on rfl rfl (cB hb32) (YldS.yld (hy37 Try.runUnderlying24 Try.sizeOf39 rfl rfl)) rfl ?_
                    refine QJ.on rfl rfl (cB hb32) (YldS.yld (y_fld (ad := ad35) fld39_1 rfl)) rfl ?_
                    refine QJ.on rfl rfl (cB hb32) (YldS.yld (y_load1 (v := str e33.top) Try.isAgg9 (ha36.sub 1 1) St.frozenC rfl)) rfl ?_
                    refine QJ.on rfl rfl (cB hb32) (YldS.yld (y_move rfl)) rfl ?_
                    refine QJ.on rfl rfl (cB hb32) (YldS.yld (y_move rfl)) rfl ?_
                    obtain ⟨e38, h39, h31⟩ := bindS h31
                    obtain ⟨ad40, _, rfl, ha41, hy42⟩ := hr3.elem h39
                    refine QJ.on rfl rfl (cB hb32) (YldS.yld (hy42 Try.runUnderlying24 Try.sizeOf39 rfl rfl)) rfl ?_
                    refine QJ.on rfl rfl (cB hb32) (YldS.yld (y_fld (ad := ad40) fld39_1 rfl)) rfl ?_
                    refine QJ.on rfl rfl (cB hb32) (YldS.yld (y_load1 (v := str e38.top) Try.isAgg9 (ha41.sub 1 1) St.frozenC rfl)) rfl ?_
                    refine QJ.on rfl rfl (cB hb32) (YldS.yld (y_binS rfl rfl rfl)) rfl ?_
                    refine QJ.step (YldS.yld (y_pick_t (cB hb32) rfl)) rfl ?_
                    obtain rfl := Option.some.inj h31
                    exact QJ.cut_end ⟨rfl, rfl, rfl, rfl, trivial⟩
                  · obtain rfl := andF h31 hb32
                    refine QJ.off rfl rfl (cB hb32) rfl rfl ?_
                    refine QJ.off rfl rfl (cB hb32) rfl rfl ?_
                    refine QJ.off rfl rfl (cB hb32) rfl rfl ?_
                    refine QJ.off rfl rfl (cB hb32) rfl rfl ?_
                    refine QJ.off rfl rfl (cB hb32) rfl rfl ?_
                    refine QJ.off rfl rfl (cB hb32) rfl rfl ?_
                    refine QJ.off rfl rfl (cB hb32) rfl rfl ?_
                    refine QJ.off rfl rfl (cB hb32) rfl rfl ?_
                    refine QJ.off rfl rfl (cB hb32) rfl rfl ?_
                    refine QJ.off rfl rfl (cB hb32) rfl rfl ?_
                    refine QJ.off rfl rfl (cB hb32) rfl rfl ?_
                    refine QJ.step (YldS.yld (y_pick_f (cB hb32) rfl)) rfl ?_
                    exact QJ.cut_end ⟨rfl, rfl, rfl, rfl, trivial⟩
                refine QJ.done ?_
                refine PJ.next ?_
                refine WJ.cond (t := t30) rfl (fun hb43 => ?_) (fun hb43 => ?_)
                · replace hm := ifT hm hb43
                  refine WJ.seq ?_
                  refine WJ.quiet ?_
                  refine QJ.step (YldS.yld (y_assign rfl)) rfl ?_
                  refine QJ.done ?_
                  refine PJ.next ?_
                  refine WJ.ret ?_
                  refine PJ.block_ret (PJ.then_ret (PJ.then_ret (PJ.block_ret (PJ.block_ret (PJ.then_ret (PJ.then_ret (PJ.block_ret (PJ.then_ret ?_))))))))
                  obtain rfl := Option.some.inj hm
                  refine PJ.sel (L' := []) [] ⟨List.nodup_nil, rfl⟩ ?_
                  exact PJ.retn (vs := [.bool false]) Try.results104 ⟨rfl, trivial⟩ ⟨rfl, rfl⟩
                · replace hm := ifF hm hb43
                  refine WJ.skip ?_
                  refine PJ.block_normal (PJ.next ?_)
                  refine WJ.quiet ?_
                  refine QJ.step (YldS.yld (y_move rfl)) rfl ?_
                  refine QJ.step (YldS.yld (y_bin rfl rfl rfl)) rfl ?_
                  refine QJ.step (YldS.yld (y_assign rfl)) rfl ?_
                  refine QJ.done ?_
                  exact PJ.round (w64 (k18 + 1)) [] hm ⟨rfl, rfl, rfl, trivial⟩ ⟨List.nodup_nil, rfl⟩
              · replace hm := ifF hm hb19
                refine WJ.exit ?_
                refine PJ.then_exit (PJ.then_exit (PJ.block_exit (PJ.block_normal ?_)))
                exact PJ.joined () [] hm ⟨rfl, rfl, trivial⟩ ⟨List.nodup_nil, rfl⟩
        · rintro _ hm
          subst hk9
          refine WJ.quiet ?_
          refine QJ.step (YldS.yld (y_move rfl)) rfl ?_
          refine QJ.step (YldS.yld (y_bin rfl rfl rfl)) rfl ?_
          refine QJ.step (YldS.yld (y_assign rfl)) rfl ?_
          refine QJ.done ?_
          exact PJ.round (w64 (i6 + 1)) [] hm ⟨rfl, rfl, trivial⟩ ⟨List.nodup_nil, rfl⟩
      · replace hm := ifF hm hb7
        refine WJ.exit ?_
        refine PJ.then_exit (PJ.then_exit (PJ.block_exit ?_))
        exact PJ.joined () [] hm ⟨rfl, trivial⟩ ⟨List.nodup_nil, rfl⟩
  · rintro _ hm
    subst hk5
    refine WJ.seq ?_
    refine WJ.quiet ?_
    refine QJ.step (YldS.yld (y_move rfl)) rfl ?_
    refine QJ.step (YldS.yld (y_lenS Try.runUnderlying24 hr3 rfl)) rfl ?_
    refine QJ.step (YldS.yld (y_bin rfl rfl rfl)) rfl ?_
    refine QJ.step (YldS.yld (y_assign rfl)) rfl ?_
    refine QJ.done ?_
    refine PJ.next ?_
    refine WJ.ret ?_
    obtain rfl := Option.some.inj hm
    refine PJ.sel (L' := []) [] ⟨List.nodup_nil, rfl⟩ ?_
    exact PJ.retn (vs := [.bool (decide ((List.length rules1 : Int) ≤ 20))]) Try.results104 ⟨rfl, trivial⟩ ⟨rfl, rfl⟩

set_option maxRecDepth 100000 in
set_option maxHeartbeats 1000000 in
theorem ok_s_l12Draw {N : Nat} {s1 : L00Src} {g2 : Nat} {r : (List Over) × L00Src} (hm : s_l12Draw N s1 = some r) (w : World) (S : Nat → Prop) (v3 : Value) (hr4 : RdS w (Cx.Fz ⟨w, S⟩) v3 fByte.rp s1.code) (hA : (box g2 185 [v3, .int .i64 s1.at_, .int .u64 s1.seed]).holds w S) :
    Calls Try.prog 214 #[pt g2 0] w (RetG ⟨w, S⟩ fun u L => ∃ (u1 : Value), (u = u1 ∧ L = [box g2 185 [v3, .int .i64 r.2.at_, .int .u64 r.2.seed], row u1 39 fOver r.1])) := by
  unfold s_l12Draw at hm
  refine Calls.enter1 hA [pt g2 0] Try.func214 rfl Try.ntmps214 rfl ?_
  refine WJ.seq ?_
  refine WJ.quiet ?_
  refine QJ.step (YldS.yld (y_assign rfl)) rfl ?_
  refine QJ.done ?_
  refine PJ.next ?_
  refine WJ.seq ?_
  refine WJ.reg ?_
  refine SJ.buildSlice (R := fOver) (os := []) [] Try.runUnderlying24 Try.sizeOf39 Try.zeroValue39 rfl rfl rfl rfl rfl rfl fun v5 => ?_
  refine SJ.q (YldS.yld (y_assign rfl)) rfl ?_
  refine SJ.nil ?_
  refine PJ.next ?_
  obtain ⟨k10, hk11, hm⟩ := withK_open hm
  refine WJ.join (X := Int × Int × (List Over) × Value) (fun (x : Int × Int × (List Over) × Value) => k10 x.1 x.2.1 x.2.2.1 = some r) (fun (x : Int × Int × (List Over) × Value) => [(3, x.2.2.2)]) (fun (x : Int × Int × (List Over) × Value) => [box g2 185 [v3, .int .i64 x.1, .int .u64 x.2.1], row x.2.2.2 39 fOver x.2.2.1]) ?_ ?_
  · clear hk11
    refine WJ.seq ?_
    refine WJ.reg ?_
    refine SJ.q (YldS.yld (y_move rfl)) rfl ?_
    obtain ⟨r12, h13, hm⟩ := bindS hm
    refine SJ.call1 (k := 1) rfl Try.call97 rfl (fun w S hw hA hO => ok_s_l00Src_pick h13 w S _ (hr4.st1 hw hO) hA) rfl ?_
    rintro _ _ ⟨rfl, rfl⟩
    refine SJ.q (YldS.yld (y_assign rfl)) rfl ?_
    refine SJ.nil ?_
    refine PJ.next ?_
    refine WJ.block ?_
    refine WJ.sel (L' := (fun (x : Int × Int × (List Over) × Value × Int) => [box g2 185 [v3, .int .i64 x.1, .int .u64 x.2.1], row x.2.2.2.1 39 fOver x.2.2.1]) (r12.2.at_, r12.2.seed, [], v5, r12.1)) [0, 1] ⟨by decide, rfl⟩ ?_
    refine WJ.sub (m' := (fun (x : Int × Int × (List Over) × Value × Int) => [(0, pt g2 0), (3, x.2.2.2.1), (4, .int .i64 x.2.2.2.2)]) (r12.2.at_, r12.2.seed, [], v5, r12.1)) ⟨rfl, rfl, rfl, trivial⟩ ?_
    refine WJ.loop (X := Int × Int × (List Over) × Value × Int) (fun N (x : Int × Int × (List Over) × Value × Int) => s_l12Draw_l1 k10 s1 N x.1 x.2.1 x.2.2.1 x.2.2.2.2 = some r) (fun (x : Int × Int × (List Over) × Value × Int) => [(0, pt g2 0), (3, x.2.2.2.1), (4, .int .i64 x.2.2.2.2)]) (fun (x : Int × Int × (List Over) × Value × Int) => [box g2 185 [v3, .int .i64 x.1, .int .u64 x.2.1], row x.2.2.2.1 39 fOver x.2.2.1]) ?_ N (r12.2.at_, r12.2.seed, [], v5, r12.1) hm
    · rintro N ⟨x14, x15, l16, v17, k18⟩ hI
      have hm := hI; clear hI
      cases N with
      | zero => cases hm
      | succ N =>
      unfold s_l12Draw_l1 at hm
      refine WJ.seq ?_
      refine WJ.seq ?_
      refine WJ.quiet ?_
      refine QJ.step (YldS.yld (y_move rfl)) rfl ?_
      refine QJ.step (YldS.yld (y_bin rfl rfl rfl)) rfl ?_
      refine QJ.done ?_
      refine PJ.next ?_
      refine WJ.cond (t := decide (k18 > 0)) rfl (fun hb19 => ?_) (fun hb19 => ?_)
      · replace hm := ifT hm hb19
        refine WJ.skip ?_
        refine PJ.next ?_
        obtain ⟨k25, hk25, hm⟩ := withK_open hm
        refine WJ.join (X := Int × Int × (List Over) × Value) (fun (x : Int × Int × (List Over) × Value) => k25 x.1 x.2.1 x.2.2.1 = some r) (fun (x : Int × Int × (List Over) × Value) => [(0, pt g2 0), (3, x.2.2.2), (4, .int .i64 k18)]) (fun (x : Int × Int × (List Over) × Value) => [box g2 185 [v3, .int .i64 x.1, .int .u64 x.2.1], row x.2.2.2 39 fOver x.2.2.1]) ?_ ?_
        · clear hk25
          refine WJ.block ?_
          refine WJ.seq ?_
          refine WJ.reg ?_
          refine SJ.q (YldS.yld (y_move rfl)) rfl ?_
          refine SJ.buildSlice (R := fStr) (os := [.const (str [99]), .const (str [111]), .const (str [73]), .const (str [108]), .const (str [45])]) [[99], [111], [73], [108], [45]] Try.runUnderlying78 Try.sizeOf9 Try.zeroValue9 rfl rfl rfl rfl rfl rfl fun v26 => ?_
          obtain ⟨r27, h28, hm⟩ := bindS hm
          refine SJ.call2 (k := 1) rfl Try.call113 rfl (fun w S hw hA hO hB => ok_s_l00Src_text h28 w S _ (hr4.st1 hw hO) _ (hB.row_rd (j := 0) (k := 1) rfl rfl) hA) rfl ?_
          rintro _ _ ⟨rfl, rfl⟩
          refine SJ.q (YldS.yld (y_build (parts := [(0, .tmp 15)]) (places := [(0, 1), (1, 1), (2, 1)]) (r := [str ((Over.mk r27.1 [] []).under), str ((Over.mk r27.1 [] []).top), str ((Over.mk r27.1 [] []).seen)]) pl39 Try.zeroValue39 rfl rfl rfl rfl)) rfl ?_
          refine SJ.alloc (cs := [str [], str [], str []]) Try.zeroValue39 rfl rfl fun g29 => ?_
          refine SJ.storeL (k := 0) (off := 0) (us := [str ((Over.mk r27.1 [] []).under), str ((Over.mk r27.1 [] []).top), str ((Over.mk r27.1 [] []).seen)]) rfl rfl rfl rfl Try.sizeOf39 rfl rfl ?_
          refine SJ.nil ?_
          refine PJ.next ?_
          refine WJ.seq ?_
          refine WJ.reg ?_
          refine SJ.q (YldS.yld (y_move rfl)) rfl ?_
          refine SJ.buildSlice (R := fStr) (os := [.const (str [47]), .const (str [45]), .const (str [39]), .const (str [124])]) [[47], [45], [39], [124]] Try.runUnderlying78 Try.sizeOf9 Try.zeroValue9 rfl rfl rfl rfl rfl rfl fun v30 => ?_
          obtain ⟨r31, h32, hm⟩ := bindS hm
          refine SJ.call2 (k := 2) rfl Try.call113 rfl (fun w S hw hA hO hB => ok_s_l00Src_text h32 w S _ (hr4.st1 hw hO) _ (hB.row_rd (j := 0) (k := 2) rfl rfl) hA) rfl ?_
          rintro _ _ ⟨rfl, rfl⟩
          refine SJ.q (YldS.yld (y_fldB (o := 0) fld39_1 rfl)) rfl ?_
          refine SJ.storeL (k := 2) (off := 1) (us := [str r31.1]) rfl rfl rfl rfl Try.sizeOf9 rfl rfl ?_
          refine SJ.nil ?_
          refine PJ.next ?_
          refine WJ.seq ?_
          refine WJ.reg ?_
          refine SJ.q (YldS.yld (y_move rfl)) rfl ?_
          refine SJ.buildSlice (R := fStr) (os := [.const (str [48]), .const (str [116]), .const (str [33]), .const (str [43]), .const (str [113])]) [[48], [116], [33], [43], [113]] Try.runUnderlying78 Try.sizeOf9 Try.zeroValue9 rfl rfl rfl rfl rfl rfl fun v33 => ?_
          obtain ⟨r34, h35, hm⟩ := bindS hm
          refine SJ.call2 (k := 1) rfl Try.call113 rfl (fun w S hw hA hO hB => ok_s_l00Src_text h35 w S _ (hr4.st1 hw hO) _ (hB.row_rd (j := 0) (k := 1) rfl rfl) hA) rfl ?_
          rintro _ _ ⟨rfl, rfl⟩
          refine SJ.q (YldS.yld (y_fldB (o := 0) fld39_2 rfl)) rfl ?_
          refine SJ.storeL (k := 3) (off := 2) (us := [str r34.1]) rfl rfl rfl rfl Try.sizeOf9 rfl rfl ?_
          refine SJ.nil ?_
          refine PJ.next ?_
          refine WJ.seq ?_
          obtain ⟨l37, h38, hm⟩ := bindS hm
          obtain ⟨l41, h42, hm⟩ := bindS hm
          obtain ⟨r44, h45, hm⟩ := bindS hm
          refine WJ.draws (N := 7) (listed0 := #[false, false, false, false, false, false, false]) [box g2 185 [v3, .int .i64 r34.2.at_, .int .u64 r34.2.seed], row v33 9 fStr [[48], [116], [33], [43], [113]], row v30 9 fStr [[47], [45], [39], [124]], box g29 39 [str ((Over.mk r27.1 [] []).under), str r31.1, str r34.1], row v26 9 fStr [[99], [111], [73], [108], [45]], row v17 39 fOver l16] follows rfl rfl ?_
          refine RJ.first 1 (listed' := #[false, true, false, false, false, false, false]) [0, 1, 2, 3, 4, 5] rfl (by kernel_rfl) rfl ⟨by decide, rfl⟩ (y_move rfl) rfl ?_
          refine RJ.first 3 (listed' := #[false, true, false, true, false, false, false]) [0, 1, 2, 3, 4, 5] rfl (by kernel_rfl) rfl ⟨by decide, rfl⟩ (y_loadBN (k := 3) (off := 0) (us := [str ((Over.mk r27.1 [] []).under), str r31.1, str r34.1]) rfl Try.isAgg39 Try.sizeOf39 rfl rfl) rfl ?_
          refine RJ.hold (X := Value × Value) 2 #[true, true, true, true, true, false, false] (fun (x : Value × Value) => [(0, pt g2 0), (3, v17), (4, .int .i64 k18), (5, pt g29 0), (27, x.2), (29, x.1)]) (fun (x : Value × Value) => [row x.1 39 fOver [(Over.mk ((Over.mk r27.1 [] []).under) r31.1 r34.1)], row x.2 39 fOver l37, box g2 185 [v3, .int .i64 r34.2.at_, .int .u64 r34.2.seed], row v33 9 fStr [[48], [116], [33], [43], [113]], row v30 9 fStr [[47], [45], [39], [124]], box g29 39 [str ((Over.mk r27.1 [] []).under), str r31.1, str r34.1], row v26 9 fStr [[99], [111], [73], [108], [45]], row v17 39 fOver l16]) ?_ ?_
          · rintro ⟨v40, v39⟩
            refine RJ.step1 5 [2, 3, 4, 5, 6, 7] (by kernel_rfl) ⟨by decide, rfl⟩ ?_
            refine RO.of (listed' := #[true, true, true, true, true, true, false]) rfl rfl ?_
            refine SJ.append (k := 1) (R := fOver) h42 rfl Try.underlying24 el39 rfl rfl rfl (fun w hw => (hw.row_rd (k := 0) rfl)) rfl fun v43 => ?_
            refine SJ.nil ?_
            refine PJ.draw ?_
            refine RJ.step1 6 [2, 3, 4, 5, 6, 7] (by kernel_rfl) ⟨by decide, rfl⟩ ?_
            refine RO.of (listed' := #[true, true, true, true, true, true, true]) rfl rfl ?_
            refine SJ.q (y_call Try.call104 rfl (RetG.quiet fun w hw => ok_s_l12Ok h45 w _ (hw.row_rd (k := 1) rfl))) rfl ?_
            refine SJ.nil ?_
            refine PJ.draw ?_
            refine RJ.fin [2, 3, 4, 5, 6, 7] (by kernel_rfl) ⟨by decide, rfl⟩ ?_
            refine PJ.next ?_
            refine WJ.cond (t := r44) rfl (fun hb47 => ?_) (fun hb47 => ?_)
            · replace hm := ifT hm hb47
              refine WJ.reg ?_
              refine SJ.q (YldS.yld (y_move rfl)) rfl ?_
              refine SJ.q (YldS.yld (y_loadBN (k := 5) (off := 0) (us := [str ((Over.mk r27.1 [] []).under), str r31.1, str r34.1]) rfl Try.isAgg39 Try.sizeOf39 rfl rfl)) rfl ?_
              refine SJ.buildSlice (R := fOver) (os := [.tmp 33]) [(Over.mk ((Over.mk r27.1 [] []).under) r31.1 r34.1)] Try.runUnderlying24 Try.sizeOf39 Try.zeroValue39 rfl rfl rfl rfl rfl rfl fun v48 => ?_
              obtain ⟨l49, h50, hm⟩ := bindS hm
              refine SJ.append (k := 8) (R := fOver) h50 rfl Try.underlying24 el39 rfl rfl rfl (fun w hw => (hw.row_rd (k := 0) rfl)) rfl fun v51 => ?_
              refine SJ.q (YldS.yld (y_assign rfl)) rfl ?_
              refine SJ.nil ?_
              refine PJ.block_normal ?_
              exact PJ.joined (r34.2.at_, r34.2.seed, l49, v51) [3, 8] hm ⟨rfl, rfl, rfl, trivial⟩ ⟨by decide, rfl⟩
            · replace hm := ifF hm hb47
              refine WJ.skip ?_
              refine PJ.block_normal ?_
              exact PJ.joined (r34.2.at_, r34.2.seed, l16, v17) [2, 7] hm ⟨rfl, rfl, rfl, trivial⟩ ⟨by decide, rfl⟩
          · intro hD46
            refine RJ.step2 0 4 [0, 1, 2, 3, 4, 5] (by kernel_rfl) ⟨by decide, rfl⟩ ?_ ?_
            · refine RO.of (listed' := #[true, true, false, true, false, false, false]) rfl rfl ?_
              refine SJ.buildSlice (R := fOver) (os := []) [] Try.runUnderlying24 Try.sizeOf39 Try.zeroValue39 rfl rfl rfl rfl rfl rfl fun v36 => ?_
              refine SJ.nil ?_
              refine PJ.draw ?_
              refine RJ.step2 2 4 [1, 2, 3, 4, 5, 6] (by kernel_rfl) ⟨by decide, rfl⟩ ?_ ?_
              · refine RO.of (listed' := #[true, true, true, true, false, false, false]) rfl rfl ?_
                refine SJ.append (k := 0) (R := fOver) h38 rfl Try.underlying24 el39 rfl rfl rfl (fun w hw => (hw.row_rd (k := 6) rfl)) rfl fun v39 => ?_
                refine SJ.nil ?_
                refine PJ.draw ?_
                refine RJ.step1 4 [1, 2, 3, 4, 5, 6] (by kernel_rfl) ⟨by decide, rfl⟩ ?_
                refine RO.of (listed' := #[true, true, true, true, true, false, false]) rfl rfl ?_
                refine SJ.buildSlice (R := fOver) (os := [.tmp 28]) [(Over.mk ((Over.mk r27.1 [] []).under) r31.1 r34.1)] Try.runUnderlying24 Try.sizeOf39 Try.zeroValue39 rfl rfl rfl rfl rfl rfl fun v40 => ?_
                refine SJ.nil ?_
                refine PJ.draw ?_
                exact RJ.weak (hD46 (v40, v39)) [0, 1, 2, 3, 4, 5, 6, 7] ⟨rfl, rfl, rfl, rfl, rfl, rfl, trivial⟩ ⟨by decide, rfl⟩
              · refine RO.of (listed' := #[true, true, false, true, true, false, false]) rfl rfl ?_
                refine SJ.buildSlice (R := fOver) (os := [.tmp 28]) [(Over.mk ((Over.mk r27.1 [] []).under) r31.1 r34.1)] Try.runUnderlying24 Try.sizeOf39 Try.zeroValue39 rfl rfl rfl rfl rfl rfl fun v40 => ?_
                refine SJ.nil ?_
                refine PJ.draw ?_
                refine RJ.step1 2 [2, 3, 4, 5, 6, 7] (by kernel_rfl) ⟨by decide, rfl⟩ ?_
                refine RO.of (listed' := #[true, true, true, true, true, false, false]) rfl rfl ?_
                refine SJ.append (k := 1) (R := fOver) h38 rfl Try.underlying24 el39 rfl rfl rfl (fun w hw => (hw.row_rd (k := 7) rfl)) rfl fun v39 => ?_
                refine SJ.nil ?_
                refine PJ.draw ?_
                exact RJ.weak (hD46 (v40, v39)) [0, 1, 2, 3, 4, 5, 6, 7] ⟨rfl, rfl, rfl, rfl, rfl, rfl, trivial⟩ ⟨by decide, rfl⟩
            · refine RO.of (listed' := #[false, true, false, true, true, false, false]) rfl rfl ?_
              refine SJ.buildSlice (R := fOver) (os := [.tmp 28]) [(Over.mk ((Over.mk r27.1 [] []).under) r31.1 r34.1)] Try.runUnderlying24 Try.sizeOf39 Try.zeroValue39 rfl rfl rfl rfl rfl rfl fun v40 => ?_
              refine SJ.nil ?_
              refine PJ.draw ?_
              refine RJ.step1 0 [1, 2, 3, 4, 5, 6] (by kernel_rfl) ⟨by decide, rfl⟩ ?_
              refine RO.of (listed' := #[true, true, false, true, true, false, false]) rfl rfl ?_
              refine SJ.buildSlice (R := fOver) (os := []) [] Try.runUnderlying24 Try.sizeOf39 Try.zeroValue39 rfl rfl rfl rfl rfl rfl fun v36 => ?_
              refine SJ.nil ?_
              refine PJ.draw ?_
              refine RJ.step1 2 [2, 3, 4, 5, 6, 7] (by kernel_rfl) ⟨by decide, rfl⟩ ?_
              refine RO.of (listed' := #[true, true, true, true, true, false, false]) rfl rfl ?_
              refine SJ.append (k := 0) (R := fOver) h38 rfl Try.underlying24 el39 rfl rfl rfl (fun w hw => (hw.row_rd (k := 7) rfl)) rfl fun v39 => ?_
              refine SJ.nil ?_
              refine PJ.draw ?_
              exact RJ.weak (hD46 (v40, v39)) [1, 0, 2, 3, 4, 5, 6, 7] ⟨rfl, rfl, rfl, rfl, rfl, rfl, trivial⟩ ⟨by decide, rfl⟩
        · rintro ⟨x20, x21, l22, v23⟩ hm
          subst hk25
          refine WJ.quiet ?_
          refine QJ.step (YldS.yld (y_move rfl)) rfl ?_
          refine QJ.step (YldS.yld (y_bin rfl rfl rfl)) rfl ?_
          refine QJ.step (YldS.yld (y_assign rfl)) rfl ?_
          refine QJ.done ?_
          exact PJ.round (x20, x21, l22, v23, w64 (k18 - 1)) [0, 1] hm ⟨rfl, rfl, rfl, trivial⟩ ⟨by decide, rfl⟩
      · replace hm := ifF hm hb19
        refine WJ.exit ?_
        refine PJ.then_exit (PJ.then_exit (PJ.block_exit ?_))
        exact PJ.joined (x14, x15, l16, v17) [0, 1] hm ⟨rfl, trivial⟩ ⟨by decide, rfl⟩
  · rintro ⟨x6, x7, l8, v9⟩ hm
    subst hk11
    refine WJ.seq ?_
    refine WJ.quiet ?_
    refine QJ.step (YldS.yld (y_move rfl)) rfl ?_
    refine QJ.step (YldS.yld (y_assign rfl)) rfl ?_
    refine QJ.done ?_
    refine PJ.next ?_
    refine WJ.ret ?_
    obtain rfl := Option.some.inj hm
    refine PJ.sel (L' := [box g2 185 [v3, .int .i64 x6, .int .u64 x7], row v9 39 fOver l8]) [0, 1] ⟨by decide, rfl⟩ ?_
    exact PJ.retn (vs := [v9]) Try.results214 ⟨rfl, trivial⟩ ⟨_, rfl, rfl⟩

set_option maxRecDepth 100000 in
set_option maxHeartbeats 1000000 in
theorem ok_s_l12Bent {N : Nat} {s1 : L00Src} {g2 : Nat} {r : (List Over) × L00Src} (hm : s_l12Bent N s1 = some r) (w : World) (S : Nat → Prop) (v3 : Value) (hr4 : RdS w (Cx.Fz ⟨w, S⟩) v3 fByte.rp s1.code) (hA : (box g2 185 [v3, .int .i64 s1.at_, .int .u64 s1.seed]).holds w S) :
    Calls Try.prog 176 #[pt g2 0] w (RetG ⟨w, S⟩ fun u L => ∃ (u1 : Value), (u = u1 ∧ L = [box g2 185 [v3, .int .i64 r.2.at_, .int .u64 r.2.seed], row u1 39 fOver r.1])) := by
  unfold s_l12Bent at hm
  refine Calls.enter1 hA [pt g2 0] Try.func176 rfl Try.ntmps176 rfl ?_
  refine WJ.seq ?_
  refine WJ.quiet ?_
  refine QJ.step (YldS.yld (y_assign rfl)) rfl ?_
  refine QJ.done ?_
  refine PJ.next ?_
  refine WJ.seq ?_
  refine WJ.reg ?_
  refine SJ.q (YldS.yld (y_move rfl)) rfl ?_
  obtain ⟨r5, h6, hm⟩ := bindS hm
  refine SJ.call1 (k := 0) rfl Try.call214 rfl (fun w S hw hA hO => ok_s_l12Draw h6 w S _ (hr4.st1 hw hO) hA) rfl ?_
  rintro v7 _ ⟨_, rfl, rfl⟩
  refine SJ.q (YldS.yld (y_assign rfl)) rfl ?_
  refine SJ.nil ?_
  refine PJ.next ?_
  obtain ⟨k12, hk13, hm⟩ := withK_open hm
  refine WJ.join (X := Int × Int × (List Over) × Value) (fun (x : Int × Int × (List Over) × Value) => k12 x.1 x.2.1 x.2.2.1 = some r) (fun (x : Int × Int × (List Over) × Value) => [(3, x.2.2.2)]) (fun (x : Int × Int × (List Over) × Value) => [box g2 185 [v3, .int .i64 x.1, .int .u64 x.2.1], row x.2.2.2 39 fOver x.2.2.1]) ?_ ?_
  · clear hk13
    refine WJ.seq ?_
    refine WJ.reg ?_
    refine SJ.q (YldS.yld (y_move rfl)) rfl ?_
    obtain ⟨r14, h15, hm⟩ := bindS hm
    refine SJ.call1 (k := 0) rfl Try.call97 rfl (fun w S hw hA hO => ok_s_l00Src_pick h15 w S _ (hr4.st1 hw hO) hA) rfl ?_
    rintro _ _ ⟨rfl, rfl⟩
    refine SJ.nil ?_
    refine PJ.next ?_
    refine WJ.block ?_
    refine WJ.seq ?_
    refine WJ.quiet ?_
    refine QJ.step (YldS.yld (y_bin rfl rfl rfl)) rfl ?_
    refine QJ.step (YldS.yld (y_assign rfl)) rfl ?_
    refine QJ.done ?_
    refine PJ.next ?_
    refine WJ.cond (t := (r14.1 == 0)) rfl (fun hb16 => ?_) (fun hb16 => ?_)
    · replace hm := ifT hm hb16
      refine WJ.reg ?_
      refine SJ.q (YldS.yld (y_move rfl)) rfl ?_
      refine SJ.q (YldS.yld (y_move rfl)) rfl ?_
      refine SJ.buildSlice (R := fStr) (os := [.const (str []), .const (str [97]), .const (str [32])]) [[], [97], [32]] Try.runUnderlying78 Try.sizeOf9 Try.zeroValue9 rfl rfl rfl rfl rfl rfl fun v17 => ?_
      obtain ⟨r18, h19, hm⟩ := bindS hm
      refine SJ.call2 (k := 1) rfl Try.call113 rfl (fun w S hw hA hO hB => ok_s_l00Src_text h19 w S _ (hr4.st1 hw hO) _ (hB.row_rd (j := 0) (k := 1) rfl rfl) hA) rfl ?_
      rintro _ _ ⟨rfl, rfl⟩
      refine SJ.q (YldS.yld (y_move rfl)) rfl ?_
      refine SJ.buildSlice (R := fStr) (os := [.const (str [98]), .const (str [98, 98])]) [[98], [98, 98]] Try.runUnderlying78 Try.sizeOf9 Try.zeroValue9 rfl rfl rfl rfl rfl rfl fun v20 => ?_
      obtain ⟨r21, h22, hm⟩ := bindS hm
      refine SJ.call2 (k := 1) rfl Try.call113 rfl (fun w S hw hA hO hB => ok_s_l00Src_text h22 w S _ (hr4.st1 hw hO) _ (hB.row_rd (j := 0) (k := 1) rfl rfl) hA) rfl ?_
      rintro _ _ ⟨rfl, rfl⟩
      refine SJ.q (YldS.yld (y_move rfl)) rfl ?_
      refine SJ.buildSlice (R := fStr) (os := [.const (str [97]), .const (str [98]), .const (str [99])]) [[97], [98], [99]] Try.runUnderlying78 Try.sizeOf9 Try.zeroValue9 rfl rfl rfl rfl rfl rfl fun v23 => ?_
      obtain ⟨r24, h25, hm⟩ := bindS hm
      refine SJ.call2 (k := 1) rfl Try.call113 rfl (fun w S hw hA hO hB => ok_s_l00Src_text h25 w S _ (hr4.st1 hw hO) _ (hB.row_rd (j := 0) (k := 1) rfl rfl) hA) rfl ?_
      rintro _ _ ⟨rfl, rfl⟩
      refine SJ.q (YldS.yld (y_build (parts := [(0, .tmp 14), (1, .tmp 17), (2, .tmp 20)]) (places := [(0, 1), (1, 1), (2, 1)]) (r := [str ((Over.mk r18.1 r21.1 r24.1).under), str ((Over.mk r18.1 r21.1 r24.1).top), str ((Over.mk r18.1 r21.1 r24.1).seen)]) pl39 Try.zeroValue39 rfl rfl rfl rfl)) rfl ?_
      refine SJ.buildSlice (R := fOver) (os := [.tmp 21]) [(Over.mk r18.1 r21.1 r24.1)] Try.runUnderlying24 Try.sizeOf39 Try.zeroValue39 rfl rfl rfl rfl rfl rfl fun v26 => ?_
      obtain ⟨l27, h28, hm⟩ := bindS hm
      refine SJ.append (k := 5) (R := fOver) h28 rfl Try.underlying24 el39 rfl rfl rfl (fun w hw => (hw.row_rd (k := 0) rfl)) rfl fun v29 => ?_
      refine SJ.q (YldS.yld (y_assign rfl)) rfl ?_
      refine SJ.nil ?_
      refine PJ.block_normal ?_
      exact PJ.joined (r24.2.at_, r24.2.seed, l27, v29) [1, 5] hm ⟨rfl, trivial⟩ ⟨by decide, rfl⟩
    · replace hm := ifF hm hb16
      refine WJ.seq ?_
      refine WJ.quiet ?_
      refine QJ.step (YldS.yld (y_bin rfl rfl rfl)) rfl ?_
      refine QJ.step (YldS.yld (y_assign rfl)) rfl ?_
      refine QJ.done ?_
      refine PJ.next ?_
      refine WJ.cond (t := (r14.1 == 1)) rfl (fun hb30 => ?_) (fun hb30 => ?_)
      · replace hm := ifT hm hb30
        refine WJ.seq ?_
        refine WJ.quiet ?_
        refine QJ.step (YldS.yld (y_move rfl)) rfl ?_
        refine QJ.step (YldS.yld (y_lenRow (k := 1) rfl Try.runUnderlying24 rfl)) rfl ?_
        refine QJ.step (YldS.yld (y_bin rfl rfl rfl)) rfl ?_
        refine QJ.done ?_
        refine PJ.next ?_
        refine WJ.cond (t := decide ((List.length r5.1 : Int) > 0)) rfl (fun hb31 => ?_) (fun hb31 => ?_)
        · replace hm := ifT hm hb31
          refine WJ.reg ?_
          refine SJ.q (YldS.yld (y_move rfl)) rfl ?_
          refine SJ.q (YldS.yld (y_move rfl)) rfl ?_
          obtain ⟨e32, h33, hm⟩ := bindS hm
          refine SJ.q (YldS.yld (y_ixRow (k := 1) (R := fOver) rfl Try.runUnderlying24 Try.sizeOf39 rfl rfl h33)) rfl ?_
          refine SJ.q (YldS.yld (y_loadRN (k := 1) (i := (Int.toNat 0)) (off := 0) (us := [str e32.under, str e32.top, str e32.seen]) rfl Try.isAgg39 Try.sizeOf39 rfl (idx_get h33) rfl)) rfl ?_
          refine SJ.buildSlice (R := fOver) (os := [.tmp 32]) [e32] Try.runUnderlying24 Try.sizeOf39 Try.zeroValue39 rfl rfl rfl rfl rfl rfl fun v34 => ?_
          obtain ⟨l35, h36, hm⟩ := bindS hm
          refine SJ.append (k := 2) (R := fOver) h36 rfl Try.underlying24 el39 rfl rfl rfl (fun w hw => (hw.row_rd (k := 0) rfl)) rfl fun v37 => ?_
          refine SJ.q (YldS.yld (y_assign rfl)) rfl ?_
          refine SJ.nil ?_
          refine PJ.block_normal ?_
          exact PJ.joined (r14.2.at_, r14.2.seed, l35, v37) [1, 2] hm ⟨rfl, trivial⟩ ⟨by decide, rfl⟩
        · replace hm := ifF hm hb31
          refine WJ.skip ?_
          refine PJ.block_normal ?_
          exact PJ.joined (r14.2.at_, r14.2.seed, r5.1, v7) [0, 1] hm ⟨rfl, trivial⟩ ⟨by decide, rfl⟩
      · replace hm := ifF hm hb30
        refine WJ.seq ?_
        refine WJ.quiet ?_
        refine QJ.step (YldS.yld (y_bin rfl rfl rfl)) rfl ?_
        refine QJ.step (YldS.yld (y_assign rfl)) rfl ?_
        refine QJ.done ?_
        refine PJ.next ?_
        refine WJ.cond (t := (r14.1 == 2)) rfl (fun hb38 => ?_) (fun hb38 => ?_)
        · replace hm := ifT hm hb38
          refine WJ.seq ?_
          refine WJ.reg ?_
          refine SJ.buildSlice (R := fOver) (os := []) [] Try.runUnderlying24 Try.sizeOf39 Try.zeroValue39 rfl rfl rfl rfl rfl rfl fun v39 => ?_
          refine SJ.q (YldS.yld (y_assign rfl)) rfl ?_
          refine SJ.nil ?_
          refine PJ.next ?_
          refine WJ.seq ?_
          refine WJ.reg ?_
          refine SJ.q (YldS.yld (y_move rfl)) rfl ?_
          obtain ⟨r40, h41, hm⟩ := bindS hm
          refine SJ.call1 (k := 1) rfl Try.call97 rfl (fun w S hw hA hO => ok_s_l00Src_pick h41 w S _ (hr4.st1 hw hO) hA) rfl ?_
          rintro _ _ ⟨rfl, rfl⟩
          refine SJ.q (YldS.yld (y_bin rfl rfl rfl)) rfl ?_
          refine SJ.q (YldS.yld (y_assign rfl)) rfl ?_
          refine SJ.nil ?_
          refine PJ.next ?_
          refine WJ.block ?_
          refine WJ.sel (L' := (fun (x : (List Over) × Value × Int) => [box g2 185 [v3, .int .i64 r40.2.at_, .int .u64 r40.2.seed], row x.2.1 39 fOver x.1]) ([], v39, w64 (20 + r40.1))) [0, 1] ⟨by decide, rfl⟩ ?_
          refine WJ.sub (m' := (fun (x : (List Over) × Value × Int) => [(3, x.2.1), (4, .int .i64 x.2.2)]) ([], v39, w64 (20 + r40.1))) ⟨rfl, rfl, trivial⟩ ?_
          refine WJ.loop (X := (List Over) × Value × Int) (fun N (x : (List Over) × Value × Int) => s_l12Bent_l1 k12 r40 N x.1 x.2.2 = some r) (fun (x : (List Over) × Value × Int) => [(3, x.2.1), (4, .int .i64 x.2.2)]) (fun (x : (List Over) × Value × Int) => [box g2 185 [v3, .int .i64 r40.2.at_, .int .u64 r40.2.seed], row x.2.1 39 fOver x.1]) ?_ N ([], v39, w64 (20 + r40.1)) hm
          · rintro N ⟨l42, v43, k44⟩ hI
            have hm := hI; clear hI
            cases N with
            | zero => cases hm
            | succ N =>
            unfold s_l12Bent_l1 at hm
            refine WJ.seq ?_
            refine WJ.seq ?_
            refine WJ.quiet ?_
            refine QJ.step (YldS.yld (y_move rfl)) rfl ?_
            refine QJ.step (YldS.yld (y_bin rfl rfl rfl)) rfl ?_
            refine QJ.done ?_
            refine PJ.next ?_
            refine WJ.cond (t := decide (k44 > 0)) rfl (fun hb45 => ?_) (fun hb45 => ?_)
            · replace hm := ifT hm hb45
              refine WJ.skip ?_
              refine PJ.next ?_
              refine WJ.seq ?_
              refine WJ.block ?_
              refine WJ.reg ?_
              refine SJ.q (YldS.yld (y_move rfl)) rfl ?_
              refine SJ.q (YldS.yld (y_move rfl)) rfl ?_
              refine SJ.q (YldS.yld (y_lenRow (k := 1) rfl Try.runUnderlying24 rfl)) rfl ?_
              refine SJ.q (YldS.yld (y_convTo8 Try.runUnderlying3 Try.runUnderlying5 rfl)) rfl ?_
              refine SJ.q (YldS.yld (y_bin8 (65 : UInt8) (UInt8.ofInt (List.length l42 : Int)) rfl rfl rfl)) rfl ?_
              refine SJ.buildSlice (R := fByte) (os := [.tmp 49]) [(65 : UInt8) + (UInt8.ofInt (List.length l42 : Int))] Try.runUnderlying22 Try.sizeOf5 Try.zeroValue5 rfl rfl rfl rfl rfl rfl fun v46 => ?_
              refine SJ.q (YldS.yld (y_b2s Try.underlying22 Try.underlying9 Try.underlying5 (fun w hw => ⟨_, (hw.row_rd (k := 0) rfl)⟩) rfl)) rfl ?_
              refine SJ.q (YldS.yld (y_build (parts := [(0, .tmp 51), (1, .const (str [47])), (2, .const (str [35]))]) (places := [(0, 1), (1, 1), (2, 1)]) (r := [str ((Over.mk [(65 : UInt8) + (UInt8.ofInt (List.length l42 : Int))] [47] [35]).under), str ((Over.mk [(65 : UInt8) + (UInt8.ofInt (List.length l42 : Int))] [47] [35]).top), str ((Over.mk [(65 : UInt8) + (UInt8.ofInt (List.length l42 : Int))] [47] [35]).seen)]) pl39 Try.zeroValue39 rfl rfl rfl rfl)) rfl ?_
              refine SJ.buildSlice (R := fOver) (os := [.tmp 52]) [(Over.mk [(65 : UInt8) + (UInt8.ofInt (List.length l42 : Int))] [47] [35])] Try.runUnderlying24 Try.sizeOf39 Try.zeroValue39 rfl rfl rfl rfl rfl rfl fun v47 => ?_
              obtain ⟨l48, h49, hm⟩ := bindS hm
              refine SJ.append (k := 3) (R := fOver) h49 rfl Try.underlying24 el39 rfl rfl rfl (fun w hw => (hw.row_rd (k := 0) rfl)) rfl fun v50 => ?_
              refine SJ.q (YldS.yld (y_assign rfl)) rfl ?_
              refine SJ.nil ?_
              refine PJ.block_normal (PJ.next ?_)
              refine WJ.quiet ?_
              refine QJ.step (YldS.yld (y_move rfl)) rfl ?_
              refine QJ.step (YldS.yld (y_bin rfl rfl rfl)) rfl ?_
              refine QJ.step (YldS.yld (y_assign rfl)) rfl ?_
              refine QJ.done ?_
              exact PJ.round (l48, v50, w64 (k44 - 1)) [2, 3] hm ⟨rfl, rfl, trivial⟩ ⟨by decide, rfl⟩
            · replace hm := ifF hm hb45
              refine WJ.exit ?_
              refine PJ.then_exit (PJ.then_exit (PJ.block_exit (PJ.block_normal ?_)))
              exact PJ.joined (r40.2.at_, r40.2.seed, l42, v43) [0, 1] hm ⟨rfl, trivial⟩ ⟨by decide, rfl⟩
        · replace hm := ifF hm hb38
          refine WJ.skip ?_
          refine PJ.block_normal ?_
          exact PJ.joined (r14.2.at_, r14.2.seed, r5.1, v7) [0, 1] hm ⟨rfl, trivial⟩ ⟨by decide, rfl⟩
  · rintro ⟨x8, x9, l10, v11⟩ hm
    subst hk13
    refine WJ.seq ?_
    refine WJ.quiet ?_
    refine QJ.step (YldS.yld (y_move rfl)) rfl ?_
    refine QJ.step (YldS.yld (y_assign rfl)) rfl ?_
    refine QJ.done ?_
    refine PJ.next ?_
    refine WJ.ret ?_
    obtain rfl := Option.some.inj hm
    refine PJ.sel (L' := [box g2 185 [v3, .int .i64 x8, .int .u64 x9], row v11 39 fOver l10]) [0, 1] ⟨by decide, rfl⟩ ?_
    exact PJ.retn (vs := [v11]) Try.results176 ⟨rfl, trivial⟩ ⟨_, rfl, rfl⟩

set_option maxRecDepth 100000 in
set_option maxHeartbeats 1000000 in
theorem ok_s_l00Src_one {s1 : L00Src} {n5 : Int} {g2 : Nat} {r : Bool × L00Src} (hm : s_l00Src_one s1 n5 = some r) (w : World) (S : Nat → Prop) (v3 : Value) (hr4 : RdS w (Cx.Fz ⟨w, S⟩) v3 fByte.rp s1.code) (hA : (box g2 185 [v3, .int .i64 s1.at_, .int .u64 s1.seed]).holds w S) :
    Calls Try.prog 121 #[pt g2 0, .int .i64 n5] w (RetG ⟨w, S⟩ fun u L => (u = .bool r.1 ∧ L = [box g2 185 [v3, .int .i64 r.2.at_, .int .u64 r.2.seed]])) := by
  unfold s_l00Src_one at hm
  refine Calls.enter1 hA [pt g2 0, .int .i64 n5] Try.func121 rfl Try.ntmps121 rfl ?_
  refine WJ.seq ?_
  refine WJ.quiet ?_
  refine QJ.step (YldS.yld (y_assign rfl)) rfl ?_
  refine QJ.done ?_
  refine PJ.next ?_
  refine WJ.seq ?_
  refine WJ.reg ?_
  refine SJ.q (YldS.yld (y_move rfl)) rfl ?_
  refine SJ.q (YldS.yld (y_move rfl)) rfl ?_
  obtain ⟨r6, h7, hm⟩ := bindS hm
  refine SJ.call1 (k := 0) rfl Try.call97 rfl (fun w S hw hA hO => ok_s_l00Src_pick h7 w S _ (hr4.st1 hw hO) hA) rfl ?_
  rintro _ _ ⟨rfl, rfl⟩
  refine SJ.q (YldS.yld (y_bin rfl rfl rfl)) rfl ?_
  refine SJ.q (YldS.yld (y_assign rfl)) rfl ?_
  refine SJ.nil ?_
  refine PJ.next ?_
  refine WJ.ret ?_
  obtain rfl := Option.some.inj hm
  refine PJ.sel (L' := [box g2 185 [v3, .int .i64 r6.2.at_, .int .u64 r6.2.seed]]) [0] ⟨by decide, rfl⟩ ?_
  exact PJ.retn (vs := [.bool (r6.1 == 0)]) Try.results121 ⟨rfl, trivial⟩ ⟨rfl, rfl⟩

set_option maxRecDepth 100000 in
set_option maxHeartbeats 1000000 in
theorem ok_s_l12DrawLine {N : Nat} {s1 : L00Src} {n5 : Int} {g2 : Nat} {r : Str × L00Src} (hm : s_l12DrawLine N s1 n5 = some r) (w : World) (S : Nat → Prop) (v3 : Value) (hr4 : RdS w (Cx.Fz ⟨w, S⟩) v3 fByte.rp s1.code) (hA : (box g2 185 [v3, .int .i64 s1.at_, .int .u64 s1.seed]).holds w S) :
    Calls Try.prog 177 #[pt g2 0, .int .i64 n5] w (RetG ⟨w, S⟩ fun u L => (u = str r.1 ∧ L = [box g2 185 [v3, .int .i64 r.2.at_, .int .u64 r.2.seed]])) := by
  unfold s_l12DrawLine at hm
  refine Calls.enter1 hA [pt g2 0, .int .i64 n5] Try.func177 rfl Try.ntmps177 rfl ?_
  refine WJ.seq ?_
  refine WJ.quiet ?_
  refine QJ.step (YldS.yld (y_assign rfl)) rfl ?_
  refine QJ.done ?_
  refine PJ.next ?_
  refine WJ.seq ?_
  refine WJ.reg ?_
  refine SJ.buildSlice (R := fByte) (os := []) [] Try.runUnderlying22 Try.sizeOf5 Try.zeroValue5 rfl rfl rfl rfl rfl rfl fun v6 => ?_
  refine SJ.q (YldS.yld (y_assign rfl)) rfl ?_
  refine SJ.nil ?_
  refine PJ.next ?_
  obtain ⟨k11, hk12, hm⟩ := withK_open hm
  refine WJ.join (X := (List UInt8) × Value × Int × Int) (fun (x : (List UInt8) × Value × Int × Int) => k11 x.1 x.2.2.1 x.2.2.2 = some r) (fun (x : (List UInt8) × Value × Int × Int) => [(5, x.2.1)]) (fun (x : (List UInt8) × Value × Int × Int) => [row x.2.1 5 fByte x.1, box g2 185 [v3, .int .i64 x.2.2.1, .int .u64 x.2.2.2]]) ?_ ?_
  · clear hk12
    refine WJ.seq ?_
    refine WJ.quiet ?_
    refine QJ.step (YldS.yld (y_assign rfl)) rfl ?_
    refine QJ.done ?_
    refine PJ.next ?_
    refine WJ.block ?_
    refine WJ.sel (L' := (fun (x : (List UInt8) × Value × Int × Int × Int) => [row x.2.1 5 fByte x.1, box g2 185 [v3, .int .i64 x.2.2.1, .int .u64 x.2.2.2.1]]) ([], v6, s1.at_, s1.seed, 0)) [0, 1] ⟨by decide, rfl⟩ ?_
    refine WJ.sub (m' := (fun (x : (List UInt8) × Value × Int × Int × Int) => [(0, pt g2 0), (1, .int .i64 n5), (5, x.2.1), (6, .int .i64 x.2.2.2.2)]) ([], v6, s1.at_, s1.seed, 0)) ⟨rfl, rfl, rfl, rfl, trivial⟩ ?_
    refine WJ.loop (X := (List UInt8) × Value × Int × Int × Int) (fun N (x : (List UInt8) × Value × Int × Int × Int) => s_l12DrawLine_l1 k11 s1 n5 N x.1 x.2.2.1 x.2.2.2.1 x.2.2.2.2 = some r) (fun (x : (List UInt8) × Value × Int × Int × Int) => [(0, pt g2 0), (1, .int .i64 n5), (5, x.2.1), (6, .int .i64 x.2.2.2.2)]) (fun (x : (List UInt8) × Value × Int × Int × Int) => [row x.2.1 5 fByte x.1, box g2 185 [v3, .int .i64 x.2.2.1, .int .u64 x.2.2.2.1]]) ?_ N ([], v6, s1.at_, s1.seed, 0) hm
    · rintro N ⟨l13, v14, x15, x16, k17⟩ hI
      have hm := hI; clear hI
      cases N with
      | zero => cases hm
      | succ N =>
      unfold s_l12DrawLine_l1 at hm
      refine WJ.seq ?_
      refine WJ.seq ?_
      refine WJ.quiet ?_
      refine QJ.step (YldS.yld (y_move rfl)) rfl ?_
      refine QJ.step (YldS.yld (y_move rfl)) rfl ?_
      refine QJ.step (YldS.yld (y_bin rfl rfl rfl)) rfl ?_
      refine QJ.done ?_
      refine PJ.next ?_
      refine WJ.cond (t := decide (k17 < n5)) rfl (fun hb18 => ?_) (fun hb18 => ?_)
      · replace hm := ifT hm hb18
        refine WJ.skip ?_
        refine PJ.next ?_
        refine WJ.seq ?_
        refine WJ.block ?_
        refine WJ.reg ?_
        refine SJ.q (YldS.yld (y_move rfl)) rfl ?_
        refine SJ.q (YldS.yld (y_move rfl)) rfl ?_
        obtain ⟨r19, h20, hm⟩ := bindS hm
        refine SJ.call1 (k := 1) rfl Try.call97 rfl (fun w S hw hA hO => ok_s_l00Src_pick h20 w S _ (hr4.st1 hw hO) hA) rfl ?_
        rintro _ _ ⟨rfl, rfl⟩
        obtain ⟨c21, h22, hm⟩ := bindS hm
        refine SJ.q (YldS.yld (y_idxStr Try.runUnderlying9 rfl rfl h22)) rfl ?_
        refine SJ.buildSlice (R := fByte) (os := [.tmp 16]) [c21] Try.runUnderlying22 Try.sizeOf5 Try.zeroValue5 rfl rfl rfl rfl rfl rfl fun v23 => ?_
        obtain ⟨l24, h25, hm⟩ := bindS hm
        refine SJ.append (k := 2) (R := fByte) h25 rfl Try.underlying22 el5 rfl rfl rfl (fun w hw => (hw.row_rd (k := 0) rfl)) rfl fun v26 => ?_
        refine SJ.q (YldS.yld (y_assign rfl)) rfl ?_
        refine SJ.nil ?_
        refine PJ.block_normal (PJ.next ?_)
        refine WJ.quiet ?_
        refine QJ.step (YldS.yld (y_move rfl)) rfl ?_
        refine QJ.step (YldS.yld (y_bin rfl rfl rfl)) rfl ?_
        refine QJ.step (YldS.yld (y_assign rfl)) rfl ?_
        refine QJ.done ?_
        exact PJ.round (l24, v26, r19.2.at_, r19.2.seed, w64 (k17 + 1)) [2, 1] hm ⟨rfl, rfl, rfl, rfl, trivial⟩ ⟨by decide, rfl⟩
      · replace hm := ifF hm hb18
        refine WJ.exit ?_
        refine PJ.then_exit (PJ.then_exit (PJ.block_exit ?_))
        exact PJ.joined (l13, v14, x15, x16) [0, 1] hm ⟨rfl, trivial⟩ ⟨by decide, rfl⟩
  · rintro ⟨l7, v8, x9, x10⟩ hm
    subst hk12
    refine WJ.seq ?_
    refine WJ.quiet ?_
    refine QJ.step (YldS.yld (y_move rfl)) rfl ?_
    refine QJ.step (YldS.yld (y_b2s Try.underlying22 Try.underlying9 Try.underlying5 (fun w hw => ⟨_, (hw.row_rd (k := 0) rfl)⟩) rfl)) rfl ?_
    refine QJ.step (YldS.yld (y_assign rfl)) rfl ?_
    refine QJ.done ?_
    refine PJ.next ?_
    refine WJ.ret ?_
    obtain rfl := Option.some.inj hm
    refine PJ.sel (L' := [box g2 185 [v3, .int .i64 x9, .int .u64 x10]]) [1] ⟨by decide, rfl⟩ ?_
    exact PJ.retn (vs := [str l7]) Try.results177 ⟨rfl, trivial⟩ ⟨rfl, rfl⟩

set_option maxRecDepth 100000 in
set_option maxHeartbeats 1000000 in
theorem ok_s_l12Near {N : Nat} {s1 : L00Src} {line5 : Str} {g2 : Nat} {r : Str × L00Src} (hm : s_l12Near N s1 line5 = some r) (w : World) (S : Nat → Prop) (v3 : Value) (hr4 : RdS w (Cx.Fz ⟨w, S⟩) v3 fByte.rp s1.code) (hA : (box g2 185 [v3, .int .i64 s1.at_, .int .u64 s1.seed]).holds w S) :
    Calls Try.prog 98 #[pt g2 0, str line5] w (RetG ⟨w, S⟩ fun u L => (u = str r.1 ∧ L = [box g2 185 [v3, .int .i64 r.2.at_, .int .u64 r.2.seed]])) := by
  unfold s_l12Near at hm
  refine Calls.enter1 hA [pt g2 0, str line5] Try.func98 rfl Try.ntmps98 rfl ?_
  refine WJ.seq ?_
  refine WJ.quiet ?_
  refine QJ.step (YldS.yld (y_assign rfl)) rfl ?_
  refine QJ.done ?_
  refine PJ.next ?_
  refine WJ.seq ?_
  refine WJ.reg ?_
  refine SJ.q (YldS.yld (y_move rfl)) rfl ?_
  obtain ⟨l6, h7, hm⟩ := bindS hm
  refine SJ.convBytes h7 Try.underlying9 Try.underlying22 Try.underlying5 rfl rfl fun v8 => ?_
  refine SJ.q (YldS.yld (y_assign rfl)) rfl ?_
  refine SJ.nil ?_
  refine PJ.next ?_
  obtain ⟨k12, hk13, hm⟩ := withK_open hm
  refine WJ.join (X := Int × Int × (List UInt8)) (fun (x : Int × Int × (List UInt8)) => k12 x.1 x.2.1 x.2.2 = some r) (fun (x : Int × Int × (List UInt8)) => [(5, v8)]) (fun (x : Int × Int × (List UInt8)) => [box g2 185 [v3, .int .i64 x.1, .int .u64 x.2.1], rowM v8 5 fByte x.2.2]) ?_ ?_
  · clear hk13
    refine WJ.seq ?_
    refine WJ.reg ?_
    refine SJ.q (YldS.yld (y_move rfl)) rfl ?_
    obtain ⟨r14, h15, hm⟩ := bindS hm
    refine SJ.call1 (k := 1) rfl Try.call97 rfl (fun w S hw hA hO => ok_s_l00Src_pick h15 w S _ (hr4.st1 hw hO) hA) rfl ?_
    rintro _ _ ⟨rfl, rfl⟩
    refine SJ.q (YldS.yld (y_assign rfl)) rfl ?_
    refine SJ.nil ?_
    refine PJ.next ?_
    refine WJ.block ?_
    refine WJ.sel (L' := (fun (x : Int × Int × (List UInt8) × Int) => [box g2 185 [v3, .int .i64 x.1, .int .u64 x.2.1], rowM v8 5 fByte x.2.2.1]) (r14.2.at_, r14.2.seed, l6, r14.1)) [0, 1] ⟨by decide, rfl⟩ ?_
    refine WJ.sub (m' := (fun (x : Int × Int × (List UInt8) × Int) => [(0, pt g2 0), (5, v8), (6, .int .i64 x.2.2.2)]) (r14.2.at_, r14.2.seed, l6, r14.1)) ⟨rfl, rfl, rfl, trivial⟩ ?_
    refine WJ.loop (X := Int × Int × (List UInt8) × Int) (fun N (x : Int × Int × (List UInt8) × Int) => s_l12Near_l1 k12 s1 N x.1 x.2.1 x.2.2.1 x.2.2.2 = some r) (fun (x : Int × Int × (List UInt8) × Int) => [(0, pt g2 0), (5, v8), (6, .int .i64 x.2.2.2)]) (fun (x : Int × Int × (List UInt8) × Int) => [box g2 185 [v3, .int .i64 x.1, .int .u64 x.2.1], rowM v8 5 fByte x.2.2.1]) ?_ N (r14.2.at_, r14.2.seed, l6, r14.1) hm
    · rintro N ⟨x16, x17, l18, k19⟩ hI
      have hm := hI; clear hI
      cases N with
      | zero => cases hm
      | succ N =>
      unfold s_l12Near_l1 at hm
      refine WJ.seq ?_
      refine WJ.seq ?_
      refine WJ.quiet ?_
      refine QJ.step (YldS.yld (y_move rfl)) rfl ?_
      refine QJ.step (YldS.yld (y_bin rfl rfl rfl)) rfl ?_
      refine QJ.step (YldS.yld (y_move rfl)) rfl ?_
      obtain ⟨t20, h21, hm⟩ := bindS hm
      refine QJ.cut 4 [(0, pt g2 0), (5, v8), (6, .int .i64 k19), (17, .bool t20)] ?_ ?_
      · rcases Bool.eq_false_or_eq_true (decide (k19 > 0)) with hb22 | hb22
        · replace h21 := andT h21 hb22
          refine QJ.on rfl rfl (cB hb22) (YldS.yld (y_move rfl)) rfl ?_
          refine QJ.on rfl rfl (cB hb22) (YldS.yld (y_lenRowM (k := 1) rfl Try.runUnderlying22 rfl)) rfl ?_
          refine QJ.on rfl rfl (cB hb22) (YldS.yld (y_bin rfl rfl rfl)) rfl ?_
          refine QJ.step (YldS.yld (y_pick_t (cB hb22) rfl)) rfl ?_
          obtain rfl := Option.some.inj h21
          exact QJ.cut_end ⟨rfl, rfl, rfl, rfl, trivial⟩
        · obtain rfl := andF h21 hb22
          refine QJ.off rfl rfl (cB hb22) rfl rfl ?_
          refine QJ.off rfl rfl (cB hb22) rfl rfl ?_
          refine QJ.off rfl rfl (cB hb22) rfl rfl ?_
          refine QJ.step (YldS.yld (y_pick_f (cB hb22) rfl)) rfl ?_
          exact QJ.cut_end ⟨rfl, rfl, rfl, rfl, trivial⟩
      refine QJ.done ?_
      refine PJ.next ?_
      refine WJ.cond (t := t20) rfl (fun hb23 => ?_) (fun hb23 => ?_)
      · replace hm := ifT hm hb23
        refine WJ.skip ?_
        refine PJ.next ?_
        refine WJ.seq ?_
        refine WJ.block ?_
        refine WJ.reg ?_
        refine SJ.q (YldS.yld (y_move rfl)) rfl ?_
        refine SJ.q (YldS.yld (y_move rfl)) rfl ?_
        refine SJ.q (YldS.yld (y_move rfl)) rfl ?_
        refine SJ.q (YldS.yld (y_lenRowM (k := 1) rfl Try.runUnderlying22 rfl)) rfl ?_
        obtain ⟨r24, h25, hm⟩ := bindS hm
        refine SJ.call1 (k := 0) rfl Try.call97 rfl (fun w S hw hA hO => ok_s_l00Src_pick h25 w S _ (hr4.st1 hw hO) hA) rfl ?_
        rintro _ _ ⟨rfl, rfl⟩
        refine SJ.q (YldS.yld (y_move rfl)) rfl ?_
        obtain ⟨r26, h27, hm⟩ := bindS hm
        refine SJ.call1 (k := 0) rfl Try.call97 rfl (fun w S hw hA hO => ok_s_l00Src_pick h27 w S _ (hr4.st1 hw hO) hA) rfl ?_
        rintro _ _ ⟨rfl, rfl⟩
        obtain ⟨c28, h29, hm⟩ := bindS hm
        refine SJ.q (YldS.yld (y_idxStr Try.runUnderlying9 rfl rfl h29)) rfl ?_
        obtain ⟨e30, h31, hm⟩ := bindS hm
        refine SJ.q (YldS.yld (y_ixRowM (k := 1) (R := fByte) rfl Try.runUnderlying22 Try.sizeOf5 rfl rfl h31)) rfl ?_
        refine SJ.storeRLM (k := 1) (i := (Int.toNat r24.1)) (off := 0) (us := [.int .u8 (UInt8.toNat c28 : Int)]) (b := c28) rfl rfl (idx_get h31) rfl rfl Try.sizeOf5 rfl rfl rfl ?_
        refine SJ.nil ?_
        refine PJ.block_normal (PJ.next ?_)
        refine WJ.quiet ?_
        refine QJ.step (YldS.yld (y_move rfl)) rfl ?_
        refine QJ.step (YldS.yld (y_bin rfl rfl rfl)) rfl ?_
        refine QJ.step (YldS.yld (y_assign rfl)) rfl ?_
        refine QJ.done ?_
        exact PJ.round (r26.2.at_, r26.2.seed, (List.set l18 (Int.toNat r24.1) c28), w64 (k19 - 1)) [0, 1] hm ⟨rfl, rfl, rfl, trivial⟩ ⟨by decide, rfl⟩
      · replace hm := ifF hm hb23
        refine WJ.exit ?_
        refine PJ.then_exit (PJ.then_exit (PJ.block_exit ?_))
        exact PJ.joined (x16, x17, l18) [0, 1] hm ⟨rfl, trivial⟩ ⟨by decide, rfl⟩
  · rintro ⟨x9, x10, l11⟩ hm
    subst hk13
    refine WJ.seq ?_
    refine WJ.quiet ?_
    refine QJ.step (YldS.yld (y_move rfl)) rfl ?_
    refine QJ.step (YldS.yld (y_b2s Try.underlying22 Try.underlying9 Try.underlying5 (fun w hw => ⟨_, (hw.rowM_rd (k := 1) rfl)⟩) rfl)) rfl ?_
    refine QJ.step (YldS.yld (y_assign rfl)) rfl ?_
    refine QJ.done ?_
    refine PJ.next ?_
    refine WJ.ret ?_
    obtain rfl := Option.some.inj hm
    refine PJ.sel (L' := [box g2 185 [v3, .int .i64 x9, .int .u64 x10]]) [0] ⟨by decide, rfl⟩ ?_
    exact PJ.retn (vs := [str l11]) Try.results98 ⟨rfl, trivial⟩ ⟨rfl, rfl⟩

set_option maxRecDepth 100000 in
set_option maxHeartbeats 1000000 in
theorem ok_s_l12Two {N : Nat} {code1 : List UInt8} {r : (List Over) × Str × Str} (hm : s_l12Two N code1 = some r) (w : World) (v2 : Value) (hr3 : RdS w (cx w).Fz v2 fByte.rp code1) :
    Calls Try.prog 88 #[v2] w (RetG (cx w) fun u L => ∃ (u1 : Value), (u = tup [u1, str r.2.1, str r.2.2] ∧ L = [row u1 39 fOver r.1])) := by
  unfold s_l12Two at hm
  refine Calls.enter [v2] Try.func88 rfl Try.ntmps88 rfl ?_
  refine WJ.seq ?_
  refine WJ.quiet ?_
  refine QJ.step (YldS.yld (y_assign rfl)) rfl ?_
  refine QJ.step (YldS.yld (y_assign rfl)) rfl ?_
  refine QJ.step (YldS.yld (y_assign rfl)) rfl ?_
  refine QJ.done ?_
  refine PJ.next ?_
  refine WJ.seq ?_
  refine WJ.reg ?_
  refine SJ.q (YldS.yld (y_move rfl)) rfl ?_
  obtain ⟨r4, h5, hm⟩ := bindS hm
  refine SJ.call Try.call95 rfl (fun w hw => ok_s_l00From h5 w _ (hr3.st hw)) rfl ?_
  rintro _ _ ⟨g6, rfl, rfl⟩
  refine SJ.q (YldS.yld (y_assign rfl)) rfl ?_
  refine SJ.nil ?_
  refine PJ.next ?_
  refine WJ.seq ?_
  refine WJ.reg ?_
  refine SJ.q (YldS.yld (y_move rfl)) rfl ?_
  obtain ⟨r7, h8, hm⟩ := bindS hm
  refine SJ.call1 (k := 0) rfl Try.call176 rfl (fun w S hw hA hO => ok_s_l12Bent h8 w S _ (hr3.st1 hw hO) hA) rfl ?_
  rintro v9 _ ⟨_, rfl, rfl⟩
  refine SJ.q (YldS.yld (y_assign rfl)) rfl ?_
  refine SJ.nil ?_
  refine PJ.next ?_
  refine WJ.seq ?_
  refine WJ.reg ?_
  refine SJ.q (YldS.yld (y_move rfl)) rfl ?_
  obtain ⟨r10, h11, hm⟩ := bindS hm
  refine SJ.call1 (k := 0) rfl Try.call97 rfl (fun w S hw hA hO => ok_s_l00Src_pick h11 w S _ (hr3.st1 hw hO) hA) rfl ?_
  rintro _ _ ⟨rfl, rfl⟩
  refine SJ.q (YldS.yld (y_assign rfl)) rfl ?_
  refine SJ.nil ?_
  refine PJ.next ?_
  obtain ⟨k15, hk16, hm⟩ := withK_open hm
  refine WJ.join (X := Int × Int × Int) (fun (x : Int × Int × Int) => k15 x.1 x.2.1 x.2.2 = some r) (fun (x : Int × Int × Int) => [(5, pt g6 0), (6, v9), (7, .int .i64 x.2.2)]) (fun (x : Int × Int × Int) => [box g6 185 [v2, .int .i64 x.1, .int .u64 x.2.1], row v9 39 fOver r7.1]) ?_ ?_
  · clear hk16
    refine WJ.seq ?_
    refine WJ.reg ?_
    refine SJ.q (YldS.yld (y_move rfl)) rfl ?_
    obtain ⟨r17, h18, hm⟩ := bindS hm
    refine SJ.call1 (k := 0) rfl Try.call121 rfl (fun w S hw hA hO => ok_s_l00Src_one h18 w S _ (hr3.st1 hw hO) hA) rfl ?_
    rintro _ _ ⟨rfl, rfl⟩
    refine SJ.nil ?_
    refine PJ.next ?_
    refine WJ.cond (t := r17.1) rfl (fun hb19 => ?_) (fun hb19 => ?_)
    · replace hm := ifT hm hb19
      refine WJ.reg ?_
      refine SJ.q (YldS.yld (y_move rfl)) rfl ?_
      obtain ⟨r20, h21, hm⟩ := bindS hm
      refine SJ.call1 (k := 0) rfl Try.call97 rfl (fun w S hw hA hO => ok_s_l00Src_pick h21 w S _ (hr3.st1 hw hO) hA) rfl ?_
      rintro _ _ ⟨rfl, rfl⟩
      refine SJ.q (YldS.yld (y_bin rfl rfl rfl)) rfl ?_
      refine SJ.q (YldS.yld (y_assign rfl)) rfl ?_
      refine SJ.nil ?_
      exact PJ.joined (r20.2.at_, r20.2.seed, w64 (60 + r20.1)) [0, 1] hm ⟨rfl, rfl, rfl, trivial⟩ ⟨by decide, rfl⟩
    · replace hm := ifF hm hb19
      refine WJ.skip ?_
      exact PJ.joined (r17.2.at_, r17.2.seed, r10.1) [0, 1] hm ⟨rfl, rfl, rfl, trivial⟩ ⟨by decide, rfl⟩
  · rintro ⟨x12, x13, n14⟩ hm
    subst hk16
    refine WJ.seq ?_
    refine WJ.reg ?_
    refine SJ.q (YldS.yld (y_move rfl)) rfl ?_
    refine SJ.q (YldS.yld (y_move rfl)) rfl ?_
    obtain ⟨r22, h23, hm⟩ := bindS hm
    refine SJ.call1 (k := 0) rfl Try.call177 rfl (fun w S hw hA hO => ok_s_l12DrawLine h23 w S _ (hr3.st1 hw hO) hA) rfl ?_
    rintro _ _ ⟨rfl, rfl⟩
    refine SJ.q (YldS.yld (y_assign rfl)) rfl ?_
    refine SJ.nil ?_
    refine PJ.next ?_
    refine WJ.seq ?_
    refine WJ.reg ?_
    refine SJ.q (YldS.yld (y_move rfl)) rfl ?_
    refine SJ.q (YldS.yld (y_move rfl)) rfl ?_
    obtain ⟨r24, h25, hm⟩ := bindS hm
    refine SJ.call1 (k := 0) rfl Try.call98 rfl (fun w S hw hA hO => ok_s_l12Near h25 w S _ (hr3.st1 hw hO) hA) rfl ?_
    rintro _ _ ⟨rfl, rfl⟩
    refine SJ.q (YldS.yld (y_assign rfl)) rfl ?_
    refine SJ.nil ?_
    refine PJ.next ?_
    obtain ⟨k28, hk29, hm⟩ := withK_open hm
    refine WJ.join (X := Str × Str) (fun (x : Str × Str) => k28 x.1 x.2 = some r) (fun (x : Str × Str) => [(6, v9), (8, str x.1), (9, str x.2)]) (fun (x : Str × Str) => [row v9 39 fOver r7.1]) ?_ ?_
    · clear hk29
      refine WJ.seq ?_
      refine WJ.reg ?_
      refine SJ.q (YldS.yld (y_move rfl)) rfl ?_
      obtain ⟨r30, h31, hm⟩ := bindS hm
      refine SJ.call1 (k := 0) rfl Try.call97 rfl (fun w S hw hA hO => ok_s_l00Src_pick h31 w S _ (hr3.st1 hw hO) hA) rfl ?_
      rintro _ _ ⟨rfl, rfl⟩
      refine SJ.nil ?_
      refine PJ.next ?_
      refine WJ.block ?_
      refine WJ.seq ?_
      refine WJ.quiet ?_
      refine QJ.step (YldS.yld (y_bin rfl rfl rfl)) rfl ?_
      refine QJ.step (YldS.yld (y_assign rfl)) rfl ?_
      refine QJ.done ?_
      refine PJ.next ?_
      refine WJ.cond (t := (r30.1 == 0)) rfl (fun hb32 => ?_) (fun hb32 => ?_)
      · replace hm := ifT hm hb32
        refine WJ.quiet ?_
        refine QJ.step (YldS.yld (y_move rfl)) rfl ?_
        obtain ⟨s33, h34, hm⟩ := bindS hm
        refine QJ.step (YldS.yld (y_cat h34 rfl rfl)) rfl ?_
        refine QJ.step (YldS.yld (y_assign rfl)) rfl ?_
        refine QJ.done ?_
        refine PJ.block_normal ?_
        exact PJ.joined (r22.1, s33) [1] hm ⟨rfl, rfl, rfl, trivial⟩ ⟨by decide, rfl⟩
      · replace hm := ifF hm hb32
        refine WJ.seq ?_
        refine WJ.quiet ?_
        refine QJ.step (YldS.yld (y_bin rfl rfl rfl)) rfl ?_
        refine QJ.step (YldS.yld (y_assign rfl)) rfl ?_
        refine QJ.done ?_
        refine PJ.next ?_
        refine WJ.cond (t := (r30.1 == 1)) rfl (fun hb35 => ?_) (fun hb35 => ?_)
        · replace hm := ifT hm hb35
          refine WJ.seq ?_
          refine WJ.quiet ?_
          refine QJ.step (YldS.yld (y_move rfl)) rfl ?_
          obtain ⟨s36, h37, hm⟩ := bindS hm
          refine QJ.step (YldS.yld (y_cat h37 rfl rfl)) rfl ?_
          refine QJ.step (YldS.yld (y_assign rfl)) rfl ?_
          refine QJ.done ?_
          refine PJ.next ?_
          refine WJ.quiet ?_
          refine QJ.step (YldS.yld (y_move rfl)) rfl ?_
          obtain ⟨s38, h39, hm⟩ := bindS hm
          refine QJ.step (YldS.yld (y_cat h39 rfl rfl)) rfl ?_
          refine QJ.step (YldS.yld (y_assign rfl)) rfl ?_
          refine QJ.done ?_
          refine PJ.block_normal ?_
          exact PJ.joined (s36, s38) [1] hm ⟨rfl, rfl, rfl, trivial⟩ ⟨by decide, rfl⟩
        · replace hm := ifF hm hb35
          refine WJ.skip ?_
          refine PJ.block_normal ?_
          exact PJ.joined (r22.1, r24.1) [1] hm ⟨rfl, rfl, rfl, trivial⟩ ⟨by decide, rfl⟩
    · rintro ⟨typed26, want27⟩ hm
      subst hk29
      refine WJ.seq ?_
      refine WJ.quiet ?_
      refine QJ.step (YldS.yld (y_move rfl)) rfl ?_
      refine QJ.step (YldS.yld (y_move rfl)) rfl ?_
      refine QJ.step (YldS.yld (y_move rfl)) rfl ?_
      refine QJ.step (YldS.yld (y_assign rfl)) rfl ?_
      refine QJ.step (YldS.yld (y_assign rfl)) rfl ?_
      refine QJ.step (YldS.yld (y_assign rfl)) rfl ?_
      refine QJ.done ?_
      refine PJ.next ?_
      refine WJ.ret ?_
      obtain rfl := Option.some.inj hm
      refine PJ.sel (L' := [row v9 39 fOver r7.1]) [0] ⟨by decide, rfl⟩ ?_
      exact PJ.retn (vs := [v9, str typed26, str want27]) Try.results88 ⟨rfl, rfl, rfl, trivial⟩ ⟨_, rfl, rfl⟩

set_option maxRecDepth 100000 in
set_option maxHeartbeats 1000000 in
theorem ok_s_DrawCorrectionPlan {N : Nat} {code1 : List UInt8} {r : (List Over) × Str × Str} (hm : s_DrawCorrectionPlan N code1 = some r) (w : World) (v2 : Value) (hr3 : RdS w (cx w).Fz v2 fByte.rp code1) :
    Calls Try.prog 11 #[v2] w (RetG (cx w) fun u L => ∃ (u1 : Value), (u = tup [u1, str r.2.1, str r.2.2] ∧ L = [row u1 39 fOver r.1])) := by
  unfold s_DrawCorrectionPlan at hm
  refine Calls.enter [v2] Try.func11 rfl Try.ntmps11 rfl ?_
  refine WJ.seq ?_
  refine WJ.quiet ?_
  refine QJ.step (YldS.yld (y_assign rfl)) rfl ?_
  refine QJ.step (YldS.yld (y_assign rfl)) rfl ?_
  refine QJ.step (YldS.yld (y_assign rfl)) rfl ?_
  refine QJ.done ?_
  refine PJ.next ?_
  refine WJ.seq ?_
  refine WJ.reg ?_
  refine SJ.q (YldS.yld (y_move rfl)) rfl ?_
  obtain ⟨r4, h5, hm⟩ := bindS hm
  refine SJ.call Try.call88 rfl (fun w hw => ok_s_l12Two h5 w _ (hr3.st hw)) rfl ?_
  rintro _ _ ⟨v6, rfl, rfl⟩
  refine SJ.q (YldS.yld (y_extract rfl rfl)) rfl ?_
  refine SJ.q (YldS.yld (y_extract rfl rfl)) rfl ?_
  refine SJ.q (YldS.yld (y_extract rfl rfl)) rfl ?_
  refine SJ.q (YldS.yld (y_assign rfl)) rfl ?_
  refine SJ.q (YldS.yld (y_assign rfl)) rfl ?_
  refine SJ.q (YldS.yld (y_assign rfl)) rfl ?_
  refine SJ.nil ?_
  refine PJ.next ?_
  refine WJ.ret ?_
  obtain rfl := Option.some.inj hm
  refine PJ.sel (L' := [row v6 39 fOver r4.1]) [0] ⟨by decide, rfl⟩ ?_
  exact PJ.retn (vs := [v6, str r4.2.1, str r4.2.2]) Try.results11 ⟨rfl, rfl, rfl, trivial⟩ ⟨_, rfl, rfl⟩

set_option maxRecDepth 100000 in
set_option maxHeartbeats 1000000 in
theorem ok_i_isText {N : Nat} {s1 : Str} {low2 : UInt8} {most3 : Int} {r : Bool} (hm : i_isText N s1 low2 most3 = some r) (w : World)  :
    Calls Try.prog 118 #[str s1, .int .u8 (UInt8.toNat low2 : Int), .int .i64 most3] w (Ret (cx w) (.bool r)) := by
  unfold i_isText at hm
  refine Calls.enter [str s1, .int .u8 (UInt8.toNat low2 : Int), .int .i64 most3] Try.func118 rfl Try.ntmps118 rfl ?_
  refine WJ.seq ?_
  refine WJ.quiet ?_
  refine QJ.step (YldS.yld (y_assign rfl)) rfl ?_
  refine QJ.done ?_
  refine PJ.next ?_
  refine WJ.seq ?_
  refine WJ.seq ?_
  refine WJ.quiet ?_
  refine QJ.step (YldS.yld (y_move rfl)) rfl ?_
  refine QJ.step (YldS.yld (y_lenStr Try.runUnderlying9 rfl)) rfl ?_
  refine QJ.step (YldS.yld (y_move rfl)) rfl ?_
  refine QJ.step (YldS.yld (y_bin rfl rfl rfl)) rfl ?_
  refine QJ.done ?_
  refine PJ.next ?_
  refine WJ.cond (t := decide ((List.length s1 : Int) > most3)) rfl (fun hb4 => ?_) (fun hb4 => ?_)
  · replace hm := ifT hm hb4
    refine WJ.seq ?_
    refine WJ.quiet ?_
    refine QJ.step (YldS.yld (y_assign rfl)) rfl ?_
    refine QJ.done ?_
    refine PJ.next ?_
    refine WJ.ret ?_
    refine PJ.then_ret ?_
    obtain rfl := Option.some.inj hm
    refine PJ.sel (L' := []) [] ⟨List.nodup_nil, rfl⟩ ?_
    exact PJ.retn (vs := [.bool false]) Try.results118 ⟨rfl, trivial⟩ ⟨rfl, rfl⟩
  · replace hm := ifF hm hb4
    refine WJ.skip ?_
    refine PJ.next ?_
    obtain ⟨k5, hk6, hm⟩ := withK_open hm
    refine WJ.join (X := Unit) (fun (_ : Unit) => k5  = some r) (fun (_ : Unit) => []) (fun (_ : Unit) => []) ?_ ?_
    · clear hk6
      refine WJ.seq ?_
      refine WJ.quiet ?_
      refine QJ.step (YldS.yld (y_move rfl)) rfl ?_
      refine QJ.step (YldS.yld (y_lenStr Try.runUnderlying9 rfl)) rfl ?_
      refine QJ.step (YldS.yld (y_move rfl)) rfl ?_
      refine QJ.done ?_
      refine PJ.next ?_
      refine WJ.block ?_
      refine WJ.sel (L' := (fun (x : Int) => []) 0) [] ⟨List.nodup_nil, rfl⟩ ?_
      refine WJ.sub (m' := (fun (x : Int) => [(0, str s1), (1, .int .u8 (UInt8.toNat low2 : Int)), (13, .int .i64 (List.length s1 : Int)), (14, .int .i64 x)]) 0) ⟨rfl, rfl, rfl, rfl, trivial⟩ ?_
      refine WJ.loop (X := Int) (fun N (x : Int) => i_isText_l1 k5 s1 low2 N x = some r) (fun (x : Int) => [(0, str s1), (1, .int .u8 (UInt8.toNat low2 : Int)), (13, .int .i64 (List.length s1 : Int)), (14, .int .i64 x)]) (fun (x : Int) => []) ?_ N 0 hm
      · rintro N x7 hI
        have hm := hI; clear hI
        cases N with
        | zero => cases hm
        | succ N =>
        unfold i_isText_l1 at hm
        refine WJ.seq ?_
        refine WJ.quiet ?_
        refine QJ.step (YldS.yld (y_bin rfl rfl rfl)) rfl ?_
        refine QJ.done ?_
        refine PJ.next ?_
        refine WJ.seq ?_
        refine WJ.cond (t := decide (x7 < (List.length s1 : Int))) rfl (fun hb8 => ?_) (fun hb8 => ?_)
        · replace hm := ifT hm hb8
          refine WJ.skip ?_
          refine PJ.next ?_
          refine WJ.seq ?_
          refine WJ.block ?_
          refine WJ.seq ?_
          refine WJ.quiet ?_
          refine QJ.step (YldS.yld (y_move rfl)) rfl ?_
          refine QJ.step (YldS.yld (y_assign rfl)) rfl ?_
          refine QJ.done ?_
          refine PJ.next ?_
          refine WJ.seq ?_
          refine WJ.quiet ?_
          refine QJ.step (YldS.yld (y_move rfl)) rfl ?_
          refine QJ.step (YldS.yld (y_move rfl)) rfl ?_
          obtain ⟨c9, h10, hm⟩ := bindS hm
          refine QJ.step (YldS.yld (y_idxStr Try.runUnderlying9 rfl rfl h10)) rfl ?_
          refine QJ.step (YldS.yld (y_move rfl)) rfl ?_
          refine QJ.step (YldS.yld (y_bin8 c9 low2 rfl rfl rfl)) rfl ?_
          refine QJ.step (YldS.yld (y_move rfl)) rfl ?_
          obtain ⟨t11, h12, hm⟩ := bindS hm
          refine QJ.cut 5 [(0, str s1), (1, .int .u8 (UInt8.toNat low2 : Int)), (13, .int .i64 (List.length s1 : Int)), (14, .int .i64 x7), (27, .bool t11)] ?_ ?_
          · rcases Bool.eq_false_or_eq_true (decide (c9 < low2)) with hb13 | hb13
            · obtain rfl := orT h12 hb13
              refine QJ.off rfl rfl (cB hb13) rfl rfl ?_
              refine QJ.off rfl rfl (cB hb13) rfl rfl ?_
              refine QJ.off rfl rfl (cB hb13) rfl rfl ?_
              refine QJ.off rfl rfl (cB hb13) rfl rfl ?_
              refine QJ.step (YldS.yld (y_pick_t (cB hb13) rfl)) rfl ?_
              exact QJ.cut_end ⟨rfl, rfl, rfl, rfl, rfl, trivial⟩
            · replace h12 := orF h12 hb13
              refine QJ.on rfl rfl (cB hb13) (YldS.yld (y_move rfl)) rfl ?_
              refine QJ.on rfl rfl (cB hb13) (YldS.yld (y_move rfl)) rfl ?_
              obtain ⟨c14, h15, h12⟩ := bindS h12
              refine QJ.on rfl rfl (cB hb13) (YldS.yld (y_idxStr Try.runUnderlying9 rfl rfl h15)) rfl ?_
              refine QJ.on rfl rfl (cB hb13) (YldS.yld (y_bin8 c14 (126 : UInt8) rfl rfl rfl)) rfl ?_
              refine QJ.step (YldS.yld (y_pick_f (cB hb13) rfl)) rfl ?_
              obtain rfl := Option.some.inj h12
              exact QJ.cut_end ⟨rfl, rfl, rfl, rfl, rfl, trivial⟩
          refine QJ.done ?_
          refine PJ.next ?_
          refine WJ.cond (t := t11) rfl (fun hb16 => ?_) (fun hb16 => ?_)
          · replace hm := ifT hm hb16
            refine WJ.seq ?_
            refine WJ.quiet ?_
            refine QJ.step (YldS.yld (y_assign rfl)) rfl ?_
            refine QJ.done ?_
            refine PJ.next ?_
            refine WJ.ret ?_
            refine PJ.block_ret (PJ.then_ret (PJ.then_ret (PJ.block_ret (PJ.then_ret ?_))))
            obtain rfl := Option.some.inj hm
            refine PJ.sel (L' := []) [] ⟨List.nodup_nil, rfl⟩ ?_
            exact PJ.retn (vs := [.bool false]) Try.results118 ⟨rfl, trivial⟩ ⟨rfl, rfl⟩
          · replace hm := ifF hm hb16
            refine WJ.skip ?_
            refine PJ.block_normal (PJ.next ?_)
            refine WJ.quiet ?_
            refine QJ.step (YldS.yld (y_bin rfl rfl rfl)) rfl ?_
            refine QJ.step (YldS.yld (y_move rfl)) rfl ?_
            refine QJ.done ?_
            exact PJ.round (w64 (x7 + 1)) [] hm ⟨rfl, rfl, rfl, rfl, trivial⟩ ⟨List.nodup_nil, rfl⟩
        · replace hm := ifF hm hb8
          refine WJ.exit ?_
          refine PJ.then_exit (PJ.then_exit (PJ.block_exit ?_))
          exact PJ.joined () [] hm trivial ⟨List.nodup_nil, rfl⟩
    · rintro _ hm
      subst hk6
      refine WJ.seq ?_
      refine WJ.quiet ?_
      refine QJ.step (YldS.yld (y_assign rfl)) rfl ?_
      refine QJ.done ?_
      refine PJ.next ?_
      refine WJ.ret ?_
      obtain rfl := Option.some.inj hm
      refine PJ.sel (L' := []) [] ⟨List.nodup_nil, rfl⟩ ?_
      exact PJ.retn (vs := [.bool true]) Try.results118 ⟨rfl, trivial⟩ ⟨rfl, rfl⟩

set_option maxRecDepth 100000 in
set_option maxHeartbeats 1000000 in
theorem ok_i_isLetter {N : Nat} {s1 : Str} {r : Bool} (hm : i_isLetter N s1 = some r) (w : World)  :
    Calls Try.prog 114 #[str s1] w (Ret (cx w) (.bool r)) := by
  unfold i_isLetter at hm
  refine Calls.enter [str s1] Try.func114 rfl Try.ntmps114 rfl ?_
  refine WJ.seq ?_
  refine WJ.quiet ?_
  refine QJ.step (YldS.yld (y_assign rfl)) rfl ?_
  refine QJ.done ?_
  refine PJ.next ?_
  refine WJ.seq ?_
  refine WJ.quiet ?_
  refine QJ.step (YldS.yld (y_move rfl)) rfl ?_
  refine QJ.step (YldS.yld (y_lenStr Try.runUnderlying9 rfl)) rfl ?_
  refine QJ.step (YldS.yld (y_bin rfl rfl rfl)) rfl ?_
  refine QJ.step (YldS.yld (y_move rfl)) rfl ?_
  obtain ⟨t2, h3, hm⟩ := bindS hm
  refine QJ.cut 3 [(9, .bool t2)] ?_ ?_
  · rcases Bool.eq_false_or_eq_true ((List.length s1 : Int) == 1) with hb4 | hb4
    · replace h3 := andT h3 hb4
      refine QJ.on rfl rfl (cB hb4) (YldS.yld (y_move rfl)) rfl ?_
      obtain ⟨r5, h6, h3⟩ := bindS h3
      refine QJ.on rfl rfl (cB hb4) (y_call Try.call118 rfl (RetG.quiet fun w hw => ok_i_isText h6 w )) rfl ?_
      refine QJ.step (YldS.yld (y_pick_t (cB hb4) rfl)) rfl ?_
      obtain rfl := Option.some.inj h3
      exact QJ.cut_end ⟨rfl, trivial⟩
    · obtain rfl := andF h3 hb4
      refine QJ.off rfl rfl (cB hb4) rfl rfl ?_
      refine QJ.off rfl rfl (cB hb4) rfl rfl ?_
      refine QJ.step (YldS.yld (y_pick_f (cB hb4) rfl)) rfl ?_
      exact QJ.cut_end ⟨rfl, trivial⟩
  refine QJ.step (YldS.yld (y_assign rfl)) rfl ?_
  refine QJ.done ?_
  refine PJ.next ?_
  refine WJ.ret ?_
  obtain rfl := Option.some.inj hm
  refine PJ.sel (L' := []) [] ⟨List.nodup_nil, rfl⟩ ?_
  exact PJ.retn (vs := [.bool t2]) Try.results114 ⟨rfl, trivial⟩ ⟨rfl, rfl⟩

set_option maxRecDepth 100000 in
set_option maxHeartbeats 1000000 in
theorem ok_i_validOver {N : Nat} {x1 : Over} {r : Bool} (hm : i_validOver N x1 = some r) (w : World)  :
    Calls Try.prog 103 #[.agg (Over.enc x1).toArray] w (Ret (cx w) (.bool r)) := by
  unfold i_validOver at hm
  refine Calls.enter [.agg (Over.enc x1).toArray] Try.func103 rfl Try.ntmps103 rfl ?_
  refine WJ.seq ?_
  refine WJ.reg ?_
  refine SJ.box (cs := [str x1.under, str x1.top, str x1.seen]) rfl rfl rfl fun g2 => ?_
  refine SJ.q (YldS.yld (y_assign rfl)) rfl ?_
  refine SJ.nil ?_
  refine PJ.next ?_
  refine WJ.seq ?_
  refine WJ.quiet ?_
  refine QJ.step (YldS.yld (y_fldB (o := 0) fld39_0 rfl)) rfl ?_
  refine QJ.step (YldS.yld (y_loadB (k := 0) (off := 0) (v := str x1.under) rfl Try.isAgg9 rfl rfl)) rfl ?_
  obtain ⟨r3, h4, hm⟩ := bindS hm
  refine QJ.step (y_call Try.call114 rfl (RetG.quiet fun w hw => ok_i_isLetter h4 w )) rfl ?_
  refine QJ.step (YldS.yld (y_move rfl)) rfl ?_
  obtain ⟨t5, h6, hm⟩ := bindS hm
  refine QJ.cut 4 [(1, pt g2 0), (10, .bool t5)] ?_ ?_
  · rcases Bool.eq_false_or_eq_true r3 with hb7 | hb7
    · replace h6 := andT h6 hb7
      refine QJ.on rfl rfl (cB hb7) (YldS.yld (y_fldB (o := 0) fld39_1 rfl)) rfl ?_
      refine QJ.on rfl rfl (cB hb7) (YldS.yld (y_loadB (k := 0) (off := 1) (v := str x1.top) rfl Try.isAgg9 rfl rfl)) rfl ?_
      obtain ⟨r8, h9, h6⟩ := bindS h6
      refine QJ.on rfl rfl (cB hb7) (y_call Try.call114 rfl (RetG.quiet fun w hw => ok_i_isLetter h9 w )) rfl ?_
      refine QJ.step (YldS.yld (y_pick_t (cB hb7) rfl)) rfl ?_
      obtain rfl := Option.some.inj h6
      exact QJ.cut_end ⟨rfl, rfl, trivial⟩
    · obtain rfl := andF h6 hb7
      refine QJ.off rfl rfl (cB hb7) rfl rfl ?_
      refine QJ.off rfl rfl (cB hb7) rfl rfl ?_
      refine QJ.off rfl rfl (cB hb7) rfl rfl ?_
      refine QJ.step (YldS.yld (y_pick_f (cB hb7) rfl)) rfl ?_
      exact QJ.cut_end ⟨rfl, rfl, trivial⟩
  refine QJ.step (YldS.yld (y_move rfl)) rfl ?_
  obtain ⟨t10, h11, hm⟩ := bindS hm
  refine QJ.cut 4 [(1, pt g2 0), (15, .bool t10)] ?_ ?_
  · rcases Bool.eq_false_or_eq_true t5 with hb12 | hb12
    · replace h11 := andT h11 hb12
      refine QJ.on rfl rfl (cB hb12) (YldS.yld (y_fldB (o := 0) fld39_2 rfl)) rfl ?_
      refine QJ.on rfl rfl (cB hb12) (YldS.yld (y_loadB (k := 0) (off := 2) (v := str x1.seen) rfl Try.isAgg9 rfl rfl)) rfl ?_
      obtain ⟨r13, h14, h11⟩ := bindS h11
      refine QJ.on rfl rfl (cB hb12) (y_call Try.call114 rfl (RetG.quiet fun w hw => ok_i_isLetter h14 w )) rfl ?_
      refine QJ.step (YldS.yld (y_pick_t (cB hb12) rfl)) rfl ?_
      obtain rfl := Option.some.inj h11
      exact QJ.cut_end ⟨rfl, rfl, trivial⟩
    · obtain rfl := andF h11 hb12
      refine QJ.off rfl rfl (cB hb12) rfl rfl ?_
      refine QJ.off rfl rfl (cB hb12) rfl rfl ?_
      refine QJ.off rfl rfl (cB hb12) rfl rfl ?_
      refine QJ.step (YldS.yld (y_pick_f (cB hb12) rfl)) rfl ?_
      exact QJ.cut_end ⟨rfl, rfl, trivial⟩
  refine QJ.step (YldS.yld (y_move rfl)) rfl ?_
  obtain ⟨t15, h16, hm⟩ := bindS hm
  refine QJ.cut 6 [(1, pt g2 0), (22, .bool t15)] ?_ ?_
  · rcases Bool.eq_false_or_eq_true t10 with hb17 | hb17
    · replace h16 := andT h16 hb17
      refine QJ.on rfl rfl (cB hb17) (YldS.yld (y_fldB (o := 0) fld39_0 rfl)) rfl ?_
      refine QJ.on rfl rfl (cB hb17) (YldS.yld (y_loadB (k := 0) (off := 0) (v := str x1.under) rfl Try.isAgg9 rfl rfl)) rfl ?_
      refine QJ.on rfl rfl (cB hb17) (YldS.yld (y_fldB (o := 0) fld39_1 rfl)) rfl ?_
      refine QJ.on rfl rfl (cB hb17) (YldS.yld (y_loadB (k := 0) (off := 1) (v := str x1.top) rfl Try.isAgg9 rfl rfl)) rfl ?_
      refine QJ.on rfl rfl (cB hb17) (YldS.yld (y_binS rfl rfl rfl)) rfl ?_
      refine QJ.step (YldS.yld (y_pick_t (cB hb17) rfl)) rfl ?_
      obtain rfl := Option.some.inj h16
      exact QJ.cut_end ⟨rfl, rfl, trivial⟩
    · obtain rfl := andF h16 hb17
      refine QJ.off rfl rfl (cB hb17) rfl rfl ?_
      refine QJ.off rfl rfl (cB hb17) rfl rfl ?_
      refine QJ.off rfl rfl (cB hb17) rfl rfl ?_
      refine QJ.off rfl rfl (cB hb17) rfl rfl ?_
      refine QJ.off rfl rfl (cB hb17) rfl rfl ?_
      refine QJ.step (YldS.yld (y_pick_f (cB hb17) rfl)) rfl ?_
      exact QJ.cut_end ⟨rfl, rfl, trivial⟩
  refine QJ.step (YldS.yld (y_move rfl)) rfl ?_
  obtain ⟨t18, h19, hm⟩ := bindS hm
  refine QJ.cut 6 [(1, pt g2 0), (29, .bool t18)] ?_ ?_
  · rcases Bool.eq_false_or_eq_true t15 with hb20 | hb20
    · replace h19 := andT h19 hb20
      refine QJ.on rfl rfl (cB hb20) (YldS.yld (y_fldB (o := 0) fld39_0 rfl)) rfl ?_
      refine QJ.on rfl rfl (cB hb20) (YldS.yld (y_loadB (k := 0) (off := 0) (v := str x1.under) rfl Try.isAgg9 rfl rfl)) rfl ?_
      refine QJ.on rfl rfl (cB hb20) (YldS.yld (y_fldB (o := 0) fld39_2 rfl)) rfl ?_
      refine QJ.on rfl rfl (cB hb20) (YldS.yld (y_loadB (k := 0) (off := 2) (v := str x1.seen) rfl Try.isAgg9 rfl rfl)) rfl ?_
      refine QJ.on rfl rfl (cB hb20) (YldS.yld (y_binS rfl rfl rfl)) rfl ?_
      refine QJ.step (YldS.yld (y_pick_t (cB hb20) rfl)) rfl ?_
      obtain rfl := Option.some.inj h19
      exact QJ.cut_end ⟨rfl, rfl, trivial⟩
    · obtain rfl := andF h19 hb20
      refine QJ.off rfl rfl (cB hb20) rfl rfl ?_
      refine QJ.off rfl rfl (cB hb20) rfl rfl ?_
      refine QJ.off rfl rfl (cB hb20) rfl rfl ?_
      refine QJ.off rfl rfl (cB hb20) rfl rfl ?_
      refine QJ.off rfl rfl (cB hb20) rfl rfl ?_
      refine QJ.step (YldS.yld (y_pick_f (cB hb20) rfl)) rfl ?_
      exact QJ.cut_end ⟨rfl, rfl, trivial⟩
  refine QJ.step (YldS.yld (y_move rfl)) rfl ?_
  obtain ⟨t21, h22, hm⟩ := bindS hm
  refine QJ.cut 6 [(36, .bool t21)] ?_ ?_
  · rcases Bool.eq_false_or_eq_true t18 with hb23 | hb23
    · replace h22 := andT h22 hb23
      refine QJ.on rfl rfl (cB hb23) (YldS.yld (y_fldB (o := 0) fld39_1 rfl)) rfl ?_
      refine QJ.on rfl rfl (cB hb23) (YldS.yld (y_loadB (k := 0) (off := 1) (v := str x1.top) rfl Try.isAgg9 rfl rfl)) rfl ?_
      refine QJ.on rfl rfl (cB hb23) (YldS.yld (y_fldB (o := 0) fld39_2 rfl)) rfl ?_
      refine QJ.on rfl rfl (cB hb23) (YldS.yld (y_loadB (k := 0) (off := 2) (v := str x1.seen) rfl Try.isAgg9 rfl rfl)) rfl ?_
      refine QJ.on rfl rfl (cB hb23) (YldS.yld (y_binS rfl rfl rfl)) rfl ?_
      refine QJ.step (YldS.yld (y_pick_t (cB hb23) rfl)) rfl ?_
      obtain rfl := Option.some.inj h22
      exact QJ.cut_end ⟨rfl, trivial⟩
    · obtain rfl := andF h22 hb23
      refine QJ.off rfl rfl (cB hb23) rfl rfl ?_
      refine QJ.off rfl rfl (cB hb23) rfl rfl ?_
      refine QJ.off rfl rfl (cB hb23) rfl rfl ?_
      refine QJ.off rfl rfl (cB hb23) rfl rfl ?_
      refine QJ.off rfl rfl (cB hb23) rfl rfl ?_
      refine QJ.step (YldS.yld (y_pick_f (cB hb23) rfl)) rfl ?_
      exact QJ.cut_end ⟨rfl, trivial⟩
  refine QJ.step (YldS.yld (y_assign rfl)) rfl ?_
  refine QJ.done ?_
  refine PJ.next ?_
  refine WJ.ret ?_
  obtain rfl := Option.some.inj hm
  refine PJ.sel (L' := []) [] ⟨List.nodup_nil, rfl⟩ ?_
  exact PJ.retn (vs := [.bool t21]) Try.results103 ⟨rfl, trivial⟩ ⟨rfl, rfl⟩

set_option maxRecDepth 100000 in
set_option maxHeartbeats 1000000 in
theorem ok_i_ValidOvers {N : Nat} {rules1 : List Over} {r : Bool} (hm : i_ValidOvers N rules1 = some r) (w : World) (v2 : Value) (hr3 : RdS w (cx w).Fz v2 fOver.rp rules1) :
    Calls Try.prog 22 #[v2] w (Ret (cx w) (.bool r)) := by
  unfold i_ValidOvers at hm
  refine Calls.enter [v2] Try.func22 rfl Try.ntmps22 rfl ?_
  refine WJ.seq ?_
  refine WJ.quiet ?_
  refine QJ.step (YldS.yld (y_assign rfl)) rfl ?_
  refine QJ.done ?_
  refine PJ.next ?_
  refine WJ.seq ?_
  refine WJ.seq ?_
  refine WJ.quiet ?_
  refine QJ.step (YldS.yld (y_move rfl)) rfl ?_
  refine QJ.step (YldS.yld (y_lenS Try.runUnderlying24 hr3 rfl)) rfl ?_
  refine QJ.step (YldS.yld (y_bin rfl rfl rfl)) rfl ?_
  refine QJ.done ?_
  refine PJ.next ?_
  refine WJ.cond (t := decide ((List.length rules1 : Int) > 20)) rfl (fun hb4 => ?_) (fun hb4 => ?_)
  · replace hm := ifT hm hb4
    refine WJ.seq ?_
    refine WJ.quiet ?_
    refine QJ.step (YldS.yld (y_assign rfl)) rfl ?_
    refine QJ.done ?_
    refine PJ.next ?_
    refine WJ.ret ?_
    refine PJ.then_ret ?_
    obtain rfl := Option.some.inj hm
    refine PJ.sel (L' := []) [] ⟨List.nodup_nil, rfl⟩ ?_
    exact PJ.retn (vs := [.bool false]) Try.results22 ⟨rfl, trivial⟩ ⟨rfl, rfl⟩
  · replace hm := ifF hm hb4
    refine WJ.skip ?_
    refine PJ.next ?_
    obtain ⟨k5, hk6, hm⟩ := withK_open hm
    refine WJ.join (X := Unit) (fun (_ : Unit) => k5  = some r) (fun (_ : Unit) => []) (fun (_ : Unit) => []) ?_ ?_
    · clear hk6
      refine WJ.seq ?_
      refine WJ.quiet ?_
      refine QJ.step (YldS.yld (y_move rfl)) rfl ?_
      refine QJ.step (YldS.yld (y_lenS Try.runUnderlying24 hr3 rfl)) rfl ?_
      refine QJ.step (YldS.yld (y_move rfl)) rfl ?_
      refine QJ.done ?_
      refine PJ.next ?_
      refine WJ.block ?_
      refine WJ.sel (L' := (fun (x : Int) => []) 0) [] ⟨List.nodup_nil, rfl⟩ ?_
      refine WJ.sub (m' := (fun (x : Int) => [(0, v2), (10, v2), (11, .int .i64 (List.length rules1 : Int)), (12, .int .i64 x)]) 0) ⟨rfl, rfl, rfl, rfl, trivial⟩ ?_
      refine WJ.loop (X := Int) (fun N (x : Int) => i_ValidOvers_l1 k5 rules1 N x = some r) (fun (x : Int) => [(0, v2), (10, v2), (11, .int .i64 (List.length rules1 : Int)), (12, .int .i64 x)]) (fun (x : Int) => []) ?_ N 0 hm
      · rintro N x7 hI
        have hm := hI; clear hI
        cases N with
        | zero => cases hm
        | succ N =>
        unfold i_ValidOvers_l1 at hm
        refine WJ.seq ?_
        refine WJ.quiet ?_
        refine QJ.step (YldS.yld (y_bin rfl rfl rfl)) rfl ?_
        refine QJ.done ?_
        refine PJ.next ?_
        refine WJ.seq ?_
        refine WJ.cond (t := decide (x7 < (List.length rules1 : Int))) rfl (fun hb8 => ?_) (fun hb8 => ?_)
        · replace hm := ifT hm hb8
          refine WJ.skip ?_
          refine PJ.next ?_
          obtain ⟨k10, hk10, hm⟩ := withK_open hm
          refine WJ.join (X := Unit) (fun (_ : Unit) => k10  = some r) (fun (_ : Unit) => [(0, v2), (10, v2), (11, .int .i64 (List.length rules1 : Int)), (12, .int .i64 x7)]) (fun (_ : Unit) => []) ?_ ?_
          · clear hk10
            refine WJ.block ?_
            refine WJ.seq ?_
            refine WJ.reg ?_
            refine SJ.q (YldS.yld (y_move rfl)) rfl ?_
            obtain ⟨e11, h12, hm⟩ := bindS hm
            obtain ⟨ad13, _, rfl, ha14, hy15⟩ := hr3.elem h12
            refine SJ.q (YldS.yld (hy15 Try.runUnderlying24 Try.sizeOf39 rfl rfl)) rfl ?_
            refine SJ.q (YldS.yld (y_loadN Try.isAgg39 Try.sizeOf39 rfl ha14 St.frozenC rfl)) rfl ?_
            refine SJ.alloc (cs := [str [], str [], str []]) Try.zeroValue39 rfl rfl fun g16 => ?_
            refine SJ.q (YldS.yld (y_assign rfl)) rfl ?_
            refine SJ.storeL (k := 0) (off := 0) (us := [str e11.under, str e11.top, str e11.seen]) rfl rfl rfl rfl Try.sizeOf39 rfl rfl ?_
            refine SJ.nil ?_
            refine PJ.next ?_
            refine WJ.seq ?_
            refine WJ.seq ?_
            refine WJ.quiet ?_
            refine QJ.step (YldS.yld (y_loadBN (k := 0) (off := 0) (us := [str e11.under, str e11.top, str e11.seen]) rfl Try.isAgg39 Try.sizeOf39 rfl rfl)) rfl ?_
            obtain ⟨r17, h18, hm⟩ := bindS hm
            refine QJ.step (y_call Try.call103 rfl (RetG.quiet fun w hw => ok_i_validOver h18 w )) rfl ?_
            refine QJ.step (YldS.yld (y_not rfl)) rfl ?_
            refine QJ.done ?_
            refine PJ.next ?_
            refine WJ.cond (t := !r17) rfl (fun hb19 => ?_) (fun hb19 => ?_)
            · replace hm := ifT hm hb19
              refine WJ.seq ?_
              refine WJ.quiet ?_
              refine QJ.step (YldS.yld (y_assign rfl)) rfl ?_
              refine QJ.done ?_
              refine PJ.next ?_
              refine WJ.ret ?_
              refine PJ.then_ret (PJ.block_ret (PJ.then_ret (PJ.then_ret (PJ.block_ret (PJ.then_ret ?_)))))
              obtain rfl := Option.some.inj hm
              refine PJ.sel (L' := []) [] ⟨List.nodup_nil, rfl⟩ ?_
              exact PJ.retn (vs := [.bool false]) Try.results22 ⟨rfl, trivial⟩ ⟨rfl, rfl⟩
            · replace hm := ifF hm hb19
              refine WJ.skip ?_
              refine PJ.next ?_
              refine WJ.seq ?_
              refine WJ.quiet ?_
              refine QJ.step (YldS.yld (y_move rfl)) rfl ?_
              refine QJ.step (YldS.yld (y_move rfl)) rfl ?_
              obtain ⟨l20, h21, hm⟩ := bindS hm
              obtain ⟨v22, hr23, hy24⟩ := RdS.part (i := none) (j := some x7) hr3 h21
              refine QJ.step (YldS.yld (hy24 Try.runUnderlying24 Try.sizeOf39 rfl trivial ⟨_, rfl⟩)) rfl ?_
              refine QJ.step (YldS.yld (y_lenS Try.runUnderlying24 hr23 rfl)) rfl ?_
              refine QJ.step (YldS.yld (y_move rfl)) rfl ?_
              refine QJ.done ?_
              refine PJ.next ?_
              refine WJ.block ?_
              refine WJ.sel (L' := (fun (x : Int) => [box g16 39 [str e11.under, str e11.top, str e11.seen]]) 0) [0] ⟨by decide, rfl⟩ ?_
              refine WJ.sub (m' := (fun (x : Int) => [(0, v2), (4, pt g16 0), (10, v2), (11, .int .i64 (List.length rules1 : Int)), (12, .int .i64 x7), (22, v22), (23, .int .i64 (List.length l20 : Int)), (24, .int .i64 x)]) 0) ⟨rfl, rfl, rfl, rfl, rfl, rfl, rfl, rfl, trivial⟩ ?_
              refine WJ.loop (X := Int) (fun N (x : Int) => i_ValidOvers_l2 k10 e11 l20 N x = some r) (fun (x : Int) => [(0, v2), (4, pt g16 0), (10, v2), (11, .int .i64 (List.length rules1 : Int)), (12, .int .i64 x7), (22, v22), (23, .int .i64 (List.length l20 : Int)), (24, .int .i64 x)]) (fun (x : Int) => [box g16 39 [str e11.under, str e11.top, str e11.seen]]) ?_ N 0 hm
              · rintro N x25 hI
                have hm := hI; clear hI
                cases N with
                | zero => cases hm
                | succ N =>
                unfold i_ValidOvers_l2 at hm
                refine WJ.seq ?_
                refine WJ.quiet ?_
                refine QJ.step (YldS.yld (y_bin rfl rfl rfl)) rfl ?_
                refine QJ.done ?_
                refine PJ.next ?_
                refine WJ.seq ?_
                refine WJ.cond (t := decide (x25 < (List.length l20 : Int))) rfl (fun hb26 => ?_) (fun hb26 => ?_)
                · replace hm := ifT hm hb26
                  refine WJ.skip ?_
                  refine PJ.next ?_
                  refine WJ.seq ?_
                  refine WJ.block ?_
                  refine WJ.seq ?_
                  refine WJ.reg ?_
                  obtain ⟨e27, h28, hm⟩ := bindS hm
                  obtain ⟨ad29, _, rfl, ha30, hy31⟩ := hr23.elem h28
                  refine SJ.q (YldS.yld (hy31 Try.runUnderlying24 Try.sizeOf39 rfl rfl)) rfl ?_
                  refine SJ.q (YldS.yld (y_loadN Try.isAgg39 Try.sizeOf39 rfl ha30 St.frozenC rfl)) rfl ?_
                  refine SJ.alloc (cs := [str [], str [], str []]) Try.zeroValue39 rfl rfl fun g32 => ?_
                  refine SJ.storeL (k := 0) (off := 0) (us := [str e27.under, str e27.top, str e27.seen]) rfl rfl rfl rfl Try.sizeOf39 rfl rfl ?_
                  refine SJ.nil ?_
                  refine PJ.next ?_
                  refine WJ.seq ?_
                  refine WJ.quiet ?_
                  refine QJ.step (YldS.yld (y_fldB (o := 0) fld39_0 rfl)) rfl ?_
                  refine QJ.step (YldS.yld (y_loadB (k := 1) (off := 0) (v := str e11.under) rfl Try.isAgg9 rfl rfl)) rfl ?_
                  refine QJ.step (YldS.yld (y_fldB (o := 0) fld39_0 rfl)) rfl ?_
                  refine QJ.step (YldS.yld (y_loadB (k := 0) (off := 0) (v := str e27.under) rfl Try.isAgg9 rfl rfl)) rfl ?_
                  refine QJ.step (YldS.yld (y_binS rfl rfl rfl)) rfl ?_
                  refine QJ.step (YldS.yld (y_move rfl)) rfl ?_
                  obtain ⟨t33, h34, hm⟩ := bindS hm
                  refine QJ.cut 6 [(0, v2), (4, pt g16 0), (10, v2), (11, .int .i64 (List.length rules1 : Int)), (12, .int .i64 x7), (22, v22), (23, .int .i64 (List.length l20 : Int)), (24, .int .i64 x25), (39, .bool t33)] ?_ ?_
                  · rcases Bool.eq_false_or_eq_true (e11.under == e27.under) with hb35 | hb35
                    · replace h34 := andT h34 hb35
                      refine QJ.on rfl rfl (cB hb35) (YldS.yld (y_fldB (o := 0) fld39_1 rfl)) rfl ?_
                      refine QJ.on rfl rfl (cB hb35) (YldS.yld (y_loadB (k := 1) (off := 1) (v := str e11.top) rfl Try.isAgg9 rfl rfl)) rfl ?_
                      refine QJ.on rfl rfl (cB hb35) (YldS.yld (y_fldB (o := 0) fld39_1 rfl)) rfl ?_
                      refine QJ.on rfl rfl (cB hb35) (YldS.yld (y_loadB (k := 0) (off := 1) (v := str e27.top) rfl Try.isAgg9 rfl rfl)) rfl ?_
                      refine QJ.on rfl rfl (cB hb35) (YldS.yld (y_binS rfl rfl rfl)) rfl ?_
                      refine QJ.step (YldS.yld (y_pick_t (cB hb35) rfl)) rfl ?_
                      obtain rfl := Option.some.inj h34
                      exact QJ.cut_end ⟨rfl, rfl, rfl, rfl, rfl, rfl, rfl, rfl, rfl, trivial⟩
                    · obtain rfl := andF h34 hb35
                      refine QJ.off rfl rfl (cB hb35) rfl rfl ?_
                      refine QJ.off rfl rfl (cB hb35) rfl rfl ?_
                      refine QJ.off rfl rfl (cB hb35) rfl rfl ?_
                      refine QJ.off rfl rfl (cB hb35) rfl rfl ?_
                      refine QJ.off rfl rfl (cB hb35) rfl rfl ?_
                      refine QJ.step (YldS.yld (y_pick_f (cB hb35) rfl)) rfl ?_
                      exact QJ.cut_end ⟨rfl, rfl, rfl, rfl, rfl, rfl, rfl, rfl, rfl, trivial⟩
                  refine QJ.done ?_
                  refine PJ.next ?_
                  refine WJ.cond (t := t33) rfl (fun hb36 => ?_) (fun hb36 => ?_)
                  · replace hm := ifT hm hb36
                    refine WJ.seq ?_
                    refine WJ.quiet ?_
                    refine QJ.step (YldS.yld (y_assign rfl)) rfl ?_
                    refine QJ.done ?_
                    refine PJ.next ?_
                    refine WJ.ret ?_
                    refine PJ.block_ret (PJ.then_ret (PJ.then_ret (PJ.block_ret (PJ.block_ret (PJ.then_ret (PJ.then_ret (PJ.block_ret (PJ.then_ret ?_))))))))
                    obtain rfl := Option.some.inj hm
                    refine PJ.sel (L' := []) [] ⟨List.nodup_nil, rfl⟩ ?_
                    exact PJ.retn (vs := [.bool false]) Try.results22 ⟨rfl, trivial⟩ ⟨rfl, rfl⟩
                  · replace hm := ifF hm hb36
                    refine WJ.skip ?_
                    refine PJ.block_normal (PJ.next ?_)
                    refine WJ.quiet ?_
                    refine QJ.step (YldS.yld (y_bin rfl rfl rfl)) rfl ?_
                    refine QJ.step (YldS.yld (y_move rfl)) rfl ?_
                    refine QJ.done ?_
                    exact PJ.round (w64 (x25 + 1)) [1] hm ⟨rfl, rfl, rfl, rfl, rfl, rfl, rfl, rfl, trivial⟩ ⟨by decide, rfl⟩
                · replace hm := ifF hm hb26
                  refine WJ.exit ?_
                  refine PJ.then_exit (PJ.then_exit (PJ.block_exit (PJ.block_normal ?_)))
                  exact PJ.joined () [] hm ⟨rfl, rfl, rfl, rfl, trivial⟩ ⟨List.nodup_nil, rfl⟩
          · rintro _ hm
            subst hk10
            refine WJ.quiet ?_
            refine QJ.step (YldS.yld (y_bin rfl rfl rfl)) rfl ?_
            refine QJ.step (YldS.yld (y_move rfl)) rfl ?_
            refine QJ.done ?_
            exact PJ.round (w64 (x7 + 1)) [] hm ⟨rfl, rfl, rfl, rfl, trivial⟩ ⟨List.nodup_nil, rfl⟩
        · replace hm := ifF hm hb8
          refine WJ.exit ?_
          refine PJ.then_exit (PJ.then_exit (PJ.block_exit ?_))
          exact PJ.joined () [] hm trivial ⟨List.nodup_nil, rfl⟩
    · rintro _ hm
      subst hk6
      refine WJ.seq ?_
      refine WJ.quiet ?_
      refine QJ.step (YldS.yld (y_assign rfl)) rfl ?_
      refine QJ.done ?_
      refine PJ.next ?_
      refine WJ.ret ?_
      obtain rfl := Option.some.inj hm
      refine PJ.sel (L' := []) [] ⟨List.nodup_nil, rfl⟩ ?_
      exact PJ.retn (vs := [.bool true]) Try.results22 ⟨rfl, trivial⟩ ⟨rfl, rfl⟩

set_option maxRecDepth 100000 in
set_option maxHeartbeats 1000000 in
theorem ok_i_isCorrectLine {N : Nat} {s1 : Str} {r : Bool} (hm : i_isCorrectLine N s1 = some r) (w : World)  :
    Calls Try.prog 178 #[str s1] w (Ret (cx w) (.bool r)) := by
  unfold i_isCorrectLine at hm
  refine Calls.enter [str s1] Try.func178 rfl Try.ntmps178 rfl ?_
  refine WJ.seq ?_
  refine WJ.quiet ?_
  refine QJ.step (YldS.yld (y_assign rfl)) rfl ?_
  refine QJ.done ?_
  refine PJ.next ?_
  refine WJ.seq ?_
  refine WJ.quiet ?_
  refine QJ.step (YldS.yld (y_move rfl)) rfl ?_
  obtain ⟨r2, h3, hm⟩ := bindS hm
  refine QJ.step (y_call Try.call118 rfl (RetG.quiet fun w hw => ok_i_isText h3 w )) rfl ?_
  refine QJ.step (YldS.yld (y_assign rfl)) rfl ?_
  refine QJ.done ?_
  refine PJ.next ?_
  refine WJ.ret ?_
  obtain rfl := Option.some.inj hm
  refine PJ.sel (L' := []) [] ⟨List.nodup_nil, rfl⟩ ?_
  exact PJ.retn (vs := [.bool r2]) Try.results178 ⟨rfl, trivial⟩ ⟨rfl, rfl⟩

set_option maxRecDepth 100000 in
set_option maxHeartbeats 1000000 in
theorem ok_i_correctCode {N : Nat} {rules1 : List Over} {typed4 : Str} {other5 : Str} {r : Int} (hm : i_correctCode N rules1 typed4 other5 = some r) (w : World) (v2 : Value) (hr3 : RdS w (cx w).Fz v2 fOver.rp rules1) :
    Calls Try.prog 89 #[v2, str typed4, str other5] w (Ret (cx w) (.int .i64 r)) := by
  unfold i_correctCode at hm
  refine Calls.enter [v2, str typed4, str other5] Try.func89 rfl Try.ntmps89 rfl ?_
  refine WJ.seq ?_
  refine WJ.quiet ?_
  refine QJ.step (YldS.yld (y_assign rfl)) rfl ?_
  refine QJ.done ?_
  refine PJ.next ?_
  refine WJ.seq ?_
  refine WJ.seq ?_
  refine WJ.quiet ?_
  refine QJ.step (YldS.yld (y_move rfl)) rfl ?_
  obtain ⟨r6, h7, hm⟩ := bindS hm
  refine QJ.step (y_call Try.call22 rfl (RetG.quiet fun w hw => ok_i_ValidOvers h7 w _ (hr3.st hw))) rfl ?_
  refine QJ.step (YldS.yld (y_not rfl)) rfl ?_
  refine QJ.done ?_
  refine PJ.next ?_
  refine WJ.cond (t := !r6) rfl (fun hb8 => ?_) (fun hb8 => ?_)
  · replace hm := ifT hm hb8
    refine WJ.seq ?_
    refine WJ.quiet ?_
    refine QJ.step (YldS.yld (y_assign rfl)) rfl ?_
    refine QJ.done ?_
    refine PJ.next ?_
    refine WJ.ret ?_
    refine PJ.then_ret ?_
    obtain rfl := Option.some.inj hm
    refine PJ.sel (L' := []) [] ⟨List.nodup_nil, rfl⟩ ?_
    exact PJ.retn (vs := [.int .i64 1]) Try.results89 ⟨rfl, trivial⟩ ⟨rfl, rfl⟩
  · replace hm := ifF hm hb8
    refine WJ.skip ?_
    refine PJ.next ?_
    refine WJ.seq ?_
    refine WJ.seq ?_
    refine WJ.quiet ?_
    refine QJ.step (YldS.yld (y_move rfl)) rfl ?_
    obtain ⟨r9, h10, hm⟩ := bindS hm
    refine QJ.step (y_call Try.call178 rfl (RetG.quiet fun w hw => ok_i_isCorrectLine h10 w )) rfl ?_
    refine QJ.step (YldS.yld (y_not rfl)) rfl ?_
    refine QJ.step (YldS.yld (y_move rfl)) rfl ?_
    obtain ⟨t11, h12, hm⟩ := bindS hm
    refine QJ.cut 4 [(1, str typed4), (2, str other5), (17, .bool t11)] ?_ ?_
    · rcases Bool.eq_false_or_eq_true (!r9) with hb13 | hb13
      · obtain rfl := orT h12 hb13
        refine QJ.off rfl rfl (cB hb13) rfl rfl ?_
        refine QJ.off rfl rfl (cB hb13) rfl rfl ?_
        refine QJ.off rfl rfl (cB hb13) rfl rfl ?_
        refine QJ.step (YldS.yld (y_pick_t (cB hb13) rfl)) rfl ?_
        exact QJ.cut_end ⟨rfl, rfl, rfl, trivial⟩
      · replace h12 := orF h12 hb13
        refine QJ.on rfl rfl (cB hb13) (YldS.yld (y_move rfl)) rfl ?_
        obtain ⟨r14, h15, h12⟩ := bindS h12
        refine QJ.on rfl rfl (cB hb13) (y_call Try.call178 rfl (RetG.quiet fun w hw => ok_i_isCorrectLine h15 w )) rfl ?_
        refine QJ.on rfl rfl (cB hb13) (YldS.yld (y_not rfl)) rfl ?_
        refine QJ.step (YldS.yld (y_pick_f (cB hb13) rfl)) rfl ?_
        obtain rfl := Option.some.inj h12
        exact QJ.cut_end ⟨rfl, rfl, rfl, trivial⟩
    refine QJ.done ?_
    refine PJ.next ?_
    refine WJ.cond (t := t11) rfl (fun hb16 => ?_) (fun hb16 => ?_)
    · replace hm := ifT hm hb16
      refine WJ.seq ?_
      refine WJ.quiet ?_
      refine QJ.step (YldS.yld (y_assign rfl)) rfl ?_
      refine QJ.done ?_
      refine PJ.next ?_
      refine WJ.ret ?_
      refine PJ.then_ret ?_
      obtain rfl := Option.some.inj hm
      refine PJ.sel (L' := []) [] ⟨List.nodup_nil, rfl⟩ ?_
      exact PJ.retn (vs := [.int .i64 2]) Try.results89 ⟨rfl, trivial⟩ ⟨rfl, rfl⟩
    · replace hm := ifF hm hb16
      refine WJ.skip ?_
      refine PJ.next ?_
      refine WJ.seq ?_
      refine WJ.seq ?_
      refine WJ.quiet ?_
      refine QJ.step (YldS.yld (y_move rfl)) rfl ?_
      refine QJ.step (YldS.yld (y_lenStr Try.runUnderlying9 rfl)) rfl ?_
      refine QJ.step (YldS.yld (y_move rfl)) rfl ?_
      refine QJ.step (YldS.yld (y_lenStr Try.runUnderlying9 rfl)) rfl ?_
      refine QJ.step (YldS.yld (y_bin rfl rfl rfl)) rfl ?_
      refine QJ.done ?_
      refine PJ.next ?_
      refine WJ.cond (t := ((List.length typed4 : Int) != (List.length other5 : Int))) rfl (fun hb17 => ?_) (fun hb17 => ?_)
      · replace hm := ifT hm hb17
        refine WJ.seq ?_
        refine WJ.quiet ?_
        refine QJ.step (YldS.yld (y_assign rfl)) rfl ?_
        refine QJ.done ?_
        refine PJ.next ?_
        refine WJ.ret ?_
        refine PJ.then_ret ?_
        obtain rfl := Option.some.inj hm
        refine PJ.sel (L' := []) [] ⟨List.nodup_nil, rfl⟩ ?_
        exact PJ.retn (vs := [.int .i64 8]) Try.results89 ⟨rfl, trivial⟩ ⟨rfl, rfl⟩
      · replace hm := ifF hm hb17
        refine WJ.skip ?_
        refine PJ.next ?_
        refine WJ.seq ?_
        refine WJ.quiet ?_
        refine QJ.step (YldS.yld (y_assign rfl)) rfl ?_
        refine QJ.done ?_
        refine PJ.next ?_
        refine WJ.ret ?_
        obtain rfl := Option.some.inj hm
        refine PJ.sel (L' := []) [] ⟨List.nodup_nil, rfl⟩ ?_
        exact PJ.retn (vs := [.int .i64 0]) Try.results89 ⟨rfl, trivial⟩ ⟨rfl, rfl⟩

set_option maxRecDepth 100000 in
set_option maxHeartbeats 1000000 in
theorem ok_i_topFor {N : Nat} {rules1 : List Over} {under4 : UInt8} {want5 : UInt8} {r : UInt8} (hm : i_topFor N rules1 under4 want5 = some r) (w : World) (v2 : Value) (hr3 : RdS w (cx w).Fz v2 fOver.rp rules1) :
    Calls Try.prog 90 #[v2, .int .u8 (UInt8.toNat under4 : Int), .int .u8 (UInt8.toNat want5 : Int)] w (Ret (cx w) (.int .u8 (UInt8.toNat r : Int))) := by
  unfold i_topFor at hm
  refine Calls.enter [v2, .int .u8 (UInt8.toNat under4 : Int), .int .u8 (UInt8.toNat want5 : Int)] Try.func90 rfl Try.ntmps90 rfl ?_
  refine WJ.seq ?_
  refine WJ.quiet ?_
  refine QJ.step (YldS.yld (y_assign rfl)) rfl ?_
  refine QJ.done ?_
  refine PJ.next ?_
  refine WJ.seq ?_
  refine WJ.quiet ?_
  refine QJ.step (YldS.yld (y_assign rfl)) rfl ?_
  refine QJ.done ?_
  refine PJ.next ?_
  obtain ⟨k7, hk8, hm⟩ := withK_open hm
  refine WJ.join (X := UInt8) (fun (x : UInt8) => k7 x = some r) (fun (x : UInt8) => [(7, .int .u8 (UInt8.toNat x : Int))]) (fun (x : UInt8) => []) ?_ ?_
  · clear hk8
    refine WJ.seq ?_
    refine WJ.quiet ?_
    refine QJ.step (YldS.yld (y_move rfl)) rfl ?_
    refine QJ.step (YldS.yld (y_lenS Try.runUnderlying24 hr3 rfl)) rfl ?_
    refine QJ.step (YldS.yld (y_move rfl)) rfl ?_
    refine QJ.done ?_
    refine PJ.next ?_
    refine WJ.block ?_
    refine WJ.sel (L' := (fun (x : UInt8 × Int) => []) (0, 0)) [] ⟨List.nodup_nil, rfl⟩ ?_
    refine WJ.sub (m' := (fun (x : UInt8 × Int) => [(1, .int .u8 (UInt8.toNat under4 : Int)), (2, .int .u8 (UInt8.toNat want5 : Int)), (7, .int .u8 (UInt8.toNat x.1 : Int)), (10, v2), (11, .int .i64 (List.length rules1 : Int)), (12, .int .i64 x.2)]) (0, 0)) ⟨rfl, rfl, rfl, rfl, rfl, rfl, trivial⟩ ?_
    refine WJ.loop (X := UInt8 × Int) (fun N (x : UInt8 × Int) => i_topFor_l1 k7 rules1 under4 want5 N x.1 x.2 = some r) (fun (x : UInt8 × Int) => [(1, .int .u8 (UInt8.toNat under4 : Int)), (2, .int .u8 (UInt8.toNat want5 : Int)), (7, .int .u8 (UInt8.toNat x.1 : Int)), (10, v2), (11, .int .i64 (List.length rules1 : Int)), (12, .int .i64 x.2)]) (fun (x : UInt8 × Int) => []) ?_ N (0, 0) hm
    · rintro N ⟨least9, x10⟩ hI
      have hm := hI; clear hI
      cases N with
      | zero => cases hm
      | succ N =>
      unfold i_topFor_l1 at hm
      refine WJ.seq ?_
      refine WJ.quiet ?_
      refine QJ.step (YldS.yld (y_bin rfl rfl rfl)) rfl ?_
      refine QJ.done ?_
      refine PJ.next ?_
      refine WJ.seq ?_
      refine WJ.cond (t := decide (x10 < (List.length rules1 : Int))) rfl (fun hb11 => ?_) (fun hb11 => ?_)
      · replace hm := ifT hm hb11
        refine WJ.skip ?_
        refine PJ.next ?_
        obtain ⟨k14, hk14, hm⟩ := withK_open hm
        refine WJ.join (X := UInt8) (fun (x : UInt8) => k14 x = some r) (fun (x : UInt8) => [(1, .int .u8 (UInt8.toNat under4 : Int)), (2, .int .u8 (UInt8.toNat want5 : Int)), (7, .int .u8 (UInt8.toNat x : Int)), (10, v2), (11, .int .i64 (List.length rules1 : Int)), (12, .int .i64 x10)]) (fun (x : UInt8) => []) ?_ ?_
        · clear hk14
          refine WJ.block ?_
          refine WJ.seq ?_
          refine WJ.reg ?_
          obtain ⟨e15, h16, hm⟩ := bindS hm
          obtain ⟨ad17, _, rfl, ha18, hy19⟩ := hr3.elem h16
          refine SJ.q (YldS.yld (hy19 Try.runUnderlying24 Try.sizeOf39 rfl rfl)) rfl ?_
          refine SJ.q (YldS.yld (y_loadN Try.isAgg39 Try.sizeOf39 rfl ha18 St.frozenC rfl)) rfl ?_
          refine SJ.alloc (cs := [str [], str [], str []]) Try.zeroValue39 rfl rfl fun g20 => ?_
          refine SJ.storeL (k := 0) (off := 0) (us := [str e15.under, str e15.top, str e15.seen]) rfl rfl rfl rfl Try.sizeOf39 rfl rfl ?_
          refine SJ.nil ?_
          refine PJ.next ?_
          refine WJ.seq ?_
          refine WJ.quiet ?_
          refine QJ.step (YldS.yld (y_fldB (o := 0) fld39_0 rfl)) rfl ?_
          refine QJ.step (YldS.yld (y_loadB (k := 0) (off := 0) (v := str e15.under) rfl Try.isAgg9 rfl rfl)) rfl ?_
          obtain ⟨c21, h22, hm⟩ := bindS hm
          refine QJ.step (YldS.yld (y_idxStr Try.runUnderlying9 rfl rfl h22)) rfl ?_
          refine QJ.step (YldS.yld (y_move rfl)) rfl ?_
          refine QJ.step (YldS.yld (y_bin8 c21 under4 rfl rfl rfl)) rfl ?_
          refine QJ.step (YldS.yld (y_move rfl)) rfl ?_
          obtain ⟨t23, h24, hm⟩ := bindS hm
          refine QJ.cut 6 [(1, .int .u8 (UInt8.toNat under4 : Int)), (2, .int .u8 (UInt8.toNat want5 : Int)), (7, .int .u8 (UInt8.toNat least9 : Int)), (9, pt g20 0), (10, v2), (11, .int .i64 (List.length rules1 : Int)), (12, .int .i64 x10), (27, .bool t23)] ?_ ?_
          · rcases Bool.eq_false_or_eq_true (c21 == under4) with hb25 | hb25
            · replace h24 := andT h24 hb25
              refine QJ.on rfl rfl (cB hb25) (YldS.yld (y_fldB (o := 0) fld39_2 rfl)) rfl ?_
              refine QJ.on rfl rfl (cB hb25) (YldS.yld (y_loadB (k := 0) (off := 2) (v := str e15.seen) rfl Try.isAgg9 rfl rfl)) rfl ?_
              obtain ⟨c26, h27, h24⟩ := bindS h24
              refine QJ.on rfl rfl (cB hb25) (YldS.yld (y_idxStr Try.runUnderlying9 rfl rfl h27)) rfl ?_
              refine QJ.on rfl rfl (cB hb25) (YldS.yld (y_move rfl)) rfl ?_
              refine QJ.on rfl rfl (cB hb25) (YldS.yld (y_bin8 c26 want5 rfl rfl rfl)) rfl ?_
              refine QJ.step (YldS.yld (y_pick_t (cB hb25) rfl)) rfl ?_
              obtain rfl := Option.some.inj h24
              exact QJ.cut_end ⟨rfl, rfl, rfl, rfl, rfl, rfl, rfl, rfl, trivial⟩
            · obtain rfl := andF h24 hb25
              refine QJ.off rfl rfl (cB hb25) rfl rfl ?_
              refine QJ.off rfl rfl (cB hb25) rfl rfl ?_
              refine QJ.off rfl rfl (cB hb25) rfl rfl ?_
              refine QJ.off rfl rfl (cB hb25) rfl rfl ?_
              refine QJ.off rfl rfl (cB hb25) rfl rfl ?_
              refine QJ.step (YldS.yld (y_pick_f (cB hb25) rfl)) rfl ?_
              exact QJ.cut_end ⟨rfl, rfl, rfl, rfl, rfl, rfl, rfl, rfl, trivial⟩
          refine QJ.step (YldS.yld (y_move rfl)) rfl ?_
          obtain ⟨t28, h29, hm⟩ := bindS hm
          refine QJ.cut 10 [(1, .int .u8 (UInt8.toNat under4 : Int)), (2, .int .u8 (UInt8.toNat want5 : Int)), (7, .int .u8 (UInt8.toNat least9 : Int)), (9, pt g20 0), (10, v2), (11, .int .i64 (List.length rules1 : Int)), (12, .int .i64 x10), (38, .bool t28)] ?_ ?_
          · rcases Bool.eq_false_or_eq_true t23 with hb30 | hb30
            · replace h29 := andT h29 hb30
              refine QJ.on rfl rfl (cB hb30) (YldS.yld (y_move rfl)) rfl ?_
              refine QJ.on rfl rfl (cB hb30) (YldS.yld (y_bin8 least9 (0 : UInt8) rfl rfl rfl)) rfl ?_
              refine QJ.on rfl rfl (cB hb30) (YldS.yld (y_move rfl)) rfl ?_
              obtain ⟨t31, h32, h29⟩ := bindS h29
              refine QJ.cut 6 [(1, .int .u8 (UInt8.toNat under4 : Int)), (2, .int .u8 (UInt8.toNat want5 : Int)), (7, .int .u8 (UInt8.toNat least9 : Int)), (9, pt g20 0), (10, v2), (11, .int .i64 (List.length rules1 : Int)), (12, .int .i64 x10), (28, .bool t23), (29, .int .u8 (UInt8.toNat least9 : Int)), (30, .bool (least9 == (0 : UInt8))), (31, .bool (least9 == (0 : UInt8))), (37, .bool t31)] ?_ ?_
              · rcases Bool.eq_false_or_eq_true (least9 == (0 : UInt8)) with hb33 | hb33
                · obtain rfl := orT h32 hb33
                  refine QJ.off rfl rfl (cB hb33) rfl rfl ?_
                  refine QJ.off rfl rfl (cB hb33) rfl rfl ?_
                  refine QJ.off rfl rfl (cB hb33) rfl rfl ?_
                  refine QJ.off rfl rfl (cB hb33) rfl rfl ?_
                  refine QJ.off rfl rfl (cB hb33) rfl rfl ?_
                  refine QJ.on rfl rfl (cB hb30) (YldS.yld (y_pick_t (cB hb33) rfl)) rfl ?_
                  exact QJ.cut_end ⟨rfl, rfl, rfl, rfl, rfl, rfl, rfl, rfl, rfl, rfl, rfl, rfl, trivial⟩
                · replace h32 := orF h32 hb33
                  refine QJ.on rfl rfl (cB hb33) (YldS.yld (y_fldB (o := 0) fld39_1 rfl)) rfl ?_
                  refine QJ.on rfl rfl (cB hb33) (YldS.yld (y_loadB (k := 0) (off := 1) (v := str e15.top) rfl Try.isAgg9 rfl rfl)) rfl ?_
                  obtain ⟨c34, h35, h32⟩ := bindS h32
                  refine QJ.on rfl rfl (cB hb33) (YldS.yld (y_idxStr Try.runUnderlying9 rfl rfl h35)) rfl ?_
                  refine QJ.on rfl rfl (cB hb33) (YldS.yld (y_move rfl)) rfl ?_
                  refine QJ.on rfl rfl (cB hb33) (YldS.yld (y_bin8 c34 least9 rfl rfl rfl)) rfl ?_
                  refine QJ.on rfl rfl (cB hb30) (YldS.yld (y_pick_f (cB hb33) rfl)) rfl ?_
                  obtain rfl := Option.some.inj h32
                  exact QJ.cut_end ⟨rfl, rfl, rfl, rfl, rfl, rfl, rfl, rfl, rfl, rfl, rfl, rfl, trivial⟩
              refine QJ.step (YldS.yld (y_pick_t (cB hb30) rfl)) rfl ?_
              obtain rfl := Option.some.inj h29
              exact QJ.cut_end ⟨rfl, rfl, rfl, rfl, rfl, rfl, rfl, rfl, trivial⟩
            · obtain rfl := andF h29 hb30
              refine QJ.off rfl rfl (cB hb30) rfl rfl ?_
              refine QJ.off rfl rfl (cB hb30) rfl rfl ?_
              refine QJ.off rfl rfl (cB hb30) rfl rfl ?_
              refine QJ.off_undef rfl rfl rfl rfl ?_
              refine QJ.off_undef rfl rfl rfl rfl ?_
              refine QJ.off_undef rfl rfl rfl rfl ?_
              refine QJ.off_undef rfl rfl rfl rfl ?_
              refine QJ.off_undef rfl rfl rfl rfl ?_
              refine QJ.off rfl rfl (cB hb30) rfl rfl ?_
              refine QJ.step (YldS.yld (y_pick_f (cB hb30) rfl)) rfl ?_
              exact QJ.cut_end ⟨rfl, rfl, rfl, rfl, rfl, rfl, rfl, rfl, trivial⟩
          refine QJ.done ?_
          refine PJ.next ?_
          refine WJ.cond (t := t28) rfl (fun hb36 => ?_) (fun hb36 => ?_)
          · replace hm := ifT hm hb36
            refine WJ.quiet ?_
            refine QJ.step (YldS.yld (y_fldB (o := 0) fld39_1 rfl)) rfl ?_
            refine QJ.step (YldS.yld (y_loadB (k := 0) (off := 1) (v := str e15.top) rfl Try.isAgg9 rfl rfl)) rfl ?_
            obtain ⟨c37, h38, hm⟩ := bindS hm
            refine QJ.step (YldS.yld (y_idxStr Try.runUnderlying9 rfl rfl h38)) rfl ?_
            refine QJ.step (YldS.yld (y_assign rfl)) rfl ?_
            refine QJ.done ?_
            refine PJ.block_normal ?_
            exact PJ.joined c37 [] hm ⟨rfl, rfl, rfl, rfl, rfl, rfl, trivial⟩ ⟨List.nodup_nil, rfl⟩
          · replace hm := ifF hm hb36
            refine WJ.skip ?_
            refine PJ.block_normal ?_
            exact PJ.joined least9 [] hm ⟨rfl, rfl, rfl, rfl, rfl, rfl, trivial⟩ ⟨List.nodup_nil, rfl⟩
        · rintro least12 hm
          subst hk14
          refine WJ.quiet ?_
          refine QJ.step (YldS.yld (y_bin rfl rfl rfl)) rfl ?_
          refine QJ.step (YldS.yld (y_move rfl)) rfl ?_
          refine QJ.done ?_
          exact PJ.round (least12, w64 (x10 + 1)) [] hm ⟨rfl, rfl, rfl, rfl, rfl, rfl, trivial⟩ ⟨List.nodup_nil, rfl⟩
      · replace hm := ifF hm hb11
        refine WJ.exit ?_
        refine PJ.then_exit (PJ.then_exit (PJ.block_exit ?_))
        exact PJ.joined least9 [] hm ⟨rfl, trivial⟩ ⟨List.nodup_nil, rfl⟩
  · rintro least6 hm
    subst hk8
    refine WJ.seq ?_
    refine WJ.quiet ?_
    refine QJ.step (YldS.yld (y_move rfl)) rfl ?_
    refine QJ.step (YldS.yld (y_assign rfl)) rfl ?_
    refine QJ.done ?_
    refine PJ.next ?_
    refine WJ.ret ?_
    obtain rfl := Option.some.inj hm
    refine PJ.sel (L' := []) [] ⟨List.nodup_nil, rfl⟩ ?_
    exact PJ.retn (vs := [.int .u8 (UInt8.toNat least6 : Int)]) Try.results90 ⟨rfl, trivial⟩ ⟨rfl, rfl⟩

set_option maxRecDepth 100000 in
set_option maxHeartbeats 1000000 in
theorem ok_i_CorrectionPlan {N : Nat} {rules1 : List Over} {typed4 : Str} {want5 : Str} {r : Str × Str × Int} (hm : i_CorrectionPlan N rules1 typed4 want5 = some r) (w : World) (v2 : Value) (hr3 : RdS w (cx w).Fz v2 fOver.rp rules1) :
    Calls Try.prog 12 #[v2, str typed4, str want5] w (Ret (cx w) (tup [str r.1, str r.2.1, .int .i64 r.2.2])) := by
  unfold i_CorrectionPlan at hm
  refine Calls.enter [v2, str typed4, str want5] Try.func12 rfl Try.ntmps12 rfl ?_
  refine WJ.seq ?_
  refine WJ.quiet ?_
  refine QJ.step (YldS.yld (y_assign rfl)) rfl ?_
  refine QJ.step (YldS.yld (y_assign rfl)) rfl ?_
  refine QJ.step (YldS.yld (y_assign rfl)) rfl ?_
  refine QJ.done ?_
  refine PJ.next ?_
  refine WJ.seq ?_
  refine WJ.seq ?_
  refine WJ.quiet ?_
  refine QJ.step (YldS.yld (y_move rfl)) rfl ?_
  refine QJ.step (YldS.yld (y_move rfl)) rfl ?_
  refine QJ.step (YldS.yld (y_move rfl)) rfl ?_
  obtain ⟨r6, h7, hm⟩ := bindS hm
  refine QJ.step (y_call Try.call89 rfl (RetG.quiet fun w hw => ok_i_correctCode h7 w _ (hr3.st hw))) rfl ?_
  refine QJ.step (YldS.yld (y_assign rfl)) rfl ?_
  refine QJ.done ?_
  refine PJ.next ?_
  refine WJ.seq ?_
  refine WJ.quiet ?_
  refine QJ.step (YldS.yld (y_move rfl)) rfl ?_
  refine QJ.step (YldS.yld (y_bin rfl rfl rfl)) rfl ?_
  refine QJ.done ?_
  refine PJ.next ?_
  refine WJ.cond (t := (r6 != 0)) rfl (fun hb8 => ?_) (fun hb8 => ?_)
  · replace hm := ifT hm hb8
    refine WJ.seq ?_
    refine WJ.quiet ?_
    refine QJ.step (YldS.yld (y_move rfl)) rfl ?_
    refine QJ.step (YldS.yld (y_assign rfl)) rfl ?_
    refine QJ.step (YldS.yld (y_assign rfl)) rfl ?_
    refine QJ.step (YldS.yld (y_assign rfl)) rfl ?_
    refine QJ.done ?_
    refine PJ.next ?_
    refine WJ.ret ?_
    refine PJ.then_ret ?_
    obtain rfl := Option.some.inj hm
    refine PJ.sel (L' := []) [] ⟨List.nodup_nil, rfl⟩ ?_
    exact PJ.retn (vs := [str [], str [], .int .i64 r6]) Try.results12 ⟨rfl, rfl, rfl, trivial⟩ ⟨rfl, rfl⟩
  · replace hm := ifF hm hb8
    refine WJ.skip ?_
    refine PJ.next ?_
    refine WJ.seq ?_
    refine WJ.reg ?_
    refine SJ.buildSlice (R := fByte) (os := []) [] Try.runUnderlying22 Try.sizeOf5 Try.zeroValue5 rfl rfl rfl rfl rfl rfl fun v9 => ?_
    refine SJ.buildSlice (R := fByte) (os := []) [] Try.runUnderlying22 Try.sizeOf5 Try.zeroValue5 rfl rfl rfl rfl rfl rfl fun v10 => ?_
    refine SJ.q (YldS.yld (y_assign rfl)) rfl ?_
    refine SJ.q (YldS.yld (y_assign rfl)) rfl ?_
    refine SJ.nil ?_
    refine PJ.next ?_
    obtain ⟨k15, hk16, hm⟩ := withK_open hm
    refine WJ.join (X := (List UInt8) × Value × (List UInt8) × Value) (fun (x : (List UInt8) × Value × (List UInt8) × Value) => k15 x.1 x.2.2.1 = some r) (fun (x : (List UInt8) × Value × (List UInt8) × Value) => [(10, x.2.2.2), (11, x.2.1)]) (fun (x : (List UInt8) × Value × (List UInt8) × Value) => [row x.2.1 5 fByte x.1, row x.2.2.2 5 fByte x.2.2.1]) ?_ ?_
    · clear hk16
      refine WJ.seq ?_
      refine WJ.quiet ?_
      refine QJ.step (YldS.yld (y_move rfl)) rfl ?_
      refine QJ.step (YldS.yld (y_lenStr Try.runUnderlying9 rfl)) rfl ?_
      refine QJ.step (YldS.yld (y_move rfl)) rfl ?_
      refine QJ.done ?_
      refine PJ.next ?_
      refine WJ.block ?_
      refine WJ.sel (L' := (fun (x : (List UInt8) × Value × (List UInt8) × Value × Int) => [row x.2.1 5 fByte x.1, row x.2.2.2.1 5 fByte x.2.2.1]) ([], v10, [], v9, 0)) [0, 1] ⟨by decide, rfl⟩ ?_
      refine WJ.sub (m' := (fun (x : (List UInt8) × Value × (List UInt8) × Value × Int) => [(0, v2), (1, str typed4), (2, str want5), (10, x.2.2.2.1), (11, x.2.1), (24, .int .i64 (List.length typed4 : Int)), (25, .int .i64 x.2.2.2.2)]) ([], v10, [], v9, 0)) ⟨rfl, rfl, rfl, rfl, rfl, rfl, rfl, trivial⟩ ?_
      refine WJ.loop (X := (List UInt8) × Value × (List UInt8) × Value × Int) (fun N (x : (List UInt8) × Value × (List UInt8) × Value × Int) => i_CorrectionPlan_l1 k15 rules1 typed4 want5 N x.1 x.2.2.1 x.2.2.2.2 = some r) (fun (x : (List UInt8) × Value × (List UInt8) × Value × Int) => [(0, v2), (1, str typed4), (2, str want5), (10, x.2.2.2.1), (11, x.2.1), (24, .int .i64 (List.length typed4 : Int)), (25, .int .i64 x.2.2.2.2)]) (fun (x : (List UInt8) × Value × (List UInt8) × Value × Int) => [row x.2.1 5 fByte x.1, row x.2.2.2.1 5 fByte x.2.2.1]) ?_ N ([], v10, [], v9, 0) hm
      · rintro N ⟨l17, v18, l19, v20, x21⟩ hI
        have hm := hI; clear hI
        cases N with
        | zero => cases hm
        | succ N =>
        unfold i_CorrectionPlan_l1 at hm
        refine WJ.seq ?_
        refine WJ.quiet ?_
        refine QJ.step (YldS.yld (y_bin rfl rfl rfl)) rfl ?_
        refine QJ.done ?_
        refine PJ.next ?_
        refine WJ.seq ?_
        refine WJ.cond (t := decide (x21 < (List.length typed4 : Int))) rfl (fun hb22 => ?_) (fun hb22 => ?_)
        · replace hm := ifT hm hb22
          refine WJ.skip ?_
          refine PJ.next ?_
          obtain ⟨k28, hk28, hm⟩ := withK_open hm
          refine WJ.join (X := (List UInt8) × Value × (List UInt8) × Value) (fun (x : (List UInt8) × Value × (List UInt8) × Value) => k28 x.1 x.2.2.1 = some r) (fun (x : (List UInt8) × Value × (List UInt8) × Value) => [(0, v2), (1, str typed4), (2, str want5), (10, x.2.2.2), (11, x.2.1), (24, .int .i64 (List.length typed4 : Int)), (25, .int .i64 x21)]) (fun (x : (List UInt8) × Value × (List UInt8) × Value) => [row x.2.1 5 fByte x.1, row x.2.2.2 5 fByte x.2.2.1]) ?_ ?_
          · clear hk28
            refine WJ.block ?_
            refine WJ.seq ?_
            refine WJ.quiet ?_
            refine QJ.step (YldS.yld (y_move rfl)) rfl ?_
            refine QJ.step (YldS.yld (y_assign rfl)) rfl ?_
            refine QJ.done ?_
            refine PJ.next ?_
            refine WJ.seq ?_
            refine WJ.quiet_draw follows (by kernel_rfl) ?_
            refine QJ.step (YldS.yld (y_move rfl)) rfl ?_
            refine QJ.step (YldS.yld (y_move rfl)) rfl ?_
            refine QJ.step (YldS.yld (y_move rfl)) rfl ?_
            obtain ⟨c29, h30, hm⟩ := bindS hm
            refine QJ.step (YldS.yld (y_idxStr Try.runUnderlying9 rfl rfl h30)) rfl ?_
            refine QJ.step (YldS.yld (y_move rfl)) rfl ?_
            refine QJ.step (YldS.yld (y_move rfl)) rfl ?_
            obtain ⟨c31, h32, hm⟩ := bindS hm
            refine QJ.step (YldS.yld (y_idxStr Try.runUnderlying9 rfl rfl h32)) rfl ?_
            obtain ⟨r33, h34, hm⟩ := bindS hm
            refine QJ.step (y_call Try.call90 rfl (RetG.quiet fun w hw => ok_i_topFor h34 w _ (hr3.st hw))) rfl ?_
            refine QJ.step (YldS.yld (y_assign rfl)) rfl ?_
            refine QJ.done ?_
            refine PJ.next ?_
            refine WJ.block ?_
            refine WJ.seq ?_
            refine WJ.quiet_draw follows (by kernel_rfl) ?_
            refine QJ.step (YldS.yld (y_move rfl)) rfl ?_
            refine QJ.step (YldS.yld (y_move rfl)) rfl ?_
            obtain ⟨c35, h36, hm⟩ := bindS hm
            refine QJ.step (YldS.yld (y_idxStr Try.runUnderlying9 rfl rfl h36)) rfl ?_
            refine QJ.step (YldS.yld (y_move rfl)) rfl ?_
            refine QJ.step (YldS.yld (y_move rfl)) rfl ?_
            obtain ⟨c37, h38, hm⟩ := bindS hm
            refine QJ.step (YldS.yld (y_idxStr Try.runUnderlying9 rfl rfl h38)) rfl ?_
            refine QJ.step (YldS.yld (y_bin8 c35 c37 rfl rfl rfl)) rfl ?_
            refine QJ.step (YldS.yld (y_assign rfl)) rfl ?_
            refine QJ.done ?_
            refine PJ.next ?_
            refine WJ.cond (t := (c35 == c37)) rfl (fun hb39 => ?_) (fun hb39 => ?_)
            · replace hm := ifT hm hb39
              refine WJ.reg ?_
              refine SJ.q (YldS.yld (y_move rfl)) rfl ?_
              refine SJ.buildSlice (R := fByte) (os := [.const (.int .u8 (UInt8.toNat 46 : Int))]) [46] Try.runUnderlying22 Try.sizeOf5 Try.zeroValue5 rfl rfl rfl rfl rfl rfl fun v40 => ?_
              obtain ⟨l41, h42, hm⟩ := bindS hm
              refine SJ.append (k := 2) (R := fByte) h42 rfl Try.underlying22 el5 rfl rfl rfl (fun w hw => (hw.row_rd (k := 0) rfl)) rfl fun v43 => ?_
              refine SJ.q (YldS.yld (y_move rfl)) rfl ?_
              refine SJ.buildSlice (R := fByte) (os := [.const (.int .u8 (UInt8.toNat 32 : Int))]) [32] Try.runUnderlying22 Try.sizeOf5 Try.zeroValue5 rfl rfl rfl rfl rfl rfl fun v44 => ?_
              obtain ⟨l45, h46, hm⟩ := bindS hm
              refine SJ.append (k := 2) (R := fByte) h46 rfl Try.underlying22 el5 rfl rfl rfl (fun w hw => (hw.row_rd (k := 0) rfl)) rfl fun v47 => ?_
              refine SJ.q (YldS.yld (y_assign rfl)) rfl ?_
              refine SJ.q (YldS.yld (y_assign rfl)) rfl ?_
              refine SJ.nil ?_
              refine PJ.block_normal (PJ.block_normal ?_)
              exact PJ.joined (l45, v47, l41, v43) [2, 3] hm ⟨rfl, rfl, rfl, rfl, rfl, rfl, rfl, trivial⟩ ⟨by decide, rfl⟩
            · replace hm := ifF hm hb39
              refine WJ.seq ?_
              refine WJ.quiet ?_
              refine QJ.step (YldS.yld (y_move rfl)) rfl ?_
              refine QJ.step (YldS.yld (y_move rfl)) rfl ?_
              obtain ⟨c48, h49, hm⟩ := bindS hm
              refine QJ.step (YldS.yld (y_idxStr Try.runUnderlying9 rfl rfl h49)) rfl ?_
              refine QJ.step (YldS.yld (y_bin8 c48 (32 : UInt8) rfl rfl rfl)) rfl ?_
              refine QJ.step (YldS.yld (y_assign rfl)) rfl ?_
              refine QJ.done ?_
              refine PJ.next ?_
              refine WJ.cond (t := (c48 == (32 : UInt8))) rfl (fun hb50 => ?_) (fun hb50 => ?_)
              · replace hm := ifT hm hb50
                obtain ⟨l52, h53, hm⟩ := bindS hm
                obtain ⟨c55, h56, hm⟩ := bindS hm
                obtain ⟨l58, h59, hm⟩ := bindS hm
                refine WJ.draws (N := 11) (listed0 := #[false, false, false, false, false, false, false, false, false, false, false]) [] follows rfl rfl ?_
                refine RJ.first 0 (listed' := #[true, false, false, false, false, false, false, false, false, false, false]) [] rfl (by kernel_rfl) rfl ⟨List.nodup_nil, rfl⟩ (y_move rfl) rfl ?_
                refine RJ.first 3 (listed' := #[true, false, false, true, false, false, false, false, false, false, false]) [] rfl (by kernel_rfl) rfl ⟨List.nodup_nil, rfl⟩ (y_move rfl) rfl ?_
                refine RJ.first 4 (listed' := #[true, false, false, true, true, false, false, false, false, false, false]) [] rfl (by kernel_rfl) rfl ⟨List.nodup_nil, rfl⟩ (y_move rfl) rfl ?_
                refine RJ.first 5 (listed' := #[true, false, false, true, true, true, false, false, false, false, false]) [] rfl (by kernel_rfl) rfl ⟨List.nodup_nil, rfl⟩ (y_move rfl) rfl ?_
                refine RJ.first 6 (listed' := #[true, false, false, true, true, true, true, false, false, false, false]) [] rfl (by kernel_rfl) rfl ⟨List.nodup_nil, rfl⟩ (y_idxStr Try.runUnderlying9 rfl rfl h56) rfl ?_
                refine RJ.hold (X := Value × Value × Value) 3 #[true, true, true, true, true, true, true, true, false, false, false] (fun (x : Value × Value × Value) => [(0, v2), (1, str typed4), (2, str want5), (10, v20), (11, v18), (24, .int .i64 (List.length typed4 : Int)), (25, .int .i64 x21), (66, x.2.2), (67, v18), (71, x.1)]) (fun (x : Value × Value × Value) => [row x.1 5 fByte [c55], row x.2.1 5 fByte [43], row v18 5 fByte l17, row x.2.2 5 fByte l52]) ?_ ?_
                · rintro ⟨v57, v51, v54⟩
                  refine RJ.step1 8 [] (by kernel_rfl) ⟨List.nodup_nil, rfl⟩ ?_
                  refine RO.of (listed' := #[true, true, true, true, true, true, true, true, true, false, false]) rfl rfl ?_
                  refine SJ.append (k := 2) (R := fByte) h59 rfl Try.underlying22 el5 rfl rfl rfl (fun w hw => (hw.row_rd (k := 0) rfl)) rfl fun v60 => ?_
                  refine SJ.nil ?_
                  refine PJ.draw ?_
                  refine RJ.first 9 (listed' := #[true, true, true, true, true, true, true, true, true, true, false]) [] rfl (by kernel_rfl) rfl ⟨List.nodup_nil, rfl⟩ (y_assign rfl) rfl ?_
                  refine RJ.first 10 (listed' := #[true, true, true, true, true, true, true, true, true, true, true]) [] rfl (by kernel_rfl) rfl ⟨List.nodup_nil, rfl⟩ (y_assign rfl) rfl ?_
                  refine RJ.fin [] (by kernel_rfl) ⟨List.nodup_nil, rfl⟩ ?_
                  refine PJ.block_normal (PJ.block_normal ?_)
                  exact PJ.joined (l58, v60, l52, v54) [2, 3] hm ⟨rfl, rfl, rfl, rfl, rfl, rfl, rfl, trivial⟩ ⟨by decide, rfl⟩
                · intro hD61
                  refine RJ.step2 1 7 [] (by kernel_rfl) ⟨List.nodup_nil, rfl⟩ ?_ ?_
                  · refine RO.of (listed' := #[true, true, false, true, true, true, true, false, false, false, false]) rfl rfl ?_
                    refine SJ.buildSlice (R := fByte) (os := [.const (.int .u8 (UInt8.toNat 43 : Int))]) [43] Try.runUnderlying22 Try.sizeOf5 Try.zeroValue5 rfl rfl rfl rfl rfl rfl fun v51 => ?_
                    refine SJ.nil ?_
                    refine PJ.draw ?_
                    refine RJ.step2 2 7 [] (by kernel_rfl) ⟨List.nodup_nil, rfl⟩ ?_ ?_
                    · refine RO.of (listed' := #[true, true, true, true, true, true, true, false, false, false, false]) rfl rfl ?_
                      refine SJ.append (k := 2) (R := fByte) h53 rfl Try.underlying22 el5 rfl rfl rfl (fun w hw => (hw.row_rd (k := 0) rfl)) rfl fun v54 => ?_
                      refine SJ.nil ?_
                      refine PJ.draw ?_
                      refine RJ.step1 7 [] (by kernel_rfl) ⟨List.nodup_nil, rfl⟩ ?_
                      refine RO.of (listed' := #[true, true, true, true, true, true, true, true, false, false, false]) rfl rfl ?_
                      refine SJ.buildSlice (R := fByte) (os := [.tmp 70]) [c55] Try.runUnderlying22 Try.sizeOf5 Try.zeroValue5 rfl rfl rfl rfl rfl rfl fun v57 => ?_
                      refine SJ.nil ?_
                      refine PJ.draw ?_
                      exact RJ.weak (hD61 (v57, v51, v54)) [0, 1, 2, 3] ⟨rfl, rfl, rfl, rfl, rfl, rfl, rfl, rfl, rfl, rfl, trivial⟩ ⟨by decide, rfl⟩
                    · refine RO.of (listed' := #[true, true, false, true, true, true, true, true, false, false, false]) rfl rfl ?_
                      refine SJ.buildSlice (R := fByte) (os := [.tmp 70]) [c55] Try.runUnderlying22 Try.sizeOf5 Try.zeroValue5 rfl rfl rfl rfl rfl rfl fun v57 => ?_
                      refine SJ.nil ?_
                      refine PJ.draw ?_
                      refine RJ.step1 2 [] (by kernel_rfl) ⟨List.nodup_nil, rfl⟩ ?_
                      refine RO.of (listed' := #[true, true, true, true, true, true, true, true, false, false, false]) rfl rfl ?_
                      refine SJ.append (k := 3) (R := fByte) h53 rfl Try.underlying22 el5 rfl rfl rfl (fun w hw => (hw.row_rd (k := 1) rfl)) rfl fun v54 => ?_
                      refine SJ.nil ?_
                      refine PJ.draw ?_
                      exact RJ.weak (hD61 (v57, v51, v54)) [0, 1, 2, 3] ⟨rfl, rfl, rfl, rfl, rfl, rfl, rfl, rfl, rfl, rfl, trivial⟩ ⟨by decide, rfl⟩
                  · refine RO.of (listed' := #[true, false, false, true, true, true, true, true, false, false, false]) rfl rfl ?_
                    refine SJ.buildSlice (R := fByte) (os := [.tmp 70]) [c55] Try.runUnderlying22 Try.sizeOf5 Try.zeroValue5 rfl rfl rfl rfl rfl rfl fun v57 => ?_
                    refine SJ.nil ?_
                    refine PJ.draw ?_
                    refine RJ.step1 1 [] (by kernel_rfl) ⟨List.nodup_nil, rfl⟩ ?_
                    refine RO.of (listed' := #[true, true, false, true, true, true, true, true, false, false, false]) rfl rfl ?_
                    refine SJ.buildSlice (R := fByte) (os := [.const (.int .u8 (UInt8.toNat 43 : Int))]) [43] Try.runUnderlying22 Try.sizeOf5 Try.zeroValue5 rfl rfl rfl rfl rfl rfl fun v51 => ?_
                    refine SJ.nil ?_
                    refine PJ.draw ?_
                    refine RJ.step1 2 [] (by kernel_rfl) ⟨List.nodup_nil, rfl⟩ ?_
                    refine RO.of (listed' := #[true, true, true, true, true, true, true, true, false, false, false]) rfl rfl ?_
                    refine SJ.append (k := 3) (R := fByte) h53 rfl Try.underlying22 el5 rfl rfl rfl (fun w hw => (hw.row_rd (k := 0) rfl)) rfl fun v54 => ?_
                    refine SJ.nil ?_
                    refine PJ.draw ?_
                    exact RJ.weak (hD61 (v57, v51, v54)) [1, 0, 2, 3] ⟨rfl, rfl, rfl, rfl, rfl, rfl, rfl, rfl, rfl, rfl, trivial⟩ ⟨by decide, rfl⟩
              · replace hm := ifF hm hb50
                refine WJ.seq ?_
                refine WJ.quiet ?_
                refine QJ.step (YldS.yld (y_move rfl)) rfl ?_
                refine QJ.step (YldS.yld (y_bin8 r33 (0 : UInt8) rfl rfl rfl)) rfl ?_
                refine QJ.step (YldS.yld (y_assign rfl)) rfl ?_
                refine QJ.done ?_
                refine PJ.next ?_
                refine WJ.cond (t := (r33 != (0 : UInt8))) rfl (fun hb62 => ?_) (fun hb62 => ?_)
                · replace hm := ifT hm hb62
                  refine WJ.reg ?_
                  refine SJ.q (YldS.yld (y_move rfl)) rfl ?_
                  refine SJ.buildSlice (R := fByte) (os := [.const (.int .u8 (UInt8.toNat 43 : Int))]) [43] Try.runUnderlying22 Try.sizeOf5 Try.zeroValue5 rfl rfl rfl rfl rfl rfl fun v63 => ?_
                  obtain ⟨l64, h65, hm⟩ := bindS hm
                  refine SJ.append (k := 2) (R := fByte) h65 rfl Try.underlying22 el5 rfl rfl rfl (fun w hw => (hw.row_rd (k := 0) rfl)) rfl fun v66 => ?_
                  refine SJ.q (YldS.yld (y_move rfl)) rfl ?_
                  refine SJ.q (YldS.yld (y_move rfl)) rfl ?_
                  refine SJ.buildSlice (R := fByte) (os := [.tmp 80]) [r33] Try.runUnderlying22 Try.sizeOf5 Try.zeroValue5 rfl rfl rfl rfl rfl rfl fun v67 => ?_
                  obtain ⟨l68, h69, hm⟩ := bindS hm
                  refine SJ.append (k := 2) (R := fByte) h69 rfl Try.underlying22 el5 rfl rfl rfl (fun w hw => (hw.row_rd (k := 0) rfl)) rfl fun v70 => ?_
                  refine SJ.q (YldS.yld (y_assign rfl)) rfl ?_
                  refine SJ.q (YldS.yld (y_assign rfl)) rfl ?_
                  refine SJ.nil ?_
                  refine PJ.block_normal (PJ.block_normal ?_)
                  exact PJ.joined (l68, v70, l64, v66) [2, 3] hm ⟨rfl, rfl, rfl, rfl, rfl, rfl, rfl, trivial⟩ ⟨by decide, rfl⟩
                · replace hm := ifF hm hb62
                  obtain ⟨l72, h73, hm⟩ := bindS hm
                  obtain ⟨c75, h76, hm⟩ := bindS hm
                  obtain ⟨l78, h79, hm⟩ := bindS hm
                  refine WJ.draws (N := 11) (listed0 := #[false, false, false, false, false, false, false, false, false, false, false]) [] follows rfl rfl ?_
                  refine RJ.first 0 (listed' := #[true, false, false, false, false, false, false, false, false, false, false]) [] rfl (by kernel_rfl) rfl ⟨List.nodup_nil, rfl⟩ (y_move rfl) rfl ?_
                  refine RJ.first 3 (listed' := #[true, false, false, true, false, false, false, false, false, false, false]) [] rfl (by kernel_rfl) rfl ⟨List.nodup_nil, rfl⟩ (y_move rfl) rfl ?_
                  refine RJ.first 4 (listed' := #[true, false, false, true, true, false, false, false, false, false, false]) [] rfl (by kernel_rfl) rfl ⟨List.nodup_nil, rfl⟩ (y_move rfl) rfl ?_
                  refine RJ.first 5 (listed' := #[true, false, false, true, true, true, false, false, false, false, false]) [] rfl (by kernel_rfl) rfl ⟨List.nodup_nil, rfl⟩ (y_move rfl) rfl ?_
                  refine RJ.first 6 (listed' := #[true, false, false, true, true, true, true, false, false, false, false]) [] rfl (by kernel_rfl) rfl ⟨List.nodup_nil, rfl⟩ (y_idxStr Try.runUnderlying9 rfl rfl h76) rfl ?_
                  refine RJ.hold (X := Value × Value × Value) 3 #[true, true, true, true, true, true, true, true, false, false, false] (fun (x : Value × Value × Value) => [(0, v2), (1, str typed4), (2, str want5), (10, v20), (11, v18), (24, .int .i64 (List.length typed4 : Int)), (25, .int .i64 x21), (38, x.2.2), (39, v18), (43, x.1)]) (fun (x : Value × Value × Value) => [row x.1 5 fByte [c75], row x.2.1 5 fByte [35], row v18 5 fByte l17, row x.2.2 5 fByte l72]) ?_ ?_
                  · rintro ⟨v77, v71, v74⟩
                    refine RJ.step1 8 [] (by kernel_rfl) ⟨List.nodup_nil, rfl⟩ ?_
                    refine RO.of (listed' := #[true, true, true, true, true, true, true, true, true, false, false]) rfl rfl ?_
                    refine SJ.append (k := 2) (R := fByte) h79 rfl Try.underlying22 el5 rfl rfl rfl (fun w hw => (hw.row_rd (k := 0) rfl)) rfl fun v80 => ?_
                    refine SJ.nil ?_
                    refine PJ.draw ?_
                    refine RJ.first 9 (listed' := #[true, true, true, true, true, true, true, true, true, true, false]) [] rfl (by kernel_rfl) rfl ⟨List.nodup_nil, rfl⟩ (y_assign rfl) rfl ?_
                    refine RJ.first 10 (listed' := #[true, true, true, true, true, true, true, true, true, true, true]) [] rfl (by kernel_rfl) rfl ⟨List.nodup_nil, rfl⟩ (y_assign rfl) rfl ?_
                    refine RJ.fin [] (by kernel_rfl) ⟨List.nodup_nil, rfl⟩ ?_
                    refine PJ.block_normal (PJ.block_normal ?_)
                    exact PJ.joined (l78, v80, l72, v74) [2, 3] hm ⟨rfl, rfl, rfl, rfl, rfl, rfl, rfl, trivial⟩ ⟨by decide, rfl⟩
                  · intro hD81
                    refine RJ.step2 1 7 [] (by kernel_rfl) ⟨List.nodup_nil, rfl⟩ ?_ ?_
                    · refine RO.of (listed' := #[true, true, false, true, true, true, true, false, false, false, false]) rfl rfl ?_
                      refine SJ.buildSlice (R := fByte) (os := [.const (.int .u8 (UInt8.toNat 35 : Int))]) [35] Try.runUnderlying22 Try.sizeOf5 Try.zeroValue5 rfl rfl rfl rfl rfl rfl fun v71 => ?_
                      refine SJ.nil ?_
                      refine PJ.draw ?_
                      refine RJ.step2 2 7 [] (by kernel_rfl) ⟨List.nodup_nil, rfl⟩ ?_ ?_
                      · refine RO.of (listed' := #[true, true, true, true, true, true, true, false, false, false, false]) rfl rfl ?_
                        refine SJ.append (k := 2) (R := fByte) h73 rfl Try.underlying22 el5 rfl rfl rfl (fun w hw => (hw.row_rd (k := 0) rfl)) rfl fun v74 => ?_
                        refine SJ.nil ?_
                        refine PJ.draw ?_
                        refine RJ.step1 7 [] (by kernel_rfl) ⟨List.nodup_nil, rfl⟩ ?_
                        refine RO.of (listed' := #[true, true, true, true, true, true, true, true, false, false, false]) rfl rfl ?_
                        refine SJ.buildSlice (R := fByte) (os := [.tmp 42]) [c75] Try.runUnderlying22 Try.sizeOf5 Try.zeroValue5 rfl rfl rfl rfl rfl rfl fun v77 => ?_
                        refine SJ.nil ?_
                        refine PJ.draw ?_
                        exact RJ.weak (hD81 (v77, v71, v74)) [0, 1, 2, 3] ⟨rfl, rfl, rfl, rfl, rfl, rfl, rfl, rfl, rfl, rfl, trivial⟩ ⟨by decide, rfl⟩
                      · refine RO.of (listed' := #[true, true, false, true, true, true, true, true, false, false, false]) rfl rfl ?_
                        refine SJ.buildSlice (R := fByte) (os := [.tmp 42]) [c75] Try.runUnderlying22 Try.sizeOf5 Try.zeroValue5 rfl rfl rfl rfl rfl rfl fun v77 => ?_
                        refine SJ.nil ?_
                        refine PJ.draw ?_
                        refine RJ.step1 2 [] (by kernel_rfl) ⟨List.nodup_nil, rfl⟩ ?_
                        refine RO.of (listed' := #[true, true, true, true, true, true, true, true, false, false, false]) rfl rfl ?_
                        refine SJ.append (k := 3) (R := fByte) h73 rfl Try.underlying22 el5 rfl rfl rfl (fun w hw => (hw.row_rd (k := 1) rfl)) rfl fun v74 => ?_
                        refine SJ.nil ?_
                        refine PJ.draw ?_
                        exact RJ.weak (hD81 (v77, v71, v74)) [0, 1, 2, 3] ⟨rfl, rfl, rfl, rfl, rfl, rfl, rfl, rfl, rfl, rfl, trivial⟩ ⟨by decide, rfl⟩
                    · refine RO.of (listed' := #[true, false, false, true, true, true, true, true, false, false, false]) rfl rfl ?_
                      refine SJ.buildSlice (R := fByte) (os := [.tmp 42]) [c75] Try.runUnderlying22 Try.sizeOf5 Try.zeroValue5 rfl rfl rfl rfl rfl rfl fun v77 => ?_
                      refine SJ.nil ?_
                      refine PJ.draw ?_
                      refine RJ.step1 1 [] (by kernel_rfl) ⟨List.nodup_nil, rfl⟩ ?_
                      refine RO.of (listed' := #[true, true, false, true, true, true, true, true, false, false, false]) rfl rfl ?_
                      refine SJ.buildSlice (R := fByte) (os := [.const (.int .u8 (UInt8.toNat 35 : Int))]) [35] Try.runUnderlying22 Try.sizeOf5 Try.zeroValue5 rfl rfl rfl rfl rfl rfl fun v71 => ?_
                      refine SJ.nil ?_
                      refine PJ.draw ?_
                      refine RJ.step1 2 [] (by kernel_rfl) ⟨List.nodup_nil, rfl⟩ ?_
                      refine RO.of (listed' := #[true, true, true, true, true, true, true, true, false, false, false]) rfl rfl ?_
                      refine SJ.append (k := 3) (R := fByte) h73 rfl Try.underlying22 el5 rfl rfl rfl (fun w hw => (hw.row_rd (k := 0) rfl)) rfl fun v74 => ?_
                      refine SJ.nil ?_
                      refine PJ.draw ?_
                      exact RJ.weak (hD81 (v77, v71, v74)) [1, 0, 2, 3] ⟨rfl, rfl, rfl, rfl, rfl, rfl, rfl, rfl, rfl, rfl, trivial⟩ ⟨by decide, rfl⟩
          · rintro ⟨l23, v24, l25, v26⟩ hm
            subst hk28
            refine WJ.quiet ?_
            refine QJ.step (YldS.yld (y_bin rfl rfl rfl)) rfl ?_
            refine QJ.step (YldS.yld (y_move rfl)) rfl ?_
            refine QJ.done ?_
            exact PJ.round (l23, v24, l25, v26, w64 (x21 + 1)) [0, 1] hm ⟨rfl, rfl, rfl, rfl, rfl, rfl, rfl, trivial⟩ ⟨by decide, rfl⟩
        · replace hm := ifF hm hb22
          refine WJ.exit ?_
          refine PJ.then_exit (PJ.then_exit (PJ.block_exit ?_))
          exact PJ.joined (l17, v18, l19, v20) [0, 1] hm ⟨rfl, rfl, trivial⟩ ⟨by decide, rfl⟩
    · rintro ⟨l11, v12, l13, v14⟩ hm
      subst hk16
      refine WJ.seq ?_
      refine WJ.quiet_draw follows (by kernel_rfl) ?_
      refine QJ.step (YldS.yld (y_move rfl)) rfl ?_
      refine QJ.step (YldS.yld (y_b2s Try.underlying22 Try.underlying9 Try.underlying5 (fun w hw => ⟨_, (hw.row_rd (k := 1) rfl)⟩) rfl)) rfl ?_
      refine QJ.step (YldS.yld (y_move rfl)) rfl ?_
      refine QJ.step (YldS.yld (y_b2s Try.underlying22 Try.underlying9 Try.underlying5 (fun w hw => ⟨_, (hw.row_rd (k := 0) rfl)⟩) rfl)) rfl ?_
      refine QJ.step (YldS.yld (y_assign rfl)) rfl ?_
      refine QJ.step (YldS.yld (y_assign rfl)) rfl ?_
      refine QJ.step (YldS.yld (y_assign rfl)) rfl ?_
      refine QJ.done ?_
      refine PJ.next ?_
      refine WJ.ret ?_
      obtain rfl := Option.some.inj hm
      refine PJ.sel (L' := []) [] ⟨List.nodup_nil, rfl⟩ ?_
      exact PJ.retn (vs := [str l13, str l11, .int .i64 0]) Try.results12 ⟨rfl, rfl, rfl, trivial⟩ ⟨rfl, rfl⟩

set_option maxRecDepth 100000 in
set_option maxHeartbeats 1000000 in
theorem ok_s_l00Text {N : Nat} {s1 : Str} {most2 : Int} {r : Bool} (hm : s_l00Text N s1 most2 = some r) (w : World)  :
    Calls Try.prog 189 #[str s1, .int .i64 most2] w (Ret (cx w) (.bool r)) := by
  unfold s_l00Text at hm
  refine Calls.enter [str s1, .int .i64 most2] Try.func189 rfl Try.ntmps189 rfl ?_
  refine WJ.seq ?_
  refine WJ.quiet ?_
  refine QJ.step (YldS.yld (y_assign rfl)) rfl ?_
  refine QJ.done ?_
  refine PJ.next ?_
  obtain ⟨k3, hk4, hm⟩ := withK_open hm
  refine WJ.join (X := Unit) (fun (_ : Unit) => k3  = some r) (fun (_ : Unit) => [(0, str s1), (1, .int .i64 most2)]) (fun (_ : Unit) => []) ?_ ?_
  · clear hk4
    refine WJ.seq ?_
    refine WJ.quiet ?_
    refine QJ.step (YldS.yld (y_assign rfl)) rfl ?_
    refine QJ.done ?_
    refine PJ.next ?_
    refine WJ.block ?_
    refine WJ.sel (L' := (fun (x : Int) => []) 0) [] ⟨List.nodup_nil, rfl⟩ ?_
    refine WJ.sub (m' := (fun (x : Int) => [(0, str s1), (1, .int .i64 most2), (5, .int .i64 x)]) 0) ⟨rfl, rfl, rfl, trivial⟩ ?_
    refine WJ.loop (X := Int) (fun N (x : Int) => s_l00Text_l1 k3 s1 N x = some r) (fun (x : Int) => [(0, str s1), (1, .int .i64 most2), (5, .int .i64 x)]) (fun (x : Int) => []) ?_ N 0 hm
    · rintro N i5 hI
      have hm := hI; clear hI
      cases N with
      | zero => cases hm
      | succ N =>
      unfold s_l00Text_l1 at hm
      refine WJ.seq ?_
      refine WJ.seq ?_
      refine WJ.quiet ?_
      refine QJ.step (YldS.yld (y_move rfl)) rfl ?_
      refine QJ.step (YldS.yld (y_move rfl)) rfl ?_
      refine QJ.step (YldS.yld (y_lenStr Try.runUnderlying9 rfl)) rfl ?_
      refine QJ.step (YldS.yld (y_bin rfl rfl rfl)) rfl ?_
      refine QJ.done ?_
      refine PJ.next ?_
      refine WJ.cond (t := decide (i5 < (List.length s1 : Int))) rfl (fun hb6 => ?_) (fun hb6 => ?_)
      · replace hm := ifT hm hb6
        refine WJ.skip ?_
        refine PJ.next ?_
        refine WJ.seq ?_
        refine WJ.block ?_
        refine WJ.seq ?_
        refine WJ.quiet ?_
        refine QJ.step (YldS.yld (y_move rfl)) rfl ?_
        refine QJ.step (YldS.yld (y_move rfl)) rfl ?_
        obtain ⟨c7, h8, hm⟩ := bindS hm
        refine QJ.step (YldS.yld (y_idxStr Try.runUnderlying9 rfl rfl h8)) rfl ?_
        refine QJ.step (YldS.yld (y_bin8 c7 (32 : UInt8) rfl rfl rfl)) rfl ?_
        refine QJ.step (YldS.yld (y_move rfl)) rfl ?_
        obtain ⟨t9, h10, hm⟩ := bindS hm
        refine QJ.cut 5 [(0, str s1), (1, .int .i64 most2), (5, .int .i64 i5), (21, .bool t9)] ?_ ?_
        · rcases Bool.eq_false_or_eq_true (decide (c7 < (32 : UInt8))) with hb11 | hb11
          · obtain rfl := orT h10 hb11
            refine QJ.off rfl rfl (cB hb11) rfl rfl ?_
            refine QJ.off rfl rfl (cB hb11) rfl rfl ?_
            refine QJ.off rfl rfl (cB hb11) rfl rfl ?_
            refine QJ.off rfl rfl (cB hb11) rfl rfl ?_
            refine QJ.step (YldS.yld (y_pick_t (cB hb11) rfl)) rfl ?_
            exact QJ.cut_end ⟨rfl, rfl, rfl, rfl, trivial⟩
          · replace h10 := orF h10 hb11
            refine QJ.on rfl rfl (cB hb11) (YldS.yld (y_move rfl)) rfl ?_
            refine QJ.on rfl rfl (cB hb11) (YldS.yld (y_move rfl)) rfl ?_
            obtain ⟨c12, h13, h10⟩ := bindS h10
            refine QJ.on rfl rfl (cB hb11) (YldS.yld (y_idxStr Try.runUnderlying9 rfl rfl h13)) rfl ?_
            refine QJ.on rfl rfl (cB hb11) (YldS.yld (y_bin8 c12 (126 : UInt8) rfl rfl rfl)) rfl ?_
            refine QJ.step (YldS.yld (y_pick_f (cB hb11) rfl)) rfl ?_
            obtain rfl := Option.some.inj h10
            exact QJ.cut_end ⟨rfl, rfl, rfl, rfl, trivial⟩
        refine QJ.done ?_
        refine PJ.next ?_
        refine WJ.cond (t := t9) rfl (fun hb14 => ?_) (fun hb14 => ?_)
        · replace hm := ifT hm hb14
          refine WJ.seq ?_
          refine WJ.quiet ?_
          refine QJ.step (YldS.yld (y_assign rfl)) rfl ?_
          refine QJ.done ?_
          refine PJ.next ?_
          refine WJ.ret ?_
          refine PJ.block_ret (PJ.then_ret (PJ.then_ret (PJ.block_ret (PJ.then_ret ?_))))
          obtain rfl := Option.some.inj hm
          refine PJ.sel (L' := []) [] ⟨List.nodup_nil, rfl⟩ ?_
          exact PJ.retn (vs := [.bool false]) Try.results189 ⟨rfl, trivial⟩ ⟨rfl, rfl⟩
        · replace hm := ifF hm hb14
          refine WJ.skip ?_
          refine PJ.block_normal (PJ.next ?_)
          refine WJ.quiet ?_
          refine QJ.step (YldS.yld (y_move rfl)) rfl ?_
          refine QJ.step (YldS.yld (y_bin rfl rfl rfl)) rfl ?_
          refine QJ.step (YldS.yld (y_assign rfl)) rfl ?_
          refine QJ.done ?_
          exact PJ.round (w64 (i5 + 1)) [] hm ⟨rfl, rfl, rfl, trivial⟩ ⟨List.nodup_nil, rfl⟩
      · replace hm := ifF hm hb6
        refine WJ.exit ?_
        refine PJ.then_exit (PJ.then_exit (PJ.block_exit ?_))
        exact PJ.joined () [] hm ⟨rfl, rfl, trivial⟩ ⟨List.nodup_nil, rfl⟩
  · rintro _ hm
    subst hk4
    refine WJ.seq ?_
    refine WJ.quiet ?_
    refine QJ.step (YldS.yld (y_move rfl)) rfl ?_
    refine QJ.step (YldS.yld (y_lenStr Try.runUnderlying9 rfl)) rfl ?_
    refine QJ.step (YldS.yld (y_move rfl)) rfl ?_
    refine QJ.step (YldS.yld (y_bin rfl rfl rfl)) rfl ?_
    refine QJ.step (YldS.yld (y_assign rfl)) rfl ?_
    refine QJ.done ?_
    refine PJ.next ?_
    refine WJ.ret ?_
    obtain rfl := Option.some.inj hm
    refine PJ.sel (L' := []) [] ⟨List.nodup_nil, rfl⟩ ?_
    exact PJ.retn (vs := [.bool (decide ((List.length s1 : Int) ≤ most2))]) Try.results189 ⟨rfl, trivial⟩ ⟨rfl, rfl⟩

set_option maxRecDepth 100000 in
set_option maxHeartbeats 1000000 in
theorem ok_s_l12Line {N : Nat} {s1 : Str} {r : Bool} (hm : s_l12Line N s1 = some r) (w : World)  :
    Calls Try.prog 179 #[str s1] w (Ret (cx w) (.bool r)) := by
  unfold s_l12Line at hm
  refine Calls.enter [str s1] Try.func179 rfl Try.ntmps179 rfl ?_
  refine WJ.seq ?_
  refine WJ.quiet ?_
  refine QJ.step (YldS.yld (y_assign rfl)) rfl ?_
  refine QJ.done ?_
  refine PJ.next ?_
  refine WJ.seq ?_
  refine WJ.quiet ?_
  refine QJ.step (YldS.yld (y_move rfl)) rfl ?_
  obtain ⟨r2, h3, hm⟩ := bindS hm
  refine QJ.step (y_call Try.call189 rfl (RetG.quiet fun w hw => ok_s_l00Text h3 w )) rfl ?_
  refine QJ.step (YldS.yld (y_assign rfl)) rfl ?_
  refine QJ.done ?_
  refine PJ.next ?_
  refine WJ.ret ?_
  obtain rfl := Option.some.inj hm
  refine PJ.sel (L' := []) [] ⟨List.nodup_nil, rfl⟩ ?_
  exact PJ.retn (vs := [.bool r2]) Try.results179 ⟨rfl, trivial⟩ ⟨rfl, rfl⟩

set_option maxRecDepth 100000 in
set_option maxHeartbeats 1000000 in
theorem ok_s_l12Code {N : Nat} {rules1 : List Over} {typed4 : Str} {want5 : Str} {r : Int} (hm : s_l12Code N rules1 typed4 want5 = some r) (w : World) (v2 : Value) (hr3 : RdS w (cx w).Fz v2 fOver.rp rules1) :
    Calls Try.prog 91 #[v2, str typed4, str want5] w (Ret (cx w) (.int .i64 r)) := by
  unfold s_l12Code at hm
  refine Calls.enter [v2, str typed4, str want5] Try.func91 rfl Try.ntmps91 rfl ?_
  refine WJ.seq ?_
  refine WJ.quiet ?_
  refine QJ.step (YldS.yld (y_assign rfl)) rfl ?_
  refine QJ.done ?_
  refine PJ.next ?_
  refine WJ.seq ?_
  refine WJ.seq ?_
  refine WJ.quiet ?_
  refine QJ.step (YldS.yld (y_move rfl)) rfl ?_
  obtain ⟨r6, h7, hm⟩ := bindS hm
  refine QJ.step (y_call Try.call104 rfl (RetG.quiet fun w hw => ok_s_l12Ok h7 w _ (hr3.st hw))) rfl ?_
  refine QJ.step (YldS.yld (y_not rfl)) rfl ?_
  refine QJ.done ?_
  refine PJ.next ?_
  refine WJ.cond (t := !r6) rfl (fun hb8 => ?_) (fun hb8 => ?_)
  · replace hm := ifT hm hb8
    refine WJ.seq ?_
    refine WJ.quiet ?_
    refine QJ.step (YldS.yld (y_assign rfl)) rfl ?_
    refine QJ.done ?_
    refine PJ.next ?_
    refine WJ.ret ?_
    refine PJ.then_ret ?_
    obtain rfl := Option.some.inj hm
    refine PJ.sel (L' := []) [] ⟨List.nodup_nil, rfl⟩ ?_
    exact PJ.retn (vs := [.int .i64 1]) Try.results91 ⟨rfl, trivial⟩ ⟨rfl, rfl⟩
  · replace hm := ifF hm hb8
    refine WJ.skip ?_
    refine PJ.next ?_
    refine WJ.seq ?_
    refine WJ.seq ?_
    refine WJ.quiet ?_
    refine QJ.step (YldS.yld (y_move rfl)) rfl ?_
    obtain ⟨r9, h10, hm⟩ := bindS hm
    refine QJ.step (y_call Try.call179 rfl (RetG.quiet fun w hw => ok_s_l12Line h10 w )) rfl ?_
    refine QJ.step (YldS.yld (y_not rfl)) rfl ?_
    refine QJ.step (YldS.yld (y_move rfl)) rfl ?_
    obtain ⟨t11, h12, hm⟩ := bindS hm
    refine QJ.cut 4 [(1, str typed4), (2, str want5), (17, .bool t11)] ?_ ?_
    · rcases Bool.eq_false_or_eq_true (!r9) with hb13 | hb13
      · obtain rfl := orT h12 hb13
        refine QJ.off rfl rfl (cB hb13) rfl rfl ?_
        refine QJ.off rfl rfl (cB hb13) rfl rfl ?_
        refine QJ.off rfl rfl (cB hb13) rfl rfl ?_
        refine QJ.step (YldS.yld (y_pick_t (cB hb13) rfl)) rfl ?_
        exact QJ.cut_end ⟨rfl, rfl, rfl, trivial⟩
      · replace h12 := orF h12 hb13
        refine QJ.on rfl rfl (cB hb13) (YldS.yld (y_move rfl)) rfl ?_
        obtain ⟨r14, h15, h12⟩ := bindS h12
        refine QJ.on rfl rfl (cB hb13) (y_call Try.call179 rfl (RetG.quiet fun w hw => ok_s_l12Line h15 w )) rfl ?_
        refine QJ.on rfl rfl (cB hb13) (YldS.yld (y_not rfl)) rfl ?_
        refine QJ.step (YldS.yld (y_pick_f (cB hb13) rfl)) rfl ?_
        obtain rfl := Option.some.inj h12
        exact QJ.cut_end ⟨rfl, rfl, rfl, trivial⟩
    refine QJ.done ?_
    refine PJ.next ?_
    refine WJ.cond (t := t11) rfl (fun hb16 => ?_) (fun hb16 => ?_)
    · replace hm := ifT hm hb16
      refine WJ.seq ?_
      refine WJ.quiet ?_
      refine QJ.step (YldS.yld (y_assign rfl)) rfl ?_
      refine QJ.done ?_
      refine PJ.next ?_
      refine WJ.ret ?_
      refine PJ.then_ret ?_
      obtain rfl := Option.some.inj hm
      refine PJ.sel (L' := []) [] ⟨List.nodup_nil, rfl⟩ ?_
      exact PJ.retn (vs := [.int .i64 2]) Try.results91 ⟨rfl, trivial⟩ ⟨rfl, rfl⟩
    · replace hm := ifF hm hb16
      refine WJ.skip ?_
      refine PJ.next ?_
      refine WJ.seq ?_
      refine WJ.seq ?_
      refine WJ.quiet ?_
      refine QJ.step (YldS.yld (y_move rfl)) rfl ?_
      refine QJ.step (YldS.yld (y_lenStr Try.runUnderlying9 rfl)) rfl ?_
      refine QJ.step (YldS.yld (y_move rfl)) rfl ?_
      refine QJ.step (YldS.yld (y_lenStr Try.runUnderlying9 rfl)) rfl ?_
      refine QJ.step (YldS.yld (y_bin rfl rfl rfl)) rfl ?_
      refine QJ.done ?_
      refine PJ.next ?_
      refine WJ.cond (t := ((List.length typed4 : Int) != (List.length want5 : Int))) rfl (fun hb17 => ?_) (fun hb17 => ?_)
      · replace hm := ifT hm hb17
        refine WJ.seq ?_
        refine WJ.quiet ?_
        refine QJ.step (YldS.yld (y_assign rfl)) rfl ?_
        refine QJ.done ?_
        refine PJ.next ?_
        refine WJ.ret ?_
        refine PJ.then_ret ?_
        obtain rfl := Option.some.inj hm
        refine PJ.sel (L' := []) [] ⟨List.nodup_nil, rfl⟩ ?_
        exact PJ.retn (vs := [.int .i64 8]) Try.results91 ⟨rfl, trivial⟩ ⟨rfl, rfl⟩
      · replace hm := ifF hm hb17
        refine WJ.skip ?_
        refine PJ.next ?_
        refine WJ.seq ?_
        refine WJ.quiet ?_
        refine QJ.step (YldS.yld (y_assign rfl)) rfl ?_
        refine QJ.done ?_
        refine PJ.next ?_
        refine WJ.ret ?_
        obtain rfl := Option.some.inj hm
        refine PJ.sel (L' := []) [] ⟨List.nodup_nil, rfl⟩ ?_
        exact PJ.retn (vs := [.int .i64 0]) Try.results91 ⟨rfl, trivial⟩ ⟨rfl, rfl⟩

set_option maxRecDepth 100000 in
set_option maxHeartbeats 1000000 in
theorem ok_s_l12Top {N : Nat} {rules1 : List Over} {under4 : UInt8} {want5 : UInt8} {r : UInt8} (hm : s_l12Top N rules1 under4 want5 = some r) (w : World) (v2 : Value) (hr3 : RdS w (cx w).Fz v2 fOver.rp rules1) :
    Calls Try.prog 180 #[v2, .int .u8 (UInt8.toNat under4 : Int), .int .u8 (UInt8.toNat want5 : Int)] w (Ret (cx w) (.int .u8 (UInt8.toNat r : Int))) := by
  unfold s_l12Top at hm
  refine Calls.enter [v2, .int .u8 (UInt8.toNat under4 : Int), .int .u8 (UInt8.toNat want5 : Int)] Try.func180 rfl Try.ntmps180 rfl ?_
  refine WJ.seq ?_
  refine WJ.quiet ?_
  refine QJ.step (YldS.yld (y_assign rfl)) rfl ?_
  refine QJ.done ?_
  refine PJ.next ?_
  refine WJ.seq ?_
  refine WJ.quiet ?_
  refine QJ.step (YldS.yld (y_assign rfl)) rfl ?_
  refine QJ.done ?_
  refine PJ.next ?_
  obtain ⟨k7, hk8, hm⟩ := withK_open hm
  refine WJ.join (X := UInt8) (fun (x : UInt8) => k7 x = some r) (fun (x : UInt8) => [(1, .int .u8 (UInt8.toNat under4 : Int)), (2, .int .u8 (UInt8.toNat want5 : Int)), (7, .int .u8 (UInt8.toNat x : Int))]) (fun (x : UInt8) => []) ?_ ?_
  · clear hk8
    refine WJ.seq ?_
    refine WJ.quiet ?_
    refine QJ.step (YldS.yld (y_assign rfl)) rfl ?_
    refine QJ.done ?_
    refine PJ.next ?_
    refine WJ.block ?_
    refine WJ.sel (L' := (fun (x : UInt8 × Int) => []) (0, 0)) [] ⟨List.nodup_nil, rfl⟩ ?_
    refine WJ.sub (m' := (fun (x : UInt8 × Int) => [(0, v2), (1, .int .u8 (UInt8.toNat under4 : Int)), (2, .int .u8 (UInt8.toNat want5 : Int)), (7, .int .u8 (UInt8.toNat x.1 : Int)), (8, .int .i64 x.2)]) (0, 0)) ⟨rfl, rfl, rfl, rfl, rfl, trivial⟩ ?_
    refine WJ.loop (X := UInt8 × Int) (fun N (x : UInt8 × Int) => s_l12Top_l1 k7 rules1 under4 want5 N x.1 x.2 = some r) (fun (x : UInt8 × Int) => [(0, v2), (1, .int .u8 (UInt8.toNat under4 : Int)), (2, .int .u8 (UInt8.toNat want5 : Int)), (7, .int .u8 (UInt8.toNat x.1 : Int)), (8, .int .i64 x.2)]) (fun (x : UInt8 × Int) => []) ?_ N (0, 0) hm
    · rintro N ⟨best9, i10⟩ hI
      have hm := hI; clear hI
      cases N with
      | zero => cases hm
      | succ N =>
      unfold s_l12Top_l1 at hm
      refine WJ.seq ?_
      refine WJ.seq ?_
      refine WJ.quiet ?_
      refine QJ.step (YldS.yld (y_move rfl)) rfl ?_
      refine QJ.step (YldS.yld (y_move rfl)) rfl ?_
      refine QJ.step (YldS.yld (y_lenS Try.runUnderlying24 hr3 rfl)) rfl ?_
      refine QJ.step (YldS.yld (y_bin rfl rfl rfl)) rfl ?_
      refine QJ.done ?_
      refine PJ.next ?_
      refine WJ.cond (t := decide (i10 < (List.length rules1 : Int))) rfl (fun hb11 => ?_) (fun hb11 => ?_)
      · replace hm := ifT hm hb11
        refine WJ.skip ?_
        refine PJ.next ?_
        obtain ⟨k14, hk14, hm⟩ := withK_open hm
        refine WJ.join (X := UInt8) (fun (x : UInt8) => k14 x = some r) (fun (x : UInt8) => [(0, v2), (1, .int .u8 (UInt8.toNat under4 : Int)), (2, .int .u8 (UInt8.toNat want5 : Int)), (7, .int .u8 (UInt8.toNat x : Int)), (8, .int .i64 i10)]) (fun (x : UInt8) => []) ?_ ?_
        · clear hk14
          refine WJ.block ?_
          refine WJ.seq ?_
          refine WJ.quiet ?_
          refine QJ.step (YldS.yld (y_move rfl)) rfl ?_
          refine QJ.step (YldS.yld (y_move rfl)) rfl ?_
          obtain ⟨e15, h16, hm⟩ := bindS hm
          obtain ⟨ad17, _, rfl, ha18, hy19⟩ := hr3.elem h16
          refine QJ.step (YldS.yld (hy19 Try.runUnderlying24 Try.sizeOf39 rfl rfl)) rfl ?_
          refine QJ.step (YldS.yld (y_fld (ad := ad17) fld39_1 rfl)) rfl ?_
          refine QJ.step (YldS.yld (y_load1 (v := str e15.top) Try.isAgg9 (ha18.sub 1 1) St.frozenC rfl)) rfl ?_
          obtain ⟨c20, h21, hm⟩ := bindS hm
          refine QJ.step (YldS.yld (y_idxStr Try.runUnderlying9 rfl rfl h21)) rfl ?_
          refine QJ.step (YldS.yld (y_assign rfl)) rfl ?_
          refine QJ.done ?_
          refine PJ.next ?_
          refine WJ.seq ?_
          refine WJ.quiet ?_
          refine QJ.step (YldS.yld (y_move rfl)) rfl ?_
          refine QJ.step (YldS.yld (y_move rfl)) rfl ?_
          obtain ⟨e22, h23, hm⟩ := bindS hm
          obtain ⟨ad24, _, rfl, ha25, hy26⟩ := hr3.elem h23
          refine QJ.step (YldS.yld (hy26 Try.runUnderlying24 Try.sizeOf39 rfl rfl)) rfl ?_
          refine QJ.step (YldS.yld (y_fld (ad := ad24) fld39_0 rfl)) rfl ?_
          refine QJ.step (YldS.yld (y_load1 (v := str e22.under) Try.isAgg9 (ha25.sub 0 1) St.frozenC rfl)) rfl ?_
          obtain ⟨c27, h28, hm⟩ := bindS hm
          refine QJ.step (YldS.yld (y_idxStr Try.runUnderlying9 rfl rfl h28)) rfl ?_
          refine QJ.step (YldS.yld (y_move rfl)) rfl ?_
          refine QJ.step (YldS.yld (y_bin8 c27 under4 rfl rfl rfl)) rfl ?_
          refine QJ.step (YldS.yld (y_move rfl)) rfl ?_
          obtain ⟨t29, h30, hm⟩ := bindS hm
          refine QJ.cut 9 [(0, v2), (1, .int .u8 (UInt8.toNat under4 : Int)), (2, .int .u8 (UInt8.toNat want5 : Int)), (7, .int .u8 (UInt8.toNat best9 : Int)), (8, .int .i64 i10), (9, .int .u8 (UInt8.toNat c20 : Int)), (39, .bool t29)] ?_ ?_
          · rcases Bool.eq_false_or_eq_true (c27 == under4) with hb31 | hb31
            · replace h30 := andT h30 hb31
              refine QJ.on rfl rfl (cB hb31) (YldS.yld (y_move rfl)) rfl ?_
              refine QJ.on rfl rfl (cB hb31) (YldS.yld (y_move rfl)) rfl ?_
              obtain ⟨e32, h33, h30⟩ := bindS h30
              obtain ⟨ad34, _, rfl, ha35, hy36⟩ := hr3.elem h33
              refine QJ.on rfl rfl (cB hb31) (YldS.yld (hy36 Try.runUnderlying24 Try.sizeOf39 rfl rfl)) rfl ?_
              refine QJ.on rfl rfl (cB hb31) (YldS.yld (y_fld (ad := ad34) fld39_2 rfl)) rfl ?_
              refine QJ.on rfl rfl (cB hb31) (YldS.yld (y_load1 (v := str e32.seen) Try.isAgg9 (ha35.sub 2 1) St.frozenC rfl)) rfl ?_
              obtain ⟨c37, h38, h30⟩ := bindS h30
              refine QJ.on rfl rfl (cB hb31) (YldS.yld (y_idxStr Try.runUnderlying9 rfl rfl h38)) rfl ?_
              refine QJ.on rfl rfl (cB hb31) (YldS.yld (y_move rfl)) rfl ?_
              refine QJ.on rfl rfl (cB hb31) (YldS.yld (y_bin8 c37 want5 rfl rfl rfl)) rfl ?_
              refine QJ.step (YldS.yld (y_pick_t (cB hb31) rfl)) rfl ?_
              obtain rfl := Option.some.inj h30
              exact QJ.cut_end ⟨rfl, rfl, rfl, rfl, rfl, rfl, rfl, trivial⟩
            · obtain rfl := andF h30 hb31
              refine QJ.off rfl rfl (cB hb31) rfl rfl ?_
              refine QJ.off rfl rfl (cB hb31) rfl rfl ?_
              refine QJ.off rfl rfl (cB hb31) rfl rfl ?_
              refine QJ.off rfl rfl (cB hb31) rfl rfl ?_
              refine QJ.off rfl rfl (cB hb31) rfl rfl ?_
              refine QJ.off rfl rfl (cB hb31) rfl rfl ?_
              refine QJ.off rfl rfl (cB hb31) rfl rfl ?_
              refine QJ.off rfl rfl (cB hb31) rfl rfl ?_
              refine QJ.step (YldS.yld (y_pick_f (cB hb31) rfl)) rfl ?_
              exact QJ.cut_end ⟨rfl, rfl, rfl, rfl, rfl, rfl, rfl, trivial⟩
          refine QJ.step (YldS.yld (y_move rfl)) rfl ?_
          obtain ⟨t39, h40, hm⟩ := bindS hm
          refine QJ.cut 8 [(0, v2), (1, .int .u8 (UInt8.toNat under4 : Int)), (2, .int .u8 (UInt8.toNat want5 : Int)), (7, .int .u8 (UInt8.toNat best9 : Int)), (8, .int .i64 i10), (9, .int .u8 (UInt8.toNat c20 : Int)), (48, .bool t39)] ?_ ?_
          · rcases Bool.eq_false_or_eq_true t29 with hb41 | hb41
            · replace h40 := andT h40 hb41
              refine QJ.on rfl rfl (cB hb41) (YldS.yld (y_move rfl)) rfl ?_
              refine QJ.on rfl rfl (cB hb41) (YldS.yld (y_bin8 best9 (0 : UInt8) rfl rfl rfl)) rfl ?_
              refine QJ.on rfl rfl (cB hb41) (YldS.yld (y_move rfl)) rfl ?_
              obtain ⟨t42, h43, h40⟩ := bindS h40
              refine QJ.cut 4 [(0, v2), (1, .int .u8 (UInt8.toNat under4 : Int)), (2, .int .u8 (UInt8.toNat want5 : Int)), (7, .int .u8 (UInt8.toNat best9 : Int)), (8, .int .i64 i10), (9, .int .u8 (UInt8.toNat c20 : Int)), (40, .bool t29), (41, .int .u8 (UInt8.toNat best9 : Int)), (42, .bool (best9 == (0 : UInt8))), (43, .bool (best9 == (0 : UInt8))), (47, .bool t42)] ?_ ?_
              · rcases Bool.eq_false_or_eq_true (best9 == (0 : UInt8)) with hb44 | hb44
                · obtain rfl := orT h43 hb44
                  refine QJ.off rfl rfl (cB hb44) rfl rfl ?_
                  refine QJ.off rfl rfl (cB hb44) rfl rfl ?_
                  refine QJ.off rfl rfl (cB hb44) rfl rfl ?_
                  refine QJ.on rfl rfl (cB hb41) (YldS.yld (y_pick_t (cB hb44) rfl)) rfl ?_
                  exact QJ.cut_end ⟨rfl, rfl, rfl, rfl, rfl, rfl, rfl, rfl, rfl, rfl, rfl, trivial⟩
                · replace h43 := orF h43 hb44
                  refine QJ.on rfl rfl (cB hb44) (YldS.yld (y_move rfl)) rfl ?_
                  refine QJ.on rfl rfl (cB hb44) (YldS.yld (y_move rfl)) rfl ?_
                  refine QJ.on rfl rfl (cB hb44) (YldS.yld (y_bin8 c20 best9 rfl rfl rfl)) rfl ?_
                  refine QJ.on rfl rfl (cB hb41) (YldS.yld (y_pick_f (cB hb44) rfl)) rfl ?_
                  obtain rfl := Option.some.inj h43
                  exact QJ.cut_end ⟨rfl, rfl, rfl, rfl, rfl, rfl, rfl, rfl, rfl, rfl, rfl, trivial⟩
              refine QJ.step (YldS.yld (y_pick_t (cB hb41) rfl)) rfl ?_
              obtain rfl := Option.some.inj h40
              exact QJ.cut_end ⟨rfl, rfl, rfl, rfl, rfl, rfl, rfl, trivial⟩
            · obtain rfl := andF h40 hb41
              refine QJ.off rfl rfl (cB hb41) rfl rfl ?_
              refine QJ.off rfl rfl (cB hb41) rfl rfl ?_
              refine QJ.off rfl rfl (cB hb41) rfl rfl ?_
              refine QJ.off_undef rfl rfl rfl rfl ?_
              refine QJ.off_undef rfl rfl rfl rfl ?_
              refine QJ.off_undef rfl rfl rfl rfl ?_
              refine QJ.off rfl rfl (cB hb41) rfl rfl ?_
              refine QJ.step (YldS.yld (y_pick_f (cB hb41) rfl)) rfl ?_
              exact QJ.cut_end ⟨rfl, rfl, rfl, rfl, rfl, rfl, rfl, trivial⟩
          refine QJ.done ?_
          refine PJ.next ?_
          refine WJ.cond (t := t39) rfl (fun hb45 => ?_) (fun hb45 => ?_)
          · replace hm := ifT hm hb45
            refine WJ.quiet ?_
            refine QJ.step (YldS.yld (y_move rfl)) rfl ?_
            refine QJ.step (YldS.yld (y_assign rfl)) rfl ?_
            refine QJ.done ?_
            refine PJ.block_normal ?_
            exact PJ.joined c20 [] hm ⟨rfl, rfl, rfl, rfl, rfl, trivial⟩ ⟨List.nodup_nil, rfl⟩
          · replace hm := ifF hm hb45
            refine WJ.skip ?_
            refine PJ.block_normal ?_
            exact PJ.joined best9 [] hm ⟨rfl, rfl, rfl, rfl, rfl, trivial⟩ ⟨List.nodup_nil, rfl⟩
        · rintro best12 hm
          subst hk14
          refine WJ.quiet ?_
          refine QJ.step (YldS.yld (y_move rfl)) rfl ?_
          refine QJ.step (YldS.yld (y_bin rfl rfl rfl)) rfl ?_
          refine QJ.step (YldS.yld (y_assign rfl)) rfl ?_
          refine QJ.done ?_
          exact PJ.round (best12, w64 (i10 + 1)) [] hm ⟨rfl, rfl, rfl, rfl, rfl, trivial⟩ ⟨List.nodup_nil, rfl⟩
      · replace hm := ifF hm hb11
        refine WJ.exit ?_
        refine PJ.then_exit (PJ.then_exit (PJ.block_exit ?_))
        exact PJ.joined best9 [] hm ⟨rfl, rfl, rfl, trivial⟩ ⟨List.nodup_nil, rfl⟩
  · rintro best6 hm
    subst hk8
    refine WJ.seq ?_
    refine WJ.seq ?_
    refine WJ.quiet ?_
    refine QJ.step (YldS.yld (y_move rfl)) rfl ?_
    refine QJ.step (YldS.yld (y_bin8 under4 (32 : UInt8) rfl rfl rfl)) rfl ?_
    refine QJ.done ?_
    refine PJ.next ?_
    refine WJ.cond (t := (under4 == (32 : UInt8))) rfl (fun hb46 => ?_) (fun hb46 => ?_)
    · replace hm := ifT hm hb46
      refine WJ.seq ?_
      refine WJ.quiet ?_
      refine QJ.step (YldS.yld (y_move rfl)) rfl ?_
      refine QJ.step (YldS.yld (y_assign rfl)) rfl ?_
      refine QJ.done ?_
      refine PJ.next ?_
      refine WJ.ret ?_
      refine PJ.then_ret ?_
      obtain rfl := Option.some.inj hm
      refine PJ.sel (L' := []) [] ⟨List.nodup_nil, rfl⟩ ?_
      exact PJ.retn (vs := [.int .u8 (UInt8.toNat want5 : Int)]) Try.results180 ⟨rfl, trivial⟩ ⟨rfl, rfl⟩
    · replace hm := ifF hm hb46
      refine WJ.skip ?_
      refine PJ.next ?_
      refine WJ.seq ?_
      refine WJ.quiet ?_
      refine QJ.step (YldS.yld (y_move rfl)) rfl ?_
      refine QJ.step (YldS.yld (y_assign rfl)) rfl ?_
      refine QJ.done ?_
      refine PJ.next ?_
      refine WJ.ret ?_
      obtain rfl := Option.some.inj hm
      refine PJ.sel (L' := []) [] ⟨List.nodup_nil, rfl⟩ ?_
      exact PJ.retn (vs := [.int .u8 (UInt8.toNat best6 : Int)]) Try.results180 ⟨rfl, trivial⟩ ⟨rfl, rfl⟩

set_option maxRecDepth 100000 in
set_option maxHeartbeats 1000000 in
theorem ok_s_l12Plan {N : Nat} {rules1 : List Over} {typed4 : Str} {want5 : Str} {r : Str × Str} (hm : s_l12Plan N rules1 typed4 want5 = some r) (w : World) (v2 : Value) (hr3 : RdS w (cx w).Fz v2 fOver.rp rules1) :
    Calls Try.prog 92 #[v2, str typed4, str want5] w (Ret (cx w) (tup [str r.1, str r.2])) := by
  unfold s_l12Plan at hm
  refine Calls.enter [v2, str typed4, str want5] Try.func92 rfl Try.ntmps92 rfl ?_
  refine WJ.seq ?_
  refine WJ.quiet ?_
  refine QJ.step (YldS.yld (y_assign rfl)) rfl ?_
  refine QJ.step (YldS.yld (y_assign rfl)) rfl ?_
  refine QJ.done ?_
  refine PJ.next ?_
  refine WJ.seq ?_
  refine WJ.reg ?_
  refine SJ.buildSlice (R := fByte) (os := []) [] Try.runUnderlying22 Try.sizeOf5 Try.zeroValue5 rfl rfl rfl rfl rfl rfl fun v6 => ?_
  refine SJ.q (YldS.yld (y_assign rfl)) rfl ?_
  refine SJ.nil ?_
  refine PJ.next ?_
  refine WJ.seq ?_
  refine WJ.reg ?_
  refine SJ.buildSlice (R := fByte) (os := []) [] Try.runUnderlying22 Try.sizeOf5 Try.zeroValue5 rfl rfl rfl rfl rfl rfl fun v7 => ?_
  refine SJ.q (YldS.yld (y_assign rfl)) rfl ?_
  refine SJ.nil ?_
  refine PJ.next ?_
  obtain ⟨k12, hk13, hm⟩ := withK_open hm
  refine WJ.join (X := (List UInt8) × Value × (List UInt8) × Value) (fun (x : (List UInt8) × Value × (List UInt8) × Value) => k12 x.1 x.2.2.1 = some r) (fun (x : (List UInt8) × Value × (List UInt8) × Value) => [(8, x.2.2.2), (9, x.2.1)]) (fun (x : (List UInt8) × Value × (List UInt8) × Value) => [row x.2.1 5 fByte x.1, row x.2.2.2 5 fByte x.2.2.1]) ?_ ?_
  · clear hk13
    refine WJ.seq ?_
    refine WJ.quiet ?_
    refine QJ.step (YldS.yld (y_assign rfl)) rfl ?_
    refine QJ.done ?_
    refine PJ.next ?_
    refine WJ.block ?_
    refine WJ.sel (L' := (fun (x : (List UInt8) × Value × (List UInt8) × Value × Int) => [row x.2.1 5 fByte x.1, row x.2.2.2.1 5 fByte x.2.2.1]) ([], v7, [], v6, 0)) [0, 1] ⟨by decide, rfl⟩ ?_
    refine WJ.sub (m' := (fun (x : (List UInt8) × Value × (List UInt8) × Value × Int) => [(0, v2), (1, str typed4), (2, str want5), (8, x.2.2.2.1), (9, x.2.1), (10, .int .i64 x.2.2.2.2)]) ([], v7, [], v6, 0)) ⟨rfl, rfl, rfl, rfl, rfl, rfl, trivial⟩ ?_
    refine WJ.loop (X := (List UInt8) × Value × (List UInt8) × Value × Int) (fun N (x : (List UInt8) × Value × (List UInt8) × Value × Int) => s_l12Plan_l1 k12 rules1 typed4 want5 N x.1 x.2.2.1 x.2.2.2.2 = some r) (fun (x : (List UInt8) × Value × (List UInt8) × Value × Int) => [(0, v2), (1, str typed4), (2, str want5), (8, x.2.2.2.1), (9, x.2.1), (10, .int .i64 x.2.2.2.2)]) (fun (x : (List UInt8) × Value × (List UInt8) × Value × Int) => [row x.2.1 5 fByte x.1, row x.2.2.2.1 5 fByte x.2.2.1]) ?_ N ([], v7, [], v6, 0) hm
    · rintro N ⟨l14, v15, l16, v17, i18⟩ hI
      have hm := hI; clear hI
      cases N with
      | zero => cases hm
      | succ N =>
      unfold s_l12Plan_l1 at hm
      refine WJ.seq ?_
      refine WJ.seq ?_
      refine WJ.quiet ?_
      refine QJ.step (YldS.yld (y_move rfl)) rfl ?_
      refine QJ.step (YldS.yld (y_move rfl)) rfl ?_
      refine QJ.step (YldS.yld (y_lenStr Try.runUnderlying9 rfl)) rfl ?_
      refine QJ.step (YldS.yld (y_bin rfl rfl rfl)) rfl ?_
      refine QJ.done ?_
      refine PJ.next ?_
      refine WJ.cond (t := decide (i18 < (List.length want5 : Int))) rfl (fun hb19 => ?_) (fun hb19 => ?_)
      · replace hm := ifT hm hb19
        refine WJ.skip ?_
        refine PJ.next ?_
        obtain ⟨k25, hk25, hm⟩ := withK_open hm
        refine WJ.join (X := (List UInt8) × Value × (List UInt8) × Value) (fun (x : (List UInt8) × Value × (List UInt8) × Value) => k25 x.1 x.2.2.1 = some r) (fun (x : (List UInt8) × Value × (List UInt8) × Value) => [(0, v2), (1, str typed4), (2, str want5), (8, x.2.2.2), (9, x.2.1), (10, .int .i64 i18)]) (fun (x : (List UInt8) × Value × (List UInt8) × Value) => [row x.2.1 5 fByte x.1, row x.2.2.2 5 fByte x.2.2.1]) ?_ ?_
        · clear hk25
          refine WJ.block ?_
          refine WJ.seq ?_
          refine WJ.seq ?_
          refine WJ.quiet_draw follows (by kernel_rfl) ?_
          refine QJ.step (YldS.yld (y_move rfl)) rfl ?_
          refine QJ.step (YldS.yld (y_move rfl)) rfl ?_
          obtain ⟨c26, h27, hm⟩ := bindS hm
          refine QJ.step (YldS.yld (y_idxStr Try.runUnderlying9 rfl rfl h27)) rfl ?_
          refine QJ.step (YldS.yld (y_move rfl)) rfl ?_
          refine QJ.step (YldS.yld (y_move rfl)) rfl ?_
          obtain ⟨c28, h29, hm⟩ := bindS hm
          refine QJ.step (YldS.yld (y_idxStr Try.runUnderlying9 rfl rfl h29)) rfl ?_
          refine QJ.step (YldS.yld (y_bin8 c26 c28 rfl rfl rfl)) rfl ?_
          refine QJ.done ?_
          refine PJ.next ?_
          refine WJ.cond (t := (c26 == c28)) rfl (fun hb30 => ?_) (fun hb30 => ?_)
          · replace hm := ifT hm hb30
            refine WJ.seq ?_
            refine WJ.reg ?_
            refine SJ.q (YldS.yld (y_move rfl)) rfl ?_
            refine SJ.buildSlice (R := fByte) (os := [.const (.int .u8 (UInt8.toNat 46 : Int))]) [46] Try.runUnderlying22 Try.sizeOf5 Try.zeroValue5 rfl rfl rfl rfl rfl rfl fun v31 => ?_
            obtain ⟨l32, h33, hm⟩ := bindS hm
            refine SJ.append (k := 2) (R := fByte) h33 rfl Try.underlying22 el5 rfl rfl rfl (fun w hw => (hw.row_rd (k := 0) rfl)) rfl fun v34 => ?_
            refine SJ.q (YldS.yld (y_assign rfl)) rfl ?_
            refine SJ.nil ?_
            refine PJ.next ?_
            refine WJ.seq ?_
            refine WJ.reg ?_
            refine SJ.q (YldS.yld (y_move rfl)) rfl ?_
            refine SJ.buildSlice (R := fByte) (os := [.const (.int .u8 (UInt8.toNat 32 : Int))]) [32] Try.runUnderlying22 Try.sizeOf5 Try.zeroValue5 rfl rfl rfl rfl rfl rfl fun v35 => ?_
            obtain ⟨l36, h37, hm⟩ := bindS hm
            refine SJ.append (k := 2) (R := fByte) h37 rfl Try.underlying22 el5 rfl rfl rfl (fun w hw => (hw.row_rd (k := 0) rfl)) rfl fun v38 => ?_
            refine SJ.q (YldS.yld (y_assign rfl)) rfl ?_
            refine SJ.nil ?_
            refine PJ.next ?_
            refine WJ.exit ?_
            refine PJ.then_exit (PJ.block_exit ?_)
            exact PJ.joined (l36, v38, l32, v34) [2, 3] hm ⟨rfl, rfl, rfl, rfl, rfl, rfl, trivial⟩ ⟨by decide, rfl⟩
          · replace hm := ifF hm hb30
            refine WJ.skip ?_
            refine PJ.next ?_
            refine WJ.seq ?_
            refine WJ.quiet_draw follows (by kernel_rfl) ?_
            refine QJ.step (YldS.yld (y_move rfl)) rfl ?_
            refine QJ.step (YldS.yld (y_move rfl)) rfl ?_
            refine QJ.step (YldS.yld (y_move rfl)) rfl ?_
            obtain ⟨c39, h40, hm⟩ := bindS hm
            refine QJ.step (YldS.yld (y_idxStr Try.runUnderlying9 rfl rfl h40)) rfl ?_
            refine QJ.step (YldS.yld (y_move rfl)) rfl ?_
            refine QJ.step (YldS.yld (y_move rfl)) rfl ?_
            obtain ⟨c41, h42, hm⟩ := bindS hm
            refine QJ.step (YldS.yld (y_idxStr Try.runUnderlying9 rfl rfl h42)) rfl ?_
            obtain ⟨r43, h44, hm⟩ := bindS hm
            refine QJ.step (y_call Try.call180 rfl (RetG.quiet fun w hw => ok_s_l12Top h44 w _ (hr3.st hw))) rfl ?_
            refine QJ.step (YldS.yld (y_assign rfl)) rfl ?_
            refine QJ.done ?_
            refine PJ.next ?_
            refine WJ.seq ?_
            refine WJ.seq ?_
            refine WJ.quiet ?_
            refine QJ.step (YldS.yld (y_move rfl)) rfl ?_
            refine QJ.step (YldS.yld (y_bin8 r43 (0 : UInt8) rfl rfl rfl)) rfl ?_
            refine QJ.done ?_
            refine PJ.next ?_
            refine WJ.cond (t := (r43 != (0 : UInt8))) rfl (fun hb45 => ?_) (fun hb45 => ?_)
            · replace hm := ifT hm hb45
              refine WJ.seq ?_
              refine WJ.reg ?_
              refine SJ.q (YldS.yld (y_move rfl)) rfl ?_
              refine SJ.buildSlice (R := fByte) (os := [.const (.int .u8 (UInt8.toNat 43 : Int))]) [43] Try.runUnderlying22 Try.sizeOf5 Try.zeroValue5 rfl rfl rfl rfl rfl rfl fun v46 => ?_
              obtain ⟨l47, h48, hm⟩ := bindS hm
              refine SJ.append (k := 2) (R := fByte) h48 rfl Try.underlying22 el5 rfl rfl rfl (fun w hw => (hw.row_rd (k := 0) rfl)) rfl fun v49 => ?_
              refine SJ.q (YldS.yld (y_assign rfl)) rfl ?_
              refine SJ.nil ?_
              refine PJ.next ?_
              refine WJ.seq ?_
              refine WJ.reg ?_
              refine SJ.q (YldS.yld (y_move rfl)) rfl ?_
              refine SJ.q (YldS.yld (y_move rfl)) rfl ?_
              refine SJ.buildSlice (R := fByte) (os := [.tmp 47]) [r43] Try.runUnderlying22 Try.sizeOf5 Try.zeroValue5 rfl rfl rfl rfl rfl rfl fun v50 => ?_
              obtain ⟨l51, h52, hm⟩ := bindS hm
              refine SJ.append (k := 2) (R := fByte) h52 rfl Try.underlying22 el5 rfl rfl rfl (fun w hw => (hw.row_rd (k := 0) rfl)) rfl fun v53 => ?_
              refine SJ.q (YldS.yld (y_assign rfl)) rfl ?_
              refine SJ.nil ?_
              refine PJ.next ?_
              refine WJ.exit ?_
              refine PJ.then_exit (PJ.block_exit ?_)
              exact PJ.joined (l51, v53, l47, v49) [2, 3] hm ⟨rfl, rfl, rfl, rfl, rfl, rfl, trivial⟩ ⟨by decide, rfl⟩
            · replace hm := ifF hm hb45
              refine WJ.skip ?_
              refine PJ.next ?_
              refine WJ.seq ?_
              refine WJ.reg ?_
              refine SJ.q (YldS.yld (y_move rfl)) rfl ?_
              refine SJ.buildSlice (R := fByte) (os := [.const (.int .u8 (UInt8.toNat 35 : Int))]) [35] Try.runUnderlying22 Try.sizeOf5 Try.zeroValue5 rfl rfl rfl rfl rfl rfl fun v54 => ?_
              obtain ⟨l55, h56, hm⟩ := bindS hm
              refine SJ.append (k := 2) (R := fByte) h56 rfl Try.underlying22 el5 rfl rfl rfl (fun w hw => (hw.row_rd (k := 0) rfl)) rfl fun v57 => ?_
              refine SJ.q (YldS.yld (y_assign rfl)) rfl ?_
              refine SJ.nil ?_
              refine PJ.next ?_
              refine WJ.reg ?_
              refine SJ.q (YldS.yld (y_move rfl)) rfl ?_
              refine SJ.q (YldS.yld (y_move rfl)) rfl ?_
              refine SJ.q (YldS.yld (y_move rfl)) rfl ?_
              obtain ⟨c58, h59, hm⟩ := bindS hm
              refine SJ.q (YldS.yld (y_idxStr Try.runUnderlying9 rfl rfl h59)) rfl ?_
              refine SJ.buildSlice (R := fByte) (os := [.tmp 56]) [c58] Try.runUnderlying22 Try.sizeOf5 Try.zeroValue5 rfl rfl rfl rfl rfl rfl fun v60 => ?_
              obtain ⟨l61, h62, hm⟩ := bindS hm
              refine SJ.append (k := 2) (R := fByte) h62 rfl Try.underlying22 el5 rfl rfl rfl (fun w hw => (hw.row_rd (k := 0) rfl)) rfl fun v63 => ?_
              refine SJ.q (YldS.yld (y_assign rfl)) rfl ?_
              refine SJ.nil ?_
              refine PJ.block_normal ?_
              exact PJ.joined (l61, v63, l55, v57) [2, 3] hm ⟨rfl, rfl, rfl, rfl, rfl, rfl, trivial⟩ ⟨by decide, rfl⟩
        · rintro ⟨l20, v21, l22, v23⟩ hm
          subst hk25
          refine WJ.quiet ?_
          refine QJ.step (YldS.yld (y_move rfl)) rfl ?_
          refine QJ.step (YldS.yld (y_bin rfl rfl rfl)) rfl ?_
          refine QJ.step (YldS.yld (y_assign rfl)) rfl ?_
          refine QJ.done ?_
          exact PJ.round (l20, v21, l22, v23, w64 (i18 + 1)) [0, 1] hm ⟨rfl, rfl, rfl, rfl, rfl, rfl, trivial⟩ ⟨by decide, rfl⟩
      · replace hm := ifF hm hb19
        refine WJ.exit ?_
        refine PJ.then_exit (PJ.then_exit (PJ.block_exit ?_))
        exact PJ.joined (l14, v15, l16, v17) [0, 1] hm ⟨rfl, rfl, trivial⟩ ⟨by decide, rfl⟩
  · rintro ⟨l8, v9, l10, v11⟩ hm
    subst hk13
    refine WJ.seq ?_
    refine WJ.quiet_draw follows (by kernel_rfl) ?_
    refine QJ.step (YldS.yld (y_move rfl)) rfl ?_
    refine QJ.step (YldS.yld (y_b2s Try.underlying22 Try.underlying9 Try.underlying5 (fun w hw => ⟨_, (hw.row_rd (k := 1) rfl)⟩) rfl)) rfl ?_
    refine QJ.step (YldS.yld (y_move rfl)) rfl ?_
    refine QJ.step (YldS.yld (y_b2s Try.underlying22 Try.underlying9 Try.underlying5 (fun w hw => ⟨_, (hw.row_rd (k := 0) rfl)⟩) rfl)) rfl ?_
    refine QJ.step (YldS.yld (y_assign rfl)) rfl ?_
    refine QJ.step (YldS.yld (y_assign rfl)) rfl ?_
    refine QJ.done ?_
    refine PJ.next ?_
    refine WJ.ret ?_
    obtain rfl := Option.some.inj hm
    refine PJ.sel (L' := []) [] ⟨List.nodup_nil, rfl⟩ ?_
    exact PJ.retn (vs := [str l10, str l8]) Try.results92 ⟨rfl, rfl, trivial⟩ ⟨rfl, rfl⟩

set_option maxRecDepth 100000 in
set_option maxHeartbeats 1000000 in
theorem ok_s_CorrectionPlan {N : Nat} {rules1 : List Over} {typed4 : Str} {want5 : Str} {r : Str × Str × Int} (hm : s_CorrectionPlan N rules1 typed4 want5 = some r) (w : World) (v2 : Value) (hr3 : RdS w (cx w).Fz v2 fOver.rp rules1) :
    Calls Try.prog 13 #[v2, str typed4, str want5] w (Ret (cx w) (tup [str r.1, str r.2.1, .int .i64 r.2.2])) := by
  unfold s_CorrectionPlan at hm
  refine Calls.enter [v2, str typed4, str want5] Try.func13 rfl Try.ntmps13 rfl ?_
  refine WJ.seq ?_
  refine WJ.quiet ?_
  refine QJ.step (YldS.yld (y_assign rfl)) rfl ?_
  refine QJ.step (YldS.yld (y_assign rfl)) rfl ?_
  refine QJ.step (YldS.yld (y_assign rfl)) rfl ?_
  refine QJ.done ?_
  refine PJ.next ?_
  refine WJ.seq ?_
  refine WJ.quiet ?_
  refine QJ.step (YldS.yld (y_move rfl)) rfl ?_
  refine QJ.step (YldS.yld (y_move rfl)) rfl ?_
  refine QJ.step (YldS.yld (y_move rfl)) rfl ?_
  obtain ⟨r6, h7, hm⟩ := bindS hm
  refine QJ.step (y_call Try.call91 rfl (RetG.quiet fun w hw => ok_s_l12Code h7 w _ (hr3.st hw))) rfl ?_
  refine QJ.step (YldS.yld (y_assign rfl)) rfl ?_
  refine QJ.done ?_
  refine PJ.next ?_
  refine WJ.seq ?_
  refine WJ.seq ?_
  refine WJ.quiet ?_
  refine QJ.step (YldS.yld (y_move rfl)) rfl ?_
  refine QJ.step (YldS.yld (y_bin rfl rfl rfl)) rfl ?_
  refine QJ.done ?_
  refine PJ.next ?_
  refine WJ.cond (t := (r6 != 0)) rfl (fun hb8 => ?_) (fun hb8 => ?_)
  · replace hm := ifT hm hb8
    refine WJ.seq ?_
    refine WJ.quiet ?_
    refine QJ.step (YldS.yld (y_move rfl)) rfl ?_
    refine QJ.step (YldS.yld (y_assign rfl)) rfl ?_
    refine QJ.step (YldS.yld (y_assign rfl)) rfl ?_
    refine QJ.step (YldS.yld (y_assign rfl)) rfl ?_
    refine QJ.done ?_
    refine PJ.next ?_
    refine WJ.ret ?_
    refine PJ.then_ret ?_
    obtain rfl := Option.some.inj hm
    refine PJ.sel (L' := []) [] ⟨List.nodup_nil, rfl⟩ ?_
    exact PJ.retn (vs := [str [], str [], .int .i64 r6]) Try.results13 ⟨rfl, rfl, rfl, trivial⟩ ⟨rfl, rfl⟩
  · replace hm := ifF hm hb8
    refine WJ.skip ?_
    refine PJ.next ?_
    refine WJ.seq ?_
    refine WJ.quiet ?_
    refine QJ.step (YldS.yld (y_move rfl)) rfl ?_
    refine QJ.step (YldS.yld (y_move rfl)) rfl ?_
    refine QJ.step (YldS.yld (y_move rfl)) rfl ?_
    obtain ⟨r9, h10, hm⟩ := bindS hm
    refine QJ.step (y_call Try.call92 rfl (RetG.quiet fun w hw => ok_s_l12Plan h10 w _ (hr3.st hw))) rfl ?_
    refine QJ.step (YldS.yld (y_move rfl)) rfl ?_
    refine QJ.step (YldS.yld (y_extract rfl rfl)) rfl ?_
    refine QJ.step (YldS.yld (y_extract rfl rfl)) rfl ?_
    refine QJ.step (YldS.yld (y_assign rfl)) rfl ?_
    refine QJ.step (YldS.yld (y_assign rfl)) rfl ?_
    refine QJ.done ?_
    refine PJ.next ?_
    refine WJ.seq ?_
    refine WJ.quiet ?_
    refine QJ.step (YldS.yld (y_move rfl)) rfl ?_
    refine QJ.step (YldS.yld (y_move rfl)) rfl ?_
    refine QJ.step (YldS.yld (y_assign rfl)) rfl ?_
    refine QJ.step (YldS.yld (y_assign rfl)) rfl ?_
    refine QJ.step (YldS.yld (y_assign rfl)) rfl ?_
    refine QJ.done ?_
    refine PJ.next ?_
    refine WJ.ret ?_
    obtain rfl := Option.some.inj hm
    refine PJ.sel (L' := []) [] ⟨List.nodup_nil, rfl⟩ ?_
    exact PJ.retn (vs := [str r9.1, str r9.2, .int .i64 0]) Try.results13 ⟨rfl, rfl, rfl, trivial⟩ ⟨rfl, rfl⟩

set_option maxRecDepth 100000 in
set_option maxHeartbeats 1000000 in
theorem ok_i_erased {N : Nat} {plan1 : Str} {r : Int} (hm : i_erased N plan1 = some r) (w : World)  :
    Calls Try.prog 93 #[str plan1] w (Ret (cx w) (.int .i64 r)) := by
  unfold i_erased at hm
  refine Calls.enter [str plan1] Try.func93 rfl Try.ntmps93 rfl ?_
  refine WJ.seq ?_
  refine WJ.quiet ?_
  refine QJ.step (YldS.yld (y_assign rfl)) rfl ?_
  refine QJ.done ?_
  refine PJ.next ?_
  refine WJ.seq ?_
  refine WJ.quiet ?_
  refine QJ.step (YldS.yld (y_assign rfl)) rfl ?_
  refine QJ.done ?_
  refine PJ.next ?_
  obtain ⟨k3, hk4, hm⟩ := withK_open hm
  refine WJ.join (X := Int) (fun (x : Int) => k3 x = some r) (fun (x : Int) => [(3, .int .i64 x)]) (fun (x : Int) => []) ?_ ?_
  · clear hk4
    refine WJ.seq ?_
    refine WJ.quiet ?_
    refine QJ.step (YldS.yld (y_move rfl)) rfl ?_
    refine QJ.step (YldS.yld (y_lenStr Try.runUnderlying9 rfl)) rfl ?_
    refine QJ.step (YldS.yld (y_move rfl)) rfl ?_
    refine QJ.done ?_
    refine PJ.next ?_
    refine WJ.block ?_
    refine WJ.sel (L' := (fun (x : Int × Int) => []) (0, 0)) [] ⟨List.nodup_nil, rfl⟩ ?_
    refine WJ.sub (m' := (fun (x : Int × Int) => [(0, str plan1), (3, .int .i64 x.1), (6, .int .i64 (List.length plan1 : Int)), (7, .int .i64 x.2)]) (0, 0)) ⟨rfl, rfl, rfl, rfl, trivial⟩ ?_
    refine WJ.loop (X := Int × Int) (fun N (x : Int × Int) => i_erased_l1 k3 plan1 N x.1 x.2 = some r) (fun (x : Int × Int) => [(0, str plan1), (3, .int .i64 x.1), (6, .int .i64 (List.length plan1 : Int)), (7, .int .i64 x.2)]) (fun (x : Int × Int) => []) ?_ N (0, 0) hm
    · rintro N ⟨n5, x6⟩ hI
      have hm := hI; clear hI
      cases N with
      | zero => cases hm
      | succ N =>
      unfold i_erased_l1 at hm
      refine WJ.seq ?_
      refine WJ.quiet ?_
      refine QJ.step (YldS.yld (y_bin rfl rfl rfl)) rfl ?_
      refine QJ.done ?_
      refine PJ.next ?_
      refine WJ.seq ?_
      refine WJ.cond (t := decide (x6 < (List.length plan1 : Int))) rfl (fun hb7 => ?_) (fun hb7 => ?_)
      · replace hm := ifT hm hb7
        refine WJ.skip ?_
        refine PJ.next ?_
        obtain ⟨k10, hk10, hm⟩ := withK_open hm
        refine WJ.join (X := Int) (fun (x : Int) => k10 x = some r) (fun (x : Int) => [(0, str plan1), (3, .int .i64 x), (6, .int .i64 (List.length plan1 : Int)), (7, .int .i64 x6)]) (fun (x : Int) => []) ?_ ?_
        · clear hk10
          refine WJ.block ?_
          refine WJ.seq ?_
          refine WJ.quiet ?_
          refine QJ.step (YldS.yld (y_move rfl)) rfl ?_
          refine QJ.step (YldS.yld (y_assign rfl)) rfl ?_
          refine QJ.done ?_
          refine PJ.next ?_
          refine WJ.seq ?_
          refine WJ.quiet ?_
          refine QJ.step (YldS.yld (y_move rfl)) rfl ?_
          refine QJ.step (YldS.yld (y_move rfl)) rfl ?_
          obtain ⟨c11, h12, hm⟩ := bindS hm
          refine QJ.step (YldS.yld (y_idxStr Try.runUnderlying9 rfl rfl h12)) rfl ?_
          refine QJ.step (YldS.yld (y_bin8 c11 (35 : UInt8) rfl rfl rfl)) rfl ?_
          refine QJ.done ?_
          refine PJ.next ?_
          refine WJ.cond (t := (c11 == (35 : UInt8))) rfl (fun hb13 => ?_) (fun hb13 => ?_)
          · replace hm := ifT hm hb13
            refine WJ.quiet ?_
            refine QJ.step (YldS.yld (y_move rfl)) rfl ?_
            refine QJ.step (YldS.yld (y_bin rfl rfl rfl)) rfl ?_
            refine QJ.step (YldS.yld (y_assign rfl)) rfl ?_
            refine QJ.done ?_
            refine PJ.block_normal ?_
            exact PJ.joined (w64 (n5 + 1)) [] hm ⟨rfl, rfl, rfl, rfl, trivial⟩ ⟨List.nodup_nil, rfl⟩
          · replace hm := ifF hm hb13
            refine WJ.skip ?_
            refine PJ.block_normal ?_
            exact PJ.joined n5 [] hm ⟨rfl, rfl, rfl, rfl, trivial⟩ ⟨List.nodup_nil, rfl⟩
        · rintro n8 hm
          subst hk10
          refine WJ.quiet ?_
          refine QJ.step (YldS.yld (y_bin rfl rfl rfl)) rfl ?_
          refine QJ.step (YldS.yld (y_move rfl)) rfl ?_
          refine QJ.done ?_
          exact PJ.round (n8, w64 (x6 + 1)) [] hm ⟨rfl, rfl, rfl, rfl, trivial⟩ ⟨List.nodup_nil, rfl⟩
      · replace hm := ifF hm hb7
        refine WJ.exit ?_
        refine PJ.then_exit (PJ.then_exit (PJ.block_exit ?_))
        exact PJ.joined n5 [] hm ⟨rfl, trivial⟩ ⟨List.nodup_nil, rfl⟩
  · rintro n2 hm
    subst hk4
    refine WJ.seq ?_
    refine WJ.quiet ?_
    refine QJ.step (YldS.yld (y_move rfl)) rfl ?_
    refine QJ.step (YldS.yld (y_assign rfl)) rfl ?_
    refine QJ.done ?_
    refine PJ.next ?_
    refine WJ.ret ?_
    obtain rfl := Option.some.inj hm
    refine PJ.sel (L' := []) [] ⟨List.nodup_nil, rfl⟩ ?_
    exact PJ.retn (vs := [.int .i64 n2]) Try.results93 ⟨rfl, trivial⟩ ⟨rfl, rfl⟩

set_option maxRecDepth 100000 in
set_option maxHeartbeats 1000000 in
theorem ok_i_FewestErased {N : Nat} {rules1 : List Over} {typed4 : Str} {want5 : Str} {r : Int × Int} (hm : i_FewestErased N rules1 typed4 want5 = some r) (w : World) (v2 : Value) (hr3 : RdS w (cx w).Fz v2 fOver.rp rules1) :
    Calls Try.prog 14 #[v2, str typed4, str want5] w (Ret (cx w) (tup [.int .i64 r.1, .int .i64 r.2])) := by
  unfold i_FewestErased at hm
  refine Calls.enter [v2, str typed4, str want5] Try.func14 rfl Try.ntmps14 rfl ?_
  refine WJ.seq ?_
  refine WJ.quiet ?_
  refine QJ.step (YldS.yld (y_assign rfl)) rfl ?_
  refine QJ.step (YldS.yld (y_assign rfl)) rfl ?_
  refine QJ.done ?_
  refine PJ.next ?_
  refine WJ.seq ?_
  refine WJ.quiet ?_
  refine QJ.step (YldS.yld (y_move rfl)) rfl ?_
  refine QJ.step (YldS.yld (y_move rfl)) rfl ?_
  refine QJ.step (YldS.yld (y_move rfl)) rfl ?_
  obtain ⟨r6, h7, hm⟩ := bindS hm
  refine QJ.step (y_call Try.call12 rfl (RetG.quiet fun w hw => ok_i_CorrectionPlan h7 w _ (hr3.st hw))) rfl ?_
  refine QJ.step (YldS.yld (y_move rfl)) rfl ?_
  refine QJ.step (YldS.yld (y_extract rfl rfl)) rfl ?_
  refine QJ.step (YldS.yld (y_extract rfl rfl)) rfl ?_
  refine QJ.step (YldS.yld (y_extract rfl rfl)) rfl ?_
  refine QJ.step (YldS.yld (y_assign rfl)) rfl ?_
  refine QJ.step (YldS.yld (y_assign rfl)) rfl ?_
  refine QJ.step (YldS.yld (y_assign rfl)) rfl ?_
  refine QJ.done ?_
  refine PJ.next ?_
  refine WJ.seq ?_
  refine WJ.seq ?_
  refine WJ.quiet ?_
  refine QJ.step (YldS.yld (y_move rfl)) rfl ?_
  refine QJ.step (YldS.yld (y_bin rfl rfl rfl)) rfl ?_
  refine QJ.done ?_
  refine PJ.next ?_
  refine WJ.cond (t := (r6.2.2 != 0)) rfl (fun hb8 => ?_) (fun hb8 => ?_)
  · replace hm := ifT hm hb8
    refine WJ.seq ?_
    refine WJ.quiet ?_
    refine QJ.step (YldS.yld (y_move rfl)) rfl ?_
    refine QJ.step (YldS.yld (y_assign rfl)) rfl ?_
    refine QJ.step (YldS.yld (y_assign rfl)) rfl ?_
    refine QJ.done ?_
    refine PJ.next ?_
    refine WJ.ret ?_
    refine PJ.then_ret ?_
    obtain rfl := Option.some.inj hm
    refine PJ.sel (L' := []) [] ⟨List.nodup_nil, rfl⟩ ?_
    exact PJ.retn (vs := [.int .i64 0, .int .i64 r6.2.2]) Try.results14 ⟨rfl, rfl, trivial⟩ ⟨rfl, rfl⟩
  · replace hm := ifF hm hb8
    refine WJ.skip ?_
    refine PJ.next ?_
    refine WJ.seq ?_
    refine WJ.quiet ?_
    refine QJ.step (YldS.yld (y_move rfl)) rfl ?_
    obtain ⟨r9, h10, hm⟩ := bindS hm
    refine QJ.step (y_call Try.call93 rfl (RetG.quiet fun w hw => ok_i_erased h10 w )) rfl ?_
    refine QJ.step (YldS.yld (y_assign rfl)) rfl ?_
    refine QJ.step (YldS.yld (y_assign rfl)) rfl ?_
    refine QJ.done ?_
    refine PJ.next ?_
    refine WJ.ret ?_
    obtain rfl := Option.some.inj hm
    refine PJ.sel (L' := []) [] ⟨List.nodup_nil, rfl⟩ ?_
    exact PJ.retn (vs := [.int .i64 r9, .int .i64 0]) Try.results14 ⟨rfl, rfl, trivial⟩ ⟨rfl, rfl⟩

set_option maxRecDepth 100000 in
set_option maxHeartbeats 1000000 in
theorem ok_s_l12Erased {N : Nat} {plan1 : Str} {r : Int} (hm : s_l12Erased N plan1 = some r) (w : World)  :
    Calls Try.prog 94 #[str plan1] w (Ret (cx w) (.int .i64 r)) := by
  unfold s_l12Erased at hm
  refine Calls.enter [str plan1] Try.func94 rfl Try.ntmps94 rfl ?_
  refine WJ.seq ?_
  refine WJ.quiet ?_
  refine QJ.step (YldS.yld (y_assign rfl)) rfl ?_
  refine QJ.done ?_
  refine PJ.next ?_
  refine WJ.seq ?_
  refine WJ.quiet ?_
  refine QJ.step (YldS.yld (y_assign rfl)) rfl ?_
  refine QJ.done ?_
  refine PJ.next ?_
  obtain ⟨k3, hk4, hm⟩ := withK_open hm
  refine WJ.join (X := Int) (fun (x : Int) => k3 x = some r) (fun (x : Int) => [(3, .int .i64 x)]) (fun (x : Int) => []) ?_ ?_
  · clear hk4
    refine WJ.seq ?_
    refine WJ.quiet ?_
    refine QJ.step (YldS.yld (y_assign rfl)) rfl ?_
    refine QJ.done ?_
    refine PJ.next ?_
    refine WJ.block ?_
    refine WJ.sel (L' := (fun (x : Int × Int) => []) (0, 0)) [] ⟨List.nodup_nil, rfl⟩ ?_
    refine WJ.sub (m' := (fun (x : Int × Int) => [(0, str plan1), (3, .int .i64 x.1), (4, .int .i64 x.2)]) (0, 0)) ⟨rfl, rfl, rfl, trivial⟩ ?_
    refine WJ.loop (X := Int × Int) (fun N (x : Int × Int) => s_l12Erased_l1 k3 plan1 N x.1 x.2 = some r) (fun (x : Int × Int) => [(0, str plan1), (3, .int .i64 x.1), (4, .int .i64 x.2)]) (fun (x : Int × Int) => []) ?_ N (0, 0) hm
    · rintro N ⟨n5, i6⟩ hI
      have hm := hI; clear hI
      cases N with
      | zero => cases hm
      | succ N =>
      unfold s_l12Erased_l1 at hm
      refine WJ.seq ?_
      refine WJ.seq ?_
      refine WJ.quiet ?_
      refine QJ.step (YldS.yld (y_move rfl)) rfl ?_
      refine QJ.step (YldS.yld (y_move rfl)) rfl ?_
      refine QJ.step (YldS.yld (y_lenStr Try.runUnderlying9 rfl)) rfl ?_
      refine QJ.step (YldS.yld (y_bin rfl rfl rfl)) rfl ?_
      refine QJ.done ?_
      refine PJ.next ?_
      refine WJ.cond (t := decide (i6 < (List.length plan1 : Int))) rfl (fun hb7 => ?_) (fun hb7 => ?_)
      · replace hm := ifT hm hb7
        refine WJ.skip ?_
        refine PJ.next ?_
        obtain ⟨k10, hk10, hm⟩ := withK_open hm
        refine WJ.join (X := Int) (fun (x : Int) => k10 x = some r) (fun (x : Int) => [(0, str plan1), (3, .int .i64 x), (4, .int .i64 i6)]) (fun (x : Int) => []) ?_ ?_
        · clear hk10
          refine WJ.block ?_
          refine WJ.seq ?_
          refine WJ.quiet ?_
          refine QJ.step (YldS.yld (y_move rfl)) rfl ?_
          refine QJ.step (YldS.yld (y_move rfl)) rfl ?_
          obtain ⟨c11, h12, hm⟩ := bindS hm
          refine QJ.step (YldS.yld (y_idxStr Try.runUnderlying9 rfl rfl h12)) rfl ?_
          refine QJ.step (YldS.yld (y_bin8 c11 (35 : UInt8) rfl rfl rfl)) rfl ?_
          refine QJ.done ?_
          refine PJ.next ?_
          refine WJ.cond (t := (c11 == (35 : UInt8))) rfl (fun hb13 => ?_) (fun hb13 => ?_)
          · replace hm := ifT hm hb13
            refine WJ.quiet ?_
            refine QJ.step (YldS.yld (y_move rfl)) rfl ?_
            refine QJ.step (YldS.yld (y_bin rfl rfl rfl)) rfl ?_
            refine QJ.step (YldS.yld (y_assign rfl)) rfl ?_
            refine QJ.done ?_
            refine PJ.block_normal ?_
            exact PJ.joined (w64 (n5 + 1)) [] hm ⟨rfl, rfl, rfl, trivial⟩ ⟨List.nodup_nil, rfl⟩
          · replace hm := ifF hm hb13
            refine WJ.skip ?_
            refine PJ.block_normal ?_
            exact PJ.joined n5 [] hm ⟨rfl, rfl, rfl, trivial⟩ ⟨List.nodup_nil, rfl⟩
        · rintro n8 hm
          subst hk10
          refine WJ.quiet ?_
          refine QJ.step (YldS.yld (y_move rfl)) rfl ?_
          refine QJ.step (YldS.yld (y_bin rfl rfl rfl)) rfl ?_
          refine QJ.step (YldS.yld (y_assign rfl)) rfl ?_
          refine QJ.done ?_
          exact PJ.round (n8, w64 (i6 + 1)) [] hm ⟨rfl, rfl, rfl, trivial⟩ ⟨List.nodup_nil, rfl⟩
      · replace hm := ifF hm hb7
        refine WJ.exit ?_
        refine PJ.then_exit (PJ.then_exit (PJ.block_exit ?_))
        exact PJ.joined n5 [] hm ⟨rfl, trivial⟩ ⟨List.nodup_nil, rfl⟩
  · rintro n2 hm
    subst hk4
    refine WJ.seq ?_
    refine WJ.quiet ?_
    refine QJ.step (YldS.yld (y_move rfl)) rfl ?_
    refine QJ.step (YldS.yld (y_assign rfl)) rfl ?_
    refine QJ.done ?_
    refine PJ.next ?_
    refine WJ.ret ?_
    obtain rfl := Option.some.inj hm
    refine PJ.sel (L' := []) [] ⟨List.nodup_nil, rfl⟩ ?_
    exact PJ.retn (vs := [.int .i64 n2]) Try.results94 ⟨rfl, trivial⟩ ⟨rfl, rfl⟩

set_option maxRecDepth 100000 in
set_option maxHeartbeats 1000000 in
theorem ok_s_FewestErased {N : Nat} {rules1 : List Over} {typed4 : Str} {want5 : Str} {r : Int × Int} (hm : s_FewestErased N rules1 typed4 want5 = some r) (w : World) (v2 : Value) (hr3 : RdS w (cx w).Fz v2 fOver.rp rules1) :
    Calls Try.prog 15 #[v2, str typed4, str want5] w (Ret (cx w) (tup [.int .i64 r.1, .int .i64 r.2])) := by
  unfold s_FewestErased at hm
  refine Calls.enter [v2, str typed4, str want5] Try.func15 rfl Try.ntmps15 rfl ?_
  refine WJ.seq ?_
  refine WJ.quiet ?_
  refine QJ.step (YldS.yld (y_assign rfl)) rfl ?_
  refine QJ.step (YldS.yld (y_assign rfl)) rfl ?_
  refine QJ.done ?_
  refine PJ.next ?_
  refine WJ.seq ?_
  refine WJ.quiet ?_
  refine QJ.step (YldS.yld (y_move rfl)) rfl ?_
  refine QJ.step (YldS.yld (y_move rfl)) rfl ?_
  refine QJ.step (YldS.yld (y_move rfl)) rfl ?_
  obtain ⟨r6, h7, hm⟩ := bindS hm
  refine QJ.step (y_call Try.call91 rfl (RetG.quiet fun w hw => ok_s_l12Code h7 w _ (hr3.st hw))) rfl ?_
  refine QJ.step (YldS.yld (y_assign rfl)) rfl ?_
  refine QJ.done ?_
  refine PJ.next ?_
  refine WJ.seq ?_
  refine WJ.seq ?_
  refine WJ.quiet ?_
  refine QJ.step (YldS.yld (y_move rfl)) rfl ?_
  refine QJ.step (YldS.yld (y_bin rfl rfl rfl)) rfl ?_
  refine QJ.done ?_
  refine PJ.next ?_
  refine WJ.cond (t := (r6 != 0)) rfl (fun hb8 => ?_) (fun hb8 => ?_)
  · replace hm := ifT hm hb8
    refine WJ.seq ?_
    refine WJ.quiet ?_
    refine QJ.step (YldS.yld (y_move rfl)) rfl ?_
    refine QJ.step (YldS.yld (y_assign rfl)) rfl ?_
    refine QJ.step (YldS.yld (y_assign rfl)) rfl ?_
    refine QJ.done ?_
    refine PJ.next ?_
    refine WJ.ret ?_
    refine PJ.then_ret ?_
    obtain rfl := Option.some.inj hm
    refine PJ.sel (L' := []) [] ⟨List.nodup_nil, rfl⟩ ?_
    exact PJ.retn (vs := [.int .i64 0, .int .i64 r6]) Try.results15 ⟨rfl, rfl, trivial⟩ ⟨rfl, rfl⟩
  · replace hm := ifF hm hb8
    refine WJ.skip ?_
    refine PJ.next ?_
    refine WJ.seq ?_
    refine WJ.quiet ?_
    refine QJ.step (YldS.yld (y_move rfl)) rfl ?_
    refine QJ.step (YldS.yld (y_move rfl)) rfl ?_
    refine QJ.step (YldS.yld (y_move rfl)) rfl ?_
    obtain ⟨r9, h10, hm⟩ := bindS hm
    refine QJ.step (y_call Try.call92 rfl (RetG.quiet fun w hw => ok_s_l12Plan h10 w _ (hr3.st hw))) rfl ?_
    refine QJ.step (YldS.yld (y_move rfl)) rfl ?_
    refine QJ.step (YldS.yld (y_extract rfl rfl)) rfl ?_
    refine QJ.step (YldS.yld (y_extract rfl rfl)) rfl ?_
    refine QJ.step (YldS.yld (y_assign rfl)) rfl ?_
    refine QJ.step (YldS.yld (y_assign rfl)) rfl ?_
    refine QJ.done ?_
    refine PJ.next ?_
    refine WJ.seq ?_
    refine WJ.quiet ?_
    refine QJ.step (YldS.yld (y_move rfl)) rfl ?_
    obtain ⟨r11, h12, hm⟩ := bindS hm
    refine QJ.step (y_call Try.call94 rfl (RetG.quiet fun w hw => ok_s_l12Erased h12 w )) rfl ?_
    refine QJ.step (YldS.yld (y_assign rfl)) rfl ?_
    refine QJ.step (YldS.yld (y_assign rfl)) rfl ?_
    refine QJ.done ?_
    refine PJ.next ?_
    refine WJ.ret ?_
    obtain rfl := Option.some.inj hm
    refine PJ.sel (L' := []) [] ⟨List.nodup_nil, rfl⟩ ?_
    exact PJ.retn (vs := [.int .i64 r11, .int .i64 0]) Try.results15 ⟨rfl, rfl, trivial⟩ ⟨rfl, rfl⟩

set_option maxRecDepth 100000 in
set_option maxHeartbeats 1000000 in
theorem ok_s_l12DrawPlan {N : Nat} {s1 : L00Src} {g2 : Nat} {r : Str × L00Src} (hm : s_l12DrawPlan N s1 = some r) (w : World) (S : Nat → Prop) (v3 : Value) (hr4 : RdS w (Cx.Fz ⟨w, S⟩) v3 fByte.rp s1.code) (hA : (box g2 185 [v3, .int .i64 s1.at_, .int .u64 s1.seed]).holds w S) :
    Calls Try.prog 96 #[pt g2 0] w (RetG ⟨w, S⟩ fun u L => (u = str r.1 ∧ L = [box g2 185 [v3, .int .i64 r.2.at_, .int .u64 r.2.seed]])) := by
  unfold s_l12DrawPlan at hm
  refine Calls.enter1 hA [pt g2 0] Try.func96 rfl Try.ntmps96 rfl ?_
  refine WJ.seq ?_
  refine WJ.quiet ?_
  refine QJ.step (YldS.yld (y_assign rfl)) rfl ?_
  refine QJ.done ?_
  refine PJ.next ?_
  refine WJ.seq ?_
  refine WJ.reg ?_
  refine SJ.buildSlice (R := fByte) (os := []) [] Try.runUnderlying22 Try.sizeOf5 Try.zeroValue5 rfl rfl rfl rfl rfl rfl fun v5 => ?_
  refine SJ.q (YldS.yld (y_assign rfl)) rfl ?_
  refine SJ.nil ?_
  refine PJ.next ?_
  refine WJ.seq ?_
  refine WJ.reg ?_
  refine SJ.q (YldS.yld (y_move rfl)) rfl ?_
  obtain ⟨r6, h7, hm⟩ := bindS hm
  refine SJ.call1 (k := 1) rfl Try.call97 rfl (fun w S hw hA hO => ok_s_l00Src_pick h7 w S _ (hr4.st1 hw hO) hA) rfl ?_
  rintro _ _ ⟨rfl, rfl⟩
  refine SJ.q (YldS.yld (y_assign rfl)) rfl ?_
  refine SJ.nil ?_
  refine PJ.next ?_
  obtain ⟨k11, hk12, hm⟩ := withK_open hm
  refine WJ.join (X := Int × Int × Int) (fun (x : Int × Int × Int) => k11 x.1 x.2.1 x.2.2 = some r) (fun (x : Int × Int × Int) => [(0, pt g2 0), (3, v5), (4, .int .i64 x.2.2)]) (fun (x : Int × Int × Int) => [box g2 185 [v3, .int .i64 x.1, .int .u64 x.2.1], row v5 5 fByte []]) ?_ ?_
  · clear hk12
    refine WJ.seq ?_
    refine WJ.reg ?_
    refine SJ.q (YldS.yld (y_move rfl)) rfl ?_
    obtain ⟨r13, h14, hm⟩ := bindS hm
    refine SJ.call1 (k := 0) rfl Try.call121 rfl (fun w S hw hA hO => ok_s_l00Src_one h14 w S _ (hr4.st1 hw hO) hA) rfl ?_
    rintro _ _ ⟨rfl, rfl⟩
    refine SJ.nil ?_
    refine PJ.next ?_
    refine WJ.cond (t := r13.1) rfl (fun hb15 => ?_) (fun hb15 => ?_)
    · replace hm := ifT hm hb15
      refine WJ.reg ?_
      refine SJ.q (YldS.yld (y_move rfl)) rfl ?_
      obtain ⟨r16, h17, hm⟩ := bindS hm
      refine SJ.call1 (k := 0) rfl Try.call97 rfl (fun w S hw hA hO => ok_s_l00Src_pick h17 w S _ (hr4.st1 hw hO) hA) rfl ?_
      rintro _ _ ⟨rfl, rfl⟩
      refine SJ.q (YldS.yld (y_bin rfl rfl rfl)) rfl ?_
      refine SJ.q (YldS.yld (y_assign rfl)) rfl ?_
      refine SJ.nil ?_
      exact PJ.joined (r16.2.at_, r16.2.seed, w64 (60 + r16.1)) [0, 1] hm ⟨rfl, rfl, rfl, trivial⟩ ⟨by decide, rfl⟩
    · replace hm := ifF hm hb15
      refine WJ.skip ?_
      exact PJ.joined (r13.2.at_, r13.2.seed, r6.1) [0, 1] hm ⟨rfl, rfl, rfl, trivial⟩ ⟨by decide, rfl⟩
  · rintro ⟨x8, x9, n10⟩ hm
    subst hk12
    obtain ⟨k22, hk23, hm⟩ := withK_open hm
    refine WJ.join (X := Int × Int × (List UInt8) × Value) (fun (x : Int × Int × (List UInt8) × Value) => k22 x.1 x.2.1 x.2.2.1 = some r) (fun (x : Int × Int × (List UInt8) × Value) => [(0, pt g2 0), (3, x.2.2.2), (4, .int .i64 n10)]) (fun (x : Int × Int × (List UInt8) × Value) => [box g2 185 [v3, .int .i64 x.1, .int .u64 x.2.1], row x.2.2.2 5 fByte x.2.2.1]) ?_ ?_
    · clear hk23
      refine WJ.seq ?_
      refine WJ.quiet ?_
      refine QJ.step (YldS.yld (y_move rfl)) rfl ?_
      refine QJ.step (YldS.yld (y_assign rfl)) rfl ?_
      refine QJ.done ?_
      refine PJ.next ?_
      refine WJ.block ?_
      refine WJ.sel (L' := (fun (x : Int × Int × (List UInt8) × Value × Int) => [box g2 185 [v3, .int .i64 x.1, .int .u64 x.2.1], row x.2.2.2.1 5 fByte x.2.2.1]) (x8, x9, [], v5, n10)) [0, 1] ⟨by decide, rfl⟩ ?_
      refine WJ.sub (m' := (fun (x : Int × Int × (List UInt8) × Value × Int) => [(0, pt g2 0), (3, x.2.2.2.1), (4, .int .i64 n10), (5, .int .i64 x.2.2.2.2)]) (x8, x9, [], v5, n10)) ⟨rfl, rfl, rfl, rfl, trivial⟩ ?_
      refine WJ.loop (X := Int × Int × (List UInt8) × Value × Int) (fun N (x : Int × Int × (List UInt8) × Value × Int) => s_l12DrawPlan_l1 k22 s1 N x.1 x.2.1 x.2.2.1 x.2.2.2.2 = some r) (fun (x : Int × Int × (List UInt8) × Value × Int) => [(0, pt g2 0), (3, x.2.2.2.1), (4, .int .i64 n10), (5, .int .i64 x.2.2.2.2)]) (fun (x : Int × Int × (List UInt8) × Value × Int) => [box g2 185 [v3, .int .i64 x.1, .int .u64 x.2.1], row x.2.2.2.1 5 fByte x.2.2.1]) ?_ N (x8, x9, [], v5, n10) hm
      · rintro N ⟨x24, x25, l26, v27, k28⟩ hI
        have hm := hI; clear hI
        cases N with
        | zero => cases hm
        | succ N =>
        unfold s_l12DrawPlan_l1 at hm
        refine WJ.seq ?_
        refine WJ.seq ?_
        refine WJ.quiet ?_
        refine QJ.step (YldS.yld (y_move rfl)) rfl ?_
        refine QJ.step (YldS.yld (y_bin rfl rfl rfl)) rfl ?_
        refine QJ.done ?_
        refine PJ.next ?_
        refine WJ.cond (t := decide (k28 > 0)) rfl (fun hb29 => ?_) (fun hb29 => ?_)
        · replace hm := ifT hm hb29
          refine WJ.skip ?_
          refine PJ.next ?_
          refine WJ.seq ?_
          refine WJ.block ?_
          refine WJ.reg ?_
          refine SJ.q (YldS.yld (y_move rfl)) rfl ?_
          refine SJ.q (YldS.yld (y_move rfl)) rfl ?_
          obtain ⟨r30, h31, hm⟩ := bindS hm
          refine SJ.call1 (k := 0) rfl Try.call97 rfl (fun w S hw hA hO => ok_s_l00Src_pick h31 w S _ (hr4.st1 hw hO) hA) rfl ?_
          rintro _ _ ⟨rfl, rfl⟩
          obtain ⟨c32, h33, hm⟩ := bindS hm
          refine SJ.q (YldS.yld (y_idxStr Try.runUnderlying9 rfl rfl h33)) rfl ?_
          refine SJ.buildSlice (R := fByte) (os := [.tmp 22]) [c32] Try.runUnderlying22 Try.sizeOf5 Try.zeroValue5 rfl rfl rfl rfl rfl rfl fun v34 => ?_
          obtain ⟨l35, h36, hm⟩ := bindS hm
          refine SJ.append (k := 2) (R := fByte) h36 rfl Try.underlying22 el5 rfl rfl rfl (fun w hw => (hw.row_rd (k := 0) rfl)) rfl fun v37 => ?_
          refine SJ.q (YldS.yld (y_assign rfl)) rfl ?_
          refine SJ.nil ?_
          refine PJ.block_normal (PJ.next ?_)
          refine WJ.quiet ?_
          refine QJ.step (YldS.yld (y_move rfl)) rfl ?_
          refine QJ.step (YldS.yld (y_bin rfl rfl rfl)) rfl ?_
          refine QJ.step (YldS.yld (y_assign rfl)) rfl ?_
          refine QJ.done ?_
          exact PJ.round (r30.2.at_, r30.2.seed, l35, v37, w64 (k28 - 1)) [1, 2] hm ⟨rfl, rfl, rfl, rfl, trivial⟩ ⟨by decide, rfl⟩
        · replace hm := ifF hm hb29
          refine WJ.exit ?_
          refine PJ.then_exit (PJ.then_exit (PJ.block_exit ?_))
          exact PJ.joined (x24, x25, l26, v27) [0, 1] hm ⟨rfl, rfl, rfl, trivial⟩ ⟨by decide, rfl⟩
    · rintro ⟨x18, x19, l20, v21⟩ hm
      subst hk23
      obtain ⟨k41, hk42, hm⟩ := withK_open hm
      refine WJ.join (X := Int × Int × (List UInt8)) (fun (x : Int × Int × (List UInt8)) => k41 x.1 x.2.1 x.2.2 = some r) (fun (x : Int × Int × (List UInt8)) => [(3, v21)]) (fun (x : Int × Int × (List UInt8)) => [box g2 185 [v3, .int .i64 x.1, .int .u64 x.2.1], row v21 5 fByte x.2.2]) ?_ ?_
      · clear hk42
        refine WJ.seq ?_
        refine WJ.reg ?_
        refine SJ.q (YldS.yld (y_move rfl)) rfl ?_
        refine SJ.q (YldS.yld (y_bin rfl rfl rfl)) rfl ?_
        refine SJ.q (YldS.yld (y_move rfl)) rfl ?_
        obtain ⟨x45, h44, hm⟩ := bindS hm
        refine SJ.cut 3 [(3, v21), (30, .bool x45.1)] [box g2 185 [v3, .int .i64 x45.2.at_, .int .u64 x45.2.seed], row v21 5 fByte l20] ?_ ?_
        · rcases Bool.eq_false_or_eq_true (decide (n10 > 0)) with hb46 | hb46
          · replace h44 := ifT h44 hb46
            refine SJ.on rfl rfl (cB hb46) (SJ.q (YldS.yld (y_move rfl)) rfl ?_)
            obtain ⟨r47, h48, h44⟩ := bindS h44
            refine SJ.on rfl rfl (cB hb46) (SJ.call1 (k := 0) rfl Try.call121 rfl (fun w S hw hA hO => ok_s_l00Src_one h48 w S _ (hr4.st1 hw hO) hA) rfl ?_)
            rintro _ _ ⟨rfl, rfl⟩
            refine SJ.q (YldS.yld (y_pick_t (cB hb46) rfl)) rfl ?_
            obtain rfl := Option.some.inj h44
            exact SJ.cut_end [0, 1] ⟨rfl, rfl, trivial⟩ ⟨by decide, rfl⟩
          · replace h44 := ifF h44 hb46
            obtain rfl := Option.some.inj h44
            refine SJ.off rfl rfl (cB hb46) rfl rfl ?_
            refine SJ.off rfl rfl (cB hb46) rfl rfl ?_
            refine SJ.q (YldS.yld (y_pick_f (cB hb46) rfl)) rfl ?_
            exact SJ.cut_end [0, 1] ⟨rfl, rfl, trivial⟩ ⟨by decide, rfl⟩
        refine SJ.nil ?_
        refine PJ.next ?_
        refine WJ.cond (t := x45.1) rfl (fun hb49 => ?_) (fun hb49 => ?_)
        · replace hm := ifT hm hb49
          refine WJ.reg ?_
          refine SJ.q (YldS.yld (y_move rfl)) rfl ?_
          obtain ⟨e50, h51, hm⟩ := bindS hm
          refine SJ.q (YldS.yld (y_ixRow (k := 1) (R := fByte) rfl Try.runUnderlying22 Try.sizeOf5 rfl rfl h51)) rfl ?_
          refine SJ.storeRL (k := 1) (i := (Int.toNat 0)) (off := 0) (us := [.int .u8 (UInt8.toNat 120 : Int)]) (b := 120) rfl rfl (idx_get h51) rfl rfl Try.sizeOf5 rfl rfl rfl ?_
          refine SJ.nil ?_
          exact PJ.joined (x45.2.at_, x45.2.seed, (List.set l20 (Int.toNat 0) 120)) [0, 1] hm ⟨rfl, trivial⟩ ⟨by decide, rfl⟩
        · replace hm := ifF hm hb49
          refine WJ.skip ?_
          exact PJ.joined (x45.2.at_, x45.2.seed, l20) [0, 1] hm ⟨rfl, trivial⟩ ⟨by decide, rfl⟩
      · rintro ⟨x38, x39, l40⟩ hm
        subst hk42
        refine WJ.seq ?_
        refine WJ.quiet ?_
        refine QJ.step (YldS.yld (y_move rfl)) rfl ?_
        refine QJ.step (YldS.yld (y_b2s Try.underlying22 Try.underlying9 Try.underlying5 (fun w hw => ⟨_, (hw.row_rd (k := 1) rfl)⟩) rfl)) rfl ?_
        refine QJ.step (YldS.yld (y_assign rfl)) rfl ?_
        refine QJ.done ?_
        refine PJ.next ?_
        refine WJ.ret ?_
        obtain rfl := Option.some.inj hm
        refine PJ.sel (L' := [box g2 185 [v3, .int .i64 x38, .int .u64 x39]]) [0] ⟨by decide, rfl⟩ ?_
        exact PJ.retn (vs := [str l40]) Try.results96 ⟨rfl, trivial⟩ ⟨rfl, rfl⟩

set_option maxRecDepth 100000 in
set_option maxHeartbeats 1000000 in
theorem ok_s_DrawApplyPlan {N : Nat} {code1 : List UInt8} {r : (List Over) × Str × Str × Str} (hm : s_DrawApplyPlan N code1 = some r) (w : World) (v2 : Value) (hr3 : RdS w (cx w).Fz v2 fByte.rp code1) :
    Calls Try.prog 16 #[v2] w (RetG (cx w) fun u L => ∃ (u1 : Value), (u = tup [u1, str r.2.1, str r.2.2.1, str r.2.2.2] ∧ L = [row u1 39 fOver r.1])) := by
  unfold s_DrawApplyPlan at hm
  refine Calls.enter [v2] Try.func16 rfl Try.ntmps16 rfl ?_
  refine WJ.seq ?_
  refine WJ.quiet ?_
  refine QJ.step (YldS.yld (y_assign rfl)) rfl ?_
  refine QJ.step (YldS.yld (y_assign rfl)) rfl ?_
  refine QJ.step (YldS.yld (y_assign rfl)) rfl ?_
  refine QJ.step (YldS.yld (y_assign rfl)) rfl ?_
  refine QJ.done ?_
  refine PJ.next ?_
  refine WJ.seq ?_
  refine WJ.reg ?_
  refine SJ.q (YldS.yld (y_move rfl)) rfl ?_
  obtain ⟨r4, h5, hm⟩ := bindS hm
  refine SJ.call Try.call88 rfl (fun w hw => ok_s_l12Two h5 w _ (hr3.st hw)) rfl ?_
  rintro _ _ ⟨v6, rfl, rfl⟩
  refine SJ.q (YldS.yld (y_move rfl)) rfl ?_
  refine SJ.q (YldS.yld (y_extract rfl rfl)) rfl ?_
  refine SJ.q (YldS.yld (y_extract rfl rfl)) rfl ?_
  refine SJ.q (YldS.yld (y_extract rfl rfl)) rfl ?_
  refine SJ.q (YldS.yld (y_assign rfl)) rfl ?_
  refine SJ.q (YldS.yld (y_assign rfl)) rfl ?_
  refine SJ.q (YldS.yld (y_assign rfl)) rfl ?_
  refine SJ.nil ?_
  refine PJ.next ?_
  refine WJ.seq ?_
  refine WJ.reg ?_
  refine SJ.q (YldS.yld (y_move rfl)) rfl ?_
  obtain ⟨r7, h8, hm⟩ := bindS hm
  refine SJ.call Try.call95 rfl (fun w hw => ok_s_l00From h8 w _ (hr3.st hw)) rfl ?_
  rintro _ _ ⟨g9, rfl, rfl⟩
  refine SJ.q (YldS.yld (y_assign rfl)) rfl ?_
  refine SJ.nil ?_
  refine PJ.next ?_
  refine WJ.seq ?_
  refine WJ.quiet ?_
  refine QJ.step (YldS.yld (y_move rfl)) rfl ?_
  refine QJ.step (YldS.yld (y_move rfl)) rfl ?_
  refine QJ.step (YldS.yld (y_move rfl)) rfl ?_
  obtain ⟨r10, h11, hm⟩ := bindS hm
  refine QJ.step (y_call Try.call13 rfl (RetG.quiet fun w hw => ok_s_CorrectionPlan h11 w _ (hw.row_rd (k := 1) rfl))) rfl ?_
  refine QJ.step (YldS.yld (y_move rfl)) rfl ?_
  refine QJ.step (YldS.yld (y_extract rfl rfl)) rfl ?_
  refine QJ.step (YldS.yld (y_extract rfl rfl)) rfl ?_
  refine QJ.step (YldS.yld (y_extract rfl rfl)) rfl ?_
  refine QJ.step (YldS.yld (y_assign rfl)) rfl ?_
  refine QJ.step (YldS.yld (y_assign rfl)) rfl ?_
  refine QJ.step (YldS.yld (y_assign rfl)) rfl ?_
  refine QJ.done ?_
  refine PJ.next ?_
  refine WJ.seq ?_
  refine WJ.seq ?_
  refine WJ.quiet ?_
  refine QJ.step (YldS.yld (y_move rfl)) rfl ?_
  refine QJ.step (YldS.yld (y_bin rfl rfl rfl)) rfl ?_
  refine QJ.done ?_
  refine PJ.next ?_
  refine WJ.cond (t := (r10.2.2 != 0)) rfl (fun hb12 => ?_) (fun hb12 => ?_)
  · replace hm := ifT hm hb12
    refine WJ.seq ?_
    refine WJ.reg ?_
    refine SJ.q (YldS.yld (y_move rfl)) rfl ?_
    refine SJ.q (YldS.yld (y_move rfl)) rfl ?_
    refine SJ.q (YldS.yld (y_move rfl)) rfl ?_
    obtain ⟨r13, h14, hm⟩ := bindS hm
    refine SJ.call1 (k := 0) rfl Try.call96 rfl (fun w S hw hA hO => ok_s_l12DrawPlan h14 w S _ (hr3.st1 hw hO) hA) rfl ?_
    rintro _ _ ⟨rfl, rfl⟩
    refine SJ.q (YldS.yld (y_move rfl)) rfl ?_
    refine SJ.q (YldS.yld (y_assign rfl)) rfl ?_
    refine SJ.q (YldS.yld (y_assign rfl)) rfl ?_
    refine SJ.q (YldS.yld (y_assign rfl)) rfl ?_
    refine SJ.q (YldS.yld (y_assign rfl)) rfl ?_
    refine SJ.nil ?_
    refine PJ.next ?_
    refine WJ.ret ?_
    refine PJ.then_ret ?_
    obtain rfl := Option.some.inj hm
    refine PJ.sel (L' := [row v6 39 fOver r4.1]) [1] ⟨by decide, rfl⟩ ?_
    exact PJ.retn (vs := [v6, str r4.2.1, str r13.1, str r4.2.2]) Try.results16 ⟨rfl, rfl, rfl, rfl, trivial⟩ ⟨_, rfl, rfl⟩
  · replace hm := ifF hm hb12
    refine WJ.skip ?_
    refine PJ.next ?_
    obtain ⟨k17, hk18, hm⟩ := withK_open hm
    refine WJ.join (X := Str × Str) (fun (x : Str × Str) => k17 x.1 x.2 = some r) (fun (x : Str × Str) => [(6, v6), (7, str r4.2.1), (10, str x.1), (11, str x.2)]) (fun (x : Str × Str) => [row v6 39 fOver r4.1]) ?_ ?_
    · clear hk18
      refine WJ.seq ?_
      refine WJ.reg ?_
      refine SJ.q (YldS.yld (y_move rfl)) rfl ?_
      obtain ⟨r19, h20, hm⟩ := bindS hm
      refine SJ.call1 (k := 0) rfl Try.call97 rfl (fun w S hw hA hO => ok_s_l00Src_pick h20 w S _ (hr3.st1 hw hO) hA) rfl ?_
      rintro _ _ ⟨rfl, rfl⟩
      refine SJ.nil ?_
      refine PJ.next ?_
      refine WJ.block ?_
      refine WJ.seq ?_
      refine WJ.quiet ?_
      refine QJ.step (YldS.yld (y_bin rfl rfl rfl)) rfl ?_
      refine QJ.step (YldS.yld (y_assign rfl)) rfl ?_
      refine QJ.done ?_
      refine PJ.next ?_
      refine WJ.cond (t := (r19.1 == 0)) rfl (fun hb21 => ?_) (fun hb21 => ?_)
      · replace hm := ifT hm hb21
        refine WJ.quiet ?_
        refine QJ.step (YldS.yld (y_move rfl)) rfl ?_
        obtain ⟨s22, h23, hm⟩ := bindS hm
        refine QJ.step (YldS.yld (y_cat h23 rfl rfl)) rfl ?_
        refine QJ.step (YldS.yld (y_assign rfl)) rfl ?_
        refine QJ.done ?_
        refine PJ.block_normal ?_
        exact PJ.joined (s22, r10.2.1) [1] hm ⟨rfl, rfl, rfl, rfl, trivial⟩ ⟨by decide, rfl⟩
      · replace hm := ifF hm hb21
        refine WJ.seq ?_
        refine WJ.quiet ?_
        refine QJ.step (YldS.yld (y_bin rfl rfl rfl)) rfl ?_
        refine QJ.step (YldS.yld (y_assign rfl)) rfl ?_
        refine QJ.done ?_
        refine PJ.next ?_
        refine WJ.cond (t := (r19.1 == 1)) rfl (fun hb24 => ?_) (fun hb24 => ?_)
        · replace hm := ifT hm hb24
          refine WJ.reg ?_
          refine SJ.q (YldS.yld (y_move rfl)) rfl ?_
          obtain ⟨r25, h26, hm⟩ := bindS hm
          refine SJ.call1 (k := 0) rfl Try.call96 rfl (fun w S hw hA hO => ok_s_l12DrawPlan h26 w S _ (hr3.st1 hw hO) hA) rfl ?_
          rintro _ _ ⟨rfl, rfl⟩
          refine SJ.q (YldS.yld (y_assign rfl)) rfl ?_
          refine SJ.nil ?_
          refine PJ.block_normal ?_
          exact PJ.joined (r25.1, r10.2.1) [1] hm ⟨rfl, rfl, rfl, rfl, trivial⟩ ⟨by decide, rfl⟩
        · replace hm := ifF hm hb24
          refine WJ.seq ?_
          refine WJ.quiet ?_
          refine QJ.step (YldS.yld (y_bin rfl rfl rfl)) rfl ?_
          refine QJ.step (YldS.yld (y_assign rfl)) rfl ?_
          refine QJ.done ?_
          refine PJ.next ?_
          refine WJ.cond (t := (r19.1 == 2)) rfl (fun hb27 => ?_) (fun hb27 => ?_)
          · replace hm := ifT hm hb27
            refine WJ.reg ?_
            refine SJ.q (YldS.yld (y_move rfl)) rfl ?_
            refine SJ.q (YldS.yld (y_move rfl)) rfl ?_
            obtain ⟨r28, h29, hm⟩ := bindS hm
            refine SJ.call1 (k := 0) rfl Try.call98 rfl (fun w S hw hA hO => ok_s_l12Near h29 w S _ (hr3.st1 hw hO) hA) rfl ?_
            rintro _ _ ⟨rfl, rfl⟩
            refine SJ.q (YldS.yld (y_assign rfl)) rfl ?_
            refine SJ.nil ?_
            refine PJ.block_normal ?_
            exact PJ.joined (r10.1, r28.1) [1] hm ⟨rfl, rfl, rfl, rfl, trivial⟩ ⟨by decide, rfl⟩
          · replace hm := ifF hm hb27
            refine WJ.skip ?_
            refine PJ.block_normal ?_
            exact PJ.joined (r10.1, r10.2.1) [1] hm ⟨rfl, rfl, rfl, rfl, trivial⟩ ⟨by decide, rfl⟩
    · rintro ⟨plan15, letters16⟩ hm
      subst hk18
      refine WJ.seq ?_
      refine WJ.quiet ?_
      refine QJ.step (YldS.yld (y_move rfl)) rfl ?_
      refine QJ.step (YldS.yld (y_move rfl)) rfl ?_
      refine QJ.step (YldS.yld (y_move rfl)) rfl ?_
      refine QJ.step (YldS.yld (y_move rfl)) rfl ?_
      refine QJ.step (YldS.yld (y_assign rfl)) rfl ?_
      refine QJ.step (YldS.yld (y_assign rfl)) rfl ?_
      refine QJ.step (YldS.yld (y_assign rfl)) rfl ?_
      refine QJ.step (YldS.yld (y_assign rfl)) rfl ?_
      refine QJ.done ?_
      refine PJ.next ?_
      refine WJ.ret ?_
      obtain rfl := Option.some.inj hm
      refine PJ.sel (L' := [row v6 39 fOver r4.1]) [0] ⟨by decide, rfl⟩ ?_
      exact PJ.retn (vs := [v6, str r4.2.1, str plan15, str letters16]) Try.results16 ⟨rfl, rfl, rfl, rfl, trivial⟩ ⟨_, rfl, rfl⟩

set_option maxRecDepth 100000 in
set_option maxHeartbeats 1000000 in
theorem ok_i_isPlan {N : Nat} {plan1 : Str} {r : Bool} (hm : i_isPlan N plan1 = some r) (w : World)  :
    Calls Try.prog 99 #[str plan1] w (Ret (cx w) (.bool r)) := by
  unfold i_isPlan at hm
  refine Calls.enter [str plan1] Try.func99 rfl Try.ntmps99 rfl ?_
  refine WJ.seq ?_
  refine WJ.quiet ?_
  refine QJ.step (YldS.yld (y_assign rfl)) rfl ?_
  refine QJ.done ?_
  refine PJ.next ?_
  obtain ⟨k2, hk3, hm⟩ := withK_open hm
  refine WJ.join (X := Unit) (fun (_ : Unit) => k2  = some r) (fun (_ : Unit) => [(0, str plan1)]) (fun (_ : Unit) => []) ?_ ?_
  · clear hk3
    refine WJ.seq ?_
    refine WJ.quiet ?_
    refine QJ.step (YldS.yld (y_move rfl)) rfl ?_
    refine QJ.step (YldS.yld (y_lenStr Try.runUnderlying9 rfl)) rfl ?_
    refine QJ.step (YldS.yld (y_move rfl)) rfl ?_
    refine QJ.done ?_
    refine PJ.next ?_
    refine WJ.block ?_
    refine WJ.sel (L' := (fun (x : Int) => []) 0) [] ⟨List.nodup_nil, rfl⟩ ?_
    refine WJ.sub (m' := (fun (x : Int) => [(0, str plan1), (5, .int .i64 (List.length plan1 : Int)), (6, .int .i64 x)]) 0) ⟨rfl, rfl, rfl, trivial⟩ ?_
    refine WJ.loop (X := Int) (fun N (x : Int) => i_isPlan_l1 k2 plan1 N x = some r) (fun (x : Int) => [(0, str plan1), (5, .int .i64 (List.length plan1 : Int)), (6, .int .i64 x)]) (fun (x : Int) => []) ?_ N 0 hm
    · rintro N x4 hI
      have hm := hI; clear hI
      cases N with
      | zero => cases hm
      | succ N =>
      unfold i_isPlan_l1 at hm
      refine WJ.seq ?_
      refine WJ.quiet ?_
      refine QJ.step (YldS.yld (y_bin rfl rfl rfl)) rfl ?_
      refine QJ.done ?_
      refine PJ.next ?_
      refine WJ.seq ?_
      refine WJ.cond (t := decide (x4 < (List.length plan1 : Int))) rfl (fun hb5 => ?_) (fun hb5 => ?_)
      · replace hm := ifT hm hb5
        refine WJ.skip ?_
        refine PJ.next ?_
        refine WJ.seq ?_
        refine WJ.block ?_
        refine WJ.seq ?_
        refine WJ.quiet ?_
        refine QJ.step (YldS.yld (y_move rfl)) rfl ?_
        refine QJ.step (YldS.yld (y_assign rfl)) rfl ?_
        refine QJ.done ?_
        refine PJ.next ?_
        refine WJ.seq ?_
        refine WJ.quiet ?_
        refine QJ.step (YldS.yld (y_move rfl)) rfl ?_
        refine QJ.step (YldS.yld (y_move rfl)) rfl ?_
        obtain ⟨c6, h7, hm⟩ := bindS hm
        refine QJ.step (YldS.yld (y_idxStr Try.runUnderlying9 rfl rfl h7)) rfl ?_
        refine QJ.step (YldS.yld (y_bin8 c6 (46 : UInt8) rfl rfl rfl)) rfl ?_
        refine QJ.step (YldS.yld (y_move rfl)) rfl ?_
        obtain ⟨t8, h9, hm⟩ := bindS hm
        refine QJ.cut 5 [(0, str plan1), (3, .int .i64 x4), (5, .int .i64 (List.length plan1 : Int)), (6, .int .i64 x4), (18, .bool t8)] ?_ ?_
        · rcases Bool.eq_false_or_eq_true (c6 != (46 : UInt8)) with hb10 | hb10
          · replace h9 := andT h9 hb10
            refine QJ.on rfl rfl (cB hb10) (YldS.yld (y_move rfl)) rfl ?_
            refine QJ.on rfl rfl (cB hb10) (YldS.yld (y_move rfl)) rfl ?_
            obtain ⟨c11, h12, h9⟩ := bindS h9
            refine QJ.on rfl rfl (cB hb10) (YldS.yld (y_idxStr Try.runUnderlying9 rfl rfl h12)) rfl ?_
            refine QJ.on rfl rfl (cB hb10) (YldS.yld (y_bin8 c11 (43 : UInt8) rfl rfl rfl)) rfl ?_
            refine QJ.step (YldS.yld (y_pick_t (cB hb10) rfl)) rfl ?_
            obtain rfl := Option.some.inj h9
            exact QJ.cut_end ⟨rfl, rfl, rfl, rfl, rfl, trivial⟩
          · obtain rfl := andF h9 hb10
            refine QJ.off rfl rfl (cB hb10) rfl rfl ?_
            refine QJ.off rfl rfl (cB hb10) rfl rfl ?_
            refine QJ.off rfl rfl (cB hb10) rfl rfl ?_
            refine QJ.off rfl rfl (cB hb10) rfl rfl ?_
            refine QJ.step (YldS.yld (y_pick_f (cB hb10) rfl)) rfl ?_
            exact QJ.cut_end ⟨rfl, rfl, rfl, rfl, rfl, trivial⟩
        refine QJ.step (YldS.yld (y_move rfl)) rfl ?_
        obtain ⟨t13, h14, hm⟩ := bindS hm
        refine QJ.cut 5 [(0, str plan1), (5, .int .i64 (List.length plan1 : Int)), (6, .int .i64 x4), (24, .bool t13)] ?_ ?_
        · rcases Bool.eq_false_or_eq_true t8 with hb15 | hb15
          · replace h14 := andT h14 hb15
            refine QJ.on rfl rfl (cB hb15) (YldS.yld (y_move rfl)) rfl ?_
            refine QJ.on rfl rfl (cB hb15) (YldS.yld (y_move rfl)) rfl ?_
            obtain ⟨c16, h17, h14⟩ := bindS h14
            refine QJ.on rfl rfl (cB hb15) (YldS.yld (y_idxStr Try.runUnderlying9 rfl rfl h17)) rfl ?_
            refine QJ.on rfl rfl (cB hb15) (YldS.yld (y_bin8 c16 (35 : UInt8) rfl rfl rfl)) rfl ?_
            refine QJ.step (YldS.yld (y_pick_t (cB hb15) rfl)) rfl ?_
            obtain rfl := Option.some.inj h14
            exact QJ.cut_end ⟨rfl, rfl, rfl, rfl, trivial⟩
          · obtain rfl := andF h14 hb15
            refine QJ.off rfl rfl (cB hb15) rfl rfl ?_
            refine QJ.off rfl rfl (cB hb15) rfl rfl ?_
            refine QJ.off rfl rfl (cB hb15) rfl rfl ?_
            refine QJ.off rfl rfl (cB hb15) rfl rfl ?_
            refine QJ.step (YldS.yld (y_pick_f (cB hb15) rfl)) rfl ?_
            exact QJ.cut_end ⟨rfl, rfl, rfl, rfl, trivial⟩
        refine QJ.done ?_
        refine PJ.next ?_
        refine WJ.cond (t := t13) rfl (fun hb18 => ?_) (fun hb18 => ?_)
        · replace hm := ifT hm hb18
          refine WJ.seq ?_
          refine WJ.quiet ?_
          refine QJ.step (YldS.yld (y_assign rfl)) rfl ?_
          refine QJ.done ?_
          refine PJ.next ?_
          refine WJ.ret ?_
          refine PJ.block_ret (PJ.then_ret (PJ.then_ret (PJ.block_ret (PJ.then_ret ?_))))
          obtain rfl := Option.some.inj hm
          refine PJ.sel (L' := []) [] ⟨List.nodup_nil, rfl⟩ ?_
          exact PJ.retn (vs := [.bool false]) Try.results99 ⟨rfl, trivial⟩ ⟨rfl, rfl⟩
        · replace hm := ifF hm hb18
          refine WJ.skip ?_
          refine PJ.block_normal (PJ.next ?_)
          refine WJ.quiet ?_
          refine QJ.step (YldS.yld (y_bin rfl rfl rfl)) rfl ?_
          refine QJ.step (YldS.yld (y_move rfl)) rfl ?_
          refine QJ.done ?_
          exact PJ.round (w64 (x4 + 1)) [] hm ⟨rfl, rfl, rfl, trivial⟩ ⟨List.nodup_nil, rfl⟩
      · replace hm := ifF hm hb5
        refine WJ.exit ?_
        refine PJ.then_exit (PJ.then_exit (PJ.block_exit ?_))
        exact PJ.joined () [] hm ⟨rfl, trivial⟩ ⟨List.nodup_nil, rfl⟩
  · rintro _ hm
    subst hk3
    refine WJ.seq ?_
    refine WJ.quiet ?_
    refine QJ.step (YldS.yld (y_move rfl)) rfl ?_
    refine QJ.step (YldS.yld (y_lenStr Try.runUnderlying9 rfl)) rfl ?_
    refine QJ.step (YldS.yld (y_bin rfl rfl rfl)) rfl ?_
    refine QJ.step (YldS.yld (y_assign rfl)) rfl ?_
    refine QJ.done ?_
    refine PJ.next ?_
    refine WJ.ret ?_
    obtain rfl := Option.some.inj hm
    refine PJ.sel (L' := []) [] ⟨List.nodup_nil, rfl⟩ ?_
    exact PJ.retn (vs := [.bool (decide ((List.length plan1 : Int) ≤ 60))]) Try.results99 ⟨rfl, trivial⟩ ⟨rfl, rfl⟩

set_option maxRecDepth 100000 in
set_option maxHeartbeats 1000000 in
theorem ok_i_seen {N : Nat} {rules1 : List Over} {under4 : UInt8} {top5 : UInt8} {r : UInt8 × Bool} (hm : i_seen N rules1 under4 top5 = some r) (w : World) (v2 : Value) (hr3 : RdS w (cx w).Fz v2 fOver.rp rules1) :
    Calls Try.prog 100 #[v2, .int .u8 (UInt8.toNat under4 : Int), .int .u8 (UInt8.toNat top5 : Int)] w (Ret (cx w) (tup [.int .u8 (UInt8.toNat r.1 : Int), .bool r.2])) := by
  unfold i_seen at hm
  refine Calls.enter [v2, .int .u8 (UInt8.toNat under4 : Int), .int .u8 (UInt8.toNat top5 : Int)] Try.func100 rfl Try.ntmps100 rfl ?_
  refine WJ.seq ?_
  refine WJ.quiet ?_
  refine QJ.step (YldS.yld (y_assign rfl)) rfl ?_
  refine QJ.step (YldS.yld (y_assign rfl)) rfl ?_
  refine QJ.done ?_
  refine PJ.next ?_
  refine WJ.seq ?_
  refine WJ.block ?_
  refine WJ.seq ?_
  refine WJ.quiet ?_
  refine QJ.step (YldS.yld (y_move rfl)) rfl ?_
  refine QJ.step (YldS.yld (y_move rfl)) rfl ?_
  refine QJ.step (YldS.yld (y_bin8 under4 top5 rfl rfl rfl)) rfl ?_
  refine QJ.step (YldS.yld (y_move rfl)) rfl ?_
  obtain ⟨t6, h7, hm⟩ := bindS hm
  refine QJ.cut 3 [(0, v2), (1, .int .u8 (UInt8.toNat under4 : Int)), (2, .int .u8 (UInt8.toNat top5 : Int)), (17, .bool t6)] ?_ ?_
  · rcases Bool.eq_false_or_eq_true (under4 == top5) with hb8 | hb8
    · obtain rfl := orT h7 hb8
      refine QJ.off rfl rfl (cB hb8) rfl rfl ?_
      refine QJ.off rfl rfl (cB hb8) rfl rfl ?_
      refine QJ.step (YldS.yld (y_pick_t (cB hb8) rfl)) rfl ?_
      exact QJ.cut_end ⟨rfl, rfl, rfl, rfl, trivial⟩
    · replace h7 := orF h7 hb8
      refine QJ.on rfl rfl (cB hb8) (YldS.yld (y_move rfl)) rfl ?_
      refine QJ.on rfl rfl (cB hb8) (YldS.yld (y_bin8 top5 (32 : UInt8) rfl rfl rfl)) rfl ?_
      refine QJ.step (YldS.yld (y_pick_f (cB hb8) rfl)) rfl ?_
      obtain rfl := Option.some.inj h7
      exact QJ.cut_end ⟨rfl, rfl, rfl, rfl, trivial⟩
  refine QJ.step (YldS.yld (y_assign rfl)) rfl ?_
  refine QJ.done ?_
  refine PJ.next ?_
  refine WJ.cond (t := t6) rfl (fun hb9 => ?_) (fun hb9 => ?_)
  · replace hm := ifT hm hb9
    refine WJ.seq ?_
    refine WJ.quiet ?_
    refine QJ.step (YldS.yld (y_move rfl)) rfl ?_
    refine QJ.step (YldS.yld (y_assign rfl)) rfl ?_
    refine QJ.step (YldS.yld (y_assign rfl)) rfl ?_
    refine QJ.done ?_
    refine PJ.next ?_
    refine WJ.ret ?_
    refine PJ.block_ret (PJ.then_ret ?_)
    obtain rfl := Option.some.inj hm
    refine PJ.sel (L' := []) [] ⟨List.nodup_nil, rfl⟩ ?_
    exact PJ.retn (vs := [.int .u8 (UInt8.toNat under4 : Int), .bool true]) Try.results100 ⟨rfl, rfl, trivial⟩ ⟨rfl, rfl⟩
  · replace hm := ifF hm hb9
    refine WJ.seq ?_
    refine WJ.quiet ?_
    refine QJ.step (YldS.yld (y_move rfl)) rfl ?_
    refine QJ.step (YldS.yld (y_bin8 under4 (32 : UInt8) rfl rfl rfl)) rfl ?_
    refine QJ.step (YldS.yld (y_assign rfl)) rfl ?_
    refine QJ.done ?_
    refine PJ.next ?_
    refine WJ.cond (t := (under4 == (32 : UInt8))) rfl (fun hb10 => ?_) (fun hb10 => ?_)
    · replace hm := ifT hm hb10
      refine WJ.seq ?_
      refine WJ.quiet ?_
      refine QJ.step (YldS.yld (y_move rfl)) rfl ?_
      refine QJ.step (YldS.yld (y_assign rfl)) rfl ?_
      refine QJ.step (YldS.yld (y_assign rfl)) rfl ?_
      refine QJ.done ?_
      refine PJ.next ?_
      refine WJ.ret ?_
      refine PJ.block_ret (PJ.then_ret ?_)
      obtain rfl := Option.some.inj hm
      refine PJ.sel (L' := []) [] ⟨List.nodup_nil, rfl⟩ ?_
      exact PJ.retn (vs := [.int .u8 (UInt8.toNat top5 : Int), .bool true]) Try.results100 ⟨rfl, rfl, trivial⟩ ⟨rfl, rfl⟩
    · replace hm := ifF hm hb10
      refine WJ.skip ?_
      refine PJ.block_normal (PJ.next ?_)
      obtain ⟨k11, hk12, hm⟩ := withK_open hm
      refine WJ.join (X := Unit) (fun (_ : Unit) => k11  = some r) (fun (_ : Unit) => []) (fun (_ : Unit) => []) ?_ ?_
      · clear hk12
        refine WJ.seq ?_
        refine WJ.quiet ?_
        refine QJ.step (YldS.yld (y_move rfl)) rfl ?_
        refine QJ.step (YldS.yld (y_lenS Try.runUnderlying24 hr3 rfl)) rfl ?_
        refine QJ.step (YldS.yld (y_move rfl)) rfl ?_
        refine QJ.done ?_
        refine PJ.next ?_
        refine WJ.block ?_
        refine WJ.sel (L' := (fun (x : Int) => []) 0) [] ⟨List.nodup_nil, rfl⟩ ?_
        refine WJ.sub (m' := (fun (x : Int) => [(1, .int .u8 (UInt8.toNat under4 : Int)), (2, .int .u8 (UInt8.toNat top5 : Int)), (23, v2), (24, .int .i64 (List.length rules1 : Int)), (25, .int .i64 x)]) 0) ⟨rfl, rfl, rfl, rfl, rfl, trivial⟩ ?_
        refine WJ.loop (X := Int) (fun N (x : Int) => i_seen_l1 k11 rules1 under4 top5 N x = some r) (fun (x : Int) => [(1, .int .u8 (UInt8.toNat under4 : Int)), (2, .int .u8 (UInt8.toNat top5 : Int)), (23, v2), (24, .int .i64 (List.length rules1 : Int)), (25, .int .i64 x)]) (fun (x : Int) => []) ?_ N 0 hm
        · rintro N x13 hI
          have hm := hI; clear hI
          cases N with
          | zero => cases hm
          | succ N =>
          unfold i_seen_l1 at hm
          refine WJ.seq ?_
          refine WJ.quiet ?_
          refine QJ.step (YldS.yld (y_bin rfl rfl rfl)) rfl ?_
          refine QJ.done ?_
          refine PJ.next ?_
          refine WJ.seq ?_
          refine WJ.cond (t := decide (x13 < (List.length rules1 : Int))) rfl (fun hb14 => ?_) (fun hb14 => ?_)
          · replace hm := ifT hm hb14
            refine WJ.skip ?_
            refine PJ.next ?_
            refine WJ.seq ?_
            refine WJ.block ?_
            refine WJ.seq ?_
            refine WJ.reg ?_
            obtain ⟨e15, h16, hm⟩ := bindS hm
            obtain ⟨ad17, _, rfl, ha18, hy19⟩ := hr3.elem h16
            refine SJ.q (YldS.yld (hy19 Try.runUnderlying24 Try.sizeOf39 rfl rfl)) rfl ?_
            refine SJ.q (YldS.yld (y_loadN Try.isAgg39 Try.sizeOf39 rfl ha18 St.frozenC rfl)) rfl ?_
            refine SJ.alloc (cs := [str [], str [], str []]) Try.zeroValue39 rfl rfl fun g20 => ?_
            refine SJ.storeL (k := 0) (off := 0) (us := [str e15.under, str e15.top, str e15.seen]) rfl rfl rfl rfl Try.sizeOf39 rfl rfl ?_
            refine SJ.nil ?_
            refine PJ.next ?_
            refine WJ.seq ?_
            refine WJ.quiet ?_
            refine QJ.step (YldS.yld (y_fldB (o := 0) fld39_0 rfl)) rfl ?_
            refine QJ.step (YldS.yld (y_loadB (k := 0) (off := 0) (v := str e15.under) rfl Try.isAgg9 rfl rfl)) rfl ?_
            obtain ⟨c21, h22, hm⟩ := bindS hm
            refine QJ.step (YldS.yld (y_idxStr Try.runUnderlying9 rfl rfl h22)) rfl ?_
            refine QJ.step (YldS.yld (y_move rfl)) rfl ?_
            refine QJ.step (YldS.yld (y_bin8 c21 under4 rfl rfl rfl)) rfl ?_
            refine QJ.step (YldS.yld (y_move rfl)) rfl ?_
            obtain ⟨t23, h24, hm⟩ := bindS hm
            refine QJ.cut 6 [(1, .int .u8 (UInt8.toNat under4 : Int)), (2, .int .u8 (UInt8.toNat top5 : Int)), (9, pt g20 0), (23, v2), (24, .int .i64 (List.length rules1 : Int)), (25, .int .i64 x13), (40, .bool t23)] ?_ ?_
            · rcases Bool.eq_false_or_eq_true (c21 == under4) with hb25 | hb25
              · replace h24 := andT h24 hb25
                refine QJ.on rfl rfl (cB hb25) (YldS.yld (y_fldB (o := 0) fld39_1 rfl)) rfl ?_
                refine QJ.on rfl rfl (cB hb25) (YldS.yld (y_loadB (k := 0) (off := 1) (v := str e15.top) rfl Try.isAgg9 rfl rfl)) rfl ?_
                obtain ⟨c26, h27, h24⟩ := bindS h24
                refine QJ.on rfl rfl (cB hb25) (YldS.yld (y_idxStr Try.runUnderlying9 rfl rfl h27)) rfl ?_
                refine QJ.on rfl rfl (cB hb25) (YldS.yld (y_move rfl)) rfl ?_
                refine QJ.on rfl rfl (cB hb25) (YldS.yld (y_bin8 c26 top5 rfl rfl rfl)) rfl ?_
                refine QJ.step (YldS.yld (y_pick_t (cB hb25) rfl)) rfl ?_
                obtain rfl := Option.some.inj h24
                exact QJ.cut_end ⟨rfl, rfl, rfl, rfl, rfl, rfl, rfl, trivial⟩
              · obtain rfl := andF h24 hb25
                refine QJ.off rfl rfl (cB hb25) rfl rfl ?_
                refine QJ.off rfl rfl (cB hb25) rfl rfl ?_
                refine QJ.off rfl rfl (cB hb25) rfl rfl ?_
                refine QJ.off rfl rfl (cB hb25) rfl rfl ?_
                refine QJ.off rfl rfl (cB hb25) rfl rfl ?_
                refine QJ.step (YldS.yld (y_pick_f (cB hb25) rfl)) rfl ?_
                exact QJ.cut_end ⟨rfl, rfl, rfl, rfl, rfl, rfl, rfl, trivial⟩
            refine QJ.done ?_
            refine PJ.next ?_
            refine WJ.cond (t := t23) rfl (fun hb28 => ?_) (fun hb28 => ?_)
            · replace hm := ifT hm hb28
              refine WJ.seq ?_
              refine WJ.quiet ?_
              refine QJ.step (YldS.yld (y_fldB (o := 0) fld39_2 rfl)) rfl ?_
              refine QJ.step (YldS.yld (y_loadB (k := 0) (off := 2) (v := str e15.seen) rfl Try.isAgg9 rfl rfl)) rfl ?_
              obtain ⟨c29, h30, hm⟩ := bindS hm
              refine QJ.step (YldS.yld (y_idxStr Try.runUnderlying9 rfl rfl h30)) rfl ?_
              refine QJ.step (YldS.yld (y_assign rfl)) rfl ?_
              refine QJ.step (YldS.yld (y_assign rfl)) rfl ?_
              refine QJ.done ?_
              refine PJ.next ?_
              refine WJ.ret ?_
              refine PJ.block_ret (PJ.then_ret (PJ.then_ret (PJ.block_ret (PJ.then_ret ?_))))
              obtain rfl := Option.some.inj hm
              refine PJ.sel (L' := []) [] ⟨List.nodup_nil, rfl⟩ ?_
              exact PJ.retn (vs := [.int .u8 (UInt8.toNat c29 : Int), .bool true]) Try.results100 ⟨rfl, rfl, trivial⟩ ⟨rfl, rfl⟩
            · replace hm := ifF hm hb28
              refine WJ.skip ?_
              refine PJ.block_normal (PJ.next ?_)
              refine WJ.quiet ?_
              refine QJ.step (YldS.yld (y_bin rfl rfl rfl)) rfl ?_
              refine QJ.step (YldS.yld (y_move rfl)) rfl ?_
              refine QJ.done ?_
              exact PJ.round (w64 (x13 + 1)) [] hm ⟨rfl, rfl, rfl, rfl, rfl, trivial⟩ ⟨List.nodup_nil, rfl⟩
          · replace hm := ifF hm hb14
            refine WJ.exit ?_
            refine PJ.then_exit (PJ.then_exit (PJ.block_exit ?_))
            exact PJ.joined () [] hm trivial ⟨List.nodup_nil, rfl⟩
      · rintro _ hm
        subst hk12
        refine WJ.seq ?_
        refine WJ.quiet ?_
        refine QJ.step (YldS.yld (y_assign rfl)) rfl ?_
        refine QJ.step (YldS.yld (y_assign rfl)) rfl ?_
        refine QJ.done ?_
        refine PJ.next ?_
        refine WJ.ret ?_
        obtain rfl := Option.some.inj hm
        refine PJ.sel (L' := []) [] ⟨List.nodup_nil, rfl⟩ ?_
        exact PJ.retn (vs := [.int .u8 (UInt8.toNat 0 : Int), .bool false]) Try.results100 ⟨rfl, rfl, trivial⟩ ⟨rfl, rfl⟩

end Go.Proofs.Ytoojddajhalimaa
