/-
  The walks: a call hands back what its plain function computes, where that has a value. No other conditions.
-/
import Derived.Test.YtoojddajhalimaaFnShadesM
import Derived.Test.YtoojddajhalimaaChecked
namespace Go.Proofs.Ytoojddajhalimaa
open Go.RowKit Go.Proofs
set_option linter.unusedVariables false
set_option linter.unusedSimpArgs false

theorem follows : Try.prog.follows .mixedOrders = true := by kernel_rfl

def Ribbon.enc (x : Ribbon) : List Value := [.int .i64 x.spots, .int .i64 x.ink, .int .i64 x.takes]
def fRibbon : FRp Ribbon := ⟨3, Ribbon.enc, fun _ => rfl, by decide, fun x u hu => by
  simp only [Ribbon.enc, List.mem_cons, List.not_mem_nil, or_false] at hu
  rcases hu with rfl | rfl | rfl <;> rfl⟩

theorem pl185 : PlacesOk Try.prog 185 [(0, 1), (1, 1), (2, 1)] := ⟨_, Try.runUnderlying185, fun w => by simp [Try.sizeOf3, Try.sizeOf22, Try.sizeOf183]⟩
theorem fld185_1 : FieldOk Try.prog 185 1 1 3 0 := ⟨_, _, Try.runUnderlying185, rfl, rfl, rfl, Try.sizeOf3⟩
theorem fld185_0 : FieldOk Try.prog 185 0 0 22 0 := ⟨_, _, Try.runUnderlying185, rfl, rfl, rfl, Try.sizeOf22⟩
theorem fld185_2 : FieldOk Try.prog 185 2 2 183 0 := ⟨_, _, Try.runUnderlying185, rfl, rfl, rfl, Try.sizeOf183⟩
theorem pl59 : PlacesOk Try.prog 59 [(0, 1), (1, 1), (2, 1)] := ⟨_, Try.runUnderlying59, fun w => by simp [Try.sizeOf2]⟩
theorem fld59_1 : FieldOk Try.prog 59 1 1 2 0 := ⟨_, _, Try.runUnderlying59, rfl, rfl, rfl, Try.sizeOf2⟩
theorem fld59_2 : FieldOk Try.prog 59 2 2 2 0 := ⟨_, _, Try.runUnderlying59, rfl, rfl, rfl, Try.sizeOf2⟩
theorem fld59_0 : FieldOk Try.prog 59 0 0 2 0 := ⟨_, _, Try.runUnderlying59, rfl, rfl, rfl, Try.sizeOf2⟩
set_option maxRecDepth 100000 in
theorem el2 : ElemOk Try.prog 2 1 (fI64.enc 0) := ⟨_, _, Try.type2, rfl, rfl, rfl, by decide⟩
set_option maxRecDepth 100000 in
theorem el5 : ElemOk Try.prog 5 1 (fByte.enc 0) := ⟨_, _, Try.type5, rfl, rfl, rfl, by decide⟩
set_option maxRecDepth 100000 in
theorem el59 : ElemOk Try.prog 59 3 (fRibbon.enc (Ribbon.mk 0 0 0)) := ⟨_, _, Try.type59, rfl, rfl, rfl, by decide⟩

set_option maxRecDepth 100000 in
set_option maxHeartbeats 1000000 in
theorem ok_w_f6big {code1 : List UInt8} {r : Bool} (hm : w_f6big code1 = some r) (w : World) (v2 : Value) (hr3 : RdS w (cx w).Fz v2 fByte.rp code1) :
    Calls Try.prog 10 #[v2] w (Ret (cx w) (.bool r)) := by
  unfold w_f6big at hm
  refine Calls.enter [v2] Try.func10 rfl Try.ntmps10 rfl ?_
  refine WJ.seq ?_
  refine WJ.quiet ?_
  refine QJ.step (YldS.yld (y_assign rfl)) rfl ?_
  refine QJ.done ?_
  refine PJ.next ?_
  refine WJ.seq ?_
  refine WJ.quiet ?_
  refine QJ.step (YldS.yld (y_move rfl)) rfl ?_
  refine QJ.step (YldS.yld (y_lenS Try.runUnderlying22 hr3 rfl)) rfl ?_
  refine QJ.step (YldS.yld (y_bin rfl rfl rfl)) rfl ?_
  refine QJ.step (YldS.yld (y_assign rfl)) rfl ?_
  refine QJ.done ?_
  refine PJ.next ?_
  refine WJ.ret ?_
  obtain rfl := Option.some.inj hm
  refine PJ.sel (L' := []) [] ⟨List.nodup_nil, rfl⟩ ?_
  exact PJ.retn (vs := [.bool (decide ((List.length code1 : Int) > 4096))]) Try.results10 ⟨rfl, trivial⟩ ⟨rfl, rfl⟩

set_option maxRecDepth 100000 in
set_option maxHeartbeats 1000000 in
theorem ok_s_l00From {code1 : List UInt8} {r : L00Src} (hm : s_l00From code1 = some r) (w : World) (v2 : Value) (hr3 : RdS w (cx w).Fz v2 fByte.rp code1) :
    Calls Try.prog 95 #[v2] w (RetG (cx w) fun u L => ∃ (u1 : Nat), (u = pt u1 0 ∧ L = [box u1 185 [v2, .int .i64 r.at_, .int .u64 r.seed]])) := by
  unfold s_l00From at hm
  refine Calls.enter [v2] Try.func95 rfl Try.ntmps95 rfl ?_
  refine WJ.seq ?_
  refine WJ.quiet ?_
  refine QJ.step (YldS.yld (y_assign rfl)) rfl ?_
  refine QJ.done ?_
  refine PJ.next ?_
  refine WJ.seq ?_
  refine WJ.reg ?_
  refine SJ.q (YldS.yld (y_move rfl)) rfl ?_
  refine SJ.q (YldS.yld (y_build (parts := [(0, .tmp 3)]) (places := [(0, 1), (1, 1), (2, 1)]) (r := [v2, .int .i64 0, .int .u64 0]) pl185 Try.zeroValue185 rfl rfl (show _ = [(0, [v2])] from by simp only [List.map, RdS.cells1 hr3]) rfl)) rfl ?_
  refine SJ.box (cs := [v2, .int .i64 0, .int .u64 0]) rfl rfl rfl fun g4 => ?_
  refine SJ.q (YldS.yld (y_assign rfl)) rfl ?_
  refine SJ.nil ?_
  refine PJ.next ?_
  refine WJ.ret ?_
  obtain rfl := Option.some.inj hm
  refine PJ.sel (L' := [box g4 185 [v2, .int .i64 0, .int .u64 0]]) [0] ⟨by decide, rfl⟩ ?_
  exact PJ.retn (vs := [pt g4 0]) Try.results95 ⟨rfl, trivial⟩ ⟨_, rfl, rfl⟩

set_option maxRecDepth 100000 in
set_option maxHeartbeats 1000000 in
theorem ok_s_l00Src_next {s1 : L00Src} {g2 : Nat} {r : Int × L00Src} (hm : s_l00Src_next s1 = some r) (w : World) (S : Nat → Prop) (v3 : Value) (hr4 : RdS w (Cx.Fz ⟨w, S⟩) v3 fByte.rp s1.code) (hA : (box g2 185 [v3, .int .i64 s1.at_, .int .u64 s1.seed]).holds w S) :
    Calls Try.prog 181 #[pt g2 0] w (RetG ⟨w, S⟩ fun u L => (u = .int .i64 r.1 ∧ L = [box g2 185 [v3, .int .i64 r.2.at_, .int .u64 r.2.seed]])) := by
  unfold s_l00Src_next at hm
  refine Calls.enter1 hA [pt g2 0] Try.func181 rfl Try.ntmps181 rfl ?_
  refine WJ.seq ?_
  refine WJ.quiet ?_
  refine QJ.step (YldS.yld (y_assign rfl)) rfl ?_
  refine QJ.done ?_
  refine PJ.next ?_
  refine WJ.seq ?_
  refine WJ.quiet ?_
  refine QJ.step (YldS.yld (y_assign rfl)) rfl ?_
  refine QJ.done ?_
  refine PJ.next ?_
  obtain ⟨kj6, hk7, hm⟩ := withK_open hm
  refine WJ.join (X := Int) (fun (x : Int) => kj6 x = some r) (fun (x : Int) => [(0, pt g2 0), (3, .int .i64 x)]) (fun (x : Int) => [box g2 185 [v3, .int .i64 s1.at_, .int .u64 s1.seed]]) ?_ ?_
  · clear hk7
    refine WJ.seq ?_
    refine WJ.quiet_draw follows (by kernel_rfl) ?_
    refine QJ.step (YldS.yld (y_move rfl)) rfl ?_
    refine QJ.step (YldS.yld (y_nil rfl)) rfl ?_
    refine QJ.step (YldS.yld (y_fldB (o := 0) fld185_1 rfl)) rfl ?_
    refine QJ.step (YldS.yld (y_loadB (k := 0) (off := 1) (v := .int .i64 s1.at_) rfl Try.isAgg3 rfl rfl)) rfl ?_
    refine QJ.step (YldS.yld (y_move rfl)) rfl ?_
    refine QJ.step (YldS.yld (y_nil rfl)) rfl ?_
    refine QJ.step (YldS.yld (y_fldB (o := 0) fld185_0 rfl)) rfl ?_
    refine QJ.step (YldS.yld (y_loadB (k := 0) (off := 0) (v := v3) rfl Try.isAgg22 rfl rfl)) rfl ?_
    refine QJ.step (YldS.yld (y_lenS Try.runUnderlying22 hr4 rfl)) rfl ?_
    refine QJ.step (YldS.yld (y_bin rfl rfl rfl)) rfl ?_
    refine QJ.done ?_
    refine PJ.next ?_
    refine WJ.cond (t := decide (s1.at_ < (List.length s1.code : Int))) rfl (fun hb8 => ?_) (fun hb8 => ?_)
    · replace hm := ifT hm hb8
      refine WJ.quiet_draw follows (by kernel_rfl) ?_
      refine QJ.step (YldS.yld (y_move rfl)) rfl ?_
      refine QJ.step (YldS.yld (y_nil rfl)) rfl ?_
      refine QJ.step (YldS.yld (y_fldB (o := 0) fld185_0 rfl)) rfl ?_
      refine QJ.step (YldS.yld (y_loadB (k := 0) (off := 0) (v := v3) rfl Try.isAgg22 rfl rfl)) rfl ?_
      refine QJ.step (YldS.yld (y_move rfl)) rfl ?_
      refine QJ.step (YldS.yld (y_nil rfl)) rfl ?_
      refine QJ.step (YldS.yld (y_fldB (o := 0) fld185_1 rfl)) rfl ?_
      refine QJ.step (YldS.yld (y_loadB (k := 0) (off := 1) (v := .int .i64 s1.at_) rfl Try.isAgg3 rfl rfl)) rfl ?_
      obtain ⟨e9, h10, hm⟩ := bindS hm
      obtain ⟨ad11, _, rfl, ha12, hy13⟩ := hr4.elem h10
      refine QJ.step (YldS.yld (hy13 Try.runUnderlying22 Try.sizeOf5 rfl rfl)) rfl ?_
      refine QJ.step (YldS.yld (y_load1 (v := .int .u8 (UInt8.toNat e9 : Int)) Try.isAgg5 ha12 St.frozenC rfl)) rfl ?_
      refine QJ.step (YldS.yld (y_conv8 Try.runUnderlying5 Try.runUnderlying3 rfl)) rfl ?_
      refine QJ.step (YldS.yld (y_assign rfl)) rfl ?_
      refine QJ.done ?_
      exact PJ.joined (UInt8.toNat e9 : Int) [0] hm ⟨rfl, rfl, trivial⟩ ⟨by decide, rfl⟩
    · replace hm := ifF hm hb8
      refine WJ.skip ?_
      exact PJ.joined 0 [0] hm ⟨rfl, rfl, trivial⟩ ⟨by decide, rfl⟩
  · rintro b5 hm
    subst hk7
    refine WJ.seq ?_
    refine WJ.reg ?_
    refine SJ.q (YldS.yld (y_move rfl)) rfl ?_
    refine SJ.q (YldS.yld (y_nil rfl)) rfl ?_
    refine SJ.q (YldS.yld (y_fldB (o := 0) fld185_1 rfl)) rfl ?_
    refine SJ.q (YldS.yld (y_loadB (k := 0) (off := 1) (v := .int .i64 s1.at_) rfl Try.isAgg3 rfl rfl)) rfl ?_
    refine SJ.q (YldS.yld (y_bin rfl rfl rfl)) rfl ?_
    refine SJ.q (YldS.yld (y_nil rfl)) rfl ?_
    refine SJ.q (YldS.yld (y_fldB (o := 0) fld185_1 rfl)) rfl ?_
    refine SJ.storeL (k := 0) (off := 1) (us := [.int .i64 (w64 (s1.at_ + 1))]) rfl rfl rfl rfl Try.sizeOf3 rfl rfl ?_
    refine SJ.nil ?_
    refine PJ.next ?_
    refine WJ.seq ?_
    refine WJ.reg ?_
    refine SJ.q (YldS.yld (y_move rfl)) rfl ?_
    refine SJ.q (YldS.yld (y_move rfl)) rfl ?_
    refine SJ.q (YldS.yld (y_nil rfl)) rfl ?_
    refine SJ.q (YldS.yld (y_fldB (o := 0) fld185_2 rfl)) rfl ?_
    refine SJ.q (YldS.yld (y_loadB (k := 0) (off := 2) (v := .int .u64 s1.seed) rfl Try.isAgg183 rfl rfl)) rfl ?_
    refine SJ.q (YldS.yld (y_bin rfl rfl rfl)) rfl ?_
    refine SJ.q (YldS.yld (y_move rfl)) rfl ?_
    refine SJ.q (YldS.yld (y_convI Try.runUnderlying3 Try.runUnderlying183 rfl)) rfl ?_
    refine SJ.q (YldS.yld (y_bin rfl rfl rfl)) rfl ?_
    refine SJ.q (YldS.yld (y_bin rfl rfl rfl)) rfl ?_
    refine SJ.q (YldS.yld (y_nil rfl)) rfl ?_
    refine SJ.q (YldS.yld (y_fldB (o := 0) fld185_2 rfl)) rfl ?_
    refine SJ.storeL (k := 0) (off := 2) (us := [.int .u64 (IntKind.u64.wrap ((IntKind.u64.wrap ((IntKind.u64.wrap (s1.seed * 6364136223846793005)) + (IntKind.u64.wrap b5))) + 1442695040888963407))]) rfl rfl rfl rfl Try.sizeOf183 rfl rfl ?_
    refine SJ.nil ?_
    refine PJ.next ?_
    refine WJ.seq ?_
    refine WJ.seq ?_
    refine WJ.quiet_draw follows (by kernel_rfl) ?_
    refine QJ.step (YldS.yld (y_move rfl)) rfl ?_
    refine QJ.step (YldS.yld (y_nil rfl)) rfl ?_
    refine QJ.step (YldS.yld (y_fldB (o := 0) fld185_1 rfl)) rfl ?_
    refine QJ.step (YldS.yld (y_loadB (k := 0) (off := 1) (v := .int .i64 (w64 (s1.at_ + 1))) rfl Try.isAgg3 rfl rfl)) rfl ?_
    refine QJ.step (YldS.yld (y_move rfl)) rfl ?_
    refine QJ.step (YldS.yld (y_nil rfl)) rfl ?_
    refine QJ.step (YldS.yld (y_fldB (o := 0) fld185_0 rfl)) rfl ?_
    refine QJ.step (YldS.yld (y_loadB (k := 0) (off := 0) (v := v3) rfl Try.isAgg22 rfl rfl)) rfl ?_
    refine QJ.step (YldS.yld (y_lenS Try.runUnderlying22 hr4 rfl)) rfl ?_
    refine QJ.step (YldS.yld (y_bin rfl rfl rfl)) rfl ?_
    refine QJ.done ?_
    refine PJ.next ?_
    refine WJ.cond (t := decide ((w64 (s1.at_ + 1)) ≤ (List.length s1.code : Int))) rfl (fun hb14 => ?_) (fun hb14 => ?_)
    · replace hm := ifT hm hb14
      refine WJ.seq ?_
      refine WJ.quiet ?_
      refine QJ.step (YldS.yld (y_move rfl)) rfl ?_
      refine QJ.step (YldS.yld (y_assign rfl)) rfl ?_
      refine QJ.done ?_
      refine PJ.next ?_
      refine WJ.ret ?_
      refine PJ.then_ret ?_
      obtain rfl := Option.some.inj hm
      refine PJ.sel (L' := [box g2 185 [v3, .int .i64 (w64 (s1.at_ + 1)), .int .u64 (IntKind.u64.wrap ((IntKind.u64.wrap ((IntKind.u64.wrap (s1.seed * 6364136223846793005)) + (IntKind.u64.wrap b5))) + 1442695040888963407))]]) [0] ⟨by decide, rfl⟩ ?_
      exact PJ.retn (vs := [.int .i64 b5]) Try.results181 ⟨rfl, trivial⟩ ⟨rfl, rfl⟩
    · replace hm := ifF hm hb14
      refine WJ.skip ?_
      refine PJ.next ?_
      refine WJ.seq ?_
      refine WJ.quiet ?_
      refine QJ.step (YldS.yld (y_move rfl)) rfl ?_
      refine QJ.step (YldS.yld (y_nil rfl)) rfl ?_
      refine QJ.step (YldS.yld (y_fldB (o := 0) fld185_2 rfl)) rfl ?_
      refine QJ.step (YldS.yld (y_loadB (k := 0) (off := 2) (v := .int .u64 (IntKind.u64.wrap ((IntKind.u64.wrap ((IntKind.u64.wrap (s1.seed * 6364136223846793005)) + (IntKind.u64.wrap b5))) + 1442695040888963407))) rfl Try.isAgg183 rfl rfl)) rfl ?_
      refine QJ.step (YldS.yld (y_shru rfl rfl rfl)) rfl ?_
      refine QJ.step (YldS.yld (y_andu rfl rfl rfl)) rfl ?_
      refine QJ.step (YldS.yld (y_convI Try.runUnderlying183 Try.runUnderlying2 rfl)) rfl ?_
      refine QJ.step (YldS.yld (y_assign rfl)) rfl ?_
      refine QJ.done ?_
      refine PJ.next ?_
      refine WJ.ret ?_
      obtain rfl := Option.some.inj hm
      refine PJ.sel (L' := [box g2 185 [v3, .int .i64 (w64 (s1.at_ + 1)), .int .u64 (IntKind.u64.wrap ((IntKind.u64.wrap ((IntKind.u64.wrap (s1.seed * 6364136223846793005)) + (IntKind.u64.wrap b5))) + 1442695040888963407))]]) [0] ⟨by decide, rfl⟩ ?_
      exact PJ.retn (vs := [.int .i64 (w64 (uand (ushr (IntKind.u64.wrap ((IntKind.u64.wrap ((IntKind.u64.wrap (s1.seed * 6364136223846793005)) + (IntKind.u64.wrap b5))) + 1442695040888963407)) 40) 255))]) Try.results181 ⟨rfl, trivial⟩ ⟨rfl, rfl⟩

set_option maxRecDepth 100000 in
set_option maxHeartbeats 1000000 in
theorem ok_s_l00Src_pick {s1 : L00Src} {n5 : Int} {g2 : Nat} {r : Int × L00Src} (hm : s_l00Src_pick s1 n5 = some r) (w : World) (S : Nat → Prop) (v3 : Value) (hr4 : RdS w (Cx.Fz ⟨w, S⟩) v3 fByte.rp s1.code) (hA : (box g2 185 [v3, .int .i64 s1.at_, .int .u64 s1.seed]).holds w S) :
    Calls Try.prog 97 #[pt g2 0, .int .i64 n5] w (RetG ⟨w, S⟩ fun u L => (u = .int .i64 r.1 ∧ L = [box g2 185 [v3, .int .i64 r.2.at_, .int .u64 r.2.seed]])) := by
  unfold s_l00Src_pick at hm
  refine Calls.enter1 hA [pt g2 0, .int .i64 n5] Try.func97 rfl Try.ntmps97 rfl ?_
  refine WJ.seq ?_
  refine WJ.quiet ?_
  refine QJ.step (YldS.yld (y_assign rfl)) rfl ?_
  refine QJ.done ?_
  refine PJ.next ?_
  refine WJ.seq ?_
  refine WJ.seq ?_
  refine WJ.quiet ?_
  refine QJ.step (YldS.yld (y_move rfl)) rfl ?_
  refine QJ.step (YldS.yld (y_bin rfl rfl rfl)) rfl ?_
  refine QJ.done ?_
  refine PJ.next ?_
  refine WJ.cond (t := decide (n5 ≤ 1)) rfl (fun hb6 => ?_) (fun hb6 => ?_)
  · replace hm := ifT hm hb6
    refine WJ.seq ?_
    refine WJ.quiet ?_
    refine QJ.step (YldS.yld (y_assign rfl)) rfl ?_
    refine QJ.done ?_
    refine PJ.next ?_
    refine WJ.ret ?_
    refine PJ.then_ret ?_
    obtain rfl := Option.some.inj hm
    refine PJ.sel (L' := [box g2 185 [v3, .int .i64 s1.at_, .int .u64 s1.seed]]) [0] ⟨by decide, rfl⟩ ?_
    exact PJ.retn (vs := [.int .i64 0]) Try.results97 ⟨rfl, trivial⟩ ⟨rfl, rfl⟩
  · replace hm := ifF hm hb6
    refine WJ.skip ?_
    refine PJ.next ?_
    refine WJ.seq ?_
    refine WJ.reg ?_
    refine SJ.q (YldS.yld (y_move rfl)) rfl ?_
    obtain ⟨r7, h8, hm⟩ := bindS hm
    refine SJ.call1 (k := 0) rfl Try.call181 rfl (fun w S hw hA hO => ok_s_l00Src_next h8 w S _ (hr4.st1 hw hO) hA) rfl ?_
    rintro _ _ ⟨rfl, rfl⟩
    refine SJ.q (YldS.yld (y_assign rfl)) rfl ?_
    refine SJ.nil ?_
    refine PJ.next ?_
    obtain ⟨kj12, hk13, hm⟩ := withK_open hm
    refine WJ.join (X := Int × Int × Int) (fun (x : Int × Int × Int) => kj12 x.1 x.2.1 x.2.2 = some r) (fun (x : Int × Int × Int) => [(1, .int .i64 n5), (5, .int .i64 x.2.2)]) (fun (x : Int × Int × Int) => [box g2 185 [v3, .int .i64 x.1, .int .u64 x.2.1]]) ?_ ?_
    · clear hk13
      refine WJ.seq ?_
      refine WJ.quiet ?_
      refine QJ.step (YldS.yld (y_move rfl)) rfl ?_
      refine QJ.step (YldS.yld (y_bin rfl rfl rfl)) rfl ?_
      refine QJ.done ?_
      refine PJ.next ?_
      refine WJ.cond (t := decide (n5 > 200)) rfl (fun hb14 => ?_) (fun hb14 => ?_)
      · replace hm := ifT hm hb14
        refine WJ.reg ?_
        refine SJ.q (YldS.yld (y_move rfl)) rfl ?_
        refine SJ.q (YldS.yld (y_bin rfl rfl rfl)) rfl ?_
        refine SJ.q (YldS.yld (y_move rfl)) rfl ?_
        obtain ⟨r15, h16, hm⟩ := bindS hm
        refine SJ.call1 (k := 0) rfl Try.call181 rfl (fun w S hw hA hO => ok_s_l00Src_next h16 w S _ (hr4.st1 hw hO) hA) rfl ?_
        rintro _ _ ⟨rfl, rfl⟩
        refine SJ.q (YldS.yld (y_bin rfl rfl rfl)) rfl ?_
        refine SJ.q (YldS.yld (y_assign rfl)) rfl ?_
        refine SJ.nil ?_
        exact PJ.joined (r15.2.at_, r15.2.seed, w64 ((w64 (r7.1 * 256)) + r15.1)) [0] hm ⟨rfl, rfl, trivial⟩ ⟨by decide, rfl⟩
      · replace hm := ifF hm hb14
        refine WJ.skip ?_
        exact PJ.joined (r7.2.at_, r7.2.seed, r7.1) [0] hm ⟨rfl, rfl, trivial⟩ ⟨by decide, rfl⟩
    · rintro ⟨x9, x10, x11⟩ hm
      subst hk13
      refine WJ.seq ?_
      refine WJ.quiet ?_
      refine QJ.step (YldS.yld (y_move rfl)) rfl ?_
      refine QJ.step (YldS.yld (y_move rfl)) rfl ?_
      obtain ⟨q17, h18, hm⟩ := bindS hm
      refine QJ.step (YldS.yld (y_rem' h18 rfl rfl)) rfl ?_
      refine QJ.step (YldS.yld (y_assign rfl)) rfl ?_
      refine QJ.done ?_
      refine PJ.next ?_
      refine WJ.ret ?_
      obtain rfl := Option.some.inj hm
      refine PJ.sel (L' := [box g2 185 [v3, .int .i64 x9, .int .u64 x10]]) [0] ⟨by decide, rfl⟩ ?_
      exact PJ.retn (vs := [.int .i64 q17]) Try.results97 ⟨rfl, trivial⟩ ⟨rfl, rfl⟩

set_option maxRecDepth 100000 in
set_option maxHeartbeats 1000000 in
theorem ok_s_l14Draw {s1 : L00Src} {g2 : Nat} {r : Ribbon × L00Src} (hm : s_l14Draw s1 = some r) (w : World) (S : Nat → Prop) (v3 : Value) (hr4 : RdS w (Cx.Fz ⟨w, S⟩) v3 fByte.rp s1.code) (hA : (box g2 185 [v3, .int .i64 s1.at_, .int .u64 s1.seed]).holds w S) :
    Calls Try.prog 133 #[pt g2 0] w (RetG ⟨w, S⟩ fun u L => (u = .agg (Ribbon.enc r.1).toArray ∧ L = [box g2 185 [v3, .int .i64 r.2.at_, .int .u64 r.2.seed]])) := by
  unfold s_l14Draw at hm
  refine Calls.enter1 hA [pt g2 0] Try.func133 rfl Try.ntmps133 rfl ?_
  refine WJ.seq ?_
  refine WJ.reg ?_
  refine SJ.alloc (cs := [.int .i64 0, .int .i64 0, .int .i64 0]) Try.zeroValue59 rfl rfl fun g5 => ?_
  refine SJ.nil ?_
  refine PJ.next ?_
  refine WJ.seq ?_
  refine WJ.reg ?_
  refine SJ.q (YldS.yld (y_move rfl)) rfl ?_
  obtain ⟨r6, h7, hm⟩ := bindS hm
  refine SJ.call1 (k := 1) rfl Try.call97 rfl (fun w S hw hA hO => ok_s_l00Src_pick h7 w S _ (hr4.st1 hw hO) hA) rfl ?_
  rintro _ _ ⟨rfl, rfl⟩
  refine SJ.q (YldS.yld (y_bin rfl rfl rfl)) rfl ?_
  refine SJ.q (YldS.yld (y_build (parts := [(0, .tmp 6), (1, .const (.int .i64 20))]) (places := [(0, 1), (1, 1), (2, 1)]) (r := [.int .i64 ((Ribbon.mk (w64 (2 + r6.1)) 20 0).spots), .int .i64 ((Ribbon.mk (w64 (2 + r6.1)) 20 0).ink), .int .i64 ((Ribbon.mk (w64 (2 + r6.1)) 20 0).takes)]) pl59 Try.zeroValue59 rfl rfl rfl rfl)) rfl ?_
  refine SJ.alloc (cs := [.int .i64 0, .int .i64 0, .int .i64 0]) Try.zeroValue59 rfl rfl fun g8 => ?_
  refine SJ.storeL (k := 0) (off := 0) (us := [.int .i64 ((Ribbon.mk (w64 (2 + r6.1)) 20 0).spots), .int .i64 ((Ribbon.mk (w64 (2 + r6.1)) 20 0).ink), .int .i64 ((Ribbon.mk (w64 (2 + r6.1)) 20 0).takes)]) rfl rfl rfl rfl Try.sizeOf59 rfl rfl ?_
  refine SJ.nil ?_
  refine PJ.next ?_
  refine WJ.seq ?_
  refine WJ.reg ?_
  refine SJ.q (YldS.yld (y_move rfl)) rfl ?_
  obtain ⟨r9, h10, hm⟩ := bindS hm
  refine SJ.call1 (k := 1) rfl Try.call97 rfl (fun w S hw hA hO => ok_s_l00Src_pick h10 w S _ (hr4.st1 hw hO) hA) rfl ?_
  rintro _ _ ⟨rfl, rfl⟩
  refine SJ.q (YldS.yld (y_bin rfl rfl rfl)) rfl ?_
  refine SJ.q (YldS.yld (y_fldB (o := 0) fld59_1 rfl)) rfl ?_
  refine SJ.storeL (k := 1) (off := 1) (us := [.int .i64 (w64 (20 + r9.1))]) rfl rfl rfl rfl Try.sizeOf2 rfl rfl ?_
  refine SJ.nil ?_
  refine PJ.next ?_
  refine WJ.seq ?_
  refine WJ.reg ?_
  refine SJ.q (YldS.yld (y_move rfl)) rfl ?_
  obtain ⟨r11, h12, hm⟩ := bindS hm
  refine SJ.call1 (k := 0) rfl Try.call97 rfl (fun w S hw hA hO => ok_s_l00Src_pick h12 w S _ (hr4.st1 hw hO) hA) rfl ?_
  rintro _ _ ⟨rfl, rfl⟩
  refine SJ.q (YldS.yld (y_bin rfl rfl rfl)) rfl ?_
  refine SJ.q (YldS.yld (y_fldB (o := 0) fld59_2 rfl)) rfl ?_
  refine SJ.storeL (k := 1) (off := 2) (us := [.int .i64 (w64 (1 + r11.1))]) rfl rfl rfl rfl Try.sizeOf2 rfl rfl ?_
  refine SJ.nil ?_
  refine PJ.next ?_
  refine WJ.seq ?_
  refine WJ.reg ?_
  refine SJ.q (YldS.yld (y_loadBN (k := 1) (off := 0) (us := [.int .i64 ((Ribbon.mk (w64 (2 + r6.1)) 20 0).spots), .int .i64 (w64 (20 + r9.1)), .int .i64 (w64 (1 + r11.1))]) rfl Try.isAgg59 Try.sizeOf59 rfl rfl)) rfl ?_
  refine SJ.storeL (k := 2) (off := 0) (us := [.int .i64 ((Ribbon.mk (w64 (2 + r6.1)) 20 0).spots), .int .i64 (w64 (20 + r9.1)), .int .i64 (w64 (1 + r11.1))]) rfl rfl rfl rfl Try.sizeOf59 rfl rfl ?_
  refine SJ.nil ?_
  refine PJ.next ?_
  refine WJ.ret ?_
  obtain rfl := Option.some.inj hm
  exact PJ.retn_sel (vs := [.agg #[.int .i64 ((Ribbon.mk (w64 (2 + r6.1)) 20 0).spots), .int .i64 (w64 (20 + r9.1)), .int .i64 (w64 (1 + r11.1))]]) Try.results133 ⟨⟨2, g5, 59, [.int .i64 ((Ribbon.mk (w64 (2 + r6.1)) 20 0).spots), .int .i64 (w64 (20 + r9.1)), .int .i64 (w64 (1 + r11.1))], rfl, rfl, .inl ⟨Try.isAgg59, Try.sizeOf59, rfl⟩⟩, trivial⟩ [0] ⟨by decide, rfl⟩ ⟨rfl, rfl⟩

set_option maxRecDepth 100000 in
set_option maxHeartbeats 1000000 in
theorem ok_s_l00Src_among {s1 : L00Src} {list5 : List Int} {g2 : Nat} {r : Int × L00Src} (hm : s_l00Src_among s1 list5 = some r) (w : World) (S : Nat → Prop) (v3 : Value) (hr4 : RdS w (Cx.Fz ⟨w, S⟩) v3 fByte.rp s1.code) (v6 : Value) (hr7 : RdS w (Cx.Fz ⟨w, S⟩) v6 fI64.rp list5) (hA : (box g2 185 [v3, .int .i64 s1.at_, .int .u64 s1.seed]).holds w S) :
    Calls Try.prog 134 #[pt g2 0, v6] w (RetG ⟨w, S⟩ fun u L => (u = .int .i64 r.1 ∧ L = [box g2 185 [v3, .int .i64 r.2.at_, .int .u64 r.2.seed]])) := by
  unfold s_l00Src_among at hm
  refine Calls.enter1 hA [pt g2 0, v6] Try.func134 rfl Try.ntmps134 rfl ?_
  refine WJ.seq ?_
  refine WJ.quiet ?_
  refine QJ.step (YldS.yld (y_assign rfl)) rfl ?_
  refine QJ.done ?_
  refine PJ.next ?_
  refine WJ.seq ?_
  refine WJ.reg ?_
  refine SJ.q (YldS.yld (y_move rfl)) rfl ?_
  refine SJ.q (YldS.yld (y_move rfl)) rfl ?_
  refine SJ.q (YldS.yld (y_move rfl)) rfl ?_
  refine SJ.q (YldS.yld (y_lenS Try.runUnderlying66 hr7 rfl)) rfl ?_
  obtain ⟨r8, h9, hm⟩ := bindS hm
  refine SJ.call1 (k := 0) rfl Try.call97 rfl (fun w S hw hA hO => ok_s_l00Src_pick h9 w S _ (hr4.st1 hw hO) hA) rfl ?_
  rintro _ _ ⟨rfl, rfl⟩
  obtain ⟨e10, h11, hm⟩ := bindS hm
  obtain ⟨ad12, _, rfl, ha13, hy14⟩ := hr7.elem h11
  refine SJ.q (YldS.yld (hy14 Try.runUnderlying66 Try.sizeOf2 rfl rfl)) rfl ?_
  refine SJ.q (YldS.yld (y_load1 (v := .int .i64 e10) Try.isAgg2 ha13 St.frozenC rfl)) rfl ?_
  refine SJ.q (YldS.yld (y_assign rfl)) rfl ?_
  refine SJ.nil ?_
  refine PJ.next ?_
  refine WJ.ret ?_
  obtain rfl := Option.some.inj hm
  refine PJ.sel (L' := [box g2 185 [v3, .int .i64 r8.2.at_, .int .u64 r8.2.seed]]) [0] ⟨by decide, rfl⟩ ?_
  exact PJ.retn (vs := [.int .i64 e10]) Try.results134 ⟨rfl, trivial⟩ ⟨rfl, rfl⟩

set_option maxRecDepth 100000 in
set_option maxHeartbeats 1000000 in
theorem ok_s_l14Bent {s1 : L00Src} {g2 : Nat} {r : Ribbon × L00Src} (hm : s_l14Bent s1 = some r) (w : World) (S : Nat → Prop) (v3 : Value) (hr4 : RdS w (Cx.Fz ⟨w, S⟩) v3 fByte.rp s1.code) (hA : (box g2 185 [v3, .int .i64 s1.at_, .int .u64 s1.seed]).holds w S) :
    Calls Try.prog 120 #[pt g2 0] w (RetG ⟨w, S⟩ fun u L => (u = .agg (Ribbon.enc r.1).toArray ∧ L = [box g2 185 [v3, .int .i64 r.2.at_, .int .u64 r.2.seed]])) := by
  unfold s_l14Bent at hm
  refine Calls.enter1 hA [pt g2 0] Try.func120 rfl Try.ntmps120 rfl ?_
  refine WJ.seq ?_
  refine WJ.reg ?_
  refine SJ.alloc (cs := [.int .i64 0, .int .i64 0, .int .i64 0]) Try.zeroValue59 rfl rfl fun g5 => ?_
  refine SJ.nil ?_
  refine PJ.next ?_
  refine WJ.seq ?_
  refine WJ.reg ?_
  refine SJ.q (YldS.yld (y_move rfl)) rfl ?_
  obtain ⟨r6, h7, hm⟩ := bindS hm
  refine SJ.call1 (k := 1) rfl Try.call133 rfl (fun w S hw hA hO => ok_s_l14Draw h7 w S _ (hr4.st1 hw hO) hA) rfl ?_
  rintro _ _ ⟨rfl, rfl⟩
  refine SJ.alloc (cs := [.int .i64 0, .int .i64 0, .int .i64 0]) Try.zeroValue59 rfl rfl fun g8 => ?_
  refine SJ.storeL (k := 0) (off := 0) (us := [.int .i64 r6.1.spots, .int .i64 r6.1.ink, .int .i64 r6.1.takes]) rfl rfl rfl rfl Try.sizeOf59 rfl rfl ?_
  refine SJ.nil ?_
  refine PJ.next ?_
  obtain ⟨kj14, hk15, hm⟩ := withK_open hm
  refine WJ.join (X := Int × Int × Int × Int × Int) (fun (x : Int × Int × Int × Int × Int) => kj14 x.1 x.2.1 x.2.2.1 x.2.2.2.1 x.2.2.2.2 = some r) (fun (x : Int × Int × Int × Int × Int) => [(2, pt g5 0), (3, pt g8 0)]) (fun (x : Int × Int × Int × Int × Int) => [box g2 185 [v3, .int .i64 x.1, .int .u64 x.2.1], box g8 59 [.int .i64 x.2.2.1, .int .i64 x.2.2.2.1, .int .i64 x.2.2.2.2], box g5 59 [.int .i64 0, .int .i64 0, .int .i64 0]]) ?_ ?_
  · clear hk15
    refine WJ.seq ?_
    refine WJ.reg ?_
    refine SJ.q (YldS.yld (y_move rfl)) rfl ?_
    obtain ⟨r16, h17, hm⟩ := bindS hm
    refine SJ.call1 (k := 1) rfl Try.call97 rfl (fun w S hw hA hO => ok_s_l00Src_pick h17 w S _ (hr4.st1 hw hO) hA) rfl ?_
    rintro _ _ ⟨rfl, rfl⟩
    refine SJ.nil ?_
    refine PJ.next ?_
    refine WJ.block ?_
    refine WJ.seq ?_
    refine WJ.quiet ?_
    refine QJ.step (YldS.yld (y_bin rfl rfl rfl)) rfl ?_
    refine QJ.step (YldS.yld (y_assign rfl)) rfl ?_
    refine QJ.done ?_
    refine PJ.next ?_
    refine WJ.cond (t := (r16.1 == 0)) rfl (fun hb18 => ?_) (fun hb18 => ?_)
    · replace hm := ifT hm hb18
      refine WJ.reg ?_
      refine SJ.q (YldS.yld (y_move rfl)) rfl ?_
      refine SJ.buildSlice (R := fI64) (os := [.const (.int .i64 1), .const (.int .i64 2), .const (.int .i64 200), .const (.int .i64 201), .const (.int .i64 (-9223372036854775808))]) [1, 2, 200, 201, (-9223372036854775808)] Try.runUnderlying66 Try.sizeOf2 Try.zeroValue2 rfl rfl rfl rfl rfl rfl fun v19 => ?_
      obtain ⟨r20, h21, hm⟩ := bindS hm
      refine SJ.call2 (k := 1) rfl Try.call134 rfl (fun w S hw hA hO hB => ok_s_l00Src_among h21 w S _ (hr4.st1 hw hO) _ (hB.row_rd (j := 0) (k := 1) rfl rfl) hA) rfl ?_
      rintro _ _ ⟨rfl, rfl⟩
      refine SJ.q (YldS.yld (y_fldB (o := 0) fld59_0 rfl)) rfl ?_
      refine SJ.storeL (k := 2) (off := 0) (us := [.int .i64 r20.1]) rfl rfl rfl rfl Try.sizeOf2 rfl rfl ?_
      refine SJ.nil ?_
      refine PJ.block_normal ?_
      exact PJ.joined (r20.2.at_, r20.2.seed, r20.1, r6.1.ink, r6.1.takes) [0, 2, 3] hm ⟨rfl, rfl, trivial⟩ ⟨by decide, rfl⟩
    · replace hm := ifF hm hb18
      refine WJ.seq ?_
      refine WJ.quiet ?_
      refine QJ.step (YldS.yld (y_bin rfl rfl rfl)) rfl ?_
      refine QJ.step (YldS.yld (y_assign rfl)) rfl ?_
      refine QJ.done ?_
      refine PJ.next ?_
      refine WJ.cond (t := (r16.1 == 1)) rfl (fun hb22 => ?_) (fun hb22 => ?_)
      · replace hm := ifT hm hb22
        refine WJ.reg ?_
        refine SJ.q (YldS.yld (y_move rfl)) rfl ?_
        refine SJ.q (YldS.yld (y_fldB (o := 0) fld59_2 rfl)) rfl ?_
        refine SJ.q (YldS.yld (y_loadB (k := 1) (off := 2) (v := .int .i64 r6.1.takes) rfl Try.isAgg2 rfl rfl)) rfl ?_
        refine SJ.buildSlice (R := fI64) (os := [.const (.int .i64 0), .tmp 18, .const (.int .i64 1000), .const (.int .i64 1001)]) [0, r6.1.takes, 1000, 1001] Try.runUnderlying66 Try.sizeOf2 Try.zeroValue2 rfl rfl rfl rfl rfl rfl fun v23 => ?_
        obtain ⟨r24, h25, hm⟩ := bindS hm
        refine SJ.call2 (k := 1) rfl Try.call134 rfl (fun w S hw hA hO hB => ok_s_l00Src_among h25 w S _ (hr4.st1 hw hO) _ (hB.row_rd (j := 0) (k := 1) rfl rfl) hA) rfl ?_
        rintro _ _ ⟨rfl, rfl⟩
        refine SJ.q (YldS.yld (y_fldB (o := 0) fld59_1 rfl)) rfl ?_
        refine SJ.storeL (k := 2) (off := 1) (us := [.int .i64 r24.1]) rfl rfl rfl rfl Try.sizeOf2 rfl rfl ?_
        refine SJ.nil ?_
        refine PJ.block_normal ?_
        exact PJ.joined (r24.2.at_, r24.2.seed, r6.1.spots, r24.1, r6.1.takes) [0, 2, 3] hm ⟨rfl, rfl, trivial⟩ ⟨by decide, rfl⟩
      · replace hm := ifF hm hb22
        refine WJ.seq ?_
        refine WJ.quiet ?_
        refine QJ.step (YldS.yld (y_bin rfl rfl rfl)) rfl ?_
        refine QJ.step (YldS.yld (y_assign rfl)) rfl ?_
        refine QJ.done ?_
        refine PJ.next ?_
        refine WJ.cond (t := (r16.1 == 2)) rfl (fun hb26 => ?_) (fun hb26 => ?_)
        · replace hm := ifT hm hb26
          refine WJ.reg ?_
          refine SJ.q (YldS.yld (y_move rfl)) rfl ?_
          refine SJ.q (YldS.yld (y_fldB (o := 0) fld59_1 rfl)) rfl ?_
          refine SJ.q (YldS.yld (y_loadB (k := 1) (off := 1) (v := .int .i64 r6.1.ink) rfl Try.isAgg2 rfl rfl)) rfl ?_
          refine SJ.q (YldS.yld (y_fldB (o := 0) fld59_1 rfl)) rfl ?_
          refine SJ.q (YldS.yld (y_loadB (k := 1) (off := 1) (v := .int .i64 r6.1.ink) rfl Try.isAgg2 rfl rfl)) rfl ?_
          refine SJ.q (YldS.yld (y_bin rfl rfl rfl)) rfl ?_
          refine SJ.buildSlice (R := fI64) (os := [.const (.int .i64 0), .const (.int .i64 1), .tmp 26, .tmp 29]) [0, 1, r6.1.ink, w64 (r6.1.ink + 1)] Try.runUnderlying66 Try.sizeOf2 Try.zeroValue2 rfl rfl rfl rfl rfl rfl fun v27 => ?_
          obtain ⟨r28, h29, hm⟩ := bindS hm
          refine SJ.call2 (k := 1) rfl Try.call134 rfl (fun w S hw hA hO hB => ok_s_l00Src_among h29 w S _ (hr4.st1 hw hO) _ (hB.row_rd (j := 0) (k := 1) rfl rfl) hA) rfl ?_
          rintro _ _ ⟨rfl, rfl⟩
          refine SJ.q (YldS.yld (y_fldB (o := 0) fld59_2 rfl)) rfl ?_
          refine SJ.storeL (k := 2) (off := 2) (us := [.int .i64 r28.1]) rfl rfl rfl rfl Try.sizeOf2 rfl rfl ?_
          refine SJ.nil ?_
          refine PJ.block_normal ?_
          exact PJ.joined (r28.2.at_, r28.2.seed, r6.1.spots, r6.1.ink, r28.1) [0, 2, 3] hm ⟨rfl, rfl, trivial⟩ ⟨by decide, rfl⟩
        · replace hm := ifF hm hb26
          refine WJ.skip ?_
          refine PJ.block_normal ?_
          exact PJ.joined (r16.2.at_, r16.2.seed, r6.1.spots, r6.1.ink, r6.1.takes) [0, 1, 2] hm ⟨rfl, rfl, trivial⟩ ⟨by decide, rfl⟩
  · rintro ⟨x9, x10, x11, x12, x13⟩ hm
    subst hk15
    refine WJ.seq ?_
    refine WJ.reg ?_
    refine SJ.q (YldS.yld (y_loadBN (k := 1) (off := 0) (us := [.int .i64 x11, .int .i64 x12, .int .i64 x13]) rfl Try.isAgg59 Try.sizeOf59 rfl rfl)) rfl ?_
    refine SJ.storeL (k := 2) (off := 0) (us := [.int .i64 x11, .int .i64 x12, .int .i64 x13]) rfl rfl rfl rfl Try.sizeOf59 rfl rfl ?_
    refine SJ.nil ?_
    refine PJ.next ?_
    refine WJ.ret ?_
    obtain rfl := Option.some.inj hm
    exact PJ.retn_sel (vs := [.agg #[.int .i64 x11, .int .i64 x12, .int .i64 x13]]) Try.results120 ⟨⟨2, g5, 59, [.int .i64 x11, .int .i64 x12, .int .i64 x13], rfl, rfl, .inl ⟨Try.isAgg59, Try.sizeOf59, rfl⟩⟩, trivial⟩ [0] ⟨by decide, rfl⟩ ⟨rfl, rfl⟩

set_option maxRecDepth 100000 in
set_option maxHeartbeats 1000000 in
theorem ok_s_l00Src_one {s1 : L00Src} {n5 : Int} {g2 : Nat} {r : Bool × L00Src} (hm : s_l00Src_one s1 n5 = some r) (w : World) (S : Nat → Prop) (v3 : Value) (hr4 : RdS w (Cx.Fz ⟨w, S⟩) v3 fByte.rp s1.code) (hA : (box g2 185 [v3, .int .i64 s1.at_, .int .u64 s1.seed]).holds w S) :
    Calls Try.prog 121 #[pt g2 0, .int .i64 n5] w (RetG ⟨w, S⟩ fun u L => (u = .bool r.1 ∧ L = [box g2 185 [v3, .int .i64 r.2.at_, .int .u64 r.2.seed]])) := by
  unfold s_l00Src_one at hm
  refine Calls.enter1 hA [pt g2 0, .int .i64 n5] Try.func121 rfl Try.ntmps121 rfl ?_
  refine WJ.seq ?_
  refine WJ.quiet ?_
  refine QJ.step (YldS.yld (y_assign rfl)) rfl ?_
  refine QJ.done ?_
  refine PJ.next ?_
  refine WJ.seq ?_
  refine WJ.reg ?_
  refine SJ.q (YldS.yld (y_move rfl)) rfl ?_
  refine SJ.q (YldS.yld (y_move rfl)) rfl ?_
  obtain ⟨r6, h7, hm⟩ := bindS hm
  refine SJ.call1 (k := 0) rfl Try.call97 rfl (fun w S hw hA hO => ok_s_l00Src_pick h7 w S _ (hr4.st1 hw hO) hA) rfl ?_
  rintro _ _ ⟨rfl, rfl⟩
  refine SJ.q (YldS.yld (y_bin rfl rfl rfl)) rfl ?_
  refine SJ.q (YldS.yld (y_assign rfl)) rfl ?_
  refine SJ.nil ?_
  refine PJ.next ?_
  refine WJ.ret ?_
  obtain rfl := Option.some.inj hm
  refine PJ.sel (L' := [box g2 185 [v3, .int .i64 r6.2.at_, .int .u64 r6.2.seed]]) [0] ⟨by decide, rfl⟩ ?_
  exact PJ.retn (vs := [.bool (r6.1 == 0)]) Try.results121 ⟨rfl, trivial⟩ ⟨rfl, rfl⟩

set_option maxRecDepth 100000 in
set_option maxHeartbeats 1000000 in
theorem ok_s_l14DrawLeast {s1 : L00Src} {r5 : Ribbon} {g2 : Nat} {r : Int × L00Src} (hm : s_l14DrawLeast s1 r5 = some r) (w : World) (S : Nat → Prop) (v3 : Value) (hr4 : RdS w (Cx.Fz ⟨w, S⟩) v3 fByte.rp s1.code) (hA : (box g2 185 [v3, .int .i64 s1.at_, .int .u64 s1.seed]).holds w S) :
    Calls Try.prog 122 #[pt g2 0, .agg (Ribbon.enc r5).toArray] w (RetG ⟨w, S⟩ fun u L => (u = .int .i64 r.1 ∧ L = [box g2 185 [v3, .int .i64 r.2.at_, .int .u64 r.2.seed]])) := by
  unfold s_l14DrawLeast at hm
  refine Calls.enter1 hA [pt g2 0, .agg (Ribbon.enc r5).toArray] Try.func122 rfl Try.ntmps122 rfl ?_
  refine WJ.seq ?_
  refine WJ.reg ?_
  refine SJ.box (cs := [.int .i64 r5.spots, .int .i64 r5.ink, .int .i64 r5.takes]) rfl rfl rfl fun g6 => ?_
  refine SJ.q (YldS.yld (y_assign rfl)) rfl ?_
  refine SJ.nil ?_
  refine PJ.next ?_
  refine WJ.seq ?_
  refine WJ.seq ?_
  refine WJ.reg ?_
  refine SJ.q (YldS.yld (y_move rfl)) rfl ?_
  obtain ⟨r7, h8, hm⟩ := bindS hm
  refine SJ.call1 (k := 1) rfl Try.call121 rfl (fun w S hw hA hO => ok_s_l00Src_one h8 w S _ (hr4.st1 hw hO) hA) rfl ?_
  rintro _ _ ⟨rfl, rfl⟩
  refine SJ.nil ?_
  refine PJ.next ?_
  refine WJ.cond (t := r7.1) rfl (fun hb9 => ?_) (fun hb9 => ?_)
  · replace hm := ifT hm hb9
    refine WJ.seq ?_
    refine WJ.reg ?_
    refine SJ.q (YldS.yld (y_move rfl)) rfl ?_
    refine SJ.q (YldS.yld (y_fldB (o := 0) fld59_1 rfl)) rfl ?_
    refine SJ.q (YldS.yld (y_loadB (k := 1) (off := 1) (v := .int .i64 r5.ink) rfl Try.isAgg2 rfl rfl)) rfl ?_
    refine SJ.q (YldS.yld (y_fldB (o := 0) fld59_1 rfl)) rfl ?_
    refine SJ.q (YldS.yld (y_loadB (k := 1) (off := 1) (v := .int .i64 r5.ink) rfl Try.isAgg2 rfl rfl)) rfl ?_
    refine SJ.q (YldS.yld (y_bin rfl rfl rfl)) rfl ?_
    refine SJ.buildSlice (R := fI64) (os := [.const (.int .i64 (-1)), .const (.int .i64 0), .const (.int .i64 1), .tmp 9, .tmp 12]) [(-1), 0, 1, r5.ink, w64 (r5.ink + 1)] Try.runUnderlying66 Try.sizeOf2 Try.zeroValue2 rfl rfl rfl rfl rfl rfl fun v10 => ?_
    obtain ⟨r11, h12, hm⟩ := bindS hm
    refine SJ.call2 (k := 1) rfl Try.call134 rfl (fun w S hw hA hO hB => ok_s_l00Src_among h12 w S _ (hr4.st1 hw hO) _ (hB.row_rd (j := 0) (k := 1) rfl rfl) hA) rfl ?_
    rintro _ _ ⟨rfl, rfl⟩
    refine SJ.q (YldS.yld (y_assign rfl)) rfl ?_
    refine SJ.nil ?_
    refine PJ.next ?_
    refine WJ.ret ?_
    refine PJ.then_ret ?_
    obtain rfl := Option.some.inj hm
    refine PJ.sel (L' := [box g2 185 [v3, .int .i64 r11.2.at_, .int .u64 r11.2.seed]]) [0] ⟨by decide, rfl⟩ ?_
    exact PJ.retn (vs := [.int .i64 r11.1]) Try.results122 ⟨rfl, trivial⟩ ⟨rfl, rfl⟩
  · replace hm := ifF hm hb9
    refine WJ.skip ?_
    refine PJ.next ?_
    refine WJ.seq ?_
    refine WJ.reg ?_
    refine SJ.q (YldS.yld (y_move rfl)) rfl ?_
    obtain ⟨r13, h14, hm⟩ := bindS hm
    refine SJ.call1 (k := 0) rfl Try.call97 rfl (fun w S hw hA hO => ok_s_l00Src_pick h14 w S _ (hr4.st1 hw hO) hA) rfl ?_
    rintro _ _ ⟨rfl, rfl⟩
    refine SJ.q (YldS.yld (y_bin rfl rfl rfl)) rfl ?_
    refine SJ.q (YldS.yld (y_assign rfl)) rfl ?_
    refine SJ.nil ?_
    refine PJ.next ?_
    refine WJ.ret ?_
    obtain rfl := Option.some.inj hm
    refine PJ.sel (L' := [box g2 185 [v3, .int .i64 r13.2.at_, .int .u64 r13.2.seed]]) [0] ⟨by decide, rfl⟩ ?_
    exact PJ.retn (vs := [.int .i64 (w64 (1 + r13.1))]) Try.results122 ⟨rfl, trivial⟩ ⟨rfl, rfl⟩

set_option maxRecDepth 100000 in
set_option maxHeartbeats 1000000 in
theorem ok_s_DrawStrokesUntil {code1 : List UInt8} {r : Ribbon × Int} (hm : s_DrawStrokesUntil code1 = some r) (w : World) (v2 : Value) (hr3 : RdS w (cx w).Fz v2 fByte.rp code1) :
    Calls Try.prog 34 #[v2] w (Ret (cx w) (tup [.agg (Ribbon.enc r.1).toArray, .int .i64 r.2])) := by
  unfold s_DrawStrokesUntil at hm
  refine Calls.enter [v2] Try.func34 rfl Try.ntmps34 rfl ?_
  refine WJ.seq ?_
  refine WJ.reg ?_
  refine SJ.alloc (cs := [.int .i64 0, .int .i64 0, .int .i64 0]) Try.zeroValue59 rfl rfl fun g4 => ?_
  refine SJ.q (YldS.yld (y_assign rfl)) rfl ?_
  refine SJ.nil ?_
  refine PJ.next ?_
  refine WJ.seq ?_
  refine WJ.reg ?_
  refine SJ.q (YldS.yld (y_move rfl)) rfl ?_
  obtain ⟨r5, h6, hm⟩ := bindS hm
  refine SJ.call Try.call95 rfl (fun w hw => ok_s_l00From h6 w _ (hr3.st hw)) rfl ?_
  rintro _ _ ⟨g7, rfl, rfl⟩
  refine SJ.q (YldS.yld (y_assign rfl)) rfl ?_
  refine SJ.nil ?_
  refine PJ.next ?_
  refine WJ.seq ?_
  refine WJ.reg ?_
  refine SJ.q (YldS.yld (y_move rfl)) rfl ?_
  obtain ⟨r8, h9, hm⟩ := bindS hm
  refine SJ.call1 (k := 0) rfl Try.call120 rfl (fun w S hw hA hO => ok_s_l14Bent h9 w S _ (hr3.st1 hw hO) hA) rfl ?_
  rintro _ _ ⟨rfl, rfl⟩
  refine SJ.alloc (cs := [.int .i64 0, .int .i64 0, .int .i64 0]) Try.zeroValue59 rfl rfl fun g10 => ?_
  refine SJ.storeL (k := 0) (off := 0) (us := [.int .i64 r8.1.spots, .int .i64 r8.1.ink, .int .i64 r8.1.takes]) rfl rfl rfl rfl Try.sizeOf59 rfl rfl ?_
  refine SJ.nil ?_
  refine PJ.next ?_
  refine WJ.seq ?_
  refine WJ.seq ?_
  refine WJ.reg ?_
  refine SJ.q (YldS.yld (y_move rfl)) rfl ?_
  obtain ⟨r11, h12, hm⟩ := bindS hm
  refine SJ.call1 (k := 1) rfl Try.call121 rfl (fun w S hw hA hO => ok_s_l00Src_one h12 w S _ (hr3.st1 hw hO) hA) rfl ?_
  rintro _ _ ⟨rfl, rfl⟩
  refine SJ.nil ?_
  refine PJ.next ?_
  refine WJ.cond (t := r11.1) rfl (fun hb13 => ?_) (fun hb13 => ?_)
  · replace hm := ifT hm hb13
    refine WJ.seq ?_
    refine WJ.reg ?_
    refine SJ.q (YldS.yld (y_build (parts := [(0, .const (.int .i64 200)), (1, .const (.int .i64 1000)), (2, .const (.int .i64 1))]) (places := [(0, 1), (1, 1), (2, 1)]) (r := [.int .i64 ((Ribbon.mk 200 1000 1).spots), .int .i64 ((Ribbon.mk 200 1000 1).ink), .int .i64 ((Ribbon.mk 200 1000 1).takes)]) pl59 Try.zeroValue59 rfl rfl rfl rfl)) rfl ?_
    refine SJ.storeL (k := 2) (off := 0) (us := [.int .i64 ((Ribbon.mk 200 1000 1).spots), .int .i64 ((Ribbon.mk 200 1000 1).ink), .int .i64 ((Ribbon.mk 200 1000 1).takes)]) rfl rfl rfl rfl Try.sizeOf59 rfl rfl ?_
    refine SJ.q (YldS.yld (y_assign rfl)) rfl ?_
    refine SJ.nil ?_
    refine PJ.next ?_
    refine WJ.ret ?_
    refine PJ.then_ret ?_
    obtain rfl := Option.some.inj hm
    exact PJ.retn_sel (vs := [.agg (Ribbon.enc (Ribbon.mk 200 1000 1)).toArray, .int .i64 1]) Try.results34 ⟨⟨2, g4, 59, [.int .i64 ((Ribbon.mk 200 1000 1).spots), .int .i64 ((Ribbon.mk 200 1000 1).ink), .int .i64 ((Ribbon.mk 200 1000 1).takes)], rfl, rfl, .inl ⟨Try.isAgg59, Try.sizeOf59, rfl⟩⟩, rfl, trivial⟩ [] ⟨List.nodup_nil, rfl⟩ ⟨rfl, rfl⟩
  · replace hm := ifF hm hb13
    refine WJ.skip ?_
    refine PJ.next ?_
    refine WJ.seq ?_
    obtain ⟨r14, h15, hm⟩ := bindS hm
    refine WJ.draws (N := 6) (listed0 := #[false, false, false, false, false, false]) [box g10 59 [.int .i64 r8.1.spots, .int .i64 r8.1.ink, .int .i64 r8.1.takes]] follows rfl rfl ?_
    refine RJ.first 0 (listed' := #[true, false, false, false, false, false]) [1] rfl (by kernel_rfl) rfl ⟨by decide, rfl⟩ (y_loadBN (k := 0) (off := 0) (us := [.int .i64 r8.1.spots, .int .i64 r8.1.ink, .int .i64 r8.1.takes]) rfl Try.isAgg59 Try.sizeOf59 rfl rfl) rfl ?_
    refine RJ.first 1 (listed' := #[true, true, false, false, false, false]) [1] rfl (by kernel_rfl) rfl ⟨by decide, rfl⟩ (y_move rfl) rfl ?_
    refine RJ.first 2 (listed' := #[true, true, true, false, false, false]) [1] rfl (by kernel_rfl) rfl ⟨by decide, rfl⟩ (y_loadBN (k := 0) (off := 0) (us := [.int .i64 r8.1.spots, .int .i64 r8.1.ink, .int .i64 r8.1.takes]) rfl Try.isAgg59 Try.sizeOf59 rfl rfl) rfl ?_
    refine RJ.step1 3 [1] (by kernel_rfl) ⟨by decide, rfl⟩ ?_
    refine RO.of (listed' := #[true, true, true, true, false, false]) rfl rfl ?_
    refine SJ.call1 (k := 0) rfl Try.call122 rfl (fun w S hw hA hO => ok_s_l14DrawLeast h15 w S _ (hr3.st1 hw hO) hA) rfl ?_
    rintro _ _ ⟨rfl, rfl⟩
    refine SJ.nil ?_
    refine PJ.draw ?_
    refine RJ.step1 4 [1] (by kernel_rfl) ⟨by decide, rfl⟩ ?_
    refine RO.of (listed' := #[true, true, true, true, true, false]) rfl rfl ?_
    refine SJ.storeL (k := 2) (off := 0) (us := [.int .i64 r8.1.spots, .int .i64 r8.1.ink, .int .i64 r8.1.takes]) rfl rfl rfl rfl Try.sizeOf59 rfl rfl ?_
    refine SJ.nil ?_
    refine PJ.draw ?_
    refine RJ.first 5 (listed' := #[true, true, true, true, true, true]) [1] rfl (by kernel_rfl) rfl ⟨by decide, rfl⟩ (y_assign rfl) rfl ?_
    refine RJ.fin [1] (by kernel_rfl) ⟨by decide, rfl⟩ ?_
    refine PJ.next ?_
    refine WJ.ret ?_
    obtain rfl := Option.some.inj hm
    exact PJ.retn_sel (vs := [.agg (Ribbon.enc r8.1).toArray, .int .i64 r14.1]) Try.results34 ⟨⟨2, g4, 59, [.int .i64 r8.1.spots, .int .i64 r8.1.ink, .int .i64 r8.1.takes], rfl, rfl, .inl ⟨Try.isAgg59, Try.sizeOf59, rfl⟩⟩, rfl, trivial⟩ [] ⟨List.nodup_nil, rfl⟩ ⟨rfl, rfl⟩

set_option maxRecDepth 100000 in
set_option maxHeartbeats 1000000 in
theorem ok_i_between {n1 : Int} {low2 : Int} {high3 : Int} {r : Bool} (hm : i_between n1 low2 high3 = some r) (w : World)  :
    Calls Try.prog 107 #[.int .i64 n1, .int .i64 low2, .int .i64 high3] w (Ret (cx w) (.bool r)) := by
  unfold i_between at hm
  refine Calls.enter [.int .i64 n1, .int .i64 low2, .int .i64 high3] Try.func107 rfl Try.ntmps107 rfl ?_
  refine WJ.seq ?_
  refine WJ.quiet ?_
  refine QJ.step (YldS.yld (y_assign rfl)) rfl ?_
  refine QJ.done ?_
  refine PJ.next ?_
  refine WJ.seq ?_
  refine WJ.quiet ?_
  refine QJ.step (YldS.yld (y_move rfl)) rfl ?_
  refine QJ.step (YldS.yld (y_move rfl)) rfl ?_
  refine QJ.step (YldS.yld (y_bin rfl rfl rfl)) rfl ?_
  refine QJ.step (YldS.yld (y_move rfl)) rfl ?_
  obtain ⟨t4, h5, hm⟩ := bindS hm
  refine QJ.cut 4 [(14, .bool t4)] ?_ ?_
  · rcases Bool.eq_false_or_eq_true (decide (n1 ≥ low2)) with hb6 | hb6
    · replace h5 := andT h5 hb6
      refine QJ.on rfl rfl (cB hb6) (YldS.yld (y_move rfl)) rfl ?_
      refine QJ.on rfl rfl (cB hb6) (YldS.yld (y_move rfl)) rfl ?_
      refine QJ.on rfl rfl (cB hb6) (YldS.yld (y_bin rfl rfl rfl)) rfl ?_
      refine QJ.step (YldS.yld (y_pick_t (cB hb6) rfl)) rfl ?_
      obtain rfl := Option.some.inj h5
      exact QJ.cut_end ⟨rfl, trivial⟩
    · obtain rfl := andF h5 hb6
      refine QJ.off rfl rfl (cB hb6) rfl rfl ?_
      refine QJ.off rfl rfl (cB hb6) rfl rfl ?_
      refine QJ.off rfl rfl (cB hb6) rfl rfl ?_
      refine QJ.step (YldS.yld (y_pick_f (cB hb6) rfl)) rfl ?_
      exact QJ.cut_end ⟨rfl, trivial⟩
  refine QJ.step (YldS.yld (y_assign rfl)) rfl ?_
  refine QJ.done ?_
  refine PJ.next ?_
  refine WJ.ret ?_
  obtain rfl := Option.some.inj hm
  refine PJ.sel (L' := []) [] ⟨List.nodup_nil, rfl⟩ ?_
  exact PJ.retn (vs := [.bool t4]) Try.results107 ⟨rfl, trivial⟩ ⟨rfl, rfl⟩

set_option maxRecDepth 100000 in
set_option maxHeartbeats 1000000 in
theorem ok_i_ValidRibbon {r1 : Ribbon} {r : Bool} (hm : i_ValidRibbon r1 = some r) (w : World)  :
    Calls Try.prog 123 #[.agg (Ribbon.enc r1).toArray] w (Ret (cx w) (.bool r)) := by
  unfold i_ValidRibbon at hm
  refine Calls.enter [.agg (Ribbon.enc r1).toArray] Try.func123 rfl Try.ntmps123 rfl ?_
  refine WJ.seq ?_
  refine WJ.reg ?_
  refine SJ.box (cs := [.int .i64 r1.spots, .int .i64 r1.ink, .int .i64 r1.takes]) rfl rfl rfl fun g2 => ?_
  refine SJ.q (YldS.yld (y_assign rfl)) rfl ?_
  refine SJ.nil ?_
  refine PJ.next ?_
  refine WJ.seq ?_
  refine WJ.quiet ?_
  refine QJ.step (YldS.yld (y_fldB (o := 0) fld59_0 rfl)) rfl ?_
  refine QJ.step (YldS.yld (y_loadB (k := 0) (off := 0) (v := .int .i64 r1.spots) rfl Try.isAgg2 rfl rfl)) rfl ?_
  obtain ⟨r3, h4, hm⟩ := bindS hm
  refine QJ.step (y_call Try.call107 rfl (RetG.quiet fun w hw => ok_i_between h4 w )) rfl ?_
  refine QJ.step (YldS.yld (y_move rfl)) rfl ?_
  obtain ⟨t5, h6, hm⟩ := bindS hm
  refine QJ.cut 4 [(1, pt g2 0), (10, .bool t5)] ?_ ?_
  · rcases Bool.eq_false_or_eq_true r3 with hb7 | hb7
    · replace h6 := andT h6 hb7
      refine QJ.on rfl rfl (cB hb7) (YldS.yld (y_fldB (o := 0) fld59_1 rfl)) rfl ?_
      refine QJ.on rfl rfl (cB hb7) (YldS.yld (y_loadB (k := 0) (off := 1) (v := .int .i64 r1.ink) rfl Try.isAgg2 rfl rfl)) rfl ?_
      obtain ⟨r8, h9, h6⟩ := bindS h6
      refine QJ.on rfl rfl (cB hb7) (y_call Try.call107 rfl (RetG.quiet fun w hw => ok_i_between h9 w )) rfl ?_
      refine QJ.step (YldS.yld (y_pick_t (cB hb7) rfl)) rfl ?_
      obtain rfl := Option.some.inj h6
      exact QJ.cut_end ⟨rfl, rfl, trivial⟩
    · obtain rfl := andF h6 hb7
      refine QJ.off rfl rfl (cB hb7) rfl rfl ?_
      refine QJ.off rfl rfl (cB hb7) rfl rfl ?_
      refine QJ.off rfl rfl (cB hb7) rfl rfl ?_
      refine QJ.step (YldS.yld (y_pick_f (cB hb7) rfl)) rfl ?_
      exact QJ.cut_end ⟨rfl, rfl, trivial⟩
  refine QJ.step (YldS.yld (y_move rfl)) rfl ?_
  obtain ⟨t10, h11, hm⟩ := bindS hm
  refine QJ.cut 6 [(17, .bool t10)] ?_ ?_
  · rcases Bool.eq_false_or_eq_true t5 with hb12 | hb12
    · replace h11 := andT h11 hb12
      refine QJ.on rfl rfl (cB hb12) (YldS.yld (y_fldB (o := 0) fld59_2 rfl)) rfl ?_
      refine QJ.on rfl rfl (cB hb12) (YldS.yld (y_loadB (k := 0) (off := 2) (v := .int .i64 r1.takes) rfl Try.isAgg2 rfl rfl)) rfl ?_
      refine QJ.on rfl rfl (cB hb12) (YldS.yld (y_fldB (o := 0) fld59_1 rfl)) rfl ?_
      refine QJ.on rfl rfl (cB hb12) (YldS.yld (y_loadB (k := 0) (off := 1) (v := .int .i64 r1.ink) rfl Try.isAgg2 rfl rfl)) rfl ?_
      obtain ⟨r13, h14, h11⟩ := bindS h11
      refine QJ.on rfl rfl (cB hb12) (y_call Try.call107 rfl (RetG.quiet fun w hw => ok_i_between h14 w )) rfl ?_
      refine QJ.step (YldS.yld (y_pick_t (cB hb12) rfl)) rfl ?_
      obtain rfl := Option.some.inj h11
      exact QJ.cut_end ⟨rfl, trivial⟩
    · obtain rfl := andF h11 hb12
      refine QJ.off rfl rfl (cB hb12) rfl rfl ?_
      refine QJ.off rfl rfl (cB hb12) rfl rfl ?_
      refine QJ.off rfl rfl (cB hb12) rfl rfl ?_
      refine QJ.off rfl rfl (cB hb12) rfl rfl ?_
      refine QJ.off rfl rfl (cB hb12) rfl rfl ?_
      refine QJ.step (YldS.yld (y_pick_f (cB hb12) rfl)) rfl ?_
      exact QJ.cut_end ⟨rfl, trivial⟩
  refine QJ.step (YldS.yld (y_assign rfl)) rfl ?_
  refine QJ.done ?_
  refine PJ.next ?_
  refine WJ.ret ?_
  obtain rfl := Option.some.inj hm
  refine PJ.sel (L' := []) [] ⟨List.nodup_nil, rfl⟩ ?_
  exact PJ.retn (vs := [.bool t10]) Try.results123 ⟨rfl, trivial⟩ ⟨rfl, rfl⟩

set_option maxRecDepth 100000 in
set_option maxHeartbeats 1000000 in
theorem ok_i_Ribbon_period {r1 : Ribbon} {r : Int} (hm : i_Ribbon_period r1 = some r) (w : World)  :
    Calls Try.prog 219 #[.agg (Ribbon.enc r1).toArray] w (Ret (cx w) (.int .i64 r)) := by
  unfold i_Ribbon_period at hm
  refine Calls.enter [.agg (Ribbon.enc r1).toArray] Try.func219 rfl Try.ntmps219 rfl ?_
  refine WJ.seq ?_
  refine WJ.reg ?_
  refine SJ.box (cs := [.int .i64 r1.spots, .int .i64 r1.ink, .int .i64 r1.takes]) rfl rfl rfl fun g2 => ?_
  refine SJ.q (YldS.yld (y_assign rfl)) rfl ?_
  refine SJ.nil ?_
  refine PJ.next ?_
  refine WJ.seq ?_
  refine WJ.quiet ?_
  refine QJ.step (YldS.yld (y_fldB (o := 0) fld59_0 rfl)) rfl ?_
  refine QJ.step (YldS.yld (y_loadB (k := 0) (off := 0) (v := .int .i64 r1.spots) rfl Try.isAgg2 rfl rfl)) rfl ?_
  refine QJ.step (YldS.yld (y_bin rfl rfl rfl)) rfl ?_
  refine QJ.step (YldS.yld (y_bin rfl rfl rfl)) rfl ?_
  refine QJ.step (YldS.yld (y_assign rfl)) rfl ?_
  refine QJ.done ?_
  refine PJ.next ?_
  refine WJ.ret ?_
  obtain rfl := Option.some.inj hm
  refine PJ.sel (L' := []) [] ⟨List.nodup_nil, rfl⟩ ?_
  exact PJ.retn (vs := [.int .i64 (w64 (2 * (w64 (r1.spots - 1))))]) Try.results219 ⟨rfl, trivial⟩ ⟨rfl, rfl⟩

set_option maxRecDepth 100000 in
set_option maxHeartbeats 1000000 in
theorem ok_i_Ribbon_spot {r1 : Ribbon} {stroke2 : Int} {r : Int} (hm : i_Ribbon_spot r1 stroke2 = some r) (w : World)  :
    Calls Try.prog 192 #[.agg (Ribbon.enc r1).toArray, .int .i64 stroke2] w (Ret (cx w) (.int .i64 r)) := by
  unfold i_Ribbon_spot at hm
  refine Calls.enter [.agg (Ribbon.enc r1).toArray, .int .i64 stroke2] Try.func192 rfl Try.ntmps192 rfl ?_
  refine WJ.seq ?_
  refine WJ.reg ?_
  refine SJ.box (cs := [.int .i64 r1.spots, .int .i64 r1.ink, .int .i64 r1.takes]) rfl rfl rfl fun g3 => ?_
  refine SJ.q (YldS.yld (y_assign rfl)) rfl ?_
  refine SJ.nil ?_
  refine PJ.next ?_
  refine WJ.seq ?_
  refine WJ.quiet ?_
  refine QJ.step (YldS.yld (y_move rfl)) rfl ?_
  refine QJ.step (YldS.yld (y_loadBN (k := 0) (off := 0) (us := [.int .i64 r1.spots, .int .i64 r1.ink, .int .i64 r1.takes]) rfl Try.isAgg59 Try.sizeOf59 rfl rfl)) rfl ?_
  obtain ⟨r4, h5, hm⟩ := bindS hm
  refine QJ.step (y_call Try.call219 rfl (RetG.quiet fun w hw => ok_i_Ribbon_period h5 w )) rfl ?_
  obtain ⟨q6, h7, hm⟩ := bindS hm
  refine QJ.step (YldS.yld (y_rem' h7 rfl rfl)) rfl ?_
  refine QJ.step (YldS.yld (y_assign rfl)) rfl ?_
  refine QJ.done ?_
  refine PJ.next ?_
  refine WJ.seq ?_
  refine WJ.seq ?_
  refine WJ.quiet ?_
  refine QJ.step (YldS.yld (y_move rfl)) rfl ?_
  refine QJ.step (YldS.yld (y_fldB (o := 0) fld59_0 rfl)) rfl ?_
  refine QJ.step (YldS.yld (y_loadB (k := 0) (off := 0) (v := .int .i64 r1.spots) rfl Try.isAgg2 rfl rfl)) rfl ?_
  refine QJ.step (YldS.yld (y_bin rfl rfl rfl)) rfl ?_
  refine QJ.done ?_
  refine PJ.next ?_
  refine WJ.cond (t := decide (q6 ≥ r1.spots)) rfl (fun hb8 => ?_) (fun hb8 => ?_)
  · replace hm := ifT hm hb8
    refine WJ.seq ?_
    refine WJ.quiet ?_
    refine QJ.step (YldS.yld (y_loadBN (k := 0) (off := 0) (us := [.int .i64 r1.spots, .int .i64 r1.ink, .int .i64 r1.takes]) rfl Try.isAgg59 Try.sizeOf59 rfl rfl)) rfl ?_
    obtain ⟨r9, h10, hm⟩ := bindS hm
    refine QJ.step (y_call Try.call219 rfl (RetG.quiet fun w hw => ok_i_Ribbon_period h10 w )) rfl ?_
    refine QJ.step (YldS.yld (y_move rfl)) rfl ?_
    refine QJ.step (YldS.yld (y_bin rfl rfl rfl)) rfl ?_
    refine QJ.step (YldS.yld (y_assign rfl)) rfl ?_
    refine QJ.done ?_
    refine PJ.next ?_
    refine WJ.ret ?_
    refine PJ.then_ret ?_
    obtain rfl := Option.some.inj hm
    refine PJ.sel (L' := []) [] ⟨List.nodup_nil, rfl⟩ ?_
    exact PJ.retn (vs := [.int .i64 (w64 (r9 - q6))]) Try.results192 ⟨rfl, trivial⟩ ⟨rfl, rfl⟩
  · replace hm := ifF hm hb8
    refine WJ.skip ?_
    refine PJ.next ?_
    refine WJ.seq ?_
    refine WJ.quiet ?_
    refine QJ.step (YldS.yld (y_move rfl)) rfl ?_
    refine QJ.step (YldS.yld (y_assign rfl)) rfl ?_
    refine QJ.done ?_
    refine PJ.next ?_
    refine WJ.ret ?_
    obtain rfl := Option.some.inj hm
    refine PJ.sel (L' := []) [] ⟨List.nodup_nil, rfl⟩ ?_
    exact PJ.retn (vs := [.int .i64 q6]) Try.results192 ⟨rfl, trivial⟩ ⟨rfl, rfl⟩

set_option maxRecDepth 100000 in
set_option maxHeartbeats 1000000 in
theorem ok_i_Ribbon_isEnd {r1 : Ribbon} {spot2 : Int} {r : Bool} (hm : i_Ribbon_isEnd r1 spot2 = some r) (w : World)  :
    Calls Try.prog 220 #[.agg (Ribbon.enc r1).toArray, .int .i64 spot2] w (Ret (cx w) (.bool r)) := by
  unfold i_Ribbon_isEnd at hm
  refine Calls.enter [.agg (Ribbon.enc r1).toArray, .int .i64 spot2] Try.func220 rfl Try.ntmps220 rfl ?_
  refine WJ.seq ?_
  refine WJ.reg ?_
  refine SJ.box (cs := [.int .i64 r1.spots, .int .i64 r1.ink, .int .i64 r1.takes]) rfl rfl rfl fun g3 => ?_
  refine SJ.q (YldS.yld (y_assign rfl)) rfl ?_
  refine SJ.nil ?_
  refine PJ.next ?_
  refine WJ.seq ?_
  refine WJ.quiet ?_
  refine QJ.step (YldS.yld (y_move rfl)) rfl ?_
  refine QJ.step (YldS.yld (y_bin rfl rfl rfl)) rfl ?_
  refine QJ.step (YldS.yld (y_move rfl)) rfl ?_
  obtain ⟨t4, h5, hm⟩ := bindS hm
  refine QJ.cut 6 [(13, .bool t4)] ?_ ?_
  · rcases Bool.eq_false_or_eq_true (spot2 == 0) with hb6 | hb6
    · obtain rfl := orT h5 hb6
      refine QJ.off rfl rfl (cB hb6) rfl rfl ?_
      refine QJ.off rfl rfl (cB hb6) rfl rfl ?_
      refine QJ.off rfl rfl (cB hb6) rfl rfl ?_
      refine QJ.off rfl rfl (cB hb6) rfl rfl ?_
      refine QJ.off rfl rfl (cB hb6) rfl rfl ?_
      refine QJ.step (YldS.yld (y_pick_t (cB hb6) rfl)) rfl ?_
      exact QJ.cut_end ⟨rfl, trivial⟩
    · replace h5 := orF h5 hb6
      refine QJ.on rfl rfl (cB hb6) (YldS.yld (y_move rfl)) rfl ?_
      refine QJ.on rfl rfl (cB hb6) (YldS.yld (y_fldB (o := 0) fld59_0 rfl)) rfl ?_
      refine QJ.on rfl rfl (cB hb6) (YldS.yld (y_loadB (k := 0) (off := 0) (v := .int .i64 r1.spots) rfl Try.isAgg2 rfl rfl)) rfl ?_
      refine QJ.on rfl rfl (cB hb6) (YldS.yld (y_bin rfl rfl rfl)) rfl ?_
      refine QJ.on rfl rfl (cB hb6) (YldS.yld (y_bin rfl rfl rfl)) rfl ?_
      refine QJ.step (YldS.yld (y_pick_f (cB hb6) rfl)) rfl ?_
      obtain rfl := Option.some.inj h5
      exact QJ.cut_end ⟨rfl, trivial⟩
  refine QJ.step (YldS.yld (y_assign rfl)) rfl ?_
  refine QJ.done ?_
  refine PJ.next ?_
  refine WJ.ret ?_
  obtain rfl := Option.some.inj hm
  refine PJ.sel (L' := []) [] ⟨List.nodup_nil, rfl⟩ ?_
  exact PJ.retn (vs := [.bool t4]) Try.results220 ⟨rfl, trivial⟩ ⟨rfl, rfl⟩

set_option maxRecDepth 100000 in
set_option maxHeartbeats 1000000 in
theorem ok_i_Ribbon_uses {r1 : Ribbon} {spot2 : Int} {strokes3 : Int} {r : Int} (hm : i_Ribbon_uses r1 spot2 strokes3 = some r) (w : World)  :
    Calls Try.prog 191 #[.agg (Ribbon.enc r1).toArray, .int .i64 spot2, .int .i64 strokes3] w (Ret (cx w) (.int .i64 r)) := by
  unfold i_Ribbon_uses at hm
  refine Calls.enter [.agg (Ribbon.enc r1).toArray, .int .i64 spot2, .int .i64 strokes3] Try.func191 rfl Try.ntmps191 rfl ?_
  refine WJ.seq ?_
  refine WJ.reg ?_
  refine SJ.box (cs := [.int .i64 r1.spots, .int .i64 r1.ink, .int .i64 r1.takes]) rfl rfl rfl fun g4 => ?_
  refine SJ.q (YldS.yld (y_assign rfl)) rfl ?_
  refine SJ.nil ?_
  refine PJ.next ?_
  refine WJ.seq ?_
  refine WJ.quiet_draw follows (by kernel_rfl) ?_
  refine QJ.step (YldS.yld (y_move rfl)) rfl ?_
  refine QJ.step (YldS.yld (y_loadBN (k := 0) (off := 0) (us := [.int .i64 r1.spots, .int .i64 r1.ink, .int .i64 r1.takes]) rfl Try.isAgg59 Try.sizeOf59 rfl rfl)) rfl ?_
  obtain ⟨r5, h6, hm⟩ := bindS hm
  refine QJ.step (y_call Try.call219 rfl (RetG.quiet fun w hw => ok_i_Ribbon_period h6 w )) rfl ?_
  obtain ⟨q7, h8, hm⟩ := bindS hm
  refine QJ.step (YldS.yld (y_quo' h8 rfl rfl)) rfl ?_
  refine QJ.step (YldS.yld (y_move rfl)) rfl ?_
  refine QJ.step (YldS.yld (y_loadBN (k := 0) (off := 0) (us := [.int .i64 r1.spots, .int .i64 r1.ink, .int .i64 r1.takes]) rfl Try.isAgg59 Try.sizeOf59 rfl rfl)) rfl ?_
  obtain ⟨r9, h10, hm⟩ := bindS hm
  refine QJ.step (y_call Try.call219 rfl (RetG.quiet fun w hw => ok_i_Ribbon_period h10 w )) rfl ?_
  obtain ⟨q11, h12, hm⟩ := bindS hm
  refine QJ.step (YldS.yld (y_rem' h12 rfl rfl)) rfl ?_
  refine QJ.step (YldS.yld (y_assign rfl)) rfl ?_
  refine QJ.step (YldS.yld (y_assign rfl)) rfl ?_
  refine QJ.done ?_
  refine PJ.next ?_
  refine WJ.seq ?_
  refine WJ.quiet ?_
  refine QJ.step (YldS.yld (y_move rfl)) rfl ?_
  refine QJ.step (YldS.yld (y_assign rfl)) rfl ?_
  refine QJ.done ?_
  refine PJ.next ?_
  obtain ⟨kj14, hk15, hm⟩ := withK_open hm
  refine WJ.join (X := Int) (fun (x : Int) => kj14 x = some r) (fun (x : Int) => [(1, .int .i64 spot2), (3, pt g4 0), (7, .int .i64 q7), (8, .int .i64 q11), (9, .int .i64 x)]) (fun (x : Int) => [box g4 59 [.int .i64 r1.spots, .int .i64 r1.ink, .int .i64 r1.takes]]) ?_ ?_
  · clear hk15
    refine WJ.seq ?_
    refine WJ.quiet ?_
    refine QJ.step (YldS.yld (y_move rfl)) rfl ?_
    refine QJ.step (YldS.yld (y_move rfl)) rfl ?_
    refine QJ.step (YldS.yld (y_bin rfl rfl rfl)) rfl ?_
    refine QJ.done ?_
    refine PJ.next ?_
    refine WJ.cond (t := decide (spot2 < q11)) rfl (fun hb16 => ?_) (fun hb16 => ?_)
    · replace hm := ifT hm hb16
      refine WJ.quiet ?_
      refine QJ.step (YldS.yld (y_move rfl)) rfl ?_
      refine QJ.step (YldS.yld (y_bin rfl rfl rfl)) rfl ?_
      refine QJ.step (YldS.yld (y_assign rfl)) rfl ?_
      refine QJ.done ?_
      exact PJ.joined (w64 (q7 + 1)) [0] hm ⟨rfl, rfl, rfl, rfl, rfl, trivial⟩ ⟨by decide, rfl⟩
    · replace hm := ifF hm hb16
      refine WJ.skip ?_
      exact PJ.joined q7 [0] hm ⟨rfl, rfl, rfl, rfl, rfl, trivial⟩ ⟨by decide, rfl⟩
  · rintro n13 hm
    subst hk15
    refine WJ.seq ?_
    refine WJ.seq ?_
    refine WJ.quiet ?_
    refine QJ.step (YldS.yld (y_loadBN (k := 0) (off := 0) (us := [.int .i64 r1.spots, .int .i64 r1.ink, .int .i64 r1.takes]) rfl Try.isAgg59 Try.sizeOf59 rfl rfl)) rfl ?_
    refine QJ.step (YldS.yld (y_move rfl)) rfl ?_
    obtain ⟨r17, h18, hm⟩ := bindS hm
    refine QJ.step (y_call Try.call220 rfl (RetG.quiet fun w hw => ok_i_Ribbon_isEnd h18 w )) rfl ?_
    refine QJ.done ?_
    refine PJ.next ?_
    refine WJ.cond (t := r17) rfl (fun hb19 => ?_) (fun hb19 => ?_)
    · replace hm := ifT hm hb19
      refine WJ.seq ?_
      refine WJ.quiet ?_
      refine QJ.step (YldS.yld (y_move rfl)) rfl ?_
      refine QJ.step (YldS.yld (y_assign rfl)) rfl ?_
      refine QJ.done ?_
      refine PJ.next ?_
      refine WJ.ret ?_
      refine PJ.then_ret ?_
      obtain rfl := Option.some.inj hm
      refine PJ.sel (L' := []) [] ⟨List.nodup_nil, rfl⟩ ?_
      exact PJ.retn (vs := [.int .i64 n13]) Try.results191 ⟨rfl, trivial⟩ ⟨rfl, rfl⟩
    · replace hm := ifF hm hb19
      refine WJ.skip ?_
      refine PJ.next ?_
      refine WJ.seq ?_
      refine WJ.quiet ?_
      refine QJ.step (YldS.yld (y_move rfl)) rfl ?_
      refine QJ.step (YldS.yld (y_move rfl)) rfl ?_
      refine QJ.step (YldS.yld (y_bin rfl rfl rfl)) rfl ?_
      refine QJ.step (YldS.yld (y_assign rfl)) rfl ?_
      refine QJ.done ?_
      refine PJ.next ?_
      obtain ⟨kj21, hk22, hm⟩ := withK_open hm
      refine WJ.join (X := Int) (fun (x : Int) => kj21 x = some r) (fun (x : Int) => [(9, .int .i64 x)]) (fun (x : Int) => []) ?_ ?_
      · clear hk22
        refine WJ.seq ?_
        refine WJ.quiet ?_
        refine QJ.step (YldS.yld (y_loadBN (k := 0) (off := 0) (us := [.int .i64 r1.spots, .int .i64 r1.ink, .int .i64 r1.takes]) rfl Try.isAgg59 Try.sizeOf59 rfl rfl)) rfl ?_
        obtain ⟨r23, h24, hm⟩ := bindS hm
        refine QJ.step (y_call Try.call219 rfl (RetG.quiet fun w hw => ok_i_Ribbon_period h24 w )) rfl ?_
        refine QJ.step (YldS.yld (y_move rfl)) rfl ?_
        refine QJ.step (YldS.yld (y_bin rfl rfl rfl)) rfl ?_
        refine QJ.step (YldS.yld (y_move rfl)) rfl ?_
        refine QJ.step (YldS.yld (y_bin rfl rfl rfl)) rfl ?_
        refine QJ.done ?_
        refine PJ.next ?_
        refine WJ.cond (t := decide ((w64 (r23 - spot2)) < q11)) rfl (fun hb25 => ?_) (fun hb25 => ?_)
        · replace hm := ifT hm hb25
          refine WJ.quiet ?_
          refine QJ.step (YldS.yld (y_move rfl)) rfl ?_
          refine QJ.step (YldS.yld (y_bin rfl rfl rfl)) rfl ?_
          refine QJ.step (YldS.yld (y_assign rfl)) rfl ?_
          refine QJ.done ?_
          exact PJ.joined (w64 ((w64 (n13 + q7)) + 1)) [] hm ⟨rfl, trivial⟩ ⟨List.nodup_nil, rfl⟩
        · replace hm := ifF hm hb25
          refine WJ.skip ?_
          exact PJ.joined (w64 (n13 + q7)) [] hm ⟨rfl, trivial⟩ ⟨List.nodup_nil, rfl⟩
      · rintro n20 hm
        subst hk22
        refine WJ.seq ?_
        refine WJ.quiet ?_
        refine QJ.step (YldS.yld (y_move rfl)) rfl ?_
        refine QJ.step (YldS.yld (y_assign rfl)) rfl ?_
        refine QJ.done ?_
        refine PJ.next ?_
        refine WJ.ret ?_
        obtain rfl := Option.some.inj hm
        refine PJ.sel (L' := []) [] ⟨List.nodup_nil, rfl⟩ ?_
        exact PJ.retn (vs := [.int .i64 n20]) Try.results191 ⟨rfl, trivial⟩ ⟨rfl, rfl⟩

set_option maxRecDepth 100000 in
set_option maxHeartbeats 1000000 in
theorem ok_i_Ribbon_shade {r1 : Ribbon} {stroke2 : Int} {r : Int} (hm : i_Ribbon_shade r1 stroke2 = some r) (w : World)  :
    Calls Try.prog 140 #[.agg (Ribbon.enc r1).toArray, .int .i64 stroke2] w (Ret (cx w) (.int .i64 r)) := by
  unfold i_Ribbon_shade at hm
  refine Calls.enter [.agg (Ribbon.enc r1).toArray, .int .i64 stroke2] Try.func140 rfl Try.ntmps140 rfl ?_
  refine WJ.seq ?_
  refine WJ.reg ?_
  refine SJ.box (cs := [.int .i64 r1.spots, .int .i64 r1.ink, .int .i64 r1.takes]) rfl rfl rfl fun g3 => ?_
  refine SJ.q (YldS.yld (y_assign rfl)) rfl ?_
  refine SJ.nil ?_
  refine PJ.next ?_
  refine WJ.seq ?_
  refine WJ.quiet_draw follows (by kernel_rfl) ?_
  refine QJ.step (YldS.yld (y_fldB (o := 0) fld59_1 rfl)) rfl ?_
  refine QJ.step (YldS.yld (y_loadB (k := 0) (off := 1) (v := .int .i64 r1.ink) rfl Try.isAgg2 rfl rfl)) rfl ?_
  refine QJ.step (YldS.yld (y_fldB (o := 0) fld59_2 rfl)) rfl ?_
  refine QJ.step (YldS.yld (y_loadB (k := 0) (off := 2) (v := .int .i64 r1.takes) rfl Try.isAgg2 rfl rfl)) rfl ?_
  refine QJ.step (YldS.yld (y_loadBN (k := 0) (off := 0) (us := [.int .i64 r1.spots, .int .i64 r1.ink, .int .i64 r1.takes]) rfl Try.isAgg59 Try.sizeOf59 rfl rfl)) rfl ?_
  refine QJ.step (YldS.yld (y_loadBN (k := 0) (off := 0) (us := [.int .i64 r1.spots, .int .i64 r1.ink, .int .i64 r1.takes]) rfl Try.isAgg59 Try.sizeOf59 rfl rfl)) rfl ?_
  refine QJ.step (YldS.yld (y_move rfl)) rfl ?_
  obtain ⟨r4, h5, hm⟩ := bindS hm
  refine QJ.step (y_call Try.call192 rfl (RetG.quiet fun w hw => ok_i_Ribbon_spot h5 w )) rfl ?_
  refine QJ.step (YldS.yld (y_move rfl)) rfl ?_
  obtain ⟨r6, h7, hm⟩ := bindS hm
  refine QJ.step (y_call Try.call191 rfl (RetG.quiet fun w hw => ok_i_Ribbon_uses h7 w )) rfl ?_
  refine QJ.step (YldS.yld (y_bin rfl rfl rfl)) rfl ?_
  refine QJ.step (YldS.yld (y_bin rfl rfl rfl)) rfl ?_
  refine QJ.step (YldS.yld (y_max rfl rfl)) rfl ?_
  refine QJ.step (YldS.yld (y_assign rfl)) rfl ?_
  refine QJ.done ?_
  refine PJ.next ?_
  refine WJ.ret ?_
  obtain rfl := Option.some.inj hm
  refine PJ.sel (L' := []) [] ⟨List.nodup_nil, rfl⟩ ?_
  exact PJ.retn (vs := [.int .i64 (imax (w64 (r1.ink - (w64 (r1.takes * r6)))) 0)]) Try.results140 ⟨rfl, trivial⟩ ⟨rfl, rfl⟩

set_option maxRecDepth 100000 in
set_option maxHeartbeats 1000000 in
theorem ok_i_Ribbon_until {N : Nat} {r1 : Ribbon} {least2 : Int} {r : Int} (hm : i_Ribbon_until N r1 least2 = some r) (w : World)  :
    Calls Try.prog 124 #[.agg (Ribbon.enc r1).toArray, .int .i64 least2] w (Ret (cx w) (.int .i64 r)) := by
  unfold i_Ribbon_until at hm
  refine Calls.enter [.agg (Ribbon.enc r1).toArray, .int .i64 least2] Try.func124 rfl Try.ntmps124 rfl ?_
  refine WJ.seq ?_
  refine WJ.reg ?_
  refine SJ.box (cs := [.int .i64 r1.spots, .int .i64 r1.ink, .int .i64 r1.takes]) rfl rfl rfl fun g3 => ?_
  refine SJ.q (YldS.yld (y_assign rfl)) rfl ?_
  refine SJ.nil ?_
  refine PJ.next ?_
  refine WJ.seq ?_
  refine WJ.quiet ?_
  refine QJ.step (YldS.yld (y_assign rfl)) rfl ?_
  refine QJ.done ?_
  refine PJ.next ?_
  obtain ⟨kj5, hk6, hm⟩ := withK_open hm
  refine WJ.join (X := Int) (fun (x : Int) => kj5 x = some r) (fun (x : Int) => [(5, .int .i64 x)]) (fun (x : Int) => []) ?_ ?_
  · clear hk6
    refine WJ.block ?_
    refine WJ.sel (L' := (fun (x : Int) => [box g3 59 [.int .i64 r1.spots, .int .i64 r1.ink, .int .i64 r1.takes]]) 0) [0] ⟨by decide, rfl⟩ ?_
    refine WJ.sub (m' := (fun (x : Int) => [(1, .int .i64 least2), (2, pt g3 0), (5, .int .i64 x)]) 0) ⟨rfl, rfl, rfl, trivial⟩ ?_
    refine WJ.loop (X := Int) (fun N (x : Int) => i_Ribbon_until_l1 kj5 r1 least2 N x = some r) (fun (x : Int) => [(1, .int .i64 least2), (2, pt g3 0), (5, .int .i64 x)]) (fun (x : Int) => [box g3 59 [.int .i64 r1.spots, .int .i64 r1.ink, .int .i64 r1.takes]]) ?_ N 0 hm
    · rintro N stroke7 hI
      have hm := hI; clear hI
      cases N with
      | zero => cases hm
      | succ N =>
      unfold i_Ribbon_until_l1 at hm
      refine WJ.seq ?_
      refine WJ.seq ?_
      refine WJ.quiet ?_
      refine QJ.step (YldS.yld (y_move rfl)) rfl ?_
      refine QJ.step (YldS.yld (y_bin rfl rfl rfl)) rfl ?_
      refine QJ.step (YldS.yld (y_move rfl)) rfl ?_
      obtain ⟨t8, h9, hm⟩ := bindS hm
      refine QJ.cut 6 [(1, .int .i64 least2), (2, pt g3 0), (5, .int .i64 stroke7), (14, .bool t8)] ?_ ?_
      · rcases Bool.eq_false_or_eq_true (decide (stroke7 ≤ 100000)) with hb10 | hb10
        · replace h9 := andT h9 hb10
          refine QJ.on rfl rfl (cB hb10) (YldS.yld (y_loadBN (k := 0) (off := 0) (us := [.int .i64 r1.spots, .int .i64 r1.ink, .int .i64 r1.takes]) rfl Try.isAgg59 Try.sizeOf59 rfl rfl)) rfl ?_
          refine QJ.on rfl rfl (cB hb10) (YldS.yld (y_move rfl)) rfl ?_
          obtain ⟨r11, h12, h9⟩ := bindS h9
          refine QJ.on rfl rfl (cB hb10) (y_call Try.call140 rfl (RetG.quiet fun w hw => ok_i_Ribbon_shade h12 w )) rfl ?_
          refine QJ.on rfl rfl (cB hb10) (YldS.yld (y_move rfl)) rfl ?_
          refine QJ.on rfl rfl (cB hb10) (YldS.yld (y_bin rfl rfl rfl)) rfl ?_
          refine QJ.step (YldS.yld (y_pick_t (cB hb10) rfl)) rfl ?_
          obtain rfl := Option.some.inj h9
          exact QJ.cut_end ⟨rfl, rfl, rfl, rfl, trivial⟩
        · obtain rfl := andF h9 hb10
          refine QJ.off rfl rfl (cB hb10) rfl rfl ?_
          refine QJ.off rfl rfl (cB hb10) rfl rfl ?_
          refine QJ.off rfl rfl (cB hb10) rfl rfl ?_
          refine QJ.off rfl rfl (cB hb10) rfl rfl ?_
          refine QJ.off rfl rfl (cB hb10) rfl rfl ?_
          refine QJ.step (YldS.yld (y_pick_f (cB hb10) rfl)) rfl ?_
          exact QJ.cut_end ⟨rfl, rfl, rfl, rfl, trivial⟩
      refine QJ.done ?_
      refine PJ.next ?_
      refine WJ.cond (t := t8) rfl (fun hb13 => ?_) (fun hb13 => ?_)
      · replace hm := ifT hm hb13
        refine WJ.skip ?_
        refine PJ.next ?_
        refine WJ.block ?_
        refine WJ.quiet ?_
        refine QJ.step (YldS.yld (y_move rfl)) rfl ?_
        refine QJ.step (YldS.yld (y_bin rfl rfl rfl)) rfl ?_
        refine QJ.step (YldS.yld (y_assign rfl)) rfl ?_
        refine QJ.done ?_
        refine PJ.block_normal ?_
        exact PJ.round (w64 (stroke7 + 1)) [0] hm ⟨rfl, rfl, rfl, trivial⟩ ⟨by decide, rfl⟩
      · replace hm := ifF hm hb13
        refine WJ.exit ?_
        refine PJ.then_exit (PJ.then_exit (PJ.block_exit ?_))
        exact PJ.joined stroke7 [] hm ⟨rfl, trivial⟩ ⟨List.nodup_nil, rfl⟩
  · rintro stroke4 hm
    subst hk6
    refine WJ.seq ?_
    refine WJ.quiet ?_
    refine QJ.step (YldS.yld (y_move rfl)) rfl ?_
    refine QJ.step (YldS.yld (y_assign rfl)) rfl ?_
    refine QJ.done ?_
    refine PJ.next ?_
    refine WJ.ret ?_
    obtain rfl := Option.some.inj hm
    refine PJ.sel (L' := []) [] ⟨List.nodup_nil, rfl⟩ ?_
    exact PJ.retn (vs := [.int .i64 stroke4]) Try.results124 ⟨rfl, trivial⟩ ⟨rfl, rfl⟩

set_option maxRecDepth 100000 in
set_option maxHeartbeats 1000000 in
theorem ok_i_StrokesUntil {N : Nat} {r1 : Ribbon} {least2 : Int} {r : Int × Int} (hm : i_StrokesUntil N r1 least2 = some r) (w : World)  :
    Calls Try.prog 35 #[.agg (Ribbon.enc r1).toArray, .int .i64 least2] w (Ret (cx w) (tup [.int .i64 r.1, .int .i64 r.2])) := by
  unfold i_StrokesUntil at hm
  refine Calls.enter [.agg (Ribbon.enc r1).toArray, .int .i64 least2] Try.func35 rfl Try.ntmps35 rfl ?_
  refine WJ.seq ?_
  refine WJ.reg ?_
  refine SJ.box (cs := [.int .i64 r1.spots, .int .i64 r1.ink, .int .i64 r1.takes]) rfl rfl rfl fun g3 => ?_
  refine SJ.q (YldS.yld (y_assign rfl)) rfl ?_
  refine SJ.q (YldS.yld (y_assign rfl)) rfl ?_
  refine SJ.nil ?_
  refine PJ.next ?_
  refine WJ.seq ?_
  refine WJ.seq ?_
  refine WJ.quiet ?_
  refine QJ.step (YldS.yld (y_loadBN (k := 0) (off := 0) (us := [.int .i64 r1.spots, .int .i64 r1.ink, .int .i64 r1.takes]) rfl Try.isAgg59 Try.sizeOf59 rfl rfl)) rfl ?_
  obtain ⟨r4, h5, hm⟩ := bindS hm
  refine QJ.step (y_call Try.call123 rfl (RetG.quiet fun w hw => ok_i_ValidRibbon h5 w )) rfl ?_
  refine QJ.step (YldS.yld (y_not rfl)) rfl ?_
  refine QJ.done ?_
  refine PJ.next ?_
  refine WJ.cond (t := !r4) rfl (fun hb6 => ?_) (fun hb6 => ?_)
  · replace hm := ifT hm hb6
    refine WJ.seq ?_
    refine WJ.quiet ?_
    refine QJ.step (YldS.yld (y_assign rfl)) rfl ?_
    refine QJ.step (YldS.yld (y_assign rfl)) rfl ?_
    refine QJ.done ?_
    refine PJ.next ?_
    refine WJ.ret ?_
    refine PJ.then_ret ?_
    obtain rfl := Option.some.inj hm
    refine PJ.sel (L' := []) [] ⟨List.nodup_nil, rfl⟩ ?_
    exact PJ.retn (vs := [.int .i64 0, .int .i64 1]) Try.results35 ⟨rfl, rfl, trivial⟩ ⟨rfl, rfl⟩
  · replace hm := ifF hm hb6
    refine WJ.skip ?_
    refine PJ.next ?_
    refine WJ.seq ?_
    refine WJ.seq ?_
    refine WJ.quiet ?_
    refine QJ.step (YldS.yld (y_move rfl)) rfl ?_
    refine QJ.step (YldS.yld (y_fldB (o := 0) fld59_1 rfl)) rfl ?_
    refine QJ.step (YldS.yld (y_loadB (k := 0) (off := 1) (v := .int .i64 r1.ink) rfl Try.isAgg2 rfl rfl)) rfl ?_
    obtain ⟨r7, h8, hm⟩ := bindS hm
    refine QJ.step (y_call Try.call107 rfl (RetG.quiet fun w hw => ok_i_between h8 w )) rfl ?_
    refine QJ.step (YldS.yld (y_not rfl)) rfl ?_
    refine QJ.done ?_
    refine PJ.next ?_
    refine WJ.cond (t := !r7) rfl (fun hb9 => ?_) (fun hb9 => ?_)
    · replace hm := ifT hm hb9
      refine WJ.seq ?_
      refine WJ.quiet ?_
      refine QJ.step (YldS.yld (y_assign rfl)) rfl ?_
      refine QJ.step (YldS.yld (y_assign rfl)) rfl ?_
      refine QJ.done ?_
      refine PJ.next ?_
      refine WJ.ret ?_
      refine PJ.then_ret ?_
      obtain rfl := Option.some.inj hm
      refine PJ.sel (L' := []) [] ⟨List.nodup_nil, rfl⟩ ?_
      exact PJ.retn (vs := [.int .i64 0, .int .i64 2]) Try.results35 ⟨rfl, rfl, trivial⟩ ⟨rfl, rfl⟩
    · replace hm := ifF hm hb9
      refine WJ.skip ?_
      refine PJ.next ?_
      refine WJ.seq ?_
      refine WJ.quiet ?_
      refine QJ.step (YldS.yld (y_loadBN (k := 0) (off := 0) (us := [.int .i64 r1.spots, .int .i64 r1.ink, .int .i64 r1.takes]) rfl Try.isAgg59 Try.sizeOf59 rfl rfl)) rfl ?_
      refine QJ.step (YldS.yld (y_move rfl)) rfl ?_
      obtain ⟨r10, h11, hm⟩ := bindS hm
      refine QJ.step (y_call Try.call124 rfl (RetG.quiet fun w hw => ok_i_Ribbon_until h11 w )) rfl ?_
      refine QJ.step (YldS.yld (y_assign rfl)) rfl ?_
      refine QJ.done ?_
      refine PJ.next ?_
      refine WJ.seq ?_
      refine WJ.seq ?_
      refine WJ.quiet ?_
      refine QJ.step (YldS.yld (y_move rfl)) rfl ?_
      refine QJ.step (YldS.yld (y_bin rfl rfl rfl)) rfl ?_
      refine QJ.done ?_
      refine PJ.next ?_
      refine WJ.cond (t := decide (r10 > 100000)) rfl (fun hb12 => ?_) (fun hb12 => ?_)
      · replace hm := ifT hm hb12
        refine WJ.seq ?_
        refine WJ.quiet ?_
        refine QJ.step (YldS.yld (y_assign rfl)) rfl ?_
        refine QJ.step (YldS.yld (y_assign rfl)) rfl ?_
        refine QJ.done ?_
        refine PJ.next ?_
        refine WJ.ret ?_
        refine PJ.then_ret ?_
        obtain rfl := Option.some.inj hm
        refine PJ.sel (L' := []) [] ⟨List.nodup_nil, rfl⟩ ?_
        exact PJ.retn (vs := [.int .i64 0, .int .i64 5]) Try.results35 ⟨rfl, rfl, trivial⟩ ⟨rfl, rfl⟩
      · replace hm := ifF hm hb12
        refine WJ.skip ?_
        refine PJ.next ?_
        refine WJ.seq ?_
        refine WJ.quiet ?_
        refine QJ.step (YldS.yld (y_move rfl)) rfl ?_
        refine QJ.step (YldS.yld (y_assign rfl)) rfl ?_
        refine QJ.step (YldS.yld (y_assign rfl)) rfl ?_
        refine QJ.done ?_
        refine PJ.next ?_
        refine WJ.ret ?_
        obtain rfl := Option.some.inj hm
        refine PJ.sel (L' := []) [] ⟨List.nodup_nil, rfl⟩ ?_
        exact PJ.retn (vs := [.int .i64 r10, .int .i64 0]) Try.results35 ⟨rfl, rfl, trivial⟩ ⟨rfl, rfl⟩

set_option maxRecDepth 100000 in
set_option maxHeartbeats 1000000 in
theorem ok_s_l00In {n1 : Int} {low2 : Int} {high3 : Int} {r : Bool} (hm : s_l00In n1 low2 high3 = some r) (w : World)  :
    Calls Try.prog 110 #[.int .i64 n1, .int .i64 low2, .int .i64 high3] w (Ret (cx w) (.bool r)) := by
  unfold s_l00In at hm
  refine Calls.enter [.int .i64 n1, .int .i64 low2, .int .i64 high3] Try.func110 rfl Try.ntmps110 rfl ?_
  refine WJ.seq ?_
  refine WJ.quiet ?_
  refine QJ.step (YldS.yld (y_assign rfl)) rfl ?_
  refine QJ.done ?_
  refine PJ.next ?_
  refine WJ.seq ?_
  refine WJ.quiet ?_
  refine QJ.step (YldS.yld (y_move rfl)) rfl ?_
  refine QJ.step (YldS.yld (y_move rfl)) rfl ?_
  refine QJ.step (YldS.yld (y_bin rfl rfl rfl)) rfl ?_
  refine QJ.step (YldS.yld (y_move rfl)) rfl ?_
  obtain ⟨t4, h5, hm⟩ := bindS hm
  refine QJ.cut 4 [(14, .bool t4)] ?_ ?_
  · rcases Bool.eq_false_or_eq_true (decide (n1 ≥ low2)) with hb6 | hb6
    · replace h5 := andT h5 hb6
      refine QJ.on rfl rfl (cB hb6) (YldS.yld (y_move rfl)) rfl ?_
      refine QJ.on rfl rfl (cB hb6) (YldS.yld (y_move rfl)) rfl ?_
      refine QJ.on rfl rfl (cB hb6) (YldS.yld (y_bin rfl rfl rfl)) rfl ?_
      refine QJ.step (YldS.yld (y_pick_t (cB hb6) rfl)) rfl ?_
      obtain rfl := Option.some.inj h5
      exact QJ.cut_end ⟨rfl, trivial⟩
    · obtain rfl := andF h5 hb6
      refine QJ.off rfl rfl (cB hb6) rfl rfl ?_
      refine QJ.off rfl rfl (cB hb6) rfl rfl ?_
      refine QJ.off rfl rfl (cB hb6) rfl rfl ?_
      refine QJ.step (YldS.yld (y_pick_f (cB hb6) rfl)) rfl ?_
      exact QJ.cut_end ⟨rfl, trivial⟩
  refine QJ.step (YldS.yld (y_assign rfl)) rfl ?_
  refine QJ.done ?_
  refine PJ.next ?_
  refine WJ.ret ?_
  obtain rfl := Option.some.inj hm
  refine PJ.sel (L' := []) [] ⟨List.nodup_nil, rfl⟩ ?_
  exact PJ.retn (vs := [.bool t4]) Try.results110 ⟨rfl, trivial⟩ ⟨rfl, rfl⟩

set_option maxRecDepth 100000 in
set_option maxHeartbeats 1000000 in
theorem ok_s_l14Ok {r1 : Ribbon} {r : Bool} (hm : s_l14Ok r1 = some r) (w : World)  :
    Calls Try.prog 137 #[.agg (Ribbon.enc r1).toArray] w (Ret (cx w) (.bool r)) := by
  unfold s_l14Ok at hm
  refine Calls.enter [.agg (Ribbon.enc r1).toArray] Try.func137 rfl Try.ntmps137 rfl ?_
  refine WJ.seq ?_
  refine WJ.reg ?_
  refine SJ.box (cs := [.int .i64 r1.spots, .int .i64 r1.ink, .int .i64 r1.takes]) rfl rfl rfl fun g2 => ?_
  refine SJ.q (YldS.yld (y_assign rfl)) rfl ?_
  refine SJ.nil ?_
  refine PJ.next ?_
  refine WJ.seq ?_
  refine WJ.quiet ?_
  refine QJ.step (YldS.yld (y_fldB (o := 0) fld59_0 rfl)) rfl ?_
  refine QJ.step (YldS.yld (y_loadB (k := 0) (off := 0) (v := .int .i64 r1.spots) rfl Try.isAgg2 rfl rfl)) rfl ?_
  obtain ⟨r3, h4, hm⟩ := bindS hm
  refine QJ.step (y_call Try.call110 rfl (RetG.quiet fun w hw => ok_s_l00In h4 w )) rfl ?_
  refine QJ.step (YldS.yld (y_move rfl)) rfl ?_
  obtain ⟨t5, h6, hm⟩ := bindS hm
  refine QJ.cut 4 [(1, pt g2 0), (10, .bool t5)] ?_ ?_
  · rcases Bool.eq_false_or_eq_true r3 with hb7 | hb7
    · replace h6 := andT h6 hb7
      refine QJ.on rfl rfl (cB hb7) (YldS.yld (y_fldB (o := 0) fld59_1 rfl)) rfl ?_
      refine QJ.on rfl rfl (cB hb7) (YldS.yld (y_loadB (k := 0) (off := 1) (v := .int .i64 r1.ink) rfl Try.isAgg2 rfl rfl)) rfl ?_
      obtain ⟨r8, h9, h6⟩ := bindS h6
      refine QJ.on rfl rfl (cB hb7) (y_call Try.call110 rfl (RetG.quiet fun w hw => ok_s_l00In h9 w )) rfl ?_
      refine QJ.step (YldS.yld (y_pick_t (cB hb7) rfl)) rfl ?_
      obtain rfl := Option.some.inj h6
      exact QJ.cut_end ⟨rfl, rfl, trivial⟩
    · obtain rfl := andF h6 hb7
      refine QJ.off rfl rfl (cB hb7) rfl rfl ?_
      refine QJ.off rfl rfl (cB hb7) rfl rfl ?_
      refine QJ.off rfl rfl (cB hb7) rfl rfl ?_
      refine QJ.step (YldS.yld (y_pick_f (cB hb7) rfl)) rfl ?_
      exact QJ.cut_end ⟨rfl, rfl, trivial⟩
  refine QJ.step (YldS.yld (y_move rfl)) rfl ?_
  obtain ⟨t10, h11, hm⟩ := bindS hm
  refine QJ.cut 6 [(17, .bool t10)] ?_ ?_
  · rcases Bool.eq_false_or_eq_true t5 with hb12 | hb12
    · replace h11 := andT h11 hb12
      refine QJ.on rfl rfl (cB hb12) (YldS.yld (y_fldB (o := 0) fld59_2 rfl)) rfl ?_
      refine QJ.on rfl rfl (cB hb12) (YldS.yld (y_loadB (k := 0) (off := 2) (v := .int .i64 r1.takes) rfl Try.isAgg2 rfl rfl)) rfl ?_
      refine QJ.on rfl rfl (cB hb12) (YldS.yld (y_fldB (o := 0) fld59_1 rfl)) rfl ?_
      refine QJ.on rfl rfl (cB hb12) (YldS.yld (y_loadB (k := 0) (off := 1) (v := .int .i64 r1.ink) rfl Try.isAgg2 rfl rfl)) rfl ?_
      obtain ⟨r13, h14, h11⟩ := bindS h11
      refine QJ.on rfl rfl (cB hb12) (y_call Try.call110 rfl (RetG.quiet fun w hw => ok_s_l00In h14 w )) rfl ?_
      refine QJ.step (YldS.yld (y_pick_t (cB hb12) rfl)) rfl ?_
      obtain rfl := Option.some.inj h11
      exact QJ.cut_end ⟨rfl, trivial⟩
    · obtain rfl := andF h11 hb12
      refine QJ.off rfl rfl (cB hb12) rfl rfl ?_
      refine QJ.off rfl rfl (cB hb12) rfl rfl ?_
      refine QJ.off rfl rfl (cB hb12) rfl rfl ?_
      refine QJ.off rfl rfl (cB hb12) rfl rfl ?_
      refine QJ.off rfl rfl (cB hb12) rfl rfl ?_
      refine QJ.step (YldS.yld (y_pick_f (cB hb12) rfl)) rfl ?_
      exact QJ.cut_end ⟨rfl, trivial⟩
  refine QJ.step (YldS.yld (y_assign rfl)) rfl ?_
  refine QJ.done ?_
  refine PJ.next ?_
  refine WJ.ret ?_
  obtain rfl := Option.some.inj hm
  refine PJ.sel (L' := []) [] ⟨List.nodup_nil, rfl⟩ ?_
  exact PJ.retn (vs := [.bool t10]) Try.results137 ⟨rfl, trivial⟩ ⟨rfl, rfl⟩

set_option maxRecDepth 100000 in
set_option maxHeartbeats 1000000 in
theorem ok_s_l14Least {r1 : Ribbon} {least2 : Int} {r : Int} (hm : s_l14Least r1 least2 = some r) (w : World)  :
    Calls Try.prog 125 #[.agg (Ribbon.enc r1).toArray, .int .i64 least2] w (Ret (cx w) (.int .i64 r)) := by
  unfold s_l14Least at hm
  refine Calls.enter [.agg (Ribbon.enc r1).toArray, .int .i64 least2] Try.func125 rfl Try.ntmps125 rfl ?_
  refine WJ.seq ?_
  refine WJ.reg ?_
  refine SJ.box (cs := [.int .i64 r1.spots, .int .i64 r1.ink, .int .i64 r1.takes]) rfl rfl rfl fun g3 => ?_
  refine SJ.q (YldS.yld (y_assign rfl)) rfl ?_
  refine SJ.nil ?_
  refine PJ.next ?_
  refine WJ.seq ?_
  refine WJ.seq ?_
  refine WJ.quiet ?_
  refine QJ.step (YldS.yld (y_loadBN (k := 0) (off := 0) (us := [.int .i64 r1.spots, .int .i64 r1.ink, .int .i64 r1.takes]) rfl Try.isAgg59 Try.sizeOf59 rfl rfl)) rfl ?_
  obtain ⟨r4, h5, hm⟩ := bindS hm
  refine QJ.step (y_call Try.call137 rfl (RetG.quiet fun w hw => ok_s_l14Ok h5 w )) rfl ?_
  refine QJ.step (YldS.yld (y_not rfl)) rfl ?_
  refine QJ.done ?_
  refine PJ.next ?_
  refine WJ.cond (t := !r4) rfl (fun hb6 => ?_) (fun hb6 => ?_)
  · replace hm := ifT hm hb6
    refine WJ.seq ?_
    refine WJ.quiet ?_
    refine QJ.step (YldS.yld (y_assign rfl)) rfl ?_
    refine QJ.done ?_
    refine PJ.next ?_
    refine WJ.ret ?_
    refine PJ.then_ret ?_
    obtain rfl := Option.some.inj hm
    refine PJ.sel (L' := []) [] ⟨List.nodup_nil, rfl⟩ ?_
    exact PJ.retn (vs := [.int .i64 1]) Try.results125 ⟨rfl, trivial⟩ ⟨rfl, rfl⟩
  · replace hm := ifF hm hb6
    refine WJ.skip ?_
    refine PJ.next ?_
    refine WJ.seq ?_
    refine WJ.seq ?_
    refine WJ.quiet ?_
    refine QJ.step (YldS.yld (y_move rfl)) rfl ?_
    refine QJ.step (YldS.yld (y_fldB (o := 0) fld59_1 rfl)) rfl ?_
    refine QJ.step (YldS.yld (y_loadB (k := 0) (off := 1) (v := .int .i64 r1.ink) rfl Try.isAgg2 rfl rfl)) rfl ?_
    obtain ⟨r7, h8, hm⟩ := bindS hm
    refine QJ.step (y_call Try.call110 rfl (RetG.quiet fun w hw => ok_s_l00In h8 w )) rfl ?_
    refine QJ.step (YldS.yld (y_not rfl)) rfl ?_
    refine QJ.done ?_
    refine PJ.next ?_
    refine WJ.cond (t := !r7) rfl (fun hb9 => ?_) (fun hb9 => ?_)
    · replace hm := ifT hm hb9
      refine WJ.seq ?_
      refine WJ.quiet ?_
      refine QJ.step (YldS.yld (y_assign rfl)) rfl ?_
      refine QJ.done ?_
      refine PJ.next ?_
      refine WJ.ret ?_
      refine PJ.then_ret ?_
      obtain rfl := Option.some.inj hm
      refine PJ.sel (L' := []) [] ⟨List.nodup_nil, rfl⟩ ?_
      exact PJ.retn (vs := [.int .i64 2]) Try.results125 ⟨rfl, trivial⟩ ⟨rfl, rfl⟩
    · replace hm := ifF hm hb9
      refine WJ.skip ?_
      refine PJ.next ?_
      refine WJ.seq ?_
      refine WJ.quiet ?_
      refine QJ.step (YldS.yld (y_assign rfl)) rfl ?_
      refine QJ.done ?_
      refine PJ.next ?_
      refine WJ.ret ?_
      obtain rfl := Option.some.inj hm
      refine PJ.sel (L' := []) [] ⟨List.nodup_nil, rfl⟩ ?_
      exact PJ.retn (vs := [.int .i64 0]) Try.results125 ⟨rfl, trivial⟩ ⟨rfl, rfl⟩

set_option maxRecDepth 100000 in
set_option maxHeartbeats 1000000 in
theorem ok_s_l14Spot {r1 : Ribbon} {stroke2 : Int} {r : Int} (hm : s_l14Spot r1 stroke2 = some r) (w : World)  :
    Calls Try.prog 187 #[.agg (Ribbon.enc r1).toArray, .int .i64 stroke2] w (Ret (cx w) (.int .i64 r)) := by
  unfold s_l14Spot at hm
  refine Calls.enter [.agg (Ribbon.enc r1).toArray, .int .i64 stroke2] Try.func187 rfl Try.ntmps187 rfl ?_
  refine WJ.seq ?_
  refine WJ.reg ?_
  refine SJ.box (cs := [.int .i64 r1.spots, .int .i64 r1.ink, .int .i64 r1.takes]) rfl rfl rfl fun g3 => ?_
  refine SJ.q (YldS.yld (y_assign rfl)) rfl ?_
  refine SJ.nil ?_
  refine PJ.next ?_
  refine WJ.seq ?_
  refine WJ.quiet ?_
  refine QJ.step (YldS.yld (y_fldB (o := 0) fld59_0 rfl)) rfl ?_
  refine QJ.step (YldS.yld (y_loadB (k := 0) (off := 0) (v := .int .i64 r1.spots) rfl Try.isAgg2 rfl rfl)) rfl ?_
  refine QJ.step (YldS.yld (y_bin rfl rfl rfl)) rfl ?_
  refine QJ.step (YldS.yld (y_bin rfl rfl rfl)) rfl ?_
  refine QJ.step (YldS.yld (y_assign rfl)) rfl ?_
  refine QJ.done ?_
  refine PJ.next ?_
  refine WJ.seq ?_
  refine WJ.quiet ?_
  refine QJ.step (YldS.yld (y_move rfl)) rfl ?_
  refine QJ.step (YldS.yld (y_move rfl)) rfl ?_
  obtain ⟨q4, h5, hm⟩ := bindS hm
  refine QJ.step (YldS.yld (y_rem' h5 rfl rfl)) rfl ?_
  refine QJ.step (YldS.yld (y_assign rfl)) rfl ?_
  refine QJ.done ?_
  refine PJ.next ?_
  refine WJ.seq ?_
  refine WJ.seq ?_
  refine WJ.quiet ?_
  refine QJ.step (YldS.yld (y_move rfl)) rfl ?_
  refine QJ.step (YldS.yld (y_fldB (o := 0) fld59_0 rfl)) rfl ?_
  refine QJ.step (YldS.yld (y_loadB (k := 0) (off := 0) (v := .int .i64 r1.spots) rfl Try.isAgg2 rfl rfl)) rfl ?_
  refine QJ.step (YldS.yld (y_bin rfl rfl rfl)) rfl ?_
  refine QJ.done ?_
  refine PJ.next ?_
  refine WJ.cond (t := decide (q4 ≥ r1.spots)) rfl (fun hb6 => ?_) (fun hb6 => ?_)
  · replace hm := ifT hm hb6
    refine WJ.seq ?_
    refine WJ.quiet ?_
    refine QJ.step (YldS.yld (y_move rfl)) rfl ?_
    refine QJ.step (YldS.yld (y_move rfl)) rfl ?_
    refine QJ.step (YldS.yld (y_bin rfl rfl rfl)) rfl ?_
    refine QJ.step (YldS.yld (y_assign rfl)) rfl ?_
    refine QJ.done ?_
    refine PJ.next ?_
    refine WJ.ret ?_
    refine PJ.then_ret ?_
    obtain rfl := Option.some.inj hm
    refine PJ.sel (L' := []) [] ⟨List.nodup_nil, rfl⟩ ?_
    exact PJ.retn (vs := [.int .i64 (w64 ((w64 (2 * (w64 (r1.spots - 1)))) - q4))]) Try.results187 ⟨rfl, trivial⟩ ⟨rfl, rfl⟩
  · replace hm := ifF hm hb6
    refine WJ.skip ?_
    refine PJ.next ?_
    refine WJ.seq ?_
    refine WJ.quiet ?_
    refine QJ.step (YldS.yld (y_move rfl)) rfl ?_
    refine QJ.step (YldS.yld (y_assign rfl)) rfl ?_
    refine QJ.done ?_
    refine PJ.next ?_
    refine WJ.ret ?_
    obtain rfl := Option.some.inj hm
    refine PJ.sel (L' := []) [] ⟨List.nodup_nil, rfl⟩ ?_
    exact PJ.retn (vs := [.int .i64 q4]) Try.results187 ⟨rfl, trivial⟩ ⟨rfl, rfl⟩

set_option maxRecDepth 100000 in
set_option maxHeartbeats 1000000 in
theorem ok_s_l00Max {a1 : Int} {b2 : Int} {r : Int} (hm : s_l00Max a1 b2 = some r) (w : World)  :
    Calls Try.prog 188 #[.int .i64 a1, .int .i64 b2] w (Ret (cx w) (.int .i64 r)) := by
  unfold s_l00Max at hm
  refine Calls.enter [.int .i64 a1, .int .i64 b2] Try.func188 rfl Try.ntmps188 rfl ?_
  refine WJ.seq ?_
  refine WJ.quiet ?_
  refine QJ.step (YldS.yld (y_assign rfl)) rfl ?_
  refine QJ.done ?_
  refine PJ.next ?_
  refine WJ.seq ?_
  refine WJ.seq ?_
  refine WJ.quiet ?_
  refine QJ.step (YldS.yld (y_move rfl)) rfl ?_
  refine QJ.step (YldS.yld (y_move rfl)) rfl ?_
  refine QJ.step (YldS.yld (y_bin rfl rfl rfl)) rfl ?_
  refine QJ.done ?_
  refine PJ.next ?_
  refine WJ.cond (t := decide (a1 > b2)) rfl (fun hb3 => ?_) (fun hb3 => ?_)
  · replace hm := ifT hm hb3
    refine WJ.seq ?_
    refine WJ.quiet ?_
    refine QJ.step (YldS.yld (y_move rfl)) rfl ?_
    refine QJ.step (YldS.yld (y_assign rfl)) rfl ?_
    refine QJ.done ?_
    refine PJ.next ?_
    refine WJ.ret ?_
    refine PJ.then_ret ?_
    obtain rfl := Option.some.inj hm
    refine PJ.sel (L' := []) [] ⟨List.nodup_nil, rfl⟩ ?_
    exact PJ.retn (vs := [.int .i64 a1]) Try.results188 ⟨rfl, trivial⟩ ⟨rfl, rfl⟩
  · replace hm := ifF hm hb3
    refine WJ.skip ?_
    refine PJ.next ?_
    refine WJ.seq ?_
    refine WJ.quiet ?_
    refine QJ.step (YldS.yld (y_move rfl)) rfl ?_
    refine QJ.step (YldS.yld (y_assign rfl)) rfl ?_
    refine QJ.done ?_
    refine PJ.next ?_
    refine WJ.ret ?_
    obtain rfl := Option.some.inj hm
    refine PJ.sel (L' := []) [] ⟨List.nodup_nil, rfl⟩ ?_
    exact PJ.retn (vs := [.int .i64 b2]) Try.results188 ⟨rfl, trivial⟩ ⟨rfl, rfl⟩

set_option maxRecDepth 100000 in
set_option maxHeartbeats 1000000 in
theorem ok_s_l14Until {N : Nat} {r1 : Ribbon} {least2 : Int} {r : Int} (hm : s_l14Until N r1 least2 = some r) (w : World)  :
    Calls Try.prog 126 #[.agg (Ribbon.enc r1).toArray, .int .i64 least2] w (Ret (cx w) (.int .i64 r)) := by
  unfold s_l14Until at hm
  refine Calls.enter [.agg (Ribbon.enc r1).toArray, .int .i64 least2] Try.func126 rfl Try.ntmps126 rfl ?_
  refine WJ.seq ?_
  refine WJ.reg ?_
  refine SJ.box (cs := [.int .i64 r1.spots, .int .i64 r1.ink, .int .i64 r1.takes]) rfl rfl rfl fun g3 => ?_
  refine SJ.q (YldS.yld (y_assign rfl)) rfl ?_
  refine SJ.nil ?_
  refine PJ.next ?_
  refine WJ.seq ?_
  refine WJ.reg ?_
  refine SJ.q (YldS.yld (y_fldB (o := 0) fld59_0 rfl)) rfl ?_
  refine SJ.q (YldS.yld (y_loadB (k := 0) (off := 0) (v := .int .i64 r1.spots) rfl Try.isAgg2 rfl rfl)) rfl ?_
  obtain ⟨l4, h5, hm⟩ := bindS hm
  refine SJ.makeSlice (R := fI64) (z := 0) h5 Try.underlying66 el2 rfl rfl rfl fun v6 => ?_
  refine SJ.q (YldS.yld (y_assign rfl)) rfl ?_
  refine SJ.nil ?_
  refine PJ.next ?_
  obtain ⟨kj7, hk8, hm⟩ := withK_open hm
  refine WJ.join (X := Unit) (fun (_ : Unit) => kj7  = some r) (fun (_ : Unit) => []) (fun (_ : Unit) => []) ?_ ?_
  · clear hk8
    refine WJ.seq ?_
    refine WJ.quiet ?_
    refine QJ.step (YldS.yld (y_assign rfl)) rfl ?_
    refine QJ.done ?_
    refine PJ.next ?_
    refine WJ.block ?_
    refine WJ.sel (L' := (fun (x : (List Int) × Int) => [row v6 2 fI64 x.1, box g3 59 [.int .i64 r1.spots, .int .i64 r1.ink, .int .i64 r1.takes]]) (l4, 0)) [0, 1] ⟨by decide, rfl⟩ ?_
    refine WJ.sub (m' := (fun (x : (List Int) × Int) => [(1, .int .i64 least2), (2, pt g3 0), (5, v6), (6, .int .i64 x.2)]) (l4, 0)) ⟨rfl, rfl, rfl, rfl, trivial⟩ ?_
    refine WJ.loop (X := (List Int) × Int) (fun N (x : (List Int) × Int) => s_l14Until_l1 kj7 r1 least2 N x.1 x.2 = some r) (fun (x : (List Int) × Int) => [(1, .int .i64 least2), (2, pt g3 0), (5, v6), (6, .int .i64 x.2)]) (fun (x : (List Int) × Int) => [row v6 2 fI64 x.1, box g3 59 [.int .i64 r1.spots, .int .i64 r1.ink, .int .i64 r1.takes]]) ?_ N (l4, 0) hm
    · rintro N ⟨l9, k10⟩ hI
      have hm := hI; clear hI
      cases N with
      | zero => cases hm
      | succ N =>
      unfold s_l14Until_l1 at hm
      refine WJ.seq ?_
      refine WJ.seq ?_
      refine WJ.quiet ?_
      refine QJ.step (YldS.yld (y_move rfl)) rfl ?_
      refine QJ.step (YldS.yld (y_bin rfl rfl rfl)) rfl ?_
      refine QJ.done ?_
      refine PJ.next ?_
      refine WJ.cond (t := decide (k10 ≤ 100000)) rfl (fun hb11 => ?_) (fun hb11 => ?_)
      · replace hm := ifT hm hb11
        refine WJ.skip ?_
        refine PJ.next ?_
        refine WJ.seq ?_
        refine WJ.block ?_
        refine WJ.seq ?_
        refine WJ.quiet ?_
        refine QJ.step (YldS.yld (y_loadBN (k := 1) (off := 0) (us := [.int .i64 r1.spots, .int .i64 r1.ink, .int .i64 r1.takes]) rfl Try.isAgg59 Try.sizeOf59 rfl rfl)) rfl ?_
        refine QJ.step (YldS.yld (y_move rfl)) rfl ?_
        obtain ⟨r12, h13, hm⟩ := bindS hm
        refine QJ.step (y_call Try.call187 rfl (RetG.quiet fun w hw => ok_s_l14Spot h13 w )) rfl ?_
        refine QJ.step (YldS.yld (y_assign rfl)) rfl ?_
        refine QJ.done ?_
        refine PJ.next ?_
        refine WJ.seq ?_
        refine WJ.seq ?_
        refine WJ.quiet_draw follows (by kernel_rfl) ?_
        refine QJ.step (YldS.yld (y_fldB (o := 0) fld59_1 rfl)) rfl ?_
        refine QJ.step (YldS.yld (y_loadB (k := 1) (off := 1) (v := .int .i64 r1.ink) rfl Try.isAgg2 rfl rfl)) rfl ?_
        refine QJ.step (YldS.yld (y_fldB (o := 0) fld59_2 rfl)) rfl ?_
        refine QJ.step (YldS.yld (y_loadB (k := 1) (off := 2) (v := .int .i64 r1.takes) rfl Try.isAgg2 rfl rfl)) rfl ?_
        refine QJ.step (YldS.yld (y_move rfl)) rfl ?_
        refine QJ.step (YldS.yld (y_move rfl)) rfl ?_
        obtain ⟨e14, h15, hm⟩ := bindS hm
        refine QJ.step (YldS.yld (y_ixRow (k := 0) (R := fI64) rfl Try.runUnderlying66 Try.sizeOf2 rfl rfl h15)) rfl ?_
        refine QJ.step (YldS.yld (y_loadR (k := 0) (i := (Int.toNat r12)) (off := 0) (u := .int .i64 e14) rfl Try.isAgg2 rfl (idx_get h15) rfl)) rfl ?_
        refine QJ.step (YldS.yld (y_bin rfl rfl rfl)) rfl ?_
        refine QJ.step (YldS.yld (y_bin rfl rfl rfl)) rfl ?_
        obtain ⟨r16, h17, hm⟩ := bindS hm
        refine QJ.step (y_call Try.call188 rfl (RetG.quiet fun w hw => ok_s_l00Max h17 w )) rfl ?_
        refine QJ.step (YldS.yld (y_move rfl)) rfl ?_
        refine QJ.step (YldS.yld (y_bin rfl rfl rfl)) rfl ?_
        refine QJ.done ?_
        refine PJ.next ?_
        refine WJ.cond (t := decide (r16 < least2)) rfl (fun hb18 => ?_) (fun hb18 => ?_)
        · replace hm := ifT hm hb18
          refine WJ.seq ?_
          refine WJ.quiet ?_
          refine QJ.step (YldS.yld (y_move rfl)) rfl ?_
          refine QJ.step (YldS.yld (y_assign rfl)) rfl ?_
          refine QJ.done ?_
          refine PJ.next ?_
          refine WJ.ret ?_
          refine PJ.then_ret (PJ.block_ret (PJ.then_ret (PJ.then_ret (PJ.block_ret (PJ.then_ret ?_)))))
          obtain rfl := Option.some.inj hm
          refine PJ.sel (L' := []) [] ⟨List.nodup_nil, rfl⟩ ?_
          exact PJ.retn (vs := [.int .i64 k10]) Try.results126 ⟨rfl, trivial⟩ ⟨rfl, rfl⟩
        · replace hm := ifF hm hb18
          refine WJ.skip ?_
          refine PJ.next ?_
          refine WJ.reg ?_
          refine SJ.q (YldS.yld (y_move rfl)) rfl ?_
          refine SJ.q (YldS.yld (y_move rfl)) rfl ?_
          obtain ⟨e19, h20, hm⟩ := bindS hm
          refine SJ.q (YldS.yld (y_ixRow (k := 0) (R := fI64) rfl Try.runUnderlying66 Try.sizeOf2 rfl rfl h20)) rfl ?_
          refine SJ.q (YldS.yld (y_loadR (k := 0) (i := (Int.toNat r12)) (off := 0) (u := .int .i64 e19) rfl Try.isAgg2 rfl (idx_get h20) rfl)) rfl ?_
          refine SJ.q (YldS.yld (y_bin rfl rfl rfl)) rfl ?_
          obtain ⟨e21, h22, hm⟩ := bindS hm
          refine SJ.q (YldS.yld (y_ixRow (k := 0) (R := fI64) rfl Try.runUnderlying66 Try.sizeOf2 rfl rfl h22)) rfl ?_
          refine SJ.storeRL (k := 0) (i := (Int.toNat r12)) (off := 0) (us := [.int .i64 (w64 (e19 + 1))]) (b := w64 (e19 + 1)) rfl rfl (idx_get h22) rfl rfl Try.sizeOf2 rfl rfl rfl ?_
          refine SJ.nil ?_
          refine PJ.block_normal (PJ.next ?_)
          refine WJ.quiet ?_
          refine QJ.step (YldS.yld (y_move rfl)) rfl ?_
          refine QJ.step (YldS.yld (y_bin rfl rfl rfl)) rfl ?_
          refine QJ.step (YldS.yld (y_assign rfl)) rfl ?_
          refine QJ.done ?_
          exact PJ.round ((List.set l9 (Int.toNat r12) (w64 (e19 + 1))), w64 (k10 + 1)) [0, 1] hm ⟨rfl, rfl, rfl, rfl, trivial⟩ ⟨by decide, rfl⟩
      · replace hm := ifF hm hb11
        refine WJ.exit ?_
        refine PJ.then_exit (PJ.then_exit (PJ.block_exit ?_))
        exact PJ.joined () [] hm trivial ⟨List.nodup_nil, rfl⟩
  · rintro _ hm
    subst hk8
    refine WJ.seq ?_
    refine WJ.quiet ?_
    refine QJ.step (YldS.yld (y_assign rfl)) rfl ?_
    refine QJ.done ?_
    refine PJ.next ?_
    refine WJ.ret ?_
    obtain rfl := Option.some.inj hm
    refine PJ.sel (L' := []) [] ⟨List.nodup_nil, rfl⟩ ?_
    exact PJ.retn (vs := [.int .i64 100001]) Try.results126 ⟨rfl, trivial⟩ ⟨rfl, rfl⟩

set_option maxRecDepth 100000 in
set_option maxHeartbeats 1000000 in
theorem ok_s_StrokesUntil {N : Nat} {r1 : Ribbon} {least2 : Int} {r : Int × Int} (hm : s_StrokesUntil N r1 least2 = some r) (w : World)  :
    Calls Try.prog 36 #[.agg (Ribbon.enc r1).toArray, .int .i64 least2] w (Ret (cx w) (tup [.int .i64 r.1, .int .i64 r.2])) := by
  unfold s_StrokesUntil at hm
  refine Calls.enter [.agg (Ribbon.enc r1).toArray, .int .i64 least2] Try.func36 rfl Try.ntmps36 rfl ?_
  refine WJ.seq ?_
  refine WJ.reg ?_
  refine SJ.box (cs := [.int .i64 r1.spots, .int .i64 r1.ink, .int .i64 r1.takes]) rfl rfl rfl fun g3 => ?_
  refine SJ.q (YldS.yld (y_assign rfl)) rfl ?_
  refine SJ.q (YldS.yld (y_assign rfl)) rfl ?_
  refine SJ.nil ?_
  refine PJ.next ?_
  refine WJ.seq ?_
  refine WJ.quiet ?_
  refine QJ.step (YldS.yld (y_loadBN (k := 0) (off := 0) (us := [.int .i64 r1.spots, .int .i64 r1.ink, .int .i64 r1.takes]) rfl Try.isAgg59 Try.sizeOf59 rfl rfl)) rfl ?_
  refine QJ.step (YldS.yld (y_move rfl)) rfl ?_
  obtain ⟨r4, h5, hm⟩ := bindS hm
  refine QJ.step (y_call Try.call125 rfl (RetG.quiet fun w hw => ok_s_l14Least h5 w )) rfl ?_
  refine QJ.step (YldS.yld (y_assign rfl)) rfl ?_
  refine QJ.done ?_
  refine PJ.next ?_
  refine WJ.seq ?_
  refine WJ.seq ?_
  refine WJ.quiet ?_
  refine QJ.step (YldS.yld (y_move rfl)) rfl ?_
  refine QJ.step (YldS.yld (y_bin rfl rfl rfl)) rfl ?_
  refine QJ.done ?_
  refine PJ.next ?_
  refine WJ.cond (t := (r4 != 0)) rfl (fun hb6 => ?_) (fun hb6 => ?_)
  · replace hm := ifT hm hb6
    refine WJ.seq ?_
    refine WJ.quiet ?_
    refine QJ.step (YldS.yld (y_move rfl)) rfl ?_
    refine QJ.step (YldS.yld (y_assign rfl)) rfl ?_
    refine QJ.step (YldS.yld (y_assign rfl)) rfl ?_
    refine QJ.done ?_
    refine PJ.next ?_
    refine WJ.ret ?_
    refine PJ.then_ret ?_
    obtain rfl := Option.some.inj hm
    refine PJ.sel (L' := []) [] ⟨List.nodup_nil, rfl⟩ ?_
    exact PJ.retn (vs := [.int .i64 0, .int .i64 r4]) Try.results36 ⟨rfl, rfl, trivial⟩ ⟨rfl, rfl⟩
  · replace hm := ifF hm hb6
    refine WJ.skip ?_
    refine PJ.next ?_
    refine WJ.seq ?_
    refine WJ.quiet ?_
    refine QJ.step (YldS.yld (y_loadBN (k := 0) (off := 0) (us := [.int .i64 r1.spots, .int .i64 r1.ink, .int .i64 r1.takes]) rfl Try.isAgg59 Try.sizeOf59 rfl rfl)) rfl ?_
    refine QJ.step (YldS.yld (y_move rfl)) rfl ?_
    obtain ⟨r7, h8, hm⟩ := bindS hm
    refine QJ.step (y_call Try.call126 rfl (RetG.quiet fun w hw => ok_s_l14Until h8 w )) rfl ?_
    refine QJ.step (YldS.yld (y_assign rfl)) rfl ?_
    refine QJ.done ?_
    refine PJ.next ?_
    refine WJ.seq ?_
    refine WJ.seq ?_
    refine WJ.quiet ?_
    refine QJ.step (YldS.yld (y_move rfl)) rfl ?_
    refine QJ.step (YldS.yld (y_bin rfl rfl rfl)) rfl ?_
    refine QJ.done ?_
    refine PJ.next ?_
    refine WJ.cond (t := decide (r7 > 100000)) rfl (fun hb9 => ?_) (fun hb9 => ?_)
    · replace hm := ifT hm hb9
      refine WJ.seq ?_
      refine WJ.quiet ?_
      refine QJ.step (YldS.yld (y_assign rfl)) rfl ?_
      refine QJ.step (YldS.yld (y_assign rfl)) rfl ?_
      refine QJ.done ?_
      refine PJ.next ?_
      refine WJ.ret ?_
      refine PJ.then_ret ?_
      obtain rfl := Option.some.inj hm
      refine PJ.sel (L' := []) [] ⟨List.nodup_nil, rfl⟩ ?_
      exact PJ.retn (vs := [.int .i64 0, .int .i64 5]) Try.results36 ⟨rfl, rfl, trivial⟩ ⟨rfl, rfl⟩
    · replace hm := ifF hm hb9
      refine WJ.skip ?_
      refine PJ.next ?_
      refine WJ.seq ?_
      refine WJ.quiet ?_
      refine QJ.step (YldS.yld (y_move rfl)) rfl ?_
      refine QJ.step (YldS.yld (y_assign rfl)) rfl ?_
      refine QJ.step (YldS.yld (y_assign rfl)) rfl ?_
      refine QJ.done ?_
      refine PJ.next ?_
      refine WJ.ret ?_
      obtain rfl := Option.some.inj hm
      refine PJ.sel (L' := []) [] ⟨List.nodup_nil, rfl⟩ ?_
      exact PJ.retn (vs := [.int .i64 r7, .int .i64 0]) Try.results36 ⟨rfl, rfl, trivial⟩ ⟨rfl, rfl⟩

set_option maxRecDepth 100000 in
set_option maxHeartbeats 1000000 in
theorem ok_s_l14Strokes {s1 : L00Src} {g2 : Nat} {r : Int × L00Src} (hm : s_l14Strokes s1 = some r) (w : World) (S : Nat → Prop) (v3 : Value) (hr4 : RdS w (Cx.Fz ⟨w, S⟩) v3 fByte.rp s1.code) (hA : (box g2 185 [v3, .int .i64 s1.at_, .int .u64 s1.seed]).holds w S) :
    Calls Try.prog 127 #[pt g2 0] w (RetG ⟨w, S⟩ fun u L => (u = .int .i64 r.1 ∧ L = [box g2 185 [v3, .int .i64 r.2.at_, .int .u64 r.2.seed]])) := by
  unfold s_l14Strokes at hm
  refine Calls.enter1 hA [pt g2 0] Try.func127 rfl Try.ntmps127 rfl ?_
  refine WJ.seq ?_
  refine WJ.quiet ?_
  refine QJ.step (YldS.yld (y_assign rfl)) rfl ?_
  refine QJ.done ?_
  refine PJ.next ?_
  refine WJ.seq ?_
  refine WJ.seq ?_
  refine WJ.reg ?_
  refine SJ.q (YldS.yld (y_move rfl)) rfl ?_
  obtain ⟨r5, h6, hm⟩ := bindS hm
  refine SJ.call1 (k := 0) rfl Try.call121 rfl (fun w S hw hA hO => ok_s_l00Src_one h6 w S _ (hr4.st1 hw hO) hA) rfl ?_
  rintro _ _ ⟨rfl, rfl⟩
  refine SJ.nil ?_
  refine PJ.next ?_
  refine WJ.cond (t := r5.1) rfl (fun hb7 => ?_) (fun hb7 => ?_)
  · replace hm := ifT hm hb7
    refine WJ.seq ?_
    refine WJ.reg ?_
    refine SJ.q (YldS.yld (y_move rfl)) rfl ?_
    refine SJ.buildSlice (R := fI64) (os := [.const (.int .i64 (-1)), .const (.int .i64 0), .const (.int .i64 100000), .const (.int .i64 100001), .const (.int .i64 9223372036854775807)]) [(-1), 0, 100000, 100001, 9223372036854775807] Try.runUnderlying66 Try.sizeOf2 Try.zeroValue2 rfl rfl rfl rfl rfl rfl fun v8 => ?_
    obtain ⟨r9, h10, hm⟩ := bindS hm
    refine SJ.call2 (k := 1) rfl Try.call134 rfl (fun w S hw hA hO hB => ok_s_l00Src_among h10 w S _ (hr4.st1 hw hO) _ (hB.row_rd (j := 0) (k := 1) rfl rfl) hA) rfl ?_
    rintro _ _ ⟨rfl, rfl⟩
    refine SJ.q (YldS.yld (y_assign rfl)) rfl ?_
    refine SJ.nil ?_
    refine PJ.next ?_
    refine WJ.ret ?_
    refine PJ.then_ret ?_
    obtain rfl := Option.some.inj hm
    refine PJ.sel (L' := [box g2 185 [v3, .int .i64 r9.2.at_, .int .u64 r9.2.seed]]) [0] ⟨by decide, rfl⟩ ?_
    exact PJ.retn (vs := [.int .i64 r9.1]) Try.results127 ⟨rfl, trivial⟩ ⟨rfl, rfl⟩
  · replace hm := ifF hm hb7
    refine WJ.skip ?_
    refine PJ.next ?_
    refine WJ.seq ?_
    refine WJ.reg ?_
    refine SJ.q (YldS.yld (y_move rfl)) rfl ?_
    obtain ⟨r11, h12, hm⟩ := bindS hm
    refine SJ.call1 (k := 0) rfl Try.call97 rfl (fun w S hw hA hO => ok_s_l00Src_pick h12 w S _ (hr4.st1 hw hO) hA) rfl ?_
    rintro _ _ ⟨rfl, rfl⟩
    refine SJ.q (YldS.yld (y_assign rfl)) rfl ?_
    refine SJ.nil ?_
    refine PJ.next ?_
    refine WJ.ret ?_
    obtain rfl := Option.some.inj hm
    refine PJ.sel (L' := [box g2 185 [v3, .int .i64 r11.2.at_, .int .u64 r11.2.seed]]) [0] ⟨by decide, rfl⟩ ?_
    exact PJ.retn (vs := [.int .i64 r11.1]) Try.results127 ⟨rfl, trivial⟩ ⟨rfl, rfl⟩

set_option maxRecDepth 100000 in
set_option maxHeartbeats 1000000 in
theorem ok_s_l14DrawText {N : Nat} {s1 : L00Src} {g2 : Nat} {r : Str × L00Src} (hm : s_l14DrawText N s1 = some r) (w : World) (S : Nat → Prop) (v3 : Value) (hr4 : RdS w (Cx.Fz ⟨w, S⟩) v3 fByte.rp s1.code) (hA : (box g2 185 [v3, .int .i64 s1.at_, .int .u64 s1.seed]).holds w S) :
    Calls Try.prog 128 #[pt g2 0] w (RetG ⟨w, S⟩ fun u L => (u = str r.1 ∧ L = [box g2 185 [v3, .int .i64 r.2.at_, .int .u64 r.2.seed]])) := by
  unfold s_l14DrawText at hm
  refine Calls.enter1 hA [pt g2 0] Try.func128 rfl Try.ntmps128 rfl ?_
  refine WJ.seq ?_
  refine WJ.quiet ?_
  refine QJ.step (YldS.yld (y_assign rfl)) rfl ?_
  refine QJ.done ?_
  refine PJ.next ?_
  refine WJ.seq ?_
  refine WJ.reg ?_
  refine SJ.buildSlice (R := fByte) (os := []) [] Try.runUnderlying22 Try.sizeOf5 Try.zeroValue5 rfl rfl rfl rfl rfl rfl fun v5 => ?_
  refine SJ.q (YldS.yld (y_assign rfl)) rfl ?_
  refine SJ.nil ?_
  refine PJ.next ?_
  refine WJ.seq ?_
  refine WJ.reg ?_
  refine SJ.q (YldS.yld (y_move rfl)) rfl ?_
  obtain ⟨r6, h7, hm⟩ := bindS hm
  refine SJ.call1 (k := 1) rfl Try.call97 rfl (fun w S hw hA hO => ok_s_l00Src_pick h7 w S _ (hr4.st1 hw hO) hA) rfl ?_
  rintro _ _ ⟨rfl, rfl⟩
  refine SJ.q (YldS.yld (y_assign rfl)) rfl ?_
  refine SJ.nil ?_
  refine PJ.next ?_
  obtain ⟨kj11, hk12, hm⟩ := withK_open hm
  refine WJ.join (X := Int × Int × Int) (fun (x : Int × Int × Int) => kj11 x.1 x.2.1 x.2.2 = some r) (fun (x : Int × Int × Int) => [(0, pt g2 0), (3, v5), (4, .int .i64 x.2.2)]) (fun (x : Int × Int × Int) => [box g2 185 [v3, .int .i64 x.1, .int .u64 x.2.1], row v5 5 fByte []]) ?_ ?_
  · clear hk12
    refine WJ.seq ?_
    refine WJ.reg ?_
    refine SJ.q (YldS.yld (y_move rfl)) rfl ?_
    obtain ⟨r13, h14, hm⟩ := bindS hm
    refine SJ.call1 (k := 0) rfl Try.call121 rfl (fun w S hw hA hO => ok_s_l00Src_one h14 w S _ (hr4.st1 hw hO) hA) rfl ?_
    rintro _ _ ⟨rfl, rfl⟩
    refine SJ.nil ?_
    refine PJ.next ?_
    refine WJ.cond (t := r13.1) rfl (fun hb15 => ?_) (fun hb15 => ?_)
    · replace hm := ifT hm hb15
      refine WJ.reg ?_
      refine SJ.q (YldS.yld (y_move rfl)) rfl ?_
      obtain ⟨r16, h17, hm⟩ := bindS hm
      refine SJ.call1 (k := 0) rfl Try.call97 rfl (fun w S hw hA hO => ok_s_l00Src_pick h17 w S _ (hr4.st1 hw hO) hA) rfl ?_
      rintro _ _ ⟨rfl, rfl⟩
      refine SJ.q (YldS.yld (y_bin rfl rfl rfl)) rfl ?_
      refine SJ.q (YldS.yld (y_assign rfl)) rfl ?_
      refine SJ.nil ?_
      exact PJ.joined (r16.2.at_, r16.2.seed, w64 (100 + r16.1)) [0, 1] hm ⟨rfl, rfl, rfl, trivial⟩ ⟨by decide, rfl⟩
    · replace hm := ifF hm hb15
      refine WJ.skip ?_
      exact PJ.joined (r13.2.at_, r13.2.seed, r6.1) [0, 1] hm ⟨rfl, rfl, rfl, trivial⟩ ⟨by decide, rfl⟩
  · rintro ⟨x8, x9, n10⟩ hm
    subst hk12
    obtain ⟨kj22, hk23, hm⟩ := withK_open hm
    refine WJ.join (X := Int × Int × (List UInt8) × Value) (fun (x : Int × Int × (List UInt8) × Value) => kj22 x.1 x.2.1 x.2.2.1 = some r) (fun (x : Int × Int × (List UInt8) × Value) => [(0, pt g2 0), (3, x.2.2.2), (4, .int .i64 n10)]) (fun (x : Int × Int × (List UInt8) × Value) => [box g2 185 [v3, .int .i64 x.1, .int .u64 x.2.1], row x.2.2.2 5 fByte x.2.2.1]) ?_ ?_
    · clear hk23
      refine WJ.seq ?_
      refine WJ.quiet ?_
      refine QJ.step (YldS.yld (y_move rfl)) rfl ?_
      refine QJ.step (YldS.yld (y_assign rfl)) rfl ?_
      refine QJ.done ?_
      refine PJ.next ?_
      refine WJ.block ?_
      refine WJ.sel (L' := (fun (x : Int × Int × (List UInt8) × Value × Int) => [box g2 185 [v3, .int .i64 x.1, .int .u64 x.2.1], row x.2.2.2.1 5 fByte x.2.2.1]) (x8, x9, [], v5, n10)) [0, 1] ⟨by decide, rfl⟩ ?_
      refine WJ.sub (m' := (fun (x : Int × Int × (List UInt8) × Value × Int) => [(0, pt g2 0), (3, x.2.2.2.1), (4, .int .i64 n10), (5, .int .i64 x.2.2.2.2)]) (x8, x9, [], v5, n10)) ⟨rfl, rfl, rfl, rfl, trivial⟩ ?_
      refine WJ.loop (X := Int × Int × (List UInt8) × Value × Int) (fun N (x : Int × Int × (List UInt8) × Value × Int) => s_l14DrawText_l1 kj22 s1 N x.1 x.2.1 x.2.2.1 x.2.2.2.2 = some r) (fun (x : Int × Int × (List UInt8) × Value × Int) => [(0, pt g2 0), (3, x.2.2.2.1), (4, .int .i64 n10), (5, .int .i64 x.2.2.2.2)]) (fun (x : Int × Int × (List UInt8) × Value × Int) => [box g2 185 [v3, .int .i64 x.1, .int .u64 x.2.1], row x.2.2.2.1 5 fByte x.2.2.1]) ?_ N (x8, x9, [], v5, n10) hm
      · rintro N ⟨x24, x25, l26, v27, k28⟩ hI
        have hm := hI; clear hI
        cases N with
        | zero => cases hm
        | succ N =>
        unfold s_l14DrawText_l1 at hm
        refine WJ.seq ?_
        refine WJ.seq ?_
        refine WJ.quiet ?_
        refine QJ.step (YldS.yld (y_move rfl)) rfl ?_
        refine QJ.step (YldS.yld (y_bin rfl rfl rfl)) rfl ?_
        refine QJ.done ?_
        refine PJ.next ?_
        refine WJ.cond (t := decide (k28 > 0)) rfl (fun hb29 => ?_) (fun hb29 => ?_)
        · replace hm := ifT hm hb29
          refine WJ.skip ?_
          refine PJ.next ?_
          refine WJ.seq ?_
          refine WJ.block ?_
          refine WJ.reg ?_
          refine SJ.q (YldS.yld (y_move rfl)) rfl ?_
          refine SJ.q (YldS.yld (y_move rfl)) rfl ?_
          obtain ⟨r30, h31, hm⟩ := bindS hm
          refine SJ.call1 (k := 0) rfl Try.call97 rfl (fun w S hw hA hO => ok_s_l00Src_pick h31 w S _ (hr4.st1 hw hO) hA) rfl ?_
          rintro _ _ ⟨rfl, rfl⟩
          obtain ⟨c32, h33, hm⟩ := bindS hm
          refine SJ.q (YldS.yld (y_idxStr Try.runUnderlying9 rfl rfl h33)) rfl ?_
          refine SJ.buildSlice (R := fByte) (os := [.tmp 22]) [c32] Try.runUnderlying22 Try.sizeOf5 Try.zeroValue5 rfl rfl rfl rfl rfl rfl fun v34 => ?_
          obtain ⟨l35, h36, hm⟩ := bindS hm
          refine SJ.append (k := 2) (R := fByte) h36 rfl Try.underlying22 el5 rfl rfl rfl (fun w hw => (hw.row_rd (k := 0) rfl)) rfl fun v37 => ?_
          refine SJ.q (YldS.yld (y_assign rfl)) rfl ?_
          refine SJ.nil ?_
          refine PJ.block_normal (PJ.next ?_)
          refine WJ.quiet ?_
          refine QJ.step (YldS.yld (y_move rfl)) rfl ?_
          refine QJ.step (YldS.yld (y_bin rfl rfl rfl)) rfl ?_
          refine QJ.step (YldS.yld (y_assign rfl)) rfl ?_
          refine QJ.done ?_
          exact PJ.round (r30.2.at_, r30.2.seed, l35, v37, w64 (k28 - 1)) [1, 2] hm ⟨rfl, rfl, rfl, rfl, trivial⟩ ⟨by decide, rfl⟩
        · replace hm := ifF hm hb29
          refine WJ.exit ?_
          refine PJ.then_exit (PJ.then_exit (PJ.block_exit ?_))
          exact PJ.joined (x24, x25, l26, v27) [0, 1] hm ⟨rfl, rfl, rfl, trivial⟩ ⟨by decide, rfl⟩
    · rintro ⟨x18, x19, l20, v21⟩ hm
      subst hk23
      obtain ⟨kj41, hk42, hm⟩ := withK_open hm
      refine WJ.join (X := Int × Int × (List UInt8)) (fun (x : Int × Int × (List UInt8)) => kj41 x.1 x.2.1 x.2.2 = some r) (fun (x : Int × Int × (List UInt8)) => [(3, v21)]) (fun (x : Int × Int × (List UInt8)) => [box g2 185 [v3, .int .i64 x.1, .int .u64 x.2.1], row v21 5 fByte x.2.2]) ?_ ?_
      · clear hk42
        refine WJ.seq ?_
        refine WJ.reg ?_
        refine SJ.q (YldS.yld (y_move rfl)) rfl ?_
        refine SJ.q (YldS.yld (y_bin rfl rfl rfl)) rfl ?_
        refine SJ.q (YldS.yld (y_move rfl)) rfl ?_
        obtain ⟨x45, h44, hm⟩ := bindS hm
        refine SJ.cut 3 [(3, v21), (30, .bool x45.1)] [box g2 185 [v3, .int .i64 x45.2.at_, .int .u64 x45.2.seed], row v21 5 fByte l20] ?_ ?_
        · rcases Bool.eq_false_or_eq_true (decide (n10 > 0)) with hb46 | hb46
          · replace h44 := ifT h44 hb46
            refine SJ.on rfl rfl (cB hb46) (SJ.q (YldS.yld (y_move rfl)) rfl ?_)
            obtain ⟨r47, h48, h44⟩ := bindS h44
            refine SJ.on rfl rfl (cB hb46) (SJ.call1 (k := 0) rfl Try.call121 rfl (fun w S hw hA hO => ok_s_l00Src_one h48 w S _ (hr4.st1 hw hO) hA) rfl ?_)
            rintro _ _ ⟨rfl, rfl⟩
            refine SJ.q (YldS.yld (y_pick_t (cB hb46) rfl)) rfl ?_
            obtain rfl := Option.some.inj h44
            exact SJ.cut_end [0, 1] ⟨rfl, rfl, trivial⟩ ⟨by decide, rfl⟩
          · replace h44 := ifF h44 hb46
            obtain rfl := Option.some.inj h44
            refine SJ.off rfl rfl (cB hb46) rfl rfl ?_
            refine SJ.off rfl rfl (cB hb46) rfl rfl ?_
            refine SJ.q (YldS.yld (y_pick_f (cB hb46) rfl)) rfl ?_
            exact SJ.cut_end [0, 1] ⟨rfl, rfl, trivial⟩ ⟨by decide, rfl⟩
        refine SJ.nil ?_
        refine PJ.next ?_
        refine WJ.cond (t := x45.1) rfl (fun hb49 => ?_) (fun hb49 => ?_)
        · replace hm := ifT hm hb49
          refine WJ.reg ?_
          refine SJ.q (YldS.yld (y_move rfl)) rfl ?_
          obtain ⟨e50, h51, hm⟩ := bindS hm
          refine SJ.q (YldS.yld (y_ixRow (k := 1) (R := fByte) rfl Try.runUnderlying22 Try.sizeOf5 rfl rfl h51)) rfl ?_
          refine SJ.storeRL (k := 1) (i := (Int.toNat 0)) (off := 0) (us := [.int .u8 (UInt8.toNat 127 : Int)]) (b := 127) rfl rfl (idx_get h51) rfl rfl Try.sizeOf5 rfl rfl rfl ?_
          refine SJ.nil ?_
          exact PJ.joined (x45.2.at_, x45.2.seed, (List.set l20 (Int.toNat 0) 127)) [0, 1] hm ⟨rfl, trivial⟩ ⟨by decide, rfl⟩
        · replace hm := ifF hm hb49
          refine WJ.skip ?_
          exact PJ.joined (x45.2.at_, x45.2.seed, l20) [0, 1] hm ⟨rfl, trivial⟩ ⟨by decide, rfl⟩
      · rintro ⟨x38, x39, l40⟩ hm
        subst hk42
        refine WJ.seq ?_
        refine WJ.quiet ?_
        refine QJ.step (YldS.yld (y_move rfl)) rfl ?_
        refine QJ.step (YldS.yld (y_b2s Try.underlying22 Try.underlying9 Try.underlying5 (fun w hw => ⟨_, (hw.row_rd (k := 1) rfl)⟩) rfl)) rfl ?_
        refine QJ.step (YldS.yld (y_assign rfl)) rfl ?_
        refine QJ.done ?_
        refine PJ.next ?_
        refine WJ.ret ?_
        obtain rfl := Option.some.inj hm
        refine PJ.sel (L' := [box g2 185 [v3, .int .i64 x38, .int .u64 x39]]) [0] ⟨by decide, rfl⟩ ?_
        exact PJ.retn (vs := [str l40]) Try.results128 ⟨rfl, trivial⟩ ⟨rfl, rfl⟩

set_option maxRecDepth 100000 in
set_option maxHeartbeats 1000000 in
theorem ok_s_DrawPalestLetter {N : Nat} {code1 : List UInt8} {r : Ribbon × Int × Str × Int} (hm : s_DrawPalestLetter N code1 = some r) (w : World) (v2 : Value) (hr3 : RdS w (cx w).Fz v2 fByte.rp code1) :
    Calls Try.prog 37 #[v2] w (Ret (cx w) (tup [.agg (Ribbon.enc r.1).toArray, .int .i64 r.2.1, str r.2.2.1, .int .i64 r.2.2.2])) := by
  unfold s_DrawPalestLetter at hm
  refine Calls.enter [v2] Try.func37 rfl Try.ntmps37 rfl ?_
  refine WJ.seq ?_
  refine WJ.reg ?_
  refine SJ.alloc (cs := [.int .i64 0, .int .i64 0, .int .i64 0]) Try.zeroValue59 rfl rfl fun g4 => ?_
  refine SJ.q (YldS.yld (y_assign rfl)) rfl ?_
  refine SJ.q (YldS.yld (y_assign rfl)) rfl ?_
  refine SJ.q (YldS.yld (y_assign rfl)) rfl ?_
  refine SJ.nil ?_
  refine PJ.next ?_
  refine WJ.seq ?_
  refine WJ.reg ?_
  refine SJ.q (YldS.yld (y_move rfl)) rfl ?_
  obtain ⟨r5, h6, hm⟩ := bindS hm
  refine SJ.call Try.call95 rfl (fun w hw => ok_s_l00From h6 w _ (hr3.st hw)) rfl ?_
  rintro _ _ ⟨g7, rfl, rfl⟩
  refine SJ.q (YldS.yld (y_assign rfl)) rfl ?_
  refine SJ.nil ?_
  refine PJ.next ?_
  refine WJ.seq ?_
  refine WJ.reg ?_
  refine SJ.q (YldS.yld (y_move rfl)) rfl ?_
  obtain ⟨r8, h9, hm⟩ := bindS hm
  refine SJ.call1 (k := 0) rfl Try.call120 rfl (fun w S hw hA hO => ok_s_l14Bent h9 w S _ (hr3.st1 hw hO) hA) rfl ?_
  rintro _ _ ⟨rfl, rfl⟩
  refine SJ.alloc (cs := [.int .i64 0, .int .i64 0, .int .i64 0]) Try.zeroValue59 rfl rfl fun g10 => ?_
  refine SJ.storeL (k := 0) (off := 0) (us := [.int .i64 r8.1.spots, .int .i64 r8.1.ink, .int .i64 r8.1.takes]) rfl rfl rfl rfl Try.sizeOf59 rfl rfl ?_
  refine SJ.nil ?_
  refine PJ.next ?_
  refine WJ.seq ?_
  refine WJ.reg ?_
  refine SJ.q (YldS.yld (y_move rfl)) rfl ?_
  obtain ⟨r11, h12, hm⟩ := bindS hm
  refine SJ.call1 (k := 1) rfl Try.call127 rfl (fun w S hw hA hO => ok_s_l14Strokes h12 w S _ (hr3.st1 hw hO) hA) rfl ?_
  rintro _ _ ⟨rfl, rfl⟩
  refine SJ.q (YldS.yld (y_assign rfl)) rfl ?_
  refine SJ.nil ?_
  refine PJ.next ?_
  refine WJ.seq ?_
  refine WJ.reg ?_
  refine SJ.q (YldS.yld (y_move rfl)) rfl ?_
  obtain ⟨r13, h14, hm⟩ := bindS hm
  refine SJ.call1 (k := 0) rfl Try.call128 rfl (fun w S hw hA hO => ok_s_l14DrawText h14 w S _ (hr3.st1 hw hO) hA) rfl ?_
  rintro _ _ ⟨rfl, rfl⟩
  refine SJ.q (YldS.yld (y_assign rfl)) rfl ?_
  refine SJ.nil ?_
  refine PJ.next ?_
  refine WJ.seq ?_
  obtain ⟨r15, h16, hm⟩ := bindS hm
  refine WJ.draws (N := 10) (listed0 := #[false, false, false, false, false, false, false, false, false, false]) [box g10 59 [.int .i64 r8.1.spots, .int .i64 r8.1.ink, .int .i64 r8.1.takes]] follows rfl rfl ?_
  refine RJ.first 0 (listed' := #[true, false, false, false, false, false, false, false, false, false]) [1] rfl (by kernel_rfl) rfl ⟨by decide, rfl⟩ (y_loadBN (k := 0) (off := 0) (us := [.int .i64 r8.1.spots, .int .i64 r8.1.ink, .int .i64 r8.1.takes]) rfl Try.isAgg59 Try.sizeOf59 rfl rfl) rfl ?_
  refine RJ.first 1 (listed' := #[true, true, false, false, false, false, false, false, false, false]) [1] rfl (by kernel_rfl) rfl ⟨by decide, rfl⟩ (y_move rfl) rfl ?_
  refine RJ.first 2 (listed' := #[true, true, true, false, false, false, false, false, false, false]) [1] rfl (by kernel_rfl) rfl ⟨by decide, rfl⟩ (y_move rfl) rfl ?_
  refine RJ.first 3 (listed' := #[true, true, true, true, false, false, false, false, false, false]) [1] rfl (by kernel_rfl) rfl ⟨by decide, rfl⟩ (y_move rfl) rfl ?_
  refine RJ.first 4 (listed' := #[true, true, true, true, true, false, false, false, false, false]) [1] rfl (by kernel_rfl) rfl ⟨by decide, rfl⟩ (y_loadBN (k := 0) (off := 0) (us := [.int .i64 r8.1.spots, .int .i64 r8.1.ink, .int .i64 r8.1.takes]) rfl Try.isAgg59 Try.sizeOf59 rfl rfl) rfl ?_
  refine RJ.step1 5 [1] (by kernel_rfl) ⟨by decide, rfl⟩ ?_
  refine RO.of (listed' := #[true, true, true, true, true, true, false, false, false, false]) rfl rfl ?_
  refine SJ.call1 (k := 0) rfl Try.call122 rfl (fun w S hw hA hO => ok_s_l14DrawLeast h16 w S _ (hr3.st1 hw hO) hA) rfl ?_
  rintro _ _ ⟨rfl, rfl⟩
  refine SJ.nil ?_
  refine PJ.draw ?_
  refine RJ.step1 6 [1] (by kernel_rfl) ⟨by decide, rfl⟩ ?_
  refine RO.of (listed' := #[true, true, true, true, true, true, true, false, false, false]) rfl rfl ?_
  refine SJ.storeL (k := 2) (off := 0) (us := [.int .i64 r8.1.spots, .int .i64 r8.1.ink, .int .i64 r8.1.takes]) rfl rfl rfl rfl Try.sizeOf59 rfl rfl ?_
  refine SJ.nil ?_
  refine PJ.draw ?_
  refine RJ.first 7 (listed' := #[true, true, true, true, true, true, true, true, false, false]) [1] rfl (by kernel_rfl) rfl ⟨by decide, rfl⟩ (y_assign rfl) rfl ?_
  refine RJ.first 8 (listed' := #[true, true, true, true, true, true, true, true, true, false]) [1] rfl (by kernel_rfl) rfl ⟨by decide, rfl⟩ (y_assign rfl) rfl ?_
  refine RJ.first 9 (listed' := #[true, true, true, true, true, true, true, true, true, true]) [1] rfl (by kernel_rfl) rfl ⟨by decide, rfl⟩ (y_assign rfl) rfl ?_
  refine RJ.fin [1] (by kernel_rfl) ⟨by decide, rfl⟩ ?_
  refine PJ.next ?_
  refine WJ.ret ?_
  obtain rfl := Option.some.inj hm
  exact PJ.retn_sel (vs := [.agg (Ribbon.enc r8.1).toArray, .int .i64 r11.1, str r13.1, .int .i64 r15.1]) Try.results37 ⟨⟨2, g4, 59, [.int .i64 r8.1.spots, .int .i64 r8.1.ink, .int .i64 r8.1.takes], rfl, rfl, .inl ⟨Try.isAgg59, Try.sizeOf59, rfl⟩⟩, rfl, rfl, rfl, trivial⟩ [] ⟨List.nodup_nil, rfl⟩ ⟨rfl, rfl⟩

set_option maxRecDepth 100000 in
set_option maxHeartbeats 1000000 in
theorem ok_i_isUse {n1 : Int} {r : Bool} (hm : i_isUse n1 = some r) (w : World)  :
    Calls Try.prog 135 #[.int .i64 n1] w (Ret (cx w) (.bool r)) := by
  unfold i_isUse at hm
  refine Calls.enter [.int .i64 n1] Try.func135 rfl Try.ntmps135 rfl ?_
  refine WJ.seq ?_
  refine WJ.quiet ?_
  refine QJ.step (YldS.yld (y_assign rfl)) rfl ?_
  refine QJ.done ?_
  refine PJ.next ?_
  refine WJ.seq ?_
  refine WJ.quiet ?_
  refine QJ.step (YldS.yld (y_move rfl)) rfl ?_
  obtain ⟨r2, h3, hm⟩ := bindS hm
  refine QJ.step (y_call Try.call107 rfl (RetG.quiet fun w hw => ok_i_between h3 w )) rfl ?_
  refine QJ.step (YldS.yld (y_assign rfl)) rfl ?_
  refine QJ.done ?_
  refine PJ.next ?_
  refine WJ.ret ?_
  obtain rfl := Option.some.inj hm
  refine PJ.sel (L' := []) [] ⟨List.nodup_nil, rfl⟩ ?_
  exact PJ.retn (vs := [.bool r2]) Try.results135 ⟨rfl, trivial⟩ ⟨rfl, rfl⟩

set_option maxRecDepth 100000 in
set_option maxHeartbeats 1000000 in
theorem ok_i_isText {N : Nat} {s1 : Str} {low2 : UInt8} {most3 : Int} {r : Bool} (hm : i_isText N s1 low2 most3 = some r) (w : World)  :
    Calls Try.prog 118 #[str s1, .int .u8 (UInt8.toNat low2 : Int), .int .i64 most3] w (Ret (cx w) (.bool r)) := by
  unfold i_isText at hm
  refine Calls.enter [str s1, .int .u8 (UInt8.toNat low2 : Int), .int .i64 most3] Try.func118 rfl Try.ntmps118 rfl ?_
  refine WJ.seq ?_
  refine WJ.quiet ?_
  refine QJ.step (YldS.yld (y_assign rfl)) rfl ?_
  refine QJ.done ?_
  refine PJ.next ?_
  refine WJ.seq ?_
  refine WJ.seq ?_
  refine WJ.quiet ?_
  refine QJ.step (YldS.yld (y_move rfl)) rfl ?_
  refine QJ.step (YldS.yld (y_lenStr Try.runUnderlying9 rfl)) rfl ?_
  refine QJ.step (YldS.yld (y_move rfl)) rfl ?_
  refine QJ.step (YldS.yld (y_bin rfl rfl rfl)) rfl ?_
  refine QJ.done ?_
  refine PJ.next ?_
  refine WJ.cond (t := decide ((List.length s1 : Int) > most3)) rfl (fun hb4 => ?_) (fun hb4 => ?_)
  · replace hm := ifT hm hb4
    refine WJ.seq ?_
    refine WJ.quiet ?_
    refine QJ.step (YldS.yld (y_assign rfl)) rfl ?_
    refine QJ.done ?_
    refine PJ.next ?_
    refine WJ.ret ?_
    refine PJ.then_ret ?_
    obtain rfl := Option.some.inj hm
    refine PJ.sel (L' := []) [] ⟨List.nodup_nil, rfl⟩ ?_
    exact PJ.retn (vs := [.bool false]) Try.results118 ⟨rfl, trivial⟩ ⟨rfl, rfl⟩
  · replace hm := ifF hm hb4
    refine WJ.skip ?_
    refine PJ.next ?_
    obtain ⟨kj5, hk6, hm⟩ := withK_open hm
    refine WJ.join (X := Unit) (fun (_ : Unit) => kj5  = some r) (fun (_ : Unit) => []) (fun (_ : Unit) => []) ?_ ?_
    · clear hk6
      refine WJ.seq ?_
      refine WJ.quiet ?_
      refine QJ.step (YldS.yld (y_move rfl)) rfl ?_
      refine QJ.step (YldS.yld (y_lenStr Try.runUnderlying9 rfl)) rfl ?_
      refine QJ.step (YldS.yld (y_move rfl)) rfl ?_
      refine QJ.done ?_
      refine PJ.next ?_
      refine WJ.block ?_
      refine WJ.sel (L' := (fun (x : Int) => []) 0) [] ⟨List.nodup_nil, rfl⟩ ?_
      refine WJ.sub (m' := (fun (x : Int) => [(0, str s1), (1, .int .u8 (UInt8.toNat low2 : Int)), (13, .int .i64 (List.length s1 : Int)), (14, .int .i64 x)]) 0) ⟨rfl, rfl, rfl, rfl, trivial⟩ ?_
      refine WJ.loop (X := Int) (fun N (x : Int) => i_isText_l1 kj5 s1 low2 N x = some r) (fun (x : Int) => [(0, str s1), (1, .int .u8 (UInt8.toNat low2 : Int)), (13, .int .i64 (List.length s1 : Int)), (14, .int .i64 x)]) (fun (x : Int) => []) ?_ N 0 hm
      · rintro N x7 hI
        have hm := hI; clear hI
        cases N with
        | zero => cases hm
        | succ N =>
        unfold i_isText_l1 at hm
        refine WJ.seq ?_
        refine WJ.quiet ?_
        refine QJ.step (YldS.yld (y_bin rfl rfl rfl)) rfl ?_
        refine QJ.done ?_
        refine PJ.next ?_
        refine WJ.seq ?_
        refine WJ.cond (t := decide (x7 < (List.length s1 : Int))) rfl (fun hb8 => ?_) (fun hb8 => ?_)
        · replace hm := ifT hm hb8
          refine WJ.skip ?_
          refine PJ.next ?_
          refine WJ.seq ?_
          refine WJ.block ?_
          refine WJ.seq ?_
          refine WJ.quiet ?_
          refine QJ.step (YldS.yld (y_move rfl)) rfl ?_
          refine QJ.step (YldS.yld (y_assign rfl)) rfl ?_
          refine QJ.done ?_
          refine PJ.next ?_
          refine WJ.seq ?_
          refine WJ.quiet ?_
          refine QJ.step (YldS.yld (y_move rfl)) rfl ?_
          refine QJ.step (YldS.yld (y_move rfl)) rfl ?_
          obtain ⟨c9, h10, hm⟩ := bindS hm
          refine QJ.step (YldS.yld (y_idxStr Try.runUnderlying9 rfl rfl h10)) rfl ?_
          refine QJ.step (YldS.yld (y_move rfl)) rfl ?_
          refine QJ.step (YldS.yld (y_bin8 c9 low2 rfl rfl rfl)) rfl ?_
          refine QJ.step (YldS.yld (y_move rfl)) rfl ?_
          obtain ⟨t11, h12, hm⟩ := bindS hm
          refine QJ.cut 5 [(0, str s1), (1, .int .u8 (UInt8.toNat low2 : Int)), (13, .int .i64 (List.length s1 : Int)), (14, .int .i64 x7), (27, .bool t11)] ?_ ?_
          · rcases Bool.eq_false_or_eq_true (decide (c9 < low2)) with hb13 | hb13
            · obtain rfl := orT h12 hb13
              refine QJ.off rfl rfl (cB hb13) rfl rfl ?_
              refine QJ.off rfl rfl (cB hb13) rfl rfl ?_
              refine QJ.off rfl rfl (cB hb13) rfl rfl ?_
              refine QJ.off rfl rfl (cB hb13) rfl rfl ?_
              refine QJ.step (YldS.yld (y_pick_t (cB hb13) rfl)) rfl ?_
              exact QJ.cut_end ⟨rfl, rfl, rfl, rfl, rfl, trivial⟩
            · replace h12 := orF h12 hb13
              refine QJ.on rfl rfl (cB hb13) (YldS.yld (y_move rfl)) rfl ?_
              refine QJ.on rfl rfl (cB hb13) (YldS.yld (y_move rfl)) rfl ?_
              obtain ⟨c14, h15, h12⟩ := bindS h12
              refine QJ.on rfl rfl (cB hb13) (YldS.yld (y_idxStr Try.runUnderlying9 rfl rfl h15)) rfl ?_
              refine QJ.on rfl rfl (cB hb13) (YldS.yld (y_bin8 c14 (126 : UInt8) rfl rfl rfl)) rfl ?_
              refine QJ.step (YldS.yld (y_pick_f (cB hb13) rfl)) rfl ?_
              obtain rfl := Option.some.inj h12
              exact QJ.cut_end ⟨rfl, rfl, rfl, rfl, rfl, trivial⟩
          refine QJ.done ?_
          refine PJ.next ?_
          refine WJ.cond (t := t11) rfl (fun hb16 => ?_) (fun hb16 => ?_)
          · replace hm := ifT hm hb16
            refine WJ.seq ?_
            refine WJ.quiet ?_
            refine QJ.step (YldS.yld (y_assign rfl)) rfl ?_
            refine QJ.done ?_
            refine PJ.next ?_
            refine WJ.ret ?_
            refine PJ.block_ret (PJ.then_ret (PJ.then_ret (PJ.block_ret (PJ.then_ret ?_))))
            obtain rfl := Option.some.inj hm
            refine PJ.sel (L' := []) [] ⟨List.nodup_nil, rfl⟩ ?_
            exact PJ.retn (vs := [.bool false]) Try.results118 ⟨rfl, trivial⟩ ⟨rfl, rfl⟩
          · replace hm := ifF hm hb16
            refine WJ.skip ?_
            refine PJ.block_normal (PJ.next ?_)
            refine WJ.quiet ?_
            refine QJ.step (YldS.yld (y_bin rfl rfl rfl)) rfl ?_
            refine QJ.step (YldS.yld (y_move rfl)) rfl ?_
            refine QJ.done ?_
            exact PJ.round (w64 (x7 + 1)) [] hm ⟨rfl, rfl, rfl, rfl, trivial⟩ ⟨List.nodup_nil, rfl⟩
        · replace hm := ifF hm hb8
          refine WJ.exit ?_
          refine PJ.then_exit (PJ.then_exit (PJ.block_exit ?_))
          exact PJ.joined () [] hm trivial ⟨List.nodup_nil, rfl⟩
    · rintro _ hm
      subst hk6
      refine WJ.seq ?_
      refine WJ.quiet ?_
      refine QJ.step (YldS.yld (y_assign rfl)) rfl ?_
      refine QJ.done ?_
      refine PJ.next ?_
      refine WJ.ret ?_
      obtain rfl := Option.some.inj hm
      refine PJ.sel (L' := []) [] ⟨List.nodup_nil, rfl⟩ ?_
      exact PJ.retn (vs := [.bool true]) Try.results118 ⟨rfl, trivial⟩ ⟨rfl, rfl⟩

set_option maxRecDepth 100000 in
set_option maxHeartbeats 1000000 in
theorem ok_i_shadesCode {N : Nat} {r1 : Ribbon} {done2 : Int} {text3 : Str} {r : Int} (hm : i_shadesCode N r1 done2 text3 = some r) (w : World)  :
    Calls Try.prog 129 #[.agg (Ribbon.enc r1).toArray, .int .i64 done2, str text3] w (Ret (cx w) (.int .i64 r)) := by
  unfold i_shadesCode at hm
  refine Calls.enter [.agg (Ribbon.enc r1).toArray, .int .i64 done2, str text3] Try.func129 rfl Try.ntmps129 rfl ?_
  refine WJ.seq ?_
  refine WJ.reg ?_
  refine SJ.box (cs := [.int .i64 r1.spots, .int .i64 r1.ink, .int .i64 r1.takes]) rfl rfl rfl fun g4 => ?_
  refine SJ.q (YldS.yld (y_assign rfl)) rfl ?_
  refine SJ.nil ?_
  refine PJ.next ?_
  refine WJ.seq ?_
  refine WJ.seq ?_
  refine WJ.quiet ?_
  refine QJ.step (YldS.yld (y_loadBN (k := 0) (off := 0) (us := [.int .i64 r1.spots, .int .i64 r1.ink, .int .i64 r1.takes]) rfl Try.isAgg59 Try.sizeOf59 rfl rfl)) rfl ?_
  obtain ⟨r5, h6, hm⟩ := bindS hm
  refine QJ.step (y_call Try.call123 rfl (RetG.quiet fun w hw => ok_i_ValidRibbon h6 w )) rfl ?_
  refine QJ.step (YldS.yld (y_not rfl)) rfl ?_
  refine QJ.done ?_
  refine PJ.next ?_
  refine WJ.cond (t := !r5) rfl (fun hb7 => ?_) (fun hb7 => ?_)
  · replace hm := ifT hm hb7
    refine WJ.seq ?_
    refine WJ.quiet ?_
    refine QJ.step (YldS.yld (y_assign rfl)) rfl ?_
    refine QJ.done ?_
    refine PJ.next ?_
    refine WJ.ret ?_
    refine PJ.then_ret ?_
    obtain rfl := Option.some.inj hm
    refine PJ.sel (L' := []) [] ⟨List.nodup_nil, rfl⟩ ?_
    exact PJ.retn (vs := [.int .i64 1]) Try.results129 ⟨rfl, trivial⟩ ⟨rfl, rfl⟩
  · replace hm := ifF hm hb7
    refine WJ.skip ?_
    refine PJ.next ?_
    refine WJ.seq ?_
    refine WJ.seq ?_
    refine WJ.quiet ?_
    refine QJ.step (YldS.yld (y_move rfl)) rfl ?_
    obtain ⟨r8, h9, hm⟩ := bindS hm
    refine QJ.step (y_call Try.call135 rfl (RetG.quiet fun w hw => ok_i_isUse h9 w )) rfl ?_
    refine QJ.step (YldS.yld (y_not rfl)) rfl ?_
    refine QJ.step (YldS.yld (y_move rfl)) rfl ?_
    obtain ⟨t10, h11, hm⟩ := bindS hm
    refine QJ.cut 4 [(17, .bool t10)] ?_ ?_
    · rcases Bool.eq_false_or_eq_true (!r8) with hb12 | hb12
      · obtain rfl := orT h11 hb12
        refine QJ.off rfl rfl (cB hb12) rfl rfl ?_
        refine QJ.off rfl rfl (cB hb12) rfl rfl ?_
        refine QJ.off rfl rfl (cB hb12) rfl rfl ?_
        refine QJ.step (YldS.yld (y_pick_t (cB hb12) rfl)) rfl ?_
        exact QJ.cut_end ⟨rfl, trivial⟩
      · replace h11 := orF h11 hb12
        refine QJ.on rfl rfl (cB hb12) (YldS.yld (y_move rfl)) rfl ?_
        obtain ⟨r13, h14, h11⟩ := bindS h11
        refine QJ.on rfl rfl (cB hb12) (y_call Try.call118 rfl (RetG.quiet fun w hw => ok_i_isText h14 w )) rfl ?_
        refine QJ.on rfl rfl (cB hb12) (YldS.yld (y_not rfl)) rfl ?_
        refine QJ.step (YldS.yld (y_pick_f (cB hb12) rfl)) rfl ?_
        obtain rfl := Option.some.inj h11
        exact QJ.cut_end ⟨rfl, trivial⟩
    refine QJ.done ?_
    refine PJ.next ?_
    refine WJ.cond (t := t10) rfl (fun hb15 => ?_) (fun hb15 => ?_)
    · replace hm := ifT hm hb15
      refine WJ.seq ?_
      refine WJ.quiet ?_
      refine QJ.step (YldS.yld (y_assign rfl)) rfl ?_
      refine QJ.done ?_
      refine PJ.next ?_
      refine WJ.ret ?_
      refine PJ.then_ret ?_
      obtain rfl := Option.some.inj hm
      refine PJ.sel (L' := []) [] ⟨List.nodup_nil, rfl⟩ ?_
      exact PJ.retn (vs := [.int .i64 2]) Try.results129 ⟨rfl, trivial⟩ ⟨rfl, rfl⟩
    · replace hm := ifF hm hb15
      refine WJ.skip ?_
      refine PJ.next ?_
      refine WJ.seq ?_
      refine WJ.quiet ?_
      refine QJ.step (YldS.yld (y_assign rfl)) rfl ?_
      refine QJ.done ?_
      refine PJ.next ?_
      refine WJ.ret ?_
      obtain rfl := Option.some.inj hm
      refine PJ.sel (L' := []) [] ⟨List.nodup_nil, rfl⟩ ?_
      exact PJ.retn (vs := [.int .i64 0]) Try.results129 ⟨rfl, trivial⟩ ⟨rfl, rfl⟩

set_option maxRecDepth 100000 in
set_option maxHeartbeats 1000000 in
theorem ok_i_Ribbon_shades {N : Nat} {r1 : Ribbon} {done2 : Int} {text3 : Str} {r : (List Int)} (hm : i_Ribbon_shades N r1 done2 text3 = some r) (w : World)  :
    Calls Try.prog 130 #[.agg (Ribbon.enc r1).toArray, .int .i64 done2, str text3] w (RetG (cx w) fun u L => ∃ (u1 : Value), (u = u1 ∧ L = [row u1 2 fI64 r])) := by
  unfold i_Ribbon_shades at hm
  refine Calls.enter [.agg (Ribbon.enc r1).toArray, .int .i64 done2, str text3] Try.func130 rfl Try.ntmps130 rfl ?_
  refine WJ.seq ?_
  refine WJ.reg ?_
  refine SJ.box (cs := [.int .i64 r1.spots, .int .i64 r1.ink, .int .i64 r1.takes]) rfl rfl rfl fun g4 => ?_
  refine SJ.q (YldS.yld (y_assign rfl)) rfl ?_
  refine SJ.nil ?_
  refine PJ.next ?_
  refine WJ.seq ?_
  refine WJ.reg ?_
  refine SJ.buildSlice (R := fI64) (os := []) [] Try.runUnderlying66 Try.sizeOf2 Try.zeroValue2 rfl rfl rfl rfl rfl rfl fun v5 => ?_
  refine SJ.q (YldS.yld (y_assign rfl)) rfl ?_
  refine SJ.nil ?_
  refine PJ.next ?_
  obtain ⟨kj8, hk9, hm⟩ := withK_open hm
  refine WJ.join (X := (List Int) × Value) (fun (x : (List Int) × Value) => kj8 x.1 = some r) (fun (x : (List Int) × Value) => [(7, x.2)]) (fun (x : (List Int) × Value) => [row x.2 2 fI64 x.1]) ?_ ?_
  · clear hk9
    refine WJ.seq ?_
    refine WJ.quiet ?_
    refine QJ.step (YldS.yld (y_move rfl)) rfl ?_
    refine QJ.step (YldS.yld (y_lenStr Try.runUnderlying9 rfl)) rfl ?_
    refine QJ.step (YldS.yld (y_move rfl)) rfl ?_
    refine QJ.done ?_
    refine PJ.next ?_
    refine WJ.block ?_
    refine WJ.sel (L' := (fun (x : (List Int) × Value × Int × Int) => [row x.2.1 2 fI64 x.1, box g4 59 [.int .i64 r1.spots, .int .i64 r1.ink, .int .i64 r1.takes]]) ([], v5, done2, 0)) [0, 1] ⟨by decide, rfl⟩ ?_
    refine WJ.sub (m' := (fun (x : (List Int) × Value × Int × Int) => [(1, .int .i64 x.2.2.1), (2, str text3), (3, pt g4 0), (7, x.2.1), (11, .int .i64 (List.length text3 : Int)), (12, .int .i64 x.2.2.2)]) ([], v5, done2, 0)) ⟨rfl, rfl, rfl, rfl, rfl, rfl, trivial⟩ ?_
    refine WJ.loop (X := (List Int) × Value × Int × Int) (fun N (x : (List Int) × Value × Int × Int) => i_Ribbon_shades_l1 kj8 r1 text3 N x.1 x.2.2.1 x.2.2.2 = some r) (fun (x : (List Int) × Value × Int × Int) => [(1, .int .i64 x.2.2.1), (2, str text3), (3, pt g4 0), (7, x.2.1), (11, .int .i64 (List.length text3 : Int)), (12, .int .i64 x.2.2.2)]) (fun (x : (List Int) × Value × Int × Int) => [row x.2.1 2 fI64 x.1, box g4 59 [.int .i64 r1.spots, .int .i64 r1.ink, .int .i64 r1.takes]]) ?_ N ([], v5, done2, 0) hm
    · rintro N ⟨l10, v11, done12, x13⟩ hI
      have hm := hI; clear hI
      cases N with
      | zero => cases hm
      | succ N =>
      unfold i_Ribbon_shades_l1 at hm
      refine WJ.seq ?_
      refine WJ.quiet ?_
      refine QJ.step (YldS.yld (y_bin rfl rfl rfl)) rfl ?_
      refine QJ.done ?_
      refine PJ.next ?_
      refine WJ.seq ?_
      refine WJ.cond (t := decide (x13 < (List.length text3 : Int))) rfl (fun hb14 => ?_) (fun hb14 => ?_)
      · replace hm := ifT hm hb14
        refine WJ.skip ?_
        refine PJ.next ?_
        obtain ⟨kj18, hk19, hm⟩ := withK_open hm
        refine WJ.join (X := (List Int) × Value × Int) (fun (x : (List Int) × Value × Int) => kj18 x.1 x.2.2 = some r) (fun (x : (List Int) × Value × Int) => [(1, .int .i64 x.2.2), (2, str text3), (3, pt g4 0), (7, x.2.1), (11, .int .i64 (List.length text3 : Int)), (12, .int .i64 x13)]) (fun (x : (List Int) × Value × Int) => [row x.2.1 2 fI64 x.1, box g4 59 [.int .i64 r1.spots, .int .i64 r1.ink, .int .i64 r1.takes]]) ?_ ?_
        · clear hk19
          refine WJ.block ?_
          refine WJ.seq ?_
          refine WJ.quiet ?_
          refine QJ.step (YldS.yld (y_move rfl)) rfl ?_
          refine QJ.step (YldS.yld (y_assign rfl)) rfl ?_
          refine QJ.done ?_
          refine PJ.next ?_
          refine WJ.seq ?_
          refine WJ.seq ?_
          refine WJ.quiet ?_
          refine QJ.step (YldS.yld (y_move rfl)) rfl ?_
          refine QJ.step (YldS.yld (y_move rfl)) rfl ?_
          obtain ⟨c20, h21, hm⟩ := bindS hm
          refine QJ.step (YldS.yld (y_idxStr Try.runUnderlying9 rfl rfl h21)) rfl ?_
          refine QJ.step (YldS.yld (y_bin8 c20 (32 : UInt8) rfl rfl rfl)) rfl ?_
          refine QJ.done ?_
          refine PJ.next ?_
          refine WJ.cond (t := (c20 == (32 : UInt8))) rfl (fun hb22 => ?_) (fun hb22 => ?_)
          · replace hm := ifT hm hb22
            refine WJ.seq ?_
            refine WJ.reg ?_
            refine SJ.q (YldS.yld (y_move rfl)) rfl ?_
            refine SJ.buildSlice (R := fI64) (os := [.const (.int .i64 0)]) [0] Try.runUnderlying66 Try.sizeOf2 Try.zeroValue2 rfl rfl rfl rfl rfl rfl fun v23 => ?_
            obtain ⟨l24, h25, hm⟩ := bindS hm
            refine SJ.append (k := 1) (R := fI64) h25 rfl Try.underlying66 el2 rfl rfl rfl (fun w hw => (hw.row_rd (k := 0) rfl)) rfl fun v26 => ?_
            refine SJ.q (YldS.yld (y_assign rfl)) rfl ?_
            refine SJ.nil ?_
            refine PJ.next ?_
            refine WJ.exit ?_
            refine PJ.then_exit (PJ.block_exit ?_)
            exact PJ.joined (l24, v26, done12) [1, 2] hm ⟨rfl, rfl, rfl, rfl, rfl, rfl, trivial⟩ ⟨by decide, rfl⟩
          · replace hm := ifF hm hb22
            refine WJ.skip ?_
            refine PJ.next ?_
            refine WJ.seq ?_
            refine WJ.reg ?_
            refine SJ.q (YldS.yld (y_move rfl)) rfl ?_
            refine SJ.q (YldS.yld (y_loadBN (k := 1) (off := 0) (us := [.int .i64 r1.spots, .int .i64 r1.ink, .int .i64 r1.takes]) rfl Try.isAgg59 Try.sizeOf59 rfl rfl)) rfl ?_
            refine SJ.q (YldS.yld (y_move rfl)) rfl ?_
            obtain ⟨r27, h28, hm⟩ := bindS hm
            refine SJ.q (y_call Try.call140 rfl (RetG.quiet fun w hw => ok_i_Ribbon_shade h28 w )) rfl ?_
            refine SJ.buildSlice (R := fI64) (os := [.tmp 25]) [r27] Try.runUnderlying66 Try.sizeOf2 Try.zeroValue2 rfl rfl rfl rfl rfl rfl fun v29 => ?_
            obtain ⟨l30, h31, hm⟩ := bindS hm
            refine SJ.append (k := 1) (R := fI64) h31 rfl Try.underlying66 el2 rfl rfl rfl (fun w hw => (hw.row_rd (k := 0) rfl)) rfl fun v32 => ?_
            refine SJ.q (YldS.yld (y_assign rfl)) rfl ?_
            refine SJ.nil ?_
            refine PJ.next ?_
            refine WJ.quiet ?_
            refine QJ.step (YldS.yld (y_move rfl)) rfl ?_
            refine QJ.step (YldS.yld (y_bin rfl rfl rfl)) rfl ?_
            refine QJ.step (YldS.yld (y_assign rfl)) rfl ?_
            refine QJ.done ?_
            refine PJ.block_normal ?_
            exact PJ.joined (l30, v32, w64 (done12 + 1)) [1, 2] hm ⟨rfl, rfl, rfl, rfl, rfl, rfl, trivial⟩ ⟨by decide, rfl⟩
        · rintro ⟨l15, v16, done17⟩ hm
          subst hk19
          refine WJ.quiet ?_
          refine QJ.step (YldS.yld (y_bin rfl rfl rfl)) rfl ?_
          refine QJ.step (YldS.yld (y_move rfl)) rfl ?_
          refine QJ.done ?_
          exact PJ.round (l15, v16, done17, w64 (x13 + 1)) [0, 1] hm ⟨rfl, rfl, rfl, rfl, rfl, rfl, trivial⟩ ⟨by decide, rfl⟩
      · replace hm := ifF hm hb14
        refine WJ.exit ?_
        refine PJ.then_exit (PJ.then_exit (PJ.block_exit ?_))
        exact PJ.joined (l10, v11) [0] hm ⟨rfl, trivial⟩ ⟨by decide, rfl⟩
  · rintro ⟨l6, v7⟩ hm
    subst hk9
    refine WJ.seq ?_
    refine WJ.quiet ?_
    refine QJ.step (YldS.yld (y_move rfl)) rfl ?_
    refine QJ.step (YldS.yld (y_assign rfl)) rfl ?_
    refine QJ.done ?_
    refine PJ.next ?_
    refine WJ.ret ?_
    obtain rfl := Option.some.inj hm
    refine PJ.sel (L' := [row v7 2 fI64 l6]) [0] ⟨by decide, rfl⟩ ?_
    exact PJ.retn (vs := [v7]) Try.results130 ⟨rfl, trivial⟩ ⟨_, rfl, rfl⟩

set_option maxRecDepth 100000 in
set_option maxHeartbeats 1000000 in
theorem ok_i_PalestLetter {N : Nat} {r1 : Ribbon} {done2 : Int} {text3 : Str} {least4 : Int} {r : Int × Int} (hm : i_PalestLetter N r1 done2 text3 least4 = some r) (w : World)  :
    Calls Try.prog 38 #[.agg (Ribbon.enc r1).toArray, .int .i64 done2, str text3, .int .i64 least4] w (Ret (cx w) (tup [.int .i64 r.1, .int .i64 r.2])) := by
  unfold i_PalestLetter at hm
  refine Calls.enter [.agg (Ribbon.enc r1).toArray, .int .i64 done2, str text3, .int .i64 least4] Try.func38 rfl Try.ntmps38 rfl ?_
  refine WJ.seq ?_
  refine WJ.reg ?_
  refine SJ.box (cs := [.int .i64 r1.spots, .int .i64 r1.ink, .int .i64 r1.takes]) rfl rfl rfl fun g5 => ?_
  refine SJ.q (YldS.yld (y_assign rfl)) rfl ?_
  refine SJ.q (YldS.yld (y_assign rfl)) rfl ?_
  refine SJ.nil ?_
  refine PJ.next ?_
  refine WJ.seq ?_
  refine WJ.seq ?_
  refine WJ.quiet ?_
  refine QJ.step (YldS.yld (y_loadBN (k := 0) (off := 0) (us := [.int .i64 r1.spots, .int .i64 r1.ink, .int .i64 r1.takes]) rfl Try.isAgg59 Try.sizeOf59 rfl rfl)) rfl ?_
  refine QJ.step (YldS.yld (y_move rfl)) rfl ?_
  refine QJ.step (YldS.yld (y_move rfl)) rfl ?_
  obtain ⟨r6, h7, hm⟩ := bindS hm
  refine QJ.step (y_call Try.call129 rfl (RetG.quiet fun w hw => ok_i_shadesCode h7 w )) rfl ?_
  refine QJ.step (YldS.yld (y_assign rfl)) rfl ?_
  refine QJ.done ?_
  refine PJ.next ?_
  refine WJ.seq ?_
  refine WJ.quiet ?_
  refine QJ.step (YldS.yld (y_move rfl)) rfl ?_
  refine QJ.step (YldS.yld (y_bin rfl rfl rfl)) rfl ?_
  refine QJ.done ?_
  refine PJ.next ?_
  refine WJ.cond (t := (r6 != 0)) rfl (fun hb8 => ?_) (fun hb8 => ?_)
  · replace hm := ifT hm hb8
    refine WJ.seq ?_
    refine WJ.quiet ?_
    refine QJ.step (YldS.yld (y_move rfl)) rfl ?_
    refine QJ.step (YldS.yld (y_assign rfl)) rfl ?_
    refine QJ.step (YldS.yld (y_assign rfl)) rfl ?_
    refine QJ.done ?_
    refine PJ.next ?_
    refine WJ.ret ?_
    refine PJ.then_ret ?_
    obtain rfl := Option.some.inj hm
    refine PJ.sel (L' := []) [] ⟨List.nodup_nil, rfl⟩ ?_
    exact PJ.retn (vs := [.int .i64 0, .int .i64 r6]) Try.results38 ⟨rfl, rfl, trivial⟩ ⟨rfl, rfl⟩
  · replace hm := ifF hm hb8
    refine WJ.skip ?_
    refine PJ.next ?_
    refine WJ.seq ?_
    refine WJ.seq ?_
    refine WJ.quiet ?_
    refine QJ.step (YldS.yld (y_move rfl)) rfl ?_
    refine QJ.step (YldS.yld (y_fldB (o := 0) fld59_1 rfl)) rfl ?_
    refine QJ.step (YldS.yld (y_loadB (k := 0) (off := 1) (v := .int .i64 r1.ink) rfl Try.isAgg2 rfl rfl)) rfl ?_
    obtain ⟨r9, h10, hm⟩ := bindS hm
    refine QJ.step (y_call Try.call107 rfl (RetG.quiet fun w hw => ok_i_between h10 w )) rfl ?_
    refine QJ.step (YldS.yld (y_not rfl)) rfl ?_
    refine QJ.done ?_
    refine PJ.next ?_
    refine WJ.cond (t := !r9) rfl (fun hb11 => ?_) (fun hb11 => ?_)
    · replace hm := ifT hm hb11
      refine WJ.seq ?_
      refine WJ.quiet ?_
      refine QJ.step (YldS.yld (y_assign rfl)) rfl ?_
      refine QJ.step (YldS.yld (y_assign rfl)) rfl ?_
      refine QJ.done ?_
      refine PJ.next ?_
      refine WJ.ret ?_
      refine PJ.then_ret ?_
      obtain rfl := Option.some.inj hm
      refine PJ.sel (L' := []) [] ⟨List.nodup_nil, rfl⟩ ?_
      exact PJ.retn (vs := [.int .i64 0, .int .i64 2]) Try.results38 ⟨rfl, rfl, trivial⟩ ⟨rfl, rfl⟩
    · replace hm := ifF hm hb11
      refine WJ.skip ?_
      refine PJ.next ?_
      obtain ⟨kj12, hk13, hm⟩ := withK_open hm
      refine WJ.join (X := Unit) (fun (_ : Unit) => kj12  = some r) (fun (_ : Unit) => []) (fun (_ : Unit) => []) ?_ ?_
      · clear hk13
        refine WJ.seq ?_
        refine WJ.reg ?_
        refine SJ.q (YldS.yld (y_loadBN (k := 0) (off := 0) (us := [.int .i64 r1.spots, .int .i64 r1.ink, .int .i64 r1.takes]) rfl Try.isAgg59 Try.sizeOf59 rfl rfl)) rfl ?_
        refine SJ.q (YldS.yld (y_move rfl)) rfl ?_
        refine SJ.q (YldS.yld (y_move rfl)) rfl ?_
        obtain ⟨r14, h15, hm⟩ := bindS hm
        refine SJ.call Try.call130 rfl (fun w hw => ok_i_Ribbon_shades h15 w ) rfl ?_
        rintro v16 _ ⟨_, rfl, rfl⟩
        refine SJ.q (YldS.yld (y_lenRow (k := 0) rfl Try.runUnderlying66 rfl)) rfl ?_
        refine SJ.q (YldS.yld (y_move rfl)) rfl ?_
        refine SJ.nil ?_
        refine PJ.next ?_
        refine WJ.block ?_
        refine WJ.sel (L' := (fun (x : Int) => [row v16 2 fI64 r14]) 0) [0] ⟨by decide, rfl⟩ ?_
        refine WJ.sub (m' := (fun (x : Int) => [(2, str text3), (3, .int .i64 least4), (28, v16), (29, .int .i64 (List.length r14 : Int)), (30, .int .i64 x)]) 0) ⟨rfl, rfl, rfl, rfl, rfl, trivial⟩ ?_
        refine WJ.loop (X := Int) (fun N (x : Int) => i_PalestLetter_l1 kj12 text3 least4 r14 N x = some r) (fun (x : Int) => [(2, str text3), (3, .int .i64 least4), (28, v16), (29, .int .i64 (List.length r14 : Int)), (30, .int .i64 x)]) (fun (x : Int) => [row v16 2 fI64 r14]) ?_ N 0 hm
        · rintro N x17 hI
          have hm := hI; clear hI
          cases N with
          | zero => cases hm
          | succ N =>
          unfold i_PalestLetter_l1 at hm
          refine WJ.seq ?_
          refine WJ.quiet ?_
          refine QJ.step (YldS.yld (y_bin rfl rfl rfl)) rfl ?_
          refine QJ.done ?_
          refine PJ.next ?_
          refine WJ.seq ?_
          refine WJ.cond (t := decide (x17 < (List.length r14 : Int))) rfl (fun hb18 => ?_) (fun hb18 => ?_)
          · replace hm := ifT hm hb18
            refine WJ.skip ?_
            refine PJ.next ?_
            refine WJ.seq ?_
            refine WJ.block ?_
            refine WJ.seq ?_
            refine WJ.quiet ?_
            refine QJ.step (YldS.yld (y_move rfl)) rfl ?_
            obtain ⟨e19, h20, hm⟩ := bindS hm
            refine QJ.step (YldS.yld (y_ixRow (k := 0) (R := fI64) rfl Try.runUnderlying66 Try.sizeOf2 rfl rfl h20)) rfl ?_
            refine QJ.step (YldS.yld (y_loadR (k := 0) (i := (Int.toNat x17)) (off := 0) (u := .int .i64 e19) rfl Try.isAgg2 rfl (idx_get h20) rfl)) rfl ?_
            refine QJ.step (YldS.yld (y_assign rfl)) rfl ?_
            refine QJ.step (YldS.yld (y_assign rfl)) rfl ?_
            refine QJ.done ?_
            refine PJ.next ?_
            refine WJ.seq ?_
            refine WJ.quiet ?_
            refine QJ.step (YldS.yld (y_move rfl)) rfl ?_
            refine QJ.step (YldS.yld (y_move rfl)) rfl ?_
            obtain ⟨c21, h22, hm⟩ := bindS hm
            refine QJ.step (YldS.yld (y_idxStr Try.runUnderlying9 rfl rfl h22)) rfl ?_
            refine QJ.step (YldS.yld (y_bin8 c21 (32 : UInt8) rfl rfl rfl)) rfl ?_
            refine QJ.step (YldS.yld (y_move rfl)) rfl ?_
            obtain ⟨t23, h24, hm⟩ := bindS hm
            refine QJ.cut 4 [(2, str text3), (3, .int .i64 least4), (11, .int .i64 x17), (28, v16), (29, .int .i64 (List.length r14 : Int)), (30, .int .i64 x17), (43, .bool t23)] ?_ ?_
            · rcases Bool.eq_false_or_eq_true (c21 != (32 : UInt8)) with hb25 | hb25
              · replace h24 := andT h24 hb25
                refine QJ.on rfl rfl (cB hb25) (YldS.yld (y_move rfl)) rfl ?_
                refine QJ.on rfl rfl (cB hb25) (YldS.yld (y_move rfl)) rfl ?_
                refine QJ.on rfl rfl (cB hb25) (YldS.yld (y_bin rfl rfl rfl)) rfl ?_
                refine QJ.step (YldS.yld (y_pick_t (cB hb25) rfl)) rfl ?_
                obtain rfl := Option.some.inj h24
                exact QJ.cut_end ⟨rfl, rfl, rfl, rfl, rfl, rfl, rfl, trivial⟩
              · obtain rfl := andF h24 hb25
                refine QJ.off rfl rfl (cB hb25) rfl rfl ?_
                refine QJ.off rfl rfl (cB hb25) rfl rfl ?_
                refine QJ.off rfl rfl (cB hb25) rfl rfl ?_
                refine QJ.step (YldS.yld (y_pick_f (cB hb25) rfl)) rfl ?_
                exact QJ.cut_end ⟨rfl, rfl, rfl, rfl, rfl, rfl, rfl, trivial⟩
            refine QJ.done ?_
            refine PJ.next ?_
            refine WJ.cond (t := t23) rfl (fun hb26 => ?_) (fun hb26 => ?_)
            · replace hm := ifT hm hb26
              refine WJ.seq ?_
              refine WJ.quiet ?_
              refine QJ.step (YldS.yld (y_move rfl)) rfl ?_
              refine QJ.step (YldS.yld (y_assign rfl)) rfl ?_
              refine QJ.step (YldS.yld (y_assign rfl)) rfl ?_
              refine QJ.done ?_
              refine PJ.next ?_
              refine WJ.ret ?_
              refine PJ.block_ret (PJ.then_ret (PJ.then_ret (PJ.block_ret (PJ.then_ret ?_))))
              obtain rfl := Option.some.inj hm
              refine PJ.sel (L' := []) [] ⟨List.nodup_nil, rfl⟩ ?_
              exact PJ.retn (vs := [.int .i64 x17, .int .i64 0]) Try.results38 ⟨rfl, rfl, trivial⟩ ⟨rfl, rfl⟩
            · replace hm := ifF hm hb26
              refine WJ.skip ?_
              refine PJ.block_normal (PJ.next ?_)
              refine WJ.quiet ?_
              refine QJ.step (YldS.yld (y_bin rfl rfl rfl)) rfl ?_
              refine QJ.step (YldS.yld (y_move rfl)) rfl ?_
              refine QJ.done ?_
              exact PJ.round (w64 (x17 + 1)) [0] hm ⟨rfl, rfl, rfl, rfl, rfl, trivial⟩ ⟨by decide, rfl⟩
          · replace hm := ifF hm hb18
            refine WJ.exit ?_
            refine PJ.then_exit (PJ.then_exit (PJ.block_exit ?_))
            exact PJ.joined () [] hm trivial ⟨List.nodup_nil, rfl⟩
      · rintro _ hm
        subst hk13
        refine WJ.seq ?_
        refine WJ.quiet ?_
        refine QJ.step (YldS.yld (y_assign rfl)) rfl ?_
        refine QJ.step (YldS.yld (y_assign rfl)) rfl ?_
        refine QJ.done ?_
        refine PJ.next ?_
        refine WJ.ret ?_
        obtain rfl := Option.some.inj hm
        refine PJ.sel (L' := []) [] ⟨List.nodup_nil, rfl⟩ ?_
        exact PJ.retn (vs := [.int .i64 0, .int .i64 3]) Try.results38 ⟨rfl, rfl, trivial⟩ ⟨rfl, rfl⟩

set_option maxRecDepth 100000 in
set_option maxHeartbeats 1000000 in
theorem ok_s_l14Code {r1 : Ribbon} {strokes2 : Int} {r : Int} (hm : s_l14Code r1 strokes2 = some r) (w : World)  :
    Calls Try.prog 139 #[.agg (Ribbon.enc r1).toArray, .int .i64 strokes2] w (Ret (cx w) (.int .i64 r)) := by
  unfold s_l14Code at hm
  refine Calls.enter [.agg (Ribbon.enc r1).toArray, .int .i64 strokes2] Try.func139 rfl Try.ntmps139 rfl ?_
  refine WJ.seq ?_
  refine WJ.reg ?_
  refine SJ.box (cs := [.int .i64 r1.spots, .int .i64 r1.ink, .int .i64 r1.takes]) rfl rfl rfl fun g3 => ?_
  refine SJ.q (YldS.yld (y_assign rfl)) rfl ?_
  refine SJ.nil ?_
  refine PJ.next ?_
  refine WJ.seq ?_
  refine WJ.seq ?_
  refine WJ.quiet ?_
  refine QJ.step (YldS.yld (y_loadBN (k := 0) (off := 0) (us := [.int .i64 r1.spots, .int .i64 r1.ink, .int .i64 r1.takes]) rfl Try.isAgg59 Try.sizeOf59 rfl rfl)) rfl ?_
  obtain ⟨r4, h5, hm⟩ := bindS hm
  refine QJ.step (y_call Try.call137 rfl (RetG.quiet fun w hw => ok_s_l14Ok h5 w )) rfl ?_
  refine QJ.step (YldS.yld (y_not rfl)) rfl ?_
  refine QJ.done ?_
  refine PJ.next ?_
  refine WJ.cond (t := !r4) rfl (fun hb6 => ?_) (fun hb6 => ?_)
  · replace hm := ifT hm hb6
    refine WJ.seq ?_
    refine WJ.quiet ?_
    refine QJ.step (YldS.yld (y_assign rfl)) rfl ?_
    refine QJ.done ?_
    refine PJ.next ?_
    refine WJ.ret ?_
    refine PJ.then_ret ?_
    obtain rfl := Option.some.inj hm
    refine PJ.sel (L' := []) [] ⟨List.nodup_nil, rfl⟩ ?_
    exact PJ.retn (vs := [.int .i64 1]) Try.results139 ⟨rfl, trivial⟩ ⟨rfl, rfl⟩
  · replace hm := ifF hm hb6
    refine WJ.skip ?_
    refine PJ.next ?_
    refine WJ.seq ?_
    refine WJ.seq ?_
    refine WJ.quiet ?_
    refine QJ.step (YldS.yld (y_move rfl)) rfl ?_
    obtain ⟨r7, h8, hm⟩ := bindS hm
    refine QJ.step (y_call Try.call110 rfl (RetG.quiet fun w hw => ok_s_l00In h8 w )) rfl ?_
    refine QJ.step (YldS.yld (y_not rfl)) rfl ?_
    refine QJ.done ?_
    refine PJ.next ?_
    refine WJ.cond (t := !r7) rfl (fun hb9 => ?_) (fun hb9 => ?_)
    · replace hm := ifT hm hb9
      refine WJ.seq ?_
      refine WJ.quiet ?_
      refine QJ.step (YldS.yld (y_assign rfl)) rfl ?_
      refine QJ.done ?_
      refine PJ.next ?_
      refine WJ.ret ?_
      refine PJ.then_ret ?_
      obtain rfl := Option.some.inj hm
      refine PJ.sel (L' := []) [] ⟨List.nodup_nil, rfl⟩ ?_
      exact PJ.retn (vs := [.int .i64 2]) Try.results139 ⟨rfl, trivial⟩ ⟨rfl, rfl⟩
    · replace hm := ifF hm hb9
      refine WJ.skip ?_
      refine PJ.next ?_
      refine WJ.seq ?_
      refine WJ.quiet ?_
      refine QJ.step (YldS.yld (y_assign rfl)) rfl ?_
      refine QJ.done ?_
      refine PJ.next ?_
      refine WJ.ret ?_
      obtain rfl := Option.some.inj hm
      refine PJ.sel (L' := []) [] ⟨List.nodup_nil, rfl⟩ ?_
      exact PJ.retn (vs := [.int .i64 0]) Try.results139 ⟨rfl, trivial⟩ ⟨rfl, rfl⟩

set_option maxRecDepth 100000 in
set_option maxHeartbeats 1000000 in
theorem ok_s_l00Text {N : Nat} {s1 : Str} {most2 : Int} {r : Bool} (hm : s_l00Text N s1 most2 = some r) (w : World)  :
    Calls Try.prog 189 #[str s1, .int .i64 most2] w (Ret (cx w) (.bool r)) := by
  unfold s_l00Text at hm
  refine Calls.enter [str s1, .int .i64 most2] Try.func189 rfl Try.ntmps189 rfl ?_
  refine WJ.seq ?_
  refine WJ.quiet ?_
  refine QJ.step (YldS.yld (y_assign rfl)) rfl ?_
  refine QJ.done ?_
  refine PJ.next ?_
  obtain ⟨kj3, hk4, hm⟩ := withK_open hm
  refine WJ.join (X := Unit) (fun (_ : Unit) => kj3  = some r) (fun (_ : Unit) => [(0, str s1), (1, .int .i64 most2)]) (fun (_ : Unit) => []) ?_ ?_
  · clear hk4
    refine WJ.seq ?_
    refine WJ.quiet ?_
    refine QJ.step (YldS.yld (y_assign rfl)) rfl ?_
    refine QJ.done ?_
    refine PJ.next ?_
    refine WJ.block ?_
    refine WJ.sel (L' := (fun (x : Int) => []) 0) [] ⟨List.nodup_nil, rfl⟩ ?_
    refine WJ.sub (m' := (fun (x : Int) => [(0, str s1), (1, .int .i64 most2), (5, .int .i64 x)]) 0) ⟨rfl, rfl, rfl, trivial⟩ ?_
    refine WJ.loop (X := Int) (fun N (x : Int) => s_l00Text_l1 kj3 s1 N x = some r) (fun (x : Int) => [(0, str s1), (1, .int .i64 most2), (5, .int .i64 x)]) (fun (x : Int) => []) ?_ N 0 hm
    · rintro N i5 hI
      have hm := hI; clear hI
      cases N with
      | zero => cases hm
      | succ N =>
      unfold s_l00Text_l1 at hm
      refine WJ.seq ?_
      refine WJ.seq ?_
      refine WJ.quiet ?_
      refine QJ.step (YldS.yld (y_move rfl)) rfl ?_
      refine QJ.step (YldS.yld (y_move rfl)) rfl ?_
      refine QJ.step (YldS.yld (y_lenStr Try.runUnderlying9 rfl)) rfl ?_
      refine QJ.step (YldS.yld (y_bin rfl rfl rfl)) rfl ?_
      refine QJ.done ?_
      refine PJ.next ?_
      refine WJ.cond (t := decide (i5 < (List.length s1 : Int))) rfl (fun hb6 => ?_) (fun hb6 => ?_)
      · replace hm := ifT hm hb6
        refine WJ.skip ?_
        refine PJ.next ?_
        refine WJ.seq ?_
        refine WJ.block ?_
        refine WJ.seq ?_
        refine WJ.quiet ?_
        refine QJ.step (YldS.yld (y_move rfl)) rfl ?_
        refine QJ.step (YldS.yld (y_move rfl)) rfl ?_
        obtain ⟨c7, h8, hm⟩ := bindS hm
        refine QJ.step (YldS.yld (y_idxStr Try.runUnderlying9 rfl rfl h8)) rfl ?_
        refine QJ.step (YldS.yld (y_bin8 c7 (32 : UInt8) rfl rfl rfl)) rfl ?_
        refine QJ.step (YldS.yld (y_move rfl)) rfl ?_
        obtain ⟨t9, h10, hm⟩ := bindS hm
        refine QJ.cut 5 [(0, str s1), (1, .int .i64 most2), (5, .int .i64 i5), (21, .bool t9)] ?_ ?_
        · rcases Bool.eq_false_or_eq_true (decide (c7 < (32 : UInt8))) with hb11 | hb11
          · obtain rfl := orT h10 hb11
            refine QJ.off rfl rfl (cB hb11) rfl rfl ?_
            refine QJ.off rfl rfl (cB hb11) rfl rfl ?_
            refine QJ.off rfl rfl (cB hb11) rfl rfl ?_
            refine QJ.off rfl rfl (cB hb11) rfl rfl ?_
            refine QJ.step (YldS.yld (y_pick_t (cB hb11) rfl)) rfl ?_
            exact QJ.cut_end ⟨rfl, rfl, rfl, rfl, trivial⟩
          · replace h10 := orF h10 hb11
            refine QJ.on rfl rfl (cB hb11) (YldS.yld (y_move rfl)) rfl ?_
            refine QJ.on rfl rfl (cB hb11) (YldS.yld (y_move rfl)) rfl ?_
            obtain ⟨c12, h13, h10⟩ := bindS h10
            refine QJ.on rfl rfl (cB hb11) (YldS.yld (y_idxStr Try.runUnderlying9 rfl rfl h13)) rfl ?_
            refine QJ.on rfl rfl (cB hb11) (YldS.yld (y_bin8 c12 (126 : UInt8) rfl rfl rfl)) rfl ?_
            refine QJ.step (YldS.yld (y_pick_f (cB hb11) rfl)) rfl ?_
            obtain rfl := Option.some.inj h10
            exact QJ.cut_end ⟨rfl, rfl, rfl, rfl, trivial⟩
        refine QJ.done ?_
        refine PJ.next ?_
        refine WJ.cond (t := t9) rfl (fun hb14 => ?_) (fun hb14 => ?_)
        · replace hm := ifT hm hb14
          refine WJ.seq ?_
          refine WJ.quiet ?_
          refine QJ.step (YldS.yld (y_assign rfl)) rfl ?_
          refine QJ.done ?_
          refine PJ.next ?_
          refine WJ.ret ?_
          refine PJ.block_ret (PJ.then_ret (PJ.then_ret (PJ.block_ret (PJ.then_ret ?_))))
          obtain rfl := Option.some.inj hm
          refine PJ.sel (L' := []) [] ⟨List.nodup_nil, rfl⟩ ?_
          exact PJ.retn (vs := [.bool false]) Try.results189 ⟨rfl, trivial⟩ ⟨rfl, rfl⟩
        · replace hm := ifF hm hb14
          refine WJ.skip ?_
          refine PJ.block_normal (PJ.next ?_)
          refine WJ.quiet ?_
          refine QJ.step (YldS.yld (y_move rfl)) rfl ?_
          refine QJ.step (YldS.yld (y_bin rfl rfl rfl)) rfl ?_
          refine QJ.step (YldS.yld (y_assign rfl)) rfl ?_
          refine QJ.done ?_
          exact PJ.round (w64 (i5 + 1)) [] hm ⟨rfl, rfl, rfl, trivial⟩ ⟨List.nodup_nil, rfl⟩
      · replace hm := ifF hm hb6
        refine WJ.exit ?_
        refine PJ.then_exit (PJ.then_exit (PJ.block_exit ?_))
        exact PJ.joined () [] hm ⟨rfl, rfl, trivial⟩ ⟨List.nodup_nil, rfl⟩
  · rintro _ hm
    subst hk4
    refine WJ.seq ?_
    refine WJ.quiet ?_
    refine QJ.step (YldS.yld (y_move rfl)) rfl ?_
    refine QJ.step (YldS.yld (y_lenStr Try.runUnderlying9 rfl)) rfl ?_
    refine QJ.step (YldS.yld (y_move rfl)) rfl ?_
    refine QJ.step (YldS.yld (y_bin rfl rfl rfl)) rfl ?_
    refine QJ.step (YldS.yld (y_assign rfl)) rfl ?_
    refine QJ.done ?_
    refine PJ.next ?_
    refine WJ.ret ?_
    obtain rfl := Option.some.inj hm
    refine PJ.sel (L' := []) [] ⟨List.nodup_nil, rfl⟩ ?_
    exact PJ.retn (vs := [.bool (decide ((List.length s1 : Int) ≤ most2))]) Try.results189 ⟨rfl, trivial⟩ ⟨rfl, rfl⟩

set_option maxRecDepth 100000 in
set_option maxHeartbeats 1000000 in
theorem ok_s_l14Text {N : Nat} {r1 : Ribbon} {done2 : Int} {text3 : Str} {r : Int} (hm : s_l14Text N r1 done2 text3 = some r) (w : World)  :
    Calls Try.prog 131 #[.agg (Ribbon.enc r1).toArray, .int .i64 done2, str text3] w (Ret (cx w) (.int .i64 r)) := by
  unfold s_l14Text at hm
  refine Calls.enter [.agg (Ribbon.enc r1).toArray, .int .i64 done2, str text3] Try.func131 rfl Try.ntmps131 rfl ?_
  refine WJ.seq ?_
  refine WJ.reg ?_
  refine SJ.box (cs := [.int .i64 r1.spots, .int .i64 r1.ink, .int .i64 r1.takes]) rfl rfl rfl fun g4 => ?_
  refine SJ.q (YldS.yld (y_assign rfl)) rfl ?_
  refine SJ.nil ?_
  refine PJ.next ?_
  refine WJ.seq ?_
  refine WJ.quiet ?_
  refine QJ.step (YldS.yld (y_loadBN (k := 0) (off := 0) (us := [.int .i64 r1.spots, .int .i64 r1.ink, .int .i64 r1.takes]) rfl Try.isAgg59 Try.sizeOf59 rfl rfl)) rfl ?_
  refine QJ.step (YldS.yld (y_move rfl)) rfl ?_
  obtain ⟨r5, h6, hm⟩ := bindS hm
  refine QJ.step (y_call Try.call139 rfl (RetG.quiet fun w hw => ok_s_l14Code h6 w )) rfl ?_
  refine QJ.step (YldS.yld (y_assign rfl)) rfl ?_
  refine QJ.done ?_
  refine PJ.next ?_
  obtain ⟨kj8, hk9, hm⟩ := withK_open hm
  refine WJ.join (X := Int) (fun (x : Int) => kj8 x = some r) (fun (x : Int) => [(7, .int .i64 x)]) (fun (x : Int) => []) ?_ ?_
  · clear hk9
    refine WJ.seq ?_
    refine WJ.quiet ?_
    refine QJ.step (YldS.yld (y_move rfl)) rfl ?_
    refine QJ.step (YldS.yld (y_bin rfl rfl rfl)) rfl ?_
    refine QJ.step (YldS.yld (y_move rfl)) rfl ?_
    obtain ⟨t10, h11, hm⟩ := bindS hm
    refine QJ.cut 4 [(7, .int .i64 r5), (17, .bool t10)] ?_ ?_
    · rcases Bool.eq_false_or_eq_true (r5 == 0) with hb12 | hb12
      · replace h11 := andT h11 hb12
        refine QJ.on rfl rfl (cB hb12) (YldS.yld (y_move rfl)) rfl ?_
        obtain ⟨r13, h14, h11⟩ := bindS h11
        refine QJ.on rfl rfl (cB hb12) (y_call Try.call189 rfl (RetG.quiet fun w hw => ok_s_l00Text h14 w )) rfl ?_
        refine QJ.on rfl rfl (cB hb12) (YldS.yld (y_not rfl)) rfl ?_
        refine QJ.step (YldS.yld (y_pick_t (cB hb12) rfl)) rfl ?_
        obtain rfl := Option.some.inj h11
        exact QJ.cut_end ⟨rfl, rfl, trivial⟩
      · obtain rfl := andF h11 hb12
        refine QJ.off rfl rfl (cB hb12) rfl rfl ?_
        refine QJ.off rfl rfl (cB hb12) rfl rfl ?_
        refine QJ.off rfl rfl (cB hb12) rfl rfl ?_
        refine QJ.step (YldS.yld (y_pick_f (cB hb12) rfl)) rfl ?_
        exact QJ.cut_end ⟨rfl, rfl, trivial⟩
    refine QJ.done ?_
    refine PJ.next ?_
    refine WJ.cond (t := t10) rfl (fun hb15 => ?_) (fun hb15 => ?_)
    · replace hm := ifT hm hb15
      refine WJ.quiet ?_
      refine QJ.step (YldS.yld (y_assign rfl)) rfl ?_
      refine QJ.done ?_
      exact PJ.joined 2 [] hm ⟨rfl, trivial⟩ ⟨List.nodup_nil, rfl⟩
    · replace hm := ifF hm hb15
      refine WJ.skip ?_
      exact PJ.joined r5 [] hm ⟨rfl, trivial⟩ ⟨List.nodup_nil, rfl⟩
  · rintro code7 hm
    subst hk9
    refine WJ.seq ?_
    refine WJ.quiet ?_
    refine QJ.step (YldS.yld (y_move rfl)) rfl ?_
    refine QJ.step (YldS.yld (y_assign rfl)) rfl ?_
    refine QJ.done ?_
    refine PJ.next ?_
    refine WJ.ret ?_
    obtain rfl := Option.some.inj hm
    refine PJ.sel (L' := []) [] ⟨List.nodup_nil, rfl⟩ ?_
    exact PJ.retn (vs := [.int .i64 code7]) Try.results131 ⟨rfl, trivial⟩ ⟨rfl, rfl⟩

set_option maxRecDepth 100000 in
set_option maxHeartbeats 1000000 in
theorem ok_s_l14Before {N : Nat} {r1 : Ribbon} {strokes2 : Int} {spot3 : Int} {r : Int} (hm : s_l14Before N r1 strokes2 spot3 = some r) (w : World)  :
    Calls Try.prog 218 #[.agg (Ribbon.enc r1).toArray, .int .i64 strokes2, .int .i64 spot3] w (Ret (cx w) (.int .i64 r)) := by
  unfold s_l14Before at hm
  refine Calls.enter [.agg (Ribbon.enc r1).toArray, .int .i64 strokes2, .int .i64 spot3] Try.func218 rfl Try.ntmps218 rfl ?_
  refine WJ.seq ?_
  refine WJ.reg ?_
  refine SJ.box (cs := [.int .i64 r1.spots, .int .i64 r1.ink, .int .i64 r1.takes]) rfl rfl rfl fun g4 => ?_
  refine SJ.q (YldS.yld (y_assign rfl)) rfl ?_
  refine SJ.nil ?_
  refine PJ.next ?_
  refine WJ.seq ?_
  refine WJ.quiet ?_
  refine QJ.step (YldS.yld (y_fldB (o := 0) fld59_0 rfl)) rfl ?_
  refine QJ.step (YldS.yld (y_loadB (k := 0) (off := 0) (v := .int .i64 r1.spots) rfl Try.isAgg2 rfl rfl)) rfl ?_
  refine QJ.step (YldS.yld (y_bin rfl rfl rfl)) rfl ?_
  refine QJ.step (YldS.yld (y_bin rfl rfl rfl)) rfl ?_
  refine QJ.step (YldS.yld (y_assign rfl)) rfl ?_
  refine QJ.done ?_
  refine PJ.next ?_
  refine WJ.seq ?_
  refine WJ.quiet ?_
  refine QJ.step (YldS.yld (y_move rfl)) rfl ?_
  refine QJ.step (YldS.yld (y_move rfl)) rfl ?_
  obtain ⟨q5, h6, hm⟩ := bindS hm
  refine QJ.step (YldS.yld (y_quo' h6 rfl rfl)) rfl ?_
  refine QJ.step (YldS.yld (y_assign rfl)) rfl ?_
  refine QJ.done ?_
  refine PJ.next ?_
  refine WJ.seq ?_
  refine WJ.quiet ?_
  refine QJ.step (YldS.yld (y_move rfl)) rfl ?_
  refine QJ.step (YldS.yld (y_assign rfl)) rfl ?_
  refine QJ.done ?_
  refine PJ.next ?_
  obtain ⟨kj8, hk9, hm⟩ := withK_open hm
  refine WJ.join (X := Int) (fun (x : Int) => kj8 x = some r) (fun (x : Int) => [(1, .int .i64 strokes2), (2, .int .i64 spot3), (3, pt g4 0), (7, .int .i64 (w64 (2 * (w64 (r1.spots - 1))))), (8, .int .i64 q5), (9, .int .i64 x)]) (fun (x : Int) => [box g4 59 [.int .i64 r1.spots, .int .i64 r1.ink, .int .i64 r1.takes]]) ?_ ?_
  · clear hk9
    refine WJ.seq ?_
    refine WJ.quiet ?_
    refine QJ.step (YldS.yld (y_move rfl)) rfl ?_
    refine QJ.step (YldS.yld (y_bin rfl rfl rfl)) rfl ?_
    refine QJ.step (YldS.yld (y_move rfl)) rfl ?_
    obtain ⟨t10, h11, hm⟩ := bindS hm
    refine QJ.cut 6 [(1, .int .i64 strokes2), (2, .int .i64 spot3), (3, pt g4 0), (7, .int .i64 (w64 (2 * (w64 (r1.spots - 1))))), (8, .int .i64 q5), (9, .int .i64 q5), (27, .bool t10)] ?_ ?_
    · rcases Bool.eq_false_or_eq_true (decide (spot3 > 0)) with hb12 | hb12
      · replace h11 := andT h11 hb12
        refine QJ.on rfl rfl (cB hb12) (YldS.yld (y_move rfl)) rfl ?_
        refine QJ.on rfl rfl (cB hb12) (YldS.yld (y_fldB (o := 0) fld59_0 rfl)) rfl ?_
        refine QJ.on rfl rfl (cB hb12) (YldS.yld (y_loadB (k := 0) (off := 0) (v := .int .i64 r1.spots) rfl Try.isAgg2 rfl rfl)) rfl ?_
        refine QJ.on rfl rfl (cB hb12) (YldS.yld (y_bin rfl rfl rfl)) rfl ?_
        refine QJ.on rfl rfl (cB hb12) (YldS.yld (y_bin rfl rfl rfl)) rfl ?_
        refine QJ.step (YldS.yld (y_pick_t (cB hb12) rfl)) rfl ?_
        obtain rfl := Option.some.inj h11
        exact QJ.cut_end ⟨rfl, rfl, rfl, rfl, rfl, rfl, rfl, trivial⟩
      · obtain rfl := andF h11 hb12
        refine QJ.off rfl rfl (cB hb12) rfl rfl ?_
        refine QJ.off rfl rfl (cB hb12) rfl rfl ?_
        refine QJ.off rfl rfl (cB hb12) rfl rfl ?_
        refine QJ.off rfl rfl (cB hb12) rfl rfl ?_
        refine QJ.off rfl rfl (cB hb12) rfl rfl ?_
        refine QJ.step (YldS.yld (y_pick_f (cB hb12) rfl)) rfl ?_
        exact QJ.cut_end ⟨rfl, rfl, rfl, rfl, rfl, rfl, rfl, trivial⟩
    refine QJ.done ?_
    refine PJ.next ?_
    refine WJ.cond (t := t10) rfl (fun hb13 => ?_) (fun hb13 => ?_)
    · replace hm := ifT hm hb13
      refine WJ.quiet ?_
      refine QJ.step (YldS.yld (y_move rfl)) rfl ?_
      refine QJ.step (YldS.yld (y_bin rfl rfl rfl)) rfl ?_
      refine QJ.step (YldS.yld (y_assign rfl)) rfl ?_
      refine QJ.done ?_
      exact PJ.joined (w64 (2 * q5)) [0] hm ⟨rfl, rfl, rfl, rfl, rfl, rfl, trivial⟩ ⟨by decide, rfl⟩
    · replace hm := ifF hm hb13
      refine WJ.skip ?_
      exact PJ.joined q5 [0] hm ⟨rfl, rfl, rfl, rfl, rfl, rfl, trivial⟩ ⟨by decide, rfl⟩
  · rintro uses7 hm
    subst hk9
    obtain ⟨kj15, hk16, hm⟩ := withK_open hm
    refine WJ.join (X := Int) (fun (x : Int) => kj15 x = some r) (fun (x : Int) => [(9, .int .i64 x)]) (fun (x : Int) => []) ?_ ?_
    · clear hk16
      refine WJ.seq ?_
      refine WJ.quiet ?_
      refine QJ.step (YldS.yld (y_move rfl)) rfl ?_
      refine QJ.step (YldS.yld (y_move rfl)) rfl ?_
      refine QJ.step (YldS.yld (y_bin rfl rfl rfl)) rfl ?_
      refine QJ.step (YldS.yld (y_assign rfl)) rfl ?_
      refine QJ.done ?_
      refine PJ.next ?_
      refine WJ.block ?_
      refine WJ.sel (L' := (fun (x : Int × Int) => [box g4 59 [.int .i64 r1.spots, .int .i64 r1.ink, .int .i64 r1.takes]]) (uses7, w64 (q5 * (w64 (2 * (w64 (r1.spots - 1))))))) [0] ⟨by decide, rfl⟩ ?_
      refine WJ.sub (m' := (fun (x : Int × Int) => [(1, .int .i64 strokes2), (2, .int .i64 spot3), (3, pt g4 0), (9, .int .i64 x.1), (10, .int .i64 x.2)]) (uses7, w64 (q5 * (w64 (2 * (w64 (r1.spots - 1))))))) ⟨rfl, rfl, rfl, rfl, rfl, trivial⟩ ?_
      refine WJ.loop (X := Int × Int) (fun N (x : Int × Int) => s_l14Before_l1 kj15 r1 strokes2 spot3 N x.1 x.2 = some r) (fun (x : Int × Int) => [(1, .int .i64 strokes2), (2, .int .i64 spot3), (3, pt g4 0), (9, .int .i64 x.1), (10, .int .i64 x.2)]) (fun (x : Int × Int) => [box g4 59 [.int .i64 r1.spots, .int .i64 r1.ink, .int .i64 r1.takes]]) ?_ N (uses7, w64 (q5 * (w64 (2 * (w64 (r1.spots - 1)))))) hm
      · rintro N ⟨uses17, k18⟩ hI
        have hm := hI; clear hI
        cases N with
        | zero => cases hm
        | succ N =>
        unfold s_l14Before_l1 at hm
        refine WJ.seq ?_
        refine WJ.seq ?_
        refine WJ.quiet ?_
        refine QJ.step (YldS.yld (y_move rfl)) rfl ?_
        refine QJ.step (YldS.yld (y_move rfl)) rfl ?_
        refine QJ.step (YldS.yld (y_bin rfl rfl rfl)) rfl ?_
        refine QJ.done ?_
        refine PJ.next ?_
        refine WJ.cond (t := decide (k18 < strokes2)) rfl (fun hb19 => ?_) (fun hb19 => ?_)
        · replace hm := ifT hm hb19
          refine WJ.skip ?_
          refine PJ.next ?_
          obtain ⟨kj21, hk22, hm⟩ := withK_open hm
          refine WJ.join (X := Int) (fun (x : Int) => kj21 x = some r) (fun (x : Int) => [(1, .int .i64 strokes2), (2, .int .i64 spot3), (3, pt g4 0), (9, .int .i64 x), (10, .int .i64 k18)]) (fun (x : Int) => [box g4 59 [.int .i64 r1.spots, .int .i64 r1.ink, .int .i64 r1.takes]]) ?_ ?_
          · clear hk22
            refine WJ.block ?_
            refine WJ.seq ?_
            refine WJ.quiet ?_
            refine QJ.step (YldS.yld (y_loadBN (k := 0) (off := 0) (us := [.int .i64 r1.spots, .int .i64 r1.ink, .int .i64 r1.takes]) rfl Try.isAgg59 Try.sizeOf59 rfl rfl)) rfl ?_
            refine QJ.step (YldS.yld (y_move rfl)) rfl ?_
            obtain ⟨r23, h24, hm⟩ := bindS hm
            refine QJ.step (y_call Try.call187 rfl (RetG.quiet fun w hw => ok_s_l14Spot h24 w )) rfl ?_
            refine QJ.step (YldS.yld (y_move rfl)) rfl ?_
            refine QJ.step (YldS.yld (y_bin rfl rfl rfl)) rfl ?_
            refine QJ.done ?_
            refine PJ.next ?_
            refine WJ.cond (t := (r23 == spot3)) rfl (fun hb25 => ?_) (fun hb25 => ?_)
            · replace hm := ifT hm hb25
              refine WJ.quiet ?_
              refine QJ.step (YldS.yld (y_move rfl)) rfl ?_
              refine QJ.step (YldS.yld (y_bin rfl rfl rfl)) rfl ?_
              refine QJ.step (YldS.yld (y_assign rfl)) rfl ?_
              refine QJ.done ?_
              refine PJ.block_normal ?_
              exact PJ.joined (w64 (uses17 + 1)) [0] hm ⟨rfl, rfl, rfl, rfl, rfl, trivial⟩ ⟨by decide, rfl⟩
            · replace hm := ifF hm hb25
              refine WJ.skip ?_
              refine PJ.block_normal ?_
              exact PJ.joined uses17 [0] hm ⟨rfl, rfl, rfl, rfl, rfl, trivial⟩ ⟨by decide, rfl⟩
          · rintro uses20 hm
            subst hk22
            refine WJ.quiet ?_
            refine QJ.step (YldS.yld (y_move rfl)) rfl ?_
            refine QJ.step (YldS.yld (y_bin rfl rfl rfl)) rfl ?_
            refine QJ.step (YldS.yld (y_assign rfl)) rfl ?_
            refine QJ.done ?_
            exact PJ.round (uses20, w64 (k18 + 1)) [0] hm ⟨rfl, rfl, rfl, rfl, rfl, trivial⟩ ⟨by decide, rfl⟩
        · replace hm := ifF hm hb19
          refine WJ.exit ?_
          refine PJ.then_exit (PJ.then_exit (PJ.block_exit ?_))
          exact PJ.joined uses17 [] hm ⟨rfl, trivial⟩ ⟨List.nodup_nil, rfl⟩
    · rintro uses14 hm
      subst hk16
      refine WJ.seq ?_
      refine WJ.quiet ?_
      refine QJ.step (YldS.yld (y_move rfl)) rfl ?_
      refine QJ.step (YldS.yld (y_assign rfl)) rfl ?_
      refine QJ.done ?_
      refine PJ.next ?_
      refine WJ.ret ?_
      obtain rfl := Option.some.inj hm
      refine PJ.sel (L' := []) [] ⟨List.nodup_nil, rfl⟩ ?_
      exact PJ.retn (vs := [.int .i64 uses14]) Try.results218 ⟨rfl, trivial⟩ ⟨rfl, rfl⟩

set_option maxRecDepth 100000 in
set_option maxHeartbeats 1000000 in
theorem ok_s_l14Shade {N : Nat} {r1 : Ribbon} {stroke2 : Int} {r : Int} (hm : s_l14Shade N r1 stroke2 = some r) (w : World)  :
    Calls Try.prog 190 #[.agg (Ribbon.enc r1).toArray, .int .i64 stroke2] w (Ret (cx w) (.int .i64 r)) := by
  unfold s_l14Shade at hm
  refine Calls.enter [.agg (Ribbon.enc r1).toArray, .int .i64 stroke2] Try.func190 rfl Try.ntmps190 rfl ?_
  refine WJ.seq ?_
  refine WJ.reg ?_
  refine SJ.box (cs := [.int .i64 r1.spots, .int .i64 r1.ink, .int .i64 r1.takes]) rfl rfl rfl fun g3 => ?_
  refine SJ.q (YldS.yld (y_assign rfl)) rfl ?_
  refine SJ.nil ?_
  refine PJ.next ?_
  refine WJ.seq ?_
  refine WJ.quiet_draw follows (by kernel_rfl) ?_
  refine QJ.step (YldS.yld (y_fldB (o := 0) fld59_1 rfl)) rfl ?_
  refine QJ.step (YldS.yld (y_loadB (k := 0) (off := 1) (v := .int .i64 r1.ink) rfl Try.isAgg2 rfl rfl)) rfl ?_
  refine QJ.step (YldS.yld (y_fldB (o := 0) fld59_2 rfl)) rfl ?_
  refine QJ.step (YldS.yld (y_loadB (k := 0) (off := 2) (v := .int .i64 r1.takes) rfl Try.isAgg2 rfl rfl)) rfl ?_
  refine QJ.step (YldS.yld (y_loadBN (k := 0) (off := 0) (us := [.int .i64 r1.spots, .int .i64 r1.ink, .int .i64 r1.takes]) rfl Try.isAgg59 Try.sizeOf59 rfl rfl)) rfl ?_
  refine QJ.step (YldS.yld (y_move rfl)) rfl ?_
  refine QJ.step (YldS.yld (y_loadBN (k := 0) (off := 0) (us := [.int .i64 r1.spots, .int .i64 r1.ink, .int .i64 r1.takes]) rfl Try.isAgg59 Try.sizeOf59 rfl rfl)) rfl ?_
  refine QJ.step (YldS.yld (y_move rfl)) rfl ?_
  obtain ⟨r4, h5, hm⟩ := bindS hm
  refine QJ.step (y_call Try.call187 rfl (RetG.quiet fun w hw => ok_s_l14Spot h5 w )) rfl ?_
  obtain ⟨r6, h7, hm⟩ := bindS hm
  refine QJ.step (y_call Try.call218 rfl (RetG.quiet fun w hw => ok_s_l14Before h7 w )) rfl ?_
  refine QJ.step (YldS.yld (y_bin rfl rfl rfl)) rfl ?_
  refine QJ.step (YldS.yld (y_bin rfl rfl rfl)) rfl ?_
  obtain ⟨r8, h9, hm⟩ := bindS hm
  refine QJ.step (y_call Try.call188 rfl (RetG.quiet fun w hw => ok_s_l00Max h9 w )) rfl ?_
  refine QJ.step (YldS.yld (y_assign rfl)) rfl ?_
  refine QJ.done ?_
  refine PJ.next ?_
  refine WJ.ret ?_
  obtain rfl := Option.some.inj hm
  refine PJ.sel (L' := []) [] ⟨List.nodup_nil, rfl⟩ ?_
  exact PJ.retn (vs := [.int .i64 r8]) Try.results190 ⟨rfl, trivial⟩ ⟨rfl, rfl⟩

set_option maxRecDepth 100000 in
set_option maxHeartbeats 1000000 in
theorem ok_s_l14Shades {N : Nat} {r1 : Ribbon} {done2 : Int} {text3 : Str} {r : (List Int)} (hm : s_l14Shades N r1 done2 text3 = some r) (w : World)  :
    Calls Try.prog 132 #[.agg (Ribbon.enc r1).toArray, .int .i64 done2, str text3] w (RetG (cx w) fun u L => ∃ (u1 : Value), (u = u1 ∧ L = [row u1 2 fI64 r])) := by
  unfold s_l14Shades at hm
  refine Calls.enter [.agg (Ribbon.enc r1).toArray, .int .i64 done2, str text3] Try.func132 rfl Try.ntmps132 rfl ?_
  refine WJ.seq ?_
  refine WJ.reg ?_
  refine SJ.box (cs := [.int .i64 r1.spots, .int .i64 r1.ink, .int .i64 r1.takes]) rfl rfl rfl fun g4 => ?_
  refine SJ.q (YldS.yld (y_assign rfl)) rfl ?_
  refine SJ.nil ?_
  refine PJ.next ?_
  refine WJ.seq ?_
  refine WJ.reg ?_
  refine SJ.buildSlice (R := fI64) (os := []) [] Try.runUnderlying66 Try.sizeOf2 Try.zeroValue2 rfl rfl rfl rfl rfl rfl fun v5 => ?_
  refine SJ.q (YldS.yld (y_assign rfl)) rfl ?_
  refine SJ.nil ?_
  refine PJ.next ?_
  obtain ⟨kj8, hk9, hm⟩ := withK_open hm
  refine WJ.join (X := (List Int) × Value) (fun (x : (List Int) × Value) => kj8 x.1 = some r) (fun (x : (List Int) × Value) => [(7, x.2)]) (fun (x : (List Int) × Value) => [row x.2 2 fI64 x.1]) ?_ ?_
  · clear hk9
    refine WJ.seq ?_
    refine WJ.quiet ?_
    refine QJ.step (YldS.yld (y_assign rfl)) rfl ?_
    refine QJ.done ?_
    refine PJ.next ?_
    refine WJ.block ?_
    refine WJ.sel (L' := (fun (x : (List Int) × Value × Int × Int) => [row x.2.1 2 fI64 x.1, box g4 59 [.int .i64 r1.spots, .int .i64 r1.ink, .int .i64 r1.takes]]) ([], v5, done2, 0)) [0, 1] ⟨by decide, rfl⟩ ?_
    refine WJ.sub (m' := (fun (x : (List Int) × Value × Int × Int) => [(1, .int .i64 x.2.2.1), (2, str text3), (3, pt g4 0), (7, x.2.1), (8, .int .i64 x.2.2.2)]) ([], v5, done2, 0)) ⟨rfl, rfl, rfl, rfl, rfl, trivial⟩ ?_
    refine WJ.loop (X := (List Int) × Value × Int × Int) (fun N (x : (List Int) × Value × Int × Int) => s_l14Shades_l1 kj8 r1 text3 N x.1 x.2.2.1 x.2.2.2 = some r) (fun (x : (List Int) × Value × Int × Int) => [(1, .int .i64 x.2.2.1), (2, str text3), (3, pt g4 0), (7, x.2.1), (8, .int .i64 x.2.2.2)]) (fun (x : (List Int) × Value × Int × Int) => [row x.2.1 2 fI64 x.1, box g4 59 [.int .i64 r1.spots, .int .i64 r1.ink, .int .i64 r1.takes]]) ?_ N ([], v5, done2, 0) hm
    · rintro N ⟨l10, v11, done12, i13⟩ hI
      have hm := hI; clear hI
      cases N with
      | zero => cases hm
      | succ N =>
      unfold s_l14Shades_l1 at hm
      refine WJ.seq ?_
      refine WJ.seq ?_
      refine WJ.quiet ?_
      refine QJ.step (YldS.yld (y_move rfl)) rfl ?_
      refine QJ.step (YldS.yld (y_move rfl)) rfl ?_
      refine QJ.step (YldS.yld (y_lenStr Try.runUnderlying9 rfl)) rfl ?_
      refine QJ.step (YldS.yld (y_bin rfl rfl rfl)) rfl ?_
      refine QJ.done ?_
      refine PJ.next ?_
      refine WJ.cond (t := decide (i13 < (List.length text3 : Int))) rfl (fun hb14 => ?_) (fun hb14 => ?_)
      · replace hm := ifT hm hb14
        refine WJ.skip ?_
        refine PJ.next ?_
        obtain ⟨kj18, hk19, hm⟩ := withK_open hm
        refine WJ.join (X := (List Int) × Value × Int) (fun (x : (List Int) × Value × Int) => kj18 x.1 x.2.2 = some r) (fun (x : (List Int) × Value × Int) => [(1, .int .i64 x.2.2), (2, str text3), (3, pt g4 0), (7, x.2.1), (8, .int .i64 i13)]) (fun (x : (List Int) × Value × Int) => [row x.2.1 2 fI64 x.1, box g4 59 [.int .i64 r1.spots, .int .i64 r1.ink, .int .i64 r1.takes]]) ?_ ?_
        · clear hk19
          refine WJ.block ?_
          refine WJ.seq ?_
          refine WJ.seq ?_
          refine WJ.quiet ?_
          refine QJ.step (YldS.yld (y_move rfl)) rfl ?_
          refine QJ.step (YldS.yld (y_move rfl)) rfl ?_
          obtain ⟨c20, h21, hm⟩ := bindS hm
          refine QJ.step (YldS.yld (y_idxStr Try.runUnderlying9 rfl rfl h21)) rfl ?_
          refine QJ.step (YldS.yld (y_bin8 c20 (32 : UInt8) rfl rfl rfl)) rfl ?_
          refine QJ.done ?_
          refine PJ.next ?_
          refine WJ.cond (t := (c20 == (32 : UInt8))) rfl (fun hb22 => ?_) (fun hb22 => ?_)
          · replace hm := ifT hm hb22
            refine WJ.seq ?_
            refine WJ.reg ?_
            refine SJ.q (YldS.yld (y_move rfl)) rfl ?_
            refine SJ.buildSlice (R := fI64) (os := [.const (.int .i64 0)]) [0] Try.runUnderlying66 Try.sizeOf2 Try.zeroValue2 rfl rfl rfl rfl rfl rfl fun v23 => ?_
            obtain ⟨l24, h25, hm⟩ := bindS hm
            refine SJ.append (k := 1) (R := fI64) h25 rfl Try.underlying66 el2 rfl rfl rfl (fun w hw => (hw.row_rd (k := 0) rfl)) rfl fun v26 => ?_
            refine SJ.q (YldS.yld (y_assign rfl)) rfl ?_
            refine SJ.nil ?_
            refine PJ.next ?_
            refine WJ.exit ?_
            refine PJ.then_exit (PJ.block_exit ?_)
            exact PJ.joined (l24, v26, done12) [1, 2] hm ⟨rfl, rfl, rfl, rfl, rfl, trivial⟩ ⟨by decide, rfl⟩
          · replace hm := ifF hm hb22
            refine WJ.skip ?_
            refine PJ.next ?_
            refine WJ.seq ?_
            refine WJ.reg ?_
            refine SJ.q (YldS.yld (y_move rfl)) rfl ?_
            refine SJ.q (YldS.yld (y_loadBN (k := 1) (off := 0) (us := [.int .i64 r1.spots, .int .i64 r1.ink, .int .i64 r1.takes]) rfl Try.isAgg59 Try.sizeOf59 rfl rfl)) rfl ?_
            refine SJ.q (YldS.yld (y_move rfl)) rfl ?_
            obtain ⟨r27, h28, hm⟩ := bindS hm
            refine SJ.q (y_call Try.call190 rfl (RetG.quiet fun w hw => ok_s_l14Shade h28 w )) rfl ?_
            refine SJ.buildSlice (R := fI64) (os := [.tmp 26]) [r27] Try.runUnderlying66 Try.sizeOf2 Try.zeroValue2 rfl rfl rfl rfl rfl rfl fun v29 => ?_
            obtain ⟨l30, h31, hm⟩ := bindS hm
            refine SJ.append (k := 1) (R := fI64) h31 rfl Try.underlying66 el2 rfl rfl rfl (fun w hw => (hw.row_rd (k := 0) rfl)) rfl fun v32 => ?_
            refine SJ.q (YldS.yld (y_assign rfl)) rfl ?_
            refine SJ.nil ?_
            refine PJ.next ?_
            refine WJ.quiet ?_
            refine QJ.step (YldS.yld (y_move rfl)) rfl ?_
            refine QJ.step (YldS.yld (y_bin rfl rfl rfl)) rfl ?_
            refine QJ.step (YldS.yld (y_assign rfl)) rfl ?_
            refine QJ.done ?_
            refine PJ.block_normal ?_
            exact PJ.joined (l30, v32, w64 (done12 + 1)) [1, 2] hm ⟨rfl, rfl, rfl, rfl, rfl, trivial⟩ ⟨by decide, rfl⟩
        · rintro ⟨l15, v16, done17⟩ hm
          subst hk19
          refine WJ.quiet ?_
          refine QJ.step (YldS.yld (y_move rfl)) rfl ?_
          refine QJ.step (YldS.yld (y_bin rfl rfl rfl)) rfl ?_
          refine QJ.step (YldS.yld (y_assign rfl)) rfl ?_
          refine QJ.done ?_
          exact PJ.round (l15, v16, done17, w64 (i13 + 1)) [0, 1] hm ⟨rfl, rfl, rfl, rfl, rfl, trivial⟩ ⟨by decide, rfl⟩
      · replace hm := ifF hm hb14
        refine WJ.exit ?_
        refine PJ.then_exit (PJ.then_exit (PJ.block_exit ?_))
        exact PJ.joined (l10, v11) [0] hm ⟨rfl, trivial⟩ ⟨by decide, rfl⟩
  · rintro ⟨l6, v7⟩ hm
    subst hk9
    refine WJ.seq ?_
    refine WJ.quiet ?_
    refine QJ.step (YldS.yld (y_move rfl)) rfl ?_
    refine QJ.step (YldS.yld (y_assign rfl)) rfl ?_
    refine QJ.done ?_
    refine PJ.next ?_
    refine WJ.ret ?_
    obtain rfl := Option.some.inj hm
    refine PJ.sel (L' := [row v7 2 fI64 l6]) [0] ⟨by decide, rfl⟩ ?_
    exact PJ.retn (vs := [v7]) Try.results132 ⟨rfl, trivial⟩ ⟨_, rfl, rfl⟩

set_option maxRecDepth 100000 in
set_option maxHeartbeats 1000000 in
theorem ok_s_PalestLetter {N : Nat} {r1 : Ribbon} {done2 : Int} {text3 : Str} {least4 : Int} {r : Int × Int} (hm : s_PalestLetter N r1 done2 text3 least4 = some r) (w : World)  :
    Calls Try.prog 39 #[.agg (Ribbon.enc r1).toArray, .int .i64 done2, str text3, .int .i64 least4] w (Ret (cx w) (tup [.int .i64 r.1, .int .i64 r.2])) := by
  unfold s_PalestLetter at hm
  refine Calls.enter [.agg (Ribbon.enc r1).toArray, .int .i64 done2, str text3, .int .i64 least4] Try.func39 rfl Try.ntmps39 rfl ?_
  refine WJ.seq ?_
  refine WJ.reg ?_
  refine SJ.box (cs := [.int .i64 r1.spots, .int .i64 r1.ink, .int .i64 r1.takes]) rfl rfl rfl fun g5 => ?_
  refine SJ.q (YldS.yld (y_assign rfl)) rfl ?_
  refine SJ.q (YldS.yld (y_assign rfl)) rfl ?_
  refine SJ.nil ?_
  refine PJ.next ?_
  refine WJ.seq ?_
  refine WJ.quiet ?_
  refine QJ.step (YldS.yld (y_loadBN (k := 0) (off := 0) (us := [.int .i64 r1.spots, .int .i64 r1.ink, .int .i64 r1.takes]) rfl Try.isAgg59 Try.sizeOf59 rfl rfl)) rfl ?_
  refine QJ.step (YldS.yld (y_move rfl)) rfl ?_
  refine QJ.step (YldS.yld (y_move rfl)) rfl ?_
  obtain ⟨r6, h7, hm⟩ := bindS hm
  refine QJ.step (y_call Try.call131 rfl (RetG.quiet fun w hw => ok_s_l14Text h7 w )) rfl ?_
  refine QJ.step (YldS.yld (y_assign rfl)) rfl ?_
  refine QJ.done ?_
  refine PJ.next ?_
  obtain ⟨kj9, hk10, hm⟩ := withK_open hm
  refine WJ.join (X := Int) (fun (x : Int) => kj9 x = some r) (fun (x : Int) => [(1, .int .i64 done2), (2, str text3), (3, .int .i64 least4), (4, pt g5 0), (10, .int .i64 x)]) (fun (x : Int) => [box g5 59 [.int .i64 r1.spots, .int .i64 r1.ink, .int .i64 r1.takes]]) ?_ ?_
  · clear hk10
    refine WJ.seq ?_
    refine WJ.quiet ?_
    refine QJ.step (YldS.yld (y_move rfl)) rfl ?_
    refine QJ.step (YldS.yld (y_bin rfl rfl rfl)) rfl ?_
    refine QJ.step (YldS.yld (y_move rfl)) rfl ?_
    obtain ⟨t11, h12, hm⟩ := bindS hm
    refine QJ.cut 6 [(1, .int .i64 done2), (2, str text3), (3, .int .i64 least4), (4, pt g5 0), (10, .int .i64 r6), (25, .bool t11)] ?_ ?_
    · rcases Bool.eq_false_or_eq_true (r6 == 0) with hb13 | hb13
      · replace h12 := andT h12 hb13
        refine QJ.on rfl rfl (cB hb13) (YldS.yld (y_move rfl)) rfl ?_
        refine QJ.on rfl rfl (cB hb13) (YldS.yld (y_fldB (o := 0) fld59_1 rfl)) rfl ?_
        refine QJ.on rfl rfl (cB hb13) (YldS.yld (y_loadB (k := 0) (off := 1) (v := .int .i64 r1.ink) rfl Try.isAgg2 rfl rfl)) rfl ?_
        obtain ⟨r14, h15, h12⟩ := bindS h12
        refine QJ.on rfl rfl (cB hb13) (y_call Try.call110 rfl (RetG.quiet fun w hw => ok_s_l00In h15 w )) rfl ?_
        refine QJ.on rfl rfl (cB hb13) (YldS.yld (y_not rfl)) rfl ?_
        refine QJ.step (YldS.yld (y_pick_t (cB hb13) rfl)) rfl ?_
        obtain rfl := Option.some.inj h12
        exact QJ.cut_end ⟨rfl, rfl, rfl, rfl, rfl, rfl, trivial⟩
      · obtain rfl := andF h12 hb13
        refine QJ.off rfl rfl (cB hb13) rfl rfl ?_
        refine QJ.off rfl rfl (cB hb13) rfl rfl ?_
        refine QJ.off rfl rfl (cB hb13) rfl rfl ?_
        refine QJ.off rfl rfl (cB hb13) rfl rfl ?_
        refine QJ.off rfl rfl (cB hb13) rfl rfl ?_
        refine QJ.step (YldS.yld (y_pick_f (cB hb13) rfl)) rfl ?_
        exact QJ.cut_end ⟨rfl, rfl, rfl, rfl, rfl, rfl, trivial⟩
    refine QJ.done ?_
    refine PJ.next ?_
    refine WJ.cond (t := t11) rfl (fun hb16 => ?_) (fun hb16 => ?_)
    · replace hm := ifT hm hb16
      refine WJ.quiet ?_
      refine QJ.step (YldS.yld (y_assign rfl)) rfl ?_
      refine QJ.done ?_
      exact PJ.joined 2 [0] hm ⟨rfl, rfl, rfl, rfl, rfl, trivial⟩ ⟨by decide, rfl⟩
    · replace hm := ifF hm hb16
      refine WJ.skip ?_
      exact PJ.joined r6 [0] hm ⟨rfl, rfl, rfl, rfl, rfl, trivial⟩ ⟨by decide, rfl⟩
  · rintro code8 hm
    subst hk10
    refine WJ.seq ?_
    refine WJ.seq ?_
    refine WJ.quiet ?_
    refine QJ.step (YldS.yld (y_move rfl)) rfl ?_
    refine QJ.step (YldS.yld (y_bin rfl rfl rfl)) rfl ?_
    refine QJ.done ?_
    refine PJ.next ?_
    refine WJ.cond (t := (code8 != 0)) rfl (fun hb17 => ?_) (fun hb17 => ?_)
    · replace hm := ifT hm hb17
      refine WJ.seq ?_
      refine WJ.quiet ?_
      refine QJ.step (YldS.yld (y_move rfl)) rfl ?_
      refine QJ.step (YldS.yld (y_assign rfl)) rfl ?_
      refine QJ.step (YldS.yld (y_assign rfl)) rfl ?_
      refine QJ.done ?_
      refine PJ.next ?_
      refine WJ.ret ?_
      refine PJ.then_ret ?_
      obtain rfl := Option.some.inj hm
      refine PJ.sel (L' := []) [] ⟨List.nodup_nil, rfl⟩ ?_
      exact PJ.retn (vs := [.int .i64 0, .int .i64 code8]) Try.results39 ⟨rfl, rfl, trivial⟩ ⟨rfl, rfl⟩
    · replace hm := ifF hm hb17
      refine WJ.skip ?_
      refine PJ.next ?_
      refine WJ.seq ?_
      refine WJ.reg ?_
      refine SJ.q (YldS.yld (y_loadBN (k := 0) (off := 0) (us := [.int .i64 r1.spots, .int .i64 r1.ink, .int .i64 r1.takes]) rfl Try.isAgg59 Try.sizeOf59 rfl rfl)) rfl ?_
      refine SJ.q (YldS.yld (y_move rfl)) rfl ?_
      refine SJ.q (YldS.yld (y_move rfl)) rfl ?_
      obtain ⟨r18, h19, hm⟩ := bindS hm
      refine SJ.call Try.call132 rfl (fun w hw => ok_s_l14Shades h19 w ) rfl ?_
      rintro v20 _ ⟨_, rfl, rfl⟩
      refine SJ.q (YldS.yld (y_assign rfl)) rfl ?_
      refine SJ.nil ?_
      refine PJ.next ?_
      obtain ⟨kj21, hk22, hm⟩ := withK_open hm
      refine WJ.join (X := Unit) (fun (_ : Unit) => kj21  = some r) (fun (_ : Unit) => []) (fun (_ : Unit) => []) ?_ ?_
      · clear hk22
        refine WJ.seq ?_
        refine WJ.quiet ?_
        refine QJ.step (YldS.yld (y_assign rfl)) rfl ?_
        refine QJ.done ?_
        refine PJ.next ?_
        refine WJ.block ?_
        refine WJ.sel (L' := (fun (x : Int) => [row v20 2 fI64 r18]) 0) [0] ⟨by decide, rfl⟩ ?_
        refine WJ.sub (m' := (fun (x : Int) => [(2, str text3), (3, .int .i64 least4), (11, v20), (12, .int .i64 x)]) 0) ⟨rfl, rfl, rfl, rfl, trivial⟩ ?_
        refine WJ.loop (X := Int) (fun N (x : Int) => s_PalestLetter_l1 kj21 text3 least4 r18 N x = some r) (fun (x : Int) => [(2, str text3), (3, .int .i64 least4), (11, v20), (12, .int .i64 x)]) (fun (x : Int) => [row v20 2 fI64 r18]) ?_ N 0 hm
        · rintro N i23 hI
          have hm := hI; clear hI
          cases N with
          | zero => cases hm
          | succ N =>
          unfold s_PalestLetter_l1 at hm
          refine WJ.seq ?_
          refine WJ.seq ?_
          refine WJ.quiet ?_
          refine QJ.step (YldS.yld (y_move rfl)) rfl ?_
          refine QJ.step (YldS.yld (y_move rfl)) rfl ?_
          refine QJ.step (YldS.yld (y_lenStr Try.runUnderlying9 rfl)) rfl ?_
          refine QJ.step (YldS.yld (y_bin rfl rfl rfl)) rfl ?_
          refine QJ.done ?_
          refine PJ.next ?_
          refine WJ.cond (t := decide (i23 < (List.length text3 : Int))) rfl (fun hb24 => ?_) (fun hb24 => ?_)
          · replace hm := ifT hm hb24
            refine WJ.skip ?_
            refine PJ.next ?_
            refine WJ.seq ?_
            refine WJ.block ?_
            refine WJ.seq ?_
            refine WJ.quiet ?_
            refine QJ.step (YldS.yld (y_move rfl)) rfl ?_
            refine QJ.step (YldS.yld (y_move rfl)) rfl ?_
            obtain ⟨c25, h26, hm⟩ := bindS hm
            refine QJ.step (YldS.yld (y_idxStr Try.runUnderlying9 rfl rfl h26)) rfl ?_
            refine QJ.step (YldS.yld (y_bin8 c25 (32 : UInt8) rfl rfl rfl)) rfl ?_
            refine QJ.step (YldS.yld (y_move rfl)) rfl ?_
            obtain ⟨t27, h28, hm⟩ := bindS hm
            refine QJ.cut 7 [(2, str text3), (3, .int .i64 least4), (11, v20), (12, .int .i64 i23), (50, .bool t27)] ?_ ?_
            · rcases Bool.eq_false_or_eq_true (c25 != (32 : UInt8)) with hb29 | hb29
              · replace h28 := andT h28 hb29
                refine QJ.on rfl rfl (cB hb29) (YldS.yld (y_move rfl)) rfl ?_
                refine QJ.on rfl rfl (cB hb29) (YldS.yld (y_move rfl)) rfl ?_
                obtain ⟨e30, h31, h28⟩ := bindS h28
                refine QJ.on rfl rfl (cB hb29) (YldS.yld (y_ixRow (k := 0) (R := fI64) rfl Try.runUnderlying66 Try.sizeOf2 rfl rfl h31)) rfl ?_
                refine QJ.on rfl rfl (cB hb29) (YldS.yld (y_loadR (k := 0) (i := (Int.toNat i23)) (off := 0) (u := .int .i64 e30) rfl Try.isAgg2 rfl (idx_get h31) rfl)) rfl ?_
                refine QJ.on rfl rfl (cB hb29) (YldS.yld (y_move rfl)) rfl ?_
                refine QJ.on rfl rfl (cB hb29) (YldS.yld (y_bin rfl rfl rfl)) rfl ?_
                refine QJ.step (YldS.yld (y_pick_t (cB hb29) rfl)) rfl ?_
                obtain rfl := Option.some.inj h28
                exact QJ.cut_end ⟨rfl, rfl, rfl, rfl, rfl, trivial⟩
              · obtain rfl := andF h28 hb29
                refine QJ.off rfl rfl (cB hb29) rfl rfl ?_
                refine QJ.off rfl rfl (cB hb29) rfl rfl ?_
                refine QJ.off rfl rfl (cB hb29) rfl rfl ?_
                refine QJ.off rfl rfl (cB hb29) rfl rfl ?_
                refine QJ.off rfl rfl (cB hb29) rfl rfl ?_
                refine QJ.off rfl rfl (cB hb29) rfl rfl ?_
                refine QJ.step (YldS.yld (y_pick_f (cB hb29) rfl)) rfl ?_
                exact QJ.cut_end ⟨rfl, rfl, rfl, rfl, rfl, trivial⟩
            refine QJ.done ?_
            refine PJ.next ?_
            refine WJ.cond (t := t27) rfl (fun hb32 => ?_) (fun hb32 => ?_)
            · replace hm := ifT hm hb32
              refine WJ.seq ?_
              refine WJ.quiet ?_
              refine QJ.step (YldS.yld (y_move rfl)) rfl ?_
              refine QJ.step (YldS.yld (y_assign rfl)) rfl ?_
              refine QJ.step (YldS.yld (y_assign rfl)) rfl ?_
              refine QJ.done ?_
              refine PJ.next ?_
              refine WJ.ret ?_
              refine PJ.block_ret (PJ.then_ret (PJ.then_ret (PJ.block_ret (PJ.then_ret ?_))))
              obtain rfl := Option.some.inj hm
              refine PJ.sel (L' := []) [] ⟨List.nodup_nil, rfl⟩ ?_
              exact PJ.retn (vs := [.int .i64 i23, .int .i64 0]) Try.results39 ⟨rfl, rfl, trivial⟩ ⟨rfl, rfl⟩
            · replace hm := ifF hm hb32
              refine WJ.skip ?_
              refine PJ.block_normal (PJ.next ?_)
              refine WJ.quiet ?_
              refine QJ.step (YldS.yld (y_move rfl)) rfl ?_
              refine QJ.step (YldS.yld (y_bin rfl rfl rfl)) rfl ?_
              refine QJ.step (YldS.yld (y_assign rfl)) rfl ?_
              refine QJ.done ?_
              exact PJ.round (w64 (i23 + 1)) [0] hm ⟨rfl, rfl, rfl, rfl, trivial⟩ ⟨by decide, rfl⟩
          · replace hm := ifF hm hb24
            refine WJ.exit ?_
            refine PJ.then_exit (PJ.then_exit (PJ.block_exit ?_))
            exact PJ.joined () [] hm trivial ⟨List.nodup_nil, rfl⟩
      · rintro _ hm
        subst hk22
        refine WJ.seq ?_
        refine WJ.quiet ?_
        refine QJ.step (YldS.yld (y_assign rfl)) rfl ?_
        refine QJ.step (YldS.yld (y_assign rfl)) rfl ?_
        refine QJ.done ?_
        refine PJ.next ?_
        refine WJ.ret ?_
        obtain rfl := Option.some.inj hm
        refine PJ.sel (L' := []) [] ⟨List.nodup_nil, rfl⟩ ?_
        exact PJ.retn (vs := [.int .i64 0, .int .i64 3]) Try.results39 ⟨rfl, rfl, trivial⟩ ⟨rfl, rfl⟩

set_option maxRecDepth 100000 in
set_option maxHeartbeats 1000000 in
theorem ok_i_ShadesOf {N : Nat} {r1 : Ribbon} {done2 : Int} {text3 : Str} {r : (List Int) × Int} (hm : i_ShadesOf N r1 done2 text3 = some r) (w : World)  :
    Calls Try.prog 40 #[.agg (Ribbon.enc r1).toArray, .int .i64 done2, str text3] w (RetG (cx w) fun u L => ∃ (u1 : Value), (u = tup [u1, .int .i64 r.2] ∧ L = [row u1 2 fI64 r.1])) := by
  unfold i_ShadesOf at hm
  refine Calls.enter [.agg (Ribbon.enc r1).toArray, .int .i64 done2, str text3] Try.func40 rfl Try.ntmps40 rfl ?_
  refine WJ.seq ?_
  refine WJ.reg ?_
  refine SJ.box (cs := [.int .i64 r1.spots, .int .i64 r1.ink, .int .i64 r1.takes]) rfl rfl rfl fun g4 => ?_
  refine SJ.q (YldS.yld (y_assign rfl)) rfl ?_
  refine SJ.q (YldS.yld (y_assign rfl)) rfl ?_
  refine SJ.nil ?_
  refine PJ.next ?_
  refine WJ.seq ?_
  refine WJ.seq ?_
  refine WJ.quiet ?_
  refine QJ.step (YldS.yld (y_loadBN (k := 0) (off := 0) (us := [.int .i64 r1.spots, .int .i64 r1.ink, .int .i64 r1.takes]) rfl Try.isAgg59 Try.sizeOf59 rfl rfl)) rfl ?_
  refine QJ.step (YldS.yld (y_move rfl)) rfl ?_
  refine QJ.step (YldS.yld (y_move rfl)) rfl ?_
  obtain ⟨r5, h6, hm⟩ := bindS hm
  refine QJ.step (y_call Try.call129 rfl (RetG.quiet fun w hw => ok_i_shadesCode h6 w )) rfl ?_
  refine QJ.step (YldS.yld (y_assign rfl)) rfl ?_
  refine QJ.done ?_
  refine PJ.next ?_
  refine WJ.seq ?_
  refine WJ.quiet ?_
  refine QJ.step (YldS.yld (y_move rfl)) rfl ?_
  refine QJ.step (YldS.yld (y_bin rfl rfl rfl)) rfl ?_
  refine QJ.done ?_
  refine PJ.next ?_
  refine WJ.cond (t := (r5 != 0)) rfl (fun hb7 => ?_) (fun hb7 => ?_)
  · replace hm := ifT hm hb7
    refine WJ.seq ?_
    refine WJ.quiet ?_
    refine QJ.step (YldS.yld (y_move rfl)) rfl ?_
    refine QJ.step (YldS.yld (y_assign rfl)) rfl ?_
    refine QJ.step (YldS.yld (y_assign rfl)) rfl ?_
    refine QJ.done ?_
    refine PJ.next ?_
    refine WJ.ret ?_
    refine PJ.then_ret ?_
    refine PJ.nil_row 2 fI64 ?_
    obtain rfl := Option.some.inj hm
    refine PJ.sel (L' := [row (.slice none 0 0) 2 fI64 []]) [0] ⟨by decide, rfl⟩ ?_
    exact PJ.retn (vs := [(.slice none 0 0), .int .i64 r5]) Try.results40 ⟨rfl, rfl, trivial⟩ ⟨_, rfl, rfl⟩
  · replace hm := ifF hm hb7
    refine WJ.skip ?_
    refine PJ.next ?_
    refine WJ.seq ?_
    refine WJ.reg ?_
    refine SJ.q (YldS.yld (y_loadBN (k := 0) (off := 0) (us := [.int .i64 r1.spots, .int .i64 r1.ink, .int .i64 r1.takes]) rfl Try.isAgg59 Try.sizeOf59 rfl rfl)) rfl ?_
    refine SJ.q (YldS.yld (y_move rfl)) rfl ?_
    refine SJ.q (YldS.yld (y_move rfl)) rfl ?_
    obtain ⟨r8, h9, hm⟩ := bindS hm
    refine SJ.call Try.call130 rfl (fun w hw => ok_i_Ribbon_shades h9 w ) rfl ?_
    rintro v10 _ ⟨_, rfl, rfl⟩
    refine SJ.q (YldS.yld (y_assign rfl)) rfl ?_
    refine SJ.q (YldS.yld (y_assign rfl)) rfl ?_
    refine SJ.nil ?_
    refine PJ.next ?_
    refine WJ.ret ?_
    obtain rfl := Option.some.inj hm
    refine PJ.sel (L' := [row v10 2 fI64 r8]) [0] ⟨by decide, rfl⟩ ?_
    exact PJ.retn (vs := [v10, .int .i64 0]) Try.results40 ⟨rfl, rfl, trivial⟩ ⟨_, rfl, rfl⟩

set_option maxRecDepth 100000 in
set_option maxHeartbeats 1000000 in
theorem ok_s_ShadesOf {N : Nat} {r1 : Ribbon} {done2 : Int} {text3 : Str} {r : (List Int) × Int} (hm : s_ShadesOf N r1 done2 text3 = some r) (w : World)  :
    Calls Try.prog 41 #[.agg (Ribbon.enc r1).toArray, .int .i64 done2, str text3] w (RetG (cx w) fun u L => ∃ (u1 : Value), (u = tup [u1, .int .i64 r.2] ∧ L = [row u1 2 fI64 r.1])) := by
  unfold s_ShadesOf at hm
  refine Calls.enter [.agg (Ribbon.enc r1).toArray, .int .i64 done2, str text3] Try.func41 rfl Try.ntmps41 rfl ?_
  refine WJ.seq ?_
  refine WJ.reg ?_
  refine SJ.box (cs := [.int .i64 r1.spots, .int .i64 r1.ink, .int .i64 r1.takes]) rfl rfl rfl fun g4 => ?_
  refine SJ.q (YldS.yld (y_assign rfl)) rfl ?_
  refine SJ.q (YldS.yld (y_assign rfl)) rfl ?_
  refine SJ.nil ?_
  refine PJ.next ?_
  refine WJ.seq ?_
  refine WJ.quiet ?_
  refine QJ.step (YldS.yld (y_loadBN (k := 0) (off := 0) (us := [.int .i64 r1.spots, .int .i64 r1.ink, .int .i64 r1.takes]) rfl Try.isAgg59 Try.sizeOf59 rfl rfl)) rfl ?_
  refine QJ.step (YldS.yld (y_move rfl)) rfl ?_
  refine QJ.step (YldS.yld (y_move rfl)) rfl ?_
  obtain ⟨r5, h6, hm⟩ := bindS hm
  refine QJ.step (y_call Try.call131 rfl (RetG.quiet fun w hw => ok_s_l14Text h6 w )) rfl ?_
  refine QJ.step (YldS.yld (y_assign rfl)) rfl ?_
  refine QJ.done ?_
  refine PJ.next ?_
  refine WJ.seq ?_
  refine WJ.seq ?_
  refine WJ.quiet ?_
  refine QJ.step (YldS.yld (y_move rfl)) rfl ?_
  refine QJ.step (YldS.yld (y_bin rfl rfl rfl)) rfl ?_
  refine QJ.done ?_
  refine PJ.next ?_
  refine WJ.cond (t := (r5 != 0)) rfl (fun hb7 => ?_) (fun hb7 => ?_)
  · replace hm := ifT hm hb7
    refine WJ.seq ?_
    refine WJ.quiet ?_
    refine QJ.step (YldS.yld (y_move rfl)) rfl ?_
    refine QJ.step (YldS.yld (y_assign rfl)) rfl ?_
    refine QJ.step (YldS.yld (y_assign rfl)) rfl ?_
    refine QJ.done ?_
    refine PJ.next ?_
    refine WJ.ret ?_
    refine PJ.then_ret ?_
    refine PJ.nil_row 2 fI64 ?_
    obtain rfl := Option.some.inj hm
    refine PJ.sel (L' := [row (.slice none 0 0) 2 fI64 []]) [0] ⟨by decide, rfl⟩ ?_
    exact PJ.retn (vs := [(.slice none 0 0), .int .i64 r5]) Try.results41 ⟨rfl, rfl, trivial⟩ ⟨_, rfl, rfl⟩
  · replace hm := ifF hm hb7
    refine WJ.skip ?_
    refine PJ.next ?_
    refine WJ.seq ?_
    refine WJ.reg ?_
    refine SJ.q (YldS.yld (y_loadBN (k := 0) (off := 0) (us := [.int .i64 r1.spots, .int .i64 r1.ink, .int .i64 r1.takes]) rfl Try.isAgg59 Try.sizeOf59 rfl rfl)) rfl ?_
    refine SJ.q (YldS.yld (y_move rfl)) rfl ?_
    refine SJ.q (YldS.yld (y_move rfl)) rfl ?_
    obtain ⟨r8, h9, hm⟩ := bindS hm
    refine SJ.call Try.call132 rfl (fun w hw => ok_s_l14Shades h9 w ) rfl ?_
    rintro v10 _ ⟨_, rfl, rfl⟩
    refine SJ.q (YldS.yld (y_assign rfl)) rfl ?_
    refine SJ.q (YldS.yld (y_assign rfl)) rfl ?_
    refine SJ.nil ?_
    refine PJ.next ?_
    refine WJ.ret ?_
    obtain rfl := Option.some.inj hm
    refine PJ.sel (L' := [row v10 2 fI64 r8]) [0] ⟨by decide, rfl⟩ ?_
    exact PJ.retn (vs := [v10, .int .i64 0]) Try.results41 ⟨rfl, rfl, trivial⟩ ⟨_, rfl, rfl⟩

set_option maxRecDepth 100000 in
set_option maxHeartbeats 1000000 in
theorem ok_s_DrawBestRibbon {N : Nat} {code1 : List UInt8} {r : (List Ribbon) × (List Int) × Int × Int} (hm : s_DrawBestRibbon N code1 = some r) (w : World) (v2 : Value) (hr3 : RdS w (cx w).Fz v2 fByte.rp code1) :
    Calls Try.prog 42 #[v2] w (RetG (cx w) fun u L => ∃ (u1 : Value) (u2 : Value), (u = tup [u1, u2, .int .i64 r.2.2.1, .int .i64 r.2.2.2] ∧ L = [row u1 59 fRibbon r.1, vw u2 fI64.rp r.2.1])) := by
  unfold s_DrawBestRibbon at hm
  refine Calls.enter [v2] Try.func42 rfl Try.ntmps42 rfl ?_
  refine WJ.seq ?_
  refine WJ.quiet ?_
  refine QJ.step (YldS.yld (y_assign rfl)) rfl ?_
  refine QJ.step (YldS.yld (y_assign rfl)) rfl ?_
  refine QJ.step (YldS.yld (y_assign rfl)) rfl ?_
  refine QJ.step (YldS.yld (y_assign rfl)) rfl ?_
  refine QJ.done ?_
  refine PJ.next ?_
  refine WJ.seq ?_
  refine WJ.reg ?_
  refine SJ.q (YldS.yld (y_move rfl)) rfl ?_
  obtain ⟨r4, h5, hm⟩ := bindS hm
  refine SJ.call Try.call95 rfl (fun w hw => ok_s_l00From h5 w _ (hr3.st hw)) rfl ?_
  rintro _ _ ⟨g6, rfl, rfl⟩
  refine SJ.q (YldS.yld (y_assign rfl)) rfl ?_
  refine SJ.nil ?_
  refine PJ.next ?_
  refine WJ.seq ?_
  refine WJ.reg ?_
  refine SJ.buildSlice (R := fRibbon) (os := []) [] Try.runUnderlying69 Try.sizeOf59 Try.zeroValue59 rfl rfl rfl rfl rfl rfl fun v7 => ?_
  refine SJ.q (YldS.yld (y_assign rfl)) rfl ?_
  refine SJ.nil ?_
  refine PJ.next ?_
  refine WJ.seq ?_
  refine WJ.reg ?_
  refine SJ.buildSlice (R := fI64) (os := []) [] Try.runUnderlying66 Try.sizeOf2 Try.zeroValue2 rfl rfl rfl rfl rfl rfl fun v8 => ?_
  refine SJ.q (YldS.yld (y_assign rfl)) rfl ?_
  refine SJ.nil ?_
  refine PJ.next ?_
  refine WJ.seq ?_
  refine WJ.reg ?_
  refine SJ.q (YldS.yld (y_move rfl)) rfl ?_
  obtain ⟨r9, h10, hm⟩ := bindS hm
  refine SJ.call1 (k := 2) rfl Try.call97 rfl (fun w S hw hA hO => ok_s_l00Src_pick h10 w S _ (hr3.st1 hw hO) hA) rfl ?_
  rintro _ _ ⟨rfl, rfl⟩
  refine SJ.q (YldS.yld (y_assign rfl)) rfl ?_
  refine SJ.nil ?_
  refine PJ.next ?_
  obtain ⟨kj14, hk15, hm⟩ := withK_open hm
  refine WJ.join (X := Int × Int × Int) (fun (x : Int × Int × Int) => kj14 x.1 x.2.1 x.2.2 = some r) (fun (x : Int × Int × Int) => [(6, pt g6 0), (7, v7), (8, v8), (9, .int .i64 x.2.2)]) (fun (x : Int × Int × Int) => [box g6 185 [v2, .int .i64 x.1, .int .u64 x.2.1], row v8 2 fI64 [], row v7 59 fRibbon []]) ?_ ?_
  · clear hk15
    refine WJ.seq ?_
    refine WJ.reg ?_
    refine SJ.q (YldS.yld (y_move rfl)) rfl ?_
    obtain ⟨r16, h17, hm⟩ := bindS hm
    refine SJ.call1 (k := 0) rfl Try.call121 rfl (fun w S hw hA hO => ok_s_l00Src_one h17 w S _ (hr3.st1 hw hO) hA) rfl ?_
    rintro _ _ ⟨rfl, rfl⟩
    refine SJ.nil ?_
    refine PJ.next ?_
    refine WJ.cond (t := r16.1) rfl (fun hb18 => ?_) (fun hb18 => ?_)
    · replace hm := ifT hm hb18
      refine WJ.reg ?_
      refine SJ.q (YldS.yld (y_move rfl)) rfl ?_
      obtain ⟨r19, h20, hm⟩ := bindS hm
      refine SJ.call1 (k := 0) rfl Try.call97 rfl (fun w S hw hA hO => ok_s_l00Src_pick h20 w S _ (hr3.st1 hw hO) hA) rfl ?_
      rintro _ _ ⟨rfl, rfl⟩
      refine SJ.q (YldS.yld (y_bin rfl rfl rfl)) rfl ?_
      refine SJ.q (YldS.yld (y_assign rfl)) rfl ?_
      refine SJ.nil ?_
      exact PJ.joined (r19.2.at_, r19.2.seed, w64 (20 + r19.1)) [0, 1, 2] hm ⟨rfl, rfl, rfl, rfl, trivial⟩ ⟨by decide, rfl⟩
    · replace hm := ifF hm hb18
      refine WJ.skip ?_
      exact PJ.joined (r16.2.at_, r16.2.seed, r9.1) [0, 1, 2] hm ⟨rfl, rfl, rfl, rfl, trivial⟩ ⟨by decide, rfl⟩
  · rintro ⟨x11, x12, n13⟩ hm
    subst hk15
    obtain ⟨kj27, hk28, hm⟩ := withK_open hm
    refine WJ.join (X := Int × Int × (List Int) × Value × (List Ribbon) × Value) (fun (x : Int × Int × (List Int) × Value × (List Ribbon) × Value) => kj27 x.1 x.2.1 x.2.2.1 x.2.2.2.2.1 = some r) (fun (x : Int × Int × (List Int) × Value × (List Ribbon) × Value) => [(6, pt g6 0), (7, x.2.2.2.2.2), (8, x.2.2.2.1), (9, .int .i64 n13)]) (fun (x : Int × Int × (List Int) × Value × (List Ribbon) × Value) => [box g6 185 [v2, .int .i64 x.1, .int .u64 x.2.1], row x.2.2.2.1 2 fI64 x.2.2.1, row x.2.2.2.2.2 59 fRibbon x.2.2.2.2.1]) ?_ ?_
    · clear hk28
      refine WJ.seq ?_
      refine WJ.quiet ?_
      refine QJ.step (YldS.yld (y_move rfl)) rfl ?_
      refine QJ.step (YldS.yld (y_assign rfl)) rfl ?_
      refine QJ.done ?_
      refine PJ.next ?_
      refine WJ.block ?_
      refine WJ.sel (L' := (fun (x : Int × Int × (List Int) × Value × (List Ribbon) × Value × Int) => [box g6 185 [v2, .int .i64 x.1, .int .u64 x.2.1], row x.2.2.2.1 2 fI64 x.2.2.1, row x.2.2.2.2.2.1 59 fRibbon x.2.2.2.2.1]) (x11, x12, [], v8, [], v7, n13)) [0, 1, 2] ⟨by decide, rfl⟩ ?_
      refine WJ.sub (m' := (fun (x : Int × Int × (List Int) × Value × (List Ribbon) × Value × Int) => [(6, pt g6 0), (7, x.2.2.2.2.2.1), (8, x.2.2.2.1), (9, .int .i64 n13), (10, .int .i64 x.2.2.2.2.2.2)]) (x11, x12, [], v8, [], v7, n13)) ⟨rfl, rfl, rfl, rfl, rfl, trivial⟩ ?_
      refine WJ.loop (X := Int × Int × (List Int) × Value × (List Ribbon) × Value × Int) (fun N (x : Int × Int × (List Int) × Value × (List Ribbon) × Value × Int) => s_DrawBestRibbon_l1 kj27 code1 N x.1 x.2.1 x.2.2.1 x.2.2.2.2.1 x.2.2.2.2.2.2 = some r) (fun (x : Int × Int × (List Int) × Value × (List Ribbon) × Value × Int) => [(6, pt g6 0), (7, x.2.2.2.2.2.1), (8, x.2.2.2.1), (9, .int .i64 n13), (10, .int .i64 x.2.2.2.2.2.2)]) (fun (x : Int × Int × (List Int) × Value × (List Ribbon) × Value × Int) => [box g6 185 [v2, .int .i64 x.1, .int .u64 x.2.1], row x.2.2.2.1 2 fI64 x.2.2.1, row x.2.2.2.2.2.1 59 fRibbon x.2.2.2.2.1]) ?_ N (x11, x12, [], v8, [], v7, n13) hm
      · rintro N ⟨x29, x30, l31, v32, l33, v34, k35⟩ hI
        have hm := hI; clear hI
        cases N with
        | zero => cases hm
        | succ N =>
        unfold s_DrawBestRibbon_l1 at hm
        refine WJ.seq ?_
        refine WJ.seq ?_
        refine WJ.quiet ?_
        refine QJ.step (YldS.yld (y_move rfl)) rfl ?_
        refine QJ.step (YldS.yld (y_bin rfl rfl rfl)) rfl ?_
        refine QJ.done ?_
        refine PJ.next ?_
        refine WJ.cond (t := decide (k35 > 0)) rfl (fun hb36 => ?_) (fun hb36 => ?_)
        · replace hm := ifT hm hb36
          refine WJ.skip ?_
          refine PJ.next ?_
          refine WJ.seq ?_
          refine WJ.block ?_
          refine WJ.seq ?_
          refine WJ.reg ?_
          refine SJ.q (YldS.yld (y_move rfl)) rfl ?_
          refine SJ.q (YldS.yld (y_move rfl)) rfl ?_
          obtain ⟨r37, h38, hm⟩ := bindS hm
          refine SJ.call1 (k := 0) rfl Try.call133 rfl (fun w S hw hA hO => ok_s_l14Draw h38 w S _ (hr3.st1 hw hO) hA) rfl ?_
          rintro _ _ ⟨rfl, rfl⟩
          refine SJ.buildSlice (R := fRibbon) (os := [.tmp 30]) [r37.1] Try.runUnderlying69 Try.sizeOf59 Try.zeroValue59 rfl rfl rfl rfl rfl rfl fun v39 => ?_
          obtain ⟨l40, h41, hm⟩ := bindS hm
          refine SJ.append (k := 3) (R := fRibbon) h41 rfl Try.underlying69 el59 rfl rfl rfl (fun w hw => (hw.row_rd (k := 0) rfl)) rfl fun v42 => ?_
          refine SJ.q (YldS.yld (y_assign rfl)) rfl ?_
          refine SJ.nil ?_
          refine PJ.next ?_
          refine WJ.reg ?_
          refine SJ.q (YldS.yld (y_move rfl)) rfl ?_
          refine SJ.q (YldS.yld (y_move rfl)) rfl ?_
          obtain ⟨r43, h44, hm⟩ := bindS hm
          refine SJ.call1 (k := 1) rfl Try.call97 rfl (fun w S hw hA hO => ok_s_l00Src_pick h44 w S _ (hr3.st1 hw hO) hA) rfl ?_
          rintro _ _ ⟨rfl, rfl⟩
          refine SJ.q (YldS.yld (y_bin rfl rfl rfl)) rfl ?_
          refine SJ.buildSlice (R := fI64) (os := [.tmp 36]) [w64 (10 * r43.1)] Try.runUnderlying66 Try.sizeOf2 Try.zeroValue2 rfl rfl rfl rfl rfl rfl fun v45 => ?_
          obtain ⟨l46, h47, hm⟩ := bindS hm
          refine SJ.append (k := 3) (R := fI64) h47 rfl Try.underlying66 el2 rfl rfl rfl (fun w hw => (hw.row_rd (k := 0) rfl)) rfl fun v48 => ?_
          refine SJ.q (YldS.yld (y_assign rfl)) rfl ?_
          refine SJ.nil ?_
          refine PJ.block_normal (PJ.next ?_)
          refine WJ.quiet ?_
          refine QJ.step (YldS.yld (y_move rfl)) rfl ?_
          refine QJ.step (YldS.yld (y_bin rfl rfl rfl)) rfl ?_
          refine QJ.step (YldS.yld (y_assign rfl)) rfl ?_
          refine QJ.done ?_
          exact PJ.round (r43.2.at_, r43.2.seed, l46, v48, l40, v42, w64 (k35 - 1)) [1, 3, 4] hm ⟨rfl, rfl, rfl, rfl, rfl, trivial⟩ ⟨by decide, rfl⟩
        · replace hm := ifF hm hb36
          refine WJ.exit ?_
          refine PJ.then_exit (PJ.then_exit (PJ.block_exit ?_))
          exact PJ.joined (x29, x30, l31, v32, l33, v34) [0, 1, 2] hm ⟨rfl, rfl, rfl, rfl, trivial⟩ ⟨by decide, rfl⟩
    · rintro ⟨x21, x22, l23, v24, l25, v26⟩ hm
      subst hk28
      obtain ⟨kj54, hk55, hm⟩ := withK_open hm
      refine WJ.join (X := Int × Int × (List Int) × Value × (List Ribbon)) (fun (x : Int × Int × (List Int) × Value × (List Ribbon)) => kj54 x.1 x.2.1 x.2.2.1 x.2.2.2.2 = some r) (fun (x : Int × Int × (List Int) × Value × (List Ribbon)) => [(6, pt g6 0), (7, v26), (8, x.2.2.2.1)]) (fun (x : Int × Int × (List Int) × Value × (List Ribbon)) => [box g6 185 [v2, .int .i64 x.1, .int .u64 x.2.1], vw x.2.2.2.1 fI64.rp x.2.2.1, row v26 59 fRibbon x.2.2.2.2]) ?_ ?_
      · clear hk55
        refine WJ.seq ?_
        refine WJ.quiet ?_
        refine QJ.step (YldS.yld (y_move rfl)) rfl ?_
        refine QJ.step (YldS.yld (y_bin rfl rfl rfl)) rfl ?_
        refine QJ.done ?_
        refine PJ.next ?_
        refine WJ.cond (t := decide (n13 > 0)) rfl (fun hb56 => ?_) (fun hb56 => ?_)
        · replace hm := ifT hm hb56
          refine WJ.seq ?_
          refine WJ.reg ?_
          refine SJ.q (YldS.yld (y_move rfl)) rfl ?_
          obtain ⟨r57, h58, hm⟩ := bindS hm
          refine SJ.call1 (k := 0) rfl Try.call97 rfl (fun w S hw hA hO => ok_s_l00Src_pick h58 w S _ (hr3.st1 hw hO) hA) rfl ?_
          rintro _ _ ⟨rfl, rfl⟩
          refine SJ.nil ?_
          refine PJ.next ?_
          refine WJ.block ?_
          refine WJ.seq ?_
          refine WJ.quiet ?_
          refine QJ.step (YldS.yld (y_bin rfl rfl rfl)) rfl ?_
          refine QJ.step (YldS.yld (y_assign rfl)) rfl ?_
          refine QJ.done ?_
          refine PJ.next ?_
          refine WJ.cond (t := (r57.1 == 0)) rfl (fun hb59 => ?_) (fun hb59 => ?_)
          · replace hm := ifT hm hb59
            refine WJ.reg ?_
            refine SJ.q (YldS.yld (y_move rfl)) rfl ?_
            refine SJ.q (YldS.yld (y_move rfl)) rfl ?_
            obtain ⟨r60, h61, hm⟩ := bindS hm
            refine SJ.call1 (k := 0) rfl Try.call120 rfl (fun w S hw hA hO => ok_s_l14Bent h61 w S _ (hr3.st1 hw hO) hA) rfl ?_
            rintro _ _ ⟨rfl, rfl⟩
            obtain ⟨e62, h63, hm⟩ := bindS hm
            refine SJ.q (YldS.yld (y_ixRow (k := 2) (R := fRibbon) rfl Try.runUnderlying69 Try.sizeOf59 rfl rfl h63)) rfl ?_
            refine SJ.storeRL (k := 2) (i := (Int.toNat 0)) (off := 0) (us := [.int .i64 r60.1.spots, .int .i64 r60.1.ink, .int .i64 r60.1.takes]) (b := r60.1) rfl rfl (idx_get h63) rfl rfl Try.sizeOf59 rfl rfl rfl ?_
            refine SJ.nil ?_
            refine PJ.block_normal ?_
            refine PJ.view 1 rfl ?_
            exact PJ.joined (r60.2.at_, r60.2.seed, l23, v24, (List.set l25 (Int.toNat 0) r60.1)) [0, 1, 2] hm ⟨rfl, rfl, rfl, trivial⟩ ⟨by decide, rfl⟩
          · replace hm := ifF hm hb59
            refine WJ.seq ?_
            refine WJ.quiet ?_
            refine QJ.step (YldS.yld (y_bin rfl rfl rfl)) rfl ?_
            refine QJ.step (YldS.yld (y_assign rfl)) rfl ?_
            refine QJ.done ?_
            refine PJ.next ?_
            refine WJ.cond (t := (r57.1 == 1)) rfl (fun hb64 => ?_) (fun hb64 => ?_)
            · replace hm := ifT hm hb64
              refine WJ.reg ?_
              refine SJ.q (YldS.yld (y_move rfl)) rfl ?_
              refine SJ.q (YldS.yld (y_move rfl)) rfl ?_
              refine SJ.buildSlice (R := fI64) (os := [.const (.int .i64 (-1)), .const (.int .i64 0), .const (.int .i64 100000), .const (.int .i64 100001)]) [(-1), 0, 100000, 100001] Try.runUnderlying66 Try.sizeOf2 Try.zeroValue2 rfl rfl rfl rfl rfl rfl fun v65 => ?_
              obtain ⟨r66, h67, hm⟩ := bindS hm
              refine SJ.call2 (k := 1) rfl Try.call134 rfl (fun w S hw hA hO hB => ok_s_l00Src_among h67 w S _ (hr3.st1 hw hO) _ (hB.row_rd (j := 0) (k := 1) rfl rfl) hA) rfl ?_
              rintro _ _ ⟨rfl, rfl⟩
              obtain ⟨e68, h69, hm⟩ := bindS hm
              refine SJ.q (YldS.yld (y_ixRow (k := 2) (R := fI64) rfl Try.runUnderlying66 Try.sizeOf2 rfl rfl h69)) rfl ?_
              refine SJ.storeRL (k := 2) (i := (Int.toNat 0)) (off := 0) (us := [.int .i64 r66.1]) (b := r66.1) rfl rfl (idx_get h69) rfl rfl Try.sizeOf2 rfl rfl rfl ?_
              refine SJ.nil ?_
              refine PJ.block_normal ?_
              refine PJ.view 2 rfl ?_
              exact PJ.joined (r66.2.at_, r66.2.seed, (List.set l23 (Int.toNat 0) r66.1), v24, l25) [0, 2, 3] hm ⟨rfl, rfl, rfl, trivial⟩ ⟨by decide, rfl⟩
            · replace hm := ifF hm hb64
              refine WJ.seq ?_
              refine WJ.quiet ?_
              refine QJ.step (YldS.yld (y_bin rfl rfl rfl)) rfl ?_
              refine QJ.step (YldS.yld (y_assign rfl)) rfl ?_
              refine QJ.done ?_
              refine PJ.next ?_
              refine WJ.cond (t := (r57.1 == 2)) rfl (fun hb70 => ?_) (fun hb70 => ?_)
              · replace hm := ifT hm hb70
                refine WJ.reg ?_
                refine SJ.q (YldS.yld (y_move rfl)) rfl ?_
                obtain ⟨l71, h72, hm⟩ := bindS hm
                refine SJ.sliceRow (i := some 1) (j := none) (k := 1) h72 rfl Try.runUnderlying66 Try.sizeOf2 rfl ⟨_, rfl⟩ trivial rfl fun v73 => ?_
                refine SJ.q (YldS.yld (y_assign rfl)) rfl ?_
                refine SJ.nil ?_
                refine PJ.block_normal ?_
                exact PJ.joined (r57.2.at_, r57.2.seed, l71, v73, l25) [0, 1, 2] hm ⟨rfl, rfl, rfl, trivial⟩ ⟨by decide, rfl⟩
              · replace hm := ifF hm hb70
                refine WJ.skip ?_
                refine PJ.block_normal ?_
                refine PJ.view 1 rfl ?_
                exact PJ.joined (r57.2.at_, r57.2.seed, l23, v24, l25) [0, 1, 2] hm ⟨rfl, rfl, rfl, trivial⟩ ⟨by decide, rfl⟩
        · replace hm := ifF hm hb56
          refine WJ.skip ?_
          refine PJ.view 1 rfl ?_
          exact PJ.joined (x21, x22, l23, v24, l25) [0, 1, 2] hm ⟨rfl, rfl, rfl, trivial⟩ ⟨by decide, rfl⟩
      · rintro ⟨x49, x50, l51, v52, l53⟩ hm
        subst hk55
        refine WJ.seq ?_
        refine WJ.reg ?_
        refine SJ.q (YldS.yld (y_move rfl)) rfl ?_
        obtain ⟨r74, h75, hm⟩ := bindS hm
        refine SJ.call1 (k := 0) rfl Try.call127 rfl (fun w S hw hA hO => ok_s_l14Strokes h75 w S _ (hr3.st1 hw hO) hA) rfl ?_
        rintro _ _ ⟨rfl, rfl⟩
        refine SJ.q (YldS.yld (y_assign rfl)) rfl ?_
        refine SJ.nil ?_
        refine PJ.next ?_
        refine WJ.seq ?_
        refine WJ.seq ?_
        refine WJ.reg ?_
        refine SJ.q (YldS.yld (y_move rfl)) rfl ?_
        obtain ⟨r76, h77, hm⟩ := bindS hm
        refine SJ.call1 (k := 0) rfl Try.call121 rfl (fun w S hw hA hO => ok_s_l00Src_one h77 w S _ (hr3.st1 hw hO) hA) rfl ?_
        rintro _ _ ⟨rfl, rfl⟩
        refine SJ.nil ?_
        refine PJ.next ?_
        refine WJ.cond (t := r76.1) rfl (fun hb78 => ?_) (fun hb78 => ?_)
        · replace hm := ifT hm hb78
          refine WJ.seq ?_
          refine WJ.reg ?_
          refine SJ.q (YldS.yld (y_move rfl)) rfl ?_
          refine SJ.q (YldS.yld (y_move rfl)) rfl ?_
          refine SJ.q (YldS.yld (y_move rfl)) rfl ?_
          refine SJ.q (YldS.yld (y_move rfl)) rfl ?_
          refine SJ.buildSlice (R := fI64) (os := [.const (.int .i64 0), .const (.int .i64 1), .const (.int .i64 1000), .const (.int .i64 1001)]) [0, 1, 1000, 1001] Try.runUnderlying66 Try.sizeOf2 Try.zeroValue2 rfl rfl rfl rfl rfl rfl fun v79 => ?_
          obtain ⟨r80, h81, hm⟩ := bindS hm
          refine SJ.call2 (k := 1) rfl Try.call134 rfl (fun w S hw hA hO hB => ok_s_l00Src_among h81 w S _ (hr3.st1 hw hO) _ (hB.row_rd (j := 0) (k := 1) rfl rfl) hA) rfl ?_
          rintro _ _ ⟨rfl, rfl⟩
          refine SJ.q (YldS.yld (y_assign rfl)) rfl ?_
          refine SJ.q (YldS.yld (y_assign rfl)) rfl ?_
          refine SJ.q (YldS.yld (y_assign rfl)) rfl ?_
          refine SJ.q (YldS.yld (y_assign rfl)) rfl ?_
          refine SJ.nil ?_
          refine PJ.next ?_
          refine WJ.ret ?_
          refine PJ.then_ret ?_
          obtain rfl := Option.some.inj hm
          refine PJ.sel (L' := [row v26 59 fRibbon l53, vw v52 fI64.rp l51]) [3, 2] ⟨by decide, rfl⟩ ?_
          exact PJ.retn (vs := [v26, v52, .int .i64 r74.1, .int .i64 r80.1]) Try.results42 ⟨rfl, rfl, rfl, rfl, trivial⟩ ⟨_, _, rfl, rfl⟩
        · replace hm := ifF hm hb78
          refine WJ.skip ?_
          refine PJ.next ?_
          refine WJ.seq ?_
          refine WJ.reg ?_
          refine SJ.q (YldS.yld (y_move rfl)) rfl ?_
          refine SJ.q (YldS.yld (y_move rfl)) rfl ?_
          refine SJ.q (YldS.yld (y_move rfl)) rfl ?_
          refine SJ.q (YldS.yld (y_move rfl)) rfl ?_
          obtain ⟨r82, h83, hm⟩ := bindS hm
          refine SJ.call1 (k := 0) rfl Try.call97 rfl (fun w S hw hA hO => ok_s_l00Src_pick h83 w S _ (hr3.st1 hw hO) hA) rfl ?_
          rintro _ _ ⟨rfl, rfl⟩
          refine SJ.q (YldS.yld (y_bin rfl rfl rfl)) rfl ?_
          refine SJ.q (YldS.yld (y_assign rfl)) rfl ?_
          refine SJ.q (YldS.yld (y_assign rfl)) rfl ?_
          refine SJ.q (YldS.yld (y_assign rfl)) rfl ?_
          refine SJ.q (YldS.yld (y_assign rfl)) rfl ?_
          refine SJ.nil ?_
          refine PJ.next ?_
          refine WJ.ret ?_
          obtain rfl := Option.some.inj hm
          refine PJ.sel (L' := [row v26 59 fRibbon l53, vw v52 fI64.rp l51]) [2, 1] ⟨by decide, rfl⟩ ?_
          exact PJ.retn (vs := [v26, v52, .int .i64 r74.1, .int .i64 (w64 (1 + r82.1))]) Try.results42 ⟨rfl, rfl, rfl, rfl, trivial⟩ ⟨_, _, rfl, rfl⟩

set_option maxRecDepth 100000 in
set_option maxHeartbeats 1000000 in
theorem ok_i_Ribbon_needed {N : Nat} {r1 : Ribbon} {strokes2 : Int} {least3 : Int} {r : Int} (hm : i_Ribbon_needed N r1 strokes2 least3 = some r) (w : World)  :
    Calls Try.prog 136 #[.agg (Ribbon.enc r1).toArray, .int .i64 strokes2, .int .i64 least3] w (Ret (cx w) (.int .i64 r)) := by
  unfold i_Ribbon_needed at hm
  refine Calls.enter [.agg (Ribbon.enc r1).toArray, .int .i64 strokes2, .int .i64 least3] Try.func136 rfl Try.ntmps136 rfl ?_
  refine WJ.seq ?_
  refine WJ.reg ?_
  refine SJ.box (cs := [.int .i64 r1.spots, .int .i64 r1.ink, .int .i64 r1.takes]) rfl rfl rfl fun g4 => ?_
  refine SJ.q (YldS.yld (y_assign rfl)) rfl ?_
  refine SJ.nil ?_
  refine PJ.next ?_
  refine WJ.seq ?_
  refine WJ.quiet ?_
  refine QJ.step (YldS.yld (y_loadBN (k := 0) (off := 0) (us := [.int .i64 r1.spots, .int .i64 r1.ink, .int .i64 r1.takes]) rfl Try.isAgg59 Try.sizeOf59 rfl rfl)) rfl ?_
  refine QJ.step (YldS.yld (y_move rfl)) rfl ?_
  obtain ⟨r5, h6, hm⟩ := bindS hm
  refine QJ.step (y_call Try.call124 rfl (RetG.quiet fun w hw => ok_i_Ribbon_until h6 w )) rfl ?_
  refine QJ.step (YldS.yld (y_assign rfl)) rfl ?_
  refine QJ.done ?_
  refine PJ.next ?_
  refine WJ.seq ?_
  refine WJ.quiet ?_
  refine QJ.step (YldS.yld (y_move rfl)) rfl ?_
  refine QJ.step (YldS.yld (y_move rfl)) rfl ?_
  refine QJ.step (YldS.yld (y_bin rfl rfl rfl)) rfl ?_
  refine QJ.step (YldS.yld (y_bin rfl rfl rfl)) rfl ?_
  refine QJ.step (YldS.yld (y_move rfl)) rfl ?_
  obtain ⟨q7, h8, hm⟩ := bindS hm
  refine QJ.step (YldS.yld (y_quo' h8 rfl rfl)) rfl ?_
  refine QJ.step (YldS.yld (y_assign rfl)) rfl ?_
  refine QJ.done ?_
  refine PJ.next ?_
  refine WJ.ret ?_
  obtain rfl := Option.some.inj hm
  refine PJ.sel (L' := []) [] ⟨List.nodup_nil, rfl⟩ ?_
  exact PJ.retn (vs := [.int .i64 q7]) Try.results136 ⟨rfl, trivial⟩ ⟨rfl, rfl⟩

set_option maxRecDepth 100000 in
set_option maxHeartbeats 1000000 in
theorem ok_i_BestRibbon {N : Nat} {list1 : List Ribbon} {prices4 : List Int} {strokes7 : Int} {least8 : Int} {r : Int × Int × Int} (hm : i_BestRibbon N list1 prices4 strokes7 least8 = some r) (w : World) (v2 : Value) (hr3 : RdS w (cx w).Fz v2 fRibbon.rp list1) (v5 : Value) (hr6 : RdS w (cx w).Fz v5 fI64.rp prices4) :
    Calls Try.prog 43 #[v2, v5, .int .i64 strokes7, .int .i64 least8] w (Ret (cx w) (tup [.int .i64 r.1, .int .i64 r.2.1, .int .i64 r.2.2])) := by
  unfold i_BestRibbon at hm
  refine Calls.enter [v2, v5, .int .i64 strokes7, .int .i64 least8] Try.func43 rfl Try.ntmps43 rfl ?_
  refine WJ.seq ?_
  refine WJ.quiet ?_
  refine QJ.step (YldS.yld (y_assign rfl)) rfl ?_
  refine QJ.step (YldS.yld (y_assign rfl)) rfl ?_
  refine QJ.step (YldS.yld (y_assign rfl)) rfl ?_
  refine QJ.done ?_
  refine PJ.next ?_
  obtain ⟨kj9, hk10, hm⟩ := withK_open hm
  refine WJ.join (X := Unit) (fun (_ : Unit) => kj9  = some r) (fun (_ : Unit) => [(0, v2), (1, v5), (2, .int .i64 strokes7), (3, .int .i64 least8)]) (fun (_ : Unit) => []) ?_ ?_
  · clear hk10
    refine WJ.seq ?_
    refine WJ.quiet ?_
    refine QJ.step (YldS.yld (y_move rfl)) rfl ?_
    refine QJ.step (YldS.yld (y_lenS Try.runUnderlying69 hr3 rfl)) rfl ?_
    refine QJ.step (YldS.yld (y_move rfl)) rfl ?_
    refine QJ.done ?_
    refine PJ.next ?_
    refine WJ.block ?_
    refine WJ.sel (L' := (fun (x : Int) => []) 0) [] ⟨List.nodup_nil, rfl⟩ ?_
    refine WJ.sub (m' := (fun (x : Int) => [(0, v2), (1, v5), (2, .int .i64 strokes7), (3, .int .i64 least8), (20, v2), (21, .int .i64 (List.length list1 : Int)), (22, .int .i64 x)]) 0) ⟨rfl, rfl, rfl, rfl, rfl, rfl, rfl, trivial⟩ ?_
    refine WJ.loop (X := Int) (fun N (x : Int) => i_BestRibbon_l1 kj9 list1 N x = some r) (fun (x : Int) => [(0, v2), (1, v5), (2, .int .i64 strokes7), (3, .int .i64 least8), (20, v2), (21, .int .i64 (List.length list1 : Int)), (22, .int .i64 x)]) (fun (x : Int) => []) ?_ N 0 hm
    · rintro N x11 hI
      have hm := hI; clear hI
      cases N with
      | zero => cases hm
      | succ N =>
      unfold i_BestRibbon_l1 at hm
      refine WJ.seq ?_
      refine WJ.quiet ?_
      refine QJ.step (YldS.yld (y_bin rfl rfl rfl)) rfl ?_
      refine QJ.done ?_
      refine PJ.next ?_
      refine WJ.seq ?_
      refine WJ.cond (t := decide (x11 < (List.length list1 : Int))) rfl (fun hb12 => ?_) (fun hb12 => ?_)
      · replace hm := ifT hm hb12
        refine WJ.skip ?_
        refine PJ.next ?_
        refine WJ.seq ?_
        refine WJ.block ?_
        refine WJ.seq ?_
        refine WJ.reg ?_
        obtain ⟨e13, h14, hm⟩ := bindS hm
        obtain ⟨ad15, _, rfl, ha16, hy17⟩ := hr3.elem h14
        refine SJ.q (YldS.yld (hy17 Try.runUnderlying69 Try.sizeOf59 rfl rfl)) rfl ?_
        refine SJ.q (YldS.yld (y_loadN Try.isAgg59 Try.sizeOf59 rfl ha16 St.frozenC rfl)) rfl ?_
        refine SJ.alloc (cs := [.int .i64 0, .int .i64 0, .int .i64 0]) Try.zeroValue59 rfl rfl fun g18 => ?_
        refine SJ.storeL (k := 0) (off := 0) (us := [.int .i64 e13.spots, .int .i64 e13.ink, .int .i64 e13.takes]) rfl rfl rfl rfl Try.sizeOf59 rfl rfl ?_
        refine SJ.nil ?_
        refine PJ.next ?_
        refine WJ.seq ?_
        refine WJ.quiet ?_
        refine QJ.step (YldS.yld (y_loadBN (k := 0) (off := 0) (us := [.int .i64 e13.spots, .int .i64 e13.ink, .int .i64 e13.takes]) rfl Try.isAgg59 Try.sizeOf59 rfl rfl)) rfl ?_
        obtain ⟨r19, h20, hm⟩ := bindS hm
        refine QJ.step (y_call Try.call123 rfl (RetG.quiet fun w hw => ok_i_ValidRibbon h20 w )) rfl ?_
        refine QJ.step (YldS.yld (y_not rfl)) rfl ?_
        refine QJ.done ?_
        refine PJ.next ?_
        refine WJ.cond (t := !r19) rfl (fun hb21 => ?_) (fun hb21 => ?_)
        · replace hm := ifT hm hb21
          refine WJ.seq ?_
          refine WJ.quiet ?_
          refine QJ.step (YldS.yld (y_assign rfl)) rfl ?_
          refine QJ.step (YldS.yld (y_assign rfl)) rfl ?_
          refine QJ.step (YldS.yld (y_assign rfl)) rfl ?_
          refine QJ.done ?_
          refine PJ.next ?_
          refine WJ.ret ?_
          refine PJ.block_ret (PJ.then_ret (PJ.then_ret (PJ.block_ret (PJ.then_ret ?_))))
          obtain rfl := Option.some.inj hm
          refine PJ.sel (L' := []) [] ⟨List.nodup_nil, rfl⟩ ?_
          exact PJ.retn (vs := [.int .i64 0, .int .i64 0, .int .i64 1]) Try.results43 ⟨rfl, rfl, rfl, trivial⟩ ⟨rfl, rfl⟩
        · replace hm := ifF hm hb21
          refine WJ.skip ?_
          refine PJ.block_normal (PJ.next ?_)
          refine WJ.quiet ?_
          refine QJ.step (YldS.yld (y_bin rfl rfl rfl)) rfl ?_
          refine QJ.step (YldS.yld (y_move rfl)) rfl ?_
          refine QJ.done ?_
          exact PJ.round (w64 (x11 + 1)) [] hm ⟨rfl, rfl, rfl, rfl, rfl, rfl, rfl, trivial⟩ ⟨List.nodup_nil, rfl⟩
      · replace hm := ifF hm hb12
        refine WJ.exit ?_
        refine PJ.then_exit (PJ.then_exit (PJ.block_exit ?_))
        exact PJ.joined () [] hm ⟨rfl, rfl, rfl, rfl, trivial⟩ ⟨List.nodup_nil, rfl⟩
  · rintro _ hm
    subst hk10
    refine WJ.seq ?_
    refine WJ.seq ?_
    refine WJ.quiet ?_
    refine QJ.step (YldS.yld (y_move rfl)) rfl ?_
    obtain ⟨r22, h23, hm⟩ := bindS hm
    refine QJ.step (y_call Try.call135 rfl (RetG.quiet fun w hw => ok_i_isUse h23 w )) rfl ?_
    refine QJ.step (YldS.yld (y_not rfl)) rfl ?_
    refine QJ.step (YldS.yld (y_move rfl)) rfl ?_
    obtain ⟨t24, h25, hm⟩ := bindS hm
    refine QJ.cut 4 [(0, v2), (1, v5), (2, .int .i64 strokes7), (3, .int .i64 least8), (37, .bool t24)] ?_ ?_
    · rcases Bool.eq_false_or_eq_true (!r22) with hb26 | hb26
      · obtain rfl := orT h25 hb26
        refine QJ.off rfl rfl (cB hb26) rfl rfl ?_
        refine QJ.off rfl rfl (cB hb26) rfl rfl ?_
        refine QJ.off rfl rfl (cB hb26) rfl rfl ?_
        refine QJ.step (YldS.yld (y_pick_t (cB hb26) rfl)) rfl ?_
        exact QJ.cut_end ⟨rfl, rfl, rfl, rfl, rfl, trivial⟩
      · replace h25 := orF h25 hb26
        refine QJ.on rfl rfl (cB hb26) (YldS.yld (y_move rfl)) rfl ?_
        obtain ⟨r27, h28, h25⟩ := bindS h25
        refine QJ.on rfl rfl (cB hb26) (y_call Try.call107 rfl (RetG.quiet fun w hw => ok_i_between h28 w )) rfl ?_
        refine QJ.on rfl rfl (cB hb26) (YldS.yld (y_not rfl)) rfl ?_
        refine QJ.step (YldS.yld (y_pick_f (cB hb26) rfl)) rfl ?_
        obtain rfl := Option.some.inj h25
        exact QJ.cut_end ⟨rfl, rfl, rfl, rfl, rfl, trivial⟩
    refine QJ.step (YldS.yld (y_move rfl)) rfl ?_
    obtain ⟨t29, h30, hm⟩ := bindS hm
    refine QJ.cut 4 [(0, v2), (1, v5), (2, .int .i64 strokes7), (3, .int .i64 least8), (42, .bool t29)] ?_ ?_
    · rcases Bool.eq_false_or_eq_true t24 with hb31 | hb31
      · obtain rfl := orT h30 hb31
        refine QJ.off rfl rfl (cB hb31) rfl rfl ?_
        refine QJ.off rfl rfl (cB hb31) rfl rfl ?_
        refine QJ.off rfl rfl (cB hb31) rfl rfl ?_
        refine QJ.step (YldS.yld (y_pick_t (cB hb31) rfl)) rfl ?_
        exact QJ.cut_end ⟨rfl, rfl, rfl, rfl, rfl, trivial⟩
      · replace h30 := orF h30 hb31
        refine QJ.on rfl rfl (cB hb31) (YldS.yld (y_move rfl)) rfl ?_
        refine QJ.on rfl rfl (cB hb31) (YldS.yld (y_lenS Try.runUnderlying69 hr3 rfl)) rfl ?_
        refine QJ.on rfl rfl (cB hb31) (YldS.yld (y_bin rfl rfl rfl)) rfl ?_
        refine QJ.step (YldS.yld (y_pick_f (cB hb31) rfl)) rfl ?_
        obtain rfl := Option.some.inj h30
        exact QJ.cut_end ⟨rfl, rfl, rfl, rfl, rfl, trivial⟩
    refine QJ.step (YldS.yld (y_move rfl)) rfl ?_
    obtain ⟨t32, h33, hm⟩ := bindS hm
    refine QJ.cut 6 [(0, v2), (1, v5), (2, .int .i64 strokes7), (3, .int .i64 least8), (49, .bool t32)] ?_ ?_
    · rcases Bool.eq_false_or_eq_true t29 with hb34 | hb34
      · obtain rfl := orT h33 hb34
        refine QJ.off rfl rfl (cB hb34) rfl rfl ?_
        refine QJ.off rfl rfl (cB hb34) rfl rfl ?_
        refine QJ.off rfl rfl (cB hb34) rfl rfl ?_
        refine QJ.off rfl rfl (cB hb34) rfl rfl ?_
        refine QJ.off rfl rfl (cB hb34) rfl rfl ?_
        refine QJ.step (YldS.yld (y_pick_t (cB hb34) rfl)) rfl ?_
        exact QJ.cut_end ⟨rfl, rfl, rfl, rfl, rfl, trivial⟩
      · replace h33 := orF h33 hb34
        refine QJ.on rfl rfl (cB hb34) (YldS.yld (y_move rfl)) rfl ?_
        refine QJ.on rfl rfl (cB hb34) (YldS.yld (y_lenS Try.runUnderlying66 hr6 rfl)) rfl ?_
        refine QJ.on rfl rfl (cB hb34) (YldS.yld (y_move rfl)) rfl ?_
        refine QJ.on rfl rfl (cB hb34) (YldS.yld (y_lenS Try.runUnderlying69 hr3 rfl)) rfl ?_
        refine QJ.on rfl rfl (cB hb34) (YldS.yld (y_bin rfl rfl rfl)) rfl ?_
        refine QJ.step (YldS.yld (y_pick_f (cB hb34) rfl)) rfl ?_
        obtain rfl := Option.some.inj h33
        exact QJ.cut_end ⟨rfl, rfl, rfl, rfl, rfl, trivial⟩
    refine QJ.done ?_
    refine PJ.next ?_
    refine WJ.cond (t := t32) rfl (fun hb35 => ?_) (fun hb35 => ?_)
    · replace hm := ifT hm hb35
      refine WJ.seq ?_
      refine WJ.quiet ?_
      refine QJ.step (YldS.yld (y_assign rfl)) rfl ?_
      refine QJ.step (YldS.yld (y_assign rfl)) rfl ?_
      refine QJ.step (YldS.yld (y_assign rfl)) rfl ?_
      refine QJ.done ?_
      refine PJ.next ?_
      refine WJ.ret ?_
      refine PJ.then_ret ?_
      obtain rfl := Option.some.inj hm
      refine PJ.sel (L' := []) [] ⟨List.nodup_nil, rfl⟩ ?_
      exact PJ.retn (vs := [.int .i64 0, .int .i64 0, .int .i64 2]) Try.results43 ⟨rfl, rfl, rfl, trivial⟩ ⟨rfl, rfl⟩
    · replace hm := ifF hm hb35
      refine WJ.skip ?_
      refine PJ.next ?_
      obtain ⟨kj36, hk37, hm⟩ := withK_open hm
      refine WJ.join (X := Unit) (fun (_ : Unit) => kj36  = some r) (fun (_ : Unit) => [(0, v2), (1, v5), (2, .int .i64 strokes7), (3, .int .i64 least8)]) (fun (_ : Unit) => []) ?_ ?_
      · clear hk37
        refine WJ.seq ?_
        refine WJ.quiet ?_
        refine QJ.step (YldS.yld (y_move rfl)) rfl ?_
        refine QJ.step (YldS.yld (y_lenS Try.runUnderlying66 hr6 rfl)) rfl ?_
        refine QJ.step (YldS.yld (y_move rfl)) rfl ?_
        refine QJ.done ?_
        refine PJ.next ?_
        refine WJ.block ?_
        refine WJ.sel (L' := (fun (x : Int) => []) 0) [] ⟨List.nodup_nil, rfl⟩ ?_
        refine WJ.sub (m' := (fun (x : Int) => [(0, v2), (1, v5), (2, .int .i64 strokes7), (3, .int .i64 least8), (50, v5), (51, .int .i64 (List.length prices4 : Int)), (52, .int .i64 x)]) 0) ⟨rfl, rfl, rfl, rfl, rfl, rfl, rfl, trivial⟩ ?_
        refine WJ.loop (X := Int) (fun N (x : Int) => i_BestRibbon_l2 kj36 prices4 N x = some r) (fun (x : Int) => [(0, v2), (1, v5), (2, .int .i64 strokes7), (3, .int .i64 least8), (50, v5), (51, .int .i64 (List.length prices4 : Int)), (52, .int .i64 x)]) (fun (x : Int) => []) ?_ N 0 hm
        · rintro N x38 hI
          have hm := hI; clear hI
          cases N with
          | zero => cases hm
          | succ N =>
          unfold i_BestRibbon_l2 at hm
          refine WJ.seq ?_
          refine WJ.quiet ?_
          refine QJ.step (YldS.yld (y_bin rfl rfl rfl)) rfl ?_
          refine QJ.done ?_
          refine PJ.next ?_
          refine WJ.seq ?_
          refine WJ.cond (t := decide (x38 < (List.length prices4 : Int))) rfl (fun hb39 => ?_) (fun hb39 => ?_)
          · replace hm := ifT hm hb39
            refine WJ.skip ?_
            refine PJ.next ?_
            refine WJ.seq ?_
            refine WJ.block ?_
            refine WJ.seq ?_
            refine WJ.quiet ?_
            obtain ⟨e40, h41, hm⟩ := bindS hm
            obtain ⟨ad42, _, rfl, ha43, hy44⟩ := hr6.elem h41
            refine QJ.step (YldS.yld (hy44 Try.runUnderlying66 Try.sizeOf2 rfl rfl)) rfl ?_
            refine QJ.step (YldS.yld (y_load1 (v := .int .i64 e40) Try.isAgg2 ha43 St.frozenC rfl)) rfl ?_
            refine QJ.step (YldS.yld (y_assign rfl)) rfl ?_
            refine QJ.done ?_
            refine PJ.next ?_
            refine WJ.seq ?_
            refine WJ.quiet ?_
            refine QJ.step (YldS.yld (y_move rfl)) rfl ?_
            obtain ⟨r45, h46, hm⟩ := bindS hm
            refine QJ.step (y_call Try.call107 rfl (RetG.quiet fun w hw => ok_i_between h46 w )) rfl ?_
            refine QJ.step (YldS.yld (y_not rfl)) rfl ?_
            refine QJ.done ?_
            refine PJ.next ?_
            refine WJ.cond (t := !r45) rfl (fun hb47 => ?_) (fun hb47 => ?_)
            · replace hm := ifT hm hb47
              refine WJ.seq ?_
              refine WJ.quiet ?_
              refine QJ.step (YldS.yld (y_assign rfl)) rfl ?_
              refine QJ.step (YldS.yld (y_assign rfl)) rfl ?_
              refine QJ.step (YldS.yld (y_assign rfl)) rfl ?_
              refine QJ.done ?_
              refine PJ.next ?_
              refine WJ.ret ?_
              refine PJ.block_ret (PJ.then_ret (PJ.then_ret (PJ.block_ret (PJ.then_ret ?_))))
              obtain rfl := Option.some.inj hm
              refine PJ.sel (L' := []) [] ⟨List.nodup_nil, rfl⟩ ?_
              exact PJ.retn (vs := [.int .i64 0, .int .i64 0, .int .i64 2]) Try.results43 ⟨rfl, rfl, rfl, trivial⟩ ⟨rfl, rfl⟩
            · replace hm := ifF hm hb47
              refine WJ.skip ?_
              refine PJ.block_normal (PJ.next ?_)
              refine WJ.quiet ?_
              refine QJ.step (YldS.yld (y_bin rfl rfl rfl)) rfl ?_
              refine QJ.step (YldS.yld (y_move rfl)) rfl ?_
              refine QJ.done ?_
              exact PJ.round (w64 (x38 + 1)) [] hm ⟨rfl, rfl, rfl, rfl, rfl, rfl, rfl, trivial⟩ ⟨List.nodup_nil, rfl⟩
          · replace hm := ifF hm hb39
            refine WJ.exit ?_
            refine PJ.then_exit (PJ.then_exit (PJ.block_exit ?_))
            exact PJ.joined () [] hm ⟨rfl, rfl, rfl, rfl, trivial⟩ ⟨List.nodup_nil, rfl⟩
      · rintro _ hm
        subst hk37
        refine WJ.seq ?_
        refine WJ.quiet ?_
        refine QJ.step (YldS.yld (y_assign rfl)) rfl ?_
        refine QJ.step (YldS.yld (y_assign rfl)) rfl ?_
        refine QJ.done ?_
        refine PJ.next ?_
        obtain ⟨kj50, hk51, hm⟩ := withK_open hm
        refine WJ.join (X := Int × Int) (fun (x : Int × Int) => kj50 x.1 x.2 = some r) (fun (x : Int × Int) => [(15, .int .i64 x.1), (16, .int .i64 x.2)]) (fun (x : Int × Int) => []) ?_ ?_
        · clear hk51
          refine WJ.seq ?_
          refine WJ.quiet ?_
          refine QJ.step (YldS.yld (y_move rfl)) rfl ?_
          refine QJ.step (YldS.yld (y_lenS Try.runUnderlying69 hr3 rfl)) rfl ?_
          refine QJ.step (YldS.yld (y_move rfl)) rfl ?_
          refine QJ.done ?_
          refine PJ.next ?_
          refine WJ.block ?_
          refine WJ.sel (L' := (fun (x : Int × Int × Int) => []) ((-1), 0, 0)) [] ⟨List.nodup_nil, rfl⟩ ?_
          refine WJ.sub (m' := (fun (x : Int × Int × Int) => [(1, v5), (2, .int .i64 strokes7), (3, .int .i64 least8), (15, .int .i64 x.1), (16, .int .i64 x.2.1), (60, v2), (61, .int .i64 (List.length list1 : Int)), (62, .int .i64 x.2.2)]) ((-1), 0, 0)) ⟨rfl, rfl, rfl, rfl, rfl, rfl, rfl, rfl, trivial⟩ ?_
          refine WJ.loop (X := Int × Int × Int) (fun N (x : Int × Int × Int) => i_BestRibbon_l3 kj50 list1 prices4 strokes7 least8 N x.1 x.2.1 x.2.2 = some r) (fun (x : Int × Int × Int) => [(1, v5), (2, .int .i64 strokes7), (3, .int .i64 least8), (15, .int .i64 x.1), (16, .int .i64 x.2.1), (60, v2), (61, .int .i64 (List.length list1 : Int)), (62, .int .i64 x.2.2)]) (fun (x : Int × Int × Int) => []) ?_ N ((-1), 0, 0) hm
          · rintro N ⟨best52, cost53, x54⟩ hI
            have hm := hI; clear hI
            cases N with
            | zero => cases hm
            | succ N =>
            unfold i_BestRibbon_l3 at hm
            refine WJ.seq ?_
            refine WJ.quiet ?_
            refine QJ.step (YldS.yld (y_bin rfl rfl rfl)) rfl ?_
            refine QJ.done ?_
            refine PJ.next ?_
            refine WJ.seq ?_
            refine WJ.cond (t := decide (x54 < (List.length list1 : Int))) rfl (fun hb55 => ?_) (fun hb55 => ?_)
            · replace hm := ifT hm hb55
              refine WJ.skip ?_
              refine PJ.next ?_
              obtain ⟨kj58, hk59, hm⟩ := withK_open hm
              refine WJ.join (X := Int × Int) (fun (x : Int × Int) => kj58 x.1 x.2 = some r) (fun (x : Int × Int) => [(1, v5), (2, .int .i64 strokes7), (3, .int .i64 least8), (15, .int .i64 x.1), (16, .int .i64 x.2), (60, v2), (61, .int .i64 (List.length list1 : Int)), (62, .int .i64 x54)]) (fun (x : Int × Int) => []) ?_ ?_
              · clear hk59
                refine WJ.block ?_
                refine WJ.seq ?_
                refine WJ.reg ?_
                refine SJ.q (YldS.yld (y_move rfl)) rfl ?_
                obtain ⟨e60, h61, hm⟩ := bindS hm
                obtain ⟨ad62, _, rfl, ha63, hy64⟩ := hr3.elem h61
                refine SJ.q (YldS.yld (hy64 Try.runUnderlying69 Try.sizeOf59 rfl rfl)) rfl ?_
                refine SJ.q (YldS.yld (y_loadN Try.isAgg59 Try.sizeOf59 rfl ha63 St.frozenC rfl)) rfl ?_
                refine SJ.alloc (cs := [.int .i64 0, .int .i64 0, .int .i64 0]) Try.zeroValue59 rfl rfl fun g65 => ?_
                refine SJ.q (YldS.yld (y_assign rfl)) rfl ?_
                refine SJ.storeL (k := 0) (off := 0) (us := [.int .i64 e60.spots, .int .i64 e60.ink, .int .i64 e60.takes]) rfl rfl rfl rfl Try.sizeOf59 rfl rfl ?_
                refine SJ.nil ?_
                refine PJ.next ?_
                refine WJ.seq ?_
                refine WJ.seq ?_
                refine WJ.quiet ?_
                refine QJ.step (YldS.yld (y_fldB (o := 0) fld59_1 rfl)) rfl ?_
                refine QJ.step (YldS.yld (y_loadB (k := 0) (off := 1) (v := .int .i64 e60.ink) rfl Try.isAgg2 rfl rfl)) rfl ?_
                refine QJ.step (YldS.yld (y_move rfl)) rfl ?_
                refine QJ.step (YldS.yld (y_bin rfl rfl rfl)) rfl ?_
                refine QJ.done ?_
                refine PJ.next ?_
                refine WJ.cond (t := decide (e60.ink < least8)) rfl (fun hb66 => ?_) (fun hb66 => ?_)
                · replace hm := ifT hm hb66
                  refine WJ.exit ?_
                  refine PJ.then_exit (PJ.block_exit ?_)
                  exact PJ.joined (best52, cost53) [] hm ⟨rfl, rfl, rfl, rfl, rfl, rfl, rfl, rfl, trivial⟩ ⟨List.nodup_nil, rfl⟩
                · replace hm := ifF hm hb66
                  refine WJ.skip ?_
                  refine PJ.next ?_
                  refine WJ.seq ?_
                  refine WJ.quiet_draw follows (by kernel_rfl) ?_
                  refine QJ.step (YldS.yld (y_move rfl)) rfl ?_
                  refine QJ.step (YldS.yld (y_move rfl)) rfl ?_
                  obtain ⟨e67, h68, hm⟩ := bindS hm
                  obtain ⟨ad69, _, rfl, ha70, hy71⟩ := hr6.elem h68
                  refine QJ.step (YldS.yld (hy71 Try.runUnderlying66 Try.sizeOf2 rfl rfl)) rfl ?_
                  refine QJ.step (YldS.yld (y_load1 (v := .int .i64 e67) Try.isAgg2 ha70 St.frozenC rfl)) rfl ?_
                  refine QJ.step (YldS.yld (y_loadBN (k := 0) (off := 0) (us := [.int .i64 e60.spots, .int .i64 e60.ink, .int .i64 e60.takes]) rfl Try.isAgg59 Try.sizeOf59 rfl rfl)) rfl ?_
                  refine QJ.step (YldS.yld (y_move rfl)) rfl ?_
                  refine QJ.step (YldS.yld (y_move rfl)) rfl ?_
                  obtain ⟨r72, h73, hm⟩ := bindS hm
                  refine QJ.step (y_call Try.call136 rfl (RetG.quiet fun w hw => ok_i_Ribbon_needed h73 w )) rfl ?_
                  refine QJ.step (YldS.yld (y_bin rfl rfl rfl)) rfl ?_
                  refine QJ.step (YldS.yld (y_assign rfl)) rfl ?_
                  refine QJ.done ?_
                  refine PJ.next ?_
                  refine WJ.seq ?_
                  refine WJ.quiet ?_
                  refine QJ.step (YldS.yld (y_move rfl)) rfl ?_
                  refine QJ.step (YldS.yld (y_bin rfl rfl rfl)) rfl ?_
                  refine QJ.step (YldS.yld (y_move rfl)) rfl ?_
                  obtain ⟨t74, h75, hm⟩ := bindS hm
                  refine QJ.cut 4 [(1, v5), (2, .int .i64 strokes7), (3, .int .i64 least8), (15, .int .i64 best52), (16, .int .i64 cost53), (17, .int .i64 x54), (19, .int .i64 (w64 (e67 * r72))), (60, v2), (61, .int .i64 (List.length list1 : Int)), (62, .int .i64 x54), (86, .bool t74)] ?_ ?_
                  · rcases Bool.eq_false_or_eq_true (decide (best52 < 0)) with hb76 | hb76
                    · obtain rfl := orT h75 hb76
                      refine QJ.off rfl rfl (cB hb76) rfl rfl ?_
                      refine QJ.off rfl rfl (cB hb76) rfl rfl ?_
                      refine QJ.off rfl rfl (cB hb76) rfl rfl ?_
                      refine QJ.step (YldS.yld (y_pick_t (cB hb76) rfl)) rfl ?_
                      exact QJ.cut_end ⟨rfl, rfl, rfl, rfl, rfl, rfl, rfl, rfl, rfl, rfl, rfl, trivial⟩
                    · replace h75 := orF h75 hb76
                      refine QJ.on rfl rfl (cB hb76) (YldS.yld (y_move rfl)) rfl ?_
                      refine QJ.on rfl rfl (cB hb76) (YldS.yld (y_move rfl)) rfl ?_
                      refine QJ.on rfl rfl (cB hb76) (YldS.yld (y_bin rfl rfl rfl)) rfl ?_
                      refine QJ.step (YldS.yld (y_pick_f (cB hb76) rfl)) rfl ?_
                      obtain rfl := Option.some.inj h75
                      exact QJ.cut_end ⟨rfl, rfl, rfl, rfl, rfl, rfl, rfl, rfl, rfl, rfl, rfl, trivial⟩
                  refine QJ.done ?_
                  refine PJ.next ?_
                  refine WJ.cond (t := t74) rfl (fun hb77 => ?_) (fun hb77 => ?_)
                  · replace hm := ifT hm hb77
                    refine WJ.quiet ?_
                    refine QJ.step (YldS.yld (y_move rfl)) rfl ?_
                    refine QJ.step (YldS.yld (y_move rfl)) rfl ?_
                    refine QJ.step (YldS.yld (y_assign rfl)) rfl ?_
                    refine QJ.step (YldS.yld (y_assign rfl)) rfl ?_
                    refine QJ.done ?_
                    refine PJ.block_normal ?_
                    exact PJ.joined (x54, w64 (e67 * r72)) [] hm ⟨rfl, rfl, rfl, rfl, rfl, rfl, rfl, rfl, trivial⟩ ⟨List.nodup_nil, rfl⟩
                  · replace hm := ifF hm hb77
                    refine WJ.skip ?_
                    refine PJ.block_normal ?_
                    exact PJ.joined (best52, cost53) [] hm ⟨rfl, rfl, rfl, rfl, rfl, rfl, rfl, rfl, trivial⟩ ⟨List.nodup_nil, rfl⟩
              · rintro ⟨best56, cost57⟩ hm
                subst hk59
                refine WJ.quiet ?_
                refine QJ.step (YldS.yld (y_bin rfl rfl rfl)) rfl ?_
                refine QJ.step (YldS.yld (y_move rfl)) rfl ?_
                refine QJ.done ?_
                exact PJ.round (best56, cost57, w64 (x54 + 1)) [] hm ⟨rfl, rfl, rfl, rfl, rfl, rfl, rfl, rfl, trivial⟩ ⟨List.nodup_nil, rfl⟩
            · replace hm := ifF hm hb55
              refine WJ.exit ?_
              refine PJ.then_exit (PJ.then_exit (PJ.block_exit ?_))
              exact PJ.joined (best52, cost53) [] hm ⟨rfl, rfl, trivial⟩ ⟨List.nodup_nil, rfl⟩
        · rintro ⟨best48, cost49⟩ hm
          subst hk51
          refine WJ.seq ?_
          refine WJ.seq ?_
          refine WJ.quiet ?_
          refine QJ.step (YldS.yld (y_move rfl)) rfl ?_
          refine QJ.step (YldS.yld (y_bin rfl rfl rfl)) rfl ?_
          refine QJ.done ?_
          refine PJ.next ?_
          refine WJ.cond (t := decide (best48 < 0)) rfl (fun hb78 => ?_) (fun hb78 => ?_)
          · replace hm := ifT hm hb78
            refine WJ.seq ?_
            refine WJ.quiet ?_
            refine QJ.step (YldS.yld (y_assign rfl)) rfl ?_
            refine QJ.step (YldS.yld (y_assign rfl)) rfl ?_
            refine QJ.step (YldS.yld (y_assign rfl)) rfl ?_
            refine QJ.done ?_
            refine PJ.next ?_
            refine WJ.ret ?_
            refine PJ.then_ret ?_
            obtain rfl := Option.some.inj hm
            refine PJ.sel (L' := []) [] ⟨List.nodup_nil, rfl⟩ ?_
            exact PJ.retn (vs := [.int .i64 0, .int .i64 0, .int .i64 3]) Try.results43 ⟨rfl, rfl, rfl, trivial⟩ ⟨rfl, rfl⟩
          · replace hm := ifF hm hb78
            refine WJ.skip ?_
            refine PJ.next ?_
            refine WJ.seq ?_
            refine WJ.quiet ?_
            refine QJ.step (YldS.yld (y_move rfl)) rfl ?_
            refine QJ.step (YldS.yld (y_move rfl)) rfl ?_
            refine QJ.step (YldS.yld (y_assign rfl)) rfl ?_
            refine QJ.step (YldS.yld (y_assign rfl)) rfl ?_
            refine QJ.step (YldS.yld (y_assign rfl)) rfl ?_
            refine QJ.done ?_
            refine PJ.next ?_
            refine WJ.ret ?_
            obtain rfl := Option.some.inj hm
            refine PJ.sel (L' := []) [] ⟨List.nodup_nil, rfl⟩ ?_
            exact PJ.retn (vs := [.int .i64 best48, .int .i64 cost49, .int .i64 0]) Try.results43 ⟨rfl, rfl, rfl, trivial⟩ ⟨rfl, rfl⟩

set_option maxRecDepth 100000 in
set_option maxHeartbeats 1000000 in
theorem ok_s_l14Many {N : Nat} {r1 : Ribbon} {strokes2 : Int} {least3 : Int} {r : Int} (hm : s_l14Many N r1 strokes2 least3 = some r) (w : World)  :
    Calls Try.prog 138 #[.agg (Ribbon.enc r1).toArray, .int .i64 strokes2, .int .i64 least3] w (Ret (cx w) (.int .i64 r)) := by
  unfold s_l14Many at hm
  refine Calls.enter [.agg (Ribbon.enc r1).toArray, .int .i64 strokes2, .int .i64 least3] Try.func138 rfl Try.ntmps138 rfl ?_
  refine WJ.seq ?_
  refine WJ.reg ?_
  refine SJ.box (cs := [.int .i64 r1.spots, .int .i64 r1.ink, .int .i64 r1.takes]) rfl rfl rfl fun g4 => ?_
  refine SJ.q (YldS.yld (y_assign rfl)) rfl ?_
  refine SJ.nil ?_
  refine PJ.next ?_
  refine WJ.seq ?_
  refine WJ.quiet ?_
  refine QJ.step (YldS.yld (y_loadBN (k := 0) (off := 0) (us := [.int .i64 r1.spots, .int .i64 r1.ink, .int .i64 r1.takes]) rfl Try.isAgg59 Try.sizeOf59 rfl rfl)) rfl ?_
  refine QJ.step (YldS.yld (y_move rfl)) rfl ?_
  obtain ⟨r5, h6, hm⟩ := bindS hm
  refine QJ.step (y_call Try.call126 rfl (RetG.quiet fun w hw => ok_s_l14Until h6 w )) rfl ?_
  refine QJ.step (YldS.yld (y_assign rfl)) rfl ?_
  refine QJ.done ?_
  refine PJ.next ?_
  refine WJ.seq ?_
  refine WJ.quiet ?_
  refine QJ.step (YldS.yld (y_move rfl)) rfl ?_
  refine QJ.step (YldS.yld (y_move rfl)) rfl ?_
  refine QJ.step (YldS.yld (y_bin rfl rfl rfl)) rfl ?_
  refine QJ.step (YldS.yld (y_bin rfl rfl rfl)) rfl ?_
  refine QJ.step (YldS.yld (y_move rfl)) rfl ?_
  obtain ⟨q7, h8, hm⟩ := bindS hm
  refine QJ.step (YldS.yld (y_quo' h8 rfl rfl)) rfl ?_
  refine QJ.step (YldS.yld (y_assign rfl)) rfl ?_
  refine QJ.done ?_
  refine PJ.next ?_
  refine WJ.ret ?_
  obtain rfl := Option.some.inj hm
  refine PJ.sel (L' := []) [] ⟨List.nodup_nil, rfl⟩ ?_
  exact PJ.retn (vs := [.int .i64 q7]) Try.results138 ⟨rfl, trivial⟩ ⟨rfl, rfl⟩

end Go.Proofs.Ytoojddajhalimaa
