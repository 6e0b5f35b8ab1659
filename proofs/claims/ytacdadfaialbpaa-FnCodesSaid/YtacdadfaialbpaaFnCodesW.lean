/-
  The walks: a call hands back what its plain function computes, where that has a value. No other conditions.
-/
import Derived.Test.YtacdadfaialbpaaFnCodesM
import Derived.Test.YtacdadfaialbpaaChecked
import Derived.Test.YtacdadfaialbpaaFnCodesS
namespace Go.Proofs.Ytacdadfaialbpaa
open Go.RowKit Go.Proofs
set_option linter.unusedVariables false
set_option linter.unusedSimpArgs false

theorem follows : Try.prog.follows .mixedOrders = true := by kernel_rfl

def shL00Src : Sh L00Src UInt8 3 := ⟨fun v x => [v, .int .i64 x.at_, .int .u64 x.seed], fun x => x.code, 0, fun _ _ => rfl, fun _ _ => rfl, fun v x hv u hu => by
  simp only [List.mem_cons, List.not_mem_nil, or_false] at hu
  rcases hu with rfl | rfl | rfl <;> first | rfl | exact hv, by decide⟩

def Ambiguity.enc (x : Ambiguity) : List Value := [str x.text, str x.rest]
def fAmbiguity : FRp Ambiguity := ⟨2, Ambiguity.enc, fun _ => rfl, by decide, fun x u hu => by
  simp only [Ambiguity.enc, List.mem_cons, List.not_mem_nil, or_false] at hu
  rcases hu with rfl | rfl <;> rfl⟩

theorem pl56 : PlacesOk Try.prog 56 [(0, 1), (1, 1), (2, 1)] := ⟨_, Try.runUnderlying56, fun w => by simp [Try.sizeOf3, Try.sizeOf22, Try.sizeOf54]⟩
theorem fld56_1 : FieldOk Try.prog 56 1 1 3 0 := ⟨_, _, Try.runUnderlying56, rfl, rfl, rfl, Try.sizeOf3⟩
theorem fld56_0 : FieldOk Try.prog 56 0 0 22 0 := ⟨_, _, Try.runUnderlying56, rfl, rfl, rfl, Try.sizeOf22⟩
theorem fld56_2 : FieldOk Try.prog 56 2 2 54 0 := ⟨_, _, Try.runUnderlying56, rfl, rfl, rfl, Try.sizeOf54⟩
set_option maxRecDepth 100000 in
theorem el5 : ElemOk Try.prog 5 1 (fByte.enc 0) := ⟨_, _, Try.type5, rfl, rfl, rfl, by decide⟩
set_option maxRecDepth 100000 in
theorem el9 : ElemOk Try.prog 9 1 (fStr.enc []) := ⟨_, _, Try.type9, rfl, rfl, rfl, by decide⟩
theorem pl60 : PlacesOk Try.prog 60 [(0, 1), (1, 1)] := ⟨_, Try.runUnderlying60, fun w => by simp [Try.sizeOf9]⟩
set_option maxRecDepth 100000 in
theorem el60 : ElemOk Try.prog 60 2 (fAmbiguity.enc (Ambiguity.mk [] [])) := ⟨_, _, Try.type60, rfl, rfl, rfl, by decide⟩
theorem fld60_0 : FieldOk Try.prog 60 0 0 9 0 := ⟨_, _, Try.runUnderlying60, rfl, rfl, rfl, Try.sizeOf9⟩
theorem fld60_1 : FieldOk Try.prog 60 1 1 9 0 := ⟨_, _, Try.runUnderlying60, rfl, rfl, rfl, Try.sizeOf9⟩
theorem sortT20 : SortT Try.prog 20 := ⟨fun q c w => Try.sort_Strings_none q c w, fun blk off cap ss w hH hb hs => Try.sort_Strings blk off cap ss w hH hb hs⟩
set_option maxRecDepth 100000 in
theorem el2 : ElemOk Try.prog 2 1 (fI64.enc 0) := ⟨_, _, Try.type2, rfl, rfl, rfl, by decide⟩

set_option maxRecDepth 100000 in
set_option maxHeartbeats 1000000 in
theorem ok_w_a2Long {code1 : List UInt8} {more4 : List UInt8} {r : Bool} (hm : w_a2Long code1 more4 = some r) (w : World) (v2 : Value) (hr3 : RdS w (cx w).Fz v2 fByte.rp code1) (v5 : Value) (hr6 : RdS w (cx w).Fz v5 fByte.rp more4) :
    Calls Try.prog 4 #[v2, v5] w (Ret (cx w) (.bool r)) := by
  unfold w_a2Long at hm
  refine Calls.enter [v2, v5] Try.func4 rfl Try.ntmps4 rfl ?_
  refine WJ.seq ?_
  refine WJ.quiet ?_
  refine QJ.step (YldS.yld (y_assign rfl)) rfl ?_
  refine QJ.done ?_
  refine PJ.next ?_
  refine WJ.seq ?_
  refine WJ.quiet ?_
  refine QJ.step (YldS.yld (y_move rfl)) rfl ?_
  refine QJ.step (YldS.yld (y_lenS Try.runUnderlying22 hr3 rfl)) rfl ?_
  refine QJ.step (YldS.yld (y_bin rfl rfl rfl)) rfl ?_
  refine QJ.step (YldS.yld (y_move rfl)) rfl ?_
  obtain ⟨t7, h8, hm⟩ := bindS hm
  refine QJ.cut 4 [(12, .bool t7)] ?_ ?_
  · rcases Bool.eq_false_or_eq_true (decide ((List.length code1 : Int) > 3000)) with hb9 | hb9
    · obtain rfl := orT h8 hb9
      refine QJ.off rfl rfl (cB hb9) rfl rfl ?_
      refine QJ.off rfl rfl (cB hb9) rfl rfl ?_
      refine QJ.off rfl rfl (cB hb9) rfl rfl ?_
      refine QJ.step (YldS.yld (y_pick_t (cB hb9) rfl)) rfl ?_
      exact QJ.cut_end ⟨rfl, trivial⟩
    · replace h8 := orF h8 hb9
      refine QJ.on rfl rfl (cB hb9) (YldS.yld (y_move rfl)) rfl ?_
      refine QJ.on rfl rfl (cB hb9) (YldS.yld (y_lenS Try.runUnderlying22 hr6 rfl)) rfl ?_
      refine QJ.on rfl rfl (cB hb9) (YldS.yld (y_bin rfl rfl rfl)) rfl ?_
      refine QJ.step (YldS.yld (y_pick_f (cB hb9) rfl)) rfl ?_
      obtain rfl := Option.some.inj h8
      exact QJ.cut_end ⟨rfl, trivial⟩
  refine QJ.step (YldS.yld (y_assign rfl)) rfl ?_
  refine QJ.done ?_
  refine PJ.next ?_
  refine WJ.ret ?_
  obtain rfl := Option.some.inj hm
  refine PJ.sel (L' := []) [] ⟨List.nodup_nil, rfl⟩ ?_
  exact PJ.retn (vs := [.bool t7]) Try.results4 ⟨rfl, trivial⟩ ⟨rfl, rfl⟩

set_option maxRecDepth 100000 in
set_option maxHeartbeats 1000000 in
theorem ok_s_l00From {code1 : List UInt8} {r : L00Src} (hm : s_l00From code1 = some r) (w : World) (v2 : Value) (hr3 : RdS w (cx w).Fz v2 fByte.rp code1) :
    Calls Try.prog 16 #[v2] w (RetG (cx w) fun u L => ∃ (u1 : Nat), (u = pt u1 0 ∧ L = [box u1 56 [v2, .int .i64 r.at_, .int .u64 r.seed]])) := by
  unfold s_l00From at hm
  refine Calls.enter [v2] Try.func16 rfl Try.ntmps16 rfl ?_
  refine WJ.seq ?_
  refine WJ.quiet ?_
  refine QJ.step (YldS.yld (y_assign rfl)) rfl ?_
  refine QJ.done ?_
  refine PJ.next ?_
  refine WJ.seq ?_
  refine WJ.reg ?_
  refine SJ.q (YldS.yld (y_move rfl)) rfl ?_
  refine SJ.q (YldS.yld (y_build (parts := [(0, .tmp 3)]) (places := [(0, 1), (1, 1), (2, 1)]) (r := [v2, .int .i64 0, .int .u64 0]) pl56 Try.zeroValue56 rfl rfl (show _ = [(0, [v2])] from by simp only [List.map, RdS.cells1 hr3]) rfl)) rfl ?_
  refine SJ.box (cs := [v2, .int .i64 0, .int .u64 0]) rfl rfl rfl fun g4 => ?_
  refine SJ.q (YldS.yld (y_assign rfl)) rfl ?_
  refine SJ.nil ?_
  refine PJ.next ?_
  refine WJ.ret ?_
  obtain rfl := Option.some.inj hm
  refine PJ.sel (L' := [box g4 56 [v2, .int .i64 0, .int .u64 0]]) [0] ⟨by decide, rfl⟩ ?_
  exact PJ.retn (vs := [pt g4 0]) Try.results16 ⟨rfl, trivial⟩ ⟨_, rfl, rfl⟩

set_option maxRecDepth 100000 in
set_option maxHeartbeats 1000000 in
theorem ok_s_l00Src_next {s1 : L00Src} {g2 : Nat} {r : Int × L00Src} (hm : s_l00Src_next s1 = some r) (w : World) (S : Nat → Prop) (v3 : Value) (hr4 : RdS w (Cx.Fz ⟨w, S⟩) v3 fByte.rp s1.code) (hA : (box g2 56 [v3, .int .i64 s1.at_, .int .u64 s1.seed]).holds w S) :
    Calls Try.prog 31 #[pt g2 0] w (RetG ⟨w, S⟩ fun u L => (u = .int .i64 r.1 ∧ L = [box g2 56 [v3, .int .i64 r.2.at_, .int .u64 r.2.seed]])) := by
  unfold s_l00Src_next at hm
  refine Calls.enter1 hA [pt g2 0] Try.func31 rfl Try.ntmps31 rfl ?_
  refine WJ.seq ?_
  refine WJ.quiet ?_
  refine QJ.step (YldS.yld (y_assign rfl)) rfl ?_
  refine QJ.done ?_
  refine PJ.next ?_
  refine WJ.seq ?_
  refine WJ.quiet ?_
  refine QJ.step (YldS.yld (y_assign rfl)) rfl ?_
  refine QJ.done ?_
  refine PJ.next ?_
  obtain ⟨kj6, hk7, hm⟩ := withK_open hm
  refine WJ.join (X := Int) (fun (x : Int) => kj6 x = some r) (fun (x : Int) => [(0, pt g2 0), (3, .int .i64 x)]) (fun (x : Int) => [box g2 56 [v3, .int .i64 s1.at_, .int .u64 s1.seed]]) ?_ ?_
  · clear hk7
    refine WJ.seq ?_
    refine WJ.quiet_draw follows (by kernel_rfl) ?_
    refine QJ.step (YldS.yld (y_move rfl)) rfl ?_
    refine QJ.step (YldS.yld (y_nil rfl)) rfl ?_
    refine QJ.step (YldS.yld (y_fldB (o := 0) fld56_1 rfl)) rfl ?_
    refine QJ.step (YldS.yld (y_loadB (k := 0) (off := 1) (v := .int .i64 s1.at_) rfl Try.isAgg3 rfl rfl)) rfl ?_
    refine QJ.step (YldS.yld (y_move rfl)) rfl ?_
    refine QJ.step (YldS.yld (y_nil rfl)) rfl ?_
    refine QJ.step (YldS.yld (y_fldB (o := 0) fld56_0 rfl)) rfl ?_
    refine QJ.step (YldS.yld (y_loadB (k := 0) (off := 0) (v := v3) rfl Try.isAgg22 rfl rfl)) rfl ?_
    refine QJ.step (YldS.yld (y_lenS Try.runUnderlying22 hr4 rfl)) rfl ?_
    refine QJ.step (YldS.yld (y_bin rfl rfl rfl)) rfl ?_
    refine QJ.done ?_
    refine PJ.next ?_
    refine WJ.cond (t := decide (s1.at_ < (List.length s1.code : Int))) rfl (fun hb8 => ?_) (fun hb8 => ?_)
    · replace hm := ifT hm hb8
      refine WJ.quiet_draw follows (by kernel_rfl) ?_
      refine QJ.step (YldS.yld (y_move rfl)) rfl ?_
      refine QJ.step (YldS.yld (y_nil rfl)) rfl ?_
      refine QJ.step (YldS.yld (y_fldB (o := 0) fld56_0 rfl)) rfl ?_
      refine QJ.step (YldS.yld (y_loadB (k := 0) (off := 0) (v := v3) rfl Try.isAgg22 rfl rfl)) rfl ?_
      refine QJ.step (YldS.yld (y_move rfl)) rfl ?_
      refine QJ.step (YldS.yld (y_nil rfl)) rfl ?_
      refine QJ.step (YldS.yld (y_fldB (o := 0) fld56_1 rfl)) rfl ?_
      refine QJ.step (YldS.yld (y_loadB (k := 0) (off := 1) (v := .int .i64 s1.at_) rfl Try.isAgg3 rfl rfl)) rfl ?_
      obtain ⟨e9, h10, hm⟩ := bindS hm
      obtain ⟨ad11, _, rfl, ha12, hy13⟩ := hr4.elem h10
      refine QJ.step (YldS.yld (hy13 Try.runUnderlying22 Try.sizeOf5 rfl rfl)) rfl ?_
      refine QJ.step (YldS.yld (y_load1 (v := .int .u8 (UInt8.toNat e9 : Int)) Try.isAgg5 ha12 St.frozenC rfl)) rfl ?_
      refine QJ.step (YldS.yld (y_conv8 Try.runUnderlying5 Try.runUnderlying3 rfl)) rfl ?_
      refine QJ.step (YldS.yld (y_assign rfl)) rfl ?_
      refine QJ.done ?_
      exact PJ.joined (UInt8.toNat e9 : Int) [0] hm ⟨rfl, rfl, trivial⟩ ⟨by decide, rfl⟩
    · replace hm := ifF hm hb8
      refine WJ.skip ?_
      exact PJ.joined 0 [0] hm ⟨rfl, rfl, trivial⟩ ⟨by decide, rfl⟩
  · rintro b5 hm
    subst hk7
    refine WJ.seq ?_
    refine WJ.reg ?_
    refine SJ.q (YldS.yld (y_move rfl)) rfl ?_
    refine SJ.q (YldS.yld (y_nil rfl)) rfl ?_
    refine SJ.q (YldS.yld (y_fldB (o := 0) fld56_1 rfl)) rfl ?_
    refine SJ.q (YldS.yld (y_loadB (k := 0) (off := 1) (v := .int .i64 s1.at_) rfl Try.isAgg3 rfl rfl)) rfl ?_
    refine SJ.q (YldS.yld (y_bin rfl rfl rfl)) rfl ?_
    refine SJ.q (YldS.yld (y_nil rfl)) rfl ?_
    refine SJ.q (YldS.yld (y_fldB (o := 0) fld56_1 rfl)) rfl ?_
    refine SJ.storeL (k := 0) (off := 1) (us := [.int .i64 (w64 (s1.at_ + 1))]) rfl rfl rfl rfl Try.sizeOf3 rfl rfl ?_
    refine SJ.nil ?_
    refine PJ.next ?_
    refine WJ.seq ?_
    refine WJ.reg ?_
    refine SJ.q (YldS.yld (y_move rfl)) rfl ?_
    refine SJ.q (YldS.yld (y_move rfl)) rfl ?_
    refine SJ.q (YldS.yld (y_nil rfl)) rfl ?_
    refine SJ.q (YldS.yld (y_fldB (o := 0) fld56_2 rfl)) rfl ?_
    refine SJ.q (YldS.yld (y_loadB (k := 0) (off := 2) (v := .int .u64 s1.seed) rfl Try.isAgg54 rfl rfl)) rfl ?_
    refine SJ.q (YldS.yld (y_bin rfl rfl rfl)) rfl ?_
    refine SJ.q (YldS.yld (y_move rfl)) rfl ?_
    refine SJ.q (YldS.yld (y_convI Try.runUnderlying3 Try.runUnderlying54 rfl)) rfl ?_
    refine SJ.q (YldS.yld (y_bin rfl rfl rfl)) rfl ?_
    refine SJ.q (YldS.yld (y_bin rfl rfl rfl)) rfl ?_
    refine SJ.q (YldS.yld (y_nil rfl)) rfl ?_
    refine SJ.q (YldS.yld (y_fldB (o := 0) fld56_2 rfl)) rfl ?_
    refine SJ.storeL (k := 0) (off := 2) (us := [.int .u64 (IntKind.u64.wrap ((IntKind.u64.wrap ((IntKind.u64.wrap (s1.seed * 6364136223846793005)) + (IntKind.u64.wrap b5))) + 1442695040888963407))]) rfl rfl rfl rfl Try.sizeOf54 rfl rfl ?_
    refine SJ.nil ?_
    refine PJ.next ?_
    refine WJ.seq ?_
    refine WJ.seq ?_
    refine WJ.quiet_draw follows (by kernel_rfl) ?_
    refine QJ.step (YldS.yld (y_move rfl)) rfl ?_
    refine QJ.step (YldS.yld (y_nil rfl)) rfl ?_
    refine QJ.step (YldS.yld (y_fldB (o := 0) fld56_1 rfl)) rfl ?_
    refine QJ.step (YldS.yld (y_loadB (k := 0) (off := 1) (v := .int .i64 (w64 (s1.at_ + 1))) rfl Try.isAgg3 rfl rfl)) rfl ?_
    refine QJ.step (YldS.yld (y_move rfl)) rfl ?_
    refine QJ.step (YldS.yld (y_nil rfl)) rfl ?_
    refine QJ.step (YldS.yld (y_fldB (o := 0) fld56_0 rfl)) rfl ?_
    refine QJ.step (YldS.yld (y_loadB (k := 0) (off := 0) (v := v3) rfl Try.isAgg22 rfl rfl)) rfl ?_
    refine QJ.step (YldS.yld (y_lenS Try.runUnderlying22 hr4 rfl)) rfl ?_
    refine QJ.step (YldS.yld (y_bin rfl rfl rfl)) rfl ?_
    refine QJ.done ?_
    refine PJ.next ?_
    refine WJ.cond (t := decide ((w64 (s1.at_ + 1)) ≤ (List.length s1.code : Int))) rfl (fun hb14 => ?_) (fun hb14 => ?_)
    · replace hm := ifT hm hb14
      refine WJ.seq ?_
      refine WJ.quiet ?_
      refine QJ.step (YldS.yld (y_move rfl)) rfl ?_
      refine QJ.step (YldS.yld (y_assign rfl)) rfl ?_
      refine QJ.done ?_
      refine PJ.next ?_
      refine WJ.ret ?_
      refine PJ.then_ret ?_
      obtain rfl := Option.some.inj hm
      refine PJ.sel (L' := [box g2 56 [v3, .int .i64 (w64 (s1.at_ + 1)), .int .u64 (IntKind.u64.wrap ((IntKind.u64.wrap ((IntKind.u64.wrap (s1.seed * 6364136223846793005)) + (IntKind.u64.wrap b5))) + 1442695040888963407))]]) [0] ⟨by decide, rfl⟩ ?_
      exact PJ.retn (vs := [.int .i64 b5]) Try.results31 ⟨rfl, trivial⟩ ⟨rfl, rfl⟩
    · replace hm := ifF hm hb14
      refine WJ.skip ?_
      refine PJ.next ?_
      refine WJ.seq ?_
      refine WJ.quiet ?_
      refine QJ.step (YldS.yld (y_move rfl)) rfl ?_
      refine QJ.step (YldS.yld (y_nil rfl)) rfl ?_
      refine QJ.step (YldS.yld (y_fldB (o := 0) fld56_2 rfl)) rfl ?_
      refine QJ.step (YldS.yld (y_loadB (k := 0) (off := 2) (v := .int .u64 (IntKind.u64.wrap ((IntKind.u64.wrap ((IntKind.u64.wrap (s1.seed * 6364136223846793005)) + (IntKind.u64.wrap b5))) + 1442695040888963407))) rfl Try.isAgg54 rfl rfl)) rfl ?_
      refine QJ.step (YldS.yld (y_shru rfl rfl rfl)) rfl ?_
      refine QJ.step (YldS.yld (y_andu rfl rfl rfl)) rfl ?_
      refine QJ.step (YldS.yld (y_convI Try.runUnderlying54 Try.runUnderlying2 rfl)) rfl ?_
      refine QJ.step (YldS.yld (y_assign rfl)) rfl ?_
      refine QJ.done ?_
      refine PJ.next ?_
      refine WJ.ret ?_
      obtain rfl := Option.some.inj hm
      refine PJ.sel (L' := [box g2 56 [v3, .int .i64 (w64 (s1.at_ + 1)), .int .u64 (IntKind.u64.wrap ((IntKind.u64.wrap ((IntKind.u64.wrap (s1.seed * 6364136223846793005)) + (IntKind.u64.wrap b5))) + 1442695040888963407))]]) [0] ⟨by decide, rfl⟩ ?_
      exact PJ.retn (vs := [.int .i64 (w64 (uand (ushr (IntKind.u64.wrap ((IntKind.u64.wrap ((IntKind.u64.wrap (s1.seed * 6364136223846793005)) + (IntKind.u64.wrap b5))) + 1442695040888963407)) 40) 255))]) Try.results31 ⟨rfl, trivial⟩ ⟨rfl, rfl⟩

set_option maxRecDepth 100000 in
set_option maxHeartbeats 1000000 in
theorem ok_s_l00Src_pick {s1 : L00Src} {n5 : Int} {g2 : Nat} {r : Int × L00Src} (hm : s_l00Src_pick s1 n5 = some r) (w : World) (S : Nat → Prop) (v3 : Value) (hr4 : RdS w (Cx.Fz ⟨w, S⟩) v3 fByte.rp s1.code) (hA : (box g2 56 [v3, .int .i64 s1.at_, .int .u64 s1.seed]).holds w S) :
    Calls Try.prog 23 #[pt g2 0, .int .i64 n5] w (RetG ⟨w, S⟩ fun u L => (u = .int .i64 r.1 ∧ L = [box g2 56 [v3, .int .i64 r.2.at_, .int .u64 r.2.seed]])) := by
  unfold s_l00Src_pick at hm
  refine Calls.enter1 hA [pt g2 0, .int .i64 n5] Try.func23 rfl Try.ntmps23 rfl ?_
  refine WJ.seq ?_
  refine WJ.quiet ?_
  refine QJ.step (YldS.yld (y_assign rfl)) rfl ?_
  refine QJ.done ?_
  refine PJ.next ?_
  refine WJ.seq ?_
  refine WJ.seq ?_
  refine WJ.quiet ?_
  refine QJ.step (YldS.yld (y_move rfl)) rfl ?_
  refine QJ.step (YldS.yld (y_bin rfl rfl rfl)) rfl ?_
  refine QJ.done ?_
  refine PJ.next ?_
  refine WJ.cond (t := decide (n5 ≤ 1)) rfl (fun hb6 => ?_) (fun hb6 => ?_)
  · replace hm := ifT hm hb6
    refine WJ.seq ?_
    refine WJ.quiet ?_
    refine QJ.step (YldS.yld (y_assign rfl)) rfl ?_
    refine QJ.done ?_
    refine PJ.next ?_
    refine WJ.ret ?_
    refine PJ.then_ret ?_
    obtain rfl := Option.some.inj hm
    refine PJ.sel (L' := [box g2 56 [v3, .int .i64 s1.at_, .int .u64 s1.seed]]) [0] ⟨by decide, rfl⟩ ?_
    exact PJ.retn (vs := [.int .i64 0]) Try.results23 ⟨rfl, trivial⟩ ⟨rfl, rfl⟩
  · replace hm := ifF hm hb6
    refine WJ.skip ?_
    refine PJ.next ?_
    refine WJ.seq ?_
    refine WJ.reg ?_
    refine SJ.q (YldS.yld (y_move rfl)) rfl ?_
    obtain ⟨r7, h8, hm⟩ := bindS hm
    refine SJ.call1 (k := 0) rfl Try.call31 rfl (fun w S hw hA hO => ok_s_l00Src_next h8 w S _ (hr4.st1 hw hO) hA) rfl ?_
    rintro _ _ ⟨rfl, rfl⟩
    refine SJ.q (YldS.yld (y_assign rfl)) rfl ?_
    refine SJ.nil ?_
    refine PJ.next ?_
    obtain ⟨kj12, hk13, hm⟩ := withK_open hm
    refine WJ.join (X := Int × Int × Int) (fun (x : Int × Int × Int) => kj12 x.1 x.2.1 x.2.2 = some r) (fun (x : Int × Int × Int) => [(1, .int .i64 n5), (5, .int .i64 x.2.2)]) (fun (x : Int × Int × Int) => [box g2 56 [v3, .int .i64 x.1, .int .u64 x.2.1]]) ?_ ?_
    · clear hk13
      refine WJ.seq ?_
      refine WJ.quiet ?_
      refine QJ.step (YldS.yld (y_move rfl)) rfl ?_
      refine QJ.step (YldS.yld (y_bin rfl rfl rfl)) rfl ?_
      refine QJ.done ?_
      refine PJ.next ?_
      refine WJ.cond (t := decide (n5 > 200)) rfl (fun hb14 => ?_) (fun hb14 => ?_)
      · replace hm := ifT hm hb14
        refine WJ.reg ?_
        refine SJ.q (YldS.yld (y_move rfl)) rfl ?_
        refine SJ.q (YldS.yld (y_bin rfl rfl rfl)) rfl ?_
        refine SJ.q (YldS.yld (y_move rfl)) rfl ?_
        obtain ⟨r15, h16, hm⟩ := bindS hm
        refine SJ.call1 (k := 0) rfl Try.call31 rfl (fun w S hw hA hO => ok_s_l00Src_next h16 w S _ (hr4.st1 hw hO) hA) rfl ?_
        rintro _ _ ⟨rfl, rfl⟩
        refine SJ.q (YldS.yld (y_bin rfl rfl rfl)) rfl ?_
        refine SJ.q (YldS.yld (y_assign rfl)) rfl ?_
        refine SJ.nil ?_
        exact PJ.joined (r15.2.at_, r15.2.seed, w64 ((w64 (r7.1 * 256)) + r15.1)) [0] hm ⟨rfl, rfl, trivial⟩ ⟨by decide, rfl⟩
      · replace hm := ifF hm hb14
        refine WJ.skip ?_
        exact PJ.joined (r7.2.at_, r7.2.seed, r7.1) [0] hm ⟨rfl, rfl, trivial⟩ ⟨by decide, rfl⟩
    · rintro ⟨x9, x10, x11⟩ hm
      subst hk13
      refine WJ.seq ?_
      refine WJ.quiet ?_
      refine QJ.step (YldS.yld (y_move rfl)) rfl ?_
      refine QJ.step (YldS.yld (y_move rfl)) rfl ?_
      obtain ⟨q17, h18, hm⟩ := bindS hm
      refine QJ.step (YldS.yld (y_rem' h18 rfl rfl)) rfl ?_
      refine QJ.step (YldS.yld (y_assign rfl)) rfl ?_
      refine QJ.done ?_
      refine PJ.next ?_
      refine WJ.ret ?_
      obtain rfl := Option.some.inj hm
      refine PJ.sel (L' := [box g2 56 [v3, .int .i64 x9, .int .u64 x10]]) [0] ⟨by decide, rfl⟩ ?_
      exact PJ.retn (vs := [.int .i64 q17]) Try.results23 ⟨rfl, trivial⟩ ⟨rfl, rfl⟩

set_option maxRecDepth 100000 in
set_option maxHeartbeats 1000000 in
theorem ok_s_l17Index {N : Nat} {list1 : List Str} {s4 : Str} {r : Int} (hm : s_l17Index N list1 s4 = some r) (w : World) (v2 : Value) (hr3 : RdS w (cx w).Fz v2 fStr.rp list1) :
    Calls Try.prog 25 #[v2, str s4] w (Ret (cx w) (.int .i64 r)) := by
  unfold s_l17Index at hm
  refine Calls.enter [v2, str s4] Try.func25 rfl Try.ntmps25 rfl ?_
  refine WJ.seq ?_
  refine WJ.quiet ?_
  refine QJ.step (YldS.yld (y_assign rfl)) rfl ?_
  refine QJ.done ?_
  refine PJ.next ?_
  obtain ⟨kj5, hk6, hm⟩ := withK_open hm
  refine WJ.join (X := Unit) (fun (_ : Unit) => kj5  = some r) (fun (_ : Unit) => []) (fun (_ : Unit) => []) ?_ ?_
  · clear hk6
    refine WJ.seq ?_
    refine WJ.quiet ?_
    refine QJ.step (YldS.yld (y_assign rfl)) rfl ?_
    refine QJ.done ?_
    refine PJ.next ?_
    refine WJ.block ?_
    refine WJ.sel (L' := (fun (x : Int) => []) 0) [] ⟨List.nodup_nil, rfl⟩ ?_
    refine WJ.sub (m' := (fun (x : Int) => [(0, v2), (1, str s4), (5, .int .i64 x)]) 0) ⟨rfl, rfl, rfl, trivial⟩ ?_
    refine WJ.loop (X := Int) (fun N (x : Int) => s_l17Index_l1 kj5 list1 s4 N x = some r) (fun (x : Int) => [(0, v2), (1, str s4), (5, .int .i64 x)]) (fun (x : Int) => []) ?_ N 0 hm
    · rintro N i7 hI
      have hm := hI; clear hI
      cases N with
      | zero => cases hm
      | succ N =>
      unfold s_l17Index_l1 at hm
      refine WJ.seq ?_
      refine WJ.seq ?_
      refine WJ.quiet ?_
      refine QJ.step (YldS.yld (y_move rfl)) rfl ?_
      refine QJ.step (YldS.yld (y_move rfl)) rfl ?_
      refine QJ.step (YldS.yld (y_lenS Try.runUnderlying24 hr3 rfl)) rfl ?_
      refine QJ.step (YldS.yld (y_bin rfl rfl rfl)) rfl ?_
      refine QJ.done ?_
      refine PJ.next ?_
      refine WJ.cond (t := decide (i7 < (List.length list1 : Int))) rfl (fun hb8 => ?_) (fun hb8 => ?_)
      · replace hm := ifT hm hb8
        refine WJ.skip ?_
        refine PJ.next ?_
        refine WJ.seq ?_
        refine WJ.block ?_
        refine WJ.seq ?_
        refine WJ.quiet ?_
        refine QJ.step (YldS.yld (y_move rfl)) rfl ?_
        refine QJ.step (YldS.yld (y_move rfl)) rfl ?_
        obtain ⟨e9, h10, hm⟩ := bindS hm
        obtain ⟨ad11, _, rfl, ha12, hy13⟩ := hr3.elem h10
        refine QJ.step (YldS.yld (hy13 Try.runUnderlying24 Try.sizeOf9 rfl rfl)) rfl ?_
        refine QJ.step (YldS.yld (y_load1 (v := str e9) Try.isAgg9 ha12 St.frozenC rfl)) rfl ?_
        refine QJ.step (YldS.yld (y_move rfl)) rfl ?_
        refine QJ.step (YldS.yld (y_binS rfl rfl rfl)) rfl ?_
        refine QJ.done ?_
        refine PJ.next ?_
        refine WJ.cond (t := (e9 == s4)) rfl (fun hb14 => ?_) (fun hb14 => ?_)
        · replace hm := ifT hm hb14
          refine WJ.seq ?_
          refine WJ.quiet ?_
          refine QJ.step (YldS.yld (y_move rfl)) rfl ?_
          refine QJ.step (YldS.yld (y_assign rfl)) rfl ?_
          refine QJ.done ?_
          refine PJ.next ?_
          refine WJ.ret ?_
          refine PJ.block_ret (PJ.then_ret (PJ.then_ret (PJ.block_ret (PJ.then_ret ?_))))
          obtain rfl := Option.some.inj hm
          refine PJ.sel (L' := []) [] ⟨List.nodup_nil, rfl⟩ ?_
          exact PJ.retn (vs := [.int .i64 i7]) Try.results25 ⟨rfl, trivial⟩ ⟨rfl, rfl⟩
        · replace hm := ifF hm hb14
          refine WJ.skip ?_
          refine PJ.block_normal (PJ.next ?_)
          refine WJ.quiet ?_
          refine QJ.step (YldS.yld (y_move rfl)) rfl ?_
          refine QJ.step (YldS.yld (y_bin rfl rfl rfl)) rfl ?_
          refine QJ.step (YldS.yld (y_assign rfl)) rfl ?_
          refine QJ.done ?_
          exact PJ.round (w64 (i7 + 1)) [] hm ⟨rfl, rfl, rfl, trivial⟩ ⟨List.nodup_nil, rfl⟩
      · replace hm := ifF hm hb8
        refine WJ.exit ?_
        refine PJ.then_exit (PJ.then_exit (PJ.block_exit ?_))
        exact PJ.joined () [] hm trivial ⟨List.nodup_nil, rfl⟩
  · rintro _ hm
    subst hk6
    refine WJ.seq ?_
    refine WJ.quiet ?_
    refine QJ.step (YldS.yld (y_assign rfl)) rfl ?_
    refine QJ.done ?_
    refine PJ.next ?_
    refine WJ.ret ?_
    obtain rfl := Option.some.inj hm
    refine PJ.sel (L' := []) [] ⟨List.nodup_nil, rfl⟩ ?_
    exact PJ.retn (vs := [.int .i64 (-1)]) Try.results25 ⟨rfl, trivial⟩ ⟨rfl, rfl⟩

set_option maxRecDepth 100000 in
set_option maxHeartbeats 1000000 in
theorem ok_s_l17Draw {N : Nat} {s1 : L00Src} {g2 : Nat} {r : (List Str) × L00Src} (hm : s_l17Draw N s1 = some r) (w : World) (S : Nat → Prop) (v3 : Value) (hr4 : RdS w (Cx.Fz ⟨w, S⟩) v3 fByte.rp s1.code) (hA : (box g2 56 [v3, .int .i64 s1.at_, .int .u64 s1.seed]).holds w S) :
    Calls Try.prog 15 #[pt g2 0] w (RetG ⟨w, S⟩ fun u L => ∃ (u1 : Value), (u = u1 ∧ L = [box g2 56 [v3, .int .i64 r.2.at_, .int .u64 r.2.seed], row u1 9 fStr r.1])) := by
  unfold s_l17Draw at hm
  refine Calls.enter1 hA [pt g2 0] Try.func15 rfl Try.ntmps15 rfl ?_
  refine WJ.seq ?_
  refine WJ.quiet ?_
  refine QJ.step (YldS.yld (y_assign rfl)) rfl ?_
  refine QJ.done ?_
  refine PJ.next ?_
  refine WJ.seq ?_
  refine WJ.reg ?_
  refine SJ.buildSlice (R := fStr) (os := []) [] Try.runUnderlying24 Try.sizeOf9 Try.zeroValue9 rfl rfl rfl rfl rfl rfl fun v5 => ?_
  refine SJ.q (YldS.yld (y_assign rfl)) rfl ?_
  refine SJ.nil ?_
  refine PJ.next ?_
  obtain ⟨kj10, hk11, hm⟩ := withK_open hm
  refine WJ.join (X := Int × Int × (List Str) × Value) (fun (x : Int × Int × (List Str) × Value) => kj10 x.1 x.2.1 x.2.2.1 = some r) (fun (x : Int × Int × (List Str) × Value) => [(3, x.2.2.2)]) (fun (x : Int × Int × (List Str) × Value) => [box g2 56 [v3, .int .i64 x.1, .int .u64 x.2.1], row x.2.2.2 9 fStr x.2.2.1]) ?_ ?_
  · clear hk11
    refine WJ.seq ?_
    refine WJ.reg ?_
    refine SJ.q (YldS.yld (y_move rfl)) rfl ?_
    obtain ⟨r12, h13, hm⟩ := bindS hm
    refine SJ.call1 (k := 1) rfl Try.call23 rfl (fun w S hw hA hO => ok_s_l00Src_pick h13 w S _ (hr4.st1 hw hO) hA) rfl ?_
    rintro _ _ ⟨rfl, rfl⟩
    refine SJ.q (YldS.yld (y_assign rfl)) rfl ?_
    refine SJ.nil ?_
    refine PJ.next ?_
    refine WJ.block ?_
    refine WJ.sel (L' := (fun (x : Int × Int × (List Str) × Value × Int) => [box g2 56 [v3, .int .i64 x.1, .int .u64 x.2.1], row x.2.2.2.1 9 fStr x.2.2.1]) (r12.2.at_, r12.2.seed, [], v5, r12.1)) [0, 1] ⟨by decide, rfl⟩ ?_
    refine WJ.sub (m' := (fun (x : Int × Int × (List Str) × Value × Int) => [(0, pt g2 0), (3, x.2.2.2.1), (4, .int .i64 x.2.2.2.2)]) (r12.2.at_, r12.2.seed, [], v5, r12.1)) ⟨rfl, rfl, rfl, trivial⟩ ?_
    refine WJ.loop (X := Int × Int × (List Str) × Value × Int) (fun N (x : Int × Int × (List Str) × Value × Int) => s_l17Draw_l1 kj10 s1 N x.1 x.2.1 x.2.2.1 x.2.2.2.2 = some r) (fun (x : Int × Int × (List Str) × Value × Int) => [(0, pt g2 0), (3, x.2.2.2.1), (4, .int .i64 x.2.2.2.2)]) (fun (x : Int × Int × (List Str) × Value × Int) => [box g2 56 [v3, .int .i64 x.1, .int .u64 x.2.1], row x.2.2.2.1 9 fStr x.2.2.1]) ?_ N (r12.2.at_, r12.2.seed, [], v5, r12.1) hm
    · rintro N ⟨x14, x15, l16, v17, k18⟩ hI
      have hm := hI; clear hI
      cases N with
      | zero => cases hm
      | succ N =>
      unfold s_l17Draw_l1 at hm
      refine WJ.seq ?_
      refine WJ.seq ?_
      refine WJ.quiet ?_
      refine QJ.step (YldS.yld (y_move rfl)) rfl ?_
      refine QJ.step (YldS.yld (y_bin rfl rfl rfl)) rfl ?_
      refine QJ.done ?_
      refine PJ.next ?_
      refine WJ.cond (t := decide (k18 > 0)) rfl (fun hb19 => ?_) (fun hb19 => ?_)
      · replace hm := ifT hm hb19
        refine WJ.skip ?_
        refine PJ.next ?_
        obtain ⟨kj24, hk25, hm⟩ := withK_open hm
        refine WJ.join (X := Int × Int × (List Str) × Value) (fun (x : Int × Int × (List Str) × Value) => kj24 x.1 x.2.1 x.2.2.1 = some r) (fun (x : Int × Int × (List Str) × Value) => [(0, pt g2 0), (3, x.2.2.2), (4, .int .i64 k18)]) (fun (x : Int × Int × (List Str) × Value) => [box g2 56 [v3, .int .i64 x.1, .int .u64 x.2.1], row x.2.2.2 9 fStr x.2.2.1]) ?_ ?_
        · clear hk25
          refine WJ.block ?_
          refine WJ.seq ?_
          refine WJ.reg ?_
          refine SJ.buildSlice (R := fByte) (os := []) [] Try.runUnderlying22 Try.sizeOf5 Try.zeroValue5 rfl rfl rfl rfl rfl rfl fun v26 => ?_
          refine SJ.q (YldS.yld (y_assign rfl)) rfl ?_
          refine SJ.nil ?_
          refine PJ.next ?_
          obtain ⟨kj31, hk32, hm⟩ := withK_open hm
          refine WJ.join (X := Int × Int × (List UInt8) × Value) (fun (x : Int × Int × (List UInt8) × Value) => kj31 x.1 x.2.1 x.2.2.1 = some r) (fun (x : Int × Int × (List UInt8) × Value) => [(0, pt g2 0), (3, v17), (4, .int .i64 k18), (5, x.2.2.2)]) (fun (x : Int × Int × (List UInt8) × Value) => [box g2 56 [v3, .int .i64 x.1, .int .u64 x.2.1], row x.2.2.2 5 fByte x.2.2.1, row v17 9 fStr l16]) ?_ ?_
          · clear hk32
            refine WJ.seq ?_
            refine WJ.reg ?_
            refine SJ.q (YldS.yld (y_move rfl)) rfl ?_
            obtain ⟨r33, h34, hm⟩ := bindS hm
            refine SJ.call1 (k := 1) rfl Try.call23 rfl (fun w S hw hA hO => ok_s_l00Src_pick h34 w S _ (hr4.st1 hw hO) hA) rfl ?_
            rintro _ _ ⟨rfl, rfl⟩
            refine SJ.q (YldS.yld (y_bin rfl rfl rfl)) rfl ?_
            refine SJ.q (YldS.yld (y_assign rfl)) rfl ?_
            refine SJ.nil ?_
            refine PJ.next ?_
            refine WJ.block ?_
            refine WJ.sel (L' := (fun (x : Int × Int × (List UInt8) × Value × Int) => [box g2 56 [v3, .int .i64 x.1, .int .u64 x.2.1], row x.2.2.2.1 5 fByte x.2.2.1, row v17 9 fStr l16]) (r33.2.at_, r33.2.seed, [], v26, w64 (1 + r33.1))) [0, 1, 2] ⟨by decide, rfl⟩ ?_
            refine WJ.sub (m' := (fun (x : Int × Int × (List UInt8) × Value × Int) => [(0, pt g2 0), (3, v17), (4, .int .i64 k18), (5, x.2.2.2.1), (6, .int .i64 x.2.2.2.2)]) (r33.2.at_, r33.2.seed, [], v26, w64 (1 + r33.1))) ⟨rfl, rfl, rfl, rfl, rfl, trivial⟩ ?_
            refine WJ.loop (X := Int × Int × (List UInt8) × Value × Int) (fun N (x : Int × Int × (List UInt8) × Value × Int) => s_l17Draw_l2 kj31 s1 N x.1 x.2.1 x.2.2.1 x.2.2.2.2 = some r) (fun (x : Int × Int × (List UInt8) × Value × Int) => [(0, pt g2 0), (3, v17), (4, .int .i64 k18), (5, x.2.2.2.1), (6, .int .i64 x.2.2.2.2)]) (fun (x : Int × Int × (List UInt8) × Value × Int) => [box g2 56 [v3, .int .i64 x.1, .int .u64 x.2.1], row x.2.2.2.1 5 fByte x.2.2.1, row v17 9 fStr l16]) ?_ N (r33.2.at_, r33.2.seed, [], v26, w64 (1 + r33.1)) hm
            · rintro N ⟨x35, x36, l37, v38, n39⟩ hI
              have hm := hI; clear hI
              cases N with
              | zero => cases hm
              | succ N =>
              unfold s_l17Draw_l2 at hm
              refine WJ.seq ?_
              refine WJ.seq ?_
              refine WJ.quiet ?_
              refine QJ.step (YldS.yld (y_move rfl)) rfl ?_
              refine QJ.step (YldS.yld (y_bin rfl rfl rfl)) rfl ?_
              refine QJ.done ?_
              refine PJ.next ?_
              refine WJ.cond (t := decide (n39 > 0)) rfl (fun hb40 => ?_) (fun hb40 => ?_)
              · replace hm := ifT hm hb40
                refine WJ.skip ?_
                refine PJ.next ?_
                refine WJ.seq ?_
                refine WJ.block ?_
                refine WJ.reg ?_
                refine SJ.q (YldS.yld (y_move rfl)) rfl ?_
                refine SJ.q (YldS.yld (y_move rfl)) rfl ?_
                obtain ⟨r41, h42, hm⟩ := bindS hm
                refine SJ.call1 (k := 0) rfl Try.call23 rfl (fun w S hw hA hO => ok_s_l00Src_pick h42 w S _ (hr4.st1 hw hO) hA) rfl ?_
                rintro _ _ ⟨rfl, rfl⟩
                obtain ⟨c43, h44, hm⟩ := bindS hm
                refine SJ.q (YldS.yld (y_idxStr Try.runUnderlying9 rfl rfl h44)) rfl ?_
                refine SJ.buildSlice (R := fByte) (os := [.tmp 25]) [c43] Try.runUnderlying22 Try.sizeOf5 Try.zeroValue5 rfl rfl rfl rfl rfl rfl fun v45 => ?_
                obtain ⟨l46, h47, hm⟩ := bindS hm
                refine SJ.append (k := 2) (R := fByte) h47 rfl Try.underlying22 el5 rfl rfl rfl (fun w hw => (hw.row_rd (k := 0) rfl)) rfl fun v48 => ?_
                refine SJ.q (YldS.yld (y_assign rfl)) rfl ?_
                refine SJ.nil ?_
                refine PJ.block_normal (PJ.next ?_)
                refine WJ.quiet ?_
                refine QJ.step (YldS.yld (y_move rfl)) rfl ?_
                refine QJ.step (YldS.yld (y_bin rfl rfl rfl)) rfl ?_
                refine QJ.step (YldS.yld (y_assign rfl)) rfl ?_
                refine QJ.done ?_
                exact PJ.round (r41.2.at_, r41.2.seed, l46, v48, w64 (n39 - 1)) [1, 2, 3] hm ⟨rfl, rfl, rfl, rfl, rfl, trivial⟩ ⟨by decide, rfl⟩
              · replace hm := ifF hm hb40
                refine WJ.exit ?_
                refine PJ.then_exit (PJ.then_exit (PJ.block_exit ?_))
                exact PJ.joined (x35, x36, l37, v38) [0, 1, 2] hm ⟨rfl, rfl, rfl, rfl, trivial⟩ ⟨by decide, rfl⟩
          · rintro ⟨x27, x28, l29, v30⟩ hm
            subst hk32
            refine WJ.seq ?_
            refine WJ.quiet ?_
            refine QJ.step (YldS.yld (y_move rfl)) rfl ?_
            refine QJ.step (YldS.yld (y_move rfl)) rfl ?_
            refine QJ.step (YldS.yld (y_b2s Try.underlying22 Try.underlying9 Try.underlying5 (fun w hw => ⟨_, (hw.row_rd (k := 1) rfl)⟩) rfl)) rfl ?_
            obtain ⟨r49, h50, hm⟩ := bindS hm
            refine QJ.step (y_call Try.call25 rfl (RetG.quiet fun w hw => ok_s_l17Index h50 w _ (hw.row_rd (k := 2) rfl))) rfl ?_
            refine QJ.step (YldS.yld (y_bin rfl rfl rfl)) rfl ?_
            refine QJ.done ?_
            refine PJ.next ?_
            refine WJ.cond (t := decide (r49 < 0)) rfl (fun hb51 => ?_) (fun hb51 => ?_)
            · replace hm := ifT hm hb51
              refine WJ.reg ?_
              refine SJ.q (YldS.yld (y_move rfl)) rfl ?_
              refine SJ.q (YldS.yld (y_move rfl)) rfl ?_
              refine SJ.q (YldS.yld (y_b2s Try.underlying22 Try.underlying9 Try.underlying5 (fun w hw => ⟨_, (hw.row_rd (k := 1) rfl)⟩) rfl)) rfl ?_
              refine SJ.buildSlice (R := fStr) (os := [.tmp 35]) [l29] Try.runUnderlying24 Try.sizeOf9 Try.zeroValue9 rfl rfl rfl rfl rfl rfl fun v52 => ?_
              obtain ⟨l53, h54, hm⟩ := bindS hm
              refine SJ.append (k := 3) (R := fStr) h54 rfl Try.underlying24 el9 rfl rfl rfl (fun w hw => (hw.row_rd (k := 0) rfl)) rfl fun v55 => ?_
              refine SJ.q (YldS.yld (y_assign rfl)) rfl ?_
              refine SJ.nil ?_
              refine PJ.block_normal ?_
              exact PJ.joined (x27, x28, l53, v55) [1, 3] hm ⟨rfl, rfl, rfl, trivial⟩ ⟨by decide, rfl⟩
            · replace hm := ifF hm hb51
              refine WJ.skip ?_
              refine PJ.block_normal ?_
              exact PJ.joined (x27, x28, l16, v17) [0, 2] hm ⟨rfl, rfl, rfl, trivial⟩ ⟨by decide, rfl⟩
        · rintro ⟨x20, x21, l22, v23⟩ hm
          subst hk25
          refine WJ.quiet ?_
          refine QJ.step (YldS.yld (y_move rfl)) rfl ?_
          refine QJ.step (YldS.yld (y_bin rfl rfl rfl)) rfl ?_
          refine QJ.step (YldS.yld (y_assign rfl)) rfl ?_
          refine QJ.done ?_
          exact PJ.round (x20, x21, l22, v23, w64 (k18 - 1)) [0, 1] hm ⟨rfl, rfl, rfl, trivial⟩ ⟨by decide, rfl⟩
      · replace hm := ifF hm hb19
        refine WJ.exit ?_
        refine PJ.then_exit (PJ.then_exit (PJ.block_exit ?_))
        exact PJ.joined (x14, x15, l16, v17) [0, 1] hm ⟨rfl, trivial⟩ ⟨by decide, rfl⟩
  · rintro ⟨x6, x7, l8, v9⟩ hm
    subst hk11
    refine WJ.seq ?_
    refine WJ.quiet ?_
    refine QJ.step (YldS.yld (y_move rfl)) rfl ?_
    refine QJ.step (YldS.yld (y_assign rfl)) rfl ?_
    refine QJ.done ?_
    refine PJ.next ?_
    refine WJ.ret ?_
    obtain rfl := Option.some.inj hm
    refine PJ.sel (L' := [box g2 56 [v3, .int .i64 x6, .int .u64 x7], row v9 9 fStr l8]) [0, 1] ⟨by decide, rfl⟩ ?_
    exact PJ.retn (vs := [v9]) Try.results15 ⟨rfl, trivial⟩ ⟨_, rfl, rfl⟩

set_option maxRecDepth 100000 in
set_option maxHeartbeats 1000000 in
theorem ok_s_A2Code {N : Nat} {code1 : List UInt8} {r : (List Str)} (hm : s_A2Code N code1 = some r) (w : World) (v2 : Value) (hr3 : RdS w (cx w).Fz v2 fByte.rp code1) :
    Calls Try.prog 5 #[v2] w (RetG (cx w) fun u L => ∃ (u1 : Value), (u = u1 ∧ L = [row u1 9 fStr r])) := by
  unfold s_A2Code at hm
  refine Calls.enter [v2] Try.func5 rfl Try.ntmps5 rfl ?_
  refine WJ.seq ?_
  refine WJ.quiet ?_
  refine QJ.step (YldS.yld (y_assign rfl)) rfl ?_
  refine QJ.done ?_
  refine PJ.next ?_
  refine WJ.seq ?_
  refine WJ.reg ?_
  refine SJ.q (YldS.yld (y_move rfl)) rfl ?_
  obtain ⟨r4, h5, hm⟩ := bindS hm
  refine SJ.call Try.call16 rfl (fun w hw => ok_s_l00From h5 w _ (hr3.st hw)) rfl ?_
  rintro _ _ ⟨g6, rfl, rfl⟩
  obtain ⟨r7, h8, hm⟩ := bindS hm
  refine SJ.call1 (k := 0) rfl Try.call15 rfl (fun w S hw hA hO => ok_s_l17Draw h8 w S _ (hr3.st1 hw hO) hA) rfl ?_
  rintro v9 _ ⟨_, rfl, rfl⟩
  refine SJ.q (YldS.yld (y_assign rfl)) rfl ?_
  refine SJ.nil ?_
  refine PJ.next ?_
  refine WJ.ret ?_
  obtain rfl := Option.some.inj hm
  refine PJ.sel (L' := [row v9 9 fStr r7.1]) [1] ⟨by decide, rfl⟩ ?_
  exact PJ.retn (vs := [v9]) Try.results5 ⟨rfl, trivial⟩ ⟨_, rfl, rfl⟩

set_option maxRecDepth 100000 in
set_option maxHeartbeats 1000000 in
theorem ok_i_isText {N : Nat} {s1 : Str} {low2 : UInt8} {most3 : Int} {r : Bool} (hm : i_isText N s1 low2 most3 = some r) (w : World)  :
    Calls Try.prog 26 #[str s1, .int .u8 (UInt8.toNat low2 : Int), .int .i64 most3] w (Ret (cx w) (.bool r)) := by
  unfold i_isText at hm
  refine Calls.enter [str s1, .int .u8 (UInt8.toNat low2 : Int), .int .i64 most3] Try.func26 rfl Try.ntmps26 rfl ?_
  refine WJ.seq ?_
  refine WJ.quiet ?_
  refine QJ.step (YldS.yld (y_assign rfl)) rfl ?_
  refine QJ.done ?_
  refine PJ.next ?_
  refine WJ.seq ?_
  refine WJ.seq ?_
  refine WJ.quiet ?_
  refine QJ.step (YldS.yld (y_move rfl)) rfl ?_
  refine QJ.step (YldS.yld (y_lenStr Try.runUnderlying9 rfl)) rfl ?_
  refine QJ.step (YldS.yld (y_move rfl)) rfl ?_
  refine QJ.step (YldS.yld (y_bin rfl rfl rfl)) rfl ?_
  refine QJ.done ?_
  refine PJ.next ?_
  refine WJ.cond (t := decide ((List.length s1 : Int) > most3)) rfl (fun hb4 => ?_) (fun hb4 => ?_)
  · replace hm := ifT hm hb4
    refine WJ.seq ?_
    refine WJ.quiet ?_
    refine QJ.step (YldS.yld (y_assign rfl)) rfl ?_
    refine QJ.done ?_
    refine PJ.next ?_
    refine WJ.ret ?_
    refine PJ.then_ret ?_
    obtain rfl := Option.some.inj hm
    refine PJ.sel (L' := []) [] ⟨List.nodup_nil, rfl⟩ ?_
    exact PJ.retn (vs := [.bool false]) Try.results26 ⟨rfl, trivial⟩ ⟨rfl, rfl⟩
  · replace hm := ifF hm hb4
    refine WJ.skip ?_
    refine PJ.next ?_
    obtain ⟨kj5, hk6, hm⟩ := withK_open hm
    refine WJ.join (X := Unit) (fun (_ : Unit) => kj5  = some r) (fun (_ : Unit) => []) (fun (_ : Unit) => []) ?_ ?_
    · clear hk6
      refine WJ.seq ?_
      refine WJ.quiet ?_
      refine QJ.step (YldS.yld (y_move rfl)) rfl ?_
      refine QJ.step (YldS.yld (y_lenStr Try.runUnderlying9 rfl)) rfl ?_
      refine QJ.step (YldS.yld (y_move rfl)) rfl ?_
      refine QJ.done ?_
      refine PJ.next ?_
      refine WJ.block ?_
      refine WJ.sel (L' := (fun (x : Int) => []) 0) [] ⟨List.nodup_nil, rfl⟩ ?_
      refine WJ.sub (m' := (fun (x : Int) => [(0, str s1), (1, .int .u8 (UInt8.toNat low2 : Int)), (13, .int .i64 (List.length s1 : Int)), (14, .int .i64 x)]) 0) ⟨rfl, rfl, rfl, rfl, trivial⟩ ?_
      refine WJ.loop (X := Int) (fun N (x : Int) => i_isText_l1 kj5 s1 low2 N x = some r) (fun (x : Int) => [(0, str s1), (1, .int .u8 (UInt8.toNat low2 : Int)), (13, .int .i64 (List.length s1 : Int)), (14, .int .i64 x)]) (fun (x : Int) => []) ?_ N 0 hm
      · rintro N x7 hI
        have hm := hI; clear hI
        cases N with
        | zero => cases hm
        | succ N =>
        unfold i_isText_l1 at hm
        refine WJ.seq ?_
        refine WJ.quiet ?_
        refine QJ.step (YldS.yld (y_bin rfl rfl rfl)) rfl ?_
        refine QJ.done ?_
        refine PJ.next ?_
        refine WJ.seq ?_
        refine WJ.cond (t := decide (x7 < (List.length s1 : Int))) rfl (fun hb8 => ?_) (fun hb8 => ?_)
        · replace hm := ifT hm hb8
          refine WJ.skip ?_
          refine PJ.next ?_
          refine WJ.seq ?_
          refine WJ.block ?_
          refine WJ.seq ?_
          refine WJ.quiet ?_
          refine QJ.step (YldS.yld (y_move rfl)) rfl ?_
          refine QJ.step (YldS.yld (y_assign rfl)) rfl ?_
          refine QJ.done ?_
          refine PJ.next ?_
          refine WJ.seq ?_
          refine WJ.quiet ?_
          refine QJ.step (YldS.yld (y_move rfl)) rfl ?_
          refine QJ.step (YldS.yld (y_move rfl)) rfl ?_
          obtain ⟨c9, h10, hm⟩ := bindS hm
          refine QJ.step (YldS.yld (y_idxStr Try.runUnderlying9 rfl rfl h10)) rfl ?_
          refine QJ.step (YldS.yld (y_move rfl)) rfl ?_
          refine QJ.step (YldS.yld (y_bin8 c9 low2 rfl rfl rfl)) rfl ?_
          refine QJ.step (YldS.yld (y_move rfl)) rfl ?_
          obtain ⟨t11, h12, hm⟩ := bindS hm
          refine QJ.cut 5 [(0, str s1), (1, .int .u8 (UInt8.toNat low2 : Int)), (13, .int .i64 (List.length s1 : Int)), (14, .int .i64 x7), (27, .bool t11)] ?_ ?_
          · rcases Bool.eq_false_or_eq_true (decide (c9 < low2)) with hb13 | hb13
            · obtain rfl := orT h12 hb13
              refine QJ.off rfl rfl (cB hb13) rfl rfl ?_
              refine QJ.off rfl rfl (cB hb13) rfl rfl ?_
              refine QJ.off rfl rfl (cB hb13) rfl rfl ?_
              refine QJ.off rfl rfl (cB hb13) rfl rfl ?_
              refine QJ.step (YldS.yld (y_pick_t (cB hb13) rfl)) rfl ?_
              exact QJ.cut_end ⟨rfl, rfl, rfl, rfl, rfl, trivial⟩
            · replace h12 := orF h12 hb13
              refine QJ.on rfl rfl (cB hb13) (YldS.yld (y_move rfl)) rfl ?_
              refine QJ.on rfl rfl (cB hb13) (YldS.yld (y_move rfl)) rfl ?_
              obtain ⟨c14, h15, h12⟩ := bindS h12
              refine QJ.on rfl rfl (cB hb13) (YldS.yld (y_idxStr Try.runUnderlying9 rfl rfl h15)) rfl ?_
              refine QJ.on rfl rfl (cB hb13) (YldS.yld (y_bin8 c14 (126 : UInt8) rfl rfl rfl)) rfl ?_
              refine QJ.step (YldS.yld (y_pick_f (cB hb13) rfl)) rfl ?_
              obtain rfl := Option.some.inj h12
              exact QJ.cut_end ⟨rfl, rfl, rfl, rfl, rfl, trivial⟩
          refine QJ.done ?_
          refine PJ.next ?_
          refine WJ.cond (t := t11) rfl (fun hb16 => ?_) (fun hb16 => ?_)
          · replace hm := ifT hm hb16
            refine WJ.seq ?_
            refine WJ.quiet ?_
            refine QJ.step (YldS.yld (y_assign rfl)) rfl ?_
            refine QJ.done ?_
            refine PJ.next ?_
            refine WJ.ret ?_
            refine PJ.block_ret (PJ.then_ret (PJ.then_ret (PJ.block_ret (PJ.then_ret ?_))))
            obtain rfl := Option.some.inj hm
            refine PJ.sel (L' := []) [] ⟨List.nodup_nil, rfl⟩ ?_
            exact PJ.retn (vs := [.bool false]) Try.results26 ⟨rfl, trivial⟩ ⟨rfl, rfl⟩
          · replace hm := ifF hm hb16
            refine WJ.skip ?_
            refine PJ.block_normal (PJ.next ?_)
            refine WJ.quiet ?_
            refine QJ.step (YldS.yld (y_bin rfl rfl rfl)) rfl ?_
            refine QJ.step (YldS.yld (y_move rfl)) rfl ?_
            refine QJ.done ?_
            exact PJ.round (w64 (x7 + 1)) [] hm ⟨rfl, rfl, rfl, rfl, trivial⟩ ⟨List.nodup_nil, rfl⟩
        · replace hm := ifF hm hb8
          refine WJ.exit ?_
          refine PJ.then_exit (PJ.then_exit (PJ.block_exit ?_))
          exact PJ.joined () [] hm trivial ⟨List.nodup_nil, rfl⟩
    · rintro _ hm
      subst hk6
      refine WJ.seq ?_
      refine WJ.quiet ?_
      refine QJ.step (YldS.yld (y_assign rfl)) rfl ?_
      refine QJ.done ?_
      refine PJ.next ?_
      refine WJ.ret ?_
      obtain rfl := Option.some.inj hm
      refine PJ.sel (L' := []) [] ⟨List.nodup_nil, rfl⟩ ?_
      exact PJ.retn (vs := [.bool true]) Try.results26 ⟨rfl, trivial⟩ ⟨rfl, rfl⟩

set_option maxRecDepth 100000 in
set_option maxHeartbeats 1000000 in
theorem ok_i_ValidCode {N : Nat} {words1 : List Str} {r : Bool} (hm : i_ValidCode N words1 = some r) (w : World) (v2 : Value) (hr3 : RdS w (cx w).Fz v2 fStr.rp words1) :
    Calls Try.prog 17 #[v2] w (Ret (cx w) (.bool r)) := by
  unfold i_ValidCode at hm
  refine Calls.enter [v2] Try.func17 rfl Try.ntmps17 rfl ?_
  refine WJ.seq ?_
  refine WJ.quiet ?_
  refine QJ.step (YldS.yld (y_assign rfl)) rfl ?_
  refine QJ.done ?_
  refine PJ.next ?_
  refine WJ.seq ?_
  refine WJ.reg ?_
  refine SJ.makeMap rfl fun g4 => ?_
  refine SJ.q (YldS.yld (y_assign rfl)) rfl ?_
  refine SJ.nil ?_
  refine PJ.next ?_
  obtain ⟨kj5, hk6, hm⟩ := withK_open hm
  refine WJ.join (X := Unit) (fun (_ : Unit) => kj5  = some r) (fun (_ : Unit) => [(0, v2)]) (fun (_ : Unit) => []) ?_ ?_
  · clear hk6
    refine WJ.seq ?_
    refine WJ.quiet ?_
    refine QJ.step (YldS.yld (y_move rfl)) rfl ?_
    refine QJ.step (YldS.yld (y_lenS Try.runUnderlying24 hr3 rfl)) rfl ?_
    refine QJ.step (YldS.yld (y_move rfl)) rfl ?_
    refine QJ.done ?_
    refine PJ.next ?_
    refine WJ.block ?_
    refine WJ.sel (L' := (fun (x : (List (Str × Bool)) × Int) => [mp g4 x.1]) ([], 0)) [0] ⟨by decide, rfl⟩ ?_
    refine WJ.sub (m' := (fun (x : (List (Str × Bool)) × Int) => [(0, v2), (3, .map (some g4)), (7, v2), (8, .int .i64 (List.length words1 : Int)), (9, .int .i64 x.2)]) ([], 0)) ⟨rfl, rfl, rfl, rfl, rfl, trivial⟩ ?_
    refine WJ.loop (X := (List (Str × Bool)) × Int) (fun N (x : (List (Str × Bool)) × Int) => i_ValidCode_l1 kj5 words1 N x.1 x.2 = some r) (fun (x : (List (Str × Bool)) × Int) => [(0, v2), (3, .map (some g4)), (7, v2), (8, .int .i64 (List.length words1 : Int)), (9, .int .i64 x.2)]) (fun (x : (List (Str × Bool)) × Int) => [mp g4 x.1]) ?_ N ([], 0) hm
    · rintro N ⟨mp7, x8⟩ hI
      have hm := hI; clear hI
      cases N with
      | zero => cases hm
      | succ N =>
      unfold i_ValidCode_l1 at hm
      refine WJ.seq ?_
      refine WJ.quiet ?_
      refine QJ.step (YldS.yld (y_bin rfl rfl rfl)) rfl ?_
      refine QJ.done ?_
      refine PJ.next ?_
      refine WJ.seq ?_
      refine WJ.cond (t := decide (x8 < (List.length words1 : Int))) rfl (fun hb9 => ?_) (fun hb9 => ?_)
      · replace hm := ifT hm hb9
        refine WJ.skip ?_
        refine PJ.next ?_
        refine WJ.seq ?_
        refine WJ.block ?_
        refine WJ.seq ?_
        refine WJ.quiet ?_
        obtain ⟨e10, h11, hm⟩ := bindS hm
        obtain ⟨ad12, _, rfl, ha13, hy14⟩ := hr3.elem h11
        refine QJ.step (YldS.yld (hy14 Try.runUnderlying24 Try.sizeOf9 rfl rfl)) rfl ?_
        refine QJ.step (YldS.yld (y_load1 (v := str e10) Try.isAgg9 ha13 St.frozenC rfl)) rfl ?_
        refine QJ.step (YldS.yld (y_assign rfl)) rfl ?_
        refine QJ.done ?_
        refine PJ.next ?_
        refine WJ.seq ?_
        refine WJ.seq ?_
        refine WJ.quiet ?_
        refine QJ.step (YldS.yld (y_move rfl)) rfl ?_
        refine QJ.step (YldS.yld (y_binS rfl rfl rfl)) rfl ?_
        refine QJ.step (YldS.yld (y_move rfl)) rfl ?_
        obtain ⟨t15, h16, hm⟩ := bindS hm
        refine QJ.cut 4 [(0, v2), (3, .map (some g4)), (5, str e10), (7, v2), (8, .int .i64 (List.length words1 : Int)), (9, .int .i64 x8), (19, .bool t15)] ?_ ?_
        · rcases Bool.eq_false_or_eq_true (e10 == []) with hb17 | hb17
          · obtain rfl := orT h16 hb17
            refine QJ.off rfl rfl (cB hb17) rfl rfl ?_
            refine QJ.off rfl rfl (cB hb17) rfl rfl ?_
            refine QJ.off rfl rfl (cB hb17) rfl rfl ?_
            refine QJ.step (YldS.yld (y_pick_t (cB hb17) rfl)) rfl ?_
            exact QJ.cut_end ⟨rfl, rfl, rfl, rfl, rfl, rfl, rfl, trivial⟩
          · replace h16 := orF h16 hb17
            refine QJ.on rfl rfl (cB hb17) (YldS.yld (y_move rfl)) rfl ?_
            obtain ⟨r18, h19, h16⟩ := bindS h16
            refine QJ.on rfl rfl (cB hb17) (y_call Try.call26 rfl (RetG.quiet fun w hw => ok_i_isText h19 w )) rfl ?_
            refine QJ.on rfl rfl (cB hb17) (YldS.yld (y_not rfl)) rfl ?_
            refine QJ.step (YldS.yld (y_pick_f (cB hb17) rfl)) rfl ?_
            obtain rfl := Option.some.inj h16
            exact QJ.cut_end ⟨rfl, rfl, rfl, rfl, rfl, rfl, rfl, trivial⟩
        refine QJ.step (YldS.yld (y_move rfl)) rfl ?_
        obtain ⟨t20, h21, hm⟩ := bindS hm
        refine QJ.cut 4 [(0, v2), (3, .map (some g4)), (5, str e10), (7, v2), (8, .int .i64 (List.length words1 : Int)), (9, .int .i64 x8), (24, .bool t20)] ?_ ?_
        · rcases Bool.eq_false_or_eq_true t15 with hb22 | hb22
          · obtain rfl := orT h21 hb22
            refine QJ.off rfl rfl (cB hb22) rfl rfl ?_
            refine QJ.off rfl rfl (cB hb22) rfl rfl ?_
            refine QJ.off rfl rfl (cB hb22) rfl rfl ?_
            refine QJ.step (YldS.yld (y_pick_t (cB hb22) rfl)) rfl ?_
            exact QJ.cut_end ⟨rfl, rfl, rfl, rfl, rfl, rfl, rfl, trivial⟩
          · replace h21 := orF h21 hb22
            refine QJ.on rfl rfl (cB hb22) (YldS.yld (y_move rfl)) rfl ?_
            refine QJ.on rfl rfl (cB hb22) (YldS.yld (y_move rfl)) rfl ?_
            refine QJ.on rfl rfl (cB hb22) (YldS.yld (y_lookupSB (k := 0) rfl Try.underlying57 Try.underlying9 Try.zeroValue4 rfl rfl)) rfl ?_
            refine QJ.step (YldS.yld (y_pick_f (cB hb22) rfl)) rfl ?_
            obtain rfl := Option.some.inj h21
            exact QJ.cut_end ⟨rfl, rfl, rfl, rfl, rfl, rfl, rfl, trivial⟩
        refine QJ.done ?_
        refine PJ.next ?_
        refine WJ.cond (t := t20) rfl (fun hb23 => ?_) (fun hb23 => ?_)
        · replace hm := ifT hm hb23
          refine WJ.seq ?_
          refine WJ.quiet ?_
          refine QJ.step (YldS.yld (y_assign rfl)) rfl ?_
          refine QJ.done ?_
          refine PJ.next ?_
          refine WJ.ret ?_
          refine PJ.then_ret (PJ.block_ret (PJ.then_ret (PJ.then_ret (PJ.block_ret (PJ.then_ret ?_)))))
          obtain rfl := Option.some.inj hm
          refine PJ.sel (L' := []) [] ⟨List.nodup_nil, rfl⟩ ?_
          exact PJ.retn (vs := [.bool false]) Try.results17 ⟨rfl, trivial⟩ ⟨rfl, rfl⟩
        · replace hm := ifF hm hb23
          refine WJ.skip ?_
          refine PJ.next ?_
          refine WJ.reg ?_
          refine SJ.q (YldS.yld (y_move rfl)) rfl ?_
          refine SJ.q (YldS.yld (y_move rfl)) rfl ?_
          refine SJ.mapUpdateSB (k := 0) Try.underlying57 Try.underlying9 rfl rfl rfl rfl ?_
          refine SJ.nil ?_
          refine PJ.block_normal (PJ.next ?_)
          refine WJ.quiet ?_
          refine QJ.step (YldS.yld (y_bin rfl rfl rfl)) rfl ?_
          refine QJ.step (YldS.yld (y_move rfl)) rfl ?_
          refine QJ.done ?_
          exact PJ.round (mset mp7 e10 true, w64 (x8 + 1)) [0] hm ⟨rfl, rfl, rfl, rfl, rfl, trivial⟩ ⟨by decide, rfl⟩
      · replace hm := ifF hm hb9
        refine WJ.exit ?_
        refine PJ.then_exit (PJ.then_exit (PJ.block_exit ?_))
        exact PJ.joined () [] hm ⟨rfl, trivial⟩ ⟨List.nodup_nil, rfl⟩
  · rintro _ hm
    subst hk6
    refine WJ.seq ?_
    refine WJ.quiet ?_
    refine QJ.step (YldS.yld (y_move rfl)) rfl ?_
    refine QJ.step (YldS.yld (y_lenS Try.runUnderlying24 hr3 rfl)) rfl ?_
    refine QJ.step (YldS.yld (y_bin rfl rfl rfl)) rfl ?_
    refine QJ.step (YldS.yld (y_assign rfl)) rfl ?_
    refine QJ.done ?_
    refine PJ.next ?_
    refine WJ.ret ?_
    obtain rfl := Option.some.inj hm
    refine PJ.sel (L' := []) [] ⟨List.nodup_nil, rfl⟩ ?_
    exact PJ.retn (vs := [.bool (decide ((List.length words1 : Int) ≤ 10))]) Try.results17 ⟨rfl, trivial⟩ ⟨rfl, rfl⟩

set_option maxRecDepth 100000 in
set_option maxHeartbeats 1000000 in
theorem ok_stringslite_HasPrefix {s1 : Str} {prefix2 : Str} {r : Bool} (hm : stringslite_HasPrefix s1 prefix2 = some r) (w : World)  :
    Calls Try.prog 30 #[str s1, str prefix2] w (Ret (cx w) (.bool r)) := by
  unfold stringslite_HasPrefix at hm
  refine Calls.enter [str s1, str prefix2] Try.func30 rfl Try.ntmps30 rfl ?_
  refine WJ.seq ?_
  refine WJ.quiet ?_
  refine QJ.step (YldS.yld (y_assign rfl)) rfl ?_
  refine QJ.done ?_
  refine PJ.next ?_
  refine WJ.seq ?_
  refine WJ.quiet ?_
  refine QJ.step (YldS.yld (y_move rfl)) rfl ?_
  refine QJ.step (YldS.yld (y_lenStr Try.runUnderlying9 rfl)) rfl ?_
  refine QJ.step (YldS.yld (y_move rfl)) rfl ?_
  refine QJ.step (YldS.yld (y_lenStr Try.runUnderlying9 rfl)) rfl ?_
  refine QJ.step (YldS.yld (y_bin rfl rfl rfl)) rfl ?_
  refine QJ.step (YldS.yld (y_move rfl)) rfl ?_
  obtain ⟨t3, h4, hm⟩ := bindS hm
  refine QJ.cut 7 [(17, .bool t3)] ?_ ?_
  · rcases Bool.eq_false_or_eq_true (decide ((List.length s1 : Int) ≥ (List.length prefix2 : Int))) with hb5 | hb5
    · replace h4 := andT h4 hb5
      refine QJ.on rfl rfl (cB hb5) (YldS.yld (y_move rfl)) rfl ?_
      refine QJ.on rfl rfl (cB hb5) (YldS.yld (y_move rfl)) rfl ?_
      refine QJ.on rfl rfl (cB hb5) (YldS.yld (y_lenStr Try.runUnderlying9 rfl)) rfl ?_
      obtain ⟨s6, h7, h4⟩ := bindS h4
      refine QJ.on rfl rfl (cB hb5) (YldS.yld (y_subStr (i := none) (j := some (List.length prefix2 : Int)) h7 Try.runUnderlying9 rfl trivial ⟨_, rfl⟩)) rfl ?_
      refine QJ.on rfl rfl (cB hb5) (YldS.yld (y_move rfl)) rfl ?_
      refine QJ.on rfl rfl (cB hb5) (YldS.yld (y_binS rfl rfl rfl)) rfl ?_
      refine QJ.step (YldS.yld (y_pick_t (cB hb5) rfl)) rfl ?_
      obtain rfl := Option.some.inj h4
      exact QJ.cut_end ⟨rfl, trivial⟩
    · obtain rfl := andF h4 hb5
      refine QJ.off rfl rfl (cB hb5) rfl rfl ?_
      refine QJ.off rfl rfl (cB hb5) rfl rfl ?_
      refine QJ.off rfl rfl (cB hb5) rfl rfl ?_
      refine QJ.off rfl rfl (cB hb5) rfl rfl ?_
      refine QJ.off rfl rfl (cB hb5) rfl rfl ?_
      refine QJ.off rfl rfl (cB hb5) rfl rfl ?_
      refine QJ.step (YldS.yld (y_pick_f (cB hb5) rfl)) rfl ?_
      exact QJ.cut_end ⟨rfl, trivial⟩
  refine QJ.step (YldS.yld (y_assign rfl)) rfl ?_
  refine QJ.done ?_
  refine PJ.next ?_
  refine WJ.ret ?_
  obtain rfl := Option.some.inj hm
  refine PJ.sel (L' := []) [] ⟨List.nodup_nil, rfl⟩ ?_
  exact PJ.retn (vs := [.bool t3]) Try.results30 ⟨rfl, trivial⟩ ⟨rfl, rfl⟩

set_option maxRecDepth 100000 in
set_option maxHeartbeats 1000000 in
theorem ok_strings_HasPrefix {s1 : Str} {prefix2 : Str} {r : Bool} (hm : strings_HasPrefix s1 prefix2 = some r) (w : World)  :
    Calls Try.prog 22 #[str s1, str prefix2] w (Ret (cx w) (.bool r)) := by
  unfold strings_HasPrefix at hm
  refine Calls.enter [str s1, str prefix2] Try.func22 rfl Try.ntmps22 rfl ?_
  refine WJ.seq ?_
  refine WJ.quiet ?_
  refine QJ.step (YldS.yld (y_assign rfl)) rfl ?_
  refine QJ.done ?_
  refine PJ.next ?_
  refine WJ.seq ?_
  refine WJ.quiet ?_
  refine QJ.step (YldS.yld (y_move rfl)) rfl ?_
  refine QJ.step (YldS.yld (y_move rfl)) rfl ?_
  obtain ⟨r3, h4, hm⟩ := bindS hm
  refine QJ.step (y_call Try.call30 rfl (RetG.quiet fun w hw => ok_stringslite_HasPrefix h4 w )) rfl ?_
  refine QJ.step (YldS.yld (y_assign rfl)) rfl ?_
  refine QJ.done ?_
  refine PJ.next ?_
  refine WJ.ret ?_
  obtain rfl := Option.some.inj hm
  refine PJ.sel (L' := []) [] ⟨List.nodup_nil, rfl⟩ ?_
  exact PJ.retn (vs := [.bool r3]) Try.results22 ⟨rfl, trivial⟩ ⟨rfl, rfl⟩

set_option maxRecDepth 100000 in
set_option maxHeartbeats 1000000 in
theorem ok_i_firstRests {N : Nat} {words1 : List Str} {r : (List Ambiguity)} (hm : i_firstRests N words1 = some r) (w : World) (v2 : Value) (hr3 : RdS w (cx w).Fz v2 fStr.rp words1) :
    Calls Try.prog 18 #[v2] w (RetG (cx w) fun u L => ∃ (u1 : Value), (u = u1 ∧ L = [row u1 60 fAmbiguity r])) := by
  unfold i_firstRests at hm
  refine Calls.enter [v2] Try.func18 rfl Try.ntmps18 rfl ?_
  refine WJ.seq ?_
  refine WJ.quiet ?_
  refine QJ.step (YldS.yld (y_assign rfl)) rfl ?_
  refine QJ.done ?_
  refine PJ.next ?_
  refine WJ.seq ?_
  refine WJ.reg ?_
  refine SJ.buildSlice (R := fAmbiguity) (os := []) [] Try.runUnderlying43 Try.sizeOf60 Try.zeroValue60 rfl rfl rfl rfl rfl rfl fun v4 => ?_
  refine SJ.q (YldS.yld (y_assign rfl)) rfl ?_
  refine SJ.nil ?_
  refine PJ.next ?_
  obtain ⟨kj7, hk8, hm⟩ := withK_open hm
  refine WJ.join (X := (List Ambiguity) × Value) (fun (x : (List Ambiguity) × Value) => kj7 x.1 = some r) (fun (x : (List Ambiguity) × Value) => [(3, x.2)]) (fun (x : (List Ambiguity) × Value) => [row x.2 60 fAmbiguity x.1]) ?_ ?_
  · clear hk8
    refine WJ.seq ?_
    refine WJ.quiet ?_
    refine QJ.step (YldS.yld (y_move rfl)) rfl ?_
    refine QJ.step (YldS.yld (y_lenS Try.runUnderlying24 hr3 rfl)) rfl ?_
    refine QJ.step (YldS.yld (y_move rfl)) rfl ?_
    refine QJ.done ?_
    refine PJ.next ?_
    refine WJ.block ?_
    refine WJ.sel (L' := (fun (x : (List Ambiguity) × Value × Int) => [row x.2.1 60 fAmbiguity x.1]) ([], v4, 0)) [0] ⟨by decide, rfl⟩ ?_
    refine WJ.sub (m' := (fun (x : (List Ambiguity) × Value × Int) => [(0, v2), (3, x.2.1), (9, v2), (10, .int .i64 (List.length words1 : Int)), (11, .int .i64 x.2.2)]) ([], v4, 0)) ⟨rfl, rfl, rfl, rfl, rfl, trivial⟩ ?_
    refine WJ.loop (X := (List Ambiguity) × Value × Int) (fun N (x : (List Ambiguity) × Value × Int) => i_firstRests_l1 kj7 words1 N x.1 x.2.2 = some r) (fun (x : (List Ambiguity) × Value × Int) => [(0, v2), (3, x.2.1), (9, v2), (10, .int .i64 (List.length words1 : Int)), (11, .int .i64 x.2.2)]) (fun (x : (List Ambiguity) × Value × Int) => [row x.2.1 60 fAmbiguity x.1]) ?_ N ([], v4, 0) hm
    · rintro N ⟨l9, v10, x11⟩ hI
      have hm := hI; clear hI
      cases N with
      | zero => cases hm
      | succ N =>
      unfold i_firstRests_l1 at hm
      refine WJ.seq ?_
      refine WJ.quiet ?_
      refine QJ.step (YldS.yld (y_bin rfl rfl rfl)) rfl ?_
      refine QJ.done ?_
      refine PJ.next ?_
      refine WJ.seq ?_
      refine WJ.cond (t := decide (x11 < (List.length words1 : Int))) rfl (fun hb12 => ?_) (fun hb12 => ?_)
      · replace hm := ifT hm hb12
        refine WJ.skip ?_
        refine PJ.next ?_
        obtain ⟨kj15, hk16, hm⟩ := withK_open hm
        refine WJ.join (X := (List Ambiguity) × Value) (fun (x : (List Ambiguity) × Value) => kj15 x.1 = some r) (fun (x : (List Ambiguity) × Value) => [(0, v2), (3, x.2), (9, v2), (10, .int .i64 (List.length words1 : Int)), (11, .int .i64 x11)]) (fun (x : (List Ambiguity) × Value) => [row x.2 60 fAmbiguity x.1]) ?_ ?_
        · clear hk16
          refine WJ.block ?_
          refine WJ.seq ?_
          refine WJ.quiet ?_
          refine QJ.step (YldS.yld (y_move rfl)) rfl ?_
          obtain ⟨e17, h18, hm⟩ := bindS hm
          obtain ⟨ad19, _, rfl, ha20, hy21⟩ := hr3.elem h18
          refine QJ.step (YldS.yld (hy21 Try.runUnderlying24 Try.sizeOf9 rfl rfl)) rfl ?_
          refine QJ.step (YldS.yld (y_load1 (v := str e17) Try.isAgg9 ha20 St.frozenC rfl)) rfl ?_
          refine QJ.step (YldS.yld (y_assign rfl)) rfl ?_
          refine QJ.step (YldS.yld (y_assign rfl)) rfl ?_
          refine QJ.done ?_
          refine PJ.next ?_
          refine WJ.seq ?_
          refine WJ.quiet ?_
          refine QJ.step (YldS.yld (y_move rfl)) rfl ?_
          refine QJ.step (YldS.yld (y_lenS Try.runUnderlying24 hr3 rfl)) rfl ?_
          refine QJ.step (YldS.yld (y_move rfl)) rfl ?_
          refine QJ.done ?_
          refine PJ.next ?_
          refine WJ.block ?_
          refine WJ.sel (L' := (fun (x : (List Ambiguity) × Value × Int) => [row x.2.1 60 fAmbiguity x.1]) (l9, v10, 0)) [0] ⟨by decide, rfl⟩ ?_
          refine WJ.sub (m' := (fun (x : (List Ambiguity) × Value × Int) => [(0, v2), (3, x.2.1), (4, .int .i64 x11), (5, str e17), (9, v2), (10, .int .i64 (List.length words1 : Int)), (11, .int .i64 x11), (16, v2), (17, .int .i64 (List.length words1 : Int)), (18, .int .i64 x.2.2)]) (l9, v10, 0)) ⟨rfl, rfl, rfl, rfl, rfl, rfl, rfl, rfl, rfl, rfl, trivial⟩ ?_
          refine WJ.loop (X := (List Ambiguity) × Value × Int) (fun N (x : (List Ambiguity) × Value × Int) => i_firstRests_l2 kj15 words1 x11 e17 N x.1 x.2.2 = some r) (fun (x : (List Ambiguity) × Value × Int) => [(0, v2), (3, x.2.1), (4, .int .i64 x11), (5, str e17), (9, v2), (10, .int .i64 (List.length words1 : Int)), (11, .int .i64 x11), (16, v2), (17, .int .i64 (List.length words1 : Int)), (18, .int .i64 x.2.2)]) (fun (x : (List Ambiguity) × Value × Int) => [row x.2.1 60 fAmbiguity x.1]) ?_ N (l9, v10, 0) hm
          · rintro N ⟨l22, v23, x24⟩ hI
            have hm := hI; clear hI
            cases N with
            | zero => cases hm
            | succ N =>
            unfold i_firstRests_l2 at hm
            refine WJ.seq ?_
            refine WJ.quiet ?_
            refine QJ.step (YldS.yld (y_bin rfl rfl rfl)) rfl ?_
            refine QJ.done ?_
            refine PJ.next ?_
            refine WJ.seq ?_
            refine WJ.cond (t := decide (x24 < (List.length words1 : Int))) rfl (fun hb25 => ?_) (fun hb25 => ?_)
            · replace hm := ifT hm hb25
              refine WJ.skip ?_
              refine PJ.next ?_
              obtain ⟨kj28, hk29, hm⟩ := withK_open hm
              refine WJ.join (X := (List Ambiguity) × Value) (fun (x : (List Ambiguity) × Value) => kj28 x.1 = some r) (fun (x : (List Ambiguity) × Value) => [(0, v2), (3, x.2), (4, .int .i64 x11), (5, str e17), (9, v2), (10, .int .i64 (List.length words1 : Int)), (11, .int .i64 x11), (16, v2), (17, .int .i64 (List.length words1 : Int)), (18, .int .i64 x24)]) (fun (x : (List Ambiguity) × Value) => [row x.2 60 fAmbiguity x.1]) ?_ ?_
              · clear hk29
                refine WJ.block ?_
                refine WJ.seq ?_
                refine WJ.quiet ?_
                refine QJ.step (YldS.yld (y_move rfl)) rfl ?_
                obtain ⟨e30, h31, hm⟩ := bindS hm
                obtain ⟨ad32, _, rfl, ha33, hy34⟩ := hr3.elem h31
                refine QJ.step (YldS.yld (hy34 Try.runUnderlying24 Try.sizeOf9 rfl rfl)) rfl ?_
                refine QJ.step (YldS.yld (y_load1 (v := str e30) Try.isAgg9 ha33 St.frozenC rfl)) rfl ?_
                refine QJ.step (YldS.yld (y_assign rfl)) rfl ?_
                refine QJ.step (YldS.yld (y_assign rfl)) rfl ?_
                refine QJ.done ?_
                refine PJ.next ?_
                refine WJ.seq ?_
                refine WJ.quiet ?_
                refine QJ.step (YldS.yld (y_move rfl)) rfl ?_
                refine QJ.step (YldS.yld (y_move rfl)) rfl ?_
                refine QJ.step (YldS.yld (y_bin rfl rfl rfl)) rfl ?_
                refine QJ.step (YldS.yld (y_move rfl)) rfl ?_
                obtain ⟨t35, h36, hm⟩ := bindS hm
                refine QJ.cut 4 [(0, v2), (3, v23), (4, .int .i64 x11), (5, str e17), (7, str e30), (9, v2), (10, .int .i64 (List.length words1 : Int)), (11, .int .i64 x11), (16, v2), (17, .int .i64 (List.length words1 : Int)), (18, .int .i64 x24), (30, .bool t35)] ?_ ?_
                · rcases Bool.eq_false_or_eq_true (x11 != x24) with hb37 | hb37
                  · replace h36 := andT h36 hb37
                    refine QJ.on rfl rfl (cB hb37) (YldS.yld (y_move rfl)) rfl ?_
                    refine QJ.on rfl rfl (cB hb37) (YldS.yld (y_move rfl)) rfl ?_
                    obtain ⟨r38, h39, h36⟩ := bindS h36
                    refine QJ.on rfl rfl (cB hb37) (y_call Try.call22 rfl (RetG.quiet fun w hw => ok_strings_HasPrefix h39 w )) rfl ?_
                    refine QJ.step (YldS.yld (y_pick_t (cB hb37) rfl)) rfl ?_
                    obtain rfl := Option.some.inj h36
                    exact QJ.cut_end ⟨rfl, rfl, rfl, rfl, rfl, rfl, rfl, rfl, rfl, rfl, rfl, rfl, trivial⟩
                  · obtain rfl := andF h36 hb37
                    refine QJ.off rfl rfl (cB hb37) rfl rfl ?_
                    refine QJ.off rfl rfl (cB hb37) rfl rfl ?_
                    refine QJ.off rfl rfl (cB hb37) rfl rfl ?_
                    refine QJ.step (YldS.yld (y_pick_f (cB hb37) rfl)) rfl ?_
                    exact QJ.cut_end ⟨rfl, rfl, rfl, rfl, rfl, rfl, rfl, rfl, rfl, rfl, rfl, rfl, trivial⟩
                refine QJ.done ?_
                refine PJ.next ?_
                refine WJ.cond (t := t35) rfl (fun hb40 => ?_) (fun hb40 => ?_)
                · replace hm := ifT hm hb40
                  refine WJ.reg ?_
                  refine SJ.q (YldS.yld (y_move rfl)) rfl ?_
                  refine SJ.q (YldS.yld (y_move rfl)) rfl ?_
                  refine SJ.q (YldS.yld (y_move rfl)) rfl ?_
                  refine SJ.q (YldS.yld (y_move rfl)) rfl ?_
                  refine SJ.q (YldS.yld (y_lenStr Try.runUnderlying9 rfl)) rfl ?_
                  obtain ⟨s41, h42, hm⟩ := bindS hm
                  refine SJ.q (YldS.yld (y_subStr (i := some (List.length e17 : Int)) (j := none) h42 Try.runUnderlying9 rfl ⟨_, rfl⟩ trivial)) rfl ?_
                  refine SJ.q (YldS.yld (y_build (parts := [(0, .tmp 32), (1, .tmp 36)]) (places := [(0, 1), (1, 1)]) (r := [str ((Ambiguity.mk e30 s41).text), str ((Ambiguity.mk e30 s41).rest)]) pl60 Try.zeroValue60 rfl rfl rfl rfl)) rfl ?_
                  refine SJ.buildSlice (R := fAmbiguity) (os := [.tmp 37]) [(Ambiguity.mk e30 s41)] Try.runUnderlying43 Try.sizeOf60 Try.zeroValue60 rfl rfl rfl rfl rfl rfl fun v43 => ?_
                  obtain ⟨l44, h45, hm⟩ := bindS hm
                  refine SJ.append (k := 1) (R := fAmbiguity) h45 rfl Try.underlying43 el60 rfl rfl rfl (fun w hw => (hw.row_rd (k := 0) rfl)) rfl fun v46 => ?_
                  refine SJ.q (YldS.yld (y_assign rfl)) rfl ?_
                  refine SJ.nil ?_
                  refine PJ.block_normal ?_
                  exact PJ.joined (l44, v46) [1] hm ⟨rfl, rfl, rfl, rfl, rfl, rfl, rfl, rfl, rfl, rfl, trivial⟩ ⟨by decide, rfl⟩
                · replace hm := ifF hm hb40
                  refine WJ.skip ?_
                  refine PJ.block_normal ?_
                  exact PJ.joined (l22, v23) [0] hm ⟨rfl, rfl, rfl, rfl, rfl, rfl, rfl, rfl, rfl, rfl, trivial⟩ ⟨by decide, rfl⟩
              · rintro ⟨l26, v27⟩ hm
                subst hk29
                refine WJ.quiet ?_
                refine QJ.step (YldS.yld (y_bin rfl rfl rfl)) rfl ?_
                refine QJ.step (YldS.yld (y_move rfl)) rfl ?_
                refine QJ.done ?_
                exact PJ.round (l26, v27, w64 (x24 + 1)) [0] hm ⟨rfl, rfl, rfl, rfl, rfl, rfl, rfl, rfl, rfl, rfl, trivial⟩ ⟨by decide, rfl⟩
            · replace hm := ifF hm hb25
              refine WJ.exit ?_
              refine PJ.then_exit (PJ.then_exit (PJ.block_exit (PJ.block_normal ?_)))
              exact PJ.joined (l22, v23) [0] hm ⟨rfl, rfl, rfl, rfl, rfl, trivial⟩ ⟨by decide, rfl⟩
        · rintro ⟨l13, v14⟩ hm
          subst hk16
          refine WJ.quiet ?_
          refine QJ.step (YldS.yld (y_bin rfl rfl rfl)) rfl ?_
          refine QJ.step (YldS.yld (y_move rfl)) rfl ?_
          refine QJ.done ?_
          exact PJ.round (l13, v14, w64 (x11 + 1)) [0] hm ⟨rfl, rfl, rfl, rfl, rfl, trivial⟩ ⟨by decide, rfl⟩
      · replace hm := ifF hm hb12
        refine WJ.exit ?_
        refine PJ.then_exit (PJ.then_exit (PJ.block_exit ?_))
        exact PJ.joined (l9, v10) [0] hm ⟨rfl, trivial⟩ ⟨by decide, rfl⟩
  · rintro ⟨l5, v6⟩ hm
    subst hk8
    refine WJ.seq ?_
    refine WJ.quiet ?_
    refine QJ.step (YldS.yld (y_move rfl)) rfl ?_
    refine QJ.step (YldS.yld (y_assign rfl)) rfl ?_
    refine QJ.done ?_
    refine PJ.next ?_
    refine WJ.ret ?_
    obtain rfl := Option.some.inj hm
    refine PJ.sel (L' := [row v6 60 fAmbiguity l5]) [0] ⟨by decide, rfl⟩ ?_
    exact PJ.retn (vs := [v6]) Try.results18 ⟨rfl, trivial⟩ ⟨_, rfl, rfl⟩

set_option maxRecDepth 100000 in
set_option maxHeartbeats 1000000 in
theorem ok_i_IsPrefixFree {N : Nat} {words1 : List Str} {r : Bool × Int} (hm : i_IsPrefixFree N words1 = some r) (w : World) (v2 : Value) (hr3 : RdS w (cx w).Fz v2 fStr.rp words1) :
    Calls Try.prog 6 #[v2] w (Ret (cx w) (tup [.bool r.1, .int .i64 r.2])) := by
  unfold i_IsPrefixFree at hm
  refine Calls.enter [v2] Try.func6 rfl Try.ntmps6 rfl ?_
  refine WJ.seq ?_
  refine WJ.quiet ?_
  refine QJ.step (YldS.yld (y_assign rfl)) rfl ?_
  refine QJ.step (YldS.yld (y_assign rfl)) rfl ?_
  refine QJ.done ?_
  refine PJ.next ?_
  refine WJ.seq ?_
  refine WJ.seq ?_
  refine WJ.quiet ?_
  refine QJ.step (YldS.yld (y_move rfl)) rfl ?_
  obtain ⟨r4, h5, hm⟩ := bindS hm
  refine QJ.step (y_call Try.call17 rfl (RetG.quiet fun w hw => ok_i_ValidCode h5 w _ (hr3.st hw))) rfl ?_
  refine QJ.step (YldS.yld (y_not rfl)) rfl ?_
  refine QJ.done ?_
  refine PJ.next ?_
  refine WJ.cond (t := !r4) rfl (fun hb6 => ?_) (fun hb6 => ?_)
  · replace hm := ifT hm hb6
    refine WJ.seq ?_
    refine WJ.quiet ?_
    refine QJ.step (YldS.yld (y_assign rfl)) rfl ?_
    refine QJ.step (YldS.yld (y_assign rfl)) rfl ?_
    refine QJ.done ?_
    refine PJ.next ?_
    refine WJ.ret ?_
    refine PJ.then_ret ?_
    obtain rfl := Option.some.inj hm
    refine PJ.sel (L' := []) [] ⟨List.nodup_nil, rfl⟩ ?_
    exact PJ.retn (vs := [.bool false, .int .i64 1]) Try.results6 ⟨rfl, rfl, trivial⟩ ⟨rfl, rfl⟩
  · replace hm := ifF hm hb6
    refine WJ.skip ?_
    refine PJ.next ?_
    refine WJ.seq ?_
    refine WJ.reg ?_
    refine SJ.q (YldS.yld (y_move rfl)) rfl ?_
    obtain ⟨r7, h8, hm⟩ := bindS hm
    refine SJ.call Try.call18 rfl (fun w hw => ok_i_firstRests h8 w _ (hr3.st hw)) rfl ?_
    rintro v9 _ ⟨_, rfl, rfl⟩
    refine SJ.q (YldS.yld (y_lenRow (k := 0) rfl Try.runUnderlying43 rfl)) rfl ?_
    refine SJ.q (YldS.yld (y_bin rfl rfl rfl)) rfl ?_
    refine SJ.q (YldS.yld (y_assign rfl)) rfl ?_
    refine SJ.q (YldS.yld (y_assign rfl)) rfl ?_
    refine SJ.nil ?_
    refine PJ.next ?_
    refine WJ.ret ?_
    obtain rfl := Option.some.inj hm
    refine PJ.sel (L' := []) [] ⟨List.nodup_nil, rfl⟩ ?_
    exact PJ.retn (vs := [.bool ((List.length r7 : Int) == 0), .int .i64 0]) Try.results6 ⟨rfl, rfl, trivial⟩ ⟨rfl, rfl⟩

set_option maxRecDepth 100000 in
set_option maxHeartbeats 1000000 in
theorem ok_i_isLess {a1 : Str} {b2 : Str} {r : Bool} (hm : i_isLess a1 b2 = some r) (w : World)  :
    Calls Try.prog 27 #[str a1, str b2] w (Ret (cx w) (.bool r)) := by
  unfold i_isLess at hm
  refine Calls.enter [str a1, str b2] Try.func27 rfl Try.ntmps27 rfl ?_
  refine WJ.seq ?_
  refine WJ.quiet ?_
  refine QJ.step (YldS.yld (y_assign rfl)) rfl ?_
  refine QJ.done ?_
  refine PJ.next ?_
  refine WJ.seq ?_
  refine WJ.seq ?_
  refine WJ.quiet ?_
  refine QJ.step (YldS.yld (y_move rfl)) rfl ?_
  refine QJ.step (YldS.yld (y_lenStr Try.runUnderlying9 rfl)) rfl ?_
  refine QJ.step (YldS.yld (y_move rfl)) rfl ?_
  refine QJ.step (YldS.yld (y_lenStr Try.runUnderlying9 rfl)) rfl ?_
  refine QJ.step (YldS.yld (y_bin rfl rfl rfl)) rfl ?_
  refine QJ.done ?_
  refine PJ.next ?_
  refine WJ.cond (t := ((List.length a1 : Int) != (List.length b2 : Int))) rfl (fun hb3 => ?_) (fun hb3 => ?_)
  · replace hm := ifT hm hb3
    refine WJ.seq ?_
    refine WJ.quiet ?_
    refine QJ.step (YldS.yld (y_move rfl)) rfl ?_
    refine QJ.step (YldS.yld (y_lenStr Try.runUnderlying9 rfl)) rfl ?_
    refine QJ.step (YldS.yld (y_move rfl)) rfl ?_
    refine QJ.step (YldS.yld (y_lenStr Try.runUnderlying9 rfl)) rfl ?_
    refine QJ.step (YldS.yld (y_bin rfl rfl rfl)) rfl ?_
    refine QJ.step (YldS.yld (y_assign rfl)) rfl ?_
    refine QJ.done ?_
    refine PJ.next ?_
    refine WJ.ret ?_
    refine PJ.then_ret ?_
    obtain rfl := Option.some.inj hm
    refine PJ.sel (L' := []) [] ⟨List.nodup_nil, rfl⟩ ?_
    exact PJ.retn (vs := [.bool (decide ((List.length a1 : Int) < (List.length b2 : Int)))]) Try.results27 ⟨rfl, trivial⟩ ⟨rfl, rfl⟩
  · replace hm := ifF hm hb3
    refine WJ.skip ?_
    refine PJ.next ?_
    refine WJ.seq ?_
    refine WJ.quiet ?_
    refine QJ.step (YldS.yld (y_move rfl)) rfl ?_
    refine QJ.step (YldS.yld (y_move rfl)) rfl ?_
    refine QJ.step (YldS.yld (y_binS rfl rfl rfl)) rfl ?_
    refine QJ.step (YldS.yld (y_assign rfl)) rfl ?_
    refine QJ.done ?_
    refine PJ.next ?_
    refine WJ.ret ?_
    obtain rfl := Option.some.inj hm
    refine PJ.sel (L' := []) [] ⟨List.nodup_nil, rfl⟩ ?_
    exact PJ.retn (vs := [.bool (ltL a1 b2)]) Try.results27 ⟨rfl, trivial⟩ ⟨rfl, rfl⟩

set_option maxRecDepth 100000 in
set_option maxHeartbeats 1000000 in
theorem ok_i_ambiguity_after {a1 : Ambiguity} {w2 : Str} {r : Ambiguity × Bool} (hm : i_ambiguity_after a1 w2 = some r) (w : World)  :
    Calls Try.prog 28 #[.agg (Ambiguity.enc a1).toArray, str w2] w (Ret (cx w) (tup [.agg (Ambiguity.enc r.1).toArray, .bool r.2])) := by
  unfold i_ambiguity_after at hm
  refine Calls.enter [.agg (Ambiguity.enc a1).toArray, str w2] Try.func28 rfl Try.ntmps28 rfl ?_
  refine WJ.seq ?_
  refine WJ.reg ?_
  refine SJ.box (cs := [str a1.text, str a1.rest]) rfl rfl rfl fun g3 => ?_
  refine SJ.alloc (cs := [str [], str []]) Try.zeroValue60 rfl rfl fun g4 => ?_
  refine SJ.q (YldS.yld (y_assign rfl)) rfl ?_
  refine SJ.nil ?_
  refine PJ.next ?_
  refine WJ.seq ?_
  refine WJ.block ?_
  refine WJ.seq ?_
  refine WJ.quiet ?_
  refine QJ.step (YldS.yld (y_fldB (o := 0) fld60_1 rfl)) rfl ?_
  refine QJ.step (YldS.yld (y_loadB (k := 1) (off := 1) (v := str a1.rest) rfl Try.isAgg9 rfl rfl)) rfl ?_
  refine QJ.step (YldS.yld (y_move rfl)) rfl ?_
  obtain ⟨r5, h6, hm⟩ := bindS hm
  refine QJ.step (y_call Try.call22 rfl (RetG.quiet fun w hw => ok_strings_HasPrefix h6 w )) rfl ?_
  refine QJ.step (YldS.yld (y_assign rfl)) rfl ?_
  refine QJ.done ?_
  refine PJ.next ?_
  refine WJ.cond (t := r5) rfl (fun hb7 => ?_) (fun hb7 => ?_)
  · replace hm := ifT hm hb7
    refine WJ.seq ?_
    obtain ⟨s8, h9, hm⟩ := bindS hm
    refine WJ.draws (N := 10) (listed0 := #[false, false, false, false, false, false, false, false, false, false]) [box g3 60 [str a1.text, str a1.rest]] follows rfl rfl ?_
    refine RJ.first 0 (listed' := #[true, false, false, false, false, false, false, false, false, false]) [1] rfl (by kernel_rfl) rfl ⟨by decide, rfl⟩ (y_fldB (o := 0) fld60_0 rfl) rfl ?_
    refine RJ.first 1 (listed' := #[true, true, false, false, false, false, false, false, false, false]) [1] rfl (by kernel_rfl) rfl ⟨by decide, rfl⟩ (y_loadB (k := 0) (off := 0) (v := str a1.text) rfl Try.isAgg9 rfl rfl) rfl ?_
    refine RJ.first 2 (listed' := #[true, true, true, false, false, false, false, false, false, false]) [1] rfl (by kernel_rfl) rfl ⟨by decide, rfl⟩ (y_fldB (o := 0) fld60_1 rfl) rfl ?_
    refine RJ.first 3 (listed' := #[true, true, true, true, false, false, false, false, false, false]) [1] rfl (by kernel_rfl) rfl ⟨by decide, rfl⟩ (y_loadB (k := 0) (off := 1) (v := str a1.rest) rfl Try.isAgg9 rfl rfl) rfl ?_
    refine RJ.first 4 (listed' := #[true, true, true, true, true, false, false, false, false, false]) [1] rfl (by kernel_rfl) rfl ⟨by decide, rfl⟩ (y_move rfl) rfl ?_
    refine RJ.first 5 (listed' := #[true, true, true, true, true, true, false, false, false, false]) [1] rfl (by kernel_rfl) rfl ⟨by decide, rfl⟩ (y_lenStr Try.runUnderlying9 rfl) rfl ?_
    refine RJ.first 6 (listed' := #[true, true, true, true, true, true, true, false, false, false]) [1] rfl (by kernel_rfl) rfl ⟨by decide, rfl⟩ (y_subStr (i := some (List.length w2 : Int)) (j := none) h9 Try.runUnderlying9 rfl ⟨_, rfl⟩ trivial) rfl ?_
    refine RJ.first 7 (listed' := #[true, true, true, true, true, true, true, true, false, false]) [1] rfl (by kernel_rfl) rfl ⟨by decide, rfl⟩ (y_build (parts := [(0, .tmp 13), (1, .tmp 18)]) (places := [(0, 1), (1, 1)]) (r := [str ((Ambiguity.mk a1.text s8).text), str ((Ambiguity.mk a1.text s8).rest)]) pl60 Try.zeroValue60 rfl rfl rfl rfl) rfl ?_
    refine RJ.step1 8 [1] (by kernel_rfl) ⟨by decide, rfl⟩ ?_
    refine RO.of (listed' := #[true, true, true, true, true, true, true, true, true, false]) rfl rfl ?_
    refine SJ.storeL (k := 0) (off := 0) (us := [str ((Ambiguity.mk a1.text s8).text), str ((Ambiguity.mk a1.text s8).rest)]) rfl rfl rfl rfl Try.sizeOf60 rfl rfl ?_
    refine SJ.nil ?_
    refine PJ.draw ?_
    refine RJ.first 9 (listed' := #[true, true, true, true, true, true, true, true, true, true]) [1] rfl (by kernel_rfl) rfl ⟨by decide, rfl⟩ (y_assign rfl) rfl ?_
    refine RJ.fin [1] (by kernel_rfl) ⟨by decide, rfl⟩ ?_
    refine PJ.next ?_
    refine WJ.ret ?_
    refine PJ.block_ret (PJ.then_ret ?_)
    obtain rfl := Option.some.inj hm
    exact PJ.retn_sel (vs := [.agg (Ambiguity.enc (Ambiguity.mk a1.text s8)).toArray, .bool true]) Try.results28 ⟨⟨0, g4, 60, [str ((Ambiguity.mk a1.text s8).text), str ((Ambiguity.mk a1.text s8).rest)], rfl, rfl, .inl ⟨Try.isAgg60, Try.sizeOf60, rfl⟩⟩, rfl, trivial⟩ [] ⟨List.nodup_nil, rfl⟩ ⟨rfl, rfl⟩
  · replace hm := ifF hm hb7
    refine WJ.seq ?_
    refine WJ.quiet ?_
    refine QJ.step (YldS.yld (y_move rfl)) rfl ?_
    refine QJ.step (YldS.yld (y_fldB (o := 0) fld60_1 rfl)) rfl ?_
    refine QJ.step (YldS.yld (y_loadB (k := 1) (off := 1) (v := str a1.rest) rfl Try.isAgg9 rfl rfl)) rfl ?_
    obtain ⟨r10, h11, hm⟩ := bindS hm
    refine QJ.step (y_call Try.call22 rfl (RetG.quiet fun w hw => ok_strings_HasPrefix h11 w )) rfl ?_
    refine QJ.step (YldS.yld (y_assign rfl)) rfl ?_
    refine QJ.done ?_
    refine PJ.next ?_
    refine WJ.cond (t := r10) rfl (fun hb12 => ?_) (fun hb12 => ?_)
    · replace hm := ifT hm hb12
      refine WJ.seq ?_
      refine WJ.quiet ?_
      refine QJ.step (YldS.yld (y_move rfl)) rfl ?_
      refine QJ.step (YldS.yld (y_fldB (o := 0) fld60_1 rfl)) rfl ?_
      refine QJ.step (YldS.yld (y_loadB (k := 1) (off := 1) (v := str a1.rest) rfl Try.isAgg9 rfl rfl)) rfl ?_
      refine QJ.step (YldS.yld (y_lenStr Try.runUnderlying9 rfl)) rfl ?_
      obtain ⟨s13, h14, hm⟩ := bindS hm
      refine QJ.step (YldS.yld (y_subStr (i := some (List.length a1.rest : Int)) (j := none) h14 Try.runUnderlying9 rfl ⟨_, rfl⟩ trivial)) rfl ?_
      refine QJ.step (YldS.yld (y_assign rfl)) rfl ?_
      refine QJ.done ?_
      refine PJ.next ?_
      refine WJ.seq ?_
      refine WJ.reg ?_
      refine SJ.q (YldS.yld (y_fldB (o := 0) fld60_0 rfl)) rfl ?_
      refine SJ.q (YldS.yld (y_loadB (k := 1) (off := 0) (v := str a1.text) rfl Try.isAgg9 rfl rfl)) rfl ?_
      refine SJ.q (YldS.yld (y_move rfl)) rfl ?_
      obtain ⟨s15, h16, hm⟩ := bindS hm
      refine SJ.q (YldS.yld (y_cat h16 rfl rfl)) rfl ?_
      refine SJ.q (YldS.yld (y_move rfl)) rfl ?_
      refine SJ.q (YldS.yld (y_build (parts := [(0, .tmp 33), (1, .tmp 34)]) (places := [(0, 1), (1, 1)]) (r := [str ((Ambiguity.mk s15 s13).text), str ((Ambiguity.mk s15 s13).rest)]) pl60 Try.zeroValue60 rfl rfl rfl rfl)) rfl ?_
      refine SJ.storeL (k := 0) (off := 0) (us := [str ((Ambiguity.mk s15 s13).text), str ((Ambiguity.mk s15 s13).rest)]) rfl rfl rfl rfl Try.sizeOf60 rfl rfl ?_
      refine SJ.q (YldS.yld (y_assign rfl)) rfl ?_
      refine SJ.nil ?_
      refine PJ.next ?_
      refine WJ.ret ?_
      refine PJ.block_ret (PJ.then_ret ?_)
      obtain rfl := Option.some.inj hm
      exact PJ.retn_sel (vs := [.agg (Ambiguity.enc (Ambiguity.mk s15 s13)).toArray, .bool true]) Try.results28 ⟨⟨0, g4, 60, [str ((Ambiguity.mk s15 s13).text), str ((Ambiguity.mk s15 s13).rest)], rfl, rfl, .inl ⟨Try.isAgg60, Try.sizeOf60, rfl⟩⟩, rfl, trivial⟩ [] ⟨List.nodup_nil, rfl⟩ ⟨rfl, rfl⟩
    · replace hm := ifF hm hb12
      refine WJ.skip ?_
      refine PJ.block_normal (PJ.next ?_)
      refine WJ.seq ?_
      refine WJ.reg ?_
      refine SJ.q (YldS.yld (y_build (parts := []) (places := [(0, 1), (1, 1)]) (r := [str ((Ambiguity.mk [] []).text), str ((Ambiguity.mk [] []).rest)]) pl60 Try.zeroValue60 rfl rfl rfl rfl)) rfl ?_
      refine SJ.storeL (k := 0) (off := 0) (us := [str ((Ambiguity.mk [] []).text), str ((Ambiguity.mk [] []).rest)]) rfl rfl rfl rfl Try.sizeOf60 rfl rfl ?_
      refine SJ.q (YldS.yld (y_assign rfl)) rfl ?_
      refine SJ.nil ?_
      refine PJ.next ?_
      refine WJ.ret ?_
      obtain rfl := Option.some.inj hm
      exact PJ.retn_sel (vs := [.agg (Ambiguity.enc (Ambiguity.mk [] [])).toArray, .bool false]) Try.results28 ⟨⟨0, g4, 60, [str ((Ambiguity.mk [] []).text), str ((Ambiguity.mk [] []).rest)], rfl, rfl, .inl ⟨Try.isAgg60, Try.sizeOf60, rfl⟩⟩, rfl, trivial⟩ [] ⟨List.nodup_nil, rfl⟩ ⟨rfl, rfl⟩

set_option maxRecDepth 100000 in
set_option maxHeartbeats 1000000 in
theorem ok_i_restTexts {N : Nat} {words1 : List Str} {r : (List (Str × Str))} (hm : i_restTexts N words1 = some r) (w : World) (v2 : Value) (hr3 : RdS w (cx w).Fz v2 fStr.rp words1) :
    Calls Try.prog 19 #[v2] w (RetG (cx w) fun u L => ∃ (u1 : Nat), (u = .map (some u1) ∧ L = [mpV str u1 r])) := by
  unfold i_restTexts at hm
  refine Calls.enter [v2] Try.func19 rfl Try.ntmps19 rfl ?_
  refine WJ.seq ?_
  refine WJ.quiet ?_
  refine QJ.step (YldS.yld (y_assign rfl)) rfl ?_
  refine QJ.done ?_
  refine PJ.next ?_
  refine WJ.seq ?_
  refine WJ.reg ?_
  refine SJ.q (YldS.yld (y_move rfl)) rfl ?_
  obtain ⟨r4, h5, hm⟩ := bindS hm
  refine SJ.call Try.call18 rfl (fun w hw => ok_i_firstRests h5 w _ (hr3.st hw)) rfl ?_
  rintro v6 _ ⟨_, rfl, rfl⟩
  refine SJ.makeMapV str rfl fun g7 => ?_
  refine SJ.q (YldS.yld (y_assign rfl)) rfl ?_
  refine SJ.q (YldS.yld (y_assign rfl)) rfl ?_
  refine SJ.nil ?_
  refine PJ.next ?_
  obtain ⟨kj9, hk10, hm⟩ := withK_open hm
  refine WJ.join (X := (List (Str × Str))) (fun (x : (List (Str × Str))) => kj9 x = some r) (fun (x : (List (Str × Str))) => [(4, .map (some g7))]) (fun (x : (List (Str × Str))) => [mpV str g7 x]) ?_ ?_
  · clear hk10
    refine WJ.block ?_
    refine WJ.sel (L' := (fun (x : (List (Str × Str)) × (List Ambiguity) × Value) => [mpV str g7 x.1, row x.2.2 60 fAmbiguity x.2.1]) (([] : List (Str × Str)), r4, v6)) [0, 1] ⟨by decide, rfl⟩ ?_
    refine WJ.sub (m' := (fun (x : (List (Str × Str)) × (List Ambiguity) × Value) => [(0, v2), (3, x.2.2), (4, .map (some g7))]) (([] : List (Str × Str)), r4, v6)) ⟨rfl, rfl, rfl, trivial⟩ ?_
    refine WJ.loop (X := (List (Str × Str)) × (List Ambiguity) × Value) (fun N (x : (List (Str × Str)) × (List Ambiguity) × Value) => i_restTexts_l1 kj9 words1 N x.1 x.2.1 = some r) (fun (x : (List (Str × Str)) × (List Ambiguity) × Value) => [(0, v2), (3, x.2.2), (4, .map (some g7))]) (fun (x : (List (Str × Str)) × (List Ambiguity) × Value) => [mpV str g7 x.1, row x.2.2 60 fAmbiguity x.2.1]) ?_ N (([] : List (Str × Str)), r4, v6) hm
    · rintro N ⟨mp11, l12, v13⟩ hI
      have hm := hI; clear hI
      cases N with
      | zero => cases hm
      | succ N =>
      unfold i_restTexts_l1 at hm
      obtain ⟨kj17, hk18, hm⟩ := withK_open hm
      refine WJ.joinT (X := (List (Str × Str)) × (List Ambiguity) × Value) (fun (x : (List (Str × Str)) × (List Ambiguity) × Value) => kj17 x.1 x.2.1 = some r) (fun (x : (List (Str × Str)) × (List Ambiguity) × Value) => [(0, v2), (3, x.2.2), (4, .map (some g7))]) (fun (x : (List (Str × Str)) × (List Ambiguity) × Value) => [mpV str g7 x.1, row x.2.2 60 fAmbiguity x.2.1]) ?_ ?_
      · clear hk18
        refine WJ.seq ?_
        refine WJ.seq ?_
        refine WJ.quiet ?_
        refine QJ.step (YldS.yld (y_move rfl)) rfl ?_
        refine QJ.step (YldS.yld (y_lenRow (k := 1) rfl Try.runUnderlying43 rfl)) rfl ?_
        refine QJ.step (YldS.yld (y_bin rfl rfl rfl)) rfl ?_
        refine QJ.done ?_
        refine PJ.next ?_
        refine WJ.cond (t := decide ((List.length l12 : Int) > 0)) rfl (fun hb19 => ?_) (fun hb19 => ?_)
        · replace hm := ifT hm hb19
          refine WJ.skip ?_
          refine PJ.next ?_
          refine WJ.block ?_
          refine WJ.seq ?_
          refine WJ.quiet ?_
          refine QJ.step (YldS.yld (y_assign rfl)) rfl ?_
          refine QJ.done ?_
          refine PJ.next ?_
          obtain ⟨kj21, hk22, hm⟩ := withK_open hm
          refine WJ.join (X := Int) (fun (x : Int) => kj21 x = some r) (fun (x : Int) => [(0, v2), (3, v13), (4, .map (some g7)), (5, .int .i64 x)]) (fun (x : Int) => [mpV str g7 mp11, row v13 60 fAmbiguity l12]) ?_ ?_
          · clear hk22
            refine WJ.seq ?_
            refine WJ.quiet ?_
            refine QJ.step (YldS.yld (y_move rfl)) rfl ?_
            refine QJ.step (YldS.yld (y_lenRow (k := 1) rfl Try.runUnderlying43 rfl)) rfl ?_
            refine QJ.step (YldS.yld (y_move rfl)) rfl ?_
            refine QJ.done ?_
            refine PJ.next ?_
            refine WJ.block ?_
            refine WJ.sel (L' := (fun (x : Int × Int) => [mpV str g7 mp11, row v13 60 fAmbiguity l12]) (0, 0)) [0, 1] ⟨by decide, rfl⟩ ?_
            refine WJ.sub (m' := (fun (x : Int × Int) => [(0, v2), (3, v13), (4, .map (some g7)), (5, .int .i64 x.1), (21, v13), (22, .int .i64 (List.length l12 : Int)), (23, .int .i64 x.2)]) (0, 0)) ⟨rfl, rfl, rfl, rfl, rfl, rfl, rfl, trivial⟩ ?_
            refine WJ.loop (X := Int × Int) (fun N (x : Int × Int) => i_restTexts_l2 kj21 l12 N x.1 x.2 = some r) (fun (x : Int × Int) => [(0, v2), (3, v13), (4, .map (some g7)), (5, .int .i64 x.1), (21, v13), (22, .int .i64 (List.length l12 : Int)), (23, .int .i64 x.2)]) (fun (x : Int × Int) => [mpV str g7 mp11, row v13 60 fAmbiguity l12]) ?_ N (0, 0) hm
            · rintro N ⟨best23, x24⟩ hI
              have hm := hI; clear hI
              cases N with
              | zero => cases hm
              | succ N =>
              unfold i_restTexts_l2 at hm
              refine WJ.seq ?_
              refine WJ.quiet ?_
              refine QJ.step (YldS.yld (y_bin rfl rfl rfl)) rfl ?_
              refine QJ.done ?_
              refine PJ.next ?_
              refine WJ.seq ?_
              refine WJ.cond (t := decide (x24 < (List.length l12 : Int))) rfl (fun hb25 => ?_) (fun hb25 => ?_)
              · replace hm := ifT hm hb25
                refine WJ.skip ?_
                refine PJ.next ?_
                obtain ⟨kj27, hk28, hm⟩ := withK_open hm
                refine WJ.join (X := Int) (fun (x : Int) => kj27 x = some r) (fun (x : Int) => [(0, v2), (3, v13), (4, .map (some g7)), (5, .int .i64 x), (21, v13), (22, .int .i64 (List.length l12 : Int)), (23, .int .i64 x24)]) (fun (x : Int) => [mpV str g7 mp11, row v13 60 fAmbiguity l12]) ?_ ?_
                · clear hk28
                  refine WJ.block ?_
                  refine WJ.seq ?_
                  refine WJ.reg ?_
                  refine SJ.q (YldS.yld (y_move rfl)) rfl ?_
                  obtain ⟨e29, h30, hm⟩ := bindS hm
                  refine SJ.q (YldS.yld (y_ixRow (k := 1) (R := fAmbiguity) rfl Try.runUnderlying43 Try.sizeOf60 rfl rfl h30)) rfl ?_
                  refine SJ.q (YldS.yld (y_loadRN (k := 1) (i := (Int.toNat x24)) (off := 0) (us := [str e29.text, str e29.rest]) rfl Try.isAgg60 Try.sizeOf60 rfl (idx_get h30) rfl)) rfl ?_
                  refine SJ.alloc (cs := [str [], str []]) Try.zeroValue60 rfl rfl fun g31 => ?_
                  refine SJ.q (YldS.yld (y_assign rfl)) rfl ?_
                  refine SJ.storeL (k := 0) (off := 0) (us := [str e29.text, str e29.rest]) rfl rfl rfl rfl Try.sizeOf60 rfl rfl ?_
                  refine SJ.nil ?_
                  refine PJ.next ?_
                  refine WJ.seq ?_
                  refine WJ.quiet_draw follows (by kernel_rfl) ?_
                  refine QJ.step (YldS.yld (y_fldB (o := 0) fld60_0 rfl)) rfl ?_
                  refine QJ.step (YldS.yld (y_loadB (k := 0) (off := 0) (v := str e29.text) rfl Try.isAgg9 rfl rfl)) rfl ?_
                  refine QJ.step (YldS.yld (y_move rfl)) rfl ?_
                  refine QJ.step (YldS.yld (y_move rfl)) rfl ?_
                  obtain ⟨e32, h33, hm⟩ := bindS hm
                  refine QJ.step (YldS.yld (y_ixRow (k := 2) (R := fAmbiguity) rfl Try.runUnderlying43 Try.sizeOf60 rfl rfl h33)) rfl ?_
                  refine QJ.step (YldS.yld (y_fldR fld60_0 rfl)) rfl ?_
                  refine QJ.step (YldS.yld (y_loadR (k := 2) (i := (Int.toNat best23)) (off := 0) (u := str e32.text) rfl Try.isAgg9 rfl (idx_get h33) rfl)) rfl ?_
                  obtain ⟨r34, h35, hm⟩ := bindS hm
                  refine QJ.step (y_call Try.call27 rfl (RetG.quiet fun w hw => ok_i_isLess h35 w )) rfl ?_
                  refine QJ.done ?_
                  refine PJ.next ?_
                  refine WJ.cond (t := r34) rfl (fun hb36 => ?_) (fun hb36 => ?_)
                  · replace hm := ifT hm hb36
                    refine WJ.quiet ?_
                    refine QJ.step (YldS.yld (y_move rfl)) rfl ?_
                    refine QJ.step (YldS.yld (y_assign rfl)) rfl ?_
                    refine QJ.done ?_
                    refine PJ.block_normal ?_
                    exact PJ.joined x24 [1, 2] hm ⟨rfl, rfl, rfl, rfl, rfl, rfl, rfl, trivial⟩ ⟨by decide, rfl⟩
                  · replace hm := ifF hm hb36
                    refine WJ.skip ?_
                    refine PJ.block_normal ?_
                    exact PJ.joined best23 [1, 2] hm ⟨rfl, rfl, rfl, rfl, rfl, rfl, rfl, trivial⟩ ⟨by decide, rfl⟩
                · rintro best26 hm
                  subst hk28
                  refine WJ.quiet ?_
                  refine QJ.step (YldS.yld (y_bin rfl rfl rfl)) rfl ?_
                  refine QJ.step (YldS.yld (y_move rfl)) rfl ?_
                  refine QJ.done ?_
                  exact PJ.round (best26, w64 (x24 + 1)) [0, 1] hm ⟨rfl, rfl, rfl, rfl, rfl, rfl, rfl, trivial⟩ ⟨by decide, rfl⟩
              · replace hm := ifF hm hb25
                refine WJ.exit ?_
                refine PJ.then_exit (PJ.then_exit (PJ.block_exit ?_))
                exact PJ.joined best23 [0, 1] hm ⟨rfl, rfl, rfl, rfl, trivial⟩ ⟨by decide, rfl⟩
          · rintro best20 hm
            subst hk22
            refine WJ.seq ?_
            refine WJ.reg ?_
            refine SJ.q (YldS.yld (y_move rfl)) rfl ?_
            refine SJ.q (YldS.yld (y_move rfl)) rfl ?_
            obtain ⟨e37, h38, hm⟩ := bindS hm
            refine SJ.q (YldS.yld (y_ixRow (k := 1) (R := fAmbiguity) rfl Try.runUnderlying43 Try.sizeOf60 rfl rfl h38)) rfl ?_
            refine SJ.q (YldS.yld (y_loadRN (k := 1) (i := (Int.toNat best20)) (off := 0) (us := [str e37.text, str e37.rest]) rfl Try.isAgg60 Try.sizeOf60 rfl (idx_get h38) rfl)) rfl ?_
            refine SJ.alloc (cs := [str [], str []]) Try.zeroValue60 rfl rfl fun g39 => ?_
            refine SJ.storeL (k := 0) (off := 0) (us := [str e37.text, str e37.rest]) rfl rfl rfl rfl Try.sizeOf60 rfl rfl ?_
            refine SJ.nil ?_
            refine PJ.next ?_
            refine WJ.seq ?_
            obtain ⟨l40, h41, hm⟩ := bindS hm
            obtain ⟨l42, h43, hm⟩ := bindS hm
            obtain ⟨l44, h45, hm⟩ := bindS hm
            refine WJ.draws (N := 9) (listed0 := #[false, false, false, false, false, false, false, false, false]) [box g39 60 [str e37.text, str e37.rest], mpV str g7 mp11] follows rfl rfl ?_
            refine RJ.first 0 (listed' := #[true, false, false, false, false, false, false, false, false]) [0, 1] rfl (by kernel_rfl) rfl ⟨by decide, rfl⟩ (y_move rfl) rfl ?_
            refine RJ.first 1 (listed' := #[true, true, false, false, false, false, false, false, false]) [0, 1] rfl (by kernel_rfl) rfl ⟨by decide, rfl⟩ (y_move rfl) rfl ?_
            refine RJ.first 3 (listed' := #[true, true, false, true, false, false, false, false, false]) [0, 1] rfl (by kernel_rfl) rfl ⟨by decide, rfl⟩ (y_move rfl) rfl ?_
            refine RJ.first 4 (listed' := #[true, true, false, true, true, false, false, false, false]) [0, 1] rfl (by kernel_rfl) rfl ⟨by decide, rfl⟩ (y_move rfl) rfl ?_
            refine RJ.first 5 (listed' := #[true, true, false, true, true, true, false, false, false]) [0, 1] rfl (by kernel_rfl) rfl ⟨by decide, rfl⟩ (y_bin rfl rfl rfl) rfl ?_
            refine RJ.hold (X := Unit) 2 #[true, true, true, true, true, true, true, false, false] (fun (_ : Unit) => [(0, v2), (3, v13), (4, .map (some g7)), (8, pt g39 0), (44, slcV v13 (Option.getD (none : Option Int) 0).toNat (Option.getD (some best20) (List.length l12 : Int)).toNat fAmbiguity.size), (48, slcV v13 (Option.getD (some (w64 (best20 + 1))) 0).toNat (Option.getD (none : Option Int) (List.length l12 : Int)).toNat fAmbiguity.size)]) (fun (_ : Unit) => [box g39 60 [str e37.text, str e37.rest], mpV str g7 mp11, row v13 60 fAmbiguity l12]) ?_ ?_
            · rintro _
              refine RJ.step1 7 [0, 1] (by kernel_rfl) ⟨by decide, rfl⟩ ?_
              refine RO.of (listed' := #[true, true, true, true, true, true, true, true, false]) rfl rfl ?_
              refine SJ.appendDel (k := 2) (R := fAmbiguity) (v := v13) (i := none) (j := some best20) (i2 := some (w64 (best20 + 1))) (j2 := none) h45 rfl h41 h43 rfl Try.underlying43 el60 rfl rfl rfl fun v46 => ?_
              refine SJ.nil ?_
              refine PJ.draw ?_
              refine RJ.first 8 (listed' := #[true, true, true, true, true, true, true, true, true]) [0, 1] rfl (by kernel_rfl) rfl ⟨by decide, rfl⟩ (y_assign rfl) rfl ?_
              refine RJ.fin [0, 1] (by kernel_rfl) ⟨by decide, rfl⟩ ?_
              refine PJ.next ?_
              refine WJ.seq ?_
              refine WJ.seq ?_
              refine WJ.quiet ?_
              refine QJ.step (YldS.yld (y_move rfl)) rfl ?_
              refine QJ.step (YldS.yld (y_fldB (o := 0) fld60_1 rfl)) rfl ?_
              refine QJ.step (YldS.yld (y_loadB (k := 0) (off := 1) (v := str e37.rest) rfl Try.isAgg9 rfl rfl)) rfl ?_
              refine QJ.step (YldS.yld (y_lookupV2 (k := 1) (f := str) (z := ([] : Str)) rfl Try.underlying46 Try.underlying9 Try.zeroValue9 rfl rfl)) rfl ?_
              refine QJ.step (YldS.yld (y_move rfl)) rfl ?_
              refine QJ.step (YldS.yld (y_extract rfl rfl)) rfl ?_
              refine QJ.step (YldS.yld (y_extract rfl rfl)) rfl ?_
              refine QJ.step (YldS.yld (y_assign rfl)) rfl ?_
              refine QJ.step (YldS.yld (y_assign rfl)) rfl ?_
              refine QJ.done ?_
              refine PJ.next ?_
              refine WJ.seq ?_
              refine WJ.quiet ?_
              refine QJ.step (YldS.yld (y_move rfl)) rfl ?_
              refine QJ.done ?_
              refine PJ.next ?_
              refine WJ.cond (t := (Option.isSome (mgetO mp11 e37.rest))) rfl (fun hb48 => ?_) (fun hb48 => ?_)
              · replace hm := ifT hm hb48
                refine WJ.exit ?_
                refine PJ.then_exit (PJ.block_exit ?_)
                exact PJ.joined (mp11, l44, v46) [1, 2] hm ⟨rfl, rfl, rfl, trivial⟩ ⟨by decide, rfl⟩
              · replace hm := ifF hm hb48
                refine WJ.skip ?_
                refine PJ.next ?_
                refine WJ.seq ?_
                refine WJ.reg ?_
                refine SJ.q (YldS.yld (y_move rfl)) rfl ?_
                refine SJ.q (YldS.yld (y_fldB (o := 0) fld60_1 rfl)) rfl ?_
                refine SJ.q (YldS.yld (y_loadB (k := 0) (off := 1) (v := str e37.rest) rfl Try.isAgg9 rfl rfl)) rfl ?_
                refine SJ.q (YldS.yld (y_fldB (o := 0) fld60_0 rfl)) rfl ?_
                refine SJ.q (YldS.yld (y_loadB (k := 0) (off := 0) (v := str e37.text) rfl Try.isAgg9 rfl rfl)) rfl ?_
                refine SJ.mapUpdateV (k := 1) (f := str) Try.underlying46 Try.underlying9 rfl rfl rfl rfl ?_
                refine SJ.nil ?_
                refine PJ.next ?_
                refine WJ.seq ?_
                refine WJ.seq ?_
                refine WJ.quiet ?_
                refine QJ.step (YldS.yld (y_fldB (o := 0) fld60_1 rfl)) rfl ?_
                refine QJ.step (YldS.yld (y_loadB (k := 0) (off := 1) (v := str e37.rest) rfl Try.isAgg9 rfl rfl)) rfl ?_
                refine QJ.step (YldS.yld (y_binS rfl rfl rfl)) rfl ?_
                refine QJ.done ?_
                refine PJ.next ?_
                refine WJ.cond (t := (e37.rest == [])) rfl (fun hb49 => ?_) (fun hb49 => ?_)
                · replace hm := ifT hm hb49
                  refine WJ.exit ?_
                  refine PJ.then_exit (PJ.block_exit ?_)
                  exact PJ.joined (msetV mp11 e37.rest e37.text, l44, v46) [1, 2] hm ⟨rfl, rfl, rfl, trivial⟩ ⟨by decide, rfl⟩
                · replace hm := ifF hm hb49
                  refine WJ.skip ?_
                  refine PJ.next ?_
                  refine WJ.seq ?_
                  refine WJ.quiet ?_
                  refine QJ.step (YldS.yld (y_move rfl)) rfl ?_
                  refine QJ.step (YldS.yld (y_lenS Try.runUnderlying24 hr3 rfl)) rfl ?_
                  refine QJ.step (YldS.yld (y_move rfl)) rfl ?_
                  refine QJ.done ?_
                  refine PJ.next ?_
                  refine WJ.block ?_
                  refine WJ.sel (L' := (fun (x : (List Ambiguity) × Value × Int) => [box g39 60 [str e37.text, str e37.rest], mpV str g7 (msetV mp11 e37.rest e37.text), row x.2.1 60 fAmbiguity x.1]) (l44, v46, 0)) [0, 1, 2] ⟨by decide, rfl⟩ ?_
                  refine WJ.sub (m' := (fun (x : (List Ambiguity) × Value × Int) => [(0, v2), (3, x.2.1), (4, .map (some g7)), (8, pt g39 0), (66, v2), (67, .int .i64 (List.length words1 : Int)), (68, .int .i64 x.2.2)]) (l44, v46, 0)) ⟨rfl, rfl, rfl, rfl, rfl, rfl, rfl, trivial⟩ ?_
                  refine WJ.loop (X := (List Ambiguity) × Value × Int) (fun N (x : (List Ambiguity) × Value × Int) => i_restTexts_l3 kj17 words1 mp11 e37 N x.1 x.2.2 = some r) (fun (x : (List Ambiguity) × Value × Int) => [(0, v2), (3, x.2.1), (4, .map (some g7)), (8, pt g39 0), (66, v2), (67, .int .i64 (List.length words1 : Int)), (68, .int .i64 x.2.2)]) (fun (x : (List Ambiguity) × Value × Int) => [box g39 60 [str e37.text, str e37.rest], mpV str g7 (msetV mp11 e37.rest e37.text), row x.2.1 60 fAmbiguity x.1]) ?_ N (l44, v46, 0) hm
                  · rintro N ⟨l50, v51, x52⟩ hI
                    have hm := hI; clear hI
                    cases N with
                    | zero => cases hm
                    | succ N =>
                    unfold i_restTexts_l3 at hm
                    refine WJ.seq ?_
                    refine WJ.quiet ?_
                    refine QJ.step (YldS.yld (y_bin rfl rfl rfl)) rfl ?_
                    refine QJ.done ?_
                    refine PJ.next ?_
                    refine WJ.seq ?_
                    refine WJ.cond (t := decide (x52 < (List.length words1 : Int))) rfl (fun hb53 => ?_) (fun hb53 => ?_)
                    · replace hm := ifT hm hb53
                      refine WJ.skip ?_
                      refine PJ.next ?_
                      obtain ⟨kj56, hk57, hm⟩ := withK_open hm
                      refine WJ.join (X := (List Ambiguity) × Value) (fun (x : (List Ambiguity) × Value) => kj56 x.1 = some r) (fun (x : (List Ambiguity) × Value) => [(0, v2), (3, x.2), (4, .map (some g7)), (8, pt g39 0), (66, v2), (67, .int .i64 (List.length words1 : Int)), (68, .int .i64 x52)]) (fun (x : (List Ambiguity) × Value) => [box g39 60 [str e37.text, str e37.rest], mpV str g7 (msetV mp11 e37.rest e37.text), row x.2 60 fAmbiguity x.1]) ?_ ?_
                      · clear hk57
                        refine WJ.block ?_
                        refine WJ.seq ?_
                        refine WJ.quiet ?_
                        obtain ⟨e58, h59, hm⟩ := bindS hm
                        obtain ⟨ad60, _, rfl, ha61, hy62⟩ := hr3.elem h59
                        refine QJ.step (YldS.yld (hy62 Try.runUnderlying24 Try.sizeOf9 rfl rfl)) rfl ?_
                        refine QJ.step (YldS.yld (y_load1 (v := str e58) Try.isAgg9 ha61 St.frozenC rfl)) rfl ?_
                        refine QJ.step (YldS.yld (y_assign rfl)) rfl ?_
                        refine QJ.done ?_
                        refine PJ.next ?_
                        refine WJ.seq ?_
                        refine WJ.reg ?_
                        refine SJ.q (YldS.yld (y_loadBN (k := 0) (off := 0) (us := [str e37.text, str e37.rest]) rfl Try.isAgg60 Try.sizeOf60 rfl rfl)) rfl ?_
                        refine SJ.q (YldS.yld (y_move rfl)) rfl ?_
                        obtain ⟨r63, h64, hm⟩ := bindS hm
                        refine SJ.q (y_call Try.call28 rfl (RetG.quiet fun w hw => ok_i_ambiguity_after h64 w )) rfl ?_
                        refine SJ.q (YldS.yld (y_move rfl)) rfl ?_
                        refine SJ.q (YldS.yld (y_extract rfl rfl)) rfl ?_
                        refine SJ.q (YldS.yld (y_extract rfl rfl)) rfl ?_
                        refine SJ.alloc (cs := [str [], str []]) Try.zeroValue60 rfl rfl fun g65 => ?_
                        refine SJ.storeL (k := 0) (off := 0) (us := [str r63.1.text, str r63.1.rest]) rfl rfl rfl rfl Try.sizeOf60 rfl rfl ?_
                        refine SJ.q (YldS.yld (y_assign rfl)) rfl ?_
                        refine SJ.nil ?_
                        refine PJ.next ?_
                        refine WJ.seq ?_
                        refine WJ.quiet ?_
                        refine QJ.step (YldS.yld (y_move rfl)) rfl ?_
                        refine QJ.done ?_
                        refine PJ.next ?_
                        refine WJ.cond (t := r63.2) rfl (fun hb66 => ?_) (fun hb66 => ?_)
                        · replace hm := ifT hm hb66
                          refine WJ.reg ?_
                          refine SJ.q (YldS.yld (y_move rfl)) rfl ?_
                          refine SJ.q (YldS.yld (y_loadBN (k := 0) (off := 0) (us := [str r63.1.text, str r63.1.rest]) rfl Try.isAgg60 Try.sizeOf60 rfl rfl)) rfl ?_
                          refine SJ.buildSlice (R := fAmbiguity) (os := [.tmp 80]) [r63.1] Try.runUnderlying43 Try.sizeOf60 Try.zeroValue60 rfl rfl rfl rfl rfl rfl fun v67 => ?_
                          obtain ⟨l68, h69, hm⟩ := bindS hm
                          refine SJ.append (k := 4) (R := fAmbiguity) h69 rfl Try.underlying43 el60 rfl rfl rfl (fun w hw => (hw.row_rd (k := 0) rfl)) rfl fun v70 => ?_
                          refine SJ.q (YldS.yld (y_assign rfl)) rfl ?_
                          refine SJ.nil ?_
                          refine PJ.block_normal ?_
                          exact PJ.joined (l68, v70) [2, 3, 4] hm ⟨rfl, rfl, rfl, rfl, rfl, rfl, rfl, trivial⟩ ⟨by decide, rfl⟩
                        · replace hm := ifF hm hb66
                          refine WJ.skip ?_
                          refine PJ.block_normal ?_
                          exact PJ.joined (l50, v51) [1, 2, 3] hm ⟨rfl, rfl, rfl, rfl, rfl, rfl, rfl, trivial⟩ ⟨by decide, rfl⟩
                      · rintro ⟨l54, v55⟩ hm
                        subst hk57
                        refine WJ.quiet ?_
                        refine QJ.step (YldS.yld (y_bin rfl rfl rfl)) rfl ?_
                        refine QJ.step (YldS.yld (y_move rfl)) rfl ?_
                        refine QJ.done ?_
                        exact PJ.round (l54, v55, w64 (x52 + 1)) [0, 1, 2] hm ⟨rfl, rfl, rfl, rfl, rfl, rfl, rfl, trivial⟩ ⟨by decide, rfl⟩
                    · replace hm := ifF hm hb53
                      refine WJ.exit ?_
                      refine PJ.then_exit (PJ.then_exit (PJ.block_exit (PJ.block_normal ?_)))
                      exact PJ.joined (msetV mp11 e37.rest e37.text, l50, v51) [1, 2] hm ⟨rfl, rfl, rfl, trivial⟩ ⟨by decide, rfl⟩
            · intro hD47
              refine RJ.step2 2 6 [0, 1] (by kernel_rfl) ⟨by decide, rfl⟩ ?_ ?_
              · refine RO.of (listed' := #[true, true, true, true, true, true, false, false, false]) rfl rfl ?_
                refine SJ.q (YldS.yld (y_slcRow (i := none) (j := some best20) (k := 2) h41 rfl Try.runUnderlying43 Try.sizeOf60 rfl trivial ⟨_, rfl⟩)) rfl ?_
                refine SJ.nil ?_
                refine PJ.draw ?_
                refine RJ.step1 6 [0, 1] (by kernel_rfl) ⟨by decide, rfl⟩ ?_
                refine RO.of (listed' := #[true, true, true, true, true, true, true, false, false]) rfl rfl ?_
                refine SJ.q (YldS.yld (y_slcRow (i := some (w64 (best20 + 1))) (j := none) (k := 2) h43 rfl Try.runUnderlying43 Try.sizeOf60 rfl ⟨_, rfl⟩ trivial)) rfl ?_
                refine SJ.nil ?_
                refine PJ.draw ?_
                exact RJ.weak (hD47 ()) [0, 1, 2] ⟨rfl, rfl, rfl, rfl, rfl, rfl, trivial⟩ ⟨by decide, rfl⟩
              · refine RO.of (listed' := #[true, true, false, true, true, true, true, false, false]) rfl rfl ?_
                refine SJ.q (YldS.yld (y_slcRow (i := some (w64 (best20 + 1))) (j := none) (k := 2) h43 rfl Try.runUnderlying43 Try.sizeOf60 rfl ⟨_, rfl⟩ trivial)) rfl ?_
                refine SJ.nil ?_
                refine PJ.draw ?_
                refine RJ.step1 2 [0, 1] (by kernel_rfl) ⟨by decide, rfl⟩ ?_
                refine RO.of (listed' := #[true, true, true, true, true, true, true, false, false]) rfl rfl ?_
                refine SJ.q (YldS.yld (y_slcRow (i := none) (j := some best20) (k := 2) h41 rfl Try.runUnderlying43 Try.sizeOf60 rfl trivial ⟨_, rfl⟩)) rfl ?_
                refine SJ.nil ?_
                refine PJ.draw ?_
                exact RJ.weak (hD47 ()) [0, 1, 2] ⟨rfl, rfl, rfl, rfl, rfl, rfl, trivial⟩ ⟨by decide, rfl⟩
        · replace hm := ifF hm hb19
          refine WJ.exit ?_
          refine PJ.then_exit (PJ.then_exit (PJ.then_exit (PJ.block_exit ?_)))
          exact PJ.joined mp11 [0] hm ⟨rfl, trivial⟩ ⟨by decide, rfl⟩
      · rintro ⟨mp14, l15, v16⟩ hm
        subst hk18
        exact PJ.round (mp14, l15, v16) [0, 1] hm ⟨rfl, rfl, rfl, trivial⟩ ⟨by decide, rfl⟩
  · rintro mp8 hm
    subst hk10
    refine WJ.seq ?_
    refine WJ.quiet ?_
    refine QJ.step (YldS.yld (y_move rfl)) rfl ?_
    refine QJ.step (YldS.yld (y_assign rfl)) rfl ?_
    refine QJ.done ?_
    refine PJ.next ?_
    refine WJ.ret ?_
    obtain rfl := Option.some.inj hm
    refine PJ.sel (L' := [mpV str g7 mp8]) [0] ⟨by decide, rfl⟩ ?_
    exact PJ.retn (vs := [.map (some g7)]) Try.results19 ⟨rfl, trivial⟩ ⟨_, rfl, rfl⟩

set_option maxRecDepth 100000 in
set_option maxHeartbeats 1000000 in
theorem ok_i_IsUnique {N : Nat} {words1 : List Str} {r : Bool × Int} (hm : i_IsUnique N words1 = some r) (w : World) (v2 : Value) (hr3 : RdS w (cx w).Fz v2 fStr.rp words1) :
    Calls Try.prog 7 #[v2] w (Ret (cx w) (tup [.bool r.1, .int .i64 r.2])) := by
  unfold i_IsUnique at hm
  refine Calls.enter [v2] Try.func7 rfl Try.ntmps7 rfl ?_
  refine WJ.seq ?_
  refine WJ.quiet ?_
  refine QJ.step (YldS.yld (y_assign rfl)) rfl ?_
  refine QJ.step (YldS.yld (y_assign rfl)) rfl ?_
  refine QJ.done ?_
  refine PJ.next ?_
  refine WJ.seq ?_
  refine WJ.seq ?_
  refine WJ.quiet ?_
  refine QJ.step (YldS.yld (y_move rfl)) rfl ?_
  obtain ⟨r4, h5, hm⟩ := bindS hm
  refine QJ.step (y_call Try.call17 rfl (RetG.quiet fun w hw => ok_i_ValidCode h5 w _ (hr3.st hw))) rfl ?_
  refine QJ.step (YldS.yld (y_not rfl)) rfl ?_
  refine QJ.done ?_
  refine PJ.next ?_
  refine WJ.cond (t := !r4) rfl (fun hb6 => ?_) (fun hb6 => ?_)
  · replace hm := ifT hm hb6
    refine WJ.seq ?_
    refine WJ.quiet ?_
    refine QJ.step (YldS.yld (y_assign rfl)) rfl ?_
    refine QJ.step (YldS.yld (y_assign rfl)) rfl ?_
    refine QJ.done ?_
    refine PJ.next ?_
    refine WJ.ret ?_
    refine PJ.then_ret ?_
    obtain rfl := Option.some.inj hm
    refine PJ.sel (L' := []) [] ⟨List.nodup_nil, rfl⟩ ?_
    exact PJ.retn (vs := [.bool false, .int .i64 1]) Try.results7 ⟨rfl, rfl, trivial⟩ ⟨rfl, rfl⟩
  · replace hm := ifF hm hb6
    refine WJ.skip ?_
    refine PJ.next ?_
    refine WJ.seq ?_
    refine WJ.reg ?_
    refine SJ.q (YldS.yld (y_move rfl)) rfl ?_
    obtain ⟨r7, h8, hm⟩ := bindS hm
    refine SJ.call Try.call19 rfl (fun w hw => ok_i_restTexts h8 w _ (hr3.st hw)) rfl ?_
    rintro _ _ ⟨g9, rfl, rfl⟩
    refine SJ.q (YldS.yld (y_lookupV2 (k := 0) (f := str) (z := ([] : Str)) rfl Try.underlying46 Try.underlying9 Try.zeroValue9 rfl rfl)) rfl ?_
    refine SJ.q (YldS.yld (y_move rfl)) rfl ?_
    refine SJ.q (YldS.yld (y_extract rfl rfl)) rfl ?_
    refine SJ.q (YldS.yld (y_extract rfl rfl)) rfl ?_
    refine SJ.q (YldS.yld (y_assign rfl)) rfl ?_
    refine SJ.q (YldS.yld (y_assign rfl)) rfl ?_
    refine SJ.nil ?_
    refine PJ.next ?_
    refine WJ.seq ?_
    refine WJ.quiet ?_
    refine QJ.step (YldS.yld (y_move rfl)) rfl ?_
    refine QJ.step (YldS.yld (y_not rfl)) rfl ?_
    refine QJ.step (YldS.yld (y_assign rfl)) rfl ?_
    refine QJ.step (YldS.yld (y_assign rfl)) rfl ?_
    refine QJ.done ?_
    refine PJ.next ?_
    refine WJ.ret ?_
    obtain rfl := Option.some.inj hm
    refine PJ.sel (L' := []) [] ⟨List.nodup_nil, rfl⟩ ?_
    exact PJ.retn (vs := [.bool (!(Option.isSome (mgetO r7 []))), .int .i64 0]) Try.results7 ⟨rfl, rfl, trivial⟩ ⟨rfl, rfl⟩

set_option maxRecDepth 100000 in
set_option maxHeartbeats 1000000 in
theorem ok_i_RestsOf {N : Nat} {words1 : List Str} {r : (List Str) × Int} (hm : i_RestsOf N words1 = some r) (w : World) (v2 : Value) (hr3 : RdS w (cx w).Fz v2 fStr.rp words1) :
    Calls Try.prog 8 #[v2] w (RetG (cx w) fun u L => ∃ (u1 : Value), (u = tup [u1, .int .i64 r.2] ∧ L = [row u1 9 fStr r.1])) := by
  unfold i_RestsOf at hm
  refine Calls.enter [v2] Try.func8 rfl Try.ntmps8 rfl ?_
  refine WJ.seq ?_
  refine WJ.quiet ?_
  refine QJ.step (YldS.yld (y_assign rfl)) rfl ?_
  refine QJ.step (YldS.yld (y_assign rfl)) rfl ?_
  refine QJ.done ?_
  refine PJ.next ?_
  refine WJ.seq ?_
  refine WJ.seq ?_
  refine WJ.quiet ?_
  refine QJ.step (YldS.yld (y_move rfl)) rfl ?_
  obtain ⟨r4, h5, hm⟩ := bindS hm
  refine QJ.step (y_call Try.call17 rfl (RetG.quiet fun w hw => ok_i_ValidCode h5 w _ (hr3.st hw))) rfl ?_
  refine QJ.step (YldS.yld (y_not rfl)) rfl ?_
  refine QJ.done ?_
  refine PJ.next ?_
  refine WJ.cond (t := !r4) rfl (fun hb6 => ?_) (fun hb6 => ?_)
  · replace hm := ifT hm hb6
    refine WJ.seq ?_
    refine WJ.quiet ?_
    refine QJ.step (YldS.yld (y_assign rfl)) rfl ?_
    refine QJ.step (YldS.yld (y_assign rfl)) rfl ?_
    refine QJ.done ?_
    refine PJ.next ?_
    refine WJ.ret ?_
    refine PJ.then_ret ?_
    refine PJ.nil_row 9 fStr ?_
    obtain rfl := Option.some.inj hm
    refine PJ.sel (L' := [row (.slice none 0 0) 9 fStr []]) [0] ⟨by decide, rfl⟩ ?_
    exact PJ.retn (vs := [(.slice none 0 0), .int .i64 1]) Try.results8 ⟨rfl, rfl, trivial⟩ ⟨_, rfl, rfl⟩
  · replace hm := ifF hm hb6
    refine WJ.skip ?_
    refine PJ.next ?_
    refine WJ.seq ?_
    refine WJ.reg ?_
    refine SJ.buildSlice (R := fStr) (os := []) [] Try.runUnderlying24 Try.sizeOf9 Try.zeroValue9 rfl rfl rfl rfl rfl rfl fun v7 => ?_
    refine SJ.q (YldS.yld (y_assign rfl)) rfl ?_
    refine SJ.nil ?_
    refine PJ.next ?_
    obtain ⟨kj10, hk11, hm⟩ := withK_open hm
    refine WJ.join (X := (List Str) × Value) (fun (x : (List Str) × Value) => kj10 x.1 = some r) (fun (x : (List Str) × Value) => [(4, x.2)]) (fun (x : (List Str) × Value) => [row x.2 9 fStr x.1]) ?_ ?_
    · clear hk11
      refine WJ.seq ?_
      refine WJ.reg ?_
      refine SJ.q (YldS.yld (y_move rfl)) rfl ?_
      obtain ⟨r12, h13, hm⟩ := bindS hm
      refine SJ.call Try.call19 rfl (fun w hw => ok_i_restTexts h13 w _ (hr3.st hw)) rfl ?_
      rintro _ _ ⟨g14, rfl, rfl⟩
      refine SJ.rangeV (k := 0) (f := str) rfl Try.underlying46 rfl rfl fun it15 => ?_
      refine SJ.nil ?_
      refine PJ.next ?_
      refine WJ.block ?_
      obtain ⟨z19, hz20, z19h⟩ := ordK hm
      refine WJ.sel (L' := (fun (x : (List (Str × Str)) × (List Str) × Value) => [itV str g14 it15 r12 x.1 none, row x.2.2 9 fStr x.2.1]) (r12, [], v7)) [0, 1] ⟨by decide, rfl⟩ ?_
      refine WJ.sub (m' := (fun (x : (List (Str × Str)) × (List Str) × Value) => [(4, x.2.2), (12, pt it15 0)]) (r12, [], v7)) ⟨rfl, rfl, trivial⟩ ?_
      refine WJ.loop (X := (List (Str × Str)) × (List Str) × Value) (fun Nr (x : (List (Str × Str)) × (List Str) × Value) => (∀ l' : List (Str × Str), List.Perm x.1 l' → Option.bind (i_RestsOf_r1 l' x.2.1) z19 = some _) ∧ List.length x.1 < Nr) (fun (x : (List (Str × Str)) × (List Str) × Value) => [(4, x.2.2), (12, pt it15 0)]) (fun (x : (List (Str × Str)) × (List Str) × Value) => [itV str g14 it15 r12 x.1 none, row x.2.2 9 fStr x.2.1]) ?_ (List.length r12 + 1) (r12, [], v7) ⟨hz20, Nat.lt_succ_self _⟩
      · rintro Nr ⟨rem16, l17, v18⟩ hI
        obtain ⟨hP21, hN22⟩ := hI
        cases Nr with
        | zero => exact absurd hN22 (Nat.not_lt_zero _)
        | succ Nr =>
        refine WJ.seq ?_
        refine WJ.reg ?_
        refine SJ.nextV (k := 0) rfl rfl rfl (fun hE26 => ?_) (fun y23 rem24 hp25 => ?_)
        · have hm := z19h l17 (hP21 [] (by subst hE26; exact List.Perm.refl _))
          refine SJ.q (YldS.yld (y_extract rfl rfl)) rfl ?_
          refine SJ.nil ?_
          refine PJ.next ?_
          refine WJ.seq ?_
          refine WJ.if_f rfl ?_
          refine WJ.exit ?_
          refine PJ.then_exit (PJ.then_exit (PJ.block_exit ?_))
          exact PJ.joined (l17, v18) [1] hm ⟨rfl, trivial⟩ ⟨by decide, rfl⟩
        · obtain ⟨y0, hm, hP27⟩ := ordStepK hP21 hp25 (fun _ => rfl)
          refine SJ.q (YldS.yld (y_extract rfl rfl)) rfl ?_
          refine SJ.nil ?_
          refine PJ.next ?_
          refine WJ.seq ?_
          refine WJ.if_t rfl ?_
          refine WJ.skip ?_
          refine PJ.next ?_
          refine WJ.block ?_
          refine WJ.seq ?_
          refine WJ.quiet ?_
          refine QJ.step (YldS.yld (y_entryV (k := 0) rfl rfl)) rfl ?_
          refine QJ.step (YldS.yld (y_extract rfl rfl)) rfl ?_
          refine QJ.step (YldS.yld (y_assign rfl)) rfl ?_
          refine QJ.done ?_
          refine PJ.next ?_
          refine WJ.reg ?_
          refine SJ.q (YldS.yld (y_move rfl)) rfl ?_
          refine SJ.q (YldS.yld (y_move rfl)) rfl ?_
          refine SJ.buildSlice (R := fStr) (os := [.tmp 18]) [y23.1] Try.runUnderlying24 Try.sizeOf9 Try.zeroValue9 rfl rfl rfl rfl rfl rfl fun v28 => ?_
          obtain ⟨l29, h30, hm⟩ := bindS hm
          refine SJ.append (k := 2) (R := fStr) h30 rfl Try.underlying24 el9 rfl rfl rfl (fun w hw => (hw.row_rd (k := 0) rfl)) rfl fun v31 => ?_
          refine SJ.q (YldS.yld (y_assign rfl)) rfl ?_
          refine SJ.nil ?_
          refine PJ.block_normal ?_
          refine PJ.it_none 1 rfl ?_
          obtain rfl := Option.some.inj hm
          exact PJ.round (rem24, l29, v31) [1, 2] ⟨hP27, rlen hp25 hN22⟩ ⟨rfl, rfl, trivial⟩ ⟨by decide, rfl⟩
    · rintro ⟨l8, v9⟩ hm
      subst hk11
      refine WJ.seq ?_
      refine WJ.reg ?_
      refine SJ.q (YldS.yld (y_move rfl)) rfl ?_
      obtain ⟨l32, h33, hm⟩ := bindS hm
      refine SJ.sortT (k := 0) sortT20 h33 Try.call20 rfl rfl rfl ?_
      refine SJ.nil ?_
      refine PJ.next ?_
      refine WJ.seq ?_
      refine WJ.quiet ?_
      refine QJ.step (YldS.yld (y_move rfl)) rfl ?_
      refine QJ.step (YldS.yld (y_assign rfl)) rfl ?_
      refine QJ.step (YldS.yld (y_assign rfl)) rfl ?_
      refine QJ.done ?_
      refine PJ.next ?_
      refine WJ.ret ?_
      obtain rfl := Option.some.inj hm
      refine PJ.sel (L' := [row v9 9 fStr l32]) [0] ⟨by decide, rfl⟩ ?_
      exact PJ.retn (vs := [v9, .int .i64 0]) Try.results8 ⟨rfl, rfl, trivial⟩ ⟨_, rfl, rfl⟩

set_option maxRecDepth 100000 in
set_option maxHeartbeats 1000000 in
theorem ok_i_TwoReadings {N : Nat} {words1 : List Str} {r : Str × Int} (hm : i_TwoReadings N words1 = some r) (w : World) (v2 : Value) (hr3 : RdS w (cx w).Fz v2 fStr.rp words1) :
    Calls Try.prog 9 #[v2] w (Ret (cx w) (tup [str r.1, .int .i64 r.2])) := by
  unfold i_TwoReadings at hm
  refine Calls.enter [v2] Try.func9 rfl Try.ntmps9 rfl ?_
  refine WJ.seq ?_
  refine WJ.quiet ?_
  refine QJ.step (YldS.yld (y_assign rfl)) rfl ?_
  refine QJ.step (YldS.yld (y_assign rfl)) rfl ?_
  refine QJ.done ?_
  refine PJ.next ?_
  refine WJ.seq ?_
  refine WJ.seq ?_
  refine WJ.quiet ?_
  refine QJ.step (YldS.yld (y_move rfl)) rfl ?_
  obtain ⟨r4, h5, hm⟩ := bindS hm
  refine QJ.step (y_call Try.call17 rfl (RetG.quiet fun w hw => ok_i_ValidCode h5 w _ (hr3.st hw))) rfl ?_
  refine QJ.step (YldS.yld (y_not rfl)) rfl ?_
  refine QJ.done ?_
  refine PJ.next ?_
  refine WJ.cond (t := !r4) rfl (fun hb6 => ?_) (fun hb6 => ?_)
  · replace hm := ifT hm hb6
    refine WJ.seq ?_
    refine WJ.quiet ?_
    refine QJ.step (YldS.yld (y_assign rfl)) rfl ?_
    refine QJ.step (YldS.yld (y_assign rfl)) rfl ?_
    refine QJ.done ?_
    refine PJ.next ?_
    refine WJ.ret ?_
    refine PJ.then_ret ?_
    obtain rfl := Option.some.inj hm
    refine PJ.sel (L' := []) [] ⟨List.nodup_nil, rfl⟩ ?_
    exact PJ.retn (vs := [str [], .int .i64 1]) Try.results9 ⟨rfl, rfl, trivial⟩ ⟨rfl, rfl⟩
  · replace hm := ifF hm hb6
    refine WJ.skip ?_
    refine PJ.next ?_
    refine WJ.seq ?_
    refine WJ.reg ?_
    refine SJ.q (YldS.yld (y_move rfl)) rfl ?_
    obtain ⟨r7, h8, hm⟩ := bindS hm
    refine SJ.call Try.call19 rfl (fun w hw => ok_i_restTexts h8 w _ (hr3.st hw)) rfl ?_
    rintro _ _ ⟨g9, rfl, rfl⟩
    refine SJ.q (YldS.yld (y_lookupV2 (k := 0) (f := str) (z := ([] : Str)) rfl Try.underlying46 Try.underlying9 Try.zeroValue9 rfl rfl)) rfl ?_
    refine SJ.q (YldS.yld (y_move rfl)) rfl ?_
    refine SJ.q (YldS.yld (y_extract rfl rfl)) rfl ?_
    refine SJ.q (YldS.yld (y_extract rfl rfl)) rfl ?_
    refine SJ.q (YldS.yld (y_assign rfl)) rfl ?_
    refine SJ.q (YldS.yld (y_assign rfl)) rfl ?_
    refine SJ.nil ?_
    refine PJ.next ?_
    refine WJ.seq ?_
    refine WJ.seq ?_
    refine WJ.quiet ?_
    refine QJ.step (YldS.yld (y_move rfl)) rfl ?_
    refine QJ.step (YldS.yld (y_not rfl)) rfl ?_
    refine QJ.done ?_
    refine PJ.next ?_
    refine WJ.cond (t := !(Option.isSome (mgetO r7 []))) rfl (fun hb10 => ?_) (fun hb10 => ?_)
    · replace hm := ifT hm hb10
      refine WJ.seq ?_
      refine WJ.quiet ?_
      refine QJ.step (YldS.yld (y_assign rfl)) rfl ?_
      refine QJ.step (YldS.yld (y_assign rfl)) rfl ?_
      refine QJ.done ?_
      refine PJ.next ?_
      refine WJ.ret ?_
      refine PJ.then_ret ?_
      obtain rfl := Option.some.inj hm
      refine PJ.sel (L' := []) [] ⟨List.nodup_nil, rfl⟩ ?_
      exact PJ.retn (vs := [str [], .int .i64 3]) Try.results9 ⟨rfl, rfl, trivial⟩ ⟨rfl, rfl⟩
    · replace hm := ifF hm hb10
      refine WJ.skip ?_
      refine PJ.next ?_
      refine WJ.seq ?_
      refine WJ.quiet ?_
      refine QJ.step (YldS.yld (y_move rfl)) rfl ?_
      refine QJ.step (YldS.yld (y_assign rfl)) rfl ?_
      refine QJ.step (YldS.yld (y_assign rfl)) rfl ?_
      refine QJ.done ?_
      refine PJ.next ?_
      refine WJ.ret ?_
      obtain rfl := Option.some.inj hm
      refine PJ.sel (L' := []) [] ⟨List.nodup_nil, rfl⟩ ?_
      exact PJ.retn (vs := [str (Option.getD (mgetO r7 []) ([] : Str)), .int .i64 0]) Try.results9 ⟨rfl, rfl, trivial⟩ ⟨rfl, rfl⟩

set_option maxRecDepth 100000 in
set_option maxHeartbeats 1000000 in
theorem ok_i_LongestRest {N : Nat} {words1 : List Str} {r : Int × Int} (hm : i_LongestRest N words1 = some r) (w : World) (v2 : Value) (hr3 : RdS w (cx w).Fz v2 fStr.rp words1) :
    Calls Try.prog 10 #[v2] w (Ret (cx w) (tup [.int .i64 r.1, .int .i64 r.2])) := by
  unfold i_LongestRest at hm
  refine Calls.enter [v2] Try.func10 rfl Try.ntmps10 rfl ?_
  refine WJ.seq ?_
  refine WJ.quiet ?_
  refine QJ.step (YldS.yld (y_assign rfl)) rfl ?_
  refine QJ.step (YldS.yld (y_assign rfl)) rfl ?_
  refine QJ.done ?_
  refine PJ.next ?_
  refine WJ.seq ?_
  refine WJ.seq ?_
  refine WJ.quiet ?_
  refine QJ.step (YldS.yld (y_move rfl)) rfl ?_
  obtain ⟨r4, h5, hm⟩ := bindS hm
  refine QJ.step (y_call Try.call17 rfl (RetG.quiet fun w hw => ok_i_ValidCode h5 w _ (hr3.st hw))) rfl ?_
  refine QJ.step (YldS.yld (y_not rfl)) rfl ?_
  refine QJ.done ?_
  refine PJ.next ?_
  refine WJ.cond (t := !r4) rfl (fun hb6 => ?_) (fun hb6 => ?_)
  · replace hm := ifT hm hb6
    refine WJ.seq ?_
    refine WJ.quiet ?_
    refine QJ.step (YldS.yld (y_assign rfl)) rfl ?_
    refine QJ.step (YldS.yld (y_assign rfl)) rfl ?_
    refine QJ.done ?_
    refine PJ.next ?_
    refine WJ.ret ?_
    refine PJ.then_ret ?_
    obtain rfl := Option.some.inj hm
    refine PJ.sel (L' := []) [] ⟨List.nodup_nil, rfl⟩ ?_
    exact PJ.retn (vs := [.int .i64 0, .int .i64 1]) Try.results10 ⟨rfl, rfl, trivial⟩ ⟨rfl, rfl⟩
  · replace hm := ifF hm hb6
    refine WJ.skip ?_
    refine PJ.next ?_
    refine WJ.seq ?_
    refine WJ.reg ?_
    refine SJ.q (YldS.yld (y_move rfl)) rfl ?_
    obtain ⟨r7, h8, hm⟩ := bindS hm
    refine SJ.call Try.call19 rfl (fun w hw => ok_i_restTexts h8 w _ (hr3.st hw)) rfl ?_
    rintro _ _ ⟨g9, rfl, rfl⟩
    refine SJ.q (YldS.yld (y_assign rfl)) rfl ?_
    refine SJ.nil ?_
    refine PJ.next ?_
    refine WJ.seq ?_
    refine WJ.seq ?_
    refine WJ.quiet ?_
    refine QJ.step (YldS.yld (y_move rfl)) rfl ?_
    refine QJ.step (YldS.yld (y_lookupV2 (k := 0) (f := str) (z := ([] : Str)) rfl Try.underlying46 Try.underlying9 Try.zeroValue9 rfl rfl)) rfl ?_
    refine QJ.step (YldS.yld (y_move rfl)) rfl ?_
    refine QJ.step (YldS.yld (y_extract rfl rfl)) rfl ?_
    refine QJ.step (YldS.yld (y_extract rfl rfl)) rfl ?_
    refine QJ.step (YldS.yld (y_assign rfl)) rfl ?_
    refine QJ.step (YldS.yld (y_assign rfl)) rfl ?_
    refine QJ.done ?_
    refine PJ.next ?_
    refine WJ.seq ?_
    refine WJ.quiet ?_
    refine QJ.step (YldS.yld (y_move rfl)) rfl ?_
    refine QJ.done ?_
    refine PJ.next ?_
    refine WJ.cond (t := (Option.isSome (mgetO r7 []))) rfl (fun hb10 => ?_) (fun hb10 => ?_)
    · replace hm := ifT hm hb10
      refine WJ.seq ?_
      refine WJ.quiet ?_
      refine QJ.step (YldS.yld (y_assign rfl)) rfl ?_
      refine QJ.step (YldS.yld (y_assign rfl)) rfl ?_
      refine QJ.done ?_
      refine PJ.next ?_
      refine WJ.ret ?_
      refine PJ.then_ret ?_
      obtain rfl := Option.some.inj hm
      refine PJ.sel (L' := []) [] ⟨List.nodup_nil, rfl⟩ ?_
      exact PJ.retn (vs := [.int .i64 0, .int .i64 9]) Try.results10 ⟨rfl, rfl, trivial⟩ ⟨rfl, rfl⟩
    · replace hm := ifF hm hb10
      refine WJ.skip ?_
      refine PJ.next ?_
      refine WJ.seq ?_
      refine WJ.quiet ?_
      refine QJ.step (YldS.yld (y_assign rfl)) rfl ?_
      refine QJ.done ?_
      refine PJ.next ?_
      obtain ⟨kj12, hk13, hm⟩ := withK_open hm
      refine WJ.join (X := Int) (fun (x : Int) => kj12 x = some r) (fun (x : Int) => [(7, .int .i64 x)]) (fun (x : Int) => []) ?_ ?_
      · clear hk13
        refine WJ.seq ?_
        refine WJ.reg ?_
        refine SJ.q (YldS.yld (y_move rfl)) rfl ?_
        refine SJ.rangeV (k := 0) (f := str) rfl Try.underlying46 rfl rfl fun it14 => ?_
        refine SJ.nil ?_
        refine PJ.next ?_
        refine WJ.block ?_
        obtain ⟨z17, hz18, z17h⟩ := ordK hm
        refine WJ.sel (L' := (fun (x : (List (Str × Str)) × Int) => [itV str g9 it14 r7 x.1 none]) (r7, 0)) [0] ⟨by decide, rfl⟩ ?_
        refine WJ.sub (m' := (fun (x : (List (Str × Str)) × Int) => [(7, .int .i64 x.2), (21, pt it14 0)]) (r7, 0)) ⟨rfl, rfl, trivial⟩ ?_
        refine WJ.loop (X := (List (Str × Str)) × Int) (fun Nr (x : (List (Str × Str)) × Int) => (∀ l' : List (Str × Str), List.Perm x.1 l' → Option.bind (i_LongestRest_r1 l' x.2) z17 = some _) ∧ List.length x.1 < Nr) (fun (x : (List (Str × Str)) × Int) => [(7, .int .i64 x.2), (21, pt it14 0)]) (fun (x : (List (Str × Str)) × Int) => [itV str g9 it14 r7 x.1 none]) ?_ (List.length r7 + 1) (r7, 0) ⟨hz18, Nat.lt_succ_self _⟩
        · rintro Nr ⟨rem15, most16⟩ hI
          obtain ⟨hP19, hN20⟩ := hI
          cases Nr with
          | zero => exact absurd hN20 (Nat.not_lt_zero _)
          | succ Nr =>
          refine WJ.seq ?_
          refine WJ.reg ?_
          refine SJ.nextV (k := 0) rfl rfl rfl (fun hE24 => ?_) (fun y21 rem22 hp23 => ?_)
          · have hm := z17h most16 (hP19 [] (by subst hE24; exact List.Perm.refl _))
            refine SJ.q (YldS.yld (y_extract rfl rfl)) rfl ?_
            refine SJ.nil ?_
            refine PJ.next ?_
            refine WJ.seq ?_
            refine WJ.if_f rfl ?_
            refine WJ.exit ?_
            refine PJ.then_exit (PJ.then_exit (PJ.block_exit ?_))
            exact PJ.joined most16 [] hm ⟨rfl, trivial⟩ ⟨List.nodup_nil, rfl⟩
          · obtain ⟨y0, hm, hP25⟩ := ordStepK hP19 hp23 (fun _ => rfl)
            refine SJ.q (YldS.yld (y_extract rfl rfl)) rfl ?_
            refine SJ.nil ?_
            refine PJ.next ?_
            refine WJ.seq ?_
            refine WJ.if_t rfl ?_
            refine WJ.skip ?_
            refine PJ.next ?_
            refine WJ.block ?_
            refine WJ.seq ?_
            refine WJ.quiet ?_
            refine QJ.step (YldS.yld (y_entryV (k := 0) rfl rfl)) rfl ?_
            refine QJ.step (YldS.yld (y_extract rfl rfl)) rfl ?_
            refine QJ.step (YldS.yld (y_assign rfl)) rfl ?_
            refine QJ.done ?_
            refine PJ.next ?_
            refine WJ.quiet ?_
            refine QJ.step (YldS.yld (y_move rfl)) rfl ?_
            refine QJ.step (YldS.yld (y_move rfl)) rfl ?_
            refine QJ.step (YldS.yld (y_lenStr Try.runUnderlying9 rfl)) rfl ?_
            refine QJ.step (YldS.yld (y_max rfl rfl)) rfl ?_
            refine QJ.step (YldS.yld (y_assign rfl)) rfl ?_
            refine QJ.done ?_
            refine PJ.block_normal ?_
            refine PJ.it_none 0 rfl ?_
            obtain rfl := Option.some.inj hm
            exact PJ.round (rem22, imax most16 (List.length y21.1 : Int)) [0] ⟨hP25, rlen hp23 hN20⟩ ⟨rfl, rfl, trivial⟩ ⟨by decide, rfl⟩
      · rintro most11 hm
        subst hk13
        refine WJ.seq ?_
        refine WJ.quiet ?_
        refine QJ.step (YldS.yld (y_move rfl)) rfl ?_
        refine QJ.step (YldS.yld (y_assign rfl)) rfl ?_
        refine QJ.step (YldS.yld (y_assign rfl)) rfl ?_
        refine QJ.done ?_
        refine PJ.next ?_
        refine WJ.ret ?_
        obtain rfl := Option.some.inj hm
        refine PJ.sel (L' := []) [] ⟨List.nodup_nil, rfl⟩ ?_
        exact PJ.retn (vs := [.int .i64 most11, .int .i64 0]) Try.results10 ⟨rfl, rfl, trivial⟩ ⟨rfl, rfl⟩

set_option maxRecDepth 100000 in
set_option maxHeartbeats 1000000 in
theorem ok_w_a2HasText {N : Nat} {list1 : List Str} {s4 : Str} {r : Bool} (hm : w_a2HasText N list1 s4 = some r) (w : World) (v2 : Value) (hr3 : RdS w (cx w).Fz v2 fStr.rp list1) :
    Calls Try.prog 11 #[v2, str s4] w (Ret (cx w) (.bool r)) := by
  unfold w_a2HasText at hm
  refine Calls.enter [v2, str s4] Try.func11 rfl Try.ntmps11 rfl ?_
  refine WJ.seq ?_
  refine WJ.quiet ?_
  refine QJ.step (YldS.yld (y_assign rfl)) rfl ?_
  refine QJ.done ?_
  refine PJ.next ?_
  obtain ⟨kj5, hk6, hm⟩ := withK_open hm
  refine WJ.join (X := Unit) (fun (_ : Unit) => kj5  = some r) (fun (_ : Unit) => []) (fun (_ : Unit) => []) ?_ ?_
  · clear hk6
    refine WJ.seq ?_
    refine WJ.quiet ?_
    refine QJ.step (YldS.yld (y_assign rfl)) rfl ?_
    refine QJ.done ?_
    refine PJ.next ?_
    refine WJ.block ?_
    refine WJ.sel (L' := (fun (x : Int) => []) 0) [] ⟨List.nodup_nil, rfl⟩ ?_
    refine WJ.sub (m' := (fun (x : Int) => [(0, v2), (1, str s4), (5, .int .i64 x)]) 0) ⟨rfl, rfl, rfl, trivial⟩ ?_
    refine WJ.loop (X := Int) (fun N (x : Int) => w_a2HasText_l1 kj5 list1 s4 N x = some r) (fun (x : Int) => [(0, v2), (1, str s4), (5, .int .i64 x)]) (fun (x : Int) => []) ?_ N 0 hm
    · rintro N i7 hI
      have hm := hI; clear hI
      cases N with
      | zero => cases hm
      | succ N =>
      unfold w_a2HasText_l1 at hm
      refine WJ.seq ?_
      refine WJ.seq ?_
      refine WJ.quiet ?_
      refine QJ.step (YldS.yld (y_move rfl)) rfl ?_
      refine QJ.step (YldS.yld (y_move rfl)) rfl ?_
      refine QJ.step (YldS.yld (y_lenS Try.runUnderlying24 hr3 rfl)) rfl ?_
      refine QJ.step (YldS.yld (y_bin rfl rfl rfl)) rfl ?_
      refine QJ.done ?_
      refine PJ.next ?_
      refine WJ.cond (t := decide (i7 < (List.length list1 : Int))) rfl (fun hb8 => ?_) (fun hb8 => ?_)
      · replace hm := ifT hm hb8
        refine WJ.skip ?_
        refine PJ.next ?_
        refine WJ.seq ?_
        refine WJ.block ?_
        refine WJ.seq ?_
        refine WJ.quiet ?_
        refine QJ.step (YldS.yld (y_move rfl)) rfl ?_
        refine QJ.step (YldS.yld (y_move rfl)) rfl ?_
        obtain ⟨e9, h10, hm⟩ := bindS hm
        obtain ⟨ad11, _, rfl, ha12, hy13⟩ := hr3.elem h10
        refine QJ.step (YldS.yld (hy13 Try.runUnderlying24 Try.sizeOf9 rfl rfl)) rfl ?_
        refine QJ.step (YldS.yld (y_load1 (v := str e9) Try.isAgg9 ha12 St.frozenC rfl)) rfl ?_
        refine QJ.step (YldS.yld (y_move rfl)) rfl ?_
        refine QJ.step (YldS.yld (y_binS rfl rfl rfl)) rfl ?_
        refine QJ.done ?_
        refine PJ.next ?_
        refine WJ.cond (t := (e9 == s4)) rfl (fun hb14 => ?_) (fun hb14 => ?_)
        · replace hm := ifT hm hb14
          refine WJ.seq ?_
          refine WJ.quiet ?_
          refine QJ.step (YldS.yld (y_assign rfl)) rfl ?_
          refine QJ.done ?_
          refine PJ.next ?_
          refine WJ.ret ?_
          refine PJ.block_ret (PJ.then_ret (PJ.then_ret (PJ.block_ret (PJ.then_ret ?_))))
          obtain rfl := Option.some.inj hm
          refine PJ.sel (L' := []) [] ⟨List.nodup_nil, rfl⟩ ?_
          exact PJ.retn (vs := [.bool true]) Try.results11 ⟨rfl, trivial⟩ ⟨rfl, rfl⟩
        · replace hm := ifF hm hb14
          refine WJ.skip ?_
          refine PJ.block_normal (PJ.next ?_)
          refine WJ.quiet ?_
          refine QJ.step (YldS.yld (y_move rfl)) rfl ?_
          refine QJ.step (YldS.yld (y_bin rfl rfl rfl)) rfl ?_
          refine QJ.step (YldS.yld (y_assign rfl)) rfl ?_
          refine QJ.done ?_
          exact PJ.round (w64 (i7 + 1)) [] hm ⟨rfl, rfl, rfl, trivial⟩ ⟨List.nodup_nil, rfl⟩
      · replace hm := ifF hm hb8
        refine WJ.exit ?_
        refine PJ.then_exit (PJ.then_exit (PJ.block_exit ?_))
        exact PJ.joined () [] hm trivial ⟨List.nodup_nil, rfl⟩
  · rintro _ hm
    subst hk6
    refine WJ.seq ?_
    refine WJ.quiet ?_
    refine QJ.step (YldS.yld (y_assign rfl)) rfl ?_
    refine QJ.done ?_
    refine PJ.next ?_
    refine WJ.ret ?_
    obtain rfl := Option.some.inj hm
    refine PJ.sel (L' := []) [] ⟨List.nodup_nil, rfl⟩ ?_
    exact PJ.retn (vs := [.bool false]) Try.results11 ⟨rfl, trivial⟩ ⟨rfl, rfl⟩

set_option maxRecDepth 100000 in
set_option maxHeartbeats 1000000 in
theorem ok_i_codeCode {N : Nat} {words1 : List Str} {text4 : Str} {r : Int} (hm : i_codeCode N words1 text4 = some r) (w : World) (v2 : Value) (hr3 : RdS w (cx w).Fz v2 fStr.rp words1) :
    Calls Try.prog 21 #[v2, str text4] w (Ret (cx w) (.int .i64 r)) := by
  unfold i_codeCode at hm
  refine Calls.enter [v2, str text4] Try.func21 rfl Try.ntmps21 rfl ?_
  refine WJ.seq ?_
  refine WJ.quiet ?_
  refine QJ.step (YldS.yld (y_assign rfl)) rfl ?_
  refine QJ.done ?_
  refine PJ.next ?_
  refine WJ.seq ?_
  refine WJ.seq ?_
  refine WJ.quiet ?_
  refine QJ.step (YldS.yld (y_move rfl)) rfl ?_
  obtain ⟨r5, h6, hm⟩ := bindS hm
  refine QJ.step (y_call Try.call17 rfl (RetG.quiet fun w hw => ok_i_ValidCode h6 w _ (hr3.st hw))) rfl ?_
  refine QJ.step (YldS.yld (y_not rfl)) rfl ?_
  refine QJ.done ?_
  refine PJ.next ?_
  refine WJ.cond (t := !r5) rfl (fun hb7 => ?_) (fun hb7 => ?_)
  · replace hm := ifT hm hb7
    refine WJ.seq ?_
    refine WJ.quiet ?_
    refine QJ.step (YldS.yld (y_assign rfl)) rfl ?_
    refine QJ.done ?_
    refine PJ.next ?_
    refine WJ.ret ?_
    refine PJ.then_ret ?_
    obtain rfl := Option.some.inj hm
    refine PJ.sel (L' := []) [] ⟨List.nodup_nil, rfl⟩ ?_
    exact PJ.retn (vs := [.int .i64 1]) Try.results21 ⟨rfl, trivial⟩ ⟨rfl, rfl⟩
  · replace hm := ifF hm hb7
    refine WJ.skip ?_
    refine PJ.next ?_
    refine WJ.seq ?_
    refine WJ.seq ?_
    refine WJ.quiet ?_
    refine QJ.step (YldS.yld (y_move rfl)) rfl ?_
    obtain ⟨r8, h9, hm⟩ := bindS hm
    refine QJ.step (y_call Try.call26 rfl (RetG.quiet fun w hw => ok_i_isText h9 w )) rfl ?_
    refine QJ.step (YldS.yld (y_not rfl)) rfl ?_
    refine QJ.done ?_
    refine PJ.next ?_
    refine WJ.cond (t := !r8) rfl (fun hb10 => ?_) (fun hb10 => ?_)
    · replace hm := ifT hm hb10
      refine WJ.seq ?_
      refine WJ.quiet ?_
      refine QJ.step (YldS.yld (y_assign rfl)) rfl ?_
      refine QJ.done ?_
      refine PJ.next ?_
      refine WJ.ret ?_
      refine PJ.then_ret ?_
      obtain rfl := Option.some.inj hm
      refine PJ.sel (L' := []) [] ⟨List.nodup_nil, rfl⟩ ?_
      exact PJ.retn (vs := [.int .i64 2]) Try.results21 ⟨rfl, trivial⟩ ⟨rfl, rfl⟩
    · replace hm := ifF hm hb10
      refine WJ.skip ?_
      refine PJ.next ?_
      refine WJ.seq ?_
      refine WJ.quiet ?_
      refine QJ.step (YldS.yld (y_assign rfl)) rfl ?_
      refine QJ.done ?_
      refine PJ.next ?_
      refine WJ.ret ?_
      obtain rfl := Option.some.inj hm
      refine PJ.sel (L' := []) [] ⟨List.nodup_nil, rfl⟩ ?_
      exact PJ.retn (vs := [.int .i64 0]) Try.results21 ⟨rfl, trivial⟩ ⟨rfl, rfl⟩

set_option maxRecDepth 100000 in
set_option maxHeartbeats 1000000 in
theorem ok_i_CountReadings {N : Nat} {words1 : List Str} {text4 : Str} {r : Int × Int} (hm : i_CountReadings N words1 text4 = some r) (w : World) (v2 : Value) (hr3 : RdS w (cx w).Fz v2 fStr.rp words1) :
    Calls Try.prog 12 #[v2, str text4] w (Ret (cx w) (tup [.int .i64 r.1, .int .i64 r.2])) := by
  unfold i_CountReadings at hm
  refine Calls.enter [v2, str text4] Try.func12 rfl Try.ntmps12 rfl ?_
  refine WJ.seq ?_
  refine WJ.quiet ?_
  refine QJ.step (YldS.yld (y_assign rfl)) rfl ?_
  refine QJ.step (YldS.yld (y_assign rfl)) rfl ?_
  refine QJ.done ?_
  refine PJ.next ?_
  refine WJ.seq ?_
  refine WJ.seq ?_
  refine WJ.quiet ?_
  refine QJ.step (YldS.yld (y_move rfl)) rfl ?_
  refine QJ.step (YldS.yld (y_move rfl)) rfl ?_
  obtain ⟨r5, h6, hm⟩ := bindS hm
  refine QJ.step (y_call Try.call21 rfl (RetG.quiet fun w hw => ok_i_codeCode h6 w _ (hr3.st hw))) rfl ?_
  refine QJ.step (YldS.yld (y_assign rfl)) rfl ?_
  refine QJ.done ?_
  refine PJ.next ?_
  refine WJ.seq ?_
  refine WJ.quiet ?_
  refine QJ.step (YldS.yld (y_move rfl)) rfl ?_
  refine QJ.step (YldS.yld (y_bin rfl rfl rfl)) rfl ?_
  refine QJ.done ?_
  refine PJ.next ?_
  refine WJ.cond (t := (r5 != 0)) rfl (fun hb7 => ?_) (fun hb7 => ?_)
  · replace hm := ifT hm hb7
    refine WJ.seq ?_
    refine WJ.quiet ?_
    refine QJ.step (YldS.yld (y_move rfl)) rfl ?_
    refine QJ.step (YldS.yld (y_assign rfl)) rfl ?_
    refine QJ.step (YldS.yld (y_assign rfl)) rfl ?_
    refine QJ.done ?_
    refine PJ.next ?_
    refine WJ.ret ?_
    refine PJ.then_ret ?_
    obtain rfl := Option.some.inj hm
    refine PJ.sel (L' := []) [] ⟨List.nodup_nil, rfl⟩ ?_
    exact PJ.retn (vs := [.int .i64 0, .int .i64 r5]) Try.results12 ⟨rfl, rfl, trivial⟩ ⟨rfl, rfl⟩
  · replace hm := ifF hm hb7
    refine WJ.skip ?_
    refine PJ.next ?_
    refine WJ.seq ?_
    refine WJ.reg ?_
    refine SJ.q (YldS.yld (y_move rfl)) rfl ?_
    refine SJ.q (YldS.yld (y_lenStr Try.runUnderlying9 rfl)) rfl ?_
    refine SJ.q (YldS.yld (y_bin rfl rfl rfl)) rfl ?_
    obtain ⟨l8, h9, hm⟩ := bindS hm
    refine SJ.makeSlice (R := fI64) (z := 0) h9 Try.underlying36 el2 rfl rfl rfl fun v10 => ?_
    refine SJ.q (YldS.yld (y_assign rfl)) rfl ?_
    refine SJ.nil ?_
    refine PJ.next ?_
    refine WJ.seq ?_
    refine WJ.reg ?_
    refine SJ.q (YldS.yld (y_move rfl)) rfl ?_
    refine SJ.q (YldS.yld (y_move rfl)) rfl ?_
    refine SJ.q (YldS.yld (y_lenStr Try.runUnderlying9 rfl)) rfl ?_
    obtain ⟨e11, h12, hm⟩ := bindS hm
    refine SJ.q (YldS.yld (y_ixRow (k := 0) (R := fI64) rfl Try.runUnderlying36 Try.sizeOf2 rfl rfl h12)) rfl ?_
    refine SJ.storeRL (k := 0) (i := (Int.toNat (List.length text4 : Int))) (off := 0) (us := [.int .i64 1]) (b := 1) rfl rfl (idx_get h12) rfl rfl Try.sizeOf2 rfl rfl rfl ?_
    refine SJ.nil ?_
    refine PJ.next ?_
    obtain ⟨kj14, hk15, hm⟩ := withK_open hm
    refine WJ.join (X := (List Int)) (fun (x : (List Int)) => kj14 x = some r) (fun (x : (List Int)) => [(7, v10)]) (fun (x : (List Int)) => [row v10 2 fI64 x]) ?_ ?_
    · clear hk15
      refine WJ.seq ?_
      refine WJ.quiet ?_
      refine QJ.step (YldS.yld (y_move rfl)) rfl ?_
      refine QJ.step (YldS.yld (y_lenStr Try.runUnderlying9 rfl)) rfl ?_
      refine QJ.step (YldS.yld (y_bin rfl rfl rfl)) rfl ?_
      refine QJ.step (YldS.yld (y_assign rfl)) rfl ?_
      refine QJ.done ?_
      refine PJ.next ?_
      refine WJ.block ?_
      refine WJ.sel (L' := (fun (x : (List Int) × Int) => [row v10 2 fI64 x.1]) ((List.set l8 (Int.toNat (List.length text4 : Int)) 1), w64 ((List.length text4 : Int) - 1))) [0] ⟨by decide, rfl⟩ ?_
      refine WJ.sub (m' := (fun (x : (List Int) × Int) => [(0, v2), (1, str text4), (7, v10), (8, .int .i64 x.2)]) ((List.set l8 (Int.toNat (List.length text4 : Int)) 1), w64 ((List.length text4 : Int) - 1))) ⟨rfl, rfl, rfl, rfl, trivial⟩ ?_
      refine WJ.loop (X := (List Int) × Int) (fun N (x : (List Int) × Int) => i_CountReadings_l1 kj14 words1 text4 N x.1 x.2 = some r) (fun (x : (List Int) × Int) => [(0, v2), (1, str text4), (7, v10), (8, .int .i64 x.2)]) (fun (x : (List Int) × Int) => [row v10 2 fI64 x.1]) ?_ N ((List.set l8 (Int.toNat (List.length text4 : Int)) 1), w64 ((List.length text4 : Int) - 1)) hm
      · rintro N ⟨l16, i17⟩ hI
        have hm := hI; clear hI
        cases N with
        | zero => cases hm
        | succ N =>
        unfold i_CountReadings_l1 at hm
        refine WJ.seq ?_
        refine WJ.seq ?_
        refine WJ.quiet ?_
        refine QJ.step (YldS.yld (y_move rfl)) rfl ?_
        refine QJ.step (YldS.yld (y_bin rfl rfl rfl)) rfl ?_
        refine QJ.done ?_
        refine PJ.next ?_
        refine WJ.cond (t := decide (i17 ≥ 0)) rfl (fun hb18 => ?_) (fun hb18 => ?_)
        · replace hm := ifT hm hb18
          refine WJ.skip ?_
          refine PJ.next ?_
          obtain ⟨kj20, hk21, hm⟩ := withK_open hm
          refine WJ.join (X := (List Int)) (fun (x : (List Int)) => kj20 x = some r) (fun (x : (List Int)) => [(0, v2), (1, str text4), (7, v10), (8, .int .i64 i17)]) (fun (x : (List Int)) => [row v10 2 fI64 x]) ?_ ?_
          · clear hk21
            refine WJ.block ?_
            refine WJ.seq ?_
            refine WJ.quiet ?_
            refine QJ.step (YldS.yld (y_move rfl)) rfl ?_
            refine QJ.step (YldS.yld (y_lenS Try.runUnderlying24 hr3 rfl)) rfl ?_
            refine QJ.step (YldS.yld (y_move rfl)) rfl ?_
            refine QJ.done ?_
            refine PJ.next ?_
            refine WJ.block ?_
            refine WJ.sel (L' := (fun (x : (List Int) × Int) => [row v10 2 fI64 x.1]) (l16, 0)) [0] ⟨by decide, rfl⟩ ?_
            refine WJ.sub (m' := (fun (x : (List Int) × Int) => [(0, v2), (1, str text4), (7, v10), (8, .int .i64 i17), (32, v2), (33, .int .i64 (List.length words1 : Int)), (34, .int .i64 x.2)]) (l16, 0)) ⟨rfl, rfl, rfl, rfl, rfl, rfl, rfl, trivial⟩ ?_
            refine WJ.loop (X := (List Int) × Int) (fun N (x : (List Int) × Int) => i_CountReadings_l2 kj20 words1 text4 i17 N x.1 x.2 = some r) (fun (x : (List Int) × Int) => [(0, v2), (1, str text4), (7, v10), (8, .int .i64 i17), (32, v2), (33, .int .i64 (List.length words1 : Int)), (34, .int .i64 x.2)]) (fun (x : (List Int) × Int) => [row v10 2 fI64 x.1]) ?_ N (l16, 0) hm
            · rintro N ⟨l22, x23⟩ hI
              have hm := hI; clear hI
              cases N with
              | zero => cases hm
              | succ N =>
              unfold i_CountReadings_l2 at hm
              refine WJ.seq ?_
              refine WJ.quiet ?_
              refine QJ.step (YldS.yld (y_bin rfl rfl rfl)) rfl ?_
              refine QJ.done ?_
              refine PJ.next ?_
              refine WJ.seq ?_
              refine WJ.cond (t := decide (x23 < (List.length words1 : Int))) rfl (fun hb24 => ?_) (fun hb24 => ?_)
              · replace hm := ifT hm hb24
                refine WJ.skip ?_
                refine PJ.next ?_
                obtain ⟨kj26, hk27, hm⟩ := withK_open hm
                refine WJ.join (X := (List Int)) (fun (x : (List Int)) => kj26 x = some r) (fun (x : (List Int)) => [(0, v2), (1, str text4), (7, v10), (8, .int .i64 i17), (32, v2), (33, .int .i64 (List.length words1 : Int)), (34, .int .i64 x23)]) (fun (x : (List Int)) => [row v10 2 fI64 x]) ?_ ?_
                · clear hk27
                  refine WJ.block ?_
                  refine WJ.seq ?_
                  refine WJ.quiet ?_
                  obtain ⟨e28, h29, hm⟩ := bindS hm
                  obtain ⟨ad30, _, rfl, ha31, hy32⟩ := hr3.elem h29
                  refine QJ.step (YldS.yld (hy32 Try.runUnderlying24 Try.sizeOf9 rfl rfl)) rfl ?_
                  refine QJ.step (YldS.yld (y_load1 (v := str e28) Try.isAgg9 ha31 St.frozenC rfl)) rfl ?_
                  refine QJ.step (YldS.yld (y_assign rfl)) rfl ?_
                  refine QJ.done ?_
                  refine PJ.next ?_
                  refine WJ.seq ?_
                  refine WJ.quiet ?_
                  refine QJ.step (YldS.yld (y_move rfl)) rfl ?_
                  refine QJ.step (YldS.yld (y_move rfl)) rfl ?_
                  obtain ⟨s33, h34, hm⟩ := bindS hm
                  refine QJ.step (YldS.yld (y_subStr (i := some i17) (j := none) h34 Try.runUnderlying9 rfl ⟨_, rfl⟩ trivial)) rfl ?_
                  refine QJ.step (YldS.yld (y_move rfl)) rfl ?_
                  obtain ⟨r35, h36, hm⟩ := bindS hm
                  refine QJ.step (y_call Try.call22 rfl (RetG.quiet fun w hw => ok_strings_HasPrefix h36 w )) rfl ?_
                  refine QJ.done ?_
                  refine PJ.next ?_
                  refine WJ.cond (t := r35) rfl (fun hb37 => ?_) (fun hb37 => ?_)
                  · replace hm := ifT hm hb37
                    obtain ⟨e38, h39, hm⟩ := bindS hm
                    obtain ⟨e40, h41, hm⟩ := bindS hm
                    obtain ⟨e42, h43, hm⟩ := bindS hm
                    refine WJ.draws (N := 14) (listed0 := #[false, false, false, false, false, false, false, false, false, false, false, false, false, false]) [] follows rfl rfl ?_
                    refine RJ.first 0 (listed' := #[true, false, false, false, false, false, false, false, false, false, false, false, false, false]) [] rfl (by kernel_rfl) rfl ⟨List.nodup_nil, rfl⟩ (y_move rfl) rfl ?_
                    refine RJ.first 1 (listed' := #[true, true, false, false, false, false, false, false, false, false, false, false, false, false]) [] rfl (by kernel_rfl) rfl ⟨List.nodup_nil, rfl⟩ (y_move rfl) rfl ?_
                    refine RJ.first 4 (listed' := #[true, true, false, false, true, false, false, false, false, false, false, false, false, false]) [] rfl (by kernel_rfl) rfl ⟨List.nodup_nil, rfl⟩ (y_move rfl) rfl ?_
                    refine RJ.first 5 (listed' := #[true, true, false, false, true, true, false, false, false, false, false, false, false, false]) [] rfl (by kernel_rfl) rfl ⟨List.nodup_nil, rfl⟩ (y_move rfl) rfl ?_
                    refine RJ.first 6 (listed' := #[true, true, false, false, true, true, true, false, false, false, false, false, false, false]) [] rfl (by kernel_rfl) rfl ⟨List.nodup_nil, rfl⟩ (y_move rfl) rfl ?_
                    refine RJ.first 7 (listed' := #[true, true, false, false, true, true, true, true, false, false, false, false, false, false]) [] rfl (by kernel_rfl) rfl ⟨List.nodup_nil, rfl⟩ (y_lenStr Try.runUnderlying9 rfl) rfl ?_
                    refine RJ.first 8 (listed' := #[true, true, false, false, true, true, true, true, true, false, false, false, false, false]) [] rfl (by kernel_rfl) rfl ⟨List.nodup_nil, rfl⟩ (y_bin rfl rfl rfl) rfl ?_
                    refine RJ.hold (X := Unit) 3 #[true, true, true, true, true, true, true, true, true, true, true, false, false, false] (fun (_ : Unit) => [(0, v2), (1, str text4), (7, v10), (8, .int .i64 i17), (32, v2), (33, .int .i64 (List.length words1 : Int)), (34, .int .i64 x23), (43, v10), (44, .int .i64 i17), (46, .int .i64 e38), (53, .int .i64 e40)]) (fun (_ : Unit) => [row v10 2 fI64 l22]) ?_ ?_
                    · rintro _
                      refine RJ.first 11 (listed' := #[true, true, true, true, true, true, true, true, true, true, true, true, false, false]) [] rfl (by kernel_rfl) rfl ⟨List.nodup_nil, rfl⟩ (y_bin rfl rfl rfl) rfl ?_
                      refine RJ.step1 12 [] (by kernel_rfl) ⟨List.nodup_nil, rfl⟩ ?_
                      refine RO.of (listed' := #[true, true, true, true, true, true, true, true, true, true, true, true, true, false]) rfl rfl ?_
                      refine SJ.q (YldS.yld (y_ixRow (k := 0) (R := fI64) rfl Try.runUnderlying36 Try.sizeOf2 rfl rfl h43)) rfl ?_
                      refine SJ.nil ?_
                      refine PJ.draw ?_
                      refine RJ.step1 13 [] (by kernel_rfl) ⟨List.nodup_nil, rfl⟩ ?_
                      refine RO.of (listed' := #[true, true, true, true, true, true, true, true, true, true, true, true, true, true]) rfl rfl ?_
                      refine SJ.storeRL (k := 0) (i := (Int.toNat i17)) (off := 0) (us := [.int .i64 (w64 (e38 + e40))]) (b := w64 (e38 + e40)) rfl rfl (idx_get h43) rfl rfl Try.sizeOf2 rfl rfl rfl ?_
                      refine SJ.nil ?_
                      refine PJ.draw ?_
                      refine RJ.fin [] (by kernel_rfl) ⟨List.nodup_nil, rfl⟩ ?_
                      refine PJ.block_normal ?_
                      exact PJ.joined (List.set l22 (Int.toNat i17) (w64 (e38 + e40))) [0] hm ⟨rfl, rfl, rfl, rfl, rfl, rfl, rfl, trivial⟩ ⟨by decide, rfl⟩
                    · intro hD44
                      refine RJ.step2 2 9 [] (by kernel_rfl) ⟨List.nodup_nil, rfl⟩ ?_ ?_
                      · refine RO.of (listed' := #[true, true, true, false, true, true, true, true, true, false, false, false, false, false]) rfl rfl ?_
                        refine SJ.q (YldS.yld (y_ixRow (k := 0) (R := fI64) rfl Try.runUnderlying36 Try.sizeOf2 rfl rfl h39)) rfl ?_
                        refine SJ.nil ?_
                        refine PJ.draw ?_
                        refine RJ.step2 3 9 [] (by kernel_rfl) ⟨List.nodup_nil, rfl⟩ ?_ ?_
                        · refine RO.of (listed' := #[true, true, true, true, true, true, true, true, true, false, false, false, false, false]) rfl rfl ?_
                          refine SJ.q (YldS.yld (y_loadR (k := 0) (i := (Int.toNat i17)) (off := 0) (u := .int .i64 e38) rfl Try.isAgg2 rfl (idx_get h39) rfl)) rfl ?_
                          refine SJ.nil ?_
                          refine PJ.draw ?_
                          refine RJ.step1 9 [] (by kernel_rfl) ⟨List.nodup_nil, rfl⟩ ?_
                          refine RO.of (listed' := #[true, true, true, true, true, true, true, true, true, true, false, false, false, false]) rfl rfl ?_
                          refine SJ.q (YldS.yld (y_ixRow (k := 0) (R := fI64) rfl Try.runUnderlying36 Try.sizeOf2 rfl rfl h41)) rfl ?_
                          refine SJ.nil ?_
                          refine PJ.draw ?_
                          refine RJ.step1 10 [] (by kernel_rfl) ⟨List.nodup_nil, rfl⟩ ?_
                          refine RO.of (listed' := #[true, true, true, true, true, true, true, true, true, true, true, false, false, false]) rfl rfl ?_
                          refine SJ.q (YldS.yld (y_loadR (k := 0) (i := (Int.toNat (w64 (i17 + (List.length e28 : Int))))) (off := 0) (u := .int .i64 e40) rfl Try.isAgg2 rfl (idx_get h41) rfl)) rfl ?_
                          refine SJ.nil ?_
                          refine PJ.draw ?_
                          exact RJ.weak (hD44 ()) [0] ⟨rfl, rfl, rfl, rfl, rfl, rfl, rfl, rfl, rfl, rfl, rfl, trivial⟩ ⟨by decide, rfl⟩
                        · refine RO.of (listed' := #[true, true, true, false, true, true, true, true, true, true, false, false, false, false]) rfl rfl ?_
                          refine SJ.q (YldS.yld (y_ixRow (k := 0) (R := fI64) rfl Try.runUnderlying36 Try.sizeOf2 rfl rfl h41)) rfl ?_
                          refine SJ.nil ?_
                          refine PJ.draw ?_
                          refine RJ.step2 3 10 [] (by kernel_rfl) ⟨List.nodup_nil, rfl⟩ ?_ ?_
                          · refine RO.of (listed' := #[true, true, true, true, true, true, true, true, true, true, false, false, false, false]) rfl rfl ?_
                            refine SJ.q (YldS.yld (y_loadR (k := 0) (i := (Int.toNat i17)) (off := 0) (u := .int .i64 e38) rfl Try.isAgg2 rfl (idx_get h39) rfl)) rfl ?_
                            refine SJ.nil ?_
                            refine PJ.draw ?_
                            refine RJ.step1 10 [] (by kernel_rfl) ⟨List.nodup_nil, rfl⟩ ?_
                            refine RO.of (listed' := #[true, true, true, true, true, true, true, true, true, true, true, false, false, false]) rfl rfl ?_
                            refine SJ.q (YldS.yld (y_loadR (k := 0) (i := (Int.toNat (w64 (i17 + (List.length e28 : Int))))) (off := 0) (u := .int .i64 e40) rfl Try.isAgg2 rfl (idx_get h41) rfl)) rfl ?_
                            refine SJ.nil ?_
                            refine PJ.draw ?_
                            exact RJ.weak (hD44 ()) [0] ⟨rfl, rfl, rfl, rfl, rfl, rfl, rfl, rfl, rfl, rfl, rfl, trivial⟩ ⟨by decide, rfl⟩
                          · refine RO.of (listed' := #[true, true, true, false, true, true, true, true, true, true, true, false, false, false]) rfl rfl ?_
                            refine SJ.q (YldS.yld (y_loadR (k := 0) (i := (Int.toNat (w64 (i17 + (List.length e28 : Int))))) (off := 0) (u := .int .i64 e40) rfl Try.isAgg2 rfl (idx_get h41) rfl)) rfl ?_
                            refine SJ.nil ?_
                            refine PJ.draw ?_
                            refine RJ.step1 3 [] (by kernel_rfl) ⟨List.nodup_nil, rfl⟩ ?_
                            refine RO.of (listed' := #[true, true, true, true, true, true, true, true, true, true, true, false, false, false]) rfl rfl ?_
                            refine SJ.q (YldS.yld (y_loadR (k := 0) (i := (Int.toNat i17)) (off := 0) (u := .int .i64 e38) rfl Try.isAgg2 rfl (idx_get h39) rfl)) rfl ?_
                            refine SJ.nil ?_
                            refine PJ.draw ?_
                            exact RJ.weak (hD44 ()) [0] ⟨rfl, rfl, rfl, rfl, rfl, rfl, rfl, rfl, rfl, rfl, rfl, trivial⟩ ⟨by decide, rfl⟩
                      · refine RO.of (listed' := #[true, true, false, false, true, true, true, true, true, true, false, false, false, false]) rfl rfl ?_
                        refine SJ.q (YldS.yld (y_ixRow (k := 0) (R := fI64) rfl Try.runUnderlying36 Try.sizeOf2 rfl rfl h41)) rfl ?_
                        refine SJ.nil ?_
                        refine PJ.draw ?_
                        refine RJ.step2 2 10 [] (by kernel_rfl) ⟨List.nodup_nil, rfl⟩ ?_ ?_
                        · refine RO.of (listed' := #[true, true, true, false, true, true, true, true, true, true, false, false, false, false]) rfl rfl ?_
                          refine SJ.q (YldS.yld (y_ixRow (k := 0) (R := fI64) rfl Try.runUnderlying36 Try.sizeOf2 rfl rfl h39)) rfl ?_
                          refine SJ.nil ?_
                          refine PJ.draw ?_
                          refine RJ.step2 3 10 [] (by kernel_rfl) ⟨List.nodup_nil, rfl⟩ ?_ ?_
                          · refine RO.of (listed' := #[true, true, true, true, true, true, true, true, true, true, false, false, false, false]) rfl rfl ?_
                            refine SJ.q (YldS.yld (y_loadR (k := 0) (i := (Int.toNat i17)) (off := 0) (u := .int .i64 e38) rfl Try.isAgg2 rfl (idx_get h39) rfl)) rfl ?_
                            refine SJ.nil ?_
                            refine PJ.draw ?_
                            refine RJ.step1 10 [] (by kernel_rfl) ⟨List.nodup_nil, rfl⟩ ?_
                            refine RO.of (listed' := #[true, true, true, true, true, true, true, true, true, true, true, false, false, false]) rfl rfl ?_
                            refine SJ.q (YldS.yld (y_loadR (k := 0) (i := (Int.toNat (w64 (i17 + (List.length e28 : Int))))) (off := 0) (u := .int .i64 e40) rfl Try.isAgg2 rfl (idx_get h41) rfl)) rfl ?_
                            refine SJ.nil ?_
                            refine PJ.draw ?_
                            exact RJ.weak (hD44 ()) [0] ⟨rfl, rfl, rfl, rfl, rfl, rfl, rfl, rfl, rfl, rfl, rfl, trivial⟩ ⟨by decide, rfl⟩
                          · refine RO.of (listed' := #[true, true, true, false, true, true, true, true, true, true, true, false, false, false]) rfl rfl ?_
                            refine SJ.q (YldS.yld (y_loadR (k := 0) (i := (Int.toNat (w64 (i17 + (List.length e28 : Int))))) (off := 0) (u := .int .i64 e40) rfl Try.isAgg2 rfl (idx_get h41) rfl)) rfl ?_
                            refine SJ.nil ?_
                            refine PJ.draw ?_
                            refine RJ.step1 3 [] (by kernel_rfl) ⟨List.nodup_nil, rfl⟩ ?_
                            refine RO.of (listed' := #[true, true, true, true, true, true, true, true, true, true, true, false, false, false]) rfl rfl ?_
                            refine SJ.q (YldS.yld (y_loadR (k := 0) (i := (Int.toNat i17)) (off := 0) (u := .int .i64 e38) rfl Try.isAgg2 rfl (idx_get h39) rfl)) rfl ?_
                            refine SJ.nil ?_
                            refine PJ.draw ?_
                            exact RJ.weak (hD44 ()) [0] ⟨rfl, rfl, rfl, rfl, rfl, rfl, rfl, rfl, rfl, rfl, rfl, trivial⟩ ⟨by decide, rfl⟩
                        · refine RO.of (listed' := #[true, true, false, false, true, true, true, true, true, true, true, false, false, false]) rfl rfl ?_
                          refine SJ.q (YldS.yld (y_loadR (k := 0) (i := (Int.toNat (w64 (i17 + (List.length e28 : Int))))) (off := 0) (u := .int .i64 e40) rfl Try.isAgg2 rfl (idx_get h41) rfl)) rfl ?_
                          refine SJ.nil ?_
                          refine PJ.draw ?_
                          refine RJ.step1 2 [] (by kernel_rfl) ⟨List.nodup_nil, rfl⟩ ?_
                          refine RO.of (listed' := #[true, true, true, false, true, true, true, true, true, true, true, false, false, false]) rfl rfl ?_
                          refine SJ.q (YldS.yld (y_ixRow (k := 0) (R := fI64) rfl Try.runUnderlying36 Try.sizeOf2 rfl rfl h39)) rfl ?_
                          refine SJ.nil ?_
                          refine PJ.draw ?_
                          refine RJ.step1 3 [] (by kernel_rfl) ⟨List.nodup_nil, rfl⟩ ?_
                          refine RO.of (listed' := #[true, true, true, true, true, true, true, true, true, true, true, false, false, false]) rfl rfl ?_
                          refine SJ.q (YldS.yld (y_loadR (k := 0) (i := (Int.toNat i17)) (off := 0) (u := .int .i64 e38) rfl Try.isAgg2 rfl (idx_get h39) rfl)) rfl ?_
                          refine SJ.nil ?_
                          refine PJ.draw ?_
                          exact RJ.weak (hD44 ()) [0] ⟨rfl, rfl, rfl, rfl, rfl, rfl, rfl, rfl, rfl, rfl, rfl, trivial⟩ ⟨by decide, rfl⟩
                  · replace hm := ifF hm hb37
                    refine WJ.skip ?_
                    refine PJ.block_normal ?_
                    exact PJ.joined l22 [0] hm ⟨rfl, rfl, rfl, rfl, rfl, rfl, rfl, trivial⟩ ⟨by decide, rfl⟩
                · rintro l25 hm
                  subst hk27
                  refine WJ.quiet ?_
                  refine QJ.step (YldS.yld (y_bin rfl rfl rfl)) rfl ?_
                  refine QJ.step (YldS.yld (y_move rfl)) rfl ?_
                  refine QJ.done ?_
                  exact PJ.round (l25, w64 (x23 + 1)) [0] hm ⟨rfl, rfl, rfl, rfl, rfl, rfl, rfl, trivial⟩ ⟨by decide, rfl⟩
              · replace hm := ifF hm hb24
                refine WJ.exit ?_
                refine PJ.then_exit (PJ.then_exit (PJ.block_exit (PJ.block_normal ?_)))
                exact PJ.joined l22 [0] hm ⟨rfl, rfl, rfl, rfl, trivial⟩ ⟨by decide, rfl⟩
          · rintro l19 hm
            subst hk21
            refine WJ.quiet ?_
            refine QJ.step (YldS.yld (y_move rfl)) rfl ?_
            refine QJ.step (YldS.yld (y_bin rfl rfl rfl)) rfl ?_
            refine QJ.step (YldS.yld (y_assign rfl)) rfl ?_
            refine QJ.done ?_
            exact PJ.round (l19, w64 (i17 - 1)) [0] hm ⟨rfl, rfl, rfl, rfl, trivial⟩ ⟨by decide, rfl⟩
        · replace hm := ifF hm hb18
          refine WJ.exit ?_
          refine PJ.then_exit (PJ.then_exit (PJ.block_exit ?_))
          exact PJ.joined l16 [0] hm ⟨rfl, trivial⟩ ⟨by decide, rfl⟩
    · rintro l13 hm
      subst hk15
      refine WJ.seq ?_
      refine WJ.quiet ?_
      refine QJ.step (YldS.yld (y_move rfl)) rfl ?_
      obtain ⟨e45, h46, hm⟩ := bindS hm
      refine QJ.step (YldS.yld (y_ixRow (k := 0) (R := fI64) rfl Try.runUnderlying36 Try.sizeOf2 rfl rfl h46)) rfl ?_
      refine QJ.step (YldS.yld (y_loadR (k := 0) (i := (Int.toNat 0)) (off := 0) (u := .int .i64 e45) rfl Try.isAgg2 rfl (idx_get h46) rfl)) rfl ?_
      refine QJ.step (YldS.yld (y_assign rfl)) rfl ?_
      refine QJ.step (YldS.yld (y_assign rfl)) rfl ?_
      refine QJ.done ?_
      refine PJ.next ?_
      refine WJ.ret ?_
      obtain rfl := Option.some.inj hm
      refine PJ.sel (L' := []) [] ⟨List.nodup_nil, rfl⟩ ?_
      exact PJ.retn (vs := [.int .i64 e45, .int .i64 0]) Try.results12 ⟨rfl, rfl, trivial⟩ ⟨rfl, rfl⟩

set_option maxRecDepth 100000 in
set_option maxHeartbeats 1000000 in
theorem ok_s_A2Indices {N : Nat} {code1 : List UInt8} {n4 : Int} {r : (List Int)} (hm : s_A2Indices N code1 n4 = some r) (w : World) (v2 : Value) (hr3 : RdS w (cx w).Fz v2 fByte.rp code1) :
    Calls Try.prog 13 #[v2, .int .i64 n4] w (RetG (cx w) fun u L => ∃ (u1 : Value), (u = u1 ∧ L = [row u1 2 fI64 r])) := by
  unfold s_A2Indices at hm
  refine Calls.enter [v2, .int .i64 n4] Try.func13 rfl Try.ntmps13 rfl ?_
  refine WJ.seq ?_
  refine WJ.quiet ?_
  refine QJ.step (YldS.yld (y_assign rfl)) rfl ?_
  refine QJ.done ?_
  refine PJ.next ?_
  refine WJ.seq ?_
  refine WJ.reg ?_
  refine SJ.q (YldS.yld (y_move rfl)) rfl ?_
  obtain ⟨r5, h6, hm⟩ := bindS hm
  refine SJ.call Try.call16 rfl (fun w hw => ok_s_l00From h6 w _ (hr3.st hw)) rfl ?_
  rintro _ _ ⟨g7, rfl, rfl⟩
  refine SJ.q (YldS.yld (y_assign rfl)) rfl ?_
  refine SJ.nil ?_
  refine PJ.next ?_
  refine WJ.seq ?_
  refine WJ.reg ?_
  refine SJ.buildSlice (R := fI64) (os := []) [] Try.runUnderlying36 Try.sizeOf2 Try.zeroValue2 rfl rfl rfl rfl rfl rfl fun v8 => ?_
  refine SJ.q (YldS.yld (y_assign rfl)) rfl ?_
  refine SJ.nil ?_
  refine PJ.next ?_
  obtain ⟨kj11, hk12, hm⟩ := withK_open hm
  refine WJ.join (X := (List Int) × Value) (fun (x : (List Int) × Value) => kj11 x.1 = some r) (fun (x : (List Int) × Value) => [(6, x.2)]) (fun (x : (List Int) × Value) => [row x.2 2 fI64 x.1]) ?_ ?_
  · clear hk12
    refine WJ.seq ?_
    refine WJ.reg ?_
    refine SJ.q (YldS.yld (y_move rfl)) rfl ?_
    obtain ⟨r13, h14, hm⟩ := bindS hm
    refine SJ.call1 (k := 1) rfl Try.call23 rfl (fun w S hw hA hO => ok_s_l00Src_pick h14 w S _ (hr3.st1 hw hO) hA) rfl ?_
    rintro _ _ ⟨rfl, rfl⟩
    refine SJ.q (YldS.yld (y_assign rfl)) rfl ?_
    refine SJ.nil ?_
    refine PJ.next ?_
    refine WJ.block ?_
    refine WJ.sel (L' := (fun (x : Int × Int × (List Int) × Value × Int) => [box g7 56 [v2, .int .i64 x.1, .int .u64 x.2.1], row x.2.2.2.1 2 fI64 x.2.2.1]) (r13.2.at_, r13.2.seed, [], v8, r13.1)) [0, 1] ⟨by decide, rfl⟩ ?_
    refine WJ.sub (m' := (fun (x : Int × Int × (List Int) × Value × Int) => [(1, .int .i64 n4), (5, pt g7 0), (6, x.2.2.2.1), (7, .int .i64 x.2.2.2.2)]) (r13.2.at_, r13.2.seed, [], v8, r13.1)) ⟨rfl, rfl, rfl, rfl, trivial⟩ ?_
    refine WJ.loop (X := Int × Int × (List Int) × Value × Int) (fun N (x : Int × Int × (List Int) × Value × Int) => s_A2Indices_l1 kj11 code1 n4 N x.1 x.2.1 x.2.2.1 x.2.2.2.2 = some r) (fun (x : Int × Int × (List Int) × Value × Int) => [(1, .int .i64 n4), (5, pt g7 0), (6, x.2.2.2.1), (7, .int .i64 x.2.2.2.2)]) (fun (x : Int × Int × (List Int) × Value × Int) => [box g7 56 [v2, .int .i64 x.1, .int .u64 x.2.1], row x.2.2.2.1 2 fI64 x.2.2.1]) ?_ N (r13.2.at_, r13.2.seed, [], v8, r13.1) hm
    · rintro N ⟨x15, x16, l17, v18, k19⟩ hI
      have hm := hI; clear hI
      cases N with
      | zero => cases hm
      | succ N =>
      unfold s_A2Indices_l1 at hm
      refine WJ.seq ?_
      refine WJ.seq ?_
      refine WJ.quiet ?_
      refine QJ.step (YldS.yld (y_move rfl)) rfl ?_
      refine QJ.step (YldS.yld (y_bin rfl rfl rfl)) rfl ?_
      refine QJ.step (YldS.yld (y_move rfl)) rfl ?_
      obtain ⟨t20, h21, hm⟩ := bindS hm
      refine QJ.cut 3 [(1, .int .i64 n4), (5, pt g7 0), (6, v18), (7, .int .i64 k19), (18, .bool t20)] ?_ ?_
      · rcases Bool.eq_false_or_eq_true (decide (k19 > 0)) with hb22 | hb22
        · replace h21 := andT h21 hb22
          refine QJ.on rfl rfl (cB hb22) (YldS.yld (y_move rfl)) rfl ?_
          refine QJ.on rfl rfl (cB hb22) (YldS.yld (y_bin rfl rfl rfl)) rfl ?_
          refine QJ.step (YldS.yld (y_pick_t (cB hb22) rfl)) rfl ?_
          obtain rfl := Option.some.inj h21
          exact QJ.cut_end ⟨rfl, rfl, rfl, rfl, rfl, trivial⟩
        · obtain rfl := andF h21 hb22
          refine QJ.off rfl rfl (cB hb22) rfl rfl ?_
          refine QJ.off rfl rfl (cB hb22) rfl rfl ?_
          refine QJ.step (YldS.yld (y_pick_f (cB hb22) rfl)) rfl ?_
          exact QJ.cut_end ⟨rfl, rfl, rfl, rfl, rfl, trivial⟩
      refine QJ.done ?_
      refine PJ.next ?_
      refine WJ.cond (t := t20) rfl (fun hb23 => ?_) (fun hb23 => ?_)
      · replace hm := ifT hm hb23
        refine WJ.skip ?_
        refine PJ.next ?_
        refine WJ.seq ?_
        refine WJ.block ?_
        refine WJ.reg ?_
        refine SJ.q (YldS.yld (y_move rfl)) rfl ?_
        refine SJ.q (YldS.yld (y_move rfl)) rfl ?_
        refine SJ.q (YldS.yld (y_move rfl)) rfl ?_
        obtain ⟨r24, h25, hm⟩ := bindS hm
        refine SJ.call1 (k := 0) rfl Try.call23 rfl (fun w S hw hA hO => ok_s_l00Src_pick h25 w S _ (hr3.st1 hw hO) hA) rfl ?_
        rintro _ _ ⟨rfl, rfl⟩
        refine SJ.buildSlice (R := fI64) (os := [.tmp 24]) [r24.1] Try.runUnderlying36 Try.sizeOf2 Try.zeroValue2 rfl rfl rfl rfl rfl rfl fun v26 => ?_
        obtain ⟨l27, h28, hm⟩ := bindS hm
        refine SJ.append (k := 2) (R := fI64) h28 rfl Try.underlying36 el2 rfl rfl rfl (fun w hw => (hw.row_rd (k := 0) rfl)) rfl fun v29 => ?_
        refine SJ.q (YldS.yld (y_assign rfl)) rfl ?_
        refine SJ.nil ?_
        refine PJ.block_normal (PJ.next ?_)
        refine WJ.quiet ?_
        refine QJ.step (YldS.yld (y_move rfl)) rfl ?_
        refine QJ.step (YldS.yld (y_bin rfl rfl rfl)) rfl ?_
        refine QJ.step (YldS.yld (y_assign rfl)) rfl ?_
        refine QJ.done ?_
        exact PJ.round (r24.2.at_, r24.2.seed, l27, v29, w64 (k19 - 1)) [1, 2] hm ⟨rfl, rfl, rfl, rfl, trivial⟩ ⟨by decide, rfl⟩
      · replace hm := ifF hm hb23
        refine WJ.exit ?_
        refine PJ.then_exit (PJ.then_exit (PJ.block_exit ?_))
        exact PJ.joined (l17, v18) [1] hm ⟨rfl, trivial⟩ ⟨by decide, rfl⟩
  · rintro ⟨l9, v10⟩ hm
    subst hk12
    refine WJ.seq ?_
    refine WJ.quiet ?_
    refine QJ.step (YldS.yld (y_move rfl)) rfl ?_
    refine QJ.step (YldS.yld (y_assign rfl)) rfl ?_
    refine QJ.done ?_
    refine PJ.next ?_
    refine WJ.ret ?_
    obtain rfl := Option.some.inj hm
    refine PJ.sel (L' := [row v10 2 fI64 l9]) [0] ⟨by decide, rfl⟩ ?_
    exact PJ.retn (vs := [v10]) Try.results13 ⟨rfl, trivial⟩ ⟨_, rfl, rfl⟩

set_option maxRecDepth 100000 in
set_option maxHeartbeats 1000000 in
theorem ok_i_between {n1 : Int} {low2 : Int} {high3 : Int} {r : Bool} (hm : i_between n1 low2 high3 = some r) (w : World)  :
    Calls Try.prog 24 #[.int .i64 n1, .int .i64 low2, .int .i64 high3] w (Ret (cx w) (.bool r)) := by
  unfold i_between at hm
  refine Calls.enter [.int .i64 n1, .int .i64 low2, .int .i64 high3] Try.func24 rfl Try.ntmps24 rfl ?_
  refine WJ.seq ?_
  refine WJ.quiet ?_
  refine QJ.step (YldS.yld (y_assign rfl)) rfl ?_
  refine QJ.done ?_
  refine PJ.next ?_
  refine WJ.seq ?_
  refine WJ.quiet ?_
  refine QJ.step (YldS.yld (y_move rfl)) rfl ?_
  refine QJ.step (YldS.yld (y_move rfl)) rfl ?_
  refine QJ.step (YldS.yld (y_bin rfl rfl rfl)) rfl ?_
  refine QJ.step (YldS.yld (y_move rfl)) rfl ?_
  obtain ⟨t4, h5, hm⟩ := bindS hm
  refine QJ.cut 4 [(14, .bool t4)] ?_ ?_
  · rcases Bool.eq_false_or_eq_true (decide (n1 ≥ low2)) with hb6 | hb6
    · replace h5 := andT h5 hb6
      refine QJ.on rfl rfl (cB hb6) (YldS.yld (y_move rfl)) rfl ?_
      refine QJ.on rfl rfl (cB hb6) (YldS.yld (y_move rfl)) rfl ?_
      refine QJ.on rfl rfl (cB hb6) (YldS.yld (y_bin rfl rfl rfl)) rfl ?_
      refine QJ.step (YldS.yld (y_pick_t (cB hb6) rfl)) rfl ?_
      obtain rfl := Option.some.inj h5
      exact QJ.cut_end ⟨rfl, trivial⟩
    · obtain rfl := andF h5 hb6
      refine QJ.off rfl rfl (cB hb6) rfl rfl ?_
      refine QJ.off rfl rfl (cB hb6) rfl rfl ?_
      refine QJ.off rfl rfl (cB hb6) rfl rfl ?_
      refine QJ.step (YldS.yld (y_pick_f (cB hb6) rfl)) rfl ?_
      exact QJ.cut_end ⟨rfl, trivial⟩
  refine QJ.step (YldS.yld (y_assign rfl)) rfl ?_
  refine QJ.done ?_
  refine PJ.next ?_
  refine WJ.ret ?_
  obtain rfl := Option.some.inj hm
  refine PJ.sel (L' := []) [] ⟨List.nodup_nil, rfl⟩ ?_
  exact PJ.retn (vs := [.bool t4]) Try.results24 ⟨rfl, trivial⟩ ⟨rfl, rfl⟩

set_option maxRecDepth 100000 in
set_option maxHeartbeats 1000000 in
theorem ok_i_EncodeWords {N : Nat} {words1 : List Str} {list4 : List Int} {r : Str × Int} (hm : i_EncodeWords N words1 list4 = some r) (w : World) (v2 : Value) (hr3 : RdS w (cx w).Fz v2 fStr.rp words1) (v5 : Value) (hr6 : RdS w (cx w).Fz v5 fI64.rp list4) :
    Calls Try.prog 14 #[v2, v5] w (Ret (cx w) (tup [str r.1, .int .i64 r.2])) := by
  unfold i_EncodeWords at hm
  refine Calls.enter [v2, v5] Try.func14 rfl Try.ntmps14 rfl ?_
  refine WJ.seq ?_
  refine WJ.quiet ?_
  refine QJ.step (YldS.yld (y_assign rfl)) rfl ?_
  refine QJ.step (YldS.yld (y_assign rfl)) rfl ?_
  refine QJ.done ?_
  refine PJ.next ?_
  refine WJ.seq ?_
  refine WJ.seq ?_
  refine WJ.quiet ?_
  refine QJ.step (YldS.yld (y_move rfl)) rfl ?_
  obtain ⟨r7, h8, hm⟩ := bindS hm
  refine QJ.step (y_call Try.call17 rfl (RetG.quiet fun w hw => ok_i_ValidCode h8 w _ (hr3.st hw))) rfl ?_
  refine QJ.step (YldS.yld (y_not rfl)) rfl ?_
  refine QJ.done ?_
  refine PJ.next ?_
  refine WJ.cond (t := !r7) rfl (fun hb9 => ?_) (fun hb9 => ?_)
  · replace hm := ifT hm hb9
    refine WJ.seq ?_
    refine WJ.quiet ?_
    refine QJ.step (YldS.yld (y_assign rfl)) rfl ?_
    refine QJ.step (YldS.yld (y_assign rfl)) rfl ?_
    refine QJ.done ?_
    refine PJ.next ?_
    refine WJ.ret ?_
    refine PJ.then_ret ?_
    obtain rfl := Option.some.inj hm
    refine PJ.sel (L' := []) [] ⟨List.nodup_nil, rfl⟩ ?_
    exact PJ.retn (vs := [str [], .int .i64 1]) Try.results14 ⟨rfl, rfl, trivial⟩ ⟨rfl, rfl⟩
  · replace hm := ifF hm hb9
    refine WJ.skip ?_
    refine PJ.next ?_
    refine WJ.seq ?_
    refine WJ.seq ?_
    refine WJ.quiet ?_
    refine QJ.step (YldS.yld (y_move rfl)) rfl ?_
    refine QJ.step (YldS.yld (y_lenS Try.runUnderlying36 hr6 rfl)) rfl ?_
    refine QJ.step (YldS.yld (y_bin rfl rfl rfl)) rfl ?_
    refine QJ.done ?_
    refine PJ.next ?_
    refine WJ.cond (t := decide ((List.length list4 : Int) > 60)) rfl (fun hb10 => ?_) (fun hb10 => ?_)
    · replace hm := ifT hm hb10
      refine WJ.seq ?_
      refine WJ.quiet ?_
      refine QJ.step (YldS.yld (y_assign rfl)) rfl ?_
      refine QJ.step (YldS.yld (y_assign rfl)) rfl ?_
      refine QJ.done ?_
      refine PJ.next ?_
      refine WJ.ret ?_
      refine PJ.then_ret ?_
      obtain rfl := Option.some.inj hm
      refine PJ.sel (L' := []) [] ⟨List.nodup_nil, rfl⟩ ?_
      exact PJ.retn (vs := [str [], .int .i64 2]) Try.results14 ⟨rfl, rfl, trivial⟩ ⟨rfl, rfl⟩
    · replace hm := ifF hm hb10
      refine WJ.skip ?_
      refine PJ.next ?_
      refine WJ.seq ?_
      refine WJ.quiet ?_
      refine QJ.step (YldS.yld (y_assign rfl)) rfl ?_
      refine QJ.done ?_
      refine PJ.next ?_
      obtain ⟨kj12, hk13, hm⟩ := withK_open hm
      refine WJ.join (X := Str) (fun (x : Str) => kj12 x = some r) (fun (x : Str) => [(6, str x)]) (fun (x : Str) => []) ?_ ?_
      · clear hk13
        refine WJ.seq ?_
        refine WJ.quiet ?_
        refine QJ.step (YldS.yld (y_move rfl)) rfl ?_
        refine QJ.step (YldS.yld (y_lenS Try.runUnderlying36 hr6 rfl)) rfl ?_
        refine QJ.step (YldS.yld (y_move rfl)) rfl ?_
        refine QJ.done ?_
        refine PJ.next ?_
        refine WJ.block ?_
        refine WJ.sel (L' := (fun (x : Str × Int) => []) ([], 0)) [] ⟨List.nodup_nil, rfl⟩ ?_
        refine WJ.sub (m' := (fun (x : Str × Int) => [(0, v2), (6, str x.1), (15, v5), (16, .int .i64 (List.length list4 : Int)), (17, .int .i64 x.2)]) ([], 0)) ⟨rfl, rfl, rfl, rfl, rfl, trivial⟩ ?_
        refine WJ.loop (X := Str × Int) (fun N (x : Str × Int) => i_EncodeWords_l1 kj12 words1 list4 N x.1 x.2 = some r) (fun (x : Str × Int) => [(0, v2), (6, str x.1), (15, v5), (16, .int .i64 (List.length list4 : Int)), (17, .int .i64 x.2)]) (fun (x : Str × Int) => []) ?_ N ([], 0) hm
        · rintro N ⟨text14, x15⟩ hI
          have hm := hI; clear hI
          cases N with
          | zero => cases hm
          | succ N =>
          unfold i_EncodeWords_l1 at hm
          refine WJ.seq ?_
          refine WJ.quiet ?_
          refine QJ.step (YldS.yld (y_bin rfl rfl rfl)) rfl ?_
          refine QJ.done ?_
          refine PJ.next ?_
          refine WJ.seq ?_
          refine WJ.cond (t := decide (x15 < (List.length list4 : Int))) rfl (fun hb16 => ?_) (fun hb16 => ?_)
          · replace hm := ifT hm hb16
            refine WJ.skip ?_
            refine PJ.next ?_
            refine WJ.seq ?_
            refine WJ.block ?_
            refine WJ.seq ?_
            refine WJ.quiet ?_
            obtain ⟨e17, h18, hm⟩ := bindS hm
            obtain ⟨ad19, _, rfl, ha20, hy21⟩ := hr6.elem h18
            refine QJ.step (YldS.yld (hy21 Try.runUnderlying36 Try.sizeOf2 rfl rfl)) rfl ?_
            refine QJ.step (YldS.yld (y_load1 (v := .int .i64 e17) Try.isAgg2 ha20 St.frozenC rfl)) rfl ?_
            refine QJ.step (YldS.yld (y_assign rfl)) rfl ?_
            refine QJ.done ?_
            refine PJ.next ?_
            refine WJ.seq ?_
            refine WJ.seq ?_
            refine WJ.quiet ?_
            refine QJ.step (YldS.yld (y_move rfl)) rfl ?_
            refine QJ.step (YldS.yld (y_move rfl)) rfl ?_
            refine QJ.step (YldS.yld (y_lenS Try.runUnderlying24 hr3 rfl)) rfl ?_
            refine QJ.step (YldS.yld (y_bin rfl rfl rfl)) rfl ?_
            obtain ⟨r22, h23, hm⟩ := bindS hm
            refine QJ.step (y_call Try.call24 rfl (RetG.quiet fun w hw => ok_i_between h23 w )) rfl ?_
            refine QJ.step (YldS.yld (y_not rfl)) rfl ?_
            refine QJ.done ?_
            refine PJ.next ?_
            refine WJ.cond (t := !r22) rfl (fun hb24 => ?_) (fun hb24 => ?_)
            · replace hm := ifT hm hb24
              refine WJ.seq ?_
              refine WJ.quiet ?_
              refine QJ.step (YldS.yld (y_assign rfl)) rfl ?_
              refine QJ.step (YldS.yld (y_assign rfl)) rfl ?_
              refine QJ.done ?_
              refine PJ.next ?_
              refine WJ.ret ?_
              refine PJ.then_ret (PJ.block_ret (PJ.then_ret (PJ.then_ret (PJ.block_ret (PJ.then_ret ?_)))))
              obtain rfl := Option.some.inj hm
              refine PJ.sel (L' := []) [] ⟨List.nodup_nil, rfl⟩ ?_
              exact PJ.retn (vs := [str [], .int .i64 2]) Try.results14 ⟨rfl, rfl, trivial⟩ ⟨rfl, rfl⟩
            · replace hm := ifF hm hb24
              refine WJ.skip ?_
              refine PJ.next ?_
              refine WJ.quiet ?_
              refine QJ.step (YldS.yld (y_move rfl)) rfl ?_
              refine QJ.step (YldS.yld (y_move rfl)) rfl ?_
              refine QJ.step (YldS.yld (y_move rfl)) rfl ?_
              obtain ⟨e25, h26, hm⟩ := bindS hm
              obtain ⟨ad27, _, rfl, ha28, hy29⟩ := hr3.elem h26
              refine QJ.step (YldS.yld (hy29 Try.runUnderlying24 Try.sizeOf9 rfl rfl)) rfl ?_
              refine QJ.step (YldS.yld (y_load1 (v := str e25) Try.isAgg9 ha28 St.frozenC rfl)) rfl ?_
              obtain ⟨s30, h31, hm⟩ := bindS hm
              refine QJ.step (YldS.yld (y_cat h31 rfl rfl)) rfl ?_
              refine QJ.step (YldS.yld (y_assign rfl)) rfl ?_
              refine QJ.done ?_
              refine PJ.block_normal (PJ.next ?_)
              refine WJ.quiet ?_
              refine QJ.step (YldS.yld (y_bin rfl rfl rfl)) rfl ?_
              refine QJ.step (YldS.yld (y_move rfl)) rfl ?_
              refine QJ.done ?_
              exact PJ.round (s30, w64 (x15 + 1)) [] hm ⟨rfl, rfl, rfl, rfl, rfl, trivial⟩ ⟨List.nodup_nil, rfl⟩
          · replace hm := ifF hm hb16
            refine WJ.exit ?_
            refine PJ.then_exit (PJ.then_exit (PJ.block_exit ?_))
            exact PJ.joined text14 [] hm ⟨rfl, trivial⟩ ⟨List.nodup_nil, rfl⟩
      · rintro text11 hm
        subst hk13
        refine WJ.seq ?_
        refine WJ.seq ?_
        refine WJ.quiet ?_
        refine QJ.step (YldS.yld (y_move rfl)) rfl ?_
        refine QJ.step (YldS.yld (y_lenStr Try.runUnderlying9 rfl)) rfl ?_
        refine QJ.step (YldS.yld (y_bin rfl rfl rfl)) rfl ?_
        refine QJ.done ?_
        refine PJ.next ?_
        refine WJ.cond (t := decide ((List.length text11 : Int) > 60)) rfl (fun hb32 => ?_) (fun hb32 => ?_)
        · replace hm := ifT hm hb32
          refine WJ.seq ?_
          refine WJ.quiet ?_
          refine QJ.step (YldS.yld (y_assign rfl)) rfl ?_
          refine QJ.step (YldS.yld (y_assign rfl)) rfl ?_
          refine QJ.done ?_
          refine PJ.next ?_
          refine WJ.ret ?_
          refine PJ.then_ret ?_
          obtain rfl := Option.some.inj hm
          refine PJ.sel (L' := []) [] ⟨List.nodup_nil, rfl⟩ ?_
          exact PJ.retn (vs := [str [], .int .i64 5]) Try.results14 ⟨rfl, rfl, trivial⟩ ⟨rfl, rfl⟩
        · replace hm := ifF hm hb32
          refine WJ.skip ?_
          refine PJ.next ?_
          refine WJ.seq ?_
          refine WJ.quiet ?_
          refine QJ.step (YldS.yld (y_move rfl)) rfl ?_
          refine QJ.step (YldS.yld (y_assign rfl)) rfl ?_
          refine QJ.step (YldS.yld (y_assign rfl)) rfl ?_
          refine QJ.done ?_
          refine PJ.next ?_
          refine WJ.ret ?_
          obtain rfl := Option.some.inj hm
          refine PJ.sel (L' := []) [] ⟨List.nodup_nil, rfl⟩ ?_
          exact PJ.retn (vs := [str text11, .int .i64 0]) Try.results14 ⟨rfl, rfl, trivial⟩ ⟨rfl, rfl⟩

set_option maxRecDepth 100000 in
set_option maxHeartbeats 1000000 in
theorem ok_w_FnCodes {N : Nat} {code1 : List UInt8} {more4 : List UInt8} {r : Bool} (hm : w_FnCodes N code1 more4 = some r) (w : World) (v2 : Value) (hr3 : RdS w (cx w).Fz v2 fByte.rp code1) (v5 : Value) (hr6 : RdS w (cx w).Fz v5 fByte.rp more4) :
    Calls Try.prog 3 #[v2, v5] w (Ret (cx w) (.bool r)) := by
  unfold w_FnCodes at hm
  refine Calls.enter [v2, v5] Try.func3 rfl Try.ntmps3 rfl ?_
  refine WJ.seq ?_
  refine WJ.quiet ?_
  refine QJ.step (YldS.yld (y_assign rfl)) rfl ?_
  refine QJ.done ?_
  refine PJ.next ?_
  refine WJ.seq ?_
  refine WJ.seq ?_
  refine WJ.quiet ?_
  refine QJ.step (YldS.yld (y_move rfl)) rfl ?_
  refine QJ.step (YldS.yld (y_move rfl)) rfl ?_
  obtain ⟨r7, h8, hm⟩ := bindS hm
  refine QJ.step (y_call Try.call4 rfl (RetG.quiet fun w hw => ok_w_a2Long h8 w _ (hr3.st hw) _ (hr6.st hw))) rfl ?_
  refine QJ.done ?_
  refine PJ.next ?_
  refine WJ.cond (t := r7) rfl (fun hb9 => ?_) (fun hb9 => ?_)
  · replace hm := ifT hm hb9
    refine WJ.seq ?_
    refine WJ.quiet ?_
    refine QJ.step (YldS.yld (y_assign rfl)) rfl ?_
    refine QJ.done ?_
    refine PJ.next ?_
    refine WJ.ret ?_
    refine PJ.then_ret ?_
    obtain rfl := Option.some.inj hm
    refine PJ.sel (L' := []) [] ⟨List.nodup_nil, rfl⟩ ?_
    exact PJ.retn (vs := [.bool true]) Try.results3 ⟨rfl, trivial⟩ ⟨rfl, rfl⟩
  · replace hm := ifF hm hb9
    refine WJ.skip ?_
    refine PJ.next ?_
    refine WJ.seq ?_
    refine WJ.reg ?_
    refine SJ.q (YldS.yld (y_move rfl)) rfl ?_
    obtain ⟨r10, h11, hm⟩ := bindS hm
    refine SJ.call Try.call5 rfl (fun w hw => ok_s_A2Code h11 w _ (hr3.st hw)) rfl ?_
    rintro v12 _ ⟨_, rfl, rfl⟩
    refine SJ.q (YldS.yld (y_assign rfl)) rfl ?_
    refine SJ.nil ?_
    refine PJ.next ?_
    refine WJ.seq ?_
    refine WJ.quiet ?_
    refine QJ.step (YldS.yld (y_move rfl)) rfl ?_
    obtain ⟨r13, h14, hm⟩ := bindS hm
    refine QJ.step (y_call Try.call6 rfl (RetG.quiet fun w hw => ok_i_IsPrefixFree h14 w _ (hw.row_rd (k := 0) rfl))) rfl ?_
    refine QJ.step (YldS.yld (y_move rfl)) rfl ?_
    refine QJ.step (YldS.yld (y_extract rfl rfl)) rfl ?_
    refine QJ.step (YldS.yld (y_extract rfl rfl)) rfl ?_
    refine QJ.step (YldS.yld (y_assign rfl)) rfl ?_
    refine QJ.step (YldS.yld (y_assign rfl)) rfl ?_
    refine QJ.done ?_
    refine PJ.next ?_
    refine WJ.seq ?_
    refine WJ.quiet ?_
    refine QJ.step (YldS.yld (y_move rfl)) rfl ?_
    obtain ⟨r15, h16, hm⟩ := bindS hm
    refine QJ.step (y_call Try.call7 rfl (RetG.quiet fun w hw => ok_i_IsUnique h16 w _ (hw.row_rd (k := 0) rfl))) rfl ?_
    refine QJ.step (YldS.yld (y_move rfl)) rfl ?_
    refine QJ.step (YldS.yld (y_extract rfl rfl)) rfl ?_
    refine QJ.step (YldS.yld (y_extract rfl rfl)) rfl ?_
    refine QJ.step (YldS.yld (y_assign rfl)) rfl ?_
    refine QJ.step (YldS.yld (y_assign rfl)) rfl ?_
    refine QJ.done ?_
    refine PJ.next ?_
    refine WJ.seq ?_
    refine WJ.reg ?_
    refine SJ.q (YldS.yld (y_move rfl)) rfl ?_
    obtain ⟨r17, h18, hm⟩ := bindS hm
    refine SJ.call Try.call8 rfl (fun w hw => ok_i_RestsOf h18 w _ (hw.row_rd (k := 0) rfl)) rfl ?_
    rintro _ _ ⟨v19, rfl, rfl⟩
    refine SJ.q (YldS.yld (y_move rfl)) rfl ?_
    refine SJ.q (YldS.yld (y_extract rfl rfl)) rfl ?_
    refine SJ.q (YldS.yld (y_extract rfl rfl)) rfl ?_
    refine SJ.q (YldS.yld (y_assign rfl)) rfl ?_
    refine SJ.q (YldS.yld (y_assign rfl)) rfl ?_
    refine SJ.nil ?_
    refine PJ.next ?_
    refine WJ.seq ?_
    refine WJ.quiet ?_
    refine QJ.step (YldS.yld (y_move rfl)) rfl ?_
    obtain ⟨r20, h21, hm⟩ := bindS hm
    refine QJ.step (y_call Try.call9 rfl (RetG.quiet fun w hw => ok_i_TwoReadings h21 w _ (hw.row_rd (k := 1) rfl))) rfl ?_
    refine QJ.step (YldS.yld (y_move rfl)) rfl ?_
    refine QJ.step (YldS.yld (y_extract rfl rfl)) rfl ?_
    refine QJ.step (YldS.yld (y_extract rfl rfl)) rfl ?_
    refine QJ.step (YldS.yld (y_assign rfl)) rfl ?_
    refine QJ.step (YldS.yld (y_assign rfl)) rfl ?_
    refine QJ.done ?_
    refine PJ.next ?_
    refine WJ.seq ?_
    refine WJ.quiet ?_
    refine QJ.step (YldS.yld (y_move rfl)) rfl ?_
    obtain ⟨r22, h23, hm⟩ := bindS hm
    refine QJ.step (y_call Try.call10 rfl (RetG.quiet fun w hw => ok_i_LongestRest h23 w _ (hw.row_rd (k := 1) rfl))) rfl ?_
    refine QJ.step (YldS.yld (y_move rfl)) rfl ?_
    refine QJ.step (YldS.yld (y_extract rfl rfl)) rfl ?_
    refine QJ.step (YldS.yld (y_extract rfl rfl)) rfl ?_
    refine QJ.step (YldS.yld (y_assign rfl)) rfl ?_
    refine QJ.step (YldS.yld (y_assign rfl)) rfl ?_
    refine QJ.done ?_
    refine PJ.next ?_
    refine WJ.seq ?_
    refine WJ.seq ?_
    refine WJ.quiet ?_
    refine QJ.step (YldS.yld (y_move rfl)) rfl ?_
    refine QJ.step (YldS.yld (y_bin rfl rfl rfl)) rfl ?_
    refine QJ.step (YldS.yld (y_move rfl)) rfl ?_
    obtain ⟨t24, h25, hm⟩ := bindS hm
    refine QJ.cut 3 [(1, v5), (5, v12), (6, .bool r13.1), (8, .bool r15.1), (10, v19), (11, .int .i64 r17.2), (12, str r20.1), (13, .int .i64 r20.2), (14, .int .i64 r22.1), (15, .int .i64 r22.2), (63, .bool t24)] ?_ ?_
    · rcases Bool.eq_false_or_eq_true (r13.2 != 0) with hb26 | hb26
      · obtain rfl := orT h25 hb26
        refine QJ.off rfl rfl (cB hb26) rfl rfl ?_
        refine QJ.off rfl rfl (cB hb26) rfl rfl ?_
        refine QJ.step (YldS.yld (y_pick_t (cB hb26) rfl)) rfl ?_
        exact QJ.cut_end ⟨rfl, rfl, rfl, rfl, rfl, rfl, rfl, rfl, rfl, rfl, rfl, trivial⟩
      · replace h25 := orF h25 hb26
        refine QJ.on rfl rfl (cB hb26) (YldS.yld (y_move rfl)) rfl ?_
        refine QJ.on rfl rfl (cB hb26) (YldS.yld (y_bin rfl rfl rfl)) rfl ?_
        refine QJ.step (YldS.yld (y_pick_f (cB hb26) rfl)) rfl ?_
        obtain rfl := Option.some.inj h25
        exact QJ.cut_end ⟨rfl, rfl, rfl, rfl, rfl, rfl, rfl, rfl, rfl, rfl, rfl, trivial⟩
    refine QJ.step (YldS.yld (y_move rfl)) rfl ?_
    obtain ⟨t27, h28, hm⟩ := bindS hm
    refine QJ.cut 3 [(1, v5), (5, v12), (6, .bool r13.1), (8, .bool r15.1), (10, v19), (12, str r20.1), (13, .int .i64 r20.2), (14, .int .i64 r22.1), (15, .int .i64 r22.2), (67, .bool t27)] ?_ ?_
    · rcases Bool.eq_false_or_eq_true t24 with hb29 | hb29
      · obtain rfl := orT h28 hb29
        refine QJ.off rfl rfl (cB hb29) rfl rfl ?_
        refine QJ.off rfl rfl (cB hb29) rfl rfl ?_
        refine QJ.step (YldS.yld (y_pick_t (cB hb29) rfl)) rfl ?_
        exact QJ.cut_end ⟨rfl, rfl, rfl, rfl, rfl, rfl, rfl, rfl, rfl, rfl, trivial⟩
      · replace h28 := orF h28 hb29
        refine QJ.on rfl rfl (cB hb29) (YldS.yld (y_move rfl)) rfl ?_
        refine QJ.on rfl rfl (cB hb29) (YldS.yld (y_bin rfl rfl rfl)) rfl ?_
        refine QJ.step (YldS.yld (y_pick_f (cB hb29) rfl)) rfl ?_
        obtain rfl := Option.some.inj h28
        exact QJ.cut_end ⟨rfl, rfl, rfl, rfl, rfl, rfl, rfl, rfl, rfl, rfl, trivial⟩
    refine QJ.step (YldS.yld (y_move rfl)) rfl ?_
    obtain ⟨t30, h31, hm⟩ := bindS hm
    refine QJ.cut 6 [(1, v5), (5, v12), (6, .bool r13.1), (8, .bool r15.1), (10, v19), (12, str r20.1), (13, .int .i64 r20.2), (14, .int .i64 r22.1), (15, .int .i64 r22.2), (74, .bool t30)] ?_ ?_
    · rcases Bool.eq_false_or_eq_true t27 with hb32 | hb32
      · obtain rfl := orT h31 hb32
        refine QJ.off rfl rfl (cB hb32) rfl rfl ?_
        refine QJ.off rfl rfl (cB hb32) rfl rfl ?_
        refine QJ.off_undef rfl rfl rfl rfl ?_
        refine QJ.off_undef rfl rfl rfl rfl ?_
        refine QJ.off rfl rfl (cB hb32) rfl rfl ?_
        refine QJ.step (YldS.yld (y_pick_t (cB hb32) rfl)) rfl ?_
        exact QJ.cut_end ⟨rfl, rfl, rfl, rfl, rfl, rfl, rfl, rfl, rfl, rfl, trivial⟩
      · replace h31 := orF h31 hb32
        refine QJ.on rfl rfl (cB hb32) (YldS.yld (y_move rfl)) rfl ?_
        refine QJ.on rfl rfl (cB hb32) (YldS.yld (y_move rfl)) rfl ?_
        obtain ⟨t33, h34, h31⟩ := bindS h31
        refine QJ.cut 3 [(1, v5), (5, v12), (6, .bool r13.1), (8, .bool r15.1), (10, v19), (12, str r20.1), (13, .int .i64 r20.2), (14, .int .i64 r22.1), (15, .int .i64 r22.2), (68, .bool t27), (73, .bool t33)] ?_ ?_
        · rcases Bool.eq_false_or_eq_true r13.1 with hb35 | hb35
          · replace h34 := andT h34 hb35
            refine QJ.on rfl rfl (cB hb35) (YldS.yld (y_move rfl)) rfl ?_
            refine QJ.on rfl rfl (cB hb35) (YldS.yld (y_not rfl)) rfl ?_
            refine QJ.on rfl rfl (cB hb32) (YldS.yld (y_pick_t (cB hb35) rfl)) rfl ?_
            obtain rfl := Option.some.inj h34
            exact QJ.cut_end ⟨rfl, rfl, rfl, rfl, rfl, rfl, rfl, rfl, rfl, rfl, rfl, trivial⟩
          · obtain rfl := andF h34 hb35
            refine QJ.off rfl rfl (cB hb35) rfl rfl ?_
            refine QJ.off rfl rfl (cB hb35) rfl rfl ?_
            refine QJ.on rfl rfl (cB hb32) (YldS.yld (y_pick_f (cB hb35) rfl)) rfl ?_
            exact QJ.cut_end ⟨rfl, rfl, rfl, rfl, rfl, rfl, rfl, rfl, rfl, rfl, rfl, trivial⟩
        refine QJ.step (YldS.yld (y_pick_f (cB hb32) rfl)) rfl ?_
        obtain rfl := Option.some.inj h31
        exact QJ.cut_end ⟨rfl, rfl, rfl, rfl, rfl, rfl, rfl, rfl, rfl, rfl, trivial⟩
    refine QJ.step (YldS.yld (y_move rfl)) rfl ?_
    obtain ⟨t36, h37, hm⟩ := bindS hm
    refine QJ.cut 6 [(1, v5), (5, v12), (8, .bool r15.1), (10, v19), (12, str r20.1), (13, .int .i64 r20.2), (14, .int .i64 r22.1), (15, .int .i64 r22.2), (81, .bool t36)] ?_ ?_
    · rcases Bool.eq_false_or_eq_true t30 with hb38 | hb38
      · obtain rfl := orT h37 hb38
        refine QJ.off rfl rfl (cB hb38) rfl rfl ?_
        refine QJ.off rfl rfl (cB hb38) rfl rfl ?_
        refine QJ.off rfl rfl (cB hb38) rfl rfl ?_
        refine QJ.off rfl rfl (cB hb38) rfl rfl ?_
        refine QJ.off rfl rfl (cB hb38) rfl rfl ?_
        refine QJ.step (YldS.yld (y_pick_t (cB hb38) rfl)) rfl ?_
        exact QJ.cut_end ⟨rfl, rfl, rfl, rfl, rfl, rfl, rfl, rfl, rfl, trivial⟩
      · replace h37 := orF h37 hb38
        refine QJ.on rfl rfl (cB hb38) (YldS.yld (y_move rfl)) rfl ?_
        refine QJ.on rfl rfl (cB hb38) (YldS.yld (y_move rfl)) rfl ?_
        refine QJ.on rfl rfl (cB hb38) (YldS.yld (y_lenRow (k := 0) rfl Try.runUnderlying24 rfl)) rfl ?_
        refine QJ.on rfl rfl (cB hb38) (YldS.yld (y_bin rfl rfl rfl)) rfl ?_
        refine QJ.on rfl rfl (cB hb38) (YldS.yld (y_neB Try.underlying4 rfl rfl rfl)) rfl ?_
        refine QJ.step (YldS.yld (y_pick_f (cB hb38) rfl)) rfl ?_
        obtain rfl := Option.some.inj h37
        exact QJ.cut_end ⟨rfl, rfl, rfl, rfl, rfl, rfl, rfl, rfl, rfl, trivial⟩
    refine QJ.step (YldS.yld (y_move rfl)) rfl ?_
    obtain ⟨t39, h40, hm⟩ := bindS hm
    refine QJ.cut 5 [(1, v5), (5, v12), (8, .bool r15.1), (10, v19), (12, str r20.1), (13, .int .i64 r20.2), (14, .int .i64 r22.1), (15, .int .i64 r22.2), (87, .bool t39)] ?_ ?_
    · rcases Bool.eq_false_or_eq_true t36 with hb41 | hb41
      · obtain rfl := orT h40 hb41
        refine QJ.off rfl rfl (cB hb41) rfl rfl ?_
        refine QJ.off rfl rfl (cB hb41) rfl rfl ?_
        refine QJ.off rfl rfl (cB hb41) rfl rfl ?_
        refine QJ.off rfl rfl (cB hb41) rfl rfl ?_
        refine QJ.step (YldS.yld (y_pick_t (cB hb41) rfl)) rfl ?_
        exact QJ.cut_end ⟨rfl, rfl, rfl, rfl, rfl, rfl, rfl, rfl, rfl, trivial⟩
      · replace h40 := orF h40 hb41
        refine QJ.on rfl rfl (cB hb41) (YldS.yld (y_move rfl)) rfl ?_
        refine QJ.on rfl rfl (cB hb41) (YldS.yld (y_move rfl)) rfl ?_
        refine QJ.on rfl rfl (cB hb41) (YldS.yld (y_bin rfl rfl rfl)) rfl ?_
        refine QJ.on rfl rfl (cB hb41) (YldS.yld (y_neB Try.underlying4 rfl rfl rfl)) rfl ?_
        refine QJ.step (YldS.yld (y_pick_f (cB hb41) rfl)) rfl ?_
        obtain rfl := Option.some.inj h40
        exact QJ.cut_end ⟨rfl, rfl, rfl, rfl, rfl, rfl, rfl, rfl, rfl, trivial⟩
    refine QJ.step (YldS.yld (y_move rfl)) rfl ?_
    obtain ⟨t42, h43, hm⟩ := bindS hm
    refine QJ.cut 5 [(1, v5), (5, v12), (8, .bool r15.1), (10, v19), (12, str r20.1), (13, .int .i64 r20.2), (14, .int .i64 r22.1), (93, .bool t42)] ?_ ?_
    · rcases Bool.eq_false_or_eq_true t39 with hb44 | hb44
      · obtain rfl := orT h43 hb44
        refine QJ.off rfl rfl (cB hb44) rfl rfl ?_
        refine QJ.off rfl rfl (cB hb44) rfl rfl ?_
        refine QJ.off rfl rfl (cB hb44) rfl rfl ?_
        refine QJ.off rfl rfl (cB hb44) rfl rfl ?_
        refine QJ.step (YldS.yld (y_pick_t (cB hb44) rfl)) rfl ?_
        exact QJ.cut_end ⟨rfl, rfl, rfl, rfl, rfl, rfl, rfl, rfl, trivial⟩
      · replace h43 := orF h43 hb44
        refine QJ.on rfl rfl (cB hb44) (YldS.yld (y_move rfl)) rfl ?_
        refine QJ.on rfl rfl (cB hb44) (YldS.yld (y_move rfl)) rfl ?_
        refine QJ.on rfl rfl (cB hb44) (YldS.yld (y_bin rfl rfl rfl)) rfl ?_
        refine QJ.on rfl rfl (cB hb44) (YldS.yld (y_neB Try.underlying4 rfl rfl rfl)) rfl ?_
        refine QJ.step (YldS.yld (y_pick_f (cB hb44) rfl)) rfl ?_
        obtain rfl := Option.some.inj h43
        exact QJ.cut_end ⟨rfl, rfl, rfl, rfl, rfl, rfl, rfl, rfl, trivial⟩
    refine QJ.step (YldS.yld (y_move rfl)) rfl ?_
    obtain ⟨t45, h46, hm⟩ := bindS hm
    refine QJ.cut 5 [(1, v5), (5, v12), (8, .bool r15.1), (10, v19), (12, str r20.1), (13, .int .i64 r20.2), (14, .int .i64 r22.1), (99, .bool t45)] ?_ ?_
    · rcases Bool.eq_false_or_eq_true t42 with hb47 | hb47
      · obtain rfl := orT h46 hb47
        refine QJ.off rfl rfl (cB hb47) rfl rfl ?_
        refine QJ.off rfl rfl (cB hb47) rfl rfl ?_
        refine QJ.off rfl rfl (cB hb47) rfl rfl ?_
        refine QJ.off rfl rfl (cB hb47) rfl rfl ?_
        refine QJ.step (YldS.yld (y_pick_t (cB hb47) rfl)) rfl ?_
        exact QJ.cut_end ⟨rfl, rfl, rfl, rfl, rfl, rfl, rfl, rfl, trivial⟩
      · replace h46 := orF h46 hb47
        refine QJ.on rfl rfl (cB hb47) (YldS.yld (y_move rfl)) rfl ?_
        refine QJ.on rfl rfl (cB hb47) (YldS.yld (y_move rfl)) rfl ?_
        obtain ⟨r48, h49, h46⟩ := bindS h46
        refine QJ.on rfl rfl (cB hb47) (y_call Try.call11 rfl (RetG.quiet fun w hw => ok_w_a2HasText h49 w _ (hw.row_rd (k := 0) rfl))) rfl ?_
        refine QJ.on rfl rfl (cB hb47) (YldS.yld (y_eqB Try.underlying4 rfl rfl rfl)) rfl ?_
        refine QJ.step (YldS.yld (y_pick_f (cB hb47) rfl)) rfl ?_
        obtain rfl := Option.some.inj h46
        exact QJ.cut_end ⟨rfl, rfl, rfl, rfl, rfl, rfl, rfl, rfl, trivial⟩
    refine QJ.done ?_
    refine PJ.next ?_
    refine WJ.cond (t := t45) rfl (fun hb50 => ?_) (fun hb50 => ?_)
    · replace hm := ifT hm hb50
      refine WJ.seq ?_
      refine WJ.quiet ?_
      refine QJ.step (YldS.yld (y_assign rfl)) rfl ?_
      refine QJ.done ?_
      refine PJ.next ?_
      refine WJ.ret ?_
      refine PJ.then_ret ?_
      obtain rfl := Option.some.inj hm
      refine PJ.sel (L' := []) [] ⟨List.nodup_nil, rfl⟩ ?_
      exact PJ.retn (vs := [.bool false]) Try.results3 ⟨rfl, trivial⟩ ⟨rfl, rfl⟩
    · replace hm := ifF hm hb50
      refine WJ.skip ?_
      refine PJ.next ?_
      refine WJ.seq ?_
      refine WJ.quiet ?_
      refine QJ.step (YldS.yld (y_assign rfl)) rfl ?_
      refine QJ.done ?_
      refine PJ.next ?_
      obtain ⟨kj52, hk53, hm⟩ := withK_open hm
      refine WJ.join (X := Int) (fun (x : Int) => kj52 x = some r) (fun (x : Int) => [(1, v5), (5, v12), (8, .bool r15.1), (12, str r20.1), (13, .int .i64 r20.2), (14, .int .i64 r22.1), (16, .int .i64 x)]) (fun (x : Int) => [row v12 9 fStr r10]) ?_ ?_
      · clear hk53
        refine WJ.seq ?_
        refine WJ.quiet ?_
        refine QJ.step (YldS.yld (y_assign rfl)) rfl ?_
        refine QJ.done ?_
        refine PJ.next ?_
        refine WJ.block ?_
        refine WJ.sel (L' := (fun (x : Int × Int) => [row v19 9 fStr r17.1, row v12 9 fStr r10]) (0, 0)) [0, 1] ⟨by decide, rfl⟩ ?_
        refine WJ.sub (m' := (fun (x : Int × Int) => [(1, v5), (5, v12), (8, .bool r15.1), (10, v19), (12, str r20.1), (13, .int .i64 r20.2), (14, .int .i64 r22.1), (16, .int .i64 x.1), (17, .int .i64 x.2)]) (0, 0)) ⟨rfl, rfl, rfl, rfl, rfl, rfl, rfl, rfl, rfl, trivial⟩ ?_
        refine WJ.loop (X := Int × Int) (fun N (x : Int × Int) => w_FnCodes_l1 kj52 r17 N x.1 x.2 = some r) (fun (x : Int × Int) => [(1, v5), (5, v12), (8, .bool r15.1), (10, v19), (12, str r20.1), (13, .int .i64 r20.2), (14, .int .i64 r22.1), (16, .int .i64 x.1), (17, .int .i64 x.2)]) (fun (x : Int × Int) => [row v19 9 fStr r17.1, row v12 9 fStr r10]) ?_ N (0, 0) hm
        · rintro N ⟨most54, i55⟩ hI
          have hm := hI; clear hI
          cases N with
          | zero => cases hm
          | succ N =>
          unfold w_FnCodes_l1 at hm
          refine WJ.seq ?_
          refine WJ.seq ?_
          refine WJ.quiet ?_
          refine QJ.step (YldS.yld (y_move rfl)) rfl ?_
          refine QJ.step (YldS.yld (y_move rfl)) rfl ?_
          refine QJ.step (YldS.yld (y_lenRow (k := 0) rfl Try.runUnderlying24 rfl)) rfl ?_
          refine QJ.step (YldS.yld (y_bin rfl rfl rfl)) rfl ?_
          refine QJ.done ?_
          refine PJ.next ?_
          refine WJ.cond (t := decide (i55 < (List.length r17.1 : Int))) rfl (fun hb56 => ?_) (fun hb56 => ?_)
          · replace hm := ifT hm hb56
            refine WJ.skip ?_
            refine PJ.next ?_
            refine WJ.seq ?_
            refine WJ.block ?_
            refine WJ.seq ?_
            refine WJ.seq ?_
            refine WJ.quiet_draw follows (by kernel_rfl) ?_
            refine QJ.step (YldS.yld (y_move rfl)) rfl ?_
            refine QJ.step (YldS.yld (y_bin rfl rfl rfl)) rfl ?_
            refine QJ.step (YldS.yld (y_move rfl)) rfl ?_
            obtain ⟨t57, h58, hm⟩ := bindS hm
            refine QJ.cut 11 [(1, v5), (5, v12), (8, .bool r15.1), (10, v19), (12, str r20.1), (13, .int .i64 r20.2), (14, .int .i64 r22.1), (16, .int .i64 most54), (17, .int .i64 i55), (119, .bool t57)] ?_ ?_
            · rcases Bool.eq_false_or_eq_true (decide (i55 > 0)) with hb59 | hb59
              · replace h58 := andT h58 hb59
                refine QJ.on rfl rfl (cB hb59) (YldS.yld (y_move rfl)) rfl ?_
                refine QJ.on rfl rfl (cB hb59) (YldS.yld (y_move rfl)) rfl ?_
                refine QJ.on rfl rfl (cB hb59) (YldS.yld (y_bin rfl rfl rfl)) rfl ?_
                obtain ⟨e60, h61, h58⟩ := bindS h58
                refine QJ.on rfl rfl (cB hb59) (YldS.yld (y_ixRow (k := 0) (R := fStr) rfl Try.runUnderlying24 Try.sizeOf9 rfl rfl h61)) rfl ?_
                refine QJ.on rfl rfl (cB hb59) (YldS.yld (y_loadR (k := 0) (i := (Int.toNat (w64 (i55 - 1)))) (off := 0) (u := str e60) rfl Try.isAgg9 rfl (idx_get h61) rfl)) rfl ?_
                refine QJ.on rfl rfl (cB hb59) (YldS.yld (y_move rfl)) rfl ?_
                refine QJ.on rfl rfl (cB hb59) (YldS.yld (y_move rfl)) rfl ?_
                obtain ⟨e62, h63, h58⟩ := bindS h58
                refine QJ.on rfl rfl (cB hb59) (YldS.yld (y_ixRow (k := 0) (R := fStr) rfl Try.runUnderlying24 Try.sizeOf9 rfl rfl h63)) rfl ?_
                refine QJ.on rfl rfl (cB hb59) (YldS.yld (y_loadR (k := 0) (i := (Int.toNat i55)) (off := 0) (u := str e62) rfl Try.isAgg9 rfl (idx_get h63) rfl)) rfl ?_
                refine QJ.on rfl rfl (cB hb59) (YldS.yld (y_binS rfl rfl rfl)) rfl ?_
                refine QJ.step (YldS.yld (y_pick_t (cB hb59) rfl)) rfl ?_
                obtain rfl := Option.some.inj h58
                exact QJ.cut_end ⟨rfl, rfl, rfl, rfl, rfl, rfl, rfl, rfl, rfl, rfl, trivial⟩
              · obtain rfl := andF h58 hb59
                refine QJ.off rfl rfl (cB hb59) rfl rfl ?_
                refine QJ.off rfl rfl (cB hb59) rfl rfl ?_
                refine QJ.off rfl rfl (cB hb59) rfl rfl ?_
                refine QJ.off rfl rfl (cB hb59) rfl rfl ?_
                refine QJ.off rfl rfl (cB hb59) rfl rfl ?_
                refine QJ.off rfl rfl (cB hb59) rfl rfl ?_
                refine QJ.off rfl rfl (cB hb59) rfl rfl ?_
                refine QJ.off rfl rfl (cB hb59) rfl rfl ?_
                refine QJ.off rfl rfl (cB hb59) rfl rfl ?_
                refine QJ.off rfl rfl (cB hb59) rfl rfl ?_
                refine QJ.step (YldS.yld (y_pick_f (cB hb59) rfl)) rfl ?_
                exact QJ.cut_end ⟨rfl, rfl, rfl, rfl, rfl, rfl, rfl, rfl, rfl, rfl, trivial⟩
            refine QJ.done ?_
            refine PJ.next ?_
            refine WJ.cond (t := t57) rfl (fun hb64 => ?_) (fun hb64 => ?_)
            · replace hm := ifT hm hb64
              refine WJ.seq ?_
              refine WJ.quiet ?_
              refine QJ.step (YldS.yld (y_assign rfl)) rfl ?_
              refine QJ.done ?_
              refine PJ.next ?_
              refine WJ.ret ?_
              refine PJ.then_ret (PJ.block_ret (PJ.then_ret (PJ.then_ret (PJ.block_ret (PJ.then_ret ?_)))))
              obtain rfl := Option.some.inj hm
              refine PJ.sel (L' := []) [] ⟨List.nodup_nil, rfl⟩ ?_
              exact PJ.retn (vs := [.bool false]) Try.results3 ⟨rfl, trivial⟩ ⟨rfl, rfl⟩
            · replace hm := ifF hm hb64
              refine WJ.skip ?_
              refine PJ.next ?_
              refine WJ.quiet ?_
              refine QJ.step (YldS.yld (y_move rfl)) rfl ?_
              refine QJ.step (YldS.yld (y_move rfl)) rfl ?_
              refine QJ.step (YldS.yld (y_move rfl)) rfl ?_
              obtain ⟨e65, h66, hm⟩ := bindS hm
              refine QJ.step (YldS.yld (y_ixRow (k := 0) (R := fStr) rfl Try.runUnderlying24 Try.sizeOf9 rfl rfl h66)) rfl ?_
              refine QJ.step (YldS.yld (y_loadR (k := 0) (i := (Int.toNat i55)) (off := 0) (u := str e65) rfl Try.isAgg9 rfl (idx_get h66) rfl)) rfl ?_
              refine QJ.step (YldS.yld (y_lenStr Try.runUnderlying9 rfl)) rfl ?_
              refine QJ.step (YldS.yld (y_max rfl rfl)) rfl ?_
              refine QJ.step (YldS.yld (y_assign rfl)) rfl ?_
              refine QJ.done ?_
              refine PJ.block_normal (PJ.next ?_)
              refine WJ.quiet ?_
              refine QJ.step (YldS.yld (y_move rfl)) rfl ?_
              refine QJ.step (YldS.yld (y_bin rfl rfl rfl)) rfl ?_
              refine QJ.step (YldS.yld (y_assign rfl)) rfl ?_
              refine QJ.done ?_
              exact PJ.round (imax most54 (List.length e65 : Int), w64 (i55 + 1)) [0, 1] hm ⟨rfl, rfl, rfl, rfl, rfl, rfl, rfl, rfl, rfl, trivial⟩ ⟨by decide, rfl⟩
          · replace hm := ifF hm hb56
            refine WJ.exit ?_
            refine PJ.then_exit (PJ.then_exit (PJ.block_exit ?_))
            exact PJ.joined most54 [1] hm ⟨rfl, rfl, rfl, rfl, rfl, rfl, rfl, trivial⟩ ⟨by decide, rfl⟩
      · rintro most51 hm
        subst hk53
        refine WJ.seq ?_
        refine WJ.seq ?_
        refine WJ.quiet ?_
        refine QJ.step (YldS.yld (y_move rfl)) rfl ?_
        refine QJ.step (YldS.yld (y_move rfl)) rfl ?_
        obtain ⟨t67, h68, hm⟩ := bindS hm
        refine QJ.cut 4 [(1, v5), (5, v12), (8, .bool r15.1), (12, str r20.1), (13, .int .i64 r20.2), (132, .bool t67)] ?_ ?_
        · rcases Bool.eq_false_or_eq_true r15.1 with hb69 | hb69
          · replace h68 := andT h68 hb69
            refine QJ.on rfl rfl (cB hb69) (YldS.yld (y_move rfl)) rfl ?_
            refine QJ.on rfl rfl (cB hb69) (YldS.yld (y_move rfl)) rfl ?_
            refine QJ.on rfl rfl (cB hb69) (YldS.yld (y_bin rfl rfl rfl)) rfl ?_
            refine QJ.step (YldS.yld (y_pick_t (cB hb69) rfl)) rfl ?_
            obtain rfl := Option.some.inj h68
            exact QJ.cut_end ⟨rfl, rfl, rfl, rfl, rfl, rfl, trivial⟩
          · obtain rfl := andF h68 hb69
            refine QJ.off rfl rfl (cB hb69) rfl rfl ?_
            refine QJ.off rfl rfl (cB hb69) rfl rfl ?_
            refine QJ.off rfl rfl (cB hb69) rfl rfl ?_
            refine QJ.step (YldS.yld (y_pick_f (cB hb69) rfl)) rfl ?_
            exact QJ.cut_end ⟨rfl, rfl, rfl, rfl, rfl, rfl, trivial⟩
        refine QJ.done ?_
        refine PJ.next ?_
        refine WJ.cond (t := t67) rfl (fun hb70 => ?_) (fun hb70 => ?_)
        · replace hm := ifT hm hb70
          refine WJ.seq ?_
          refine WJ.quiet ?_
          refine QJ.step (YldS.yld (y_assign rfl)) rfl ?_
          refine QJ.done ?_
          refine PJ.next ?_
          refine WJ.ret ?_
          refine PJ.then_ret ?_
          obtain rfl := Option.some.inj hm
          refine PJ.sel (L' := []) [] ⟨List.nodup_nil, rfl⟩ ?_
          exact PJ.retn (vs := [.bool false]) Try.results3 ⟨rfl, trivial⟩ ⟨rfl, rfl⟩
        · replace hm := ifF hm hb70
          refine WJ.skip ?_
          refine PJ.next ?_
          obtain ⟨kj71, hk72, hm⟩ := withK_open hm
          refine WJ.join (X := Unit) (fun (_ : Unit) => kj71  = some r) (fun (_ : Unit) => [(1, v5), (5, v12), (8, .bool r15.1)]) (fun (_ : Unit) => [row v12 9 fStr r10]) ?_ ?_
          · clear hk72
            refine WJ.seq ?_
            refine WJ.quiet ?_
            refine QJ.step (YldS.yld (y_move rfl)) rfl ?_
            refine QJ.step (YldS.yld (y_bin rfl rfl rfl)) rfl ?_
            refine QJ.step (YldS.yld (y_move rfl)) rfl ?_
            obtain ⟨t73, h74, hm⟩ := bindS hm
            refine QJ.cut 4 [(1, v5), (5, v12), (8, .bool r15.1), (12, str r20.1), (139, .bool t73)] ?_ ?_
            · rcases Bool.eq_false_or_eq_true (r20.2 == 0) with hb75 | hb75
              · replace h74 := andT h74 hb75
                refine QJ.on rfl rfl (cB hb75) (YldS.yld (y_move rfl)) rfl ?_
                refine QJ.on rfl rfl (cB hb75) (YldS.yld (y_lenStr Try.runUnderlying9 rfl)) rfl ?_
                refine QJ.on rfl rfl (cB hb75) (YldS.yld (y_bin rfl rfl rfl)) rfl ?_
                refine QJ.step (YldS.yld (y_pick_t (cB hb75) rfl)) rfl ?_
                obtain rfl := Option.some.inj h74
                exact QJ.cut_end ⟨rfl, rfl, rfl, rfl, rfl, trivial⟩
              · obtain rfl := andF h74 hb75
                refine QJ.off rfl rfl (cB hb75) rfl rfl ?_
                refine QJ.off rfl rfl (cB hb75) rfl rfl ?_
                refine QJ.off rfl rfl (cB hb75) rfl rfl ?_
                refine QJ.step (YldS.yld (y_pick_f (cB hb75) rfl)) rfl ?_
                exact QJ.cut_end ⟨rfl, rfl, rfl, rfl, rfl, trivial⟩
            refine QJ.done ?_
            refine PJ.next ?_
            refine WJ.cond (t := t73) rfl (fun hb76 => ?_) (fun hb76 => ?_)
            · replace hm := ifT hm hb76
              refine WJ.seq ?_
              refine WJ.quiet ?_
              refine QJ.step (YldS.yld (y_move rfl)) rfl ?_
              refine QJ.step (YldS.yld (y_move rfl)) rfl ?_
              obtain ⟨r77, h78, hm⟩ := bindS hm
              refine QJ.step (y_call Try.call12 rfl (RetG.quiet fun w hw => ok_i_CountReadings h78 w _ (hw.row_rd (k := 0) rfl))) rfl ?_
              refine QJ.step (YldS.yld (y_move rfl)) rfl ?_
              refine QJ.step (YldS.yld (y_extract rfl rfl)) rfl ?_
              refine QJ.step (YldS.yld (y_extract rfl rfl)) rfl ?_
              refine QJ.step (YldS.yld (y_assign rfl)) rfl ?_
              refine QJ.step (YldS.yld (y_assign rfl)) rfl ?_
              refine QJ.done ?_
              refine PJ.next ?_
              refine WJ.seq ?_
              refine WJ.seq ?_
              refine WJ.quiet ?_
              refine QJ.step (YldS.yld (y_move rfl)) rfl ?_
              refine QJ.step (YldS.yld (y_bin rfl rfl rfl)) rfl ?_
              refine QJ.step (YldS.yld (y_move rfl)) rfl ?_
              obtain ⟨t79, h80, hm⟩ := bindS hm
              refine QJ.cut 3 [(1, v5), (5, v12), (8, .bool r15.1), (12, str r20.1), (151, .bool t79)] ?_ ?_
              · rcases Bool.eq_false_or_eq_true (r77.2 != 0) with hb81 | hb81
                · obtain rfl := orT h80 hb81
                  refine QJ.off rfl rfl (cB hb81) rfl rfl ?_
                  refine QJ.off rfl rfl (cB hb81) rfl rfl ?_
                  refine QJ.step (YldS.yld (y_pick_t (cB hb81) rfl)) rfl ?_
                  exact QJ.cut_end ⟨rfl, rfl, rfl, rfl, rfl, trivial⟩
                · replace h80 := orF h80 hb81
                  refine QJ.on rfl rfl (cB hb81) (YldS.yld (y_move rfl)) rfl ?_
                  refine QJ.on rfl rfl (cB hb81) (YldS.yld (y_bin rfl rfl rfl)) rfl ?_
                  refine QJ.step (YldS.yld (y_pick_f (cB hb81) rfl)) rfl ?_
                  obtain rfl := Option.some.inj h80
                  exact QJ.cut_end ⟨rfl, rfl, rfl, rfl, rfl, trivial⟩
              refine QJ.done ?_
              refine PJ.next ?_
              refine WJ.cond (t := t79) rfl (fun hb82 => ?_) (fun hb82 => ?_)
              · replace hm := ifT hm hb82
                refine WJ.seq ?_
                refine WJ.quiet ?_
                refine QJ.step (YldS.yld (y_assign rfl)) rfl ?_
                refine QJ.done ?_
                refine PJ.next ?_
                refine WJ.ret ?_
                refine PJ.then_ret (PJ.then_ret ?_)
                obtain rfl := Option.some.inj hm
                refine PJ.sel (L' := []) [] ⟨List.nodup_nil, rfl⟩ ?_
                exact PJ.retn (vs := [.bool false]) Try.results3 ⟨rfl, trivial⟩ ⟨rfl, rfl⟩
              · replace hm := ifF hm hb82
                refine WJ.skip ?_
                refine PJ.next ?_
                refine WJ.seq ?_
                refine WJ.quiet ?_
                refine QJ.step (YldS.yld (y_assign rfl)) rfl ?_
                refine QJ.done ?_
                refine PJ.next ?_
                refine WJ.block ?_
                refine WJ.sel (L' := (fun (x : Int) => [row v12 9 fStr r10]) 0) [0] ⟨by decide, rfl⟩ ?_
                refine WJ.sub (m' := (fun (x : Int) => [(1, v5), (5, v12), (8, .bool r15.1), (12, str r20.1), (20, .int .i64 x)]) 0) ⟨rfl, rfl, rfl, rfl, rfl, trivial⟩ ?_
                refine WJ.loop (X := Int) (fun N (x : Int) => w_FnCodes_l2 kj71 r10 r20 N x = some r) (fun (x : Int) => [(1, v5), (5, v12), (8, .bool r15.1), (12, str r20.1), (20, .int .i64 x)]) (fun (x : Int) => [row v12 9 fStr r10]) ?_ N 0 hm
                · rintro N i83 hI
                  have hm := hI; clear hI
                  cases N with
                  | zero => cases hm
                  | succ N =>
                  unfold w_FnCodes_l2 at hm
                  refine WJ.seq ?_
                  refine WJ.seq ?_
                  refine WJ.quiet ?_
                  refine QJ.step (YldS.yld (y_move rfl)) rfl ?_
                  refine QJ.step (YldS.yld (y_move rfl)) rfl ?_
                  refine QJ.step (YldS.yld (y_lenStr Try.runUnderlying9 rfl)) rfl ?_
                  refine QJ.step (YldS.yld (y_bin rfl rfl rfl)) rfl ?_
                  refine QJ.done ?_
                  refine PJ.next ?_
                  refine WJ.cond (t := decide (i83 < (List.length r20.1 : Int))) rfl (fun hb84 => ?_) (fun hb84 => ?_)
                  · replace hm := ifT hm hb84
                    refine WJ.skip ?_
                    refine PJ.next ?_
                    refine WJ.seq ?_
                    refine WJ.block ?_
                    refine WJ.seq ?_
                    refine WJ.quiet ?_
                    refine QJ.step (YldS.yld (y_move rfl)) rfl ?_
                    refine QJ.step (YldS.yld (y_move rfl)) rfl ?_
                    refine QJ.step (YldS.yld (y_move rfl)) rfl ?_
                    obtain ⟨s85, h86, hm⟩ := bindS hm
                    refine QJ.step (YldS.yld (y_subStr (i := none) (j := some i83) h86 Try.runUnderlying9 rfl trivial ⟨_, rfl⟩)) rfl ?_
                    obtain ⟨r87, h88, hm⟩ := bindS hm
                    refine QJ.step (y_call Try.call12 rfl (RetG.quiet fun w hw => ok_i_CountReadings h88 w _ (hw.row_rd (k := 0) rfl))) rfl ?_
                    refine QJ.step (YldS.yld (y_move rfl)) rfl ?_
                    refine QJ.step (YldS.yld (y_extract rfl rfl)) rfl ?_
                    refine QJ.step (YldS.yld (y_extract rfl rfl)) rfl ?_
                    refine QJ.step (YldS.yld (y_assign rfl)) rfl ?_
                    refine QJ.step (YldS.yld (y_assign rfl)) rfl ?_
                    refine QJ.done ?_
                    refine PJ.next ?_
                    refine WJ.seq ?_
                    refine WJ.quiet ?_
                    refine QJ.step (YldS.yld (y_move rfl)) rfl ?_
                    refine QJ.step (YldS.yld (y_bin rfl rfl rfl)) rfl ?_
                    refine QJ.step (YldS.yld (y_move rfl)) rfl ?_
                    obtain ⟨t89, h90, hm⟩ := bindS hm
                    refine QJ.cut 3 [(1, v5), (5, v12), (8, .bool r15.1), (12, str r20.1), (20, .int .i64 i83), (171, .bool t89)] ?_ ?_
                    · rcases Bool.eq_false_or_eq_true (r87.2 != 0) with hb91 | hb91
                      · obtain rfl := orT h90 hb91
                        refine QJ.off rfl rfl (cB hb91) rfl rfl ?_
                        refine QJ.off rfl rfl (cB hb91) rfl rfl ?_
                        refine QJ.step (YldS.yld (y_pick_t (cB hb91) rfl)) rfl ?_
                        exact QJ.cut_end ⟨rfl, rfl, rfl, rfl, rfl, rfl, trivial⟩
                      · replace h90 := orF h90 hb91
                        refine QJ.on rfl rfl (cB hb91) (YldS.yld (y_move rfl)) rfl ?_
                        refine QJ.on rfl rfl (cB hb91) (YldS.yld (y_bin rfl rfl rfl)) rfl ?_
                        refine QJ.step (YldS.yld (y_pick_f (cB hb91) rfl)) rfl ?_
                        obtain rfl := Option.some.inj h90
                        exact QJ.cut_end ⟨rfl, rfl, rfl, rfl, rfl, rfl, trivial⟩
                    refine QJ.done ?_
                    refine PJ.next ?_
                    refine WJ.cond (t := t89) rfl (fun hb92 => ?_) (fun hb92 => ?_)
                    · replace hm := ifT hm hb92
                      refine WJ.seq ?_
                      refine WJ.quiet ?_
                      refine QJ.step (YldS.yld (y_assign rfl)) rfl ?_
                      refine QJ.done ?_
                      refine PJ.next ?_
                      refine WJ.ret ?_
                      refine PJ.block_ret (PJ.then_ret (PJ.then_ret (PJ.block_ret (PJ.then_ret ?_))))
                      obtain rfl := Option.some.inj hm
                      refine PJ.sel (L' := []) [] ⟨List.nodup_nil, rfl⟩ ?_
                      exact PJ.retn (vs := [.bool false]) Try.results3 ⟨rfl, trivial⟩ ⟨rfl, rfl⟩
                    · replace hm := ifF hm hb92
                      refine WJ.skip ?_
                      refine PJ.block_normal (PJ.next ?_)
                      refine WJ.quiet ?_
                      refine QJ.step (YldS.yld (y_move rfl)) rfl ?_
                      refine QJ.step (YldS.yld (y_bin rfl rfl rfl)) rfl ?_
                      refine QJ.step (YldS.yld (y_assign rfl)) rfl ?_
                      refine QJ.done ?_
                      exact PJ.round (w64 (i83 + 1)) [0] hm ⟨rfl, rfl, rfl, rfl, rfl, trivial⟩ ⟨by decide, rfl⟩
                  · replace hm := ifF hm hb84
                    refine WJ.exit ?_
                    refine PJ.then_exit (PJ.then_exit (PJ.block_exit ?_))
                    exact PJ.joined () [0] hm ⟨rfl, rfl, rfl, trivial⟩ ⟨by decide, rfl⟩
            · replace hm := ifF hm hb76
              refine WJ.skip ?_
              exact PJ.joined () [0] hm ⟨rfl, rfl, rfl, trivial⟩ ⟨by decide, rfl⟩
          · rintro _ hm
            subst hk72
            refine WJ.seq ?_
            refine WJ.reg ?_
            refine SJ.q (YldS.yld (y_move rfl)) rfl ?_
            refine SJ.q (YldS.yld (y_move rfl)) rfl ?_
            refine SJ.q (YldS.yld (y_lenRow (k := 0) rfl Try.runUnderlying24 rfl)) rfl ?_
            obtain ⟨r93, h94, hm⟩ := bindS hm
            refine SJ.call Try.call13 rfl (fun w hw => ok_s_A2Indices h94 w _ (hr6.st hw)) rfl ?_
            rintro v95 _ ⟨_, rfl, rfl⟩
            refine SJ.q (YldS.yld (y_assign rfl)) rfl ?_
            refine SJ.nil ?_
            refine PJ.next ?_
            refine WJ.seq ?_
            refine WJ.quiet ?_
            refine QJ.step (YldS.yld (y_move rfl)) rfl ?_
            refine QJ.step (YldS.yld (y_move rfl)) rfl ?_
            obtain ⟨r96, h97, hm⟩ := bindS hm
            refine QJ.step (y_call Try.call14 rfl (RetG.quiet fun w hw => ok_i_EncodeWords h97 w _ (hw.row_rd (k := 1) rfl) _ (hw.row_rd (k := 0) rfl))) rfl ?_
            refine QJ.step (YldS.yld (y_move rfl)) rfl ?_
            refine QJ.step (YldS.yld (y_extract rfl rfl)) rfl ?_
            refine QJ.step (YldS.yld (y_extract rfl rfl)) rfl ?_
            refine QJ.step (YldS.yld (y_assign rfl)) rfl ?_
            refine QJ.step (YldS.yld (y_assign rfl)) rfl ?_
            refine QJ.done ?_
            refine PJ.next ?_
            refine WJ.seq ?_
            refine WJ.seq ?_
            refine WJ.quiet ?_
            refine QJ.step (YldS.yld (y_move rfl)) rfl ?_
            refine QJ.step (YldS.yld (y_bin rfl rfl rfl)) rfl ?_
            refine QJ.done ?_
            refine PJ.next ?_
            refine WJ.cond (t := (r96.2 != 0)) rfl (fun hb98 => ?_) (fun hb98 => ?_)
            · replace hm := ifT hm hb98
              refine WJ.seq ?_
              refine WJ.quiet ?_
              refine QJ.step (YldS.yld (y_assign rfl)) rfl ?_
              refine QJ.done ?_
              refine PJ.next ?_
              refine WJ.ret ?_
              refine PJ.then_ret ?_
              obtain rfl := Option.some.inj hm
              refine PJ.sel (L' := []) [] ⟨List.nodup_nil, rfl⟩ ?_
              exact PJ.retn (vs := [.bool false]) Try.results3 ⟨rfl, trivial⟩ ⟨rfl, rfl⟩
            · replace hm := ifF hm hb98
              refine WJ.skip ?_
              refine PJ.next ?_
              refine WJ.seq ?_
              refine WJ.quiet ?_
              refine QJ.step (YldS.yld (y_move rfl)) rfl ?_
              refine QJ.step (YldS.yld (y_move rfl)) rfl ?_
              obtain ⟨r99, h100, hm⟩ := bindS hm
              refine QJ.step (y_call Try.call12 rfl (RetG.quiet fun w hw => ok_i_CountReadings h100 w _ (hw.row_rd (k := 1) rfl))) rfl ?_
              refine QJ.step (YldS.yld (y_move rfl)) rfl ?_
              refine QJ.step (YldS.yld (y_extract rfl rfl)) rfl ?_
              refine QJ.step (YldS.yld (y_extract rfl rfl)) rfl ?_
              refine QJ.step (YldS.yld (y_assign rfl)) rfl ?_
              refine QJ.step (YldS.yld (y_assign rfl)) rfl ?_
              refine QJ.done ?_
              refine PJ.next ?_
              refine WJ.seq ?_
              refine WJ.quiet ?_
              refine QJ.step (YldS.yld (y_move rfl)) rfl ?_
              refine QJ.step (YldS.yld (y_bin rfl rfl rfl)) rfl ?_
              refine QJ.step (YldS.yld (y_move rfl)) rfl ?_
              obtain ⟨t101, h102, hm⟩ := bindS hm
              refine QJ.cut 3 [(8, .bool r15.1), (26, .int .i64 r99.1), (195, .bool t101)] ?_ ?_
              · rcases Bool.eq_false_or_eq_true (r99.2 == 0) with hb103 | hb103
                · replace h102 := andT h102 hb103
                  refine QJ.on rfl rfl (cB hb103) (YldS.yld (y_move rfl)) rfl ?_
                  refine QJ.on rfl rfl (cB hb103) (YldS.yld (y_bin rfl rfl rfl)) rfl ?_
                  refine QJ.step (YldS.yld (y_pick_t (cB hb103) rfl)) rfl ?_
                  obtain rfl := Option.some.inj h102
                  exact QJ.cut_end ⟨rfl, rfl, rfl, trivial⟩
                · obtain rfl := andF h102 hb103
                  refine QJ.off rfl rfl (cB hb103) rfl rfl ?_
                  refine QJ.off rfl rfl (cB hb103) rfl rfl ?_
                  refine QJ.step (YldS.yld (y_pick_f (cB hb103) rfl)) rfl ?_
                  exact QJ.cut_end ⟨rfl, rfl, rfl, trivial⟩
              refine QJ.step (YldS.yld (y_move rfl)) rfl ?_
              obtain ⟨t104, h105, hm⟩ := bindS hm
              refine QJ.cut 7 [(203, .bool t104)] ?_ ?_
              · rcases Bool.eq_false_or_eq_true t101 with hb106 | hb106
                · replace h105 := andT h105 hb106
                  refine QJ.on rfl rfl (cB hb106) (YldS.yld (y_move rfl)) rfl ?_
                  refine QJ.on rfl rfl (cB hb106) (YldS.yld (y_not rfl)) rfl ?_
                  refine QJ.on rfl rfl (cB hb106) (YldS.yld (y_move rfl)) rfl ?_
                  obtain ⟨t107, h108, h105⟩ := bindS h105
                  refine QJ.cut 3 [(196, .bool t101), (202, .bool t107)] ?_ ?_
                  · rcases Bool.eq_false_or_eq_true (!r15.1) with hb109 | hb109
                    · obtain rfl := orT h108 hb109
                      refine QJ.off rfl rfl (cB hb109) rfl rfl ?_
                      refine QJ.off rfl rfl (cB hb109) rfl rfl ?_
                      refine QJ.on rfl rfl (cB hb106) (YldS.yld (y_pick_t (cB hb109) rfl)) rfl ?_
                      exact QJ.cut_end ⟨rfl, rfl, trivial⟩
                    · replace h108 := orF h108 hb109
                      refine QJ.on rfl rfl (cB hb109) (YldS.yld (y_move rfl)) rfl ?_
                      refine QJ.on rfl rfl (cB hb109) (YldS.yld (y_bin rfl rfl rfl)) rfl ?_
                      refine QJ.on rfl rfl (cB hb106) (YldS.yld (y_pick_f (cB hb109) rfl)) rfl ?_
                      obtain rfl := Option.some.inj h108
                      exact QJ.cut_end ⟨rfl, rfl, trivial⟩
                  refine QJ.step (YldS.yld (y_pick_t (cB hb106) rfl)) rfl ?_
                  obtain rfl := Option.some.inj h105
                  exact QJ.cut_end ⟨rfl, trivial⟩
                · obtain rfl := andF h105 hb106
                  refine QJ.off rfl rfl (cB hb106) rfl rfl ?_
                  refine QJ.off rfl rfl (cB hb106) rfl rfl ?_
                  refine QJ.off rfl rfl (cB hb106) rfl rfl ?_
                  refine QJ.off_undef rfl rfl rfl rfl ?_
                  refine QJ.off_undef rfl rfl rfl rfl ?_
                  refine QJ.off rfl rfl (cB hb106) rfl rfl ?_
                  refine QJ.step (YldS.yld (y_pick_f (cB hb106) rfl)) rfl ?_
                  exact QJ.cut_end ⟨rfl, trivial⟩
              refine QJ.step (YldS.yld (y_assign rfl)) rfl ?_
              refine QJ.done ?_
              refine PJ.next ?_
              refine WJ.ret ?_
              obtain rfl := Option.some.inj hm
              refine PJ.sel (L' := []) [] ⟨List.nodup_nil, rfl⟩ ?_
              exact PJ.retn (vs := [.bool t104]) Try.results3 ⟨rfl, trivial⟩ ⟨rfl, rfl⟩

end Go.Proofs.Ytacdadfaialbpaa
