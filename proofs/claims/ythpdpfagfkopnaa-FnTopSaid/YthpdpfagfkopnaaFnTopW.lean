/-
  The walks: a call hands back what its plain function computes, where that has a value. No other conditions.
-/
import Derived.Test.YthpdpfagfkopnaaFnTopM
import Derived.Test.YthpdpfagfkopnaaChecked
namespace Go.Proofs.Ythpdpfagfkopnaa
open Go.RowKit Go.Proofs
set_option linter.unusedVariables false
set_option linter.unusedSimpArgs false

theorem follows : Try.prog.follows .mixedOrders = true := by kernel_rfl

def Basket.enc (x : Basket) : List Value := [.int .i64 x.bars, .int .i64 x.rise, .int .i64 x.fall, .int .i64 x.clear, .int .i64 x.near]
def fBasket : FRp Basket := ⟨5, Basket.enc, fun _ => rfl, by decide, fun x u hu => by
  simp only [Basket.enc, List.mem_cons, List.not_mem_nil, or_false] at hu
  rcases hu with rfl | rfl | rfl | rfl | rfl <;> rfl⟩

theorem pl157 : PlacesOk Try.prog 157 [(0, 1), (1, 1), (2, 1)] := ⟨_, Try.runUnderlying157, fun w => by simp [Try.sizeOf3, Try.sizeOf22, Try.sizeOf155]⟩
theorem fld157_1 : FieldOk Try.prog 157 1 1 3 0 := ⟨_, _, Try.runUnderlying157, rfl, rfl, rfl, Try.sizeOf3⟩
theorem fld157_0 : FieldOk Try.prog 157 0 0 22 0 := ⟨_, _, Try.runUnderlying157, rfl, rfl, rfl, Try.sizeOf22⟩
theorem fld157_2 : FieldOk Try.prog 157 2 2 155 0 := ⟨_, _, Try.runUnderlying157, rfl, rfl, rfl, Try.sizeOf155⟩
theorem pl66 : PlacesOk Try.prog 66 [(0, 1), (1, 1), (2, 1), (3, 1), (4, 1)] := ⟨_, Try.runUnderlying66, fun w => by simp [Try.sizeOf2]⟩
theorem fld66_1 : FieldOk Try.prog 66 1 1 2 0 := ⟨_, _, Try.runUnderlying66, rfl, rfl, rfl, Try.sizeOf2⟩
theorem fld66_2 : FieldOk Try.prog 66 2 2 2 0 := ⟨_, _, Try.runUnderlying66, rfl, rfl, rfl, Try.sizeOf2⟩
theorem fld66_3 : FieldOk Try.prog 66 3 3 2 0 := ⟨_, _, Try.runUnderlying66, rfl, rfl, rfl, Try.sizeOf2⟩
theorem fld66_4 : FieldOk Try.prog 66 4 4 2 0 := ⟨_, _, Try.runUnderlying66, rfl, rfl, rfl, Try.sizeOf2⟩
theorem fld66_0 : FieldOk Try.prog 66 0 0 2 0 := ⟨_, _, Try.runUnderlying66, rfl, rfl, rfl, Try.sizeOf2⟩
set_option maxRecDepth 100000 in
theorem el2 : ElemOk Try.prog 2 1 (fI64.enc 0) := ⟨_, _, Try.type2, rfl, rfl, rfl, by decide⟩
set_option maxRecDepth 100000 in
theorem el25 : ElemOk Try.prog 25 1 [.slice none 0 0] := ⟨_, _, Try.type25, rfl, rfl, rfl, by decide⟩
set_option maxRecDepth 100000 in
theorem el5 : ElemOk Try.prog 5 1 (fByte.enc 0) := ⟨_, _, Try.type5, rfl, rfl, rfl, by decide⟩
set_option maxRecDepth 100000 in
theorem zv200 : ∀ w, (zeroValue 200).run Try.prog w = .ok (.agg (List.toArray (encs fI64 (List.replicate 31 (0 : Int))))) w := fun w => by
  rw [Try.zeroValue200]
  refine congrArg (fun z => Result.ok (Value.agg z) w) ?_
  kernel_rfl
set_option maxRecDepth 100000 in
theorem el144 : ElemOk Try.prog 144 1 [.slice none 0 0] := ⟨_, _, Try.type144, rfl, rfl, rfl, by decide⟩
set_option maxRecDepth 100000 in
theorem el3 : ElemOk Try.prog 3 1 (fI64.enc 0) := ⟨_, _, Try.type3, rfl, rfl, rfl, by decide⟩

set_option maxRecDepth 100000 in
set_option maxHeartbeats 1000000 in
theorem ok_w_a2Long {code1 : List UInt8} {more4 : List UInt8} {r : Bool} (hm : w_a2Long code1 more4 = some r) (w : World) (v2 : Value) (hr3 : RdS w (cx w).Fz v2 fByte.rp code1) (v5 : Value) (hr6 : RdS w (cx w).Fz v5 fByte.rp more4) :
    Calls Try.prog 42 #[v2, v5] w (Ret (cx w) (.bool r)) := by
  unfold w_a2Long at hm
  refine Calls.enter [v2, v5] Try.func42 rfl Try.ntmps42 rfl ?_
  refine WJ.seq ?_
  refine WJ.quiet ?_
  refine QJ.step (YldS.yld (y_assign rfl)) rfl ?_
  refine QJ.done ?_
  refine PJ.next ?_
  refine WJ.seq ?_
  refine WJ.quiet ?_
  refine QJ.step (YldS.yld (y_move rfl)) rfl ?_
  refine QJ.step (YldS.yld (y_lenS Try.runUnderlying22 hr3 rfl)) rfl ?_
  refine QJ.step (YldS.yld (y_bin rfl rfl rfl)) rfl ?_
  refine QJ.step (YldS.yld (y_move rfl)) rfl ?_
  obtain ⟨t7, h8, hm⟩ := bindS hm
  refine QJ.cut 4 [(12, .bool t7)] ?_ ?_
  · rcases Bool.eq_false_or_eq_true (decide ((List.length code1 : Int) > 3000)) with hb9 | hb9
    · obtain rfl := orT h8 hb9
      refine QJ.off rfl rfl (cB hb9) rfl rfl ?_
      refine QJ.off rfl rfl (cB hb9) rfl rfl ?_
      refine QJ.off rfl rfl (cB hb9) rfl rfl ?_
      refine QJ.step (YldS.yld (y_pick_t (cB hb9) rfl)) rfl ?_
      exact QJ.cut_end ⟨rfl, trivial⟩
    · replace h8 := orF h8 hb9
      refine QJ.on rfl rfl (cB hb9) (YldS.yld (y_move rfl)) rfl ?_
      refine QJ.on rfl rfl (cB hb9) (YldS.yld (y_lenS Try.runUnderlying22 hr6 rfl)) rfl ?_
      refine QJ.on rfl rfl (cB hb9) (YldS.yld (y_bin rfl rfl rfl)) rfl ?_
      refine QJ.step (YldS.yld (y_pick_f (cB hb9) rfl)) rfl ?_
      obtain rfl := Option.some.inj h8
      exact QJ.cut_end ⟨rfl, trivial⟩
  refine QJ.step (YldS.yld (y_assign rfl)) rfl ?_
  refine QJ.done ?_
  refine PJ.next ?_
  refine WJ.ret ?_
  obtain rfl := Option.some.inj hm
  refine PJ.sel (L' := []) [] ⟨List.nodup_nil, rfl⟩ ?_
  exact PJ.retn (vs := [.bool t7]) Try.results42 ⟨rfl, trivial⟩ ⟨rfl, rfl⟩

set_option maxRecDepth 100000 in
set_option maxHeartbeats 1000000 in
theorem ok_s_l00From {code1 : List UInt8} {r : L00Src} (hm : s_l00From code1 = some r) (w : World) (v2 : Value) (hr3 : RdS w (cx w).Fz v2 fByte.rp code1) :
    Calls Try.prog 73 #[v2] w (RetG (cx w) fun u L => ∃ (u1 : Nat), (u = pt u1 0 ∧ L = [box u1 157 [v2, .int .i64 r.at_, .int .u64 r.seed]])) := by
  unfold s_l00From at hm
  refine Calls.enter [v2] Try.func73 rfl Try.ntmps73 rfl ?_
  refine WJ.seq ?_
  refine WJ.quiet ?_
  refine QJ.step (YldS.yld (y_assign rfl)) rfl ?_
  refine QJ.done ?_
  refine PJ.next ?_
  refine WJ.seq ?_
  refine WJ.reg ?_
  refine SJ.q (YldS.yld (y_move rfl)) rfl ?_
  refine SJ.q (YldS.yld (y_build (parts := [(0, .tmp 3)]) (places := [(0, 1), (1, 1), (2, 1)]) (r := [v2, .int .i64 0, .int .u64 0]) pl157 Try.zeroValue157 rfl rfl (show _ = [(0, [v2])] from by simp only [List.map, RdS.cells1 hr3]) rfl)) rfl ?_
  refine SJ.box (cs := [v2, .int .i64 0, .int .u64 0]) rfl rfl rfl fun g4 => ?_
  refine SJ.q (YldS.yld (y_assign rfl)) rfl ?_
  refine SJ.nil ?_
  refine PJ.next ?_
  refine WJ.ret ?_
  obtain rfl := Option.some.inj hm
  refine PJ.sel (L' := [box g4 157 [v2, .int .i64 0, .int .u64 0]]) [0] ⟨by decide, rfl⟩ ?_
  exact PJ.retn (vs := [pt g4 0]) Try.results73 ⟨rfl, trivial⟩ ⟨_, rfl, rfl⟩

set_option maxRecDepth 100000 in
set_option maxHeartbeats 1000000 in
theorem ok_s_l00Src_next {s1 : L00Src} {g2 : Nat} {r : Int × L00Src} (hm : s_l00Src_next s1 = some r) (w : World) (S : Nat → Prop) (v3 : Value) (hr4 : RdS w (Cx.Fz ⟨w, S⟩) v3 fByte.rp s1.code) (hA : (box g2 157 [v3, .int .i64 s1.at_, .int .u64 s1.seed]).holds w S) :
    Calls Try.prog 153 #[pt g2 0] w (RetG ⟨w, S⟩ fun u L => (u = .int .i64 r.1 ∧ L = [box g2 157 [v3, .int .i64 r.2.at_, .int .u64 r.2.seed]])) := by
  unfold s_l00Src_next at hm
  refine Calls.enter1 hA [pt g2 0] Try.func153 rfl Try.ntmps153 rfl ?_
  refine WJ.seq ?_
  refine WJ.quiet ?_
  refine QJ.step (YldS.yld (y_assign rfl)) rfl ?_
  refine QJ.done ?_
  refine PJ.next ?_
  refine WJ.seq ?_
  refine WJ.quiet ?_
  refine QJ.step (YldS.yld (y_assign rfl)) rfl ?_
  refine QJ.done ?_
  refine PJ.next ?_
  obtain ⟨kj6, hk7, hm⟩ := withK_open hm
  refine WJ.join (X := Int) (fun (x : Int) => kj6 x = some r) (fun (x : Int) => [(0, pt g2 0), (3, .int .i64 x)]) (fun (x : Int) => [box g2 157 [v3, .int .i64 s1.at_, .int .u64 s1.seed]]) ?_ ?_
  · clear hk7
    refine WJ.seq ?_
    refine WJ.quiet_draw follows (by kernel_rfl) ?_
    refine QJ.step (YldS.yld (y_move rfl)) rfl ?_
    refine QJ.step (YldS.yld (y_nil rfl)) rfl ?_
    refine QJ.step (YldS.yld (y_fldB (o := 0) fld157_1 rfl)) rfl ?_
    refine QJ.step (YldS.yld (y_loadB (k := 0) (off := 1) (v := .int .i64 s1.at_) rfl Try.isAgg3 rfl rfl)) rfl ?_
    refine QJ.step (YldS.yld (y_move rfl)) rfl ?_
    refine QJ.step (YldS.yld (y_nil rfl)) rfl ?_
    refine QJ.step (YldS.yld (y_fldB (o := 0) fld157_0 rfl)) rfl ?_
    refine QJ.step (YldS.yld (y_loadB (k := 0) (off := 0) (v := v3) rfl Try.isAgg22 rfl rfl)) rfl ?_
    refine QJ.step (YldS.yld (y_lenS Try.runUnderlying22 hr4 rfl)) rfl ?_
    refine QJ.step (YldS.yld (y_bin rfl rfl rfl)) rfl ?_
    refine QJ.done ?_
    refine PJ.next ?_
    refine WJ.cond (t := decide (s1.at_ < (List.length s1.code : Int))) rfl (fun hb8 => ?_) (fun hb8 => ?_)
    · replace hm := ifT hm hb8
      refine WJ.quiet_draw follows (by kernel_rfl) ?_
      refine QJ.step (YldS.yld (y_move rfl)) rfl ?_
      refine QJ.step (YldS.yld (y_nil rfl)) rfl ?_
      refine QJ.step (YldS.yld (y_fldB (o := 0) fld157_0 rfl)) rfl ?_
      refine QJ.step (YldS.yld (y_loadB (k := 0) (off := 0) (v := v3) rfl Try.isAgg22 rfl rfl)) rfl ?_
      refine QJ.step (YldS.yld (y_move rfl)) rfl ?_
      refine QJ.step (YldS.yld (y_nil rfl)) rfl ?_
      refine QJ.step (YldS.yld (y_fldB (o := 0) fld157_1 rfl)) rfl ?_
      refine QJ.step (YldS.yld (y_loadB (k := 0) (off := 1) (v := .int .i64 s1.at_) rfl Try.isAgg3 rfl rfl)) rfl ?_
      obtain ⟨e9, h10, hm⟩ := bindS hm
      obtain ⟨ad11, _, rfl, ha12, hy13⟩ := hr4.elem h10
      refine QJ.step (YldS.yld (hy13 Try.runUnderlying22 Try.sizeOf5 rfl rfl)) rfl ?_
      refine QJ.step (YldS.yld (y_load1 (v := .int .u8 (UInt8.toNat e9 : Int)) Try.isAgg5 ha12 St.frozenC rfl)) rfl ?_
      refine QJ.step (YldS.yld (y_conv8 Try.runUnderlying5 Try.runUnderlying3 rfl)) rfl ?_
      refine QJ.step (YldS.yld (y_assign rfl)) rfl ?_
      refine QJ.done ?_
      exact PJ.joined (UInt8.toNat e9 : Int) [0] hm ⟨rfl, rfl, trivial⟩ ⟨by decide, rfl⟩
    · replace hm := ifF hm hb8
      refine WJ.skip ?_
      exact PJ.joined 0 [0] hm ⟨rfl, rfl, trivial⟩ ⟨by decide, rfl⟩
  · rintro b5 hm
    subst hk7
    refine WJ.seq ?_
    refine WJ.reg ?_
    refine SJ.q (YldS.yld (y_move rfl)) rfl ?_
    refine SJ.q (YldS.yld (y_nil rfl)) rfl ?_
    refine SJ.q (YldS.yld (y_fldB (o := 0) fld157_1 rfl)) rfl ?_
    refine SJ.q (YldS.yld (y_loadB (k := 0) (off := 1) (v := .int .i64 s1.at_) rfl Try.isAgg3 rfl rfl)) rfl ?_
    refine SJ.q (YldS.yld (y_bin rfl rfl rfl)) rfl ?_
    refine SJ.q (YldS.yld (y_nil rfl)) rfl ?_
    refine SJ.q (YldS.yld (y_fldB (o := 0) fld157_1 rfl)) rfl ?_
    refine SJ.storeL (k := 0) (off := 1) (us := [.int .i64 (w64 (s1.at_ + 1))]) rfl rfl rfl rfl Try.sizeOf3 rfl rfl ?_
    refine SJ.nil ?_
    refine PJ.next ?_
    refine WJ.seq ?_
    refine WJ.reg ?_
    refine SJ.q (YldS.yld (y_move rfl)) rfl ?_
    refine SJ.q (YldS.yld (y_move rfl)) rfl ?_
    refine SJ.q (YldS.yld (y_nil rfl)) rfl ?_
    refine SJ.q (YldS.yld (y_fldB (o := 0) fld157_2 rfl)) rfl ?_
    refine SJ.q (YldS.yld (y_loadB (k := 0) (off := 2) (v := .int .u64 s1.seed) rfl Try.isAgg155 rfl rfl)) rfl ?_
    refine SJ.q (YldS.yld (y_bin rfl rfl rfl)) rfl ?_
    refine SJ.q (YldS.yld (y_move rfl)) rfl ?_
    refine SJ.q (YldS.yld (y_convI Try.runUnderlying3 Try.runUnderlying155 rfl)) rfl ?_
    refine SJ.q (YldS.yld (y_bin rfl rfl rfl)) rfl ?_
    refine SJ.q (YldS.yld (y_bin rfl rfl rfl)) rfl ?_
    refine SJ.q (YldS.yld (y_nil rfl)) rfl ?_
    refine SJ.q (YldS.yld (y_fldB (o := 0) fld157_2 rfl)) rfl ?_
    refine SJ.storeL (k := 0) (off := 2) (us := [.int .u64 (IntKind.u64.wrap ((IntKind.u64.wrap ((IntKind.u64.wrap (s1.seed * 6364136223846793005)) + (IntKind.u64.wrap b5))) + 1442695040888963407))]) rfl rfl rfl rfl Try.sizeOf155 rfl rfl ?_
    refine SJ.nil ?_
    refine PJ.next ?_
    refine WJ.seq ?_
    refine WJ.seq ?_
    refine WJ.quiet_draw follows (by kernel_rfl) ?_
    refine QJ.step (YldS.yld (y_move rfl)) rfl ?_
    refine QJ.step (YldS.yld (y_nil rfl)) rfl ?_
    refine QJ.step (YldS.yld (y_fldB (o := 0) fld157_1 rfl)) rfl ?_
    refine QJ.step (YldS.yld (y_loadB (k := 0) (off := 1) (v := .int .i64 (w64 (s1.at_ + 1))) rfl Try.isAgg3 rfl rfl)) rfl ?_
    refine QJ.step (YldS.yld (y_move rfl)) rfl ?_
    refine QJ.step (YldS.yld (y_nil rfl)) rfl ?_
    refine QJ.step (YldS.yld (y_fldB (o := 0) fld157_0 rfl)) rfl ?_
    refine QJ.step (YldS.yld (y_loadB (k := 0) (off := 0) (v := v3) rfl Try.isAgg22 rfl rfl)) rfl ?_
    refine QJ.step (YldS.yld (y_lenS Try.runUnderlying22 hr4 rfl)) rfl ?_
    refine QJ.step (YldS.yld (y_bin rfl rfl rfl)) rfl ?_
    refine QJ.done ?_
    refine PJ.next ?_
    refine WJ.cond (t := decide ((w64 (s1.at_ + 1)) ≤ (List.length s1.code : Int))) rfl (fun hb14 => ?_) (fun hb14 => ?_)
    · replace hm := ifT hm hb14
      refine WJ.seq ?_
      refine WJ.quiet ?_
      refine QJ.step (YldS.yld (y_move rfl)) rfl ?_
      refine QJ.step (YldS.yld (y_assign rfl)) rfl ?_
      refine QJ.done ?_
      refine PJ.next ?_
      refine WJ.ret ?_
      refine PJ.then_ret ?_
      obtain rfl := Option.some.inj hm
      refine PJ.sel (L' := [box g2 157 [v3, .int .i64 (w64 (s1.at_ + 1)), .int .u64 (IntKind.u64.wrap ((IntKind.u64.wrap ((IntKind.u64.wrap (s1.seed * 6364136223846793005)) + (IntKind.u64.wrap b5))) + 1442695040888963407))]]) [0] ⟨by decide, rfl⟩ ?_
      exact PJ.retn (vs := [.int .i64 b5]) Try.results153 ⟨rfl, trivial⟩ ⟨rfl, rfl⟩
    · replace hm := ifF hm hb14
      refine WJ.skip ?_
      refine PJ.next ?_
      refine WJ.seq ?_
      refine WJ.quiet ?_
      refine QJ.step (YldS.yld (y_move rfl)) rfl ?_
      refine QJ.step (YldS.yld (y_nil rfl)) rfl ?_
      refine QJ.step (YldS.yld (y_fldB (o := 0) fld157_2 rfl)) rfl ?_
      refine QJ.step (YldS.yld (y_loadB (k := 0) (off := 2) (v := .int .u64 (IntKind.u64.wrap ((IntKind.u64.wrap ((IntKind.u64.wrap (s1.seed * 6364136223846793005)) + (IntKind.u64.wrap b5))) + 1442695040888963407))) rfl Try.isAgg155 rfl rfl)) rfl ?_
      refine QJ.step (YldS.yld (y_shru rfl rfl rfl)) rfl ?_
      refine QJ.step (YldS.yld (y_andu rfl rfl rfl)) rfl ?_
      refine QJ.step (YldS.yld (y_convI Try.runUnderlying155 Try.runUnderlying2 rfl)) rfl ?_
      refine QJ.step (YldS.yld (y_assign rfl)) rfl ?_
      refine QJ.done ?_
      refine PJ.next ?_
      refine WJ.ret ?_
      obtain rfl := Option.some.inj hm
      refine PJ.sel (L' := [box g2 157 [v3, .int .i64 (w64 (s1.at_ + 1)), .int .u64 (IntKind.u64.wrap ((IntKind.u64.wrap ((IntKind.u64.wrap (s1.seed * 6364136223846793005)) + (IntKind.u64.wrap b5))) + 1442695040888963407))]]) [0] ⟨by decide, rfl⟩ ?_
      exact PJ.retn (vs := [.int .i64 (w64 (uand (ushr (IntKind.u64.wrap ((IntKind.u64.wrap ((IntKind.u64.wrap (s1.seed * 6364136223846793005)) + (IntKind.u64.wrap b5))) + 1442695040888963407)) 40) 255))]) Try.results153 ⟨rfl, trivial⟩ ⟨rfl, rfl⟩

set_option maxRecDepth 100000 in
set_option maxHeartbeats 1000000 in
theorem ok_s_l00Src_pick {s1 : L00Src} {n5 : Int} {g2 : Nat} {r : Int × L00Src} (hm : s_l00Src_pick s1 n5 = some r) (w : World) (S : Nat → Prop) (v3 : Value) (hr4 : RdS w (Cx.Fz ⟨w, S⟩) v3 fByte.rp s1.code) (hA : (box g2 157 [v3, .int .i64 s1.at_, .int .u64 s1.seed]).holds w S) :
    Calls Try.prog 104 #[pt g2 0, .int .i64 n5] w (RetG ⟨w, S⟩ fun u L => (u = .int .i64 r.1 ∧ L = [box g2 157 [v3, .int .i64 r.2.at_, .int .u64 r.2.seed]])) := by
  unfold s_l00Src_pick at hm
  refine Calls.enter1 hA [pt g2 0, .int .i64 n5] Try.func104 rfl Try.ntmps104 rfl ?_
  refine WJ.seq ?_
  refine WJ.quiet ?_
  refine QJ.step (YldS.yld (y_assign rfl)) rfl ?_
  refine QJ.done ?_
  refine PJ.next ?_
  refine WJ.seq ?_
  refine WJ.seq ?_
  refine WJ.quiet ?_
  refine QJ.step (YldS.yld (y_move rfl)) rfl ?_
  refine QJ.step (YldS.yld (y_bin rfl rfl rfl)) rfl ?_
  refine QJ.done ?_
  refine PJ.next ?_
  refine WJ.cond (t := decide (n5 ≤ 1)) rfl (fun hb6 => ?_) (fun hb6 => ?_)
  · replace hm := ifT hm hb6
    refine WJ.seq ?_
    refine WJ.quiet ?_
    refine QJ.step (YldS.yld (y_assign rfl)) rfl ?_
    refine QJ.done ?_
    refine PJ.next ?_
    refine WJ.ret ?_
    refine PJ.then_ret ?_
    obtain rfl := Option.some.inj hm
    refine PJ.sel (L' := [box g2 157 [v3, .int .i64 s1.at_, .int .u64 s1.seed]]) [0] ⟨by decide, rfl⟩ ?_
    exact PJ.retn (vs := [.int .i64 0]) Try.results104 ⟨rfl, trivial⟩ ⟨rfl, rfl⟩
  · replace hm := ifF hm hb6
    refine WJ.skip ?_
    refine PJ.next ?_
    refine WJ.seq ?_
    refine WJ.reg ?_
    refine SJ.q (YldS.yld (y_move rfl)) rfl ?_
    obtain ⟨r7, h8, hm⟩ := bindS hm
    refine SJ.call1 (k := 0) rfl Try.call153 rfl (fun w S hw hA hO => ok_s_l00Src_next h8 w S _ (hr4.st1 hw hO) hA) rfl ?_
    rintro _ _ ⟨rfl, rfl⟩
    refine SJ.q (YldS.yld (y_assign rfl)) rfl ?_
    refine SJ.nil ?_
    refine PJ.next ?_
    obtain ⟨kj12, hk13, hm⟩ := withK_open hm
    refine WJ.join (X := Int × Int × Int) (fun (x : Int × Int × Int) => kj12 x.1 x.2.1 x.2.2 = some r) (fun (x : Int × Int × Int) => [(1, .int .i64 n5), (5, .int .i64 x.2.2)]) (fun (x : Int × Int × Int) => [box g2 157 [v3, .int .i64 x.1, .int .u64 x.2.1]]) ?_ ?_
    · clear hk13
      refine WJ.seq ?_
      refine WJ.quiet ?_
      refine QJ.step (YldS.yld (y_move rfl)) rfl ?_
      refine QJ.step (YldS.yld (y_bin rfl rfl rfl)) rfl ?_
      refine QJ.done ?_
      refine PJ.next ?_
      refine WJ.cond (t := decide (n5 > 200)) rfl (fun hb14 => ?_) (fun hb14 => ?_)
      · replace hm := ifT hm hb14
        refine WJ.reg ?_
        refine SJ.q (YldS.yld (y_move rfl)) rfl ?_
        refine SJ.q (YldS.yld (y_bin rfl rfl rfl)) rfl ?_
        refine SJ.q (YldS.yld (y_move rfl)) rfl ?_
        obtain ⟨r15, h16, hm⟩ := bindS hm
        refine SJ.call1 (k := 0) rfl Try.call153 rfl (fun w S hw hA hO => ok_s_l00Src_next h16 w S _ (hr4.st1 hw hO) hA) rfl ?_
        rintro _ _ ⟨rfl, rfl⟩
        refine SJ.q (YldS.yld (y_bin rfl rfl rfl)) rfl ?_
        refine SJ.q (YldS.yld (y_assign rfl)) rfl ?_
        refine SJ.nil ?_
        exact PJ.joined (r15.2.at_, r15.2.seed, w64 ((w64 (r7.1 * 256)) + r15.1)) [0] hm ⟨rfl, rfl, trivial⟩ ⟨by decide, rfl⟩
      · replace hm := ifF hm hb14
        refine WJ.skip ?_
        exact PJ.joined (r7.2.at_, r7.2.seed, r7.1) [0] hm ⟨rfl, rfl, trivial⟩ ⟨by decide, rfl⟩
    · rintro ⟨x9, x10, x11⟩ hm
      subst hk13
      refine WJ.seq ?_
      refine WJ.quiet ?_
      refine QJ.step (YldS.yld (y_move rfl)) rfl ?_
      refine QJ.step (YldS.yld (y_move rfl)) rfl ?_
      obtain ⟨q17, h18, hm⟩ := bindS hm
      refine QJ.step (YldS.yld (y_rem' h18 rfl rfl)) rfl ?_
      refine QJ.step (YldS.yld (y_assign rfl)) rfl ?_
      refine QJ.done ?_
      refine PJ.next ?_
      refine WJ.ret ?_
      obtain rfl := Option.some.inj hm
      refine PJ.sel (L' := [box g2 157 [v3, .int .i64 x9, .int .u64 x10]]) [0] ⟨by decide, rfl⟩ ?_
      exact PJ.retn (vs := [.int .i64 q17]) Try.results104 ⟨rfl, trivial⟩ ⟨rfl, rfl⟩

set_option maxRecDepth 100000 in
set_option maxHeartbeats 1000000 in
theorem ok_s_l03Draw {s1 : L00Src} {g2 : Nat} {r : Basket × L00Src} (hm : s_l03Draw s1 = some r) (w : World) (S : Nat → Prop) (v3 : Value) (hr4 : RdS w (Cx.Fz ⟨w, S⟩) v3 fByte.rp s1.code) (hA : (box g2 157 [v3, .int .i64 s1.at_, .int .u64 s1.seed]).holds w S) :
    Calls Try.prog 103 #[pt g2 0] w (RetG ⟨w, S⟩ fun u L => (u = .agg (Basket.enc r.1).toArray ∧ L = [box g2 157 [v3, .int .i64 r.2.at_, .int .u64 r.2.seed]])) := by
  unfold s_l03Draw at hm
  refine Calls.enter1 hA [pt g2 0] Try.func103 rfl Try.ntmps103 rfl ?_
  refine WJ.seq ?_
  refine WJ.reg ?_
  refine SJ.alloc (cs := [.int .i64 0, .int .i64 0, .int .i64 0, .int .i64 0, .int .i64 0]) Try.zeroValue66 rfl rfl fun g5 => ?_
  refine SJ.nil ?_
  refine PJ.next ?_
  refine WJ.seq ?_
  refine WJ.reg ?_
  refine SJ.q (YldS.yld (y_move rfl)) rfl ?_
  obtain ⟨r6, h7, hm⟩ := bindS hm
  refine SJ.call1 (k := 1) rfl Try.call104 rfl (fun w S hw hA hO => ok_s_l00Src_pick h7 w S _ (hr4.st1 hw hO) hA) rfl ?_
  rintro _ _ ⟨rfl, rfl⟩
  refine SJ.q (YldS.yld (y_bin rfl rfl rfl)) rfl ?_
  refine SJ.q (YldS.yld (y_build (parts := [(0, .tmp 6)]) (places := [(0, 1), (1, 1), (2, 1), (3, 1), (4, 1)]) (r := [.int .i64 ((Basket.mk (w64 (2 + r6.1)) 0 0 0 0).bars), .int .i64 ((Basket.mk (w64 (2 + r6.1)) 0 0 0 0).rise), .int .i64 ((Basket.mk (w64 (2 + r6.1)) 0 0 0 0).fall), .int .i64 ((Basket.mk (w64 (2 + r6.1)) 0 0 0 0).clear), .int .i64 ((Basket.mk (w64 (2 + r6.1)) 0 0 0 0).near)]) pl66 Try.zeroValue66 rfl rfl rfl rfl)) rfl ?_
  refine SJ.alloc (cs := [.int .i64 0, .int .i64 0, .int .i64 0, .int .i64 0, .int .i64 0]) Try.zeroValue66 rfl rfl fun g8 => ?_
  refine SJ.storeL (k := 0) (off := 0) (us := [.int .i64 ((Basket.mk (w64 (2 + r6.1)) 0 0 0 0).bars), .int .i64 ((Basket.mk (w64 (2 + r6.1)) 0 0 0 0).rise), .int .i64 ((Basket.mk (w64 (2 + r6.1)) 0 0 0 0).fall), .int .i64 ((Basket.mk (w64 (2 + r6.1)) 0 0 0 0).clear), .int .i64 ((Basket.mk (w64 (2 + r6.1)) 0 0 0 0).near)]) rfl rfl rfl rfl Try.sizeOf66 rfl rfl ?_
  refine SJ.nil ?_
  refine PJ.next ?_
  refine WJ.seq ?_
  refine WJ.reg ?_
  refine SJ.q (YldS.yld (y_move rfl)) rfl ?_
  obtain ⟨r9, h10, hm⟩ := bindS hm
  refine SJ.call1 (k := 1) rfl Try.call104 rfl (fun w S hw hA hO => ok_s_l00Src_pick h10 w S _ (hr4.st1 hw hO) hA) rfl ?_
  rintro _ _ ⟨rfl, rfl⟩
  refine SJ.q (YldS.yld (y_bin rfl rfl rfl)) rfl ?_
  refine SJ.q (YldS.yld (y_fldB (o := 0) fld66_1 rfl)) rfl ?_
  refine SJ.storeL (k := 1) (off := 1) (us := [.int .i64 (w64 (1 + r9.1))]) rfl rfl rfl rfl Try.sizeOf2 rfl rfl ?_
  refine SJ.nil ?_
  refine PJ.next ?_
  refine WJ.seq ?_
  refine WJ.reg ?_
  refine SJ.q (YldS.yld (y_move rfl)) rfl ?_
  obtain ⟨r11, h12, hm⟩ := bindS hm
  refine SJ.call1 (k := 0) rfl Try.call104 rfl (fun w S hw hA hO => ok_s_l00Src_pick h12 w S _ (hr4.st1 hw hO) hA) rfl ?_
  rintro _ _ ⟨rfl, rfl⟩
  refine SJ.q (YldS.yld (y_bin rfl rfl rfl)) rfl ?_
  refine SJ.q (YldS.yld (y_fldB (o := 0) fld66_2 rfl)) rfl ?_
  refine SJ.storeL (k := 1) (off := 2) (us := [.int .i64 (w64 (1 + r11.1))]) rfl rfl rfl rfl Try.sizeOf2 rfl rfl ?_
  refine SJ.nil ?_
  refine PJ.next ?_
  refine WJ.seq ?_
  refine WJ.reg ?_
  refine SJ.q (YldS.yld (y_move rfl)) rfl ?_
  obtain ⟨r13, h14, hm⟩ := bindS hm
  refine SJ.call1 (k := 0) rfl Try.call104 rfl (fun w S hw hA hO => ok_s_l00Src_pick h14 w S _ (hr4.st1 hw hO) hA) rfl ?_
  rintro _ _ ⟨rfl, rfl⟩
  refine SJ.q (YldS.yld (y_bin rfl rfl rfl)) rfl ?_
  refine SJ.q (YldS.yld (y_fldB (o := 0) fld66_3 rfl)) rfl ?_
  refine SJ.storeL (k := 1) (off := 3) (us := [.int .i64 (w64 (1 + r13.1))]) rfl rfl rfl rfl Try.sizeOf2 rfl rfl ?_
  refine SJ.nil ?_
  refine PJ.next ?_
  refine WJ.seq ?_
  refine WJ.reg ?_
  refine SJ.q (YldS.yld (y_move rfl)) rfl ?_
  obtain ⟨r15, h16, hm⟩ := bindS hm
  refine SJ.call1 (k := 0) rfl Try.call104 rfl (fun w S hw hA hO => ok_s_l00Src_pick h16 w S _ (hr4.st1 hw hO) hA) rfl ?_
  rintro _ _ ⟨rfl, rfl⟩
  refine SJ.q (YldS.yld (y_fldB (o := 0) fld66_4 rfl)) rfl ?_
  refine SJ.storeL (k := 1) (off := 4) (us := [.int .i64 r15.1]) rfl rfl rfl rfl Try.sizeOf2 rfl rfl ?_
  refine SJ.nil ?_
  refine PJ.next ?_
  refine WJ.seq ?_
  refine WJ.reg ?_
  refine SJ.q (YldS.yld (y_loadBN (k := 1) (off := 0) (us := [.int .i64 ((Basket.mk (w64 (2 + r6.1)) 0 0 0 0).bars), .int .i64 (w64 (1 + r9.1)), .int .i64 (w64 (1 + r11.1)), .int .i64 (w64 (1 + r13.1)), .int .i64 r15.1]) rfl Try.isAgg66 Try.sizeOf66 rfl rfl)) rfl ?_
  refine SJ.storeL (k := 2) (off := 0) (us := [.int .i64 ((Basket.mk (w64 (2 + r6.1)) 0 0 0 0).bars), .int .i64 (w64 (1 + r9.1)), .int .i64 (w64 (1 + r11.1)), .int .i64 (w64 (1 + r13.1)), .int .i64 r15.1]) rfl rfl rfl rfl Try.sizeOf66 rfl rfl ?_
  refine SJ.nil ?_
  refine PJ.next ?_
  refine WJ.ret ?_
  obtain rfl := Option.some.inj hm
  exact PJ.retn_sel (vs := [.agg #[.int .i64 ((Basket.mk (w64 (2 + r6.1)) 0 0 0 0).bars), .int .i64 (w64 (1 + r9.1)), .int .i64 (w64 (1 + r11.1)), .int .i64 (w64 (1 + r13.1)), .int .i64 r15.1]]) Try.results103 ⟨⟨2, g5, 66, [.int .i64 ((Basket.mk (w64 (2 + r6.1)) 0 0 0 0).bars), .int .i64 (w64 (1 + r9.1)), .int .i64 (w64 (1 + r11.1)), .int .i64 (w64 (1 + r13.1)), .int .i64 r15.1], rfl, rfl, .inl ⟨Try.isAgg66, Try.sizeOf66, rfl⟩⟩, trivial⟩ [0] ⟨by decide, rfl⟩ ⟨rfl, rfl⟩

set_option maxRecDepth 100000 in
set_option maxHeartbeats 1000000 in
theorem ok_s_A2Basket {code1 : List UInt8} {r : Basket} (hm : s_A2Basket code1 = some r) (w : World) (v2 : Value) (hr3 : RdS w (cx w).Fz v2 fByte.rp code1) :
    Calls Try.prog 43 #[v2] w (Ret (cx w) (.agg (Basket.enc r).toArray)) := by
  unfold s_A2Basket at hm
  refine Calls.enter [v2] Try.func43 rfl Try.ntmps43 rfl ?_
  refine WJ.seq ?_
  refine WJ.reg ?_
  refine SJ.alloc (cs := [.int .i64 0, .int .i64 0, .int .i64 0, .int .i64 0, .int .i64 0]) Try.zeroValue66 rfl rfl fun g4 => ?_
  refine SJ.nil ?_
  refine PJ.next ?_
  refine WJ.seq ?_
  refine WJ.reg ?_
  refine SJ.q (YldS.yld (y_move rfl)) rfl ?_
  obtain ⟨r5, h6, hm⟩ := bindS hm
  refine SJ.call Try.call73 rfl (fun w hw => ok_s_l00From h6 w _ (hr3.st hw)) rfl ?_
  rintro _ _ ⟨g7, rfl, rfl⟩
  obtain ⟨r8, h9, hm⟩ := bindS hm
  refine SJ.call1 (k := 0) rfl Try.call103 rfl (fun w S hw hA hO => ok_s_l03Draw h9 w S _ (hr3.st1 hw hO) hA) rfl ?_
  rintro _ _ ⟨rfl, rfl⟩
  refine SJ.alloc (cs := [.int .i64 0, .int .i64 0, .int .i64 0, .int .i64 0, .int .i64 0]) Try.zeroValue66 rfl rfl fun g10 => ?_
  refine SJ.storeL (k := 0) (off := 0) (us := [.int .i64 r8.1.bars, .int .i64 r8.1.rise, .int .i64 r8.1.fall, .int .i64 r8.1.clear, .int .i64 r8.1.near]) rfl rfl rfl rfl Try.sizeOf66 rfl rfl ?_
  refine SJ.nil ?_
  refine PJ.next ?_
  refine WJ.seq ?_
  refine WJ.reg ?_
  refine SJ.q (YldS.yld (y_fldB (o := 0) fld66_0 rfl)) rfl ?_
  refine SJ.q (YldS.yld (y_loadB (k := 0) (off := 0) (v := .int .i64 r8.1.bars) rfl Try.isAgg2 rfl rfl)) rfl ?_
  refine SJ.q (YldS.yld (y_bin rfl rfl rfl)) rfl ?_
  refine SJ.q (YldS.yld (y_fldB (o := 0) fld66_0 rfl)) rfl ?_
  refine SJ.storeL (k := 0) (off := 0) (us := [.int .i64 (w64 (r8.1.bars + 5))]) rfl rfl rfl rfl Try.sizeOf2 rfl rfl ?_
  refine SJ.nil ?_
  refine PJ.next ?_
  refine WJ.seq ?_
  refine WJ.reg ?_
  refine SJ.q (YldS.yld (y_loadBN (k := 0) (off := 0) (us := [.int .i64 (w64 (r8.1.bars + 5)), .int .i64 r8.1.rise, .int .i64 r8.1.fall, .int .i64 r8.1.clear, .int .i64 r8.1.near]) rfl Try.isAgg66 Try.sizeOf66 rfl rfl)) rfl ?_
  refine SJ.storeL (k := 2) (off := 0) (us := [.int .i64 (w64 (r8.1.bars + 5)), .int .i64 r8.1.rise, .int .i64 r8.1.fall, .int .i64 r8.1.clear, .int .i64 r8.1.near]) rfl rfl rfl rfl Try.sizeOf66 rfl rfl ?_
  refine SJ.nil ?_
  refine PJ.next ?_
  refine WJ.ret ?_
  obtain rfl := Option.some.inj hm
  exact PJ.retn_sel (vs := [.agg #[.int .i64 (w64 (r8.1.bars + 5)), .int .i64 r8.1.rise, .int .i64 r8.1.fall, .int .i64 r8.1.clear, .int .i64 r8.1.near]]) Try.results43 ⟨⟨2, g4, 66, [.int .i64 (w64 (r8.1.bars + 5)), .int .i64 r8.1.rise, .int .i64 r8.1.fall, .int .i64 r8.1.clear, .int .i64 r8.1.near], rfl, rfl, .inl ⟨Try.isAgg66, Try.sizeOf66, rfl⟩⟩, trivial⟩ [] ⟨List.nodup_nil, rfl⟩ ⟨rfl, rfl⟩

set_option maxRecDepth 100000 in
set_option maxHeartbeats 1000000 in
theorem ok_s_l00Src_one {s1 : L00Src} {n5 : Int} {g2 : Nat} {r : Bool × L00Src} (hm : s_l00Src_one s1 n5 = some r) (w : World) (S : Nat → Prop) (v3 : Value) (hr4 : RdS w (Cx.Fz ⟨w, S⟩) v3 fByte.rp s1.code) (hA : (box g2 157 [v3, .int .i64 s1.at_, .int .u64 s1.seed]).holds w S) :
    Calls Try.prog 98 #[pt g2 0, .int .i64 n5] w (RetG ⟨w, S⟩ fun u L => (u = .bool r.1 ∧ L = [box g2 157 [v3, .int .i64 r.2.at_, .int .u64 r.2.seed]])) := by
  unfold s_l00Src_one at hm
  refine Calls.enter1 hA [pt g2 0, .int .i64 n5] Try.func98 rfl Try.ntmps98 rfl ?_
  refine WJ.seq ?_
  refine WJ.quiet ?_
  refine QJ.step (YldS.yld (y_assign rfl)) rfl ?_
  refine QJ.done ?_
  refine PJ.next ?_
  refine WJ.seq ?_
  refine WJ.reg ?_
  refine SJ.q (YldS.yld (y_move rfl)) rfl ?_
  refine SJ.q (YldS.yld (y_move rfl)) rfl ?_
  obtain ⟨r6, h7, hm⟩ := bindS hm
  refine SJ.call1 (k := 0) rfl Try.call104 rfl (fun w S hw hA hO => ok_s_l00Src_pick h7 w S _ (hr4.st1 hw hO) hA) rfl ?_
  rintro _ _ ⟨rfl, rfl⟩
  refine SJ.q (YldS.yld (y_bin rfl rfl rfl)) rfl ?_
  refine SJ.q (YldS.yld (y_assign rfl)) rfl ?_
  refine SJ.nil ?_
  refine PJ.next ?_
  refine WJ.ret ?_
  obtain rfl := Option.some.inj hm
  refine PJ.sel (L' := [box g2 157 [v3, .int .i64 r6.2.at_, .int .u64 r6.2.seed]]) [0] ⟨by decide, rfl⟩ ?_
  exact PJ.retn (vs := [.bool (r6.1 == 0)]) Try.results98 ⟨rfl, trivial⟩ ⟨rfl, rfl⟩

set_option maxRecDepth 100000 in
set_option maxHeartbeats 1000000 in
theorem ok_s_l05Draw {N : Nat} {s1 : L00Src} {n5 : Int} {g2 : Nat} {r : (List (List Int)) × L00Src} (hm : s_l05Draw N s1 n5 = some r) (w : World) (S : Nat → Prop) (v3 : Value) (hr4 : RdS w (Cx.Fz ⟨w, S⟩) v3 fByte.rp s1.code) (hA : (box g2 157 [v3, .int .i64 s1.at_, .int .u64 s1.seed]).holds w S) :
    Calls Try.prog 105 #[pt g2 0, .int .i64 n5] w (RetG ⟨w, S⟩ fun u L => ∃ (u1 : Value) (u2 : List (Raw 1)), (u = u1 ∧ L = [box g2 157 [v3, .int .i64 r.2.at_, .int .u64 r.2.seed], row u1 25 fRaw1 u2, inn (rSl fI64.rp) u2 r.1])) := by
  unfold s_l05Draw at hm
  refine Calls.enter1 hA [pt g2 0, .int .i64 n5] Try.func105 rfl Try.ntmps105 rfl ?_
  refine WJ.seq ?_
  refine WJ.quiet ?_
  refine QJ.step (YldS.yld (y_assign rfl)) rfl ?_
  refine QJ.done ?_
  refine PJ.next ?_
  refine WJ.seq ?_
  refine WJ.reg ?_
  refine SJ.buildSlice (R := fRaw1) (os := []) ([] : List (Raw 1)) Try.runUnderlying68 Try.sizeOf25 Try.zeroValue25 rfl rfl rfl rfl rfl rfl fun v6 => ?_
  refine SJ.inn_nil (q := 1) (rSl fI64.rp) ?_
  refine SJ.q (YldS.yld (y_assign rfl)) rfl ?_
  refine SJ.nil ?_
  refine PJ.next ?_
  obtain ⟨kj12, hk13, hm⟩ := withK_open hm
  refine WJ.join (X := (List (List Int)) × (List (Raw 1)) × Value × Int × Int) (fun (x : (List (List Int)) × (List (Raw 1)) × Value × Int × Int) => kj12 x.1 x.2.2.2.1 x.2.2.2.2 = some r) (fun (x : (List (List Int)) × (List (Raw 1)) × Value × Int × Int) => [(5, x.2.2.1)]) (fun (x : (List (List Int)) × (List (Raw 1)) × Value × Int × Int) => [inn (rSl fI64.rp) x.2.1 x.1, row x.2.2.1 25 fRaw1 x.2.1, box g2 157 [v3, .int .i64 x.2.2.2.1, .int .u64 x.2.2.2.2]]) ?_ ?_
  · clear hk13
    refine WJ.seq ?_
    refine WJ.quiet ?_
    refine QJ.step (YldS.yld (y_assign rfl)) rfl ?_
    refine QJ.done ?_
    refine PJ.next ?_
    refine WJ.block ?_
    refine WJ.sel (L' := (fun (x : (List (List Int)) × (List (Raw 1)) × Value × Int × Int × Int) => [inn (rSl fI64.rp) x.2.1 x.1, row x.2.2.1 25 fRaw1 x.2.1, box g2 157 [v3, .int .i64 x.2.2.2.1, .int .u64 x.2.2.2.2.1]]) (([] : List (List Int)), ([] : List (Raw 1)), v6, s1.at_, s1.seed, 0)) [0, 1, 2] ⟨by decide, rfl⟩ ?_
    refine WJ.sub (m' := (fun (x : (List (List Int)) × (List (Raw 1)) × Value × Int × Int × Int) => [(0, pt g2 0), (1, .int .i64 n5), (5, x.2.2.1), (6, .int .i64 x.2.2.2.2.2)]) (([] : List (List Int)), ([] : List (Raw 1)), v6, s1.at_, s1.seed, 0)) ⟨rfl, rfl, rfl, rfl, trivial⟩ ?_
    refine WJ.loop (X := (List (List Int)) × (List (Raw 1)) × Value × Int × Int × Int) (fun N (x : (List (List Int)) × (List (Raw 1)) × Value × Int × Int × Int) => s_l05Draw_l1 kj12 s1 n5 N x.1 x.2.2.2.1 x.2.2.2.2.1 x.2.2.2.2.2 = some r) (fun (x : (List (List Int)) × (List (Raw 1)) × Value × Int × Int × Int) => [(0, pt g2 0), (1, .int .i64 n5), (5, x.2.2.1), (6, .int .i64 x.2.2.2.2.2)]) (fun (x : (List (List Int)) × (List (Raw 1)) × Value × Int × Int × Int) => [inn (rSl fI64.rp) x.2.1 x.1, row x.2.2.1 25 fRaw1 x.2.1, box g2 157 [v3, .int .i64 x.2.2.2.1, .int .u64 x.2.2.2.2.1]]) ?_ N (([] : List (List Int)), ([] : List (Raw 1)), v6, s1.at_, s1.seed, 0) hm
    · rintro N ⟨l14, vs15, v16, x17, x18, i19⟩ hI
      have hm := hI; clear hI
      cases N with
      | zero => cases hm
      | succ N =>
      unfold s_l05Draw_l1 at hm
      refine WJ.seq ?_
      refine WJ.seq ?_
      refine WJ.quiet ?_
      refine QJ.step (YldS.yld (y_move rfl)) rfl ?_
      refine QJ.step (YldS.yld (y_move rfl)) rfl ?_
      refine QJ.step (YldS.yld (y_bin rfl rfl rfl)) rfl ?_
      refine QJ.done ?_
      refine PJ.next ?_
      refine WJ.cond (t := decide (i19 < n5)) rfl (fun hb20 => ?_) (fun hb20 => ?_)
      · replace hm := ifT hm hb20
        refine WJ.skip ?_
        refine PJ.next ?_
        obtain ⟨kj26, hk27, hm⟩ := withK_open hm
        refine WJ.join (X := (List (List Int)) × (List (Raw 1)) × Value × Int × Int) (fun (x : (List (List Int)) × (List (Raw 1)) × Value × Int × Int) => kj26 x.1 x.2.2.2.1 x.2.2.2.2 = some r) (fun (x : (List (List Int)) × (List (Raw 1)) × Value × Int × Int) => [(0, pt g2 0), (1, .int .i64 n5), (5, x.2.2.1), (6, .int .i64 i19)]) (fun (x : (List (List Int)) × (List (Raw 1)) × Value × Int × Int) => [inn (rSl fI64.rp) x.2.1 x.1, row x.2.2.1 25 fRaw1 x.2.1, box g2 157 [v3, .int .i64 x.2.2.2.1, .int .u64 x.2.2.2.2]]) ?_ ?_
        · clear hk27
          refine WJ.block ?_
          refine WJ.seq ?_
          refine WJ.reg ?_
          refine SJ.buildSlice (R := fI64) (os := []) [] Try.runUnderlying25 Try.sizeOf2 Try.zeroValue2 rfl rfl rfl rfl rfl rfl fun v28 => ?_
          refine SJ.q (YldS.yld (y_assign rfl)) rfl ?_
          refine SJ.nil ?_
          refine PJ.next ?_
          obtain ⟨kj33, hk34, hm⟩ := withK_open hm
          refine WJ.join (X := (List Int) × Value × Int × Int) (fun (x : (List Int) × Value × Int × Int) => kj33 x.1 x.2.2.1 x.2.2.2 = some r) (fun (x : (List Int) × Value × Int × Int) => [(0, pt g2 0), (1, .int .i64 n5), (5, v16), (6, .int .i64 i19), (7, x.2.1)]) (fun (x : (List Int) × Value × Int × Int) => [row x.2.1 2 fI64 x.1, inn (rSl fI64.rp) vs15 l14, row v16 25 fRaw1 vs15, box g2 157 [v3, .int .i64 x.2.2.1, .int .u64 x.2.2.2]]) ?_ ?_
          · clear hk34
            refine WJ.seq ?_
            refine WJ.quiet ?_
            refine QJ.step (YldS.yld (y_assign rfl)) rfl ?_
            refine QJ.done ?_
            refine PJ.next ?_
            refine WJ.block ?_
            refine WJ.sel (L' := (fun (x : (List Int) × Value × Int × Int × Int) => [row x.2.1 2 fI64 x.1, inn (rSl fI64.rp) vs15 l14, row v16 25 fRaw1 vs15, box g2 157 [v3, .int .i64 x.2.2.1, .int .u64 x.2.2.2.1]]) ([], v28, x17, x18, 0)) [0, 1, 2, 3] ⟨by decide, rfl⟩ ?_
            refine WJ.sub (m' := (fun (x : (List Int) × Value × Int × Int × Int) => [(0, pt g2 0), (1, .int .i64 n5), (5, v16), (6, .int .i64 i19), (7, x.2.1), (8, .int .i64 x.2.2.2.2)]) ([], v28, x17, x18, 0)) ⟨rfl, rfl, rfl, rfl, rfl, rfl, trivial⟩ ?_
            refine WJ.loop (X := (List Int) × Value × Int × Int × Int) (fun N (x : (List Int) × Value × Int × Int × Int) => s_l05Draw_l2 kj33 s1 n5 N x.1 x.2.2.1 x.2.2.2.1 x.2.2.2.2 = some r) (fun (x : (List Int) × Value × Int × Int × Int) => [(0, pt g2 0), (1, .int .i64 n5), (5, v16), (6, .int .i64 i19), (7, x.2.1), (8, .int .i64 x.2.2.2.2)]) (fun (x : (List Int) × Value × Int × Int × Int) => [row x.2.1 2 fI64 x.1, inn (rSl fI64.rp) vs15 l14, row v16 25 fRaw1 vs15, box g2 157 [v3, .int .i64 x.2.2.1, .int .u64 x.2.2.2.1]]) ?_ N ([], v28, x17, x18, 0) hm
            · rintro N ⟨l35, v36, x37, x38, k39⟩ hI
              have hm := hI; clear hI
              cases N with
              | zero => cases hm
              | succ N =>
              unfold s_l05Draw_l2 at hm
              refine WJ.seq ?_
              refine WJ.seq ?_
              refine WJ.quiet ?_
              refine QJ.step (YldS.yld (y_move rfl)) rfl ?_
              refine QJ.step (YldS.yld (y_move rfl)) rfl ?_
              refine QJ.step (YldS.yld (y_bin rfl rfl rfl)) rfl ?_
              refine QJ.done ?_
              refine PJ.next ?_
              refine WJ.cond (t := decide (k39 < n5)) rfl (fun hb40 => ?_) (fun hb40 => ?_)
              · replace hm := ifT hm hb40
                refine WJ.skip ?_
                refine PJ.next ?_
                obtain ⟨kj45, hk46, hm⟩ := withK_open hm
                refine WJ.join (X := Int × Int × (List Int) × Value) (fun (x : Int × Int × (List Int) × Value) => kj45 x.1 x.2.1 x.2.2.1 = some r) (fun (x : Int × Int × (List Int) × Value) => [(0, pt g2 0), (1, .int .i64 n5), (5, v16), (6, .int .i64 i19), (7, x.2.2.2), (8, .int .i64 k39)]) (fun (x : Int × Int × (List Int) × Value) => [box g2 157 [v3, .int .i64 x.1, .int .u64 x.2.1], row x.2.2.2 2 fI64 x.2.2.1, inn (rSl fI64.rp) vs15 l14, row v16 25 fRaw1 vs15]) ?_ ?_
                · clear hk46
                  refine WJ.block ?_
                  refine WJ.seq ?_
                  refine WJ.reg ?_
                  refine SJ.q (YldS.yld (y_move rfl)) rfl ?_
                  obtain ⟨r47, h48, hm⟩ := bindS hm
                  refine SJ.call1 (k := 3) rfl Try.call98 rfl (fun w S hw hA hO => ok_s_l00Src_one h48 w S _ (hr4.st1 hw hO) hA) rfl ?_
                  rintro _ _ ⟨rfl, rfl⟩
                  refine SJ.nil ?_
                  refine PJ.next ?_
                  refine WJ.cond (t := r47.1) rfl (fun hb49 => ?_) (fun hb49 => ?_)
                  · replace hm := ifT hm hb49
                    refine WJ.reg ?_
                    refine SJ.q (YldS.yld (y_move rfl)) rfl ?_
                    refine SJ.buildSlice (R := fI64) (os := [.const (.int .i64 0)]) [0] Try.runUnderlying25 Try.sizeOf2 Try.zeroValue2 rfl rfl rfl rfl rfl rfl fun v50 => ?_
                    obtain ⟨l51, h52, hm⟩ := bindS hm
                    refine SJ.append (k := 2) (R := fI64) h52 rfl Try.underlying25 el2 rfl rfl rfl (fun w hw => (hw.row_rd (k := 0) rfl)) rfl fun v53 => ?_
                    refine SJ.q (YldS.yld (y_assign rfl)) rfl ?_
                    refine SJ.nil ?_
                    refine PJ.block_normal ?_
                    exact PJ.joined (r47.2.at_, r47.2.seed, l51, v53) [1, 2, 3, 4] hm ⟨rfl, rfl, rfl, rfl, rfl, rfl, trivial⟩ ⟨by decide, rfl⟩
                  · replace hm := ifF hm hb49
                    refine WJ.reg ?_
                    refine SJ.q (YldS.yld (y_move rfl)) rfl ?_
                    refine SJ.q (YldS.yld (y_move rfl)) rfl ?_
                    obtain ⟨r54, h55, hm⟩ := bindS hm
                    refine SJ.call1 (k := 0) rfl Try.call104 rfl (fun w S hw hA hO => ok_s_l00Src_pick h55 w S _ (hr4.st1 hw hO) hA) rfl ?_
                    rintro _ _ ⟨rfl, rfl⟩
                    refine SJ.buildSlice (R := fI64) (os := [.tmp 28]) [r54.1] Try.runUnderlying25 Try.sizeOf2 Try.zeroValue2 rfl rfl rfl rfl rfl rfl fun v56 => ?_
                    obtain ⟨l57, h58, hm⟩ := bindS hm
                    refine SJ.append (k := 2) (R := fI64) h58 rfl Try.underlying25 el2 rfl rfl rfl (fun w hw => (hw.row_rd (k := 0) rfl)) rfl fun v59 => ?_
                    refine SJ.q (YldS.yld (y_assign rfl)) rfl ?_
                    refine SJ.nil ?_
                    refine PJ.block_normal ?_
                    exact PJ.joined (r54.2.at_, r54.2.seed, l57, v59) [1, 2, 3, 4] hm ⟨rfl, rfl, rfl, rfl, rfl, rfl, trivial⟩ ⟨by decide, rfl⟩
                · rintro ⟨x41, x42, l43, v44⟩ hm
                  subst hk46
                  refine WJ.quiet ?_
                  refine QJ.step (YldS.yld (y_move rfl)) rfl ?_
                  refine QJ.step (YldS.yld (y_bin rfl rfl rfl)) rfl ?_
                  refine QJ.step (YldS.yld (y_assign rfl)) rfl ?_
                  refine QJ.done ?_
                  exact PJ.round (l43, v44, x41, x42, w64 (k39 + 1)) [1, 2, 3, 0] hm ⟨rfl, rfl, rfl, rfl, rfl, rfl, trivial⟩ ⟨by decide, rfl⟩
              · replace hm := ifF hm hb40
                refine WJ.exit ?_
                refine PJ.then_exit (PJ.then_exit (PJ.block_exit ?_))
                exact PJ.joined (l35, v36, x37, x38) [0, 1, 2, 3] hm ⟨rfl, rfl, rfl, rfl, rfl, trivial⟩ ⟨by decide, rfl⟩
          · rintro ⟨l29, v30, x31, x32⟩ hm
            subst hk34
            refine WJ.reg ?_
            refine SJ.q (YldS.yld (y_move rfl)) rfl ?_
            refine SJ.q (YldS.yld (y_move rfl)) rfl ?_
            refine SJ.rowCells (k := 0) rfl fun hc60 => ?_
            refine SJ.buildSlice (R := fRaw1) (os := [.tmp 32]) ([mkRaw1 v30 hc60.2] : List (Raw 1)) Try.runUnderlying68 Try.sizeOf25 Try.zeroValue25 rfl rfl rfl (by simp only [List.map_cons, List.map_nil, hc60.1]; rfl) rfl rfl fun v61 => ?_
            refine SJ.inn_nil (q := 1) (rSl fI64.rp) ?_
            refine SJ.sel (L' := [row v30 2 fI64 l29, inn (rSl fI64.rp) [] ([] : List (List Int)), row v61 25 fRaw1 ([mkRaw1 v30 hc60.2] : List (Raw 1)), inn (rSl fI64.rp) vs15 l14, row v16 25 fRaw1 vs15, box g2 157 [v3, .int .i64 x31, .int .u64 x32]]) [2, 0, 1, 3, 4, 5] ⟨by decide, rfl⟩ ?_
            refine SJ.star ?_
            refine SJ.conv0 (fun w S h => inn_push hc60.2 h) ?_
            refine SJ.conv0 (B := inn (rSl fI64.rp) ([mkRaw1 v30 hc60.2] : List (Raw 1)) ([l29] : List (List Int))) (fun w S h => h) ?_
            refine SJ.inn_len 2 rfl fun hl62 => ?_
            refine SJ.inn_len 0 rfl fun hl63 => ?_
            obtain ⟨l64, h65, hm⟩ := bindS hm
            refine SJ.append (k := 3) (R := fRaw1) (app_raw h65 hl62 hl63) rfl Try.underlying68 el25 rfl rfl rfl (fun w hw => (hw.row_rd (k := 1) rfl)) rfl fun v66 => ?_
            refine SJ.sel (L' := [inn (rSl fI64.rp) vs15 l14, inn (rSl fI64.rp) ([mkRaw1 v30 hc60.2] : List (Raw 1)) ([l29] : List (List Int)), row v61 25 fRaw1 ([mkRaw1 v30 hc60.2] : List (Raw 1)), row v66 25 fRaw1 (vs15 ++ ([mkRaw1 v30 hc60.2] : List (Raw 1))), box g2 157 [v3, .int .i64 x31, .int .u64 x32]]) [2, 0, 1, 3, 4] ⟨by decide, rfl⟩ ?_
            refine SJ.star ?_
            refine SJ.conv0 (fun w S h => inn_app h65 h) ?_
            refine SJ.q (YldS.yld (y_assign rfl)) rfl ?_
            refine SJ.nil ?_
            refine PJ.block_normal ?_
            exact PJ.joined (l64, (vs15 ++ ([mkRaw1 v30 hc60.2] : List (Raw 1))), v66, x31, x32) [0, 2, 3] hm ⟨rfl, rfl, rfl, rfl, trivial⟩ ⟨by decide, rfl⟩
        · rintro ⟨l21, vs22, v23, x24, x25⟩ hm
          subst hk27
          refine WJ.quiet ?_
          refine QJ.step (YldS.yld (y_move rfl)) rfl ?_
          refine QJ.step (YldS.yld (y_bin rfl rfl rfl)) rfl ?_
          refine QJ.step (YldS.yld (y_assign rfl)) rfl ?_
          refine QJ.done ?_
          exact PJ.round (l21, vs22, v23, x24, x25, w64 (i19 + 1)) [0, 1, 2] hm ⟨rfl, rfl, rfl, rfl, trivial⟩ ⟨by decide, rfl⟩
      · replace hm := ifF hm hb20
        refine WJ.exit ?_
        refine PJ.then_exit (PJ.then_exit (PJ.block_exit ?_))
        exact PJ.joined (l14, vs15, v16, x17, x18) [0, 1, 2] hm ⟨rfl, trivial⟩ ⟨by decide, rfl⟩
  · rintro ⟨l7, vs8, v9, x10, x11⟩ hm
    subst hk13
    refine WJ.seq ?_
    refine WJ.quiet ?_
    refine QJ.step (YldS.yld (y_move rfl)) rfl ?_
    refine QJ.step (YldS.yld (y_assign rfl)) rfl ?_
    refine QJ.done ?_
    refine PJ.next ?_
    refine WJ.ret ?_
    obtain rfl := Option.some.inj hm
    refine PJ.sel (L' := [box g2 157 [v3, .int .i64 x10, .int .u64 x11], row v9 25 fRaw1 vs8, inn (rSl fI64.rp) vs8 l7]) [2, 1, 0] ⟨by decide, rfl⟩ ?_
    exact PJ.retn (vs := [v9]) Try.results105 ⟨rfl, trivial⟩ ⟨_, _, rfl, rfl⟩

set_option maxRecDepth 100000 in
set_option maxHeartbeats 1000000 in
theorem ok_s_A2Pairs {N : Nat} {code1 : List UInt8} {r : (List (List Int))} (hm : s_A2Pairs N code1 = some r) (w : World) (v2 : Value) (hr3 : RdS w (cx w).Fz v2 fByte.rp code1) :
    Calls Try.prog 44 #[v2] w (RetG (cx w) fun u L => ∃ (u1 : Value) (u2 : List (Raw 1)), (u = u1 ∧ L = [row u1 25 fRaw1 u2, inn (rSl fI64.rp) u2 r])) := by
  unfold s_A2Pairs at hm
  refine Calls.enter [v2] Try.func44 rfl Try.ntmps44 rfl ?_
  refine WJ.seq ?_
  refine WJ.quiet ?_
  refine QJ.step (YldS.yld (y_assign rfl)) rfl ?_
  refine QJ.done ?_
  refine PJ.next ?_
  refine WJ.seq ?_
  refine WJ.reg ?_
  refine SJ.q (YldS.yld (y_move rfl)) rfl ?_
  obtain ⟨r4, h5, hm⟩ := bindS hm
  refine SJ.call Try.call73 rfl (fun w hw => ok_s_l00From h5 w _ (hr3.st hw)) rfl ?_
  rintro _ _ ⟨g6, rfl, rfl⟩
  refine SJ.q (YldS.yld (y_assign rfl)) rfl ?_
  refine SJ.nil ?_
  refine PJ.next ?_
  refine WJ.seq ?_
  refine WJ.reg ?_
  refine SJ.q (YldS.yld (y_move rfl)) rfl ?_
  obtain ⟨r7, h8, hm⟩ := bindS hm
  refine SJ.call1 (k := 0) rfl Try.call104 rfl (fun w S hw hA hO => ok_s_l00Src_pick h8 w S _ (hr3.st1 hw hO) hA) rfl ?_
  rintro _ _ ⟨rfl, rfl⟩
  refine SJ.q (YldS.yld (y_bin rfl rfl rfl)) rfl ?_
  refine SJ.q (YldS.yld (y_assign rfl)) rfl ?_
  refine SJ.nil ?_
  refine PJ.next ?_
  refine WJ.seq ?_
  refine WJ.reg ?_
  refine SJ.q (YldS.yld (y_move rfl)) rfl ?_
  refine SJ.q (YldS.yld (y_move rfl)) rfl ?_
  obtain ⟨r9, h10, hm⟩ := bindS hm
  refine SJ.call1 (k := 0) rfl Try.call105 rfl (fun w S hw hA hO => ok_s_l05Draw h10 w S _ (hr3.st1 hw hO) hA) rfl ?_
  rintro v11 _ ⟨_, vs12, rfl, rfl⟩
  refine SJ.q (YldS.yld (y_assign rfl)) rfl ?_
  refine SJ.nil ?_
  refine PJ.next ?_
  refine WJ.ret ?_
  obtain rfl := Option.some.inj hm
  refine PJ.sel (L' := [row v11 25 fRaw1 vs12, inn (rSl fI64.rp) vs12 r9.1]) [1, 2] ⟨by decide, rfl⟩ ?_
  exact PJ.retn (vs := [v11]) Try.results44 ⟨rfl, trivial⟩ ⟨_, _, rfl, rfl⟩

set_option maxRecDepth 100000 in
set_option maxHeartbeats 1000000 in
theorem ok_i_between {n1 : Int} {low2 : Int} {high3 : Int} {r : Bool} (hm : i_between n1 low2 high3 = some r) (w : World)  :
    Calls Try.prog 118 #[.int .i64 n1, .int .i64 low2, .int .i64 high3] w (Ret (cx w) (.bool r)) := by
  unfold i_between at hm
  refine Calls.enter [.int .i64 n1, .int .i64 low2, .int .i64 high3] Try.func118 rfl Try.ntmps118 rfl ?_
  refine WJ.seq ?_
  refine WJ.quiet ?_
  refine QJ.step (YldS.yld (y_assign rfl)) rfl ?_
  refine QJ.done ?_
  refine PJ.next ?_
  refine WJ.seq ?_
  refine WJ.quiet ?_
  refine QJ.step (YldS.yld (y_move rfl)) rfl ?_
  refine QJ.step (YldS.yld (y_move rfl)) rfl ?_
  refine QJ.step (YldS.yld (y_bin rfl rfl rfl)) rfl ?_
  refine QJ.step (YldS.yld (y_move rfl)) rfl ?_
  obtain ⟨t4, h5, hm⟩ := bindS hm
  refine QJ.cut 4 [(14, .bool t4)] ?_ ?_
  · rcases Bool.eq_false_or_eq_true (decide (n1 ≥ low2)) with hb6 | hb6
    · replace h5 := andT h5 hb6
      refine QJ.on rfl rfl (cB hb6) (YldS.yld (y_move rfl)) rfl ?_
      refine QJ.on rfl rfl (cB hb6) (YldS.yld (y_move rfl)) rfl ?_
      refine QJ.on rfl rfl (cB hb6) (YldS.yld (y_bin rfl rfl rfl)) rfl ?_
      refine QJ.step (YldS.yld (y_pick_t (cB hb6) rfl)) rfl ?_
      obtain rfl := Option.some.inj h5
      exact QJ.cut_end ⟨rfl, trivial⟩
    · obtain rfl := andF h5 hb6
      refine QJ.off rfl rfl (cB hb6) rfl rfl ?_
      refine QJ.off rfl rfl (cB hb6) rfl rfl ?_
      refine QJ.off rfl rfl (cB hb6) rfl rfl ?_
      refine QJ.step (YldS.yld (y_pick_f (cB hb6) rfl)) rfl ?_
      exact QJ.cut_end ⟨rfl, trivial⟩
  refine QJ.step (YldS.yld (y_assign rfl)) rfl ?_
  refine QJ.done ?_
  refine PJ.next ?_
  refine WJ.ret ?_
  obtain rfl := Option.some.inj hm
  refine PJ.sel (L' := []) [] ⟨List.nodup_nil, rfl⟩ ?_
  exact PJ.retn (vs := [.bool t4]) Try.results118 ⟨rfl, trivial⟩ ⟨rfl, rfl⟩

set_option maxRecDepth 100000 in
set_option maxHeartbeats 1000000 in
theorem ok_i_ValidBasket {b1 : Basket} {r : Bool} (hm : i_ValidBasket b1 = some r) (w : World)  :
    Calls Try.prog 106 #[.agg (Basket.enc b1).toArray] w (Ret (cx w) (.bool r)) := by
  unfold i_ValidBasket at hm
  refine Calls.enter [.agg (Basket.enc b1).toArray] Try.func106 rfl Try.ntmps106 rfl ?_
  refine WJ.seq ?_
  refine WJ.reg ?_
  refine SJ.box (cs := [.int .i64 b1.bars, .int .i64 b1.rise, .int .i64 b1.fall, .int .i64 b1.clear, .int .i64 b1.near]) rfl rfl rfl fun g2 => ?_
  refine SJ.q (YldS.yld (y_assign rfl)) rfl ?_
  refine SJ.nil ?_
  refine PJ.next ?_
  refine WJ.seq ?_
  refine WJ.quiet ?_
  refine QJ.step (YldS.yld (y_fldB (o := 0) fld66_0 rfl)) rfl ?_
  refine QJ.step (YldS.yld (y_loadB (k := 0) (off := 0) (v := .int .i64 b1.bars) rfl Try.isAgg2 rfl rfl)) rfl ?_
  obtain ⟨r3, h4, hm⟩ := bindS hm
  refine QJ.step (y_call Try.call118 rfl (RetG.quiet fun w hw => ok_i_between h4 w )) rfl ?_
  refine QJ.step (YldS.yld (y_move rfl)) rfl ?_
  obtain ⟨t5, h6, hm⟩ := bindS hm
  refine QJ.cut 4 [(1, pt g2 0), (10, .bool t5)] ?_ ?_
  · rcases Bool.eq_false_or_eq_true r3 with hb7 | hb7
    · replace h6 := andT h6 hb7
      refine QJ.on rfl rfl (cB hb7) (YldS.yld (y_fldB (o := 0) fld66_1 rfl)) rfl ?_
      refine QJ.on rfl rfl (cB hb7) (YldS.yld (y_loadB (k := 0) (off := 1) (v := .int .i64 b1.rise) rfl Try.isAgg2 rfl rfl)) rfl ?_
      obtain ⟨r8, h9, h6⟩ := bindS h6
      refine QJ.on rfl rfl (cB hb7) (y_call Try.call118 rfl (RetG.quiet fun w hw => ok_i_between h9 w )) rfl ?_
      refine QJ.step (YldS.yld (y_pick_t (cB hb7) rfl)) rfl ?_
      obtain rfl := Option.some.inj h6
      exact QJ.cut_end ⟨rfl, rfl, trivial⟩
    · obtain rfl := andF h6 hb7
      refine QJ.off rfl rfl (cB hb7) rfl rfl ?_
      refine QJ.off rfl rfl (cB hb7) rfl rfl ?_
      refine QJ.off rfl rfl (cB hb7) rfl rfl ?_
      refine QJ.step (YldS.yld (y_pick_f (cB hb7) rfl)) rfl ?_
      exact QJ.cut_end ⟨rfl, rfl, trivial⟩
  refine QJ.step (YldS.yld (y_move rfl)) rfl ?_
  obtain ⟨t10, h11, hm⟩ := bindS hm
  refine QJ.cut 4 [(1, pt g2 0), (15, .bool t10)] ?_ ?_
  · rcases Bool.eq_false_or_eq_true t5 with hb12 | hb12
    · replace h11 := andT h11 hb12
      refine QJ.on rfl rfl (cB hb12) (YldS.yld (y_fldB (o := 0) fld66_2 rfl)) rfl ?_
      refine QJ.on rfl rfl (cB hb12) (YldS.yld (y_loadB (k := 0) (off := 2) (v := .int .i64 b1.fall) rfl Try.isAgg2 rfl rfl)) rfl ?_
      obtain ⟨r13, h14, h11⟩ := bindS h11
      refine QJ.on rfl rfl (cB hb12) (y_call Try.call118 rfl (RetG.quiet fun w hw => ok_i_between h14 w )) rfl ?_
      refine QJ.step (YldS.yld (y_pick_t (cB hb12) rfl)) rfl ?_
      obtain rfl := Option.some.inj h11
      exact QJ.cut_end ⟨rfl, rfl, trivial⟩
    · obtain rfl := andF h11 hb12
      refine QJ.off rfl rfl (cB hb12) rfl rfl ?_
      refine QJ.off rfl rfl (cB hb12) rfl rfl ?_
      refine QJ.off rfl rfl (cB hb12) rfl rfl ?_
      refine QJ.step (YldS.yld (y_pick_f (cB hb12) rfl)) rfl ?_
      exact QJ.cut_end ⟨rfl, rfl, trivial⟩
  refine QJ.step (YldS.yld (y_move rfl)) rfl ?_
  obtain ⟨t15, h16, hm⟩ := bindS hm
  refine QJ.cut 4 [(1, pt g2 0), (20, .bool t15)] ?_ ?_
  · rcases Bool.eq_false_or_eq_true t10 with hb17 | hb17
    · replace h16 := andT h16 hb17
      refine QJ.on rfl rfl (cB hb17) (YldS.yld (y_fldB (o := 0) fld66_3 rfl)) rfl ?_
      refine QJ.on rfl rfl (cB hb17) (YldS.yld (y_loadB (k := 0) (off := 3) (v := .int .i64 b1.clear) rfl Try.isAgg2 rfl rfl)) rfl ?_
      obtain ⟨r18, h19, h16⟩ := bindS h16
      refine QJ.on rfl rfl (cB hb17) (y_call Try.call118 rfl (RetG.quiet fun w hw => ok_i_between h19 w )) rfl ?_
      refine QJ.step (YldS.yld (y_pick_t (cB hb17) rfl)) rfl ?_
      obtain rfl := Option.some.inj h16
      exact QJ.cut_end ⟨rfl, rfl, trivial⟩
    · obtain rfl := andF h16 hb17
      refine QJ.off rfl rfl (cB hb17) rfl rfl ?_
      refine QJ.off rfl rfl (cB hb17) rfl rfl ?_
      refine QJ.off rfl rfl (cB hb17) rfl rfl ?_
      refine QJ.step (YldS.yld (y_pick_f (cB hb17) rfl)) rfl ?_
      exact QJ.cut_end ⟨rfl, rfl, trivial⟩
  refine QJ.step (YldS.yld (y_move rfl)) rfl ?_
  obtain ⟨t20, h21, hm⟩ := bindS hm
  refine QJ.cut 4 [(25, .bool t20)] ?_ ?_
  · rcases Bool.eq_false_or_eq_true t15 with hb22 | hb22
    · replace h21 := andT h21 hb22
      refine QJ.on rfl rfl (cB hb22) (YldS.yld (y_fldB (o := 0) fld66_4 rfl)) rfl ?_
      refine QJ.on rfl rfl (cB hb22) (YldS.yld (y_loadB (k := 0) (off := 4) (v := .int .i64 b1.near) rfl Try.isAgg2 rfl rfl)) rfl ?_
      obtain ⟨r23, h24, h21⟩ := bindS h21
      refine QJ.on rfl rfl (cB hb22) (y_call Try.call118 rfl (RetG.quiet fun w hw => ok_i_between h24 w )) rfl ?_
      refine QJ.step (YldS.yld (y_pick_t (cB hb22) rfl)) rfl ?_
      obtain rfl := Option.some.inj h21
      exact QJ.cut_end ⟨rfl, trivial⟩
    · obtain rfl := andF h21 hb22
      refine QJ.off rfl rfl (cB hb22) rfl rfl ?_
      refine QJ.off rfl rfl (cB hb22) rfl rfl ?_
      refine QJ.off rfl rfl (cB hb22) rfl rfl ?_
      refine QJ.step (YldS.yld (y_pick_f (cB hb22) rfl)) rfl ?_
      exact QJ.cut_end ⟨rfl, trivial⟩
  refine QJ.step (YldS.yld (y_assign rfl)) rfl ?_
  refine QJ.done ?_
  refine PJ.next ?_
  refine WJ.ret ?_
  obtain rfl := Option.some.inj hm
  refine PJ.sel (L' := []) [] ⟨List.nodup_nil, rfl⟩ ?_
  exact PJ.retn (vs := [.bool t20]) Try.results106 ⟨rfl, trivial⟩ ⟨rfl, rfl⟩

set_option maxRecDepth 100000 in
set_option maxHeartbeats 1000000 in
theorem ok_i_ValidPairs {N : Nat} {pairs1 : List (List Int)} {r : Bool} (hm : i_ValidPairs N pairs1 = some r) (w : World) (v2 : Value) (hr3 : RdS w (cx w).Fz v2 (rSl fI64.rp) pairs1) :
    Calls Try.prog 107 #[v2] w (Ret (cx w) (.bool r)) := by
  unfold i_ValidPairs at hm
  refine Calls.enter [v2] Try.func107 rfl Try.ntmps107 rfl ?_
  refine WJ.seq ?_
  refine WJ.quiet ?_
  refine QJ.step (YldS.yld (y_assign rfl)) rfl ?_
  refine QJ.done ?_
  refine PJ.next ?_
  refine WJ.seq ?_
  refine WJ.seq ?_
  refine WJ.quiet ?_
  refine QJ.step (YldS.yld (y_move rfl)) rfl ?_
  refine QJ.step (YldS.yld (y_lenS Try.runUnderlying68 hr3 rfl)) rfl ?_
  obtain ⟨r4, h5, hm⟩ := bindS hm
  refine QJ.step (y_call Try.call118 rfl (RetG.quiet fun w hw => ok_i_between h5 w )) rfl ?_
  refine QJ.step (YldS.yld (y_not rfl)) rfl ?_
  refine QJ.done ?_
  refine PJ.next ?_
  refine WJ.cond (t := !r4) rfl (fun hb6 => ?_) (fun hb6 => ?_)
  · replace hm := ifT hm hb6
    refine WJ.seq ?_
    refine WJ.quiet ?_
    refine QJ.step (YldS.yld (y_assign rfl)) rfl ?_
    refine QJ.done ?_
    refine PJ.next ?_
    refine WJ.ret ?_
    refine PJ.then_ret ?_
    obtain rfl := Option.some.inj hm
    refine PJ.sel (L' := []) [] ⟨List.nodup_nil, rfl⟩ ?_
    exact PJ.retn (vs := [.bool false]) Try.results107 ⟨rfl, trivial⟩ ⟨rfl, rfl⟩
  · replace hm := ifF hm hb6
    refine WJ.skip ?_
    refine PJ.next ?_
    obtain ⟨kj7, hk8, hm⟩ := withK_open hm
    refine WJ.join (X := Unit) (fun (_ : Unit) => kj7  = some r) (fun (_ : Unit) => []) (fun (_ : Unit) => []) ?_ ?_
    · clear hk8
      refine WJ.seq ?_
      refine WJ.quiet ?_
      refine QJ.step (YldS.yld (y_move rfl)) rfl ?_
      refine QJ.step (YldS.yld (y_lenS Try.runUnderlying68 hr3 rfl)) rfl ?_
      refine QJ.step (YldS.yld (y_move rfl)) rfl ?_
      refine QJ.done ?_
      refine PJ.next ?_
      refine WJ.block ?_
      refine WJ.sel (L' := (fun (x : Int) => []) 0) [] ⟨List.nodup_nil, rfl⟩ ?_
      refine WJ.sub (m' := (fun (x : Int) => [(0, v2), (11, v2), (12, .int .i64 (List.length pairs1 : Int)), (13, .int .i64 x)]) 0) ⟨rfl, rfl, rfl, rfl, trivial⟩ ?_
      refine WJ.loop (X := Int) (fun N (x : Int) => i_ValidPairs_l1 kj7 pairs1 N x = some r) (fun (x : Int) => [(0, v2), (11, v2), (12, .int .i64 (List.length pairs1 : Int)), (13, .int .i64 x)]) (fun (x : Int) => []) ?_ N 0 hm
      · rintro N x9 hI
        have hm := hI; clear hI
        cases N with
        | zero => cases hm
        | succ N =>
        unfold i_ValidPairs_l1 at hm
        refine WJ.seq ?_
        refine WJ.quiet ?_
        refine QJ.step (YldS.yld (y_bin rfl rfl rfl)) rfl ?_
        refine QJ.done ?_
        refine PJ.next ?_
        refine WJ.seq ?_
        refine WJ.cond (t := decide (x9 < (List.length pairs1 : Int))) rfl (fun hb10 => ?_) (fun hb10 => ?_)
        · replace hm := ifT hm hb10
          refine WJ.skip ?_
          refine PJ.next ?_
          obtain ⟨kj11, hk12, hm⟩ := withK_open hm
          refine WJ.join (X := Unit) (fun (_ : Unit) => kj11  = some r) (fun (_ : Unit) => [(0, v2), (11, v2), (12, .int .i64 (List.length pairs1 : Int)), (13, .int .i64 x9)]) (fun (_ : Unit) => []) ?_ ?_
          · clear hk12
            refine WJ.block ?_
            refine WJ.seq ?_
            refine WJ.quiet ?_
            obtain ⟨e13, h14, hm⟩ := bindS hm
            obtain ⟨ad15, _, ⟨v18, rfl, hr19⟩, ha16, hy17⟩ := hr3.elem h14
            refine QJ.step (YldS.yld (hy17 Try.runUnderlying68 Try.sizeOf25 rfl rfl)) rfl ?_
            refine QJ.step (YldS.yld (y_load1 (v := v18) Try.isAgg25 ha16 St.frozenC rfl)) rfl ?_
            refine QJ.step (YldS.yld (y_assign rfl)) rfl ?_
            refine QJ.done ?_
            refine PJ.next ?_
            refine WJ.seq ?_
            refine WJ.seq ?_
            refine WJ.quiet ?_
            refine QJ.step (YldS.yld (y_move rfl)) rfl ?_
            refine QJ.step (YldS.yld (y_lenS Try.runUnderlying25 hr19 rfl)) rfl ?_
            refine QJ.step (YldS.yld (y_move rfl)) rfl ?_
            refine QJ.step (YldS.yld (y_lenS Try.runUnderlying68 hr3 rfl)) rfl ?_
            refine QJ.step (YldS.yld (y_bin rfl rfl rfl)) rfl ?_
            refine QJ.done ?_
            refine PJ.next ?_
            refine WJ.cond (t := ((List.length e13 : Int) != (List.length pairs1 : Int))) rfl (fun hb20 => ?_) (fun hb20 => ?_)
            · replace hm := ifT hm hb20
              refine WJ.seq ?_
              refine WJ.quiet ?_
              refine QJ.step (YldS.yld (y_assign rfl)) rfl ?_
              refine QJ.done ?_
              refine PJ.next ?_
              refine WJ.ret ?_
              refine PJ.then_ret (PJ.block_ret (PJ.then_ret (PJ.then_ret (PJ.block_ret (PJ.then_ret ?_)))))
              obtain rfl := Option.some.inj hm
              refine PJ.sel (L' := []) [] ⟨List.nodup_nil, rfl⟩ ?_
              exact PJ.retn (vs := [.bool false]) Try.results107 ⟨rfl, trivial⟩ ⟨rfl, rfl⟩
            · replace hm := ifF hm hb20
              refine WJ.skip ?_
              refine PJ.next ?_
              refine WJ.seq ?_
              refine WJ.quiet ?_
              refine QJ.step (YldS.yld (y_move rfl)) rfl ?_
              refine QJ.step (YldS.yld (y_lenS Try.runUnderlying25 hr19 rfl)) rfl ?_
              refine QJ.step (YldS.yld (y_move rfl)) rfl ?_
              refine QJ.done ?_
              refine PJ.next ?_
              refine WJ.block ?_
              refine WJ.sel (L' := (fun (x : Int) => []) 0) [] ⟨List.nodup_nil, rfl⟩ ?_
              refine WJ.sub (m' := (fun (x : Int) => [(0, v2), (11, v2), (12, .int .i64 (List.length pairs1 : Int)), (13, .int .i64 x9), (22, v18), (23, .int .i64 (List.length e13 : Int)), (24, .int .i64 x)]) 0) ⟨rfl, rfl, rfl, rfl, rfl, rfl, rfl, trivial⟩ ?_
              refine WJ.loop (X := Int) (fun N (x : Int) => i_ValidPairs_l2 kj11 e13 N x = some r) (fun (x : Int) => [(0, v2), (11, v2), (12, .int .i64 (List.length pairs1 : Int)), (13, .int .i64 x9), (22, v18), (23, .int .i64 (List.length e13 : Int)), (24, .int .i64 x)]) (fun (x : Int) => []) ?_ N 0 hm
              · rintro N x21 hI
                have hm := hI; clear hI
                cases N with
                | zero => cases hm
                | succ N =>
                unfold i_ValidPairs_l2 at hm
                refine WJ.seq ?_
                refine WJ.quiet ?_
                refine QJ.step (YldS.yld (y_bin rfl rfl rfl)) rfl ?_
                refine QJ.done ?_
                refine PJ.next ?_
                refine WJ.seq ?_
                refine WJ.cond (t := decide (x21 < (List.length e13 : Int))) rfl (fun hb22 => ?_) (fun hb22 => ?_)
                · replace hm := ifT hm hb22
                  refine WJ.skip ?_
                  refine PJ.next ?_
                  refine WJ.seq ?_
                  refine WJ.block ?_
                  refine WJ.seq ?_
                  refine WJ.quiet ?_
                  obtain ⟨e23, h24, hm⟩ := bindS hm
                  obtain ⟨ad25, _, rfl, ha26, hy27⟩ := hr19.elem h24
                  refine QJ.step (YldS.yld (hy27 Try.runUnderlying25 Try.sizeOf2 rfl rfl)) rfl ?_
                  refine QJ.step (YldS.yld (y_load1 (v := .int .i64 e23) Try.isAgg2 ha26 St.frozenC rfl)) rfl ?_
                  refine QJ.step (YldS.yld (y_assign rfl)) rfl ?_
                  refine QJ.done ?_
                  refine PJ.next ?_
                  refine WJ.seq ?_
                  refine WJ.quiet ?_
                  refine QJ.step (YldS.yld (y_move rfl)) rfl ?_
                  obtain ⟨r28, h29, hm⟩ := bindS hm
                  refine QJ.step (y_call Try.call118 rfl (RetG.quiet fun w hw => ok_i_between h29 w )) rfl ?_
                  refine QJ.step (YldS.yld (y_not rfl)) rfl ?_
                  refine QJ.done ?_
                  refine PJ.next ?_
                  refine WJ.cond (t := !r28) rfl (fun hb30 => ?_) (fun hb30 => ?_)
                  · replace hm := ifT hm hb30
                    refine WJ.seq ?_
                    refine WJ.quiet ?_
                    refine QJ.step (YldS.yld (y_assign rfl)) rfl ?_
                    refine QJ.done ?_
                    refine PJ.next ?_
                    refine WJ.ret ?_
                    refine PJ.block_ret (PJ.then_ret (PJ.then_ret (PJ.block_ret (PJ.block_ret (PJ.then_ret (PJ.then_ret (PJ.block_ret (PJ.then_ret ?_))))))))
                    obtain rfl := Option.some.inj hm
                    refine PJ.sel (L' := []) [] ⟨List.nodup_nil, rfl⟩ ?_
                    exact PJ.retn (vs := [.bool false]) Try.results107 ⟨rfl, trivial⟩ ⟨rfl, rfl⟩
                  · replace hm := ifF hm hb30
                    refine WJ.skip ?_
                    refine PJ.block_normal (PJ.next ?_)
                    refine WJ.quiet ?_
                    refine QJ.step (YldS.yld (y_bin rfl rfl rfl)) rfl ?_
                    refine QJ.step (YldS.yld (y_move rfl)) rfl ?_
                    refine QJ.done ?_
                    exact PJ.round (w64 (x21 + 1)) [] hm ⟨rfl, rfl, rfl, rfl, rfl, rfl, rfl, trivial⟩ ⟨List.nodup_nil, rfl⟩
                · replace hm := ifF hm hb22
                  refine WJ.exit ?_
                  refine PJ.then_exit (PJ.then_exit (PJ.block_exit (PJ.block_normal ?_)))
                  exact PJ.joined () [] hm ⟨rfl, rfl, rfl, rfl, trivial⟩ ⟨List.nodup_nil, rfl⟩
          · rintro _ hm
            subst hk12
            refine WJ.quiet ?_
            refine QJ.step (YldS.yld (y_bin rfl rfl rfl)) rfl ?_
            refine QJ.step (YldS.yld (y_move rfl)) rfl ?_
            refine QJ.done ?_
            exact PJ.round (w64 (x9 + 1)) [] hm ⟨rfl, rfl, rfl, rfl, trivial⟩ ⟨List.nodup_nil, rfl⟩
        · replace hm := ifF hm hb10
          refine WJ.exit ?_
          refine PJ.then_exit (PJ.then_exit (PJ.block_exit ?_))
          exact PJ.joined () [] hm trivial ⟨List.nodup_nil, rfl⟩
    · rintro _ hm
      subst hk8
      refine WJ.seq ?_
      refine WJ.quiet ?_
      refine QJ.step (YldS.yld (y_assign rfl)) rfl ?_
      refine QJ.done ?_
      refine PJ.next ?_
      refine WJ.ret ?_
      obtain rfl := Option.some.inj hm
      refine PJ.sel (L' := []) [] ⟨List.nodup_nil, rfl⟩ ?_
      exact PJ.retn (vs := [.bool true]) Try.results107 ⟨rfl, trivial⟩ ⟨rfl, rfl⟩

set_option maxRecDepth 100000 in
set_option maxHeartbeats 1000000 in
theorem ok_i_absolute {n1 : Int} {r : Int} (hm : i_absolute n1 = some r) (w : World)  :
    Calls Try.prog 138 #[.int .i64 n1] w (Ret (cx w) (.int .i64 r)) := by
  unfold i_absolute at hm
  refine Calls.enter [.int .i64 n1] Try.func138 rfl Try.ntmps138 rfl ?_
  refine WJ.seq ?_
  refine WJ.quiet ?_
  refine QJ.step (YldS.yld (y_assign rfl)) rfl ?_
  refine QJ.done ?_
  refine PJ.next ?_
  refine WJ.seq ?_
  refine WJ.seq ?_
  refine WJ.quiet ?_
  refine QJ.step (YldS.yld (y_move rfl)) rfl ?_
  refine QJ.step (YldS.yld (y_bin rfl rfl rfl)) rfl ?_
  refine QJ.done ?_
  refine PJ.next ?_
  refine WJ.cond (t := decide (n1 < 0)) rfl (fun hb2 => ?_) (fun hb2 => ?_)
  · replace hm := ifT hm hb2
    refine WJ.seq ?_
    refine WJ.quiet ?_
    refine QJ.step (YldS.yld (y_move rfl)) rfl ?_
    refine QJ.step (YldS.yld (y_neg rfl)) rfl ?_
    refine QJ.step (YldS.yld (y_assign rfl)) rfl ?_
    refine QJ.done ?_
    refine PJ.next ?_
    refine WJ.ret ?_
    refine PJ.then_ret ?_
    obtain rfl := Option.some.inj hm
    refine PJ.sel (L' := []) [] ⟨List.nodup_nil, rfl⟩ ?_
    exact PJ.retn (vs := [.int .i64 (w64 (0 - n1))]) Try.results138 ⟨rfl, trivial⟩ ⟨rfl, rfl⟩
  · replace hm := ifF hm hb2
    refine WJ.skip ?_
    refine PJ.next ?_
    refine WJ.seq ?_
    refine WJ.quiet ?_
    refine QJ.step (YldS.yld (y_move rfl)) rfl ?_
    refine QJ.step (YldS.yld (y_assign rfl)) rfl ?_
    refine QJ.done ?_
    refine PJ.next ?_
    refine WJ.ret ?_
    obtain rfl := Option.some.inj hm
    refine PJ.sel (L' := []) [] ⟨List.nodup_nil, rfl⟩ ?_
    exact PJ.retn (vs := [.int .i64 n1]) Try.results138 ⟨rfl, trivial⟩ ⟨rfl, rfl⟩

set_option maxRecDepth 100000 in
set_option maxHeartbeats 1000000 in
theorem ok_i_Basket_waits {b1 : Basket} {first2 : Int} {second3 : Int} {r : Int} (hm : i_Basket_waits b1 first2 second3 = some r) (w : World)  :
    Calls Try.prog 154 #[.agg (Basket.enc b1).toArray, .int .i64 first2, .int .i64 second3] w (Ret (cx w) (.int .i64 r)) := by
  unfold i_Basket_waits at hm
  refine Calls.enter [.agg (Basket.enc b1).toArray, .int .i64 first2, .int .i64 second3] Try.func154 rfl Try.ntmps154 rfl ?_
  refine WJ.seq ?_
  refine WJ.reg ?_
  refine SJ.box (cs := [.int .i64 b1.bars, .int .i64 b1.rise, .int .i64 b1.fall, .int .i64 b1.clear, .int .i64 b1.near]) rfl rfl rfl fun g4 => ?_
  refine SJ.q (YldS.yld (y_assign rfl)) rfl ?_
  refine SJ.nil ?_
  refine PJ.next ?_
  refine WJ.seq ?_
  refine WJ.seq ?_
  refine WJ.quiet ?_
  refine QJ.step (YldS.yld (y_move rfl)) rfl ?_
  refine QJ.step (YldS.yld (y_move rfl)) rfl ?_
  refine QJ.step (YldS.yld (y_bin rfl rfl rfl)) rfl ?_
  refine QJ.done ?_
  refine PJ.next ?_
  refine WJ.cond (t := (first2 == second3)) rfl (fun hb5 => ?_) (fun hb5 => ?_)
  · replace hm := ifT hm hb5
    refine WJ.seq ?_
    refine WJ.quiet ?_
    refine QJ.step (YldS.yld (y_fldB (o := 0) fld66_1 rfl)) rfl ?_
    refine QJ.step (YldS.yld (y_loadB (k := 0) (off := 1) (v := .int .i64 b1.rise) rfl Try.isAgg2 rfl rfl)) rfl ?_
    refine QJ.step (YldS.yld (y_fldB (o := 0) fld66_2 rfl)) rfl ?_
    refine QJ.step (YldS.yld (y_loadB (k := 0) (off := 2) (v := .int .i64 b1.fall) rfl Try.isAgg2 rfl rfl)) rfl ?_
    refine QJ.step (YldS.yld (y_bin rfl rfl rfl)) rfl ?_
    refine QJ.step (YldS.yld (y_assign rfl)) rfl ?_
    refine QJ.done ?_
    refine PJ.next ?_
    refine WJ.ret ?_
    refine PJ.then_ret ?_
    obtain rfl := Option.some.inj hm
    refine PJ.sel (L' := []) [] ⟨List.nodup_nil, rfl⟩ ?_
    exact PJ.retn (vs := [.int .i64 (w64 (b1.rise + b1.fall))]) Try.results154 ⟨rfl, trivial⟩ ⟨rfl, rfl⟩
  · replace hm := ifF hm hb5
    refine WJ.skip ?_
    refine PJ.next ?_
    refine WJ.seq ?_
    refine WJ.quiet_draw follows (by kernel_rfl) ?_
    refine QJ.step (YldS.yld (y_fldB (o := 0) fld66_3 rfl)) rfl ?_
    refine QJ.step (YldS.yld (y_loadB (k := 0) (off := 3) (v := .int .i64 b1.clear) rfl Try.isAgg2 rfl rfl)) rfl ?_
    refine QJ.step (YldS.yld (y_fldB (o := 0) fld66_4 rfl)) rfl ?_
    refine QJ.step (YldS.yld (y_loadB (k := 0) (off := 4) (v := .int .i64 b1.near) rfl Try.isAgg2 rfl rfl)) rfl ?_
    refine QJ.step (YldS.yld (y_move rfl)) rfl ?_
    refine QJ.step (YldS.yld (y_move rfl)) rfl ?_
    refine QJ.step (YldS.yld (y_bin rfl rfl rfl)) rfl ?_
    obtain ⟨r6, h7, hm⟩ := bindS hm
    refine QJ.step (y_call Try.call138 rfl (RetG.quiet fun w hw => ok_i_absolute h7 w )) rfl ?_
    refine QJ.step (YldS.yld (y_bin rfl rfl rfl)) rfl ?_
    refine QJ.step (YldS.yld (y_max rfl rfl)) rfl ?_
    refine QJ.step (YldS.yld (y_bin rfl rfl rfl)) rfl ?_
    refine QJ.step (YldS.yld (y_assign rfl)) rfl ?_
    refine QJ.done ?_
    refine PJ.next ?_
    refine WJ.ret ?_
    obtain rfl := Option.some.inj hm
    refine PJ.sel (L' := []) [] ⟨List.nodup_nil, rfl⟩ ?_
    exact PJ.retn (vs := [.int .i64 (w64 (b1.clear + (imax (w64 (b1.near - r6)) 0)))]) Try.results154 ⟨rfl, trivial⟩ ⟨rfl, rfl⟩

set_option maxRecDepth 100000 in
set_option maxHeartbeats 1000000 in
theorem ok_i_Basket_cost {N : Nat} {b1 : Basket} {pairs2 : List (List Int)} {places5 : List Int} {r : Int} (hm : i_Basket_cost N b1 pairs2 places5 = some r) (w : World) (v3 : Value) (hr4 : RdS w (cx w).Fz v3 (rSl fI64.rp) pairs2) (v6 : Value) (hr7 : RdS w (cx w).Fz v6 fI64.rp places5) :
    Calls Try.prog 108 #[.agg (Basket.enc b1).toArray, v3, v6] w (Ret (cx w) (.int .i64 r)) := by
  unfold i_Basket_cost at hm
  refine Calls.enter [.agg (Basket.enc b1).toArray, v3, v6] Try.func108 rfl Try.ntmps108 rfl ?_
  refine WJ.seq ?_
  refine WJ.reg ?_
  refine SJ.box (cs := [.int .i64 b1.bars, .int .i64 b1.rise, .int .i64 b1.fall, .int .i64 b1.clear, .int .i64 b1.near]) rfl rfl rfl fun g8 => ?_
  refine SJ.q (YldS.yld (y_assign rfl)) rfl ?_
  refine SJ.nil ?_
  refine PJ.next ?_
  refine WJ.seq ?_
  refine WJ.quiet ?_
  refine QJ.step (YldS.yld (y_assign rfl)) rfl ?_
  refine QJ.done ?_
  refine PJ.next ?_
  obtain ⟨kj10, hk11, hm⟩ := withK_open hm
  refine WJ.join (X := Int) (fun (x : Int) => kj10 x = some r) (fun (x : Int) => [(7, .int .i64 x)]) (fun (x : Int) => []) ?_ ?_
  · clear hk11
    refine WJ.seq ?_
    refine WJ.quiet ?_
    refine QJ.step (YldS.yld (y_move rfl)) rfl ?_
    refine QJ.step (YldS.yld (y_lenS Try.runUnderlying68 hr4 rfl)) rfl ?_
    refine QJ.step (YldS.yld (y_move rfl)) rfl ?_
    refine QJ.done ?_
    refine PJ.next ?_
    refine WJ.block ?_
    refine WJ.sel (L' := (fun (x : Int × Int) => [box g8 66 [.int .i64 b1.bars, .int .i64 b1.rise, .int .i64 b1.fall, .int .i64 b1.clear, .int .i64 b1.near]]) (0, 0)) [0] ⟨by decide, rfl⟩ ?_
    refine WJ.sub (m' := (fun (x : Int × Int) => [(2, v6), (3, pt g8 0), (7, .int .i64 x.1), (12, v3), (13, .int .i64 (List.length pairs2 : Int)), (14, .int .i64 x.2)]) (0, 0)) ⟨rfl, rfl, rfl, rfl, rfl, rfl, trivial⟩ ?_
    refine WJ.loop (X := Int × Int) (fun N (x : Int × Int) => i_Basket_cost_l1 kj10 b1 pairs2 places5 N x.1 x.2 = some r) (fun (x : Int × Int) => [(2, v6), (3, pt g8 0), (7, .int .i64 x.1), (12, v3), (13, .int .i64 (List.length pairs2 : Int)), (14, .int .i64 x.2)]) (fun (x : Int × Int) => [box g8 66 [.int .i64 b1.bars, .int .i64 b1.rise, .int .i64 b1.fall, .int .i64 b1.clear, .int .i64 b1.near]]) ?_ N (0, 0) hm
    · rintro N ⟨sum12, x13⟩ hI
      have hm := hI; clear hI
      cases N with
      | zero => cases hm
      | succ N =>
      unfold i_Basket_cost_l1 at hm
      refine WJ.seq ?_
      refine WJ.quiet ?_
      refine QJ.step (YldS.yld (y_bin rfl rfl rfl)) rfl ?_
      refine QJ.done ?_
      refine PJ.next ?_
      refine WJ.seq ?_
      refine WJ.cond (t := decide (x13 < (List.length pairs2 : Int))) rfl (fun hb14 => ?_) (fun hb14 => ?_)
      · replace hm := ifT hm hb14
        refine WJ.skip ?_
        refine PJ.next ?_
        obtain ⟨kj16, hk17, hm⟩ := withK_open hm
        refine WJ.join (X := Int) (fun (x : Int) => kj16 x = some r) (fun (x : Int) => [(2, v6), (3, pt g8 0), (7, .int .i64 x), (12, v3), (13, .int .i64 (List.length pairs2 : Int)), (14, .int .i64 x13)]) (fun (x : Int) => [box g8 66 [.int .i64 b1.bars, .int .i64 b1.rise, .int .i64 b1.fall, .int .i64 b1.clear, .int .i64 b1.near]]) ?_ ?_
        · clear hk17
          refine WJ.block ?_
          refine WJ.seq ?_
          refine WJ.quiet ?_
          refine QJ.step (YldS.yld (y_move rfl)) rfl ?_
          obtain ⟨e18, h19, hm⟩ := bindS hm
          obtain ⟨ad20, _, ⟨v23, rfl, hr24⟩, ha21, hy22⟩ := hr4.elem h19
          refine QJ.step (YldS.yld (hy22 Try.runUnderlying68 Try.sizeOf25 rfl rfl)) rfl ?_
          refine QJ.step (YldS.yld (y_load1 (v := v23) Try.isAgg25 ha21 St.frozenC rfl)) rfl ?_
          refine QJ.step (YldS.yld (y_assign rfl)) rfl ?_
          refine QJ.step (YldS.yld (y_assign rfl)) rfl ?_
          refine QJ.done ?_
          refine PJ.next ?_
          refine WJ.seq ?_
          refine WJ.quiet ?_
          refine QJ.step (YldS.yld (y_move rfl)) rfl ?_
          refine QJ.step (YldS.yld (y_lenS Try.runUnderlying25 hr24 rfl)) rfl ?_
          refine QJ.step (YldS.yld (y_move rfl)) rfl ?_
          refine QJ.done ?_
          refine PJ.next ?_
          refine WJ.block ?_
          refine WJ.sel (L' := (fun (x : Int × Int) => [box g8 66 [.int .i64 b1.bars, .int .i64 b1.rise, .int .i64 b1.fall, .int .i64 b1.clear, .int .i64 b1.near]]) (sum12, 0)) [0] ⟨by decide, rfl⟩ ?_
          refine WJ.sub (m' := (fun (x : Int × Int) => [(2, v6), (3, pt g8 0), (7, .int .i64 x.1), (8, .int .i64 x13), (12, v3), (13, .int .i64 (List.length pairs2 : Int)), (14, .int .i64 x13), (19, v23), (20, .int .i64 (List.length e18 : Int)), (21, .int .i64 x.2)]) (sum12, 0)) ⟨rfl, rfl, rfl, rfl, rfl, rfl, rfl, rfl, rfl, rfl, trivial⟩ ?_
          refine WJ.loop (X := Int × Int) (fun N (x : Int × Int) => i_Basket_cost_l2 kj16 b1 places5 x13 e18 N x.1 x.2 = some r) (fun (x : Int × Int) => [(2, v6), (3, pt g8 0), (7, .int .i64 x.1), (8, .int .i64 x13), (12, v3), (13, .int .i64 (List.length pairs2 : Int)), (14, .int .i64 x13), (19, v23), (20, .int .i64 (List.length e18 : Int)), (21, .int .i64 x.2)]) (fun (x : Int × Int) => [box g8 66 [.int .i64 b1.bars, .int .i64 b1.rise, .int .i64 b1.fall, .int .i64 b1.clear, .int .i64 b1.near]]) ?_ N (sum12, 0) hm
          · rintro N ⟨sum25, x26⟩ hI
            have hm := hI; clear hI
            cases N with
            | zero => cases hm
            | succ N =>
            unfold i_Basket_cost_l2 at hm
            refine WJ.seq ?_
            refine WJ.quiet ?_
            refine QJ.step (YldS.yld (y_bin rfl rfl rfl)) rfl ?_
            refine QJ.done ?_
            refine PJ.next ?_
            refine WJ.seq ?_
            refine WJ.cond (t := decide (x26 < (List.length e18 : Int))) rfl (fun hb27 => ?_) (fun hb27 => ?_)
            · replace hm := ifT hm hb27
              refine WJ.skip ?_
              refine PJ.next ?_
              refine WJ.seq ?_
              refine WJ.block ?_
              refine WJ.seq ?_
              refine WJ.quiet ?_
              refine QJ.step (YldS.yld (y_move rfl)) rfl ?_
              obtain ⟨e28, h29, hm⟩ := bindS hm
              obtain ⟨ad30, _, rfl, ha31, hy32⟩ := hr24.elem h29
              refine QJ.step (YldS.yld (hy32 Try.runUnderlying25 Try.sizeOf2 rfl rfl)) rfl ?_
              refine QJ.step (YldS.yld (y_load1 (v := .int .i64 e28) Try.isAgg2 ha31 St.frozenC rfl)) rfl ?_
              refine QJ.step (YldS.yld (y_assign rfl)) rfl ?_
              refine QJ.step (YldS.yld (y_assign rfl)) rfl ?_
              refine QJ.done ?_
              refine PJ.next ?_
              refine WJ.quiet_draw follows (by kernel_rfl) ?_
              refine QJ.step (YldS.yld (y_move rfl)) rfl ?_
              refine QJ.step (YldS.yld (y_move rfl)) rfl ?_
              refine QJ.step (YldS.yld (y_loadBN (k := 0) (off := 0) (us := [.int .i64 b1.bars, .int .i64 b1.rise, .int .i64 b1.fall, .int .i64 b1.clear, .int .i64 b1.near]) rfl Try.isAgg66 Try.sizeOf66 rfl rfl)) rfl ?_
              refine QJ.step (YldS.yld (y_move rfl)) rfl ?_
              refine QJ.step (YldS.yld (y_move rfl)) rfl ?_
              obtain ⟨e33, h34, hm⟩ := bindS hm
              obtain ⟨ad35, _, rfl, ha36, hy37⟩ := hr7.elem h34
              refine QJ.step (YldS.yld (hy37 Try.runUnderlying25 Try.sizeOf2 rfl rfl)) rfl ?_
              refine QJ.step (YldS.yld (y_load1 (v := .int .i64 e33) Try.isAgg2 ha36 St.frozenC rfl)) rfl ?_
              refine QJ.step (YldS.yld (y_move rfl)) rfl ?_
              refine QJ.step (YldS.yld (y_move rfl)) rfl ?_
              obtain ⟨e38, h39, hm⟩ := bindS hm
              obtain ⟨ad40, _, rfl, ha41, hy42⟩ := hr7.elem h39
              refine QJ.step (YldS.yld (hy42 Try.runUnderlying25 Try.sizeOf2 rfl rfl)) rfl ?_
              refine QJ.step (YldS.yld (y_load1 (v := .int .i64 e38) Try.isAgg2 ha41 St.frozenC rfl)) rfl ?_
              obtain ⟨r43, h44, hm⟩ := bindS hm
              refine QJ.step (y_call Try.call154 rfl (RetG.quiet fun w hw => ok_i_Basket_waits h44 w )) rfl ?_
              refine QJ.step (YldS.yld (y_bin rfl rfl rfl)) rfl ?_
              refine QJ.step (YldS.yld (y_bin rfl rfl rfl)) rfl ?_
              refine QJ.step (YldS.yld (y_assign rfl)) rfl ?_
              refine QJ.done ?_
              refine PJ.block_normal (PJ.next ?_)
              refine WJ.quiet ?_
              refine QJ.step (YldS.yld (y_bin rfl rfl rfl)) rfl ?_
              refine QJ.step (YldS.yld (y_move rfl)) rfl ?_
              refine QJ.done ?_
              exact PJ.round (w64 (sum25 + (w64 (e28 * r43))), w64 (x26 + 1)) [0] hm ⟨rfl, rfl, rfl, rfl, rfl, rfl, rfl, rfl, rfl, rfl, trivial⟩ ⟨by decide, rfl⟩
            · replace hm := ifF hm hb27
              refine WJ.exit ?_
              refine PJ.then_exit (PJ.then_exit (PJ.block_exit (PJ.block_normal ?_)))
              exact PJ.joined sum25 [0] hm ⟨rfl, rfl, rfl, rfl, rfl, rfl, trivial⟩ ⟨by decide, rfl⟩
        · rintro sum15 hm
          subst hk17
          refine WJ.quiet ?_
          refine QJ.step (YldS.yld (y_bin rfl rfl rfl)) rfl ?_
          refine QJ.step (YldS.yld (y_move rfl)) rfl ?_
          refine QJ.done ?_
          exact PJ.round (sum15, w64 (x13 + 1)) [0] hm ⟨rfl, rfl, rfl, rfl, rfl, rfl, trivial⟩ ⟨by decide, rfl⟩
      · replace hm := ifF hm hb14
        refine WJ.exit ?_
        refine PJ.then_exit (PJ.then_exit (PJ.block_exit ?_))
        exact PJ.joined sum12 [] hm ⟨rfl, trivial⟩ ⟨List.nodup_nil, rfl⟩
  · rintro sum9 hm
    subst hk11
    refine WJ.seq ?_
    refine WJ.quiet ?_
    refine QJ.step (YldS.yld (y_move rfl)) rfl ?_
    refine QJ.step (YldS.yld (y_assign rfl)) rfl ?_
    refine QJ.done ?_
    refine PJ.next ?_
    refine WJ.ret ?_
    obtain rfl := Option.some.inj hm
    refine PJ.sel (L' := []) [] ⟨List.nodup_nil, rfl⟩ ?_
    exact PJ.retn (vs := [.int .i64 sum9]) Try.results108 ⟨rfl, trivial⟩ ⟨rfl, rfl⟩

set_option maxRecDepth 100000 in
set_option maxHeartbeats 1000000 in
theorem ok_i_nextPermutation {N : Nat} {list1 : List Int} {v2 : Value} {r : Bool × (List Int)} (hm : i_nextPermutation N list1 = some r) (w : World) (S : Nat → Prop)  (hA : (row v2 2 fI64 list1).holds w S) :
    Calls Try.prog 109 #[v2] w (RetG ⟨w, S⟩ fun u L => (u = .bool r.1 ∧ L = [row v2 2 fI64 r.2])) := by
  unfold i_nextPermutation at hm
  refine Calls.enter1 hA [v2] Try.func109 rfl Try.ntmps109 rfl ?_
  refine WJ.seq ?_
  refine WJ.quiet ?_
  refine QJ.step (YldS.yld (y_assign rfl)) rfl ?_
  refine QJ.done ?_
  refine PJ.next ?_
  refine WJ.seq ?_
  refine WJ.quiet ?_
  refine QJ.step (YldS.yld (y_move rfl)) rfl ?_
  refine QJ.step (YldS.yld (y_lenRow (k := 0) rfl Try.runUnderlying25 rfl)) rfl ?_
  refine QJ.step (YldS.yld (y_bin rfl rfl rfl)) rfl ?_
  refine QJ.step (YldS.yld (y_assign rfl)) rfl ?_
  refine QJ.done ?_
  refine PJ.next ?_
  obtain ⟨kj4, hk5, hm⟩ := withK_open hm
  refine WJ.join (X := Int) (fun (x : Int) => kj4 x = some r) (fun (x : Int) => [(0, v2), (3, .int .i64 x)]) (fun (x : Int) => [row v2 2 fI64 list1]) ?_ ?_
  · clear hk5
    refine WJ.block ?_
    refine WJ.sel (L' := (fun (x : Int) => [row v2 2 fI64 list1]) (w64 ((List.length list1 : Int) - 2))) [0] ⟨by decide, rfl⟩ ?_
    refine WJ.sub (m' := (fun (x : Int) => [(0, v2), (3, .int .i64 x)]) (w64 ((List.length list1 : Int) - 2))) ⟨rfl, rfl, trivial⟩ ?_
    refine WJ.loop (X := Int) (fun N (x : Int) => i_nextPermutation_l1 kj4 list1 N x = some r) (fun (x : Int) => [(0, v2), (3, .int .i64 x)]) (fun (x : Int) => [row v2 2 fI64 list1]) ?_ N (w64 ((List.length list1 : Int) - 2)) hm
    · rintro N i6 hI
      have hm := hI; clear hI
      cases N with
      | zero => cases hm
      | succ N =>
      unfold i_nextPermutation_l1 at hm
      refine WJ.seq ?_
      refine WJ.seq ?_
      refine WJ.quiet_draw follows (by kernel_rfl) ?_
      refine QJ.step (YldS.yld (y_move rfl)) rfl ?_
      refine QJ.step (YldS.yld (y_bin rfl rfl rfl)) rfl ?_
      refine QJ.step (YldS.yld (y_move rfl)) rfl ?_
      obtain ⟨t7, h8, hm⟩ := bindS hm
      refine QJ.cut 11 [(0, v2), (3, .int .i64 i6), (23, .bool t7)] ?_ ?_
      · rcases Bool.eq_false_or_eq_true (decide (i6 ≥ 0)) with hb9 | hb9
        · replace h8 := andT h8 hb9
          refine QJ.on rfl rfl (cB hb9) (YldS.yld (y_move rfl)) rfl ?_
          refine QJ.on rfl rfl (cB hb9) (YldS.yld (y_move rfl)) rfl ?_
          obtain ⟨e10, h11, h8⟩ := bindS h8
          refine QJ.on rfl rfl (cB hb9) (YldS.yld (y_ixRow (k := 0) (R := fI64) rfl Try.runUnderlying25 Try.sizeOf2 rfl rfl h11)) rfl ?_
          refine QJ.on rfl rfl (cB hb9) (YldS.yld (y_loadR (k := 0) (i := (Int.toNat i6)) (off := 0) (u := .int .i64 e10) rfl Try.isAgg2 rfl (idx_get h11) rfl)) rfl ?_
          refine QJ.on rfl rfl (cB hb9) (YldS.yld (y_move rfl)) rfl ?_
          refine QJ.on rfl rfl (cB hb9) (YldS.yld (y_move rfl)) rfl ?_
          refine QJ.on rfl rfl (cB hb9) (YldS.yld (y_bin rfl rfl rfl)) rfl ?_
          obtain ⟨e12, h13, h8⟩ := bindS h8
          refine QJ.on rfl rfl (cB hb9) (YldS.yld (y_ixRow (k := 0) (R := fI64) rfl Try.runUnderlying25 Try.sizeOf2 rfl rfl h13)) rfl ?_
          refine QJ.on rfl rfl (cB hb9) (YldS.yld (y_loadR (k := 0) (i := (Int.toNat (w64 (i6 + 1)))) (off := 0) (u := .int .i64 e12) rfl Try.isAgg2 rfl (idx_get h13) rfl)) rfl ?_
          refine QJ.on rfl rfl (cB hb9) (YldS.yld (y_bin rfl rfl rfl)) rfl ?_
          refine QJ.step (YldS.yld (y_pick_t (cB hb9) rfl)) rfl ?_
          obtain rfl := Option.some.inj h8
          exact QJ.cut_end ⟨rfl, rfl, rfl, trivial⟩
        · obtain rfl := andF h8 hb9
          refine QJ.off rfl rfl (cB hb9) rfl rfl ?_
          refine QJ.off rfl rfl (cB hb9) rfl rfl ?_
          refine QJ.off rfl rfl (cB hb9) rfl rfl ?_
          refine QJ.off rfl rfl (cB hb9) rfl rfl ?_
          refine QJ.off rfl rfl (cB hb9) rfl rfl ?_
          refine QJ.off rfl rfl (cB hb9) rfl rfl ?_
          refine QJ.off rfl rfl (cB hb9) rfl rfl ?_
          refine QJ.off rfl rfl (cB hb9) rfl rfl ?_
          refine QJ.off rfl rfl (cB hb9) rfl rfl ?_
          refine QJ.off rfl rfl (cB hb9) rfl rfl ?_
          refine QJ.step (YldS.yld (y_pick_f (cB hb9) rfl)) rfl ?_
          exact QJ.cut_end ⟨rfl, rfl, rfl, trivial⟩
      refine QJ.done ?_
      refine PJ.next ?_
      refine WJ.cond (t := t7) rfl (fun hb14 => ?_) (fun hb14 => ?_)
      · replace hm := ifT hm hb14
        refine WJ.skip ?_
        refine PJ.next ?_
        refine WJ.block ?_
        refine WJ.quiet ?_
        refine QJ.step (YldS.yld (y_move rfl)) rfl ?_
        refine QJ.step (YldS.yld (y_bin rfl rfl rfl)) rfl ?_
        refine QJ.step (YldS.yld (y_assign rfl)) rfl ?_
        refine QJ.done ?_
        refine PJ.block_normal ?_
        exact PJ.round (w64 (i6 - 1)) [0] hm ⟨rfl, rfl, trivial⟩ ⟨by decide, rfl⟩
      · replace hm := ifF hm hb14
        refine WJ.exit ?_
        refine PJ.then_exit (PJ.then_exit (PJ.block_exit ?_))
        exact PJ.joined i6 [0] hm ⟨rfl, rfl, trivial⟩ ⟨by decide, rfl⟩
  · rintro i3 hm
    subst hk5
    refine WJ.seq ?_
    refine WJ.seq ?_
    refine WJ.quiet ?_
    refine QJ.step (YldS.yld (y_move rfl)) rfl ?_
    refine QJ.step (YldS.yld (y_bin rfl rfl rfl)) rfl ?_
    refine QJ.done ?_
    refine PJ.next ?_
    refine WJ.cond (t := decide (i3 < 0)) rfl (fun hb15 => ?_) (fun hb15 => ?_)
    · replace hm := ifT hm hb15
      refine WJ.seq ?_
      refine WJ.quiet ?_
      refine QJ.step (YldS.yld (y_assign rfl)) rfl ?_
      refine QJ.done ?_
      refine PJ.next ?_
      refine WJ.ret ?_
      refine PJ.then_ret ?_
      obtain rfl := Option.some.inj hm
      refine PJ.sel (L' := [row v2 2 fI64 list1]) [0] ⟨by decide, rfl⟩ ?_
      exact PJ.retn (vs := [.bool false]) Try.results109 ⟨rfl, trivial⟩ ⟨rfl, rfl⟩
    · replace hm := ifF hm hb15
      refine WJ.skip ?_
      refine PJ.next ?_
      refine WJ.seq ?_
      refine WJ.quiet ?_
      refine QJ.step (YldS.yld (y_move rfl)) rfl ?_
      refine QJ.step (YldS.yld (y_lenRow (k := 0) rfl Try.runUnderlying25 rfl)) rfl ?_
      refine QJ.step (YldS.yld (y_bin rfl rfl rfl)) rfl ?_
      refine QJ.step (YldS.yld (y_assign rfl)) rfl ?_
      refine QJ.done ?_
      refine PJ.next ?_
      obtain ⟨kj17, hk18, hm⟩ := withK_open hm
      refine WJ.join (X := Int) (fun (x : Int) => kj17 x = some r) (fun (x : Int) => [(0, v2), (3, .int .i64 i3), (4, .int .i64 x)]) (fun (x : Int) => [row v2 2 fI64 list1]) ?_ ?_
      · clear hk18
        refine WJ.block ?_
        refine WJ.sel (L' := (fun (x : Int) => [row v2 2 fI64 list1]) (w64 ((List.length list1 : Int) - 1))) [0] ⟨by decide, rfl⟩ ?_
        refine WJ.sub (m' := (fun (x : Int) => [(0, v2), (3, .int .i64 i3), (4, .int .i64 x)]) (w64 ((List.length list1 : Int) - 1))) ⟨rfl, rfl, rfl, trivial⟩ ?_
        refine WJ.loop (X := Int) (fun N (x : Int) => i_nextPermutation_l2 kj17 list1 i3 N x = some r) (fun (x : Int) => [(0, v2), (3, .int .i64 i3), (4, .int .i64 x)]) (fun (x : Int) => [row v2 2 fI64 list1]) ?_ N (w64 ((List.length list1 : Int) - 1)) hm
        · rintro N k19 hI
          have hm := hI; clear hI
          cases N with
          | zero => cases hm
          | succ N =>
          unfold i_nextPermutation_l2 at hm
          refine WJ.seq ?_
          refine WJ.seq ?_
          refine WJ.quiet_draw follows (by kernel_rfl) ?_
          refine QJ.step (YldS.yld (y_move rfl)) rfl ?_
          refine QJ.step (YldS.yld (y_move rfl)) rfl ?_
          obtain ⟨e20, h21, hm⟩ := bindS hm
          refine QJ.step (YldS.yld (y_ixRow (k := 0) (R := fI64) rfl Try.runUnderlying25 Try.sizeOf2 rfl rfl h21)) rfl ?_
          refine QJ.step (YldS.yld (y_loadR (k := 0) (i := (Int.toNat k19)) (off := 0) (u := .int .i64 e20) rfl Try.isAgg2 rfl (idx_get h21) rfl)) rfl ?_
          refine QJ.step (YldS.yld (y_move rfl)) rfl ?_
          refine QJ.step (YldS.yld (y_move rfl)) rfl ?_
          obtain ⟨e22, h23, hm⟩ := bindS hm
          refine QJ.step (YldS.yld (y_ixRow (k := 0) (R := fI64) rfl Try.runUnderlying25 Try.sizeOf2 rfl rfl h23)) rfl ?_
          refine QJ.step (YldS.yld (y_loadR (k := 0) (i := (Int.toNat i3)) (off := 0) (u := .int .i64 e22) rfl Try.isAgg2 rfl (idx_get h23) rfl)) rfl ?_
          refine QJ.step (YldS.yld (y_bin rfl rfl rfl)) rfl ?_
          refine QJ.done ?_
          refine PJ.next ?_
          refine WJ.cond (t := decide (e20 ≤ e22)) rfl (fun hb24 => ?_) (fun hb24 => ?_)
          · replace hm := ifT hm hb24
            refine WJ.skip ?_
            refine PJ.next ?_
            refine WJ.block ?_
            refine WJ.quiet ?_
            refine QJ.step (YldS.yld (y_move rfl)) rfl ?_
            refine QJ.step (YldS.yld (y_bin rfl rfl rfl)) rfl ?_
            refine QJ.step (YldS.yld (y_assign rfl)) rfl ?_
            refine QJ.done ?_
            refine PJ.block_normal ?_
            exact PJ.round (w64 (k19 - 1)) [0] hm ⟨rfl, rfl, rfl, trivial⟩ ⟨by decide, rfl⟩
          · replace hm := ifF hm hb24
            refine WJ.exit ?_
            refine PJ.then_exit (PJ.then_exit (PJ.block_exit ?_))
            exact PJ.joined k19 [0] hm ⟨rfl, rfl, rfl, trivial⟩ ⟨by decide, rfl⟩
      · rintro k16 hm
        subst hk18
        refine WJ.seq ?_
        obtain ⟨e25, h26, hm⟩ := bindS hm
        obtain ⟨e27, h28, hm⟩ := bindS hm
        obtain ⟨e29, h30, hm⟩ := bindS hm
        obtain ⟨e31, h32, hm⟩ := bindS hm
        refine WJ.draws (N := 16) (listed0 := #[false, false, false, false, false, false, false, false, false, false, false, false, false, false, false, false]) [] follows rfl rfl ?_
        refine RJ.first 0 (listed' := #[true, false, false, false, false, false, false, false, false, false, false, false, false, false, false, false]) [] rfl (by kernel_rfl) rfl ⟨List.nodup_nil, rfl⟩ (y_move rfl) rfl ?_
        refine RJ.first 1 (listed' := #[true, true, false, false, false, false, false, false, false, false, false, false, false, false, false, false]) [] rfl (by kernel_rfl) rfl ⟨List.nodup_nil, rfl⟩ (y_move rfl) rfl ?_
        refine RJ.first 2 (listed' := #[true, true, true, false, false, false, false, false, false, false, false, false, false, false, false, false]) [] rfl (by kernel_rfl) rfl ⟨List.nodup_nil, rfl⟩ (y_move rfl) rfl ?_
        refine RJ.first 3 (listed' := #[true, true, true, true, false, false, false, false, false, false, false, false, false, false, false, false]) [] rfl (by kernel_rfl) rfl ⟨List.nodup_nil, rfl⟩ (y_move rfl) rfl ?_
        refine RJ.first 4 (listed' := #[true, true, true, true, true, false, false, false, false, false, false, false, false, false, false, false]) [] rfl (by kernel_rfl) rfl ⟨List.nodup_nil, rfl⟩ (y_move rfl) rfl ?_
        refine RJ.first 5 (listed' := #[true, true, true, true, true, true, false, false, false, false, false, false, false, false, false, false]) [] rfl (by kernel_rfl) rfl ⟨List.nodup_nil, rfl⟩ (y_move rfl) rfl ?_
        refine RJ.first 8 (listed' := #[true, true, true, true, true, true, false, false, true, false, false, false, false, false, false, false]) [] rfl (by kernel_rfl) rfl ⟨List.nodup_nil, rfl⟩ (y_move rfl) rfl ?_
        refine RJ.first 9 (listed' := #[true, true, true, true, true, true, false, false, true, true, false, false, false, false, false, false]) [] rfl (by kernel_rfl) rfl ⟨List.nodup_nil, rfl⟩ (y_move rfl) rfl ?_
        refine RJ.hold (X := Unit) 4 #[true, true, true, true, true, true, true, true, true, true, true, true, false, false, false, false] (fun (_ : Unit) => [(0, v2), (3, .int .i64 i3), (42, v2), (43, .int .i64 i3), (44, v2), (45, .int .i64 k16), (49, .int .i64 e25), (53, .int .i64 e27)]) (fun (_ : Unit) => [row v2 2 fI64 list1]) ?_ ?_
        · rintro _
          refine RJ.step1 12 [] (by kernel_rfl) ⟨List.nodup_nil, rfl⟩ ?_
          refine RO.of (listed' := #[true, true, true, true, true, true, true, true, true, true, true, true, true, false, false, false]) rfl rfl ?_
          refine SJ.q (YldS.yld (y_ixRow (k := 0) (R := fI64) rfl Try.runUnderlying25 Try.sizeOf2 rfl rfl h30)) rfl ?_
          refine SJ.nil ?_
          refine PJ.draw ?_
          refine RJ.step1 13 [] (by kernel_rfl) ⟨List.nodup_nil, rfl⟩ ?_
          refine RO.of (listed' := #[true, true, true, true, true, true, true, true, true, true, true, true, true, true, false, false]) rfl rfl ?_
          refine SJ.storeRL (k := 0) (i := (Int.toNat i3)) (off := 0) (us := [.int .i64 e25]) (b := e25) rfl rfl (idx_get h30) rfl rfl Try.sizeOf2 rfl rfl rfl ?_
          refine SJ.nil ?_
          refine PJ.draw ?_
          refine RJ.step1 14 [] (by kernel_rfl) ⟨List.nodup_nil, rfl⟩ ?_
          refine RO.of (listed' := #[true, true, true, true, true, true, true, true, true, true, true, true, true, true, true, false]) rfl rfl ?_
          refine SJ.q (YldS.yld (y_ixRow (k := 0) (R := fI64) rfl Try.runUnderlying25 Try.sizeOf2 rfl rfl h32)) rfl ?_
          refine SJ.nil ?_
          refine PJ.draw ?_
          refine RJ.step1 15 [] (by kernel_rfl) ⟨List.nodup_nil, rfl⟩ ?_
          refine RO.of (listed' := #[true, true, true, true, true, true, true, true, true, true, true, true, true, true, true, true]) rfl rfl ?_
          refine SJ.storeRL (k := 0) (i := (Int.toNat k16)) (off := 0) (us := [.int .i64 e27]) (b := e27) rfl rfl (idx_get h32) rfl rfl Try.sizeOf2 rfl rfl rfl ?_
          refine SJ.nil ?_
          refine PJ.draw ?_
          refine RJ.fin [] (by kernel_rfl) ⟨List.nodup_nil, rfl⟩ ?_
          refine PJ.next ?_
          obtain ⟨kj35, hk36, hm⟩ := withK_open hm
          refine WJ.join (X := (List Int)) (fun (x : (List Int)) => kj35 x = some r) (fun (x : (List Int)) => []) (fun (x : (List Int)) => [row v2 2 fI64 x]) ?_ ?_
          · clear hk36
            refine WJ.seq ?_
            refine WJ.quiet ?_
            refine QJ.step (YldS.yld (y_move rfl)) rfl ?_
            refine QJ.step (YldS.yld (y_bin rfl rfl rfl)) rfl ?_
            refine QJ.step (YldS.yld (y_move rfl)) rfl ?_
            refine QJ.step (YldS.yld (y_lenRow (k := 0) rfl Try.runUnderlying25 rfl)) rfl ?_
            refine QJ.step (YldS.yld (y_bin rfl rfl rfl)) rfl ?_
            refine QJ.step (YldS.yld (y_assign rfl)) rfl ?_
            refine QJ.step (YldS.yld (y_assign rfl)) rfl ?_
            refine QJ.done ?_
            refine PJ.next ?_
            refine WJ.block ?_
            refine WJ.sel (L' := (fun (x : (List Int) × Int × Int) => [row v2 2 fI64 x.1]) ((List.set (List.set list1 (Int.toNat i3) e25) (Int.toNat k16) e27), w64 (i3 + 1), w64 ((List.length (List.set (List.set list1 (Int.toNat i3) e25) (Int.toNat k16) e27) : Int) - 1))) [0] ⟨by decide, rfl⟩ ?_
            refine WJ.sub (m' := (fun (x : (List Int) × Int × Int) => [(0, v2), (5, .int .i64 x.2.1), (6, .int .i64 x.2.2)]) ((List.set (List.set list1 (Int.toNat i3) e25) (Int.toNat k16) e27), w64 (i3 + 1), w64 ((List.length (List.set (List.set list1 (Int.toNat i3) e25) (Int.toNat k16) e27) : Int) - 1))) ⟨rfl, rfl, rfl, trivial⟩ ?_
            refine WJ.loop (X := (List Int) × Int × Int) (fun N (x : (List Int) × Int × Int) => i_nextPermutation_l3 kj35 N x.1 x.2.1 x.2.2 = some r) (fun (x : (List Int) × Int × Int) => [(0, v2), (5, .int .i64 x.2.1), (6, .int .i64 x.2.2)]) (fun (x : (List Int) × Int × Int) => [row v2 2 fI64 x.1]) ?_ N ((List.set (List.set list1 (Int.toNat i3) e25) (Int.toNat k16) e27), w64 (i3 + 1), w64 ((List.length (List.set (List.set list1 (Int.toNat i3) e25) (Int.toNat k16) e27) : Int) - 1)) hm
            · rintro N ⟨l37, a38, b39⟩ hI
              have hm := hI; clear hI
              cases N with
              | zero => cases hm
              | succ N =>
              unfold i_nextPermutation_l3 at hm
              refine WJ.seq ?_
              refine WJ.seq ?_
              refine WJ.quiet ?_
              refine QJ.step (YldS.yld (y_move rfl)) rfl ?_
              refine QJ.step (YldS.yld (y_move rfl)) rfl ?_
              refine QJ.step (YldS.yld (y_bin rfl rfl rfl)) rfl ?_
              refine QJ.done ?_
              refine PJ.next ?_
              refine WJ.cond (t := decide (a38 < b39)) rfl (fun hb40 => ?_) (fun hb40 => ?_)
              · replace hm := ifT hm hb40
                refine WJ.skip ?_
                refine PJ.next ?_
                refine WJ.seq ?_
                refine WJ.block ?_
                obtain ⟨e41, h42, hm⟩ := bindS hm
                obtain ⟨e43, h44, hm⟩ := bindS hm
                obtain ⟨e45, h46, hm⟩ := bindS hm
                obtain ⟨e47, h48, hm⟩ := bindS hm
                refine WJ.draws (N := 16) (listed0 := #[false, false, false, false, false, false, false, false, false, false, false, false, false, false, false, false]) [] follows rfl rfl ?_
                refine RJ.first 0 (listed' := #[true, false, false, false, false, false, false, false, false, false, false, false, false, false, false, false]) [] rfl (by kernel_rfl) rfl ⟨List.nodup_nil, rfl⟩ (y_move rfl) rfl ?_
                refine RJ.first 1 (listed' := #[true, true, false, false, false, false, false, false, false, false, false, false, false, false, false, false]) [] rfl (by kernel_rfl) rfl ⟨List.nodup_nil, rfl⟩ (y_move rfl) rfl ?_
                refine RJ.first 2 (listed' := #[true, true, true, false, false, false, false, false, false, false, false, false, false, false, false, false]) [] rfl (by kernel_rfl) rfl ⟨List.nodup_nil, rfl⟩ (y_move rfl) rfl ?_
                refine RJ.first 3 (listed' := #[true, true, true, true, false, false, false, false, false, false, false, false, false, false, false, false]) [] rfl (by kernel_rfl) rfl ⟨List.nodup_nil, rfl⟩ (y_move rfl) rfl ?_
                refine RJ.first 4 (listed' := #[true, true, true, true, true, false, false, false, false, false, false, false, false, false, false, false]) [] rfl (by kernel_rfl) rfl ⟨List.nodup_nil, rfl⟩ (y_move rfl) rfl ?_
                refine RJ.first 5 (listed' := #[true, true, true, true, true, true, false, false, false, false, false, false, false, false, false, false]) [] rfl (by kernel_rfl) rfl ⟨List.nodup_nil, rfl⟩ (y_move rfl) rfl ?_
                refine RJ.first 8 (listed' := #[true, true, true, true, true, true, false, false, true, false, false, false, false, false, false, false]) [] rfl (by kernel_rfl) rfl ⟨List.nodup_nil, rfl⟩ (y_move rfl) rfl ?_
                refine RJ.first 9 (listed' := #[true, true, true, true, true, true, false, false, true, true, false, false, false, false, false, false]) [] rfl (by kernel_rfl) rfl ⟨List.nodup_nil, rfl⟩ (y_move rfl) rfl ?_
                refine RJ.hold (X := Unit) 4 #[true, true, true, true, true, true, true, true, true, true, true, true, false, false, false, false] (fun (_ : Unit) => [(0, v2), (5, .int .i64 a38), (6, .int .i64 b39), (68, v2), (69, .int .i64 a38), (70, v2), (71, .int .i64 b39), (75, .int .i64 e41), (79, .int .i64 e43)]) (fun (_ : Unit) => [row v2 2 fI64 l37]) ?_ ?_
                · rintro _
                  refine RJ.step1 12 [] (by kernel_rfl) ⟨List.nodup_nil, rfl⟩ ?_
                  refine RO.of (listed' := #[true, true, true, true, true, true, true, true, true, true, true, true, true, false, false, false]) rfl rfl ?_
                  refine SJ.q (YldS.yld (y_ixRow (k := 0) (R := fI64) rfl Try.runUnderlying25 Try.sizeOf2 rfl rfl h46)) rfl ?_
                  refine SJ.nil ?_
                  refine PJ.draw ?_
                  refine RJ.step1 13 [] (by kernel_rfl) ⟨List.nodup_nil, rfl⟩ ?_
                  refine RO.of (listed' := #[true, true, true, true, true, true, true, true, true, true, true, true, true, true, false, false]) rfl rfl ?_
                  refine SJ.storeRL (k := 0) (i := (Int.toNat a38)) (off := 0) (us := [.int .i64 e41]) (b := e41) rfl rfl (idx_get h46) rfl rfl Try.sizeOf2 rfl rfl rfl ?_
                  refine SJ.nil ?_
                  refine PJ.draw ?_
                  refine RJ.step1 14 [] (by kernel_rfl) ⟨List.nodup_nil, rfl⟩ ?_
                  refine RO.of (listed' := #[true, true, true, true, true, true, true, true, true, true, true, true, true, true, true, false]) rfl rfl ?_
                  refine SJ.q (YldS.yld (y_ixRow (k := 0) (R := fI64) rfl Try.runUnderlying25 Try.sizeOf2 rfl rfl h48)) rfl ?_
                  refine SJ.nil ?_
                  refine PJ.draw ?_
                  refine RJ.step1 15 [] (by kernel_rfl) ⟨List.nodup_nil, rfl⟩ ?_
                  refine RO.of (listed' := #[true, true, true, true, true, true, true, true, true, true, true, true, true, true, true, true]) rfl rfl ?_
                  refine SJ.storeRL (k := 0) (i := (Int.toNat b39)) (off := 0) (us := [.int .i64 e43]) (b := e43) rfl rfl (idx_get h48) rfl rfl Try.sizeOf2 rfl rfl rfl ?_
                  refine SJ.nil ?_
                  refine PJ.draw ?_
                  refine RJ.fin [] (by kernel_rfl) ⟨List.nodup_nil, rfl⟩ ?_
                  refine PJ.block_normal (PJ.next ?_)
                  refine WJ.quiet ?_
                  refine QJ.step (YldS.yld (y_move rfl)) rfl ?_
                  refine QJ.step (YldS.yld (y_bin rfl rfl rfl)) rfl ?_
                  refine QJ.step (YldS.yld (y_move rfl)) rfl ?_
                  refine QJ.step (YldS.yld (y_bin rfl rfl rfl)) rfl ?_
                  refine QJ.step (YldS.yld (y_assign rfl)) rfl ?_
                  refine QJ.step (YldS.yld (y_assign rfl)) rfl ?_
                  refine QJ.done ?_
                  exact PJ.round ((List.set (List.set l37 (Int.toNat a38) e41) (Int.toNat b39) e43), w64 (a38 + 1), w64 (b39 - 1)) [0] hm ⟨rfl, rfl, rfl, trivial⟩ ⟨by decide, rfl⟩
                · intro hD49
                  refine RJ.step2 6 10 [] (by kernel_rfl) ⟨List.nodup_nil, rfl⟩ ?_ ?_
                  · refine RO.of (listed' := #[true, true, true, true, true, true, true, false, true, true, false, false, false, false, false, false]) rfl rfl ?_
                    refine SJ.q (YldS.yld (y_ixRow (k := 0) (R := fI64) rfl Try.runUnderlying25 Try.sizeOf2 rfl rfl h42)) rfl ?_
                    refine SJ.nil ?_
                    refine PJ.draw ?_
                    refine RJ.step2 7 10 [] (by kernel_rfl) ⟨List.nodup_nil, rfl⟩ ?_ ?_
                    · refine RO.of (listed' := #[true, true, true, true, true, true, true, true, true, true, false, false, false, false, false, false]) rfl rfl ?_
                      refine SJ.q (YldS.yld (y_loadR (k := 0) (i := (Int.toNat b39)) (off := 0) (u := .int .i64 e41) rfl Try.isAgg2 rfl (idx_get h42) rfl)) rfl ?_
                      refine SJ.nil ?_
                      refine PJ.draw ?_
                      refine RJ.step1 10 [] (by kernel_rfl) ⟨List.nodup_nil, rfl⟩ ?_
                      refine RO.of (listed' := #[true, true, true, true, true, true, true, true, true, true, true, false, false, false, false, false]) rfl rfl ?_
                      refine SJ.q (YldS.yld (y_ixRow (k := 0) (R := fI64) rfl Try.runUnderlying25 Try.sizeOf2 rfl rfl h44)) rfl ?_
                      refine SJ.nil ?_
                      refine PJ.draw ?_
                      refine RJ.step1 11 [] (by kernel_rfl) ⟨List.nodup_nil, rfl⟩ ?_
                      refine RO.of (listed' := #[true, true, true, true, true, true, true, true, true, true, true, true, false, false, false, false]) rfl rfl ?_
                      refine SJ.q (YldS.yld (y_loadR (k := 0) (i := (Int.toNat a38)) (off := 0) (u := .int .i64 e43) rfl Try.isAgg2 rfl (idx_get h44) rfl)) rfl ?_
                      refine SJ.nil ?_
                      refine PJ.draw ?_
                      exact RJ.weak (hD49 ()) [0] ⟨rfl, rfl, rfl, rfl, rfl, rfl, rfl, rfl, rfl, trivial⟩ ⟨by decide, rfl⟩
                    · refine RO.of (listed' := #[true, true, true, true, true, true, true, false, true, true, true, false, false, false, false, false]) rfl rfl ?_
                      refine SJ.q (YldS.yld (y_ixRow (k := 0) (R := fI64) rfl Try.runUnderlying25 Try.sizeOf2 rfl rfl h44)) rfl ?_
                      refine SJ.nil ?_
                      refine PJ.draw ?_
                      refine RJ.step2 7 11 [] (by kernel_rfl) ⟨List.nodup_nil, rfl⟩ ?_ ?_
                      · refine RO.of (listed' := #[true, true, true, true, true, true, true, true, true, true, true, false, false, false, false, false]) rfl rfl ?_
                        refine SJ.q (YldS.yld (y_loadR (k := 0) (i := (Int.toNat b39)) (off := 0) (u := .int .i64 e41) rfl Try.isAgg2 rfl (idx_get h42) rfl)) rfl ?_
                        refine SJ.nil ?_
                        refine PJ.draw ?_
                        refine RJ.step1 11 [] (by kernel_rfl) ⟨List.nodup_nil, rfl⟩ ?_
                        refine RO.of (listed' := #[true, true, true, true, true, true, true, true, true, true, true, true, false, false, false, false]) rfl rfl ?_
                        refine SJ.q (YldS.yld (y_loadR (k := 0) (i := (Int.toNat a38)) (off := 0) (u := .int .i64 e43) rfl Try.isAgg2 rfl (idx_get h44) rfl)) rfl ?_
                        refine SJ.nil ?_
                        refine PJ.draw ?_
                        exact RJ.weak (hD49 ()) [0] ⟨rfl, rfl, rfl, rfl, rfl, rfl, rfl, rfl, rfl, trivial⟩ ⟨by decide, rfl⟩
                      · refine RO.of (listed' := #[true, true, true, true, true, true, true, false, true, true, true, true, false, false, false, false]) rfl rfl ?_
                        refine SJ.q (YldS.yld (y_loadR (k := 0) (i := (Int.toNat a38)) (off := 0) (u := .int .i64 e43) rfl Try.isAgg2 rfl (idx_get h44) rfl)) rfl ?_
                        refine SJ.nil ?_
                        refine PJ.draw ?_
                        refine RJ.step1 7 [] (by kernel_rfl) ⟨List.nodup_nil, rfl⟩ ?_
                        refine RO.of (listed' := #[true, true, true, true, true, true, true, true, true, true, true, true, false, false, false, false]) rfl rfl ?_
                        refine SJ.q (YldS.yld (y_loadR (k := 0) (i := (Int.toNat b39)) (off := 0) (u := .int .i64 e41) rfl Try.isAgg2 rfl (idx_get h42) rfl)) rfl ?_
                        refine SJ.nil ?_
                        refine PJ.draw ?_
                        exact RJ.weak (hD49 ()) [0] ⟨rfl, rfl, rfl, rfl, rfl, rfl, rfl, rfl, rfl, trivial⟩ ⟨by decide, rfl⟩
                  · refine RO.of (listed' := #[true, true, true, true, true, true, false, false, true, true, true, false, false, false, false, false]) rfl rfl ?_
                    refine SJ.q (YldS.yld (y_ixRow (k := 0) (R := fI64) rfl Try.runUnderlying25 Try.sizeOf2 rfl rfl h44)) rfl ?_
                    refine SJ.nil ?_
                    refine PJ.draw ?_
                    refine RJ.step2 6 11 [] (by kernel_rfl) ⟨List.nodup_nil, rfl⟩ ?_ ?_
                    · refine RO.of (listed' := #[true, true, true, true, true, true, true, false, true, true, true, false, false, false, false, false]) rfl rfl ?_
                      refine SJ.q (YldS.yld (y_ixRow (k := 0) (R := fI64) rfl Try.runUnderlying25 Try.sizeOf2 rfl rfl h42)) rfl ?_
                      refine SJ.nil ?_
                      refine PJ.draw ?_
                      refine RJ.step2 7 11 [] (by kernel_rfl) ⟨List.nodup_nil, rfl⟩ ?_ ?_
                      · refine RO.of (listed' := #[true, true, true, true, true, true, true, true, true, true, true, false, false, false, false, false]) rfl rfl ?_
                        refine SJ.q (YldS.yld (y_loadR (k := 0) (i := (Int.toNat b39)) (off := 0) (u := .int .i64 e41) rfl Try.isAgg2 rfl (idx_get h42) rfl)) rfl ?_
                        refine SJ.nil ?_
                        refine PJ.draw ?_
                        refine RJ.step1 11 [] (by kernel_rfl) ⟨List.nodup_nil, rfl⟩ ?_
                        refine RO.of (listed' := #[true, true, true, true, true, true, true, true, true, true, true, true, false, false, false, false]) rfl rfl ?_
                        refine SJ.q (YldS.yld (y_loadR (k := 0) (i := (Int.toNat a38)) (off := 0) (u := .int .i64 e43) rfl Try.isAgg2 rfl (idx_get h44) rfl)) rfl ?_
                        refine SJ.nil ?_
                        refine PJ.draw ?_
                        exact RJ.weak (hD49 ()) [0] ⟨rfl, rfl, rfl, rfl, rfl, rfl, rfl, rfl, rfl, trivial⟩ ⟨by decide, rfl⟩
                      · refine RO.of (listed' := #[true, true, true, true, true, true, true, false, true, true, true, true, false, false, false, false]) rfl rfl ?_
                        refine SJ.q (YldS.yld (y_loadR (k := 0) (i := (Int.toNat a38)) (off := 0) (u := .int .i64 e43) rfl Try.isAgg2 rfl (idx_get h44) rfl)) rfl ?_
                        refine SJ.nil ?_
                        refine PJ.draw ?_
                        refine RJ.step1 7 [] (by kernel_rfl) ⟨List.nodup_nil, rfl⟩ ?_
                        refine RO.of (listed' := #[true, true, true, true, true, true, true, true, true, true, true, true, false, false, false, false]) rfl rfl ?_
                        refine SJ.q (YldS.yld (y_loadR (k := 0) (i := (Int.toNat b39)) (off := 0) (u := .int .i64 e41) rfl Try.isAgg2 rfl (idx_get h42) rfl)) rfl ?_
                        refine SJ.nil ?_
                        refine PJ.draw ?_
                        exact RJ.weak (hD49 ()) [0] ⟨rfl, rfl, rfl, rfl, rfl, rfl, rfl, rfl, rfl, trivial⟩ ⟨by decide, rfl⟩
                    · refine RO.of (listed' := #[true, true, true, true, true, true, false, false, true, true, true, true, false, false, false, false]) rfl rfl ?_
                      refine SJ.q (YldS.yld (y_loadR (k := 0) (i := (Int.toNat a38)) (off := 0) (u := .int .i64 e43) rfl Try.isAgg2 rfl (idx_get h44) rfl)) rfl ?_
                      refine SJ.nil ?_
                      refine PJ.draw ?_
                      refine RJ.step1 6 [] (by kernel_rfl) ⟨List.nodup_nil, rfl⟩ ?_
                      refine RO.of (listed' := #[true, true, true, true, true, true, true, false, true, true, true, true, false, false, false, false]) rfl rfl ?_
                      refine SJ.q (YldS.yld (y_ixRow (k := 0) (R := fI64) rfl Try.runUnderlying25 Try.sizeOf2 rfl rfl h42)) rfl ?_
                      refine SJ.nil ?_
                      refine PJ.draw ?_
                      refine RJ.step1 7 [] (by kernel_rfl) ⟨List.nodup_nil, rfl⟩ ?_
                      refine RO.of (listed' := #[true, true, true, true, true, true, true, true, true, true, true, true, false, false, false, false]) rfl rfl ?_
                      refine SJ.q (YldS.yld (y_loadR (k := 0) (i := (Int.toNat b39)) (off := 0) (u := .int .i64 e41) rfl Try.isAgg2 rfl (idx_get h42) rfl)) rfl ?_
                      refine SJ.nil ?_
                      refine PJ.draw ?_
                      exact RJ.weak (hD49 ()) [0] ⟨rfl, rfl, rfl, rfl, rfl, rfl, rfl, rfl, rfl, trivial⟩ ⟨by decide, rfl⟩
              · replace hm := ifF hm hb40
                refine WJ.exit ?_
                refine PJ.then_exit (PJ.then_exit (PJ.block_exit ?_))
                exact PJ.joined l37 [0] hm trivial ⟨by decide, rfl⟩
          · rintro l34 hm
            subst hk36
            refine WJ.seq ?_
            refine WJ.quiet ?_
            refine QJ.step (YldS.yld (y_assign rfl)) rfl ?_
            refine QJ.done ?_
            refine PJ.next ?_
            refine WJ.ret ?_
            obtain rfl := Option.some.inj hm
            refine PJ.sel (L' := [row v2 2 fI64 l34]) [0] ⟨by decide, rfl⟩ ?_
            exact PJ.retn (vs := [.bool true]) Try.results109 ⟨rfl, trivial⟩ ⟨rfl, rfl⟩
        · intro hD33
          refine RJ.step2 6 10 [] (by kernel_rfl) ⟨List.nodup_nil, rfl⟩ ?_ ?_
          · refine RO.of (listed' := #[true, true, true, true, true, true, true, false, true, true, false, false, false, false, false, false]) rfl rfl ?_
            refine SJ.q (YldS.yld (y_ixRow (k := 0) (R := fI64) rfl Try.runUnderlying25 Try.sizeOf2 rfl rfl h26)) rfl ?_
            refine SJ.nil ?_
            refine PJ.draw ?_
            refine RJ.step2 7 10 [] (by kernel_rfl) ⟨List.nodup_nil, rfl⟩ ?_ ?_
            · refine RO.of (listed' := #[true, true, true, true, true, true, true, true, true, true, false, false, false, false, false, false]) rfl rfl ?_
              refine SJ.q (YldS.yld (y_loadR (k := 0) (i := (Int.toNat k16)) (off := 0) (u := .int .i64 e25) rfl Try.isAgg2 rfl (idx_get h26) rfl)) rfl ?_
              refine SJ.nil ?_
              refine PJ.draw ?_
              refine RJ.step1 10 [] (by kernel_rfl) ⟨List.nodup_nil, rfl⟩ ?_
              refine RO.of (listed' := #[true, true, true, true, true, true, true, true, true, true, true, false, false, false, false, false]) rfl rfl ?_
              refine SJ.q (YldS.yld (y_ixRow (k := 0) (R := fI64) rfl Try.runUnderlying25 Try.sizeOf2 rfl rfl h28)) rfl ?_
              refine SJ.nil ?_
              refine PJ.draw ?_
              refine RJ.step1 11 [] (by kernel_rfl) ⟨List.nodup_nil, rfl⟩ ?_
              refine RO.of (listed' := #[true, true, true, true, true, true, true, true, true, true, true, true, false, false, false, false]) rfl rfl ?_
              refine SJ.q (YldS.yld (y_loadR (k := 0) (i := (Int.toNat i3)) (off := 0) (u := .int .i64 e27) rfl Try.isAgg2 rfl (idx_get h28) rfl)) rfl ?_
              refine SJ.nil ?_
              refine PJ.draw ?_
              exact RJ.weak (hD33 ()) [0] ⟨rfl, rfl, rfl, rfl, rfl, rfl, rfl, rfl, trivial⟩ ⟨by decide, rfl⟩
            · refine RO.of (listed' := #[true, true, true, true, true, true, true, false, true, true, true, false, false, false, false, false]) rfl rfl ?_
              refine SJ.q (YldS.yld (y_ixRow (k := 0) (R := fI64) rfl Try.runUnderlying25 Try.sizeOf2 rfl rfl h28)) rfl ?_
              refine SJ.nil ?_
              refine PJ.draw ?_
              refine RJ.step2 7 11 [] (by kernel_rfl) ⟨List.nodup_nil, rfl⟩ ?_ ?_
              · refine RO.of (listed' := #[true, true, true, true, true, true, true, true, true, true, true, false, false, false, false, false]) rfl rfl ?_
                refine SJ.q (YldS.yld (y_loadR (k := 0) (i := (Int.toNat k16)) (off := 0) (u := .int .i64 e25) rfl Try.isAgg2 rfl (idx_get h26) rfl)) rfl ?_
                refine SJ.nil ?_
                refine PJ.draw ?_
                refine RJ.step1 11 [] (by kernel_rfl) ⟨List.nodup_nil, rfl⟩ ?_
                refine RO.of (listed' := #[true, true, true, true, true, true, true, true, true, true, true, true, false, false, false, false]) rfl rfl ?_
                refine SJ.q (YldS.yld (y_loadR (k := 0) (i := (Int.toNat i3)) (off := 0) (u := .int .i64 e27) rfl Try.isAgg2 rfl (idx_get h28) rfl)) rfl ?_
                refine SJ.nil ?_
                refine PJ.draw ?_
                exact RJ.weak (hD33 ()) [0] ⟨rfl, rfl, rfl, rfl, rfl, rfl, rfl, rfl, trivial⟩ ⟨by decide, rfl⟩
              · refine RO.of (listed' := #[true, true, true, true, true, true, true, false, true, true, true, true, false, false, false, false]) rfl rfl ?_
                refine SJ.q (YldS.yld (y_loadR (k := 0) (i := (Int.toNat i3)) (off := 0) (u := .int .i64 e27) rfl Try.isAgg2 rfl (idx_get h28) rfl)) rfl ?_
                refine SJ.nil ?_
                refine PJ.draw ?_
                refine RJ.step1 7 [] (by kernel_rfl) ⟨List.nodup_nil, rfl⟩ ?_
                refine RO.of (listed' := #[true, true, true, true, true, true, true, true, true, true, true, true, false, false, false, false]) rfl rfl ?_
                refine SJ.q (YldS.yld (y_loadR (k := 0) (i := (Int.toNat k16)) (off := 0) (u := .int .i64 e25) rfl Try.isAgg2 rfl (idx_get h26) rfl)) rfl ?_
                refine SJ.nil ?_
                refine PJ.draw ?_
                exact RJ.weak (hD33 ()) [0] ⟨rfl, rfl, rfl, rfl, rfl, rfl, rfl, rfl, trivial⟩ ⟨by decide, rfl⟩
          · refine RO.of (listed' := #[true, true, true, true, true, true, false, false, true, true, true, false, false, false, false, false]) rfl rfl ?_
            refine SJ.q (YldS.yld (y_ixRow (k := 0) (R := fI64) rfl Try.runUnderlying25 Try.sizeOf2 rfl rfl h28)) rfl ?_
            refine SJ.nil ?_
            refine PJ.draw ?_
            refine RJ.step2 6 11 [] (by kernel_rfl) ⟨List.nodup_nil, rfl⟩ ?_ ?_
            · refine RO.of (listed' := #[true, true, true, true, true, true, true, false, true, true, true, false, false, false, false, false]) rfl rfl ?_
              refine SJ.q (YldS.yld (y_ixRow (k := 0) (R := fI64) rfl Try.runUnderlying25 Try.sizeOf2 rfl rfl h26)) rfl ?_
              refine SJ.nil ?_
              refine PJ.draw ?_
              refine RJ.step2 7 11 [] (by kernel_rfl) ⟨List.nodup_nil, rfl⟩ ?_ ?_
              · refine RO.of (listed' := #[true, true, true, true, true, true, true, true, true, true, true, false, false, false, false, false]) rfl rfl ?_
                refine SJ.q (YldS.yld (y_loadR (k := 0) (i := (Int.toNat k16)) (off := 0) (u := .int .i64 e25) rfl Try.isAgg2 rfl (idx_get h26) rfl)) rfl ?_
                refine SJ.nil ?_
                refine PJ.draw ?_
                refine RJ.step1 11 [] (by kernel_rfl) ⟨List.nodup_nil, rfl⟩ ?_
                refine RO.of (listed' := #[true, true, true, true, true, true, true, true, true, true, true, true, false, false, false, false]) rfl rfl ?_
                refine SJ.q (YldS.yld (y_loadR (k := 0) (i := (Int.toNat i3)) (off := 0) (u := .int .i64 e27) rfl Try.isAgg2 rfl (idx_get h28) rfl)) rfl ?_
                refine SJ.nil ?_
                refine PJ.draw ?_
                exact RJ.weak (hD33 ()) [0] ⟨rfl, rfl, rfl, rfl, rfl, rfl, rfl, rfl, trivial⟩ ⟨by decide, rfl⟩
              · refine RO.of (listed' := #[true, true, true, true, true, true, true, false, true, true, true, true, false, false, false, false]) rfl rfl ?_
                refine SJ.q (YldS.yld (y_loadR (k := 0) (i := (Int.toNat i3)) (off := 0) (u := .int .i64 e27) rfl Try.isAgg2 rfl (idx_get h28) rfl)) rfl ?_
                refine SJ.nil ?_
                refine PJ.draw ?_
                refine RJ.step1 7 [] (by kernel_rfl) ⟨List.nodup_nil, rfl⟩ ?_
                refine RO.of (listed' := #[true, true, true, true, true, true, true, true, true, true, true, true, false, false, false, false]) rfl rfl ?_
                refine SJ.q (YldS.yld (y_loadR (k := 0) (i := (Int.toNat k16)) (off := 0) (u := .int .i64 e25) rfl Try.isAgg2 rfl (idx_get h26) rfl)) rfl ?_
                refine SJ.nil ?_
                refine PJ.draw ?_
                exact RJ.weak (hD33 ()) [0] ⟨rfl, rfl, rfl, rfl, rfl, rfl, rfl, rfl, trivial⟩ ⟨by decide, rfl⟩
            · refine RO.of (listed' := #[true, true, true, true, true, true, false, false, true, true, true, true, false, false, false, false]) rfl rfl ?_
              refine SJ.q (YldS.yld (y_loadR (k := 0) (i := (Int.toNat i3)) (off := 0) (u := .int .i64 e27) rfl Try.isAgg2 rfl (idx_get h28) rfl)) rfl ?_
              refine SJ.nil ?_
              refine PJ.draw ?_
              refine RJ.step1 6 [] (by kernel_rfl) ⟨List.nodup_nil, rfl⟩ ?_
              refine RO.of (listed' := #[true, true, true, true, true, true, true, false, true, true, true, true, false, false, false, false]) rfl rfl ?_
              refine SJ.q (YldS.yld (y_ixRow (k := 0) (R := fI64) rfl Try.runUnderlying25 Try.sizeOf2 rfl rfl h26)) rfl ?_
              refine SJ.nil ?_
              refine PJ.draw ?_
              refine RJ.step1 7 [] (by kernel_rfl) ⟨List.nodup_nil, rfl⟩ ?_
              refine RO.of (listed' := #[true, true, true, true, true, true, true, true, true, true, true, true, false, false, false, false]) rfl rfl ?_
              refine SJ.q (YldS.yld (y_loadR (k := 0) (i := (Int.toNat k16)) (off := 0) (u := .int .i64 e25) rfl Try.isAgg2 rfl (idx_get h26) rfl)) rfl ?_
              refine SJ.nil ?_
              refine PJ.draw ?_
              exact RJ.weak (hD33 ()) [0] ⟨rfl, rfl, rfl, rfl, rfl, rfl, rfl, rfl, trivial⟩ ⟨by decide, rfl⟩

set_option maxRecDepth 100000 in
set_option maxHeartbeats 1000000 in
theorem ok_i_BestArrange {N : Nat} {b1 : Basket} {pairs2 : List (List Int)} {r : (List Int) × Int × Int} (hm : i_BestArrange N b1 pairs2 = some r) (w : World) (v3 : Value) (hr4 : RdS w (cx w).Fz v3 (rSl fI64.rp) pairs2) :
    Calls Try.prog 45 #[.agg (Basket.enc b1).toArray, v3] w (RetG (cx w) fun u L => ∃ (u1 : Value), (u = tup [u1, .int .i64 r.2.1, .int .i64 r.2.2] ∧ L = [row u1 2 fI64 r.1])) := by
  unfold i_BestArrange at hm
  refine Calls.enter [.agg (Basket.enc b1).toArray, v3] Try.func45 rfl Try.ntmps45 rfl ?_
  refine WJ.seq ?_
  refine WJ.reg ?_
  refine SJ.box (cs := [.int .i64 b1.bars, .int .i64 b1.rise, .int .i64 b1.fall, .int .i64 b1.clear, .int .i64 b1.near]) rfl rfl rfl fun g5 => ?_
  refine SJ.q (YldS.yld (y_assign rfl)) rfl ?_
  refine SJ.q (YldS.yld (y_assign rfl)) rfl ?_
  refine SJ.q (YldS.yld (y_assign rfl)) rfl ?_
  refine SJ.nil ?_
  refine PJ.next ?_
  refine WJ.seq ?_
  refine WJ.seq ?_
  refine WJ.quiet ?_
  refine QJ.step (YldS.yld (y_loadBN (k := 0) (off := 0) (us := [.int .i64 b1.bars, .int .i64 b1.rise, .int .i64 b1.fall, .int .i64 b1.clear, .int .i64 b1.near]) rfl Try.isAgg66 Try.sizeOf66 rfl rfl)) rfl ?_
  obtain ⟨r6, h7, hm⟩ := bindS hm
  refine QJ.step (y_call Try.call106 rfl (RetG.quiet fun w hw => ok_i_ValidBasket h7 w )) rfl ?_
  refine QJ.step (YldS.yld (y_not rfl)) rfl ?_
  refine QJ.step (YldS.yld (y_move rfl)) rfl ?_
  obtain ⟨t8, h9, hm⟩ := bindS hm
  refine QJ.cut 4 [(1, v3), (2, pt g5 0), (19, .bool t8)] ?_ ?_
  · rcases Bool.eq_false_or_eq_true (!r6) with hb10 | hb10
    · obtain rfl := orT h9 hb10
      refine QJ.off rfl rfl (cB hb10) rfl rfl ?_
      refine QJ.off rfl rfl (cB hb10) rfl rfl ?_
      refine QJ.off rfl rfl (cB hb10) rfl rfl ?_
      refine QJ.step (YldS.yld (y_pick_t (cB hb10) rfl)) rfl ?_
      exact QJ.cut_end ⟨rfl, rfl, rfl, trivial⟩
    · replace h9 := orF h9 hb10
      refine QJ.on rfl rfl (cB hb10) (YldS.yld (y_move rfl)) rfl ?_
      obtain ⟨r11, h12, h9⟩ := bindS h9
      refine QJ.on rfl rfl (cB hb10) (y_call Try.call107 rfl (RetG.quiet fun w hw => ok_i_ValidPairs h12 w _ (hr4.st hw))) rfl ?_
      refine QJ.on rfl rfl (cB hb10) (YldS.yld (y_not rfl)) rfl ?_
      refine QJ.step (YldS.yld (y_pick_f (cB hb10) rfl)) rfl ?_
      obtain rfl := Option.some.inj h9
      exact QJ.cut_end ⟨rfl, rfl, rfl, trivial⟩
  refine QJ.done ?_
  refine PJ.next ?_
  refine WJ.cond (t := t8) rfl (fun hb13 => ?_) (fun hb13 => ?_)
  · replace hm := ifT hm hb13
    refine WJ.seq ?_
    refine WJ.quiet ?_
    refine QJ.step (YldS.yld (y_assign rfl)) rfl ?_
    refine QJ.step (YldS.yld (y_assign rfl)) rfl ?_
    refine QJ.step (YldS.yld (y_assign rfl)) rfl ?_
    refine QJ.done ?_
    refine PJ.next ?_
    refine WJ.ret ?_
    refine PJ.then_ret ?_
    refine PJ.nil_row 2 fI64 ?_
    obtain rfl := Option.some.inj hm
    refine PJ.sel (L' := [row (.slice none 0 0) 2 fI64 []]) [0] ⟨by decide, rfl⟩ ?_
    exact PJ.retn (vs := [(.slice none 0 0), .int .i64 0, .int .i64 1]) Try.results45 ⟨rfl, rfl, rfl, trivial⟩ ⟨_, rfl, rfl⟩
  · replace hm := ifF hm hb13
    refine WJ.skip ?_
    refine PJ.next ?_
    refine WJ.seq ?_
    refine WJ.seq ?_
    refine WJ.quiet ?_
    refine QJ.step (YldS.yld (y_fldB (o := 0) fld66_0 rfl)) rfl ?_
    refine QJ.step (YldS.yld (y_loadB (k := 0) (off := 0) (v := .int .i64 b1.bars) rfl Try.isAgg2 rfl rfl)) rfl ?_
    refine QJ.step (YldS.yld (y_move rfl)) rfl ?_
    refine QJ.step (YldS.yld (y_lenS Try.runUnderlying68 hr4 rfl)) rfl ?_
    refine QJ.step (YldS.yld (y_bin rfl rfl rfl)) rfl ?_
    refine QJ.done ?_
    refine PJ.next ?_
    refine WJ.cond (t := decide (b1.bars < (List.length pairs2 : Int))) rfl (fun hb14 => ?_) (fun hb14 => ?_)
    · replace hm := ifT hm hb14
      refine WJ.seq ?_
      refine WJ.quiet ?_
      refine QJ.step (YldS.yld (y_assign rfl)) rfl ?_
      refine QJ.step (YldS.yld (y_assign rfl)) rfl ?_
      refine QJ.step (YldS.yld (y_assign rfl)) rfl ?_
      refine QJ.done ?_
      refine PJ.next ?_
      refine WJ.ret ?_
      refine PJ.then_ret ?_
      refine PJ.nil_row 2 fI64 ?_
      obtain rfl := Option.some.inj hm
      refine PJ.sel (L' := [row (.slice none 0 0) 2 fI64 []]) [0] ⟨by decide, rfl⟩ ?_
      exact PJ.retn (vs := [(.slice none 0 0), .int .i64 0, .int .i64 5]) Try.results45 ⟨rfl, rfl, rfl, trivial⟩ ⟨_, rfl, rfl⟩
    · replace hm := ifF hm hb14
      refine WJ.skip ?_
      refine PJ.next ?_
      refine WJ.seq ?_
      refine WJ.reg ?_
      refine SJ.buildSlice (R := fI64) (os := []) [] Try.runUnderlying25 Try.sizeOf2 Try.zeroValue2 rfl rfl rfl rfl rfl rfl fun v15 => ?_
      refine SJ.q (YldS.yld (y_assign rfl)) rfl ?_
      refine SJ.nil ?_
      refine PJ.next ?_
      obtain ⟨kj18, hk19, hm⟩ := withK_open hm
      refine WJ.join (X := (List Int) × Value) (fun (x : (List Int) × Value) => kj18 x.1 = some r) (fun (x : (List Int) × Value) => [(1, v3), (2, pt g5 0), (7, x.2)]) (fun (x : (List Int) × Value) => [row x.2 2 fI64 x.1, box g5 66 [.int .i64 b1.bars, .int .i64 b1.rise, .int .i64 b1.fall, .int .i64 b1.clear, .int .i64 b1.near]]) ?_ ?_
      · clear hk19
        refine WJ.seq ?_
        refine WJ.quiet ?_
        refine QJ.step (YldS.yld (y_move rfl)) rfl ?_
        refine QJ.step (YldS.yld (y_lenS Try.runUnderlying68 hr4 rfl)) rfl ?_
        refine QJ.step (YldS.yld (y_move rfl)) rfl ?_
        refine QJ.done ?_
        refine PJ.next ?_
        refine WJ.block ?_
        refine WJ.sel (L' := (fun (x : (List Int) × Value × Int) => [row x.2.1 2 fI64 x.1, box g5 66 [.int .i64 b1.bars, .int .i64 b1.rise, .int .i64 b1.fall, .int .i64 b1.clear, .int .i64 b1.near]]) ([], v15, 0)) [0, 1] ⟨by decide, rfl⟩ ?_
        refine WJ.sub (m' := (fun (x : (List Int) × Value × Int) => [(1, v3), (2, pt g5 0), (7, x.2.1), (27, .int .i64 (List.length pairs2 : Int)), (28, .int .i64 x.2.2)]) ([], v15, 0)) ⟨rfl, rfl, rfl, rfl, rfl, trivial⟩ ?_
        refine WJ.loop (X := (List Int) × Value × Int) (fun N (x : (List Int) × Value × Int) => i_BestArrange_l1 kj18 pairs2 N x.1 x.2.2 = some r) (fun (x : (List Int) × Value × Int) => [(1, v3), (2, pt g5 0), (7, x.2.1), (27, .int .i64 (List.length pairs2 : Int)), (28, .int .i64 x.2.2)]) (fun (x : (List Int) × Value × Int) => [row x.2.1 2 fI64 x.1, box g5 66 [.int .i64 b1.bars, .int .i64 b1.rise, .int .i64 b1.fall, .int .i64 b1.clear, .int .i64 b1.near]]) ?_ N ([], v15, 0) hm
        · rintro N ⟨l20, v21, x22⟩ hI
          have hm := hI; clear hI
          cases N with
          | zero => cases hm
          | succ N =>
          unfold i_BestArrange_l1 at hm
          refine WJ.seq ?_
          refine WJ.quiet ?_
          refine QJ.step (YldS.yld (y_bin rfl rfl rfl)) rfl ?_
          refine QJ.done ?_
          refine PJ.next ?_
          refine WJ.seq ?_
          refine WJ.cond (t := decide (x22 < (List.length pairs2 : Int))) rfl (fun hb23 => ?_) (fun hb23 => ?_)
          · replace hm := ifT hm hb23
            refine WJ.skip ?_
            refine PJ.next ?_
            refine WJ.seq ?_
            refine WJ.block ?_
            refine WJ.seq ?_
            refine WJ.quiet ?_
            refine QJ.step (YldS.yld (y_move rfl)) rfl ?_
            refine QJ.step (YldS.yld (y_assign rfl)) rfl ?_
            refine QJ.done ?_
            refine PJ.next ?_
            refine WJ.reg ?_
            refine SJ.q (YldS.yld (y_move rfl)) rfl ?_
            refine SJ.q (YldS.yld (y_move rfl)) rfl ?_
            refine SJ.buildSlice (R := fI64) (os := [.tmp 32]) [x22] Try.runUnderlying25 Try.sizeOf2 Try.zeroValue2 rfl rfl rfl rfl rfl rfl fun v24 => ?_
            obtain ⟨l25, h26, hm⟩ := bindS hm
            refine SJ.append (k := 1) (R := fI64) h26 rfl Try.underlying25 el2 rfl rfl rfl (fun w hw => (hw.row_rd (k := 0) rfl)) rfl fun v27 => ?_
            refine SJ.q (YldS.yld (y_assign rfl)) rfl ?_
            refine SJ.nil ?_
            refine PJ.block_normal (PJ.next ?_)
            refine WJ.quiet ?_
            refine QJ.step (YldS.yld (y_bin rfl rfl rfl)) rfl ?_
            refine QJ.step (YldS.yld (y_move rfl)) rfl ?_
            refine QJ.done ?_
            exact PJ.round (l25, v27, w64 (x22 + 1)) [1, 2] hm ⟨rfl, rfl, rfl, rfl, rfl, trivial⟩ ⟨by decide, rfl⟩
          · replace hm := ifF hm hb23
            refine WJ.exit ?_
            refine PJ.then_exit (PJ.then_exit (PJ.block_exit ?_))
            exact PJ.joined (l20, v21) [0, 1] hm ⟨rfl, rfl, rfl, trivial⟩ ⟨by decide, rfl⟩
      · rintro ⟨l16, v17⟩ hm
        subst hk19
        refine WJ.seq ?_
        refine WJ.reg ?_
        refine SJ.buildSlice (R := fI64) (os := []) [] Try.runUnderlying25 Try.sizeOf2 Try.zeroValue2 rfl rfl rfl rfl rfl rfl fun v28 => ?_
        refine SJ.q (YldS.yld (y_move rfl)) rfl ?_
        obtain ⟨l29, h30, hm⟩ := bindS hm
        refine SJ.append (k := 0) (R := fI64) h30 rfl Try.underlying25 el2 rfl rfl rfl (fun w hw => (hw.row_rd (k := 1) rfl)) rfl fun v31 => ?_
        refine SJ.q (YldS.yld (y_assign rfl)) rfl ?_
        refine SJ.nil ?_
        refine PJ.next ?_
        refine WJ.seq ?_
        refine WJ.quiet ?_
        refine QJ.step (YldS.yld (y_loadBN (k := 2) (off := 0) (us := [.int .i64 b1.bars, .int .i64 b1.rise, .int .i64 b1.fall, .int .i64 b1.clear, .int .i64 b1.near]) rfl Try.isAgg66 Try.sizeOf66 rfl rfl)) rfl ?_
        refine QJ.step (YldS.yld (y_move rfl)) rfl ?_
        refine QJ.step (YldS.yld (y_move rfl)) rfl ?_
        obtain ⟨r32, h33, hm⟩ := bindS hm
        refine QJ.step (y_call Try.call108 rfl (RetG.quiet fun w hw => ok_i_Basket_cost h33 w _ (hr4.st hw) _ (hw.row_rd (k := 1) rfl))) rfl ?_
        refine QJ.step (YldS.yld (y_assign rfl)) rfl ?_
        refine QJ.done ?_
        refine PJ.next ?_
        obtain ⟨kj37, hk38, hm⟩ := withK_open hm
        refine WJ.join (X := (List Int) × Value × Int) (fun (x : (List Int) × Value × Int) => kj37 x.1 x.2.2 = some r) (fun (x : (List Int) × Value × Int) => [(9, x.2.1), (10, .int .i64 x.2.2)]) (fun (x : (List Int) × Value × Int) => [row x.2.1 2 fI64 x.1]) ?_ ?_
        · clear hk38
          refine WJ.block ?_
          refine WJ.sel (L' := (fun (x : (List Int) × Value × (List Int) × Int) => [row x.2.1 2 fI64 x.1, row v17 2 fI64 x.2.2.1, box g5 66 [.int .i64 b1.bars, .int .i64 b1.rise, .int .i64 b1.fall, .int .i64 b1.clear, .int .i64 b1.near]]) (l29, v31, l16, r32)) [0, 1, 2] ⟨by decide, rfl⟩ ?_
          refine WJ.sub (m' := (fun (x : (List Int) × Value × (List Int) × Int) => [(1, v3), (2, pt g5 0), (7, v17), (9, x.2.1), (10, .int .i64 x.2.2.2)]) (l29, v31, l16, r32)) ⟨rfl, rfl, rfl, rfl, rfl, trivial⟩ ?_
          refine WJ.loop (X := (List Int) × Value × (List Int) × Int) (fun N (x : (List Int) × Value × (List Int) × Int) => i_BestArrange_l2 kj37 b1 pairs2 N x.1 x.2.2.1 x.2.2.2 = some r) (fun (x : (List Int) × Value × (List Int) × Int) => [(1, v3), (2, pt g5 0), (7, v17), (9, x.2.1), (10, .int .i64 x.2.2.2)]) (fun (x : (List Int) × Value × (List Int) × Int) => [row x.2.1 2 fI64 x.1, row v17 2 fI64 x.2.2.1, box g5 66 [.int .i64 b1.bars, .int .i64 b1.rise, .int .i64 b1.fall, .int .i64 b1.clear, .int .i64 b1.near]]) ?_ N (l29, v31, l16, r32) hm
          · rintro N ⟨l39, v40, l41, least42⟩ hI
            have hm := hI; clear hI
            cases N with
            | zero => cases hm
            | succ N =>
            unfold i_BestArrange_l2 at hm
            refine WJ.seq ?_
            refine WJ.seq ?_
            refine WJ.reg ?_
            refine SJ.q (YldS.yld (y_move rfl)) rfl ?_
            obtain ⟨r43, h44, hm⟩ := bindS hm
            refine SJ.call1 (k := 1) rfl Try.call109 rfl (fun w S hw hA hO => ok_i_nextPermutation h44 w S  hA) rfl ?_
            rintro _ _ ⟨rfl, rfl⟩
            refine SJ.nil ?_
            refine PJ.next ?_
            refine WJ.cond (t := r43.1) rfl (fun hb45 => ?_) (fun hb45 => ?_)
            · replace hm := ifT hm hb45
              refine WJ.skip ?_
              refine PJ.next ?_
              refine WJ.block ?_
              refine WJ.seq ?_
              refine WJ.quiet ?_
              refine QJ.step (YldS.yld (y_loadBN (k := 2) (off := 0) (us := [.int .i64 b1.bars, .int .i64 b1.rise, .int .i64 b1.fall, .int .i64 b1.clear, .int .i64 b1.near]) rfl Try.isAgg66 Try.sizeOf66 rfl rfl)) rfl ?_
              refine QJ.step (YldS.yld (y_move rfl)) rfl ?_
              refine QJ.step (YldS.yld (y_move rfl)) rfl ?_
              obtain ⟨r46, h47, hm⟩ := bindS hm
              refine QJ.step (y_call Try.call108 rfl (RetG.quiet fun w hw => ok_i_Basket_cost h47 w _ (hr4.st hw) _ (hw.row_rd (k := 0) rfl))) rfl ?_
              refine QJ.step (YldS.yld (y_assign rfl)) rfl ?_
              refine QJ.done ?_
              refine PJ.next ?_
              refine WJ.seq ?_
              refine WJ.quiet ?_
              refine QJ.step (YldS.yld (y_move rfl)) rfl ?_
              refine QJ.step (YldS.yld (y_move rfl)) rfl ?_
              refine QJ.step (YldS.yld (y_bin rfl rfl rfl)) rfl ?_
              refine QJ.done ?_
              refine PJ.next ?_
              refine WJ.cond (t := decide (r46 < least42)) rfl (fun hb48 => ?_) (fun hb48 => ?_)
              · replace hm := ifT hm hb48
                refine WJ.reg ?_
                refine SJ.buildSlice (R := fI64) (os := []) [] Try.runUnderlying25 Try.sizeOf2 Try.zeroValue2 rfl rfl rfl rfl rfl rfl fun v49 => ?_
                refine SJ.q (YldS.yld (y_move rfl)) rfl ?_
                obtain ⟨l50, h51, hm⟩ := bindS hm
                refine SJ.append (k := 0) (R := fI64) h51 rfl Try.underlying25 el2 rfl rfl rfl (fun w hw => (hw.row_rd (k := 1) rfl)) rfl fun v52 => ?_
                refine SJ.q (YldS.yld (y_move rfl)) rfl ?_
                refine SJ.q (YldS.yld (y_assign rfl)) rfl ?_
                refine SJ.q (YldS.yld (y_assign rfl)) rfl ?_
                refine SJ.nil ?_
                refine PJ.block_normal ?_
                exact PJ.round (l50, v52, r43.2, r46) [0, 1, 3] hm ⟨rfl, rfl, rfl, rfl, rfl, trivial⟩ ⟨by decide, rfl⟩
              · replace hm := ifF hm hb48
                refine WJ.skip ?_
                refine PJ.block_normal ?_
                exact PJ.round (l39, v40, r43.2, least42) [1, 0, 2] hm ⟨rfl, rfl, rfl, rfl, rfl, trivial⟩ ⟨by decide, rfl⟩
            · replace hm := ifF hm hb45
              refine WJ.exit ?_
              refine PJ.then_exit (PJ.then_exit (PJ.block_exit ?_))
              exact PJ.joined (l39, v40, least42) [1] hm ⟨rfl, rfl, trivial⟩ ⟨by decide, rfl⟩
        · rintro ⟨l34, v35, least36⟩ hm
          subst hk38
          refine WJ.seq ?_
          refine WJ.quiet ?_
          refine QJ.step (YldS.yld (y_move rfl)) rfl ?_
          refine QJ.step (YldS.yld (y_move rfl)) rfl ?_
          refine QJ.step (YldS.yld (y_assign rfl)) rfl ?_
          refine QJ.step (YldS.yld (y_assign rfl)) rfl ?_
          refine QJ.step (YldS.yld (y_assign rfl)) rfl ?_
          refine QJ.done ?_
          refine PJ.next ?_
          refine WJ.ret ?_
          obtain rfl := Option.some.inj hm
          refine PJ.sel (L' := [row v35 2 fI64 l34]) [0] ⟨by decide, rfl⟩ ?_
          exact PJ.retn (vs := [v35, .int .i64 least36, .int .i64 0]) Try.results45 ⟨rfl, rfl, rfl, trivial⟩ ⟨_, rfl, rfl⟩

set_option maxRecDepth 100000 in
set_option maxHeartbeats 1000000 in
theorem ok_i_Basket_hasBar {b1 : Basket} {bar2 : Int} {r : Bool} (hm : i_Basket_hasBar b1 bar2 = some r) (w : World)  :
    Calls Try.prog 179 #[.agg (Basket.enc b1).toArray, .int .i64 bar2] w (Ret (cx w) (.bool r)) := by
  unfold i_Basket_hasBar at hm
  refine Calls.enter [.agg (Basket.enc b1).toArray, .int .i64 bar2] Try.func179 rfl Try.ntmps179 rfl ?_
  refine WJ.seq ?_
  refine WJ.reg ?_
  refine SJ.box (cs := [.int .i64 b1.bars, .int .i64 b1.rise, .int .i64 b1.fall, .int .i64 b1.clear, .int .i64 b1.near]) rfl rfl rfl fun g3 => ?_
  refine SJ.q (YldS.yld (y_assign rfl)) rfl ?_
  refine SJ.nil ?_
  refine PJ.next ?_
  refine WJ.seq ?_
  refine WJ.quiet ?_
  refine QJ.step (YldS.yld (y_move rfl)) rfl ?_
  refine QJ.step (YldS.yld (y_fldB (o := 0) fld66_0 rfl)) rfl ?_
  refine QJ.step (YldS.yld (y_loadB (k := 0) (off := 0) (v := .int .i64 b1.bars) rfl Try.isAgg2 rfl rfl)) rfl ?_
  refine QJ.step (YldS.yld (y_bin rfl rfl rfl)) rfl ?_
  obtain ⟨r4, h5, hm⟩ := bindS hm
  refine QJ.step (y_call Try.call118 rfl (RetG.quiet fun w hw => ok_i_between h5 w )) rfl ?_
  refine QJ.step (YldS.yld (y_assign rfl)) rfl ?_
  refine QJ.done ?_
  refine PJ.next ?_
  refine WJ.ret ?_
  obtain rfl := Option.some.inj hm
  refine PJ.sel (L' := []) [] ⟨List.nodup_nil, rfl⟩ ?_
  exact PJ.retn (vs := [.bool r4]) Try.results179 ⟨rfl, trivial⟩ ⟨rfl, rfl⟩

set_option maxRecDepth 100000 in
set_option maxHeartbeats 1000000 in
theorem ok_i_Basket_arranges {N : Nat} {b1 : Basket} {places2 : List Int} {least5 : Int} {most6 : Int} {r : Bool} (hm : i_Basket_arranges N b1 places2 least5 most6 = some r) (w : World) (v3 : Value) (hr4 : RdS w (cx w).Fz v3 fI64.rp places2) :
    Calls Try.prog 155 #[.agg (Basket.enc b1).toArray, v3, .int .i64 least5, .int .i64 most6] w (Ret (cx w) (.bool r)) := by
  unfold i_Basket_arranges at hm
  refine Calls.enter [.agg (Basket.enc b1).toArray, v3, .int .i64 least5, .int .i64 most6] Try.func155 rfl Try.ntmps155 rfl ?_
  refine WJ.seq ?_
  refine WJ.reg ?_
  refine SJ.box (cs := [.int .i64 b1.bars, .int .i64 b1.rise, .int .i64 b1.fall, .int .i64 b1.clear, .int .i64 b1.near]) rfl rfl rfl fun g7 => ?_
  refine SJ.q (YldS.yld (y_assign rfl)) rfl ?_
  refine SJ.nil ?_
  refine PJ.next ?_
  refine WJ.seq ?_
  refine WJ.seq ?_
  refine WJ.quiet ?_
  refine QJ.step (YldS.yld (y_move rfl)) rfl ?_
  refine QJ.step (YldS.yld (y_lenS Try.runUnderlying25 hr4 rfl)) rfl ?_
  refine QJ.step (YldS.yld (y_move rfl)) rfl ?_
  refine QJ.step (YldS.yld (y_bin rfl rfl rfl)) rfl ?_
  refine QJ.step (YldS.yld (y_move rfl)) rfl ?_
  obtain ⟨t8, h9, hm⟩ := bindS hm
  refine QJ.cut 5 [(1, v3), (4, pt g7 0), (21, .bool t8)] ?_ ?_
  · rcases Bool.eq_false_or_eq_true (decide ((List.length places2 : Int) < least5)) with hb10 | hb10
    · obtain rfl := orT h9 hb10
      refine QJ.off rfl rfl (cB hb10) rfl rfl ?_
      refine QJ.off rfl rfl (cB hb10) rfl rfl ?_
      refine QJ.off rfl rfl (cB hb10) rfl rfl ?_
      refine QJ.off rfl rfl (cB hb10) rfl rfl ?_
      refine QJ.step (YldS.yld (y_pick_t (cB hb10) rfl)) rfl ?_
      exact QJ.cut_end ⟨rfl, rfl, rfl, trivial⟩
    · replace h9 := orF h9 hb10
      refine QJ.on rfl rfl (cB hb10) (YldS.yld (y_move rfl)) rfl ?_
      refine QJ.on rfl rfl (cB hb10) (YldS.yld (y_lenS Try.runUnderlying25 hr4 rfl)) rfl ?_
      refine QJ.on rfl rfl (cB hb10) (YldS.yld (y_move rfl)) rfl ?_
      refine QJ.on rfl rfl (cB hb10) (YldS.yld (y_bin rfl rfl rfl)) rfl ?_
      refine QJ.step (YldS.yld (y_pick_f (cB hb10) rfl)) rfl ?_
      obtain rfl := Option.some.inj h9
      exact QJ.cut_end ⟨rfl, rfl, rfl, trivial⟩
  refine QJ.done ?_
  refine PJ.next ?_
  refine WJ.cond (t := t8) rfl (fun hb11 => ?_) (fun hb11 => ?_)
  · replace hm := ifT hm hb11
    refine WJ.seq ?_
    refine WJ.quiet ?_
    refine QJ.step (YldS.yld (y_assign rfl)) rfl ?_
    refine QJ.done ?_
    refine PJ.next ?_
    refine WJ.ret ?_
    refine PJ.then_ret ?_
    obtain rfl := Option.some.inj hm
    refine PJ.sel (L' := []) [] ⟨List.nodup_nil, rfl⟩ ?_
    exact PJ.retn (vs := [.bool false]) Try.results155 ⟨rfl, trivial⟩ ⟨rfl, rfl⟩
  · replace hm := ifF hm hb11
    refine WJ.skip ?_
    refine PJ.next ?_
    refine WJ.seq ?_
    refine WJ.reg ?_
    refine SJ.makeMapI rfl fun g12 => ?_
    refine SJ.q (YldS.yld (y_assign rfl)) rfl ?_
    refine SJ.nil ?_
    refine PJ.next ?_
    obtain ⟨kj13, hk14, hm⟩ := withK_open hm
    refine WJ.join (X := Unit) (fun (_ : Unit) => kj13  = some r) (fun (_ : Unit) => []) (fun (_ : Unit) => []) ?_ ?_
    · clear hk14
      refine WJ.seq ?_
      refine WJ.quiet ?_
      refine QJ.step (YldS.yld (y_move rfl)) rfl ?_
      refine QJ.step (YldS.yld (y_lenS Try.runUnderlying25 hr4 rfl)) rfl ?_
      refine QJ.step (YldS.yld (y_move rfl)) rfl ?_
      refine QJ.done ?_
      refine PJ.next ?_
      refine WJ.block ?_
      refine WJ.sel (L' := (fun (x : (List (Int × Bool)) × Int) => [mpI g12 x.1, box g7 66 [.int .i64 b1.bars, .int .i64 b1.rise, .int .i64 b1.fall, .int .i64 b1.clear, .int .i64 b1.near]]) ([], 0)) [0, 1] ⟨by decide, rfl⟩ ?_
      refine WJ.sub (m' := (fun (x : (List (Int × Bool)) × Int) => [(4, pt g7 0), (9, .map (some g12)), (23, v3), (24, .int .i64 (List.length places2 : Int)), (25, .int .i64 x.2)]) ([], 0)) ⟨rfl, rfl, rfl, rfl, rfl, trivial⟩ ?_
      refine WJ.loop (X := (List (Int × Bool)) × Int) (fun N (x : (List (Int × Bool)) × Int) => i_Basket_arranges_l1 kj13 b1 places2 N x.1 x.2 = some r) (fun (x : (List (Int × Bool)) × Int) => [(4, pt g7 0), (9, .map (some g12)), (23, v3), (24, .int .i64 (List.length places2 : Int)), (25, .int .i64 x.2)]) (fun (x : (List (Int × Bool)) × Int) => [mpI g12 x.1, box g7 66 [.int .i64 b1.bars, .int .i64 b1.rise, .int .i64 b1.fall, .int .i64 b1.clear, .int .i64 b1.near]]) ?_ N ([], 0) hm
      · rintro N ⟨mp15, x16⟩ hI
        have hm := hI; clear hI
        cases N with
        | zero => cases hm
        | succ N =>
        unfold i_Basket_arranges_l1 at hm
        refine WJ.seq ?_
        refine WJ.quiet ?_
        refine QJ.step (YldS.yld (y_bin rfl rfl rfl)) rfl ?_
        refine QJ.done ?_
        refine PJ.next ?_
        refine WJ.seq ?_
        refine WJ.cond (t := decide (x16 < (List.length places2 : Int))) rfl (fun hb17 => ?_) (fun hb17 => ?_)
        · replace hm := ifT hm hb17
          refine WJ.skip ?_
          refine PJ.next ?_
          refine WJ.seq ?_
          refine WJ.block ?_
          refine WJ.seq ?_
          refine WJ.quiet ?_
          obtain ⟨e18, h19, hm⟩ := bindS hm
          obtain ⟨ad20, _, rfl, ha21, hy22⟩ := hr4.elem h19
          refine QJ.step (YldS.yld (hy22 Try.runUnderlying25 Try.sizeOf2 rfl rfl)) rfl ?_
          refine QJ.step (YldS.yld (y_load1 (v := .int .i64 e18) Try.isAgg2 ha21 St.frozenC rfl)) rfl ?_
          refine QJ.step (YldS.yld (y_assign rfl)) rfl ?_
          refine QJ.done ?_
          refine PJ.next ?_
          refine WJ.seq ?_
          refine WJ.seq ?_
          refine WJ.quiet ?_
          refine QJ.step (YldS.yld (y_loadBN (k := 1) (off := 0) (us := [.int .i64 b1.bars, .int .i64 b1.rise, .int .i64 b1.fall, .int .i64 b1.clear, .int .i64 b1.near]) rfl Try.isAgg66 Try.sizeOf66 rfl rfl)) rfl ?_
          refine QJ.step (YldS.yld (y_move rfl)) rfl ?_
          obtain ⟨r23, h24, hm⟩ := bindS hm
          refine QJ.step (y_call Try.call179 rfl (RetG.quiet fun w hw => ok_i_Basket_hasBar h24 w )) rfl ?_
          refine QJ.step (YldS.yld (y_not rfl)) rfl ?_
          refine QJ.step (YldS.yld (y_move rfl)) rfl ?_
          obtain ⟨t25, h26, hm⟩ := bindS hm
          refine QJ.cut 4 [(4, pt g7 0), (9, .map (some g12)), (11, .int .i64 e18), (23, v3), (24, .int .i64 (List.length places2 : Int)), (25, .int .i64 x16), (37, .bool t25)] ?_ ?_
          · rcases Bool.eq_false_or_eq_true (!r23) with hb27 | hb27
            · obtain rfl := orT h26 hb27
              refine QJ.off rfl rfl (cB hb27) rfl rfl ?_
              refine QJ.off rfl rfl (cB hb27) rfl rfl ?_
              refine QJ.off rfl rfl (cB hb27) rfl rfl ?_
              refine QJ.step (YldS.yld (y_pick_t (cB hb27) rfl)) rfl ?_
              exact QJ.cut_end ⟨rfl, rfl, rfl, rfl, rfl, rfl, rfl, trivial⟩
            · replace h26 := orF h26 hb27
              refine QJ.on rfl rfl (cB hb27) (YldS.yld (y_move rfl)) rfl ?_
              refine QJ.on rfl rfl (cB hb27) (YldS.yld (y_move rfl)) rfl ?_
              refine QJ.on rfl rfl (cB hb27) (YldS.yld (y_lookupIB (k := 0) rfl Try.underlying199 Try.underlying2 Try.zeroValue4 rfl rfl)) rfl ?_
              refine QJ.step (YldS.yld (y_pick_f (cB hb27) rfl)) rfl ?_
              obtain rfl := Option.some.inj h26
              exact QJ.cut_end ⟨rfl, rfl, rfl, rfl, rfl, rfl, rfl, trivial⟩
          refine QJ.done ?_
          refine PJ.next ?_
          refine WJ.cond (t := t25) rfl (fun hb28 => ?_) (fun hb28 => ?_)
          · replace hm := ifT hm hb28
            refine WJ.seq ?_
            refine WJ.quiet ?_
            refine QJ.step (YldS.yld (y_assign rfl)) rfl ?_
            refine QJ.done ?_
            refine PJ.next ?_
            refine WJ.ret ?_
            refine PJ.then_ret (PJ.block_ret (PJ.then_ret (PJ.then_ret (PJ.block_ret (PJ.then_ret ?_)))))
            obtain rfl := Option.some.inj hm
            refine PJ.sel (L' := []) [] ⟨List.nodup_nil, rfl⟩ ?_
            exact PJ.retn (vs := [.bool false]) Try.results155 ⟨rfl, trivial⟩ ⟨rfl, rfl⟩
          · replace hm := ifF hm hb28
            refine WJ.skip ?_
            refine PJ.next ?_
            refine WJ.reg ?_
            refine SJ.q (YldS.yld (y_move rfl)) rfl ?_
            refine SJ.q (YldS.yld (y_move rfl)) rfl ?_
            refine SJ.mapUpdateIB (k := 0) Try.underlying199 Try.underlying2 rfl rfl rfl rfl ?_
            refine SJ.nil ?_
            refine PJ.block_normal (PJ.next ?_)
            refine WJ.quiet ?_
            refine QJ.step (YldS.yld (y_bin rfl rfl rfl)) rfl ?_
            refine QJ.step (YldS.yld (y_move rfl)) rfl ?_
            refine QJ.done ?_
            exact PJ.round (msetI mp15 e18 true, w64 (x16 + 1)) [0, 1] hm ⟨rfl, rfl, rfl, rfl, rfl, trivial⟩ ⟨by decide, rfl⟩
        · replace hm := ifF hm hb17
          refine WJ.exit ?_
          refine PJ.then_exit (PJ.then_exit (PJ.block_exit ?_))
          exact PJ.joined () [] hm trivial ⟨List.nodup_nil, rfl⟩
    · rintro _ hm
      subst hk14
      refine WJ.seq ?_
      refine WJ.quiet ?_
      refine QJ.step (YldS.yld (y_assign rfl)) rfl ?_
      refine QJ.done ?_
      refine PJ.next ?_
      refine WJ.ret ?_
      obtain rfl := Option.some.inj hm
      refine PJ.sel (L' := []) [] ⟨List.nodup_nil, rfl⟩ ?_
      exact PJ.retn (vs := [.bool true]) Try.results155 ⟨rfl, trivial⟩ ⟨rfl, rfl⟩

set_option maxRecDepth 100000 in
set_option maxHeartbeats 1000000 in
theorem ok_i_arrangeCode {N : Nat} {b1 : Basket} {pairs2 : List (List Int)} {places5 : List Int} {r : Int} (hm : i_arrangeCode N b1 pairs2 places5 = some r) (w : World) (v3 : Value) (hr4 : RdS w (cx w).Fz v3 (rSl fI64.rp) pairs2) (v6 : Value) (hr7 : RdS w (cx w).Fz v6 fI64.rp places5) :
    Calls Try.prog 110 #[.agg (Basket.enc b1).toArray, v3, v6] w (Ret (cx w) (.int .i64 r)) := by
  unfold i_arrangeCode at hm
  refine Calls.enter [.agg (Basket.enc b1).toArray, v3, v6] Try.func110 rfl Try.ntmps110 rfl ?_
  refine WJ.seq ?_
  refine WJ.reg ?_
  refine SJ.box (cs := [.int .i64 b1.bars, .int .i64 b1.rise, .int .i64 b1.fall, .int .i64 b1.clear, .int .i64 b1.near]) rfl rfl rfl fun g8 => ?_
  refine SJ.q (YldS.yld (y_assign rfl)) rfl ?_
  refine SJ.nil ?_
  refine PJ.next ?_
  refine WJ.seq ?_
  refine WJ.seq ?_
  refine WJ.quiet ?_
  refine QJ.step (YldS.yld (y_loadBN (k := 0) (off := 0) (us := [.int .i64 b1.bars, .int .i64 b1.rise, .int .i64 b1.fall, .int .i64 b1.clear, .int .i64 b1.near]) rfl Try.isAgg66 Try.sizeOf66 rfl rfl)) rfl ?_
  obtain ⟨r9, h10, hm⟩ := bindS hm
  refine QJ.step (y_call Try.call106 rfl (RetG.quiet fun w hw => ok_i_ValidBasket h10 w )) rfl ?_
  refine QJ.step (YldS.yld (y_not rfl)) rfl ?_
  refine QJ.step (YldS.yld (y_move rfl)) rfl ?_
  obtain ⟨t11, h12, hm⟩ := bindS hm
  refine QJ.cut 4 [(1, v3), (2, v6), (3, pt g8 0), (14, .bool t11)] ?_ ?_
  · rcases Bool.eq_false_or_eq_true (!r9) with hb13 | hb13
    · obtain rfl := orT h12 hb13
      refine QJ.off rfl rfl (cB hb13) rfl rfl ?_
      refine QJ.off rfl rfl (cB hb13) rfl rfl ?_
      refine QJ.off rfl rfl (cB hb13) rfl rfl ?_
      refine QJ.step (YldS.yld (y_pick_t (cB hb13) rfl)) rfl ?_
      exact QJ.cut_end ⟨rfl, rfl, rfl, rfl, trivial⟩
    · replace h12 := orF h12 hb13
      refine QJ.on rfl rfl (cB hb13) (YldS.yld (y_move rfl)) rfl ?_
      obtain ⟨r14, h15, h12⟩ := bindS h12
      refine QJ.on rfl rfl (cB hb13) (y_call Try.call107 rfl (RetG.quiet fun w hw => ok_i_ValidPairs h15 w _ (hr4.st hw))) rfl ?_
      refine QJ.on rfl rfl (cB hb13) (YldS.yld (y_not rfl)) rfl ?_
      refine QJ.step (YldS.yld (y_pick_f (cB hb13) rfl)) rfl ?_
      obtain rfl := Option.some.inj h12
      exact QJ.cut_end ⟨rfl, rfl, rfl, rfl, trivial⟩
  refine QJ.done ?_
  refine PJ.next ?_
  refine WJ.cond (t := t11) rfl (fun hb16 => ?_) (fun hb16 => ?_)
  · replace hm := ifT hm hb16
    refine WJ.seq ?_
    refine WJ.quiet ?_
    refine QJ.step (YldS.yld (y_assign rfl)) rfl ?_
    refine QJ.done ?_
    refine PJ.next ?_
    refine WJ.ret ?_
    refine PJ.then_ret ?_
    obtain rfl := Option.some.inj hm
    refine PJ.sel (L' := []) [] ⟨List.nodup_nil, rfl⟩ ?_
    exact PJ.retn (vs := [.int .i64 1]) Try.results110 ⟨rfl, trivial⟩ ⟨rfl, rfl⟩
  · replace hm := ifF hm hb16
    refine WJ.skip ?_
    refine PJ.next ?_
    refine WJ.seq ?_
    refine WJ.seq ?_
    refine WJ.quiet ?_
    refine QJ.step (YldS.yld (y_loadBN (k := 0) (off := 0) (us := [.int .i64 b1.bars, .int .i64 b1.rise, .int .i64 b1.fall, .int .i64 b1.clear, .int .i64 b1.near]) rfl Try.isAgg66 Try.sizeOf66 rfl rfl)) rfl ?_
    refine QJ.step (YldS.yld (y_move rfl)) rfl ?_
    refine QJ.step (YldS.yld (y_move rfl)) rfl ?_
    refine QJ.step (YldS.yld (y_lenS Try.runUnderlying68 hr4 rfl)) rfl ?_
    refine QJ.step (YldS.yld (y_move rfl)) rfl ?_
    refine QJ.step (YldS.yld (y_lenS Try.runUnderlying68 hr4 rfl)) rfl ?_
    obtain ⟨r17, h18, hm⟩ := bindS hm
    refine QJ.step (y_call Try.call155 rfl (RetG.quiet fun w hw => ok_i_Basket_arranges h18 w _ (hr7.st hw))) rfl ?_
    refine QJ.step (YldS.yld (y_not rfl)) rfl ?_
    refine QJ.done ?_
    refine PJ.next ?_
    refine WJ.cond (t := !r17) rfl (fun hb19 => ?_) (fun hb19 => ?_)
    · replace hm := ifT hm hb19
      refine WJ.seq ?_
      refine WJ.quiet ?_
      refine QJ.step (YldS.yld (y_assign rfl)) rfl ?_
      refine QJ.done ?_
      refine PJ.next ?_
      refine WJ.ret ?_
      refine PJ.then_ret ?_
      obtain rfl := Option.some.inj hm
      refine PJ.sel (L' := []) [] ⟨List.nodup_nil, rfl⟩ ?_
      exact PJ.retn (vs := [.int .i64 2]) Try.results110 ⟨rfl, trivial⟩ ⟨rfl, rfl⟩
    · replace hm := ifF hm hb19
      refine WJ.skip ?_
      refine PJ.next ?_
      refine WJ.seq ?_
      refine WJ.quiet ?_
      refine QJ.step (YldS.yld (y_assign rfl)) rfl ?_
      refine QJ.done ?_
      refine PJ.next ?_
      refine WJ.ret ?_
      obtain rfl := Option.some.inj hm
      refine PJ.sel (L' := []) [] ⟨List.nodup_nil, rfl⟩ ?_
      exact PJ.retn (vs := [.int .i64 0]) Try.results110 ⟨rfl, trivial⟩ ⟨rfl, rfl⟩

set_option maxRecDepth 100000 in
set_option maxHeartbeats 1000000 in
theorem ok_i_ArrangeCost {N : Nat} {b1 : Basket} {pairs2 : List (List Int)} {places5 : List Int} {r : Int × Int} (hm : i_ArrangeCost N b1 pairs2 places5 = some r) (w : World) (v3 : Value) (hr4 : RdS w (cx w).Fz v3 (rSl fI64.rp) pairs2) (v6 : Value) (hr7 : RdS w (cx w).Fz v6 fI64.rp places5) :
    Calls Try.prog 46 #[.agg (Basket.enc b1).toArray, v3, v6] w (Ret (cx w) (tup [.int .i64 r.1, .int .i64 r.2])) := by
  unfold i_ArrangeCost at hm
  refine Calls.enter [.agg (Basket.enc b1).toArray, v3, v6] Try.func46 rfl Try.ntmps46 rfl ?_
  refine WJ.seq ?_
  refine WJ.reg ?_
  refine SJ.box (cs := [.int .i64 b1.bars, .int .i64 b1.rise, .int .i64 b1.fall, .int .i64 b1.clear, .int .i64 b1.near]) rfl rfl rfl fun g8 => ?_
  refine SJ.q (YldS.yld (y_assign rfl)) rfl ?_
  refine SJ.q (YldS.yld (y_assign rfl)) rfl ?_
  refine SJ.nil ?_
  refine PJ.next ?_
  refine WJ.seq ?_
  refine WJ.seq ?_
  refine WJ.quiet ?_
  refine QJ.step (YldS.yld (y_loadBN (k := 0) (off := 0) (us := [.int .i64 b1.bars, .int .i64 b1.rise, .int .i64 b1.fall, .int .i64 b1.clear, .int .i64 b1.near]) rfl Try.isAgg66 Try.sizeOf66 rfl rfl)) rfl ?_
  refine QJ.step (YldS.yld (y_move rfl)) rfl ?_
  refine QJ.step (YldS.yld (y_move rfl)) rfl ?_
  obtain ⟨r9, h10, hm⟩ := bindS hm
  refine QJ.step (y_call Try.call110 rfl (RetG.quiet fun w hw => ok_i_arrangeCode h10 w _ (hr4.st hw) _ (hr7.st hw))) rfl ?_
  refine QJ.step (YldS.yld (y_assign rfl)) rfl ?_
  refine QJ.done ?_
  refine PJ.next ?_
  refine WJ.seq ?_
  refine WJ.quiet ?_
  refine QJ.step (YldS.yld (y_move rfl)) rfl ?_
  refine QJ.step (YldS.yld (y_bin rfl rfl rfl)) rfl ?_
  refine QJ.done ?_
  refine PJ.next ?_
  refine WJ.cond (t := (r9 != 0)) rfl (fun hb11 => ?_) (fun hb11 => ?_)
  · replace hm := ifT hm hb11
    refine WJ.seq ?_
    refine WJ.quiet ?_
    refine QJ.step (YldS.yld (y_move rfl)) rfl ?_
    refine QJ.step (YldS.yld (y_assign rfl)) rfl ?_
    refine QJ.step (YldS.yld (y_assign rfl)) rfl ?_
    refine QJ.done ?_
    refine PJ.next ?_
    refine WJ.ret ?_
    refine PJ.then_ret ?_
    obtain rfl := Option.some.inj hm
    refine PJ.sel (L' := []) [] ⟨List.nodup_nil, rfl⟩ ?_
    exact PJ.retn (vs := [.int .i64 0, .int .i64 r9]) Try.results46 ⟨rfl, rfl, trivial⟩ ⟨rfl, rfl⟩
  · replace hm := ifF hm hb11
    refine WJ.skip ?_
    refine PJ.next ?_
    refine WJ.seq ?_
    refine WJ.quiet ?_
    refine QJ.step (YldS.yld (y_loadBN (k := 0) (off := 0) (us := [.int .i64 b1.bars, .int .i64 b1.rise, .int .i64 b1.fall, .int .i64 b1.clear, .int .i64 b1.near]) rfl Try.isAgg66 Try.sizeOf66 rfl rfl)) rfl ?_
    refine QJ.step (YldS.yld (y_move rfl)) rfl ?_
    refine QJ.step (YldS.yld (y_move rfl)) rfl ?_
    obtain ⟨r12, h13, hm⟩ := bindS hm
    refine QJ.step (y_call Try.call108 rfl (RetG.quiet fun w hw => ok_i_Basket_cost h13 w _ (hr4.st hw) _ (hr7.st hw))) rfl ?_
    refine QJ.step (YldS.yld (y_assign rfl)) rfl ?_
    refine QJ.step (YldS.yld (y_assign rfl)) rfl ?_
    refine QJ.done ?_
    refine PJ.next ?_
    refine WJ.ret ?_
    obtain rfl := Option.some.inj hm
    refine PJ.sel (L' := []) [] ⟨List.nodup_nil, rfl⟩ ?_
    exact PJ.retn (vs := [.int .i64 r12, .int .i64 0]) Try.results46 ⟨rfl, rfl, trivial⟩ ⟨rfl, rfl⟩

set_option maxRecDepth 100000 in
set_option maxHeartbeats 1000000 in
theorem ok_s_l00Own {list1 : List Int} {r : (List Int)} (hm : s_l00Own list1 = some r) (w : World) (v2 : Value) (hr3 : RdS w (cx w).Fz v2 fI64.rp list1) :
    Calls Try.prog 92 #[v2] w (RetG (cx w) fun u L => ∃ (u1 : Value), (u = u1 ∧ L = [row u1 2 fI64 r])) := by
  unfold s_l00Own at hm
  refine Calls.enter [v2] Try.func92 rfl Try.ntmps92 rfl ?_
  refine WJ.seq ?_
  refine WJ.quiet ?_
  refine QJ.step (YldS.yld (y_assign rfl)) rfl ?_
  refine QJ.done ?_
  refine PJ.next ?_
  refine WJ.seq ?_
  refine WJ.reg ?_
  refine SJ.buildSlice (R := fI64) (os := []) [] Try.runUnderlying25 Try.sizeOf2 Try.zeroValue2 rfl rfl rfl rfl rfl rfl fun v4 => ?_
  refine SJ.q (YldS.yld (y_move rfl)) rfl ?_
  obtain ⟨l5, h6, hm⟩ := bindS hm
  refine SJ.append (k := 0) (R := fI64) h6 rfl Try.underlying25 el2 rfl rfl rfl (fun w hw => (hr3.st hw)) rfl fun v7 => ?_
  refine SJ.q (YldS.yld (y_assign rfl)) rfl ?_
  refine SJ.nil ?_
  refine PJ.next ?_
  refine WJ.ret ?_
  obtain rfl := Option.some.inj hm
  refine PJ.sel (L' := [row v7 2 fI64 l5]) [0] ⟨by decide, rfl⟩ ?_
  exact PJ.retn (vs := [v7]) Try.results92 ⟨rfl, trivial⟩ ⟨_, rfl, rfl⟩

set_option maxRecDepth 100000 in
set_option maxHeartbeats 1000000 in
theorem ok_s_A2Places {N : Nat} {code1 : List UInt8} {n4 : Int} {r : (List Int)} (hm : s_A2Places N code1 n4 = some r) (w : World) (v2 : Value) (hr3 : RdS w (cx w).Fz v2 fByte.rp code1) :
    Calls Try.prog 47 #[v2, .int .i64 n4] w (RetG (cx w) fun u L => ∃ (u1 : Value), (u = u1 ∧ L = [row u1 2 fI64 r])) := by
  unfold s_A2Places at hm
  refine Calls.enter [v2, .int .i64 n4] Try.func47 rfl Try.ntmps47 rfl ?_
  refine WJ.seq ?_
  refine WJ.quiet ?_
  refine QJ.step (YldS.yld (y_assign rfl)) rfl ?_
  refine QJ.done ?_
  refine PJ.next ?_
  refine WJ.seq ?_
  refine WJ.reg ?_
  refine SJ.q (YldS.yld (y_move rfl)) rfl ?_
  obtain ⟨r5, h6, hm⟩ := bindS hm
  refine SJ.call Try.call73 rfl (fun w hw => ok_s_l00From h6 w _ (hr3.st hw)) rfl ?_
  rintro _ _ ⟨g7, rfl, rfl⟩
  refine SJ.q (YldS.yld (y_assign rfl)) rfl ?_
  refine SJ.nil ?_
  refine PJ.next ?_
  refine WJ.seq ?_
  refine WJ.reg ?_
  refine SJ.buildSlice (R := fI64) (os := []) [] Try.runUnderlying25 Try.sizeOf2 Try.zeroValue2 rfl rfl rfl rfl rfl rfl fun v8 => ?_
  refine SJ.q (YldS.yld (y_assign rfl)) rfl ?_
  refine SJ.nil ?_
  refine PJ.next ?_
  obtain ⟨kj11, hk12, hm⟩ := withK_open hm
  refine WJ.join (X := (List Int) × Value) (fun (x : (List Int) × Value) => kj11 x.1 = some r) (fun (x : (List Int) × Value) => [(6, x.2)]) (fun (x : (List Int) × Value) => [row x.2 2 fI64 x.1]) ?_ ?_
  · clear hk12
    refine WJ.seq ?_
    refine WJ.quiet ?_
    refine QJ.step (YldS.yld (y_assign rfl)) rfl ?_
    refine QJ.done ?_
    refine PJ.next ?_
    refine WJ.block ?_
    refine WJ.sel (L' := (fun (x : (List Int) × Value × Int × Int × Int) => [row x.2.1 2 fI64 x.1, box g7 157 [v2, .int .i64 x.2.2.1, .int .u64 x.2.2.2.1]]) ([], v8, r5.at_, r5.seed, 0)) [0, 1] ⟨by decide, rfl⟩ ?_
    refine WJ.sub (m' := (fun (x : (List Int) × Value × Int × Int × Int) => [(1, .int .i64 n4), (5, pt g7 0), (6, x.2.1), (7, .int .i64 x.2.2.2.2)]) ([], v8, r5.at_, r5.seed, 0)) ⟨rfl, rfl, rfl, rfl, trivial⟩ ?_
    refine WJ.loop (X := (List Int) × Value × Int × Int × Int) (fun N (x : (List Int) × Value × Int × Int × Int) => s_A2Places_l1 kj11 code1 n4 N x.1 x.2.2.1 x.2.2.2.1 x.2.2.2.2 = some r) (fun (x : (List Int) × Value × Int × Int × Int) => [(1, .int .i64 n4), (5, pt g7 0), (6, x.2.1), (7, .int .i64 x.2.2.2.2)]) (fun (x : (List Int) × Value × Int × Int × Int) => [row x.2.1 2 fI64 x.1, box g7 157 [v2, .int .i64 x.2.2.1, .int .u64 x.2.2.2.1]]) ?_ N ([], v8, r5.at_, r5.seed, 0) hm
    · rintro N ⟨l13, v14, x15, x16, i17⟩ hI
      have hm := hI; clear hI
      cases N with
      | zero => cases hm
      | succ N =>
      unfold s_A2Places_l1 at hm
      refine WJ.seq ?_
      refine WJ.seq ?_
      refine WJ.quiet ?_
      refine QJ.step (YldS.yld (y_move rfl)) rfl ?_
      refine QJ.step (YldS.yld (y_move rfl)) rfl ?_
      refine QJ.step (YldS.yld (y_bin rfl rfl rfl)) rfl ?_
      refine QJ.done ?_
      refine PJ.next ?_
      refine WJ.cond (t := decide (i17 < n4)) rfl (fun hb18 => ?_) (fun hb18 => ?_)
      · replace hm := ifT hm hb18
        refine WJ.skip ?_
        refine PJ.next ?_
        refine WJ.seq ?_
        refine WJ.block ?_
        refine WJ.seq ?_
        refine WJ.reg ?_
        refine SJ.q (YldS.yld (y_move rfl)) rfl ?_
        refine SJ.q (YldS.yld (y_move rfl)) rfl ?_
        refine SJ.q (YldS.yld (y_lenRow (k := 0) rfl Try.runUnderlying25 rfl)) rfl ?_
        refine SJ.q (YldS.yld (y_bin rfl rfl rfl)) rfl ?_
        obtain ⟨r19, h20, hm⟩ := bindS hm
        refine SJ.call1 (k := 1) rfl Try.call104 rfl (fun w S hw hA hO => ok_s_l00Src_pick h20 w S _ (hr3.st1 hw hO) hA) rfl ?_
        rintro _ _ ⟨rfl, rfl⟩
        refine SJ.q (YldS.yld (y_assign rfl)) rfl ?_
        refine SJ.nil ?_
        refine PJ.next ?_
        refine WJ.seq ?_
        refine WJ.reg ?_
        refine SJ.q (YldS.yld (y_move rfl)) rfl ?_
        refine SJ.q (YldS.yld (y_move rfl)) rfl ?_
        obtain ⟨l21, h22, hm⟩ := bindS hm
        refine SJ.q (YldS.yld (y_slcRow (i := none) (j := some r19.1) (k := 1) h22 rfl Try.runUnderlying25 Try.sizeOf2 rfl trivial ⟨_, rfl⟩)) rfl ?_
        obtain ⟨r23, h24, hm⟩ := bindS hm
        refine SJ.call Try.call92 rfl (fun w hw => ok_s_l00Own h24 w _ (hw.slc_rd (k := 1) (i := none) (j := some r19.1) rfl h22)) rfl ?_
        rintro v25 _ ⟨_, rfl, rfl⟩
        refine SJ.q (YldS.yld (y_move rfl)) rfl ?_
        refine SJ.buildSlice (R := fI64) (os := [.tmp 27]) [i17] Try.runUnderlying25 Try.sizeOf2 Try.zeroValue2 rfl rfl rfl rfl rfl rfl fun v26 => ?_
        obtain ⟨l27, h28, hm⟩ := bindS hm
        refine SJ.append (k := 1) (R := fI64) h28 rfl Try.underlying25 el2 rfl rfl rfl (fun w hw => (hw.row_rd (k := 0) rfl)) rfl fun v29 => ?_
        refine SJ.q (YldS.yld (y_assign rfl)) rfl ?_
        refine SJ.nil ?_
        refine PJ.next ?_
        refine WJ.reg ?_
        refine SJ.q (YldS.yld (y_move rfl)) rfl ?_
        refine SJ.q (YldS.yld (y_move rfl)) rfl ?_
        refine SJ.q (YldS.yld (y_move rfl)) rfl ?_
        obtain ⟨l30, h31, hm⟩ := bindS hm
        refine SJ.q (YldS.yld (y_slcRow (i := some r19.1) (j := none) (k := 3) h31 rfl Try.runUnderlying25 Try.sizeOf2 rfl ⟨_, rfl⟩ trivial)) rfl ?_
        obtain ⟨l32, h33, hm⟩ := bindS hm
        refine SJ.append (k := 1) (R := fI64) h33 rfl Try.underlying25 el2 rfl rfl rfl (fun w hw => (hw.slc_rd (k := 3) (i := some r19.1) (j := none) rfl h31)) rfl fun v34 => ?_
        refine SJ.q (YldS.yld (y_assign rfl)) rfl ?_
        refine SJ.nil ?_
        refine PJ.block_normal (PJ.next ?_)
        refine WJ.quiet ?_
        refine QJ.step (YldS.yld (y_move rfl)) rfl ?_
        refine QJ.step (YldS.yld (y_bin rfl rfl rfl)) rfl ?_
        refine QJ.step (YldS.yld (y_assign rfl)) rfl ?_
        refine QJ.done ?_
        exact PJ.round (l32, v34, r19.2.at_, r19.2.seed, w64 (i17 + 1)) [1, 2] hm ⟨rfl, rfl, rfl, rfl, trivial⟩ ⟨by decide, rfl⟩
      · replace hm := ifF hm hb18
        refine WJ.exit ?_
        refine PJ.then_exit (PJ.then_exit (PJ.block_exit ?_))
        exact PJ.joined (l13, v14) [0] hm ⟨rfl, trivial⟩ ⟨by decide, rfl⟩
  · rintro ⟨l9, v10⟩ hm
    subst hk12
    refine WJ.seq ?_
    refine WJ.quiet ?_
    refine QJ.step (YldS.yld (y_move rfl)) rfl ?_
    refine QJ.step (YldS.yld (y_assign rfl)) rfl ?_
    refine QJ.done ?_
    refine PJ.next ?_
    refine WJ.ret ?_
    obtain rfl := Option.some.inj hm
    refine PJ.sel (L' := [row v10 2 fI64 l9]) [0] ⟨by decide, rfl⟩ ?_
    exact PJ.retn (vs := [v10]) Try.results47 ⟨rfl, trivial⟩ ⟨_, rfl, rfl⟩

set_option maxRecDepth 100000 in
set_option maxHeartbeats 1000000 in
theorem ok_s_A2Row {N : Nat} {code1 : List UInt8} {r : Str} (hm : s_A2Row N code1 = some r) (w : World) (v2 : Value) (hr3 : RdS w (cx w).Fz v2 fByte.rp code1) :
    Calls Try.prog 48 #[v2] w (Ret (cx w) (str r)) := by
  unfold s_A2Row at hm
  refine Calls.enter [v2] Try.func48 rfl Try.ntmps48 rfl ?_
  refine WJ.seq ?_
  refine WJ.quiet ?_
  refine QJ.step (YldS.yld (y_assign rfl)) rfl ?_
  refine QJ.done ?_
  refine PJ.next ?_
  refine WJ.seq ?_
  refine WJ.reg ?_
  refine SJ.q (YldS.yld (y_move rfl)) rfl ?_
  obtain ⟨r4, h5, hm⟩ := bindS hm
  refine SJ.call Try.call73 rfl (fun w hw => ok_s_l00From h5 w _ (hr3.st hw)) rfl ?_
  rintro _ _ ⟨g6, rfl, rfl⟩
  refine SJ.q (YldS.yld (y_assign rfl)) rfl ?_
  refine SJ.nil ?_
  refine PJ.next ?_
  refine WJ.seq ?_
  refine WJ.reg ?_
  refine SJ.buildSlice (R := fByte) (os := []) [] Try.runUnderlying22 Try.sizeOf5 Try.zeroValue5 rfl rfl rfl rfl rfl rfl fun v7 => ?_
  refine SJ.q (YldS.yld (y_assign rfl)) rfl ?_
  refine SJ.nil ?_
  refine PJ.next ?_
  obtain ⟨kj10, hk11, hm⟩ := withK_open hm
  refine WJ.join (X := (List UInt8) × Value) (fun (x : (List UInt8) × Value) => kj10 x.1 = some r) (fun (x : (List UInt8) × Value) => [(4, x.2)]) (fun (x : (List UInt8) × Value) => [row x.2 5 fByte x.1]) ?_ ?_
  · clear hk11
    refine WJ.seq ?_
    refine WJ.reg ?_
    refine SJ.q (YldS.yld (y_move rfl)) rfl ?_
    obtain ⟨r12, h13, hm⟩ := bindS hm
    refine SJ.call1 (k := 1) rfl Try.call104 rfl (fun w S hw hA hO => ok_s_l00Src_pick h13 w S _ (hr3.st1 hw hO) hA) rfl ?_
    rintro _ _ ⟨rfl, rfl⟩
    refine SJ.q (YldS.yld (y_assign rfl)) rfl ?_
    refine SJ.nil ?_
    refine PJ.next ?_
    refine WJ.block ?_
    refine WJ.sel (L' := (fun (x : Int × Int × (List UInt8) × Value × Int) => [box g6 157 [v2, .int .i64 x.1, .int .u64 x.2.1], row x.2.2.2.1 5 fByte x.2.2.1]) (r12.2.at_, r12.2.seed, [], v7, r12.1)) [0, 1] ⟨by decide, rfl⟩ ?_
    refine WJ.sub (m' := (fun (x : Int × Int × (List UInt8) × Value × Int) => [(3, pt g6 0), (4, x.2.2.2.1), (5, .int .i64 x.2.2.2.2)]) (r12.2.at_, r12.2.seed, [], v7, r12.1)) ⟨rfl, rfl, rfl, trivial⟩ ?_
    refine WJ.loop (X := Int × Int × (List UInt8) × Value × Int) (fun N (x : Int × Int × (List UInt8) × Value × Int) => s_A2Row_l1 kj10 code1 N x.1 x.2.1 x.2.2.1 x.2.2.2.2 = some r) (fun (x : Int × Int × (List UInt8) × Value × Int) => [(3, pt g6 0), (4, x.2.2.2.1), (5, .int .i64 x.2.2.2.2)]) (fun (x : Int × Int × (List UInt8) × Value × Int) => [box g6 157 [v2, .int .i64 x.1, .int .u64 x.2.1], row x.2.2.2.1 5 fByte x.2.2.1]) ?_ N (r12.2.at_, r12.2.seed, [], v7, r12.1) hm
    · rintro N ⟨x14, x15, l16, v17, k18⟩ hI
      have hm := hI; clear hI
      cases N with
      | zero => cases hm
      | succ N =>
      unfold s_A2Row_l1 at hm
      refine WJ.seq ?_
      refine WJ.seq ?_
      refine WJ.quiet ?_
      refine QJ.step (YldS.yld (y_move rfl)) rfl ?_
      refine QJ.step (YldS.yld (y_bin rfl rfl rfl)) rfl ?_
      refine QJ.done ?_
      refine PJ.next ?_
      refine WJ.cond (t := decide (k18 > 0)) rfl (fun hb19 => ?_) (fun hb19 => ?_)
      · replace hm := ifT hm hb19
        refine WJ.skip ?_
        refine PJ.next ?_
        obtain ⟨kj24, hk25, hm⟩ := withK_open hm
        refine WJ.join (X := Int × Int × (List UInt8) × Value) (fun (x : Int × Int × (List UInt8) × Value) => kj24 x.1 x.2.1 x.2.2.1 = some r) (fun (x : Int × Int × (List UInt8) × Value) => [(3, pt g6 0), (4, x.2.2.2), (5, .int .i64 k18)]) (fun (x : Int × Int × (List UInt8) × Value) => [box g6 157 [v2, .int .i64 x.1, .int .u64 x.2.1], row x.2.2.2 5 fByte x.2.2.1]) ?_ ?_
        · clear hk25
          refine WJ.block ?_
          obtain ⟨kj30, hk31, hm⟩ := withK_open hm
          refine WJ.join (X := Int × Int × (List UInt8) × Value) (fun (x : Int × Int × (List UInt8) × Value) => kj30 x.1 x.2.1 x.2.2.1 = some r) (fun (x : Int × Int × (List UInt8) × Value) => [(3, pt g6 0), (4, x.2.2.2), (5, .int .i64 k18)]) (fun (x : Int × Int × (List UInt8) × Value) => [box g6 157 [v2, .int .i64 x.1, .int .u64 x.2.1], row x.2.2.2 5 fByte x.2.2.1]) ?_ ?_
          · clear hk31
            refine WJ.seq ?_
            refine WJ.reg ?_
            refine SJ.q (YldS.yld (y_move rfl)) rfl ?_
            obtain ⟨r32, h33, hm⟩ := bindS hm
            refine SJ.call1 (k := 0) rfl Try.call104 rfl (fun w S hw hA hO => ok_s_l00Src_pick h33 w S _ (hr3.st1 hw hO) hA) rfl ?_
            rintro _ _ ⟨rfl, rfl⟩
            refine SJ.q (YldS.yld (y_assign rfl)) rfl ?_
            refine SJ.nil ?_
            refine PJ.next ?_
            refine WJ.block ?_
            refine WJ.sel (L' := (fun (x : (List UInt8) × Value × Int) => [box g6 157 [v2, .int .i64 r32.2.at_, .int .u64 r32.2.seed], row x.2.1 5 fByte x.1]) (l16, v17, r32.1)) [0, 1] ⟨by decide, rfl⟩ ?_
            refine WJ.sub (m' := (fun (x : (List UInt8) × Value × Int) => [(3, pt g6 0), (4, x.2.1), (5, .int .i64 k18), (6, .int .i64 x.2.2)]) (l16, v17, r32.1)) ⟨rfl, rfl, rfl, rfl, trivial⟩ ?_
            refine WJ.loop (X := (List UInt8) × Value × Int) (fun N (x : (List UInt8) × Value × Int) => s_A2Row_l2 kj30 r32 N x.1 x.2.2 = some r) (fun (x : (List UInt8) × Value × Int) => [(3, pt g6 0), (4, x.2.1), (5, .int .i64 k18), (6, .int .i64 x.2.2)]) (fun (x : (List UInt8) × Value × Int) => [box g6 157 [v2, .int .i64 r32.2.at_, .int .u64 r32.2.seed], row x.2.1 5 fByte x.1]) ?_ N (l16, v17, r32.1) hm
            · rintro N ⟨l34, v35, n36⟩ hI
              have hm := hI; clear hI
              cases N with
              | zero => cases hm
              | succ N =>
              unfold s_A2Row_l2 at hm
              refine WJ.seq ?_
              refine WJ.seq ?_
              refine WJ.quiet ?_
              refine QJ.step (YldS.yld (y_move rfl)) rfl ?_
              refine QJ.step (YldS.yld (y_bin rfl rfl rfl)) rfl ?_
              refine QJ.done ?_
              refine PJ.next ?_
              refine WJ.cond (t := decide (n36 > 0)) rfl (fun hb37 => ?_) (fun hb37 => ?_)
              · replace hm := ifT hm hb37
                refine WJ.skip ?_
                refine PJ.next ?_
                refine WJ.seq ?_
                refine WJ.block ?_
                refine WJ.reg ?_
                refine SJ.q (YldS.yld (y_move rfl)) rfl ?_
                refine SJ.buildSlice (R := fByte) (os := [.const (.int .u8 (UInt8.toNat 32 : Int))]) [32] Try.runUnderlying22 Try.sizeOf5 Try.zeroValue5 rfl rfl rfl rfl rfl rfl fun v38 => ?_
                obtain ⟨l39, h40, hm⟩ := bindS hm
                refine SJ.append (k := 2) (R := fByte) h40 rfl Try.underlying22 el5 rfl rfl rfl (fun w hw => (hw.row_rd (k := 0) rfl)) rfl fun v41 => ?_
                refine SJ.q (YldS.yld (y_assign rfl)) rfl ?_
                refine SJ.nil ?_
                refine PJ.block_normal (PJ.next ?_)
                refine WJ.quiet ?_
                refine QJ.step (YldS.yld (y_move rfl)) rfl ?_
                refine QJ.step (YldS.yld (y_bin rfl rfl rfl)) rfl ?_
                refine QJ.step (YldS.yld (y_assign rfl)) rfl ?_
                refine QJ.done ?_
                exact PJ.round (l39, v41, w64 (n36 - 1)) [1, 2] hm ⟨rfl, rfl, rfl, rfl, trivial⟩ ⟨by decide, rfl⟩
              · replace hm := ifF hm hb37
                refine WJ.exit ?_
                refine PJ.then_exit (PJ.then_exit (PJ.block_exit ?_))
                exact PJ.joined (r32.2.at_, r32.2.seed, l34, v35) [0, 1] hm ⟨rfl, rfl, rfl, trivial⟩ ⟨by decide, rfl⟩
          · rintro ⟨x26, x27, l28, v29⟩ hm
            subst hk31
            refine WJ.reg ?_
            refine SJ.q (YldS.yld (y_move rfl)) rfl ?_
            refine SJ.q (YldS.yld (y_move rfl)) rfl ?_
            obtain ⟨r42, h43, hm⟩ := bindS hm
            refine SJ.call1 (k := 0) rfl Try.call104 rfl (fun w S hw hA hO => ok_s_l00Src_pick h43 w S _ (hr3.st1 hw hO) hA) rfl ?_
            rintro _ _ ⟨rfl, rfl⟩
            obtain ⟨c44, h45, hm⟩ := bindS hm
            refine SJ.q (YldS.yld (y_idxStr Try.runUnderlying9 rfl rfl h45)) rfl ?_
            refine SJ.buildSlice (R := fByte) (os := [.tmp 28]) [c44] Try.runUnderlying22 Try.sizeOf5 Try.zeroValue5 rfl rfl rfl rfl rfl rfl fun v46 => ?_
            obtain ⟨l47, h48, hm⟩ := bindS hm
            refine SJ.append (k := 2) (R := fByte) h48 rfl Try.underlying22 el5 rfl rfl rfl (fun w hw => (hw.row_rd (k := 0) rfl)) rfl fun v49 => ?_
            refine SJ.q (YldS.yld (y_assign rfl)) rfl ?_
            refine SJ.nil ?_
            refine PJ.block_normal ?_
            exact PJ.joined (r42.2.at_, r42.2.seed, l47, v49) [1, 2] hm ⟨rfl, rfl, rfl, trivial⟩ ⟨by decide, rfl⟩
        · rintro ⟨x20, x21, l22, v23⟩ hm
          subst hk25
          refine WJ.quiet ?_
          refine QJ.step (YldS.yld (y_move rfl)) rfl ?_
          refine QJ.step (YldS.yld (y_bin rfl rfl rfl)) rfl ?_
          refine QJ.step (YldS.yld (y_assign rfl)) rfl ?_
          refine QJ.done ?_
          exact PJ.round (x20, x21, l22, v23, w64 (k18 - 1)) [0, 1] hm ⟨rfl, rfl, rfl, trivial⟩ ⟨by decide, rfl⟩
      · replace hm := ifF hm hb19
        refine WJ.exit ?_
        refine PJ.then_exit (PJ.then_exit (PJ.block_exit ?_))
        exact PJ.joined (l16, v17) [1] hm ⟨rfl, trivial⟩ ⟨by decide, rfl⟩
  · rintro ⟨l8, v9⟩ hm
    subst hk11
    refine WJ.seq ?_
    refine WJ.quiet ?_
    refine QJ.step (YldS.yld (y_move rfl)) rfl ?_
    refine QJ.step (YldS.yld (y_b2s Try.underlying22 Try.underlying9 Try.underlying5 (fun w hw => ⟨_, (hw.row_rd (k := 0) rfl)⟩) rfl)) rfl ?_
    refine QJ.step (YldS.yld (y_assign rfl)) rfl ?_
    refine QJ.done ?_
    refine PJ.next ?_
    refine WJ.ret ?_
    obtain rfl := Option.some.inj hm
    refine PJ.sel (L' := []) [] ⟨List.nodup_nil, rfl⟩ ?_
    exact PJ.retn (vs := [str l8]) Try.results48 ⟨rfl, trivial⟩ ⟨rfl, rfl⟩

set_option maxRecDepth 100000 in
set_option maxHeartbeats 1000000 in
theorem ok_s_A2Stops {N : Nat} {code1 : List UInt8} {r : (List Int)} (hm : s_A2Stops N code1 = some r) (w : World) (v2 : Value) (hr3 : RdS w (cx w).Fz v2 fByte.rp code1) :
    Calls Try.prog 49 #[v2] w (RetG (cx w) fun u L => ∃ (u1 : Value), (u = u1 ∧ L = [row u1 2 fI64 r])) := by
  unfold s_A2Stops at hm
  refine Calls.enter [v2] Try.func49 rfl Try.ntmps49 rfl ?_
  refine WJ.seq ?_
  refine WJ.quiet ?_
  refine QJ.step (YldS.yld (y_assign rfl)) rfl ?_
  refine QJ.done ?_
  refine PJ.next ?_
  refine WJ.seq ?_
  refine WJ.reg ?_
  refine SJ.q (YldS.yld (y_move rfl)) rfl ?_
  obtain ⟨r4, h5, hm⟩ := bindS hm
  refine SJ.call Try.call73 rfl (fun w hw => ok_s_l00From h5 w _ (hr3.st hw)) rfl ?_
  rintro _ _ ⟨g6, rfl, rfl⟩
  refine SJ.q (YldS.yld (y_assign rfl)) rfl ?_
  refine SJ.nil ?_
  refine PJ.next ?_
  refine WJ.seq ?_
  refine WJ.reg ?_
  refine SJ.buildSlice (R := fI64) (os := []) [] Try.runUnderlying25 Try.sizeOf2 Try.zeroValue2 rfl rfl rfl rfl rfl rfl fun v7 => ?_
  refine SJ.q (YldS.yld (y_assign rfl)) rfl ?_
  refine SJ.nil ?_
  refine PJ.next ?_
  refine WJ.seq ?_
  refine WJ.quiet ?_
  refine QJ.step (YldS.yld (y_assign rfl)) rfl ?_
  refine QJ.done ?_
  refine PJ.next ?_
  obtain ⟨kj10, hk11, hm⟩ := withK_open hm
  refine WJ.join (X := (List Int) × Value) (fun (x : (List Int) × Value) => kj10 x.1 = some r) (fun (x : (List Int) × Value) => [(4, x.2)]) (fun (x : (List Int) × Value) => [row x.2 2 fI64 x.1]) ?_ ?_
  · clear hk11
    refine WJ.seq ?_
    refine WJ.reg ?_
    refine SJ.q (YldS.yld (y_move rfl)) rfl ?_
    obtain ⟨r12, h13, hm⟩ := bindS hm
    refine SJ.call1 (k := 1) rfl Try.call104 rfl (fun w S hw hA hO => ok_s_l00Src_pick h13 w S _ (hr3.st1 hw hO) hA) rfl ?_
    rintro _ _ ⟨rfl, rfl⟩
    refine SJ.q (YldS.yld (y_assign rfl)) rfl ?_
    refine SJ.nil ?_
    refine PJ.next ?_
    refine WJ.block ?_
    refine WJ.sel (L' := (fun (x : Int × Int × (List Int) × Value × Int × Int) => [box g6 157 [v2, .int .i64 x.1, .int .u64 x.2.1], row x.2.2.2.1 2 fI64 x.2.2.1]) (r12.2.at_, r12.2.seed, [], v7, 0, r12.1)) [0, 1] ⟨by decide, rfl⟩ ?_
    refine WJ.sub (m' := (fun (x : Int × Int × (List Int) × Value × Int × Int) => [(3, pt g6 0), (4, x.2.2.2.1), (5, .int .i64 x.2.2.2.2.1), (6, .int .i64 x.2.2.2.2.2)]) (r12.2.at_, r12.2.seed, [], v7, 0, r12.1)) ⟨rfl, rfl, rfl, rfl, trivial⟩ ?_
    refine WJ.loop (X := Int × Int × (List Int) × Value × Int × Int) (fun N (x : Int × Int × (List Int) × Value × Int × Int) => s_A2Stops_l1 kj10 code1 N x.1 x.2.1 x.2.2.1 x.2.2.2.2.1 x.2.2.2.2.2 = some r) (fun (x : Int × Int × (List Int) × Value × Int × Int) => [(3, pt g6 0), (4, x.2.2.2.1), (5, .int .i64 x.2.2.2.2.1), (6, .int .i64 x.2.2.2.2.2)]) (fun (x : Int × Int × (List Int) × Value × Int × Int) => [box g6 157 [v2, .int .i64 x.1, .int .u64 x.2.1], row x.2.2.2.1 2 fI64 x.2.2.1]) ?_ N (r12.2.at_, r12.2.seed, [], v7, 0, r12.1) hm
    · rintro N ⟨x14, x15, l16, v17, at18, k19⟩ hI
      have hm := hI; clear hI
      cases N with
      | zero => cases hm
      | succ N =>
      unfold s_A2Stops_l1 at hm
      refine WJ.seq ?_
      refine WJ.seq ?_
      refine WJ.quiet ?_
      refine QJ.step (YldS.yld (y_move rfl)) rfl ?_
      refine QJ.step (YldS.yld (y_bin rfl rfl rfl)) rfl ?_
      refine QJ.done ?_
      refine PJ.next ?_
      refine WJ.cond (t := decide (k19 > 0)) rfl (fun hb20 => ?_) (fun hb20 => ?_)
      · replace hm := ifT hm hb20
        refine WJ.skip ?_
        refine PJ.next ?_
        refine WJ.seq ?_
        refine WJ.block ?_
        refine WJ.seq ?_
        refine WJ.reg ?_
        refine SJ.q (YldS.yld (y_move rfl)) rfl ?_
        refine SJ.q (YldS.yld (y_move rfl)) rfl ?_
        obtain ⟨r21, h22, hm⟩ := bindS hm
        refine SJ.call1 (k := 0) rfl Try.call104 rfl (fun w S hw hA hO => ok_s_l00Src_pick h22 w S _ (hr3.st1 hw hO) hA) rfl ?_
        rintro _ _ ⟨rfl, rfl⟩
        refine SJ.q (YldS.yld (y_bin rfl rfl rfl)) rfl ?_
        refine SJ.q (YldS.yld (y_bin rfl rfl rfl)) rfl ?_
        refine SJ.q (YldS.yld (y_assign rfl)) rfl ?_
        refine SJ.nil ?_
        refine PJ.next ?_
        refine WJ.reg ?_
        refine SJ.q (YldS.yld (y_move rfl)) rfl ?_
        refine SJ.q (YldS.yld (y_move rfl)) rfl ?_
        refine SJ.buildSlice (R := fI64) (os := [.tmp 22]) [w64 (at18 + (w64 (1 + r21.1)))] Try.runUnderlying25 Try.sizeOf2 Try.zeroValue2 rfl rfl rfl rfl rfl rfl fun v23 => ?_
        obtain ⟨l24, h25, hm⟩ := bindS hm
        refine SJ.append (k := 2) (R := fI64) h25 rfl Try.underlying25 el2 rfl rfl rfl (fun w hw => (hw.row_rd (k := 0) rfl)) rfl fun v26 => ?_
        refine SJ.q (YldS.yld (y_assign rfl)) rfl ?_
        refine SJ.nil ?_
        refine PJ.block_normal (PJ.next ?_)
        refine WJ.quiet ?_
        refine QJ.step (YldS.yld (y_move rfl)) rfl ?_
        refine QJ.step (YldS.yld (y_bin rfl rfl rfl)) rfl ?_
        refine QJ.step (YldS.yld (y_assign rfl)) rfl ?_
        refine QJ.done ?_
        exact PJ.round (r21.2.at_, r21.2.seed, l24, v26, w64 (at18 + (w64 (1 + r21.1))), w64 (k19 - 1)) [1, 2] hm ⟨rfl, rfl, rfl, rfl, trivial⟩ ⟨by decide, rfl⟩
      · replace hm := ifF hm hb20
        refine WJ.exit ?_
        refine PJ.then_exit (PJ.then_exit (PJ.block_exit ?_))
        exact PJ.joined (l16, v17) [1] hm ⟨rfl, trivial⟩ ⟨by decide, rfl⟩
  · rintro ⟨l8, v9⟩ hm
    subst hk11
    refine WJ.seq ?_
    refine WJ.quiet ?_
    refine QJ.step (YldS.yld (y_move rfl)) rfl ?_
    refine QJ.step (YldS.yld (y_assign rfl)) rfl ?_
    refine QJ.done ?_
    refine PJ.next ?_
    refine WJ.ret ?_
    obtain rfl := Option.some.inj hm
    refine PJ.sel (L' := [row v9 2 fI64 l8]) [0] ⟨by decide, rfl⟩ ?_
    exact PJ.retn (vs := [v9]) Try.results49 ⟨rfl, trivial⟩ ⟨_, rfl, rfl⟩

set_option maxRecDepth 100000 in
set_option maxHeartbeats 1000000 in
theorem ok_i_ValidStops {N : Nat} {stops1 : List Int} {r : Bool} (hm : i_ValidStops N stops1 = some r) (w : World) (v2 : Value) (hr3 : RdS w (cx w).Fz v2 fI64.rp stops1) :
    Calls Try.prog 111 #[v2] w (Ret (cx w) (.bool r)) := by
  unfold i_ValidStops at hm
  refine Calls.enter [v2] Try.func111 rfl Try.ntmps111 rfl ?_
  refine WJ.seq ?_
  refine WJ.quiet ?_
  refine QJ.step (YldS.yld (y_assign rfl)) rfl ?_
  refine QJ.done ?_
  refine PJ.next ?_
  refine WJ.seq ?_
  refine WJ.seq ?_
  refine WJ.quiet ?_
  refine QJ.step (YldS.yld (y_move rfl)) rfl ?_
  refine QJ.step (YldS.yld (y_lenS Try.runUnderlying25 hr3 rfl)) rfl ?_
  refine QJ.step (YldS.yld (y_bin rfl rfl rfl)) rfl ?_
  refine QJ.done ?_
  refine PJ.next ?_
  refine WJ.cond (t := decide ((List.length stops1 : Int) > 6)) rfl (fun hb4 => ?_) (fun hb4 => ?_)
  · replace hm := ifT hm hb4
    refine WJ.seq ?_
    refine WJ.quiet ?_
    refine QJ.step (YldS.yld (y_assign rfl)) rfl ?_
    refine QJ.done ?_
    refine PJ.next ?_
    refine WJ.ret ?_
    refine PJ.then_ret ?_
    obtain rfl := Option.some.inj hm
    refine PJ.sel (L' := []) [] ⟨List.nodup_nil, rfl⟩ ?_
    exact PJ.retn (vs := [.bool false]) Try.results111 ⟨rfl, trivial⟩ ⟨rfl, rfl⟩
  · replace hm := ifF hm hb4
    refine WJ.skip ?_
    refine PJ.next ?_
    obtain ⟨kj5, hk6, hm⟩ := withK_open hm
    refine WJ.join (X := Unit) (fun (_ : Unit) => kj5  = some r) (fun (_ : Unit) => []) (fun (_ : Unit) => []) ?_ ?_
    · clear hk6
      refine WJ.seq ?_
      refine WJ.quiet ?_
      refine QJ.step (YldS.yld (y_move rfl)) rfl ?_
      refine QJ.step (YldS.yld (y_lenS Try.runUnderlying25 hr3 rfl)) rfl ?_
      refine QJ.step (YldS.yld (y_move rfl)) rfl ?_
      refine QJ.done ?_
      refine PJ.next ?_
      refine WJ.block ?_
      refine WJ.sel (L' := (fun (x : Int) => []) 0) [] ⟨List.nodup_nil, rfl⟩ ?_
      refine WJ.sub (m' := (fun (x : Int) => [(0, v2), (8, v2), (9, .int .i64 (List.length stops1 : Int)), (10, .int .i64 x)]) 0) ⟨rfl, rfl, rfl, rfl, trivial⟩ ?_
      refine WJ.loop (X := Int) (fun N (x : Int) => i_ValidStops_l1 kj5 stops1 N x = some r) (fun (x : Int) => [(0, v2), (8, v2), (9, .int .i64 (List.length stops1 : Int)), (10, .int .i64 x)]) (fun (x : Int) => []) ?_ N 0 hm
      · rintro N x7 hI
        have hm := hI; clear hI
        cases N with
        | zero => cases hm
        | succ N =>
        unfold i_ValidStops_l1 at hm
        refine WJ.seq ?_
        refine WJ.quiet ?_
        refine QJ.step (YldS.yld (y_bin rfl rfl rfl)) rfl ?_
        refine QJ.done ?_
        refine PJ.next ?_
        refine WJ.seq ?_
        refine WJ.cond (t := decide (x7 < (List.length stops1 : Int))) rfl (fun hb8 => ?_) (fun hb8 => ?_)
        · replace hm := ifT hm hb8
          refine WJ.skip ?_
          refine PJ.next ?_
          refine WJ.seq ?_
          refine WJ.block ?_
          refine WJ.seq ?_
          refine WJ.quiet ?_
          refine QJ.step (YldS.yld (y_move rfl)) rfl ?_
          obtain ⟨e9, h10, hm⟩ := bindS hm
          obtain ⟨ad11, _, rfl, ha12, hy13⟩ := hr3.elem h10
          refine QJ.step (YldS.yld (hy13 Try.runUnderlying25 Try.sizeOf2 rfl rfl)) rfl ?_
          refine QJ.step (YldS.yld (y_load1 (v := .int .i64 e9) Try.isAgg2 ha12 St.frozenC rfl)) rfl ?_
          refine QJ.step (YldS.yld (y_assign rfl)) rfl ?_
          refine QJ.step (YldS.yld (y_assign rfl)) rfl ?_
          refine QJ.done ?_
          refine PJ.next ?_
          refine WJ.seq ?_
          refine WJ.quiet ?_
          refine QJ.step (YldS.yld (y_move rfl)) rfl ?_
          obtain ⟨r14, h15, hm⟩ := bindS hm
          refine QJ.step (y_call Try.call118 rfl (RetG.quiet fun w hw => ok_i_between h15 w )) rfl ?_
          refine QJ.step (YldS.yld (y_not rfl)) rfl ?_
          refine QJ.step (YldS.yld (y_move rfl)) rfl ?_
          obtain ⟨t16, h17, hm⟩ := bindS hm
          refine QJ.cut 12 [(0, v2), (8, v2), (9, .int .i64 (List.length stops1 : Int)), (10, .int .i64 x7), (30, .bool t16)] ?_ ?_
          · rcases Bool.eq_false_or_eq_true (!r14) with hb18 | hb18
            · obtain rfl := orT h17 hb18
              refine QJ.off rfl rfl (cB hb18) rfl rfl ?_
              refine QJ.off rfl rfl (cB hb18) rfl rfl ?_
              refine QJ.off rfl rfl (cB hb18) rfl rfl ?_
              refine QJ.off_undef rfl rfl rfl rfl ?_
              refine QJ.off_undef rfl rfl rfl rfl ?_
              refine QJ.off_undef rfl rfl rfl rfl ?_
              refine QJ.off_undef rfl rfl rfl rfl ?_
              refine QJ.off_undef rfl rfl rfl rfl ?_
              refine QJ.off_undef rfl rfl rfl rfl ?_
              refine QJ.off_undef rfl rfl rfl rfl ?_
              refine QJ.off rfl rfl (cB hb18) rfl rfl ?_
              refine QJ.step (YldS.yld (y_pick_t (cB hb18) rfl)) rfl ?_
              exact QJ.cut_end ⟨rfl, rfl, rfl, rfl, rfl, trivial⟩
            · replace h17 := orF h17 hb18
              refine QJ.on rfl rfl (cB hb18) (YldS.yld (y_move rfl)) rfl ?_
              refine QJ.on rfl rfl (cB hb18) (YldS.yld (y_bin rfl rfl rfl)) rfl ?_
              refine QJ.on rfl rfl (cB hb18) (YldS.yld (y_move rfl)) rfl ?_
              obtain ⟨t19, h20, h17⟩ := bindS h17
              refine QJ.cut 8 [(0, v2), (8, v2), (9, .int .i64 (List.length stops1 : Int)), (10, .int .i64 x7), (18, .bool (!r14)), (29, .bool t19)] ?_ ?_
              · rcases Bool.eq_false_or_eq_true (decide (x7 > 0)) with hb21 | hb21
                · replace h20 := andT h20 hb21
                  refine QJ.on rfl rfl (cB hb21) (YldS.yld (y_move rfl)) rfl ?_
                  refine QJ.on rfl rfl (cB hb21) (YldS.yld (y_move rfl)) rfl ?_
                  refine QJ.on rfl rfl (cB hb21) (YldS.yld (y_move rfl)) rfl ?_
                  refine QJ.on rfl rfl (cB hb21) (YldS.yld (y_bin rfl rfl rfl)) rfl ?_
                  obtain ⟨e22, h23, h20⟩ := bindS h20
                  obtain ⟨ad24, _, rfl, ha25, hy26⟩ := hr3.elem h23
                  refine QJ.on rfl rfl (cB hb21) (YldS.yld (hy26 Try.runUnderlying25 Try.sizeOf2 rfl rfl)) rfl ?_
                  refine QJ.on rfl rfl (cB hb21) (YldS.yld (y_load1 (v := .int .i64 e22) Try.isAgg2 ha25 St.frozenC rfl)) rfl ?_
                  refine QJ.on rfl rfl (cB hb21) (YldS.yld (y_bin rfl rfl rfl)) rfl ?_
                  refine QJ.on rfl rfl (cB hb18) (YldS.yld (y_pick_t (cB hb21) rfl)) rfl ?_
                  obtain rfl := Option.some.inj h20
                  exact QJ.cut_end ⟨rfl, rfl, rfl, rfl, rfl, rfl, trivial⟩
                · obtain rfl := andF h20 hb21
                  refine QJ.off rfl rfl (cB hb21) rfl rfl ?_
                  refine QJ.off rfl rfl (cB hb21) rfl rfl ?_
                  refine QJ.off rfl rfl (cB hb21) rfl rfl ?_
                  refine QJ.off rfl rfl (cB hb21) rfl rfl ?_
                  refine QJ.off rfl rfl (cB hb21) rfl rfl ?_
                  refine QJ.off rfl rfl (cB hb21) rfl rfl ?_
                  refine QJ.off rfl rfl (cB hb21) rfl rfl ?_
                  refine QJ.on rfl rfl (cB hb18) (YldS.yld (y_pick_f (cB hb21) rfl)) rfl ?_
                  exact QJ.cut_end ⟨rfl, rfl, rfl, rfl, rfl, rfl, trivial⟩
              refine QJ.step (YldS.yld (y_pick_f (cB hb18) rfl)) rfl ?_
              obtain rfl := Option.some.inj h17
              exact QJ.cut_end ⟨rfl, rfl, rfl, rfl, rfl, trivial⟩
          refine QJ.done ?_
          refine PJ.next ?_
          refine WJ.cond (t := t16) rfl (fun hb27 => ?_) (fun hb27 => ?_)
          · replace hm := ifT hm hb27
            refine WJ.seq ?_
            refine WJ.quiet ?_
            refine QJ.step (YldS.yld (y_assign rfl)) rfl ?_
            refine QJ.done ?_
            refine PJ.next ?_
            refine WJ.ret ?_
            refine PJ.block_ret (PJ.then_ret (PJ.then_ret (PJ.block_ret (PJ.then_ret ?_))))
            obtain rfl := Option.some.inj hm
            refine PJ.sel (L' := []) [] ⟨List.nodup_nil, rfl⟩ ?_
            exact PJ.retn (vs := [.bool false]) Try.results111 ⟨rfl, trivial⟩ ⟨rfl, rfl⟩
          · replace hm := ifF hm hb27
            refine WJ.skip ?_
            refine PJ.block_normal (PJ.next ?_)
            refine WJ.quiet ?_
            refine QJ.step (YldS.yld (y_bin rfl rfl rfl)) rfl ?_
            refine QJ.step (YldS.yld (y_move rfl)) rfl ?_
            refine QJ.done ?_
            exact PJ.round (w64 (x7 + 1)) [] hm ⟨rfl, rfl, rfl, rfl, trivial⟩ ⟨List.nodup_nil, rfl⟩
        · replace hm := ifF hm hb8
          refine WJ.exit ?_
          refine PJ.then_exit (PJ.then_exit (PJ.block_exit ?_))
          exact PJ.joined () [] hm trivial ⟨List.nodup_nil, rfl⟩
    · rintro _ hm
      subst hk6
      refine WJ.seq ?_
      refine WJ.quiet ?_
      refine QJ.step (YldS.yld (y_assign rfl)) rfl ?_
      refine QJ.done ?_
      refine PJ.next ?_
      refine WJ.ret ?_
      obtain rfl := Option.some.inj hm
      refine PJ.sel (L' := []) [] ⟨List.nodup_nil, rfl⟩ ?_
      exact PJ.retn (vs := [.bool true]) Try.results111 ⟨rfl, trivial⟩ ⟨rfl, rfl⟩

set_option maxRecDepth 100000 in
set_option maxHeartbeats 1000000 in
theorem ok_i_isText {N : Nat} {s1 : Str} {low2 : UInt8} {most3 : Int} {r : Bool} (hm : i_isText N s1 low2 most3 = some r) (w : World)  :
    Calls Try.prog 156 #[str s1, .int .u8 (UInt8.toNat low2 : Int), .int .i64 most3] w (Ret (cx w) (.bool r)) := by
  unfold i_isText at hm
  refine Calls.enter [str s1, .int .u8 (UInt8.toNat low2 : Int), .int .i64 most3] Try.func156 rfl Try.ntmps156 rfl ?_
  refine WJ.seq ?_
  refine WJ.quiet ?_
  refine QJ.step (YldS.yld (y_assign rfl)) rfl ?_
  refine QJ.done ?_
  refine PJ.next ?_
  refine WJ.seq ?_
  refine WJ.seq ?_
  refine WJ.quiet ?_
  refine QJ.step (YldS.yld (y_move rfl)) rfl ?_
  refine QJ.step (YldS.yld (y_lenStr Try.runUnderlying9 rfl)) rfl ?_
  refine QJ.step (YldS.yld (y_move rfl)) rfl ?_
  refine QJ.step (YldS.yld (y_bin rfl rfl rfl)) rfl ?_
  refine QJ.done ?_
  refine PJ.next ?_
  refine WJ.cond (t := decide ((List.length s1 : Int) > most3)) rfl (fun hb4 => ?_) (fun hb4 => ?_)
  · replace hm := ifT hm hb4
    refine WJ.seq ?_
    refine WJ.quiet ?_
    refine QJ.step (YldS.yld (y_assign rfl)) rfl ?_
    refine QJ.done ?_
    refine PJ.next ?_
    refine WJ.ret ?_
    refine PJ.then_ret ?_
    obtain rfl := Option.some.inj hm
    refine PJ.sel (L' := []) [] ⟨List.nodup_nil, rfl⟩ ?_
    exact PJ.retn (vs := [.bool false]) Try.results156 ⟨rfl, trivial⟩ ⟨rfl, rfl⟩
  · replace hm := ifF hm hb4
    refine WJ.skip ?_
    refine PJ.next ?_
    obtain ⟨kj5, hk6, hm⟩ := withK_open hm
    refine WJ.join (X := Unit) (fun (_ : Unit) => kj5  = some r) (fun (_ : Unit) => []) (fun (_ : Unit) => []) ?_ ?_
    · clear hk6
      refine WJ.seq ?_
      refine WJ.quiet ?_
      refine QJ.step (YldS.yld (y_move rfl)) rfl ?_
      refine QJ.step (YldS.yld (y_lenStr Try.runUnderlying9 rfl)) rfl ?_
      refine QJ.step (YldS.yld (y_move rfl)) rfl ?_
      refine QJ.done ?_
      refine PJ.next ?_
      refine WJ.block ?_
      refine WJ.sel (L' := (fun (x : Int) => []) 0) [] ⟨List.nodup_nil, rfl⟩ ?_
      refine WJ.sub (m' := (fun (x : Int) => [(0, str s1), (1, .int .u8 (UInt8.toNat low2 : Int)), (13, .int .i64 (List.length s1 : Int)), (14, .int .i64 x)]) 0) ⟨rfl, rfl, rfl, rfl, trivial⟩ ?_
      refine WJ.loop (X := Int) (fun N (x : Int) => i_isText_l1 kj5 s1 low2 N x = some r) (fun (x : Int) => [(0, str s1), (1, .int .u8 (UInt8.toNat low2 : Int)), (13, .int .i64 (List.length s1 : Int)), (14, .int .i64 x)]) (fun (x : Int) => []) ?_ N 0 hm
      · rintro N x7 hI
        have hm := hI; clear hI
        cases N with
        | zero => cases hm
        | succ N =>
        unfold i_isText_l1 at hm
        refine WJ.seq ?_
        refine WJ.quiet ?_
        refine QJ.step (YldS.yld (y_bin rfl rfl rfl)) rfl ?_
        refine QJ.done ?_
        refine PJ.next ?_
        refine WJ.seq ?_
        refine WJ.cond (t := decide (x7 < (List.length s1 : Int))) rfl (fun hb8 => ?_) (fun hb8 => ?_)
        · replace hm := ifT hm hb8
          refine WJ.skip ?_
          refine PJ.next ?_
          refine WJ.seq ?_
          refine WJ.block ?_
          refine WJ.seq ?_
          refine WJ.quiet ?_
          refine QJ.step (YldS.yld (y_move rfl)) rfl ?_
          refine QJ.step (YldS.yld (y_assign rfl)) rfl ?_
          refine QJ.done ?_
          refine PJ.next ?_
          refine WJ.seq ?_
          refine WJ.quiet ?_
          refine QJ.step (YldS.yld (y_move rfl)) rfl ?_
          refine QJ.step (YldS.yld (y_move rfl)) rfl ?_
          obtain ⟨c9, h10, hm⟩ := bindS hm
          refine QJ.step (YldS.yld (y_idxStr Try.runUnderlying9 rfl rfl h10)) rfl ?_
          refine QJ.step (YldS.yld (y_move rfl)) rfl ?_
          refine QJ.step (YldS.yld (y_bin8 c9 low2 rfl rfl rfl)) rfl ?_
          refine QJ.step (YldS.yld (y_move rfl)) rfl ?_
          obtain ⟨t11, h12, hm⟩ := bindS hm
          refine QJ.cut 5 [(0, str s1), (1, .int .u8 (UInt8.toNat low2 : Int)), (13, .int .i64 (List.length s1 : Int)), (14, .int .i64 x7), (27, .bool t11)] ?_ ?_
          · rcases Bool.eq_false_or_eq_true (decide (c9 < low2)) with hb13 | hb13
            · obtain rfl := orT h12 hb13
              refine QJ.off rfl rfl (cB hb13) rfl rfl ?_
              refine QJ.off rfl rfl (cB hb13) rfl rfl ?_
              refine QJ.off rfl rfl (cB hb13) rfl rfl ?_
              refine QJ.off rfl rfl (cB hb13) rfl rfl ?_
              refine QJ.step (YldS.yld (y_pick_t (cB hb13) rfl)) rfl ?_
              exact QJ.cut_end ⟨rfl, rfl, rfl, rfl, rfl, trivial⟩
            · replace h12 := orF h12 hb13
              refine QJ.on rfl rfl (cB hb13) (YldS.yld (y_move rfl)) rfl ?_
              refine QJ.on rfl rfl (cB hb13) (YldS.yld (y_move rfl)) rfl ?_
              obtain ⟨c14, h15, h12⟩ := bindS h12
              refine QJ.on rfl rfl (cB hb13) (YldS.yld (y_idxStr Try.runUnderlying9 rfl rfl h15)) rfl ?_
              refine QJ.on rfl rfl (cB hb13) (YldS.yld (y_bin8 c14 (126 : UInt8) rfl rfl rfl)) rfl ?_
              refine QJ.step (YldS.yld (y_pick_f (cB hb13) rfl)) rfl ?_
              obtain rfl := Option.some.inj h12
              exact QJ.cut_end ⟨rfl, rfl, rfl, rfl, rfl, trivial⟩
          refine QJ.done ?_
          refine PJ.next ?_
          refine WJ.cond (t := t11) rfl (fun hb16 => ?_) (fun hb16 => ?_)
          · replace hm := ifT hm hb16
            refine WJ.seq ?_
            refine WJ.quiet ?_
            refine QJ.step (YldS.yld (y_assign rfl)) rfl ?_
            refine QJ.done ?_
            refine PJ.next ?_
            refine WJ.ret ?_
            refine PJ.block_ret (PJ.then_ret (PJ.then_ret (PJ.block_ret (PJ.then_ret ?_))))
            obtain rfl := Option.some.inj hm
            refine PJ.sel (L' := []) [] ⟨List.nodup_nil, rfl⟩ ?_
            exact PJ.retn (vs := [.bool false]) Try.results156 ⟨rfl, trivial⟩ ⟨rfl, rfl⟩
          · replace hm := ifF hm hb16
            refine WJ.skip ?_
            refine PJ.block_normal (PJ.next ?_)
            refine WJ.quiet ?_
            refine QJ.step (YldS.yld (y_bin rfl rfl rfl)) rfl ?_
            refine QJ.step (YldS.yld (y_move rfl)) rfl ?_
            refine QJ.done ?_
            exact PJ.round (w64 (x7 + 1)) [] hm ⟨rfl, rfl, rfl, rfl, trivial⟩ ⟨List.nodup_nil, rfl⟩
        · replace hm := ifF hm hb8
          refine WJ.exit ?_
          refine PJ.then_exit (PJ.then_exit (PJ.block_exit ?_))
          exact PJ.joined () [] hm trivial ⟨List.nodup_nil, rfl⟩
    · rintro _ hm
      subst hk6
      refine WJ.seq ?_
      refine WJ.quiet ?_
      refine QJ.step (YldS.yld (y_assign rfl)) rfl ?_
      refine QJ.done ?_
      refine PJ.next ?_
      refine WJ.ret ?_
      obtain rfl := Option.some.inj hm
      refine PJ.sel (L' := []) [] ⟨List.nodup_nil, rfl⟩ ?_
      exact PJ.retn (vs := [.bool true]) Try.results156 ⟨rfl, trivial⟩ ⟨rfl, rfl⟩

set_option maxRecDepth 100000 in
set_option maxHeartbeats 1000000 in
theorem ok_i_isRow {N : Nat} {row1 : Str} {r : Bool} (hm : i_isRow N row1 = some r) (w : World)  :
    Calls Try.prog 112 #[str row1] w (Ret (cx w) (.bool r)) := by
  unfold i_isRow at hm
  refine Calls.enter [str row1] Try.func112 rfl Try.ntmps112 rfl ?_
  refine WJ.seq ?_
  refine WJ.quiet ?_
  refine QJ.step (YldS.yld (y_assign rfl)) rfl ?_
  refine QJ.done ?_
  refine PJ.next ?_
  refine WJ.seq ?_
  refine WJ.quiet ?_
  refine QJ.step (YldS.yld (y_move rfl)) rfl ?_
  obtain ⟨r2, h3, hm⟩ := bindS hm
  refine QJ.step (y_call Try.call156 rfl (RetG.quiet fun w hw => ok_i_isText h3 w )) rfl ?_
  refine QJ.step (YldS.yld (y_move rfl)) rfl ?_
  obtain ⟨t4, h5, hm⟩ := bindS hm
  refine QJ.cut 11 [(16, .bool t4)] ?_ ?_
  · rcases Bool.eq_false_or_eq_true r2 with hb6 | hb6
    · replace h5 := andT h5 hb6
      refine QJ.on rfl rfl (cB hb6) (YldS.yld (y_move rfl)) rfl ?_
      refine QJ.on rfl rfl (cB hb6) (YldS.yld (y_binS rfl rfl rfl)) rfl ?_
      refine QJ.on rfl rfl (cB hb6) (YldS.yld (y_move rfl)) rfl ?_
      obtain ⟨t7, h8, h5⟩ := bindS h5
      refine QJ.cut 7 [(5, .bool r2), (15, .bool t7)] ?_ ?_
      · rcases Bool.eq_false_or_eq_true (row1 == []) with hb9 | hb9
        · obtain rfl := orT h8 hb9
          refine QJ.off rfl rfl (cB hb9) rfl rfl ?_
          refine QJ.off rfl rfl (cB hb9) rfl rfl ?_
          refine QJ.off rfl rfl (cB hb9) rfl rfl ?_
          refine QJ.off rfl rfl (cB hb9) rfl rfl ?_
          refine QJ.off rfl rfl (cB hb9) rfl rfl ?_
          refine QJ.off rfl rfl (cB hb9) rfl rfl ?_
          refine QJ.on rfl rfl (cB hb6) (YldS.yld (y_pick_t (cB hb9) rfl)) rfl ?_
          exact QJ.cut_end ⟨rfl, rfl, trivial⟩
        · replace h8 := orF h8 hb9
          refine QJ.on rfl rfl (cB hb9) (YldS.yld (y_move rfl)) rfl ?_
          refine QJ.on rfl rfl (cB hb9) (YldS.yld (y_move rfl)) rfl ?_
          refine QJ.on rfl rfl (cB hb9) (YldS.yld (y_lenStr Try.runUnderlying9 rfl)) rfl ?_
          refine QJ.on rfl rfl (cB hb9) (YldS.yld (y_bin rfl rfl rfl)) rfl ?_
          obtain ⟨c10, h11, h8⟩ := bindS h8
          refine QJ.on rfl rfl (cB hb9) (YldS.yld (y_idxStr Try.runUnderlying9 rfl rfl h11)) rfl ?_
          refine QJ.on rfl rfl (cB hb9) (YldS.yld (y_bin8 c10 (32 : UInt8) rfl rfl rfl)) rfl ?_
          refine QJ.on rfl rfl (cB hb6) (YldS.yld (y_pick_f (cB hb9) rfl)) rfl ?_
          obtain rfl := Option.some.inj h8
          exact QJ.cut_end ⟨rfl, rfl, trivial⟩
      refine QJ.step (YldS.yld (y_pick_t (cB hb6) rfl)) rfl ?_
      obtain rfl := Option.some.inj h5
      exact QJ.cut_end ⟨rfl, trivial⟩
    · obtain rfl := andF h5 hb6
      refine QJ.off rfl rfl (cB hb6) rfl rfl ?_
      refine QJ.off rfl rfl (cB hb6) rfl rfl ?_
      refine QJ.off rfl rfl (cB hb6) rfl rfl ?_
      refine QJ.off_undef rfl rfl rfl rfl ?_
      refine QJ.off_undef rfl rfl rfl rfl ?_
      refine QJ.off_undef rfl rfl rfl rfl ?_
      refine QJ.off_undef rfl rfl rfl rfl ?_
      refine QJ.off_undef rfl rfl rfl rfl ?_
      refine QJ.off_undef rfl rfl rfl rfl ?_
      refine QJ.off rfl rfl (cB hb6) rfl rfl ?_
      refine QJ.step (YldS.yld (y_pick_f (cB hb6) rfl)) rfl ?_
      exact QJ.cut_end ⟨rfl, trivial⟩
  refine QJ.step (YldS.yld (y_assign rfl)) rfl ?_
  refine QJ.done ?_
  refine PJ.next ?_
  refine WJ.ret ?_
  obtain rfl := Option.some.inj hm
  refine PJ.sel (L' := []) [] ⟨List.nodup_nil, rfl⟩ ?_
  exact PJ.retn (vs := [.bool t4]) Try.results112 ⟨rfl, trivial⟩ ⟨rfl, rfl⟩

set_option maxRecDepth 100000 in
set_option maxHeartbeats 1000000 in
theorem ok_i_moved {N : Nat} {stops1 : List Int} {column4 : Int} {move5 : UInt8} {r : Int × Bool} (hm : i_moved N stops1 column4 move5 = some r) (w : World) (v2 : Value) (hr3 : RdS w (cx w).Fz v2 fI64.rp stops1) :
    Calls Try.prog 114 #[v2, .int .i64 column4, .int .u8 (UInt8.toNat move5 : Int)] w (Ret (cx w) (tup [.int .i64 r.1, .bool r.2])) := by
  unfold i_moved at hm
  refine Calls.enter [v2, .int .i64 column4, .int .u8 (UInt8.toNat move5 : Int)] Try.func114 rfl Try.ntmps114 rfl ?_
  refine WJ.seq ?_
  refine WJ.quiet ?_
  refine QJ.step (YldS.yld (y_assign rfl)) rfl ?_
  refine QJ.step (YldS.yld (y_assign rfl)) rfl ?_
  refine QJ.done ?_
  refine PJ.next ?_
  refine WJ.seq ?_
  refine WJ.seq ?_
  refine WJ.quiet ?_
  refine QJ.step (YldS.yld (y_move rfl)) rfl ?_
  refine QJ.done ?_
  refine PJ.next ?_
  refine WJ.block ?_
  refine WJ.seq ?_
  refine WJ.quiet ?_
  refine QJ.step (YldS.yld (y_bin8 move5 (62 : UInt8) rfl rfl rfl)) rfl ?_
  refine QJ.step (YldS.yld (y_assign rfl)) rfl ?_
  refine QJ.done ?_
  refine PJ.next ?_
  refine WJ.cond (t := (move5 == (62 : UInt8))) rfl (fun hb6 => ?_) (fun hb6 => ?_)
  · replace hm := ifT hm hb6
    refine WJ.seq ?_
    refine WJ.quiet ?_
    refine QJ.step (YldS.yld (y_move rfl)) rfl ?_
    refine QJ.step (YldS.yld (y_bin rfl rfl rfl)) rfl ?_
    refine QJ.step (YldS.yld (y_move rfl)) rfl ?_
    refine QJ.step (YldS.yld (y_bin rfl rfl rfl)) rfl ?_
    refine QJ.step (YldS.yld (y_assign rfl)) rfl ?_
    refine QJ.step (YldS.yld (y_assign rfl)) rfl ?_
    refine QJ.done ?_
    refine PJ.next ?_
    refine WJ.ret ?_
    refine PJ.block_ret (PJ.then_ret ?_)
    obtain rfl := Option.some.inj hm
    refine PJ.sel (L' := []) [] ⟨List.nodup_nil, rfl⟩ ?_
    exact PJ.retn (vs := [.int .i64 (w64 (column4 + 1)), .bool (decide (column4 < 30))]) Try.results114 ⟨rfl, rfl, trivial⟩ ⟨rfl, rfl⟩
  · replace hm := ifF hm hb6
    refine WJ.seq ?_
    refine WJ.quiet ?_
    refine QJ.step (YldS.yld (y_bin8 move5 (60 : UInt8) rfl rfl rfl)) rfl ?_
    refine QJ.step (YldS.yld (y_assign rfl)) rfl ?_
    refine QJ.done ?_
    refine PJ.next ?_
    refine WJ.cond (t := (move5 == (60 : UInt8))) rfl (fun hb7 => ?_) (fun hb7 => ?_)
    · replace hm := ifT hm hb7
      refine WJ.seq ?_
      refine WJ.quiet ?_
      refine QJ.step (YldS.yld (y_move rfl)) rfl ?_
      refine QJ.step (YldS.yld (y_bin rfl rfl rfl)) rfl ?_
      refine QJ.step (YldS.yld (y_move rfl)) rfl ?_
      refine QJ.step (YldS.yld (y_bin rfl rfl rfl)) rfl ?_
      refine QJ.step (YldS.yld (y_assign rfl)) rfl ?_
      refine QJ.step (YldS.yld (y_assign rfl)) rfl ?_
      refine QJ.done ?_
      refine PJ.next ?_
      refine WJ.ret ?_
      refine PJ.block_ret (PJ.then_ret ?_)
      obtain rfl := Option.some.inj hm
      refine PJ.sel (L' := []) [] ⟨List.nodup_nil, rfl⟩ ?_
      exact PJ.retn (vs := [.int .i64 (w64 (column4 - 1)), .bool (decide (column4 > 0))]) Try.results114 ⟨rfl, rfl, trivial⟩ ⟨rfl, rfl⟩
    · replace hm := ifF hm hb7
      refine WJ.skip ?_
      refine PJ.block_normal (PJ.next ?_)
      obtain ⟨kj8, hk9, hm⟩ := withK_open hm
      refine WJ.join (X := Unit) (fun (_ : Unit) => kj8  = some r) (fun (_ : Unit) => []) (fun (_ : Unit) => []) ?_ ?_
      · clear hk9
        refine WJ.seq ?_
        refine WJ.quiet ?_
        refine QJ.step (YldS.yld (y_move rfl)) rfl ?_
        refine QJ.step (YldS.yld (y_lenS Try.runUnderlying25 hr3 rfl)) rfl ?_
        refine QJ.step (YldS.yld (y_move rfl)) rfl ?_
        refine QJ.done ?_
        refine PJ.next ?_
        refine WJ.block ?_
        refine WJ.sel (L' := (fun (x : Int) => []) 0) [] ⟨List.nodup_nil, rfl⟩ ?_
        refine WJ.sub (m' := (fun (x : Int) => [(1, .int .i64 column4), (23, v2), (24, .int .i64 (List.length stops1 : Int)), (25, .int .i64 x)]) 0) ⟨rfl, rfl, rfl, rfl, trivial⟩ ?_
        refine WJ.loop (X := Int) (fun N (x : Int) => i_moved_l1 kj8 stops1 column4 N x = some r) (fun (x : Int) => [(1, .int .i64 column4), (23, v2), (24, .int .i64 (List.length stops1 : Int)), (25, .int .i64 x)]) (fun (x : Int) => []) ?_ N 0 hm
        · rintro N x10 hI
          have hm := hI; clear hI
          cases N with
          | zero => cases hm
          | succ N =>
          unfold i_moved_l1 at hm
          refine WJ.seq ?_
          refine WJ.quiet ?_
          refine QJ.step (YldS.yld (y_bin rfl rfl rfl)) rfl ?_
          refine QJ.done ?_
          refine PJ.next ?_
          refine WJ.seq ?_
          refine WJ.cond (t := decide (x10 < (List.length stops1 : Int))) rfl (fun hb11 => ?_) (fun hb11 => ?_)
          · replace hm := ifT hm hb11
            refine WJ.skip ?_
            refine PJ.next ?_
            refine WJ.seq ?_
            refine WJ.block ?_
            refine WJ.seq ?_
            refine WJ.quiet ?_
            obtain ⟨e12, h13, hm⟩ := bindS hm
            obtain ⟨ad14, _, rfl, ha15, hy16⟩ := hr3.elem h13
            refine QJ.step (YldS.yld (hy16 Try.runUnderlying25 Try.sizeOf2 rfl rfl)) rfl ?_
            refine QJ.step (YldS.yld (y_load1 (v := .int .i64 e12) Try.isAgg2 ha15 St.frozenC rfl)) rfl ?_
            refine QJ.step (YldS.yld (y_assign rfl)) rfl ?_
            refine QJ.done ?_
            refine PJ.next ?_
            refine WJ.seq ?_
            refine WJ.quiet ?_
            refine QJ.step (YldS.yld (y_move rfl)) rfl ?_
            refine QJ.step (YldS.yld (y_move rfl)) rfl ?_
            refine QJ.step (YldS.yld (y_bin rfl rfl rfl)) rfl ?_
            refine QJ.done ?_
            refine PJ.next ?_
            refine WJ.cond (t := decide (e12 > column4)) rfl (fun hb17 => ?_) (fun hb17 => ?_)
            · replace hm := ifT hm hb17
              refine WJ.seq ?_
              refine WJ.quiet ?_
              refine QJ.step (YldS.yld (y_move rfl)) rfl ?_
              refine QJ.step (YldS.yld (y_assign rfl)) rfl ?_
              refine QJ.step (YldS.yld (y_assign rfl)) rfl ?_
              refine QJ.done ?_
              refine PJ.next ?_
              refine WJ.ret ?_
              refine PJ.block_ret (PJ.then_ret (PJ.then_ret (PJ.block_ret (PJ.then_ret ?_))))
              obtain rfl := Option.some.inj hm
              refine PJ.sel (L' := []) [] ⟨List.nodup_nil, rfl⟩ ?_
              exact PJ.retn (vs := [.int .i64 e12, .bool true]) Try.results114 ⟨rfl, rfl, trivial⟩ ⟨rfl, rfl⟩
            · replace hm := ifF hm hb17
              refine WJ.skip ?_
              refine PJ.block_normal (PJ.next ?_)
              refine WJ.quiet ?_
              refine QJ.step (YldS.yld (y_bin rfl rfl rfl)) rfl ?_
              refine QJ.step (YldS.yld (y_move rfl)) rfl ?_
              refine QJ.done ?_
              exact PJ.round (w64 (x10 + 1)) [] hm ⟨rfl, rfl, rfl, rfl, trivial⟩ ⟨List.nodup_nil, rfl⟩
          · replace hm := ifF hm hb11
            refine WJ.exit ?_
            refine PJ.then_exit (PJ.then_exit (PJ.block_exit ?_))
            exact PJ.joined () [] hm trivial ⟨List.nodup_nil, rfl⟩
      · rintro _ hm
        subst hk9
        refine WJ.seq ?_
        refine WJ.quiet ?_
        refine QJ.step (YldS.yld (y_assign rfl)) rfl ?_
        refine QJ.step (YldS.yld (y_assign rfl)) rfl ?_
        refine QJ.done ?_
        refine PJ.next ?_
        refine WJ.ret ?_
        obtain rfl := Option.some.inj hm
        refine PJ.sel (L' := []) [] ⟨List.nodup_nil, rfl⟩ ?_
        exact PJ.retn (vs := [.int .i64 0, .bool false]) Try.results114 ⟨rfl, rfl, trivial⟩ ⟨rfl, rfl⟩

set_option maxRecDepth 100000 in
set_option maxHeartbeats 1000000 in
theorem ok_i_distances {N : Nat} {stops1 : List Int} {to4 : Int} {r : (List Int)} (hm : i_distances N stops1 to4 = some r) (w : World) (v2 : Value) (hr3 : RdS w (cx w).Fz v2 fI64.rp stops1) :
    Calls Try.prog 180 #[v2, .int .i64 to4] w (Ret (cx w) (.agg (List.toArray (encs fI64 r)))) := by
  unfold i_distances at hm
  refine Calls.enter [v2, .int .i64 to4] Try.func180 rfl Try.ntmps180 rfl ?_
  refine WJ.seq ?_
  refine WJ.reg ?_
  refine SJ.allocA (R := fI64) (xs := List.replicate 31 (0 : Int)) 31 zv200 rfl rfl rfl rfl fun g5 => ?_
  refine SJ.nil ?_
  refine PJ.next ?_
  refine WJ.seq ?_
  refine WJ.reg ?_
  refine SJ.q (YldS.yld (y_build0 Try.runUnderlying200 zv200 Try.sizeOf2)) rfl ?_
  refine SJ.allocA (R := fI64) (xs := List.replicate 31 (0 : Int)) 31 zv200 rfl rfl rfl rfl fun g6 => ?_
  refine SJ.storeA (k := 0) (ys := (List.replicate 31 (0 : Int))) rfl rfl rfl rfl (by simp) Try.sizeOf200 (by simp [length_encs, fI64]) ?_
  refine SJ.nil ?_
  refine PJ.next ?_
  obtain ⟨kj8, hk9, hm⟩ := withK_open hm
  refine WJ.join (X := (List Int)) (fun (x : (List Int)) => kj8 x = some r) (fun (x : (List Int)) => [(0, v2), (1, .int .i64 to4), (4, pt g5 0), (5, pt g6 0)]) (fun (x : (List Int)) => [row (av g6 31) 200 fI64 x, row (av g5 31) 200 fI64 (List.replicate 31 (0 : Int))]) ?_ ?_
  · clear hk9
    refine WJ.seq ?_
    refine WJ.quiet ?_
    refine QJ.step (YldS.yld (y_move rfl)) rfl ?_
    refine QJ.done ?_
    refine PJ.next ?_
    refine WJ.block ?_
    refine WJ.sel (L' := (fun (x : (List Int) × Int) => [row (av g6 31) 200 fI64 x.1, row (av g5 31) 200 fI64 (List.replicate 31 (0 : Int))]) ((List.replicate 31 (0 : Int)), 0)) [0, 1] ⟨by decide, rfl⟩ ?_
    refine WJ.sub (m' := (fun (x : (List Int) × Int) => [(0, v2), (1, .int .i64 to4), (4, pt g5 0), (5, pt g6 0), (15, .int .i64 x.2)]) ((List.replicate 31 (0 : Int)), 0)) ⟨rfl, rfl, rfl, rfl, rfl, trivial⟩ ?_
    refine WJ.loop (X := (List Int) × Int) (fun N (x : (List Int) × Int) => i_distances_l1 kj8 N x.1 x.2 = some r) (fun (x : (List Int) × Int) => [(0, v2), (1, .int .i64 to4), (4, pt g5 0), (5, pt g6 0), (15, .int .i64 x.2)]) (fun (x : (List Int) × Int) => [row (av g6 31) 200 fI64 x.1, row (av g5 31) 200 fI64 (List.replicate 31 (0 : Int))]) ?_ N ((List.replicate 31 (0 : Int)), 0) hm
    · rintro N ⟨l10, x11⟩ hI
      have hm := hI; clear hI
      cases N with
      | zero => cases hm
      | succ N =>
      unfold i_distances_l1 at hm
      refine WJ.seq ?_
      refine WJ.quiet ?_
      refine QJ.step (YldS.yld (y_bin rfl rfl rfl)) rfl ?_
      refine QJ.done ?_
      refine PJ.next ?_
      refine WJ.seq ?_
      refine WJ.cond (t := decide (x11 < 31)) rfl (fun hb12 => ?_) (fun hb12 => ?_)
      · replace hm := ifT hm hb12
        refine WJ.skip ?_
        refine PJ.next ?_
        refine WJ.seq ?_
        refine WJ.block ?_
        refine WJ.seq ?_
        refine WJ.quiet ?_
        refine QJ.step (YldS.yld (y_move rfl)) rfl ?_
        refine QJ.step (YldS.yld (y_assign rfl)) rfl ?_
        refine QJ.done ?_
        refine PJ.next ?_
        refine WJ.reg ?_
        refine SJ.q (YldS.yld (y_move rfl)) rfl ?_
        obtain ⟨e13, h14, hm⟩ := bindS hm
        refine SJ.q (YldS.yld (y_ixArr (k := 0) (R := fI64) rfl Try.runUnderlying200 Try.sizeOf2 rfl rfl h14)) rfl ?_
        refine SJ.storeRL (k := 0) (i := (Int.toNat x11)) (off := 0) (us := [.int .i64 (-1)]) (b := (-1)) rfl rfl (idx_get h14) rfl rfl Try.sizeOf2 rfl rfl rfl ?_
        refine SJ.nil ?_
        refine PJ.block_normal (PJ.next ?_)
        refine WJ.quiet ?_
        refine QJ.step (YldS.yld (y_bin rfl rfl rfl)) rfl ?_
        refine QJ.step (YldS.yld (y_move rfl)) rfl ?_
        refine QJ.done ?_
        exact PJ.round ((List.set l10 (Int.toNat x11) (-1)), w64 (x11 + 1)) [0, 1] hm ⟨rfl, rfl, rfl, rfl, rfl, trivial⟩ ⟨by decide, rfl⟩
      · replace hm := ifF hm hb12
        refine WJ.exit ?_
        refine PJ.then_exit (PJ.then_exit (PJ.block_exit ?_))
        exact PJ.joined l10 [0, 1] hm ⟨rfl, rfl, rfl, rfl, trivial⟩ ⟨by decide, rfl⟩
  · rintro l7 hm
    subst hk9
    refine WJ.seq ?_
    refine WJ.reg ?_
    refine SJ.q (YldS.yld (y_move rfl)) rfl ?_
    obtain ⟨e15, h16, hm⟩ := bindS hm
    refine SJ.q (YldS.yld (y_ixArr (k := 0) (R := fI64) rfl Try.runUnderlying200 Try.sizeOf2 rfl rfl h16)) rfl ?_
    refine SJ.storeRL (k := 0) (i := (Int.toNat to4)) (off := 0) (us := [.int .i64 0]) (b := 0) rfl rfl (idx_get h16) rfl rfl Try.sizeOf2 rfl rfl rfl ?_
    refine SJ.nil ?_
    refine PJ.next ?_
    obtain ⟨kj18, hk19, hm⟩ := withK_open hm
    refine WJ.join (X := (List Int)) (fun (x : (List Int)) => kj18 x = some r) (fun (x : (List Int)) => [(4, pt g5 0), (5, pt g6 0)]) (fun (x : (List Int)) => [row (av g6 31) 200 fI64 x, row (av g5 31) 200 fI64 (List.replicate 31 (0 : Int))]) ?_ ?_
    · clear hk19
      refine WJ.seq ?_
      refine WJ.quiet ?_
      refine QJ.step (YldS.yld (y_assign rfl)) rfl ?_
      refine QJ.step (YldS.yld (y_assign rfl)) rfl ?_
      refine QJ.done ?_
      refine PJ.next ?_
      refine WJ.block ?_
      refine WJ.sel (L' := (fun (x : (List Int) × Bool × Int) => [row (av g6 31) 200 fI64 x.1, row (av g5 31) 200 fI64 (List.replicate 31 (0 : Int))]) ((List.set l7 (Int.toNat to4) 0), true, 0)) [0, 1] ⟨by decide, rfl⟩ ?_
      refine WJ.sub (m' := (fun (x : (List Int) × Bool × Int) => [(0, v2), (4, pt g5 0), (5, pt g6 0), (7, .bool x.2.1), (8, .int .i64 x.2.2)]) ((List.set l7 (Int.toNat to4) 0), true, 0)) ⟨rfl, rfl, rfl, rfl, rfl, trivial⟩ ?_
      refine WJ.loop (X := (List Int) × Bool × Int) (fun N (x : (List Int) × Bool × Int) => i_distances_l2 kj18 stops1 N x.1 x.2.1 x.2.2 = some r) (fun (x : (List Int) × Bool × Int) => [(0, v2), (4, pt g5 0), (5, pt g6 0), (7, .bool x.2.1), (8, .int .i64 x.2.2)]) (fun (x : (List Int) × Bool × Int) => [row (av g6 31) 200 fI64 x.1, row (av g5 31) 200 fI64 (List.replicate 31 (0 : Int))]) ?_ N ((List.set l7 (Int.toNat to4) 0), true, 0) hm
      · rintro N ⟨l20, changed21, far22⟩ hI
        have hm := hI; clear hI
        cases N with
        | zero => cases hm
        | succ N =>
        unfold i_distances_l2 at hm
        refine WJ.seq ?_
        refine WJ.seq ?_
        refine WJ.quiet ?_
        refine QJ.step (YldS.yld (y_move rfl)) rfl ?_
        refine QJ.done ?_
        refine PJ.next ?_
        refine WJ.cond (t := changed21) rfl (fun hb23 => ?_) (fun hb23 => ?_)
        · replace hm := ifT hm hb23
          refine WJ.skip ?_
          refine PJ.next ?_
          obtain ⟨kj26, hk27, hm⟩ := withK_open hm
          refine WJ.join (X := (List Int) × Bool) (fun (x : (List Int) × Bool) => kj26 x.1 x.2 = some r) (fun (x : (List Int) × Bool) => [(0, v2), (4, pt g5 0), (5, pt g6 0), (7, .bool x.2), (8, .int .i64 far22)]) (fun (x : (List Int) × Bool) => [row (av g6 31) 200 fI64 x.1, row (av g5 31) 200 fI64 (List.replicate 31 (0 : Int))]) ?_ ?_
          · clear hk27
            refine WJ.block ?_
            refine WJ.seq ?_
            refine WJ.quiet ?_
            refine QJ.step (YldS.yld (y_assign rfl)) rfl ?_
            refine QJ.done ?_
            refine PJ.next ?_
            refine WJ.seq ?_
            refine WJ.quiet ?_
            refine QJ.step (YldS.yld (y_move rfl)) rfl ?_
            refine QJ.done ?_
            refine PJ.next ?_
            refine WJ.block ?_
            refine WJ.sel (L' := (fun (x : (List Int) × Bool × Int) => [row (av g6 31) 200 fI64 x.1, row (av g5 31) 200 fI64 (List.replicate 31 (0 : Int))]) (l20, false, 0)) [0, 1] ⟨by decide, rfl⟩ ?_
            refine WJ.sub (m' := (fun (x : (List Int) × Bool × Int) => [(0, v2), (4, pt g5 0), (5, pt g6 0), (7, .bool x.2.1), (8, .int .i64 far22), (26, .int .i64 x.2.2)]) (l20, false, 0)) ⟨rfl, rfl, rfl, rfl, rfl, rfl, trivial⟩ ?_
            refine WJ.loop (X := (List Int) × Bool × Int) (fun N (x : (List Int) × Bool × Int) => i_distances_l3 kj26 stops1 far22 N x.1 x.2.1 x.2.2 = some r) (fun (x : (List Int) × Bool × Int) => [(0, v2), (4, pt g5 0), (5, pt g6 0), (7, .bool x.2.1), (8, .int .i64 far22), (26, .int .i64 x.2.2)]) (fun (x : (List Int) × Bool × Int) => [row (av g6 31) 200 fI64 x.1, row (av g5 31) 200 fI64 (List.replicate 31 (0 : Int))]) ?_ N (l20, false, 0) hm
            · rintro N ⟨l28, changed29, x30⟩ hI
              have hm := hI; clear hI
              cases N with
              | zero => cases hm
              | succ N =>
              unfold i_distances_l3 at hm
              refine WJ.seq ?_
              refine WJ.quiet ?_
              refine QJ.step (YldS.yld (y_bin rfl rfl rfl)) rfl ?_
              refine QJ.done ?_
              refine PJ.next ?_
              refine WJ.seq ?_
              refine WJ.cond (t := decide (x30 < 31)) rfl (fun hb31 => ?_) (fun hb31 => ?_)
              · replace hm := ifT hm hb31
                refine WJ.skip ?_
                refine PJ.next ?_
                obtain ⟨kj34, hk35, hm⟩ := withK_open hm
                refine WJ.join (X := (List Int) × Bool) (fun (x : (List Int) × Bool) => kj34 x.1 x.2 = some r) (fun (x : (List Int) × Bool) => [(0, v2), (4, pt g5 0), (5, pt g6 0), (7, .bool x.2), (8, .int .i64 far22), (26, .int .i64 x30)]) (fun (x : (List Int) × Bool) => [row (av g6 31) 200 fI64 x.1, row (av g5 31) 200 fI64 (List.replicate 31 (0 : Int))]) ?_ ?_
                · clear hk35
                  refine WJ.block ?_
                  refine WJ.seq ?_
                  refine WJ.quiet ?_
                  refine QJ.step (YldS.yld (y_move rfl)) rfl ?_
                  refine QJ.step (YldS.yld (y_assign rfl)) rfl ?_
                  refine QJ.done ?_
                  refine PJ.next ?_
                  refine WJ.seq ?_
                  refine WJ.seq ?_
                  refine WJ.quiet ?_
                  refine QJ.step (YldS.yld (y_move rfl)) rfl ?_
                  obtain ⟨e36, h37, hm⟩ := bindS hm
                  refine QJ.step (YldS.yld (y_ixArr (k := 0) (R := fI64) rfl Try.runUnderlying200 Try.sizeOf2 rfl rfl h37)) rfl ?_
                  refine QJ.step (YldS.yld (y_loadR (k := 0) (i := (Int.toNat x30)) (off := 0) (u := .int .i64 e36) rfl Try.isAgg2 rfl (idx_get h37) rfl)) rfl ?_
                  refine QJ.step (YldS.yld (y_bin rfl rfl rfl)) rfl ?_
                  refine QJ.done ?_
                  refine PJ.next ?_
                  refine WJ.cond (t := decide (e36 ≥ 0)) rfl (fun hb38 => ?_) (fun hb38 => ?_)
                  · replace hm := ifT hm hb38
                    refine WJ.exit ?_
                    refine PJ.then_exit (PJ.block_exit ?_)
                    exact PJ.joined (l28, changed29) [0, 1] hm ⟨rfl, rfl, rfl, rfl, rfl, rfl, trivial⟩ ⟨by decide, rfl⟩
                  · replace hm := ifF hm hb38
                    refine WJ.skip ?_
                    refine PJ.next ?_
                    obtain ⟨kj40, hk41, hm⟩ := withK_open hm
                    refine WJ.join (X := (List Int)) (fun (x : (List Int)) => kj40 x = some r) (fun (x : (List Int)) => [(0, v2), (4, pt g5 0), (5, pt g6 0), (7, .bool changed29), (8, .int .i64 far22), (9, .int .i64 x30), (26, .int .i64 x30)]) (fun (x : (List Int)) => [row (av g6 31) 200 fI64 x, row (av g5 31) 200 fI64 (List.replicate 31 (0 : Int))]) ?_ ?_
                    · clear hk41
                      refine WJ.seq ?_
                      refine WJ.reg ?_
                      refine SJ.buildSlice (R := fByte) (os := [.const (.int .u8 (UInt8.toNat 35 : Int)), .const (.int .u8 (UInt8.toNat 60 : Int)), .const (.int .u8 (UInt8.toNat 62 : Int))]) [35, 60, 62] Try.runUnderlying22 Try.sizeOf5 Try.zeroValue5 rfl rfl rfl rfl rfl rfl fun v42 => ?_
                      refine SJ.convMark (k := 0) rfl Try.underlying22 Try.underlying5 rfl rfl ?_
                      refine SJ.q (YldS.yld (y_lenRowM (k := 0) rfl Try.runUnderlying22 rfl)) rfl ?_
                      refine SJ.q (YldS.yld (y_move rfl)) rfl ?_
                      refine SJ.nil ?_
                      refine PJ.next ?_
                      refine WJ.block ?_
                      refine WJ.sel (L' := (fun (x : (List Int) × Int) => [rowM v42 5 fByte [35, 60, 62], row (av g6 31) 200 fI64 x.1, row (av g5 31) 200 fI64 (List.replicate 31 (0 : Int))]) (l28, 0)) [0, 1, 2] ⟨by decide, rfl⟩ ?_
                      refine WJ.sub (m' := (fun (x : (List Int) × Int) => [(0, v2), (4, pt g5 0), (5, pt g6 0), (7, .bool changed29), (8, .int .i64 far22), (9, .int .i64 x30), (26, .int .i64 x30), (34, v42), (35, .int .i64 (List.length [35, 60, 62] : Int)), (36, .int .i64 x.2)]) (l28, 0)) ⟨rfl, rfl, rfl, rfl, rfl, rfl, rfl, rfl, rfl, rfl, trivial⟩ ?_
                      refine WJ.loop (X := (List Int) × Int) (fun N (x : (List Int) × Int) => i_distances_l4 kj40 stops1 far22 x30 N x.1 x.2 = some r) (fun (x : (List Int) × Int) => [(0, v2), (4, pt g5 0), (5, pt g6 0), (7, .bool changed29), (8, .int .i64 far22), (9, .int .i64 x30), (26, .int .i64 x30), (34, v42), (35, .int .i64 (List.length [35, 60, 62] : Int)), (36, .int .i64 x.2)]) (fun (x : (List Int) × Int) => [rowM v42 5 fByte [35, 60, 62], row (av g6 31) 200 fI64 x.1, row (av g5 31) 200 fI64 (List.replicate 31 (0 : Int))]) ?_ N (l28, 0) hm
                      · rintro N ⟨l43, x44⟩ hI
                        have hm := hI; clear hI
                        cases N with
                        | zero => cases hm
                        | succ N =>
                        unfold i_distances_l4 at hm
                        refine WJ.seq ?_
                        refine WJ.quiet ?_
                        refine QJ.step (YldS.yld (y_bin rfl rfl rfl)) rfl ?_
                        refine QJ.done ?_
                        refine PJ.next ?_
                        refine WJ.seq ?_
                        refine WJ.cond (t := decide (x44 < (List.length [35, 60, 62] : Int))) rfl (fun hb45 => ?_) (fun hb45 => ?_)
                        · replace hm := ifT hm hb45
                          refine WJ.skip ?_
                          refine PJ.next ?_
                          obtain ⟨kj47, hk48, hm⟩ := withK_open hm
                          refine WJ.join (X := (List Int)) (fun (x : (List Int)) => kj47 x = some r) (fun (x : (List Int)) => [(0, v2), (4, pt g5 0), (5, pt g6 0), (7, .bool changed29), (8, .int .i64 far22), (9, .int .i64 x30), (26, .int .i64 x30), (34, v42), (35, .int .i64 (List.length [35, 60, 62] : Int)), (36, .int .i64 x44)]) (fun (x : (List Int)) => [rowM v42 5 fByte [35, 60, 62], row (av g6 31) 200 fI64 x, row (av g5 31) 200 fI64 (List.replicate 31 (0 : Int))]) ?_ ?_
                          · clear hk48
                            refine WJ.block ?_
                            refine WJ.seq ?_
                            refine WJ.quiet ?_
                            obtain ⟨e49, h50, hm⟩ := bindS hm
                            refine QJ.step (YldS.yld (y_ixRowM (k := 0) (R := fByte) rfl Try.runUnderlying22 Try.sizeOf5 rfl rfl h50)) rfl ?_
                            refine QJ.step (YldS.yld (y_loadRM (k := 0) (i := (Int.toNat x44)) (off := 0) (u := .int .u8 (UInt8.toNat e49 : Int)) rfl Try.isAgg5 rfl (idx_get h50) rfl)) rfl ?_
                            refine QJ.step (YldS.yld (y_assign rfl)) rfl ?_
                            refine QJ.done ?_
                            refine PJ.next ?_
                            refine WJ.seq ?_
                            refine WJ.quiet ?_
                            refine QJ.step (YldS.yld (y_move rfl)) rfl ?_
                            refine QJ.step (YldS.yld (y_move rfl)) rfl ?_
                            refine QJ.step (YldS.yld (y_move rfl)) rfl ?_
                            obtain ⟨r51, h52, hm⟩ := bindS hm
                            refine QJ.step (y_call Try.call114 rfl (RetG.quiet fun w hw => ok_i_moved h52 w _ (hr3.st hw))) rfl ?_
                            refine QJ.step (YldS.yld (y_move rfl)) rfl ?_
                            refine QJ.step (YldS.yld (y_extract rfl rfl)) rfl ?_
                            refine QJ.step (YldS.yld (y_extract rfl rfl)) rfl ?_
                            refine QJ.step (YldS.yld (y_assign rfl)) rfl ?_
                            refine QJ.step (YldS.yld (y_assign rfl)) rfl ?_
                            refine QJ.done ?_
                            refine PJ.next ?_
                            refine WJ.seq ?_
                            refine WJ.quiet ?_
                            refine QJ.step (YldS.yld (y_move rfl)) rfl ?_
                            refine QJ.step (YldS.yld (y_move rfl)) rfl ?_
                            obtain ⟨t53, h54, hm⟩ := bindS hm
                            refine QJ.cut 6 [(0, v2), (4, pt g5 0), (5, pt g6 0), (7, .bool changed29), (8, .int .i64 far22), (9, .int .i64 x30), (26, .int .i64 x30), (34, v42), (35, .int .i64 (List.length [35, 60, 62] : Int)), (36, .int .i64 x44), (54, .bool t53)] ?_ ?_
                            · rcases Bool.eq_false_or_eq_true r51.2 with hb55 | hb55
                              · replace h54 := andT h54 hb55
                                refine QJ.on rfl rfl (cB hb55) (YldS.yld (y_move rfl)) rfl ?_
                                obtain ⟨e56, h57, h54⟩ := bindS h54
                                refine QJ.on rfl rfl (cB hb55) (YldS.yld (y_ixArr (k := 1) (R := fI64) rfl Try.runUnderlying200 Try.sizeOf2 rfl rfl h57)) rfl ?_
                                refine QJ.on rfl rfl (cB hb55) (YldS.yld (y_loadR (k := 1) (i := (Int.toNat r51.1)) (off := 0) (u := .int .i64 e56) rfl Try.isAgg2 rfl (idx_get h57) rfl)) rfl ?_
                                refine QJ.on rfl rfl (cB hb55) (YldS.yld (y_move rfl)) rfl ?_
                                refine QJ.on rfl rfl (cB hb55) (YldS.yld (y_bin rfl rfl rfl)) rfl ?_
                                refine QJ.step (YldS.yld (y_pick_t (cB hb55) rfl)) rfl ?_
                                obtain rfl := Option.some.inj h54
                                exact QJ.cut_end ⟨rfl, rfl, rfl, rfl, rfl, rfl, rfl, rfl, rfl, rfl, rfl, trivial⟩
                              · obtain rfl := andF h54 hb55
                                refine QJ.off rfl rfl (cB hb55) rfl rfl ?_
                                refine QJ.off rfl rfl (cB hb55) rfl rfl ?_
                                refine QJ.off rfl rfl (cB hb55) rfl rfl ?_
                                refine QJ.off rfl rfl (cB hb55) rfl rfl ?_
                                refine QJ.off rfl rfl (cB hb55) rfl rfl ?_
                                refine QJ.step (YldS.yld (y_pick_f (cB hb55) rfl)) rfl ?_
                                exact QJ.cut_end ⟨rfl, rfl, rfl, rfl, rfl, rfl, rfl, rfl, rfl, rfl, rfl, trivial⟩
                            refine QJ.done ?_
                            refine PJ.next ?_
                            refine WJ.cond (t := t53) rfl (fun hb58 => ?_) (fun hb58 => ?_)
                            · replace hm := ifT hm hb58
                              refine WJ.reg ?_
                              refine SJ.q (YldS.yld (y_move rfl)) rfl ?_
                              refine SJ.q (YldS.yld (y_move rfl)) rfl ?_
                              refine SJ.q (YldS.yld (y_bin rfl rfl rfl)) rfl ?_
                              obtain ⟨e59, h60, hm⟩ := bindS hm
                              refine SJ.q (YldS.yld (y_ixArr (k := 1) (R := fI64) rfl Try.runUnderlying200 Try.sizeOf2 rfl rfl h60)) rfl ?_
                              refine SJ.storeRL (k := 1) (i := (Int.toNat x30)) (off := 0) (us := [.int .i64 (w64 (far22 + 1))]) (b := w64 (far22 + 1)) rfl rfl (idx_get h60) rfl rfl Try.sizeOf2 rfl rfl rfl ?_
                              refine SJ.nil ?_
                              refine PJ.block_normal ?_
                              exact PJ.joined (List.set l43 (Int.toNat x30) (w64 (far22 + 1))) [0, 1, 2] hm ⟨rfl, rfl, rfl, rfl, rfl, rfl, rfl, rfl, rfl, rfl, trivial⟩ ⟨by decide, rfl⟩
                            · replace hm := ifF hm hb58
                              refine WJ.skip ?_
                              refine PJ.block_normal ?_
                              exact PJ.joined l43 [0, 1, 2] hm ⟨rfl, rfl, rfl, rfl, rfl, rfl, rfl, rfl, rfl, rfl, trivial⟩ ⟨by decide, rfl⟩
                          · rintro l46 hm
                            subst hk48
                            refine WJ.quiet ?_
                            refine QJ.step (YldS.yld (y_bin rfl rfl rfl)) rfl ?_
                            refine QJ.step (YldS.yld (y_move rfl)) rfl ?_
                            refine QJ.done ?_
                            exact PJ.round (l46, w64 (x44 + 1)) [0, 1, 2] hm ⟨rfl, rfl, rfl, rfl, rfl, rfl, rfl, rfl, rfl, rfl, trivial⟩ ⟨by decide, rfl⟩
                        · replace hm := ifF hm hb45
                          refine WJ.exit ?_
                          refine PJ.then_exit (PJ.then_exit (PJ.block_exit ?_))
                          exact PJ.joined l43 [1, 2] hm ⟨rfl, rfl, rfl, rfl, rfl, rfl, rfl, trivial⟩ ⟨by decide, rfl⟩
                    · rintro l39 hm
                      subst hk41
                      refine WJ.quiet ?_
                      refine QJ.step (YldS.yld (y_move rfl)) rfl ?_
                      refine QJ.step (YldS.yld (y_move rfl)) rfl ?_
                      obtain ⟨t61, h62, hm⟩ := bindS hm
                      refine QJ.cut 5 [(0, v2), (4, pt g5 0), (5, pt g6 0), (8, .int .i64 far22), (26, .int .i64 x30), (66, .bool t61)] ?_ ?_
                      · rcases Bool.eq_false_or_eq_true changed29 with hb63 | hb63
                        · obtain rfl := orT h62 hb63
                          refine QJ.off rfl rfl (cB hb63) rfl rfl ?_
                          refine QJ.off rfl rfl (cB hb63) rfl rfl ?_
                          refine QJ.off rfl rfl (cB hb63) rfl rfl ?_
                          refine QJ.off rfl rfl (cB hb63) rfl rfl ?_
                          refine QJ.step (YldS.yld (y_pick_t (cB hb63) rfl)) rfl ?_
                          exact QJ.cut_end ⟨rfl, rfl, rfl, rfl, rfl, rfl, trivial⟩
                        · replace h62 := orF h62 hb63
                          refine QJ.on rfl rfl (cB hb63) (YldS.yld (y_move rfl)) rfl ?_
                          obtain ⟨e64, h65, h62⟩ := bindS h62
                          refine QJ.on rfl rfl (cB hb63) (YldS.yld (y_ixArr (k := 0) (R := fI64) rfl Try.runUnderlying200 Try.sizeOf2 rfl rfl h65)) rfl ?_
                          refine QJ.on rfl rfl (cB hb63) (YldS.yld (y_loadR (k := 0) (i := (Int.toNat x30)) (off := 0) (u := .int .i64 e64) rfl Try.isAgg2 rfl (idx_get h65) rfl)) rfl ?_
                          refine QJ.on rfl rfl (cB hb63) (YldS.yld (y_bin rfl rfl rfl)) rfl ?_
                          refine QJ.step (YldS.yld (y_pick_f (cB hb63) rfl)) rfl ?_
                          obtain rfl := Option.some.inj h62
                          exact QJ.cut_end ⟨rfl, rfl, rfl, rfl, rfl, rfl, trivial⟩
                      refine QJ.step (YldS.yld (y_assign rfl)) rfl ?_
                      refine QJ.done ?_
                      refine PJ.block_normal ?_
                      exact PJ.joined (l39, t61) [0, 1] hm ⟨rfl, rfl, rfl, rfl, rfl, rfl, trivial⟩ ⟨by decide, rfl⟩
                · rintro ⟨l32, changed33⟩ hm
                  subst hk35
                  refine WJ.quiet ?_
                  refine QJ.step (YldS.yld (y_bin rfl rfl rfl)) rfl ?_
                  refine QJ.step (YldS.yld (y_move rfl)) rfl ?_
                  refine QJ.done ?_
                  exact PJ.round (l32, changed33, w64 (x30 + 1)) [0, 1] hm ⟨rfl, rfl, rfl, rfl, rfl, rfl, trivial⟩ ⟨by decide, rfl⟩
              · replace hm := ifF hm hb31
                refine WJ.exit ?_
                refine PJ.then_exit (PJ.then_exit (PJ.block_exit (PJ.block_normal ?_)))
                exact PJ.joined (l28, changed29) [0, 1] hm ⟨rfl, rfl, rfl, rfl, rfl, trivial⟩ ⟨by decide, rfl⟩
          · rintro ⟨l24, changed25⟩ hm
            subst hk27
            refine WJ.quiet ?_
            refine QJ.step (YldS.yld (y_move rfl)) rfl ?_
            refine QJ.step (YldS.yld (y_bin rfl rfl rfl)) rfl ?_
            refine QJ.step (YldS.yld (y_assign rfl)) rfl ?_
            refine QJ.done ?_
            exact PJ.round (l24, changed25, w64 (far22 + 1)) [0, 1] hm ⟨rfl, rfl, rfl, rfl, rfl, trivial⟩ ⟨by decide, rfl⟩
        · replace hm := ifF hm hb23
          refine WJ.exit ?_
          refine PJ.then_exit (PJ.then_exit (PJ.block_exit ?_))
          exact PJ.joined l20 [0, 1] hm ⟨rfl, rfl, trivial⟩ ⟨by decide, rfl⟩
    · rintro l17 hm
      subst hk19
      refine WJ.seq ?_
      refine WJ.reg ?_
      refine SJ.q (YldS.yld (y_loadA (k := 0) (R := fI64) rfl Try.isAgg200 Try.sizeOf200 rfl rfl)) rfl ?_
      obtain ⟨l66, h67, hm⟩ := bindS hm
      refine SJ.storeA (k := 1) (ys := l17) rfl rfl rfl rfl (chkA_len h67) Try.sizeOf200 ((length_encs fI64 l17).trans (congrArg (fun z => z * (fI64).size) (chkA_len h67))) ?_
      refine SJ.nil ?_
      refine PJ.next ?_
      refine WJ.ret ?_
      refine PJ.boxA 1 rfl fun hlen68 => ?_
      obtain rfl := Option.some.inj hm
      exact PJ.retn_sel (vs := [.agg (List.toArray (encs fI64 l17))]) Try.results180 ⟨⟨1, g5, 200, (encs fI64 l17), rfl, rfl, .inl ⟨Try.isAgg200, fun w => (Try.sizeOf200 w).trans (congrArg (fun z => Result.ok z w) ((length_encs fI64 l17).trans (congrArg (fun z => z * (fI64).size) hlen68)).symm), rfl⟩⟩, trivial⟩ [] ⟨List.nodup_nil, rfl⟩ ⟨rfl, rfl⟩

set_option maxRecDepth 100000 in
set_option maxHeartbeats 1000000 in
theorem ok_i_planBetween {N : Nat} {stops1 : List Int} {from4 : Int} {to5 : Int} {r : Str} (hm : i_planBetween N stops1 from4 to5 = some r) (w : World) (v2 : Value) (hr3 : RdS w (cx w).Fz v2 fI64.rp stops1) :
    Calls Try.prog 157 #[v2, .int .i64 from4, .int .i64 to5] w (Ret (cx w) (str r)) := by
  unfold i_planBetween at hm
  refine Calls.enter [v2, .int .i64 from4, .int .i64 to5] Try.func157 rfl Try.ntmps157 rfl ?_
  refine WJ.seq ?_
  refine WJ.quiet ?_
  refine QJ.step (YldS.yld (y_assign rfl)) rfl ?_
  refine QJ.done ?_
  refine PJ.next ?_
  refine WJ.seq ?_
  refine WJ.reg ?_
  refine SJ.q (YldS.yld (y_move rfl)) rfl ?_
  refine SJ.q (YldS.yld (y_move rfl)) rfl ?_
  obtain ⟨r6, h7, hm⟩ := bindS hm
  refine SJ.q (y_call Try.call180 rfl (RetG.quiet fun w hw => ok_i_distances h7 w _ (hr3.st hw))) rfl ?_
  refine SJ.allocA (R := fI64) (xs := List.replicate 31 (0 : Int)) 31 zv200 rfl rfl rfl rfl fun g8 => ?_
  obtain ⟨l9, h10, hm⟩ := bindS hm
  refine SJ.storeA (k := 0) (ys := r6) rfl rfl rfl rfl (chkA_len h10) Try.sizeOf200 ((length_encs fI64 r6).trans (congrArg (fun z => z * (fI64).size) (chkA_len h10))) ?_
  refine SJ.nil ?_
  refine PJ.next ?_
  refine WJ.seq ?_
  refine WJ.reg ?_
  refine SJ.buildSlice (R := fByte) (os := []) [] Try.runUnderlying22 Try.sizeOf5 Try.zeroValue5 rfl rfl rfl rfl rfl rfl fun v11 => ?_
  refine SJ.q (YldS.yld (y_assign rfl)) rfl ?_
  refine SJ.nil ?_
  refine PJ.next ?_
  obtain ⟨kj14, hk15, hm⟩ := withK_open hm
  refine WJ.join (X := (List UInt8) × Value) (fun (x : (List UInt8) × Value) => kj14 x.1 = some r) (fun (x : (List UInt8) × Value) => [(8, x.2)]) (fun (x : (List UInt8) × Value) => [row x.2 5 fByte x.1]) ?_ ?_
  · clear hk15
    refine WJ.block ?_
    refine WJ.sel (L' := (fun (x : (List UInt8) × Value × Int) => [row x.2.1 5 fByte x.1, row (av g8 31) 200 fI64 r6]) ([], v11, from4)) [0, 1] ⟨by decide, rfl⟩ ?_
    refine WJ.sub (m' := (fun (x : (List UInt8) × Value × Int) => [(0, v2), (1, .int .i64 x.2.2), (2, .int .i64 to5), (7, pt g8 0), (8, x.2.1)]) ([], v11, from4)) ⟨rfl, rfl, rfl, rfl, rfl, trivial⟩ ?_
    refine WJ.loop (X := (List UInt8) × Value × Int) (fun N (x : (List UInt8) × Value × Int) => i_planBetween_l1 kj14 stops1 to5 r6 N x.1 x.2.2 = some r) (fun (x : (List UInt8) × Value × Int) => [(0, v2), (1, .int .i64 x.2.2), (2, .int .i64 to5), (7, pt g8 0), (8, x.2.1)]) (fun (x : (List UInt8) × Value × Int) => [row x.2.1 5 fByte x.1, row (av g8 31) 200 fI64 r6]) ?_ N ([], v11, from4) hm
    · rintro N ⟨l16, v17, from18⟩ hI
      have hm := hI; clear hI
      cases N with
      | zero => cases hm
      | succ N =>
      unfold i_planBetween_l1 at hm
      obtain ⟨kj22, hk23, hm⟩ := withK_open hm
      refine WJ.joinT (X := (List UInt8) × Value × Int) (fun (x : (List UInt8) × Value × Int) => kj22 x.1 x.2.2 = some r) (fun (x : (List UInt8) × Value × Int) => [(0, v2), (1, .int .i64 x.2.2), (2, .int .i64 to5), (7, pt g8 0), (8, x.2.1)]) (fun (x : (List UInt8) × Value × Int) => [row x.2.1 5 fByte x.1, row (av g8 31) 200 fI64 r6]) ?_ ?_
      · clear hk23
        refine WJ.seq ?_
        refine WJ.seq ?_
        refine WJ.quiet ?_
        refine QJ.step (YldS.yld (y_move rfl)) rfl ?_
        refine QJ.step (YldS.yld (y_move rfl)) rfl ?_
        refine QJ.step (YldS.yld (y_bin rfl rfl rfl)) rfl ?_
        refine QJ.done ?_
        refine PJ.next ?_
        refine WJ.cond (t := (from18 != to5)) rfl (fun hb24 => ?_) (fun hb24 => ?_)
        · replace hm := ifT hm hb24
          refine WJ.skip ?_
          refine PJ.next ?_
          refine WJ.block ?_
          refine WJ.seq ?_
          refine WJ.reg ?_
          refine SJ.buildSlice (R := fByte) (os := [.const (.int .u8 (UInt8.toNat 35 : Int)), .const (.int .u8 (UInt8.toNat 60 : Int)), .const (.int .u8 (UInt8.toNat 62 : Int))]) [35, 60, 62] Try.runUnderlying22 Try.sizeOf5 Try.zeroValue5 rfl rfl rfl rfl rfl rfl fun v25 => ?_
          refine SJ.convMark (k := 0) rfl Try.underlying22 Try.underlying5 rfl rfl ?_
          refine SJ.q (YldS.yld (y_lenRowM (k := 0) rfl Try.runUnderlying22 rfl)) rfl ?_
          refine SJ.q (YldS.yld (y_move rfl)) rfl ?_
          refine SJ.nil ?_
          refine PJ.next ?_
          refine WJ.block ?_
          refine WJ.sel (L' := (fun (x : (List UInt8) × Value × Int × Int) => [rowM v25 5 fByte [35, 60, 62], row x.2.1 5 fByte x.1, row (av g8 31) 200 fI64 r6]) (l16, v17, from18, 0)) [0, 1, 2] ⟨by decide, rfl⟩ ?_
          refine WJ.sub (m' := (fun (x : (List UInt8) × Value × Int × Int) => [(0, v2), (1, .int .i64 x.2.2.1), (2, .int .i64 to5), (7, pt g8 0), (8, x.2.1), (21, v25), (22, .int .i64 (List.length [35, 60, 62] : Int)), (23, .int .i64 x.2.2.2)]) (l16, v17, from18, 0)) ⟨rfl, rfl, rfl, rfl, rfl, rfl, rfl, rfl, trivial⟩ ?_
          refine WJ.loop (X := (List UInt8) × Value × Int × Int) (fun N (x : (List UInt8) × Value × Int × Int) => i_planBetween_l2 kj22 stops1 r6 N x.1 x.2.2.1 x.2.2.2 = some r) (fun (x : (List UInt8) × Value × Int × Int) => [(0, v2), (1, .int .i64 x.2.2.1), (2, .int .i64 to5), (7, pt g8 0), (8, x.2.1), (21, v25), (22, .int .i64 (List.length [35, 60, 62] : Int)), (23, .int .i64 x.2.2.2)]) (fun (x : (List UInt8) × Value × Int × Int) => [rowM v25 5 fByte [35, 60, 62], row x.2.1 5 fByte x.1, row (av g8 31) 200 fI64 r6]) ?_ N (l16, v17, from18, 0) hm
          · rintro N ⟨l26, v27, from28, x29⟩ hI
            have hm := hI; clear hI
            cases N with
            | zero => cases hm
            | succ N =>
            unfold i_planBetween_l2 at hm
            refine WJ.seq ?_
            refine WJ.quiet ?_
            refine QJ.step (YldS.yld (y_bin rfl rfl rfl)) rfl ?_
            refine QJ.done ?_
            refine PJ.next ?_
            refine WJ.seq ?_
            refine WJ.cond (t := decide (x29 < (List.length [35, 60, 62] : Int))) rfl (fun hb30 => ?_) (fun hb30 => ?_)
            · replace hm := ifT hm hb30
              refine WJ.skip ?_
              refine PJ.next ?_
              refine WJ.seq ?_
              refine WJ.block ?_
              refine WJ.seq ?_
              refine WJ.quiet ?_
              obtain ⟨e31, h32, hm⟩ := bindS hm
              refine QJ.step (YldS.yld (y_ixRowM (k := 0) (R := fByte) rfl Try.runUnderlying22 Try.sizeOf5 rfl rfl h32)) rfl ?_
              refine QJ.step (YldS.yld (y_loadRM (k := 0) (i := (Int.toNat x29)) (off := 0) (u := .int .u8 (UInt8.toNat e31 : Int)) rfl Try.isAgg5 rfl (idx_get h32) rfl)) rfl ?_
              refine QJ.step (YldS.yld (y_assign rfl)) rfl ?_
              refine QJ.done ?_
              refine PJ.next ?_
              refine WJ.seq ?_
              refine WJ.quiet ?_
              refine QJ.step (YldS.yld (y_move rfl)) rfl ?_
              refine QJ.step (YldS.yld (y_move rfl)) rfl ?_
              refine QJ.step (YldS.yld (y_move rfl)) rfl ?_
              obtain ⟨r33, h34, hm⟩ := bindS hm
              refine QJ.step (y_call Try.call114 rfl (RetG.quiet fun w hw => ok_i_moved h34 w _ (hr3.st hw))) rfl ?_
              refine QJ.step (YldS.yld (y_move rfl)) rfl ?_
              refine QJ.step (YldS.yld (y_extract rfl rfl)) rfl ?_
              refine QJ.step (YldS.yld (y_extract rfl rfl)) rfl ?_
              refine QJ.step (YldS.yld (y_assign rfl)) rfl ?_
              refine QJ.step (YldS.yld (y_assign rfl)) rfl ?_
              refine QJ.done ?_
              refine PJ.next ?_
              refine WJ.seq ?_
              refine WJ.quiet_draw follows (by kernel_rfl) ?_
              refine QJ.step (YldS.yld (y_move rfl)) rfl ?_
              refine QJ.step (YldS.yld (y_move rfl)) rfl ?_
              obtain ⟨t35, h36, hm⟩ := bindS hm
              refine QJ.cut 9 [(0, v2), (1, .int .i64 from28), (2, .int .i64 to5), (7, pt g8 0), (8, v27), (10, .int .u8 (UInt8.toNat e31 : Int)), (11, .int .i64 r33.1), (21, v25), (22, .int .i64 (List.length [35, 60, 62] : Int)), (23, .int .i64 x29), (44, .bool t35)] ?_ ?_
              · rcases Bool.eq_false_or_eq_true r33.2 with hb37 | hb37
                · replace h36 := andT h36 hb37
                  refine QJ.on rfl rfl (cB hb37) (YldS.yld (y_move rfl)) rfl ?_
                  obtain ⟨e38, h39, h36⟩ := bindS h36
                  refine QJ.on rfl rfl (cB hb37) (YldS.yld (y_ixArr (k := 2) (R := fI64) rfl Try.runUnderlying200 Try.sizeOf2 rfl rfl h39)) rfl ?_
                  refine QJ.on rfl rfl (cB hb37) (YldS.yld (y_loadR (k := 2) (i := (Int.toNat r33.1)) (off := 0) (u := .int .i64 e38) rfl Try.isAgg2 rfl (idx_get h39) rfl)) rfl ?_
                  refine QJ.on rfl rfl (cB hb37) (YldS.yld (y_move rfl)) rfl ?_
                  obtain ⟨e40, h41, h36⟩ := bindS h36
                  refine QJ.on rfl rfl (cB hb37) (YldS.yld (y_ixArr (k := 2) (R := fI64) rfl Try.runUnderlying200 Try.sizeOf2 rfl rfl h41)) rfl ?_
                  refine QJ.on rfl rfl (cB hb37) (YldS.yld (y_loadR (k := 2) (i := (Int.toNat from28)) (off := 0) (u := .int .i64 e40) rfl Try.isAgg2 rfl (idx_get h41) rfl)) rfl ?_
                  refine QJ.on rfl rfl (cB hb37) (YldS.yld (y_bin rfl rfl rfl)) rfl ?_
                  refine QJ.on rfl rfl (cB hb37) (YldS.yld (y_bin rfl rfl rfl)) rfl ?_
                  refine QJ.step (YldS.yld (y_pick_t (cB hb37) rfl)) rfl ?_
                  obtain rfl := Option.some.inj h36
                  exact QJ.cut_end ⟨rfl, rfl, rfl, rfl, rfl, rfl, rfl, rfl, rfl, rfl, rfl, trivial⟩
                · obtain rfl := andF h36 hb37
                  refine QJ.off rfl rfl (cB hb37) rfl rfl ?_
                  refine QJ.off rfl rfl (cB hb37) rfl rfl ?_
                  refine QJ.off rfl rfl (cB hb37) rfl rfl ?_
                  refine QJ.off rfl rfl (cB hb37) rfl rfl ?_
                  refine QJ.off rfl rfl (cB hb37) rfl rfl ?_
                  refine QJ.off rfl rfl (cB hb37) rfl rfl ?_
                  refine QJ.off rfl rfl (cB hb37) rfl rfl ?_
                  refine QJ.off rfl rfl (cB hb37) rfl rfl ?_
                  refine QJ.step (YldS.yld (y_pick_f (cB hb37) rfl)) rfl ?_
                  exact QJ.cut_end ⟨rfl, rfl, rfl, rfl, rfl, rfl, rfl, rfl, rfl, rfl, rfl, trivial⟩
              refine QJ.done ?_
              refine PJ.next ?_
              refine WJ.cond (t := t35) rfl (fun hb42 => ?_) (fun hb42 => ?_)
              · replace hm := ifT hm hb42
                refine WJ.seq ?_
                refine WJ.reg ?_
                refine SJ.q (YldS.yld (y_move rfl)) rfl ?_
                refine SJ.q (YldS.yld (y_move rfl)) rfl ?_
                refine SJ.buildSlice (R := fByte) (os := [.tmp 46]) [e31] Try.runUnderlying22 Try.sizeOf5 Try.zeroValue5 rfl rfl rfl rfl rfl rfl fun v43 => ?_
                obtain ⟨l44, h45, hm⟩ := bindS hm
                refine SJ.append (k := 2) (R := fByte) h45 rfl Try.underlying22 el5 rfl rfl rfl (fun w hw => (hw.row_rd (k := 0) rfl)) rfl fun v46 => ?_
                refine SJ.q (YldS.yld (y_assign rfl)) rfl ?_
                refine SJ.nil ?_
                refine PJ.next ?_
                refine WJ.seq ?_
                refine WJ.quiet ?_
                refine QJ.step (YldS.yld (y_move rfl)) rfl ?_
                refine QJ.step (YldS.yld (y_assign rfl)) rfl ?_
                refine QJ.done ?_
                refine PJ.next ?_
                refine WJ.exit ?_
                refine PJ.block_exit_ne rfl (PJ.then_exit (PJ.then_exit (PJ.block_exit (PJ.block_normal ?_))))
                exact PJ.joined (l44, v46, r33.1) [2, 3] hm ⟨rfl, rfl, rfl, rfl, rfl, trivial⟩ ⟨by decide, rfl⟩
              · replace hm := ifF hm hb42
                refine WJ.skip ?_
                refine PJ.block_normal (PJ.next ?_)
                refine WJ.quiet ?_
                refine QJ.step (YldS.yld (y_bin rfl rfl rfl)) rfl ?_
                refine QJ.step (YldS.yld (y_move rfl)) rfl ?_
                refine QJ.done ?_
                exact PJ.round (l26, v27, from28, w64 (x29 + 1)) [0, 1, 2] hm ⟨rfl, rfl, rfl, rfl, rfl, rfl, rfl, rfl, trivial⟩ ⟨by decide, rfl⟩
            · replace hm := ifF hm hb30
              refine WJ.exit ?_
              refine PJ.then_exit (PJ.then_exit (PJ.block_exit (PJ.block_normal ?_)))
              exact PJ.joined (l26, v27, from28) [1, 2] hm ⟨rfl, rfl, rfl, rfl, rfl, trivial⟩ ⟨by decide, rfl⟩
        · replace hm := ifF hm hb24
          refine WJ.exit ?_
          refine PJ.then_exit (PJ.then_exit (PJ.then_exit (PJ.block_exit ?_)))
          exact PJ.joined (l16, v17) [0] hm ⟨rfl, trivial⟩ ⟨by decide, rfl⟩
      · rintro ⟨l19, v20, from21⟩ hm
        subst hk23
        exact PJ.round (l19, v20, from21) [0, 1] hm ⟨rfl, rfl, rfl, rfl, rfl, trivial⟩ ⟨by decide, rfl⟩
  · rintro ⟨l12, v13⟩ hm
    subst hk15
    refine WJ.seq ?_
    refine WJ.quiet ?_
    refine QJ.step (YldS.yld (y_move rfl)) rfl ?_
    refine QJ.step (YldS.yld (y_b2s Try.underlying22 Try.underlying9 Try.underlying5 (fun w hw => ⟨_, (hw.row_rd (k := 0) rfl)⟩) rfl)) rfl ?_
    refine QJ.step (YldS.yld (y_assign rfl)) rfl ?_
    refine QJ.done ?_
    refine PJ.next ?_
    refine WJ.ret ?_
    obtain rfl := Option.some.inj hm
    refine PJ.sel (L' := []) [] ⟨List.nodup_nil, rfl⟩ ?_
    exact PJ.retn (vs := [str l12]) Try.results157 ⟨rfl, trivial⟩ ⟨rfl, rfl⟩

set_option maxRecDepth 100000 in
set_option maxHeartbeats 1000000 in
theorem ok_i_rowPlan {N : Nat} {stops1 : List Int} {row4 : Str} {r : Str × Int} (hm : i_rowPlan N stops1 row4 = some r) (w : World) (v2 : Value) (hr3 : RdS w (cx w).Fz v2 fI64.rp stops1) :
    Calls Try.prog 113 #[v2, str row4] w (Ret (cx w) (tup [str r.1, .int .i64 r.2])) := by
  unfold i_rowPlan at hm
  refine Calls.enter [v2, str row4] Try.func113 rfl Try.ntmps113 rfl ?_
  refine WJ.seq ?_
  refine WJ.quiet ?_
  refine QJ.step (YldS.yld (y_assign rfl)) rfl ?_
  refine QJ.step (YldS.yld (y_assign rfl)) rfl ?_
  refine QJ.done ?_
  refine PJ.next ?_
  refine WJ.seq ?_
  refine WJ.quiet ?_
  refine QJ.step (YldS.yld (y_assign rfl)) rfl ?_
  refine QJ.step (YldS.yld (y_assign rfl)) rfl ?_
  refine QJ.step (YldS.yld (y_assign rfl)) rfl ?_
  refine QJ.done ?_
  refine PJ.next ?_
  obtain ⟨kj7, hk8, hm⟩ := withK_open hm
  refine WJ.join (X := Str × Int) (fun (x : Str × Int) => kj7 x.1 x.2 = some r) (fun (x : Str × Int) => [(6, str x.1), (7, .int .i64 x.2)]) (fun (x : Str × Int) => []) ?_ ?_
  · clear hk8
    refine WJ.seq ?_
    refine WJ.quiet ?_
    refine QJ.step (YldS.yld (y_move rfl)) rfl ?_
    refine QJ.step (YldS.yld (y_lenStr Try.runUnderlying9 rfl)) rfl ?_
    refine QJ.step (YldS.yld (y_move rfl)) rfl ?_
    refine QJ.done ?_
    refine PJ.next ?_
    refine WJ.block ?_
    refine WJ.sel (L' := (fun (x : Str × Int × Int × Int) => []) ([], 0, 0, 0)) [] ⟨List.nodup_nil, rfl⟩ ?_
    refine WJ.sub (m' := (fun (x : Str × Int × Int × Int) => [(0, v2), (1, str row4), (6, str x.1), (7, .int .i64 x.2.1), (8, .int .i64 x.2.2.1), (12, .int .i64 (List.length row4 : Int)), (13, .int .i64 x.2.2.2)]) ([], 0, 0, 0)) ⟨rfl, rfl, rfl, rfl, rfl, rfl, rfl, trivial⟩ ?_
    refine WJ.loop (X := Str × Int × Int × Int) (fun N (x : Str × Int × Int × Int) => i_rowPlan_l1 kj7 stops1 row4 N x.1 x.2.1 x.2.2.1 x.2.2.2 = some r) (fun (x : Str × Int × Int × Int) => [(0, v2), (1, str row4), (6, str x.1), (7, .int .i64 x.2.1), (8, .int .i64 x.2.2.1), (12, .int .i64 (List.length row4 : Int)), (13, .int .i64 x.2.2.2)]) (fun (x : Str × Int × Int × Int) => []) ?_ N ([], 0, 0, 0) hm
    · rintro N ⟨plan9, moves10, at11, x12⟩ hI
      have hm := hI; clear hI
      cases N with
      | zero => cases hm
      | succ N =>
      unfold i_rowPlan_l1 at hm
      refine WJ.seq ?_
      refine WJ.quiet ?_
      refine QJ.step (YldS.yld (y_bin rfl rfl rfl)) rfl ?_
      refine QJ.done ?_
      refine PJ.next ?_
      refine WJ.seq ?_
      refine WJ.cond (t := decide (x12 < (List.length row4 : Int))) rfl (fun hb13 => ?_) (fun hb13 => ?_)
      · replace hm := ifT hm hb13
        refine WJ.skip ?_
        refine PJ.next ?_
        obtain ⟨kj17, hk18, hm⟩ := withK_open hm
        refine WJ.join (X := Str × Int × Int) (fun (x : Str × Int × Int) => kj17 x.1 x.2.1 x.2.2 = some r) (fun (x : Str × Int × Int) => [(0, v2), (1, str row4), (6, str x.1), (7, .int .i64 x.2.1), (8, .int .i64 x.2.2), (12, .int .i64 (List.length row4 : Int)), (13, .int .i64 x12)]) (fun (x : Str × Int × Int) => []) ?_ ?_
        · clear hk18
          refine WJ.block ?_
          refine WJ.seq ?_
          refine WJ.quiet ?_
          refine QJ.step (YldS.yld (y_move rfl)) rfl ?_
          refine QJ.step (YldS.yld (y_assign rfl)) rfl ?_
          refine QJ.done ?_
          refine PJ.next ?_
          refine WJ.seq ?_
          refine WJ.seq ?_
          refine WJ.quiet ?_
          refine QJ.step (YldS.yld (y_move rfl)) rfl ?_
          refine QJ.step (YldS.yld (y_move rfl)) rfl ?_
          obtain ⟨c19, h20, hm⟩ := bindS hm
          refine QJ.step (YldS.yld (y_idxStr Try.runUnderlying9 rfl rfl h20)) rfl ?_
          refine QJ.step (YldS.yld (y_bin8 c19 (32 : UInt8) rfl rfl rfl)) rfl ?_
          refine QJ.done ?_
          refine PJ.next ?_
          refine WJ.cond (t := (c19 == (32 : UInt8))) rfl (fun hb21 => ?_) (fun hb21 => ?_)
          · replace hm := ifT hm hb21
            refine WJ.exit ?_
            refine PJ.then_exit (PJ.block_exit ?_)
            exact PJ.joined (plan9, moves10, at11) [] hm ⟨rfl, rfl, rfl, rfl, rfl, rfl, rfl, trivial⟩ ⟨List.nodup_nil, rfl⟩
          · replace hm := ifF hm hb21
            refine WJ.skip ?_
            refine PJ.next ?_
            refine WJ.seq ?_
            refine WJ.quiet ?_
            refine QJ.step (YldS.yld (y_move rfl)) rfl ?_
            refine QJ.step (YldS.yld (y_move rfl)) rfl ?_
            refine QJ.step (YldS.yld (y_move rfl)) rfl ?_
            obtain ⟨r22, h23, hm⟩ := bindS hm
            refine QJ.step (y_call Try.call157 rfl (RetG.quiet fun w hw => ok_i_planBetween h23 w _ (hr3.st hw))) rfl ?_
            refine QJ.step (YldS.yld (y_assign rfl)) rfl ?_
            refine QJ.done ?_
            refine PJ.next ?_
            refine WJ.seq ?_
            refine WJ.quiet ?_
            refine QJ.step (YldS.yld (y_move rfl)) rfl ?_
            refine QJ.step (YldS.yld (y_move rfl)) rfl ?_
            obtain ⟨s24, h25, hm⟩ := bindS hm
            refine QJ.step (YldS.yld (y_cat h25 rfl rfl)) rfl ?_
            refine QJ.step (YldS.yld (y_move rfl)) rfl ?_
            refine QJ.step (YldS.yld (y_move rfl)) rfl ?_
            refine QJ.step (YldS.yld (y_move rfl)) rfl ?_
            refine QJ.step (YldS.yld (y_bin rfl rfl rfl)) rfl ?_
            obtain ⟨s26, h27, hm⟩ := bindS hm
            refine QJ.step (YldS.yld (y_subStr (i := some x12) (j := some (w64 (x12 + 1))) h27 Try.runUnderlying9 rfl ⟨_, rfl⟩ ⟨_, rfl⟩)) rfl ?_
            obtain ⟨s28, h29, hm⟩ := bindS hm
            refine QJ.step (YldS.yld (y_cat h29 rfl rfl)) rfl ?_
            obtain ⟨s30, h31, hm⟩ := bindS hm
            refine QJ.step (YldS.yld (y_cat h31 rfl rfl)) rfl ?_
            refine QJ.step (YldS.yld (y_assign rfl)) rfl ?_
            refine QJ.done ?_
            refine PJ.next ?_
            refine WJ.seq ?_
            refine WJ.quiet ?_
            refine QJ.step (YldS.yld (y_move rfl)) rfl ?_
            refine QJ.step (YldS.yld (y_move rfl)) rfl ?_
            refine QJ.step (YldS.yld (y_lenStr Try.runUnderlying9 rfl)) rfl ?_
            refine QJ.step (YldS.yld (y_bin rfl rfl rfl)) rfl ?_
            refine QJ.step (YldS.yld (y_assign rfl)) rfl ?_
            refine QJ.done ?_
            refine PJ.next ?_
            refine WJ.quiet ?_
            refine QJ.step (YldS.yld (y_move rfl)) rfl ?_
            refine QJ.step (YldS.yld (y_bin rfl rfl rfl)) rfl ?_
            refine QJ.step (YldS.yld (y_assign rfl)) rfl ?_
            refine QJ.done ?_
            refine PJ.block_normal ?_
            exact PJ.joined (s30, w64 (moves10 + (List.length r22 : Int)), w64 (x12 + 1)) [] hm ⟨rfl, rfl, rfl, rfl, rfl, rfl, rfl, trivial⟩ ⟨List.nodup_nil, rfl⟩
        · rintro ⟨plan14, moves15, at16⟩ hm
          subst hk18
          refine WJ.quiet ?_
          refine QJ.step (YldS.yld (y_bin rfl rfl rfl)) rfl ?_
          refine QJ.step (YldS.yld (y_move rfl)) rfl ?_
          refine QJ.done ?_
          exact PJ.round (plan14, moves15, at16, w64 (x12 + 1)) [] hm ⟨rfl, rfl, rfl, rfl, rfl, rfl, rfl, trivial⟩ ⟨List.nodup_nil, rfl⟩
      · replace hm := ifF hm hb13
        refine WJ.exit ?_
        refine PJ.then_exit (PJ.then_exit (PJ.block_exit ?_))
        exact PJ.joined (plan9, moves10) [] hm ⟨rfl, rfl, trivial⟩ ⟨List.nodup_nil, rfl⟩
  · rintro ⟨plan5, moves6⟩ hm
    subst hk8
    refine WJ.seq ?_
    refine WJ.quiet ?_
    refine QJ.step (YldS.yld (y_move rfl)) rfl ?_
    refine QJ.step (YldS.yld (y_move rfl)) rfl ?_
    refine QJ.step (YldS.yld (y_assign rfl)) rfl ?_
    refine QJ.step (YldS.yld (y_assign rfl)) rfl ?_
    refine QJ.done ?_
    refine PJ.next ?_
    refine WJ.ret ?_
    obtain rfl := Option.some.inj hm
    refine PJ.sel (L' := []) [] ⟨List.nodup_nil, rfl⟩ ?_
    exact PJ.retn (vs := [str plan5, .int .i64 moves6]) Try.results113 ⟨rfl, rfl, trivial⟩ ⟨rfl, rfl⟩

set_option maxRecDepth 100000 in
set_option maxHeartbeats 1000000 in
theorem ok_i_RowPlan {N : Nat} {stops1 : List Int} {row4 : Str} {r : Str × Int} (hm : i_RowPlan N stops1 row4 = some r) (w : World) (v2 : Value) (hr3 : RdS w (cx w).Fz v2 fI64.rp stops1) :
    Calls Try.prog 50 #[v2, str row4] w (Ret (cx w) (tup [str r.1, .int .i64 r.2])) := by
  unfold i_RowPlan at hm
  refine Calls.enter [v2, str row4] Try.func50 rfl Try.ntmps50 rfl ?_
  refine WJ.seq ?_
  refine WJ.quiet ?_
  refine QJ.step (YldS.yld (y_assign rfl)) rfl ?_
  refine QJ.step (YldS.yld (y_assign rfl)) rfl ?_
  refine QJ.done ?_
  refine PJ.next ?_
  refine WJ.seq ?_
  refine WJ.seq ?_
  refine WJ.quiet ?_
  refine QJ.step (YldS.yld (y_move rfl)) rfl ?_
  obtain ⟨r5, h6, hm⟩ := bindS hm
  refine QJ.step (y_call Try.call111 rfl (RetG.quiet fun w hw => ok_i_ValidStops h6 w _ (hr3.st hw))) rfl ?_
  refine QJ.step (YldS.yld (y_not rfl)) rfl ?_
  refine QJ.done ?_
  refine PJ.next ?_
  refine WJ.cond (t := !r5) rfl (fun hb7 => ?_) (fun hb7 => ?_)
  · replace hm := ifT hm hb7
    refine WJ.seq ?_
    refine WJ.quiet ?_
    refine QJ.step (YldS.yld (y_assign rfl)) rfl ?_
    refine QJ.step (YldS.yld (y_assign rfl)) rfl ?_
    refine QJ.done ?_
    refine PJ.next ?_
    refine WJ.ret ?_
    refine PJ.then_ret ?_
    obtain rfl := Option.some.inj hm
    refine PJ.sel (L' := []) [] ⟨List.nodup_nil, rfl⟩ ?_
    exact PJ.retn (vs := [str [], .int .i64 1]) Try.results50 ⟨rfl, rfl, trivial⟩ ⟨rfl, rfl⟩
  · replace hm := ifF hm hb7
    refine WJ.skip ?_
    refine PJ.next ?_
    refine WJ.seq ?_
    refine WJ.seq ?_
    refine WJ.quiet ?_
    refine QJ.step (YldS.yld (y_move rfl)) rfl ?_
    obtain ⟨r8, h9, hm⟩ := bindS hm
    refine QJ.step (y_call Try.call112 rfl (RetG.quiet fun w hw => ok_i_isRow h9 w )) rfl ?_
    refine QJ.step (YldS.yld (y_not rfl)) rfl ?_
    refine QJ.done ?_
    refine PJ.next ?_
    refine WJ.cond (t := !r8) rfl (fun hb10 => ?_) (fun hb10 => ?_)
    · replace hm := ifT hm hb10
      refine WJ.seq ?_
      refine WJ.quiet ?_
      refine QJ.step (YldS.yld (y_assign rfl)) rfl ?_
      refine QJ.step (YldS.yld (y_assign rfl)) rfl ?_
      refine QJ.done ?_
      refine PJ.next ?_
      refine WJ.ret ?_
      refine PJ.then_ret ?_
      obtain rfl := Option.some.inj hm
      refine PJ.sel (L' := []) [] ⟨List.nodup_nil, rfl⟩ ?_
      exact PJ.retn (vs := [str [], .int .i64 2]) Try.results50 ⟨rfl, rfl, trivial⟩ ⟨rfl, rfl⟩
    · replace hm := ifF hm hb10
      refine WJ.skip ?_
      refine PJ.next ?_
      refine WJ.seq ?_
      refine WJ.quiet ?_
      refine QJ.step (YldS.yld (y_move rfl)) rfl ?_
      refine QJ.step (YldS.yld (y_move rfl)) rfl ?_
      obtain ⟨r11, h12, hm⟩ := bindS hm
      refine QJ.step (y_call Try.call113 rfl (RetG.quiet fun w hw => ok_i_rowPlan h12 w _ (hr3.st hw))) rfl ?_
      refine QJ.step (YldS.yld (y_move rfl)) rfl ?_
      refine QJ.step (YldS.yld (y_extract rfl rfl)) rfl ?_
      refine QJ.step (YldS.yld (y_extract rfl rfl)) rfl ?_
      refine QJ.step (YldS.yld (y_assign rfl)) rfl ?_
      refine QJ.step (YldS.yld (y_assign rfl)) rfl ?_
      refine QJ.done ?_
      refine PJ.next ?_
      refine WJ.seq ?_
      refine WJ.quiet ?_
      refine QJ.step (YldS.yld (y_move rfl)) rfl ?_
      refine QJ.step (YldS.yld (y_assign rfl)) rfl ?_
      refine QJ.step (YldS.yld (y_assign rfl)) rfl ?_
      refine QJ.done ?_
      refine PJ.next ?_
      refine WJ.ret ?_
      obtain rfl := Option.some.inj hm
      refine PJ.sel (L' := []) [] ⟨List.nodup_nil, rfl⟩ ?_
      exact PJ.retn (vs := [str r11.1, .int .i64 0]) Try.results50 ⟨rfl, rfl, trivial⟩ ⟨rfl, rfl⟩

set_option maxRecDepth 100000 in
set_option maxHeartbeats 1000000 in
theorem ok_i_isLetter {N : Nat} {s1 : Str} {r : Bool} (hm : i_isLetter N s1 = some r) (w : World)  :
    Calls Try.prog 115 #[str s1] w (Ret (cx w) (.bool r)) := by
  unfold i_isLetter at hm
  refine Calls.enter [str s1] Try.func115 rfl Try.ntmps115 rfl ?_
  refine WJ.seq ?_
  refine WJ.quiet ?_
  refine QJ.step (YldS.yld (y_assign rfl)) rfl ?_
  refine QJ.done ?_
  refine PJ.next ?_
  refine WJ.seq ?_
  refine WJ.quiet ?_
  refine QJ.step (YldS.yld (y_move rfl)) rfl ?_
  refine QJ.step (YldS.yld (y_lenStr Try.runUnderlying9 rfl)) rfl ?_
  refine QJ.step (YldS.yld (y_bin rfl rfl rfl)) rfl ?_
  refine QJ.step (YldS.yld (y_move rfl)) rfl ?_
  obtain ⟨t2, h3, hm⟩ := bindS hm
  refine QJ.cut 3 [(9, .bool t2)] ?_ ?_
  · rcases Bool.eq_false_or_eq_true ((List.length s1 : Int) == 1) with hb4 | hb4
    · replace h3 := andT h3 hb4
      refine QJ.on rfl rfl (cB hb4) (YldS.yld (y_move rfl)) rfl ?_
      obtain ⟨r5, h6, h3⟩ := bindS h3
      refine QJ.on rfl rfl (cB hb4) (y_call Try.call156 rfl (RetG.quiet fun w hw => ok_i_isText h6 w )) rfl ?_
      refine QJ.step (YldS.yld (y_pick_t (cB hb4) rfl)) rfl ?_
      obtain rfl := Option.some.inj h3
      exact QJ.cut_end ⟨rfl, trivial⟩
    · obtain rfl := andF h3 hb4
      refine QJ.off rfl rfl (cB hb4) rfl rfl ?_
      refine QJ.off rfl rfl (cB hb4) rfl rfl ?_
      refine QJ.step (YldS.yld (y_pick_f (cB hb4) rfl)) rfl ?_
      exact QJ.cut_end ⟨rfl, trivial⟩
  refine QJ.step (YldS.yld (y_assign rfl)) rfl ?_
  refine QJ.done ?_
  refine PJ.next ?_
  refine WJ.ret ?_
  obtain rfl := Option.some.inj hm
  refine PJ.sel (L' := []) [] ⟨List.nodup_nil, rfl⟩ ?_
  exact PJ.retn (vs := [.bool t2]) Try.results115 ⟨rfl, trivial⟩ ⟨rfl, rfl⟩

end Go.Proofs.Ythpdpfagfkopnaa
