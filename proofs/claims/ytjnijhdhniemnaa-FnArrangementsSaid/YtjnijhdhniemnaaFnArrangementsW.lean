/-
  The walks: a call hands back what its plain function computes, where that has a value. No other conditions.
-/
import Derived.Test.YtjnijhdhniemnaaFnArrangementsM
import Derived.Test.YtjnijhdhniemnaaChecked
namespace Go.Proofs.Ytjnijhdhniemnaa
open Go.RowKit Go.Proofs
set_option linter.unusedVariables false
set_option linter.unusedSimpArgs false

theorem follows : Try.prog.follows .mixedOrders = true := by kernel_rfl

def Basket.enc (x : Basket) : List Value := [.int .i64 x.bars, .int .i64 x.rise, .int .i64 x.fall, .int .i64 x.clear, .int .i64 x.near]
def fBasket : FRp Basket := ⟨5, Basket.enc, fun _ => rfl, by decide, fun x u hu => by
  simp only [Basket.enc, List.mem_cons, List.not_mem_nil, or_false] at hu
  rcases hu with rfl | rfl | rfl | rfl | rfl <;> rfl⟩

theorem pl171 : PlacesOk Try.prog 171 [(0, 1), (1, 1), (2, 1)] := ⟨_, Try.runUnderlying171, fun w => by simp [Try.sizeOf3, Try.sizeOf22, Try.sizeOf169]⟩
theorem fld171_1 : FieldOk Try.prog 171 1 1 3 0 := ⟨_, _, Try.runUnderlying171, rfl, rfl, rfl, Try.sizeOf3⟩
theorem fld171_0 : FieldOk Try.prog 171 0 0 22 0 := ⟨_, _, Try.runUnderlying171, rfl, rfl, rfl, Try.sizeOf22⟩
theorem fld171_2 : FieldOk Try.prog 171 2 2 169 0 := ⟨_, _, Try.runUnderlying171, rfl, rfl, rfl, Try.sizeOf169⟩
theorem pl25 : PlacesOk Try.prog 25 [(0, 1), (1, 1), (2, 1), (3, 1), (4, 1)] := ⟨_, Try.runUnderlying25, fun w => by simp [Try.sizeOf2]⟩
theorem fld25_1 : FieldOk Try.prog 25 1 1 2 0 := ⟨_, _, Try.runUnderlying25, rfl, rfl, rfl, Try.sizeOf2⟩
theorem fld25_2 : FieldOk Try.prog 25 2 2 2 0 := ⟨_, _, Try.runUnderlying25, rfl, rfl, rfl, Try.sizeOf2⟩
theorem fld25_3 : FieldOk Try.prog 25 3 3 2 0 := ⟨_, _, Try.runUnderlying25, rfl, rfl, rfl, Try.sizeOf2⟩
theorem fld25_4 : FieldOk Try.prog 25 4 4 2 0 := ⟨_, _, Try.runUnderlying25, rfl, rfl, rfl, Try.sizeOf2⟩
theorem fld25_0 : FieldOk Try.prog 25 0 0 2 0 := ⟨_, _, Try.runUnderlying25, rfl, rfl, rfl, Try.sizeOf2⟩
set_option maxRecDepth 100000 in
theorem el2 : ElemOk Try.prog 2 1 (fI64.enc 0) := ⟨_, _, Try.type2, rfl, rfl, rfl, by decide⟩
set_option maxRecDepth 100000 in
theorem el27 : ElemOk Try.prog 27 1 [.slice none 0 0] := ⟨_, _, Try.type27, rfl, rfl, rfl, by decide⟩

set_option maxRecDepth 100000 in
set_option maxHeartbeats 1000000 in
theorem ok_w_a2Long {code1 : List UInt8} {more4 : List UInt8} {r : Bool} (hm : w_a2Long code1 more4 = some r) (w : World) (v2 : Value) (hr3 : RdS w (cx w).Fz v2 fByte.rp code1) (v5 : Value) (hr6 : RdS w (cx w).Fz v5 fByte.rp more4) :
    Calls Try.prog 9 #[v2, v5] w (Ret (cx w) (.bool r)) := by
  unfold w_a2Long at hm
  refine Calls.enter [v2, v5] Try.func9 rfl Try.ntmps9 rfl ?_
  refine WJ.seq ?_
  refine WJ.quiet ?_
  refine QJ.step (YldS.yld (y_assign rfl)) rfl ?_
  refine QJ.done ?_
  refine PJ.next ?_
  refine WJ.seq ?_
  refine WJ.quiet ?_
  refine QJ.step (YldS.yld (y_move rfl)) rfl ?_
  refine QJ.step (YldS.yld (y_lenS Try.runUnderlying22 hr3 rfl)) rfl ?_
  refine QJ.step (YldS.yld (y_bin rfl rfl rfl)) rfl ?_
  refine QJ.step (YldS.yld (y_move rfl)) rfl ?_
  obtain ⟨t7, h8, hm⟩ := bindS hm
  refine QJ.cut 4 [(12, .bool t7)] ?_ ?_
  · rcases Bool.eq_false_or_eq_true (decide ((List.length code1 : Int) > 3000)) with hb9 | hb9
    · obtain rfl := orT h8 hb9
      refine QJ.off rfl rfl (cB hb9) rfl rfl ?_
      refine QJ.off rfl rfl (cB hb9) rfl rfl ?_
      refine QJ.off rfl rfl (cB hb9) rfl rfl ?_
      refine QJ.step (YldS.yld (y_pick_t (cB hb9) rfl)) rfl ?_
      exact QJ.cut_end ⟨rfl, trivial⟩
    · replace h8 := orF h8 hb9
      refine QJ.on rfl rfl (cB hb9) (YldS.yld (y_move rfl)) rfl ?_
      refine QJ.on rfl rfl (cB hb9) (YldS.yld (y_lenS Try.runUnderlying22 hr6 rfl)) rfl ?_
      refine QJ.on rfl rfl (cB hb9) (YldS.yld (y_bin rfl rfl rfl)) rfl ?_
      refine QJ.step (YldS.yld (y_pick_f (cB hb9) rfl)) rfl ?_
      obtain rfl := Option.some.inj h8
      exact QJ.cut_end ⟨rfl, trivial⟩
  refine QJ.step (YldS.yld (y_assign rfl)) rfl ?_
  refine QJ.done ?_
  refine PJ.next ?_
  refine WJ.ret ?_
  obtain rfl := Option.some.inj hm
  refine PJ.sel (L' := []) [] ⟨List.nodup_nil, rfl⟩ ?_
  exact PJ.retn (vs := [.bool t7]) Try.results9 ⟨rfl, trivial⟩ ⟨rfl, rfl⟩

set_option maxRecDepth 100000 in
set_option maxHeartbeats 1000000 in
theorem ok_s_l00From {code1 : List UInt8} {r : L00Src} (hm : s_l00From code1 = some r) (w : World) (v2 : Value) (hr3 : RdS w (cx w).Fz v2 fByte.rp code1) :
    Calls Try.prog 74 #[v2] w (RetG (cx w) fun u L => ∃ (u1 : Nat), (u = pt u1 0 ∧ L = [box u1 171 [v2, .int .i64 r.at_, .int .u64 r.seed]])) := by
  unfold s_l00From at hm
  refine Calls.enter [v2] Try.func74 rfl Try.ntmps74 rfl ?_
  refine WJ.seq ?_
  refine WJ.quiet ?_
  refine QJ.step (YldS.yld (y_assign rfl)) rfl ?_
  refine QJ.done ?_
  refine PJ.next ?_
  refine WJ.seq ?_
  refine WJ.reg ?_
  refine SJ.q (YldS.yld (y_move rfl)) rfl ?_
  refine SJ.q (YldS.yld (y_build (parts := [(0, .tmp 3)]) (places := [(0, 1), (1, 1), (2, 1)]) (r := [v2, .int .i64 0, .int .u64 0]) pl171 Try.zeroValue171 rfl rfl (show _ = [(0, [v2])] from by simp only [List.map, RdS.cells1 hr3]) rfl)) rfl ?_
  refine SJ.box (cs := [v2, .int .i64 0, .int .u64 0]) rfl rfl rfl fun g4 => ?_
  refine SJ.q (YldS.yld (y_assign rfl)) rfl ?_
  refine SJ.nil ?_
  refine PJ.next ?_
  refine WJ.ret ?_
  obtain rfl := Option.some.inj hm
  refine PJ.sel (L' := [box g4 171 [v2, .int .i64 0, .int .u64 0]]) [0] ⟨by decide, rfl⟩ ?_
  exact PJ.retn (vs := [pt g4 0]) Try.results74 ⟨rfl, trivial⟩ ⟨_, rfl, rfl⟩

set_option maxRecDepth 100000 in
set_option maxHeartbeats 1000000 in
theorem ok_s_l00Src_next {s1 : L00Src} {g2 : Nat} {r : Int × L00Src} (hm : s_l00Src_next s1 = some r) (w : World) (S : Nat → Prop) (v3 : Value) (hr4 : RdS w (Cx.Fz ⟨w, S⟩) v3 fByte.rp s1.code) (hA : (box g2 171 [v3, .int .i64 s1.at_, .int .u64 s1.seed]).holds w S) :
    Calls Try.prog 144 #[pt g2 0] w (RetG ⟨w, S⟩ fun u L => (u = .int .i64 r.1 ∧ L = [box g2 171 [v3, .int .i64 r.2.at_, .int .u64 r.2.seed]])) := by
  unfold s_l00Src_next at hm
  refine Calls.enter1 hA [pt g2 0] Try.func144 rfl Try.ntmps144 rfl ?_
  refine WJ.seq ?_
  refine WJ.quiet ?_
  refine QJ.step (YldS.yld (y_assign rfl)) rfl ?_
  refine QJ.done ?_
  refine PJ.next ?_
  refine WJ.seq ?_
  refine WJ.quiet ?_
  refine QJ.step (YldS.yld (y_assign rfl)) rfl ?_
  refine QJ.done ?_
  refine PJ.next ?_
  obtain ⟨kj6, hk7, hm⟩ := withK_open hm
  refine WJ.join (X := Int) (fun (x : Int) => kj6 x = some r) (fun (x : Int) => [(0, pt g2 0), (3, .int .i64 x)]) (fun (x : Int) => [box g2 171 [v3, .int .i64 s1.at_, .int .u64 s1.seed]]) ?_ ?_
  · clear hk7
    refine WJ.seq ?_
    refine WJ.quiet_draw follows (by kernel_rfl) ?_
    refine QJ.step (YldS.yld (y_move rfl)) rfl ?_
    refine QJ.step (YldS.yld (y_nil rfl)) rfl ?_
    refine QJ.step (YldS.yld (y_fldB (o := 0) fld171_1 rfl)) rfl ?_
    refine QJ.step (YldS.yld (y_loadB (k := 0) (off := 1) (v := .int .i64 s1.at_) rfl Try.isAgg3 rfl rfl)) rfl ?_
    refine QJ.step (YldS.yld (y_move rfl)) rfl ?_
    refine QJ.step (YldS.yld (y_nil rfl)) rfl ?_
    refine QJ.step (YldS.yld (y_fldB (o := 0) fld171_0 rfl)) rfl ?_
    refine QJ.step (YldS.yld (y_loadB (k := 0) (off := 0) (v := v3) rfl Try.isAgg22 rfl rfl)) rfl ?_
    refine QJ.step (YldS.yld (y_lenS Try.runUnderlying22 hr4 rfl)) rfl ?_
    refine QJ.step (YldS.yld (y_bin rfl rfl rfl)) rfl ?_
    refine QJ.done ?_
    refine PJ.next ?_
    refine WJ.cond (t := decide (s1.at_ < (List.length s1.code : Int))) rfl (fun hb8 => ?_) (fun hb8 => ?_)
    · replace hm := ifT hm hb8
      refine WJ.quiet_draw follows (by kernel_rfl) ?_
      refine QJ.step (YldS.yld (y_move rfl)) rfl ?_
      refine QJ.step (YldS.yld (y_nil rfl)) rfl ?_
      refine QJ.step (YldS.yld (y_fldB (o := 0) fld171_0 rfl)) rfl ?_
      refine QJ.step (YldS.yld (y_loadB (k := 0) (off := 0) (v := v3) rfl Try.isAgg22 rfl rfl)) rfl ?_
      refine QJ.step (YldS.yld (y_move rfl)) rfl ?_
      refine QJ.step (YldS.yld (y_nil rfl)) rfl ?_
      refine QJ.step (YldS.yld (y_fldB (o := 0) fld171_1 rfl)) rfl ?_
      refine QJ.step (YldS.yld (y_loadB (k := 0) (off := 1) (v := .int .i64 s1.at_) rfl Try.isAgg3 rfl rfl)) rfl ?_
      obtain ⟨e9, h10, hm⟩ := bindS hm
      obtain ⟨ad11, _, rfl, ha12, hy13⟩ := hr4.elem h10
      refine QJ.step (YldS.yld (hy13 Try.runUnderlying22 Try.sizeOf5 rfl rfl)) rfl ?_
      refine QJ.step (YldS.yld (y_load1 (v := .int .u8 (UInt8.toNat e9 : Int)) Try.isAgg5 ha12 St.frozenC rfl)) rfl ?_
      refine QJ.step (YldS.yld (y_conv8 Try.runUnderlying5 Try.runUnderlying3 rfl)) rfl ?_
      refine QJ.step (YldS.yld (y_assign rfl)) rfl ?_
      refine QJ.done ?_
      exact PJ.joined (UInt8.toNat e9 : Int) [0] hm ⟨rfl, rfl, trivial⟩ ⟨by decide, rfl⟩
    · replace hm := ifF hm hb8
      refine WJ.skip ?_
      exact PJ.joined 0 [0] hm ⟨rfl, rfl, trivial⟩ ⟨by decide, rfl⟩
  · rintro b5 hm
    subst hk7
    refine WJ.seq ?_
    refine WJ.reg ?_
    refine SJ.q (YldS.yld (y_move rfl)) rfl ?_
    refine SJ.q (YldS.yld (y_nil rfl)) rfl ?_
    refine SJ.q (YldS.yld (y_fldB (o := 0) fld171_1 rfl)) rfl ?_
    refine SJ.q (YldS.yld (y_loadB (k := 0) (off := 1) (v := .int .i64 s1.at_) rfl Try.isAgg3 rfl rfl)) rfl ?_
    refine SJ.q (YldS.yld (y_bin rfl rfl rfl)) rfl ?_
    refine SJ.q (YldS.yld (y_nil rfl)) rfl ?_
    refine SJ.q (YldS.yld (y_fldB (o := 0) fld171_1 rfl)) rfl ?_
    refine SJ.storeL (k := 0) (off := 1) (us := [.int .i64 (w64 (s1.at_ + 1))]) rfl rfl rfl rfl Try.sizeOf3 rfl rfl ?_
    refine SJ.nil ?_
    refine PJ.next ?_
    refine WJ.seq ?_
    refine WJ.reg ?_
    refine SJ.q (YldS.yld (y_move rfl)) rfl ?_
    refine SJ.q (YldS.yld (y_move rfl)) rfl ?_
    refine SJ.q (YldS.yld (y_nil rfl)) rfl ?_
    refine SJ.q (YldS.yld (y_fldB (o := 0) fld171_2 rfl)) rfl ?_
    refine SJ.q (YldS.yld (y_loadB (k := 0) (off := 2) (v := .int .u64 s1.seed) rfl Try.isAgg169 rfl rfl)) rfl ?_
    refine SJ.q (YldS.yld (y_bin rfl rfl rfl)) rfl ?_
    refine SJ.q (YldS.yld (y_move rfl)) rfl ?_
    refine SJ.q (YldS.yld (y_convI Try.runUnderlying3 Try.runUnderlying169 rfl)) rfl ?_
    refine SJ.q (YldS.yld (y_bin rfl rfl rfl)) rfl ?_
    refine SJ.q (YldS.yld (y_bin rfl rfl rfl)) rfl ?_
    refine SJ.q (YldS.yld (y_nil rfl)) rfl ?_
    refine SJ.q (YldS.yld (y_fldB (o := 0) fld171_2 rfl)) rfl ?_
    refine SJ.storeL (k := 0) (off := 2) (us := [.int .u64 (IntKind.u64.wrap ((IntKind.u64.wrap ((IntKind.u64.wrap (s1.seed * 6364136223846793005)) + (IntKind.u64.wrap b5))) + 1442695040888963407))]) rfl rfl rfl rfl Try.sizeOf169 rfl rfl ?_
    refine SJ.nil ?_
    refine PJ.next ?_
    refine WJ.seq ?_
    refine WJ.seq ?_
    refine WJ.quiet_draw follows (by kernel_rfl) ?_
    refine QJ.step (YldS.yld (y_move rfl)) rfl ?_
    refine QJ.step (YldS.yld (y_nil rfl)) rfl ?_
    refine QJ.step (YldS.yld (y_fldB (o := 0) fld171_1 rfl)) rfl ?_
    refine QJ.step (YldS.yld (y_loadB (k := 0) (off := 1) (v := .int .i64 (w64 (s1.at_ + 1))) rfl Try.isAgg3 rfl rfl)) rfl ?_
    refine QJ.step (YldS.yld (y_move rfl)) rfl ?_
    refine QJ.step (YldS.yld (y_nil rfl)) rfl ?_
    refine QJ.step (YldS.yld (y_fldB (o := 0) fld171_0 rfl)) rfl ?_
    refine QJ.step (YldS.yld (y_loadB (k := 0) (off := 0) (v := v3) rfl Try.isAgg22 rfl rfl)) rfl ?_
    refine QJ.step (YldS.yld (y_lenS Try.runUnderlying22 hr4 rfl)) rfl ?_
    refine QJ.step (YldS.yld (y_bin rfl rfl rfl)) rfl ?_
    refine QJ.done ?_
    refine PJ.next ?_
    refine WJ.cond (t := decide ((w64 (s1.at_ + 1)) ≤ (List.length s1.code : Int))) rfl (fun hb14 => ?_) (fun hb14 => ?_)
    · replace hm := ifT hm hb14
      refine WJ.seq ?_
      refine WJ.quiet ?_
      refine QJ.step (YldS.yld (y_move rfl)) rfl ?_
      refine QJ.step (YldS.yld (y_assign rfl)) rfl ?_
      refine QJ.done ?_
      refine PJ.next ?_
      refine WJ.ret ?_
      refine PJ.then_ret ?_
      obtain rfl := Option.some.inj hm
      refine PJ.sel (L' := [box g2 171 [v3, .int .i64 (w64 (s1.at_ + 1)), .int .u64 (IntKind.u64.wrap ((IntKind.u64.wrap ((IntKind.u64.wrap (s1.seed * 6364136223846793005)) + (IntKind.u64.wrap b5))) + 1442695040888963407))]]) [0] ⟨by decide, rfl⟩ ?_
      exact PJ.retn (vs := [.int .i64 b5]) Try.results144 ⟨rfl, trivial⟩ ⟨rfl, rfl⟩
    · replace hm := ifF hm hb14
      refine WJ.skip ?_
      refine PJ.next ?_
      refine WJ.seq ?_
      refine WJ.quiet ?_
      refine QJ.step (YldS.yld (y_move rfl)) rfl ?_
      refine QJ.step (YldS.yld (y_nil rfl)) rfl ?_
      refine QJ.step (YldS.yld (y_fldB (o := 0) fld171_2 rfl)) rfl ?_
      refine QJ.step (YldS.yld (y_loadB (k := 0) (off := 2) (v := .int .u64 (IntKind.u64.wrap ((IntKind.u64.wrap ((IntKind.u64.wrap (s1.seed * 6364136223846793005)) + (IntKind.u64.wrap b5))) + 1442695040888963407))) rfl Try.isAgg169 rfl rfl)) rfl ?_
      refine QJ.step (YldS.yld (y_shru rfl rfl rfl)) rfl ?_
      refine QJ.step (YldS.yld (y_andu rfl rfl rfl)) rfl ?_
      refine QJ.step (YldS.yld (y_convI Try.runUnderlying169 Try.runUnderlying2 rfl)) rfl ?_
      refine QJ.step (YldS.yld (y_assign rfl)) rfl ?_
      refine QJ.done ?_
      refine PJ.next ?_
      refine WJ.ret ?_
      obtain rfl := Option.some.inj hm
      refine PJ.sel (L' := [box g2 171 [v3, .int .i64 (w64 (s1.at_ + 1)), .int .u64 (IntKind.u64.wrap ((IntKind.u64.wrap ((IntKind.u64.wrap (s1.seed * 6364136223846793005)) + (IntKind.u64.wrap b5))) + 1442695040888963407))]]) [0] ⟨by decide, rfl⟩ ?_
      exact PJ.retn (vs := [.int .i64 (w64 (uand (ushr (IntKind.u64.wrap ((IntKind.u64.wrap ((IntKind.u64.wrap (s1.seed * 6364136223846793005)) + (IntKind.u64.wrap b5))) + 1442695040888963407)) 40) 255))]) Try.results144 ⟨rfl, trivial⟩ ⟨rfl, rfl⟩

set_option maxRecDepth 100000 in
set_option maxHeartbeats 1000000 in
theorem ok_s_l00Src_pick {s1 : L00Src} {n5 : Int} {g2 : Nat} {r : Int × L00Src} (hm : s_l00Src_pick s1 n5 = some r) (w : World) (S : Nat → Prop) (v3 : Value) (hr4 : RdS w (Cx.Fz ⟨w, S⟩) v3 fByte.rp s1.code) (hA : (box g2 171 [v3, .int .i64 s1.at_, .int .u64 s1.seed]).holds w S) :
    Calls Try.prog 75 #[pt g2 0, .int .i64 n5] w (RetG ⟨w, S⟩ fun u L => (u = .int .i64 r.1 ∧ L = [box g2 171 [v3, .int .i64 r.2.at_, .int .u64 r.2.seed]])) := by
  unfold s_l00Src_pick at hm
  refine Calls.enter1 hA [pt g2 0, .int .i64 n5] Try.func75 rfl Try.ntmps75 rfl ?_
  refine WJ.seq ?_
  refine WJ.quiet ?_
  refine QJ.step (YldS.yld (y_assign rfl)) rfl ?_
  refine QJ.done ?_
  refine PJ.next ?_
  refine WJ.seq ?_
  refine WJ.seq ?_
  refine WJ.quiet ?_
  refine QJ.step (YldS.yld (y_move rfl)) rfl ?_
  refine QJ.step (YldS.yld (y_bin rfl rfl rfl)) rfl ?_
  refine QJ.done ?_
  refine PJ.next ?_
  refine WJ.cond (t := decide (n5 ≤ 1)) rfl (fun hb6 => ?_) (fun hb6 => ?_)
  · replace hm := ifT hm hb6
    refine WJ.seq ?_
    refine WJ.quiet ?_
    refine QJ.step (YldS.yld (y_assign rfl)) rfl ?_
    refine QJ.done ?_
    refine PJ.next ?_
    refine WJ.ret ?_
    refine PJ.then_ret ?_
    obtain rfl := Option.some.inj hm
    refine PJ.sel (L' := [box g2 171 [v3, .int .i64 s1.at_, .int .u64 s1.seed]]) [0] ⟨by decide, rfl⟩ ?_
    exact PJ.retn (vs := [.int .i64 0]) Try.results75 ⟨rfl, trivial⟩ ⟨rfl, rfl⟩
  · replace hm := ifF hm hb6
    refine WJ.skip ?_
    refine PJ.next ?_
    refine WJ.seq ?_
    refine WJ.reg ?_
    refine SJ.q (YldS.yld (y_move rfl)) rfl ?_
    obtain ⟨r7, h8, hm⟩ := bindS hm
    refine SJ.call1 (k := 0) rfl Try.call144 rfl (fun w S hw hA hO => ok_s_l00Src_next h8 w S _ (hr4.st1 hw hO) hA) rfl ?_
    rintro _ _ ⟨rfl, rfl⟩
    refine SJ.q (YldS.yld (y_assign rfl)) rfl ?_
    refine SJ.nil ?_
    refine PJ.next ?_
    obtain ⟨kj12, hk13, hm⟩ := withK_open hm
    refine WJ.join (X := Int × Int × Int) (fun (x : Int × Int × Int) => kj12 x.1 x.2.1 x.2.2 = some r) (fun (x : Int × Int × Int) => [(1, .int .i64 n5), (5, .int .i64 x.2.2)]) (fun (x : Int × Int × Int) => [box g2 171 [v3, .int .i64 x.1, .int .u64 x.2.1]]) ?_ ?_
    · clear hk13
      refine WJ.seq ?_
      refine WJ.quiet ?_
      refine QJ.step (YldS.yld (y_move rfl)) rfl ?_
      refine QJ.step (YldS.yld (y_bin rfl rfl rfl)) rfl ?_
      refine QJ.done ?_
      refine PJ.next ?_
      refine WJ.cond (t := decide (n5 > 200)) rfl (fun hb14 => ?_) (fun hb14 => ?_)
      · replace hm := ifT hm hb14
        refine WJ.reg ?_
        refine SJ.q (YldS.yld (y_move rfl)) rfl ?_
        refine SJ.q (YldS.yld (y_bin rfl rfl rfl)) rfl ?_
        refine SJ.q (YldS.yld (y_move rfl)) rfl ?_
        obtain ⟨r15, h16, hm⟩ := bindS hm
        refine SJ.call1 (k := 0) rfl Try.call144 rfl (fun w S hw hA hO => ok_s_l00Src_next h16 w S _ (hr4.st1 hw hO) hA) rfl ?_
        rintro _ _ ⟨rfl, rfl⟩
        refine SJ.q (YldS.yld (y_bin rfl rfl rfl)) rfl ?_
        refine SJ.q (YldS.yld (y_assign rfl)) rfl ?_
        refine SJ.nil ?_
        exact PJ.joined (r15.2.at_, r15.2.seed, w64 ((w64 (r7.1 * 256)) + r15.1)) [0] hm ⟨rfl, rfl, trivial⟩ ⟨by decide, rfl⟩
      · replace hm := ifF hm hb14
        refine WJ.skip ?_
        exact PJ.joined (r7.2.at_, r7.2.seed, r7.1) [0] hm ⟨rfl, rfl, trivial⟩ ⟨by decide, rfl⟩
    · rintro ⟨x9, x10, x11⟩ hm
      subst hk13
      refine WJ.seq ?_
      refine WJ.quiet ?_
      refine QJ.step (YldS.yld (y_move rfl)) rfl ?_
      refine QJ.step (YldS.yld (y_move rfl)) rfl ?_
      obtain ⟨q17, h18, hm⟩ := bindS hm
      refine QJ.step (YldS.yld (y_rem' h18 rfl rfl)) rfl ?_
      refine QJ.step (YldS.yld (y_assign rfl)) rfl ?_
      refine QJ.done ?_
      refine PJ.next ?_
      refine WJ.ret ?_
      obtain rfl := Option.some.inj hm
      refine PJ.sel (L' := [box g2 171 [v3, .int .i64 x9, .int .u64 x10]]) [0] ⟨by decide, rfl⟩ ?_
      exact PJ.retn (vs := [.int .i64 q17]) Try.results75 ⟨rfl, trivial⟩ ⟨rfl, rfl⟩

set_option maxRecDepth 100000 in
set_option maxHeartbeats 1000000 in
theorem ok_s_l03Draw {s1 : L00Src} {g2 : Nat} {r : Basket × L00Src} (hm : s_l03Draw s1 = some r) (w : World) (S : Nat → Prop) (v3 : Value) (hr4 : RdS w (Cx.Fz ⟨w, S⟩) v3 fByte.rp s1.code) (hA : (box g2 171 [v3, .int .i64 s1.at_, .int .u64 s1.seed]).holds w S) :
    Calls Try.prog 73 #[pt g2 0] w (RetG ⟨w, S⟩ fun u L => (u = .agg (Basket.enc r.1).toArray ∧ L = [box g2 171 [v3, .int .i64 r.2.at_, .int .u64 r.2.seed]])) := by
  unfold s_l03Draw at hm
  refine Calls.enter1 hA [pt g2 0] Try.func73 rfl Try.ntmps73 rfl ?_
  refine WJ.seq ?_
  refine WJ.reg ?_
  refine SJ.alloc (cs := [.int .i64 0, .int .i64 0, .int .i64 0, .int .i64 0, .int .i64 0]) Try.zeroValue25 rfl rfl fun g5 => ?_
  refine SJ.nil ?_
  refine PJ.next ?_
  refine WJ.seq ?_
  refine WJ.reg ?_
  refine SJ.q (YldS.yld (y_move rfl)) rfl ?_
  obtain ⟨r6, h7, hm⟩ := bindS hm
  refine SJ.call1 (k := 1) rfl Try.call75 rfl (fun w S hw hA hO => ok_s_l00Src_pick h7 w S _ (hr4.st1 hw hO) hA) rfl ?_
  rintro _ _ ⟨rfl, rfl⟩
  refine SJ.q (YldS.yld (y_bin rfl rfl rfl)) rfl ?_
  refine SJ.q (YldS.yld (y_build (parts := [(0, .tmp 6)]) (places := [(0, 1), (1, 1), (2, 1), (3, 1), (4, 1)]) (r := [.int .i64 ((Basket.mk (w64 (2 + r6.1)) 0 0 0 0).bars), .int .i64 ((Basket.mk (w64 (2 + r6.1)) 0 0 0 0).rise), .int .i64 ((Basket.mk (w64 (2 + r6.1)) 0 0 0 0).fall), .int .i64 ((Basket.mk (w64 (2 + r6.1)) 0 0 0 0).clear), .int .i64 ((Basket.mk (w64 (2 + r6.1)) 0 0 0 0).near)]) pl25 Try.zeroValue25 rfl rfl rfl rfl)) rfl ?_
  refine SJ.alloc (cs := [.int .i64 0, .int .i64 0, .int .i64 0, .int .i64 0, .int .i64 0]) Try.zeroValue25 rfl rfl fun g8 => ?_
  refine SJ.storeL (k := 0) (off := 0) (us := [.int .i64 ((Basket.mk (w64 (2 + r6.1)) 0 0 0 0).bars), .int .i64 ((Basket.mk (w64 (2 + r6.1)) 0 0 0 0).rise), .int .i64 ((Basket.mk (w64 (2 + r6.1)) 0 0 0 0).fall), .int .i64 ((Basket.mk (w64 (2 + r6.1)) 0 0 0 0).clear), .int .i64 ((Basket.mk (w64 (2 + r6.1)) 0 0 0 0).near)]) rfl rfl rfl rfl Try.sizeOf25 rfl rfl ?_
  refine SJ.nil ?_
  refine PJ.next ?_
  refine WJ.seq ?_
  refine WJ.reg ?_
  refine SJ.q (YldS.yld (y_move rfl)) rfl ?_
  obtain ⟨r9, h10, hm⟩ := bindS hm
  refine SJ.call1 (k := 1) rfl Try.call75 rfl (fun w S hw hA hO => ok_s_l00Src_pick h10 w S _ (hr4.st1 hw hO) hA) rfl ?_
  rintro _ _ ⟨rfl, rfl⟩
  refine SJ.q (YldS.yld (y_bin rfl rfl rfl)) rfl ?_
  refine SJ.q (YldS.yld (y_fldB (o := 0) fld25_1 rfl)) rfl ?_
  refine SJ.storeL (k := 1) (off := 1) (us := [.int .i64 (w64 (1 + r9.1))]) rfl rfl rfl rfl Try.sizeOf2 rfl rfl ?_
  refine SJ.nil ?_
  refine PJ.next ?_
  refine WJ.seq ?_
  refine WJ.reg ?_
  refine SJ.q (YldS.yld (y_move rfl)) rfl ?_
  obtain ⟨r11, h12, hm⟩ := bindS hm
  refine SJ.call1 (k := 0) rfl Try.call75 rfl (fun w S hw hA hO => ok_s_l00Src_pick h12 w S _ (hr4.st1 hw hO) hA) rfl ?_
  rintro _ _ ⟨rfl, rfl⟩
  refine SJ.q (YldS.yld (y_bin rfl rfl rfl)) rfl ?_
  refine SJ.q (YldS.yld (y_fldB (o := 0) fld25_2 rfl)) rfl ?_
  refine SJ.storeL (k := 1) (off := 2) (us := [.int .i64 (w64 (1 + r11.1))]) rfl rfl rfl rfl Try.sizeOf2 rfl rfl ?_
  refine SJ.nil ?_
  refine PJ.next ?_
  refine WJ.seq ?_
  refine WJ.reg ?_
  refine SJ.q (YldS.yld (y_move rfl)) rfl ?_
  obtain ⟨r13, h14, hm⟩ := bindS hm
  refine SJ.call1 (k := 0) rfl Try.call75 rfl (fun w S hw hA hO => ok_s_l00Src_pick h14 w S _ (hr4.st1 hw hO) hA) rfl ?_
  rintro _ _ ⟨rfl, rfl⟩
  refine SJ.q (YldS.yld (y_bin rfl rfl rfl)) rfl ?_
  refine SJ.q (YldS.yld (y_fldB (o := 0) fld25_3 rfl)) rfl ?_
  refine SJ.storeL (k := 1) (off := 3) (us := [.int .i64 (w64 (1 + r13.1))]) rfl rfl rfl rfl Try.sizeOf2 rfl rfl ?_
  refine SJ.nil ?_
  refine PJ.next ?_
  refine WJ.seq ?_
  refine WJ.reg ?_
  refine SJ.q (YldS.yld (y_move rfl)) rfl ?_
  obtain ⟨r15, h16, hm⟩ := bindS hm
  refine SJ.call1 (k := 0) rfl Try.call75 rfl (fun w S hw hA hO => ok_s_l00Src_pick h16 w S _ (hr4.st1 hw hO) hA) rfl ?_
  rintro _ _ ⟨rfl, rfl⟩
  refine SJ.q (YldS.yld (y_fldB (o := 0) fld25_4 rfl)) rfl ?_
  refine SJ.storeL (k := 1) (off := 4) (us := [.int .i64 r15.1]) rfl rfl rfl rfl Try.sizeOf2 rfl rfl ?_
  refine SJ.nil ?_
  refine PJ.next ?_
  refine WJ.seq ?_
  refine WJ.reg ?_
  refine SJ.q (YldS.yld (y_loadBN (k := 1) (off := 0) (us := [.int .i64 ((Basket.mk (w64 (2 + r6.1)) 0 0 0 0).bars), .int .i64 (w64 (1 + r9.1)), .int .i64 (w64 (1 + r11.1)), .int .i64 (w64 (1 + r13.1)), .int .i64 r15.1]) rfl Try.isAgg25 Try.sizeOf25 rfl rfl)) rfl ?_
  refine SJ.storeL (k := 2) (off := 0) (us := [.int .i64 ((Basket.mk (w64 (2 + r6.1)) 0 0 0 0).bars), .int .i64 (w64 (1 + r9.1)), .int .i64 (w64 (1 + r11.1)), .int .i64 (w64 (1 + r13.1)), .int .i64 r15.1]) rfl rfl rfl rfl Try.sizeOf25 rfl rfl ?_
  refine SJ.nil ?_
  refine PJ.next ?_
  refine WJ.ret ?_
  obtain rfl := Option.some.inj hm
  exact PJ.retn_sel (vs := [.agg #[.int .i64 ((Basket.mk (w64 (2 + r6.1)) 0 0 0 0).bars), .int .i64 (w64 (1 + r9.1)), .int .i64 (w64 (1 + r11.1)), .int .i64 (w64 (1 + r13.1)), .int .i64 r15.1]]) Try.results73 ⟨⟨2, g5, 25, [.int .i64 ((Basket.mk (w64 (2 + r6.1)) 0 0 0 0).bars), .int .i64 (w64 (1 + r9.1)), .int .i64 (w64 (1 + r11.1)), .int .i64 (w64 (1 + r13.1)), .int .i64 r15.1], rfl, rfl, .inl ⟨Try.isAgg25, Try.sizeOf25, rfl⟩⟩, trivial⟩ [0] ⟨by decide, rfl⟩ ⟨rfl, rfl⟩

set_option maxRecDepth 100000 in
set_option maxHeartbeats 1000000 in
theorem ok_s_A2Basket {code1 : List UInt8} {r : Basket} (hm : s_A2Basket code1 = some r) (w : World) (v2 : Value) (hr3 : RdS w (cx w).Fz v2 fByte.rp code1) :
    Calls Try.prog 10 #[v2] w (Ret (cx w) (.agg (Basket.enc r).toArray)) := by
  unfold s_A2Basket at hm
  refine Calls.enter [v2] Try.func10 rfl Try.ntmps10 rfl ?_
  refine WJ.seq ?_
  refine WJ.reg ?_
  refine SJ.alloc (cs := [.int .i64 0, .int .i64 0, .int .i64 0, .int .i64 0, .int .i64 0]) Try.zeroValue25 rfl rfl fun g4 => ?_
  refine SJ.nil ?_
  refine PJ.next ?_
  refine WJ.seq ?_
  refine WJ.reg ?_
  refine SJ.q (YldS.yld (y_move rfl)) rfl ?_
  obtain ⟨r5, h6, hm⟩ := bindS hm
  refine SJ.call Try.call74 rfl (fun w hw => ok_s_l00From h6 w _ (hr3.st hw)) rfl ?_
  rintro _ _ ⟨g7, rfl, rfl⟩
  obtain ⟨r8, h9, hm⟩ := bindS hm
  refine SJ.call1 (k := 0) rfl Try.call73 rfl (fun w S hw hA hO => ok_s_l03Draw h9 w S _ (hr3.st1 hw hO) hA) rfl ?_
  rintro _ _ ⟨rfl, rfl⟩
  refine SJ.alloc (cs := [.int .i64 0, .int .i64 0, .int .i64 0, .int .i64 0, .int .i64 0]) Try.zeroValue25 rfl rfl fun g10 => ?_
  refine SJ.storeL (k := 0) (off := 0) (us := [.int .i64 r8.1.bars, .int .i64 r8.1.rise, .int .i64 r8.1.fall, .int .i64 r8.1.clear, .int .i64 r8.1.near]) rfl rfl rfl rfl Try.sizeOf25 rfl rfl ?_
  refine SJ.nil ?_
  refine PJ.next ?_
  refine WJ.seq ?_
  refine WJ.reg ?_
  refine SJ.q (YldS.yld (y_fldB (o := 0) fld25_0 rfl)) rfl ?_
  refine SJ.q (YldS.yld (y_loadB (k := 0) (off := 0) (v := .int .i64 r8.1.bars) rfl Try.isAgg2 rfl rfl)) rfl ?_
  refine SJ.q (YldS.yld (y_bin rfl rfl rfl)) rfl ?_
  refine SJ.q (YldS.yld (y_fldB (o := 0) fld25_0 rfl)) rfl ?_
  refine SJ.storeL (k := 0) (off := 0) (us := [.int .i64 (w64 (r8.1.bars + 5))]) rfl rfl rfl rfl Try.sizeOf2 rfl rfl ?_
  refine SJ.nil ?_
  refine PJ.next ?_
  refine WJ.seq ?_
  refine WJ.reg ?_
  refine SJ.q (YldS.yld (y_loadBN (k := 0) (off := 0) (us := [.int .i64 (w64 (r8.1.bars + 5)), .int .i64 r8.1.rise, .int .i64 r8.1.fall, .int .i64 r8.1.clear, .int .i64 r8.1.near]) rfl Try.isAgg25 Try.sizeOf25 rfl rfl)) rfl ?_
  refine SJ.storeL (k := 2) (off := 0) (us := [.int .i64 (w64 (r8.1.bars + 5)), .int .i64 r8.1.rise, .int .i64 r8.1.fall, .int .i64 r8.1.clear, .int .i64 r8.1.near]) rfl rfl rfl rfl Try.sizeOf25 rfl rfl ?_
  refine SJ.nil ?_
  refine PJ.next ?_
  refine WJ.ret ?_
  obtain rfl := Option.some.inj hm
  exact PJ.retn_sel (vs := [.agg #[.int .i64 (w64 (r8.1.bars + 5)), .int .i64 r8.1.rise, .int .i64 r8.1.fall, .int .i64 r8.1.clear, .int .i64 r8.1.near]]) Try.results10 ⟨⟨2, g4, 25, [.int .i64 (w64 (r8.1.bars + 5)), .int .i64 r8.1.rise, .int .i64 r8.1.fall, .int .i64 r8.1.clear, .int .i64 r8.1.near], rfl, rfl, .inl ⟨Try.isAgg25, Try.sizeOf25, rfl⟩⟩, trivial⟩ [] ⟨List.nodup_nil, rfl⟩ ⟨rfl, rfl⟩

set_option maxRecDepth 100000 in
set_option maxHeartbeats 1000000 in
theorem ok_s_l00Src_one {s1 : L00Src} {n5 : Int} {g2 : Nat} {r : Bool × L00Src} (hm : s_l00Src_one s1 n5 = some r) (w : World) (S : Nat → Prop) (v3 : Value) (hr4 : RdS w (Cx.Fz ⟨w, S⟩) v3 fByte.rp s1.code) (hA : (box g2 171 [v3, .int .i64 s1.at_, .int .u64 s1.seed]).holds w S) :
    Calls Try.prog 132 #[pt g2 0, .int .i64 n5] w (RetG ⟨w, S⟩ fun u L => (u = .bool r.1 ∧ L = [box g2 171 [v3, .int .i64 r.2.at_, .int .u64 r.2.seed]])) := by
  unfold s_l00Src_one at hm
  refine Calls.enter1 hA [pt g2 0, .int .i64 n5] Try.func132 rfl Try.ntmps132 rfl ?_
  refine WJ.seq ?_
  refine WJ.quiet ?_
  refine QJ.step (YldS.yld (y_assign rfl)) rfl ?_
  refine QJ.done ?_
  refine PJ.next ?_
  refine WJ.seq ?_
  refine WJ.reg ?_
  refine SJ.q (YldS.yld (y_move rfl)) rfl ?_
  refine SJ.q (YldS.yld (y_move rfl)) rfl ?_
  obtain ⟨r6, h7, hm⟩ := bindS hm
  refine SJ.call1 (k := 0) rfl Try.call75 rfl (fun w S hw hA hO => ok_s_l00Src_pick h7 w S _ (hr4.st1 hw hO) hA) rfl ?_
  rintro _ _ ⟨rfl, rfl⟩
  refine SJ.q (YldS.yld (y_bin rfl rfl rfl)) rfl ?_
  refine SJ.q (YldS.yld (y_assign rfl)) rfl ?_
  refine SJ.nil ?_
  refine PJ.next ?_
  refine WJ.ret ?_
  obtain rfl := Option.some.inj hm
  refine PJ.sel (L' := [box g2 171 [v3, .int .i64 r6.2.at_, .int .u64 r6.2.seed]]) [0] ⟨by decide, rfl⟩ ?_
  exact PJ.retn (vs := [.bool (r6.1 == 0)]) Try.results132 ⟨rfl, trivial⟩ ⟨rfl, rfl⟩

set_option maxRecDepth 100000 in
set_option maxHeartbeats 1000000 in
theorem ok_s_l05Draw {N : Nat} {s1 : L00Src} {n5 : Int} {g2 : Nat} {r : (List (List Int)) × L00Src} (hm : s_l05Draw N s1 n5 = some r) (w : World) (S : Nat → Prop) (v3 : Value) (hr4 : RdS w (Cx.Fz ⟨w, S⟩) v3 fByte.rp s1.code) (hA : (box g2 171 [v3, .int .i64 s1.at_, .int .u64 s1.seed]).holds w S) :
    Calls Try.prog 89 #[pt g2 0, .int .i64 n5] w (RetG ⟨w, S⟩ fun u L => ∃ (u1 : Value) (u2 : List (Raw 1)), (u = u1 ∧ L = [box g2 171 [v3, .int .i64 r.2.at_, .int .u64 r.2.seed], row u1 27 fRaw1 u2, inn (rSl fI64.rp) u2 r.1])) := by
  unfold s_l05Draw at hm
  refine Calls.enter1 hA [pt g2 0, .int .i64 n5] Try.func89 rfl Try.ntmps89 rfl ?_
  refine WJ.seq ?_
  refine WJ.quiet ?_
  refine QJ.step (YldS.yld (y_assign rfl)) rfl ?_
  refine QJ.done ?_
  refine PJ.next ?_
  refine WJ.seq ?_
  refine WJ.reg ?_
  refine SJ.buildSlice (R := fRaw1) (os := []) ([] : List (Raw 1)) Try.runUnderlying42 Try.sizeOf27 Try.zeroValue27 rfl rfl rfl rfl rfl rfl fun v6 => ?_
  refine SJ.inn_nil (q := 1) (rSl fI64.rp) ?_
  refine SJ.q (YldS.yld (y_assign rfl)) rfl ?_
  refine SJ.nil ?_
  refine PJ.next ?_
  obtain ⟨kj12, hk13, hm⟩ := withK_open hm
  refine WJ.join (X := (List (List Int)) × (List (Raw 1)) × Value × Int × Int) (fun (x : (List (List Int)) × (List (Raw 1)) × Value × Int × Int) => kj12 x.1 x.2.2.2.1 x.2.2.2.2 = some r) (fun (x : (List (List Int)) × (List (Raw 1)) × Value × Int × Int) => [(5, x.2.2.1)]) (fun (x : (List (List Int)) × (List (Raw 1)) × Value × Int × Int) => [inn (rSl fI64.rp) x.2.1 x.1, row x.2.2.1 27 fRaw1 x.2.1, box g2 171 [v3, .int .i64 x.2.2.2.1, .int .u64 x.2.2.2.2]]) ?_ ?_
  · clear hk13
    refine WJ.seq ?_
    refine WJ.quiet ?_
    refine QJ.step (YldS.yld (y_assign rfl)) rfl ?_
    refine QJ.done ?_
    refine PJ.next ?_
    refine WJ.block ?_
    refine WJ.sel (L' := (fun (x : (List (List Int)) × (List (Raw 1)) × Value × Int × Int × Int) => [inn (rSl fI64.rp) x.2.1 x.1, row x.2.2.1 27 fRaw1 x.2.1, box g2 171 [v3, .int .i64 x.2.2.2.1, .int .u64 x.2.2.2.2.1]]) (([] : List (List Int)), ([] : List (Raw 1)), v6, s1.at_, s1.seed, 0)) [0, 1, 2] ⟨by decide, rfl⟩ ?_
    refine WJ.sub (m' := (fun (x : (List (List Int)) × (List (Raw 1)) × Value × Int × Int × Int) => [(0, pt g2 0), (1, .int .i64 n5), (5, x.2.2.1), (6, .int .i64 x.2.2.2.2.2)]) (([] : List (List Int)), ([] : List (Raw 1)), v6, s1.at_, s1.seed, 0)) ⟨rfl, rfl, rfl, rfl, trivial⟩ ?_
    refine WJ.loop (X := (List (List Int)) × (List (Raw 1)) × Value × Int × Int × Int) (fun N (x : (List (List Int)) × (List (Raw 1)) × Value × Int × Int × Int) => s_l05Draw_l1 kj12 s1 n5 N x.1 x.2.2.2.1 x.2.2.2.2.1 x.2.2.2.2.2 = some r) (fun (x : (List (List Int)) × (List (Raw 1)) × Value × Int × Int × Int) => [(0, pt g2 0), (1, .int .i64 n5), (5, x.2.2.1), (6, .int .i64 x.2.2.2.2.2)]) (fun (x : (List (List Int)) × (List (Raw 1)) × Value × Int × Int × Int) => [inn (rSl fI64.rp) x.2.1 x.1, row x.2.2.1 27 fRaw1 x.2.1, box g2 171 [v3, .int .i64 x.2.2.2.1, .int .u64 x.2.2.2.2.1]]) ?_ N (([] : List (List Int)), ([] : List (Raw 1)), v6, s1.at_, s1.seed, 0) hm
    · rintro N ⟨l14, vs15, v16, x17, x18, i19⟩ hI
      have hm := hI; clear hI
      cases N with
      | zero => cases hm
      | succ N =>
      unfold s_l05Draw_l1 at hm
      refine WJ.seq ?_
      refine WJ.seq ?_
      refine WJ.quiet ?_
      refine QJ.step (YldS.yld (y_move rfl)) rfl ?_
      refine QJ.step (YldS.yld (y_move rfl)) rfl ?_
      refine QJ.step (YldS.yld (y_bin rfl rfl rfl)) rfl ?_
      refine QJ.done ?_
      refine PJ.next ?_
      refine WJ.cond (t := decide (i19 < n5)) rfl (fun hb20 => ?_) (fun hb20 => ?_)
      · replace hm := ifT hm hb20
        refine WJ.skip ?_
        refine PJ.next ?_
        obtain ⟨kj26, hk27, hm⟩ := withK_open hm
        refine WJ.join (X := (List (List Int)) × (List (Raw 1)) × Value × Int × Int) (fun (x : (List (List Int)) × (List (Raw 1)) × Value × Int × Int) => kj26 x.1 x.2.2.2.1 x.2.2.2.2 = some r) (fun (x : (List (List Int)) × (List (Raw 1)) × Value × Int × Int) => [(0, pt g2 0), (1, .int .i64 n5), (5, x.2.2.1), (6, .int .i64 i19)]) (fun (x : (List (List Int)) × (List (Raw 1)) × Value × Int × Int) => [inn (rSl fI64.rp) x.2.1 x.1, row x.2.2.1 27 fRaw1 x.2.1, box g2 171 [v3, .int .i64 x.2.2.2.1, .int .u64 x.2.2.2.2]]) ?_ ?_
        · clear hk27
          refine WJ.block ?_
          refine WJ.seq ?_
          refine WJ.reg ?_
          refine SJ.buildSlice (R := fI64) (os := []) [] Try.runUnderlying27 Try.sizeOf2 Try.zeroValue2 rfl rfl rfl rfl rfl rfl fun v28 => ?_
          refine SJ.q (YldS.yld (y_assign rfl)) rfl ?_
          refine SJ.nil ?_
          refine PJ.next ?_
          obtain ⟨kj33, hk34, hm⟩ := withK_open hm
          refine WJ.join (X := (List Int) × Value × Int × Int) (fun (x : (List Int) × Value × Int × Int) => kj33 x.1 x.2.2.1 x.2.2.2 = some r) (fun (x : (List Int) × Value × Int × Int) => [(0, pt g2 0), (1, .int .i64 n5), (5, v16), (6, .int .i64 i19), (7, x.2.1)]) (fun (x : (List Int) × Value × Int × Int) => [row x.2.1 2 fI64 x.1, inn (rSl fI64.rp) vs15 l14, row v16 27 fRaw1 vs15, box g2 171 [v3, .int .i64 x.2.2.1, .int .u64 x.2.2.2]]) ?_ ?_
          · clear hk34
            refine WJ.seq ?_
            refine WJ.quiet ?_
            refine QJ.step (YldS.yld (y_assign rfl)) rfl ?_
            refine QJ.done ?_
            refine PJ.next ?_
            refine WJ.block ?_
            refine WJ.sel (L' := (fun (x : (List Int) × Value × Int × Int × Int) => [row x.2.1 2 fI64 x.1, inn (rSl fI64.rp) vs15 l14, row v16 27 fRaw1 vs15, box g2 171 [v3, .int .i64 x.2.2.1, .int .u64 x.2.2.2.1]]) ([], v28, x17, x18, 0)) [0, 1, 2, 3] ⟨by decide, rfl⟩ ?_
            refine WJ.sub (m' := (fun (x : (List Int) × Value × Int × Int × Int) => [(0, pt g2 0), (1, .int .i64 n5), (5, v16), (6, .int .i64 i19), (7, x.2.1), (8, .int .i64 x.2.2.2.2)]) ([], v28, x17, x18, 0)) ⟨rfl, rfl, rfl, rfl, rfl, rfl, trivial⟩ ?_
            refine WJ.loop (X := (List Int) × Value × Int × Int × Int) (fun N (x : (List Int) × Value × Int × Int × Int) => s_l05Draw_l2 kj33 s1 n5 N x.1 x.2.2.1 x.2.2.2.1 x.2.2.2.2 = some r) (fun (x : (List Int) × Value × Int × Int × Int) => [(0, pt g2 0), (1, .int .i64 n5), (5, v16), (6, .int .i64 i19), (7, x.2.1), (8, .int .i64 x.2.2.2.2)]) (fun (x : (List Int) × Value × Int × Int × Int) => [row x.2.1 2 fI64 x.1, inn (rSl fI64.rp) vs15 l14, row v16 27 fRaw1 vs15, box g2 171 [v3, .int .i64 x.2.2.1, .int .u64 x.2.2.2.1]]) ?_ N ([], v28, x17, x18, 0) hm
            · rintro N ⟨l35, v36, x37, x38, k39⟩ hI
              have hm := hI; clear hI
              cases N with
              | zero => cases hm
              | succ N =>
              unfold s_l05Draw_l2 at hm
              refine WJ.seq ?_
              refine WJ.seq ?_
              refine WJ.quiet ?_
              refine QJ.step (YldS.yld (y_move rfl)) rfl ?_
              refine QJ.step (YldS.yld (y_move rfl)) rfl ?_
              refine QJ.step (YldS.yld (y_bin rfl rfl rfl)) rfl ?_
              refine QJ.done ?_
              refine PJ.next ?_
              refine WJ.cond (t := decide (k39 < n5)) rfl (fun hb40 => ?_) (fun hb40 => ?_)
              · replace hm := ifT hm hb40
                refine WJ.skip ?_
                refine PJ.next ?_
                obtain ⟨kj45, hk46, hm⟩ := withK_open hm
                refine WJ.join (X := Int × Int × (List Int) × Value) (fun (x : Int × Int × (List Int) × Value) => kj45 x.1 x.2.1 x.2.2.1 = some r) (fun (x : Int × Int × (List Int) × Value) => [(0, pt g2 0), (1, .int .i64 n5), (5, v16), (6, .int .i64 i19), (7, x.2.2.2), (8, .int .i64 k39)]) (fun (x : Int × Int × (List Int) × Value) => [box g2 171 [v3, .int .i64 x.1, .int .u64 x.2.1], row x.2.2.2 2 fI64 x.2.2.1, inn (rSl fI64.rp) vs15 l14, row v16 27 fRaw1 vs15]) ?_ ?_
                · clear hk46
                  refine WJ.block ?_
                  refine WJ.seq ?_
                  refine WJ.reg ?_
                  refine SJ.q (YldS.yld (y_move rfl)) rfl ?_
                  obtain ⟨r47, h48, hm⟩ := bindS hm
                  refine SJ.call1 (k := 3) rfl Try.call132 rfl (fun w S hw hA hO => ok_s_l00Src_one h48 w S _ (hr4.st1 hw hO) hA) rfl ?_
                  rintro _ _ ⟨rfl, rfl⟩
                  refine SJ.nil ?_
                  refine PJ.next ?_
                  refine WJ.cond (t := r47.1) rfl (fun hb49 => ?_) (fun hb49 => ?_)
                  · replace hm := ifT hm hb49
                    refine WJ.reg ?_
                    refine SJ.q (YldS.yld (y_move rfl)) rfl ?_
                    refine SJ.buildSlice (R := fI64) (os := [.const (.int .i64 0)]) [0] Try.runUnderlying27 Try.sizeOf2 Try.zeroValue2 rfl rfl rfl rfl rfl rfl fun v50 => ?_
                    obtain ⟨l51, h52, hm⟩ := bindS hm
                    refine SJ.append (k := 2) (R := fI64) h52 rfl Try.underlying27 el2 rfl rfl rfl (fun w hw => (hw.row_rd (k := 0) rfl)) rfl fun v53 => ?_
                    refine SJ.q (YldS.yld (y_assign rfl)) rfl ?_
                    refine SJ.nil ?_
                    refine PJ.block_normal ?_
                    exact PJ.joined (r47.2.at_, r47.2.seed, l51, v53) [1, 2, 3, 4] hm ⟨rfl, rfl, rfl, rfl, rfl, rfl, trivial⟩ ⟨by decide, rfl⟩
                  · replace hm := ifF hm hb49
                    refine WJ.reg ?_
                    refine SJ.q (YldS.yld (y_move rfl)) rfl ?_
                    refine SJ.q (YldS.yld (y_move rfl)) rfl ?_
                    obtain ⟨r54, h55, hm⟩ := bindS hm
                    refine SJ.call1 (k := 0) rfl Try.call75 rfl (fun w S hw hA hO => ok_s_l00Src_pick h55 w S _ (hr4.st1 hw hO) hA) rfl ?_
                    rintro _ _ ⟨rfl, rfl⟩
                    refine SJ.buildSlice (R := fI64) (os := [.tmp 28]) [r54.1] Try.runUnderlying27 Try.sizeOf2 Try.zeroValue2 rfl rfl rfl rfl rfl rfl fun v56 => ?_
                    obtain ⟨l57, h58, hm⟩ := bindS hm
                    refine SJ.append (k := 2) (R := fI64) h58 rfl Try.underlying27 el2 rfl rfl rfl (fun w hw => (hw.row_rd (k := 0) rfl)) rfl fun v59 => ?_
                    refine SJ.q (YldS.yld (y_assign rfl)) rfl ?_
                    refine SJ.nil ?_
                    refine PJ.block_normal ?_
                    exact PJ.joined (r54.2.at_, r54.2.seed, l57, v59) [1, 2, 3, 4] hm ⟨rfl, rfl, rfl, rfl, rfl, rfl, trivial⟩ ⟨by decide, rfl⟩
                · rintro ⟨x41, x42, l43, v44⟩ hm
                  subst hk46
                  refine WJ.quiet ?_
                  refine QJ.step (YldS.yld (y_move rfl)) rfl ?_
                  refine QJ.step (YldS.yld (y_bin rfl rfl rfl)) rfl ?_
                  refine QJ.step (YldS.yld (y_assign rfl)) rfl ?_
                  refine QJ.done ?_
                  exact PJ.round (l43, v44, x41, x42, w64 (k39 + 1)) [1, 2, 3, 0] hm ⟨rfl, rfl, rfl, rfl, rfl, rfl, trivial⟩ ⟨by decide, rfl⟩
              · replace hm := ifF hm hb40
                refine WJ.exit ?_
                refine PJ.then_exit (PJ.then_exit (PJ.block_exit ?_))
                exact PJ.joined (l35, v36, x37, x38) [0, 1, 2, 3] hm ⟨rfl, rfl, rfl, rfl, rfl, trivial⟩ ⟨by decide, rfl⟩
          · rintro ⟨l29, v30, x31, x32⟩ hm
            subst hk34
            refine WJ.reg ?_
            refine SJ.q (YldS.yld (y_move rfl)) rfl ?_
            refine SJ.q (YldS.yld (y_move rfl)) rfl ?_
            refine SJ.rowCells (k := 0) rfl fun hc60 => ?_
            refine SJ.buildSlice (R := fRaw1) (os := [.tmp 32]) ([mkRaw1 v30 hc60.2] : List (Raw 1)) Try.runUnderlying42 Try.sizeOf27 Try.zeroValue27 rfl rfl rfl (by simp only [List.map_cons, List.map_nil, hc60.1]; rfl) rfl rfl fun v61 => ?_
            refine SJ.inn_nil (q := 1) (rSl fI64.rp) ?_
            refine SJ.sel (L' := [row v30 2 fI64 l29, inn (rSl fI64.rp) [] ([] : List (List Int)), row v61 27 fRaw1 ([mkRaw1 v30 hc60.2] : List (Raw 1)), inn (rSl fI64.rp) vs15 l14, row v16 27 fRaw1 vs15, box g2 171 [v3, .int .i64 x31, .int .u64 x32]]) [2, 0, 1, 3, 4, 5] ⟨by decide, rfl⟩ ?_
            refine SJ.star ?_
            refine SJ.conv0 (fun w S h => inn_push hc60.2 h) ?_
            refine SJ.conv0 (B := inn (rSl fI64.rp) ([mkRaw1 v30 hc60.2] : List (Raw 1)) ([l29] : List (List Int))) (fun w S h => h) ?_
            refine SJ.inn_len 2 rfl fun hl62 => ?_
            refine SJ.inn_len 0 rfl fun hl63 => ?_
            obtain ⟨l64, h65, hm⟩ := bindS hm
            refine SJ.append (k := 3) (R := fRaw1) (app_raw h65 hl62 hl63) rfl Try.underlying42 el27 rfl rfl rfl (fun w hw => (hw.row_rd (k := 1) rfl)) rfl fun v66 => ?_
            refine SJ.sel (L' := [inn (rSl fI64.rp) vs15 l14, inn (rSl fI64.rp) ([mkRaw1 v30 hc60.2] : List (Raw 1)) ([l29] : List (List Int)), row v61 27 fRaw1 ([mkRaw1 v30 hc60.2] : List (Raw 1)), row v66 27 fRaw1 (vs15 ++ ([mkRaw1 v30 hc60.2] : List (Raw 1))), box g2 171 [v3, .int .i64 x31, .int .u64 x32]]) [2, 0, 1, 3, 4] ⟨by decide, rfl⟩ ?_
            refine SJ.star ?_
            refine SJ.conv0 (fun w S h => inn_app h65 h) ?_
            refine SJ.q (YldS.yld (y_assign rfl)) rfl ?_
            refine SJ.nil ?_
            refine PJ.block_normal ?_
            exact PJ.joined (l64, (vs15 ++ ([mkRaw1 v30 hc60.2] : List (Raw 1))), v66, x31, x32) [0, 2, 3] hm ⟨rfl, rfl, rfl, rfl, trivial⟩ ⟨by decide, rfl⟩
        · rintro ⟨l21, vs22, v23, x24, x25⟩ hm
          subst hk27
          refine WJ.quiet ?_
          refine QJ.step (YldS.yld (y_move rfl)) rfl ?_
          refine QJ.step (YldS.yld (y_bin rfl rfl rfl)) rfl ?_
          refine QJ.step (YldS.yld (y_assign rfl)) rfl ?_
          refine QJ.done ?_
          exact PJ.round (l21, vs22, v23, x24, x25, w64 (i19 + 1)) [0, 1, 2] hm ⟨rfl, rfl, rfl, rfl, trivial⟩ ⟨by decide, rfl⟩
      · replace hm := ifF hm hb20
        refine WJ.exit ?_
        refine PJ.then_exit (PJ.then_exit (PJ.block_exit ?_))
        exact PJ.joined (l14, vs15, v16, x17, x18) [0, 1, 2] hm ⟨rfl, trivial⟩ ⟨by decide, rfl⟩
  · rintro ⟨l7, vs8, v9, x10, x11⟩ hm
    subst hk13
    refine WJ.seq ?_
    refine WJ.quiet ?_
    refine QJ.step (YldS.yld (y_move rfl)) rfl ?_
    refine QJ.step (YldS.yld (y_assign rfl)) rfl ?_
    refine QJ.done ?_
    refine PJ.next ?_
    refine WJ.ret ?_
    obtain rfl := Option.some.inj hm
    refine PJ.sel (L' := [box g2 171 [v3, .int .i64 x10, .int .u64 x11], row v9 27 fRaw1 vs8, inn (rSl fI64.rp) vs8 l7]) [2, 1, 0] ⟨by decide, rfl⟩ ?_
    exact PJ.retn (vs := [v9]) Try.results89 ⟨rfl, trivial⟩ ⟨_, _, rfl, rfl⟩

set_option maxRecDepth 100000 in
set_option maxHeartbeats 1000000 in
theorem ok_s_A2Pairs {N : Nat} {code1 : List UInt8} {r : (List (List Int))} (hm : s_A2Pairs N code1 = some r) (w : World) (v2 : Value) (hr3 : RdS w (cx w).Fz v2 fByte.rp code1) :
    Calls Try.prog 20 #[v2] w (RetG (cx w) fun u L => ∃ (u1 : Value) (u2 : List (Raw 1)), (u = u1 ∧ L = [row u1 27 fRaw1 u2, inn (rSl fI64.rp) u2 r])) := by
  unfold s_A2Pairs at hm
  refine Calls.enter [v2] Try.func20 rfl Try.ntmps20 rfl ?_
  refine WJ.seq ?_
  refine WJ.quiet ?_
  refine QJ.step (YldS.yld (y_assign rfl)) rfl ?_
  refine QJ.done ?_
  refine PJ.next ?_
  refine WJ.seq ?_
  refine WJ.reg ?_
  refine SJ.q (YldS.yld (y_move rfl)) rfl ?_
  obtain ⟨r4, h5, hm⟩ := bindS hm
  refine SJ.call Try.call74 rfl (fun w hw => ok_s_l00From h5 w _ (hr3.st hw)) rfl ?_
  rintro _ _ ⟨g6, rfl, rfl⟩
  refine SJ.q (YldS.yld (y_assign rfl)) rfl ?_
  refine SJ.nil ?_
  refine PJ.next ?_
  refine WJ.seq ?_
  refine WJ.reg ?_
  refine SJ.q (YldS.yld (y_move rfl)) rfl ?_
  obtain ⟨r7, h8, hm⟩ := bindS hm
  refine SJ.call1 (k := 0) rfl Try.call75 rfl (fun w S hw hA hO => ok_s_l00Src_pick h8 w S _ (hr3.st1 hw hO) hA) rfl ?_
  rintro _ _ ⟨rfl, rfl⟩
  refine SJ.q (YldS.yld (y_bin rfl rfl rfl)) rfl ?_
  refine SJ.q (YldS.yld (y_assign rfl)) rfl ?_
  refine SJ.nil ?_
  refine PJ.next ?_
  refine WJ.seq ?_
  refine WJ.reg ?_
  refine SJ.q (YldS.yld (y_move rfl)) rfl ?_
  refine SJ.q (YldS.yld (y_move rfl)) rfl ?_
  obtain ⟨r9, h10, hm⟩ := bindS hm
  refine SJ.call1 (k := 0) rfl Try.call89 rfl (fun w S hw hA hO => ok_s_l05Draw h10 w S _ (hr3.st1 hw hO) hA) rfl ?_
  rintro v11 _ ⟨_, vs12, rfl, rfl⟩
  refine SJ.q (YldS.yld (y_assign rfl)) rfl ?_
  refine SJ.nil ?_
  refine PJ.next ?_
  refine WJ.ret ?_
  obtain rfl := Option.some.inj hm
  refine PJ.sel (L' := [row v11 27 fRaw1 vs12, inn (rSl fI64.rp) vs12 r9.1]) [1, 2] ⟨by decide, rfl⟩ ?_
  exact PJ.retn (vs := [v11]) Try.results20 ⟨rfl, trivial⟩ ⟨_, _, rfl, rfl⟩

set_option maxRecDepth 100000 in
set_option maxHeartbeats 1000000 in
theorem ok_s_l00Own {list1 : List Int} {r : (List Int)} (hm : s_l00Own list1 = some r) (w : World) (v2 : Value) (hr3 : RdS w (cx w).Fz v2 fI64.rp list1) :
    Calls Try.prog 90 #[v2] w (RetG (cx w) fun u L => ∃ (u1 : Value), (u = u1 ∧ L = [row u1 2 fI64 r])) := by
  unfold s_l00Own at hm
  refine Calls.enter [v2] Try.func90 rfl Try.ntmps90 rfl ?_
  refine WJ.seq ?_
  refine WJ.quiet ?_
  refine QJ.step (YldS.yld (y_assign rfl)) rfl ?_
  refine QJ.done ?_
  refine PJ.next ?_
  refine WJ.seq ?_
  refine WJ.reg ?_
  refine SJ.buildSlice (R := fI64) (os := []) [] Try.runUnderlying27 Try.sizeOf2 Try.zeroValue2 rfl rfl rfl rfl rfl rfl fun v4 => ?_
  refine SJ.q (YldS.yld (y_move rfl)) rfl ?_
  obtain ⟨l5, h6, hm⟩ := bindS hm
  refine SJ.append (k := 0) (R := fI64) h6 rfl Try.underlying27 el2 rfl rfl rfl (fun w hw => (hr3.st hw)) rfl fun v7 => ?_
  refine SJ.q (YldS.yld (y_assign rfl)) rfl ?_
  refine SJ.nil ?_
  refine PJ.next ?_
  refine WJ.ret ?_
  obtain rfl := Option.some.inj hm
  refine PJ.sel (L' := [row v7 2 fI64 l5]) [0] ⟨by decide, rfl⟩ ?_
  exact PJ.retn (vs := [v7]) Try.results90 ⟨rfl, trivial⟩ ⟨_, rfl, rfl⟩

set_option maxRecDepth 100000 in
set_option maxHeartbeats 1000000 in
theorem ok_s_A2Places {N : Nat} {code1 : List UInt8} {n4 : Int} {r : (List Int)} (hm : s_A2Places N code1 n4 = some r) (w : World) (v2 : Value) (hr3 : RdS w (cx w).Fz v2 fByte.rp code1) :
    Calls Try.prog 21 #[v2, .int .i64 n4] w (RetG (cx w) fun u L => ∃ (u1 : Value), (u = u1 ∧ L = [row u1 2 fI64 r])) := by
  unfold s_A2Places at hm
  refine Calls.enter [v2, .int .i64 n4] Try.func21 rfl Try.ntmps21 rfl ?_
  refine WJ.seq ?_
  refine WJ.quiet ?_
  refine QJ.step (YldS.yld (y_assign rfl)) rfl ?_
  refine QJ.done ?_
  refine PJ.next ?_
  refine WJ.seq ?_
  refine WJ.reg ?_
  refine SJ.q (YldS.yld (y_move rfl)) rfl ?_
  obtain ⟨r5, h6, hm⟩ := bindS hm
  refine SJ.call Try.call74 rfl (fun w hw => ok_s_l00From h6 w _ (hr3.st hw)) rfl ?_
  rintro _ _ ⟨g7, rfl, rfl⟩
  refine SJ.q (YldS.yld (y_assign rfl)) rfl ?_
  refine SJ.nil ?_
  refine PJ.next ?_
  refine WJ.seq ?_
  refine WJ.reg ?_
  refine SJ.buildSlice (R := fI64) (os := []) [] Try.runUnderlying27 Try.sizeOf2 Try.zeroValue2 rfl rfl rfl rfl rfl rfl fun v8 => ?_
  refine SJ.q (YldS.yld (y_assign rfl)) rfl ?_
  refine SJ.nil ?_
  refine PJ.next ?_
  obtain ⟨kj11, hk12, hm⟩ := withK_open hm
  refine WJ.join (X := (List Int) × Value) (fun (x : (List Int) × Value) => kj11 x.1 = some r) (fun (x : (List Int) × Value) => [(6, x.2)]) (fun (x : (List Int) × Value) => [row x.2 2 fI64 x.1]) ?_ ?_
  · clear hk12
    refine WJ.seq ?_
    refine WJ.quiet ?_
    refine QJ.step (YldS.yld (y_assign rfl)) rfl ?_
    refine QJ.done ?_
    refine PJ.next ?_
    refine WJ.block ?_
    refine WJ.sel (L' := (fun (x : (List Int) × Value × Int × Int × Int) => [row x.2.1 2 fI64 x.1, box g7 171 [v2, .int .i64 x.2.2.1, .int .u64 x.2.2.2.1]]) ([], v8, r5.at_, r5.seed, 0)) [0, 1] ⟨by decide, rfl⟩ ?_
    refine WJ.sub (m' := (fun (x : (List Int) × Value × Int × Int × Int) => [(1, .int .i64 n4), (5, pt g7 0), (6, x.2.1), (7, .int .i64 x.2.2.2.2)]) ([], v8, r5.at_, r5.seed, 0)) ⟨rfl, rfl, rfl, rfl, trivial⟩ ?_
    refine WJ.loop (X := (List Int) × Value × Int × Int × Int) (fun N (x : (List Int) × Value × Int × Int × Int) => s_A2Places_l1 kj11 code1 n4 N x.1 x.2.2.1 x.2.2.2.1 x.2.2.2.2 = some r) (fun (x : (List Int) × Value × Int × Int × Int) => [(1, .int .i64 n4), (5, pt g7 0), (6, x.2.1), (7, .int .i64 x.2.2.2.2)]) (fun (x : (List Int) × Value × Int × Int × Int) => [row x.2.1 2 fI64 x.1, box g7 171 [v2, .int .i64 x.2.2.1, .int .u64 x.2.2.2.1]]) ?_ N ([], v8, r5.at_, r5.seed, 0) hm
    · rintro N ⟨l13, v14, x15, x16, i17⟩ hI
      have hm := hI; clear hI
      cases N with
      | zero => cases hm
      | succ N =>
      unfold s_A2Places_l1 at hm
      refine WJ.seq ?_
      refine WJ.seq ?_
      refine WJ.quiet ?_
      refine QJ.step (YldS.yld (y_move rfl)) rfl ?_
      refine QJ.step (YldS.yld (y_move rfl)) rfl ?_
      refine QJ.step (YldS.yld (y_bin rfl rfl rfl)) rfl ?_
      refine QJ.done ?_
      refine PJ.next ?_
      refine WJ.cond (t := decide (i17 < n4)) rfl (fun hb18 => ?_) (fun hb18 => ?_)
      · replace hm := ifT hm hb18
        refine WJ.skip ?_
        refine PJ.next ?_
        refine WJ.seq ?_
        refine WJ.block ?_
        refine WJ.seq ?_
        refine WJ.reg ?_
        refine SJ.q (YldS.yld (y_move rfl)) rfl ?_
        refine SJ.q (YldS.yld (y_move rfl)) rfl ?_
        refine SJ.q (YldS.yld (y_lenRow (k := 0) rfl Try.runUnderlying27 rfl)) rfl ?_
        refine SJ.q (YldS.yld (y_bin rfl rfl rfl)) rfl ?_
        obtain ⟨r19, h20, hm⟩ := bindS hm
        refine SJ.call1 (k := 1) rfl Try.call75 rfl (fun w S hw hA hO => ok_s_l00Src_pick h20 w S _ (hr3.st1 hw hO) hA) rfl ?_
        rintro _ _ ⟨rfl, rfl⟩
        refine SJ.q (YldS.yld (y_assign rfl)) rfl ?_
        refine SJ.nil ?_
        refine PJ.next ?_
        refine WJ.seq ?_
        refine WJ.reg ?_
        refine SJ.q (YldS.yld (y_move rfl)) rfl ?_
        refine SJ.q (YldS.yld (y_move rfl)) rfl ?_
        obtain ⟨l21, h22, hm⟩ := bindS hm
        refine SJ.q (YldS.yld (y_slcRow (i := none) (j := some r19.1) (k := 1) h22 rfl Try.runUnderlying27 Try.sizeOf2 rfl trivial ⟨_, rfl⟩)) rfl ?_
        obtain ⟨r23, h24, hm⟩ := bindS hm
        refine SJ.call Try.call90 rfl (fun w hw => ok_s_l00Own h24 w _ (hw.slc_rd (k := 1) (i := none) (j := some r19.1) rfl h22)) rfl ?_
        rintro v25 _ ⟨_, rfl, rfl⟩
        refine SJ.q (YldS.yld (y_move rfl)) rfl ?_
        refine SJ.buildSlice (R := fI64) (os := [.tmp 27]) [i17] Try.runUnderlying27 Try.sizeOf2 Try.zeroValue2 rfl rfl rfl rfl rfl rfl fun v26 => ?_
        obtain ⟨l27, h28, hm⟩ := bindS hm
        refine SJ.append (k := 1) (R := fI64) h28 rfl Try.underlying27 el2 rfl rfl rfl (fun w hw => (hw.row_rd (k := 0) rfl)) rfl fun v29 => ?_
        refine SJ.q (YldS.yld (y_assign rfl)) rfl ?_
        refine SJ.nil ?_
        refine PJ.next ?_
        refine WJ.reg ?_
        refine SJ.q (YldS.yld (y_move rfl)) rfl ?_
        refine SJ.q (YldS.yld (y_move rfl)) rfl ?_
        refine SJ.q (YldS.yld (y_move rfl)) rfl ?_
        obtain ⟨l30, h31, hm⟩ := bindS hm
        refine SJ.q (YldS.yld (y_slcRow (i := some r19.1) (j := none) (k := 3) h31 rfl Try.runUnderlying27 Try.sizeOf2 rfl ⟨_, rfl⟩ trivial)) rfl ?_
        obtain ⟨l32, h33, hm⟩ := bindS hm
        refine SJ.append (k := 1) (R := fI64) h33 rfl Try.underlying27 el2 rfl rfl rfl (fun w hw => (hw.slc_rd (k := 3) (i := some r19.1) (j := none) rfl h31)) rfl fun v34 => ?_
        refine SJ.q (YldS.yld (y_assign rfl)) rfl ?_
        refine SJ.nil ?_
        refine PJ.block_normal (PJ.next ?_)
        refine WJ.quiet ?_
        refine QJ.step (YldS.yld (y_move rfl)) rfl ?_
        refine QJ.step (YldS.yld (y_bin rfl rfl rfl)) rfl ?_
        refine QJ.step (YldS.yld (y_assign rfl)) rfl ?_
        refine QJ.done ?_
        exact PJ.round (l32, v34, r19.2.at_, r19.2.seed, w64 (i17 + 1)) [1, 2] hm ⟨rfl, rfl, rfl, rfl, trivial⟩ ⟨by decide, rfl⟩
      · replace hm := ifF hm hb18
        refine WJ.exit ?_
        refine PJ.then_exit (PJ.then_exit (PJ.block_exit ?_))
        exact PJ.joined (l13, v14) [0] hm ⟨rfl, trivial⟩ ⟨by decide, rfl⟩
  · rintro ⟨l9, v10⟩ hm
    subst hk12
    refine WJ.seq ?_
    refine WJ.quiet ?_
    refine QJ.step (YldS.yld (y_move rfl)) rfl ?_
    refine QJ.step (YldS.yld (y_assign rfl)) rfl ?_
    refine QJ.done ?_
    refine PJ.next ?_
    refine WJ.ret ?_
    obtain rfl := Option.some.inj hm
    refine PJ.sel (L' := [row v10 2 fI64 l9]) [0] ⟨by decide, rfl⟩ ?_
    exact PJ.retn (vs := [v10]) Try.results21 ⟨rfl, trivial⟩ ⟨_, rfl, rfl⟩

set_option maxRecDepth 100000 in
set_option maxHeartbeats 1000000 in
theorem ok_i_between {n1 : Int} {low2 : Int} {high3 : Int} {r : Bool} (hm : i_between n1 low2 high3 = some r) (w : World)  :
    Calls Try.prog 82 #[.int .i64 n1, .int .i64 low2, .int .i64 high3] w (Ret (cx w) (.bool r)) := by
  unfold i_between at hm
  refine Calls.enter [.int .i64 n1, .int .i64 low2, .int .i64 high3] Try.func82 rfl Try.ntmps82 rfl ?_
  refine WJ.seq ?_
  refine WJ.quiet ?_
  refine QJ.step (YldS.yld (y_assign rfl)) rfl ?_
  refine QJ.done ?_
  refine PJ.next ?_
  refine WJ.seq ?_
  refine WJ.quiet ?_
  refine QJ.step (YldS.yld (y_move rfl)) rfl ?_
  refine QJ.step (YldS.yld (y_move rfl)) rfl ?_
  refine QJ.step (YldS.yld (y_bin rfl rfl rfl)) rfl ?_
  refine QJ.step (YldS.yld (y_move rfl)) rfl ?_
  obtain ⟨t4, h5, hm⟩ := bindS hm
  refine QJ.cut 4 [(14, .bool t4)] ?_ ?_
  · rcases Bool.eq_false_or_eq_true (decide (n1 ≥ low2)) with hb6 | hb6
    · replace h5 := andT h5 hb6
      refine QJ.on rfl rfl (cB hb6) (YldS.yld (y_move rfl)) rfl ?_
      refine QJ.on rfl rfl (cB hb6) (YldS.yld (y_move rfl)) rfl ?_
      refine QJ.on rfl rfl (cB hb6) (YldS.yld (y_bin rfl rfl rfl)) rfl ?_
      refine QJ.step (YldS.yld (y_pick_t (cB hb6) rfl)) rfl ?_
      obtain rfl := Option.some.inj h5
      exact QJ.cut_end ⟨rfl, trivial⟩
    · obtain rfl := andF h5 hb6
      refine QJ.off rfl rfl (cB hb6) rfl rfl ?_
      refine QJ.off rfl rfl (cB hb6) rfl rfl ?_
      refine QJ.off rfl rfl (cB hb6) rfl rfl ?_
      refine QJ.step (YldS.yld (y_pick_f (cB hb6) rfl)) rfl ?_
      exact QJ.cut_end ⟨rfl, trivial⟩
  refine QJ.step (YldS.yld (y_assign rfl)) rfl ?_
  refine QJ.done ?_
  refine PJ.next ?_
  refine WJ.ret ?_
  obtain rfl := Option.some.inj hm
  refine PJ.sel (L' := []) [] ⟨List.nodup_nil, rfl⟩ ?_
  exact PJ.retn (vs := [.bool t4]) Try.results82 ⟨rfl, trivial⟩ ⟨rfl, rfl⟩

set_option maxRecDepth 100000 in
set_option maxHeartbeats 1000000 in
theorem ok_i_ValidBasket {b1 : Basket} {r : Bool} (hm : i_ValidBasket b1 = some r) (w : World)  :
    Calls Try.prog 76 #[.agg (Basket.enc b1).toArray] w (Ret (cx w) (.bool r)) := by
  unfold i_ValidBasket at hm
  refine Calls.enter [.agg (Basket.enc b1).toArray] Try.func76 rfl Try.ntmps76 rfl ?_
  refine WJ.seq ?_
  refine WJ.reg ?_
  refine SJ.box (cs := [.int .i64 b1.bars, .int .i64 b1.rise, .int .i64 b1.fall, .int .i64 b1.clear, .int .i64 b1.near]) rfl rfl rfl fun g2 => ?_
  refine SJ.q (YldS.yld (y_assign rfl)) rfl ?_
  refine SJ.nil ?_
  refine PJ.next ?_
  refine WJ.seq ?_
  refine WJ.quiet ?_
  refine QJ.step (YldS.yld (y_fldB (o := 0) fld25_0 rfl)) rfl ?_
  refine QJ.step (YldS.yld (y_loadB (k := 0) (off := 0) (v := .int .i64 b1.bars) rfl Try.isAgg2 rfl rfl)) rfl ?_
  obtain ⟨r3, h4, hm⟩ := bindS hm
  refine QJ.step (y_call Try.call82 rfl (RetG.quiet fun w hw => ok_i_between h4 w )) rfl ?_
  refine QJ.step (YldS.yld (y_move rfl)) rfl ?_
  obtain ⟨t5, h6, hm⟩ := bindS hm
  refine QJ.cut 4 [(1, pt g2 0), (10, .bool t5)] ?_ ?_
  · rcases Bool.eq_false_or_eq_true r3 with hb7 | hb7
    · replace h6 := andT h6 hb7
      refine QJ.on rfl rfl (cB hb7) (YldS.yld (y_fldB (o := 0) fld25_1 rfl)) rfl ?_
      refine QJ.on rfl rfl (cB hb7) (YldS.yld (y_loadB (k := 0) (off := 1) (v := .int .i64 b1.rise) rfl Try.isAgg2 rfl rfl)) rfl ?_
      obtain ⟨r8, h9, h6⟩ := bindS h6
      refine QJ.on rfl rfl (cB hb7) (y_call Try.call82 rfl (RetG.quiet fun w hw => ok_i_between h9 w )) rfl ?_
      refine QJ.step (YldS.yld (y_pick_t (cB hb7) rfl)) rfl ?_
      obtain rfl := Option.some.inj h6
      exact QJ.cut_end ⟨rfl, rfl, trivial⟩
    · obtain rfl := andF h6 hb7
      refine QJ.off rfl rfl (cB hb7) rfl rfl ?_
      refine QJ.off rfl rfl (cB hb7) rfl rfl ?_
      refine QJ.off rfl rfl (cB hb7) rfl rfl ?_
      refine QJ.step (YldS.yld (y_pick_f (cB hb7) rfl)) rfl ?_
      exact QJ.cut_end ⟨rfl, rfl, trivial⟩
  refine QJ.step (YldS.yld (y_move rfl)) rfl ?_
  obtain ⟨t10, h11, hm⟩ := bindS hm
  refine QJ.cut 4 [(1, pt g2 0), (15, .bool t10)] ?_ ?_
  · rcases Bool.eq_false_or_eq_true t5 with hb12 | hb12
    · replace h11 := andT h11 hb12
      refine QJ.on rfl rfl (cB hb12) (YldS.yld (y_fldB (o := 0) fld25_2 rfl)) rfl ?_
      refine QJ.on rfl rfl (cB hb12) (YldS.yld (y_loadB (k := 0) (off := 2) (v := .int .i64 b1.fall) rfl Try.isAgg2 rfl rfl)) rfl ?_
      obtain ⟨r13, h14, h11⟩ := bindS h11
      refine QJ.on rfl rfl (cB hb12) (y_call Try.call82 rfl (RetG.quiet fun w hw => ok_i_between h14 w )) rfl ?_
      refine QJ.step (YldS.yld (y_pick_t (cB hb12) rfl)) rfl ?_
      obtain rfl := Option.some.inj h11
      exact QJ.cut_end ⟨rfl, rfl, trivial⟩
    · obtain rfl := andF h11 hb12
      refine QJ.off rfl rfl (cB hb12) rfl rfl ?_
      refine QJ.off rfl rfl (cB hb12) rfl rfl ?_
      refine QJ.off rfl rfl (cB hb12) rfl rfl ?_
      refine QJ.step (YldS.yld (y_pick_f (cB hb12) rfl)) rfl ?_
      exact QJ.cut_end ⟨rfl, rfl, trivial⟩
  refine QJ.step (YldS.yld (y_move rfl)) rfl ?_
  obtain ⟨t15, h16, hm⟩ := bindS hm
  refine QJ.cut 4 [(1, pt g2 0), (20, .bool t15)] ?_ ?_
  · rcases Bool.eq_false_or_eq_true t10 with hb17 | hb17
    · replace h16 := andT h16 hb17
      refine QJ.on rfl rfl (cB hb17) (YldS.yld (y_fldB (o := 0) fld25_3 rfl)) rfl ?_
      refine QJ.on rfl rfl (cB hb17) (YldS.yld (y_loadB (k := 0) (off := 3) (v := .int .i64 b1.clear) rfl Try.isAgg2 rfl rfl)) rfl ?_
      obtain ⟨r18, h19, h16⟩ := bindS h16
      refine QJ.on rfl rfl (cB hb17) (y_call Try.call82 rfl (RetG.quiet fun w hw => ok_i_between h19 w )) rfl ?_
      refine QJ.step (YldS.yld (y_pick_t (cB hb17) rfl)) rfl ?_
      obtain rfl := Option.some.inj h16
      exact QJ.cut_end ⟨rfl, rfl, trivial⟩
    · obtain rfl := andF h16 hb17
      refine QJ.off rfl rfl (cB hb17) rfl rfl ?_
      refine QJ.off rfl rfl (cB hb17) rfl rfl ?_
      refine QJ.off rfl rfl (cB hb17) rfl rfl ?_
      refine QJ.step (YldS.yld (y_pick_f (cB hb17) rfl)) rfl ?_
      exact QJ.cut_end ⟨rfl, rfl, trivial⟩
  refine QJ.step (YldS.yld (y_move rfl)) rfl ?_
  obtain ⟨t20, h21, hm⟩ := bindS hm
  refine QJ.cut 4 [(25, .bool t20)] ?_ ?_
  · rcases Bool.eq_false_or_eq_true t15 with hb22 | hb22
    · replace h21 := andT h21 hb22
      refine QJ.on rfl rfl (cB hb22) (YldS.yld (y_fldB (o := 0) fld25_4 rfl)) rfl ?_
      refine QJ.on rfl rfl (cB hb22) (YldS.yld (y_loadB (k := 0) (off := 4) (v := .int .i64 b1.near) rfl Try.isAgg2 rfl rfl)) rfl ?_
      obtain ⟨r23, h24, h21⟩ := bindS h21
      refine QJ.on rfl rfl (cB hb22) (y_call Try.call82 rfl (RetG.quiet fun w hw => ok_i_between h24 w )) rfl ?_
      refine QJ.step (YldS.yld (y_pick_t (cB hb22) rfl)) rfl ?_
      obtain rfl := Option.some.inj h21
      exact QJ.cut_end ⟨rfl, trivial⟩
    · obtain rfl := andF h21 hb22
      refine QJ.off rfl rfl (cB hb22) rfl rfl ?_
      refine QJ.off rfl rfl (cB hb22) rfl rfl ?_
      refine QJ.off rfl rfl (cB hb22) rfl rfl ?_
      refine QJ.step (YldS.yld (y_pick_f (cB hb22) rfl)) rfl ?_
      exact QJ.cut_end ⟨rfl, trivial⟩
  refine QJ.step (YldS.yld (y_assign rfl)) rfl ?_
  refine QJ.done ?_
  refine PJ.next ?_
  refine WJ.ret ?_
  obtain rfl := Option.some.inj hm
  refine PJ.sel (L' := []) [] ⟨List.nodup_nil, rfl⟩ ?_
  exact PJ.retn (vs := [.bool t20]) Try.results76 ⟨rfl, trivial⟩ ⟨rfl, rfl⟩

set_option maxRecDepth 100000 in
set_option maxHeartbeats 1000000 in
theorem ok_i_ValidPairs {N : Nat} {pairs1 : List (List Int)} {r : Bool} (hm : i_ValidPairs N pairs1 = some r) (w : World) (v2 : Value) (hr3 : RdS w (cx w).Fz v2 (rSl fI64.rp) pairs1) :
    Calls Try.prog 93 #[v2] w (Ret (cx w) (.bool r)) := by
  unfold i_ValidPairs at hm
  refine Calls.enter [v2] Try.func93 rfl Try.ntmps93 rfl ?_
  refine WJ.seq ?_
  refine WJ.quiet ?_
  refine QJ.step (YldS.yld (y_assign rfl)) rfl ?_
  refine QJ.done ?_
  refine PJ.next ?_
  refine WJ.seq ?_
  refine WJ.seq ?_
  refine WJ.quiet ?_
  refine QJ.step (YldS.yld (y_move rfl)) rfl ?_
  refine QJ.step (YldS.yld (y_lenS Try.runUnderlying42 hr3 rfl)) rfl ?_
  obtain ⟨r4, h5, hm⟩ := bindS hm
  refine QJ.step (y_call Try.call82 rfl (RetG.quiet fun w hw => ok_i_between h5 w )) rfl ?_
  refine QJ.step (YldS.yld (y_not rfl)) rfl ?_
  refine QJ.done ?_
  refine PJ.next ?_
  refine WJ.cond (t := !r4) rfl (fun hb6 => ?_) (fun hb6 => ?_)
  · replace hm := ifT hm hb6
    refine WJ.seq ?_
    refine WJ.quiet ?_
    refine QJ.step (YldS.yld (y_assign rfl)) rfl ?_
    refine QJ.done ?_
    refine PJ.next ?_
    refine WJ.ret ?_
    refine PJ.then_ret ?_
    obtain rfl := Option.some.inj hm
    refine PJ.sel (L' := []) [] ⟨List.nodup_nil, rfl⟩ ?_
    exact PJ.retn (vs := [.bool false]) Try.results93 ⟨rfl, trivial⟩ ⟨rfl, rfl⟩
  · replace hm := ifF hm hb6
    refine WJ.skip ?_
    refine PJ.next ?_
    obtain ⟨kj7, hk8, hm⟩ := withK_open hm
    refine WJ.join (X := Unit) (fun (_ : Unit) => kj7  = some r) (fun (_ : Unit) => []) (fun (_ : Unit) => []) ?_ ?_
    · clear hk8
      refine WJ.seq ?_
      refine WJ.quiet ?_
      refine QJ.step (YldS.yld (y_move rfl)) rfl ?_
      refine QJ.step (YldS.yld (y_lenS Try.runUnderlying42 hr3 rfl)) rfl ?_
      refine QJ.step (YldS.yld (y_move rfl)) rfl ?_
      refine QJ.done ?_
      refine PJ.next ?_
      refine WJ.block ?_
      refine WJ.sel (L' := (fun (x : Int) => []) 0) [] ⟨List.nodup_nil, rfl⟩ ?_
      refine WJ.sub (m' := (fun (x : Int) => [(0, v2), (11, v2), (12, .int .i64 (List.length pairs1 : Int)), (13, .int .i64 x)]) 0) ⟨rfl, rfl, rfl, rfl, trivial⟩ ?_
      refine WJ.loop (X := Int) (fun N (x : Int) => i_ValidPairs_l1 kj7 pairs1 N x = some r) (fun (x : Int) => [(0, v2), (11, v2), (12, .int .i64 (List.length pairs1 : Int)), (13, .int .i64 x)]) (fun (x : Int) => []) ?_ N 0 hm
      · rintro N x9 hI
        have hm := hI; clear hI
        cases N with
        | zero => cases hm
        | succ N =>
        unfold i_ValidPairs_l1 at hm
        refine WJ.seq ?_
        refine WJ.quiet ?_
        refine QJ.step (YldS.yld (y_bin rfl rfl rfl)) rfl ?_
        refine QJ.done ?_
        refine PJ.next ?_
        refine WJ.seq ?_
        refine WJ.cond (t := decide (x9 < (List.length pairs1 : Int))) rfl (fun hb10 => ?_) (fun hb10 => ?_)
        · replace hm := ifT hm hb10
          refine WJ.skip ?_
          refine PJ.next ?_
          obtain ⟨kj11, hk12, hm⟩ := withK_open hm
          refine WJ.join (X := Unit) (fun (_ : Unit) => kj11  = some r) (fun (_ : Unit) => [(0, v2), (11, v2), (12, .int .i64 (List.length pairs1 : Int)), (13, .int .i64 x9)]) (fun (_ : Unit) => []) ?_ ?_
          · clear hk12
            refine WJ.block ?_
            refine WJ.seq ?_
            refine WJ.quiet ?_
            obtain ⟨e13, h14, hm⟩ := bindS hm
            obtain ⟨ad15, _, ⟨v18, rfl, hr19⟩, ha16, hy17⟩ := hr3.elem h14
            refine QJ.step (YldS.yld (hy17 Try.runUnderlying42 Try.sizeOf27 rfl rfl)) rfl ?_
            refine QJ.step (YldS.yld (y_load1 (v := v18) Try.isAgg27 ha16 St.frozenC rfl)) rfl ?_
            refine QJ.step (YldS.yld (y_assign rfl)) rfl ?_
            refine QJ.done ?_
            refine PJ.next ?_
            refine WJ.seq ?_
            refine WJ.seq ?_
            refine WJ.quiet ?_
            refine QJ.step (YldS.yld (y_move rfl)) rfl ?_
            refine QJ.step (YldS.yld (y_lenS Try.runUnderlying27 hr19 rfl)) rfl ?_
            refine QJ.step (YldS.yld (y_move rfl)) rfl ?_
            refine QJ.step (YldS.yld (y_lenS Try.runUnderlying42 hr3 rfl)) rfl ?_
            refine QJ.step (YldS.yld (y_bin rfl rfl rfl)) rfl ?_
            refine QJ.done ?_
            refine PJ.next ?_
            refine WJ.cond (t := ((List.length e13 : Int) != (List.length pairs1 : Int))) rfl (fun hb20 => ?_) (fun hb20 => ?_)
            · replace hm := ifT hm hb20
              refine WJ.seq ?_
              refine WJ.quiet ?_
              refine QJ.step (YldS.yld (y_assign rfl)) rfl ?_
              refine QJ.done ?_
              refine PJ.next ?_
              refine WJ.ret ?_
              refine PJ.then_ret (PJ.block_ret (PJ.then_ret (PJ.then_ret (PJ.block_ret (PJ.then_ret ?_)))))
              obtain rfl := Option.some.inj hm
              refine PJ.sel (L' := []) [] ⟨List.nodup_nil, rfl⟩ ?_
              exact PJ.retn (vs := [.bool false]) Try.results93 ⟨rfl, trivial⟩ ⟨rfl, rfl⟩
            · replace hm := ifF hm hb20
              refine WJ.skip ?_
              refine PJ.next ?_
              refine WJ.seq ?_
              refine WJ.quiet ?_
              refine QJ.step (YldS.yld (y_move rfl)) rfl ?_
              refine QJ.step (YldS.yld (y_lenS Try.runUnderlying27 hr19 rfl)) rfl ?_
              refine QJ.step (YldS.yld (y_move rfl)) rfl ?_
              refine QJ.done ?_
              refine PJ.next ?_
              refine WJ.block ?_
              refine WJ.sel (L' := (fun (x : Int) => []) 0) [] ⟨List.nodup_nil, rfl⟩ ?_
              refine WJ.sub (m' := (fun (x : Int) => [(0, v2), (11, v2), (12, .int .i64 (List.length pairs1 : Int)), (13, .int .i64 x9), (22, v18), (23, .int .i64 (List.length e13 : Int)), (24, .int .i64 x)]) 0) ⟨rfl, rfl, rfl, rfl, rfl, rfl, rfl, trivial⟩ ?_
              refine WJ.loop (X := Int) (fun N (x : Int) => i_ValidPairs_l2 kj11 e13 N x = some r) (fun (x : Int) => [(0, v2), (11, v2), (12, .int .i64 (List.length pairs1 : Int)), (13, .int .i64 x9), (22, v18), (23, .int .i64 (List.length e13 : Int)), (24, .int .i64 x)]) (fun (x : Int) => []) ?_ N 0 hm
              · rintro N x21 hI
                have hm := hI; clear hI
                cases N with
                | zero => cases hm
                | succ N =>
                unfold i_ValidPairs_l2 at hm
                refine WJ.seq ?_
                refine WJ.quiet ?_
                refine QJ.step (YldS.yld (y_bin rfl rfl rfl)) rfl ?_
                refine QJ.done ?_
                refine PJ.next ?_
                refine WJ.seq ?_
                refine WJ.cond (t := decide (x21 < (List.length e13 : Int))) rfl (fun hb22 => ?_) (fun hb22 => ?_)
                · replace hm := ifT hm hb22
                  refine WJ.skip ?_
                  refine PJ.next ?_
                  refine WJ.seq ?_
                  refine WJ.block ?_
                  refine WJ.seq ?_
                  refine WJ.quiet ?_
                  obtain ⟨e23, h24, hm⟩ := bindS hm
                  obtain ⟨ad25, _, rfl, ha26, hy27⟩ := hr19.elem h24
                  refine QJ.step (YldS.yld (hy27 Try.runUnderlying27 Try.sizeOf2 rfl rfl)) rfl ?_
                  refine QJ.step (YldS.yld (y_load1 (v := .int .i64 e23) Try.isAgg2 ha26 St.frozenC rfl)) rfl ?_
                  refine QJ.step (YldS.yld (y_assign rfl)) rfl ?_
                  refine QJ.done ?_
                  refine PJ.next ?_
                  refine WJ.seq ?_
                  refine WJ.quiet ?_
                  refine QJ.step (YldS.yld (y_move rfl)) rfl ?_
                  obtain ⟨r28, h29, hm⟩ := bindS hm
                  refine QJ.step (y_call Try.call82 rfl (RetG.quiet fun w hw => ok_i_between h29 w )) rfl ?_
                  refine QJ.step (YldS.yld (y_not rfl)) rfl ?_
                  refine QJ.done ?_
                  refine PJ.next ?_
                  refine WJ.cond (t := !r28) rfl (fun hb30 => ?_) (fun hb30 => ?_)
                  · replace hm := ifT hm hb30
                    refine WJ.seq ?_
                    refine WJ.quiet ?_
                    refine QJ.step (YldS.yld (y_assign rfl)) rfl ?_
                    refine QJ.done ?_
                    refine PJ.next ?_
                    refine WJ.ret ?_
                    refine PJ.block_ret (PJ.then_ret (PJ.then_ret (PJ.block_ret (PJ.block_ret (PJ.then_ret (PJ.then_ret (PJ.block_ret (PJ.then_ret ?_))))))))
                    obtain rfl := Option.some.inj hm
                    refine PJ.sel (L' := []) [] ⟨List.nodup_nil, rfl⟩ ?_
                    exact PJ.retn (vs := [.bool false]) Try.results93 ⟨rfl, trivial⟩ ⟨rfl, rfl⟩
                  · replace hm := ifF hm hb30
                    refine WJ.skip ?_
                    refine PJ.block_normal (PJ.next ?_)
                    refine WJ.quiet ?_
                    refine QJ.step (YldS.yld (y_bin rfl rfl rfl)) rfl ?_
                    refine QJ.step (YldS.yld (y_move rfl)) rfl ?_
                    refine QJ.done ?_
                    exact PJ.round (w64 (x21 + 1)) [] hm ⟨rfl, rfl, rfl, rfl, rfl, rfl, rfl, trivial⟩ ⟨List.nodup_nil, rfl⟩
                · replace hm := ifF hm hb22
                  refine WJ.exit ?_
                  refine PJ.then_exit (PJ.then_exit (PJ.block_exit (PJ.block_normal ?_)))
                  exact PJ.joined () [] hm ⟨rfl, rfl, rfl, rfl, trivial⟩ ⟨List.nodup_nil, rfl⟩
          · rintro _ hm
            subst hk12
            refine WJ.quiet ?_
            refine QJ.step (YldS.yld (y_bin rfl rfl rfl)) rfl ?_
            refine QJ.step (YldS.yld (y_move rfl)) rfl ?_
            refine QJ.done ?_
            exact PJ.round (w64 (x9 + 1)) [] hm ⟨rfl, rfl, rfl, rfl, trivial⟩ ⟨List.nodup_nil, rfl⟩
        · replace hm := ifF hm hb10
          refine WJ.exit ?_
          refine PJ.then_exit (PJ.then_exit (PJ.block_exit ?_))
          exact PJ.joined () [] hm trivial ⟨List.nodup_nil, rfl⟩
    · rintro _ hm
      subst hk8
      refine WJ.seq ?_
      refine WJ.quiet ?_
      refine QJ.step (YldS.yld (y_assign rfl)) rfl ?_
      refine QJ.done ?_
      refine PJ.next ?_
      refine WJ.ret ?_
      obtain rfl := Option.some.inj hm
      refine PJ.sel (L' := []) [] ⟨List.nodup_nil, rfl⟩ ?_
      exact PJ.retn (vs := [.bool true]) Try.results93 ⟨rfl, trivial⟩ ⟨rfl, rfl⟩

set_option maxRecDepth 100000 in
set_option maxHeartbeats 1000000 in
theorem ok_i_Basket_hasBar {b1 : Basket} {bar2 : Int} {r : Bool} (hm : i_Basket_hasBar b1 bar2 = some r) (w : World)  :
    Calls Try.prog 145 #[.agg (Basket.enc b1).toArray, .int .i64 bar2] w (Ret (cx w) (.bool r)) := by
  unfold i_Basket_hasBar at hm
  refine Calls.enter [.agg (Basket.enc b1).toArray, .int .i64 bar2] Try.func145 rfl Try.ntmps145 rfl ?_
  refine WJ.seq ?_
  refine WJ.reg ?_
  refine SJ.box (cs := [.int .i64 b1.bars, .int .i64 b1.rise, .int .i64 b1.fall, .int .i64 b1.clear, .int .i64 b1.near]) rfl rfl rfl fun g3 => ?_
  refine SJ.q (YldS.yld (y_assign rfl)) rfl ?_
  refine SJ.nil ?_
  refine PJ.next ?_
  refine WJ.seq ?_
  refine WJ.quiet ?_
  refine QJ.step (YldS.yld (y_move rfl)) rfl ?_
  refine QJ.step (YldS.yld (y_fldB (o := 0) fld25_0 rfl)) rfl ?_
  refine QJ.step (YldS.yld (y_loadB (k := 0) (off := 0) (v := .int .i64 b1.bars) rfl Try.isAgg2 rfl rfl)) rfl ?_
  refine QJ.step (YldS.yld (y_bin rfl rfl rfl)) rfl ?_
  obtain ⟨r4, h5, hm⟩ := bindS hm
  refine QJ.step (y_call Try.call82 rfl (RetG.quiet fun w hw => ok_i_between h5 w )) rfl ?_
  refine QJ.step (YldS.yld (y_assign rfl)) rfl ?_
  refine QJ.done ?_
  refine PJ.next ?_
  refine WJ.ret ?_
  obtain rfl := Option.some.inj hm
  refine PJ.sel (L' := []) [] ⟨List.nodup_nil, rfl⟩ ?_
  exact PJ.retn (vs := [.bool r4]) Try.results145 ⟨rfl, trivial⟩ ⟨rfl, rfl⟩

set_option maxRecDepth 100000 in
set_option maxHeartbeats 1000000 in
theorem ok_i_Basket_arranges {N : Nat} {b1 : Basket} {places2 : List Int} {least5 : Int} {most6 : Int} {r : Bool} (hm : i_Basket_arranges N b1 places2 least5 most6 = some r) (w : World) (v3 : Value) (hr4 : RdS w (cx w).Fz v3 fI64.rp places2) :
    Calls Try.prog 94 #[.agg (Basket.enc b1).toArray, v3, .int .i64 least5, .int .i64 most6] w (Ret (cx w) (.bool r)) := by
  unfold i_Basket_arranges at hm
  refine Calls.enter [.agg (Basket.enc b1).toArray, v3, .int .i64 least5, .int .i64 most6] Try.func94 rfl Try.ntmps94 rfl ?_
  refine WJ.seq ?_
  refine WJ.reg ?_
  refine SJ.box (cs := [.int .i64 b1.bars, .int .i64 b1.rise, .int .i64 b1.fall, .int .i64 b1.clear, .int .i64 b1.near]) rfl rfl rfl fun g7 => ?_
  refine SJ.q (YldS.yld (y_assign rfl)) rfl ?_
  refine SJ.nil ?_
  refine PJ.next ?_
  refine WJ.seq ?_
  refine WJ.seq ?_
  refine WJ.quiet ?_
  refine QJ.step (YldS.yld (y_move rfl)) rfl ?_
  refine QJ.step (YldS.yld (y_lenS Try.runUnderlying27 hr4 rfl)) rfl ?_
  refine QJ.step (YldS.yld (y_move rfl)) rfl ?_
  refine QJ.step (YldS.yld (y_bin rfl rfl rfl)) rfl ?_
  refine QJ.step (YldS.yld (y_move rfl)) rfl ?_
  obtain ⟨t8, h9, hm⟩ := bindS hm
  refine QJ.cut 5 [(1, v3), (4, pt g7 0), (21, .bool t8)] ?_ ?_
  · rcases Bool.eq_false_or_eq_true (decide ((List.length places2 : Int) < least5)) with hb10 | hb10
    · obtain rfl := orT h9 hb10
      refine QJ.off rfl rfl (cB hb10) rfl rfl ?_
      refine QJ.off rfl rfl (cB hb10) rfl rfl ?_
      refine QJ.off rfl rfl (cB hb10) rfl rfl ?_
      refine QJ.off rfl rfl (cB hb10) rfl rfl ?_
      refine QJ.step (YldS.yld (y_pick_t (cB hb10) rfl)) rfl ?_
      exact QJ.cut_end ⟨rfl, rfl, rfl, trivial⟩
    · replace h9 := orF h9 hb10
      refine QJ.on rfl rfl (cB hb10) (YldS.yld (y_move rfl)) rfl ?_
      refine QJ.on rfl rfl (cB hb10) (YldS.yld (y_lenS Try.runUnderlying27 hr4 rfl)) rfl ?_
      refine QJ.on rfl rfl (cB hb10) (YldS.yld (y_move rfl)) rfl ?_
      refine QJ.on rfl rfl (cB hb10) (YldS.yld (y_bin rfl rfl rfl)) rfl ?_
      refine QJ.step (YldS.yld (y_pick_f (cB hb10) rfl)) rfl ?_
      obtain rfl := Option.some.inj h9
      exact QJ.cut_end ⟨rfl, rfl, rfl, trivial⟩
  refine QJ.done ?_
  refine PJ.next ?_
  refine WJ.cond (t := t8) rfl (fun hb11 => ?_) (fun hb11 => ?_)
  · replace hm := ifT hm hb11
    refine WJ.seq ?_
    refine WJ.quiet ?_
    refine QJ.step (YldS.yld (y_assign rfl)) rfl ?_
    refine QJ.done ?_
    refine PJ.next ?_
    refine WJ.ret ?_
    refine PJ.then_ret ?_
    obtain rfl := Option.some.inj hm
    refine PJ.sel (L' := []) [] ⟨List.nodup_nil, rfl⟩ ?_
    exact PJ.retn (vs := [.bool false]) Try.results94 ⟨rfl, trivial⟩ ⟨rfl, rfl⟩
  · replace hm := ifF hm hb11
    refine WJ.skip ?_
    refine PJ.next ?_
    refine WJ.seq ?_
    refine WJ.reg ?_
    refine SJ.makeMapI rfl fun g12 => ?_
    refine SJ.q (YldS.yld (y_assign rfl)) rfl ?_
    refine SJ.nil ?_
    refine PJ.next ?_
    obtain ⟨kj13, hk14, hm⟩ := withK_open hm
    refine WJ.join (X := Unit) (fun (_ : Unit) => kj13  = some r) (fun (_ : Unit) => []) (fun (_ : Unit) => []) ?_ ?_
    · clear hk14
      refine WJ.seq ?_
      refine WJ.quiet ?_
      refine QJ.step (YldS.yld (y_move rfl)) rfl ?_
      refine QJ.step (YldS.yld (y_lenS Try.runUnderlying27 hr4 rfl)) rfl ?_
      refine QJ.step (YldS.yld (y_move rfl)) rfl ?_
      refine QJ.done ?_
      refine PJ.next ?_
      refine WJ.block ?_
      refine WJ.sel (L' := (fun (x : (List (Int × Bool)) × Int) => [mpI g12 x.1, box g7 25 [.int .i64 b1.bars, .int .i64 b1.rise, .int .i64 b1.fall, .int .i64 b1.clear, .int .i64 b1.near]]) ([], 0)) [0, 1] ⟨by decide, rfl⟩ ?_
      refine WJ.sub (m' := (fun (x : (List (Int × Bool)) × Int) => [(4, pt g7 0), (9, .map (some g12)), (23, v3), (24, .int .i64 (List.length places2 : Int)), (25, .int .i64 x.2)]) ([], 0)) ⟨rfl, rfl, rfl, rfl, rfl, trivial⟩ ?_
      refine WJ.loop (X := (List (Int × Bool)) × Int) (fun N (x : (List (Int × Bool)) × Int) => i_Basket_arranges_l1 kj13 b1 places2 N x.1 x.2 = some r) (fun (x : (List (Int × Bool)) × Int) => [(4, pt g7 0), (9, .map (some g12)), (23, v3), (24, .int .i64 (List.length places2 : Int)), (25, .int .i64 x.2)]) (fun (x : (List (Int × Bool)) × Int) => [mpI g12 x.1, box g7 25 [.int .i64 b1.bars, .int .i64 b1.rise, .int .i64 b1.fall, .int .i64 b1.clear, .int .i64 b1.near]]) ?_ N ([], 0) hm
      · rintro N ⟨mp15, x16⟩ hI
        have hm := hI; clear hI
        cases N with
        | zero => cases hm
        | succ N =>
        unfold i_Basket_arranges_l1 at hm
        refine WJ.seq ?_
        refine WJ.quiet ?_
        refine QJ.step (YldS.yld (y_bin rfl rfl rfl)) rfl ?_
        refine QJ.done ?_
        refine PJ.next ?_
        refine WJ.seq ?_
        refine WJ.cond (t := decide (x16 < (List.length places2 : Int))) rfl (fun hb17 => ?_) (fun hb17 => ?_)
        · replace hm := ifT hm hb17
          refine WJ.skip ?_
          refine PJ.next ?_
          refine WJ.seq ?_
          refine WJ.block ?_
          refine WJ.seq ?_
          refine WJ.quiet ?_
          obtain ⟨e18, h19, hm⟩ := bindS hm
          obtain ⟨ad20, _, rfl, ha21, hy22⟩ := hr4.elem h19
          refine QJ.step (YldS.yld (hy22 Try.runUnderlying27 Try.sizeOf2 rfl rfl)) rfl ?_
          refine QJ.step (YldS.yld (y_load1 (v := .int .i64 e18) Try.isAgg2 ha21 St.frozenC rfl)) rfl ?_
          refine QJ.step (YldS.yld (y_assign rfl)) rfl ?_
          refine QJ.done ?_
          refine PJ.next ?_
          refine WJ.seq ?_
          refine WJ.seq ?_
          refine WJ.quiet ?_
          refine QJ.step (YldS.yld (y_loadBN (k := 1) (off := 0) (us := [.int .i64 b1.bars, .int .i64 b1.rise, .int .i64 b1.fall, .int .i64 b1.clear, .int .i64 b1.near]) rfl Try.isAgg25 Try.sizeOf25 rfl rfl)) rfl ?_
          refine QJ.step (YldS.yld (y_move rfl)) rfl ?_
          obtain ⟨r23, h24, hm⟩ := bindS hm
          refine QJ.step (y_call Try.call145 rfl (RetG.quiet fun w hw => ok_i_Basket_hasBar h24 w )) rfl ?_
          refine QJ.step (YldS.yld (y_not rfl)) rfl ?_
          refine QJ.step (YldS.yld (y_move rfl)) rfl ?_
          obtain ⟨t25, h26, hm⟩ := bindS hm
          refine QJ.cut 4 [(4, pt g7 0), (9, .map (some g12)), (11, .int .i64 e18), (23, v3), (24, .int .i64 (List.length places2 : Int)), (25, .int .i64 x16), (37, .bool t25)] ?_ ?_
          · rcases Bool.eq_false_or_eq_true (!r23) with hb27 | hb27
            · obtain rfl := orT h26 hb27
              refine QJ.off rfl rfl (cB hb27) rfl rfl ?_
              refine QJ.off rfl rfl (cB hb27) rfl rfl ?_
              refine QJ.off rfl rfl (cB hb27) rfl rfl ?_
              refine QJ.step (YldS.yld (y_pick_t (cB hb27) rfl)) rfl ?_
              exact QJ.cut_end ⟨rfl, rfl, rfl, rfl, rfl, rfl, rfl, trivial⟩
            · replace h26 := orF h26 hb27
              refine QJ.on rfl rfl (cB hb27) (YldS.yld (y_move rfl)) rfl ?_
              refine QJ.on rfl rfl (cB hb27) (YldS.yld (y_move rfl)) rfl ?_
              refine QJ.on rfl rfl (cB hb27) (YldS.yld (y_lookupIB (k := 0) rfl Try.underlying186 Try.underlying2 Try.zeroValue4 rfl rfl)) rfl ?_
              refine QJ.step (YldS.yld (y_pick_f (cB hb27) rfl)) rfl ?_
              obtain rfl := Option.some.inj h26
              exact QJ.cut_end ⟨rfl, rfl, rfl, rfl, rfl, rfl, rfl, trivial⟩
          refine QJ.done ?_
          refine PJ.next ?_
          refine WJ.cond (t := t25) rfl (fun hb28 => ?_) (fun hb28 => ?_)
          · replace hm := ifT hm hb28
            refine WJ.seq ?_
            refine WJ.quiet ?_
            refine QJ.step (YldS.yld (y_assign rfl)) rfl ?_
            refine QJ.done ?_
            refine PJ.next ?_
            refine WJ.ret ?_
            refine PJ.then_ret (PJ.block_ret (PJ.then_ret (PJ.then_ret (PJ.block_ret (PJ.then_ret ?_)))))
            obtain rfl := Option.some.inj hm
            refine PJ.sel (L' := []) [] ⟨List.nodup_nil, rfl⟩ ?_
            exact PJ.retn (vs := [.bool false]) Try.results94 ⟨rfl, trivial⟩ ⟨rfl, rfl⟩
          · replace hm := ifF hm hb28
            refine WJ.skip ?_
            refine PJ.next ?_
            refine WJ.reg ?_
            refine SJ.q (YldS.yld (y_move rfl)) rfl ?_
            refine SJ.q (YldS.yld (y_move rfl)) rfl ?_
            refine SJ.mapUpdateIB (k := 0) Try.underlying186 Try.underlying2 rfl rfl rfl rfl ?_
            refine SJ.nil ?_
            refine PJ.block_normal (PJ.next ?_)
            refine WJ.quiet ?_
            refine QJ.step (YldS.yld (y_bin rfl rfl rfl)) rfl ?_
            refine QJ.step (YldS.yld (y_move rfl)) rfl ?_
            refine QJ.done ?_
            exact PJ.round (msetI mp15 e18 true, w64 (x16 + 1)) [0, 1] hm ⟨rfl, rfl, rfl, rfl, rfl, trivial⟩ ⟨by decide, rfl⟩
        · replace hm := ifF hm hb17
          refine WJ.exit ?_
          refine PJ.then_exit (PJ.then_exit (PJ.block_exit ?_))
          exact PJ.joined () [] hm trivial ⟨List.nodup_nil, rfl⟩
    · rintro _ hm
      subst hk14
      refine WJ.seq ?_
      refine WJ.quiet ?_
      refine QJ.step (YldS.yld (y_assign rfl)) rfl ?_
      refine QJ.done ?_
      refine PJ.next ?_
      refine WJ.ret ?_
      obtain rfl := Option.some.inj hm
      refine PJ.sel (L' := []) [] ⟨List.nodup_nil, rfl⟩ ?_
      exact PJ.retn (vs := [.bool true]) Try.results94 ⟨rfl, trivial⟩ ⟨rfl, rfl⟩

set_option maxRecDepth 100000 in
set_option maxHeartbeats 1000000 in
theorem ok_i_arrangeCode {N : Nat} {b1 : Basket} {pairs2 : List (List Int)} {places5 : List Int} {r : Int} (hm : i_arrangeCode N b1 pairs2 places5 = some r) (w : World) (v3 : Value) (hr4 : RdS w (cx w).Fz v3 (rSl fI64.rp) pairs2) (v6 : Value) (hr7 : RdS w (cx w).Fz v6 fI64.rp places5) :
    Calls Try.prog 91 #[.agg (Basket.enc b1).toArray, v3, v6] w (Ret (cx w) (.int .i64 r)) := by
  unfold i_arrangeCode at hm
  refine Calls.enter [.agg (Basket.enc b1).toArray, v3, v6] Try.func91 rfl Try.ntmps91 rfl ?_
  refine WJ.seq ?_
  refine WJ.reg ?_
  refine SJ.box (cs := [.int .i64 b1.bars, .int .i64 b1.rise, .int .i64 b1.fall, .int .i64 b1.clear, .int .i64 b1.near]) rfl rfl rfl fun g8 => ?_
  refine SJ.q (YldS.yld (y_assign rfl)) rfl ?_
  refine SJ.nil ?_
  refine PJ.next ?_
  refine WJ.seq ?_
  refine WJ.seq ?_
  refine WJ.quiet ?_
  refine QJ.step (YldS.yld (y_loadBN (k := 0) (off := 0) (us := [.int .i64 b1.bars, .int .i64 b1.rise, .int .i64 b1.fall, .int .i64 b1.clear, .int .i64 b1.near]) rfl Try.isAgg25 Try.sizeOf25 rfl rfl)) rfl ?_
  obtain ⟨r9, h10, hm⟩ := bindS hm
  refine QJ.step (y_call Try.call76 rfl (RetG.quiet fun w hw => ok_i_ValidBasket h10 w )) rfl ?_
  refine QJ.step (YldS.yld (y_not rfl)) rfl ?_
  refine QJ.step (YldS.yld (y_move rfl)) rfl ?_
  obtain ⟨t11, h12, hm⟩ := bindS hm
  refine QJ.cut 4 [(1, v3), (2, v6), (3, pt g8 0), (14, .bool t11)] ?_ ?_
  · rcases Bool.eq_false_or_eq_true (!r9) with hb13 | hb13
    · obtain rfl := orT h12 hb13
      refine QJ.off rfl rfl (cB hb13) rfl rfl ?_
      refine QJ.off rfl rfl (cB hb13) rfl rfl ?_
      refine QJ.off rfl rfl (cB hb13) rfl rfl ?_
      refine QJ.step (YldS.yld (y_pick_t (cB hb13) rfl)) rfl ?_
      exact QJ.cut_end ⟨rfl, rfl, rfl, rfl, trivial⟩
    · replace h12 := orF h12 hb13
      refine QJ.on rfl rfl (cB hb13) (YldS.yld (y_move rfl)) rfl ?_
      obtain ⟨r14, h15, h12⟩ := bindS h12
      refine QJ.on rfl rfl (cB hb13) (y_call Try.call93 rfl (RetG.quiet fun w hw => ok_i_ValidPairs h15 w _ (hr4.st hw))) rfl ?_
      refine QJ.on rfl rfl (cB hb13) (YldS.yld (y_not rfl)) rfl ?_
      refine QJ.step (YldS.yld (y_pick_f (cB hb13) rfl)) rfl ?_
      obtain rfl := Option.some.inj h12
      exact QJ.cut_end ⟨rfl, rfl, rfl, rfl, trivial⟩
  refine QJ.done ?_
  refine PJ.next ?_
  refine WJ.cond (t := t11) rfl (fun hb16 => ?_) (fun hb16 => ?_)
  · replace hm := ifT hm hb16
    refine WJ.seq ?_
    refine WJ.quiet ?_
    refine QJ.step (YldS.yld (y_assign rfl)) rfl ?_
    refine QJ.done ?_
    refine PJ.next ?_
    refine WJ.ret ?_
    refine PJ.then_ret ?_
    obtain rfl := Option.some.inj hm
    refine PJ.sel (L' := []) [] ⟨List.nodup_nil, rfl⟩ ?_
    exact PJ.retn (vs := [.int .i64 1]) Try.results91 ⟨rfl, trivial⟩ ⟨rfl, rfl⟩
  · replace hm := ifF hm hb16
    refine WJ.skip ?_
    refine PJ.next ?_
    refine WJ.seq ?_
    refine WJ.seq ?_
    refine WJ.quiet ?_
    refine QJ.step (YldS.yld (y_loadBN (k := 0) (off := 0) (us := [.int .i64 b1.bars, .int .i64 b1.rise, .int .i64 b1.fall, .int .i64 b1.clear, .int .i64 b1.near]) rfl Try.isAgg25 Try.sizeOf25 rfl rfl)) rfl ?_
    refine QJ.step (YldS.yld (y_move rfl)) rfl ?_
    refine QJ.step (YldS.yld (y_move rfl)) rfl ?_
    refine QJ.step (YldS.yld (y_lenS Try.runUnderlying42 hr4 rfl)) rfl ?_
    refine QJ.step (YldS.yld (y_move rfl)) rfl ?_
    refine QJ.step (YldS.yld (y_lenS Try.runUnderlying42 hr4 rfl)) rfl ?_
    obtain ⟨r17, h18, hm⟩ := bindS hm
    refine QJ.step (y_call Try.call94 rfl (RetG.quiet fun w hw => ok_i_Basket_arranges h18 w _ (hr7.st hw))) rfl ?_
    refine QJ.step (YldS.yld (y_not rfl)) rfl ?_
    refine QJ.done ?_
    refine PJ.next ?_
    refine WJ.cond (t := !r17) rfl (fun hb19 => ?_) (fun hb19 => ?_)
    · replace hm := ifT hm hb19
      refine WJ.seq ?_
      refine WJ.quiet ?_
      refine QJ.step (YldS.yld (y_assign rfl)) rfl ?_
      refine QJ.done ?_
      refine PJ.next ?_
      refine WJ.ret ?_
      refine PJ.then_ret ?_
      obtain rfl := Option.some.inj hm
      refine PJ.sel (L' := []) [] ⟨List.nodup_nil, rfl⟩ ?_
      exact PJ.retn (vs := [.int .i64 2]) Try.results91 ⟨rfl, trivial⟩ ⟨rfl, rfl⟩
    · replace hm := ifF hm hb19
      refine WJ.skip ?_
      refine PJ.next ?_
      refine WJ.seq ?_
      refine WJ.quiet ?_
      refine QJ.step (YldS.yld (y_assign rfl)) rfl ?_
      refine QJ.done ?_
      refine PJ.next ?_
      refine WJ.ret ?_
      obtain rfl := Option.some.inj hm
      refine PJ.sel (L' := []) [] ⟨List.nodup_nil, rfl⟩ ?_
      exact PJ.retn (vs := [.int .i64 0]) Try.results91 ⟨rfl, trivial⟩ ⟨rfl, rfl⟩

set_option maxRecDepth 100000 in
set_option maxHeartbeats 1000000 in
theorem ok_i_absolute {n1 : Int} {r : Int} (hm : i_absolute n1 = some r) (w : World)  :
    Calls Try.prog 146 #[.int .i64 n1] w (Ret (cx w) (.int .i64 r)) := by
  unfold i_absolute at hm
  refine Calls.enter [.int .i64 n1] Try.func146 rfl Try.ntmps146 rfl ?_
  refine WJ.seq ?_
  refine WJ.quiet ?_
  refine QJ.step (YldS.yld (y_assign rfl)) rfl ?_
  refine QJ.done ?_
  refine PJ.next ?_
  refine WJ.seq ?_
  refine WJ.seq ?_
  refine WJ.quiet ?_
  refine QJ.step (YldS.yld (y_move rfl)) rfl ?_
  refine QJ.step (YldS.yld (y_bin rfl rfl rfl)) rfl ?_
  refine QJ.done ?_
  refine PJ.next ?_
  refine WJ.cond (t := decide (n1 < 0)) rfl (fun hb2 => ?_) (fun hb2 => ?_)
  · replace hm := ifT hm hb2
    refine WJ.seq ?_
    refine WJ.quiet ?_
    refine QJ.step (YldS.yld (y_move rfl)) rfl ?_
    refine QJ.step (YldS.yld (y_neg rfl)) rfl ?_
    refine QJ.step (YldS.yld (y_assign rfl)) rfl ?_
    refine QJ.done ?_
    refine PJ.next ?_
    refine WJ.ret ?_
    refine PJ.then_ret ?_
    obtain rfl := Option.some.inj hm
    refine PJ.sel (L' := []) [] ⟨List.nodup_nil, rfl⟩ ?_
    exact PJ.retn (vs := [.int .i64 (w64 (0 - n1))]) Try.results146 ⟨rfl, trivial⟩ ⟨rfl, rfl⟩
  · replace hm := ifF hm hb2
    refine WJ.skip ?_
    refine PJ.next ?_
    refine WJ.seq ?_
    refine WJ.quiet ?_
    refine QJ.step (YldS.yld (y_move rfl)) rfl ?_
    refine QJ.step (YldS.yld (y_assign rfl)) rfl ?_
    refine QJ.done ?_
    refine PJ.next ?_
    refine WJ.ret ?_
    obtain rfl := Option.some.inj hm
    refine PJ.sel (L' := []) [] ⟨List.nodup_nil, rfl⟩ ?_
    exact PJ.retn (vs := [.int .i64 n1]) Try.results146 ⟨rfl, trivial⟩ ⟨rfl, rfl⟩

set_option maxRecDepth 100000 in
set_option maxHeartbeats 1000000 in
theorem ok_i_Basket_waits {b1 : Basket} {first2 : Int} {second3 : Int} {r : Int} (hm : i_Basket_waits b1 first2 second3 = some r) (w : World)  :
    Calls Try.prog 85 #[.agg (Basket.enc b1).toArray, .int .i64 first2, .int .i64 second3] w (Ret (cx w) (.int .i64 r)) := by
  unfold i_Basket_waits at hm
  refine Calls.enter [.agg (Basket.enc b1).toArray, .int .i64 first2, .int .i64 second3] Try.func85 rfl Try.ntmps85 rfl ?_
  refine WJ.seq ?_
  refine WJ.reg ?_
  refine SJ.box (cs := [.int .i64 b1.bars, .int .i64 b1.rise, .int .i64 b1.fall, .int .i64 b1.clear, .int .i64 b1.near]) rfl rfl rfl fun g4 => ?_
  refine SJ.q (YldS.yld (y_assign rfl)) rfl ?_
  refine SJ.nil ?_
  refine PJ.next ?_
  refine WJ.seq ?_
  refine WJ.seq ?_
  refine WJ.quiet ?_
  refine QJ.step (YldS.yld (y_move rfl)) rfl ?_
  refine QJ.step (YldS.yld (y_move rfl)) rfl ?_
  refine QJ.step (YldS.yld (y_bin rfl rfl rfl)) rfl ?_
  refine QJ.done ?_
  refine PJ.next ?_
  refine WJ.cond (t := (first2 == second3)) rfl (fun hb5 => ?_) (fun hb5 => ?_)
  · replace hm := ifT hm hb5
    refine WJ.seq ?_
    refine WJ.quiet ?_
    refine QJ.step (YldS.yld (y_fldB (o := 0) fld25_1 rfl)) rfl ?_
    refine QJ.step (YldS.yld (y_loadB (k := 0) (off := 1) (v := .int .i64 b1.rise) rfl Try.isAgg2 rfl rfl)) rfl ?_
    refine QJ.step (YldS.yld (y_fldB (o := 0) fld25_2 rfl)) rfl ?_
    refine QJ.step (YldS.yld (y_loadB (k := 0) (off := 2) (v := .int .i64 b1.fall) rfl Try.isAgg2 rfl rfl)) rfl ?_
    refine QJ.step (YldS.yld (y_bin rfl rfl rfl)) rfl ?_
    refine QJ.step (YldS.yld (y_assign rfl)) rfl ?_
    refine QJ.done ?_
    refine PJ.next ?_
    refine WJ.ret ?_
    refine PJ.then_ret ?_
    obtain rfl := Option.some.inj hm
    refine PJ.sel (L' := []) [] ⟨List.nodup_nil, rfl⟩ ?_
    exact PJ.retn (vs := [.int .i64 (w64 (b1.rise + b1.fall))]) Try.results85 ⟨rfl, trivial⟩ ⟨rfl, rfl⟩
  · replace hm := ifF hm hb5
    refine WJ.skip ?_
    refine PJ.next ?_
    refine WJ.seq ?_
    refine WJ.quiet_draw follows (by kernel_rfl) ?_
    refine QJ.step (YldS.yld (y_fldB (o := 0) fld25_3 rfl)) rfl ?_
    refine QJ.step (YldS.yld (y_loadB (k := 0) (off := 3) (v := .int .i64 b1.clear) rfl Try.isAgg2 rfl rfl)) rfl ?_
    refine QJ.step (YldS.yld (y_fldB (o := 0) fld25_4 rfl)) rfl ?_
    refine QJ.step (YldS.yld (y_loadB (k := 0) (off := 4) (v := .int .i64 b1.near) rfl Try.isAgg2 rfl rfl)) rfl ?_
    refine QJ.step (YldS.yld (y_move rfl)) rfl ?_
    refine QJ.step (YldS.yld (y_move rfl)) rfl ?_
    refine QJ.step (YldS.yld (y_bin rfl rfl rfl)) rfl ?_
    obtain ⟨r6, h7, hm⟩ := bindS hm
    refine QJ.step (y_call Try.call146 rfl (RetG.quiet fun w hw => ok_i_absolute h7 w )) rfl ?_
    refine QJ.step (YldS.yld (y_bin rfl rfl rfl)) rfl ?_
    refine QJ.step (YldS.yld (y_max rfl rfl)) rfl ?_
    refine QJ.step (YldS.yld (y_bin rfl rfl rfl)) rfl ?_
    refine QJ.step (YldS.yld (y_assign rfl)) rfl ?_
    refine QJ.done ?_
    refine PJ.next ?_
    refine WJ.ret ?_
    obtain rfl := Option.some.inj hm
    refine PJ.sel (L' := []) [] ⟨List.nodup_nil, rfl⟩ ?_
    exact PJ.retn (vs := [.int .i64 (w64 (b1.clear + (imax (w64 (b1.near - r6)) 0)))]) Try.results85 ⟨rfl, trivial⟩ ⟨rfl, rfl⟩

set_option maxRecDepth 100000 in
set_option maxHeartbeats 1000000 in
theorem ok_i_Basket_cost {N : Nat} {b1 : Basket} {pairs2 : List (List Int)} {places5 : List Int} {r : Int} (hm : i_Basket_cost N b1 pairs2 places5 = some r) (w : World) (v3 : Value) (hr4 : RdS w (cx w).Fz v3 (rSl fI64.rp) pairs2) (v6 : Value) (hr7 : RdS w (cx w).Fz v6 fI64.rp places5) :
    Calls Try.prog 92 #[.agg (Basket.enc b1).toArray, v3, v6] w (Ret (cx w) (.int .i64 r)) := by
  unfold i_Basket_cost at hm
  refine Calls.enter [.agg (Basket.enc b1).toArray, v3, v6] Try.func92 rfl Try.ntmps92 rfl ?_
  refine WJ.seq ?_
  refine WJ.reg ?_
  refine SJ.box (cs := [.int .i64 b1.bars, .int .i64 b1.rise, .int .i64 b1.fall, .int .i64 b1.clear, .int .i64 b1.near]) rfl rfl rfl fun g8 => ?_
  refine SJ.q (YldS.yld (y_assign rfl)) rfl ?_
  refine SJ.nil ?_
  refine PJ.next ?_
  refine WJ.seq ?_
  refine WJ.quiet ?_
  refine QJ.step (YldS.yld (y_assign rfl)) rfl ?_
  refine QJ.done ?_
  refine PJ.next ?_
  obtain ⟨kj10, hk11, hm⟩ := withK_open hm
  refine WJ.join (X := Int) (fun (x : Int) => kj10 x = some r) (fun (x : Int) => [(7, .int .i64 x)]) (fun (x : Int) => []) ?_ ?_
  · clear hk11
    refine WJ.seq ?_
    refine WJ.quiet ?_
    refine QJ.step (YldS.yld (y_move rfl)) rfl ?_
    refine QJ.step (YldS.yld (y_lenS Try.runUnderlying42 hr4 rfl)) rfl ?_
    refine QJ.step (YldS.yld (y_move rfl)) rfl ?_
    refine QJ.done ?_
    refine PJ.next ?_
    refine WJ.block ?_
    refine WJ.sel (L' := (fun (x : Int × Int) => [box g8 25 [.int .i64 b1.bars, .int .i64 b1.rise, .int .i64 b1.fall, .int .i64 b1.clear, .int .i64 b1.near]]) (0, 0)) [0] ⟨by decide, rfl⟩ ?_
    refine WJ.sub (m' := (fun (x : Int × Int) => [(2, v6), (3, pt g8 0), (7, .int .i64 x.1), (12, v3), (13, .int .i64 (List.length pairs2 : Int)), (14, .int .i64 x.2)]) (0, 0)) ⟨rfl, rfl, rfl, rfl, rfl, rfl, trivial⟩ ?_
    refine WJ.loop (X := Int × Int) (fun N (x : Int × Int) => i_Basket_cost_l1 kj10 b1 pairs2 places5 N x.1 x.2 = some r) (fun (x : Int × Int) => [(2, v6), (3, pt g8 0), (7, .int .i64 x.1), (12, v3), (13, .int .i64 (List.length pairs2 : Int)), (14, .int .i64 x.2)]) (fun (x : Int × Int) => [box g8 25 [.int .i64 b1.bars, .int .i64 b1.rise, .int .i64 b1.fall, .int .i64 b1.clear, .int .i64 b1.near]]) ?_ N (0, 0) hm
    · rintro N ⟨sum12, x13⟩ hI
      have hm := hI; clear hI
      cases N with
      | zero => cases hm
      | succ N =>
      unfold i_Basket_cost_l1 at hm
      refine WJ.seq ?_
      refine WJ.quiet ?_
      refine QJ.step (YldS.yld (y_bin rfl rfl rfl)) rfl ?_
      refine QJ.done ?_
      refine PJ.next ?_
      refine WJ.seq ?_
      refine WJ.cond (t := decide (x13 < (List.length pairs2 : Int))) rfl (fun hb14 => ?_) (fun hb14 => ?_)
      · replace hm := ifT hm hb14
        refine WJ.skip ?_
        refine PJ.next ?_
        obtain ⟨kj16, hk17, hm⟩ := withK_open hm
        refine WJ.join (X := Int) (fun (x : Int) => kj16 x = some r) (fun (x : Int) => [(2, v6), (3, pt g8 0), (7, .int .i64 x), (12, v3), (13, .int .i64 (List.length pairs2 : Int)), (14, .int .i64 x13)]) (fun (x : Int) => [box g8 25 [.int .i64 b1.bars, .int .i64 b1.rise, .int .i64 b1.fall, .int .i64 b1.clear, .int .i64 b1.near]]) ?_ ?_
        · clear hk17
          refine WJ.block ?_
          refine WJ.seq ?_
          refine WJ.quiet ?_
          refine QJ.step (YldS.yld (y_move rfl)) rfl ?_
          obtain ⟨e18, h19, hm⟩ := bindS hm
          obtain ⟨ad20, _, ⟨v23, rfl, hr24⟩, ha21, hy22⟩ := hr4.elem h19
          refine QJ.step (YldS.yld (hy22 Try.runUnderlying42 Try.sizeOf27 rfl rfl)) rfl ?_
          refine QJ.step (YldS.yld (y_load1 (v := v23) Try.isAgg27 ha21 St.frozenC rfl)) rfl ?_
          refine QJ.step (YldS.yld (y_assign rfl)) rfl ?_
          refine QJ.step (YldS.yld (y_assign rfl)) rfl ?_
          refine QJ.done ?_
          refine PJ.next ?_
          refine WJ.seq ?_
          refine WJ.quiet ?_
          refine QJ.step (YldS.yld (y_move rfl)) rfl ?_
          refine QJ.step (YldS.yld (y_lenS Try.runUnderlying27 hr24 rfl)) rfl ?_
          refine QJ.step (YldS.yld (y_move rfl)) rfl ?_
          refine QJ.done ?_
          refine PJ.next ?_
          refine WJ.block ?_
          refine WJ.sel (L' := (fun (x : Int × Int) => [box g8 25 [.int .i64 b1.bars, .int .i64 b1.rise, .int .i64 b1.fall, .int .i64 b1.clear, .int .i64 b1.near]]) (sum12, 0)) [0] ⟨by decide, rfl⟩ ?_
          refine WJ.sub (m' := (fun (x : Int × Int) => [(2, v6), (3, pt g8 0), (7, .int .i64 x.1), (8, .int .i64 x13), (12, v3), (13, .int .i64 (List.length pairs2 : Int)), (14, .int .i64 x13), (19, v23), (20, .int .i64 (List.length e18 : Int)), (21, .int .i64 x.2)]) (sum12, 0)) ⟨rfl, rfl, rfl, rfl, rfl, rfl, rfl, rfl, rfl, rfl, trivial⟩ ?_
          refine WJ.loop (X := Int × Int) (fun N (x : Int × Int) => i_Basket_cost_l2 kj16 b1 places5 x13 e18 N x.1 x.2 = some r) (fun (x : Int × Int) => [(2, v6), (3, pt g8 0), (7, .int .i64 x.1), (8, .int .i64 x13), (12, v3), (13, .int .i64 (List.length pairs2 : Int)), (14, .int .i64 x13), (19, v23), (20, .int .i64 (List.length e18 : Int)), (21, .int .i64 x.2)]) (fun (x : Int × Int) => [box g8 25 [.int .i64 b1.bars, .int .i64 b1.rise, .int .i64 b1.fall, .int .i64 b1.clear, .int .i64 b1.near]]) ?_ N (sum12, 0) hm
          · rintro N ⟨sum25, x26⟩ hI
            have hm := hI; clear hI
            cases N with
            | zero => cases hm
            | succ N =>
            unfold i_Basket_cost_l2 at hm
            refine WJ.seq ?_
            refine WJ.quiet ?_
            refine QJ.step (YldS.yld (y_bin rfl rfl rfl)) rfl ?_
            refine QJ.done ?_
            refine PJ.next ?_
            refine WJ.seq ?_
            refine WJ.cond (t := decide (x26 < (List.length e18 : Int))) rfl (fun hb27 => ?_) (fun hb27 => ?_)
            · replace hm := ifT hm hb27
              refine WJ.skip ?_
              refine PJ.next ?_
              refine WJ.seq ?_
              refine WJ.block ?_
              refine WJ.seq ?_
              refine WJ.quiet ?_
              refine QJ.step (YldS.yld (y_move rfl)) rfl ?_
              obtain ⟨e28, h29, hm⟩ := bindS hm
              obtain ⟨ad30, _, rfl, ha31, hy32⟩ := hr24.elem h29
              refine QJ.step (YldS.yld (hy32 Try.runUnderlying27 Try.sizeOf2 rfl rfl)) rfl ?_
              refine QJ.step (YldS.yld (y_load1 (v := .int .i64 e28) Try.isAgg2 ha31 St.frozenC rfl)) rfl ?_
              refine QJ.step (YldS.yld (y_assign rfl)) rfl ?_
              refine QJ.step (YldS.yld (y_assign rfl)) rfl ?_
              refine QJ.done ?_
              refine PJ.next ?_
              refine WJ.quiet_draw follows (by kernel_rfl) ?_
              refine QJ.step (YldS.yld (y_move rfl)) rfl ?_
              refine QJ.step (YldS.yld (y_move rfl)) rfl ?_
              refine QJ.step (YldS.yld (y_loadBN (k := 0) (off := 0) (us := [.int .i64 b1.bars, .int .i64 b1.rise, .int .i64 b1.fall, .int .i64 b1.clear, .int .i64 b1.near]) rfl Try.isAgg25 Try.sizeOf25 rfl rfl)) rfl ?_
              refine QJ.step (YldS.yld (y_move rfl)) rfl ?_
              refine QJ.step (YldS.yld (y_move rfl)) rfl ?_
              obtain ⟨e33, h34, hm⟩ := bindS hm
              obtain ⟨ad35, _, rfl, ha36, hy37⟩ := hr7.elem h34
              refine QJ.step (YldS.yld (hy37 Try.runUnderlying27 Try.sizeOf2 rfl rfl)) rfl ?_
              refine QJ.step (YldS.yld (y_load1 (v := .int .i64 e33) Try.isAgg2 ha36 St.frozenC rfl)) rfl ?_
              refine QJ.step (YldS.yld (y_move rfl)) rfl ?_
              refine QJ.step (YldS.yld (y_move rfl)) rfl ?_
              obtain ⟨e38, h39, hm⟩ := bindS hm
              obtain ⟨ad40, _, rfl, ha41, hy42⟩ := hr7.elem h39
              refine QJ.step (YldS.yld (hy42 Try.runUnderlying27 Try.sizeOf2 rfl rfl)) rfl ?_
              refine QJ.step (YldS.yld (y_load1 (v := .int .i64 e38) Try.isAgg2 ha41 St.frozenC rfl)) rfl ?_
              obtain ⟨r43, h44, hm⟩ := bindS hm
              refine QJ.step (y_call Try.call85 rfl (RetG.quiet fun w hw => ok_i_Basket_waits h44 w )) rfl ?_
              refine QJ.step (YldS.yld (y_bin rfl rfl rfl)) rfl ?_
              refine QJ.step (YldS.yld (y_bin rfl rfl rfl)) rfl ?_
              refine QJ.step (YldS.yld (y_assign rfl)) rfl ?_
              refine QJ.done ?_
              refine PJ.block_normal (PJ.next ?_)
              refine WJ.quiet ?_
              refine QJ.step (YldS.yld (y_bin rfl rfl rfl)) rfl ?_
              refine QJ.step (YldS.yld (y_move rfl)) rfl ?_
              refine QJ.done ?_
              exact PJ.round (w64 (sum25 + (w64 (e28 * r43))), w64 (x26 + 1)) [0] hm ⟨rfl, rfl, rfl, rfl, rfl, rfl, rfl, rfl, rfl, rfl, trivial⟩ ⟨by decide, rfl⟩
            · replace hm := ifF hm hb27
              refine WJ.exit ?_
              refine PJ.then_exit (PJ.then_exit (PJ.block_exit (PJ.block_normal ?_)))
              exact PJ.joined sum25 [0] hm ⟨rfl, rfl, rfl, rfl, rfl, rfl, trivial⟩ ⟨by decide, rfl⟩
        · rintro sum15 hm
          subst hk17
          refine WJ.quiet ?_
          refine QJ.step (YldS.yld (y_bin rfl rfl rfl)) rfl ?_
          refine QJ.step (YldS.yld (y_move rfl)) rfl ?_
          refine QJ.done ?_
          exact PJ.round (sum15, w64 (x13 + 1)) [0] hm ⟨rfl, rfl, rfl, rfl, rfl, rfl, trivial⟩ ⟨by decide, rfl⟩
      · replace hm := ifF hm hb14
        refine WJ.exit ?_
        refine PJ.then_exit (PJ.then_exit (PJ.block_exit ?_))
        exact PJ.joined sum12 [] hm ⟨rfl, trivial⟩ ⟨List.nodup_nil, rfl⟩
  · rintro sum9 hm
    subst hk11
    refine WJ.seq ?_
    refine WJ.quiet ?_
    refine QJ.step (YldS.yld (y_move rfl)) rfl ?_
    refine QJ.step (YldS.yld (y_assign rfl)) rfl ?_
    refine QJ.done ?_
    refine PJ.next ?_
    refine WJ.ret ?_
    obtain rfl := Option.some.inj hm
    refine PJ.sel (L' := []) [] ⟨List.nodup_nil, rfl⟩ ?_
    exact PJ.retn (vs := [.int .i64 sum9]) Try.results92 ⟨rfl, trivial⟩ ⟨rfl, rfl⟩

set_option maxRecDepth 100000 in
set_option maxHeartbeats 1000000 in
theorem ok_i_ArrangeCost {N : Nat} {b1 : Basket} {pairs2 : List (List Int)} {places5 : List Int} {r : Int × Int} (hm : i_ArrangeCost N b1 pairs2 places5 = some r) (w : World) (v3 : Value) (hr4 : RdS w (cx w).Fz v3 (rSl fI64.rp) pairs2) (v6 : Value) (hr7 : RdS w (cx w).Fz v6 fI64.rp places5) :
    Calls Try.prog 22 #[.agg (Basket.enc b1).toArray, v3, v6] w (Ret (cx w) (tup [.int .i64 r.1, .int .i64 r.2])) := by
  unfold i_ArrangeCost at hm
  refine Calls.enter [.agg (Basket.enc b1).toArray, v3, v6] Try.func22 rfl Try.ntmps22 rfl ?_
  refine WJ.seq ?_
  refine WJ.reg ?_
  refine SJ.box (cs := [.int .i64 b1.bars, .int .i64 b1.rise, .int .i64 b1.fall, .int .i64 b1.clear, .int .i64 b1.near]) rfl rfl rfl fun g8 => ?_
  refine SJ.q (YldS.yld (y_assign rfl)) rfl ?_
  refine SJ.q (YldS.yld (y_assign rfl)) rfl ?_
  refine SJ.nil ?_
  refine PJ.next ?_
  refine WJ.seq ?_
  refine WJ.seq ?_
  refine WJ.quiet ?_
  refine QJ.step (YldS.yld (y_loadBN (k := 0) (off := 0) (us := [.int .i64 b1.bars, .int .i64 b1.rise, .int .i64 b1.fall, .int .i64 b1.clear, .int .i64 b1.near]) rfl Try.isAgg25 Try.sizeOf25 rfl rfl)) rfl ?_
  refine QJ.step (YldS.yld (y_move rfl)) rfl ?_
  refine QJ.step (YldS.yld (y_move rfl)) rfl ?_
  obtain ⟨r9, h10, hm⟩ := bindS hm
  refine QJ.step (y_call Try.call91 rfl (RetG.quiet fun w hw => ok_i_arrangeCode h10 w _ (hr4.st hw) _ (hr7.st hw))) rfl ?_
  refine QJ.step (YldS.yld (y_assign rfl)) rfl ?_
  refine QJ.done ?_
  refine PJ.next ?_
  refine WJ.seq ?_
  refine WJ.quiet ?_
  refine QJ.step (YldS.yld (y_move rfl)) rfl ?_
  refine QJ.step (YldS.yld (y_bin rfl rfl rfl)) rfl ?_
  refine QJ.done ?_
  refine PJ.next ?_
  refine WJ.cond (t := (r9 != 0)) rfl (fun hb11 => ?_) (fun hb11 => ?_)
  · replace hm := ifT hm hb11
    refine WJ.seq ?_
    refine WJ.quiet ?_
    refine QJ.step (YldS.yld (y_move rfl)) rfl ?_
    refine QJ.step (YldS.yld (y_assign rfl)) rfl ?_
    refine QJ.step (YldS.yld (y_assign rfl)) rfl ?_
    refine QJ.done ?_
    refine PJ.next ?_
    refine WJ.ret ?_
    refine PJ.then_ret ?_
    obtain rfl := Option.some.inj hm
    refine PJ.sel (L' := []) [] ⟨List.nodup_nil, rfl⟩ ?_
    exact PJ.retn (vs := [.int .i64 0, .int .i64 r9]) Try.results22 ⟨rfl, rfl, trivial⟩ ⟨rfl, rfl⟩
  · replace hm := ifF hm hb11
    refine WJ.skip ?_
    refine PJ.next ?_
    refine WJ.seq ?_
    refine WJ.quiet ?_
    refine QJ.step (YldS.yld (y_loadBN (k := 0) (off := 0) (us := [.int .i64 b1.bars, .int .i64 b1.rise, .int .i64 b1.fall, .int .i64 b1.clear, .int .i64 b1.near]) rfl Try.isAgg25 Try.sizeOf25 rfl rfl)) rfl ?_
    refine QJ.step (YldS.yld (y_move rfl)) rfl ?_
    refine QJ.step (YldS.yld (y_move rfl)) rfl ?_
    obtain ⟨r12, h13, hm⟩ := bindS hm
    refine QJ.step (y_call Try.call92 rfl (RetG.quiet fun w hw => ok_i_Basket_cost h13 w _ (hr4.st hw) _ (hr7.st hw))) rfl ?_
    refine QJ.step (YldS.yld (y_assign rfl)) rfl ?_
    refine QJ.step (YldS.yld (y_assign rfl)) rfl ?_
    refine QJ.done ?_
    refine PJ.next ?_
    refine WJ.ret ?_
    obtain rfl := Option.some.inj hm
    refine PJ.sel (L' := []) [] ⟨List.nodup_nil, rfl⟩ ?_
    exact PJ.retn (vs := [.int .i64 r12, .int .i64 0]) Try.results22 ⟨rfl, rfl, trivial⟩ ⟨rfl, rfl⟩

set_option maxRecDepth 100000 in
set_option maxHeartbeats 1000000 in
theorem ok_i_ArrangeBound {N : Nat} {b1 : Basket} {pairs2 : List (List Int)} {r : Int × Int} (hm : i_ArrangeBound N b1 pairs2 = some r) (w : World) (v3 : Value) (hr4 : RdS w (cx w).Fz v3 (rSl fI64.rp) pairs2) :
    Calls Try.prog 23 #[.agg (Basket.enc b1).toArray, v3] w (Ret (cx w) (tup [.int .i64 r.1, .int .i64 r.2])) := by
  unfold i_ArrangeBound at hm
  refine Calls.enter [.agg (Basket.enc b1).toArray, v3] Try.func23 rfl Try.ntmps23 rfl ?_
  refine WJ.seq ?_
  refine WJ.reg ?_
  refine SJ.box (cs := [.int .i64 b1.bars, .int .i64 b1.rise, .int .i64 b1.fall, .int .i64 b1.clear, .int .i64 b1.near]) rfl rfl rfl fun g5 => ?_
  refine SJ.q (YldS.yld (y_assign rfl)) rfl ?_
  refine SJ.q (YldS.yld (y_assign rfl)) rfl ?_
  refine SJ.nil ?_
  refine PJ.next ?_
  refine WJ.seq ?_
  refine WJ.seq ?_
  refine WJ.quiet ?_
  refine QJ.step (YldS.yld (y_loadBN (k := 0) (off := 0) (us := [.int .i64 b1.bars, .int .i64 b1.rise, .int .i64 b1.fall, .int .i64 b1.clear, .int .i64 b1.near]) rfl Try.isAgg25 Try.sizeOf25 rfl rfl)) rfl ?_
  obtain ⟨r6, h7, hm⟩ := bindS hm
  refine QJ.step (y_call Try.call76 rfl (RetG.quiet fun w hw => ok_i_ValidBasket h7 w )) rfl ?_
  refine QJ.step (YldS.yld (y_not rfl)) rfl ?_
  refine QJ.step (YldS.yld (y_move rfl)) rfl ?_
  obtain ⟨t8, h9, hm⟩ := bindS hm
  refine QJ.cut 4 [(1, v3), (2, pt g5 0), (18, .bool t8)] ?_ ?_
  · rcases Bool.eq_false_or_eq_true (!r6) with hb10 | hb10
    · obtain rfl := orT h9 hb10
      refine QJ.off rfl rfl (cB hb10) rfl rfl ?_
      refine QJ.off rfl rfl (cB hb10) rfl rfl ?_
      refine QJ.off rfl rfl (cB hb10) rfl rfl ?_
      refine QJ.step (YldS.yld (y_pick_t (cB hb10) rfl)) rfl ?_
      exact QJ.cut_end ⟨rfl, rfl, rfl, trivial⟩
    · replace h9 := orF h9 hb10
      refine QJ.on rfl rfl (cB hb10) (YldS.yld (y_move rfl)) rfl ?_
      obtain ⟨r11, h12, h9⟩ := bindS h9
      refine QJ.on rfl rfl (cB hb10) (y_call Try.call93 rfl (RetG.quiet fun w hw => ok_i_ValidPairs h12 w _ (hr4.st hw))) rfl ?_
      refine QJ.on rfl rfl (cB hb10) (YldS.yld (y_not rfl)) rfl ?_
      refine QJ.step (YldS.yld (y_pick_f (cB hb10) rfl)) rfl ?_
      obtain rfl := Option.some.inj h9
      exact QJ.cut_end ⟨rfl, rfl, rfl, trivial⟩
  refine QJ.done ?_
  refine PJ.next ?_
  refine WJ.cond (t := t8) rfl (fun hb13 => ?_) (fun hb13 => ?_)
  · replace hm := ifT hm hb13
    refine WJ.seq ?_
    refine WJ.quiet ?_
    refine QJ.step (YldS.yld (y_assign rfl)) rfl ?_
    refine QJ.step (YldS.yld (y_assign rfl)) rfl ?_
    refine QJ.done ?_
    refine PJ.next ?_
    refine WJ.ret ?_
    refine PJ.then_ret ?_
    obtain rfl := Option.some.inj hm
    refine PJ.sel (L' := []) [] ⟨List.nodup_nil, rfl⟩ ?_
    exact PJ.retn (vs := [.int .i64 0, .int .i64 1]) Try.results23 ⟨rfl, rfl, trivial⟩ ⟨rfl, rfl⟩
  · replace hm := ifF hm hb13
    refine WJ.skip ?_
    refine PJ.next ?_
    refine WJ.seq ?_
    refine WJ.quiet ?_
    refine QJ.step (YldS.yld (y_assign rfl)) rfl ?_
    refine QJ.done ?_
    refine PJ.next ?_
    obtain ⟨kj15, hk16, hm⟩ := withK_open hm
    refine WJ.join (X := Int) (fun (x : Int) => kj15 x = some r) (fun (x : Int) => [(6, .int .i64 x)]) (fun (x : Int) => []) ?_ ?_
    · clear hk16
      refine WJ.seq ?_
      refine WJ.quiet ?_
      refine QJ.step (YldS.yld (y_move rfl)) rfl ?_
      refine QJ.step (YldS.yld (y_lenS Try.runUnderlying42 hr4 rfl)) rfl ?_
      refine QJ.step (YldS.yld (y_move rfl)) rfl ?_
      refine QJ.done ?_
      refine PJ.next ?_
      refine WJ.block ?_
      refine WJ.sel (L' := (fun (x : Int × Int) => [box g5 25 [.int .i64 b1.bars, .int .i64 b1.rise, .int .i64 b1.fall, .int .i64 b1.clear, .int .i64 b1.near]]) (0, 0)) [0] ⟨by decide, rfl⟩ ?_
      refine WJ.sub (m' := (fun (x : Int × Int) => [(2, pt g5 0), (6, .int .i64 x.1), (19, v3), (20, .int .i64 (List.length pairs2 : Int)), (21, .int .i64 x.2)]) (0, 0)) ⟨rfl, rfl, rfl, rfl, rfl, trivial⟩ ?_
      refine WJ.loop (X := Int × Int) (fun N (x : Int × Int) => i_ArrangeBound_l1 kj15 b1 pairs2 N x.1 x.2 = some r) (fun (x : Int × Int) => [(2, pt g5 0), (6, .int .i64 x.1), (19, v3), (20, .int .i64 (List.length pairs2 : Int)), (21, .int .i64 x.2)]) (fun (x : Int × Int) => [box g5 25 [.int .i64 b1.bars, .int .i64 b1.rise, .int .i64 b1.fall, .int .i64 b1.clear, .int .i64 b1.near]]) ?_ N (0, 0) hm
      · rintro N ⟨sum17, x18⟩ hI
        have hm := hI; clear hI
        cases N with
        | zero => cases hm
        | succ N =>
        unfold i_ArrangeBound_l1 at hm
        refine WJ.seq ?_
        refine WJ.quiet ?_
        refine QJ.step (YldS.yld (y_bin rfl rfl rfl)) rfl ?_
        refine QJ.done ?_
        refine PJ.next ?_
        refine WJ.seq ?_
        refine WJ.cond (t := decide (x18 < (List.length pairs2 : Int))) rfl (fun hb19 => ?_) (fun hb19 => ?_)
        · replace hm := ifT hm hb19
          refine WJ.skip ?_
          refine PJ.next ?_
          obtain ⟨kj21, hk22, hm⟩ := withK_open hm
          refine WJ.join (X := Int) (fun (x : Int) => kj21 x = some r) (fun (x : Int) => [(2, pt g5 0), (6, .int .i64 x), (19, v3), (20, .int .i64 (List.length pairs2 : Int)), (21, .int .i64 x18)]) (fun (x : Int) => [box g5 25 [.int .i64 b1.bars, .int .i64 b1.rise, .int .i64 b1.fall, .int .i64 b1.clear, .int .i64 b1.near]]) ?_ ?_
          · clear hk22
            refine WJ.block ?_
            refine WJ.seq ?_
            refine WJ.quiet ?_
            refine QJ.step (YldS.yld (y_move rfl)) rfl ?_
            obtain ⟨e23, h24, hm⟩ := bindS hm
            obtain ⟨ad25, _, ⟨v28, rfl, hr29⟩, ha26, hy27⟩ := hr4.elem h24
            refine QJ.step (YldS.yld (hy27 Try.runUnderlying42 Try.sizeOf27 rfl rfl)) rfl ?_
            refine QJ.step (YldS.yld (y_load1 (v := v28) Try.isAgg27 ha26 St.frozenC rfl)) rfl ?_
            refine QJ.step (YldS.yld (y_assign rfl)) rfl ?_
            refine QJ.step (YldS.yld (y_assign rfl)) rfl ?_
            refine QJ.done ?_
            refine PJ.next ?_
            refine WJ.seq ?_
            refine WJ.quiet ?_
            refine QJ.step (YldS.yld (y_move rfl)) rfl ?_
            refine QJ.step (YldS.yld (y_lenS Try.runUnderlying27 hr29 rfl)) rfl ?_
            refine QJ.step (YldS.yld (y_move rfl)) rfl ?_
            refine QJ.done ?_
            refine PJ.next ?_
            refine WJ.block ?_
            refine WJ.sel (L' := (fun (x : Int × Int) => [box g5 25 [.int .i64 b1.bars, .int .i64 b1.rise, .int .i64 b1.fall, .int .i64 b1.clear, .int .i64 b1.near]]) (sum17, 0)) [0] ⟨by decide, rfl⟩ ?_
            refine WJ.sub (m' := (fun (x : Int × Int) => [(2, pt g5 0), (6, .int .i64 x.1), (7, .int .i64 x18), (19, v3), (20, .int .i64 (List.length pairs2 : Int)), (21, .int .i64 x18), (26, v28), (27, .int .i64 (List.length e23 : Int)), (28, .int .i64 x.2)]) (sum17, 0)) ⟨rfl, rfl, rfl, rfl, rfl, rfl, rfl, rfl, rfl, trivial⟩ ?_
            refine WJ.loop (X := Int × Int) (fun N (x : Int × Int) => i_ArrangeBound_l2 kj21 b1 x18 e23 N x.1 x.2 = some r) (fun (x : Int × Int) => [(2, pt g5 0), (6, .int .i64 x.1), (7, .int .i64 x18), (19, v3), (20, .int .i64 (List.length pairs2 : Int)), (21, .int .i64 x18), (26, v28), (27, .int .i64 (List.length e23 : Int)), (28, .int .i64 x.2)]) (fun (x : Int × Int) => [box g5 25 [.int .i64 b1.bars, .int .i64 b1.rise, .int .i64 b1.fall, .int .i64 b1.clear, .int .i64 b1.near]]) ?_ N (sum17, 0) hm
            · rintro N ⟨sum30, x31⟩ hI
              have hm := hI; clear hI
              cases N with
              | zero => cases hm
              | succ N =>
              unfold i_ArrangeBound_l2 at hm
              refine WJ.seq ?_
              refine WJ.quiet ?_
              refine QJ.step (YldS.yld (y_bin rfl rfl rfl)) rfl ?_
              refine QJ.done ?_
              refine PJ.next ?_
              refine WJ.seq ?_
              refine WJ.cond (t := decide (x31 < (List.length e23 : Int))) rfl (fun hb32 => ?_) (fun hb32 => ?_)
              · replace hm := ifT hm hb32
                refine WJ.skip ?_
                refine PJ.next ?_
                obtain ⟨kj34, hk35, hm⟩ := withK_open hm
                refine WJ.join (X := Int) (fun (x : Int) => kj34 x = some r) (fun (x : Int) => [(2, pt g5 0), (6, .int .i64 x), (7, .int .i64 x18), (19, v3), (20, .int .i64 (List.length pairs2 : Int)), (21, .int .i64 x18), (26, v28), (27, .int .i64 (List.length e23 : Int)), (28, .int .i64 x31)]) (fun (x : Int) => [box g5 25 [.int .i64 b1.bars, .int .i64 b1.rise, .int .i64 b1.fall, .int .i64 b1.clear, .int .i64 b1.near]]) ?_ ?_
                · clear hk35
                  refine WJ.block ?_
                  refine WJ.seq ?_
                  refine WJ.quiet ?_
                  refine QJ.step (YldS.yld (y_move rfl)) rfl ?_
                  obtain ⟨e36, h37, hm⟩ := bindS hm
                  obtain ⟨ad38, _, rfl, ha39, hy40⟩ := hr29.elem h37
                  refine QJ.step (YldS.yld (hy40 Try.runUnderlying27 Try.sizeOf2 rfl rfl)) rfl ?_
                  refine QJ.step (YldS.yld (y_load1 (v := .int .i64 e36) Try.isAgg2 ha39 St.frozenC rfl)) rfl ?_
                  refine QJ.step (YldS.yld (y_assign rfl)) rfl ?_
                  refine QJ.step (YldS.yld (y_assign rfl)) rfl ?_
                  refine QJ.done ?_
                  refine PJ.next ?_
                  refine WJ.seq ?_
                  refine WJ.quiet ?_
                  refine QJ.step (YldS.yld (y_move rfl)) rfl ?_
                  refine QJ.step (YldS.yld (y_move rfl)) rfl ?_
                  refine QJ.step (YldS.yld (y_bin rfl rfl rfl)) rfl ?_
                  refine QJ.done ?_
                  refine PJ.next ?_
                  refine WJ.cond (t := (x18 == x31)) rfl (fun hb41 => ?_) (fun hb41 => ?_)
                  · replace hm := ifT hm hb41
                    refine WJ.quiet ?_
                    refine QJ.step (YldS.yld (y_move rfl)) rfl ?_
                    refine QJ.step (YldS.yld (y_move rfl)) rfl ?_
                    refine QJ.step (YldS.yld (y_fldB (o := 0) fld25_1 rfl)) rfl ?_
                    refine QJ.step (YldS.yld (y_loadB (k := 0) (off := 1) (v := .int .i64 b1.rise) rfl Try.isAgg2 rfl rfl)) rfl ?_
                    refine QJ.step (YldS.yld (y_fldB (o := 0) fld25_2 rfl)) rfl ?_
                    refine QJ.step (YldS.yld (y_loadB (k := 0) (off := 2) (v := .int .i64 b1.fall) rfl Try.isAgg2 rfl rfl)) rfl ?_
                    refine QJ.step (YldS.yld (y_bin rfl rfl rfl)) rfl ?_
                    refine QJ.step (YldS.yld (y_bin rfl rfl rfl)) rfl ?_
                    refine QJ.step (YldS.yld (y_bin rfl rfl rfl)) rfl ?_
                    refine QJ.step (YldS.yld (y_assign rfl)) rfl ?_
                    refine QJ.done ?_
                    refine PJ.block_normal ?_
                    exact PJ.joined (w64 (sum30 + (w64 (e36 * (w64 (b1.rise + b1.fall)))))) [0] hm ⟨rfl, rfl, rfl, rfl, rfl, rfl, rfl, rfl, rfl, trivial⟩ ⟨by decide, rfl⟩
                  · replace hm := ifF hm hb41
                    refine WJ.quiet ?_
                    refine QJ.step (YldS.yld (y_move rfl)) rfl ?_
                    refine QJ.step (YldS.yld (y_move rfl)) rfl ?_
                    refine QJ.step (YldS.yld (y_fldB (o := 0) fld25_3 rfl)) rfl ?_
                    refine QJ.step (YldS.yld (y_loadB (k := 0) (off := 3) (v := .int .i64 b1.clear) rfl Try.isAgg2 rfl rfl)) rfl ?_
                    refine QJ.step (YldS.yld (y_bin rfl rfl rfl)) rfl ?_
                    refine QJ.step (YldS.yld (y_bin rfl rfl rfl)) rfl ?_
                    refine QJ.step (YldS.yld (y_assign rfl)) rfl ?_
                    refine QJ.done ?_
                    refine PJ.block_normal ?_
                    exact PJ.joined (w64 (sum30 + (w64 (e36 * b1.clear)))) [0] hm ⟨rfl, rfl, rfl, rfl, rfl, rfl, rfl, rfl, rfl, trivial⟩ ⟨by decide, rfl⟩
                · rintro sum33 hm
                  subst hk35
                  refine WJ.quiet ?_
                  refine QJ.step (YldS.yld (y_bin rfl rfl rfl)) rfl ?_
                  refine QJ.step (YldS.yld (y_move rfl)) rfl ?_
                  refine QJ.done ?_
                  exact PJ.round (sum33, w64 (x31 + 1)) [0] hm ⟨rfl, rfl, rfl, rfl, rfl, rfl, rfl, rfl, rfl, trivial⟩ ⟨by decide, rfl⟩
              · replace hm := ifF hm hb32
                refine WJ.exit ?_
                refine PJ.then_exit (PJ.then_exit (PJ.block_exit (PJ.block_normal ?_)))
                exact PJ.joined sum30 [0] hm ⟨rfl, rfl, rfl, rfl, rfl, trivial⟩ ⟨by decide, rfl⟩
          · rintro sum20 hm
            subst hk22
            refine WJ.quiet ?_
            refine QJ.step (YldS.yld (y_bin rfl rfl rfl)) rfl ?_
            refine QJ.step (YldS.yld (y_move rfl)) rfl ?_
            refine QJ.done ?_
            exact PJ.round (sum20, w64 (x18 + 1)) [0] hm ⟨rfl, rfl, rfl, rfl, rfl, trivial⟩ ⟨by decide, rfl⟩
        · replace hm := ifF hm hb19
          refine WJ.exit ?_
          refine PJ.then_exit (PJ.then_exit (PJ.block_exit ?_))
          exact PJ.joined sum17 [] hm ⟨rfl, trivial⟩ ⟨List.nodup_nil, rfl⟩
    · rintro sum14 hm
      subst hk16
      refine WJ.seq ?_
      refine WJ.quiet ?_
      refine QJ.step (YldS.yld (y_move rfl)) rfl ?_
      refine QJ.step (YldS.yld (y_assign rfl)) rfl ?_
      refine QJ.step (YldS.yld (y_assign rfl)) rfl ?_
      refine QJ.done ?_
      refine PJ.next ?_
      refine WJ.ret ?_
      obtain rfl := Option.some.inj hm
      refine PJ.sel (L' := []) [] ⟨List.nodup_nil, rfl⟩ ?_
      exact PJ.retn (vs := [.int .i64 sum14, .int .i64 0]) Try.results23 ⟨rfl, rfl, trivial⟩ ⟨rfl, rfl⟩

set_option maxRecDepth 100000 in
set_option maxHeartbeats 1000000 in
theorem ok_i_MirrorArrange {N : Nat} {b1 : Basket} {places2 : List Int} {r : (List Int) × Int} (hm : i_MirrorArrange N b1 places2 = some r) (w : World) (v3 : Value) (hr4 : RdS w (cx w).Fz v3 fI64.rp places2) :
    Calls Try.prog 24 #[.agg (Basket.enc b1).toArray, v3] w (RetG (cx w) fun u L => ∃ (u1 : Value), (u = tup [u1, .int .i64 r.2] ∧ L = [row u1 2 fI64 r.1])) := by
  unfold i_MirrorArrange at hm
  refine Calls.enter [.agg (Basket.enc b1).toArray, v3] Try.func24 rfl Try.ntmps24 rfl ?_
  refine WJ.seq ?_
  refine WJ.reg ?_
  refine SJ.box (cs := [.int .i64 b1.bars, .int .i64 b1.rise, .int .i64 b1.fall, .int .i64 b1.clear, .int .i64 b1.near]) rfl rfl rfl fun g5 => ?_
  refine SJ.q (YldS.yld (y_assign rfl)) rfl ?_
  refine SJ.q (YldS.yld (y_assign rfl)) rfl ?_
  refine SJ.nil ?_
  refine PJ.next ?_
  refine WJ.seq ?_
  refine WJ.seq ?_
  refine WJ.quiet ?_
  refine QJ.step (YldS.yld (y_loadBN (k := 0) (off := 0) (us := [.int .i64 b1.bars, .int .i64 b1.rise, .int .i64 b1.fall, .int .i64 b1.clear, .int .i64 b1.near]) rfl Try.isAgg25 Try.sizeOf25 rfl rfl)) rfl ?_
  obtain ⟨r6, h7, hm⟩ := bindS hm
  refine QJ.step (y_call Try.call76 rfl (RetG.quiet fun w hw => ok_i_ValidBasket h7 w )) rfl ?_
  refine QJ.step (YldS.yld (y_not rfl)) rfl ?_
  refine QJ.done ?_
  refine PJ.next ?_
  refine WJ.cond (t := !r6) rfl (fun hb8 => ?_) (fun hb8 => ?_)
  · replace hm := ifT hm hb8
    refine WJ.seq ?_
    refine WJ.quiet ?_
    refine QJ.step (YldS.yld (y_assign rfl)) rfl ?_
    refine QJ.step (YldS.yld (y_assign rfl)) rfl ?_
    refine QJ.done ?_
    refine PJ.next ?_
    refine WJ.ret ?_
    refine PJ.then_ret ?_
    refine PJ.nil_row 2 fI64 ?_
    obtain rfl := Option.some.inj hm
    refine PJ.sel (L' := [row (.slice none 0 0) 2 fI64 []]) [0] ⟨by decide, rfl⟩ ?_
    exact PJ.retn (vs := [(.slice none 0 0), .int .i64 1]) Try.results24 ⟨rfl, rfl, trivial⟩ ⟨_, rfl, rfl⟩
  · replace hm := ifF hm hb8
    refine WJ.skip ?_
    refine PJ.next ?_
    refine WJ.seq ?_
    refine WJ.seq ?_
    refine WJ.quiet ?_
    refine QJ.step (YldS.yld (y_loadBN (k := 0) (off := 0) (us := [.int .i64 b1.bars, .int .i64 b1.rise, .int .i64 b1.fall, .int .i64 b1.clear, .int .i64 b1.near]) rfl Try.isAgg25 Try.sizeOf25 rfl rfl)) rfl ?_
    refine QJ.step (YldS.yld (y_move rfl)) rfl ?_
    obtain ⟨r9, h10, hm⟩ := bindS hm
    refine QJ.step (y_call Try.call94 rfl (RetG.quiet fun w hw => ok_i_Basket_arranges h10 w _ (hr4.st hw))) rfl ?_
    refine QJ.step (YldS.yld (y_not rfl)) rfl ?_
    refine QJ.done ?_
    refine PJ.next ?_
    refine WJ.cond (t := !r9) rfl (fun hb11 => ?_) (fun hb11 => ?_)
    · replace hm := ifT hm hb11
      refine WJ.seq ?_
      refine WJ.quiet ?_
      refine QJ.step (YldS.yld (y_assign rfl)) rfl ?_
      refine QJ.step (YldS.yld (y_assign rfl)) rfl ?_
      refine QJ.done ?_
      refine PJ.next ?_
      refine WJ.ret ?_
      refine PJ.then_ret ?_
      refine PJ.nil_row 2 fI64 ?_
      obtain rfl := Option.some.inj hm
      refine PJ.sel (L' := [row (.slice none 0 0) 2 fI64 []]) [0] ⟨by decide, rfl⟩ ?_
      exact PJ.retn (vs := [(.slice none 0 0), .int .i64 2]) Try.results24 ⟨rfl, rfl, trivial⟩ ⟨_, rfl, rfl⟩
    · replace hm := ifF hm hb11
      refine WJ.skip ?_
      refine PJ.next ?_
      refine WJ.seq ?_
      refine WJ.reg ?_
      refine SJ.buildSlice (R := fI64) (os := []) [] Try.runUnderlying27 Try.sizeOf2 Try.zeroValue2 rfl rfl rfl rfl rfl rfl fun v12 => ?_
      refine SJ.q (YldS.yld (y_assign rfl)) rfl ?_
      refine SJ.nil ?_
      refine PJ.next ?_
      obtain ⟨kj15, hk16, hm⟩ := withK_open hm
      refine WJ.join (X := (List Int) × Value) (fun (x : (List Int) × Value) => kj15 x.1 = some r) (fun (x : (List Int) × Value) => [(6, x.2)]) (fun (x : (List Int) × Value) => [row x.2 2 fI64 x.1]) ?_ ?_
      · clear hk16
        refine WJ.seq ?_
        refine WJ.quiet ?_
        refine QJ.step (YldS.yld (y_move rfl)) rfl ?_
        refine QJ.step (YldS.yld (y_lenS Try.runUnderlying27 hr4 rfl)) rfl ?_
        refine QJ.step (YldS.yld (y_move rfl)) rfl ?_
        refine QJ.done ?_
        refine PJ.next ?_
        refine WJ.block ?_
        refine WJ.sel (L' := (fun (x : (List Int) × Value × Int) => [row x.2.1 2 fI64 x.1, box g5 25 [.int .i64 b1.bars, .int .i64 b1.rise, .int .i64 b1.fall, .int .i64 b1.clear, .int .i64 b1.near]]) ([], v12, 0)) [0, 1] ⟨by decide, rfl⟩ ?_
        refine WJ.sub (m' := (fun (x : (List Int) × Value × Int) => [(2, pt g5 0), (6, x.2.1), (17, v3), (18, .int .i64 (List.length places2 : Int)), (19, .int .i64 x.2.2)]) ([], v12, 0)) ⟨rfl, rfl, rfl, rfl, rfl, trivial⟩ ?_
        refine WJ.loop (X := (List Int) × Value × Int) (fun N (x : (List Int) × Value × Int) => i_MirrorArrange_l1 kj15 b1 places2 N x.1 x.2.2 = some r) (fun (x : (List Int) × Value × Int) => [(2, pt g5 0), (6, x.2.1), (17, v3), (18, .int .i64 (List.length places2 : Int)), (19, .int .i64 x.2.2)]) (fun (x : (List Int) × Value × Int) => [row x.2.1 2 fI64 x.1, box g5 25 [.int .i64 b1.bars, .int .i64 b1.rise, .int .i64 b1.fall, .int .i64 b1.clear, .int .i64 b1.near]]) ?_ N ([], v12, 0) hm
        · rintro N ⟨l17, v18, x19⟩ hI
          have hm := hI; clear hI
          cases N with
          | zero => cases hm
          | succ N =>
          unfold i_MirrorArrange_l1 at hm
          refine WJ.seq ?_
          refine WJ.quiet ?_
          refine QJ.step (YldS.yld (y_bin rfl rfl rfl)) rfl ?_
          refine QJ.done ?_
          refine PJ.next ?_
          refine WJ.seq ?_
          refine WJ.cond (t := decide (x19 < (List.length places2 : Int))) rfl (fun hb20 => ?_) (fun hb20 => ?_)
          · replace hm := ifT hm hb20
            refine WJ.skip ?_
            refine PJ.next ?_
            refine WJ.seq ?_
            refine WJ.block ?_
            refine WJ.seq ?_
            refine WJ.quiet ?_
            obtain ⟨e21, h22, hm⟩ := bindS hm
            obtain ⟨ad23, _, rfl, ha24, hy25⟩ := hr4.elem h22
            refine QJ.step (YldS.yld (hy25 Try.runUnderlying27 Try.sizeOf2 rfl rfl)) rfl ?_
            refine QJ.step (YldS.yld (y_load1 (v := .int .i64 e21) Try.isAgg2 ha24 St.frozenC rfl)) rfl ?_
            refine QJ.step (YldS.yld (y_assign rfl)) rfl ?_
            refine QJ.done ?_
            refine PJ.next ?_
            refine WJ.reg ?_
            refine SJ.q (YldS.yld (y_move rfl)) rfl ?_
            refine SJ.q (YldS.yld (y_fldB (o := 0) fld25_0 rfl)) rfl ?_
            refine SJ.q (YldS.yld (y_loadB (k := 1) (off := 0) (v := .int .i64 b1.bars) rfl Try.isAgg2 rfl rfl)) rfl ?_
            refine SJ.q (YldS.yld (y_bin rfl rfl rfl)) rfl ?_
            refine SJ.q (YldS.yld (y_move rfl)) rfl ?_
            refine SJ.q (YldS.yld (y_bin rfl rfl rfl)) rfl ?_
            refine SJ.buildSlice (R := fI64) (os := [.tmp 28]) [w64 ((w64 (b1.bars - 1)) - e21)] Try.runUnderlying27 Try.sizeOf2 Try.zeroValue2 rfl rfl rfl rfl rfl rfl fun v26 => ?_
            obtain ⟨l27, h28, hm⟩ := bindS hm
            refine SJ.append (k := 1) (R := fI64) h28 rfl Try.underlying27 el2 rfl rfl rfl (fun w hw => (hw.row_rd (k := 0) rfl)) rfl fun v29 => ?_
            refine SJ.q (YldS.yld (y_assign rfl)) rfl ?_
            refine SJ.nil ?_
            refine PJ.block_normal (PJ.next ?_)
            refine WJ.quiet ?_
            refine QJ.step (YldS.yld (y_bin rfl rfl rfl)) rfl ?_
            refine QJ.step (YldS.yld (y_move rfl)) rfl ?_
            refine QJ.done ?_
            exact PJ.round (l27, v29, w64 (x19 + 1)) [1, 2] hm ⟨rfl, rfl, rfl, rfl, rfl, trivial⟩ ⟨by decide, rfl⟩
          · replace hm := ifF hm hb20
            refine WJ.exit ?_
            refine PJ.then_exit (PJ.then_exit (PJ.block_exit ?_))
            exact PJ.joined (l17, v18) [0] hm ⟨rfl, trivial⟩ ⟨by decide, rfl⟩
      · rintro ⟨l13, v14⟩ hm
        subst hk16
        refine WJ.seq ?_
        refine WJ.quiet ?_
        refine QJ.step (YldS.yld (y_move rfl)) rfl ?_
        refine QJ.step (YldS.yld (y_assign rfl)) rfl ?_
        refine QJ.step (YldS.yld (y_assign rfl)) rfl ?_
        refine QJ.done ?_
        refine PJ.next ?_
        refine WJ.ret ?_
        obtain rfl := Option.some.inj hm
        refine PJ.sel (L' := [row v14 2 fI64 l13]) [0] ⟨by decide, rfl⟩ ?_
        exact PJ.retn (vs := [v14, .int .i64 0]) Try.results24 ⟨rfl, rfl, trivial⟩ ⟨_, rfl, rfl⟩

set_option maxRecDepth 100000 in
set_option maxHeartbeats 1000000 in
theorem ok_i_swapped {list1 : List Int} {i4 : Int} {k5 : Int} {r : (List Int)} (hm : i_swapped list1 i4 k5 = some r) (w : World) (v2 : Value) (hr3 : RdS w (cx w).Fz v2 fI64.rp list1) :
    Calls Try.prog 96 #[v2, .int .i64 i4, .int .i64 k5] w (RetG (cx w) fun u L => ∃ (u1 : Value), (u = u1 ∧ L = [row u1 2 fI64 r])) := by
  unfold i_swapped at hm
  refine Calls.enter [v2, .int .i64 i4, .int .i64 k5] Try.func96 rfl Try.ntmps96 rfl ?_
  refine WJ.seq ?_
  refine WJ.quiet ?_
  refine QJ.step (YldS.yld (y_assign rfl)) rfl ?_
  refine QJ.done ?_
  refine PJ.next ?_
  refine WJ.seq ?_
  refine WJ.reg ?_
  refine SJ.buildSlice (R := fI64) (os := []) [] Try.runUnderlying27 Try.sizeOf2 Try.zeroValue2 rfl rfl rfl rfl rfl rfl fun v6 => ?_
  refine SJ.q (YldS.yld (y_move rfl)) rfl ?_
  obtain ⟨l7, h8, hm⟩ := bindS hm
  refine SJ.append (k := 0) (R := fI64) h8 rfl Try.underlying27 el2 rfl rfl rfl (fun w hw => (hr3.st hw)) rfl fun v9 => ?_
  refine SJ.q (YldS.yld (y_assign rfl)) rfl ?_
  refine SJ.nil ?_
  refine PJ.next ?_
  refine WJ.seq ?_
  obtain ⟨e10, h11, hm⟩ := bindS hm
  obtain ⟨e12, h13, hm⟩ := bindS hm
  obtain ⟨e14, h15, hm⟩ := bindS hm
  obtain ⟨e16, h17, hm⟩ := bindS hm
  refine WJ.draws (N := 16) (listed0 := #[false, false, false, false, false, false, false, false, false, false, false, false, false, false, false, false]) [] follows rfl rfl ?_
  refine RJ.first 0 (listed' := #[true, false, false, false, false, false, false, false, false, false, false, false, false, false, false, false]) [] rfl (by kernel_rfl) rfl ⟨List.nodup_nil, rfl⟩ (y_move rfl) rfl ?_
  refine RJ.first 1 (listed' := #[true, true, false, false, false, false, false, false, false, false, false, false, false, false, false, false]) [] rfl (by kernel_rfl) rfl ⟨List.nodup_nil, rfl⟩ (y_move rfl) rfl ?_
  refine RJ.first 2 (listed' := #[true, true, true, false, false, false, false, false, false, false, false, false, false, false, false, false]) [] rfl (by kernel_rfl) rfl ⟨List.nodup_nil, rfl⟩ (y_move rfl) rfl ?_
  refine RJ.first 3 (listed' := #[true, true, true, true, false, false, false, false, false, false, false, false, false, false, false, false]) [] rfl (by kernel_rfl) rfl ⟨List.nodup_nil, rfl⟩ (y_move rfl) rfl ?_
  refine RJ.first 4 (listed' := #[true, true, true, true, true, false, false, false, false, false, false, false, false, false, false, false]) [] rfl (by kernel_rfl) rfl ⟨List.nodup_nil, rfl⟩ (y_move rfl) rfl ?_
  refine RJ.first 5 (listed' := #[true, true, true, true, true, true, false, false, false, false, false, false, false, false, false, false]) [] rfl (by kernel_rfl) rfl ⟨List.nodup_nil, rfl⟩ (y_move rfl) rfl ?_
  refine RJ.first 8 (listed' := #[true, true, true, true, true, true, false, false, true, false, false, false, false, false, false, false]) [] rfl (by kernel_rfl) rfl ⟨List.nodup_nil, rfl⟩ (y_move rfl) rfl ?_
  refine RJ.first 9 (listed' := #[true, true, true, true, true, true, false, false, true, true, false, false, false, false, false, false]) [] rfl (by kernel_rfl) rfl ⟨List.nodup_nil, rfl⟩ (y_move rfl) rfl ?_
  refine RJ.hold (X := Unit) 4 #[true, true, true, true, true, true, true, true, true, true, true, true, false, false, false, false] (fun (_ : Unit) => [(7, v9), (11, v9), (12, .int .i64 i4), (13, v9), (14, .int .i64 k5), (18, .int .i64 e10), (22, .int .i64 e12)]) (fun (_ : Unit) => [row v9 2 fI64 l7]) ?_ ?_
  · rintro _
    refine RJ.step1 12 [] (by kernel_rfl) ⟨List.nodup_nil, rfl⟩ ?_
    refine RO.of (listed' := #[true, true, true, true, true, true, true, true, true, true, true, true, true, false, false, false]) rfl rfl ?_
    refine SJ.q (YldS.yld (y_ixRow (k := 0) (R := fI64) rfl Try.runUnderlying27 Try.sizeOf2 rfl rfl h15)) rfl ?_
    refine SJ.nil ?_
    refine PJ.draw ?_
    refine RJ.step1 13 [] (by kernel_rfl) ⟨List.nodup_nil, rfl⟩ ?_
    refine RO.of (listed' := #[true, true, true, true, true, true, true, true, true, true, true, true, true, true, false, false]) rfl rfl ?_
    refine SJ.storeRL (k := 0) (i := (Int.toNat i4)) (off := 0) (us := [.int .i64 e10]) (b := e10) rfl rfl (idx_get h15) rfl rfl Try.sizeOf2 rfl rfl rfl ?_
    refine SJ.nil ?_
    refine PJ.draw ?_
    refine RJ.step1 14 [] (by kernel_rfl) ⟨List.nodup_nil, rfl⟩ ?_
    refine RO.of (listed' := #[true, true, true, true, true, true, true, true, true, true, true, true, true, true, true, false]) rfl rfl ?_
    refine SJ.q (YldS.yld (y_ixRow (k := 0) (R := fI64) rfl Try.runUnderlying27 Try.sizeOf2 rfl rfl h17)) rfl ?_
    refine SJ.nil ?_
    refine PJ.draw ?_
    refine RJ.step1 15 [] (by kernel_rfl) ⟨List.nodup_nil, rfl⟩ ?_
    refine RO.of (listed' := #[true, true, true, true, true, true, true, true, true, true, true, true, true, true, true, true]) rfl rfl ?_
    refine SJ.storeRL (k := 0) (i := (Int.toNat k5)) (off := 0) (us := [.int .i64 e12]) (b := e12) rfl rfl (idx_get h17) rfl rfl Try.sizeOf2 rfl rfl rfl ?_
    refine SJ.nil ?_
    refine PJ.draw ?_
    refine RJ.fin [] (by kernel_rfl) ⟨List.nodup_nil, rfl⟩ ?_
    refine PJ.next ?_
    refine WJ.seq ?_
    refine WJ.quiet ?_
    refine QJ.step (YldS.yld (y_move rfl)) rfl ?_
    refine QJ.step (YldS.yld (y_assign rfl)) rfl ?_
    refine QJ.done ?_
    refine PJ.next ?_
    refine WJ.ret ?_
    obtain rfl := Option.some.inj hm
    refine PJ.sel (L' := [row v9 2 fI64 (List.set (List.set l7 (Int.toNat i4) e10) (Int.toNat k5) e12)]) [0] ⟨by decide, rfl⟩ ?_
    exact PJ.retn (vs := [v9]) Try.results96 ⟨rfl, trivial⟩ ⟨_, rfl, rfl⟩
  · intro hD18
    refine RJ.step2 6 10 [] (by kernel_rfl) ⟨List.nodup_nil, rfl⟩ ?_ ?_
    · refine RO.of (listed' := #[true, true, true, true, true, true, true, false, true, true, false, false, false, false, false, false]) rfl rfl ?_
      refine SJ.q (YldS.yld (y_ixRow (k := 0) (R := fI64) rfl Try.runUnderlying27 Try.sizeOf2 rfl rfl h11)) rfl ?_
      refine SJ.nil ?_
      refine PJ.draw ?_
      refine RJ.step2 7 10 [] (by kernel_rfl) ⟨List.nodup_nil, rfl⟩ ?_ ?_
      · refine RO.of (listed' := #[true, true, true, true, true, true, true, true, true, true, false, false, false, false, false, false]) rfl rfl ?_
        refine SJ.q (YldS.yld (y_loadR (k := 0) (i := (Int.toNat k5)) (off := 0) (u := .int .i64 e10) rfl Try.isAgg2 rfl (idx_get h11) rfl)) rfl ?_
        refine SJ.nil ?_
        refine PJ.draw ?_
        refine RJ.step1 10 [] (by kernel_rfl) ⟨List.nodup_nil, rfl⟩ ?_
        refine RO.of (listed' := #[true, true, true, true, true, true, true, true, true, true, true, false, false, false, false, false]) rfl rfl ?_
        refine SJ.q (YldS.yld (y_ixRow (k := 0) (R := fI64) rfl Try.runUnderlying27 Try.sizeOf2 rfl rfl h13)) rfl ?_
        refine SJ.nil ?_
        refine PJ.draw ?_
        refine RJ.step1 11 [] (by kernel_rfl) ⟨List.nodup_nil, rfl⟩ ?_
        refine RO.of (listed' := #[true, true, true, true, true, true, true, true, true, true, true, true, false, false, false, false]) rfl rfl ?_
        refine SJ.q (YldS.yld (y_loadR (k := 0) (i := (Int.toNat i4)) (off := 0) (u := .int .i64 e12) rfl Try.isAgg2 rfl (idx_get h13) rfl)) rfl ?_
        refine SJ.nil ?_
        refine PJ.draw ?_
        exact RJ.weak (hD18 ()) [0] ⟨rfl, rfl, rfl, rfl, rfl, rfl, rfl, trivial⟩ ⟨by decide, rfl⟩
      · refine RO.of (listed' := #[true, true, true, true, true, true, true, false, true, true, true, false, false, false, false, false]) rfl rfl ?_
        refine SJ.q (YldS.yld (y_ixRow (k := 0) (R := fI64) rfl Try.runUnderlying27 Try.sizeOf2 rfl rfl h13)) rfl ?_
        refine SJ.nil ?_
        refine PJ.draw ?_
        refine RJ.step2 7 11 [] (by kernel_rfl) ⟨List.nodup_nil, rfl⟩ ?_ ?_
        · refine RO.of (listed' := #[true, true, true, true, true, true, true, true, true, true, true, false, false, false, false, false]) rfl rfl ?_
          refine SJ.q (YldS.yld (y_loadR (k := 0) (i := (Int.toNat k5)) (off := 0) (u := .int .i64 e10) rfl Try.isAgg2 rfl (idx_get h11) rfl)) rfl ?_
          refine SJ.nil ?_
          refine PJ.draw ?_
          refine RJ.step1 11 [] (by kernel_rfl) ⟨List.nodup_nil, rfl⟩ ?_
          refine RO.of (listed' := #[true, true, true, true, true, true, true, true, true, true, true, true, false, false, false, false]) rfl rfl ?_
          refine SJ.q (YldS.yld (y_loadR (k := 0) (i := (Int.toNat i4)) (off := 0) (u := .int .i64 e12) rfl Try.isAgg2 rfl (idx_get h13) rfl)) rfl ?_
          refine SJ.nil ?_
          refine PJ.draw ?_
          exact RJ.weak (hD18 ()) [0] ⟨rfl, rfl, rfl, rfl, rfl, rfl, rfl, trivial⟩ ⟨by decide, rfl⟩
        · refine RO.of (listed' := #[true, true, true, true, true, true, true, false, true, true, true, true, false, false, false, false]) rfl rfl ?_
          refine SJ.q (YldS.yld (y_loadR (k := 0) (i := (Int.toNat i4)) (off := 0) (u := .int .i64 e12) rfl Try.isAgg2 rfl (idx_get h13) rfl)) rfl ?_
          refine SJ.nil ?_
          refine PJ.draw ?_
          refine RJ.step1 7 [] (by kernel_rfl) ⟨List.nodup_nil, rfl⟩ ?_
          refine RO.of (listed' := #[true, true, true, true, true, true, true, true, true, true, true, true, false, false, false, false]) rfl rfl ?_
          refine SJ.q (YldS.yld (y_loadR (k := 0) (i := (Int.toNat k5)) (off := 0) (u := .int .i64 e10) rfl Try.isAgg2 rfl (idx_get h11) rfl)) rfl ?_
          refine SJ.nil ?_
          refine PJ.draw ?_
          exact RJ.weak (hD18 ()) [0] ⟨rfl, rfl, rfl, rfl, rfl, rfl, rfl, trivial⟩ ⟨by decide, rfl⟩
    · refine RO.of (listed' := #[true, true, true, true, true, true, false, false, true, true, true, false, false, false, false, false]) rfl rfl ?_
      refine SJ.q (YldS.yld (y_ixRow (k := 0) (R := fI64) rfl Try.runUnderlying27 Try.sizeOf2 rfl rfl h13)) rfl ?_
      refine SJ.nil ?_
      refine PJ.draw ?_
      refine RJ.step2 6 11 [] (by kernel_rfl) ⟨List.nodup_nil, rfl⟩ ?_ ?_
      · refine RO.of (listed' := #[true, true, true, true, true, true, true, false, true, true, true, false, false, false, false, false]) rfl rfl ?_
        refine SJ.q (YldS.yld (y_ixRow (k := 0) (R := fI64) rfl Try.runUnderlying27 Try.sizeOf2 rfl rfl h11)) rfl ?_
        refine SJ.nil ?_
        refine PJ.draw ?_
        refine RJ.step2 7 11 [] (by kernel_rfl) ⟨List.nodup_nil, rfl⟩ ?_ ?_
        · refine RO.of (listed' := #[true, true, true, true, true, true, true, true, true, true, true, false, false, false, false, false]) rfl rfl ?_
          refine SJ.q (YldS.yld (y_loadR (k := 0) (i := (Int.toNat k5)) (off := 0) (u := .int .i64 e10) rfl Try.isAgg2 rfl (idx_get h11) rfl)) rfl ?_
          refine SJ.nil ?_
          refine PJ.draw ?_
          refine RJ.step1 11 [] (by kernel_rfl) ⟨List.nodup_nil, rfl⟩ ?_
          refine RO.of (listed' := #[true, true, true, true, true, true, true, true, true, true, true, true, false, false, false, false]) rfl rfl ?_
          refine SJ.q (YldS.yld (y_loadR (k := 0) (i := (Int.toNat i4)) (off := 0) (u := .int .i64 e12) rfl Try.isAgg2 rfl (idx_get h13) rfl)) rfl ?_
          refine SJ.nil ?_
          refine PJ.draw ?_
          exact RJ.weak (hD18 ()) [0] ⟨rfl, rfl, rfl, rfl, rfl, rfl, rfl, trivial⟩ ⟨by decide, rfl⟩
        · refine RO.of (listed' := #[true, true, true, true, true, true, true, false, true, true, true, true, false, false, false, false]) rfl rfl ?_
          refine SJ.q (YldS.yld (y_loadR (k := 0) (i := (Int.toNat i4)) (off := 0) (u := .int .i64 e12) rfl Try.isAgg2 rfl (idx_get h13) rfl)) rfl ?_
          refine SJ.nil ?_
          refine PJ.draw ?_
          refine RJ.step1 7 [] (by kernel_rfl) ⟨List.nodup_nil, rfl⟩ ?_
          refine RO.of (listed' := #[true, true, true, true, true, true, true, true, true, true, true, true, false, false, false, false]) rfl rfl ?_
          refine SJ.q (YldS.yld (y_loadR (k := 0) (i := (Int.toNat k5)) (off := 0) (u := .int .i64 e10) rfl Try.isAgg2 rfl (idx_get h11) rfl)) rfl ?_
          refine SJ.nil ?_
          refine PJ.draw ?_
          exact RJ.weak (hD18 ()) [0] ⟨rfl, rfl, rfl, rfl, rfl, rfl, rfl, trivial⟩ ⟨by decide, rfl⟩
      · refine RO.of (listed' := #[true, true, true, true, true, true, false, false, true, true, true, true, false, false, false, false]) rfl rfl ?_
        refine SJ.q (YldS.yld (y_loadR (k := 0) (i := (Int.toNat i4)) (off := 0) (u := .int .i64 e12) rfl Try.isAgg2 rfl (idx_get h13) rfl)) rfl ?_
        refine SJ.nil ?_
        refine PJ.draw ?_
        refine RJ.step1 6 [] (by kernel_rfl) ⟨List.nodup_nil, rfl⟩ ?_
        refine RO.of (listed' := #[true, true, true, true, true, true, true, false, true, true, true, true, false, false, false, false]) rfl rfl ?_
        refine SJ.q (YldS.yld (y_ixRow (k := 0) (R := fI64) rfl Try.runUnderlying27 Try.sizeOf2 rfl rfl h11)) rfl ?_
        refine SJ.nil ?_
        refine PJ.draw ?_
        refine RJ.step1 7 [] (by kernel_rfl) ⟨List.nodup_nil, rfl⟩ ?_
        refine RO.of (listed' := #[true, true, true, true, true, true, true, true, true, true, true, true, false, false, false, false]) rfl rfl ?_
        refine SJ.q (YldS.yld (y_loadR (k := 0) (i := (Int.toNat k5)) (off := 0) (u := .int .i64 e10) rfl Try.isAgg2 rfl (idx_get h11) rfl)) rfl ?_
        refine SJ.nil ?_
        refine PJ.draw ?_
        exact RJ.weak (hD18 ()) [0] ⟨rfl, rfl, rfl, rfl, rfl, rfl, rfl, trivial⟩ ⟨by decide, rfl⟩

set_option maxRecDepth 100000 in
set_option maxHeartbeats 1000000 in
theorem ok_i_Basket_bestSwap {N : Nat} {b1 : Basket} {pairs2 : List (List Int)} {places5 : List Int} {r : Int × Int × Bool} (hm : i_Basket_bestSwap N b1 pairs2 places5 = some r) (w : World) (v3 : Value) (hr4 : RdS w (cx w).Fz v3 (rSl fI64.rp) pairs2) (v6 : Value) (hr7 : RdS w (cx w).Fz v6 fI64.rp places5) :
    Calls Try.prog 95 #[.agg (Basket.enc b1).toArray, v3, v6] w (Ret (cx w) (tup [.int .i64 r.1, .int .i64 r.2.1, .bool r.2.2])) := by
  unfold i_Basket_bestSwap at hm
  refine Calls.enter [.agg (Basket.enc b1).toArray, v3, v6] Try.func95 rfl Try.ntmps95 rfl ?_
  refine WJ.seq ?_
  refine WJ.reg ?_
  refine SJ.box (cs := [.int .i64 b1.bars, .int .i64 b1.rise, .int .i64 b1.fall, .int .i64 b1.clear, .int .i64 b1.near]) rfl rfl rfl fun g8 => ?_
  refine SJ.q (YldS.yld (y_assign rfl)) rfl ?_
  refine SJ.q (YldS.yld (y_assign rfl)) rfl ?_
  refine SJ.q (YldS.yld (y_assign rfl)) rfl ?_
  refine SJ.nil ?_
  refine PJ.next ?_
  refine WJ.seq ?_
  refine WJ.quiet ?_
  refine QJ.step (YldS.yld (y_loadBN (k := 0) (off := 0) (us := [.int .i64 b1.bars, .int .i64 b1.rise, .int .i64 b1.fall, .int .i64 b1.clear, .int .i64 b1.near]) rfl Try.isAgg25 Try.sizeOf25 rfl rfl)) rfl ?_
  refine QJ.step (YldS.yld (y_move rfl)) rfl ?_
  refine QJ.step (YldS.yld (y_move rfl)) rfl ?_
  obtain ⟨r9, h10, hm⟩ := bindS hm
  refine QJ.step (y_call Try.call92 rfl (RetG.quiet fun w hw => ok_i_Basket_cost h10 w _ (hr4.st hw) _ (hr7.st hw))) rfl ?_
  refine QJ.step (YldS.yld (y_assign rfl)) rfl ?_
  refine QJ.done ?_
  refine PJ.next ?_
  refine WJ.seq ?_
  refine WJ.quiet ?_
  refine QJ.step (YldS.yld (y_assign rfl)) rfl ?_
  refine QJ.step (YldS.yld (y_assign rfl)) rfl ?_
  refine QJ.step (YldS.yld (y_assign rfl)) rfl ?_
  refine QJ.done ?_
  refine PJ.next ?_
  obtain ⟨kj14, hk15, hm⟩ := withK_open hm
  refine WJ.join (X := Int × Int × Bool) (fun (x : Int × Int × Bool) => kj14 x.1 x.2.1 x.2.2 = some r) (fun (x : Int × Int × Bool) => [(10, .int .i64 x.1), (11, .int .i64 x.2.1), (12, .bool x.2.2)]) (fun (x : Int × Int × Bool) => []) ?_ ?_
  · clear hk15
    refine WJ.seq ?_
    refine WJ.quiet ?_
    refine QJ.step (YldS.yld (y_move rfl)) rfl ?_
    refine QJ.step (YldS.yld (y_lenS Try.runUnderlying27 hr7 rfl)) rfl ?_
    refine QJ.step (YldS.yld (y_move rfl)) rfl ?_
    refine QJ.done ?_
    refine PJ.next ?_
    refine WJ.block ?_
    refine WJ.sel (L' := (fun (x : Int × Int × Int × Bool × Int) => [box g8 25 [.int .i64 b1.bars, .int .i64 b1.rise, .int .i64 b1.fall, .int .i64 b1.clear, .int .i64 b1.near]]) (r9, 0, 0, false, 0)) [0] ⟨by decide, rfl⟩ ?_
    refine WJ.sub (m' := (fun (x : Int × Int × Int × Bool × Int) => [(1, v3), (2, v6), (3, pt g8 0), (9, .int .i64 x.1), (10, .int .i64 x.2.1), (11, .int .i64 x.2.2.1), (12, .bool x.2.2.2.1), (21, .int .i64 (List.length places5 : Int)), (22, .int .i64 x.2.2.2.2)]) (r9, 0, 0, false, 0)) ⟨rfl, rfl, rfl, rfl, rfl, rfl, rfl, rfl, rfl, trivial⟩ ?_
    refine WJ.loop (X := Int × Int × Int × Bool × Int) (fun N (x : Int × Int × Int × Bool × Int) => i_Basket_bestSwap_l1 kj14 b1 pairs2 places5 N x.1 x.2.1 x.2.2.1 x.2.2.2.1 x.2.2.2.2 = some r) (fun (x : Int × Int × Int × Bool × Int) => [(1, v3), (2, v6), (3, pt g8 0), (9, .int .i64 x.1), (10, .int .i64 x.2.1), (11, .int .i64 x.2.2.1), (12, .bool x.2.2.2.1), (21, .int .i64 (List.length places5 : Int)), (22, .int .i64 x.2.2.2.2)]) (fun (x : Int × Int × Int × Bool × Int) => [box g8 25 [.int .i64 b1.bars, .int .i64 b1.rise, .int .i64 b1.fall, .int .i64 b1.clear, .int .i64 b1.near]]) ?_ N (r9, 0, 0, false, 0) hm
    · rintro N ⟨least16, first17, second18, found19, x20⟩ hI
      have hm := hI; clear hI
      cases N with
      | zero => cases hm
      | succ N =>
      unfold i_Basket_bestSwap_l1 at hm
      refine WJ.seq ?_
      refine WJ.quiet ?_
      refine QJ.step (YldS.yld (y_bin rfl rfl rfl)) rfl ?_
      refine QJ.done ?_
      refine PJ.next ?_
      refine WJ.seq ?_
      refine WJ.cond (t := decide (x20 < (List.length places5 : Int))) rfl (fun hb21 => ?_) (fun hb21 => ?_)
      · replace hm := ifT hm hb21
        refine WJ.skip ?_
        refine PJ.next ?_
        obtain ⟨kj26, hk27, hm⟩ := withK_open hm
        refine WJ.join (X := Int × Int × Int × Bool) (fun (x : Int × Int × Int × Bool) => kj26 x.1 x.2.1 x.2.2.1 x.2.2.2 = some r) (fun (x : Int × Int × Int × Bool) => [(1, v3), (2, v6), (3, pt g8 0), (9, .int .i64 x.1), (10, .int .i64 x.2.1), (11, .int .i64 x.2.2.1), (12, .bool x.2.2.2), (21, .int .i64 (List.length places5 : Int)), (22, .int .i64 x20)]) (fun (x : Int × Int × Int × Bool) => [box g8 25 [.int .i64 b1.bars, .int .i64 b1.rise, .int .i64 b1.fall, .int .i64 b1.clear, .int .i64 b1.near]]) ?_ ?_
        · clear hk27
          refine WJ.block ?_
          refine WJ.seq ?_
          refine WJ.quiet ?_
          refine QJ.step (YldS.yld (y_move rfl)) rfl ?_
          refine QJ.step (YldS.yld (y_assign rfl)) rfl ?_
          refine QJ.done ?_
          refine PJ.next ?_
          refine WJ.seq ?_
          refine WJ.quiet ?_
          refine QJ.step (YldS.yld (y_move rfl)) rfl ?_
          refine QJ.step (YldS.yld (y_bin rfl rfl rfl)) rfl ?_
          refine QJ.step (YldS.yld (y_assign rfl)) rfl ?_
          refine QJ.done ?_
          refine PJ.next ?_
          refine WJ.block ?_
          refine WJ.sel (L' := (fun (x : Int × Int × Int × Bool × Int) => [box g8 25 [.int .i64 b1.bars, .int .i64 b1.rise, .int .i64 b1.fall, .int .i64 b1.clear, .int .i64 b1.near]]) (least16, first17, second18, found19, w64 (x20 + 1))) [0] ⟨by decide, rfl⟩ ?_
          refine WJ.sub (m' := (fun (x : Int × Int × Int × Bool × Int) => [(1, v3), (2, v6), (3, pt g8 0), (9, .int .i64 x.1), (10, .int .i64 x.2.1), (11, .int .i64 x.2.2.1), (12, .bool x.2.2.2.1), (13, .int .i64 x20), (14, .int .i64 x.2.2.2.2), (21, .int .i64 (List.length places5 : Int)), (22, .int .i64 x20)]) (least16, first17, second18, found19, w64 (x20 + 1))) ⟨rfl, rfl, rfl, rfl, rfl, rfl, rfl, rfl, rfl, rfl, rfl, trivial⟩ ?_
          refine WJ.loop (X := Int × Int × Int × Bool × Int) (fun N (x : Int × Int × Int × Bool × Int) => i_Basket_bestSwap_l2 kj26 b1 pairs2 places5 x20 N x.1 x.2.1 x.2.2.1 x.2.2.2.1 x.2.2.2.2 = some r) (fun (x : Int × Int × Int × Bool × Int) => [(1, v3), (2, v6), (3, pt g8 0), (9, .int .i64 x.1), (10, .int .i64 x.2.1), (11, .int .i64 x.2.2.1), (12, .bool x.2.2.2.1), (13, .int .i64 x20), (14, .int .i64 x.2.2.2.2), (21, .int .i64 (List.length places5 : Int)), (22, .int .i64 x20)]) (fun (x : Int × Int × Int × Bool × Int) => [box g8 25 [.int .i64 b1.bars, .int .i64 b1.rise, .int .i64 b1.fall, .int .i64 b1.clear, .int .i64 b1.near]]) ?_ N (least16, first17, second18, found19, w64 (x20 + 1)) hm
          · rintro N ⟨least28, first29, second30, found31, k32⟩ hI
            have hm := hI; clear hI
            cases N with
            | zero => cases hm
            | succ N =>
            unfold i_Basket_bestSwap_l2 at hm
            refine WJ.seq ?_
            refine WJ.seq ?_
            refine WJ.quiet ?_
            refine QJ.step (YldS.yld (y_move rfl)) rfl ?_
            refine QJ.step (YldS.yld (y_move rfl)) rfl ?_
            refine QJ.step (YldS.yld (y_lenS Try.runUnderlying27 hr7 rfl)) rfl ?_
            refine QJ.step (YldS.yld (y_bin rfl rfl rfl)) rfl ?_
            refine QJ.done ?_
            refine PJ.next ?_
            refine WJ.cond (t := decide (k32 < (List.length places5 : Int))) rfl (fun hb33 => ?_) (fun hb33 => ?_)
            · replace hm := ifT hm hb33
              refine WJ.skip ?_
              refine PJ.next ?_
              obtain ⟨kj38, hk39, hm⟩ := withK_open hm
              refine WJ.join (X := Int × Int × Int × Bool) (fun (x : Int × Int × Int × Bool) => kj38 x.1 x.2.1 x.2.2.1 x.2.2.2 = some r) (fun (x : Int × Int × Int × Bool) => [(1, v3), (2, v6), (3, pt g8 0), (9, .int .i64 x.1), (10, .int .i64 x.2.1), (11, .int .i64 x.2.2.1), (12, .bool x.2.2.2), (13, .int .i64 x20), (14, .int .i64 k32), (21, .int .i64 (List.length places5 : Int)), (22, .int .i64 x20)]) (fun (x : Int × Int × Int × Bool) => [box g8 25 [.int .i64 b1.bars, .int .i64 b1.rise, .int .i64 b1.fall, .int .i64 b1.clear, .int .i64 b1.near]]) ?_ ?_
              · clear hk39
                refine WJ.block ?_
                refine WJ.seq ?_
                obtain ⟨r40, h41, hm⟩ := bindS hm
                obtain ⟨r43, h44, hm⟩ := bindS hm
                refine WJ.draws (N := 8) (listed0 := #[false, false, false, false, false, false, false, false]) [box g8 25 [.int .i64 b1.bars, .int .i64 b1.rise, .int .i64 b1.fall, .int .i64 b1.clear, .int .i64 b1.near]] follows rfl rfl ?_
                refine RJ.first 0 (listed' := #[true, false, false, false, false, false, false, false]) [0] rfl (by kernel_rfl) rfl ⟨by decide, rfl⟩ (y_loadBN (k := 0) (off := 0) (us := [.int .i64 b1.bars, .int .i64 b1.rise, .int .i64 b1.fall, .int .i64 b1.clear, .int .i64 b1.near]) rfl Try.isAgg25 Try.sizeOf25 rfl rfl) rfl ?_
                refine RJ.first 1 (listed' := #[true, true, false, false, false, false, false, false]) [0] rfl (by kernel_rfl) rfl ⟨by decide, rfl⟩ (y_move rfl) rfl ?_
                refine RJ.first 2 (listed' := #[true, true, true, false, false, false, false, false]) [0] rfl (by kernel_rfl) rfl ⟨by decide, rfl⟩ (y_move rfl) rfl ?_
                refine RJ.first 3 (listed' := #[true, true, true, true, false, false, false, false]) [0] rfl (by kernel_rfl) rfl ⟨by decide, rfl⟩ (y_move rfl) rfl ?_
                refine RJ.first 4 (listed' := #[true, true, true, true, true, false, false, false]) [0] rfl (by kernel_rfl) rfl ⟨by decide, rfl⟩ (y_move rfl) rfl ?_
                refine RJ.step1 5 [0] (by kernel_rfl) ⟨by decide, rfl⟩ ?_
                refine RO.of (listed' := #[true, true, true, true, true, true, false, false]) rfl rfl ?_
                refine SJ.call Try.call96 rfl (fun w hw => ok_i_swapped h41 w _ (hr7.st hw)) rfl ?_
                rintro v42 _ ⟨_, rfl, rfl⟩
                refine SJ.nil ?_
                refine PJ.draw ?_
                refine RJ.step1 6 [1] (by kernel_rfl) ⟨by decide, rfl⟩ ?_
                refine RO.of (listed' := #[true, true, true, true, true, true, true, false]) rfl rfl ?_
                refine SJ.q (y_call Try.call92 rfl (RetG.quiet fun w hw => ok_i_Basket_cost h44 w _ (hr4.st hw) _ (hw.row_rd (k := 0) rfl))) rfl ?_
                refine SJ.nil ?_
                refine PJ.draw ?_
                refine RJ.first 7 (listed' := #[true, true, true, true, true, true, true, true]) [1] rfl (by kernel_rfl) rfl ⟨by decide, rfl⟩ (y_assign rfl) rfl ?_
                refine RJ.fin [1] (by kernel_rfl) ⟨by decide, rfl⟩ ?_
                refine PJ.next ?_
                refine WJ.seq ?_
                refine WJ.quiet ?_
                refine QJ.step (YldS.yld (y_move rfl)) rfl ?_
                refine QJ.step (YldS.yld (y_move rfl)) rfl ?_
                refine QJ.step (YldS.yld (y_bin rfl rfl rfl)) rfl ?_
                refine QJ.done ?_
                refine PJ.next ?_
                refine WJ.cond (t := decide (r43 < least28)) rfl (fun hb45 => ?_) (fun hb45 => ?_)
                · replace hm := ifT hm hb45
                  refine WJ.quiet ?_
                  refine QJ.step (YldS.yld (y_move rfl)) rfl ?_
                  refine QJ.step (YldS.yld (y_move rfl)) rfl ?_
                  refine QJ.step (YldS.yld (y_move rfl)) rfl ?_
                  refine QJ.step (YldS.yld (y_assign rfl)) rfl ?_
                  refine QJ.step (YldS.yld (y_assign rfl)) rfl ?_
                  refine QJ.step (YldS.yld (y_assign rfl)) rfl ?_
                  refine QJ.step (YldS.yld (y_assign rfl)) rfl ?_
                  refine QJ.done ?_
                  refine PJ.block_normal ?_
                  exact PJ.joined (r43, x20, k32, true) [1] hm ⟨rfl, rfl, rfl, rfl, rfl, rfl, rfl, rfl, rfl, rfl, rfl, trivial⟩ ⟨by decide, rfl⟩
                · replace hm := ifF hm hb45
                  refine WJ.skip ?_
                  refine PJ.block_normal ?_
                  exact PJ.joined (least28, first29, second30, found31) [1] hm ⟨rfl, rfl, rfl, rfl, rfl, rfl, rfl, rfl, rfl, rfl, rfl, trivial⟩ ⟨by decide, rfl⟩
              · rintro ⟨least34, first35, second36, found37⟩ hm
                subst hk39
                refine WJ.quiet ?_
                refine QJ.step (YldS.yld (y_move rfl)) rfl ?_
                refine QJ.step (YldS.yld (y_bin rfl rfl rfl)) rfl ?_
                refine QJ.step (YldS.yld (y_assign rfl)) rfl ?_
                refine QJ.done ?_
                exact PJ.round (least34, first35, second36, found37, w64 (k32 + 1)) [0] hm ⟨rfl, rfl, rfl, rfl, rfl, rfl, rfl, rfl, rfl, rfl, rfl, trivial⟩ ⟨by decide, rfl⟩
            · replace hm := ifF hm hb33
              refine WJ.exit ?_
              refine PJ.then_exit (PJ.then_exit (PJ.block_exit (PJ.block_normal ?_)))
              exact PJ.joined (least28, first29, second30, found31) [0] hm ⟨rfl, rfl, rfl, rfl, rfl, rfl, rfl, rfl, rfl, trivial⟩ ⟨by decide, rfl⟩
        · rintro ⟨least22, first23, second24, found25⟩ hm
          subst hk27
          refine WJ.quiet ?_
          refine QJ.step (YldS.yld (y_bin rfl rfl rfl)) rfl ?_
          refine QJ.step (YldS.yld (y_move rfl)) rfl ?_
          refine QJ.done ?_
          exact PJ.round (least22, first23, second24, found25, w64 (x20 + 1)) [0] hm ⟨rfl, rfl, rfl, rfl, rfl, rfl, rfl, rfl, rfl, trivial⟩ ⟨by decide, rfl⟩
      · replace hm := ifF hm hb21
        refine WJ.exit ?_
        refine PJ.then_exit (PJ.then_exit (PJ.block_exit ?_))
        exact PJ.joined (first17, second18, found19) [] hm ⟨rfl, rfl, rfl, trivial⟩ ⟨List.nodup_nil, rfl⟩
  · rintro ⟨first11, second12, found13⟩ hm
    subst hk15
    refine WJ.seq ?_
    refine WJ.quiet ?_
    refine QJ.step (YldS.yld (y_move rfl)) rfl ?_
    refine QJ.step (YldS.yld (y_move rfl)) rfl ?_
    refine QJ.step (YldS.yld (y_move rfl)) rfl ?_
    refine QJ.step (YldS.yld (y_assign rfl)) rfl ?_
    refine QJ.step (YldS.yld (y_assign rfl)) rfl ?_
    refine QJ.step (YldS.yld (y_assign rfl)) rfl ?_
    refine QJ.done ?_
    refine PJ.next ?_
    refine WJ.ret ?_
    obtain rfl := Option.some.inj hm
    refine PJ.sel (L' := []) [] ⟨List.nodup_nil, rfl⟩ ?_
    exact PJ.retn (vs := [.int .i64 first11, .int .i64 second12, .bool found13]) Try.results95 ⟨rfl, rfl, rfl, trivial⟩ ⟨rfl, rfl⟩

set_option maxRecDepth 100000 in
set_option maxHeartbeats 1000000 in
theorem ok_i_ImproveArrange {N : Nat} {b1 : Basket} {pairs2 : List (List Int)} {places5 : List Int} {r : (List Int) × Int} (hm : i_ImproveArrange N b1 pairs2 places5 = some r) (w : World) (v3 : Value) (hr4 : RdS w (cx w).Fz v3 (rSl fI64.rp) pairs2) (v6 : Value) (hr7 : RdS w (cx w).Fz v6 fI64.rp places5) :
    Calls Try.prog 25 #[.agg (Basket.enc b1).toArray, v3, v6] w (RetG (cx w) fun u L => ∃ (u1 : Value), (u = tup [u1, .int .i64 r.2] ∧ L = [row u1 2 fI64 r.1])) := by
  unfold i_ImproveArrange at hm
  refine Calls.enter [.agg (Basket.enc b1).toArray, v3, v6] Try.func25 rfl Try.ntmps25 rfl ?_
  refine WJ.seq ?_
  refine WJ.reg ?_
  refine SJ.box (cs := [.int .i64 b1.bars, .int .i64 b1.rise, .int .i64 b1.fall, .int .i64 b1.clear, .int .i64 b1.near]) rfl rfl rfl fun g8 => ?_
  refine SJ.q (YldS.yld (y_assign rfl)) rfl ?_
  refine SJ.q (YldS.yld (y_assign rfl)) rfl ?_
  refine SJ.nil ?_
  refine PJ.next ?_
  refine WJ.seq ?_
  refine WJ.seq ?_
  refine WJ.quiet ?_
  refine QJ.step (YldS.yld (y_loadBN (k := 0) (off := 0) (us := [.int .i64 b1.bars, .int .i64 b1.rise, .int .i64 b1.fall, .int .i64 b1.clear, .int .i64 b1.near]) rfl Try.isAgg25 Try.sizeOf25 rfl rfl)) rfl ?_
  refine QJ.step (YldS.yld (y_move rfl)) rfl ?_
  refine QJ.step (YldS.yld (y_move rfl)) rfl ?_
  obtain ⟨r9, h10, hm⟩ := bindS hm
  refine QJ.step (y_call Try.call91 rfl (RetG.quiet fun w hw => ok_i_arrangeCode h10 w _ (hr4.st hw) _ (hr7.st hw))) rfl ?_
  refine QJ.step (YldS.yld (y_assign rfl)) rfl ?_
  refine QJ.done ?_
  refine PJ.next ?_
  refine WJ.seq ?_
  refine WJ.quiet ?_
  refine QJ.step (YldS.yld (y_move rfl)) rfl ?_
  refine QJ.step (YldS.yld (y_bin rfl rfl rfl)) rfl ?_
  refine QJ.done ?_
  refine PJ.next ?_
  refine WJ.cond (t := (r9 != 0)) rfl (fun hb11 => ?_) (fun hb11 => ?_)
  · replace hm := ifT hm hb11
    refine WJ.seq ?_
    refine WJ.quiet ?_
    refine QJ.step (YldS.yld (y_move rfl)) rfl ?_
    refine QJ.step (YldS.yld (y_assign rfl)) rfl ?_
    refine QJ.step (YldS.yld (y_assign rfl)) rfl ?_
    refine QJ.done ?_
    refine PJ.next ?_
    refine WJ.ret ?_
    refine PJ.then_ret ?_
    refine PJ.nil_row 2 fI64 ?_
    obtain rfl := Option.some.inj hm
    refine PJ.sel (L' := [row (.slice none 0 0) 2 fI64 []]) [0] ⟨by decide, rfl⟩ ?_
    exact PJ.retn (vs := [(.slice none 0 0), .int .i64 r9]) Try.results25 ⟨rfl, rfl, trivial⟩ ⟨_, rfl, rfl⟩
  · replace hm := ifF hm hb11
    refine WJ.skip ?_
    refine PJ.next ?_
    refine WJ.seq ?_
    refine WJ.reg ?_
    refine SJ.buildSlice (R := fI64) (os := []) [] Try.runUnderlying27 Try.sizeOf2 Try.zeroValue2 rfl rfl rfl rfl rfl rfl fun v12 => ?_
    refine SJ.q (YldS.yld (y_move rfl)) rfl ?_
    obtain ⟨l13, h14, hm⟩ := bindS hm
    refine SJ.append (k := 0) (R := fI64) h14 rfl Try.underlying27 el2 rfl rfl rfl (fun w hw => (hr7.st hw)) rfl fun v15 => ?_
    refine SJ.q (YldS.yld (y_assign rfl)) rfl ?_
    refine SJ.nil ?_
    refine PJ.next ?_
    refine WJ.block ?_
    refine WJ.sel (L' := (fun (x : (List Int)) => [row v15 2 fI64 x, box g8 25 [.int .i64 b1.bars, .int .i64 b1.rise, .int .i64 b1.fall, .int .i64 b1.clear, .int .i64 b1.near]]) l13) [0, 1] ⟨by decide, rfl⟩ ?_
    refine WJ.sub (m' := (fun (x : (List Int)) => [(1, v3), (3, pt g8 0), (9, v15)]) l13) ⟨rfl, rfl, rfl, trivial⟩ ?_
    refine WJ.loop (X := (List Int)) (fun N (x : (List Int)) => i_ImproveArrange_l1 b1 pairs2 N x = some r) (fun (x : (List Int)) => [(1, v3), (3, pt g8 0), (9, v15)]) (fun (x : (List Int)) => [row v15 2 fI64 x, box g8 25 [.int .i64 b1.bars, .int .i64 b1.rise, .int .i64 b1.fall, .int .i64 b1.clear, .int .i64 b1.near]]) ?_ N l13 hm
    · rintro N l16 hI
      have hm := hI; clear hI
      cases N with
      | zero => cases hm
      | succ N =>
      unfold i_ImproveArrange_l1 at hm
      refine WJ.block ?_
      refine WJ.seq ?_
      refine WJ.quiet ?_
      refine QJ.step (YldS.yld (y_loadBN (k := 1) (off := 0) (us := [.int .i64 b1.bars, .int .i64 b1.rise, .int .i64 b1.fall, .int .i64 b1.clear, .int .i64 b1.near]) rfl Try.isAgg25 Try.sizeOf25 rfl rfl)) rfl ?_
      refine QJ.step (YldS.yld (y_move rfl)) rfl ?_
      refine QJ.step (YldS.yld (y_move rfl)) rfl ?_
      obtain ⟨r17, h18, hm⟩ := bindS hm
      refine QJ.step (y_call Try.call95 rfl (RetG.quiet fun w hw => ok_i_Basket_bestSwap h18 w _ (hr4.st hw) _ (hw.row_rd (k := 0) rfl))) rfl ?_
      refine QJ.step (YldS.yld (y_move rfl)) rfl ?_
      refine QJ.step (YldS.yld (y_extract rfl rfl)) rfl ?_
      refine QJ.step (YldS.yld (y_extract rfl rfl)) rfl ?_
      refine QJ.step (YldS.yld (y_extract rfl rfl)) rfl ?_
      refine QJ.step (YldS.yld (y_assign rfl)) rfl ?_
      refine QJ.step (YldS.yld (y_assign rfl)) rfl ?_
      refine QJ.step (YldS.yld (y_assign rfl)) rfl ?_
      refine QJ.done ?_
      refine PJ.next ?_
      refine WJ.seq ?_
      refine WJ.seq ?_
      refine WJ.quiet ?_
      refine QJ.step (YldS.yld (y_move rfl)) rfl ?_
      refine QJ.step (YldS.yld (y_not rfl)) rfl ?_
      refine QJ.done ?_
      refine PJ.next ?_
      refine WJ.cond (t := !r17.2.2) rfl (fun hb19 => ?_) (fun hb19 => ?_)
      · replace hm := ifT hm hb19
        refine WJ.seq ?_
        refine WJ.quiet ?_
        refine QJ.step (YldS.yld (y_move rfl)) rfl ?_
        refine QJ.step (YldS.yld (y_assign rfl)) rfl ?_
        refine QJ.step (YldS.yld (y_assign rfl)) rfl ?_
        refine QJ.done ?_
        refine PJ.next ?_
        refine WJ.ret ?_
        refine PJ.then_ret (PJ.block_ret (PJ.then_ret (PJ.block_ret ?_)))
        obtain rfl := Option.some.inj hm
        refine PJ.sel (L' := [row v15 2 fI64 l16]) [0] ⟨by decide, rfl⟩ ?_
        exact PJ.retn (vs := [v15, .int .i64 0]) Try.results25 ⟨rfl, rfl, trivial⟩ ⟨_, rfl, rfl⟩
      · replace hm := ifF hm hb19
        refine WJ.skip ?_
        refine PJ.next ?_
        obtain ⟨e20, h21, hm⟩ := bindS hm
        obtain ⟨e22, h23, hm⟩ := bindS hm
        obtain ⟨e24, h25, hm⟩ := bindS hm
        obtain ⟨e26, h27, hm⟩ := bindS hm
        refine WJ.draws (N := 16) (listed0 := #[false, false, false, false, false, false, false, false, false, false, false, false, false, false, false, false]) [box g8 25 [.int .i64 b1.bars, .int .i64 b1.rise, .int .i64 b1.fall, .int .i64 b1.clear, .int .i64 b1.near]] follows rfl rfl ?_
        refine RJ.first 0 (listed' := #[true, false, false, false, false, false, false, false, false, false, false, false, false, false, false, false]) [1] rfl (by kernel_rfl) rfl ⟨by decide, rfl⟩ (y_move rfl) rfl ?_
        refine RJ.first 1 (listed' := #[true, true, false, false, false, false, false, false, false, false, false, false, false, false, false, false]) [1] rfl (by kernel_rfl) rfl ⟨by decide, rfl⟩ (y_move rfl) rfl ?_
        refine RJ.first 2 (listed' := #[true, true, true, false, false, false, false, false, false, false, false, false, false, false, false, false]) [1] rfl (by kernel_rfl) rfl ⟨by decide, rfl⟩ (y_move rfl) rfl ?_
        refine RJ.first 3 (listed' := #[true, true, true, true, false, false, false, false, false, false, false, false, false, false, false, false]) [1] rfl (by kernel_rfl) rfl ⟨by decide, rfl⟩ (y_move rfl) rfl ?_
        refine RJ.first 4 (listed' := #[true, true, true, true, true, false, false, false, false, false, false, false, false, false, false, false]) [1] rfl (by kernel_rfl) rfl ⟨by decide, rfl⟩ (y_move rfl) rfl ?_
        refine RJ.first 5 (listed' := #[true, true, true, true, true, true, false, false, false, false, false, false, false, false, false, false]) [1] rfl (by kernel_rfl) rfl ⟨by decide, rfl⟩ (y_move rfl) rfl ?_
        refine RJ.first 8 (listed' := #[true, true, true, true, true, true, false, false, true, false, false, false, false, false, false, false]) [1] rfl (by kernel_rfl) rfl ⟨by decide, rfl⟩ (y_move rfl) rfl ?_
        refine RJ.first 9 (listed' := #[true, true, true, true, true, true, false, false, true, true, false, false, false, false, false, false]) [1] rfl (by kernel_rfl) rfl ⟨by decide, rfl⟩ (y_move rfl) rfl ?_
        refine RJ.hold (X := Unit) 4 #[true, true, true, true, true, true, true, true, true, true, true, true, false, false, false, false] (fun (_ : Unit) => [(1, v3), (3, pt g8 0), (9, v15), (34, v15), (35, .int .i64 r17.1), (36, v15), (37, .int .i64 r17.2.1), (41, .int .i64 e20), (45, .int .i64 e22)]) (fun (_ : Unit) => [row v15 2 fI64 l16, box g8 25 [.int .i64 b1.bars, .int .i64 b1.rise, .int .i64 b1.fall, .int .i64 b1.clear, .int .i64 b1.near]]) ?_ ?_
        · rintro _
          refine RJ.step1 12 [1] (by kernel_rfl) ⟨by decide, rfl⟩ ?_
          refine RO.of (listed' := #[true, true, true, true, true, true, true, true, true, true, true, true, true, false, false, false]) rfl rfl ?_
          refine SJ.q (YldS.yld (y_ixRow (k := 0) (R := fI64) rfl Try.runUnderlying27 Try.sizeOf2 rfl rfl h25)) rfl ?_
          refine SJ.nil ?_
          refine PJ.draw ?_
          refine RJ.step1 13 [1] (by kernel_rfl) ⟨by decide, rfl⟩ ?_
          refine RO.of (listed' := #[true, true, true, true, true, true, true, true, true, true, true, true, true, true, false, false]) rfl rfl ?_
          refine SJ.storeRL (k := 0) (i := (Int.toNat r17.1)) (off := 0) (us := [.int .i64 e20]) (b := e20) rfl rfl (idx_get h25) rfl rfl Try.sizeOf2 rfl rfl rfl ?_
          refine SJ.nil ?_
          refine PJ.draw ?_
          refine RJ.step1 14 [1] (by kernel_rfl) ⟨by decide, rfl⟩ ?_
          refine RO.of (listed' := #[true, true, true, true, true, true, true, true, true, true, true, true, true, true, true, false]) rfl rfl ?_
          refine SJ.q (YldS.yld (y_ixRow (k := 0) (R := fI64) rfl Try.runUnderlying27 Try.sizeOf2 rfl rfl h27)) rfl ?_
          refine SJ.nil ?_
          refine PJ.draw ?_
          refine RJ.step1 15 [1] (by kernel_rfl) ⟨by decide, rfl⟩ ?_
          refine RO.of (listed' := #[true, true, true, true, true, true, true, true, true, true, true, true, true, true, true, true]) rfl rfl ?_
          refine SJ.storeRL (k := 0) (i := (Int.toNat r17.2.1)) (off := 0) (us := [.int .i64 e22]) (b := e22) rfl rfl (idx_get h27) rfl rfl Try.sizeOf2 rfl rfl rfl ?_
          refine SJ.nil ?_
          refine PJ.draw ?_
          refine RJ.fin [1] (by kernel_rfl) ⟨by decide, rfl⟩ ?_
          refine PJ.block_normal ?_
          exact PJ.round (List.set (List.set l16 (Int.toNat r17.1) e20) (Int.toNat r17.2.1) e22) [0, 1] hm ⟨rfl, rfl, rfl, trivial⟩ ⟨by decide, rfl⟩
        · intro hD28
          refine RJ.step2 6 10 [1] (by kernel_rfl) ⟨by decide, rfl⟩ ?_ ?_
          · refine RO.of (listed' := #[true, true, true, true, true, true, true, false, true, true, false, false, false, false, false, false]) rfl rfl ?_
            refine SJ.q (YldS.yld (y_ixRow (k := 0) (R := fI64) rfl Try.runUnderlying27 Try.sizeOf2 rfl rfl h21)) rfl ?_
            refine SJ.nil ?_
            refine PJ.draw ?_
            refine RJ.step2 7 10 [1] (by kernel_rfl) ⟨by decide, rfl⟩ ?_ ?_
            · refine RO.of (listed' := #[true, true, true, true, true, true, true, true, true, true, false, false, false, false, false, false]) rfl rfl ?_
              refine SJ.q (YldS.yld (y_loadR (k := 0) (i := (Int.toNat r17.2.1)) (off := 0) (u := .int .i64 e20) rfl Try.isAgg2 rfl (idx_get h21) rfl)) rfl ?_
              refine SJ.nil ?_
              refine PJ.draw ?_
              refine RJ.step1 10 [1] (by kernel_rfl) ⟨by decide, rfl⟩ ?_
              refine RO.of (listed' := #[true, true, true, true, true, true, true, true, true, true, true, false, false, false, false, false]) rfl rfl ?_
              refine SJ.q (YldS.yld (y_ixRow (k := 0) (R := fI64) rfl Try.runUnderlying27 Try.sizeOf2 rfl rfl h23)) rfl ?_
              refine SJ.nil ?_
              refine PJ.draw ?_
              refine RJ.step1 11 [1] (by kernel_rfl) ⟨by decide, rfl⟩ ?_
              refine RO.of (listed' := #[true, true, true, true, true, true, true, true, true, true, true, true, false, false, false, false]) rfl rfl ?_
              refine SJ.q (YldS.yld (y_loadR (k := 0) (i := (Int.toNat r17.1)) (off := 0) (u := .int .i64 e22) rfl Try.isAgg2 rfl (idx_get h23) rfl)) rfl ?_
              refine SJ.nil ?_
              refine PJ.draw ?_
              exact RJ.weak (hD28 ()) [0, 1] ⟨rfl, rfl, rfl, rfl, rfl, rfl, rfl, rfl, rfl, trivial⟩ ⟨by decide, rfl⟩
            · refine RO.of (listed' := #[true, true, true, true, true, true, true, false, true, true, true, false, false, false, false, false]) rfl rfl ?_
              refine SJ.q (YldS.yld (y_ixRow (k := 0) (R := fI64) rfl Try.runUnderlying27 Try.sizeOf2 rfl rfl h23)) rfl ?_
              refine SJ.nil ?_
              refine PJ.draw ?_
              refine RJ.step2 7 11 [1] (by kernel_rfl) ⟨by decide, rfl⟩ ?_ ?_
              · refine RO.of (listed' := #[true, true, true, true, true, true, true, true, true, true, true, false, false, false, false, false]) rfl rfl ?_
                refine SJ.q (YldS.yld (y_loadR (k := 0) (i := (Int.toNat r17.2.1)) (off := 0) (u := .int .i64 e20) rfl Try.isAgg2 rfl (idx_get h21) rfl)) rfl ?_
                refine SJ.nil ?_
                refine PJ.draw ?_
                refine RJ.step1 11 [1] (by kernel_rfl) ⟨by decide, rfl⟩ ?_
                refine RO.of (listed' := #[true, true, true, true, true, true, true, true, true, true, true, true, false, false, false, false]) rfl rfl ?_
                refine SJ.q (YldS.yld (y_loadR (k := 0) (i := (Int.toNat r17.1)) (off := 0) (u := .int .i64 e22) rfl Try.isAgg2 rfl (idx_get h23) rfl)) rfl ?_
                refine SJ.nil ?_
                refine PJ.draw ?_
                exact RJ.weak (hD28 ()) [0, 1] ⟨rfl, rfl, rfl, rfl, rfl, rfl, rfl, rfl, rfl, trivial⟩ ⟨by decide, rfl⟩
              · refine RO.of (listed' := #[true, true, true, true, true, true, true, false, true, true, true, true, false, false, false, false]) rfl rfl ?_
                refine SJ.q (YldS.yld (y_loadR (k := 0) (i := (Int.toNat r17.1)) (off := 0) (u := .int .i64 e22) rfl Try.isAgg2 rfl (idx_get h23) rfl)) rfl ?_
                refine SJ.nil ?_
                refine PJ.draw ?_
                refine RJ.step1 7 [1] (by kernel_rfl) ⟨by decide, rfl⟩ ?_
                refine RO.of (listed' := #[true, true, true, true, true, true, true, true, true, true, true, true, false, false, false, false]) rfl rfl ?_
                refine SJ.q (YldS.yld (y_loadR (k := 0) (i := (Int.toNat r17.2.1)) (off := 0) (u := .int .i64 e20) rfl Try.isAgg2 rfl (idx_get h21) rfl)) rfl ?_
                refine SJ.nil ?_
                refine PJ.draw ?_
                exact RJ.weak (hD28 ()) [0, 1] ⟨rfl, rfl, rfl, rfl, rfl, rfl, rfl, rfl, rfl, trivial⟩ ⟨by decide, rfl⟩
          · refine RO.of (listed' := #[true, true, true, true, true, true, false, false, true, true, true, false, false, false, false, false]) rfl rfl ?_
            refine SJ.q (YldS.yld (y_ixRow (k := 0) (R := fI64) rfl Try.runUnderlying27 Try.sizeOf2 rfl rfl h23)) rfl ?_
            refine SJ.nil ?_
            refine PJ.draw ?_
            refine RJ.step2 6 11 [1] (by kernel_rfl) ⟨by decide, rfl⟩ ?_ ?_
            · refine RO.of (listed' := #[true, true, true, true, true, true, true, false, true, true, true, false, false, false, false, false]) rfl rfl ?_
              refine SJ.q (YldS.yld (y_ixRow (k := 0) (R := fI64) rfl Try.runUnderlying27 Try.sizeOf2 rfl rfl h21)) rfl ?_
              refine SJ.nil ?_
              refine PJ.draw ?_
              refine RJ.step2 7 11 [1] (by kernel_rfl) ⟨by decide, rfl⟩ ?_ ?_
              · refine RO.of (listed' := #[true, true, true, true, true, true, true, true, true, true, true, false, false, false, false, false]) rfl rfl ?_
                refine SJ.q (YldS.yld (y_loadR (k := 0) (i := (Int.toNat r17.2.1)) (off := 0) (u := .int .i64 e20) rfl Try.isAgg2 rfl (idx_get h21) rfl)) rfl ?_
                refine SJ.nil ?_
                refine PJ.draw ?_
                refine RJ.step1 11 [1] (by kernel_rfl) ⟨by decide, rfl⟩ ?_
                refine RO.of (listed' := #[true, true, true, true, true, true, true, true, true, true, true, true, false, false, false, false]) rfl rfl ?_
                refine SJ.q (YldS.yld (y_loadR (k := 0) (i := (Int.toNat r17.1)) (off := 0) (u := .int .i64 e22) rfl Try.isAgg2 rfl (idx_get h23) rfl)) rfl ?_
                refine SJ.nil ?_
                refine PJ.draw ?_
                exact RJ.weak (hD28 ()) [0, 1] ⟨rfl, rfl, rfl, rfl, rfl, rfl, rfl, rfl, rfl, trivial⟩ ⟨by decide, rfl⟩
              · refine RO.of (listed' := #[true, true, true, true, true, true, true, false, true, true, true, true, false, false, false, false]) rfl rfl ?_
                refine SJ.q (YldS.yld (y_loadR (k := 0) (i := (Int.toNat r17.1)) (off := 0) (u := .int .i64 e22) rfl Try.isAgg2 rfl (idx_get h23) rfl)) rfl ?_
                refine SJ.nil ?_
                refine PJ.draw ?_
                refine RJ.step1 7 [1] (by kernel_rfl) ⟨by decide, rfl⟩ ?_
                refine RO.of (listed' := #[true, true, true, true, true, true, true, true, true, true, true, true, false, false, false, false]) rfl rfl ?_
                refine SJ.q (YldS.yld (y_loadR (k := 0) (i := (Int.toNat r17.2.1)) (off := 0) (u := .int .i64 e20) rfl Try.isAgg2 rfl (idx_get h21) rfl)) rfl ?_
                refine SJ.nil ?_
                refine PJ.draw ?_
                exact RJ.weak (hD28 ()) [0, 1] ⟨rfl, rfl, rfl, rfl, rfl, rfl, rfl, rfl, rfl, trivial⟩ ⟨by decide, rfl⟩
            · refine RO.of (listed' := #[true, true, true, true, true, true, false, false, true, true, true, true, false, false, false, false]) rfl rfl ?_
              refine SJ.q (YldS.yld (y_loadR (k := 0) (i := (Int.toNat r17.1)) (off := 0) (u := .int .i64 e22) rfl Try.isAgg2 rfl (idx_get h23) rfl)) rfl ?_
              refine SJ.nil ?_
              refine PJ.draw ?_
              refine RJ.step1 6 [1] (by kernel_rfl) ⟨by decide, rfl⟩ ?_
              refine RO.of (listed' := #[true, true, true, true, true, true, true, false, true, true, true, true, false, false, false, false]) rfl rfl ?_
              refine SJ.q (YldS.yld (y_ixRow (k := 0) (R := fI64) rfl Try.runUnderlying27 Try.sizeOf2 rfl rfl h21)) rfl ?_
              refine SJ.nil ?_
              refine PJ.draw ?_
              refine RJ.step1 7 [1] (by kernel_rfl) ⟨by decide, rfl⟩ ?_
              refine RO.of (listed' := #[true, true, true, true, true, true, true, true, true, true, true, true, false, false, false, false]) rfl rfl ?_
              refine SJ.q (YldS.yld (y_loadR (k := 0) (i := (Int.toNat r17.2.1)) (off := 0) (u := .int .i64 e20) rfl Try.isAgg2 rfl (idx_get h21) rfl)) rfl ?_
              refine SJ.nil ?_
              refine PJ.draw ?_
              exact RJ.weak (hD28 ()) [0, 1] ⟨rfl, rfl, rfl, rfl, rfl, rfl, rfl, rfl, rfl, trivial⟩ ⟨by decide, rfl⟩

set_option maxRecDepth 100000 in
set_option maxHeartbeats 1000000 in
theorem ok_i_BestSwap {N : Nat} {b1 : Basket} {pairs2 : List (List Int)} {places5 : List Int} {r : Int × Int × Int} (hm : i_BestSwap N b1 pairs2 places5 = some r) (w : World) (v3 : Value) (hr4 : RdS w (cx w).Fz v3 (rSl fI64.rp) pairs2) (v6 : Value) (hr7 : RdS w (cx w).Fz v6 fI64.rp places5) :
    Calls Try.prog 26 #[.agg (Basket.enc b1).toArray, v3, v6] w (Ret (cx w) (tup [.int .i64 r.1, .int .i64 r.2.1, .int .i64 r.2.2])) := by
  unfold i_BestSwap at hm
  refine Calls.enter [.agg (Basket.enc b1).toArray, v3, v6] Try.func26 rfl Try.ntmps26 rfl ?_
  refine WJ.seq ?_
  refine WJ.reg ?_
  refine SJ.box (cs := [.int .i64 b1.bars, .int .i64 b1.rise, .int .i64 b1.fall, .int .i64 b1.clear, .int .i64 b1.near]) rfl rfl rfl fun g8 => ?_
  refine SJ.q (YldS.yld (y_assign rfl)) rfl ?_
  refine SJ.q (YldS.yld (y_assign rfl)) rfl ?_
  refine SJ.q (YldS.yld (y_assign rfl)) rfl ?_
  refine SJ.nil ?_
  refine PJ.next ?_
  refine WJ.seq ?_
  refine WJ.seq ?_
  refine WJ.quiet ?_
  refine QJ.step (YldS.yld (y_loadBN (k := 0) (off := 0) (us := [.int .i64 b1.bars, .int .i64 b1.rise, .int .i64 b1.fall, .int .i64 b1.clear, .int .i64 b1.near]) rfl Try.isAgg25 Try.sizeOf25 rfl rfl)) rfl ?_
  refine QJ.step (YldS.yld (y_move rfl)) rfl ?_
  refine QJ.step (YldS.yld (y_move rfl)) rfl ?_
  obtain ⟨r9, h10, hm⟩ := bindS hm
  refine QJ.step (y_call Try.call91 rfl (RetG.quiet fun w hw => ok_i_arrangeCode h10 w _ (hr4.st hw) _ (hr7.st hw))) rfl ?_
  refine QJ.step (YldS.yld (y_assign rfl)) rfl ?_
  refine QJ.done ?_
  refine PJ.next ?_
  refine WJ.seq ?_
  refine WJ.quiet ?_
  refine QJ.step (YldS.yld (y_move rfl)) rfl ?_
  refine QJ.step (YldS.yld (y_bin rfl rfl rfl)) rfl ?_
  refine QJ.done ?_
  refine PJ.next ?_
  refine WJ.cond (t := (r9 != 0)) rfl (fun hb11 => ?_) (fun hb11 => ?_)
  · replace hm := ifT hm hb11
    refine WJ.seq ?_
    refine WJ.quiet ?_
    refine QJ.step (YldS.yld (y_move rfl)) rfl ?_
    refine QJ.step (YldS.yld (y_assign rfl)) rfl ?_
    refine QJ.step (YldS.yld (y_assign rfl)) rfl ?_
    refine QJ.step (YldS.yld (y_assign rfl)) rfl ?_
    refine QJ.done ?_
    refine PJ.next ?_
    refine WJ.ret ?_
    refine PJ.then_ret ?_
    obtain rfl := Option.some.inj hm
    refine PJ.sel (L' := []) [] ⟨List.nodup_nil, rfl⟩ ?_
    exact PJ.retn (vs := [.int .i64 0, .int .i64 0, .int .i64 r9]) Try.results26 ⟨rfl, rfl, rfl, trivial⟩ ⟨rfl, rfl⟩
  · replace hm := ifF hm hb11
    refine WJ.skip ?_
    refine PJ.next ?_
    refine WJ.seq ?_
    refine WJ.quiet ?_
    refine QJ.step (YldS.yld (y_loadBN (k := 0) (off := 0) (us := [.int .i64 b1.bars, .int .i64 b1.rise, .int .i64 b1.fall, .int .i64 b1.clear, .int .i64 b1.near]) rfl Try.isAgg25 Try.sizeOf25 rfl rfl)) rfl ?_
    refine QJ.step (YldS.yld (y_move rfl)) rfl ?_
    refine QJ.step (YldS.yld (y_move rfl)) rfl ?_
    obtain ⟨r12, h13, hm⟩ := bindS hm
    refine QJ.step (y_call Try.call95 rfl (RetG.quiet fun w hw => ok_i_Basket_bestSwap h13 w _ (hr4.st hw) _ (hr7.st hw))) rfl ?_
    refine QJ.step (YldS.yld (y_move rfl)) rfl ?_
    refine QJ.step (YldS.yld (y_extract rfl rfl)) rfl ?_
    refine QJ.step (YldS.yld (y_extract rfl rfl)) rfl ?_
    refine QJ.step (YldS.yld (y_extract rfl rfl)) rfl ?_
    refine QJ.step (YldS.yld (y_assign rfl)) rfl ?_
    refine QJ.step (YldS.yld (y_assign rfl)) rfl ?_
    refine QJ.step (YldS.yld (y_assign rfl)) rfl ?_
    refine QJ.done ?_
    refine PJ.next ?_
    refine WJ.seq ?_
    refine WJ.seq ?_
    refine WJ.quiet ?_
    refine QJ.step (YldS.yld (y_move rfl)) rfl ?_
    refine QJ.step (YldS.yld (y_not rfl)) rfl ?_
    refine QJ.done ?_
    refine PJ.next ?_
    refine WJ.cond (t := !r12.2.2) rfl (fun hb14 => ?_) (fun hb14 => ?_)
    · replace hm := ifT hm hb14
      refine WJ.seq ?_
      refine WJ.quiet ?_
      refine QJ.step (YldS.yld (y_assign rfl)) rfl ?_
      refine QJ.step (YldS.yld (y_assign rfl)) rfl ?_
      refine QJ.step (YldS.yld (y_assign rfl)) rfl ?_
      refine QJ.done ?_
      refine PJ.next ?_
      refine WJ.ret ?_
      refine PJ.then_ret ?_
      obtain rfl := Option.some.inj hm
      refine PJ.sel (L' := []) [] ⟨List.nodup_nil, rfl⟩ ?_
      exact PJ.retn (vs := [.int .i64 0, .int .i64 0, .int .i64 3]) Try.results26 ⟨rfl, rfl, rfl, trivial⟩ ⟨rfl, rfl⟩
    · replace hm := ifF hm hb14
      refine WJ.skip ?_
      refine PJ.next ?_
      refine WJ.seq ?_
      refine WJ.quiet ?_
      refine QJ.step (YldS.yld (y_move rfl)) rfl ?_
      refine QJ.step (YldS.yld (y_move rfl)) rfl ?_
      refine QJ.step (YldS.yld (y_assign rfl)) rfl ?_
      refine QJ.step (YldS.yld (y_assign rfl)) rfl ?_
      refine QJ.step (YldS.yld (y_assign rfl)) rfl ?_
      refine QJ.done ?_
      refine PJ.next ?_
      refine WJ.ret ?_
      obtain rfl := Option.some.inj hm
      refine PJ.sel (L' := []) [] ⟨List.nodup_nil, rfl⟩ ?_
      exact PJ.retn (vs := [.int .i64 r12.1, .int .i64 r12.2.1, .int .i64 0]) Try.results26 ⟨rfl, rfl, rfl, trivial⟩ ⟨rfl, rfl⟩

set_option maxRecDepth 100000 in
set_option maxHeartbeats 1000000 in
theorem ok_i_SwapLetters {N : Nat} {b1 : Basket} {places2 : List Int} {i5 : Int} {k6 : Int} {r : (List Int) × Int} (hm : i_SwapLetters N b1 places2 i5 k6 = some r) (w : World) (v3 : Value) (hr4 : RdS w (cx w).Fz v3 fI64.rp places2) :
    Calls Try.prog 27 #[.agg (Basket.enc b1).toArray, v3, .int .i64 i5, .int .i64 k6] w (RetG (cx w) fun u L => ∃ (u1 : Value), (u = tup [u1, .int .i64 r.2] ∧ L = [row u1 2 fI64 r.1])) := by
  unfold i_SwapLetters at hm
  refine Calls.enter [.agg (Basket.enc b1).toArray, v3, .int .i64 i5, .int .i64 k6] Try.func27 rfl Try.ntmps27 rfl ?_
  refine WJ.seq ?_
  refine WJ.reg ?_
  refine SJ.box (cs := [.int .i64 b1.bars, .int .i64 b1.rise, .int .i64 b1.fall, .int .i64 b1.clear, .int .i64 b1.near]) rfl rfl rfl fun g7 => ?_
  refine SJ.q (YldS.yld (y_assign rfl)) rfl ?_
  refine SJ.q (YldS.yld (y_assign rfl)) rfl ?_
  refine SJ.nil ?_
  refine PJ.next ?_
  refine WJ.seq ?_
  refine WJ.seq ?_
  refine WJ.quiet ?_
  refine QJ.step (YldS.yld (y_loadBN (k := 0) (off := 0) (us := [.int .i64 b1.bars, .int .i64 b1.rise, .int .i64 b1.fall, .int .i64 b1.clear, .int .i64 b1.near]) rfl Try.isAgg25 Try.sizeOf25 rfl rfl)) rfl ?_
  obtain ⟨r8, h9, hm⟩ := bindS hm
  refine QJ.step (y_call Try.call76 rfl (RetG.quiet fun w hw => ok_i_ValidBasket h9 w )) rfl ?_
  refine QJ.step (YldS.yld (y_not rfl)) rfl ?_
  refine QJ.done ?_
  refine PJ.next ?_
  refine WJ.cond (t := !r8) rfl (fun hb10 => ?_) (fun hb10 => ?_)
  · replace hm := ifT hm hb10
    refine WJ.seq ?_
    refine WJ.quiet ?_
    refine QJ.step (YldS.yld (y_assign rfl)) rfl ?_
    refine QJ.step (YldS.yld (y_assign rfl)) rfl ?_
    refine QJ.done ?_
    refine PJ.next ?_
    refine WJ.ret ?_
    refine PJ.then_ret ?_
    refine PJ.nil_row 2 fI64 ?_
    obtain rfl := Option.some.inj hm
    refine PJ.sel (L' := [row (.slice none 0 0) 2 fI64 []]) [0] ⟨by decide, rfl⟩ ?_
    exact PJ.retn (vs := [(.slice none 0 0), .int .i64 1]) Try.results27 ⟨rfl, rfl, trivial⟩ ⟨_, rfl, rfl⟩
  · replace hm := ifF hm hb10
    refine WJ.skip ?_
    refine PJ.next ?_
    refine WJ.seq ?_
    refine WJ.quiet ?_
    refine QJ.step (YldS.yld (y_move rfl)) rfl ?_
    refine QJ.step (YldS.yld (y_lenS Try.runUnderlying27 hr4 rfl)) rfl ?_
    refine QJ.step (YldS.yld (y_bin rfl rfl rfl)) rfl ?_
    refine QJ.step (YldS.yld (y_assign rfl)) rfl ?_
    refine QJ.done ?_
    refine PJ.next ?_
    refine WJ.seq ?_
    refine WJ.seq ?_
    refine WJ.quiet ?_
    refine QJ.step (YldS.yld (y_loadBN (k := 0) (off := 0) (us := [.int .i64 b1.bars, .int .i64 b1.rise, .int .i64 b1.fall, .int .i64 b1.clear, .int .i64 b1.near]) rfl Try.isAgg25 Try.sizeOf25 rfl rfl)) rfl ?_
    refine QJ.step (YldS.yld (y_move rfl)) rfl ?_
    obtain ⟨r11, h12, hm⟩ := bindS hm
    refine QJ.step (y_call Try.call94 rfl (RetG.quiet fun w hw => ok_i_Basket_arranges h12 w _ (hr4.st hw))) rfl ?_
    refine QJ.step (YldS.yld (y_not rfl)) rfl ?_
    refine QJ.step (YldS.yld (y_move rfl)) rfl ?_
    obtain ⟨t13, h14, hm⟩ := bindS hm
    refine QJ.cut 5 [(1, v3), (2, .int .i64 i5), (3, .int .i64 k6), (10, .int .i64 (w64 ((List.length places2 : Int) - 1))), (26, .bool t13)] ?_ ?_
    · rcases Bool.eq_false_or_eq_true (!r11) with hb15 | hb15
      · obtain rfl := orT h14 hb15
        refine QJ.off rfl rfl (cB hb15) rfl rfl ?_
        refine QJ.off rfl rfl (cB hb15) rfl rfl ?_
        refine QJ.off rfl rfl (cB hb15) rfl rfl ?_
        refine QJ.off rfl rfl (cB hb15) rfl rfl ?_
        refine QJ.step (YldS.yld (y_pick_t (cB hb15) rfl)) rfl ?_
        exact QJ.cut_end ⟨rfl, rfl, rfl, rfl, rfl, trivial⟩
      · replace h14 := orF h14 hb15
        refine QJ.on rfl rfl (cB hb15) (YldS.yld (y_move rfl)) rfl ?_
        refine QJ.on rfl rfl (cB hb15) (YldS.yld (y_move rfl)) rfl ?_
        obtain ⟨r16, h17, h14⟩ := bindS h14
        refine QJ.on rfl rfl (cB hb15) (y_call Try.call82 rfl (RetG.quiet fun w hw => ok_i_between h17 w )) rfl ?_
        refine QJ.on rfl rfl (cB hb15) (YldS.yld (y_not rfl)) rfl ?_
        refine QJ.step (YldS.yld (y_pick_f (cB hb15) rfl)) rfl ?_
        obtain rfl := Option.some.inj h14
        exact QJ.cut_end ⟨rfl, rfl, rfl, rfl, rfl, trivial⟩
    refine QJ.step (YldS.yld (y_move rfl)) rfl ?_
    obtain ⟨t18, h19, hm⟩ := bindS hm
    refine QJ.cut 5 [(1, v3), (2, .int .i64 i5), (3, .int .i64 k6), (32, .bool t18)] ?_ ?_
    · rcases Bool.eq_false_or_eq_true t13 with hb20 | hb20
      · obtain rfl := orT h19 hb20
        refine QJ.off rfl rfl (cB hb20) rfl rfl ?_
        refine QJ.off rfl rfl (cB hb20) rfl rfl ?_
        refine QJ.off rfl rfl (cB hb20) rfl rfl ?_
        refine QJ.off rfl rfl (cB hb20) rfl rfl ?_
        refine QJ.step (YldS.yld (y_pick_t (cB hb20) rfl)) rfl ?_
        exact QJ.cut_end ⟨rfl, rfl, rfl, rfl, trivial⟩
      · replace h19 := orF h19 hb20
        refine QJ.on rfl rfl (cB hb20) (YldS.yld (y_move rfl)) rfl ?_
        refine QJ.on rfl rfl (cB hb20) (YldS.yld (y_move rfl)) rfl ?_
        obtain ⟨r21, h22, h19⟩ := bindS h19
        refine QJ.on rfl rfl (cB hb20) (y_call Try.call82 rfl (RetG.quiet fun w hw => ok_i_between h22 w )) rfl ?_
        refine QJ.on rfl rfl (cB hb20) (YldS.yld (y_not rfl)) rfl ?_
        refine QJ.step (YldS.yld (y_pick_f (cB hb20) rfl)) rfl ?_
        obtain rfl := Option.some.inj h19
        exact QJ.cut_end ⟨rfl, rfl, rfl, rfl, trivial⟩
    refine QJ.done ?_
    refine PJ.next ?_
    refine WJ.cond (t := t18) rfl (fun hb23 => ?_) (fun hb23 => ?_)
    · replace hm := ifT hm hb23
      refine WJ.seq ?_
      refine WJ.quiet ?_
      refine QJ.step (YldS.yld (y_assign rfl)) rfl ?_
      refine QJ.step (YldS.yld (y_assign rfl)) rfl ?_
      refine QJ.done ?_
      refine PJ.next ?_
      refine WJ.ret ?_
      refine PJ.then_ret ?_
      refine PJ.nil_row 2 fI64 ?_
      obtain rfl := Option.some.inj hm
      refine PJ.sel (L' := [row (.slice none 0 0) 2 fI64 []]) [0] ⟨by decide, rfl⟩ ?_
      exact PJ.retn (vs := [(.slice none 0 0), .int .i64 2]) Try.results27 ⟨rfl, rfl, trivial⟩ ⟨_, rfl, rfl⟩
    · replace hm := ifF hm hb23
      refine WJ.skip ?_
      refine PJ.next ?_
      refine WJ.seq ?_
      refine WJ.reg ?_
      refine SJ.q (YldS.yld (y_move rfl)) rfl ?_
      refine SJ.q (YldS.yld (y_move rfl)) rfl ?_
      refine SJ.q (YldS.yld (y_move rfl)) rfl ?_
      obtain ⟨r24, h25, hm⟩ := bindS hm
      refine SJ.call Try.call96 rfl (fun w hw => ok_i_swapped h25 w _ (hr4.st hw)) rfl ?_
      rintro v26 _ ⟨_, rfl, rfl⟩
      refine SJ.q (YldS.yld (y_assign rfl)) rfl ?_
      refine SJ.q (YldS.yld (y_assign rfl)) rfl ?_
      refine SJ.nil ?_
      refine PJ.next ?_
      refine WJ.ret ?_
      obtain rfl := Option.some.inj hm
      refine PJ.sel (L' := [row v26 2 fI64 r24]) [0] ⟨by decide, rfl⟩ ?_
      exact PJ.retn (vs := [v26, .int .i64 0]) Try.results27 ⟨rfl, rfl, trivial⟩ ⟨_, rfl, rfl⟩

set_option maxRecDepth 100000 in
set_option maxHeartbeats 1000000 in
theorem ok_w_a2Same {N : Nat} {a1 : List Int} {b4 : List Int} {r : Bool} (hm : w_a2Same N a1 b4 = some r) (w : World) (v2 : Value) (hr3 : RdS w (cx w).Fz v2 fI64.rp a1) (v5 : Value) (hr6 : RdS w (cx w).Fz v5 fI64.rp b4) :
    Calls Try.prog 28 #[v2, v5] w (Ret (cx w) (.bool r)) := by
  unfold w_a2Same at hm
  refine Calls.enter [v2, v5] Try.func28 rfl Try.ntmps28 rfl ?_
  refine WJ.seq ?_
  refine WJ.quiet ?_
  refine QJ.step (YldS.yld (y_assign rfl)) rfl ?_
  refine QJ.done ?_
  refine PJ.next ?_
  refine WJ.seq ?_
  refine WJ.seq ?_
  refine WJ.quiet ?_
  refine QJ.step (YldS.yld (y_move rfl)) rfl ?_
  refine QJ.step (YldS.yld (y_lenS Try.runUnderlying27 hr3 rfl)) rfl ?_
  refine QJ.step (YldS.yld (y_move rfl)) rfl ?_
  refine QJ.step (YldS.yld (y_lenS Try.runUnderlying27 hr6 rfl)) rfl ?_
  refine QJ.step (YldS.yld (y_bin rfl rfl rfl)) rfl ?_
  refine QJ.done ?_
  refine PJ.next ?_
  refine WJ.cond (t := ((List.length a1 : Int) != (List.length b4 : Int))) rfl (fun hb7 => ?_) (fun hb7 => ?_)
  · replace hm := ifT hm hb7
    refine WJ.seq ?_
    refine WJ.quiet ?_
    refine QJ.step (YldS.yld (y_assign rfl)) rfl ?_
    refine QJ.done ?_
    refine PJ.next ?_
    refine WJ.ret ?_
    refine PJ.then_ret ?_
    obtain rfl := Option.some.inj hm
    refine PJ.sel (L' := []) [] ⟨List.nodup_nil, rfl⟩ ?_
    exact PJ.retn (vs := [.bool false]) Try.results28 ⟨rfl, trivial⟩ ⟨rfl, rfl⟩
  · replace hm := ifF hm hb7
    refine WJ.skip ?_
    refine PJ.next ?_
    obtain ⟨kj8, hk9, hm⟩ := withK_open hm
    refine WJ.join (X := Unit) (fun (_ : Unit) => kj8  = some r) (fun (_ : Unit) => []) (fun (_ : Unit) => []) ?_ ?_
    · clear hk9
      refine WJ.seq ?_
      refine WJ.quiet ?_
      refine QJ.step (YldS.yld (y_assign rfl)) rfl ?_
      refine QJ.done ?_
      refine PJ.next ?_
      refine WJ.block ?_
      refine WJ.sel (L' := (fun (x : Int) => []) 0) [] ⟨List.nodup_nil, rfl⟩ ?_
      refine WJ.sub (m' := (fun (x : Int) => [(0, v2), (1, v5), (5, .int .i64 x)]) 0) ⟨rfl, rfl, rfl, trivial⟩ ?_
      refine WJ.loop (X := Int) (fun N (x : Int) => w_a2Same_l1 kj8 a1 b4 N x = some r) (fun (x : Int) => [(0, v2), (1, v5), (5, .int .i64 x)]) (fun (x : Int) => []) ?_ N 0 hm
      · rintro N i10 hI
        have hm := hI; clear hI
        cases N with
        | zero => cases hm
        | succ N =>
        unfold w_a2Same_l1 at hm
        refine WJ.seq ?_
        refine WJ.seq ?_
        refine WJ.quiet ?_
        refine QJ.step (YldS.yld (y_move rfl)) rfl ?_
        refine QJ.step (YldS.yld (y_move rfl)) rfl ?_
        refine QJ.step (YldS.yld (y_lenS Try.runUnderlying27 hr3 rfl)) rfl ?_
        refine QJ.step (YldS.yld (y_bin rfl rfl rfl)) rfl ?_
        refine QJ.done ?_
        refine PJ.next ?_
        refine WJ.cond (t := decide (i10 < (List.length a1 : Int))) rfl (fun hb11 => ?_) (fun hb11 => ?_)
        · replace hm := ifT hm hb11
          refine WJ.skip ?_
          refine PJ.next ?_
          refine WJ.seq ?_
          refine WJ.block ?_
          refine WJ.seq ?_
          refine WJ.quiet_draw follows (by kernel_rfl) ?_
          refine QJ.step (YldS.yld (y_move rfl)) rfl ?_
          refine QJ.step (YldS.yld (y_move rfl)) rfl ?_
          obtain ⟨e12, h13, hm⟩ := bindS hm
          obtain ⟨ad14, _, rfl, ha15, hy16⟩ := hr3.elem h13
          refine QJ.step (YldS.yld (hy16 Try.runUnderlying27 Try.sizeOf2 rfl rfl)) rfl ?_
          refine QJ.step (YldS.yld (y_load1 (v := .int .i64 e12) Try.isAgg2 ha15 St.frozenC rfl)) rfl ?_
          refine QJ.step (YldS.yld (y_move rfl)) rfl ?_
          refine QJ.step (YldS.yld (y_move rfl)) rfl ?_
          obtain ⟨e17, h18, hm⟩ := bindS hm
          obtain ⟨ad19, _, rfl, ha20, hy21⟩ := hr6.elem h18
          refine QJ.step (YldS.yld (hy21 Try.runUnderlying27 Try.sizeOf2 rfl rfl)) rfl ?_
          refine QJ.step (YldS.yld (y_load1 (v := .int .i64 e17) Try.isAgg2 ha20 St.frozenC rfl)) rfl ?_
          refine QJ.step (YldS.yld (y_bin rfl rfl rfl)) rfl ?_
          refine QJ.done ?_
          refine PJ.next ?_
          refine WJ.cond (t := (e12 != e17)) rfl (fun hb22 => ?_) (fun hb22 => ?_)
          · replace hm := ifT hm hb22
            refine WJ.seq ?_
            refine WJ.quiet ?_
            refine QJ.step (YldS.yld (y_assign rfl)) rfl ?_
            refine QJ.done ?_
            refine PJ.next ?_
            refine WJ.ret ?_
            refine PJ.block_ret (PJ.then_ret (PJ.then_ret (PJ.block_ret (PJ.then_ret ?_))))
            obtain rfl := Option.some.inj hm
            refine PJ.sel (L' := []) [] ⟨List.nodup_nil, rfl⟩ ?_
            exact PJ.retn (vs := [.bool false]) Try.results28 ⟨rfl, trivial⟩ ⟨rfl, rfl⟩
          · replace hm := ifF hm hb22
            refine WJ.skip ?_
            refine PJ.block_normal (PJ.next ?_)
            refine WJ.quiet ?_
            refine QJ.step (YldS.yld (y_move rfl)) rfl ?_
            refine QJ.step (YldS.yld (y_bin rfl rfl rfl)) rfl ?_
            refine QJ.step (YldS.yld (y_assign rfl)) rfl ?_
            refine QJ.done ?_
            exact PJ.round (w64 (i10 + 1)) [] hm ⟨rfl, rfl, rfl, trivial⟩ ⟨List.nodup_nil, rfl⟩
        · replace hm := ifF hm hb11
          refine WJ.exit ?_
          refine PJ.then_exit (PJ.then_exit (PJ.block_exit ?_))
          exact PJ.joined () [] hm trivial ⟨List.nodup_nil, rfl⟩
    · rintro _ hm
      subst hk9
      refine WJ.seq ?_
      refine WJ.quiet ?_
      refine QJ.step (YldS.yld (y_assign rfl)) rfl ?_
      refine QJ.done ?_
      refine PJ.next ?_
      refine WJ.ret ?_
      obtain rfl := Option.some.inj hm
      refine PJ.sel (L' := []) [] ⟨List.nodup_nil, rfl⟩ ?_
      exact PJ.retn (vs := [.bool true]) Try.results28 ⟨rfl, trivial⟩ ⟨rfl, rfl⟩

set_option maxRecDepth 100000 in
set_option maxHeartbeats 1000000 in
theorem ok_w_FnArrangements {N : Nat} {code1 : List UInt8} {more4 : List UInt8} {r : Bool} (hm : w_FnArrangements N code1 more4 = some r) (w : World) (v2 : Value) (hr3 : RdS w (cx w).Fz v2 fByte.rp code1) (v5 : Value) (hr6 : RdS w (cx w).Fz v5 fByte.rp more4) :
    Calls Try.prog 4 #[v2, v5] w (Ret (cx w) (.bool r)) := by
  unfold w_FnArrangements at hm
  refine Calls.enter [v2, v5] Try.func4 rfl Try.ntmps4 rfl ?_
  refine WJ.seq ?_
  refine WJ.quiet ?_
  refine QJ.step (YldS.yld (y_assign rfl)) rfl ?_
  refine QJ.done ?_
  refine PJ.next ?_
  refine WJ.seq ?_
  refine WJ.seq ?_
  refine WJ.quiet ?_
  refine QJ.step (YldS.yld (y_move rfl)) rfl ?_
  refine QJ.step (YldS.yld (y_move rfl)) rfl ?_
  obtain ⟨r7, h8, hm⟩ := bindS hm
  refine QJ.step (y_call Try.call9 rfl (RetG.quiet fun w hw => ok_w_a2Long h8 w _ (hr3.st hw) _ (hr6.st hw))) rfl ?_
  refine QJ.done ?_
  refine PJ.next ?_
  refine WJ.cond (t := r7) rfl (fun hb9 => ?_) (fun hb9 => ?_)
  · replace hm := ifT hm hb9
    refine WJ.seq ?_
    refine WJ.quiet ?_
    refine QJ.step (YldS.yld (y_assign rfl)) rfl ?_
    refine QJ.done ?_
    refine PJ.next ?_
    refine WJ.ret ?_
    refine PJ.then_ret ?_
    obtain rfl := Option.some.inj hm
    refine PJ.sel (L' := []) [] ⟨List.nodup_nil, rfl⟩ ?_
    exact PJ.retn (vs := [.bool true]) Try.results4 ⟨rfl, trivial⟩ ⟨rfl, rfl⟩
  · replace hm := ifF hm hb9
    refine WJ.skip ?_
    refine PJ.next ?_
    refine WJ.seq ?_
    refine WJ.reg ?_
    refine SJ.q (YldS.yld (y_move rfl)) rfl ?_
    obtain ⟨r10, h11, hm⟩ := bindS hm
    refine SJ.q (y_call Try.call10 rfl (RetG.quiet fun w hw => ok_s_A2Basket h11 w _ (hr3.st hw))) rfl ?_
    refine SJ.alloc (cs := [.int .i64 0, .int .i64 0, .int .i64 0, .int .i64 0, .int .i64 0]) Try.zeroValue25 rfl rfl fun g12 => ?_
    refine SJ.storeL (k := 0) (off := 0) (us := [.int .i64 r10.bars, .int .i64 r10.rise, .int .i64 r10.fall, .int .i64 r10.clear, .int .i64 r10.near]) rfl rfl rfl rfl Try.sizeOf25 rfl rfl ?_
    refine SJ.nil ?_
    refine PJ.next ?_
    refine WJ.seq ?_
    refine WJ.reg ?_
    refine SJ.q (YldS.yld (y_move rfl)) rfl ?_
    obtain ⟨r13, h14, hm⟩ := bindS hm
    refine SJ.call Try.call20 rfl (fun w hw => ok_s_A2Pairs h14 w _ (hr6.st hw)) rfl ?_
    rintro v15 _ ⟨_, vs16, rfl, rfl⟩
    refine SJ.q (YldS.yld (y_assign rfl)) rfl ?_
    refine SJ.nil ?_
    refine PJ.next ?_
    refine WJ.seq ?_
    refine WJ.reg ?_
    refine SJ.q (YldS.yld (y_move rfl)) rfl ?_
    refine SJ.q (YldS.yld (y_move rfl)) rfl ?_
    refine SJ.q (YldS.yld (y_lenG (fun w hw => (hw.nst_rd (k := 0) (j := 1) rfl rfl)) Try.runUnderlying42 rfl)) rfl ?_
    obtain ⟨r17, h18, hm⟩ := bindS hm
    refine SJ.call Try.call21 rfl (fun w hw => ok_s_A2Places h18 w _ (hr3.st hw)) rfl ?_
    rintro v19 _ ⟨_, rfl, rfl⟩
    refine SJ.q (YldS.yld (y_assign rfl)) rfl ?_
    refine SJ.nil ?_
    refine PJ.next ?_
    refine WJ.seq ?_
    refine WJ.quiet ?_
    refine QJ.step (YldS.yld (y_loadBN (k := 3) (off := 0) (us := [.int .i64 r10.bars, .int .i64 r10.rise, .int .i64 r10.fall, .int .i64 r10.clear, .int .i64 r10.near]) rfl Try.isAgg25 Try.sizeOf25 rfl rfl)) rfl ?_
    refine QJ.step (YldS.yld (y_move rfl)) rfl ?_
    refine QJ.step (YldS.yld (y_move rfl)) rfl ?_
    obtain ⟨r20, h21, hm⟩ := bindS hm
    refine QJ.step (y_call Try.call22 rfl (RetG.quiet fun w hw => ok_i_ArrangeCost h21 w _ (hw.nst_rd (k := 1) (j := 2) rfl rfl) _ (hw.row_rd (k := 0) rfl))) rfl ?_
    refine QJ.step (YldS.yld (y_move rfl)) rfl ?_
    refine QJ.step (YldS.yld (y_extract rfl rfl)) rfl ?_
    refine QJ.step (YldS.yld (y_extract rfl rfl)) rfl ?_
    refine QJ.step (YldS.yld (y_assign rfl)) rfl ?_
    refine QJ.step (YldS.yld (y_assign rfl)) rfl ?_
    refine QJ.done ?_
    refine PJ.next ?_
    refine WJ.seq ?_
    refine WJ.quiet ?_
    refine QJ.step (YldS.yld (y_loadBN (k := 3) (off := 0) (us := [.int .i64 r10.bars, .int .i64 r10.rise, .int .i64 r10.fall, .int .i64 r10.clear, .int .i64 r10.near]) rfl Try.isAgg25 Try.sizeOf25 rfl rfl)) rfl ?_
    refine QJ.step (YldS.yld (y_move rfl)) rfl ?_
    obtain ⟨r22, h23, hm⟩ := bindS hm
    refine QJ.step (y_call Try.call23 rfl (RetG.quiet fun w hw => ok_i_ArrangeBound h23 w _ (hw.nst_rd (k := 1) (j := 2) rfl rfl))) rfl ?_
    refine QJ.step (YldS.yld (y_move rfl)) rfl ?_
    refine QJ.step (YldS.yld (y_extract rfl rfl)) rfl ?_
    refine QJ.step (YldS.yld (y_extract rfl rfl)) rfl ?_
    refine QJ.step (YldS.yld (y_assign rfl)) rfl ?_
    refine QJ.step (YldS.yld (y_assign rfl)) rfl ?_
    refine QJ.done ?_
    refine PJ.next ?_
    refine WJ.seq ?_
    refine WJ.reg ?_
    refine SJ.q (YldS.yld (y_loadBN (k := 3) (off := 0) (us := [.int .i64 r10.bars, .int .i64 r10.rise, .int .i64 r10.fall, .int .i64 r10.clear, .int .i64 r10.near]) rfl Try.isAgg25 Try.sizeOf25 rfl rfl)) rfl ?_
    refine SJ.q (YldS.yld (y_move rfl)) rfl ?_
    obtain ⟨r24, h25, hm⟩ := bindS hm
    refine SJ.call Try.call24 rfl (fun w hw => ok_i_MirrorArrange h25 w _ (hw.row_rd (k := 0) rfl)) rfl ?_
    rintro _ _ ⟨v26, rfl, rfl⟩
    refine SJ.q (YldS.yld (y_move rfl)) rfl ?_
    refine SJ.q (YldS.yld (y_extract rfl rfl)) rfl ?_
    refine SJ.q (YldS.yld (y_extract rfl rfl)) rfl ?_
    refine SJ.q (YldS.yld (y_assign rfl)) rfl ?_
    refine SJ.q (YldS.yld (y_assign rfl)) rfl ?_
    refine SJ.nil ?_
    refine PJ.next ?_
    refine WJ.seq ?_
    refine WJ.quiet ?_
    refine QJ.step (YldS.yld (y_loadBN (k := 4) (off := 0) (us := [.int .i64 r10.bars, .int .i64 r10.rise, .int .i64 r10.fall, .int .i64 r10.clear, .int .i64 r10.near]) rfl Try.isAgg25 Try.sizeOf25 rfl rfl)) rfl ?_
    refine QJ.step (YldS.yld (y_move rfl)) rfl ?_
    refine QJ.step (YldS.yld (y_move rfl)) rfl ?_
    obtain ⟨r27, h28, hm⟩ := bindS hm
    refine QJ.step (y_call Try.call22 rfl (RetG.quiet fun w hw => ok_i_ArrangeCost h28 w _ (hw.nst_rd (k := 2) (j := 3) rfl rfl) _ (hw.row_rd (k := 0) rfl))) rfl ?_
    refine QJ.step (YldS.yld (y_move rfl)) rfl ?_
    refine QJ.step (YldS.yld (y_extract rfl rfl)) rfl ?_
    refine QJ.step (YldS.yld (y_extract rfl rfl)) rfl ?_
    refine QJ.step (YldS.yld (y_assign rfl)) rfl ?_
    refine QJ.step (YldS.yld (y_assign rfl)) rfl ?_
    refine QJ.done ?_
    refine PJ.next ?_
    refine WJ.seq ?_
    refine WJ.reg ?_
    refine SJ.q (YldS.yld (y_loadBN (k := 4) (off := 0) (us := [.int .i64 r10.bars, .int .i64 r10.rise, .int .i64 r10.fall, .int .i64 r10.clear, .int .i64 r10.near]) rfl Try.isAgg25 Try.sizeOf25 rfl rfl)) rfl ?_
    refine SJ.q (YldS.yld (y_move rfl)) rfl ?_
    refine SJ.q (YldS.yld (y_move rfl)) rfl ?_
    obtain ⟨r29, h30, hm⟩ := bindS hm
    refine SJ.call Try.call25 rfl (fun w hw => ok_i_ImproveArrange h30 w _ (hw.nst_rd (k := 2) (j := 3) rfl rfl) _ (hw.row_rd (k := 1) rfl)) rfl ?_
    rintro _ _ ⟨v31, rfl, rfl⟩
    refine SJ.q (YldS.yld (y_move rfl)) rfl ?_
    refine SJ.q (YldS.yld (y_extract rfl rfl)) rfl ?_
    refine SJ.q (YldS.yld (y_extract rfl rfl)) rfl ?_
    refine SJ.q (YldS.yld (y_assign rfl)) rfl ?_
    refine SJ.q (YldS.yld (y_assign rfl)) rfl ?_
    refine SJ.nil ?_
    refine PJ.next ?_
    refine WJ.seq ?_
    refine WJ.quiet ?_
    refine QJ.step (YldS.yld (y_loadBN (k := 5) (off := 0) (us := [.int .i64 r10.bars, .int .i64 r10.rise, .int .i64 r10.fall, .int .i64 r10.clear, .int .i64 r10.near]) rfl Try.isAgg25 Try.sizeOf25 rfl rfl)) rfl ?_
    refine QJ.step (YldS.yld (y_move rfl)) rfl ?_
    refine QJ.step (YldS.yld (y_move rfl)) rfl ?_
    obtain ⟨r32, h33, hm⟩ := bindS hm
    refine QJ.step (y_call Try.call22 rfl (RetG.quiet fun w hw => ok_i_ArrangeCost h33 w _ (hw.nst_rd (k := 3) (j := 4) rfl rfl) _ (hw.row_rd (k := 0) rfl))) rfl ?_
    refine QJ.step (YldS.yld (y_move rfl)) rfl ?_
    refine QJ.step (YldS.yld (y_extract rfl rfl)) rfl ?_
    refine QJ.step (YldS.yld (y_extract rfl rfl)) rfl ?_
    refine QJ.step (YldS.yld (y_assign rfl)) rfl ?_
    refine QJ.step (YldS.yld (y_assign rfl)) rfl ?_
    refine QJ.done ?_
    refine PJ.next ?_
    refine WJ.seq ?_
    refine WJ.quiet ?_
    refine QJ.step (YldS.yld (y_loadBN (k := 5) (off := 0) (us := [.int .i64 r10.bars, .int .i64 r10.rise, .int .i64 r10.fall, .int .i64 r10.clear, .int .i64 r10.near]) rfl Try.isAgg25 Try.sizeOf25 rfl rfl)) rfl ?_
    refine QJ.step (YldS.yld (y_move rfl)) rfl ?_
    refine QJ.step (YldS.yld (y_move rfl)) rfl ?_
    obtain ⟨r34, h35, hm⟩ := bindS hm
    refine QJ.step (y_call Try.call26 rfl (RetG.quiet fun w hw => ok_i_BestSwap h35 w _ (hw.nst_rd (k := 3) (j := 4) rfl rfl) _ (hw.row_rd (k := 0) rfl))) rfl ?_
    refine QJ.step (YldS.yld (y_move rfl)) rfl ?_
    refine QJ.step (YldS.yld (y_extract rfl rfl)) rfl ?_
    refine QJ.step (YldS.yld (y_extract rfl rfl)) rfl ?_
    refine QJ.step (YldS.yld (y_extract rfl rfl)) rfl ?_
    refine QJ.step (YldS.yld (y_assign rfl)) rfl ?_
    refine QJ.step (YldS.yld (y_assign rfl)) rfl ?_
    refine QJ.step (YldS.yld (y_assign rfl)) rfl ?_
    refine QJ.done ?_
    refine PJ.next ?_
    refine WJ.seq ?_
    refine WJ.seq ?_
    refine WJ.quiet ?_
    refine QJ.step (YldS.yld (y_move rfl)) rfl ?_
    refine QJ.step (YldS.yld (y_bin rfl rfl rfl)) rfl ?_
    refine QJ.step (YldS.yld (y_move rfl)) rfl ?_
    obtain ⟨t36, h37, hm⟩ := bindS hm
    refine QJ.cut 3 [(5, pt g12 0), (6, v15), (7, v19), (8, .int .i64 r20.1), (10, .int .i64 r22.1), (13, .int .i64 r24.2), (14, .int .i64 r27.1), (15, .int .i64 r27.2), (17, .int .i64 r29.2), (18, .int .i64 r32.1), (19, .int .i64 r32.2), (22, .int .i64 r34.2.2), (96, .bool t36)] ?_ ?_
    · rcases Bool.eq_false_or_eq_true (r20.2 != 0) with hb38 | hb38
      · obtain rfl := orT h37 hb38
        refine QJ.off rfl rfl (cB hb38) rfl rfl ?_
        refine QJ.off rfl rfl (cB hb38) rfl rfl ?_
        refine QJ.step (YldS.yld (y_pick_t (cB hb38) rfl)) rfl ?_
        exact QJ.cut_end ⟨rfl, rfl, rfl, rfl, rfl, rfl, rfl, rfl, rfl, rfl, rfl, rfl, rfl, trivial⟩
      · replace h37 := orF h37 hb38
        refine QJ.on rfl rfl (cB hb38) (YldS.yld (y_move rfl)) rfl ?_
        refine QJ.on rfl rfl (cB hb38) (YldS.yld (y_bin rfl rfl rfl)) rfl ?_
        refine QJ.step (YldS.yld (y_pick_f (cB hb38) rfl)) rfl ?_
        obtain rfl := Option.some.inj h37
        exact QJ.cut_end ⟨rfl, rfl, rfl, rfl, rfl, rfl, rfl, rfl, rfl, rfl, rfl, rfl, rfl, trivial⟩
    refine QJ.step (YldS.yld (y_move rfl)) rfl ?_
    obtain ⟨t39, h40, hm⟩ := bindS hm
    refine QJ.cut 4 [(5, pt g12 0), (6, v15), (7, v19), (8, .int .i64 r20.1), (13, .int .i64 r24.2), (14, .int .i64 r27.1), (15, .int .i64 r27.2), (17, .int .i64 r29.2), (18, .int .i64 r32.1), (19, .int .i64 r32.2), (22, .int .i64 r34.2.2), (101, .bool t39)] ?_ ?_
    · rcases Bool.eq_false_or_eq_true t36 with hb41 | hb41
      · obtain rfl := orT h40 hb41
        refine QJ.off rfl rfl (cB hb41) rfl rfl ?_
        refine QJ.off rfl rfl (cB hb41) rfl rfl ?_
        refine QJ.off rfl rfl (cB hb41) rfl rfl ?_
        refine QJ.step (YldS.yld (y_pick_t (cB hb41) rfl)) rfl ?_
        exact QJ.cut_end ⟨rfl, rfl, rfl, rfl, rfl, rfl, rfl, rfl, rfl, rfl, rfl, rfl, trivial⟩
      · replace h40 := orF h40 hb41
        refine QJ.on rfl rfl (cB hb41) (YldS.yld (y_move rfl)) rfl ?_
        refine QJ.on rfl rfl (cB hb41) (YldS.yld (y_move rfl)) rfl ?_
        refine QJ.on rfl rfl (cB hb41) (YldS.yld (y_bin rfl rfl rfl)) rfl ?_
        refine QJ.step (YldS.yld (y_pick_f (cB hb41) rfl)) rfl ?_
        obtain rfl := Option.some.inj h40
        exact QJ.cut_end ⟨rfl, rfl, rfl, rfl, rfl, rfl, rfl, rfl, rfl, rfl, rfl, rfl, trivial⟩
    refine QJ.step (YldS.yld (y_move rfl)) rfl ?_
    obtain ⟨t42, h43, hm⟩ := bindS hm
    refine QJ.cut 3 [(5, pt g12 0), (6, v15), (7, v19), (8, .int .i64 r20.1), (14, .int .i64 r27.1), (15, .int .i64 r27.2), (17, .int .i64 r29.2), (18, .int .i64 r32.1), (19, .int .i64 r32.2), (22, .int .i64 r34.2.2), (105, .bool t42)] ?_ ?_
    · rcases Bool.eq_false_or_eq_true t39 with hb44 | hb44
      · obtain rfl := orT h43 hb44
        refine QJ.off rfl rfl (cB hb44) rfl rfl ?_
        refine QJ.off rfl rfl (cB hb44) rfl rfl ?_
        refine QJ.step (YldS.yld (y_pick_t (cB hb44) rfl)) rfl ?_
        exact QJ.cut_end ⟨rfl, rfl, rfl, rfl, rfl, rfl, rfl, rfl, rfl, rfl, rfl, trivial⟩
      · replace h43 := orF h43 hb44
        refine QJ.on rfl rfl (cB hb44) (YldS.yld (y_move rfl)) rfl ?_
        refine QJ.on rfl rfl (cB hb44) (YldS.yld (y_bin rfl rfl rfl)) rfl ?_
        refine QJ.step (YldS.yld (y_pick_f (cB hb44) rfl)) rfl ?_
        obtain rfl := Option.some.inj h43
        exact QJ.cut_end ⟨rfl, rfl, rfl, rfl, rfl, rfl, rfl, rfl, rfl, rfl, rfl, trivial⟩
    refine QJ.step (YldS.yld (y_move rfl)) rfl ?_
    obtain ⟨t45, h46, hm⟩ := bindS hm
    refine QJ.cut 3 [(5, pt g12 0), (6, v15), (7, v19), (8, .int .i64 r20.1), (14, .int .i64 r27.1), (17, .int .i64 r29.2), (18, .int .i64 r32.1), (19, .int .i64 r32.2), (22, .int .i64 r34.2.2), (109, .bool t45)] ?_ ?_
    · rcases Bool.eq_false_or_eq_true t42 with hb47 | hb47
      · obtain rfl := orT h46 hb47
        refine QJ.off rfl rfl (cB hb47) rfl rfl ?_
        refine QJ.off rfl rfl (cB hb47) rfl rfl ?_
        refine QJ.step (YldS.yld (y_pick_t (cB hb47) rfl)) rfl ?_
        exact QJ.cut_end ⟨rfl, rfl, rfl, rfl, rfl, rfl, rfl, rfl, rfl, rfl, trivial⟩
      · replace h46 := orF h46 hb47
        refine QJ.on rfl rfl (cB hb47) (YldS.yld (y_move rfl)) rfl ?_
        refine QJ.on rfl rfl (cB hb47) (YldS.yld (y_bin rfl rfl rfl)) rfl ?_
        refine QJ.step (YldS.yld (y_pick_f (cB hb47) rfl)) rfl ?_
        obtain rfl := Option.some.inj h46
        exact QJ.cut_end ⟨rfl, rfl, rfl, rfl, rfl, rfl, rfl, rfl, rfl, rfl, trivial⟩
    refine QJ.step (YldS.yld (y_move rfl)) rfl ?_
    obtain ⟨t48, h49, hm⟩ := bindS hm
    refine QJ.cut 4 [(5, pt g12 0), (6, v15), (7, v19), (8, .int .i64 r20.1), (17, .int .i64 r29.2), (18, .int .i64 r32.1), (19, .int .i64 r32.2), (22, .int .i64 r34.2.2), (114, .bool t48)] ?_ ?_
    · rcases Bool.eq_false_or_eq_true t45 with hb50 | hb50
      · obtain rfl := orT h49 hb50
        refine QJ.off rfl rfl (cB hb50) rfl rfl ?_
        refine QJ.off rfl rfl (cB hb50) rfl rfl ?_
        refine QJ.off rfl rfl (cB hb50) rfl rfl ?_
        refine QJ.step (YldS.yld (y_pick_t (cB hb50) rfl)) rfl ?_
        exact QJ.cut_end ⟨rfl, rfl, rfl, rfl, rfl, rfl, rfl, rfl, rfl, trivial⟩
      · replace h49 := orF h49 hb50
        refine QJ.on rfl rfl (cB hb50) (YldS.yld (y_move rfl)) rfl ?_
        refine QJ.on rfl rfl (cB hb50) (YldS.yld (y_move rfl)) rfl ?_
        refine QJ.on rfl rfl (cB hb50) (YldS.yld (y_bin rfl rfl rfl)) rfl ?_
        refine QJ.step (YldS.yld (y_pick_f (cB hb50) rfl)) rfl ?_
        obtain rfl := Option.some.inj h49
        exact QJ.cut_end ⟨rfl, rfl, rfl, rfl, rfl, rfl, rfl, rfl, rfl, trivial⟩
    refine QJ.step (YldS.yld (y_move rfl)) rfl ?_
    obtain ⟨t51, h52, hm⟩ := bindS hm
    refine QJ.cut 3 [(5, pt g12 0), (6, v15), (7, v19), (8, .int .i64 r20.1), (18, .int .i64 r32.1), (19, .int .i64 r32.2), (22, .int .i64 r34.2.2), (118, .bool t51)] ?_ ?_
    · rcases Bool.eq_false_or_eq_true t48 with hb53 | hb53
      · obtain rfl := orT h52 hb53
        refine QJ.off rfl rfl (cB hb53) rfl rfl ?_
        refine QJ.off rfl rfl (cB hb53) rfl rfl ?_
        refine QJ.step (YldS.yld (y_pick_t (cB hb53) rfl)) rfl ?_
        exact QJ.cut_end ⟨rfl, rfl, rfl, rfl, rfl, rfl, rfl, rfl, trivial⟩
      · replace h52 := orF h52 hb53
        refine QJ.on rfl rfl (cB hb53) (YldS.yld (y_move rfl)) rfl ?_
        refine QJ.on rfl rfl (cB hb53) (YldS.yld (y_bin rfl rfl rfl)) rfl ?_
        refine QJ.step (YldS.yld (y_pick_f (cB hb53) rfl)) rfl ?_
        obtain rfl := Option.some.inj h52
        exact QJ.cut_end ⟨rfl, rfl, rfl, rfl, rfl, rfl, rfl, rfl, trivial⟩
    refine QJ.step (YldS.yld (y_move rfl)) rfl ?_
    obtain ⟨t54, h55, hm⟩ := bindS hm
    refine QJ.cut 3 [(5, pt g12 0), (6, v15), (7, v19), (8, .int .i64 r20.1), (18, .int .i64 r32.1), (22, .int .i64 r34.2.2), (122, .bool t54)] ?_ ?_
    · rcases Bool.eq_false_or_eq_true t51 with hb56 | hb56
      · obtain rfl := orT h55 hb56
        refine QJ.off rfl rfl (cB hb56) rfl rfl ?_
        refine QJ.off rfl rfl (cB hb56) rfl rfl ?_
        refine QJ.step (YldS.yld (y_pick_t (cB hb56) rfl)) rfl ?_
        exact QJ.cut_end ⟨rfl, rfl, rfl, rfl, rfl, rfl, rfl, trivial⟩
      · replace h55 := orF h55 hb56
        refine QJ.on rfl rfl (cB hb56) (YldS.yld (y_move rfl)) rfl ?_
        refine QJ.on rfl rfl (cB hb56) (YldS.yld (y_bin rfl rfl rfl)) rfl ?_
        refine QJ.step (YldS.yld (y_pick_f (cB hb56) rfl)) rfl ?_
        obtain rfl := Option.some.inj h55
        exact QJ.cut_end ⟨rfl, rfl, rfl, rfl, rfl, rfl, rfl, trivial⟩
    refine QJ.step (YldS.yld (y_move rfl)) rfl ?_
    obtain ⟨t57, h58, hm⟩ := bindS hm
    refine QJ.cut 4 [(5, pt g12 0), (6, v15), (7, v19), (8, .int .i64 r20.1), (18, .int .i64 r32.1), (22, .int .i64 r34.2.2), (127, .bool t57)] ?_ ?_
    · rcases Bool.eq_false_or_eq_true t54 with hb59 | hb59
      · obtain rfl := orT h58 hb59
        refine QJ.off rfl rfl (cB hb59) rfl rfl ?_
        refine QJ.off rfl rfl (cB hb59) rfl rfl ?_
        refine QJ.off rfl rfl (cB hb59) rfl rfl ?_
        refine QJ.step (YldS.yld (y_pick_t (cB hb59) rfl)) rfl ?_
        exact QJ.cut_end ⟨rfl, rfl, rfl, rfl, rfl, rfl, rfl, trivial⟩
      · replace h58 := orF h58 hb59
        refine QJ.on rfl rfl (cB hb59) (YldS.yld (y_move rfl)) rfl ?_
        refine QJ.on rfl rfl (cB hb59) (YldS.yld (y_move rfl)) rfl ?_
        refine QJ.on rfl rfl (cB hb59) (YldS.yld (y_bin rfl rfl rfl)) rfl ?_
        refine QJ.step (YldS.yld (y_pick_f (cB hb59) rfl)) rfl ?_
        obtain rfl := Option.some.inj h58
        exact QJ.cut_end ⟨rfl, rfl, rfl, rfl, rfl, rfl, rfl, trivial⟩
    refine QJ.step (YldS.yld (y_move rfl)) rfl ?_
    obtain ⟨t60, h61, hm⟩ := bindS hm
    refine QJ.cut 3 [(5, pt g12 0), (6, v15), (7, v19), (8, .int .i64 r20.1), (18, .int .i64 r32.1), (131, .bool t60)] ?_ ?_
    · rcases Bool.eq_false_or_eq_true t57 with hb62 | hb62
      · obtain rfl := orT h61 hb62
        refine QJ.off rfl rfl (cB hb62) rfl rfl ?_
        refine QJ.off rfl rfl (cB hb62) rfl rfl ?_
        refine QJ.step (YldS.yld (y_pick_t (cB hb62) rfl)) rfl ?_
        exact QJ.cut_end ⟨rfl, rfl, rfl, rfl, rfl, rfl, trivial⟩
      · replace h61 := orF h61 hb62
        refine QJ.on rfl rfl (cB hb62) (YldS.yld (y_move rfl)) rfl ?_
        refine QJ.on rfl rfl (cB hb62) (YldS.yld (y_bin rfl rfl rfl)) rfl ?_
        refine QJ.step (YldS.yld (y_pick_f (cB hb62) rfl)) rfl ?_
        obtain rfl := Option.some.inj h61
        exact QJ.cut_end ⟨rfl, rfl, rfl, rfl, rfl, rfl, trivial⟩
    refine QJ.done ?_
    refine PJ.next ?_
    refine WJ.cond (t := t60) rfl (fun hb63 => ?_) (fun hb63 => ?_)
    · replace hm := ifT hm hb63
      refine WJ.seq ?_
      refine WJ.quiet ?_
      refine QJ.step (YldS.yld (y_assign rfl)) rfl ?_
      refine QJ.done ?_
      refine PJ.next ?_
      refine WJ.ret ?_
      refine PJ.then_ret ?_
      obtain rfl := Option.some.inj hm
      refine PJ.sel (L' := []) [] ⟨List.nodup_nil, rfl⟩ ?_
      exact PJ.retn (vs := [.bool false]) Try.results4 ⟨rfl, trivial⟩ ⟨rfl, rfl⟩
    · replace hm := ifF hm hb63
      refine WJ.skip ?_
      refine PJ.next ?_
      refine WJ.seq ?_
      refine WJ.quiet ?_
      refine QJ.step (YldS.yld (y_loadBN (k := 5) (off := 0) (us := [.int .i64 r10.bars, .int .i64 r10.rise, .int .i64 r10.fall, .int .i64 r10.clear, .int .i64 r10.near]) rfl Try.isAgg25 Try.sizeOf25 rfl rfl)) rfl ?_
      refine QJ.step (YldS.yld (y_move rfl)) rfl ?_
      refine QJ.step (YldS.yld (y_move rfl)) rfl ?_
      obtain ⟨r64, h65, hm⟩ := bindS hm
      refine QJ.step (y_call Try.call26 rfl (RetG.quiet fun w hw => ok_i_BestSwap h65 w _ (hw.nst_rd (k := 3) (j := 4) rfl rfl) _ (hw.row_rd (k := 2) rfl))) rfl ?_
      refine QJ.step (YldS.yld (y_move rfl)) rfl ?_
      refine QJ.step (YldS.yld (y_extract rfl rfl)) rfl ?_
      refine QJ.step (YldS.yld (y_extract rfl rfl)) rfl ?_
      refine QJ.step (YldS.yld (y_extract rfl rfl)) rfl ?_
      refine QJ.step (YldS.yld (y_assign rfl)) rfl ?_
      refine QJ.step (YldS.yld (y_assign rfl)) rfl ?_
      refine QJ.step (YldS.yld (y_assign rfl)) rfl ?_
      refine QJ.done ?_
      refine PJ.next ?_
      refine WJ.seq ?_
      refine WJ.seq ?_
      refine WJ.quiet ?_
      refine QJ.step (YldS.yld (y_move rfl)) rfl ?_
      refine QJ.step (YldS.yld (y_bin rfl rfl rfl)) rfl ?_
      refine QJ.done ?_
      refine PJ.next ?_
      refine WJ.cond (t := (r64.2.2 != 0)) rfl (fun hb66 => ?_) (fun hb66 => ?_)
      · replace hm := ifT hm hb66
        refine WJ.seq ?_
        refine WJ.quiet ?_
        refine QJ.step (YldS.yld (y_move rfl)) rfl ?_
        refine QJ.step (YldS.yld (y_bin rfl rfl rfl)) rfl ?_
        refine QJ.step (YldS.yld (y_move rfl)) rfl ?_
        obtain ⟨t67, h68, hm⟩ := bindS hm
        refine QJ.cut 4 [(148, .bool t67)] ?_ ?_
        · rcases Bool.eq_false_or_eq_true (r64.2.2 == 3) with hb69 | hb69
          · replace h68 := andT h68 hb69
            refine QJ.on rfl rfl (cB hb69) (YldS.yld (y_move rfl)) rfl ?_
            refine QJ.on rfl rfl (cB hb69) (YldS.yld (y_move rfl)) rfl ?_
            refine QJ.on rfl rfl (cB hb69) (YldS.yld (y_bin rfl rfl rfl)) rfl ?_
            refine QJ.step (YldS.yld (y_pick_t (cB hb69) rfl)) rfl ?_
            obtain rfl := Option.some.inj h68
            exact QJ.cut_end ⟨rfl, trivial⟩
          · obtain rfl := andF h68 hb69
            refine QJ.off rfl rfl (cB hb69) rfl rfl ?_
            refine QJ.off rfl rfl (cB hb69) rfl rfl ?_
            refine QJ.off rfl rfl (cB hb69) rfl rfl ?_
            refine QJ.step (YldS.yld (y_pick_f (cB hb69) rfl)) rfl ?_
            exact QJ.cut_end ⟨rfl, trivial⟩
        refine QJ.step (YldS.yld (y_assign rfl)) rfl ?_
        refine QJ.done ?_
        refine PJ.next ?_
        refine WJ.ret ?_
        refine PJ.then_ret ?_
        obtain rfl := Option.some.inj hm
        refine PJ.sel (L' := []) [] ⟨List.nodup_nil, rfl⟩ ?_
        exact PJ.retn (vs := [.bool t67]) Try.results4 ⟨rfl, trivial⟩ ⟨rfl, rfl⟩
      · replace hm := ifF hm hb66
        refine WJ.skip ?_
        refine PJ.next ?_
        refine WJ.seq ?_
        refine WJ.seq ?_
        refine WJ.quiet ?_
        refine QJ.step (YldS.yld (y_move rfl)) rfl ?_
        refine QJ.step (YldS.yld (y_bin rfl rfl rfl)) rfl ?_
        refine QJ.step (YldS.yld (y_move rfl)) rfl ?_
        obtain ⟨t70, h71, hm⟩ := bindS hm
        refine QJ.cut 4 [(5, pt g12 0), (6, v15), (7, v19), (8, .int .i64 r20.1), (18, .int .i64 r32.1), (23, .int .i64 r64.1), (24, .int .i64 r64.2.1), (155, .bool t70)] ?_ ?_
        · rcases Bool.eq_false_or_eq_true (decide (r64.1 < 0)) with hb72 | hb72
          · obtain rfl := orT h71 hb72
            refine QJ.off rfl rfl (cB hb72) rfl rfl ?_
            refine QJ.off rfl rfl (cB hb72) rfl rfl ?_
            refine QJ.off rfl rfl (cB hb72) rfl rfl ?_
            refine QJ.step (YldS.yld (y_pick_t (cB hb72) rfl)) rfl ?_
            exact QJ.cut_end ⟨rfl, rfl, rfl, rfl, rfl, rfl, rfl, rfl, trivial⟩
          · replace h71 := orF h71 hb72
            refine QJ.on rfl rfl (cB hb72) (YldS.yld (y_move rfl)) rfl ?_
            refine QJ.on rfl rfl (cB hb72) (YldS.yld (y_move rfl)) rfl ?_
            refine QJ.on rfl rfl (cB hb72) (YldS.yld (y_bin rfl rfl rfl)) rfl ?_
            refine QJ.step (YldS.yld (y_pick_f (cB hb72) rfl)) rfl ?_
            obtain rfl := Option.some.inj h71
            exact QJ.cut_end ⟨rfl, rfl, rfl, rfl, rfl, rfl, rfl, rfl, trivial⟩
        refine QJ.step (YldS.yld (y_move rfl)) rfl ?_
        obtain ⟨t73, h74, hm⟩ := bindS hm
        refine QJ.cut 5 [(5, pt g12 0), (6, v15), (7, v19), (8, .int .i64 r20.1), (18, .int .i64 r32.1), (23, .int .i64 r64.1), (24, .int .i64 r64.2.1), (161, .bool t73)] ?_ ?_
        · rcases Bool.eq_false_or_eq_true t70 with hb75 | hb75
          · obtain rfl := orT h74 hb75
            refine QJ.off rfl rfl (cB hb75) rfl rfl ?_
            refine QJ.off rfl rfl (cB hb75) rfl rfl ?_
            refine QJ.off rfl rfl (cB hb75) rfl rfl ?_
            refine QJ.off rfl rfl (cB hb75) rfl rfl ?_
            refine QJ.step (YldS.yld (y_pick_t (cB hb75) rfl)) rfl ?_
            exact QJ.cut_end ⟨rfl, rfl, rfl, rfl, rfl, rfl, rfl, rfl, trivial⟩
          · replace h74 := orF h74 hb75
            refine QJ.on rfl rfl (cB hb75) (YldS.yld (y_move rfl)) rfl ?_
            refine QJ.on rfl rfl (cB hb75) (YldS.yld (y_move rfl)) rfl ?_
            refine QJ.on rfl rfl (cB hb75) (YldS.yld (y_lenRow (k := 2) rfl Try.runUnderlying27 rfl)) rfl ?_
            refine QJ.on rfl rfl (cB hb75) (YldS.yld (y_bin rfl rfl rfl)) rfl ?_
            refine QJ.step (YldS.yld (y_pick_f (cB hb75) rfl)) rfl ?_
            obtain rfl := Option.some.inj h74
            exact QJ.cut_end ⟨rfl, rfl, rfl, rfl, rfl, rfl, rfl, rfl, trivial⟩
        refine QJ.done ?_
        refine PJ.next ?_
        refine WJ.cond (t := t73) rfl (fun hb76 => ?_) (fun hb76 => ?_)
        · replace hm := ifT hm hb76
          refine WJ.seq ?_
          refine WJ.quiet ?_
          refine QJ.step (YldS.yld (y_assign rfl)) rfl ?_
          refine QJ.done ?_
          refine PJ.next ?_
          refine WJ.ret ?_
          refine PJ.then_ret ?_
          obtain rfl := Option.some.inj hm
          refine PJ.sel (L' := []) [] ⟨List.nodup_nil, rfl⟩ ?_
          exact PJ.retn (vs := [.bool false]) Try.results4 ⟨rfl, trivial⟩ ⟨rfl, rfl⟩
        · replace hm := ifF hm hb76
          refine WJ.skip ?_
          refine PJ.next ?_
          refine WJ.seq ?_
          refine WJ.reg ?_
          refine SJ.q (YldS.yld (y_loadBN (k := 5) (off := 0) (us := [.int .i64 r10.bars, .int .i64 r10.rise, .int .i64 r10.fall, .int .i64 r10.clear, .int .i64 r10.near]) rfl Try.isAgg25 Try.sizeOf25 rfl rfl)) rfl ?_
          refine SJ.q (YldS.yld (y_move rfl)) rfl ?_
          refine SJ.q (YldS.yld (y_move rfl)) rfl ?_
          refine SJ.q (YldS.yld (y_move rfl)) rfl ?_
          obtain ⟨r77, h78, hm⟩ := bindS hm
          refine SJ.call Try.call27 rfl (fun w hw => ok_i_SwapLetters h78 w _ (hw.row_rd (k := 2) rfl)) rfl ?_
          rintro _ _ ⟨v79, rfl, rfl⟩
          refine SJ.q (YldS.yld (y_move rfl)) rfl ?_
          refine SJ.q (YldS.yld (y_extract rfl rfl)) rfl ?_
          refine SJ.q (YldS.yld (y_extract rfl rfl)) rfl ?_
          refine SJ.q (YldS.yld (y_assign rfl)) rfl ?_
          refine SJ.q (YldS.yld (y_assign rfl)) rfl ?_
          refine SJ.nil ?_
          refine PJ.next ?_
          refine WJ.seq ?_
          refine WJ.quiet ?_
          refine QJ.step (YldS.yld (y_loadBN (k := 6) (off := 0) (us := [.int .i64 r10.bars, .int .i64 r10.rise, .int .i64 r10.fall, .int .i64 r10.clear, .int .i64 r10.near]) rfl Try.isAgg25 Try.sizeOf25 rfl rfl)) rfl ?_
          refine QJ.step (YldS.yld (y_move rfl)) rfl ?_
          refine QJ.step (YldS.yld (y_move rfl)) rfl ?_
          obtain ⟨r80, h81, hm⟩ := bindS hm
          refine QJ.step (y_call Try.call22 rfl (RetG.quiet fun w hw => ok_i_ArrangeCost h81 w _ (hw.nst_rd (k := 4) (j := 5) rfl rfl) _ (hw.row_rd (k := 0) rfl))) rfl ?_
          refine QJ.step (YldS.yld (y_move rfl)) rfl ?_
          refine QJ.step (YldS.yld (y_extract rfl rfl)) rfl ?_
          refine QJ.step (YldS.yld (y_extract rfl rfl)) rfl ?_
          refine QJ.step (YldS.yld (y_assign rfl)) rfl ?_
          refine QJ.step (YldS.yld (y_assign rfl)) rfl ?_
          refine QJ.done ?_
          refine PJ.next ?_
          refine WJ.seq ?_
          refine WJ.reg ?_
          refine SJ.q (YldS.yld (y_loadBN (k := 6) (off := 0) (us := [.int .i64 r10.bars, .int .i64 r10.rise, .int .i64 r10.fall, .int .i64 r10.clear, .int .i64 r10.near]) rfl Try.isAgg25 Try.sizeOf25 rfl rfl)) rfl ?_
          refine SJ.q (YldS.yld (y_move rfl)) rfl ?_
          refine SJ.q (YldS.yld (y_move rfl)) rfl ?_
          refine SJ.q (YldS.yld (y_move rfl)) rfl ?_
          obtain ⟨r82, h83, hm⟩ := bindS hm
          refine SJ.call Try.call27 rfl (fun w hw => ok_i_SwapLetters h83 w _ (hw.row_rd (k := 0) rfl)) rfl ?_
          rintro _ _ ⟨v84, rfl, rfl⟩
          refine SJ.q (YldS.yld (y_move rfl)) rfl ?_
          refine SJ.q (YldS.yld (y_extract rfl rfl)) rfl ?_
          refine SJ.q (YldS.yld (y_extract rfl rfl)) rfl ?_
          refine SJ.q (YldS.yld (y_assign rfl)) rfl ?_
          refine SJ.q (YldS.yld (y_assign rfl)) rfl ?_
          refine SJ.nil ?_
          refine PJ.next ?_
          refine WJ.seq ?_
          refine WJ.quiet ?_
          refine QJ.step (YldS.yld (y_move rfl)) rfl ?_
          refine QJ.step (YldS.yld (y_bin rfl rfl rfl)) rfl ?_
          refine QJ.step (YldS.yld (y_move rfl)) rfl ?_
          obtain ⟨t85, h86, hm⟩ := bindS hm
          refine QJ.cut 3 [(7, v19), (8, .int .i64 r20.1), (18, .int .i64 r32.1), (28, .int .i64 r80.1), (30, v84), (31, .int .i64 r82.2), (190, .bool t85)] ?_ ?_
          · rcases Bool.eq_false_or_eq_true (r77.2 == 0) with hb87 | hb87
            · replace h86 := andT h86 hb87
              refine QJ.on rfl rfl (cB hb87) (YldS.yld (y_move rfl)) rfl ?_
              refine QJ.on rfl rfl (cB hb87) (YldS.yld (y_bin rfl rfl rfl)) rfl ?_
              refine QJ.step (YldS.yld (y_pick_t (cB hb87) rfl)) rfl ?_
              obtain rfl := Option.some.inj h86
              exact QJ.cut_end ⟨rfl, rfl, rfl, rfl, rfl, rfl, rfl, trivial⟩
            · obtain rfl := andF h86 hb87
              refine QJ.off rfl rfl (cB hb87) rfl rfl ?_
              refine QJ.off rfl rfl (cB hb87) rfl rfl ?_
              refine QJ.step (YldS.yld (y_pick_f (cB hb87) rfl)) rfl ?_
              exact QJ.cut_end ⟨rfl, rfl, rfl, rfl, rfl, rfl, rfl, trivial⟩
          refine QJ.step (YldS.yld (y_move rfl)) rfl ?_
          obtain ⟨t88, h89, hm⟩ := bindS hm
          refine QJ.cut 4 [(7, v19), (18, .int .i64 r32.1), (28, .int .i64 r80.1), (30, v84), (31, .int .i64 r82.2), (195, .bool t88)] ?_ ?_
          · rcases Bool.eq_false_or_eq_true t85 with hb90 | hb90
            · replace h89 := andT h89 hb90
              refine QJ.on rfl rfl (cB hb90) (YldS.yld (y_move rfl)) rfl ?_
              refine QJ.on rfl rfl (cB hb90) (YldS.yld (y_move rfl)) rfl ?_
              refine QJ.on rfl rfl (cB hb90) (YldS.yld (y_bin rfl rfl rfl)) rfl ?_
              refine QJ.step (YldS.yld (y_pick_t (cB hb90) rfl)) rfl ?_
              obtain rfl := Option.some.inj h89
              exact QJ.cut_end ⟨rfl, rfl, rfl, rfl, rfl, rfl, trivial⟩
            · obtain rfl := andF h89 hb90
              refine QJ.off rfl rfl (cB hb90) rfl rfl ?_
              refine QJ.off rfl rfl (cB hb90) rfl rfl ?_
              refine QJ.off rfl rfl (cB hb90) rfl rfl ?_
              refine QJ.step (YldS.yld (y_pick_f (cB hb90) rfl)) rfl ?_
              exact QJ.cut_end ⟨rfl, rfl, rfl, rfl, rfl, rfl, trivial⟩
          refine QJ.step (YldS.yld (y_move rfl)) rfl ?_
          obtain ⟨t91, h92, hm⟩ := bindS hm
          refine QJ.cut 4 [(7, v19), (30, v84), (31, .int .i64 r82.2), (200, .bool t91)] ?_ ?_
          · rcases Bool.eq_false_or_eq_true t88 with hb93 | hb93
            · replace h92 := andT h92 hb93
              refine QJ.on rfl rfl (cB hb93) (YldS.yld (y_move rfl)) rfl ?_
              refine QJ.on rfl rfl (cB hb93) (YldS.yld (y_move rfl)) rfl ?_
              refine QJ.on rfl rfl (cB hb93) (YldS.yld (y_bin rfl rfl rfl)) rfl ?_
              refine QJ.step (YldS.yld (y_pick_t (cB hb93) rfl)) rfl ?_
              obtain rfl := Option.some.inj h92
              exact QJ.cut_end ⟨rfl, rfl, rfl, rfl, trivial⟩
            · obtain rfl := andF h92 hb93
              refine QJ.off rfl rfl (cB hb93) rfl rfl ?_
              refine QJ.off rfl rfl (cB hb93) rfl rfl ?_
              refine QJ.off rfl rfl (cB hb93) rfl rfl ?_
              refine QJ.step (YldS.yld (y_pick_f (cB hb93) rfl)) rfl ?_
              exact QJ.cut_end ⟨rfl, rfl, rfl, rfl, trivial⟩
          refine QJ.step (YldS.yld (y_move rfl)) rfl ?_
          obtain ⟨t94, h95, hm⟩ := bindS hm
          refine QJ.cut 3 [(7, v19), (30, v84), (204, .bool t94)] ?_ ?_
          · rcases Bool.eq_false_or_eq_true t91 with hb96 | hb96
            · replace h95 := andT h95 hb96
              refine QJ.on rfl rfl (cB hb96) (YldS.yld (y_move rfl)) rfl ?_
              refine QJ.on rfl rfl (cB hb96) (YldS.yld (y_bin rfl rfl rfl)) rfl ?_
              refine QJ.step (YldS.yld (y_pick_t (cB hb96) rfl)) rfl ?_
              obtain rfl := Option.some.inj h95
              exact QJ.cut_end ⟨rfl, rfl, rfl, trivial⟩
            · obtain rfl := andF h95 hb96
              refine QJ.off rfl rfl (cB hb96) rfl rfl ?_
              refine QJ.off rfl rfl (cB hb96) rfl rfl ?_
              refine QJ.step (YldS.yld (y_pick_f (cB hb96) rfl)) rfl ?_
              exact QJ.cut_end ⟨rfl, rfl, rfl, trivial⟩
          refine QJ.step (YldS.yld (y_move rfl)) rfl ?_
          obtain ⟨t97, h98, hm⟩ := bindS hm
          refine QJ.cut 4 [(209, .bool t97)] ?_ ?_
          · rcases Bool.eq_false_or_eq_true t94 with hb99 | hb99
            · replace h98 := andT h98 hb99
              refine QJ.on rfl rfl (cB hb99) (YldS.yld (y_move rfl)) rfl ?_
              refine QJ.on rfl rfl (cB hb99) (YldS.yld (y_move rfl)) rfl ?_
              obtain ⟨r100, h101, h98⟩ := bindS h98
              refine QJ.on rfl rfl (cB hb99) (y_call Try.call28 rfl (RetG.quiet fun w hw => ok_w_a2Same h101 w _ (hw.row_rd (k := 0) rfl) _ (hw.row_rd (k := 4) rfl))) rfl ?_
              refine QJ.step (YldS.yld (y_pick_t (cB hb99) rfl)) rfl ?_
              obtain rfl := Option.some.inj h98
              exact QJ.cut_end ⟨rfl, trivial⟩
            · obtain rfl := andF h98 hb99
              refine QJ.off rfl rfl (cB hb99) rfl rfl ?_
              refine QJ.off rfl rfl (cB hb99) rfl rfl ?_
              refine QJ.off rfl rfl (cB hb99) rfl rfl ?_
              refine QJ.step (YldS.yld (y_pick_f (cB hb99) rfl)) rfl ?_
              exact QJ.cut_end ⟨rfl, trivial⟩
          refine QJ.step (YldS.yld (y_assign rfl)) rfl ?_
          refine QJ.done ?_
          refine PJ.next ?_
          refine WJ.ret ?_
          obtain rfl := Option.some.inj hm
          refine PJ.sel (L' := []) [] ⟨List.nodup_nil, rfl⟩ ?_
          exact PJ.retn (vs := [.bool t97]) Try.results4 ⟨rfl, trivial⟩ ⟨rfl, rfl⟩

end Go.Proofs.Ytjnijhdhniemnaa
