/-
  The walks: a call hands back what its plain function computes, where that has a value. No other conditions.
-/
import Derived.Test.YtimcachjcocjmaaFnRowPlansM
import Derived.Test.YtimcachjcocjmaaChecked
namespace Go.Proofs.Ytimcachjcocjmaa
open Go.RowKit Go.Proofs
set_option linter.unusedVariables false
set_option linter.unusedSimpArgs false

theorem follows : Try.prog.follows .mixedOrders = true := by kernel_rfl

theorem pl126 : PlacesOk Try.prog 126 [(0, 1), (1, 1), (2, 1)] := ⟨_, Try.runUnderlying126, fun w => by simp [Try.sizeOf3, Try.sizeOf22, Try.sizeOf124]⟩
theorem fld126_1 : FieldOk Try.prog 126 1 1 3 0 := ⟨_, _, Try.runUnderlying126, rfl, rfl, rfl, Try.sizeOf3⟩
theorem fld126_0 : FieldOk Try.prog 126 0 0 22 0 := ⟨_, _, Try.runUnderlying126, rfl, rfl, rfl, Try.sizeOf22⟩
theorem fld126_2 : FieldOk Try.prog 126 2 2 124 0 := ⟨_, _, Try.runUnderlying126, rfl, rfl, rfl, Try.sizeOf124⟩
set_option maxRecDepth 100000 in
theorem el2 : ElemOk Try.prog 2 1 (fI64.enc 0) := ⟨_, _, Try.type2, rfl, rfl, rfl, by decide⟩
set_option maxRecDepth 100000 in
theorem el5 : ElemOk Try.prog 5 1 (fByte.enc 0) := ⟨_, _, Try.type5, rfl, rfl, rfl, by decide⟩
set_option maxRecDepth 100000 in
theorem zv161 : ∀ w, (zeroValue 161).run Try.prog w = .ok (.agg (List.toArray (encs fI64 (List.replicate 31 (0 : Int))))) w := fun w => by
  rw [Try.zeroValue161]
  refine congrArg (fun z => Result.ok (Value.agg z) w) ?_
  kernel_rfl
set_option maxRecDepth 100000 in
theorem zv88 : ∀ w, (zeroValue 88).run Try.prog w = .ok (.agg (List.toArray (encs fBool (List.replicate 30 false)))) w := fun w => by
  rw [Try.zeroValue88]
  refine congrArg (fun z => Result.ok (Value.agg z) w) ?_
  kernel_rfl

set_option maxRecDepth 100000 in
set_option maxHeartbeats 1000000 in
theorem ok_w_a2Long {code1 : List UInt8} {more4 : List UInt8} {r : Bool} (hm : w_a2Long code1 more4 = some r) (w : World) (v2 : Value) (hr3 : RdS w (cx w).Fz v2 fByte.rp code1) (v5 : Value) (hr6 : RdS w (cx w).Fz v5 fByte.rp more4) :
    Calls Try.prog 9 #[v2, v5] w (Ret (cx w) (.bool r)) := by
  unfold w_a2Long at hm
  refine Calls.enter [v2, v5] Try.func9 rfl Try.ntmps9 rfl ?_
  refine WJ.seq ?_
  refine WJ.quiet ?_
  refine QJ.step (YldS.yld (y_assign rfl)) rfl ?_
  refine QJ.done ?_
  refine PJ.next ?_
  refine WJ.seq ?_
  refine WJ.quiet ?_
  refine QJ.step (YldS.yld (y_move rfl)) rfl ?_
  refine QJ.step (YldS.yld (y_lenS Try.runUnderlying22 hr3 rfl)) rfl ?_
  refine QJ.step (YldS.yld (y_bin rfl rfl rfl)) rfl ?_
  refine QJ.step (YldS.yld (y_move rfl)) rfl ?_
  obtain ⟨t7, h8, hm⟩ := bindS hm
  refine QJ.cut 4 [(12, .bool t7)] ?_ ?_
  · rcases Bool.eq_false_or_eq_true (decide ((List.length code1 : Int) > 3000)) with hb9 | hb9
    · obtain rfl := orT h8 hb9
      refine QJ.off rfl rfl (cB hb9) rfl rfl ?_
      refine QJ.off rfl rfl (cB hb9) rfl rfl ?_
      refine QJ.off rfl rfl (cB hb9) rfl rfl ?_
      refine QJ.step (YldS.yld (y_pick_t (cB hb9) rfl)) rfl ?_
      exact QJ.cut_end ⟨rfl, trivial⟩
    · replace h8 := orF h8 hb9
      refine QJ.on rfl rfl (cB hb9) (YldS.yld (y_move rfl)) rfl ?_
      refine QJ.on rfl rfl (cB hb9) (YldS.yld (y_lenS Try.runUnderlying22 hr6 rfl)) rfl ?_
      refine QJ.on rfl rfl (cB hb9) (YldS.yld (y_bin rfl rfl rfl)) rfl ?_
      refine QJ.step (YldS.yld (y_pick_f (cB hb9) rfl)) rfl ?_
      obtain rfl := Option.some.inj h8
      exact QJ.cut_end ⟨rfl, trivial⟩
  refine QJ.step (YldS.yld (y_assign rfl)) rfl ?_
  refine QJ.done ?_
  refine PJ.next ?_
  refine WJ.ret ?_
  obtain rfl := Option.some.inj hm
  refine PJ.sel (L' := []) [] ⟨List.nodup_nil, rfl⟩ ?_
  exact PJ.retn (vs := [.bool t7]) Try.results9 ⟨rfl, trivial⟩ ⟨rfl, rfl⟩

set_option maxRecDepth 100000 in
set_option maxHeartbeats 1000000 in
theorem ok_s_l00From {code1 : List UInt8} {r : L00Src} (hm : s_l00From code1 = some r) (w : World) (v2 : Value) (hr3 : RdS w (cx w).Fz v2 fByte.rp code1) :
    Calls Try.prog 59 #[v2] w (RetG (cx w) fun u L => ∃ (u1 : Nat), (u = pt u1 0 ∧ L = [box u1 126 [v2, .int .i64 r.at_, .int .u64 r.seed]])) := by
  unfold s_l00From at hm
  refine Calls.enter [v2] Try.func59 rfl Try.ntmps59 rfl ?_
  refine WJ.seq ?_
  refine WJ.quiet ?_
  refine QJ.step (YldS.yld (y_assign rfl)) rfl ?_
  refine QJ.done ?_
  refine PJ.next ?_
  refine WJ.seq ?_
  refine WJ.reg ?_
  refine SJ.q (YldS.yld (y_move rfl)) rfl ?_
  refine SJ.q (YldS.yld (y_build (parts := [(0, .tmp 3)]) (places := [(0, 1), (1, 1), (2, 1)]) (r := [v2, .int .i64 0, .int .u64 0]) pl126 Try.zeroValue126 rfl rfl (show _ = [(0, [v2])] from by simp only [List.map, RdS.cells1 hr3]) rfl)) rfl ?_
  refine SJ.box (cs := [v2, .int .i64 0, .int .u64 0]) rfl rfl rfl fun g4 => ?_
  refine SJ.q (YldS.yld (y_assign rfl)) rfl ?_
  refine SJ.nil ?_
  refine PJ.next ?_
  refine WJ.ret ?_
  obtain rfl := Option.some.inj hm
  refine PJ.sel (L' := [box g4 126 [v2, .int .i64 0, .int .u64 0]]) [0] ⟨by decide, rfl⟩ ?_
  exact PJ.retn (vs := [pt g4 0]) Try.results59 ⟨rfl, trivial⟩ ⟨_, rfl, rfl⟩

set_option maxRecDepth 100000 in
set_option maxHeartbeats 1000000 in
theorem ok_s_l00Src_next {s1 : L00Src} {g2 : Nat} {r : Int × L00Src} (hm : s_l00Src_next s1 = some r) (w : World) (S : Nat → Prop) (v3 : Value) (hr4 : RdS w (Cx.Fz ⟨w, S⟩) v3 fByte.rp s1.code) (hA : (box g2 126 [v3, .int .i64 s1.at_, .int .u64 s1.seed]).holds w S) :
    Calls Try.prog 110 #[pt g2 0] w (RetG ⟨w, S⟩ fun u L => (u = .int .i64 r.1 ∧ L = [box g2 126 [v3, .int .i64 r.2.at_, .int .u64 r.2.seed]])) := by
  unfold s_l00Src_next at hm
  refine Calls.enter1 hA [pt g2 0] Try.func110 rfl Try.ntmps110 rfl ?_
  refine WJ.seq ?_
  refine WJ.quiet ?_
  refine QJ.step (YldS.yld (y_assign rfl)) rfl ?_
  refine QJ.done ?_
  refine PJ.next ?_
  refine WJ.seq ?_
  refine WJ.quiet ?_
  refine QJ.step (YldS.yld (y_assign rfl)) rfl ?_
  refine QJ.done ?_
  refine PJ.next ?_
  obtain ⟨kj6, hk7, hm⟩ := withK_open hm
  refine WJ.join (X := Int) (fun (x : Int) => kj6 x = some r) (fun (x : Int) => [(0, pt g2 0), (3, .int .i64 x)]) (fun (x : Int) => [box g2 126 [v3, .int .i64 s1.at_, .int .u64 s1.seed]]) ?_ ?_
  · clear hk7
    refine WJ.seq ?_
    refine WJ.quiet_draw follows (by kernel_rfl) ?_
    refine QJ.step (YldS.yld (y_move rfl)) rfl ?_
    refine QJ.step (YldS.yld (y_nil rfl)) rfl ?_
    refine QJ.step (YldS.yld (y_fldB (o := 0) fld126_1 rfl)) rfl ?_
    refine QJ.step (YldS.yld (y_loadB (k := 0) (off := 1) (v := .int .i64 s1.at_) rfl Try.isAgg3 rfl rfl)) rfl ?_
    refine QJ.step (YldS.yld (y_move rfl)) rfl ?_
    refine QJ.step (YldS.yld (y_nil rfl)) rfl ?_
    refine QJ.step (YldS.yld (y_fldB (o := 0) fld126_0 rfl)) rfl ?_
    refine QJ.step (YldS.yld (y_loadB (k := 0) (off := 0) (v := v3) rfl Try.isAgg22 rfl rfl)) rfl ?_
    refine QJ.step (YldS.yld (y_lenS Try.runUnderlying22 hr4 rfl)) rfl ?_
    refine QJ.step (YldS.yld (y_bin rfl rfl rfl)) rfl ?_
    refine QJ.done ?_
    refine PJ.next ?_
    refine WJ.cond (t := decide (s1.at_ < (List.length s1.code : Int))) rfl (fun hb8 => ?_) (fun hb8 => ?_)
    · replace hm := ifT hm hb8
      refine WJ.quiet_draw follows (by kernel_rfl) ?_
      refine QJ.step (YldS.yld (y_move rfl)) rfl ?_
      refine QJ.step (YldS.yld (y_nil rfl)) rfl ?_
      refine QJ.step (YldS.yld (y_fldB (o := 0) fld126_0 rfl)) rfl ?_
      refine QJ.step (YldS.yld (y_loadB (k := 0) (off := 0) (v := v3) rfl Try.isAgg22 rfl rfl)) rfl ?_
      refine QJ.step (YldS.yld (y_move rfl)) rfl ?_
      refine QJ.step (YldS.yld (y_nil rfl)) rfl ?_
      refine QJ.step (YldS.yld (y_fldB (o := 0) fld126_1 rfl)) rfl ?_
      refine QJ.step (YldS.yld (y_loadB (k := 0) (off := 1) (v := .int .i64 s1.at_) rfl Try.isAgg3 rfl rfl)) rfl ?_
      obtain ⟨e9, h10, hm⟩ := bindS hm
      obtain ⟨ad11, _, rfl, ha12, hy13⟩ := hr4.elem h10
      refine QJ.step (YldS.yld (hy13 Try.runUnderlying22 Try.sizeOf5 rfl rfl)) rfl ?_
      refine QJ.step (YldS.yld (y_load1 (v := .int .u8 (UInt8.toNat e9 : Int)) Try.isAgg5 ha12 St.frozenC rfl)) rfl ?_
      refine QJ.step (YldS.yld (y_conv8 Try.runUnderlying5 Try.runUnderlying3 rfl)) rfl ?_
      refine QJ.step (YldS.yld (y_assign rfl)) rfl ?_
      refine QJ.done ?_
      exact PJ.joined (UInt8.toNat e9 : Int) [0] hm ⟨rfl, rfl, trivial⟩ ⟨by decide, rfl⟩
    · replace hm := ifF hm hb8
      refine WJ.skip ?_
      exact PJ.joined 0 [0] hm ⟨rfl, rfl, trivial⟩ ⟨by decide, rfl⟩
  · rintro b5 hm
    subst hk7
    refine WJ.seq ?_
    refine WJ.reg ?_
    refine SJ.q (YldS.yld (y_move rfl)) rfl ?_
    refine SJ.q (YldS.yld (y_nil rfl)) rfl ?_
    refine SJ.q (YldS.yld (y_fldB (o := 0) fld126_1 rfl)) rfl ?_
    refine SJ.q (YldS.yld (y_loadB (k := 0) (off := 1) (v := .int .i64 s1.at_) rfl Try.isAgg3 rfl rfl)) rfl ?_
    refine SJ.q (YldS.yld (y_bin rfl rfl rfl)) rfl ?_
    refine SJ.q (YldS.yld (y_nil rfl)) rfl ?_
    refine SJ.q (YldS.yld (y_fldB (o := 0) fld126_1 rfl)) rfl ?_
    refine SJ.storeL (k := 0) (off := 1) (us := [.int .i64 (w64 (s1.at_ + 1))]) rfl rfl rfl rfl Try.sizeOf3 rfl rfl ?_
    refine SJ.nil ?_
    refine PJ.next ?_
    refine WJ.seq ?_
    refine WJ.reg ?_
    refine SJ.q (YldS.yld (y_move rfl)) rfl ?_
    refine SJ.q (YldS.yld (y_move rfl)) rfl ?_
    refine SJ.q (YldS.yld (y_nil rfl)) rfl ?_
    refine SJ.q (YldS.yld (y_fldB (o := 0) fld126_2 rfl)) rfl ?_
    refine SJ.q (YldS.yld (y_loadB (k := 0) (off := 2) (v := .int .u64 s1.seed) rfl Try.isAgg124 rfl rfl)) rfl ?_
    refine SJ.q (YldS.yld (y_bin rfl rfl rfl)) rfl ?_
    refine SJ.q (YldS.yld (y_move rfl)) rfl ?_
    refine SJ.q (YldS.yld (y_convI Try.runUnderlying3 Try.runUnderlying124 rfl)) rfl ?_
    refine SJ.q (YldS.yld (y_bin rfl rfl rfl)) rfl ?_
    refine SJ.q (YldS.yld (y_bin rfl rfl rfl)) rfl ?_
    refine SJ.q (YldS.yld (y_nil rfl)) rfl ?_
    refine SJ.q (YldS.yld (y_fldB (o := 0) fld126_2 rfl)) rfl ?_
    refine SJ.storeL (k := 0) (off := 2) (us := [.int .u64 (IntKind.u64.wrap ((IntKind.u64.wrap ((IntKind.u64.wrap (s1.seed * 6364136223846793005)) + (IntKind.u64.wrap b5))) + 1442695040888963407))]) rfl rfl rfl rfl Try.sizeOf124 rfl rfl ?_
    refine SJ.nil ?_
    refine PJ.next ?_
    refine WJ.seq ?_
    refine WJ.seq ?_
    refine WJ.quiet_draw follows (by kernel_rfl) ?_
    refine QJ.step (YldS.yld (y_move rfl)) rfl ?_
    refine QJ.step (YldS.yld (y_nil rfl)) rfl ?_
    refine QJ.step (YldS.yld (y_fldB (o := 0) fld126_1 rfl)) rfl ?_
    refine QJ.step (YldS.yld (y_loadB (k := 0) (off := 1) (v := .int .i64 (w64 (s1.at_ + 1))) rfl Try.isAgg3 rfl rfl)) rfl ?_
    refine QJ.step (YldS.yld (y_move rfl)) rfl ?_
    refine QJ.step (YldS.yld (y_nil rfl)) rfl ?_
    refine QJ.step (YldS.yld (y_fldB (o := 0) fld126_0 rfl)) rfl ?_
    refine QJ.step (YldS.yld (y_loadB (k := 0) (off := 0) (v := v3) rfl Try.isAgg22 rfl rfl)) rfl ?_
    refine QJ.step (YldS.yld (y_lenS Try.runUnderlying22 hr4 rfl)) rfl ?_
    refine QJ.step (YldS.yld (y_bin rfl rfl rfl)) rfl ?_
    refine QJ.done ?_
    refine PJ.next ?_
    refine WJ.cond (t := decide ((w64 (s1.at_ + 1)) ≤ (List.length s1.code : Int))) rfl (fun hb14 => ?_) (fun hb14 => ?_)
    · replace hm := ifT hm hb14
      refine WJ.seq ?_
      refine WJ.quiet ?_
      refine QJ.step (YldS.yld (y_move rfl)) rfl ?_
      refine QJ.step (YldS.yld (y_assign rfl)) rfl ?_
      refine QJ.done ?_
      refine PJ.next ?_
      refine WJ.ret ?_
      refine PJ.then_ret ?_
      obtain rfl := Option.some.inj hm
      refine PJ.sel (L' := [box g2 126 [v3, .int .i64 (w64 (s1.at_ + 1)), .int .u64 (IntKind.u64.wrap ((IntKind.u64.wrap ((IntKind.u64.wrap (s1.seed * 6364136223846793005)) + (IntKind.u64.wrap b5))) + 1442695040888963407))]]) [0] ⟨by decide, rfl⟩ ?_
      exact PJ.retn (vs := [.int .i64 b5]) Try.results110 ⟨rfl, trivial⟩ ⟨rfl, rfl⟩
    · replace hm := ifF hm hb14
      refine WJ.skip ?_
      refine PJ.next ?_
      refine WJ.seq ?_
      refine WJ.quiet ?_
      refine QJ.step (YldS.yld (y_move rfl)) rfl ?_
      refine QJ.step (YldS.yld (y_nil rfl)) rfl ?_
      refine QJ.step (YldS.yld (y_fldB (o := 0) fld126_2 rfl)) rfl ?_
      refine QJ.step (YldS.yld (y_loadB (k := 0) (off := 2) (v := .int .u64 (IntKind.u64.wrap ((IntKind.u64.wrap ((IntKind.u64.wrap (s1.seed * 6364136223846793005)) + (IntKind.u64.wrap b5))) + 1442695040888963407))) rfl Try.isAgg124 rfl rfl)) rfl ?_
      refine QJ.step (YldS.yld (y_shru rfl rfl rfl)) rfl ?_
      refine QJ.step (YldS.yld (y_andu rfl rfl rfl)) rfl ?_
      refine QJ.step (YldS.yld (y_convI Try.runUnderlying124 Try.runUnderlying2 rfl)) rfl ?_
      refine QJ.step (YldS.yld (y_assign rfl)) rfl ?_
      refine QJ.done ?_
      refine PJ.next ?_
      refine WJ.ret ?_
      obtain rfl := Option.some.inj hm
      refine PJ.sel (L' := [box g2 126 [v3, .int .i64 (w64 (s1.at_ + 1)), .int .u64 (IntKind.u64.wrap ((IntKind.u64.wrap ((IntKind.u64.wrap (s1.seed * 6364136223846793005)) + (IntKind.u64.wrap b5))) + 1442695040888963407))]]) [0] ⟨by decide, rfl⟩ ?_
      exact PJ.retn (vs := [.int .i64 (w64 (uand (ushr (IntKind.u64.wrap ((IntKind.u64.wrap ((IntKind.u64.wrap (s1.seed * 6364136223846793005)) + (IntKind.u64.wrap b5))) + 1442695040888963407)) 40) 255))]) Try.results110 ⟨rfl, trivial⟩ ⟨rfl, rfl⟩

set_option maxRecDepth 100000 in
set_option maxHeartbeats 1000000 in
theorem ok_s_l00Src_pick {s1 : L00Src} {n5 : Int} {g2 : Nat} {r : Int × L00Src} (hm : s_l00Src_pick s1 n5 = some r) (w : World) (S : Nat → Prop) (v3 : Value) (hr4 : RdS w (Cx.Fz ⟨w, S⟩) v3 fByte.rp s1.code) (hA : (box g2 126 [v3, .int .i64 s1.at_, .int .u64 s1.seed]).holds w S) :
    Calls Try.prog 60 #[pt g2 0, .int .i64 n5] w (RetG ⟨w, S⟩ fun u L => (u = .int .i64 r.1 ∧ L = [box g2 126 [v3, .int .i64 r.2.at_, .int .u64 r.2.seed]])) := by
  unfold s_l00Src_pick at hm
  refine Calls.enter1 hA [pt g2 0, .int .i64 n5] Try.func60 rfl Try.ntmps60 rfl ?_
  refine WJ.seq ?_
  refine WJ.quiet ?_
  refine QJ.step (YldS.yld (y_assign rfl)) rfl ?_
  refine QJ.done ?_
  refine PJ.next ?_
  refine WJ.seq ?_
  refine WJ.seq ?_
  refine WJ.quiet ?_
  refine QJ.step (YldS.yld (y_move rfl)) rfl ?_
  refine QJ.step (YldS.yld (y_bin rfl rfl rfl)) rfl ?_
  refine QJ.done ?_
  refine PJ.next ?_
  refine WJ.cond (t := decide (n5 ≤ 1)) rfl (fun hb6 => ?_) (fun hb6 => ?_)
  · replace hm := ifT hm hb6
    refine WJ.seq ?_
    refine WJ.quiet ?_
    refine QJ.step (YldS.yld (y_assign rfl)) rfl ?_
    refine QJ.done ?_
    refine PJ.next ?_
    refine WJ.ret ?_
    refine PJ.then_ret ?_
    obtain rfl := Option.some.inj hm
    refine PJ.sel (L' := [box g2 126 [v3, .int .i64 s1.at_, .int .u64 s1.seed]]) [0] ⟨by decide, rfl⟩ ?_
    exact PJ.retn (vs := [.int .i64 0]) Try.results60 ⟨rfl, trivial⟩ ⟨rfl, rfl⟩
  · replace hm := ifF hm hb6
    refine WJ.skip ?_
    refine PJ.next ?_
    refine WJ.seq ?_
    refine WJ.reg ?_
    refine SJ.q (YldS.yld (y_move rfl)) rfl ?_
    obtain ⟨r7, h8, hm⟩ := bindS hm
    refine SJ.call1 (k := 0) rfl Try.call110 rfl (fun w S hw hA hO => ok_s_l00Src_next h8 w S _ (hr4.st1 hw hO) hA) rfl ?_
    rintro _ _ ⟨rfl, rfl⟩
    refine SJ.q (YldS.yld (y_assign rfl)) rfl ?_
    refine SJ.nil ?_
    refine PJ.next ?_
    obtain ⟨kj12, hk13, hm⟩ := withK_open hm
    refine WJ.join (X := Int × Int × Int) (fun (x : Int × Int × Int) => kj12 x.1 x.2.1 x.2.2 = some r) (fun (x : Int × Int × Int) => [(1, .int .i64 n5), (5, .int .i64 x.2.2)]) (fun (x : Int × Int × Int) => [box g2 126 [v3, .int .i64 x.1, .int .u64 x.2.1]]) ?_ ?_
    · clear hk13
      refine WJ.seq ?_
      refine WJ.quiet ?_
      refine QJ.step (YldS.yld (y_move rfl)) rfl ?_
      refine QJ.step (YldS.yld (y_bin rfl rfl rfl)) rfl ?_
      refine QJ.done ?_
      refine PJ.next ?_
      refine WJ.cond (t := decide (n5 > 200)) rfl (fun hb14 => ?_) (fun hb14 => ?_)
      · replace hm := ifT hm hb14
        refine WJ.reg ?_
        refine SJ.q (YldS.yld (y_move rfl)) rfl ?_
        refine SJ.q (YldS.yld (y_bin rfl rfl rfl)) rfl ?_
        refine SJ.q (YldS.yld (y_move rfl)) rfl ?_
        obtain ⟨r15, h16, hm⟩ := bindS hm
        refine SJ.call1 (k := 0) rfl Try.call110 rfl (fun w S hw hA hO => ok_s_l00Src_next h16 w S _ (hr4.st1 hw hO) hA) rfl ?_
        rintro _ _ ⟨rfl, rfl⟩
        refine SJ.q (YldS.yld (y_bin rfl rfl rfl)) rfl ?_
        refine SJ.q (YldS.yld (y_assign rfl)) rfl ?_
        refine SJ.nil ?_
        exact PJ.joined (r15.2.at_, r15.2.seed, w64 ((w64 (r7.1 * 256)) + r15.1)) [0] hm ⟨rfl, rfl, trivial⟩ ⟨by decide, rfl⟩
      · replace hm := ifF hm hb14
        refine WJ.skip ?_
        exact PJ.joined (r7.2.at_, r7.2.seed, r7.1) [0] hm ⟨rfl, rfl, trivial⟩ ⟨by decide, rfl⟩
    · rintro ⟨x9, x10, x11⟩ hm
      subst hk13
      refine WJ.seq ?_
      refine WJ.quiet ?_
      refine QJ.step (YldS.yld (y_move rfl)) rfl ?_
      refine QJ.step (YldS.yld (y_move rfl)) rfl ?_
      obtain ⟨q17, h18, hm⟩ := bindS hm
      refine QJ.step (YldS.yld (y_rem' h18 rfl rfl)) rfl ?_
      refine QJ.step (YldS.yld (y_assign rfl)) rfl ?_
      refine QJ.done ?_
      refine PJ.next ?_
      refine WJ.ret ?_
      obtain rfl := Option.some.inj hm
      refine PJ.sel (L' := [box g2 126 [v3, .int .i64 x9, .int .u64 x10]]) [0] ⟨by decide, rfl⟩ ?_
      exact PJ.retn (vs := [.int .i64 q17]) Try.results60 ⟨rfl, trivial⟩ ⟨rfl, rfl⟩

set_option maxRecDepth 100000 in
set_option maxHeartbeats 1000000 in
theorem ok_s_A2Stops {N : Nat} {code1 : List UInt8} {r : (List Int)} (hm : s_A2Stops N code1 = some r) (w : World) (v2 : Value) (hr3 : RdS w (cx w).Fz v2 fByte.rp code1) :
    Calls Try.prog 10 #[v2] w (RetG (cx w) fun u L => ∃ (u1 : Value), (u = u1 ∧ L = [row u1 2 fI64 r])) := by
  unfold s_A2Stops at hm
  refine Calls.enter [v2] Try.func10 rfl Try.ntmps10 rfl ?_
  refine WJ.seq ?_
  refine WJ.quiet ?_
  refine QJ.step (YldS.yld (y_assign rfl)) rfl ?_
  refine QJ.done ?_
  refine PJ.next ?_
  refine WJ.seq ?_
  refine WJ.reg ?_
  refine SJ.q (YldS.yld (y_move rfl)) rfl ?_
  obtain ⟨r4, h5, hm⟩ := bindS hm
  refine SJ.call Try.call59 rfl (fun w hw => ok_s_l00From h5 w _ (hr3.st hw)) rfl ?_
  rintro _ _ ⟨g6, rfl, rfl⟩
  refine SJ.q (YldS.yld (y_assign rfl)) rfl ?_
  refine SJ.nil ?_
  refine PJ.next ?_
  refine WJ.seq ?_
  refine WJ.reg ?_
  refine SJ.buildSlice (R := fI64) (os := []) [] Try.runUnderlying24 Try.sizeOf2 Try.zeroValue2 rfl rfl rfl rfl rfl rfl fun v7 => ?_
  refine SJ.q (YldS.yld (y_assign rfl)) rfl ?_
  refine SJ.nil ?_
  refine PJ.next ?_
  refine WJ.seq ?_
  refine WJ.quiet ?_
  refine QJ.step (YldS.yld (y_assign rfl)) rfl ?_
  refine QJ.done ?_
  refine PJ.next ?_
  obtain ⟨kj10, hk11, hm⟩ := withK_open hm
  refine WJ.join (X := (List Int) × Value) (fun (x : (List Int) × Value) => kj10 x.1 = some r) (fun (x : (List Int) × Value) => [(4, x.2)]) (fun (x : (List Int) × Value) => [row x.2 2 fI64 x.1]) ?_ ?_
  · clear hk11
    refine WJ.seq ?_
    refine WJ.reg ?_
    refine SJ.q (YldS.yld (y_move rfl)) rfl ?_
    obtain ⟨r12, h13, hm⟩ := bindS hm
    refine SJ.call1 (k := 1) rfl Try.call60 rfl (fun w S hw hA hO => ok_s_l00Src_pick h13 w S _ (hr3.st1 hw hO) hA) rfl ?_
    rintro _ _ ⟨rfl, rfl⟩
    refine SJ.q (YldS.yld (y_assign rfl)) rfl ?_
    refine SJ.nil ?_
    refine PJ.next ?_
    refine WJ.block ?_
    refine WJ.sel (L' := (fun (x : Int × Int × (List Int) × Value × Int × Int) => [box g6 126 [v2, .int .i64 x.1, .int .u64 x.2.1], row x.2.2.2.1 2 fI64 x.2.2.1]) (r12.2.at_, r12.2.seed, [], v7, 0, r12.1)) [0, 1] ⟨by decide, rfl⟩ ?_
    refine WJ.sub (m' := (fun (x : Int × Int × (List Int) × Value × Int × Int) => [(3, pt g6 0), (4, x.2.2.2.1), (5, .int .i64 x.2.2.2.2.1), (6, .int .i64 x.2.2.2.2.2)]) (r12.2.at_, r12.2.seed, [], v7, 0, r12.1)) ⟨rfl, rfl, rfl, rfl, trivial⟩ ?_
    refine WJ.loop (X := Int × Int × (List Int) × Value × Int × Int) (fun N (x : Int × Int × (List Int) × Value × Int × Int) => s_A2Stops_l1 kj10 code1 N x.1 x.2.1 x.2.2.1 x.2.2.2.2.1 x.2.2.2.2.2 = some r) (fun (x : Int × Int × (List Int) × Value × Int × Int) => [(3, pt g6 0), (4, x.2.2.2.1), (5, .int .i64 x.2.2.2.2.1), (6, .int .i64 x.2.2.2.2.2)]) (fun (x : Int × Int × (List Int) × Value × Int × Int) => [box g6 126 [v2, .int .i64 x.1, .int .u64 x.2.1], row x.2.2.2.1 2 fI64 x.2.2.1]) ?_ N (r12.2.at_, r12.2.seed, [], v7, 0, r12.1) hm
    · rintro N ⟨x14, x15, l16, v17, at18, k19⟩ hI
      have hm := hI; clear hI
      cases N with
      | zero => cases hm
      | succ N =>
      unfold s_A2Stops_l1 at hm
      refine WJ.seq ?_
      refine WJ.seq ?_
      refine WJ.quiet ?_
      refine QJ.step (YldS.yld (y_move rfl)) rfl ?_
      refine QJ.step (YldS.yld (y_bin rfl rfl rfl)) rfl ?_
      refine QJ.done ?_
      refine PJ.next ?_
      refine WJ.cond (t := decide (k19 > 0)) rfl (fun hb20 => ?_) (fun hb20 => ?_)
      · replace hm := ifT hm hb20
        refine WJ.skip ?_
        refine PJ.next ?_
        refine WJ.seq ?_
        refine WJ.block ?_
        refine WJ.seq ?_
        refine WJ.reg ?_
        refine SJ.q (YldS.yld (y_move rfl)) rfl ?_
        refine SJ.q (YldS.yld (y_move rfl)) rfl ?_
        obtain ⟨r21, h22, hm⟩ := bindS hm
        refine SJ.call1 (k := 0) rfl Try.call60 rfl (fun w S hw hA hO => ok_s_l00Src_pick h22 w S _ (hr3.st1 hw hO) hA) rfl ?_
        rintro _ _ ⟨rfl, rfl⟩
        refine SJ.q (YldS.yld (y_bin rfl rfl rfl)) rfl ?_
        refine SJ.q (YldS.yld (y_bin rfl rfl rfl)) rfl ?_
        refine SJ.q (YldS.yld (y_assign rfl)) rfl ?_
        refine SJ.nil ?_
        refine PJ.next ?_
        refine WJ.reg ?_
        refine SJ.q (YldS.yld (y_move rfl)) rfl ?_
        refine SJ.q (YldS.yld (y_move rfl)) rfl ?_
        refine SJ.buildSlice (R := fI64) (os := [.tmp 22]) [w64 (at18 + (w64 (1 + r21.1)))] Try.runUnderlying24 Try.sizeOf2 Try.zeroValue2 rfl rfl rfl rfl rfl rfl fun v23 => ?_
        obtain ⟨l24, h25, hm⟩ := bindS hm
        refine SJ.append (k := 2) (R := fI64) h25 rfl Try.underlying24 el2 rfl rfl rfl (fun w hw => (hw.row_rd (k := 0) rfl)) rfl fun v26 => ?_
        refine SJ.q (YldS.yld (y_assign rfl)) rfl ?_
        refine SJ.nil ?_
        refine PJ.block_normal (PJ.next ?_)
        refine WJ.quiet ?_
        refine QJ.step (YldS.yld (y_move rfl)) rfl ?_
        refine QJ.step (YldS.yld (y_bin rfl rfl rfl)) rfl ?_
        refine QJ.step (YldS.yld (y_assign rfl)) rfl ?_
        refine QJ.done ?_
        exact PJ.round (r21.2.at_, r21.2.seed, l24, v26, w64 (at18 + (w64 (1 + r21.1))), w64 (k19 - 1)) [1, 2] hm ⟨rfl, rfl, rfl, rfl, trivial⟩ ⟨by decide, rfl⟩
      · replace hm := ifF hm hb20
        refine WJ.exit ?_
        refine PJ.then_exit (PJ.then_exit (PJ.block_exit ?_))
        exact PJ.joined (l16, v17) [1] hm ⟨rfl, trivial⟩ ⟨by decide, rfl⟩
  · rintro ⟨l8, v9⟩ hm
    subst hk11
    refine WJ.seq ?_
    refine WJ.quiet ?_
    refine QJ.step (YldS.yld (y_move rfl)) rfl ?_
    refine QJ.step (YldS.yld (y_assign rfl)) rfl ?_
    refine QJ.done ?_
    refine PJ.next ?_
    refine WJ.ret ?_
    obtain rfl := Option.some.inj hm
    refine PJ.sel (L' := [row v9 2 fI64 l8]) [0] ⟨by decide, rfl⟩ ?_
    exact PJ.retn (vs := [v9]) Try.results10 ⟨rfl, trivial⟩ ⟨_, rfl, rfl⟩

set_option maxRecDepth 100000 in
set_option maxHeartbeats 1000000 in
theorem ok_s_A2Row {N : Nat} {code1 : List UInt8} {r : Str} (hm : s_A2Row N code1 = some r) (w : World) (v2 : Value) (hr3 : RdS w (cx w).Fz v2 fByte.rp code1) :
    Calls Try.prog 11 #[v2] w (Ret (cx w) (str r)) := by
  unfold s_A2Row at hm
  refine Calls.enter [v2] Try.func11 rfl Try.ntmps11 rfl ?_
  refine WJ.seq ?_
  refine WJ.quiet ?_
  refine QJ.step (YldS.yld (y_assign rfl)) rfl ?_
  refine QJ.done ?_
  refine PJ.next ?_
  refine WJ.seq ?_
  refine WJ.reg ?_
  refine SJ.q (YldS.yld (y_move rfl)) rfl ?_
  obtain ⟨r4, h5, hm⟩ := bindS hm
  refine SJ.call Try.call59 rfl (fun w hw => ok_s_l00From h5 w _ (hr3.st hw)) rfl ?_
  rintro _ _ ⟨g6, rfl, rfl⟩
  refine SJ.q (YldS.yld (y_assign rfl)) rfl ?_
  refine SJ.nil ?_
  refine PJ.next ?_
  refine WJ.seq ?_
  refine WJ.reg ?_
  refine SJ.buildSlice (R := fByte) (os := []) [] Try.runUnderlying22 Try.sizeOf5 Try.zeroValue5 rfl rfl rfl rfl rfl rfl fun v7 => ?_
  refine SJ.q (YldS.yld (y_assign rfl)) rfl ?_
  refine SJ.nil ?_
  refine PJ.next ?_
  obtain ⟨kj10, hk11, hm⟩ := withK_open hm
  refine WJ.join (X := (List UInt8) × Value) (fun (x : (List UInt8) × Value) => kj10 x.1 = some r) (fun (x : (List UInt8) × Value) => [(4, x.2)]) (fun (x : (List UInt8) × Value) => [row x.2 5 fByte x.1]) ?_ ?_
  · clear hk11
    refine WJ.seq ?_
    refine WJ.reg ?_
    refine SJ.q (YldS.yld (y_move rfl)) rfl ?_
    obtain ⟨r12, h13, hm⟩ := bindS hm
    refine SJ.call1 (k := 1) rfl Try.call60 rfl (fun w S hw hA hO => ok_s_l00Src_pick h13 w S _ (hr3.st1 hw hO) hA) rfl ?_
    rintro _ _ ⟨rfl, rfl⟩
    refine SJ.q (YldS.yld (y_assign rfl)) rfl ?_
    refine SJ.nil ?_
    refine PJ.next ?_
    refine WJ.block ?_
    refine WJ.sel (L' := (fun (x : Int × Int × (List UInt8) × Value × Int) => [box g6 126 [v2, .int .i64 x.1, .int .u64 x.2.1], row x.2.2.2.1 5 fByte x.2.2.1]) (r12.2.at_, r12.2.seed, [], v7, r12.1)) [0, 1] ⟨by decide, rfl⟩ ?_
    refine WJ.sub (m' := (fun (x : Int × Int × (List UInt8) × Value × Int) => [(3, pt g6 0), (4, x.2.2.2.1), (5, .int .i64 x.2.2.2.2)]) (r12.2.at_, r12.2.seed, [], v7, r12.1)) ⟨rfl, rfl, rfl, trivial⟩ ?_
    refine WJ.loop (X := Int × Int × (List UInt8) × Value × Int) (fun N (x : Int × Int × (List UInt8) × Value × Int) => s_A2Row_l1 kj10 code1 N x.1 x.2.1 x.2.2.1 x.2.2.2.2 = some r) (fun (x : Int × Int × (List UInt8) × Value × Int) => [(3, pt g6 0), (4, x.2.2.2.1), (5, .int .i64 x.2.2.2.2)]) (fun (x : Int × Int × (List UInt8) × Value × Int) => [box g6 126 [v2, .int .i64 x.1, .int .u64 x.2.1], row x.2.2.2.1 5 fByte x.2.2.1]) ?_ N (r12.2.at_, r12.2.seed, [], v7, r12.1) hm
    · rintro N ⟨x14, x15, l16, v17, k18⟩ hI
      have hm := hI; clear hI
      cases N with
      | zero => cases hm
      | succ N =>
      unfold s_A2Row_l1 at hm
      refine WJ.seq ?_
      refine WJ.seq ?_
      refine WJ.quiet ?_
      refine QJ.step (YldS.yld (y_move rfl)) rfl ?_
      refine QJ.step (YldS.yld (y_bin rfl rfl rfl)) rfl ?_
      refine QJ.done ?_
      refine PJ.next ?_
      refine WJ.cond (t := decide (k18 > 0)) rfl (fun hb19 => ?_) (fun hb19 => ?_)
      · replace hm := ifT hm hb19
        refine WJ.skip ?_
        refine PJ.next ?_
        obtain ⟨kj24, hk25, hm⟩ := withK_open hm
        refine WJ.join (X := Int × Int × (List UInt8) × Value) (fun (x : Int × Int × (List UInt8) × Value) => kj24 x.1 x.2.1 x.2.2.1 = some r) (fun (x : Int × Int × (List UInt8) × Value) => [(3, pt g6 0), (4, x.2.2.2), (5, .int .i64 k18)]) (fun (x : Int × Int × (List UInt8) × Value) => [box g6 126 [v2, .int .i64 x.1, .int .u64 x.2.1], row x.2.2.2 5 fByte x.2.2.1]) ?_ ?_
        · clear hk25
          refine WJ.block ?_
          obtain ⟨kj30, hk31, hm⟩ := withK_open hm
          refine WJ.join (X := Int × Int × (List UInt8) × Value) (fun (x : Int × Int × (List UInt8) × Value) => kj30 x.1 x.2.1 x.2.2.1 = some r) (fun (x : Int × Int × (List UInt8) × Value) => [(3, pt g6 0), (4, x.2.2.2), (5, .int .i64 k18)]) (fun (x : Int × Int × (List UInt8) × Value) => [box g6 126 [v2, .int .i64 x.1, .int .u64 x.2.1], row x.2.2.2 5 fByte x.2.2.1]) ?_ ?_
          · clear hk31
            refine WJ.seq ?_
            refine WJ.reg ?_
            refine SJ.q (YldS.yld (y_move rfl)) rfl ?_
            obtain ⟨r32, h33, hm⟩ := bindS hm
            refine SJ.call1 (k := 0) rfl Try.call60 rfl (fun w S hw hA hO => ok_s_l00Src_pick h33 w S _ (hr3.st1 hw hO) hA) rfl ?_
            rintro _ _ ⟨rfl, rfl⟩
            refine SJ.q (YldS.yld (y_assign rfl)) rfl ?_
            refine SJ.nil ?_
            refine PJ.next ?_
            refine WJ.block ?_
            refine WJ.sel (L' := (fun (x : (List UInt8) × Value × Int) => [box g6 126 [v2, .int .i64 r32.2.at_, .int .u64 r32.2.seed], row x.2.1 5 fByte x.1]) (l16, v17, r32.1)) [0, 1] ⟨by decide, rfl⟩ ?_
            refine WJ.sub (m' := (fun (x : (List UInt8) × Value × Int) => [(3, pt g6 0), (4, x.2.1), (5, .int .i64 k18), (6, .int .i64 x.2.2)]) (l16, v17, r32.1)) ⟨rfl, rfl, rfl, rfl, trivial⟩ ?_
            refine WJ.loop (X := (List UInt8) × Value × Int) (fun N (x : (List UInt8) × Value × Int) => s_A2Row_l2 kj30 r32 N x.1 x.2.2 = some r) (fun (x : (List UInt8) × Value × Int) => [(3, pt g6 0), (4, x.2.1), (5, .int .i64 k18), (6, .int .i64 x.2.2)]) (fun (x : (List UInt8) × Value × Int) => [box g6 126 [v2, .int .i64 r32.2.at_, .int .u64 r32.2.seed], row x.2.1 5 fByte x.1]) ?_ N (l16, v17, r32.1) hm
            · rintro N ⟨l34, v35, n36⟩ hI
              have hm := hI; clear hI
              cases N with
              | zero => cases hm
              | succ N =>
              unfold s_A2Row_l2 at hm
              refine WJ.seq ?_
              refine WJ.seq ?_
              refine WJ.quiet ?_
              refine QJ.step (YldS.yld (y_move rfl)) rfl ?_
              refine QJ.step (YldS.yld (y_bin rfl rfl rfl)) rfl ?_
              refine QJ.done ?_
              refine PJ.next ?_
              refine WJ.cond (t := decide (n36 > 0)) rfl (fun hb37 => ?_) (fun hb37 => ?_)
              · replace hm := ifT hm hb37
                refine WJ.skip ?_
                refine PJ.next ?_
                refine WJ.seq ?_
                refine WJ.block ?_
                refine WJ.reg ?_
                refine SJ.q (YldS.yld (y_move rfl)) rfl ?_
                refine SJ.buildSlice (R := fByte) (os := [.const (.int .u8 (UInt8.toNat 32 : Int))]) [32] Try.runUnderlying22 Try.sizeOf5 Try.zeroValue5 rfl rfl rfl rfl rfl rfl fun v38 => ?_
                obtain ⟨l39, h40, hm⟩ := bindS hm
                refine SJ.append (k := 2) (R := fByte) h40 rfl Try.underlying22 el5 rfl rfl rfl (fun w hw => (hw.row_rd (k := 0) rfl)) rfl fun v41 => ?_
                refine SJ.q (YldS.yld (y_assign rfl)) rfl ?_
                refine SJ.nil ?_
                refine PJ.block_normal (PJ.next ?_)
                refine WJ.quiet ?_
                refine QJ.step (YldS.yld (y_move rfl)) rfl ?_
                refine QJ.step (YldS.yld (y_bin rfl rfl rfl)) rfl ?_
                refine QJ.step (YldS.yld (y_assign rfl)) rfl ?_
                refine QJ.done ?_
                exact PJ.round (l39, v41, w64 (n36 - 1)) [1, 2] hm ⟨rfl, rfl, rfl, rfl, trivial⟩ ⟨by decide, rfl⟩
              · replace hm := ifF hm hb37
                refine WJ.exit ?_
                refine PJ.then_exit (PJ.then_exit (PJ.block_exit ?_))
                exact PJ.joined (r32.2.at_, r32.2.seed, l34, v35) [0, 1] hm ⟨rfl, rfl, rfl, trivial⟩ ⟨by decide, rfl⟩
          · rintro ⟨x26, x27, l28, v29⟩ hm
            subst hk31
            refine WJ.reg ?_
            refine SJ.q (YldS.yld (y_move rfl)) rfl ?_
            refine SJ.q (YldS.yld (y_move rfl)) rfl ?_
            obtain ⟨r42, h43, hm⟩ := bindS hm
            refine SJ.call1 (k := 0) rfl Try.call60 rfl (fun w S hw hA hO => ok_s_l00Src_pick h43 w S _ (hr3.st1 hw hO) hA) rfl ?_
            rintro _ _ ⟨rfl, rfl⟩
            obtain ⟨c44, h45, hm⟩ := bindS hm
            refine SJ.q (YldS.yld (y_idxStr Try.runUnderlying9 rfl rfl h45)) rfl ?_
            refine SJ.buildSlice (R := fByte) (os := [.tmp 28]) [c44] Try.runUnderlying22 Try.sizeOf5 Try.zeroValue5 rfl rfl rfl rfl rfl rfl fun v46 => ?_
            obtain ⟨l47, h48, hm⟩ := bindS hm
            refine SJ.append (k := 2) (R := fByte) h48 rfl Try.underlying22 el5 rfl rfl rfl (fun w hw => (hw.row_rd (k := 0) rfl)) rfl fun v49 => ?_
            refine SJ.q (YldS.yld (y_assign rfl)) rfl ?_
            refine SJ.nil ?_
            refine PJ.block_normal ?_
            exact PJ.joined (r42.2.at_, r42.2.seed, l47, v49) [1, 2] hm ⟨rfl, rfl, rfl, trivial⟩ ⟨by decide, rfl⟩
        · rintro ⟨x20, x21, l22, v23⟩ hm
          subst hk25
          refine WJ.quiet ?_
          refine QJ.step (YldS.yld (y_move rfl)) rfl ?_
          refine QJ.step (YldS.yld (y_bin rfl rfl rfl)) rfl ?_
          refine QJ.step (YldS.yld (y_assign rfl)) rfl ?_
          refine QJ.done ?_
          exact PJ.round (x20, x21, l22, v23, w64 (k18 - 1)) [0, 1] hm ⟨rfl, rfl, rfl, trivial⟩ ⟨by decide, rfl⟩
      · replace hm := ifF hm hb19
        refine WJ.exit ?_
        refine PJ.then_exit (PJ.then_exit (PJ.block_exit ?_))
        exact PJ.joined (l16, v17) [1] hm ⟨rfl, trivial⟩ ⟨by decide, rfl⟩
  · rintro ⟨l8, v9⟩ hm
    subst hk11
    refine WJ.seq ?_
    refine WJ.quiet ?_
    refine QJ.step (YldS.yld (y_move rfl)) rfl ?_
    refine QJ.step (YldS.yld (y_b2s Try.underlying22 Try.underlying9 Try.underlying5 (fun w hw => ⟨_, (hw.row_rd (k := 0) rfl)⟩) rfl)) rfl ?_
    refine QJ.step (YldS.yld (y_assign rfl)) rfl ?_
    refine QJ.done ?_
    refine PJ.next ?_
    refine WJ.ret ?_
    obtain rfl := Option.some.inj hm
    refine PJ.sel (L' := []) [] ⟨List.nodup_nil, rfl⟩ ?_
    exact PJ.retn (vs := [str l8]) Try.results11 ⟨rfl, trivial⟩ ⟨rfl, rfl⟩

set_option maxRecDepth 100000 in
set_option maxHeartbeats 1000000 in
theorem ok_i_between {n1 : Int} {low2 : Int} {high3 : Int} {r : Bool} (hm : i_between n1 low2 high3 = some r) (w : World)  :
    Calls Try.prog 69 #[.int .i64 n1, .int .i64 low2, .int .i64 high3] w (Ret (cx w) (.bool r)) := by
  unfold i_between at hm
  refine Calls.enter [.int .i64 n1, .int .i64 low2, .int .i64 high3] Try.func69 rfl Try.ntmps69 rfl ?_
  refine WJ.seq ?_
  refine WJ.quiet ?_
  refine QJ.step (YldS.yld (y_assign rfl)) rfl ?_
  refine QJ.done ?_
  refine PJ.next ?_
  refine WJ.seq ?_
  refine WJ.quiet ?_
  refine QJ.step (YldS.yld (y_move rfl)) rfl ?_
  refine QJ.step (YldS.yld (y_move rfl)) rfl ?_
  refine QJ.step (YldS.yld (y_bin rfl rfl rfl)) rfl ?_
  refine QJ.step (YldS.yld (y_move rfl)) rfl ?_
  obtain ⟨t4, h5, hm⟩ := bindS hm
  refine QJ.cut 4 [(14, .bool t4)] ?_ ?_
  · rcases Bool.eq_false_or_eq_true (decide (n1 ≥ low2)) with hb6 | hb6
    · replace h5 := andT h5 hb6
      refine QJ.on rfl rfl (cB hb6) (YldS.yld (y_move rfl)) rfl ?_
      refine QJ.on rfl rfl (cB hb6) (YldS.yld (y_move rfl)) rfl ?_
      refine QJ.on rfl rfl (cB hb6) (YldS.yld (y_bin rfl rfl rfl)) rfl ?_
      refine QJ.step (YldS.yld (y_pick_t (cB hb6) rfl)) rfl ?_
      obtain rfl := Option.some.inj h5
      exact QJ.cut_end ⟨rfl, trivial⟩
    · obtain rfl := andF h5 hb6
      refine QJ.off rfl rfl (cB hb6) rfl rfl ?_
      refine QJ.off rfl rfl (cB hb6) rfl rfl ?_
      refine QJ.off rfl rfl (cB hb6) rfl rfl ?_
      refine QJ.step (YldS.yld (y_pick_f (cB hb6) rfl)) rfl ?_
      exact QJ.cut_end ⟨rfl, trivial⟩
  refine QJ.step (YldS.yld (y_assign rfl)) rfl ?_
  refine QJ.done ?_
  refine PJ.next ?_
  refine WJ.ret ?_
  obtain rfl := Option.some.inj hm
  refine PJ.sel (L' := []) [] ⟨List.nodup_nil, rfl⟩ ?_
  exact PJ.retn (vs := [.bool t4]) Try.results69 ⟨rfl, trivial⟩ ⟨rfl, rfl⟩

set_option maxRecDepth 100000 in
set_option maxHeartbeats 1000000 in
theorem ok_i_ValidStops {N : Nat} {stops1 : List Int} {r : Bool} (hm : i_ValidStops N stops1 = some r) (w : World) (v2 : Value) (hr3 : RdS w (cx w).Fz v2 fI64.rp stops1) :
    Calls Try.prog 61 #[v2] w (Ret (cx w) (.bool r)) := by
  unfold i_ValidStops at hm
  refine Calls.enter [v2] Try.func61 rfl Try.ntmps61 rfl ?_
  refine WJ.seq ?_
  refine WJ.quiet ?_
  refine QJ.step (YldS.yld (y_assign rfl)) rfl ?_
  refine QJ.done ?_
  refine PJ.next ?_
  refine WJ.seq ?_
  refine WJ.seq ?_
  refine WJ.quiet ?_
  refine QJ.step (YldS.yld (y_move rfl)) rfl ?_
  refine QJ.step (YldS.yld (y_lenS Try.runUnderlying24 hr3 rfl)) rfl ?_
  refine QJ.step (YldS.yld (y_bin rfl rfl rfl)) rfl ?_
  refine QJ.done ?_
  refine PJ.next ?_
  refine WJ.cond (t := decide ((List.length stops1 : Int) > 6)) rfl (fun hb4 => ?_) (fun hb4 => ?_)
  · replace hm := ifT hm hb4
    refine WJ.seq ?_
    refine WJ.quiet ?_
    refine QJ.step (YldS.yld (y_assign rfl)) rfl ?_
    refine QJ.done ?_
    refine PJ.next ?_
    refine WJ.ret ?_
    refine PJ.then_ret ?_
    obtain rfl := Option.some.inj hm
    refine PJ.sel (L' := []) [] ⟨List.nodup_nil, rfl⟩ ?_
    exact PJ.retn (vs := [.bool false]) Try.results61 ⟨rfl, trivial⟩ ⟨rfl, rfl⟩
  · replace hm := ifF hm hb4
    refine WJ.skip ?_
    refine PJ.next ?_
    obtain ⟨kj5, hk6, hm⟩ := withK_open hm
    refine WJ.join (X := Unit) (fun (_ : Unit) => kj5  = some r) (fun (_ : Unit) => []) (fun (_ : Unit) => []) ?_ ?_
    · clear hk6
      refine WJ.seq ?_
      refine WJ.quiet ?_
      refine QJ.step (YldS.yld (y_move rfl)) rfl ?_
      refine QJ.step (YldS.yld (y_lenS Try.runUnderlying24 hr3 rfl)) rfl ?_
      refine QJ.step (YldS.yld (y_move rfl)) rfl ?_
      refine QJ.done ?_
      refine PJ.next ?_
      refine WJ.block ?_
      refine WJ.sel (L' := (fun (x : Int) => []) 0) [] ⟨List.nodup_nil, rfl⟩ ?_
      refine WJ.sub (m' := (fun (x : Int) => [(0, v2), (8, v2), (9, .int .i64 (List.length stops1 : Int)), (10, .int .i64 x)]) 0) ⟨rfl, rfl, rfl, rfl, trivial⟩ ?_
      refine WJ.loop (X := Int) (fun N (x : Int) => i_ValidStops_l1 kj5 stops1 N x = some r) (fun (x : Int) => [(0, v2), (8, v2), (9, .int .i64 (List.length stops1 : Int)), (10, .int .i64 x)]) (fun (x : Int) => []) ?_ N 0 hm
      · rintro N x7 hI
        have hm := hI; clear hI
        cases N with
        | zero => cases hm
        | succ N =>
        unfold i_ValidStops_l1 at hm
        refine WJ.seq ?_
        refine WJ.quiet ?_
        refine QJ.step (YldS.yld (y_bin rfl rfl rfl)) rfl ?_
        refine QJ.done ?_
        refine PJ.next ?_
        refine WJ.seq ?_
        refine WJ.cond (t := decide (x7 < (List.length stops1 : Int))) rfl (fun hb8 => ?_) (fun hb8 => ?_)
        · replace hm := ifT hm hb8
          refine WJ.skip ?_
          refine PJ.next ?_
          refine WJ.seq ?_
          refine WJ.block ?_
          refine WJ.seq ?_
          refine WJ.quiet ?_
          refine QJ.step (YldS.yld (y_move rfl)) rfl ?_
          obtain ⟨e9, h10, hm⟩ := bindS hm
          obtain ⟨ad11, _, rfl, ha12, hy13⟩ := hr3.elem h10
          refine QJ.step (YldS.yld (hy13 Try.runUnderlying24 Try.sizeOf2 rfl rfl)) rfl ?_
          refine QJ.step (YldS.yld (y_load1 (v := .int .i64 e9) Try.isAgg2 ha12 St.frozenC rfl)) rfl ?_
          refine QJ.step (YldS.yld (y_assign rfl)) rfl ?_
          refine QJ.step (YldS.yld (y_assign rfl)) rfl ?_
          refine QJ.done ?_
          refine PJ.next ?_
          refine WJ.seq ?_
          refine WJ.quiet ?_
          refine QJ.step (YldS.yld (y_move rfl)) rfl ?_
          obtain ⟨r14, h15, hm⟩ := bindS hm
          refine QJ.step (y_call Try.call69 rfl (RetG.quiet fun w hw => ok_i_between h15 w )) rfl ?_
          refine QJ.step (YldS.yld (y_not rfl)) rfl ?_
          refine QJ.step (YldS.yld (y_move rfl)) rfl ?_
          obtain ⟨t16, h17, hm⟩ := bindS hm
          refine QJ.cut 12 [(0, v2), (8, v2), (9, .int .i64 (List.length stops1 : Int)), (10, .int .i64 x7), (30, .bool t16)] ?_ ?_
          · rcases Bool.eq_false_or_eq_true (!r14) with hb18 | hb18
            · obtain rfl := orT h17 hb18
              refine QJ.off rfl rfl (cB hb18) rfl rfl ?_
              refine QJ.off rfl rfl (cB hb18) rfl rfl ?_
              refine QJ.off rfl rfl (cB hb18) rfl rfl ?_
              refine QJ.off_undef rfl rfl rfl rfl ?_
              refine QJ.off_undef rfl rfl rfl rfl ?_
              refine QJ.off_undef rfl rfl rfl rfl ?_
              refine QJ.off_undef rfl rfl rfl rfl ?_
              refine QJ.off_undef rfl rfl rfl rfl ?_
              refine QJ.off_undef rfl rfl rfl rfl ?_
              refine QJ.off_undef rfl rfl rfl rfl ?_
              refine QJ.off rfl rfl (cB hb18) rfl rfl ?_
              refine QJ.step (YldS.yld (y_pick_t (cB hb18) rfl)) rfl ?_
              exact QJ.cut_end ⟨rfl, rfl, rfl, rfl, rfl, trivial⟩
            · replace h17 := orF h17 hb18
              refine QJ.on rfl rfl (cB hb18) (YldS.yld (y_move rfl)) rfl ?_
              refine QJ.on rfl rfl (cB hb18) (YldS.yld (y_bin rfl rfl rfl)) rfl ?_
              refine QJ.on rfl rfl (cB hb18) (YldS.yld (y_move rfl)) rfl ?_
              obtain ⟨t19, h20, h17⟩ := bindS h17
              refine QJ.cut 8 [(0, v2), (8, v2), (9, .int .i64 (List.length stops1 : Int)), (10, .int .i64 x7), (18, .bool (!r14)), (19, .int .i64 x7), (20, .bool (decide (x7 > 0))), (21, .bool (decide (x7 > 0))), (29, .bool t19)] ?_ ?_
              · rcases Bool.eq_false_or_eq_true (decide (x7 > 0)) with hb21 | hb21
                · replace h20 := andT h20 hb21
                  refine QJ.on rfl rfl (cB hb21) (YldS.yld (y_move rfl)) rfl ?_
                  refine QJ.on rfl rfl (cB hb21) (YldS.yld (y_move rfl)) rfl ?_
                  refine QJ.on rfl rfl (cB hb21) (YldS.yld (y_move rfl)) rfl ?_
                  refine QJ.on rfl rfl (cB hb21) (YldS.yld (y_bin rfl rfl rfl)) rfl ?_
                  obtain ⟨e22, h23, h20⟩ := bindS h20
                  obtain ⟨ad24, _, rfl, ha25, hy26⟩ := hr3.elem h23
                  refine QJ.on rfl rfl (cB hb21) (YldS.yld (hy26 Try.runUnderlying24 Try.sizeOf2 rfl rfl)) rfl ?_
                  refine QJ.on rfl rfl (cB hb21) (YldS.yld (y_load1 (v := .int .i64 e22) Try.isAgg2 ha25 St.frozenC rfl)) rfl ?_
                  refine QJ.on rfl rfl (cB hb21) (YldS.yld (y_bin rfl rfl rfl)) rfl ?_
                  refine QJ.on rfl rfl (cB hb18) (YldS.yld (y_pick_t (cB hb21) rfl)) rfl ?_
                  obtain rfl := Option.some.inj h20
                  exact QJ.cut_end ⟨rfl, rfl, rfl, rfl, rfl, rfl, rfl, rfl, rfl, trivial⟩
                · obtain rfl := andF h20 hb21
                  refine QJ.off rfl rfl (cB hb21) rfl rfl ?_
                  refine QJ.off rfl rfl (cB hb21) rfl rfl ?_
                  refine QJ.off rfl rfl (cB hb21) rfl rfl ?_
                  refine QJ.off rfl rfl (cB hb21) rfl rfl ?_
                  refine QJ.off rfl rfl (cB hb21) rfl rfl ?_
                  refine QJ.off rfl rfl (cB hb21) rfl rfl ?_
                  refine QJ.off rfl rfl (cB hb21) rfl rfl ?_
                  refine QJ.on rfl rfl (cB hb18) (YldS.yld (y_pick_f (cB hb21) rfl)) rfl ?_
                  exact QJ.cut_end ⟨rfl, rfl, rfl, rfl, rfl, rfl, rfl, rfl, rfl, trivial⟩
              refine QJ.step (YldS.yld (y_pick_f (cB hb18) rfl)) rfl ?_
              obtain rfl := Option.some.inj h17
              exact QJ.cut_end ⟨rfl, rfl, rfl, rfl, rfl, trivial⟩
          refine QJ.done ?_
          refine PJ.next ?_
          refine WJ.cond (t := t16) rfl (fun hb27 => ?_) (fun hb27 => ?_)
          · replace hm := ifT hm hb27
            refine WJ.seq ?_
            refine WJ.quiet ?_
            refine QJ.step (YldS.yld (y_assign rfl)) rfl ?_
            refine QJ.done ?_
            refine PJ.next ?_
            refine WJ.ret ?_
            refine PJ.block_ret (PJ.then_ret (PJ.then_ret (PJ.block_ret (PJ.then_ret ?_))))
            obtain rfl := Option.some.inj hm
            refine PJ.sel (L' := []) [] ⟨List.nodup_nil, rfl⟩ ?_
            exact PJ.retn (vs := [.bool false]) Try.results61 ⟨rfl, trivial⟩ ⟨rfl, rfl⟩
          · replace hm := ifF hm hb27
            refine WJ.skip ?_
            refine PJ.block_normal (PJ.next ?_)
            refine WJ.quiet ?_
            refine QJ.step (YldS.yld (y_bin rfl rfl rfl)) rfl ?_
            refine QJ.step (YldS.yld (y_move rfl)) rfl ?_
            refine QJ.done ?_
            exact PJ.round (w64 (x7 + 1)) [] hm ⟨rfl, rfl, rfl, rfl, trivial⟩ ⟨List.nodup_nil, rfl⟩
        · replace hm := ifF hm hb8
          refine WJ.exit ?_
          refine PJ.then_exit (PJ.then_exit (PJ.block_exit ?_))
          exact PJ.joined () [] hm trivial ⟨List.nodup_nil, rfl⟩
    · rintro _ hm
      subst hk6
      refine WJ.seq ?_
      refine WJ.quiet ?_
      refine QJ.step (YldS.yld (y_assign rfl)) rfl ?_
      refine QJ.done ?_
      refine PJ.next ?_
      refine WJ.ret ?_
      obtain rfl := Option.some.inj hm
      refine PJ.sel (L' := []) [] ⟨List.nodup_nil, rfl⟩ ?_
      exact PJ.retn (vs := [.bool true]) Try.results61 ⟨rfl, trivial⟩ ⟨rfl, rfl⟩

set_option maxRecDepth 100000 in
set_option maxHeartbeats 1000000 in
theorem ok_i_isText {N : Nat} {s1 : Str} {low2 : UInt8} {most3 : Int} {r : Bool} (hm : i_isText N s1 low2 most3 = some r) (w : World)  :
    Calls Try.prog 111 #[str s1, .int .u8 (UInt8.toNat low2 : Int), .int .i64 most3] w (Ret (cx w) (.bool r)) := by
  unfold i_isText at hm
  refine Calls.enter [str s1, .int .u8 (UInt8.toNat low2 : Int), .int .i64 most3] Try.func111 rfl Try.ntmps111 rfl ?_
  refine WJ.seq ?_
  refine WJ.quiet ?_
  refine QJ.step (YldS.yld (y_assign rfl)) rfl ?_
  refine QJ.done ?_
  refine PJ.next ?_
  refine WJ.seq ?_
  refine WJ.seq ?_
  refine WJ.quiet ?_
  refine QJ.step (YldS.yld (y_move rfl)) rfl ?_
  refine QJ.step (YldS.yld (y_lenStr Try.runUnderlying9 rfl)) rfl ?_
  refine QJ.step (YldS.yld (y_move rfl)) rfl ?_
  refine QJ.step (YldS.yld (y_bin rfl rfl rfl)) rfl ?_
  refine QJ.done ?_
  refine PJ.next ?_
  refine WJ.cond (t := decide ((List.length s1 : Int) > most3)) rfl (fun hb4 => ?_) (fun hb4 => ?_)
  · replace hm := ifT hm hb4
    refine WJ.seq ?_
    refine WJ.quiet ?_
    refine QJ.step (YldS.yld (y_assign rfl)) rfl ?_
    refine QJ.done ?_
    refine PJ.next ?_
    refine WJ.ret ?_
    refine PJ.then_ret ?_
    obtain rfl := Option.some.inj hm
    refine PJ.sel (L' := []) [] ⟨List.nodup_nil, rfl⟩ ?_
    exact PJ.retn (vs := [.bool false]) Try.results111 ⟨rfl, trivial⟩ ⟨rfl, rfl⟩
  · replace hm := ifF hm hb4
    refine WJ.skip ?_
    refine PJ.next ?_
    obtain ⟨kj5, hk6, hm⟩ := withK_open hm
    refine WJ.join (X := Unit) (fun (_ : Unit) => kj5  = some r) (fun (_ : Unit) => []) (fun (_ : Unit) => []) ?_ ?_
    · clear hk6
      refine WJ.seq ?_
      refine WJ.quiet ?_
      refine QJ.step (YldS.yld (y_move rfl)) rfl ?_
      refine QJ.step (YldS.yld (y_lenStr Try.runUnderlying9 rfl)) rfl ?_
      refine QJ.step (YldS.yld (y_move rfl)) rfl ?_
      refine QJ.done ?_
      refine PJ.next ?_
      refine WJ.block ?_
      refine WJ.sel (L' := (fun (x : Int) => []) 0) [] ⟨List.nodup_nil, rfl⟩ ?_
      refine WJ.sub (m' := (fun (x : Int) => [(0, str s1), (1, .int .u8 (UInt8.toNat low2 : Int)), (13, .int .i64 (List.length s1 : Int)), (14, .int .i64 x)]) 0) ⟨rfl, rfl, rfl, rfl, trivial⟩ ?_
      refine WJ.loop (X := Int) (fun N (x : Int) => i_isText_l1 kj5 s1 low2 N x = some r) (fun (x : Int) => [(0, str s1), (1, .int .u8 (UInt8.toNat low2 : Int)), (13, .int .i64 (List.length s1 : Int)), (14, .int .i64 x)]) (fun (x : Int) => []) ?_ N 0 hm
      · rintro N x7 hI
        have hm := hI; clear hI
        cases N with
        | zero => cases hm
        | succ N =>
        unfold i_isText_l1 at hm
        refine WJ.seq ?_
        refine WJ.quiet ?_
        refine QJ.step (YldS.yld (y_bin rfl rfl rfl)) rfl ?_
        refine QJ.done ?_
        refine PJ.next ?_
        refine WJ.seq ?_
        refine WJ.cond (t := decide (x7 < (List.length s1 : Int))) rfl (fun hb8 => ?_) (fun hb8 => ?_)
        · replace hm := ifT hm hb8
          refine WJ.skip ?_
          refine PJ.next ?_
          refine WJ.seq ?_
          refine WJ.block ?_
          refine WJ.seq ?_
          refine WJ.quiet ?_
          refine QJ.step (YldS.yld (y_move rfl)) rfl ?_
          refine QJ.step (YldS.yld (y_assign rfl)) rfl ?_
          refine QJ.done ?_
          refine PJ.next ?_
          refine WJ.seq ?_
          refine WJ.quiet ?_
          refine QJ.step (YldS.yld (y_move rfl)) rfl ?_
          refine QJ.step (YldS.yld (y_move rfl)) rfl ?_
          obtain ⟨c9, h10, hm⟩ := bindS hm
          refine QJ.step (YldS.yld (y_idxStr Try.runUnderlying9 rfl rfl h10)) rfl ?_
          refine QJ.step (YldS.yld (y_move rfl)) rfl ?_
          refine QJ.step (YldS.yld (y_bin8 c9 low2 rfl rfl rfl)) rfl ?_
          refine QJ.step (YldS.yld (y_move rfl)) rfl ?_
          obtain ⟨t11, h12, hm⟩ := bindS hm
          refine QJ.cut 5 [(0, str s1), (1, .int .u8 (UInt8.toNat low2 : Int)), (13, .int .i64 (List.length s1 : Int)), (14, .int .i64 x7), (27, .bool t11)] ?_ ?_
          · rcases Bool.eq_false_or_eq_true (decide (c9 < low2)) with hb13 | hb13
            · obtain rfl := orT h12 hb13
              refine QJ.off rfl rfl (cB hb13) rfl rfl ?_
              refine QJ.off rfl rfl (cB hb13) rfl rfl ?_
              refine QJ.off rfl rfl (cB hb13) rfl rfl ?_
              refine QJ.off rfl rfl (cB hb13) rfl rfl ?_
              refine QJ.step (YldS.yld (y_pick_t (cB hb13) rfl)) rfl ?_
              exact QJ.cut_end ⟨rfl, rfl, rfl, rfl, rfl, trivial⟩
            · replace h12 := orF h12 hb13
              refine QJ.on rfl rfl (cB hb13) (YldS.yld (y_move rfl)) rfl ?_
              refine QJ.on rfl rfl (cB hb13) (YldS.yld (y_move rfl)) rfl ?_
              obtain ⟨c14, h15, h12⟩ := bindS h12
              refine QJ.on rfl rfl (cB hb13) (YldS.yld (y_idxStr Try.runUnderlying9 rfl rfl h15)) rfl ?_
              refine QJ.on rfl rfl (cB hb13) (YldS.yld (y_bin8 c14 (126 : UInt8) rfl rfl rfl)) rfl ?_
              refine QJ.step (YldS.yld (y_pick_f (cB hb13) rfl)) rfl ?_
              obtain rfl := Option.some.inj h12
              exact QJ.cut_end ⟨rfl, rfl, rfl, rfl, rfl, trivial⟩
          refine QJ.done ?_
          refine PJ.next ?_
          refine WJ.cond (t := t11) rfl (fun hb16 => ?_) (fun hb16 => ?_)
          · replace hm := ifT hm hb16
            refine WJ.seq ?_
            refine WJ.quiet ?_
            refine QJ.step (YldS.yld (y_assign rfl)) rfl ?_
            refine QJ.done ?_
            refine PJ.next ?_
            refine WJ.ret ?_
            refine PJ.block_ret (PJ.then_ret (PJ.then_ret (PJ.block_ret (PJ.then_ret ?_))))
            obtain rfl := Option.some.inj hm
            refine PJ.sel (L' := []) [] ⟨List.nodup_nil, rfl⟩ ?_
            exact PJ.retn (vs := [.bool false]) Try.results111 ⟨rfl, trivial⟩ ⟨rfl, rfl⟩
          · replace hm := ifF hm hb16
            refine WJ.skip ?_
            refine PJ.block_normal (PJ.next ?_)
            refine WJ.quiet ?_
            refine QJ.step (YldS.yld (y_bin rfl rfl rfl)) rfl ?_
            refine QJ.step (YldS.yld (y_move rfl)) rfl ?_
            refine QJ.done ?_
            exact PJ.round (w64 (x7 + 1)) [] hm ⟨rfl, rfl, rfl, rfl, trivial⟩ ⟨List.nodup_nil, rfl⟩
        · replace hm := ifF hm hb8
          refine WJ.exit ?_
          refine PJ.then_exit (PJ.then_exit (PJ.block_exit ?_))
          exact PJ.joined () [] hm trivial ⟨List.nodup_nil, rfl⟩
    · rintro _ hm
      subst hk6
      refine WJ.seq ?_
      refine WJ.quiet ?_
      refine QJ.step (YldS.yld (y_assign rfl)) rfl ?_
      refine QJ.done ?_
      refine PJ.next ?_
      refine WJ.ret ?_
      obtain rfl := Option.some.inj hm
      refine PJ.sel (L' := []) [] ⟨List.nodup_nil, rfl⟩ ?_
      exact PJ.retn (vs := [.bool true]) Try.results111 ⟨rfl, trivial⟩ ⟨rfl, rfl⟩

set_option maxRecDepth 100000 in
set_option maxHeartbeats 1000000 in
theorem ok_i_isRow {N : Nat} {row1 : Str} {r : Bool} (hm : i_isRow N row1 = some r) (w : World)  :
    Calls Try.prog 62 #[str row1] w (Ret (cx w) (.bool r)) := by
  unfold i_isRow at hm
  refine Calls.enter [str row1] Try.func62 rfl Try.ntmps62 rfl ?_
  refine WJ.seq ?_
  refine WJ.quiet ?_
  refine QJ.step (YldS.yld (y_assign rfl)) rfl ?_
  refine QJ.done ?_
  refine PJ.next ?_
  refine WJ.seq ?_
  refine WJ.quiet ?_
  refine QJ.step (YldS.yld (y_move rfl)) rfl ?_
  obtain ⟨r2, h3, hm⟩ := bindS hm
  refine QJ.step (y_call Try.call111 rfl (RetG.quiet fun w hw => ok_i_isText h3 w )) rfl ?_
  refine QJ.step (YldS.yld (y_move rfl)) rfl ?_
  obtain ⟨t4, h5, hm⟩ := bindS hm
  refine QJ.cut 11 [(16, .bool t4)] ?_ ?_
  · rcases Bool.eq_false_or_eq_true r2 with hb6 | hb6
    · replace h5 := andT h5 hb6
      refine QJ.on rfl rfl (cB hb6) (YldS.yld (y_move rfl)) rfl ?_
      refine QJ.on rfl rfl (cB hb6) (YldS.yld (y_binS rfl rfl rfl)) rfl ?_
      refine QJ.on rfl rfl (cB hb6) (YldS.yld (y_move rfl)) rfl ?_
      obtain ⟨t7, h8, h5⟩ := bindS h5
      refine QJ.cut 7 [(5, .bool r2), (15, .bool t7)] ?_ ?_
      · rcases Bool.eq_false_or_eq_true (row1 == []) with hb9 | hb9
        · obtain rfl := orT h8 hb9
          refine QJ.off rfl rfl (cB hb9) rfl rfl ?_
          refine QJ.off rfl rfl (cB hb9) rfl rfl ?_
          refine QJ.off rfl rfl (cB hb9) rfl rfl ?_
          refine QJ.off rfl rfl (cB hb9) rfl rfl ?_
          refine QJ.off rfl rfl (cB hb9) rfl rfl ?_
          refine QJ.off rfl rfl (cB hb9) rfl rfl ?_
          refine QJ.on rfl rfl (cB hb6) (YldS.yld (y_pick_t (cB hb9) rfl)) rfl ?_
          exact QJ.cut_end ⟨rfl, rfl, trivial⟩
        · replace h8 := orF h8 hb9
          refine QJ.on rfl rfl (cB hb9) (YldS.yld (y_move rfl)) rfl ?_
          refine QJ.on rfl rfl (cB hb9) (YldS.yld (y_move rfl)) rfl ?_
          refine QJ.on rfl rfl (cB hb9) (YldS.yld (y_lenStr Try.runUnderlying9 rfl)) rfl ?_
          refine QJ.on rfl rfl (cB hb9) (YldS.yld (y_bin rfl rfl rfl)) rfl ?_
          obtain ⟨c10, h11, h8⟩ := bindS h8
          refine QJ.on rfl rfl (cB hb9) (YldS.yld (y_idxStr Try.runUnderlying9 rfl rfl h11)) rfl ?_
          refine QJ.on rfl rfl (cB hb9) (YldS.yld (y_bin8 c10 (32 : UInt8) rfl rfl rfl)) rfl ?_
          refine QJ.on rfl rfl (cB hb6) (YldS.yld (y_pick_f (cB hb9) rfl)) rfl ?_
          obtain rfl := Option.some.inj h8
          exact QJ.cut_end ⟨rfl, rfl, trivial⟩
      refine QJ.step (YldS.yld (y_pick_t (cB hb6) rfl)) rfl ?_
      obtain rfl := Option.some.inj h5
      exact QJ.cut_end ⟨rfl, trivial⟩
    · obtain rfl := andF h5 hb6
      refine QJ.off rfl rfl (cB hb6) rfl rfl ?_
      refine QJ.off rfl rfl (cB hb6) rfl rfl ?_
      refine QJ.off rfl rfl (cB hb6) rfl rfl ?_
      refine QJ.off_undef rfl rfl rfl rfl ?_
      refine QJ.off_undef rfl rfl rfl rfl ?_
      refine QJ.off_undef rfl rfl rfl rfl ?_
      refine QJ.off_undef rfl rfl rfl rfl ?_
      refine QJ.off_undef rfl rfl rfl rfl ?_
      refine QJ.off_undef rfl rfl rfl rfl ?_
      refine QJ.off rfl rfl (cB hb6) rfl rfl ?_
      refine QJ.step (YldS.yld (y_pick_f (cB hb6) rfl)) rfl ?_
      exact QJ.cut_end ⟨rfl, trivial⟩
  refine QJ.step (YldS.yld (y_assign rfl)) rfl ?_
  refine QJ.done ?_
  refine PJ.next ?_
  refine WJ.ret ?_
  obtain rfl := Option.some.inj hm
  refine PJ.sel (L' := []) [] ⟨List.nodup_nil, rfl⟩ ?_
  exact PJ.retn (vs := [.bool t4]) Try.results62 ⟨rfl, trivial⟩ ⟨rfl, rfl⟩

set_option maxRecDepth 100000 in
set_option maxHeartbeats 1000000 in
theorem ok_i_moved {N : Nat} {stops1 : List Int} {column4 : Int} {move5 : UInt8} {r : Int × Bool} (hm : i_moved N stops1 column4 move5 = some r) (w : World) (v2 : Value) (hr3 : RdS w (cx w).Fz v2 fI64.rp stops1) :
    Calls Try.prog 64 #[v2, .int .i64 column4, .int .u8 (UInt8.toNat move5 : Int)] w (Ret (cx w) (tup [.int .i64 r.1, .bool r.2])) := by
  unfold i_moved at hm
  refine Calls.enter [v2, .int .i64 column4, .int .u8 (UInt8.toNat move5 : Int)] Try.func64 rfl Try.ntmps64 rfl ?_
  refine WJ.seq ?_
  refine WJ.quiet ?_
  refine QJ.step (YldS.yld (y_assign rfl)) rfl ?_
  refine QJ.step (YldS.yld (y_assign rfl)) rfl ?_
  refine QJ.done ?_
  refine PJ.next ?_
  refine WJ.seq ?_
  refine WJ.seq ?_
  refine WJ.quiet ?_
  refine QJ.step (YldS.yld (y_move rfl)) rfl ?_
  refine QJ.done ?_
  refine PJ.next ?_
  refine WJ.block ?_
  refine WJ.seq ?_
  refine WJ.quiet ?_
  refine QJ.step (YldS.yld (y_bin8 move5 (62 : UInt8) rfl rfl rfl)) rfl ?_
  refine QJ.step (YldS.yld (y_assign rfl)) rfl ?_
  refine QJ.done ?_
  refine PJ.next ?_
  refine WJ.cond (t := (move5 == (62 : UInt8))) rfl (fun hb6 => ?_) (fun hb6 => ?_)
  · replace hm := ifT hm hb6
    refine WJ.seq ?_
    refine WJ.quiet ?_
    refine QJ.step (YldS.yld (y_move rfl)) rfl ?_
    refine QJ.step (YldS.yld (y_bin rfl rfl rfl)) rfl ?_
    refine QJ.step (YldS.yld (y_move rfl)) rfl ?_
    refine QJ.step (YldS.yld (y_bin rfl rfl rfl)) rfl ?_
    refine QJ.step (YldS.yld (y_assign rfl)) rfl ?_
    refine QJ.step (YldS.yld (y_assign rfl)) rfl ?_
    refine QJ.done ?_
    refine PJ.next ?_
    refine WJ.ret ?_
    refine PJ.block_ret (PJ.then_ret ?_)
    obtain rfl := Option.some.inj hm
    refine PJ.sel (L' := []) [] ⟨List.nodup_nil, rfl⟩ ?_
    exact PJ.retn (vs := [.int .i64 (w64 (column4 + 1)), .bool (decide (column4 < 30))]) Try.results64 ⟨rfl, rfl, trivial⟩ ⟨rfl, rfl⟩
  · replace hm := ifF hm hb6
    refine WJ.seq ?_
    refine WJ.quiet ?_
    refine QJ.step (YldS.yld (y_bin8 move5 (60 : UInt8) rfl rfl rfl)) rfl ?_
    refine QJ.step (YldS.yld (y_assign rfl)) rfl ?_
    refine QJ.done ?_
    refine PJ.next ?_
    refine WJ.cond (t := (move5 == (60 : UInt8))) rfl (fun hb7 => ?_) (fun hb7 => ?_)
    · replace hm := ifT hm hb7
      refine WJ.seq ?_
      refine WJ.quiet ?_
      refine QJ.step (YldS.yld (y_move rfl)) rfl ?_
      refine QJ.step (YldS.yld (y_bin rfl rfl rfl)) rfl ?_
      refine QJ.step (YldS.yld (y_move rfl)) rfl ?_
      refine QJ.step (YldS.yld (y_bin rfl rfl rfl)) rfl ?_
      refine QJ.step (YldS.yld (y_assign rfl)) rfl ?_
      refine QJ.step (YldS.yld (y_assign rfl)) rfl ?_
      refine QJ.done ?_
      refine PJ.next ?_
      refine WJ.ret ?_
      refine PJ.block_ret (PJ.then_ret ?_)
      obtain rfl := Option.some.inj hm
      refine PJ.sel (L' := []) [] ⟨List.nodup_nil, rfl⟩ ?_
      exact PJ.retn (vs := [.int .i64 (w64 (column4 - 1)), .bool (decide (column4 > 0))]) Try.results64 ⟨rfl, rfl, trivial⟩ ⟨rfl, rfl⟩
    · replace hm := ifF hm hb7
      refine WJ.skip ?_
      refine PJ.block_normal (PJ.next ?_)
      obtain ⟨kj8, hk9, hm⟩ := withK_open hm
      refine WJ.join (X := Unit) (fun (_ : Unit) => kj8  = some r) (fun (_ : Unit) => []) (fun (_ : Unit) => []) ?_ ?_
      · clear hk9
        refine WJ.seq ?_
        refine WJ.quiet ?_
        refine QJ.step (YldS.yld (y_move rfl)) rfl ?_
        refine QJ.step (YldS.yld (y_lenS Try.runUnderlying24 hr3 rfl)) rfl ?_
        refine QJ.step (YldS.yld (y_move rfl)) rfl ?_
        refine QJ.done ?_
        refine PJ.next ?_
        refine WJ.block ?_
        refine WJ.sel (L' := (fun (x : Int) => []) 0) [] ⟨List.nodup_nil, rfl⟩ ?_
        refine WJ.sub (m' := (fun (x : Int) => [(1, .int .i64 column4), (23, v2), (24, .int .i64 (List.length stops1 : Int)), (25, .int .i64 x)]) 0) ⟨rfl, rfl, rfl, rfl, trivial⟩ ?_
        refine WJ.loop (X := Int) (fun N (x : Int) => i_moved_l1 kj8 stops1 column4 N x = some r) (fun (x : Int) => [(1, .int .i64 column4), (23, v2), (24, .int .i64 (List.length stops1 : Int)), (25, .int .i64 x)]) (fun (x : Int) => []) ?_ N 0 hm
        · rintro N x10 hI
          have hm := hI; clear hI
          cases N with
          | zero => cases hm
          | succ N =>
          unfold i_moved_l1 at hm
          refine WJ.seq ?_
          refine WJ.quiet ?_
          refine QJ.step (YldS.yld (y_bin rfl rfl rfl)) rfl ?_
          refine QJ.done ?_
          refine PJ.next ?_
          refine WJ.seq ?_
          refine WJ.cond (t := decide (x10 < (List.length stops1 : Int))) rfl (fun hb11 => ?_) (fun hb11 => ?_)
          · replace hm := ifT hm hb11
            refine WJ.skip ?_
            refine PJ.next ?_
            refine WJ.seq ?_
            refine WJ.block ?_
            refine WJ.seq ?_
            refine WJ.quiet ?_
            obtain ⟨e12, h13, hm⟩ := bindS hm
            obtain ⟨ad14, _, rfl, ha15, hy16⟩ := hr3.elem h13
            refine QJ.step (YldS.yld (hy16 Try.runUnderlying24 Try.sizeOf2 rfl rfl)) rfl ?_
            refine QJ.step (YldS.yld (y_load1 (v := .int .i64 e12) Try.isAgg2 ha15 St.frozenC rfl)) rfl ?_
            refine QJ.step (YldS.yld (y_assign rfl)) rfl ?_
            refine QJ.done ?_
            refine PJ.next ?_
            refine WJ.seq ?_
            refine WJ.quiet ?_
            refine QJ.step (YldS.yld (y_move rfl)) rfl ?_
            refine QJ.step (YldS.yld (y_move rfl)) rfl ?_
            refine QJ.step (YldS.yld (y_bin rfl rfl rfl)) rfl ?_
            refine QJ.done ?_
            refine PJ.next ?_
            refine WJ.cond (t := decide (e12 > column4)) rfl (fun hb17 => ?_) (fun hb17 => ?_)
            · replace hm := ifT hm hb17
              refine WJ.seq ?_
              refine WJ.quiet ?_
              refine QJ.step (YldS.yld (y_move rfl)) rfl ?_
              refine QJ.step (YldS.yld (y_assign rfl)) rfl ?_
              refine QJ.step (YldS.yld (y_assign rfl)) rfl ?_
              refine QJ.done ?_
              refine PJ.next ?_
              refine WJ.ret ?_
              refine PJ.block_ret (PJ.then_ret (PJ.then_ret (PJ.block_ret (PJ.then_ret ?_))))
              obtain rfl := Option.some.inj hm
              refine PJ.sel (L' := []) [] ⟨List.nodup_nil, rfl⟩ ?_
              exact PJ.retn (vs := [.int .i64 e12, .bool true]) Try.results64 ⟨rfl, rfl, trivial⟩ ⟨rfl, rfl⟩
            · replace hm := ifF hm hb17
              refine WJ.skip ?_
              refine PJ.block_normal (PJ.next ?_)
              refine WJ.quiet ?_
              refine QJ.step (YldS.yld (y_bin rfl rfl rfl)) rfl ?_
              refine QJ.step (YldS.yld (y_move rfl)) rfl ?_
              refine QJ.done ?_
              exact PJ.round (w64 (x10 + 1)) [] hm ⟨rfl, rfl, rfl, rfl, trivial⟩ ⟨List.nodup_nil, rfl⟩
          · replace hm := ifF hm hb11
            refine WJ.exit ?_
            refine PJ.then_exit (PJ.then_exit (PJ.block_exit ?_))
            exact PJ.joined () [] hm trivial ⟨List.nodup_nil, rfl⟩
      · rintro _ hm
        subst hk9
        refine WJ.seq ?_
        refine WJ.quiet ?_
        refine QJ.step (YldS.yld (y_assign rfl)) rfl ?_
        refine QJ.step (YldS.yld (y_assign rfl)) rfl ?_
        refine QJ.done ?_
        refine PJ.next ?_
        refine WJ.ret ?_
        obtain rfl := Option.some.inj hm
        refine PJ.sel (L' := []) [] ⟨List.nodup_nil, rfl⟩ ?_
        exact PJ.retn (vs := [.int .i64 0, .bool false]) Try.results64 ⟨rfl, rfl, trivial⟩ ⟨rfl, rfl⟩

set_option maxRecDepth 100000 in
set_option maxHeartbeats 1000000 in
theorem ok_i_distances {N : Nat} {stops1 : List Int} {x4 : Int} {r : (List Int)} (hm : i_distances N stops1 x4 = some r) (w : World) (v2 : Value) (hr3 : RdS w (cx w).Fz v2 fI64.rp stops1) :
    Calls Try.prog 139 #[v2, .int .i64 x4] w (Ret (cx w) (.agg (List.toArray (encs fI64 r)))) := by
  unfold i_distances at hm
  refine Calls.enter [v2, .int .i64 x4] Try.func139 rfl Try.ntmps139 rfl ?_
  refine WJ.seq ?_
  refine WJ.reg ?_
  refine SJ.allocA (R := fI64) (xs := List.replicate 31 (0 : Int)) 31 zv161 rfl rfl rfl rfl fun g5 => ?_
  refine SJ.nil ?_
  refine PJ.next ?_
  refine WJ.seq ?_
  refine WJ.reg ?_
  refine SJ.q (YldS.yld (y_build0 Try.runUnderlying161 zv161 Try.sizeOf2)) rfl ?_
  refine SJ.allocA (R := fI64) (xs := List.replicate 31 (0 : Int)) 31 zv161 rfl rfl rfl rfl fun g6 => ?_
  refine SJ.storeA (k := 0) (ys := (List.replicate 31 (0 : Int))) rfl rfl rfl rfl (by simp) Try.sizeOf161 (by simp [length_encs, fI64]) ?_
  refine SJ.nil ?_
  refine PJ.next ?_
  obtain ⟨kj8, hk9, hm⟩ := withK_open hm
  refine WJ.join (X := (List Int)) (fun (x : (List Int)) => kj8 x = some r) (fun (x : (List Int)) => [(0, v2), (1, .int .i64 x4), (4, pt g5 0), (5, pt g6 0)]) (fun (x : (List Int)) => [row (av g6 31) 161 fI64 x, row (av g5 31) 161 fI64 (List.replicate 31 (0 : Int))]) ?_ ?_
  · clear hk9
    refine WJ.seq ?_
    refine WJ.quiet ?_
    refine QJ.step (YldS.yld (y_move rfl)) rfl ?_
    refine QJ.done ?_
    refine PJ.next ?_
    refine WJ.block ?_
    refine WJ.sel (L' := (fun (x : (List Int) × Int) => [row (av g6 31) 161 fI64 x.1, row (av g5 31) 161 fI64 (List.replicate 31 (0 : Int))]) ((List.replicate 31 (0 : Int)), 0)) [0, 1] ⟨by decide, rfl⟩ ?_
    refine WJ.sub (m' := (fun (x : (List Int) × Int) => [(0, v2), (1, .int .i64 x4), (4, pt g5 0), (5, pt g6 0), (15, .int .i64 x.2)]) ((List.replicate 31 (0 : Int)), 0)) ⟨rfl, rfl, rfl, rfl, rfl, trivial⟩ ?_
    refine WJ.loop (X := (List Int) × Int) (fun N (x : (List Int) × Int) => i_distances_l1 kj8 N x.1 x.2 = some r) (fun (x : (List Int) × Int) => [(0, v2), (1, .int .i64 x4), (4, pt g5 0), (5, pt g6 0), (15, .int .i64 x.2)]) (fun (x : (List Int) × Int) => [row (av g6 31) 161 fI64 x.1, row (av g5 31) 161 fI64 (List.replicate 31 (0 : Int))]) ?_ N ((List.replicate 31 (0 : Int)), 0) hm
    · rintro N ⟨l10, x11⟩ hI
      have hm := hI; clear hI
      cases N with
      | zero => cases hm
      | succ N =>
      unfold i_distances_l1 at hm
      refine WJ.seq ?_
      refine WJ.quiet ?_
      refine QJ.step (YldS.yld (y_bin rfl rfl rfl)) rfl ?_
      refine QJ.done ?_
      refine PJ.next ?_
      refine WJ.seq ?_
      refine WJ.cond (t := decide (x11 < 31)) rfl (fun hb12 => ?_) (fun hb12 => ?_)
      · replace hm := ifT hm hb12
        refine WJ.skip ?_
        refine PJ.next ?_
        refine WJ.seq ?_
        refine WJ.block ?_
        refine WJ.seq ?_
        refine WJ.quiet ?_
        refine QJ.step (YldS.yld (y_move rfl)) rfl ?_
        refine QJ.step (YldS.yld (y_assign rfl)) rfl ?_
        refine QJ.done ?_
        refine PJ.next ?_
        refine WJ.reg ?_
        refine SJ.q (YldS.yld (y_move rfl)) rfl ?_
        obtain ⟨e13, h14, hm⟩ := bindS hm
        refine SJ.q (YldS.yld (y_ixArr (k := 0) (R := fI64) rfl Try.runUnderlying161 Try.sizeOf2 rfl rfl h14)) rfl ?_
        refine SJ.storeRL (k := 0) (i := (Int.toNat x11)) (off := 0) (us := [.int .i64 (-1)]) (b := (-1)) rfl rfl (idx_get h14) rfl rfl Try.sizeOf2 rfl rfl rfl ?_
        refine SJ.nil ?_
        refine PJ.block_normal (PJ.next ?_)
        refine WJ.quiet ?_
        refine QJ.step (YldS.yld (y_bin rfl rfl rfl)) rfl ?_
        refine QJ.step (YldS.yld (y_move rfl)) rfl ?_
        refine QJ.done ?_
        exact PJ.round ((List.set l10 (Int.toNat x11) (-1)), w64 (x11 + 1)) [0, 1] hm ⟨rfl, rfl, rfl, rfl, rfl, trivial⟩ ⟨by decide, rfl⟩
      · replace hm := ifF hm hb12
        refine WJ.exit ?_
        refine PJ.then_exit (PJ.then_exit (PJ.block_exit ?_))
        exact PJ.joined l10 [0, 1] hm ⟨rfl, rfl, rfl, rfl, trivial⟩ ⟨by decide, rfl⟩
  · rintro l7 hm
    subst hk9
    refine WJ.seq ?_
    refine WJ.reg ?_
    refine SJ.q (YldS.yld (y_move rfl)) rfl ?_
    obtain ⟨e15, h16, hm⟩ := bindS hm
    refine SJ.q (YldS.yld (y_ixArr (k := 0) (R := fI64) rfl Try.runUnderlying161 Try.sizeOf2 rfl rfl h16)) rfl ?_
    refine SJ.storeRL (k := 0) (i := (Int.toNat x4)) (off := 0) (us := [.int .i64 0]) (b := 0) rfl rfl (idx_get h16) rfl rfl Try.sizeOf2 rfl rfl rfl ?_
    refine SJ.nil ?_
    refine PJ.next ?_
    obtain ⟨kj18, hk19, hm⟩ := withK_open hm
    refine WJ.join (X := (List Int)) (fun (x : (List Int)) => kj18 x = some r) (fun (x : (List Int)) => [(4, pt g5 0), (5, pt g6 0)]) (fun (x : (List Int)) => [row (av g6 31) 161 fI64 x, row (av g5 31) 161 fI64 (List.replicate 31 (0 : Int))]) ?_ ?_
    · clear hk19
      refine WJ.seq ?_
      refine WJ.quiet ?_
      refine QJ.step (YldS.yld (y_assign rfl)) rfl ?_
      refine QJ.step (YldS.yld (y_assign rfl)) rfl ?_
      refine QJ.done ?_
      refine PJ.next ?_
      refine WJ.block ?_
      refine WJ.sel (L' := (fun (x : (List Int) × Bool × Int) => [row (av g6 31) 161 fI64 x.1, row (av g5 31) 161 fI64 (List.replicate 31 (0 : Int))]) ((List.set l7 (Int.toNat x4) 0), true, 0)) [0, 1] ⟨by decide, rfl⟩ ?_
      refine WJ.sub (m' := (fun (x : (List Int) × Bool × Int) => [(0, v2), (4, pt g5 0), (5, pt g6 0), (7, .bool x.2.1), (8, .int .i64 x.2.2)]) ((List.set l7 (Int.toNat x4) 0), true, 0)) ⟨rfl, rfl, rfl, rfl, rfl, trivial⟩ ?_
      refine WJ.loop (X := (List Int) × Bool × Int) (fun N (x : (List Int) × Bool × Int) => i_distances_l2 kj18 stops1 N x.1 x.2.1 x.2.2 = some r) (fun (x : (List Int) × Bool × Int) => [(0, v2), (4, pt g5 0), (5, pt g6 0), (7, .bool x.2.1), (8, .int .i64 x.2.2)]) (fun (x : (List Int) × Bool × Int) => [row (av g6 31) 161 fI64 x.1, row (av g5 31) 161 fI64 (List.replicate 31 (0 : Int))]) ?_ N ((List.set l7 (Int.toNat x4) 0), true, 0) hm
      · rintro N ⟨l20, x21, x22⟩ hI
        have hm := hI; clear hI
        cases N with
        | zero => cases hm
        | succ N =>
        unfold i_distances_l2 at hm
        refine WJ.seq ?_
        refine WJ.seq ?_
        refine WJ.quiet ?_
        refine QJ.step (YldS.yld (y_move rfl)) rfl ?_
        refine QJ.done ?_
        refine PJ.next ?_
        refine WJ.cond (t := x21) rfl (fun hb23 => ?_) (fun hb23 => ?_)
        · replace hm := ifT hm hb23
          refine WJ.skip ?_
          refine PJ.next ?_
          obtain ⟨kj26, hk27, hm⟩ := withK_open hm
          refine WJ.join (X := (List Int) × Bool) (fun (x : (List Int) × Bool) => kj26 x.1 x.2 = some r) (fun (x : (List Int) × Bool) => [(0, v2), (4, pt g5 0), (5, pt g6 0), (7, .bool x.2), (8, .int .i64 x22)]) (fun (x : (List Int) × Bool) => [row (av g6 31) 161 fI64 x.1, row (av g5 31) 161 fI64 (List.replicate 31 (0 : Int))]) ?_ ?_
          · clear hk27
            refine WJ.block ?_
            refine WJ.seq ?_
            refine WJ.quiet ?_
            refine QJ.step (YldS.yld (y_assign rfl)) rfl ?_
            refine QJ.done ?_
            refine PJ.next ?_
            refine WJ.seq ?_
            refine WJ.quiet ?_
            refine QJ.step (YldS.yld (y_move rfl)) rfl ?_
            refine QJ.done ?_
            refine PJ.next ?_
            refine WJ.block ?_
            refine WJ.sel (L' := (fun (x : (List Int) × Bool × Int) => [row (av g6 31) 161 fI64 x.1, row (av g5 31) 161 fI64 (List.replicate 31 (0 : Int))]) (l20, false, 0)) [0, 1] ⟨by decide, rfl⟩ ?_
            refine WJ.sub (m' := (fun (x : (List Int) × Bool × Int) => [(0, v2), (4, pt g5 0), (5, pt g6 0), (7, .bool x.2.1), (8, .int .i64 x22), (26, .int .i64 x.2.2)]) (l20, false, 0)) ⟨rfl, rfl, rfl, rfl, rfl, rfl, trivial⟩ ?_
            refine WJ.loop (X := (List Int) × Bool × Int) (fun N (x : (List Int) × Bool × Int) => i_distances_l3 kj26 stops1 x22 N x.1 x.2.1 x.2.2 = some r) (fun (x : (List Int) × Bool × Int) => [(0, v2), (4, pt g5 0), (5, pt g6 0), (7, .bool x.2.1), (8, .int .i64 x22), (26, .int .i64 x.2.2)]) (fun (x : (List Int) × Bool × Int) => [row (av g6 31) 161 fI64 x.1, row (av g5 31) 161 fI64 (List.replicate 31 (0 : Int))]) ?_ N (l20, false, 0) hm
            · rintro N ⟨l28, x29, x30⟩ hI
              have hm := hI; clear hI
              cases N with
              | zero => cases hm
              | succ N =>
              unfold i_distances_l3 at hm
              refine WJ.seq ?_
              refine WJ.quiet ?_
              refine QJ.step (YldS.yld (y_bin rfl rfl rfl)) rfl ?_
              refine QJ.done ?_
              refine PJ.next ?_
              refine WJ.seq ?_
              refine WJ.cond (t := decide (x30 < 31)) rfl (fun hb31 => ?_) (fun hb31 => ?_)
              · replace hm := ifT hm hb31
                refine WJ.skip ?_
                refine PJ.next ?_
                obtain ⟨kj34, hk35, hm⟩ := withK_open hm
                refine WJ.join (X := (List Int) × Bool) (fun (x : (List Int) × Bool) => kj34 x.1 x.2 = some r) (fun (x : (List Int) × Bool) => [(0, v2), (4, pt g5 0), (5, pt g6 0), (7, .bool x.2), (8, .int .i64 x22), (26, .int .i64 x30)]) (fun (x : (List Int) × Bool) => [row (av g6 31) 161 fI64 x.1, row (av g5 31) 161 fI64 (List.replicate 31 (0 : Int))]) ?_ ?_
                · clear hk35
                  refine WJ.block ?_
                  refine WJ.seq ?_
                  refine WJ.quiet ?_
                  refine QJ.step (YldS.yld (y_move rfl)) rfl ?_
                  refine QJ.step (YldS.yld (y_assign rfl)) rfl ?_
                  refine QJ.done ?_
                  refine PJ.next ?_
                  refine WJ.seq ?_
                  refine WJ.seq ?_
                  refine WJ.quiet ?_
                  refine QJ.step (YldS.yld (y_move rfl)) rfl ?_
                  obtain ⟨e36, h37, hm⟩ := bindS hm
                  refine QJ.step (YldS.yld (y_ixArr (k := 0) (R := fI64) rfl Try.runUnderlying161 Try.sizeOf2 rfl rfl h37)) rfl ?_
                  refine QJ.step (YldS.yld (y_loadR (k := 0) (i := (Int.toNat x30)) (off := 0) (u := .int .i64 e36) rfl Try.isAgg2 rfl (idx_get h37) rfl)) rfl ?_
                  refine QJ.step (YldS.yld (y_bin rfl rfl rfl)) rfl ?_
                  refine QJ.done ?_
                  refine PJ.next ?_
                  refine WJ.cond (t := decide (e36 ≥ 0)) rfl (fun hb38 => ?_) (fun hb38 => ?_)
                  · replace hm := ifT hm hb38
                    refine WJ.exit ?_
                    refine PJ.then_exit (PJ.block_exit ?_)
                    exact PJ.joined (l28, x29) [0, 1] hm ⟨rfl, rfl, rfl, rfl, rfl, rfl, trivial⟩ ⟨by decide, rfl⟩
                  · replace hm := ifF hm hb38
                    refine WJ.skip ?_
                    refine PJ.next ?_
                    obtain ⟨kj40, hk41, hm⟩ := withK_open hm
                    refine WJ.join (X := (List Int)) (fun (x : (List Int)) => kj40 x = some r) (fun (x : (List Int)) => [(0, v2), (4, pt g5 0), (5, pt g6 0), (7, .bool x29), (8, .int .i64 x22), (9, .int .i64 x30), (26, .int .i64 x30)]) (fun (x : (List Int)) => [row (av g6 31) 161 fI64 x, row (av g5 31) 161 fI64 (List.replicate 31 (0 : Int))]) ?_ ?_
                    · clear hk41
                      refine WJ.seq ?_
                      refine WJ.reg ?_
                      refine SJ.buildSlice (R := fByte) (os := [.const (.int .u8 (UInt8.toNat 35 : Int)), .const (.int .u8 (UInt8.toNat 60 : Int)), .const (.int .u8 (UInt8.toNat 62 : Int))]) [35, 60, 62] Try.runUnderlying22 Try.sizeOf5 Try.zeroValue5 rfl rfl rfl rfl rfl rfl fun v42 => ?_
                      refine SJ.convMark (k := 0) rfl Try.underlying22 Try.underlying5 rfl rfl ?_
                      refine SJ.q (YldS.yld (y_lenRowM (k := 0) rfl Try.runUnderlying22 rfl)) rfl ?_
                      refine SJ.q (YldS.yld (y_move rfl)) rfl ?_
                      refine SJ.nil ?_
                      refine PJ.next ?_
                      refine WJ.block ?_
                      refine WJ.sel (L' := (fun (x : (List Int) × Int) => [rowM v42 5 fByte [35, 60, 62], row (av g6 31) 161 fI64 x.1, row (av g5 31) 161 fI64 (List.replicate 31 (0 : Int))]) (l28, 0)) [0, 1, 2] ⟨by decide, rfl⟩ ?_
                      refine WJ.sub (m' := (fun (x : (List Int) × Int) => [(0, v2), (4, pt g5 0), (5, pt g6 0), (7, .bool x29), (8, .int .i64 x22), (9, .int .i64 x30), (26, .int .i64 x30), (34, v42), (35, .int .i64 (List.length [35, 60, 62] : Int)), (36, .int .i64 x.2)]) (l28, 0)) ⟨rfl, rfl, rfl, rfl, rfl, rfl, rfl, rfl, rfl, rfl, trivial⟩ ?_
                      refine WJ.loop (X := (List Int) × Int) (fun N (x : (List Int) × Int) => i_distances_l4 kj40 stops1 x22 x30 N x.1 x.2 = some r) (fun (x : (List Int) × Int) => [(0, v2), (4, pt g5 0), (5, pt g6 0), (7, .bool x29), (8, .int .i64 x22), (9, .int .i64 x30), (26, .int .i64 x30), (34, v42), (35, .int .i64 (List.length [35, 60, 62] : Int)), (36, .int .i64 x.2)]) (fun (x : (List Int) × Int) => [rowM v42 5 fByte [35, 60, 62], row (av g6 31) 161 fI64 x.1, row (av g5 31) 161 fI64 (List.replicate 31 (0 : Int))]) ?_ N (l28, 0) hm
                      · rintro N ⟨l43, x44⟩ hI
                        have hm := hI; clear hI
                        cases N with
                        | zero => cases hm
                        | succ N =>
                        unfold i_distances_l4 at hm
                        refine WJ.seq ?_
                        refine WJ.quiet ?_
                        refine QJ.step (YldS.yld (y_bin rfl rfl rfl)) rfl ?_
                        refine QJ.done ?_
                        refine PJ.next ?_
                        refine WJ.seq ?_
                        refine WJ.cond (t := decide (x44 < (List.length [35, 60, 62] : Int))) rfl (fun hb45 => ?_) (fun hb45 => ?_)
                        · replace hm := ifT hm hb45
                          refine WJ.skip ?_
                          refine PJ.next ?_
                          obtain ⟨kj47, hk48, hm⟩ := withK_open hm
                          refine WJ.join (X := (List Int)) (fun (x : (List Int)) => kj47 x = some r) (fun (x : (List Int)) => [(0, v2), (4, pt g5 0), (5, pt g6 0), (7, .bool x29), (8, .int .i64 x22), (9, .int .i64 x30), (26, .int .i64 x30), (34, v42), (35, .int .i64 (List.length [35, 60, 62] : Int)), (36, .int .i64 x44)]) (fun (x : (List Int)) => [rowM v42 5 fByte [35, 60, 62], row (av g6 31) 161 fI64 x, row (av g5 31) 161 fI64 (List.replicate 31 (0 : Int))]) ?_ ?_
                          · clear hk48
                            refine WJ.block ?_
                            refine WJ.seq ?_
                            refine WJ.quiet ?_
                            obtain ⟨e49, h50, hm⟩ := bindS hm
                            refine QJ.step (YldS.yld (y_ixRowM (k := 0) (R := fByte) rfl Try.runUnderlying22 Try.sizeOf5 rfl rfl h50)) rfl ?_
                            refine QJ.step (YldS.yld (y_loadRM (k := 0) (i := (Int.toNat x44)) (off := 0) (u := .int .u8 (UInt8.toNat e49 : Int)) rfl Try.isAgg5 rfl (idx_get h50) rfl)) rfl ?_
                            refine QJ.step (YldS.yld (y_assign rfl)) rfl ?_
                            refine QJ.done ?_
                            refine PJ.next ?_
                            refine WJ.seq ?_
                            refine WJ.quiet ?_
                            refine QJ.step (YldS.yld (y_move rfl)) rfl ?_
                            refine QJ.step (YldS.yld (y_move rfl)) rfl ?_
                            refine QJ.step (YldS.yld (y_move rfl)) rfl ?_
                            obtain ⟨r51, h52, hm⟩ := bindS hm
                            refine QJ.step (y_call Try.call64 rfl (RetG.quiet fun w hw => ok_i_moved h52 w _ (hr3.st hw))) rfl ?_
                            refine QJ.step (YldS.yld (y_move rfl)) rfl ?_
                            refine QJ.step (YldS.yld (y_extract rfl rfl)) rfl ?_
                            refine QJ.step (YldS.yld (y_extract rfl rfl)) rfl ?_
                            refine QJ.step (YldS.yld (y_assign rfl)) rfl ?_
                            refine QJ.step (YldS.yld (y_assign rfl)) rfl ?_
                            refine QJ.done ?_
                            refine PJ.next ?_
                            refine WJ.seq ?_
                            refine WJ.quiet ?_
                            refine QJ.step (YldS.yld (y_move rfl)) rfl ?_
                            refine QJ.step (YldS.yld (y_move rfl)) rfl ?_
                            obtain ⟨t53, h54, hm⟩ := bindS hm
                            refine QJ.cut 6 [(0, v2), (4, pt g5 0), (5, pt g6 0), (7, .bool x29), (8, .int .i64 x22), (9, .int .i64 x30), (26, .int .i64 x30), (34, v42), (35, .int .i64 (List.length [35, 60, 62] : Int)), (36, .int .i64 x44), (54, .bool t53)] ?_ ?_
                            · rcases Bool.eq_false_or_eq_true r51.2 with hb55 | hb55
                              · replace h54 := andT h54 hb55
                                refine QJ.on rfl rfl (cB hb55) (YldS.yld (y_move rfl)) rfl ?_
                                obtain ⟨e56, h57, h54⟩ := bindS h54
                                refine QJ.on rfl rfl (cB hb55) (YldS.yld (y_ixArr (k := 1) (R := fI64) rfl Try.runUnderlying161 Try.sizeOf2 rfl rfl h57)) rfl ?_
                                refine QJ.on rfl rfl (cB hb55) (YldS.yld (y_loadR (k := 1) (i := (Int.toNat r51.1)) (off := 0) (u := .int .i64 e56) rfl Try.isAgg2 rfl (idx_get h57) rfl)) rfl ?_
                                refine QJ.on rfl rfl (cB hb55) (YldS.yld (y_move rfl)) rfl ?_
                                refine QJ.on rfl rfl (cB hb55) (YldS.yld (y_bin rfl rfl rfl)) rfl ?_
                                refine QJ.step (YldS.yld (y_pick_t (cB hb55) rfl)) rfl ?_
                                obtain rfl := Option.some.inj h54
                                exact QJ.cut_end ⟨rfl, rfl, rfl, rfl, rfl, rfl, rfl, rfl, rfl, rfl, rfl, trivial⟩
                              · obtain rfl := andF h54 hb55
                                refine QJ.off rfl rfl (cB hb55) rfl rfl ?_
                                refine QJ.off rfl rfl (cB hb55) rfl rfl ?_
                                refine QJ.off rfl rfl (cB hb55) rfl rfl ?_
                                refine QJ.off rfl rfl (cB hb55) rfl rfl ?_
                                refine QJ.off rfl rfl (cB hb55) rfl rfl ?_
                                refine QJ.step (YldS.yld (y_pick_f (cB hb55) rfl)) rfl ?_
                                exact QJ.cut_end ⟨rfl, rfl, rfl, rfl, rfl, rfl, rfl, rfl, rfl, rfl, rfl, trivial⟩
                            refine QJ.done ?_
                            refine PJ.next ?_
                            refine WJ.cond (t := t53) rfl (fun hb58 => ?_) (fun hb58 => ?_)
                            · replace hm := ifT hm hb58
                              refine WJ.reg ?_
                              refine SJ.q (YldS.yld (y_move rfl)) rfl ?_
                              refine SJ.q (YldS.yld (y_move rfl)) rfl ?_
                              refine SJ.q (YldS.yld (y_bin rfl rfl rfl)) rfl ?_
                              obtain ⟨e59, h60, hm⟩ := bindS hm
                              refine SJ.q (YldS.yld (y_ixArr (k := 1) (R := fI64) rfl Try.runUnderlying161 Try.sizeOf2 rfl rfl h60)) rfl ?_
                              refine SJ.storeRL (k := 1) (i := (Int.toNat x30)) (off := 0) (us := [.int .i64 (w64 (x22 + 1))]) (b := w64 (x22 + 1)) rfl rfl (idx_get h60) rfl rfl Try.sizeOf2 rfl rfl rfl ?_
                              refine SJ.nil ?_
                              refine PJ.block_normal ?_
                              exact PJ.joined (List.set l43 (Int.toNat x30) (w64 (x22 + 1))) [0, 1, 2] hm ⟨rfl, rfl, rfl, rfl, rfl, rfl, rfl, rfl, rfl, rfl, trivial⟩ ⟨by decide, rfl⟩
                            · replace hm := ifF hm hb58
                              refine WJ.skip ?_
                              refine PJ.block_normal ?_
                              exact PJ.joined l43 [0, 1, 2] hm ⟨rfl, rfl, rfl, rfl, rfl, rfl, rfl, rfl, rfl, rfl, trivial⟩ ⟨by decide, rfl⟩
                          · rintro l46 hm
                            subst hk48
                            refine WJ.quiet ?_
                            refine QJ.step (YldS.yld (y_bin rfl rfl rfl)) rfl ?_
                            refine QJ.step (YldS.yld (y_move rfl)) rfl ?_
                            refine QJ.done ?_
                            exact PJ.round (l46, w64 (x44 + 1)) [0, 1, 2] hm ⟨rfl, rfl, rfl, rfl, rfl, rfl, rfl, rfl, rfl, rfl, trivial⟩ ⟨by decide, rfl⟩
                        · replace hm := ifF hm hb45
                          refine WJ.exit ?_
                          refine PJ.then_exit (PJ.then_exit (PJ.block_exit ?_))
                          exact PJ.joined l43 [1, 2] hm ⟨rfl, rfl, rfl, rfl, rfl, rfl, rfl, trivial⟩ ⟨by decide, rfl⟩
                    · rintro l39 hm
                      subst hk41
                      refine WJ.quiet ?_
                      refine QJ.step (YldS.yld (y_move rfl)) rfl ?_
                      refine QJ.step (YldS.yld (y_move rfl)) rfl ?_
                      obtain ⟨t61, h62, hm⟩ := bindS hm
                      refine QJ.cut 5 [(0, v2), (4, pt g5 0), (5, pt g6 0), (8, .int .i64 x22), (26, .int .i64 x30), (66, .bool t61)] ?_ ?_
                      · rcases Bool.eq_false_or_eq_true x29 with hb63 | hb63
                        · obtain rfl := orT h62 hb63
                          refine QJ.off rfl rfl (cB hb63) rfl rfl ?_
                          refine QJ.off rfl rfl (cB hb63) rfl rfl ?_
                          refine QJ.off rfl rfl (cB hb63) rfl rfl ?_
                          refine QJ.off rfl rfl (cB hb63) rfl rfl ?_
                          refine QJ.step (YldS.yld (y_pick_t (cB hb63) rfl)) rfl ?_
                          exact QJ.cut_end ⟨rfl, rfl, rfl, rfl, rfl, rfl, trivial⟩
                        · replace h62 := orF h62 hb63
                          refine QJ.on rfl rfl (cB hb63) (YldS.yld (y_move rfl)) rfl ?_
                          obtain ⟨e64, h65, h62⟩ := bindS h62
                          refine QJ.on rfl rfl (cB hb63) (YldS.yld (y_ixArr (k := 0) (R := fI64) rfl Try.runUnderlying161 Try.sizeOf2 rfl rfl h65)) rfl ?_
                          refine QJ.on rfl rfl (cB hb63) (YldS.yld (y_loadR (k := 0) (i := (Int.toNat x30)) (off := 0) (u := .int .i64 e64) rfl Try.isAgg2 rfl (idx_get h65) rfl)) rfl ?_
                          refine QJ.on rfl rfl (cB hb63) (YldS.yld (y_bin rfl rfl rfl)) rfl ?_
                          refine QJ.step (YldS.yld (y_pick_f (cB hb63) rfl)) rfl ?_
                          obtain rfl := Option.some.inj h62
                          exact QJ.cut_end ⟨rfl, rfl, rfl, rfl, rfl, rfl, trivial⟩
                      refine QJ.step (YldS.yld (y_assign rfl)) rfl ?_
                      refine QJ.done ?_
                      refine PJ.block_normal ?_
                      exact PJ.joined (l39, t61) [0, 1] hm ⟨rfl, rfl, rfl, rfl, rfl, rfl, trivial⟩ ⟨by decide, rfl⟩
                · rintro ⟨l32, x33⟩ hm
                  subst hk35
                  refine WJ.quiet ?_
                  refine QJ.step (YldS.yld (y_bin rfl rfl rfl)) rfl ?_
                  refine QJ.step (YldS.yld (y_move rfl)) rfl ?_
                  refine QJ.done ?_
                  exact PJ.round (l32, x33, w64 (x30 + 1)) [0, 1] hm ⟨rfl, rfl, rfl, rfl, rfl, rfl, trivial⟩ ⟨by decide, rfl⟩
              · replace hm := ifF hm hb31
                refine WJ.exit ?_
                refine PJ.then_exit (PJ.then_exit (PJ.block_exit (PJ.block_normal ?_)))
                exact PJ.joined (l28, x29) [0, 1] hm ⟨rfl, rfl, rfl, rfl, rfl, trivial⟩ ⟨by decide, rfl⟩
          · rintro ⟨l24, x25⟩ hm
            subst hk27
            refine WJ.quiet ?_
            refine QJ.step (YldS.yld (y_move rfl)) rfl ?_
            refine QJ.step (YldS.yld (y_bin rfl rfl rfl)) rfl ?_
            refine QJ.step (YldS.yld (y_assign rfl)) rfl ?_
            refine QJ.done ?_
            exact PJ.round (l24, x25, w64 (x22 + 1)) [0, 1] hm ⟨rfl, rfl, rfl, rfl, rfl, trivial⟩ ⟨by decide, rfl⟩
        · replace hm := ifF hm hb23
          refine WJ.exit ?_
          refine PJ.then_exit (PJ.then_exit (PJ.block_exit ?_))
          exact PJ.joined l20 [0, 1] hm ⟨rfl, rfl, trivial⟩ ⟨by decide, rfl⟩
    · rintro l17 hm
      subst hk19
      refine WJ.seq ?_
      refine WJ.reg ?_
      refine SJ.q (YldS.yld (y_loadA (k := 0) (R := fI64) rfl Try.isAgg161 Try.sizeOf161 rfl rfl)) rfl ?_
      obtain ⟨l66, h67, hm⟩ := bindS hm
      refine SJ.storeA (k := 1) (ys := l17) rfl rfl rfl rfl (chkA_len h67) Try.sizeOf161 ((length_encs fI64 l17).trans (congrArg (fun z => z * (fI64).size) (chkA_len h67))) ?_
      refine SJ.nil ?_
      refine PJ.next ?_
      refine WJ.ret ?_
      refine PJ.boxA 1 rfl fun hlen68 => ?_
      obtain rfl := Option.some.inj hm
      exact PJ.retn_sel (vs := [.agg (List.toArray (encs fI64 l17))]) Try.results139 ⟨⟨1, g5, 161, (encs fI64 l17), rfl, rfl, .inl ⟨Try.isAgg161, fun w => (Try.sizeOf161 w).trans (congrArg (fun z => Result.ok z w) ((length_encs fI64 l17).trans (congrArg (fun z => z * (fI64).size) hlen68)).symm), rfl⟩⟩, trivial⟩ [] ⟨List.nodup_nil, rfl⟩ ⟨rfl, rfl⟩

set_option maxRecDepth 100000 in
set_option maxHeartbeats 1000000 in
theorem ok_i_planBetween {N : Nat} {stops1 : List Int} {from4 : Int} {to5 : Int} {r : Str} (hm : i_planBetween N stops1 from4 to5 = some r) (w : World) (v2 : Value) (hr3 : RdS w (cx w).Fz v2 fI64.rp stops1) :
    Calls Try.prog 112 #[v2, .int .i64 from4, .int .i64 to5] w (Ret (cx w) (str r)) := by
  unfold i_planBetween at hm
  refine Calls.enter [v2, .int .i64 from4, .int .i64 to5] Try.func112 rfl Try.ntmps112 rfl ?_
  refine WJ.seq ?_
  refine WJ.quiet ?_
  refine QJ.step (YldS.yld (y_assign rfl)) rfl ?_
  refine QJ.done ?_
  refine PJ.next ?_
  refine WJ.seq ?_
  refine WJ.reg ?_
  refine SJ.q (YldS.yld (y_move rfl)) rfl ?_
  refine SJ.q (YldS.yld (y_move rfl)) rfl ?_
  obtain ⟨r6, h7, hm⟩ := bindS hm
  refine SJ.q (y_call Try.call139 rfl (RetG.quiet fun w hw => ok_i_distances h7 w _ (hr3.st hw))) rfl ?_
  refine SJ.allocA (R := fI64) (xs := List.replicate 31 (0 : Int)) 31 zv161 rfl rfl rfl rfl fun g8 => ?_
  obtain ⟨l9, h10, hm⟩ := bindS hm
  refine SJ.storeA (k := 0) (ys := r6) rfl rfl rfl rfl (chkA_len h10) Try.sizeOf161 ((length_encs fI64 r6).trans (congrArg (fun z => z * (fI64).size) (chkA_len h10))) ?_
  refine SJ.nil ?_
  refine PJ.next ?_
  refine WJ.seq ?_
  refine WJ.reg ?_
  refine SJ.buildSlice (R := fByte) (os := []) [] Try.runUnderlying22 Try.sizeOf5 Try.zeroValue5 rfl rfl rfl rfl rfl rfl fun v11 => ?_
  refine SJ.q (YldS.yld (y_assign rfl)) rfl ?_
  refine SJ.nil ?_
  refine PJ.next ?_
  obtain ⟨kj14, hk15, hm⟩ := withK_open hm
  refine WJ.join (X := (List UInt8) × Value) (fun (x : (List UInt8) × Value) => kj14 x.1 = some r) (fun (x : (List UInt8) × Value) => [(8, x.2)]) (fun (x : (List UInt8) × Value) => [row x.2 5 fByte x.1]) ?_ ?_
  · clear hk15
    refine WJ.block ?_
    refine WJ.sel (L' := (fun (x : (List UInt8) × Value × Int) => [row x.2.1 5 fByte x.1, row (av g8 31) 161 fI64 r6]) ([], v11, from4)) [0, 1] ⟨by decide, rfl⟩ ?_
    refine WJ.sub (m' := (fun (x : (List UInt8) × Value × Int) => [(0, v2), (1, .int .i64 x.2.2), (2, .int .i64 to5), (7, pt g8 0), (8, x.2.1)]) ([], v11, from4)) ⟨rfl, rfl, rfl, rfl, rfl, trivial⟩ ?_
    refine WJ.loop (X := (List UInt8) × Value × Int) (fun N (x : (List UInt8) × Value × Int) => i_planBetween_l1 kj14 stops1 to5 r6 N x.1 x.2.2 = some r) (fun (x : (List UInt8) × Value × Int) => [(0, v2), (1, .int .i64 x.2.2), (2, .int .i64 to5), (7, pt g8 0), (8, x.2.1)]) (fun (x : (List UInt8) × Value × Int) => [row x.2.1 5 fByte x.1, row (av g8 31) 161 fI64 r6]) ?_ N ([], v11, from4) hm
    · rintro N ⟨l16, v17, from18⟩ hI
      have hm := hI; clear hI
      cases N with
      | zero => cases hm
      | succ N =>
      unfold i_planBetween_l1 at hm
      obtain ⟨kj22, hk23, hm⟩ := withK_open hm
      refine WJ.joinT (X := (List UInt8) × Value × Int) (fun (x : (List UInt8) × Value × Int) => kj22 x.1 x.2.2 = some r) (fun (x : (List UInt8) × Value × Int) => [(0, v2), (1, .int .i64 x.2.2), (2, .int .i64 to5), (7, pt g8 0), (8, x.2.1)]) (fun (x : (List UInt8) × Value × Int) => [row x.2.1 5 fByte x.1, row (av g8 31) 161 fI64 r6]) ?_ ?_
      · clear hk23
        refine WJ.seq ?_
        refine WJ.seq ?_
        refine WJ.quiet ?_
        refine QJ.step (YldS.yld (y_move rfl)) rfl ?_
        refine QJ.step (YldS.yld (y_move rfl)) rfl ?_
        refine QJ.step (YldS.yld (y_bin rfl rfl rfl)) rfl ?_
        refine QJ.done ?_
        refine PJ.next ?_
        refine WJ.cond (t := (from18 != to5)) rfl (fun hb24 => ?_) (fun hb24 => ?_)
        · replace hm := ifT hm hb24
          refine WJ.skip ?_
          refine PJ.next ?_
          refine WJ.block ?_
          refine WJ.seq ?_
          refine WJ.reg ?_
          refine SJ.buildSlice (R := fByte) (os := [.const (.int .u8 (UInt8.toNat 35 : Int)), .const (.int .u8 (UInt8.toNat 60 : Int)), .const (.int .u8 (UInt8.toNat 62 : Int))]) [35, 60, 62] Try.runUnderlying22 Try.sizeOf5 Try.zeroValue5 rfl rfl rfl rfl rfl rfl fun v25 => ?_
          refine SJ.convMark (k := 0) rfl Try.underlying22 Try.underlying5 rfl rfl ?_
          refine SJ.q (YldS.yld (y_lenRowM (k := 0) rfl Try.runUnderlying22 rfl)) rfl ?_
          refine SJ.q (YldS.yld (y_move rfl)) rfl ?_
          refine SJ.nil ?_
          refine PJ.next ?_
          refine WJ.block ?_
          refine WJ.sel (L' := (fun (x : (List UInt8) × Value × Int × Int) => [rowM v25 5 fByte [35, 60, 62], row x.2.1 5 fByte x.1, row (av g8 31) 161 fI64 r6]) (l16, v17, from18, 0)) [0, 1, 2] ⟨by decide, rfl⟩ ?_
          refine WJ.sub (m' := (fun (x : (List UInt8) × Value × Int × Int) => [(0, v2), (1, .int .i64 x.2.2.1), (2, .int .i64 to5), (7, pt g8 0), (8, x.2.1), (21, v25), (22, .int .i64 (List.length [35, 60, 62] : Int)), (23, .int .i64 x.2.2.2)]) (l16, v17, from18, 0)) ⟨rfl, rfl, rfl, rfl, rfl, rfl, rfl, rfl, trivial⟩ ?_
          refine WJ.loop (X := (List UInt8) × Value × Int × Int) (fun N (x : (List UInt8) × Value × Int × Int) => i_planBetween_l2 kj22 stops1 r6 N x.1 x.2.2.1 x.2.2.2 = some r) (fun (x : (List UInt8) × Value × Int × Int) => [(0, v2), (1, .int .i64 x.2.2.1), (2, .int .i64 to5), (7, pt g8 0), (8, x.2.1), (21, v25), (22, .int .i64 (List.length [35, 60, 62] : Int)), (23, .int .i64 x.2.2.2)]) (fun (x : (List UInt8) × Value × Int × Int) => [rowM v25 5 fByte [35, 60, 62], row x.2.1 5 fByte x.1, row (av g8 31) 161 fI64 r6]) ?_ N (l16, v17, from18, 0) hm
          · rintro N ⟨l26, v27, from28, x29⟩ hI
            have hm := hI; clear hI
            cases N with
            | zero => cases hm
            | succ N =>
            unfold i_planBetween_l2 at hm
            refine WJ.seq ?_
            refine WJ.quiet ?_
            refine QJ.step (YldS.yld (y_bin rfl rfl rfl)) rfl ?_
            refine QJ.done ?_
            refine PJ.next ?_
            refine WJ.seq ?_
            refine WJ.cond (t := decide (x29 < (List.length [35, 60, 62] : Int))) rfl (fun hb30 => ?_) (fun hb30 => ?_)
            · replace hm := ifT hm hb30
              refine WJ.skip ?_
              refine PJ.next ?_
              refine WJ.seq ?_
              refine WJ.block ?_
              refine WJ.seq ?_
              refine WJ.quiet ?_
              obtain ⟨e31, h32, hm⟩ := bindS hm
              refine QJ.step (YldS.yld (y_ixRowM (k := 0) (R := fByte) rfl Try.runUnderlying22 Try.sizeOf5 rfl rfl h32)) rfl ?_
              refine QJ.step (YldS.yld (y_loadRM (k := 0) (i := (Int.toNat x29)) (off := 0) (u := .int .u8 (UInt8.toNat e31 : Int)) rfl Try.isAgg5 rfl (idx_get h32) rfl)) rfl ?_
              refine QJ.step (YldS.yld (y_assign rfl)) rfl ?_
              refine QJ.done ?_
              refine PJ.next ?_
              refine WJ.seq ?_
              refine WJ.quiet ?_
              refine QJ.step (YldS.yld (y_move rfl)) rfl ?_
              refine QJ.step (YldS.yld (y_move rfl)) rfl ?_
              refine QJ.step (YldS.yld (y_move rfl)) rfl ?_
              obtain ⟨r33, h34, hm⟩ := bindS hm
              refine QJ.step (y_call Try.call64 rfl (RetG.quiet fun w hw => ok_i_moved h34 w _ (hr3.st hw))) rfl ?_
              refine QJ.step (YldS.yld (y_move rfl)) rfl ?_
              refine QJ.step (YldS.yld (y_extract rfl rfl)) rfl ?_
              refine QJ.step (YldS.yld (y_extract rfl rfl)) rfl ?_
              refine QJ.step (YldS.yld (y_assign rfl)) rfl ?_
              refine QJ.step (YldS.yld (y_assign rfl)) rfl ?_
              refine QJ.done ?_
              refine PJ.next ?_
              refine WJ.seq ?_
              refine WJ.quiet_draw follows (by kernel_rfl) ?_
              refine QJ.step (YldS.yld (y_move rfl)) rfl ?_
              refine QJ.step (YldS.yld (y_move rfl)) rfl ?_
              obtain ⟨t35, h36, hm⟩ := bindS hm
              refine QJ.cut 9 [(0, v2), (1, .int .i64 from28), (2, .int .i64 to5), (7, pt g8 0), (8, v27), (10, .int .u8 (UInt8.toNat e31 : Int)), (11, .int .i64 r33.1), (21, v25), (22, .int .i64 (List.length [35, 60, 62] : Int)), (23, .int .i64 x29), (44, .bool t35)] ?_ ?_
              · rcases Bool.eq_false_or_eq_true r33.2 with hb37 | hb37
                · replace h36 := andT h36 hb37
                  refine QJ.on rfl rfl (cB hb37) (YldS.yld (y_move rfl)) rfl ?_
                  obtain ⟨e38, h39, h36⟩ := bindS h36
                  refine QJ.on rfl rfl (cB hb37) (YldS.yld (y_ixArr (k := 2) (R := fI64) rfl Try.runUnderlying161 Try.sizeOf2 rfl rfl h39)) rfl ?_
                  refine QJ.on rfl rfl (cB hb37) (YldS.yld (y_loadR (k := 2) (i := (Int.toNat r33.1)) (off := 0) (u := .int .i64 e38) rfl Try.isAgg2 rfl (idx_get h39) rfl)) rfl ?_
                  refine QJ.on rfl rfl (cB hb37) (YldS.yld (y_move rfl)) rfl ?_
                  obtain ⟨e40, h41, h36⟩ := bindS h36
                  refine QJ.on rfl rfl (cB hb37) (YldS.yld (y_ixArr (k := 2) (R := fI64) rfl Try.runUnderlying161 Try.sizeOf2 rfl rfl h41)) rfl ?_
                  refine QJ.on rfl rfl (cB hb37) (YldS.yld (y_loadR (k := 2) (i := (Int.toNat from28)) (off := 0) (u := .int .i64 e40) rfl Try.isAgg2 rfl (idx_get h41) rfl)) rfl ?_
                  refine QJ.on rfl rfl (cB hb37) (YldS.yld (y_bin rfl rfl rfl)) rfl ?_
                  refine QJ.on rfl rfl (cB hb37) (YldS.yld (y_bin rfl rfl rfl)) rfl ?_
                  refine QJ.step (YldS.yld (y_pick_t (cB hb37) rfl)) rfl ?_
                  obtain rfl := Option.some.inj h36
                  exact QJ.cut_end ⟨rfl, rfl, rfl, rfl, rfl, rfl, rfl, rfl, rfl, rfl, rfl, trivial⟩
                · obtain rfl := andF h36 hb37
                  refine QJ.off rfl rfl (cB hb37) rfl rfl ?_
                  refine QJ.off rfl rfl (cB hb37) rfl rfl ?_
                  refine QJ.off rfl rfl (cB hb37) rfl rfl ?_
                  refine QJ.off rfl rfl (cB hb37) rfl rfl ?_
                  refine QJ.off rfl rfl (cB hb37) rfl rfl ?_
                  refine QJ.off rfl rfl (cB hb37) rfl rfl ?_
                  refine QJ.off rfl rfl (cB hb37) rfl rfl ?_
                  refine QJ.off rfl rfl (cB hb37) rfl rfl ?_
                  refine QJ.step (YldS.yld (y_pick_f (cB hb37) rfl)) rfl ?_
                  exact QJ.cut_end ⟨rfl, rfl, rfl, rfl, rfl, rfl, rfl, rfl, rfl, rfl, rfl, trivial⟩
              refine QJ.done ?_
              refine PJ.next ?_
              refine WJ.cond (t := t35) rfl (fun hb42 => ?_) (fun hb42 => ?_)
              · replace hm := ifT hm hb42
                refine WJ.seq ?_
                refine WJ.reg ?_
                refine SJ.q (YldS.yld (y_move rfl)) rfl ?_
                refine SJ.q (YldS.yld (y_move rfl)) rfl ?_
                refine SJ.buildSlice (R := fByte) (os := [.tmp 46]) [e31] Try.runUnderlying22 Try.sizeOf5 Try.zeroValue5 rfl rfl rfl rfl rfl rfl fun v43 => ?_
                obtain ⟨l44, h45, hm⟩ := bindS hm
                refine SJ.append (k := 2) (R := fByte) h45 rfl Try.underlying22 el5 rfl rfl rfl (fun w hw => (hw.row_rd (k := 0) rfl)) rfl fun v46 => ?_
                refine SJ.q (YldS.yld (y_assign rfl)) rfl ?_
                refine SJ.nil ?_
                refine PJ.next ?_
                refine WJ.seq ?_
                refine WJ.quiet ?_
                refine QJ.step (YldS.yld (y_move rfl)) rfl ?_
                refine QJ.step (YldS.yld (y_assign rfl)) rfl ?_
                refine QJ.done ?_
                refine PJ.next ?_
                refine WJ.exit ?_
                refine PJ.block_exit_ne rfl (PJ.then_exit (PJ.then_exit (PJ.block_exit (PJ.block_normal ?_))))
                exact PJ.joined (l44, v46, r33.1) [2, 3] hm ⟨rfl, rfl, rfl, rfl, rfl, trivial⟩ ⟨by decide, rfl⟩
              · replace hm := ifF hm hb42
                refine WJ.skip ?_
                refine PJ.block_normal (PJ.next ?_)
                refine WJ.quiet ?_
                refine QJ.step (YldS.yld (y_bin rfl rfl rfl)) rfl ?_
                refine QJ.step (YldS.yld (y_move rfl)) rfl ?_
                refine QJ.done ?_
                exact PJ.round (l26, v27, from28, w64 (x29 + 1)) [0, 1, 2] hm ⟨rfl, rfl, rfl, rfl, rfl, rfl, rfl, rfl, trivial⟩ ⟨by decide, rfl⟩
            · replace hm := ifF hm hb30
              refine WJ.exit ?_
              refine PJ.then_exit (PJ.then_exit (PJ.block_exit (PJ.block_normal ?_)))
              exact PJ.joined (l26, v27, from28) [1, 2] hm ⟨rfl, rfl, rfl, rfl, rfl, trivial⟩ ⟨by decide, rfl⟩
        · replace hm := ifF hm hb24
          refine WJ.exit ?_
          refine PJ.then_exit (PJ.then_exit (PJ.then_exit (PJ.block_exit ?_)))
          exact PJ.joined (l16, v17) [0] hm ⟨rfl, trivial⟩ ⟨by decide, rfl⟩
      · rintro ⟨l19, v20, from21⟩ hm
        subst hk23
        exact PJ.round (l19, v20, from21) [0, 1] hm ⟨rfl, rfl, rfl, rfl, rfl, trivial⟩ ⟨by decide, rfl⟩
  · rintro ⟨l12, v13⟩ hm
    subst hk15
    refine WJ.seq ?_
    refine WJ.quiet ?_
    refine QJ.step (YldS.yld (y_move rfl)) rfl ?_
    refine QJ.step (YldS.yld (y_b2s Try.underlying22 Try.underlying9 Try.underlying5 (fun w hw => ⟨_, (hw.row_rd (k := 0) rfl)⟩) rfl)) rfl ?_
    refine QJ.step (YldS.yld (y_assign rfl)) rfl ?_
    refine QJ.done ?_
    refine PJ.next ?_
    refine WJ.ret ?_
    obtain rfl := Option.some.inj hm
    refine PJ.sel (L' := []) [] ⟨List.nodup_nil, rfl⟩ ?_
    exact PJ.retn (vs := [str l12]) Try.results112 ⟨rfl, trivial⟩ ⟨rfl, rfl⟩

set_option maxRecDepth 100000 in
set_option maxHeartbeats 1000000 in
theorem ok_i_rowPlan {N : Nat} {stops1 : List Int} {row4 : Str} {r : Str × Int} (hm : i_rowPlan N stops1 row4 = some r) (w : World) (v2 : Value) (hr3 : RdS w (cx w).Fz v2 fI64.rp stops1) :
    Calls Try.prog 63 #[v2, str row4] w (Ret (cx w) (tup [str r.1, .int .i64 r.2])) := by
  unfold i_rowPlan at hm
  refine Calls.enter [v2, str row4] Try.func63 rfl Try.ntmps63 rfl ?_
  refine WJ.seq ?_
  refine WJ.quiet ?_
  refine QJ.step (YldS.yld (y_assign rfl)) rfl ?_
  refine QJ.step (YldS.yld (y_assign rfl)) rfl ?_
  refine QJ.done ?_
  refine PJ.next ?_
  refine WJ.seq ?_
  refine WJ.quiet ?_
  refine QJ.step (YldS.yld (y_assign rfl)) rfl ?_
  refine QJ.step (YldS.yld (y_assign rfl)) rfl ?_
  refine QJ.step (YldS.yld (y_assign rfl)) rfl ?_
  refine QJ.done ?_
  refine PJ.next ?_
  obtain ⟨kj7, hk8, hm⟩ := withK_open hm
  refine WJ.join (X := Str × Int) (fun (x : Str × Int) => kj7 x.1 x.2 = some r) (fun (x : Str × Int) => [(6, str x.1), (7, .int .i64 x.2)]) (fun (x : Str × Int) => []) ?_ ?_
  · clear hk8
    refine WJ.seq ?_
    refine WJ.quiet ?_
    refine QJ.step (YldS.yld (y_move rfl)) rfl ?_
    refine QJ.step (YldS.yld (y_lenStr Try.runUnderlying9 rfl)) rfl ?_
    refine QJ.step (YldS.yld (y_move rfl)) rfl ?_
    refine QJ.done ?_
    refine PJ.next ?_
    refine WJ.block ?_
    refine WJ.sel (L' := (fun (x : Str × Int × Int × Int) => []) ([], 0, 0, 0)) [] ⟨List.nodup_nil, rfl⟩ ?_
    refine WJ.sub (m' := (fun (x : Str × Int × Int × Int) => [(0, v2), (1, str row4), (6, str x.1), (7, .int .i64 x.2.1), (8, .int .i64 x.2.2.1), (12, .int .i64 (List.length row4 : Int)), (13, .int .i64 x.2.2.2)]) ([], 0, 0, 0)) ⟨rfl, rfl, rfl, rfl, rfl, rfl, rfl, trivial⟩ ?_
    refine WJ.loop (X := Str × Int × Int × Int) (fun N (x : Str × Int × Int × Int) => i_rowPlan_l1 kj7 stops1 row4 N x.1 x.2.1 x.2.2.1 x.2.2.2 = some r) (fun (x : Str × Int × Int × Int) => [(0, v2), (1, str row4), (6, str x.1), (7, .int .i64 x.2.1), (8, .int .i64 x.2.2.1), (12, .int .i64 (List.length row4 : Int)), (13, .int .i64 x.2.2.2)]) (fun (x : Str × Int × Int × Int) => []) ?_ N ([], 0, 0, 0) hm
    · rintro N ⟨plan9, moves10, at11, x12⟩ hI
      have hm := hI; clear hI
      cases N with
      | zero => cases hm
      | succ N =>
      unfold i_rowPlan_l1 at hm
      refine WJ.seq ?_
      refine WJ.quiet ?_
      refine QJ.step (YldS.yld (y_bin rfl rfl rfl)) rfl ?_
      refine QJ.done ?_
      refine PJ.next ?_
      refine WJ.seq ?_
      refine WJ.cond (t := decide (x12 < (List.length row4 : Int))) rfl (fun hb13 => ?_) (fun hb13 => ?_)
      · replace hm := ifT hm hb13
        refine WJ.skip ?_
        refine PJ.next ?_
        obtain ⟨kj17, hk18, hm⟩ := withK_open hm
        refine WJ.join (X := Str × Int × Int) (fun (x : Str × Int × Int) => kj17 x.1 x.2.1 x.2.2 = some r) (fun (x : Str × Int × Int) => [(0, v2), (1, str row4), (6, str x.1), (7, .int .i64 x.2.1), (8, .int .i64 x.2.2), (12, .int .i64 (List.length row4 : Int)), (13, .int .i64 x12)]) (fun (x : Str × Int × Int) => []) ?_ ?_
        · clear hk18
          refine WJ.block ?_
          refine WJ.seq ?_
          refine WJ.quiet ?_
          refine QJ.step (YldS.yld (y_move rfl)) rfl ?_
          refine QJ.step (YldS.yld (y_assign rfl)) rfl ?_
          refine QJ.done ?_
          refine PJ.next ?_
          refine WJ.seq ?_
          refine WJ.seq ?_
          refine WJ.quiet ?_
          refine QJ.step (YldS.yld (y_move rfl)) rfl ?_
          refine QJ.step (YldS.yld (y_move rfl)) rfl ?_
          obtain ⟨c19, h20, hm⟩ := bindS hm
          refine QJ.step (YldS.yld (y_idxStr Try.runUnderlying9 rfl rfl h20)) rfl ?_
          refine QJ.step (YldS.yld (y_bin8 c19 (32 : UInt8) rfl rfl rfl)) rfl ?_
          refine QJ.done ?_
          refine PJ.next ?_
          refine WJ.cond (t := (c19 == (32 : UInt8))) rfl (fun hb21 => ?_) (fun hb21 => ?_)
          · replace hm := ifT hm hb21
            refine WJ.exit ?_
            refine PJ.then_exit (PJ.block_exit ?_)
            exact PJ.joined (plan9, moves10, at11) [] hm ⟨rfl, rfl, rfl, rfl, rfl, rfl, rfl, trivial⟩ ⟨List.nodup_nil, rfl⟩
          · replace hm := ifF hm hb21
            refine WJ.skip ?_
            refine PJ.next ?_
            refine WJ.seq ?_
            refine WJ.quiet ?_
            refine QJ.step (YldS.yld (y_move rfl)) rfl ?_
            refine QJ.step (YldS.yld (y_move rfl)) rfl ?_
            refine QJ.step (YldS.yld (y_move rfl)) rfl ?_
            obtain ⟨r22, h23, hm⟩ := bindS hm
            refine QJ.step (y_call Try.call112 rfl (RetG.quiet fun w hw => ok_i_planBetween h23 w _ (hr3.st hw))) rfl ?_
            refine QJ.step (YldS.yld (y_assign rfl)) rfl ?_
            refine QJ.done ?_
            refine PJ.next ?_
            refine WJ.seq ?_
            refine WJ.quiet ?_
            refine QJ.step (YldS.yld (y_move rfl)) rfl ?_
            refine QJ.step (YldS.yld (y_move rfl)) rfl ?_
            obtain ⟨s24, h25, hm⟩ := bindS hm
            refine QJ.step (YldS.yld (y_cat h25 rfl rfl)) rfl ?_
            refine QJ.step (YldS.yld (y_move rfl)) rfl ?_
            refine QJ.step (YldS.yld (y_move rfl)) rfl ?_
            refine QJ.step (YldS.yld (y_move rfl)) rfl ?_
            refine QJ.step (YldS.yld (y_bin rfl rfl rfl)) rfl ?_
            obtain ⟨s26, h27, hm⟩ := bindS hm
            refine QJ.step (YldS.yld (y_subStr (i := some x12) (j := some (w64 (x12 + 1))) h27 Try.runUnderlying9 rfl ⟨_, rfl⟩ ⟨_, rfl⟩)) rfl ?_
            obtain ⟨s28, h29, hm⟩ := bindS hm
            refine QJ.step (YldS.yld (y_cat h29 rfl rfl)) rfl ?_
            obtain ⟨s30, h31, hm⟩ := bindS hm
            refine QJ.step (YldS.yld (y_cat h31 rfl rfl)) rfl ?_
            refine QJ.step (YldS.yld (y_assign rfl)) rfl ?_
            refine QJ.done ?_
            refine PJ.next ?_
            refine WJ.seq ?_
            refine WJ.quiet ?_
            refine QJ.step (YldS.yld (y_move rfl)) rfl ?_
            refine QJ.step (YldS.yld (y_move rfl)) rfl ?_
            refine QJ.step (YldS.yld (y_lenStr Try.runUnderlying9 rfl)) rfl ?_
            refine QJ.step (YldS.yld (y_bin rfl rfl rfl)) rfl ?_
            refine QJ.step (YldS.yld (y_assign rfl)) rfl ?_
            refine QJ.done ?_
            refine PJ.next ?_
            refine WJ.quiet ?_
            refine QJ.step (YldS.yld (y_move rfl)) rfl ?_
            refine QJ.step (YldS.yld (y_bin rfl rfl rfl)) rfl ?_
            refine QJ.step (YldS.yld (y_assign rfl)) rfl ?_
            refine QJ.done ?_
            refine PJ.block_normal ?_
            exact PJ.joined (s30, w64 (moves10 + (List.length r22 : Int)), w64 (x12 + 1)) [] hm ⟨rfl, rfl, rfl, rfl, rfl, rfl, rfl, trivial⟩ ⟨List.nodup_nil, rfl⟩
        · rintro ⟨plan14, moves15, at16⟩ hm
          subst hk18
          refine WJ.quiet ?_
          refine QJ.step (YldS.yld (y_bin rfl rfl rfl)) rfl ?_
          refine QJ.step (YldS.yld (y_move rfl)) rfl ?_
          refine QJ.done ?_
          exact PJ.round (plan14, moves15, at16, w64 (x12 + 1)) [] hm ⟨rfl, rfl, rfl, rfl, rfl, rfl, rfl, trivial⟩ ⟨List.nodup_nil, rfl⟩
      · replace hm := ifF hm hb13
        refine WJ.exit ?_
        refine PJ.then_exit (PJ.then_exit (PJ.block_exit ?_))
        exact PJ.joined (plan9, moves10) [] hm ⟨rfl, rfl, trivial⟩ ⟨List.nodup_nil, rfl⟩
  · rintro ⟨plan5, moves6⟩ hm
    subst hk8
    refine WJ.seq ?_
    refine WJ.quiet ?_
    refine QJ.step (YldS.yld (y_move rfl)) rfl ?_
    refine QJ.step (YldS.yld (y_move rfl)) rfl ?_
    refine QJ.step (YldS.yld (y_assign rfl)) rfl ?_
    refine QJ.step (YldS.yld (y_assign rfl)) rfl ?_
    refine QJ.done ?_
    refine PJ.next ?_
    refine WJ.ret ?_
    obtain rfl := Option.some.inj hm
    refine PJ.sel (L' := []) [] ⟨List.nodup_nil, rfl⟩ ?_
    exact PJ.retn (vs := [str plan5, .int .i64 moves6]) Try.results63 ⟨rfl, rfl, trivial⟩ ⟨rfl, rfl⟩

set_option maxRecDepth 100000 in
set_option maxHeartbeats 1000000 in
theorem ok_i_RowPlan {N : Nat} {stops1 : List Int} {row4 : Str} {r : Str × Int} (hm : i_RowPlan N stops1 row4 = some r) (w : World) (v2 : Value) (hr3 : RdS w (cx w).Fz v2 fI64.rp stops1) :
    Calls Try.prog 12 #[v2, str row4] w (Ret (cx w) (tup [str r.1, .int .i64 r.2])) := by
  unfold i_RowPlan at hm
  refine Calls.enter [v2, str row4] Try.func12 rfl Try.ntmps12 rfl ?_
  refine WJ.seq ?_
  refine WJ.quiet ?_
  refine QJ.step (YldS.yld (y_assign rfl)) rfl ?_
  refine QJ.step (YldS.yld (y_assign rfl)) rfl ?_
  refine QJ.done ?_
  refine PJ.next ?_
  refine WJ.seq ?_
  refine WJ.seq ?_
  refine WJ.quiet ?_
  refine QJ.step (YldS.yld (y_move rfl)) rfl ?_
  obtain ⟨r5, h6, hm⟩ := bindS hm
  refine QJ.step (y_call Try.call61 rfl (RetG.quiet fun w hw => ok_i_ValidStops h6 w _ (hr3.st hw))) rfl ?_
  refine QJ.step (YldS.yld (y_not rfl)) rfl ?_
  refine QJ.done ?_
  refine PJ.next ?_
  refine WJ.cond (t := !r5) rfl (fun hb7 => ?_) (fun hb7 => ?_)
  · replace hm := ifT hm hb7
    refine WJ.seq ?_
    refine WJ.quiet ?_
    refine QJ.step (YldS.yld (y_assign rfl)) rfl ?_
    refine QJ.step (YldS.yld (y_assign rfl)) rfl ?_
    refine QJ.done ?_
    refine PJ.next ?_
    refine WJ.ret ?_
    refine PJ.then_ret ?_
    obtain rfl := Option.some.inj hm
    refine PJ.sel (L' := []) [] ⟨List.nodup_nil, rfl⟩ ?_
    exact PJ.retn (vs := [str [], .int .i64 1]) Try.results12 ⟨rfl, rfl, trivial⟩ ⟨rfl, rfl⟩
  · replace hm := ifF hm hb7
    refine WJ.skip ?_
    refine PJ.next ?_
    refine WJ.seq ?_
    refine WJ.seq ?_
    refine WJ.quiet ?_
    refine QJ.step (YldS.yld (y_move rfl)) rfl ?_
    obtain ⟨r8, h9, hm⟩ := bindS hm
    refine QJ.step (y_call Try.call62 rfl (RetG.quiet fun w hw => ok_i_isRow h9 w )) rfl ?_
    refine QJ.step (YldS.yld (y_not rfl)) rfl ?_
    refine QJ.done ?_
    refine PJ.next ?_
    refine WJ.cond (t := !r8) rfl (fun hb10 => ?_) (fun hb10 => ?_)
    · replace hm := ifT hm hb10
      refine WJ.seq ?_
      refine WJ.quiet ?_
      refine QJ.step (YldS.yld (y_assign rfl)) rfl ?_
      refine QJ.step (YldS.yld (y_assign rfl)) rfl ?_
      refine QJ.done ?_
      refine PJ.next ?_
      refine WJ.ret ?_
      refine PJ.then_ret ?_
      obtain rfl := Option.some.inj hm
      refine PJ.sel (L' := []) [] ⟨List.nodup_nil, rfl⟩ ?_
      exact PJ.retn (vs := [str [], .int .i64 2]) Try.results12 ⟨rfl, rfl, trivial⟩ ⟨rfl, rfl⟩
    · replace hm := ifF hm hb10
      refine WJ.skip ?_
      refine PJ.next ?_
      refine WJ.seq ?_
      refine WJ.quiet ?_
      refine QJ.step (YldS.yld (y_move rfl)) rfl ?_
      refine QJ.step (YldS.yld (y_move rfl)) rfl ?_
      obtain ⟨r11, h12, hm⟩ := bindS hm
      refine QJ.step (y_call Try.call63 rfl (RetG.quiet fun w hw => ok_i_rowPlan h12 w _ (hr3.st hw))) rfl ?_
      refine QJ.step (YldS.yld (y_move rfl)) rfl ?_
      refine QJ.step (YldS.yld (y_extract rfl rfl)) rfl ?_
      refine QJ.step (YldS.yld (y_extract rfl rfl)) rfl ?_
      refine QJ.step (YldS.yld (y_assign rfl)) rfl ?_
      refine QJ.step (YldS.yld (y_assign rfl)) rfl ?_
      refine QJ.done ?_
      refine PJ.next ?_
      refine WJ.seq ?_
      refine WJ.quiet ?_
      refine QJ.step (YldS.yld (y_move rfl)) rfl ?_
      refine QJ.step (YldS.yld (y_assign rfl)) rfl ?_
      refine QJ.step (YldS.yld (y_assign rfl)) rfl ?_
      refine QJ.done ?_
      refine PJ.next ?_
      refine WJ.ret ?_
      obtain rfl := Option.some.inj hm
      refine PJ.sel (L' := []) [] ⟨List.nodup_nil, rfl⟩ ?_
      exact PJ.retn (vs := [str r11.1, .int .i64 0]) Try.results12 ⟨rfl, rfl, trivial⟩ ⟨rfl, rfl⟩

set_option maxRecDepth 100000 in
set_option maxHeartbeats 1000000 in
theorem ok_i_isLetter {N : Nat} {s1 : Str} {r : Bool} (hm : i_isLetter N s1 = some r) (w : World)  :
    Calls Try.prog 65 #[str s1] w (Ret (cx w) (.bool r)) := by
  unfold i_isLetter at hm
  refine Calls.enter [str s1] Try.func65 rfl Try.ntmps65 rfl ?_
  refine WJ.seq ?_
  refine WJ.quiet ?_
  refine QJ.step (YldS.yld (y_assign rfl)) rfl ?_
  refine QJ.done ?_
  refine PJ.next ?_
  refine WJ.seq ?_
  refine WJ.quiet ?_
  refine QJ.step (YldS.yld (y_move rfl)) rfl ?_
  refine QJ.step (YldS.yld (y_lenStr Try.runUnderlying9 rfl)) rfl ?_
  refine QJ.step (YldS.yld (y_bin rfl rfl rfl)) rfl ?_
  refine QJ.step (YldS.yld (y_move rfl)) rfl ?_
  obtain ⟨t2, h3, hm⟩ := bindS hm
  refine QJ.cut 3 [(9, .bool t2)] ?_ ?_
  · rcases Bool.eq_false_or_eq_true ((List.length s1 : Int) == 1) with hb4 | hb4
    · replace h3 := andT h3 hb4
      refine QJ.on rfl rfl (cB hb4) (YldS.yld (y_move rfl)) rfl ?_
      obtain ⟨r5, h6, h3⟩ := bindS h3
      refine QJ.on rfl rfl (cB hb4) (y_call Try.call111 rfl (RetG.quiet fun w hw => ok_i_isText h6 w )) rfl ?_
      refine QJ.step (YldS.yld (y_pick_t (cB hb4) rfl)) rfl ?_
      obtain rfl := Option.some.inj h3
      exact QJ.cut_end ⟨rfl, trivial⟩
    · obtain rfl := andF h3 hb4
      refine QJ.off rfl rfl (cB hb4) rfl rfl ?_
      refine QJ.off rfl rfl (cB hb4) rfl rfl ?_
      refine QJ.step (YldS.yld (y_pick_f (cB hb4) rfl)) rfl ?_
      exact QJ.cut_end ⟨rfl, trivial⟩
  refine QJ.step (YldS.yld (y_assign rfl)) rfl ?_
  refine QJ.done ?_
  refine PJ.next ?_
  refine WJ.ret ?_
  obtain rfl := Option.some.inj hm
  refine PJ.sel (L' := []) [] ⟨List.nodup_nil, rfl⟩ ?_
  exact PJ.retn (vs := [.bool t2]) Try.results65 ⟨rfl, trivial⟩ ⟨rfl, rfl⟩

set_option maxRecDepth 100000 in
set_option maxHeartbeats 1000000 in
theorem ok_i_RunPlan {N : Nat} {stops1 : List Int} {x4 : Str} {r : Str × Int} (hm : i_RunPlan N stops1 x4 = some r) (w : World) (v2 : Value) (hr3 : RdS w (cx w).Fz v2 fI64.rp stops1) :
    Calls Try.prog 13 #[v2, str x4] w (Ret (cx w) (tup [str r.1, .int .i64 r.2])) := by
  unfold i_RunPlan at hm
  refine Calls.enter [v2, str x4] Try.func13 rfl Try.ntmps13 rfl ?_
  refine WJ.seq ?_
  refine WJ.quiet ?_
  refine QJ.step (YldS.yld (y_assign rfl)) rfl ?_
  refine QJ.step (YldS.yld (y_assign rfl)) rfl ?_
  refine QJ.done ?_
  refine PJ.next ?_
  refine WJ.seq ?_
  refine WJ.seq ?_
  refine WJ.quiet ?_
  refine QJ.step (YldS.yld (y_move rfl)) rfl ?_
  obtain ⟨r5, h6, hm⟩ := bindS hm
  refine QJ.step (y_call Try.call61 rfl (RetG.quiet fun w hw => ok_i_ValidStops h6 w _ (hr3.st hw))) rfl ?_
  refine QJ.step (YldS.yld (y_not rfl)) rfl ?_
  refine QJ.done ?_
  refine PJ.next ?_
  refine WJ.cond (t := !r5) rfl (fun hb7 => ?_) (fun hb7 => ?_)
  · replace hm := ifT hm hb7
    refine WJ.seq ?_
    refine WJ.quiet ?_
    refine QJ.step (YldS.yld (y_assign rfl)) rfl ?_
    refine QJ.step (YldS.yld (y_assign rfl)) rfl ?_
    refine QJ.done ?_
    refine PJ.next ?_
    refine WJ.ret ?_
    refine PJ.then_ret ?_
    obtain rfl := Option.some.inj hm
    refine PJ.sel (L' := []) [] ⟨List.nodup_nil, rfl⟩ ?_
    exact PJ.retn (vs := [str [], .int .i64 1]) Try.results13 ⟨rfl, rfl, trivial⟩ ⟨rfl, rfl⟩
  · replace hm := ifF hm hb7
    refine WJ.skip ?_
    refine PJ.next ?_
    refine WJ.seq ?_
    refine WJ.seq ?_
    refine WJ.quiet ?_
    refine QJ.step (YldS.yld (y_move rfl)) rfl ?_
    refine QJ.step (YldS.yld (y_lenStr Try.runUnderlying9 rfl)) rfl ?_
    refine QJ.step (YldS.yld (y_bin rfl rfl rfl)) rfl ?_
    refine QJ.done ?_
    refine PJ.next ?_
    refine WJ.cond (t := decide ((List.length x4 : Int) > 200)) rfl (fun hb8 => ?_) (fun hb8 => ?_)
    · replace hm := ifT hm hb8
      refine WJ.seq ?_
      refine WJ.quiet ?_
      refine QJ.step (YldS.yld (y_assign rfl)) rfl ?_
      refine QJ.step (YldS.yld (y_assign rfl)) rfl ?_
      refine QJ.done ?_
      refine PJ.next ?_
      refine WJ.ret ?_
      refine PJ.then_ret ?_
      obtain rfl := Option.some.inj hm
      refine PJ.sel (L' := []) [] ⟨List.nodup_nil, rfl⟩ ?_
      exact PJ.retn (vs := [str [], .int .i64 7]) Try.results13 ⟨rfl, rfl, trivial⟩ ⟨rfl, rfl⟩
    · replace hm := ifF hm hb8
      refine WJ.skip ?_
      refine PJ.next ?_
      refine WJ.seq ?_
      refine WJ.reg ?_
      refine SJ.buildSlice (R := fByte) (os := []) [] Try.runUnderlying22 Try.sizeOf5 Try.zeroValue5 rfl rfl rfl rfl rfl rfl fun v9 => ?_
      refine SJ.q (YldS.yld (y_assign rfl)) rfl ?_
      refine SJ.nil ?_
      refine PJ.next ?_
      refine WJ.seq ?_
      refine WJ.quiet ?_
      refine QJ.step (YldS.yld (y_assign rfl)) rfl ?_
      refine QJ.done ?_
      refine PJ.next ?_
      obtain ⟨kj12, hk13, hm⟩ := withK_open hm
      refine WJ.join (X := (List UInt8) × Value) (fun (x : (List UInt8) × Value) => kj12 x.1 = some r) (fun (x : (List UInt8) × Value) => [(6, x.2)]) (fun (x : (List UInt8) × Value) => [row x.2 5 fByte x.1]) ?_ ?_
      · clear hk13
        refine WJ.seq ?_
        refine WJ.quiet ?_
        refine QJ.step (YldS.yld (y_assign rfl)) rfl ?_
        refine QJ.done ?_
        refine PJ.next ?_
        refine WJ.block ?_
        refine WJ.sel (L' := (fun (x : (List UInt8) × Value × Int × Int) => [row x.2.1 5 fByte x.1]) ([], v9, 0, 0)) [0] ⟨by decide, rfl⟩ ?_
        refine WJ.sub (m' := (fun (x : (List UInt8) × Value × Int × Int) => [(0, v2), (1, str x4), (6, x.2.1), (7, .int .i64 x.2.2.1), (8, .int .i64 x.2.2.2)]) ([], v9, 0, 0)) ⟨rfl, rfl, rfl, rfl, rfl, trivial⟩ ?_
        refine WJ.loop (X := (List UInt8) × Value × Int × Int) (fun N (x : (List UInt8) × Value × Int × Int) => i_RunPlan_l1 kj12 stops1 x4 N x.1 x.2.2.1 x.2.2.2 = some r) (fun (x : (List UInt8) × Value × Int × Int) => [(0, v2), (1, str x4), (6, x.2.1), (7, .int .i64 x.2.2.1), (8, .int .i64 x.2.2.2)]) (fun (x : (List UInt8) × Value × Int × Int) => [row x.2.1 5 fByte x.1]) ?_ N ([], v9, 0, 0) hm
        · rintro N ⟨l14, v15, x16, x17⟩ hI
          have hm := hI; clear hI
          cases N with
          | zero => cases hm
          | succ N =>
          unfold i_RunPlan_l1 at hm
          refine WJ.seq ?_
          refine WJ.seq ?_
          refine WJ.quiet ?_
          refine QJ.step (YldS.yld (y_move rfl)) rfl ?_
          refine QJ.step (YldS.yld (y_move rfl)) rfl ?_
          refine QJ.step (YldS.yld (y_lenStr Try.runUnderlying9 rfl)) rfl ?_
          refine QJ.step (YldS.yld (y_bin rfl rfl rfl)) rfl ?_
          refine QJ.done ?_
          refine PJ.next ?_
          refine WJ.cond (t := decide (x17 < (List.length x4 : Int))) rfl (fun hb18 => ?_) (fun hb18 => ?_)
          · replace hm := ifT hm hb18
            refine WJ.skip ?_
            refine PJ.next ?_
            obtain ⟨kj23, hk24, hm⟩ := withK_open hm
            refine WJ.join (X := (List UInt8) × Value × Int × Int) (fun (x : (List UInt8) × Value × Int × Int) => kj23 x.1 x.2.2.1 x.2.2.2 = some r) (fun (x : (List UInt8) × Value × Int × Int) => [(0, v2), (1, str x4), (6, x.2.1), (7, .int .i64 x.2.2.1), (8, .int .i64 x.2.2.2)]) (fun (x : (List UInt8) × Value × Int × Int) => [row x.2.1 5 fByte x.1]) ?_ ?_
            · clear hk24
              refine WJ.block ?_
              refine WJ.seq ?_
              refine WJ.seq ?_
              refine WJ.quiet ?_
              refine QJ.step (YldS.yld (y_move rfl)) rfl ?_
              refine QJ.step (YldS.yld (y_move rfl)) rfl ?_
              obtain ⟨c25, h26, hm⟩ := bindS hm
              refine QJ.step (YldS.yld (y_idxStr Try.runUnderlying9 rfl rfl h26)) rfl ?_
              refine QJ.done ?_
              refine PJ.next ?_
              refine WJ.block ?_
              obtain ⟨kj28, hk29, hm⟩ := withK_open hm
              refine WJ.join (X := Bool) (fun (x : Bool) => kj28 x = some r) (fun (x : Bool) => [(0, v2), (1, str x4), (6, v15), (7, .int .i64 x16), (8, .int .i64 x17), (26, .int .u8 (UInt8.toNat c25 : Int)), (27, .bool x)]) (fun (x : Bool) => [row v15 5 fByte l14]) ?_ ?_
              · clear hk29
                refine WJ.seq ?_
                refine WJ.quiet ?_
                refine QJ.step (YldS.yld (y_bin8 c25 (62 : UInt8) rfl rfl rfl)) rfl ?_
                refine QJ.step (YldS.yld (y_assign rfl)) rfl ?_
                refine QJ.done ?_
                refine PJ.next ?_
                refine WJ.cond (t := (c25 == (62 : UInt8))) rfl (fun hb30 => ?_) (fun hb30 => ?_)
                · replace hm := ifT hm hb30
                  refine WJ.skip ?_
                  exact PJ.joined (c25 == (62 : UInt8)) [0] hm ⟨rfl, rfl, rfl, rfl, rfl, rfl, rfl, trivial⟩ ⟨by decide, rfl⟩
                · replace hm := ifF hm hb30
                  refine WJ.seq ?_
                  refine WJ.quiet ?_
                  refine QJ.step (YldS.yld (y_bin8 c25 (60 : UInt8) rfl rfl rfl)) rfl ?_
                  refine QJ.step (YldS.yld (y_assign rfl)) rfl ?_
                  refine QJ.done ?_
                  refine PJ.next ?_
                  refine WJ.cond (t := (c25 == (60 : UInt8))) rfl (fun hb31 => ?_) (fun hb31 => ?_)
                  · replace hm := ifT hm hb31
                    refine WJ.skip ?_
                    exact PJ.joined (c25 == (60 : UInt8)) [0] hm ⟨rfl, rfl, rfl, rfl, rfl, rfl, rfl, trivial⟩ ⟨by decide, rfl⟩
                  · replace hm := ifF hm hb31
                    refine WJ.quiet ?_
                    refine QJ.step (YldS.yld (y_bin8 c25 (35 : UInt8) rfl rfl rfl)) rfl ?_
                    refine QJ.step (YldS.yld (y_assign rfl)) rfl ?_
                    refine QJ.done ?_
                    exact PJ.joined (c25 == (35 : UInt8)) [0] hm ⟨rfl, rfl, rfl, rfl, rfl, rfl, rfl, trivial⟩ ⟨by decide, rfl⟩
              · rintro x27 hm
                subst hk29
                refine WJ.cond (t := x27) rfl (fun hb32 => ?_) (fun hb32 => ?_)
                · replace hm := ifT hm hb32
                  refine WJ.seq ?_
                  refine WJ.quiet ?_
                  refine QJ.step (YldS.yld (y_move rfl)) rfl ?_
                  refine QJ.step (YldS.yld (y_move rfl)) rfl ?_
                  refine QJ.step (YldS.yld (y_move rfl)) rfl ?_
                  refine QJ.step (YldS.yld (y_move rfl)) rfl ?_
                  obtain ⟨c33, h34, hm⟩ := bindS hm
                  refine QJ.step (YldS.yld (y_idxStr Try.runUnderlying9 rfl rfl h34)) rfl ?_
                  obtain ⟨r35, h36, hm⟩ := bindS hm
                  refine QJ.step (y_call Try.call64 rfl (RetG.quiet fun w hw => ok_i_moved h36 w _ (hr3.st hw))) rfl ?_
                  refine QJ.step (YldS.yld (y_move rfl)) rfl ?_
                  refine QJ.step (YldS.yld (y_extract rfl rfl)) rfl ?_
                  refine QJ.step (YldS.yld (y_extract rfl rfl)) rfl ?_
                  refine QJ.step (YldS.yld (y_assign rfl)) rfl ?_
                  refine QJ.step (YldS.yld (y_assign rfl)) rfl ?_
                  refine QJ.done ?_
                  refine PJ.next ?_
                  refine WJ.seq ?_
                  refine WJ.seq ?_
                  refine WJ.quiet ?_
                  refine QJ.step (YldS.yld (y_move rfl)) rfl ?_
                  refine QJ.step (YldS.yld (y_not rfl)) rfl ?_
                  refine QJ.done ?_
                  refine PJ.next ?_
                  refine WJ.cond (t := !r35.2) rfl (fun hb37 => ?_) (fun hb37 => ?_)
                  · replace hm := ifT hm hb37
                    refine WJ.seq ?_
                    refine WJ.quiet ?_
                    refine QJ.step (YldS.yld (y_assign rfl)) rfl ?_
                    refine QJ.step (YldS.yld (y_assign rfl)) rfl ?_
                    refine QJ.done ?_
                    refine PJ.next ?_
                    refine WJ.ret ?_
                    refine PJ.then_ret (PJ.block_ret (PJ.then_ret (PJ.block_ret (PJ.then_ret (PJ.then_ret (PJ.block_ret (PJ.then_ret ?_)))))))
                    obtain rfl := Option.some.inj hm
                    refine PJ.sel (L' := []) [] ⟨List.nodup_nil, rfl⟩ ?_
                    exact PJ.retn (vs := [str [], .int .i64 7]) Try.results13 ⟨rfl, rfl, trivial⟩ ⟨rfl, rfl⟩
                  · replace hm := ifF hm hb37
                    refine WJ.skip ?_
                    refine PJ.next ?_
                    refine WJ.seq ?_
                    refine WJ.quiet ?_
                    refine QJ.step (YldS.yld (y_move rfl)) rfl ?_
                    refine QJ.step (YldS.yld (y_assign rfl)) rfl ?_
                    refine QJ.done ?_
                    refine PJ.next ?_
                    refine WJ.exit ?_
                    refine PJ.block_exit_ne rfl (PJ.then_exit (PJ.block_exit ?_))
                    exact PJ.joined (l14, v15, r35.1, x17) [0] hm ⟨rfl, rfl, rfl, rfl, rfl, trivial⟩ ⟨by decide, rfl⟩
                · replace hm := ifF hm hb32
                  refine WJ.seq ?_
                  refine WJ.quiet ?_
                  refine QJ.step (YldS.yld (y_bin8 c25 (39 : UInt8) rfl rfl rfl)) rfl ?_
                  refine QJ.step (YldS.yld (y_assign rfl)) rfl ?_
                  refine QJ.done ?_
                  refine PJ.next ?_
                  refine WJ.cond (t := (c25 == (39 : UInt8))) rfl (fun hb38 => ?_) (fun hb38 => ?_)
                  · replace hm := ifT hm hb38
                    refine WJ.quiet ?_
                    refine QJ.step (YldS.yld (y_move rfl)) rfl ?_
                    refine QJ.step (YldS.yld (y_bin rfl rfl rfl)) rfl ?_
                    refine QJ.step (YldS.yld (y_assign rfl)) rfl ?_
                    refine QJ.done ?_
                    refine PJ.block_normal (PJ.next ?_)
                    refine WJ.seq ?_
                    refine WJ.seq ?_
                    refine WJ.quiet ?_
                    refine QJ.step (YldS.yld (y_move rfl)) rfl ?_
                    refine QJ.step (YldS.yld (y_move rfl)) rfl ?_
                    refine QJ.step (YldS.yld (y_lenStr Try.runUnderlying9 rfl)) rfl ?_
                    refine QJ.step (YldS.yld (y_bin rfl rfl rfl)) rfl ?_
                    refine QJ.step (YldS.yld (y_move rfl)) rfl ?_
                    obtain ⟨t39, h40, hm⟩ := bindS hm
                    refine QJ.cut 8 [(0, v2), (1, str x4), (6, v15), (7, .int .i64 x16), (8, .int .i64 (w64 (x17 + 1))), (59, .bool t39)] ?_ ?_
                    · rcases Bool.eq_false_or_eq_true (decide ((w64 (x17 + 1)) ≥ (List.length x4 : Int))) with hb41 | hb41
                      · obtain rfl := orT h40 hb41
                        refine QJ.off rfl rfl (cB hb41) rfl rfl ?_
                        refine QJ.off rfl rfl (cB hb41) rfl rfl ?_
                        refine QJ.off rfl rfl (cB hb41) rfl rfl ?_
                        refine QJ.off rfl rfl (cB hb41) rfl rfl ?_
                        refine QJ.off rfl rfl (cB hb41) rfl rfl ?_
                        refine QJ.off rfl rfl (cB hb41) rfl rfl ?_
                        refine QJ.off rfl rfl (cB hb41) rfl rfl ?_
                        refine QJ.step (YldS.yld (y_pick_t (cB hb41) rfl)) rfl ?_
                        exact QJ.cut_end ⟨rfl, rfl, rfl, rfl, rfl, rfl, trivial⟩
                      · replace h40 := orF h40 hb41
                        refine QJ.on rfl rfl (cB hb41) (YldS.yld (y_move rfl)) rfl ?_
                        refine QJ.on rfl rfl (cB hb41) (YldS.yld (y_move rfl)) rfl ?_
                        refine QJ.on rfl rfl (cB hb41) (YldS.yld (y_move rfl)) rfl ?_
                        refine QJ.on rfl rfl (cB hb41) (YldS.yld (y_bin rfl rfl rfl)) rfl ?_
                        obtain ⟨s42, h43, h40⟩ := bindS h40
                        refine QJ.on rfl rfl (cB hb41) (YldS.yld (y_subStr (i := some (w64 (x17 + 1))) (j := some (w64 ((w64 (x17 + 1)) + 1))) h43 Try.runUnderlying9 rfl ⟨_, rfl⟩ ⟨_, rfl⟩)) rfl ?_
                        obtain ⟨r44, h45, h40⟩ := bindS h40
                        refine QJ.on rfl rfl (cB hb41) (y_call Try.call65 rfl (RetG.quiet fun w hw => ok_i_isLetter h45 w )) rfl ?_
                        refine QJ.on rfl rfl (cB hb41) (YldS.yld (y_not rfl)) rfl ?_
                        refine QJ.step (YldS.yld (y_pick_f (cB hb41) rfl)) rfl ?_
                        obtain rfl := Option.some.inj h40
                        exact QJ.cut_end ⟨rfl, rfl, rfl, rfl, rfl, rfl, trivial⟩
                    refine QJ.step (YldS.yld (y_move rfl)) rfl ?_
                    obtain ⟨t46, h47, hm⟩ := bindS hm
                    refine QJ.cut 3 [(0, v2), (1, str x4), (6, v15), (7, .int .i64 x16), (8, .int .i64 (w64 (x17 + 1))), (63, .bool t46)] ?_ ?_
                    · rcases Bool.eq_false_or_eq_true t39 with hb48 | hb48
                      · obtain rfl := orT h47 hb48
                        refine QJ.off rfl rfl (cB hb48) rfl rfl ?_
                        refine QJ.off rfl rfl (cB hb48) rfl rfl ?_
                        refine QJ.step (YldS.yld (y_pick_t (cB hb48) rfl)) rfl ?_
                        exact QJ.cut_end ⟨rfl, rfl, rfl, rfl, rfl, rfl, trivial⟩
                      · replace h47 := orF h47 hb48
                        refine QJ.on rfl rfl (cB hb48) (YldS.yld (y_move rfl)) rfl ?_
                        refine QJ.on rfl rfl (cB hb48) (YldS.yld (y_bin rfl rfl rfl)) rfl ?_
                        refine QJ.step (YldS.yld (y_pick_f (cB hb48) rfl)) rfl ?_
                        obtain rfl := Option.some.inj h47
                        exact QJ.cut_end ⟨rfl, rfl, rfl, rfl, rfl, rfl, trivial⟩
                    refine QJ.done ?_
                    refine PJ.next ?_
                    refine WJ.cond (t := t46) rfl (fun hb49 => ?_) (fun hb49 => ?_)
                    · replace hm := ifT hm hb49
                      refine WJ.seq ?_
                      refine WJ.quiet ?_
                      refine QJ.step (YldS.yld (y_assign rfl)) rfl ?_
                      refine QJ.step (YldS.yld (y_assign rfl)) rfl ?_
                      refine QJ.done ?_
                      refine PJ.next ?_
                      refine WJ.ret ?_
                      refine PJ.then_ret (PJ.block_ret (PJ.then_ret (PJ.then_ret (PJ.block_ret (PJ.then_ret ?_)))))
                      obtain rfl := Option.some.inj hm
                      refine PJ.sel (L' := []) [] ⟨List.nodup_nil, rfl⟩ ?_
                      exact PJ.retn (vs := [str [], .int .i64 7]) Try.results13 ⟨rfl, rfl, trivial⟩ ⟨rfl, rfl⟩
                    · replace hm := ifF hm hb49
                      refine WJ.skip ?_
                      refine PJ.next ?_
                      obtain ⟨kj52, hk53, hm⟩ := withK_open hm
                      refine WJ.join (X := (List UInt8) × Value) (fun (x : (List UInt8) × Value) => kj52 x.1 = some r) (fun (x : (List UInt8) × Value) => [(0, v2), (1, str x4), (6, x.2), (7, .int .i64 x16), (8, .int .i64 (w64 (x17 + 1)))]) (fun (x : (List UInt8) × Value) => [row x.2 5 fByte x.1]) ?_ ?_
                      · clear hk53
                        refine WJ.block ?_
                        refine WJ.sel (L' := (fun (x : (List UInt8) × Value) => [row x.2 5 fByte x.1]) (l14, v15)) [0] ⟨by decide, rfl⟩ ?_
                        refine WJ.sub (m' := (fun (x : (List UInt8) × Value) => [(0, v2), (1, str x4), (6, x.2), (7, .int .i64 x16), (8, .int .i64 (w64 (x17 + 1)))]) (l14, v15)) ⟨rfl, rfl, rfl, rfl, rfl, trivial⟩ ?_
                        refine WJ.loop (X := (List UInt8) × Value) (fun N (x : (List UInt8) × Value) => i_RunPlan_l2 kj52 x16 N x.1 = some r) (fun (x : (List UInt8) × Value) => [(0, v2), (1, str x4), (6, x.2), (7, .int .i64 x16), (8, .int .i64 (w64 (x17 + 1)))]) (fun (x : (List UInt8) × Value) => [row x.2 5 fByte x.1]) ?_ N (l14, v15) hm
                        · rintro N ⟨l54, v55⟩ hI
                          have hm := hI; clear hI
                          cases N with
                          | zero => cases hm
                          | succ N =>
                          unfold i_RunPlan_l2 at hm
                          refine WJ.seq ?_
                          refine WJ.seq ?_
                          refine WJ.quiet ?_
                          refine QJ.step (YldS.yld (y_move rfl)) rfl ?_
                          refine QJ.step (YldS.yld (y_lenRow (k := 0) rfl Try.runUnderlying22 rfl)) rfl ?_
                          refine QJ.step (YldS.yld (y_move rfl)) rfl ?_
                          refine QJ.step (YldS.yld (y_bin rfl rfl rfl)) rfl ?_
                          refine QJ.done ?_
                          refine PJ.next ?_
                          refine WJ.cond (t := decide ((List.length l54 : Int) ≤ x16)) rfl (fun hb56 => ?_) (fun hb56 => ?_)
                          · replace hm := ifT hm hb56
                            refine WJ.skip ?_
                            refine PJ.next ?_
                            refine WJ.block ?_
                            refine WJ.reg ?_
                            refine SJ.q (YldS.yld (y_move rfl)) rfl ?_
                            refine SJ.buildSlice (R := fByte) (os := [.const (.int .u8 (UInt8.toNat 32 : Int))]) [32] Try.runUnderlying22 Try.sizeOf5 Try.zeroValue5 rfl rfl rfl rfl rfl rfl fun v57 => ?_
                            obtain ⟨l58, h59, hm⟩ := bindS hm
                            refine SJ.append (k := 1) (R := fByte) h59 rfl Try.underlying22 el5 rfl rfl rfl (fun w hw => (hw.row_rd (k := 0) rfl)) rfl fun v60 => ?_
                            refine SJ.q (YldS.yld (y_assign rfl)) rfl ?_
                            refine SJ.nil ?_
                            refine PJ.block_normal ?_
                            exact PJ.round (l58, v60) [1] hm ⟨rfl, rfl, rfl, rfl, rfl, trivial⟩ ⟨by decide, rfl⟩
                          · replace hm := ifF hm hb56
                            refine WJ.exit ?_
                            refine PJ.then_exit (PJ.then_exit (PJ.block_exit ?_))
                            exact PJ.joined (l54, v55) [0] hm ⟨rfl, rfl, rfl, rfl, rfl, trivial⟩ ⟨by decide, rfl⟩
                      · rintro ⟨l50, v51⟩ hm
                        subst hk53
                        refine WJ.seq ?_
                        refine WJ.seq ?_
                        refine WJ.quiet ?_
                        refine QJ.step (YldS.yld (y_move rfl)) rfl ?_
                        refine QJ.step (YldS.yld (y_move rfl)) rfl ?_
                        obtain ⟨e61, h62, hm⟩ := bindS hm
                        refine QJ.step (YldS.yld (y_ixRow (k := 0) (R := fByte) rfl Try.runUnderlying22 Try.sizeOf5 rfl rfl h62)) rfl ?_
                        refine QJ.step (YldS.yld (y_loadR (k := 0) (i := (Int.toNat x16)) (off := 0) (u := .int .u8 (UInt8.toNat e61 : Int)) rfl Try.isAgg5 rfl (idx_get h62) rfl)) rfl ?_
                        refine QJ.step (YldS.yld (y_bin8 e61 (32 : UInt8) rfl rfl rfl)) rfl ?_
                        refine QJ.done ?_
                        refine PJ.next ?_
                        refine WJ.cond (t := (e61 != (32 : UInt8))) rfl (fun hb63 => ?_) (fun hb63 => ?_)
                        · replace hm := ifT hm hb63
                          refine WJ.seq ?_
                          refine WJ.quiet ?_
                          refine QJ.step (YldS.yld (y_assign rfl)) rfl ?_
                          refine QJ.step (YldS.yld (y_assign rfl)) rfl ?_
                          refine QJ.done ?_
                          refine PJ.next ?_
                          refine WJ.ret ?_
                          refine PJ.then_ret (PJ.block_ret (PJ.then_ret (PJ.then_ret (PJ.block_ret (PJ.then_ret ?_)))))
                          obtain rfl := Option.some.inj hm
                          refine PJ.sel (L' := []) [] ⟨List.nodup_nil, rfl⟩ ?_
                          exact PJ.retn (vs := [str [], .int .i64 7]) Try.results13 ⟨rfl, rfl, trivial⟩ ⟨rfl, rfl⟩
                        · replace hm := ifF hm hb63
                          refine WJ.skip ?_
                          refine PJ.next ?_
                          refine WJ.seq ?_
                          refine WJ.reg ?_
                          refine SJ.q (YldS.yld (y_move rfl)) rfl ?_
                          refine SJ.q (YldS.yld (y_move rfl)) rfl ?_
                          refine SJ.q (YldS.yld (y_move rfl)) rfl ?_
                          refine SJ.q (YldS.yld (y_move rfl)) rfl ?_
                          obtain ⟨c64, h65, hm⟩ := bindS hm
                          refine SJ.q (YldS.yld (y_idxStr Try.runUnderlying9 rfl rfl h65)) rfl ?_
                          obtain ⟨e66, h67, hm⟩ := bindS hm
                          refine SJ.q (YldS.yld (y_ixRow (k := 0) (R := fByte) rfl Try.runUnderlying22 Try.sizeOf5 rfl rfl h67)) rfl ?_
                          refine SJ.storeRL (k := 0) (i := (Int.toNat x16)) (off := 0) (us := [.int .u8 (UInt8.toNat c64 : Int)]) (b := c64) rfl rfl (idx_get h67) rfl rfl Try.sizeOf5 rfl rfl rfl ?_
                          refine SJ.nil ?_
                          refine PJ.next ?_
                          refine WJ.quiet ?_
                          refine QJ.step (YldS.yld (y_move rfl)) rfl ?_
                          refine QJ.step (YldS.yld (y_bin rfl rfl rfl)) rfl ?_
                          refine QJ.step (YldS.yld (y_assign rfl)) rfl ?_
                          refine QJ.done ?_
                          refine PJ.block_normal ?_
                          exact PJ.joined ((List.set l50 (Int.toNat x16) c64), v51, w64 (x16 + 1), w64 (x17 + 1)) [0] hm ⟨rfl, rfl, rfl, rfl, rfl, trivial⟩ ⟨by decide, rfl⟩
                  · replace hm := ifF hm hb38
                    refine WJ.seq ?_
                    refine WJ.quiet ?_
                    refine QJ.step (YldS.yld (y_assign rfl)) rfl ?_
                    refine QJ.step (YldS.yld (y_assign rfl)) rfl ?_
                    refine QJ.done ?_
                    refine PJ.next ?_
                    refine WJ.ret ?_
                    refine PJ.block_ret (PJ.then_ret (PJ.block_ret (PJ.then_ret (PJ.then_ret (PJ.block_ret (PJ.then_ret ?_))))))
                    obtain rfl := Option.some.inj hm
                    refine PJ.sel (L' := []) [] ⟨List.nodup_nil, rfl⟩ ?_
                    exact PJ.retn (vs := [str [], .int .i64 7]) Try.results13 ⟨rfl, rfl, trivial⟩ ⟨rfl, rfl⟩
            · rintro ⟨l19, v20, x21, x22⟩ hm
              subst hk24
              refine WJ.quiet ?_
              refine QJ.step (YldS.yld (y_move rfl)) rfl ?_
              refine QJ.step (YldS.yld (y_bin rfl rfl rfl)) rfl ?_
              refine QJ.step (YldS.yld (y_assign rfl)) rfl ?_
              refine QJ.done ?_
              exact PJ.round (l19, v20, x21, w64 (x22 + 1)) [0] hm ⟨rfl, rfl, rfl, rfl, rfl, trivial⟩ ⟨by decide, rfl⟩
          · replace hm := ifF hm hb18
            refine WJ.exit ?_
            refine PJ.then_exit (PJ.then_exit (PJ.block_exit ?_))
            exact PJ.joined (l14, v15) [0] hm ⟨rfl, trivial⟩ ⟨by decide, rfl⟩
      · rintro ⟨l10, v11⟩ hm
        subst hk13
        refine WJ.seq ?_
        refine WJ.quiet ?_
        refine QJ.step (YldS.yld (y_move rfl)) rfl ?_
        refine QJ.step (YldS.yld (y_b2s Try.underlying22 Try.underlying9 Try.underlying5 (fun w hw => ⟨_, (hw.row_rd (k := 0) rfl)⟩) rfl)) rfl ?_
        refine QJ.step (YldS.yld (y_assign rfl)) rfl ?_
        refine QJ.step (YldS.yld (y_assign rfl)) rfl ?_
        refine QJ.done ?_
        refine PJ.next ?_
        refine WJ.ret ?_
        obtain rfl := Option.some.inj hm
        refine PJ.sel (L' := []) [] ⟨List.nodup_nil, rfl⟩ ?_
        exact PJ.retn (vs := [str l10, .int .i64 0]) Try.results13 ⟨rfl, rfl, trivial⟩ ⟨rfl, rfl⟩

set_option maxRecDepth 100000 in
set_option maxHeartbeats 1000000 in
theorem ok_i_PlanMoves {N : Nat} {plan1 : Str} {r : Int × Int} (hm : i_PlanMoves N plan1 = some r) (w : World)  :
    Calls Try.prog 14 #[str plan1] w (Ret (cx w) (tup [.int .i64 r.1, .int .i64 r.2])) := by
  unfold i_PlanMoves at hm
  refine Calls.enter [str plan1] Try.func14 rfl Try.ntmps14 rfl ?_
  refine WJ.seq ?_
  refine WJ.quiet ?_
  refine QJ.step (YldS.yld (y_assign rfl)) rfl ?_
  refine QJ.step (YldS.yld (y_assign rfl)) rfl ?_
  refine QJ.done ?_
  refine PJ.next ?_
  refine WJ.seq ?_
  refine WJ.seq ?_
  refine WJ.quiet ?_
  refine QJ.step (YldS.yld (y_move rfl)) rfl ?_
  refine QJ.step (YldS.yld (y_lenStr Try.runUnderlying9 rfl)) rfl ?_
  refine QJ.step (YldS.yld (y_bin rfl rfl rfl)) rfl ?_
  refine QJ.done ?_
  refine PJ.next ?_
  refine WJ.cond (t := decide ((List.length plan1 : Int) > 200)) rfl (fun hb2 => ?_) (fun hb2 => ?_)
  · replace hm := ifT hm hb2
    refine WJ.seq ?_
    refine WJ.quiet ?_
    refine QJ.step (YldS.yld (y_assign rfl)) rfl ?_
    refine QJ.step (YldS.yld (y_assign rfl)) rfl ?_
    refine QJ.done ?_
    refine PJ.next ?_
    refine WJ.ret ?_
    refine PJ.then_ret ?_
    obtain rfl := Option.some.inj hm
    refine PJ.sel (L' := []) [] ⟨List.nodup_nil, rfl⟩ ?_
    exact PJ.retn (vs := [.int .i64 0, .int .i64 7]) Try.results14 ⟨rfl, rfl, trivial⟩ ⟨rfl, rfl⟩
  · replace hm := ifF hm hb2
    refine WJ.skip ?_
    refine PJ.next ?_
    refine WJ.seq ?_
    refine WJ.quiet ?_
    refine QJ.step (YldS.yld (y_assign rfl)) rfl ?_
    refine QJ.done ?_
    refine PJ.next ?_
    obtain ⟨kj4, hk5, hm⟩ := withK_open hm
    refine WJ.join (X := Int) (fun (x : Int) => kj4 x = some r) (fun (x : Int) => [(4, .int .i64 x)]) (fun (x : Int) => []) ?_ ?_
    · clear hk5
      refine WJ.seq ?_
      refine WJ.quiet ?_
      refine QJ.step (YldS.yld (y_assign rfl)) rfl ?_
      refine QJ.done ?_
      refine PJ.next ?_
      refine WJ.block ?_
      refine WJ.sel (L' := (fun (x : Int × Int) => []) (0, 0)) [] ⟨List.nodup_nil, rfl⟩ ?_
      refine WJ.sub (m' := (fun (x : Int × Int) => [(0, str plan1), (4, .int .i64 x.1), (5, .int .i64 x.2)]) (0, 0)) ⟨rfl, rfl, rfl, trivial⟩ ?_
      refine WJ.loop (X := Int × Int) (fun N (x : Int × Int) => i_PlanMoves_l1 kj4 plan1 N x.1 x.2 = some r) (fun (x : Int × Int) => [(0, str plan1), (4, .int .i64 x.1), (5, .int .i64 x.2)]) (fun (x : Int × Int) => []) ?_ N (0, 0) hm
      · rintro N ⟨moves6, i7⟩ hI
        have hm := hI; clear hI
        cases N with
        | zero => cases hm
        | succ N =>
        unfold i_PlanMoves_l1 at hm
        refine WJ.seq ?_
        refine WJ.seq ?_
        refine WJ.quiet ?_
        refine QJ.step (YldS.yld (y_move rfl)) rfl ?_
        refine QJ.step (YldS.yld (y_move rfl)) rfl ?_
        refine QJ.step (YldS.yld (y_lenStr Try.runUnderlying9 rfl)) rfl ?_
        refine QJ.step (YldS.yld (y_bin rfl rfl rfl)) rfl ?_
        refine QJ.done ?_
        refine PJ.next ?_
        refine WJ.cond (t := decide (i7 < (List.length plan1 : Int))) rfl (fun hb8 => ?_) (fun hb8 => ?_)
        · replace hm := ifT hm hb8
          refine WJ.skip ?_
          refine PJ.next ?_
          obtain ⟨kj11, hk12, hm⟩ := withK_open hm
          refine WJ.join (X := Int × Int) (fun (x : Int × Int) => kj11 x.1 x.2 = some r) (fun (x : Int × Int) => [(0, str plan1), (4, .int .i64 x.1), (5, .int .i64 x.2)]) (fun (x : Int × Int) => []) ?_ ?_
          · clear hk12
            refine WJ.block ?_
            refine WJ.seq ?_
            refine WJ.quiet ?_
            refine QJ.step (YldS.yld (y_move rfl)) rfl ?_
            refine QJ.step (YldS.yld (y_move rfl)) rfl ?_
            obtain ⟨c13, h14, hm⟩ := bindS hm
            refine QJ.step (YldS.yld (y_idxStr Try.runUnderlying9 rfl rfl h14)) rfl ?_
            refine QJ.done ?_
            refine PJ.next ?_
            refine WJ.block ?_
            obtain ⟨kj16, hk17, hm⟩ := withK_open hm
            refine WJ.join (X := Bool) (fun (x : Bool) => kj16 x = some r) (fun (x : Bool) => [(0, str plan1), (4, .int .i64 moves6), (5, .int .i64 i7), (17, .int .u8 (UInt8.toNat c13 : Int)), (18, .bool x)]) (fun (x : Bool) => []) ?_ ?_
            · clear hk17
              refine WJ.seq ?_
              refine WJ.quiet ?_
              refine QJ.step (YldS.yld (y_bin8 c13 (62 : UInt8) rfl rfl rfl)) rfl ?_
              refine QJ.step (YldS.yld (y_assign rfl)) rfl ?_
              refine QJ.done ?_
              refine PJ.next ?_
              refine WJ.cond (t := (c13 == (62 : UInt8))) rfl (fun hb18 => ?_) (fun hb18 => ?_)
              · replace hm := ifT hm hb18
                refine WJ.skip ?_
                exact PJ.joined (c13 == (62 : UInt8)) [] hm ⟨rfl, rfl, rfl, rfl, rfl, trivial⟩ ⟨List.nodup_nil, rfl⟩
              · replace hm := ifF hm hb18
                refine WJ.seq ?_
                refine WJ.quiet ?_
                refine QJ.step (YldS.yld (y_bin8 c13 (60 : UInt8) rfl rfl rfl)) rfl ?_
                refine QJ.step (YldS.yld (y_assign rfl)) rfl ?_
                refine QJ.done ?_
                refine PJ.next ?_
                refine WJ.cond (t := (c13 == (60 : UInt8))) rfl (fun hb19 => ?_) (fun hb19 => ?_)
                · replace hm := ifT hm hb19
                  refine WJ.skip ?_
                  exact PJ.joined (c13 == (60 : UInt8)) [] hm ⟨rfl, rfl, rfl, rfl, rfl, trivial⟩ ⟨List.nodup_nil, rfl⟩
                · replace hm := ifF hm hb19
                  refine WJ.quiet ?_
                  refine QJ.step (YldS.yld (y_bin8 c13 (35 : UInt8) rfl rfl rfl)) rfl ?_
                  refine QJ.step (YldS.yld (y_assign rfl)) rfl ?_
                  refine QJ.done ?_
                  exact PJ.joined (c13 == (35 : UInt8)) [] hm ⟨rfl, rfl, rfl, rfl, rfl, trivial⟩ ⟨List.nodup_nil, rfl⟩
            · rintro x15 hm
              subst hk17
              refine WJ.cond (t := x15) rfl (fun hb20 => ?_) (fun hb20 => ?_)
              · replace hm := ifT hm hb20
                refine WJ.quiet ?_
                refine QJ.step (YldS.yld (y_move rfl)) rfl ?_
                refine QJ.step (YldS.yld (y_bin rfl rfl rfl)) rfl ?_
                refine QJ.step (YldS.yld (y_assign rfl)) rfl ?_
                refine QJ.done ?_
                refine PJ.block_normal (PJ.block_normal ?_)
                exact PJ.joined (w64 (moves6 + 1), i7) [] hm ⟨rfl, rfl, rfl, trivial⟩ ⟨List.nodup_nil, rfl⟩
              · replace hm := ifF hm hb20
                refine WJ.seq ?_
                refine WJ.quiet ?_
                refine QJ.step (YldS.yld (y_bin8 c13 (39 : UInt8) rfl rfl rfl)) rfl ?_
                refine QJ.step (YldS.yld (y_assign rfl)) rfl ?_
                refine QJ.done ?_
                refine PJ.next ?_
                refine WJ.cond (t := (c13 == (39 : UInt8))) rfl (fun hb21 => ?_) (fun hb21 => ?_)
                · replace hm := ifT hm hb21
                  refine WJ.seq ?_
                  refine WJ.quiet ?_
                  refine QJ.step (YldS.yld (y_move rfl)) rfl ?_
                  refine QJ.step (YldS.yld (y_bin rfl rfl rfl)) rfl ?_
                  refine QJ.step (YldS.yld (y_assign rfl)) rfl ?_
                  refine QJ.done ?_
                  refine PJ.next ?_
                  refine WJ.seq ?_
                  refine WJ.quiet ?_
                  refine QJ.step (YldS.yld (y_move rfl)) rfl ?_
                  refine QJ.step (YldS.yld (y_move rfl)) rfl ?_
                  refine QJ.step (YldS.yld (y_lenStr Try.runUnderlying9 rfl)) rfl ?_
                  refine QJ.step (YldS.yld (y_bin rfl rfl rfl)) rfl ?_
                  refine QJ.step (YldS.yld (y_move rfl)) rfl ?_
                  obtain ⟨t22, h23, hm⟩ := bindS hm
                  refine QJ.cut 8 [(0, str plan1), (4, .int .i64 moves6), (5, .int .i64 (w64 (i7 + 1))), (40, .bool t22)] ?_ ?_
                  · rcases Bool.eq_false_or_eq_true (decide ((w64 (i7 + 1)) ≥ (List.length plan1 : Int))) with hb24 | hb24
                    · obtain rfl := orT h23 hb24
                      refine QJ.off rfl rfl (cB hb24) rfl rfl ?_
                      refine QJ.off rfl rfl (cB hb24) rfl rfl ?_
                      refine QJ.off rfl rfl (cB hb24) rfl rfl ?_
                      refine QJ.off rfl rfl (cB hb24) rfl rfl ?_
                      refine QJ.off rfl rfl (cB hb24) rfl rfl ?_
                      refine QJ.off rfl rfl (cB hb24) rfl rfl ?_
                      refine QJ.off rfl rfl (cB hb24) rfl rfl ?_
                      refine QJ.step (YldS.yld (y_pick_t (cB hb24) rfl)) rfl ?_
                      exact QJ.cut_end ⟨rfl, rfl, rfl, rfl, trivial⟩
                    · replace h23 := orF h23 hb24
                      refine QJ.on rfl rfl (cB hb24) (YldS.yld (y_move rfl)) rfl ?_
                      refine QJ.on rfl rfl (cB hb24) (YldS.yld (y_move rfl)) rfl ?_
                      refine QJ.on rfl rfl (cB hb24) (YldS.yld (y_move rfl)) rfl ?_
                      refine QJ.on rfl rfl (cB hb24) (YldS.yld (y_bin rfl rfl rfl)) rfl ?_
                      obtain ⟨s25, h26, h23⟩ := bindS h23
                      refine QJ.on rfl rfl (cB hb24) (YldS.yld (y_subStr (i := some (w64 (i7 + 1))) (j := some (w64 ((w64 (i7 + 1)) + 1))) h26 Try.runUnderlying9 rfl ⟨_, rfl⟩ ⟨_, rfl⟩)) rfl ?_
                      obtain ⟨r27, h28, h23⟩ := bindS h23
                      refine QJ.on rfl rfl (cB hb24) (y_call Try.call65 rfl (RetG.quiet fun w hw => ok_i_isLetter h28 w )) rfl ?_
                      refine QJ.on rfl rfl (cB hb24) (YldS.yld (y_not rfl)) rfl ?_
                      refine QJ.step (YldS.yld (y_pick_f (cB hb24) rfl)) rfl ?_
                      obtain rfl := Option.some.inj h23
                      exact QJ.cut_end ⟨rfl, rfl, rfl, rfl, trivial⟩
                  refine QJ.done ?_
                  refine PJ.next ?_
                  refine WJ.cond (t := t22) rfl (fun hb29 => ?_) (fun hb29 => ?_)
                  · replace hm := ifT hm hb29
                    refine WJ.seq ?_
                    refine WJ.quiet ?_
                    refine QJ.step (YldS.yld (y_assign rfl)) rfl ?_
                    refine QJ.step (YldS.yld (y_assign rfl)) rfl ?_
                    refine QJ.done ?_
                    refine PJ.next ?_
                    refine WJ.ret ?_
                    refine PJ.block_ret (PJ.block_ret (PJ.then_ret (PJ.then_ret (PJ.block_ret (PJ.then_ret ?_)))))
                    obtain rfl := Option.some.inj hm
                    refine PJ.sel (L' := []) [] ⟨List.nodup_nil, rfl⟩ ?_
                    exact PJ.retn (vs := [.int .i64 0, .int .i64 7]) Try.results14 ⟨rfl, rfl, trivial⟩ ⟨rfl, rfl⟩
                  · replace hm := ifF hm hb29
                    refine WJ.skip ?_
                    refine PJ.block_normal (PJ.block_normal ?_)
                    exact PJ.joined (moves6, w64 (i7 + 1)) [] hm ⟨rfl, rfl, rfl, trivial⟩ ⟨List.nodup_nil, rfl⟩
                · replace hm := ifF hm hb21
                  refine WJ.seq ?_
                  refine WJ.quiet ?_
                  refine QJ.step (YldS.yld (y_assign rfl)) rfl ?_
                  refine QJ.step (YldS.yld (y_assign rfl)) rfl ?_
                  refine QJ.done ?_
                  refine PJ.next ?_
                  refine WJ.ret ?_
                  refine PJ.block_ret (PJ.block_ret (PJ.then_ret (PJ.then_ret (PJ.block_ret (PJ.then_ret ?_)))))
                  obtain rfl := Option.some.inj hm
                  refine PJ.sel (L' := []) [] ⟨List.nodup_nil, rfl⟩ ?_
                  exact PJ.retn (vs := [.int .i64 0, .int .i64 7]) Try.results14 ⟨rfl, rfl, trivial⟩ ⟨rfl, rfl⟩
          · rintro ⟨moves9, i10⟩ hm
            subst hk12
            refine WJ.quiet ?_
            refine QJ.step (YldS.yld (y_move rfl)) rfl ?_
            refine QJ.step (YldS.yld (y_bin rfl rfl rfl)) rfl ?_
            refine QJ.step (YldS.yld (y_assign rfl)) rfl ?_
            refine QJ.done ?_
            exact PJ.round (moves9, w64 (i10 + 1)) [] hm ⟨rfl, rfl, rfl, trivial⟩ ⟨List.nodup_nil, rfl⟩
        · replace hm := ifF hm hb8
          refine WJ.exit ?_
          refine PJ.then_exit (PJ.then_exit (PJ.block_exit ?_))
          exact PJ.joined moves6 [] hm ⟨rfl, trivial⟩ ⟨List.nodup_nil, rfl⟩
    · rintro moves3 hm
      subst hk5
      refine WJ.seq ?_
      refine WJ.quiet ?_
      refine QJ.step (YldS.yld (y_move rfl)) rfl ?_
      refine QJ.step (YldS.yld (y_assign rfl)) rfl ?_
      refine QJ.step (YldS.yld (y_assign rfl)) rfl ?_
      refine QJ.done ?_
      refine PJ.next ?_
      refine WJ.ret ?_
      obtain rfl := Option.some.inj hm
      refine PJ.sel (L' := []) [] ⟨List.nodup_nil, rfl⟩ ?_
      exact PJ.retn (vs := [.int .i64 moves3, .int .i64 0]) Try.results14 ⟨rfl, rfl, trivial⟩ ⟨rfl, rfl⟩

set_option maxRecDepth 100000 in
set_option maxHeartbeats 1000000 in
theorem ok_i_rowsCode {N : Nat} {rows1 : List Str} {r : Int} (hm : i_rowsCode N rows1 = some r) (w : World) (v2 : Value) (hr3 : RdS w (cx w).Fz v2 fStr.rp rows1) :
    Calls Try.prog 66 #[v2] w (Ret (cx w) (.int .i64 r)) := by
  unfold i_rowsCode at hm
  refine Calls.enter [v2] Try.func66 rfl Try.ntmps66 rfl ?_
  refine WJ.seq ?_
  refine WJ.quiet ?_
  refine QJ.step (YldS.yld (y_assign rfl)) rfl ?_
  refine QJ.done ?_
  refine PJ.next ?_
  refine WJ.seq ?_
  refine WJ.seq ?_
  refine WJ.quiet ?_
  refine QJ.step (YldS.yld (y_move rfl)) rfl ?_
  refine QJ.step (YldS.yld (y_lenS Try.runUnderlying32 hr3 rfl)) rfl ?_
  refine QJ.step (YldS.yld (y_bin rfl rfl rfl)) rfl ?_
  refine QJ.done ?_
  refine PJ.next ?_
  refine WJ.cond (t := decide ((List.length rows1 : Int) > 12)) rfl (fun hb4 => ?_) (fun hb4 => ?_)
  · replace hm := ifT hm hb4
    refine WJ.seq ?_
    refine WJ.quiet ?_
    refine QJ.step (YldS.yld (y_assign rfl)) rfl ?_
    refine QJ.done ?_
    refine PJ.next ?_
    refine WJ.ret ?_
    refine PJ.then_ret ?_
    obtain rfl := Option.some.inj hm
    refine PJ.sel (L' := []) [] ⟨List.nodup_nil, rfl⟩ ?_
    exact PJ.retn (vs := [.int .i64 1]) Try.results66 ⟨rfl, trivial⟩ ⟨rfl, rfl⟩
  · replace hm := ifF hm hb4
    refine WJ.skip ?_
    refine PJ.next ?_
    obtain ⟨kj5, hk6, hm⟩ := withK_open hm
    refine WJ.join (X := Unit) (fun (_ : Unit) => kj5  = some r) (fun (_ : Unit) => []) (fun (_ : Unit) => []) ?_ ?_
    · clear hk6
      refine WJ.seq ?_
      refine WJ.quiet ?_
      refine QJ.step (YldS.yld (y_move rfl)) rfl ?_
      refine QJ.step (YldS.yld (y_lenS Try.runUnderlying32 hr3 rfl)) rfl ?_
      refine QJ.step (YldS.yld (y_move rfl)) rfl ?_
      refine QJ.done ?_
      refine PJ.next ?_
      refine WJ.block ?_
      refine WJ.sel (L' := (fun (x : Int) => []) 0) [] ⟨List.nodup_nil, rfl⟩ ?_
      refine WJ.sub (m' := (fun (x : Int) => [(8, v2), (9, .int .i64 (List.length rows1 : Int)), (10, .int .i64 x)]) 0) ⟨rfl, rfl, rfl, trivial⟩ ?_
      refine WJ.loop (X := Int) (fun N (x : Int) => i_rowsCode_l1 kj5 rows1 N x = some r) (fun (x : Int) => [(8, v2), (9, .int .i64 (List.length rows1 : Int)), (10, .int .i64 x)]) (fun (x : Int) => []) ?_ N 0 hm
      · rintro N x7 hI
        have hm := hI; clear hI
        cases N with
        | zero => cases hm
        | succ N =>
        unfold i_rowsCode_l1 at hm
        refine WJ.seq ?_
        refine WJ.quiet ?_
        refine QJ.step (YldS.yld (y_bin rfl rfl rfl)) rfl ?_
        refine QJ.done ?_
        refine PJ.next ?_
        refine WJ.seq ?_
        refine WJ.cond (t := decide (x7 < (List.length rows1 : Int))) rfl (fun hb8 => ?_) (fun hb8 => ?_)
        · replace hm := ifT hm hb8
          refine WJ.skip ?_
          refine PJ.next ?_
          refine WJ.seq ?_
          refine WJ.block ?_
          refine WJ.seq ?_
          refine WJ.quiet ?_
          obtain ⟨e9, h10, hm⟩ := bindS hm
          obtain ⟨ad11, _, rfl, ha12, hy13⟩ := hr3.elem h10
          refine QJ.step (YldS.yld (hy13 Try.runUnderlying32 Try.sizeOf9 rfl rfl)) rfl ?_
          refine QJ.step (YldS.yld (y_load1 (v := str e9) Try.isAgg9 ha12 St.frozenC rfl)) rfl ?_
          refine QJ.step (YldS.yld (y_assign rfl)) rfl ?_
          refine QJ.done ?_
          refine PJ.next ?_
          refine WJ.seq ?_
          refine WJ.quiet ?_
          refine QJ.step (YldS.yld (y_move rfl)) rfl ?_
          obtain ⟨r14, h15, hm⟩ := bindS hm
          refine QJ.step (y_call Try.call62 rfl (RetG.quiet fun w hw => ok_i_isRow h15 w )) rfl ?_
          refine QJ.step (YldS.yld (y_not rfl)) rfl ?_
          refine QJ.done ?_
          refine PJ.next ?_
          refine WJ.cond (t := !r14) rfl (fun hb16 => ?_) (fun hb16 => ?_)
          · replace hm := ifT hm hb16
            refine WJ.seq ?_
            refine WJ.quiet ?_
            refine QJ.step (YldS.yld (y_assign rfl)) rfl ?_
            refine QJ.done ?_
            refine PJ.next ?_
            refine WJ.ret ?_
            refine PJ.block_ret (PJ.then_ret (PJ.then_ret (PJ.block_ret (PJ.then_ret ?_))))
            obtain rfl := Option.some.inj hm
            refine PJ.sel (L' := []) [] ⟨List.nodup_nil, rfl⟩ ?_
            exact PJ.retn (vs := [.int .i64 2]) Try.results66 ⟨rfl, trivial⟩ ⟨rfl, rfl⟩
          · replace hm := ifF hm hb16
            refine WJ.skip ?_
            refine PJ.block_normal (PJ.next ?_)
            refine WJ.quiet ?_
            refine QJ.step (YldS.yld (y_bin rfl rfl rfl)) rfl ?_
            refine QJ.step (YldS.yld (y_move rfl)) rfl ?_
            refine QJ.done ?_
            exact PJ.round (w64 (x7 + 1)) [] hm ⟨rfl, rfl, rfl, trivial⟩ ⟨List.nodup_nil, rfl⟩
        · replace hm := ifF hm hb8
          refine WJ.exit ?_
          refine PJ.then_exit (PJ.then_exit (PJ.block_exit ?_))
          exact PJ.joined () [] hm trivial ⟨List.nodup_nil, rfl⟩
    · rintro _ hm
      subst hk6
      refine WJ.seq ?_
      refine WJ.quiet ?_
      refine QJ.step (YldS.yld (y_assign rfl)) rfl ?_
      refine QJ.done ?_
      refine PJ.next ?_
      refine WJ.ret ?_
      obtain rfl := Option.some.inj hm
      refine PJ.sel (L' := []) [] ⟨List.nodup_nil, rfl⟩ ?_
      exact PJ.retn (vs := [.int .i64 0]) Try.results66 ⟨rfl, trivial⟩ ⟨rfl, rfl⟩

set_option maxRecDepth 100000 in
set_option maxHeartbeats 1000000 in
theorem ok_i_pageMoves {N : Nat} {stops1 : List Int} {rows4 : List Str} {r : Int} (hm : i_pageMoves N stops1 rows4 = some r) (w : World) (v2 : Value) (hr3 : RdS w (cx w).Fz v2 fI64.rp stops1) (v5 : Value) (hr6 : RdS w (cx w).Fz v5 fStr.rp rows4) :
    Calls Try.prog 67 #[v2, v5] w (Ret (cx w) (.int .i64 r)) := by
  unfold i_pageMoves at hm
  refine Calls.enter [v2, v5] Try.func67 rfl Try.ntmps67 rfl ?_
  refine WJ.seq ?_
  refine WJ.quiet ?_
  refine QJ.step (YldS.yld (y_assign rfl)) rfl ?_
  refine QJ.done ?_
  refine PJ.next ?_
  refine WJ.seq ?_
  refine WJ.quiet ?_
  refine QJ.step (YldS.yld (y_assign rfl)) rfl ?_
  refine QJ.done ?_
  refine PJ.next ?_
  obtain ⟨kj8, hk9, hm⟩ := withK_open hm
  refine WJ.join (X := Int) (fun (x : Int) => kj8 x = some r) (fun (x : Int) => [(5, .int .i64 x)]) (fun (x : Int) => []) ?_ ?_
  · clear hk9
    refine WJ.seq ?_
    refine WJ.quiet ?_
    refine QJ.step (YldS.yld (y_move rfl)) rfl ?_
    refine QJ.step (YldS.yld (y_lenS Try.runUnderlying32 hr6 rfl)) rfl ?_
    refine QJ.step (YldS.yld (y_move rfl)) rfl ?_
    refine QJ.done ?_
    refine PJ.next ?_
    refine WJ.block ?_
    refine WJ.sel (L' := (fun (x : Int × Int) => []) (0, 0)) [] ⟨List.nodup_nil, rfl⟩ ?_
    refine WJ.sub (m' := (fun (x : Int × Int) => [(0, v2), (5, .int .i64 x.1), (10, v5), (11, .int .i64 (List.length rows4 : Int)), (12, .int .i64 x.2)]) (0, 0)) ⟨rfl, rfl, rfl, rfl, rfl, trivial⟩ ?_
    refine WJ.loop (X := Int × Int) (fun N (x : Int × Int) => i_pageMoves_l1 kj8 stops1 rows4 N x.1 x.2 = some r) (fun (x : Int × Int) => [(0, v2), (5, .int .i64 x.1), (10, v5), (11, .int .i64 (List.length rows4 : Int)), (12, .int .i64 x.2)]) (fun (x : Int × Int) => []) ?_ N (0, 0) hm
    · rintro N ⟨sum10, x11⟩ hI
      have hm := hI; clear hI
      cases N with
      | zero => cases hm
      | succ N =>
      unfold i_pageMoves_l1 at hm
      refine WJ.seq ?_
      refine WJ.quiet ?_
      refine QJ.step (YldS.yld (y_bin rfl rfl rfl)) rfl ?_
      refine QJ.done ?_
      refine PJ.next ?_
      refine WJ.seq ?_
      refine WJ.cond (t := decide (x11 < (List.length rows4 : Int))) rfl (fun hb12 => ?_) (fun hb12 => ?_)
      · replace hm := ifT hm hb12
        refine WJ.skip ?_
        refine PJ.next ?_
        refine WJ.seq ?_
        refine WJ.block ?_
        refine WJ.seq ?_
        refine WJ.quiet ?_
        obtain ⟨e13, h14, hm⟩ := bindS hm
        obtain ⟨ad15, _, rfl, ha16, hy17⟩ := hr6.elem h14
        refine QJ.step (YldS.yld (hy17 Try.runUnderlying32 Try.sizeOf9 rfl rfl)) rfl ?_
        refine QJ.step (YldS.yld (y_load1 (v := str e13) Try.isAgg9 ha16 St.frozenC rfl)) rfl ?_
        refine QJ.step (YldS.yld (y_assign rfl)) rfl ?_
        refine QJ.done ?_
        refine PJ.next ?_
        refine WJ.seq ?_
        refine WJ.quiet ?_
        refine QJ.step (YldS.yld (y_move rfl)) rfl ?_
        refine QJ.step (YldS.yld (y_move rfl)) rfl ?_
        obtain ⟨r18, h19, hm⟩ := bindS hm
        refine QJ.step (y_call Try.call63 rfl (RetG.quiet fun w hw => ok_i_rowPlan h19 w _ (hr3.st hw))) rfl ?_
        refine QJ.step (YldS.yld (y_move rfl)) rfl ?_
        refine QJ.step (YldS.yld (y_extract rfl rfl)) rfl ?_
        refine QJ.step (YldS.yld (y_extract rfl rfl)) rfl ?_
        refine QJ.step (YldS.yld (y_assign rfl)) rfl ?_
        refine QJ.step (YldS.yld (y_assign rfl)) rfl ?_
        refine QJ.done ?_
        refine PJ.next ?_
        refine WJ.quiet ?_
        refine QJ.step (YldS.yld (y_move rfl)) rfl ?_
        refine QJ.step (YldS.yld (y_move rfl)) rfl ?_
        refine QJ.step (YldS.yld (y_bin rfl rfl rfl)) rfl ?_
        refine QJ.step (YldS.yld (y_assign rfl)) rfl ?_
        refine QJ.done ?_
        refine PJ.block_normal (PJ.next ?_)
        refine WJ.quiet ?_
        refine QJ.step (YldS.yld (y_bin rfl rfl rfl)) rfl ?_
        refine QJ.step (YldS.yld (y_move rfl)) rfl ?_
        refine QJ.done ?_
        exact PJ.round (w64 (sum10 + r18.2), w64 (x11 + 1)) [] hm ⟨rfl, rfl, rfl, rfl, rfl, trivial⟩ ⟨List.nodup_nil, rfl⟩
      · replace hm := ifF hm hb12
        refine WJ.exit ?_
        refine PJ.then_exit (PJ.then_exit (PJ.block_exit ?_))
        exact PJ.joined sum10 [] hm ⟨rfl, trivial⟩ ⟨List.nodup_nil, rfl⟩
  · rintro sum7 hm
    subst hk9
    refine WJ.seq ?_
    refine WJ.quiet ?_
    refine QJ.step (YldS.yld (y_move rfl)) rfl ?_
    refine QJ.step (YldS.yld (y_assign rfl)) rfl ?_
    refine QJ.done ?_
    refine PJ.next ?_
    refine WJ.ret ?_
    obtain rfl := Option.some.inj hm
    refine PJ.sel (L' := []) [] ⟨List.nodup_nil, rfl⟩ ?_
    exact PJ.retn (vs := [.int .i64 sum7]) Try.results67 ⟨rfl, trivial⟩ ⟨rfl, rfl⟩

set_option maxRecDepth 100000 in
set_option maxHeartbeats 1000000 in
theorem ok_i_PageMoves {N : Nat} {stops1 : List Int} {rows4 : List Str} {r : Int × Int} (hm : i_PageMoves N stops1 rows4 = some r) (w : World) (v2 : Value) (hr3 : RdS w (cx w).Fz v2 fI64.rp stops1) (v5 : Value) (hr6 : RdS w (cx w).Fz v5 fStr.rp rows4) :
    Calls Try.prog 15 #[v2, v5] w (Ret (cx w) (tup [.int .i64 r.1, .int .i64 r.2])) := by
  unfold i_PageMoves at hm
  refine Calls.enter [v2, v5] Try.func15 rfl Try.ntmps15 rfl ?_
  refine WJ.seq ?_
  refine WJ.quiet ?_
  refine QJ.step (YldS.yld (y_assign rfl)) rfl ?_
  refine QJ.step (YldS.yld (y_assign rfl)) rfl ?_
  refine QJ.done ?_
  refine PJ.next ?_
  refine WJ.seq ?_
  refine WJ.seq ?_
  refine WJ.quiet ?_
  refine QJ.step (YldS.yld (y_move rfl)) rfl ?_
  obtain ⟨r7, h8, hm⟩ := bindS hm
  refine QJ.step (y_call Try.call61 rfl (RetG.quiet fun w hw => ok_i_ValidStops h8 w _ (hr3.st hw))) rfl ?_
  refine QJ.step (YldS.yld (y_not rfl)) rfl ?_
  refine QJ.done ?_
  refine PJ.next ?_
  refine WJ.cond (t := !r7) rfl (fun hb9 => ?_) (fun hb9 => ?_)
  · replace hm := ifT hm hb9
    refine WJ.seq ?_
    refine WJ.quiet ?_
    refine QJ.step (YldS.yld (y_assign rfl)) rfl ?_
    refine QJ.step (YldS.yld (y_assign rfl)) rfl ?_
    refine QJ.done ?_
    refine PJ.next ?_
    refine WJ.ret ?_
    refine PJ.then_ret ?_
    obtain rfl := Option.some.inj hm
    refine PJ.sel (L' := []) [] ⟨List.nodup_nil, rfl⟩ ?_
    exact PJ.retn (vs := [.int .i64 0, .int .i64 1]) Try.results15 ⟨rfl, rfl, trivial⟩ ⟨rfl, rfl⟩
  · replace hm := ifF hm hb9
    refine WJ.skip ?_
    refine PJ.next ?_
    refine WJ.seq ?_
    refine WJ.seq ?_
    refine WJ.quiet ?_
    refine QJ.step (YldS.yld (y_move rfl)) rfl ?_
    obtain ⟨r10, h11, hm⟩ := bindS hm
    refine QJ.step (y_call Try.call66 rfl (RetG.quiet fun w hw => ok_i_rowsCode h11 w _ (hr6.st hw))) rfl ?_
    refine QJ.step (YldS.yld (y_assign rfl)) rfl ?_
    refine QJ.done ?_
    refine PJ.next ?_
    refine WJ.seq ?_
    refine WJ.quiet ?_
    refine QJ.step (YldS.yld (y_move rfl)) rfl ?_
    refine QJ.step (YldS.yld (y_bin rfl rfl rfl)) rfl ?_
    refine QJ.done ?_
    refine PJ.next ?_
    refine WJ.cond (t := (r10 != 0)) rfl (fun hb12 => ?_) (fun hb12 => ?_)
    · replace hm := ifT hm hb12
      refine WJ.seq ?_
      refine WJ.quiet ?_
      refine QJ.step (YldS.yld (y_move rfl)) rfl ?_
      refine QJ.step (YldS.yld (y_assign rfl)) rfl ?_
      refine QJ.step (YldS.yld (y_assign rfl)) rfl ?_
      refine QJ.done ?_
      refine PJ.next ?_
      refine WJ.ret ?_
      refine PJ.then_ret ?_
      obtain rfl := Option.some.inj hm
      refine PJ.sel (L' := []) [] ⟨List.nodup_nil, rfl⟩ ?_
      exact PJ.retn (vs := [.int .i64 0, .int .i64 r10]) Try.results15 ⟨rfl, rfl, trivial⟩ ⟨rfl, rfl⟩
    · replace hm := ifF hm hb12
      refine WJ.skip ?_
      refine PJ.next ?_
      refine WJ.seq ?_
      refine WJ.quiet ?_
      refine QJ.step (YldS.yld (y_move rfl)) rfl ?_
      refine QJ.step (YldS.yld (y_move rfl)) rfl ?_
      obtain ⟨r13, h14, hm⟩ := bindS hm
      refine QJ.step (y_call Try.call67 rfl (RetG.quiet fun w hw => ok_i_pageMoves h14 w _ (hr3.st hw) _ (hr6.st hw))) rfl ?_
      refine QJ.step (YldS.yld (y_assign rfl)) rfl ?_
      refine QJ.step (YldS.yld (y_assign rfl)) rfl ?_
      refine QJ.done ?_
      refine PJ.next ?_
      refine WJ.ret ?_
      obtain rfl := Option.some.inj hm
      refine PJ.sel (L' := []) [] ⟨List.nodup_nil, rfl⟩ ?_
      exact PJ.retn (vs := [.int .i64 r13, .int .i64 0]) Try.results15 ⟨rfl, rfl, trivial⟩ ⟨rfl, rfl⟩

set_option maxRecDepth 100000 in
set_option maxHeartbeats 1000000 in
theorem ok_i_StartsOf {N : Nat} {rows1 : List Str} {r : (List Int) × Int} (hm : i_StartsOf N rows1 = some r) (w : World) (v2 : Value) (hr3 : RdS w (cx w).Fz v2 fStr.rp rows1) :
    Calls Try.prog 16 #[v2] w (RetG (cx w) fun u L => ∃ (u1 : Value), (u = tup [u1, .int .i64 r.2] ∧ L = [row u1 2 fI64 r.1])) := by
  unfold i_StartsOf at hm
  refine Calls.enter [v2] Try.func16 rfl Try.ntmps16 rfl ?_
  refine WJ.seq ?_
  refine WJ.quiet ?_
  refine QJ.step (YldS.yld (y_assign rfl)) rfl ?_
  refine QJ.step (YldS.yld (y_assign rfl)) rfl ?_
  refine QJ.done ?_
  refine PJ.next ?_
  refine WJ.seq ?_
  refine WJ.seq ?_
  refine WJ.quiet ?_
  refine QJ.step (YldS.yld (y_move rfl)) rfl ?_
  obtain ⟨r4, h5, hm⟩ := bindS hm
  refine QJ.step (y_call Try.call66 rfl (RetG.quiet fun w hw => ok_i_rowsCode h5 w _ (hr3.st hw))) rfl ?_
  refine QJ.step (YldS.yld (y_assign rfl)) rfl ?_
  refine QJ.done ?_
  refine PJ.next ?_
  refine WJ.seq ?_
  refine WJ.quiet ?_
  refine QJ.step (YldS.yld (y_move rfl)) rfl ?_
  refine QJ.step (YldS.yld (y_bin rfl rfl rfl)) rfl ?_
  refine QJ.done ?_
  refine PJ.next ?_
  refine WJ.cond (t := (r4 != 0)) rfl (fun hb6 => ?_) (fun hb6 => ?_)
  · replace hm := ifT hm hb6
    refine WJ.seq ?_
    refine WJ.quiet ?_
    refine QJ.step (YldS.yld (y_move rfl)) rfl ?_
    refine QJ.step (YldS.yld (y_assign rfl)) rfl ?_
    refine QJ.step (YldS.yld (y_assign rfl)) rfl ?_
    refine QJ.done ?_
    refine PJ.next ?_
    refine WJ.ret ?_
    refine PJ.then_ret ?_
    refine PJ.nil_row 2 fI64 ?_
    obtain rfl := Option.some.inj hm
    refine PJ.sel (L' := [row (.slice none 0 0) 2 fI64 []]) [0] ⟨by decide, rfl⟩ ?_
    exact PJ.retn (vs := [(.slice none 0 0), .int .i64 r4]) Try.results16 ⟨rfl, rfl, trivial⟩ ⟨_, rfl, rfl⟩
  · replace hm := ifF hm hb6
    refine WJ.skip ?_
    refine PJ.next ?_
    refine WJ.seq ?_
    refine WJ.reg ?_
    refine SJ.q (YldS.yld (y_build0 Try.runUnderlying88 zv88 Try.sizeOf4)) rfl ?_
    refine SJ.allocA (R := fBool) (xs := List.replicate 30 false) 30 zv88 rfl rfl rfl rfl fun g7 => ?_
    refine SJ.storeA (k := 0) (ys := (List.replicate 30 false)) rfl rfl rfl rfl (by simp) Try.sizeOf88 (by simp [length_encs, fBool]) ?_
    refine SJ.nil ?_
    refine PJ.next ?_
    obtain ⟨kj9, hk10, hm⟩ := withK_open hm
    refine WJ.join (X := (List Bool)) (fun (x : (List Bool)) => kj9 x = some r) (fun (x : (List Bool)) => [(5, pt g7 0)]) (fun (x : (List Bool)) => [row (av g7 30) 88 fBool x]) ?_ ?_
    · clear hk10
      refine WJ.seq ?_
      refine WJ.quiet ?_
      refine QJ.step (YldS.yld (y_move rfl)) rfl ?_
      refine QJ.step (YldS.yld (y_lenS Try.runUnderlying32 hr3 rfl)) rfl ?_
      refine QJ.step (YldS.yld (y_move rfl)) rfl ?_
      refine QJ.done ?_
      refine PJ.next ?_
      refine WJ.block ?_
      refine WJ.sel (L' := (fun (x : (List Bool) × Int) => [row (av g7 30) 88 fBool x.1]) ((List.replicate 30 false), 0)) [0] ⟨by decide, rfl⟩ ?_
      refine WJ.sub (m' := (fun (x : (List Bool) × Int) => [(5, pt g7 0), (18, v2), (19, .int .i64 (List.length rows1 : Int)), (20, .int .i64 x.2)]) ((List.replicate 30 false), 0)) ⟨rfl, rfl, rfl, rfl, trivial⟩ ?_
      refine WJ.loop (X := (List Bool) × Int) (fun N (x : (List Bool) × Int) => i_StartsOf_l1 kj9 rows1 N x.1 x.2 = some r) (fun (x : (List Bool) × Int) => [(5, pt g7 0), (18, v2), (19, .int .i64 (List.length rows1 : Int)), (20, .int .i64 x.2)]) (fun (x : (List Bool) × Int) => [row (av g7 30) 88 fBool x.1]) ?_ N ((List.replicate 30 false), 0) hm
      · rintro N ⟨l11, x12⟩ hI
        have hm := hI; clear hI
        cases N with
        | zero => cases hm
        | succ N =>
        unfold i_StartsOf_l1 at hm
        refine WJ.seq ?_
        refine WJ.quiet ?_
        refine QJ.step (YldS.yld (y_bin rfl rfl rfl)) rfl ?_
        refine QJ.done ?_
        refine PJ.next ?_
        refine WJ.seq ?_
        refine WJ.cond (t := decide (x12 < (List.length rows1 : Int))) rfl (fun hb13 => ?_) (fun hb13 => ?_)
        · replace hm := ifT hm hb13
          refine WJ.skip ?_
          refine PJ.next ?_
          obtain ⟨kj15, hk16, hm⟩ := withK_open hm
          refine WJ.join (X := (List Bool)) (fun (x : (List Bool)) => kj15 x = some r) (fun (x : (List Bool)) => [(5, pt g7 0), (18, v2), (19, .int .i64 (List.length rows1 : Int)), (20, .int .i64 x12)]) (fun (x : (List Bool)) => [row (av g7 30) 88 fBool x]) ?_ ?_
          · clear hk16
            refine WJ.block ?_
            refine WJ.seq ?_
            refine WJ.quiet ?_
            obtain ⟨e17, h18, hm⟩ := bindS hm
            obtain ⟨ad19, _, rfl, ha20, hy21⟩ := hr3.elem h18
            refine QJ.step (YldS.yld (hy21 Try.runUnderlying32 Try.sizeOf9 rfl rfl)) rfl ?_
            refine QJ.step (YldS.yld (y_load1 (v := str e17) Try.isAgg9 ha20 St.frozenC rfl)) rfl ?_
            refine QJ.step (YldS.yld (y_assign rfl)) rfl ?_
            refine QJ.done ?_
            refine PJ.next ?_
            refine WJ.seq ?_
            refine WJ.quiet ?_
            refine QJ.step (YldS.yld (y_move rfl)) rfl ?_
            refine QJ.step (YldS.yld (y_lenStr Try.runUnderlying9 rfl)) rfl ?_
            refine QJ.step (YldS.yld (y_move rfl)) rfl ?_
            refine QJ.done ?_
            refine PJ.next ?_
            refine WJ.block ?_
            refine WJ.sel (L' := (fun (x : (List Bool) × Int) => [row (av g7 30) 88 fBool x.1]) (l11, 0)) [0] ⟨by decide, rfl⟩ ?_
            refine WJ.sub (m' := (fun (x : (List Bool) × Int) => [(5, pt g7 0), (7, str e17), (18, v2), (19, .int .i64 (List.length rows1 : Int)), (20, .int .i64 x12), (25, .int .i64 (List.length e17 : Int)), (26, .int .i64 x.2)]) (l11, 0)) ⟨rfl, rfl, rfl, rfl, rfl, rfl, rfl, trivial⟩ ?_
            refine WJ.loop (X := (List Bool) × Int) (fun N (x : (List Bool) × Int) => i_StartsOf_l2 kj15 e17 N x.1 x.2 = some r) (fun (x : (List Bool) × Int) => [(5, pt g7 0), (7, str e17), (18, v2), (19, .int .i64 (List.length rows1 : Int)), (20, .int .i64 x12), (25, .int .i64 (List.length e17 : Int)), (26, .int .i64 x.2)]) (fun (x : (List Bool) × Int) => [row (av g7 30) 88 fBool x.1]) ?_ N (l11, 0) hm
            · rintro N ⟨l22, x23⟩ hI
              have hm := hI; clear hI
              cases N with
              | zero => cases hm
              | succ N =>
              unfold i_StartsOf_l2 at hm
              refine WJ.seq ?_
              refine WJ.quiet ?_
              refine QJ.step (YldS.yld (y_bin rfl rfl rfl)) rfl ?_
              refine QJ.done ?_
              refine PJ.next ?_
              refine WJ.seq ?_
              refine WJ.cond (t := decide (x23 < (List.length e17 : Int))) rfl (fun hb24 => ?_) (fun hb24 => ?_)
              · replace hm := ifT hm hb24
                refine WJ.skip ?_
                refine PJ.next ?_
                obtain ⟨kj26, hk27, hm⟩ := withK_open hm
                refine WJ.join (X := (List Bool)) (fun (x : (List Bool)) => kj26 x = some r) (fun (x : (List Bool)) => [(5, pt g7 0), (7, str e17), (18, v2), (19, .int .i64 (List.length rows1 : Int)), (20, .int .i64 x12), (25, .int .i64 (List.length e17 : Int)), (26, .int .i64 x23)]) (fun (x : (List Bool)) => [row (av g7 30) 88 fBool x]) ?_ ?_
                · clear hk27
                  refine WJ.block ?_
                  refine WJ.seq ?_
                  refine WJ.quiet ?_
                  refine QJ.step (YldS.yld (y_move rfl)) rfl ?_
                  refine QJ.step (YldS.yld (y_assign rfl)) rfl ?_
                  refine QJ.done ?_
                  refine PJ.next ?_
                  refine WJ.seq ?_
                  refine WJ.quiet ?_
                  refine QJ.step (YldS.yld (y_move rfl)) rfl ?_
                  refine QJ.step (YldS.yld (y_move rfl)) rfl ?_
                  obtain ⟨c28, h29, hm⟩ := bindS hm
                  refine QJ.step (YldS.yld (y_idxStr Try.runUnderlying9 rfl rfl h29)) rfl ?_
                  refine QJ.step (YldS.yld (y_bin8 c28 (32 : UInt8) rfl rfl rfl)) rfl ?_
                  refine QJ.step (YldS.yld (y_move rfl)) rfl ?_
                  obtain ⟨t30, h31, hm⟩ := bindS hm
                  refine QJ.cut 10 [(5, pt g7 0), (7, str e17), (8, .int .i64 x23), (18, v2), (19, .int .i64 (List.length rows1 : Int)), (20, .int .i64 x12), (25, .int .i64 (List.length e17 : Int)), (26, .int .i64 x23), (43, .bool t30)] ?_ ?_
                  · rcases Bool.eq_false_or_eq_true (c28 != (32 : UInt8)) with hb32 | hb32
                    · replace h31 := andT h31 hb32
                      refine QJ.on rfl rfl (cB hb32) (YldS.yld (y_move rfl)) rfl ?_
                      refine QJ.on rfl rfl (cB hb32) (YldS.yld (y_bin rfl rfl rfl)) rfl ?_
                      refine QJ.on rfl rfl (cB hb32) (YldS.yld (y_move rfl)) rfl ?_
                      obtain ⟨t33, h34, h31⟩ := bindS h31
                      refine QJ.cut 6 [(5, pt g7 0), (7, str e17), (8, .int .i64 x23), (18, v2), (19, .int .i64 (List.length rows1 : Int)), (20, .int .i64 x12), (25, .int .i64 (List.length e17 : Int)), (26, .int .i64 x23), (33, .bool (c28 != (32 : UInt8))), (34, .int .i64 x23), (35, .bool (x23 == 0)), (36, .bool (x23 == 0)), (42, .bool t33)] ?_ ?_
                      · rcases Bool.eq_false_or_eq_true (x23 == 0) with hb35 | hb35
                        · obtain rfl := orT h34 hb35
                          refine QJ.off rfl rfl (cB hb35) rfl rfl ?_
                          refine QJ.off rfl rfl (cB hb35) rfl rfl ?_
                          refine QJ.off rfl rfl (cB hb35) rfl rfl ?_
                          refine QJ.off rfl rfl (cB hb35) rfl rfl ?_
                          refine QJ.off rfl rfl (cB hb35) rfl rfl ?_
                          refine QJ.on rfl rfl (cB hb32) (YldS.yld (y_pick_t (cB hb35) rfl)) rfl ?_
                          exact QJ.cut_end ⟨rfl, rfl, rfl, rfl, rfl, rfl, rfl, rfl, rfl, rfl, rfl, rfl, rfl, trivial⟩
                        · replace h34 := orF h34 hb35
                          refine QJ.on rfl rfl (cB hb35) (YldS.yld (y_move rfl)) rfl ?_
                          refine QJ.on rfl rfl (cB hb35) (YldS.yld (y_move rfl)) rfl ?_
                          refine QJ.on rfl rfl (cB hb35) (YldS.yld (y_bin rfl rfl rfl)) rfl ?_
                          obtain ⟨c36, h37, h34⟩ := bindS h34
                          refine QJ.on rfl rfl (cB hb35) (YldS.yld (y_idxStr Try.runUnderlying9 rfl rfl h37)) rfl ?_
                          refine QJ.on rfl rfl (cB hb35) (YldS.yld (y_bin8 c36 (32 : UInt8) rfl rfl rfl)) rfl ?_
                          refine QJ.on rfl rfl (cB hb32) (YldS.yld (y_pick_f (cB hb35) rfl)) rfl ?_
                          obtain rfl := Option.some.inj h34
                          exact QJ.cut_end ⟨rfl, rfl, rfl, rfl, rfl, rfl, rfl, rfl, rfl, rfl, rfl, rfl, rfl, trivial⟩
                      refine QJ.step (YldS.yld (y_pick_t (cB hb32) rfl)) rfl ?_
                      obtain rfl := Option.some.inj h31
                      exact QJ.cut_end ⟨rfl, rfl, rfl, rfl, rfl, rfl, rfl, rfl, rfl, trivial⟩
                    · obtain rfl := andF h31 hb32
                      refine QJ.off rfl rfl (cB hb32) rfl rfl ?_
                      refine QJ.off rfl rfl (cB hb32) rfl rfl ?_
                      refine QJ.off rfl rfl (cB hb32) rfl rfl ?_
                      refine QJ.off_undef rfl rfl rfl rfl ?_
                      refine QJ.off_undef rfl rfl rfl rfl ?_
                      refine QJ.off_undef rfl rfl rfl rfl ?_
                      refine QJ.off_undef rfl rfl rfl rfl ?_
                      refine QJ.off_undef rfl rfl rfl rfl ?_
                      refine QJ.off rfl rfl (cB hb32) rfl rfl ?_
                      refine QJ.step (YldS.yld (y_pick_f (cB hb32) rfl)) rfl ?_
                      exact QJ.cut_end ⟨rfl, rfl, rfl, rfl, rfl, rfl, rfl, rfl, rfl, trivial⟩
                  refine QJ.done ?_
                  refine PJ.next ?_
                  refine WJ.cond (t := t30) rfl (fun hb38 => ?_) (fun hb38 => ?_)
                  · replace hm := ifT hm hb38
                    refine WJ.reg ?_
                    refine SJ.q (YldS.yld (y_move rfl)) rfl ?_
                    obtain ⟨e39, h40, hm⟩ := bindS hm
                    refine SJ.q (YldS.yld (y_ixArr (k := 0) (R := fBool) rfl Try.runUnderlying88 Try.sizeOf4 rfl rfl h40)) rfl ?_
                    refine SJ.storeRL (k := 0) (i := (Int.toNat x23)) (off := 0) (us := [.bool true]) (b := true) rfl rfl (idx_get h40) rfl rfl Try.sizeOf4 rfl rfl rfl ?_
                    refine SJ.nil ?_
                    refine PJ.block_normal ?_
                    exact PJ.joined (List.set l22 (Int.toNat x23) true) [0] hm ⟨rfl, rfl, rfl, rfl, rfl, rfl, rfl, trivial⟩ ⟨by decide, rfl⟩
                  · replace hm := ifF hm hb38
                    refine WJ.skip ?_
                    refine PJ.block_normal ?_
                    exact PJ.joined l22 [0] hm ⟨rfl, rfl, rfl, rfl, rfl, rfl, rfl, trivial⟩ ⟨by decide, rfl⟩
                · rintro l25 hm
                  subst hk27
                  refine WJ.quiet ?_
                  refine QJ.step (YldS.yld (y_bin rfl rfl rfl)) rfl ?_
                  refine QJ.step (YldS.yld (y_move rfl)) rfl ?_
                  refine QJ.done ?_
                  exact PJ.round (l25, w64 (x23 + 1)) [0] hm ⟨rfl, rfl, rfl, rfl, rfl, rfl, rfl, trivial⟩ ⟨by decide, rfl⟩
              · replace hm := ifF hm hb24
                refine WJ.exit ?_
                refine PJ.then_exit (PJ.then_exit (PJ.block_exit (PJ.block_normal ?_)))
                exact PJ.joined l22 [0] hm ⟨rfl, rfl, rfl, rfl, trivial⟩ ⟨by decide, rfl⟩
          · rintro l14 hm
            subst hk16
            refine WJ.quiet ?_
            refine QJ.step (YldS.yld (y_bin rfl rfl rfl)) rfl ?_
            refine QJ.step (YldS.yld (y_move rfl)) rfl ?_
            refine QJ.done ?_
            exact PJ.round (l14, w64 (x12 + 1)) [0] hm ⟨rfl, rfl, rfl, rfl, trivial⟩ ⟨by decide, rfl⟩
        · replace hm := ifF hm hb13
          refine WJ.exit ?_
          refine PJ.then_exit (PJ.then_exit (PJ.block_exit ?_))
          exact PJ.joined l11 [0] hm ⟨rfl, trivial⟩ ⟨by decide, rfl⟩
    · rintro l8 hm
      subst hk10
      refine WJ.seq ?_
      refine WJ.reg ?_
      refine SJ.buildSlice (R := fI64) (os := []) [] Try.runUnderlying24 Try.sizeOf2 Try.zeroValue2 rfl rfl rfl rfl rfl rfl fun v41 => ?_
      refine SJ.q (YldS.yld (y_assign rfl)) rfl ?_
      refine SJ.nil ?_
      refine PJ.next ?_
      obtain ⟨kj44, hk45, hm⟩ := withK_open hm
      refine WJ.join (X := (List Int) × Value) (fun (x : (List Int) × Value) => kj44 x.1 = some r) (fun (x : (List Int) × Value) => [(9, x.2)]) (fun (x : (List Int) × Value) => [row x.2 2 fI64 x.1]) ?_ ?_
      · clear hk45
        refine WJ.seq ?_
        refine WJ.quiet ?_
        refine QJ.step (YldS.yld (y_loadA (k := 1) (R := fBool) rfl Try.isAgg88 Try.sizeOf88 rfl rfl)) rfl ?_
        refine QJ.step (YldS.yld (y_move rfl)) rfl ?_
        refine QJ.done ?_
        refine PJ.next ?_
        refine WJ.block ?_
        refine WJ.sel (L' := (fun (x : (List Int) × Value × Int) => [row x.2.1 2 fI64 x.1]) ([], v41, 0)) [0] ⟨by decide, rfl⟩ ?_
        refine WJ.sub (m' := (fun (x : (List Int) × Value × Int) => [(9, x.2.1), (49, .agg (List.toArray (encs fBool l8))), (50, .int .i64 x.2.2)]) ([], v41, 0)) ⟨rfl, rfl, rfl, trivial⟩ ?_
        refine WJ.loop (X := (List Int) × Value × Int) (fun N (x : (List Int) × Value × Int) => i_StartsOf_l3 kj44 l8 N x.1 x.2.2 = some r) (fun (x : (List Int) × Value × Int) => [(9, x.2.1), (49, .agg (List.toArray (encs fBool l8))), (50, .int .i64 x.2.2)]) (fun (x : (List Int) × Value × Int) => [row x.2.1 2 fI64 x.1]) ?_ N ([], v41, 0) hm
        · rintro N ⟨l46, v47, x48⟩ hI
          have hm := hI; clear hI
          cases N with
          | zero => cases hm
          | succ N =>
          unfold i_StartsOf_l3 at hm
          refine WJ.seq ?_
          refine WJ.quiet ?_
          refine QJ.step (YldS.yld (y_bin rfl rfl rfl)) rfl ?_
          refine QJ.done ?_
          refine PJ.next ?_
          refine WJ.seq ?_
          refine WJ.cond (t := decide (x48 < 30)) rfl (fun hb49 => ?_) (fun hb49 => ?_)
          · replace hm := ifT hm hb49
            refine WJ.skip ?_
            refine PJ.next ?_
            obtain ⟨kj52, hk53, hm⟩ := withK_open hm
            refine WJ.join (X := (List Int) × Value) (fun (x : (List Int) × Value) => kj52 x.1 = some r) (fun (x : (List Int) × Value) => [(9, x.2), (49, .agg (List.toArray (encs fBool l8))), (50, .int .i64 x48)]) (fun (x : (List Int) × Value) => [row x.2 2 fI64 x.1]) ?_ ?_
            · clear hk53
              refine WJ.block ?_
              refine WJ.seq ?_
              refine WJ.quiet ?_
              refine QJ.step (YldS.yld (y_move rfl)) rfl ?_
              obtain ⟨e54, h55, hm⟩ := bindS hm
              refine QJ.step (YldS.yld (y_ixAgg (R := fBool) (y := e54) Try.runUnderlying88 Try.sizeOf4 Try.isAgg4 rfl rfl rfl h55 rfl)) rfl ?_
              refine QJ.step (YldS.yld (y_assign rfl)) rfl ?_
              refine QJ.step (YldS.yld (y_assign rfl)) rfl ?_
              refine QJ.done ?_
              refine PJ.next ?_
              refine WJ.seq ?_
              refine WJ.quiet ?_
              refine QJ.step (YldS.yld (y_move rfl)) rfl ?_
              refine QJ.done ?_
              refine PJ.next ?_
              refine WJ.cond (t := e54) rfl (fun hb56 => ?_) (fun hb56 => ?_)
              · replace hm := ifT hm hb56
                refine WJ.reg ?_
                refine SJ.q (YldS.yld (y_move rfl)) rfl ?_
                refine SJ.q (YldS.yld (y_move rfl)) rfl ?_
                refine SJ.buildSlice (R := fI64) (os := [.tmp 56]) [x48] Try.runUnderlying24 Try.sizeOf2 Try.zeroValue2 rfl rfl rfl rfl rfl rfl fun v57 => ?_
                obtain ⟨l58, h59, hm⟩ := bindS hm
                refine SJ.append (k := 1) (R := fI64) h59 rfl Try.underlying24 el2 rfl rfl rfl (fun w hw => (hw.row_rd (k := 0) rfl)) rfl fun v60 => ?_
                refine SJ.q (YldS.yld (y_assign rfl)) rfl ?_
                refine SJ.nil ?_
                refine PJ.block_normal ?_
                exact PJ.joined (l58, v60) [1] hm ⟨rfl, rfl, rfl, trivial⟩ ⟨by decide, rfl⟩
              · replace hm := ifF hm hb56
                refine WJ.skip ?_
                refine PJ.block_normal ?_
                exact PJ.joined (l46, v47) [0] hm ⟨rfl, rfl, rfl, trivial⟩ ⟨by decide, rfl⟩
            · rintro ⟨l50, v51⟩ hm
              subst hk53
              refine WJ.quiet ?_
              refine QJ.step (YldS.yld (y_bin rfl rfl rfl)) rfl ?_
              refine QJ.step (YldS.yld (y_move rfl)) rfl ?_
              refine QJ.done ?_
              exact PJ.round (l50, v51, w64 (x48 + 1)) [0] hm ⟨rfl, rfl, rfl, trivial⟩ ⟨by decide, rfl⟩
          · replace hm := ifF hm hb49
            refine WJ.exit ?_
            refine PJ.then_exit (PJ.then_exit (PJ.block_exit ?_))
            exact PJ.joined (l46, v47) [0] hm ⟨rfl, trivial⟩ ⟨by decide, rfl⟩
      · rintro ⟨l42, v43⟩ hm
        subst hk45
        refine WJ.seq ?_
        refine WJ.quiet ?_
        refine QJ.step (YldS.yld (y_move rfl)) rfl ?_
        refine QJ.step (YldS.yld (y_assign rfl)) rfl ?_
        refine QJ.step (YldS.yld (y_assign rfl)) rfl ?_
        refine QJ.done ?_
        refine PJ.next ?_
        refine WJ.ret ?_
        obtain rfl := Option.some.inj hm
        refine PJ.sel (L' := [row v43 2 fI64 l42]) [0] ⟨by decide, rfl⟩ ?_
        exact PJ.retn (vs := [v43, .int .i64 0]) Try.results16 ⟨rfl, rfl, trivial⟩ ⟨_, rfl, rfl⟩

set_option maxRecDepth 100000 in
set_option maxHeartbeats 1000000 in
theorem ok_w_a2Rises {N : Nat} {list1 : List Int} {n4 : Int} {r : Bool} (hm : w_a2Rises N list1 n4 = some r) (w : World) (v2 : Value) (hr3 : RdS w (cx w).Fz v2 fI64.rp list1) :
    Calls Try.prog 17 #[v2, .int .i64 n4] w (Ret (cx w) (.bool r)) := by
  unfold w_a2Rises at hm
  refine Calls.enter [v2, .int .i64 n4] Try.func17 rfl Try.ntmps17 rfl ?_
  refine WJ.seq ?_
  refine WJ.quiet ?_
  refine QJ.step (YldS.yld (y_assign rfl)) rfl ?_
  refine QJ.done ?_
  refine PJ.next ?_
  obtain ⟨kj5, hk6, hm⟩ := withK_open hm
  refine WJ.join (X := Unit) (fun (_ : Unit) => kj5  = some r) (fun (_ : Unit) => []) (fun (_ : Unit) => []) ?_ ?_
  · clear hk6
    refine WJ.seq ?_
    refine WJ.quiet ?_
    refine QJ.step (YldS.yld (y_assign rfl)) rfl ?_
    refine QJ.done ?_
    refine PJ.next ?_
    refine WJ.block ?_
    refine WJ.sel (L' := (fun (x : Int) => []) 0) [] ⟨List.nodup_nil, rfl⟩ ?_
    refine WJ.sub (m' := (fun (x : Int) => [(0, v2), (1, .int .i64 n4), (5, .int .i64 x)]) 0) ⟨rfl, rfl, rfl, trivial⟩ ?_
    refine WJ.loop (X := Int) (fun N (x : Int) => w_a2Rises_l1 kj5 list1 n4 N x = some r) (fun (x : Int) => [(0, v2), (1, .int .i64 n4), (5, .int .i64 x)]) (fun (x : Int) => []) ?_ N 0 hm
    · rintro N i7 hI
      have hm := hI; clear hI
      cases N with
      | zero => cases hm
      | succ N =>
      unfold w_a2Rises_l1 at hm
      refine WJ.seq ?_
      refine WJ.seq ?_
      refine WJ.quiet ?_
      refine QJ.step (YldS.yld (y_move rfl)) rfl ?_
      refine QJ.step (YldS.yld (y_move rfl)) rfl ?_
      refine QJ.step (YldS.yld (y_lenS Try.runUnderlying24 hr3 rfl)) rfl ?_
      refine QJ.step (YldS.yld (y_bin rfl rfl rfl)) rfl ?_
      refine QJ.done ?_
      refine PJ.next ?_
      refine WJ.cond (t := decide (i7 < (List.length list1 : Int))) rfl (fun hb8 => ?_) (fun hb8 => ?_)
      · replace hm := ifT hm hb8
        refine WJ.skip ?_
        refine PJ.next ?_
        refine WJ.seq ?_
        refine WJ.block ?_
        refine WJ.seq ?_
        refine WJ.quiet_draw follows (by kernel_rfl) ?_
        refine QJ.step (YldS.yld (y_move rfl)) rfl ?_
        refine QJ.step (YldS.yld (y_move rfl)) rfl ?_
        obtain ⟨e9, h10, hm⟩ := bindS hm
        obtain ⟨ad11, _, rfl, ha12, hy13⟩ := hr3.elem h10
        refine QJ.step (YldS.yld (hy13 Try.runUnderlying24 Try.sizeOf2 rfl rfl)) rfl ?_
        refine QJ.step (YldS.yld (y_load1 (v := .int .i64 e9) Try.isAgg2 ha12 St.frozenC rfl)) rfl ?_
        refine QJ.step (YldS.yld (y_bin rfl rfl rfl)) rfl ?_
        refine QJ.step (YldS.yld (y_move rfl)) rfl ?_
        obtain ⟨t14, h15, hm⟩ := bindS hm
        refine QJ.cut 7 [(0, v2), (1, .int .i64 n4), (5, .int .i64 i7), (24, .bool t14)] ?_ ?_
        · rcases Bool.eq_false_or_eq_true (decide (e9 < 0)) with hb16 | hb16
          · obtain rfl := orT h15 hb16
            refine QJ.off rfl rfl (cB hb16) rfl rfl ?_
            refine QJ.off rfl rfl (cB hb16) rfl rfl ?_
            refine QJ.off rfl rfl (cB hb16) rfl rfl ?_
            refine QJ.off rfl rfl (cB hb16) rfl rfl ?_
            refine QJ.off rfl rfl (cB hb16) rfl rfl ?_
            refine QJ.off rfl rfl (cB hb16) rfl rfl ?_
            refine QJ.step (YldS.yld (y_pick_t (cB hb16) rfl)) rfl ?_
            exact QJ.cut_end ⟨rfl, rfl, rfl, rfl, trivial⟩
          · replace h15 := orF h15 hb16
            refine QJ.on rfl rfl (cB hb16) (YldS.yld (y_move rfl)) rfl ?_
            refine QJ.on rfl rfl (cB hb16) (YldS.yld (y_move rfl)) rfl ?_
            obtain ⟨e17, h18, h15⟩ := bindS h15
            obtain ⟨ad19, _, rfl, ha20, hy21⟩ := hr3.elem h18
            refine QJ.on rfl rfl (cB hb16) (YldS.yld (hy21 Try.runUnderlying24 Try.sizeOf2 rfl rfl)) rfl ?_
            refine QJ.on rfl rfl (cB hb16) (YldS.yld (y_load1 (v := .int .i64 e17) Try.isAgg2 ha20 St.frozenC rfl)) rfl ?_
            refine QJ.on rfl rfl (cB hb16) (YldS.yld (y_move rfl)) rfl ?_
            refine QJ.on rfl rfl (cB hb16) (YldS.yld (y_bin rfl rfl rfl)) rfl ?_
            refine QJ.step (YldS.yld (y_pick_f (cB hb16) rfl)) rfl ?_
            obtain rfl := Option.some.inj h15
            exact QJ.cut_end ⟨rfl, rfl, rfl, rfl, trivial⟩
        refine QJ.step (YldS.yld (y_move rfl)) rfl ?_
        obtain ⟨t22, h23, hm⟩ := bindS hm
        refine QJ.cut 15 [(0, v2), (1, .int .i64 n4), (5, .int .i64 i7), (40, .bool t22)] ?_ ?_
        · rcases Bool.eq_false_or_eq_true t14 with hb24 | hb24
          · obtain rfl := orT h23 hb24
            refine QJ.off rfl rfl (cB hb24) rfl rfl ?_
            refine QJ.off rfl rfl (cB hb24) rfl rfl ?_
            refine QJ.off rfl rfl (cB hb24) rfl rfl ?_
            refine QJ.off_undef rfl rfl rfl rfl ?_
            refine QJ.off_undef rfl rfl rfl rfl ?_
            refine QJ.off_undef rfl rfl rfl rfl ?_
            refine QJ.off_undef rfl rfl rfl rfl ?_
            refine QJ.off_undef rfl rfl rfl rfl ?_
            refine QJ.off_undef rfl rfl rfl rfl ?_
            refine QJ.off_undef rfl rfl rfl rfl ?_
            refine QJ.off_undef rfl rfl rfl rfl ?_
            refine QJ.off_undef rfl rfl rfl rfl ?_
            refine QJ.off_undef rfl rfl rfl rfl ?_
            refine QJ.off rfl rfl (cB hb24) rfl rfl ?_
            refine QJ.step (YldS.yld (y_pick_t (cB hb24) rfl)) rfl ?_
            exact QJ.cut_end ⟨rfl, rfl, rfl, rfl, trivial⟩
          · replace h23 := orF h23 hb24
            refine QJ.on rfl rfl (cB hb24) (YldS.yld (y_move rfl)) rfl ?_
            refine QJ.on rfl rfl (cB hb24) (YldS.yld (y_bin rfl rfl rfl)) rfl ?_
            refine QJ.on rfl rfl (cB hb24) (YldS.yld (y_move rfl)) rfl ?_
            obtain ⟨t25, h26, h23⟩ := bindS h23
            refine QJ.cut 11 [(0, v2), (1, .int .i64 n4), (5, .int .i64 i7), (25, .bool t14), (26, .int .i64 i7), (27, .bool (decide (i7 > 0))), (28, .bool (decide (i7 > 0))), (39, .bool t25)] ?_ ?_
            · rcases Bool.eq_false_or_eq_true (decide (i7 > 0)) with hb27 | hb27
              · replace h26 := andT h26 hb27
                refine QJ.on rfl rfl (cB hb27) (YldS.yld (y_move rfl)) rfl ?_
                refine QJ.on rfl rfl (cB hb27) (YldS.yld (y_move rfl)) rfl ?_
                refine QJ.on rfl rfl (cB hb27) (YldS.yld (y_bin rfl rfl rfl)) rfl ?_
                obtain ⟨e28, h29, h26⟩ := bindS h26
                obtain ⟨ad30, _, rfl, ha31, hy32⟩ := hr3.elem h29
                refine QJ.on rfl rfl (cB hb27) (YldS.yld (hy32 Try.runUnderlying24 Try.sizeOf2 rfl rfl)) rfl ?_
                refine QJ.on rfl rfl (cB hb27) (YldS.yld (y_load1 (v := .int .i64 e28) Try.isAgg2 ha31 St.frozenC rfl)) rfl ?_
                refine QJ.on rfl rfl (cB hb27) (YldS.yld (y_move rfl)) rfl ?_
                refine QJ.on rfl rfl (cB hb27) (YldS.yld (y_move rfl)) rfl ?_
                obtain ⟨e33, h34, h26⟩ := bindS h26
                obtain ⟨ad35, _, rfl, ha36, hy37⟩ := hr3.elem h34
                refine QJ.on rfl rfl (cB hb27) (YldS.yld (hy37 Try.runUnderlying24 Try.sizeOf2 rfl rfl)) rfl ?_
                refine QJ.on rfl rfl (cB hb27) (YldS.yld (y_load1 (v := .int .i64 e33) Try.isAgg2 ha36 St.frozenC rfl)) rfl ?_
                refine QJ.on rfl rfl (cB hb27) (YldS.yld (y_bin rfl rfl rfl)) rfl ?_
                refine QJ.on rfl rfl (cB hb24) (YldS.yld (y_pick_t (cB hb27) rfl)) rfl ?_
                obtain rfl := Option.some.inj h26
                exact QJ.cut_end ⟨rfl, rfl, rfl, rfl, rfl, rfl, rfl, rfl, trivial⟩
              · obtain rfl := andF h26 hb27
                refine QJ.off rfl rfl (cB hb27) rfl rfl ?_
                refine QJ.off rfl rfl (cB hb27) rfl rfl ?_
                refine QJ.off rfl rfl (cB hb27) rfl rfl ?_
                refine QJ.off rfl rfl (cB hb27) rfl rfl ?_
                refine QJ.off rfl rfl (cB hb27) rfl rfl ?_
                refine QJ.off rfl rfl (cB hb27) rfl rfl ?_
                refine QJ.off rfl rfl (cB hb27) rfl rfl ?_
                refine QJ.off rfl rfl (cB hb27) rfl rfl ?_
                refine QJ.off rfl rfl (cB hb27) rfl rfl ?_
                refine QJ.off rfl rfl (cB hb27) rfl rfl ?_
                refine QJ.on rfl rfl (cB hb24) (YldS.yld (y_pick_f (cB hb27) rfl)) rfl ?_
                exact QJ.cut_end ⟨rfl, rfl, rfl, rfl, rfl, rfl, rfl, rfl, trivial⟩
            refine QJ.step (YldS.yld (y_pick_f (cB hb24) rfl)) rfl ?_
            obtain rfl := Option.some.inj h23
            exact QJ.cut_end ⟨rfl, rfl, rfl, rfl, trivial⟩
        refine QJ.done ?_
        refine PJ.next ?_
        refine WJ.cond (t := t22) rfl (fun hb38 => ?_) (fun hb38 => ?_)
        · replace hm := ifT hm hb38
          refine WJ.seq ?_
          refine WJ.quiet ?_
          refine QJ.step (YldS.yld (y_assign rfl)) rfl ?_
          refine QJ.done ?_
          refine PJ.next ?_
          refine WJ.ret ?_
          refine PJ.block_ret (PJ.then_ret (PJ.then_ret (PJ.block_ret (PJ.then_ret ?_))))
          obtain rfl := Option.some.inj hm
          refine PJ.sel (L' := []) [] ⟨List.nodup_nil, rfl⟩ ?_
          exact PJ.retn (vs := [.bool false]) Try.results17 ⟨rfl, trivial⟩ ⟨rfl, rfl⟩
        · replace hm := ifF hm hb38
          refine WJ.skip ?_
          refine PJ.block_normal (PJ.next ?_)
          refine WJ.quiet ?_
          refine QJ.step (YldS.yld (y_move rfl)) rfl ?_
          refine QJ.step (YldS.yld (y_bin rfl rfl rfl)) rfl ?_
          refine QJ.step (YldS.yld (y_assign rfl)) rfl ?_
          refine QJ.done ?_
          exact PJ.round (w64 (i7 + 1)) [] hm ⟨rfl, rfl, rfl, trivial⟩ ⟨List.nodup_nil, rfl⟩
      · replace hm := ifF hm hb8
        refine WJ.exit ?_
        refine PJ.then_exit (PJ.then_exit (PJ.block_exit ?_))
        exact PJ.joined () [] hm trivial ⟨List.nodup_nil, rfl⟩
  · rintro _ hm
    subst hk6
    refine WJ.seq ?_
    refine WJ.quiet ?_
    refine QJ.step (YldS.yld (y_assign rfl)) rfl ?_
    refine QJ.done ?_
    refine PJ.next ?_
    refine WJ.ret ?_
    obtain rfl := Option.some.inj hm
    refine PJ.sel (L' := []) [] ⟨List.nodup_nil, rfl⟩ ?_
    exact PJ.retn (vs := [.bool true]) Try.results17 ⟨rfl, trivial⟩ ⟨rfl, rfl⟩

set_option maxRecDepth 100000 in
set_option maxHeartbeats 1000000 in
theorem ok_w_a2Has {N : Nat} {list1 : List Int} {n4 : Int} {r : Bool} (hm : w_a2Has N list1 n4 = some r) (w : World) (v2 : Value) (hr3 : RdS w (cx w).Fz v2 fI64.rp list1) :
    Calls Try.prog 18 #[v2, .int .i64 n4] w (Ret (cx w) (.bool r)) := by
  unfold w_a2Has at hm
  refine Calls.enter [v2, .int .i64 n4] Try.func18 rfl Try.ntmps18 rfl ?_
  refine WJ.seq ?_
  refine WJ.quiet ?_
  refine QJ.step (YldS.yld (y_assign rfl)) rfl ?_
  refine QJ.done ?_
  refine PJ.next ?_
  obtain ⟨kj5, hk6, hm⟩ := withK_open hm
  refine WJ.join (X := Unit) (fun (_ : Unit) => kj5  = some r) (fun (_ : Unit) => []) (fun (_ : Unit) => []) ?_ ?_
  · clear hk6
    refine WJ.seq ?_
    refine WJ.quiet ?_
    refine QJ.step (YldS.yld (y_assign rfl)) rfl ?_
    refine QJ.done ?_
    refine PJ.next ?_
    refine WJ.block ?_
    refine WJ.sel (L' := (fun (x : Int) => []) 0) [] ⟨List.nodup_nil, rfl⟩ ?_
    refine WJ.sub (m' := (fun (x : Int) => [(0, v2), (1, .int .i64 n4), (5, .int .i64 x)]) 0) ⟨rfl, rfl, rfl, trivial⟩ ?_
    refine WJ.loop (X := Int) (fun N (x : Int) => w_a2Has_l1 kj5 list1 n4 N x = some r) (fun (x : Int) => [(0, v2), (1, .int .i64 n4), (5, .int .i64 x)]) (fun (x : Int) => []) ?_ N 0 hm
    · rintro N i7 hI
      have hm := hI; clear hI
      cases N with
      | zero => cases hm
      | succ N =>
      unfold w_a2Has_l1 at hm
      refine WJ.seq ?_
      refine WJ.seq ?_
      refine WJ.quiet ?_
      refine QJ.step (YldS.yld (y_move rfl)) rfl ?_
      refine QJ.step (YldS.yld (y_move rfl)) rfl ?_
      refine QJ.step (YldS.yld (y_lenS Try.runUnderlying24 hr3 rfl)) rfl ?_
      refine QJ.step (YldS.yld (y_bin rfl rfl rfl)) rfl ?_
      refine QJ.done ?_
      refine PJ.next ?_
      refine WJ.cond (t := decide (i7 < (List.length list1 : Int))) rfl (fun hb8 => ?_) (fun hb8 => ?_)
      · replace hm := ifT hm hb8
        refine WJ.skip ?_
        refine PJ.next ?_
        refine WJ.seq ?_
        refine WJ.block ?_
        refine WJ.seq ?_
        refine WJ.quiet ?_
        refine QJ.step (YldS.yld (y_move rfl)) rfl ?_
        refine QJ.step (YldS.yld (y_move rfl)) rfl ?_
        obtain ⟨e9, h10, hm⟩ := bindS hm
        obtain ⟨ad11, _, rfl, ha12, hy13⟩ := hr3.elem h10
        refine QJ.step (YldS.yld (hy13 Try.runUnderlying24 Try.sizeOf2 rfl rfl)) rfl ?_
        refine QJ.step (YldS.yld (y_load1 (v := .int .i64 e9) Try.isAgg2 ha12 St.frozenC rfl)) rfl ?_
        refine QJ.step (YldS.yld (y_move rfl)) rfl ?_
        refine QJ.step (YldS.yld (y_bin rfl rfl rfl)) rfl ?_
        refine QJ.done ?_
        refine PJ.next ?_
        refine WJ.cond (t := (e9 == n4)) rfl (fun hb14 => ?_) (fun hb14 => ?_)
        · replace hm := ifT hm hb14
          refine WJ.seq ?_
          refine WJ.quiet ?_
          refine QJ.step (YldS.yld (y_assign rfl)) rfl ?_
          refine QJ.done ?_
          refine PJ.next ?_
          refine WJ.ret ?_
          refine PJ.block_ret (PJ.then_ret (PJ.then_ret (PJ.block_ret (PJ.then_ret ?_))))
          obtain rfl := Option.some.inj hm
          refine PJ.sel (L' := []) [] ⟨List.nodup_nil, rfl⟩ ?_
          exact PJ.retn (vs := [.bool true]) Try.results18 ⟨rfl, trivial⟩ ⟨rfl, rfl⟩
        · replace hm := ifF hm hb14
          refine WJ.skip ?_
          refine PJ.block_normal (PJ.next ?_)
          refine WJ.quiet ?_
          refine QJ.step (YldS.yld (y_move rfl)) rfl ?_
          refine QJ.step (YldS.yld (y_bin rfl rfl rfl)) rfl ?_
          refine QJ.step (YldS.yld (y_assign rfl)) rfl ?_
          refine QJ.done ?_
          exact PJ.round (w64 (i7 + 1)) [] hm ⟨rfl, rfl, rfl, trivial⟩ ⟨List.nodup_nil, rfl⟩
      · replace hm := ifF hm hb8
        refine WJ.exit ?_
        refine PJ.then_exit (PJ.then_exit (PJ.block_exit ?_))
        exact PJ.joined () [] hm trivial ⟨List.nodup_nil, rfl⟩
  · rintro _ hm
    subst hk6
    refine WJ.seq ?_
    refine WJ.quiet ?_
    refine QJ.step (YldS.yld (y_assign rfl)) rfl ?_
    refine QJ.done ?_
    refine PJ.next ?_
    refine WJ.ret ?_
    obtain rfl := Option.some.inj hm
    refine PJ.sel (L' := []) [] ⟨List.nodup_nil, rfl⟩ ?_
    exact PJ.retn (vs := [.bool false]) Try.results18 ⟨rfl, trivial⟩ ⟨rfl, rfl⟩

set_option maxRecDepth 100000 in
set_option maxHeartbeats 1000000 in
theorem ok_w_FnRowPlans {N : Nat} {code1 : List UInt8} {x4 : List UInt8} {r : Bool} (hm : w_FnRowPlans N code1 x4 = some r) (w : World) (v2 : Value) (hr3 : RdS w (cx w).Fz v2 fByte.rp code1) (v5 : Value) (hr6 : RdS w (cx w).Fz v5 fByte.rp x4) :
    Calls Try.prog 3 #[v2, v5] w (Ret (cx w) (.bool r)) := by
  unfold w_FnRowPlans at hm
  refine Calls.enter [v2, v5] Try.func3 rfl Try.ntmps3 rfl ?_
  refine WJ.seq ?_
  refine WJ.quiet ?_
  refine QJ.step (YldS.yld (y_assign rfl)) rfl ?_
  refine QJ.done ?_
  refine PJ.next ?_
  refine WJ.seq ?_
  refine WJ.seq ?_
  refine WJ.quiet ?_
  refine QJ.step (YldS.yld (y_move rfl)) rfl ?_
  refine QJ.step (YldS.yld (y_move rfl)) rfl ?_
  obtain ⟨r7, h8, hm⟩ := bindS hm
  refine QJ.step (y_call Try.call9 rfl (RetG.quiet fun w hw => ok_w_a2Long h8 w _ (hr3.st hw) _ (hr6.st hw))) rfl ?_
  refine QJ.done ?_
  refine PJ.next ?_
  refine WJ.cond (t := r7) rfl (fun hb9 => ?_) (fun hb9 => ?_)
  · replace hm := ifT hm hb9
    refine WJ.seq ?_
    refine WJ.quiet ?_
    refine QJ.step (YldS.yld (y_assign rfl)) rfl ?_
    refine QJ.done ?_
    refine PJ.next ?_
    refine WJ.ret ?_
    refine PJ.then_ret ?_
    obtain rfl := Option.some.inj hm
    refine PJ.sel (L' := []) [] ⟨List.nodup_nil, rfl⟩ ?_
    exact PJ.retn (vs := [.bool true]) Try.results3 ⟨rfl, trivial⟩ ⟨rfl, rfl⟩
  · replace hm := ifF hm hb9
    refine WJ.skip ?_
    refine PJ.next ?_
    refine WJ.seq ?_
    refine WJ.reg ?_
    refine SJ.q (YldS.yld (y_move rfl)) rfl ?_
    obtain ⟨r10, h11, hm⟩ := bindS hm
    refine SJ.call Try.call10 rfl (fun w hw => ok_s_A2Stops h11 w _ (hr3.st hw)) rfl ?_
    rintro v12 _ ⟨_, rfl, rfl⟩
    refine SJ.q (YldS.yld (y_assign rfl)) rfl ?_
    refine SJ.nil ?_
    refine PJ.next ?_
    refine WJ.seq ?_
    refine WJ.quiet ?_
    refine QJ.step (YldS.yld (y_move rfl)) rfl ?_
    obtain ⟨r13, h14, hm⟩ := bindS hm
    refine QJ.step (y_call Try.call11 rfl (RetG.quiet fun w hw => ok_s_A2Row h14 w _ (hr3.st hw))) rfl ?_
    refine QJ.step (YldS.yld (y_assign rfl)) rfl ?_
    refine QJ.done ?_
    refine PJ.next ?_
    refine WJ.seq ?_
    refine WJ.quiet ?_
    refine QJ.step (YldS.yld (y_move rfl)) rfl ?_
    obtain ⟨r15, h16, hm⟩ := bindS hm
    refine QJ.step (y_call Try.call11 rfl (RetG.quiet fun w hw => ok_s_A2Row h16 w _ (hr6.st hw))) rfl ?_
    refine QJ.step (YldS.yld (y_assign rfl)) rfl ?_
    refine QJ.done ?_
    refine PJ.next ?_
    refine WJ.seq ?_
    refine WJ.quiet ?_
    refine QJ.step (YldS.yld (y_move rfl)) rfl ?_
    refine QJ.step (YldS.yld (y_move rfl)) rfl ?_
    obtain ⟨r17, h18, hm⟩ := bindS hm
    refine QJ.step (y_call Try.call12 rfl (RetG.quiet fun w hw => ok_i_RowPlan h18 w _ (hw.row_rd (k := 0) rfl))) rfl ?_
    refine QJ.step (YldS.yld (y_move rfl)) rfl ?_
    refine QJ.step (YldS.yld (y_extract rfl rfl)) rfl ?_
    refine QJ.step (YldS.yld (y_extract rfl rfl)) rfl ?_
    refine QJ.step (YldS.yld (y_assign rfl)) rfl ?_
    refine QJ.step (YldS.yld (y_assign rfl)) rfl ?_
    refine QJ.done ?_
    refine PJ.next ?_
    refine WJ.seq ?_
    refine WJ.quiet ?_
    refine QJ.step (YldS.yld (y_move rfl)) rfl ?_
    refine QJ.step (YldS.yld (y_move rfl)) rfl ?_
    obtain ⟨r19, h20, hm⟩ := bindS hm
    refine QJ.step (y_call Try.call13 rfl (RetG.quiet fun w hw => ok_i_RunPlan h20 w _ (hw.row_rd (k := 0) rfl))) rfl ?_
    refine QJ.step (YldS.yld (y_move rfl)) rfl ?_
    refine QJ.step (YldS.yld (y_extract rfl rfl)) rfl ?_
    refine QJ.step (YldS.yld (y_extract rfl rfl)) rfl ?_
    refine QJ.step (YldS.yld (y_assign rfl)) rfl ?_
    refine QJ.step (YldS.yld (y_assign rfl)) rfl ?_
    refine QJ.done ?_
    refine PJ.next ?_
    refine WJ.seq ?_
    refine WJ.quiet ?_
    refine QJ.step (YldS.yld (y_move rfl)) rfl ?_
    obtain ⟨r21, h22, hm⟩ := bindS hm
    refine QJ.step (y_call Try.call14 rfl (RetG.quiet fun w hw => ok_i_PlanMoves h22 w )) rfl ?_
    refine QJ.step (YldS.yld (y_move rfl)) rfl ?_
    refine QJ.step (YldS.yld (y_extract rfl rfl)) rfl ?_
    refine QJ.step (YldS.yld (y_extract rfl rfl)) rfl ?_
    refine QJ.step (YldS.yld (y_assign rfl)) rfl ?_
    refine QJ.step (YldS.yld (y_assign rfl)) rfl ?_
    refine QJ.done ?_
    refine PJ.next ?_
    refine WJ.seq ?_
    refine WJ.quiet ?_
    refine QJ.step (YldS.yld (y_move rfl)) rfl ?_
    refine QJ.step (YldS.yld (y_move rfl)) rfl ?_
    obtain ⟨r23, h24, hm⟩ := bindS hm
    refine QJ.step (y_call Try.call12 rfl (RetG.quiet fun w hw => ok_i_RowPlan h24 w _ (hw.row_rd (k := 0) rfl))) rfl ?_
    refine QJ.step (YldS.yld (y_move rfl)) rfl ?_
    refine QJ.step (YldS.yld (y_extract rfl rfl)) rfl ?_
    refine QJ.step (YldS.yld (y_extract rfl rfl)) rfl ?_
    refine QJ.step (YldS.yld (y_assign rfl)) rfl ?_
    refine QJ.step (YldS.yld (y_assign rfl)) rfl ?_
    refine QJ.done ?_
    refine PJ.next ?_
    refine WJ.seq ?_
    refine WJ.quiet ?_
    refine QJ.step (YldS.yld (y_move rfl)) rfl ?_
    obtain ⟨r25, h26, hm⟩ := bindS hm
    refine QJ.step (y_call Try.call14 rfl (RetG.quiet fun w hw => ok_i_PlanMoves h26 w )) rfl ?_
    refine QJ.step (YldS.yld (y_move rfl)) rfl ?_
    refine QJ.step (YldS.yld (y_extract rfl rfl)) rfl ?_
    refine QJ.step (YldS.yld (y_extract rfl rfl)) rfl ?_
    refine QJ.step (YldS.yld (y_assign rfl)) rfl ?_
    refine QJ.step (YldS.yld (y_assign rfl)) rfl ?_
    refine QJ.done ?_
    refine PJ.next ?_
    refine WJ.seq ?_
    refine WJ.reg ?_
    refine SJ.q (YldS.yld (y_move rfl)) rfl ?_
    refine SJ.q (YldS.yld (y_move rfl)) rfl ?_
    refine SJ.q (YldS.yld (y_move rfl)) rfl ?_
    refine SJ.buildSlice (R := fStr) (os := [.tmp 65, .tmp 66]) [r13, r15] Try.runUnderlying32 Try.sizeOf9 Try.zeroValue9 rfl rfl rfl rfl rfl rfl fun v27 => ?_
    obtain ⟨r28, h29, hm⟩ := bindS hm
    refine SJ.q (y_call Try.call15 rfl (RetG.quiet fun w hw => ok_i_PageMoves h29 w _ (hw.row_rd (k := 1) rfl) _ (hw.row_rd (k := 0) rfl))) rfl ?_
    refine SJ.q (YldS.yld (y_move rfl)) rfl ?_
    refine SJ.q (YldS.yld (y_extract rfl rfl)) rfl ?_
    refine SJ.q (YldS.yld (y_extract rfl rfl)) rfl ?_
    refine SJ.q (YldS.yld (y_assign rfl)) rfl ?_
    refine SJ.q (YldS.yld (y_assign rfl)) rfl ?_
    refine SJ.nil ?_
    refine PJ.next ?_
    refine WJ.seq ?_
    refine WJ.reg ?_
    refine SJ.q (YldS.yld (y_move rfl)) rfl ?_
    refine SJ.q (YldS.yld (y_move rfl)) rfl ?_
    refine SJ.buildSlice (R := fStr) (os := [.tmp 72, .tmp 73]) [r13, r15] Try.runUnderlying32 Try.sizeOf9 Try.zeroValue9 rfl rfl rfl rfl rfl rfl fun v30 => ?_
    obtain ⟨r31, h32, hm⟩ := bindS hm
    refine SJ.call Try.call16 rfl (fun w hw => ok_i_StartsOf h32 w _ (hw.row_rd (k := 0) rfl)) rfl ?_
    rintro _ _ ⟨v33, rfl, rfl⟩
    refine SJ.q (YldS.yld (y_move rfl)) rfl ?_
    refine SJ.q (YldS.yld (y_extract rfl rfl)) rfl ?_
    refine SJ.q (YldS.yld (y_extract rfl rfl)) rfl ?_
    refine SJ.q (YldS.yld (y_assign rfl)) rfl ?_
    refine SJ.q (YldS.yld (y_assign rfl)) rfl ?_
    refine SJ.nil ?_
    refine PJ.next ?_
    refine WJ.seq ?_
    refine WJ.seq ?_
    refine WJ.quiet ?_
    refine QJ.step (YldS.yld (y_move rfl)) rfl ?_
    refine QJ.step (YldS.yld (y_bin rfl rfl rfl)) rfl ?_
    refine QJ.step (YldS.yld (y_move rfl)) rfl ?_
    obtain ⟨t34, h35, hm⟩ := bindS hm
    refine QJ.cut 3 [(6, str r13), (8, str r17.1), (10, str r19.1), (12, .int .i64 r21.1), (13, .int .i64 r21.2), (15, .int .i64 r23.2), (16, .int .i64 r25.1), (17, .int .i64 r25.2), (18, .int .i64 r28.1), (19, .int .i64 r28.2), (20, v33), (21, .int .i64 r31.2), (83, .bool t34)] ?_ ?_
    · rcases Bool.eq_false_or_eq_true (r17.2 != 0) with hb36 | hb36
      · obtain rfl := orT h35 hb36
        refine QJ.off rfl rfl (cB hb36) rfl rfl ?_
        refine QJ.off rfl rfl (cB hb36) rfl rfl ?_
        refine QJ.step (YldS.yld (y_pick_t (cB hb36) rfl)) rfl ?_
        exact QJ.cut_end ⟨rfl, rfl, rfl, rfl, rfl, rfl, rfl, rfl, rfl, rfl, rfl, rfl, rfl, trivial⟩
      · replace h35 := orF h35 hb36
        refine QJ.on rfl rfl (cB hb36) (YldS.yld (y_move rfl)) rfl ?_
        refine QJ.on rfl rfl (cB hb36) (YldS.yld (y_bin rfl rfl rfl)) rfl ?_
        refine QJ.step (YldS.yld (y_pick_f (cB hb36) rfl)) rfl ?_
        obtain rfl := Option.some.inj h35
        exact QJ.cut_end ⟨rfl, rfl, rfl, rfl, rfl, rfl, rfl, rfl, rfl, rfl, rfl, rfl, rfl, trivial⟩
    refine QJ.step (YldS.yld (y_move rfl)) rfl ?_
    obtain ⟨t37, h38, hm⟩ := bindS hm
    refine QJ.cut 4 [(6, str r13), (8, str r17.1), (12, .int .i64 r21.1), (13, .int .i64 r21.2), (15, .int .i64 r23.2), (16, .int .i64 r25.1), (17, .int .i64 r25.2), (18, .int .i64 r28.1), (19, .int .i64 r28.2), (20, v33), (21, .int .i64 r31.2), (88, .bool t37)] ?_ ?_
    · rcases Bool.eq_false_or_eq_true t34 with hb39 | hb39
      · obtain rfl := orT h38 hb39
        refine QJ.off rfl rfl (cB hb39) rfl rfl ?_
        refine QJ.off rfl rfl (cB hb39) rfl rfl ?_
        refine QJ.off rfl rfl (cB hb39) rfl rfl ?_
        refine QJ.step (YldS.yld (y_pick_t (cB hb39) rfl)) rfl ?_
        exact QJ.cut_end ⟨rfl, rfl, rfl, rfl, rfl, rfl, rfl, rfl, rfl, rfl, rfl, rfl, trivial⟩
      · replace h38 := orF h38 hb39
        refine QJ.on rfl rfl (cB hb39) (YldS.yld (y_move rfl)) rfl ?_
        refine QJ.on rfl rfl (cB hb39) (YldS.yld (y_move rfl)) rfl ?_
        refine QJ.on rfl rfl (cB hb39) (YldS.yld (y_binS rfl rfl rfl)) rfl ?_
        refine QJ.step (YldS.yld (y_pick_f (cB hb39) rfl)) rfl ?_
        obtain rfl := Option.some.inj h38
        exact QJ.cut_end ⟨rfl, rfl, rfl, rfl, rfl, rfl, rfl, rfl, rfl, rfl, rfl, rfl, trivial⟩
    refine QJ.step (YldS.yld (y_move rfl)) rfl ?_
    obtain ⟨t40, h41, hm⟩ := bindS hm
    refine QJ.cut 3 [(6, str r13), (8, str r17.1), (12, .int .i64 r21.1), (15, .int .i64 r23.2), (16, .int .i64 r25.1), (17, .int .i64 r25.2), (18, .int .i64 r28.1), (19, .int .i64 r28.2), (20, v33), (21, .int .i64 r31.2), (92, .bool t40)] ?_ ?_
    · rcases Bool.eq_false_or_eq_true t37 with hb42 | hb42
      · obtain rfl := orT h41 hb42
        refine QJ.off rfl rfl (cB hb42) rfl rfl ?_
        refine QJ.off rfl rfl (cB hb42) rfl rfl ?_
        refine QJ.step (YldS.yld (y_pick_t (cB hb42) rfl)) rfl ?_
        exact QJ.cut_end ⟨rfl, rfl, rfl, rfl, rfl, rfl, rfl, rfl, rfl, rfl, rfl, trivial⟩
      · replace h41 := orF h41 hb42
        refine QJ.on rfl rfl (cB hb42) (YldS.yld (y_move rfl)) rfl ?_
        refine QJ.on rfl rfl (cB hb42) (YldS.yld (y_bin rfl rfl rfl)) rfl ?_
        refine QJ.step (YldS.yld (y_pick_f (cB hb42) rfl)) rfl ?_
        obtain rfl := Option.some.inj h41
        exact QJ.cut_end ⟨rfl, rfl, rfl, rfl, rfl, rfl, rfl, rfl, rfl, rfl, rfl, trivial⟩
    refine QJ.step (YldS.yld (y_move rfl)) rfl ?_
    obtain ⟨t43, h44, hm⟩ := bindS hm
    refine QJ.cut 3 [(6, str r13), (8, str r17.1), (12, .int .i64 r21.1), (16, .int .i64 r25.1), (17, .int .i64 r25.2), (18, .int .i64 r28.1), (19, .int .i64 r28.2), (20, v33), (21, .int .i64 r31.2), (96, .bool t43)] ?_ ?_
    · rcases Bool.eq_false_or_eq_true t40 with hb45 | hb45
      · obtain rfl := orT h44 hb45
        refine QJ.off rfl rfl (cB hb45) rfl rfl ?_
        refine QJ.off rfl rfl (cB hb45) rfl rfl ?_
        refine QJ.step (YldS.yld (y_pick_t (cB hb45) rfl)) rfl ?_
        exact QJ.cut_end ⟨rfl, rfl, rfl, rfl, rfl, rfl, rfl, rfl, rfl, rfl, trivial⟩
      · replace h44 := orF h44 hb45
        refine QJ.on rfl rfl (cB hb45) (YldS.yld (y_move rfl)) rfl ?_
        refine QJ.on rfl rfl (cB hb45) (YldS.yld (y_bin rfl rfl rfl)) rfl ?_
        refine QJ.step (YldS.yld (y_pick_f (cB hb45) rfl)) rfl ?_
        obtain rfl := Option.some.inj h44
        exact QJ.cut_end ⟨rfl, rfl, rfl, rfl, rfl, rfl, rfl, rfl, rfl, rfl, trivial⟩
    refine QJ.step (YldS.yld (y_move rfl)) rfl ?_
    obtain ⟨t46, h47, hm⟩ := bindS hm
    refine QJ.cut 3 [(6, str r13), (8, str r17.1), (12, .int .i64 r21.1), (16, .int .i64 r25.1), (18, .int .i64 r28.1), (19, .int .i64 r28.2), (20, v33), (21, .int .i64 r31.2), (100, .bool t46)] ?_ ?_
    · rcases Bool.eq_false_or_eq_true t43 with hb48 | hb48
      · obtain rfl := orT h47 hb48
        refine QJ.off rfl rfl (cB hb48) rfl rfl ?_
        refine QJ.off rfl rfl (cB hb48) rfl rfl ?_
        refine QJ.step (YldS.yld (y_pick_t (cB hb48) rfl)) rfl ?_
        exact QJ.cut_end ⟨rfl, rfl, rfl, rfl, rfl, rfl, rfl, rfl, rfl, trivial⟩
      · replace h47 := orF h47 hb48
        refine QJ.on rfl rfl (cB hb48) (YldS.yld (y_move rfl)) rfl ?_
        refine QJ.on rfl rfl (cB hb48) (YldS.yld (y_bin rfl rfl rfl)) rfl ?_
        refine QJ.step (YldS.yld (y_pick_f (cB hb48) rfl)) rfl ?_
        obtain rfl := Option.some.inj h47
        exact QJ.cut_end ⟨rfl, rfl, rfl, rfl, rfl, rfl, rfl, rfl, rfl, trivial⟩
    refine QJ.step (YldS.yld (y_move rfl)) rfl ?_
    obtain ⟨t49, h50, hm⟩ := bindS hm
    refine QJ.cut 3 [(6, str r13), (8, str r17.1), (12, .int .i64 r21.1), (16, .int .i64 r25.1), (18, .int .i64 r28.1), (20, v33), (21, .int .i64 r31.2), (104, .bool t49)] ?_ ?_
    · rcases Bool.eq_false_or_eq_true t46 with hb51 | hb51
      · obtain rfl := orT h50 hb51
        refine QJ.off rfl rfl (cB hb51) rfl rfl ?_
        refine QJ.off rfl rfl (cB hb51) rfl rfl ?_
        refine QJ.step (YldS.yld (y_pick_t (cB hb51) rfl)) rfl ?_
        exact QJ.cut_end ⟨rfl, rfl, rfl, rfl, rfl, rfl, rfl, rfl, trivial⟩
      · replace h50 := orF h50 hb51
        refine QJ.on rfl rfl (cB hb51) (YldS.yld (y_move rfl)) rfl ?_
        refine QJ.on rfl rfl (cB hb51) (YldS.yld (y_bin rfl rfl rfl)) rfl ?_
        refine QJ.step (YldS.yld (y_pick_f (cB hb51) rfl)) rfl ?_
        obtain rfl := Option.some.inj h50
        exact QJ.cut_end ⟨rfl, rfl, rfl, rfl, rfl, rfl, rfl, rfl, trivial⟩
    refine QJ.step (YldS.yld (y_move rfl)) rfl ?_
    obtain ⟨t52, h53, hm⟩ := bindS hm
    refine QJ.cut 6 [(6, str r13), (8, str r17.1), (20, v33), (21, .int .i64 r31.2), (111, .bool t52)] ?_ ?_
    · rcases Bool.eq_false_or_eq_true t49 with hb54 | hb54
      · obtain rfl := orT h53 hb54
        refine QJ.off rfl rfl (cB hb54) rfl rfl ?_
        refine QJ.off rfl rfl (cB hb54) rfl rfl ?_
        refine QJ.off rfl rfl (cB hb54) rfl rfl ?_
        refine QJ.off rfl rfl (cB hb54) rfl rfl ?_
        refine QJ.off rfl rfl (cB hb54) rfl rfl ?_
        refine QJ.step (YldS.yld (y_pick_t (cB hb54) rfl)) rfl ?_
        exact QJ.cut_end ⟨rfl, rfl, rfl, rfl, rfl, trivial⟩
      · replace h53 := orF h53 hb54
        refine QJ.on rfl rfl (cB hb54) (YldS.yld (y_move rfl)) rfl ?_
        refine QJ.on rfl rfl (cB hb54) (YldS.yld (y_move rfl)) rfl ?_
        refine QJ.on rfl rfl (cB hb54) (YldS.yld (y_move rfl)) rfl ?_
        refine QJ.on rfl rfl (cB hb54) (YldS.yld (y_bin rfl rfl rfl)) rfl ?_
        refine QJ.on rfl rfl (cB hb54) (YldS.yld (y_bin rfl rfl rfl)) rfl ?_
        refine QJ.step (YldS.yld (y_pick_f (cB hb54) rfl)) rfl ?_
        obtain rfl := Option.some.inj h53
        exact QJ.cut_end ⟨rfl, rfl, rfl, rfl, rfl, trivial⟩
    refine QJ.step (YldS.yld (y_move rfl)) rfl ?_
    obtain ⟨t55, h56, hm⟩ := bindS hm
    refine QJ.cut 3 [(6, str r13), (8, str r17.1), (20, v33), (115, .bool t55)] ?_ ?_
    · rcases Bool.eq_false_or_eq_true t52 with hb57 | hb57
      · obtain rfl := orT h56 hb57
        refine QJ.off rfl rfl (cB hb57) rfl rfl ?_
        refine QJ.off rfl rfl (cB hb57) rfl rfl ?_
        refine QJ.step (YldS.yld (y_pick_t (cB hb57) rfl)) rfl ?_
        exact QJ.cut_end ⟨rfl, rfl, rfl, rfl, trivial⟩
      · replace h56 := orF h56 hb57
        refine QJ.on rfl rfl (cB hb57) (YldS.yld (y_move rfl)) rfl ?_
        refine QJ.on rfl rfl (cB hb57) (YldS.yld (y_bin rfl rfl rfl)) rfl ?_
        refine QJ.step (YldS.yld (y_pick_f (cB hb57) rfl)) rfl ?_
        obtain rfl := Option.some.inj h56
        exact QJ.cut_end ⟨rfl, rfl, rfl, rfl, trivial⟩
    refine QJ.step (YldS.yld (y_move rfl)) rfl ?_
    obtain ⟨t58, h59, hm⟩ := bindS hm
    refine QJ.cut 4 [(6, str r13), (8, str r17.1), (20, v33), (120, .bool t58)] ?_ ?_
    · rcases Bool.eq_false_or_eq_true t55 with hb60 | hb60
      · obtain rfl := orT h59 hb60
        refine QJ.off rfl rfl (cB hb60) rfl rfl ?_
        refine QJ.off rfl rfl (cB hb60) rfl rfl ?_
        refine QJ.off rfl rfl (cB hb60) rfl rfl ?_
        refine QJ.step (YldS.yld (y_pick_t (cB hb60) rfl)) rfl ?_
        exact QJ.cut_end ⟨rfl, rfl, rfl, rfl, trivial⟩
      · replace h59 := orF h59 hb60
        refine QJ.on rfl rfl (cB hb60) (YldS.yld (y_move rfl)) rfl ?_
        obtain ⟨r61, h62, h59⟩ := bindS h59
        refine QJ.on rfl rfl (cB hb60) (y_call Try.call17 rfl (RetG.quiet fun w hw => ok_w_a2Rises h62 w _ (hw.row_rd (k := 0) rfl))) rfl ?_
        refine QJ.on rfl rfl (cB hb60) (YldS.yld (y_not rfl)) rfl ?_
        refine QJ.step (YldS.yld (y_pick_f (cB hb60) rfl)) rfl ?_
        obtain rfl := Option.some.inj h59
        exact QJ.cut_end ⟨rfl, rfl, rfl, rfl, trivial⟩
    refine QJ.done ?_
    refine PJ.next ?_
    refine WJ.cond (t := t58) rfl (fun hb63 => ?_) (fun hb63 => ?_)
    · replace hm := ifT hm hb63
      refine WJ.seq ?_
      refine WJ.quiet ?_
      refine QJ.step (YldS.yld (y_assign rfl)) rfl ?_
      refine QJ.done ?_
      refine PJ.next ?_
      refine WJ.ret ?_
      refine PJ.then_ret ?_
      obtain rfl := Option.some.inj hm
      refine PJ.sel (L' := []) [] ⟨List.nodup_nil, rfl⟩ ?_
      exact PJ.retn (vs := [.bool false]) Try.results3 ⟨rfl, trivial⟩ ⟨rfl, rfl⟩
    · replace hm := ifF hm hb63
      refine WJ.skip ?_
      refine PJ.next ?_
      refine WJ.seq ?_
      refine WJ.quiet ?_
      refine QJ.step (YldS.yld (y_assign rfl)) rfl ?_
      refine QJ.done ?_
      refine PJ.next ?_
      obtain ⟨kj65, hk66, hm⟩ := withK_open hm
      refine WJ.join (X := Str) (fun (x : Str) => kj65 x = some r) (fun (x : Str) => [(6, str r13), (20, v33), (22, str x)]) (fun (x : Str) => [row v33 2 fI64 r31.1]) ?_ ?_
      · clear hk66
        refine WJ.seq ?_
        refine WJ.quiet ?_
        refine QJ.step (YldS.yld (y_assign rfl)) rfl ?_
        refine QJ.done ?_
        refine PJ.next ?_
        refine WJ.block ?_
        refine WJ.sel (L' := (fun (x : Str × Int) => [row v33 2 fI64 r31.1]) ([], 0)) [0] ⟨by decide, rfl⟩ ?_
        refine WJ.sub (m' := (fun (x : Str × Int) => [(6, str r13), (8, str r17.1), (20, v33), (22, str x.1), (23, .int .i64 x.2)]) ([], 0)) ⟨rfl, rfl, rfl, rfl, rfl, trivial⟩ ?_
        refine WJ.loop (X := Str × Int) (fun N (x : Str × Int) => w_FnRowPlans_l1 kj65 r17 N x.1 x.2 = some r) (fun (x : Str × Int) => [(6, str r13), (8, str r17.1), (20, v33), (22, str x.1), (23, .int .i64 x.2)]) (fun (x : Str × Int) => [row v33 2 fI64 r31.1]) ?_ N ([], 0) hm
        · rintro N ⟨x67, x68⟩ hI
          have hm := hI; clear hI
          cases N with
          | zero => cases hm
          | succ N =>
          unfold w_FnRowPlans_l1 at hm
          refine WJ.seq ?_
          refine WJ.seq ?_
          refine WJ.quiet ?_
          refine QJ.step (YldS.yld (y_move rfl)) rfl ?_
          refine QJ.step (YldS.yld (y_move rfl)) rfl ?_
          refine QJ.step (YldS.yld (y_lenStr Try.runUnderlying9 rfl)) rfl ?_
          refine QJ.step (YldS.yld (y_bin rfl rfl rfl)) rfl ?_
          refine QJ.done ?_
          refine PJ.next ?_
          refine WJ.cond (t := decide (x68 < (List.length r17.1 : Int))) rfl (fun hb69 => ?_) (fun hb69 => ?_)
          · replace hm := ifT hm hb69
            refine WJ.skip ?_
            refine PJ.next ?_
            obtain ⟨kj72, hk73, hm⟩ := withK_open hm
            refine WJ.join (X := Str × Int) (fun (x : Str × Int) => kj72 x.1 x.2 = some r) (fun (x : Str × Int) => [(6, str r13), (8, str r17.1), (20, v33), (22, str x.1), (23, .int .i64 x.2)]) (fun (x : Str × Int) => [row v33 2 fI64 r31.1]) ?_ ?_
            · clear hk73
              refine WJ.block ?_
              refine WJ.seq ?_
              refine WJ.quiet ?_
              refine QJ.step (YldS.yld (y_move rfl)) rfl ?_
              refine QJ.step (YldS.yld (y_move rfl)) rfl ?_
              obtain ⟨c74, h75, hm⟩ := bindS hm
              refine QJ.step (YldS.yld (y_idxStr Try.runUnderlying9 rfl rfl h75)) rfl ?_
              refine QJ.step (YldS.yld (y_bin8 c74 (39 : UInt8) rfl rfl rfl)) rfl ?_
              refine QJ.step (YldS.yld (y_move rfl)) rfl ?_
              obtain ⟨t76, h77, hm⟩ := bindS hm
              refine QJ.cut 6 [(6, str r13), (8, str r17.1), (20, v33), (22, str x67), (23, .int .i64 x68), (137, .bool t76)] ?_ ?_
              · rcases Bool.eq_false_or_eq_true (c74 == (39 : UInt8)) with hb78 | hb78
                · replace h77 := andT h77 hb78
                  refine QJ.on rfl rfl (cB hb78) (YldS.yld (y_move rfl)) rfl ?_
                  refine QJ.on rfl rfl (cB hb78) (YldS.yld (y_bin rfl rfl rfl)) rfl ?_
                  refine QJ.on rfl rfl (cB hb78) (YldS.yld (y_move rfl)) rfl ?_
                  refine QJ.on rfl rfl (cB hb78) (YldS.yld (y_lenStr Try.runUnderlying9 rfl)) rfl ?_
                  refine QJ.on rfl rfl (cB hb78) (YldS.yld (y_bin rfl rfl rfl)) rfl ?_
                  refine QJ.step (YldS.yld (y_pick_t (cB hb78) rfl)) rfl ?_
                  obtain rfl := Option.some.inj h77
                  exact QJ.cut_end ⟨rfl, rfl, rfl, rfl, rfl, rfl, trivial⟩
                · obtain rfl := andF h77 hb78
                  refine QJ.off rfl rfl (cB hb78) rfl rfl ?_
                  refine QJ.off rfl rfl (cB hb78) rfl rfl ?_
                  refine QJ.off rfl rfl (cB hb78) rfl rfl ?_
                  refine QJ.off rfl rfl (cB hb78) rfl rfl ?_
                  refine QJ.off rfl rfl (cB hb78) rfl rfl ?_
                  refine QJ.step (YldS.yld (y_pick_f (cB hb78) rfl)) rfl ?_
                  exact QJ.cut_end ⟨rfl, rfl, rfl, rfl, rfl, rfl, trivial⟩
              refine QJ.done ?_
              refine PJ.next ?_
              refine WJ.cond (t := t76) rfl (fun hb79 => ?_) (fun hb79 => ?_)
              · replace hm := ifT hm hb79
                refine WJ.seq ?_
                refine WJ.quiet ?_
                refine QJ.step (YldS.yld (y_move rfl)) rfl ?_
                refine QJ.step (YldS.yld (y_bin rfl rfl rfl)) rfl ?_
                refine QJ.step (YldS.yld (y_assign rfl)) rfl ?_
                refine QJ.done ?_
                refine PJ.next ?_
                refine WJ.quiet ?_
                refine QJ.step (YldS.yld (y_move rfl)) rfl ?_
                refine QJ.step (YldS.yld (y_move rfl)) rfl ?_
                refine QJ.step (YldS.yld (y_move rfl)) rfl ?_
                refine QJ.step (YldS.yld (y_move rfl)) rfl ?_
                refine QJ.step (YldS.yld (y_bin rfl rfl rfl)) rfl ?_
                obtain ⟨s80, h81, hm⟩ := bindS hm
                refine QJ.step (YldS.yld (y_subStr (i := some (w64 (x68 + 1))) (j := some (w64 ((w64 (x68 + 1)) + 1))) h81 Try.runUnderlying9 rfl ⟨_, rfl⟩ ⟨_, rfl⟩)) rfl ?_
                obtain ⟨s82, h83, hm⟩ := bindS hm
                refine QJ.step (YldS.yld (y_cat h83 rfl rfl)) rfl ?_
                refine QJ.step (YldS.yld (y_assign rfl)) rfl ?_
                refine QJ.done ?_
                refine PJ.block_normal ?_
                exact PJ.joined (s82, w64 (x68 + 1)) [0] hm ⟨rfl, rfl, rfl, rfl, rfl, trivial⟩ ⟨by decide, rfl⟩
              · replace hm := ifF hm hb79
                refine WJ.skip ?_
                refine PJ.block_normal ?_
                exact PJ.joined (x67, x68) [0] hm ⟨rfl, rfl, rfl, rfl, rfl, trivial⟩ ⟨by decide, rfl⟩
            · rintro ⟨x70, x71⟩ hm
              subst hk73
              refine WJ.quiet ?_
              refine QJ.step (YldS.yld (y_move rfl)) rfl ?_
              refine QJ.step (YldS.yld (y_bin rfl rfl rfl)) rfl ?_
              refine QJ.step (YldS.yld (y_assign rfl)) rfl ?_
              refine QJ.done ?_
              exact PJ.round (x70, w64 (x71 + 1)) [0] hm ⟨rfl, rfl, rfl, rfl, rfl, trivial⟩ ⟨by decide, rfl⟩
          · replace hm := ifF hm hb69
            refine WJ.exit ?_
            refine PJ.then_exit (PJ.then_exit (PJ.block_exit ?_))
            exact PJ.joined x67 [0] hm ⟨rfl, rfl, rfl, trivial⟩ ⟨by decide, rfl⟩
      · rintro x64 hm
        subst hk66
        refine WJ.seq ?_
        refine WJ.quiet ?_
        refine QJ.step (YldS.yld (y_assign rfl)) rfl ?_
        refine QJ.done ?_
        refine PJ.next ?_
        obtain ⟨kj85, hk86, hm⟩ := withK_open hm
        refine WJ.join (X := Str) (fun (x : Str) => kj85 x = some r) (fun (x : Str) => [(22, str x64), (24, str x)]) (fun (x : Str) => []) ?_ ?_
        · clear hk86
          refine WJ.seq ?_
          refine WJ.quiet ?_
          refine QJ.step (YldS.yld (y_assign rfl)) rfl ?_
          refine QJ.done ?_
          refine PJ.next ?_
          refine WJ.block ?_
          refine WJ.sel (L' := (fun (x : Str × Int) => [row v33 2 fI64 r31.1]) ([], 0)) [0] ⟨by decide, rfl⟩ ?_
          refine WJ.sub (m' := (fun (x : Str × Int) => [(6, str r13), (20, v33), (22, str x64), (24, str x.1), (25, .int .i64 x.2)]) ([], 0)) ⟨rfl, rfl, rfl, rfl, rfl, trivial⟩ ?_
          refine WJ.loop (X := Str × Int) (fun N (x : Str × Int) => w_FnRowPlans_l2 kj85 r13 r31 N x.1 x.2 = some r) (fun (x : Str × Int) => [(6, str r13), (20, v33), (22, str x64), (24, str x.1), (25, .int .i64 x.2)]) (fun (x : Str × Int) => [row v33 2 fI64 r31.1]) ?_ N ([], 0) hm
          · rintro N ⟨x87, x88⟩ hI
            have hm := hI; clear hI
            cases N with
            | zero => cases hm
            | succ N =>
            unfold w_FnRowPlans_l2 at hm
            refine WJ.seq ?_
            refine WJ.seq ?_
            refine WJ.quiet ?_
            refine QJ.step (YldS.yld (y_move rfl)) rfl ?_
            refine QJ.step (YldS.yld (y_move rfl)) rfl ?_
            refine QJ.step (YldS.yld (y_lenStr Try.runUnderlying9 rfl)) rfl ?_
            refine QJ.step (YldS.yld (y_bin rfl rfl rfl)) rfl ?_
            refine QJ.done ?_
            refine PJ.next ?_
            refine WJ.cond (t := decide (x88 < (List.length r13 : Int))) rfl (fun hb89 => ?_) (fun hb89 => ?_)
            · replace hm := ifT hm hb89
              refine WJ.skip ?_
              refine PJ.next ?_
              obtain ⟨kj91, hk92, hm⟩ := withK_open hm
              refine WJ.join (X := Str) (fun (x : Str) => kj91 x = some r) (fun (x : Str) => [(6, str r13), (20, v33), (22, str x64), (24, str x), (25, .int .i64 x88)]) (fun (x : Str) => [row v33 2 fI64 r31.1]) ?_ ?_
              · clear hk92
                refine WJ.block ?_
                refine WJ.seq ?_
                refine WJ.seq ?_
                refine WJ.quiet ?_
                refine QJ.step (YldS.yld (y_move rfl)) rfl ?_
                refine QJ.step (YldS.yld (y_move rfl)) rfl ?_
                obtain ⟨c93, h94, hm⟩ := bindS hm
                refine QJ.step (YldS.yld (y_idxStr Try.runUnderlying9 rfl rfl h94)) rfl ?_
                refine QJ.step (YldS.yld (y_bin8 c93 (32 : UInt8) rfl rfl rfl)) rfl ?_
                refine QJ.done ?_
                refine PJ.next ?_
                refine WJ.cond (t := (c93 == (32 : UInt8))) rfl (fun hb95 => ?_) (fun hb95 => ?_)
                · replace hm := ifT hm hb95
                  refine WJ.exit ?_
                  refine PJ.then_exit (PJ.block_exit ?_)
                  exact PJ.joined x87 [0] hm ⟨rfl, rfl, rfl, rfl, rfl, trivial⟩ ⟨by decide, rfl⟩
                · replace hm := ifF hm hb95
                  refine WJ.skip ?_
                  refine PJ.next ?_
                  refine WJ.seq ?_
                  refine WJ.quiet ?_
                  refine QJ.step (YldS.yld (y_move rfl)) rfl ?_
                  refine QJ.step (YldS.yld (y_move rfl)) rfl ?_
                  refine QJ.step (YldS.yld (y_move rfl)) rfl ?_
                  refine QJ.step (YldS.yld (y_move rfl)) rfl ?_
                  refine QJ.step (YldS.yld (y_bin rfl rfl rfl)) rfl ?_
                  obtain ⟨s96, h97, hm⟩ := bindS hm
                  refine QJ.step (YldS.yld (y_subStr (i := some x88) (j := some (w64 (x88 + 1))) h97 Try.runUnderlying9 rfl ⟨_, rfl⟩ ⟨_, rfl⟩)) rfl ?_
                  obtain ⟨s98, h99, hm⟩ := bindS hm
                  refine QJ.step (YldS.yld (y_cat h99 rfl rfl)) rfl ?_
                  refine QJ.step (YldS.yld (y_assign rfl)) rfl ?_
                  refine QJ.done ?_
                  refine PJ.next ?_
                  refine WJ.seq ?_
                  refine WJ.quiet ?_
                  refine QJ.step (YldS.yld (y_move rfl)) rfl ?_
                  refine QJ.step (YldS.yld (y_bin rfl rfl rfl)) rfl ?_
                  refine QJ.step (YldS.yld (y_move rfl)) rfl ?_
                  obtain ⟨t100, h101, hm⟩ := bindS hm
                  refine QJ.cut 6 [(6, str r13), (20, v33), (22, str x64), (24, str s98), (25, .int .i64 x88), (172, .bool t100)] ?_ ?_
                  · rcases Bool.eq_false_or_eq_true (x88 == 0) with hb102 | hb102
                    · obtain rfl := orT h101 hb102
                      refine QJ.off rfl rfl (cB hb102) rfl rfl ?_
                      refine QJ.off rfl rfl (cB hb102) rfl rfl ?_
                      refine QJ.off rfl rfl (cB hb102) rfl rfl ?_
                      refine QJ.off rfl rfl (cB hb102) rfl rfl ?_
                      refine QJ.off rfl rfl (cB hb102) rfl rfl ?_
                      refine QJ.step (YldS.yld (y_pick_t (cB hb102) rfl)) rfl ?_
                      exact QJ.cut_end ⟨rfl, rfl, rfl, rfl, rfl, rfl, trivial⟩
                    · replace h101 := orF h101 hb102
                      refine QJ.on rfl rfl (cB hb102) (YldS.yld (y_move rfl)) rfl ?_
                      refine QJ.on rfl rfl (cB hb102) (YldS.yld (y_move rfl)) rfl ?_
                      refine QJ.on rfl rfl (cB hb102) (YldS.yld (y_bin rfl rfl rfl)) rfl ?_
                      obtain ⟨c103, h104, h101⟩ := bindS h101
                      refine QJ.on rfl rfl (cB hb102) (YldS.yld (y_idxStr Try.runUnderlying9 rfl rfl h104)) rfl ?_
                      refine QJ.on rfl rfl (cB hb102) (YldS.yld (y_bin8 c103 (32 : UInt8) rfl rfl rfl)) rfl ?_
                      refine QJ.step (YldS.yld (y_pick_f (cB hb102) rfl)) rfl ?_
                      obtain rfl := Option.some.inj h101
                      exact QJ.cut_end ⟨rfl, rfl, rfl, rfl, rfl, rfl, trivial⟩
                  refine QJ.done ?_
                  refine PJ.next ?_
                  refine WJ.cond (t := t100) rfl (fun hb105 => ?_) (fun hb105 => ?_)
                  · replace hm := ifT hm hb105
                    refine WJ.seq ?_
                    refine WJ.quiet ?_
                    refine QJ.step (YldS.yld (y_move rfl)) rfl ?_
                    refine QJ.step (YldS.yld (y_move rfl)) rfl ?_
                    obtain ⟨r106, h107, hm⟩ := bindS hm
                    refine QJ.step (y_call Try.call18 rfl (RetG.quiet fun w hw => ok_w_a2Has h107 w _ (hw.row_rd (k := 0) rfl))) rfl ?_
                    refine QJ.step (YldS.yld (y_not rfl)) rfl ?_
                    refine QJ.done ?_
                    refine PJ.next ?_
                    refine WJ.cond (t := !r106) rfl (fun hb108 => ?_) (fun hb108 => ?_)
                    · replace hm := ifT hm hb108
                      refine WJ.seq ?_
                      refine WJ.quiet ?_
                      refine QJ.step (YldS.yld (y_assign rfl)) rfl ?_
                      refine QJ.done ?_
                      refine PJ.next ?_
                      refine WJ.ret ?_
                      refine PJ.block_ret (PJ.then_ret (PJ.then_ret (PJ.block_ret (PJ.then_ret ?_))))
                      obtain rfl := Option.some.inj hm
                      refine PJ.sel (L' := []) [] ⟨List.nodup_nil, rfl⟩ ?_
                      exact PJ.retn (vs := [.bool false]) Try.results3 ⟨rfl, trivial⟩ ⟨rfl, rfl⟩
                    · replace hm := ifF hm hb108
                      refine WJ.skip ?_
                      refine PJ.block_normal ?_
                      exact PJ.joined s98 [0] hm ⟨rfl, rfl, rfl, rfl, rfl, trivial⟩ ⟨by decide, rfl⟩
                  · replace hm := ifF hm hb105
                    refine WJ.skip ?_
                    refine PJ.block_normal ?_
                    exact PJ.joined s98 [0] hm ⟨rfl, rfl, rfl, rfl, rfl, trivial⟩ ⟨by decide, rfl⟩
              · rintro x90 hm
                subst hk92
                refine WJ.quiet ?_
                refine QJ.step (YldS.yld (y_move rfl)) rfl ?_
                refine QJ.step (YldS.yld (y_bin rfl rfl rfl)) rfl ?_
                refine QJ.step (YldS.yld (y_assign rfl)) rfl ?_
                refine QJ.done ?_
                exact PJ.round (x90, w64 (x88 + 1)) [0] hm ⟨rfl, rfl, rfl, rfl, rfl, trivial⟩ ⟨by decide, rfl⟩
            · replace hm := ifF hm hb89
              refine WJ.exit ?_
              refine PJ.then_exit (PJ.then_exit (PJ.block_exit ?_))
              exact PJ.joined x87 [] hm ⟨rfl, rfl, trivial⟩ ⟨List.nodup_nil, rfl⟩
        · rintro x84 hm
          subst hk86
          refine WJ.seq ?_
          refine WJ.quiet ?_
          refine QJ.step (YldS.yld (y_move rfl)) rfl ?_
          refine QJ.step (YldS.yld (y_move rfl)) rfl ?_
          refine QJ.step (YldS.yld (y_binS rfl rfl rfl)) rfl ?_
          refine QJ.step (YldS.yld (y_assign rfl)) rfl ?_
          refine QJ.done ?_
          refine PJ.next ?_
          refine WJ.ret ?_
          obtain rfl := Option.some.inj hm
          refine PJ.sel (L' := []) [] ⟨List.nodup_nil, rfl⟩ ?_
          exact PJ.retn (vs := [.bool (x64 == x84)]) Try.results3 ⟨rfl, trivial⟩ ⟨rfl, rfl⟩

end Go.Proofs.Ytimcachjcocjmaa
