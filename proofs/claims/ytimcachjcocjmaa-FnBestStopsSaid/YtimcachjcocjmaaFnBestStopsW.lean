/-
  The walks: a call hands back what its plain function computes, where that has a value. No other conditions.
-/
import Derived.Test.YtimcachjcocjmaaFnBestStopsM
import Derived.Test.YtimcachjcocjmaaChecked
namespace Go.Proofs.Ytimcachjcocjmaa
open Go.RowKit Go.Proofs
set_option linter.unusedVariables false
set_option linter.unusedSimpArgs false

theorem follows : Try.prog.follows .mixedOrders = true := by kernel_rfl

theorem pl126 : PlacesOk Try.prog 126 [(0, 1), (1, 1), (2, 1)] := ⟨_, Try.runUnderlying126, fun w => by simp [Try.sizeOf3, Try.sizeOf22, Try.sizeOf124]⟩
theorem fld126_1 : FieldOk Try.prog 126 1 1 3 0 := ⟨_, _, Try.runUnderlying126, rfl, rfl, rfl, Try.sizeOf3⟩
theorem fld126_0 : FieldOk Try.prog 126 0 0 22 0 := ⟨_, _, Try.runUnderlying126, rfl, rfl, rfl, Try.sizeOf22⟩
theorem fld126_2 : FieldOk Try.prog 126 2 2 124 0 := ⟨_, _, Try.runUnderlying126, rfl, rfl, rfl, Try.sizeOf124⟩
set_option maxRecDepth 100000 in
theorem el5 : ElemOk Try.prog 5 1 (fByte.enc 0) := ⟨_, _, Try.type5, rfl, rfl, rfl, by decide⟩
set_option maxRecDepth 100000 in
theorem el24 : ElemOk Try.prog 24 1 [.slice none 0 0] := ⟨_, _, Try.type24, rfl, rfl, rfl, by decide⟩
set_option maxRecDepth 100000 in
theorem zv161 : ∀ w, (zeroValue 161).run Try.prog w = .ok (.agg (List.toArray (encs fI64 (List.replicate 31 (0 : Int))))) w := fun w => by
  rw [Try.zeroValue161]
  refine congrArg (fun z => Result.ok (Value.agg z) w) ?_
  kernel_rfl

set_option maxRecDepth 100000 in
set_option maxHeartbeats 1000000 in
theorem ok_w_a2Long {code1 : List UInt8} {more4 : List UInt8} {r : Bool} (hm : w_a2Long code1 more4 = some r) (w : World) (v2 : Value) (hr3 : RdS w (cx w).Fz v2 fByte.rp code1) (v5 : Value) (hr6 : RdS w (cx w).Fz v5 fByte.rp more4) :
    Calls Try.prog 9 #[v2, v5] w (Ret (cx w) (.bool r)) := by
  unfold w_a2Long at hm
  refine Calls.enter [v2, v5] Try.func9 rfl Try.ntmps9 rfl ?_
  refine WJ.seq ?_
  refine WJ.quiet ?_
  refine QJ.step (YldS.yld (y_assign rfl)) rfl ?_
  refine QJ.done ?_
  refine PJ.next ?_
  refine WJ.seq ?_
  refine WJ.quiet ?_
  refine QJ.step (YldS.yld (y_move rfl)) rfl ?_
  refine QJ.step (YldS.yld (y_lenS Try.runUnderlying22 hr3 rfl)) rfl ?_
  refine QJ.step (YldS.yld (y_bin rfl rfl rfl)) rfl ?_
  refine QJ.step (YldS.yld (y_move rfl)) rfl ?_
  obtain ⟨t7, h8, hm⟩ := bindS hm
  refine QJ.cut 4 [(12, .bool t7)] ?_ ?_
  · rcases Bool.eq_false_or_eq_true (decide ((List.length code1 : Int) > 3000)) with hb9 | hb9
    · obtain rfl := orT h8 hb9
      refine QJ.off rfl rfl (cB hb9) rfl rfl ?_
      refine QJ.off rfl rfl (cB hb9) rfl rfl ?_
      refine QJ.off rfl rfl (cB hb9) rfl rfl ?_
      refine QJ.step (YldS.yld (y_pick_t (cB hb9) rfl)) rfl ?_
      exact QJ.cut_end ⟨rfl, trivial⟩
    · replace h8 := orF h8 hb9
      refine QJ.on rfl rfl (cB hb9) (YldS.yld (y_move rfl)) rfl ?_
      refine QJ.on rfl rfl (cB hb9) (YldS.yld (y_lenS Try.runUnderlying22 hr6 rfl)) rfl ?_
      refine QJ.on rfl rfl (cB hb9) (YldS.yld (y_bin rfl rfl rfl)) rfl ?_
      refine QJ.step (YldS.yld (y_pick_f (cB hb9) rfl)) rfl ?_
      obtain rfl := Option.some.inj h8
      exact QJ.cut_end ⟨rfl, trivial⟩
  refine QJ.step (YldS.yld (y_assign rfl)) rfl ?_
  refine QJ.done ?_
  refine PJ.next ?_
  refine WJ.ret ?_
  obtain rfl := Option.some.inj hm
  refine PJ.sel (L' := []) [] ⟨List.nodup_nil, rfl⟩ ?_
  exact PJ.retn (vs := [.bool t7]) Try.results9 ⟨rfl, trivial⟩ ⟨rfl, rfl⟩

set_option maxRecDepth 100000 in
set_option maxHeartbeats 1000000 in
theorem ok_s_l00From {code1 : List UInt8} {r : L00Src} (hm : s_l00From code1 = some r) (w : World) (v2 : Value) (hr3 : RdS w (cx w).Fz v2 fByte.rp code1) :
    Calls Try.prog 59 #[v2] w (RetG (cx w) fun u L => ∃ (u1 : Nat), (u = pt u1 0 ∧ L = [box u1 126 [v2, .int .i64 r.at_, .int .u64 r.seed]])) := by
  unfold s_l00From at hm
  refine Calls.enter [v2] Try.func59 rfl Try.ntmps59 rfl ?_
  refine WJ.seq ?_
  refine WJ.quiet ?_
  refine QJ.step (YldS.yld (y_assign rfl)) rfl ?_
  refine QJ.done ?_
  refine PJ.next ?_
  refine WJ.seq ?_
  refine WJ.reg ?_
  refine SJ.q (YldS.yld (y_move rfl)) rfl ?_
  refine SJ.q (YldS.yld (y_build (parts := [(0, .tmp 3)]) (places := [(0, 1), (1, 1), (2, 1)]) (r := [v2, .int .i64 0, .int .u64 0]) pl126 Try.zeroValue126 rfl rfl (show _ = [(0, [v2])] from by simp only [List.map, RdS.cells1 hr3]) rfl)) rfl ?_
  refine SJ.box (cs := [v2, .int .i64 0, .int .u64 0]) rfl rfl rfl fun g4 => ?_
  refine SJ.q (YldS.yld (y_assign rfl)) rfl ?_
  refine SJ.nil ?_
  refine PJ.next ?_
  refine WJ.ret ?_
  obtain rfl := Option.some.inj hm
  refine PJ.sel (L' := [box g4 126 [v2, .int .i64 0, .int .u64 0]]) [0] ⟨by decide, rfl⟩ ?_
  exact PJ.retn (vs := [pt g4 0]) Try.results59 ⟨rfl, trivial⟩ ⟨_, rfl, rfl⟩

set_option maxRecDepth 100000 in
set_option maxHeartbeats 1000000 in
theorem ok_s_l00Src_next {s1 : L00Src} {g2 : Nat} {r : Int × L00Src} (hm : s_l00Src_next s1 = some r) (w : World) (S : Nat → Prop) (v3 : Value) (hr4 : RdS w (Cx.Fz ⟨w, S⟩) v3 fByte.rp s1.code) (hA : (box g2 126 [v3, .int .i64 s1.at_, .int .u64 s1.seed]).holds w S) :
    Calls Try.prog 110 #[pt g2 0] w (RetG ⟨w, S⟩ fun u L => (u = .int .i64 r.1 ∧ L = [box g2 126 [v3, .int .i64 r.2.at_, .int .u64 r.2.seed]])) := by
  unfold s_l00Src_next at hm
  refine Calls.enter1 hA [pt g2 0] Try.func110 rfl Try.ntmps110 rfl ?_
  refine WJ.seq ?_
  refine WJ.quiet ?_
  refine QJ.step (YldS.yld (y_assign rfl)) rfl ?_
  refine QJ.done ?_
  refine PJ.next ?_
  refine WJ.seq ?_
  refine WJ.quiet ?_
  refine QJ.step (YldS.yld (y_assign rfl)) rfl ?_
  refine QJ.done ?_
  refine PJ.next ?_
  obtain ⟨kj6, hk7, hm⟩ := withK_open hm
  refine WJ.join (X := Int) (fun (x : Int) => kj6 x = some r) (fun (x : Int) => [(0, pt g2 0), (3, .int .i64 x)]) (fun (x : Int) => [box g2 126 [v3, .int .i64 s1.at_, .int .u64 s1.seed]]) ?_ ?_
  · clear hk7
    refine WJ.seq ?_
    refine WJ.quiet_draw follows (by kernel_rfl) ?_
    refine QJ.step (YldS.yld (y_move rfl)) rfl ?_
    refine QJ.step (YldS.yld (y_nil rfl)) rfl ?_
    refine QJ.step (YldS.yld (y_fldB (o := 0) fld126_1 rfl)) rfl ?_
    refine QJ.step (YldS.yld (y_loadB (k := 0) (off := 1) (v := .int .i64 s1.at_) rfl Try.isAgg3 rfl rfl)) rfl ?_
    refine QJ.step (YldS.yld (y_move rfl)) rfl ?_
    refine QJ.step (YldS.yld (y_nil rfl)) rfl ?_
    refine QJ.step (YldS.yld (y_fldB (o := 0) fld126_0 rfl)) rfl ?_
    refine QJ.step (YldS.yld (y_loadB (k := 0) (off := 0) (v := v3) rfl Try.isAgg22 rfl rfl)) rfl ?_
    refine QJ.step (YldS.yld (y_lenS Try.runUnderlying22 hr4 rfl)) rfl ?_
    refine QJ.step (YldS.yld (y_bin rfl rfl rfl)) rfl ?_
    refine QJ.done ?_
    refine PJ.next ?_
    refine WJ.cond (t := decide (s1.at_ < (List.length s1.code : Int))) rfl (fun hb8 => ?_) (fun hb8 => ?_)
    · replace hm := ifT hm hb8
      refine WJ.quiet_draw follows (by kernel_rfl) ?_
      refine QJ.step (YldS.yld (y_move rfl)) rfl ?_
      refine QJ.step (YldS.yld (y_nil rfl)) rfl ?_
      refine QJ.step (YldS.yld (y_fldB (o := 0) fld126_0 rfl)) rfl ?_
      refine QJ.step (YldS.yld (y_loadB (k := 0) (off := 0) (v := v3) rfl Try.isAgg22 rfl rfl)) rfl ?_
      refine QJ.step (YldS.yld (y_move rfl)) rfl ?_
      refine QJ.step (YldS.yld (y_nil rfl)) rfl ?_
      refine QJ.step (YldS.yld (y_fldB (o := 0) fld126_1 rfl)) rfl ?_
      refine QJ.step (YldS.yld (y_loadB (k := 0) (off := 1) (v := .int .i64 s1.at_) rfl Try.isAgg3 rfl rfl)) rfl ?_
      obtain ⟨e9, h10, hm⟩ := bindS hm
      obtain ⟨ad11, _, rfl, ha12, hy13⟩ := hr4.elem h10
      refine QJ.step (YldS.yld (hy13 Try.runUnderlying22 Try.sizeOf5 rfl rfl)) rfl ?_
      refine QJ.step (YldS.yld (y_load1 (v := .int .u8 (UInt8.toNat e9 : Int)) Try.isAgg5 ha12 St.frozenC rfl)) rfl ?_
      refine QJ.step (YldS.yld (y_conv8 Try.runUnderlying5 Try.runUnderlying3 rfl)) rfl ?_
      refine QJ.step (YldS.yld (y_assign rfl)) rfl ?_
      refine QJ.done ?_
      exact PJ.joined (UInt8.toNat e9 : Int) [0] hm ⟨rfl, rfl, trivial⟩ ⟨by decide, rfl⟩
    · replace hm := ifF hm hb8
      refine WJ.skip ?_
      exact PJ.joined 0 [0] hm ⟨rfl, rfl, trivial⟩ ⟨by decide, rfl⟩
  · rintro b5 hm
    subst hk7
    refine WJ.seq ?_
    refine WJ.reg ?_
    refine SJ.q (YldS.yld (y_move rfl)) rfl ?_
    refine SJ.q (YldS.yld (y_nil rfl)) rfl ?_
    refine SJ.q (YldS.yld (y_fldB (o := 0) fld126_1 rfl)) rfl ?_
    refine SJ.q (YldS.yld (y_loadB (k := 0) (off := 1) (v := .int .i64 s1.at_) rfl Try.isAgg3 rfl rfl)) rfl ?_
    refine SJ.q (YldS.yld (y_bin rfl rfl rfl)) rfl ?_
    refine SJ.q (YldS.yld (y_nil rfl)) rfl ?_
    refine SJ.q (YldS.yld (y_fldB (o := 0) fld126_1 rfl)) rfl ?_
    refine SJ.storeL (k := 0) (off := 1) (us := [.int .i64 (w64 (s1.at_ + 1))]) rfl rfl rfl rfl Try.sizeOf3 rfl rfl ?_
    refine SJ.nil ?_
    refine PJ.next ?_
    refine WJ.seq ?_
    refine WJ.reg ?_
    refine SJ.q (YldS.yld (y_move rfl)) rfl ?_
    refine SJ.q (YldS.yld (y_move rfl)) rfl ?_
    refine SJ.q (YldS.yld (y_nil rfl)) rfl ?_
    refine SJ.q (YldS.yld (y_fldB (o := 0) fld126_2 rfl)) rfl ?_
    refine SJ.q (YldS.yld (y_loadB (k := 0) (off := 2) (v := .int .u64 s1.seed) rfl Try.isAgg124 rfl rfl)) rfl ?_
    refine SJ.q (YldS.yld (y_bin rfl rfl rfl)) rfl ?_
    refine SJ.q (YldS.yld (y_move rfl)) rfl ?_
    refine SJ.q (YldS.yld (y_convI Try.runUnderlying3 Try.runUnderlying124 rfl)) rfl ?_
    refine SJ.q (YldS.yld (y_bin rfl rfl rfl)) rfl ?_
    refine SJ.q (YldS.yld (y_bin rfl rfl rfl)) rfl ?_
    refine SJ.q (YldS.yld (y_nil rfl)) rfl ?_
    refine SJ.q (YldS.yld (y_fldB (o := 0) fld126_2 rfl)) rfl ?_
    refine SJ.storeL (k := 0) (off := 2) (us := [.int .u64 (IntKind.u64.wrap ((IntKind.u64.wrap ((IntKind.u64.wrap (s1.seed * 6364136223846793005)) + (IntKind.u64.wrap b5))) + 1442695040888963407))]) rfl rfl rfl rfl Try.sizeOf124 rfl rfl ?_
    refine SJ.nil ?_
    refine PJ.next ?_
    refine WJ.seq ?_
    refine WJ.seq ?_
    refine WJ.quiet_draw follows (by kernel_rfl) ?_
    refine QJ.step (YldS.yld (y_move rfl)) rfl ?_
    refine QJ.step (YldS.yld (y_nil rfl)) rfl ?_
    refine QJ.step (YldS.yld (y_fldB (o := 0) fld126_1 rfl)) rfl ?_
    refine QJ.step (YldS.yld (y_loadB (k := 0) (off := 1) (v := .int .i64 (w64 (s1.at_ + 1))) rfl Try.isAgg3 rfl rfl)) rfl ?_
    refine QJ.step (YldS.yld (y_move rfl)) rfl ?_
    refine QJ.step (YldS.yld (y_nil rfl)) rfl ?_
    refine QJ.step (YldS.yld (y_fldB (o := 0) fld126_0 rfl)) rfl ?_
    refine QJ.step (YldS.yld (y_loadB (k := 0) (off := 0) (v := v3) rfl Try.isAgg22 rfl rfl)) rfl ?_
    refine QJ.step (YldS.yld (y_lenS Try.runUnderlying22 hr4 rfl)) rfl ?_
    refine QJ.step (YldS.yld (y_bin rfl rfl rfl)) rfl ?_
    refine QJ.done ?_
    refine PJ.next ?_
    refine WJ.cond (t := decide ((w64 (s1.at_ + 1)) ≤ (List.length s1.code : Int))) rfl (fun hb14 => ?_) (fun hb14 => ?_)
    · replace hm := ifT hm hb14
      refine WJ.seq ?_
      refine WJ.quiet ?_
      refine QJ.step (YldS.yld (y_move rfl)) rfl ?_
      refine QJ.step (YldS.yld (y_assign rfl)) rfl ?_
      refine QJ.done ?_
      refine PJ.next ?_
      refine WJ.ret ?_
      refine PJ.then_ret ?_
      obtain rfl := Option.some.inj hm
      refine PJ.sel (L' := [box g2 126 [v3, .int .i64 (w64 (s1.at_ + 1)), .int .u64 (IntKind.u64.wrap ((IntKind.u64.wrap ((IntKind.u64.wrap (s1.seed * 6364136223846793005)) + (IntKind.u64.wrap b5))) + 1442695040888963407))]]) [0] ⟨by decide, rfl⟩ ?_
      exact PJ.retn (vs := [.int .i64 b5]) Try.results110 ⟨rfl, trivial⟩ ⟨rfl, rfl⟩
    · replace hm := ifF hm hb14
      refine WJ.skip ?_
      refine PJ.next ?_
      refine WJ.seq ?_
      refine WJ.quiet ?_
      refine QJ.step (YldS.yld (y_move rfl)) rfl ?_
      refine QJ.step (YldS.yld (y_nil rfl)) rfl ?_
      refine QJ.step (YldS.yld (y_fldB (o := 0) fld126_2 rfl)) rfl ?_
      refine QJ.step (YldS.yld (y_loadB (k := 0) (off := 2) (v := .int .u64 (IntKind.u64.wrap ((IntKind.u64.wrap ((IntKind.u64.wrap (s1.seed * 6364136223846793005)) + (IntKind.u64.wrap b5))) + 1442695040888963407))) rfl Try.isAgg124 rfl rfl)) rfl ?_
      refine QJ.step (YldS.yld (y_shru rfl rfl rfl)) rfl ?_
      refine QJ.step (YldS.yld (y_andu rfl rfl rfl)) rfl ?_
      refine QJ.step (YldS.yld (y_convI Try.runUnderlying124 Try.runUnderlying2 rfl)) rfl ?_
      refine QJ.step (YldS.yld (y_assign rfl)) rfl ?_
      refine QJ.done ?_
      refine PJ.next ?_
      refine WJ.ret ?_
      obtain rfl := Option.some.inj hm
      refine PJ.sel (L' := [box g2 126 [v3, .int .i64 (w64 (s1.at_ + 1)), .int .u64 (IntKind.u64.wrap ((IntKind.u64.wrap ((IntKind.u64.wrap (s1.seed * 6364136223846793005)) + (IntKind.u64.wrap b5))) + 1442695040888963407))]]) [0] ⟨by decide, rfl⟩ ?_
      exact PJ.retn (vs := [.int .i64 (w64 (uand (ushr (IntKind.u64.wrap ((IntKind.u64.wrap ((IntKind.u64.wrap (s1.seed * 6364136223846793005)) + (IntKind.u64.wrap b5))) + 1442695040888963407)) 40) 255))]) Try.results110 ⟨rfl, trivial⟩ ⟨rfl, rfl⟩

set_option maxRecDepth 100000 in
set_option maxHeartbeats 1000000 in
theorem ok_s_l00Src_pick {s1 : L00Src} {n5 : Int} {g2 : Nat} {r : Int × L00Src} (hm : s_l00Src_pick s1 n5 = some r) (w : World) (S : Nat → Prop) (v3 : Value) (hr4 : RdS w (Cx.Fz ⟨w, S⟩) v3 fByte.rp s1.code) (hA : (box g2 126 [v3, .int .i64 s1.at_, .int .u64 s1.seed]).holds w S) :
    Calls Try.prog 60 #[pt g2 0, .int .i64 n5] w (RetG ⟨w, S⟩ fun u L => (u = .int .i64 r.1 ∧ L = [box g2 126 [v3, .int .i64 r.2.at_, .int .u64 r.2.seed]])) := by
  unfold s_l00Src_pick at hm
  refine Calls.enter1 hA [pt g2 0, .int .i64 n5] Try.func60 rfl Try.ntmps60 rfl ?_
  refine WJ.seq ?_
  refine WJ.quiet ?_
  refine QJ.step (YldS.yld (y_assign rfl)) rfl ?_
  refine QJ.done ?_
  refine PJ.next ?_
  refine WJ.seq ?_
  refine WJ.seq ?_
  refine WJ.quiet ?_
  refine QJ.step (YldS.yld (y_move rfl)) rfl ?_
  refine QJ.step (YldS.yld (y_bin rfl rfl rfl)) rfl ?_
  refine QJ.done ?_
  refine PJ.next ?_
  refine WJ.cond (t := decide (n5 ≤ 1)) rfl (fun hb6 => ?_) (fun hb6 => ?_)
  · replace hm := ifT hm hb6
    refine WJ.seq ?_
    refine WJ.quiet ?_
    refine QJ.step (YldS.yld (y_assign rfl)) rfl ?_
    refine QJ.done ?_
    refine PJ.next ?_
    refine WJ.ret ?_
    refine PJ.then_ret ?_
    obtain rfl := Option.some.inj hm
    refine PJ.sel (L' := [box g2 126 [v3, .int .i64 s1.at_, .int .u64 s1.seed]]) [0] ⟨by decide, rfl⟩ ?_
    exact PJ.retn (vs := [.int .i64 0]) Try.results60 ⟨rfl, trivial⟩ ⟨rfl, rfl⟩
  · replace hm := ifF hm hb6
    refine WJ.skip ?_
    refine PJ.next ?_
    refine WJ.seq ?_
    refine WJ.reg ?_
    refine SJ.q (YldS.yld (y_move rfl)) rfl ?_
    obtain ⟨r7, h8, hm⟩ := bindS hm
    refine SJ.call1 (k := 0) rfl Try.call110 rfl (fun w S hw hA hO => ok_s_l00Src_next h8 w S _ (hr4.st1 hw hO) hA) rfl ?_
    rintro _ _ ⟨rfl, rfl⟩
    refine SJ.q (YldS.yld (y_assign rfl)) rfl ?_
    refine SJ.nil ?_
    refine PJ.next ?_
    obtain ⟨kj12, hk13, hm⟩ := withK_open hm
    refine WJ.join (X := Int × Int × Int) (fun (x : Int × Int × Int) => kj12 x.1 x.2.1 x.2.2 = some r) (fun (x : Int × Int × Int) => [(1, .int .i64 n5), (5, .int .i64 x.2.2)]) (fun (x : Int × Int × Int) => [box g2 126 [v3, .int .i64 x.1, .int .u64 x.2.1]]) ?_ ?_
    · clear hk13
      refine WJ.seq ?_
      refine WJ.quiet ?_
      refine QJ.step (YldS.yld (y_move rfl)) rfl ?_
      refine QJ.step (YldS.yld (y_bin rfl rfl rfl)) rfl ?_
      refine QJ.done ?_
      refine PJ.next ?_
      refine WJ.cond (t := decide (n5 > 200)) rfl (fun hb14 => ?_) (fun hb14 => ?_)
      · replace hm := ifT hm hb14
        refine WJ.reg ?_
        refine SJ.q (YldS.yld (y_move rfl)) rfl ?_
        refine SJ.q (YldS.yld (y_bin rfl rfl rfl)) rfl ?_
        refine SJ.q (YldS.yld (y_move rfl)) rfl ?_
        obtain ⟨r15, h16, hm⟩ := bindS hm
        refine SJ.call1 (k := 0) rfl Try.call110 rfl (fun w S hw hA hO => ok_s_l00Src_next h16 w S _ (hr4.st1 hw hO) hA) rfl ?_
        rintro _ _ ⟨rfl, rfl⟩
        refine SJ.q (YldS.yld (y_bin rfl rfl rfl)) rfl ?_
        refine SJ.q (YldS.yld (y_assign rfl)) rfl ?_
        refine SJ.nil ?_
        exact PJ.joined (r15.2.at_, r15.2.seed, w64 ((w64 (r7.1 * 256)) + r15.1)) [0] hm ⟨rfl, rfl, trivial⟩ ⟨by decide, rfl⟩
      · replace hm := ifF hm hb14
        refine WJ.skip ?_
        exact PJ.joined (r7.2.at_, r7.2.seed, r7.1) [0] hm ⟨rfl, rfl, trivial⟩ ⟨by decide, rfl⟩
    · rintro ⟨x9, x10, x11⟩ hm
      subst hk13
      refine WJ.seq ?_
      refine WJ.quiet ?_
      refine QJ.step (YldS.yld (y_move rfl)) rfl ?_
      refine QJ.step (YldS.yld (y_move rfl)) rfl ?_
      obtain ⟨q17, h18, hm⟩ := bindS hm
      refine QJ.step (YldS.yld (y_rem' h18 rfl rfl)) rfl ?_
      refine QJ.step (YldS.yld (y_assign rfl)) rfl ?_
      refine QJ.done ?_
      refine PJ.next ?_
      refine WJ.ret ?_
      obtain rfl := Option.some.inj hm
      refine PJ.sel (L' := [box g2 126 [v3, .int .i64 x9, .int .u64 x10]]) [0] ⟨by decide, rfl⟩ ?_
      exact PJ.retn (vs := [.int .i64 q17]) Try.results60 ⟨rfl, trivial⟩ ⟨rfl, rfl⟩

set_option maxRecDepth 100000 in
set_option maxHeartbeats 1000000 in
theorem ok_s_A2Row {N : Nat} {code1 : List UInt8} {r : Str} (hm : s_A2Row N code1 = some r) (w : World) (v2 : Value) (hr3 : RdS w (cx w).Fz v2 fByte.rp code1) :
    Calls Try.prog 11 #[v2] w (Ret (cx w) (str r)) := by
  unfold s_A2Row at hm
  refine Calls.enter [v2] Try.func11 rfl Try.ntmps11 rfl ?_
  refine WJ.seq ?_
  refine WJ.quiet ?_
  refine QJ.step (YldS.yld (y_assign rfl)) rfl ?_
  refine QJ.done ?_
  refine PJ.next ?_
  refine WJ.seq ?_
  refine WJ.reg ?_
  refine SJ.q (YldS.yld (y_move rfl)) rfl ?_
  obtain ⟨r4, h5, hm⟩ := bindS hm
  refine SJ.call Try.call59 rfl (fun w hw => ok_s_l00From h5 w _ (hr3.st hw)) rfl ?_
  rintro _ _ ⟨g6, rfl, rfl⟩
  refine SJ.q (YldS.yld (y_assign rfl)) rfl ?_
  refine SJ.nil ?_
  refine PJ.next ?_
  refine WJ.seq ?_
  refine WJ.reg ?_
  refine SJ.buildSlice (R := fByte) (os := []) [] Try.runUnderlying22 Try.sizeOf5 Try.zeroValue5 rfl rfl rfl rfl rfl rfl fun v7 => ?_
  refine SJ.q (YldS.yld (y_assign rfl)) rfl ?_
  refine SJ.nil ?_
  refine PJ.next ?_
  obtain ⟨kj10, hk11, hm⟩ := withK_open hm
  refine WJ.join (X := (List UInt8) × Value) (fun (x : (List UInt8) × Value) => kj10 x.1 = some r) (fun (x : (List UInt8) × Value) => [(4, x.2)]) (fun (x : (List UInt8) × Value) => [row x.2 5 fByte x.1]) ?_ ?_
  · clear hk11
    refine WJ.seq ?_
    refine WJ.reg ?_
    refine SJ.q (YldS.yld (y_move rfl)) rfl ?_
    obtain ⟨r12, h13, hm⟩ := bindS hm
    refine SJ.call1 (k := 1) rfl Try.call60 rfl (fun w S hw hA hO => ok_s_l00Src_pick h13 w S _ (hr3.st1 hw hO) hA) rfl ?_
    rintro _ _ ⟨rfl, rfl⟩
    refine SJ.q (YldS.yld (y_assign rfl)) rfl ?_
    refine SJ.nil ?_
    refine PJ.next ?_
    refine WJ.block ?_
    refine WJ.sel (L' := (fun (x : Int × Int × (List UInt8) × Value × Int) => [box g6 126 [v2, .int .i64 x.1, .int .u64 x.2.1], row x.2.2.2.1 5 fByte x.2.2.1]) (r12.2.at_, r12.2.seed, [], v7, r12.1)) [0, 1] ⟨by decide, rfl⟩ ?_
    refine WJ.sub (m' := (fun (x : Int × Int × (List UInt8) × Value × Int) => [(3, pt g6 0), (4, x.2.2.2.1), (5, .int .i64 x.2.2.2.2)]) (r12.2.at_, r12.2.seed, [], v7, r12.1)) ⟨rfl, rfl, rfl, trivial⟩ ?_
    refine WJ.loop (X := Int × Int × (List UInt8) × Value × Int) (fun N (x : Int × Int × (List UInt8) × Value × Int) => s_A2Row_l1 kj10 code1 N x.1 x.2.1 x.2.2.1 x.2.2.2.2 = some r) (fun (x : Int × Int × (List UInt8) × Value × Int) => [(3, pt g6 0), (4, x.2.2.2.1), (5, .int .i64 x.2.2.2.2)]) (fun (x : Int × Int × (List UInt8) × Value × Int) => [box g6 126 [v2, .int .i64 x.1, .int .u64 x.2.1], row x.2.2.2.1 5 fByte x.2.2.1]) ?_ N (r12.2.at_, r12.2.seed, [], v7, r12.1) hm
    · rintro N ⟨x14, x15, l16, v17, k18⟩ hI
      have hm := hI; clear hI
      cases N with
      | zero => cases hm
      | succ N =>
      unfold s_A2Row_l1 at hm
      refine WJ.seq ?_
      refine WJ.seq ?_
      refine WJ.quiet ?_
      refine QJ.step (YldS.yld (y_move rfl)) rfl ?_
      refine QJ.step (YldS.yld (y_bin rfl rfl rfl)) rfl ?_
      refine QJ.done ?_
      refine PJ.next ?_
      refine WJ.cond (t := decide (k18 > 0)) rfl (fun hb19 => ?_) (fun hb19 => ?_)
      · replace hm := ifT hm hb19
        refine WJ.skip ?_
        refine PJ.next ?_
        obtain ⟨kj24, hk25, hm⟩ := withK_open hm
        refine WJ.join (X := Int × Int × (List UInt8) × Value) (fun (x : Int × Int × (List UInt8) × Value) => kj24 x.1 x.2.1 x.2.2.1 = some r) (fun (x : Int × Int × (List UInt8) × Value) => [(3, pt g6 0), (4, x.2.2.2), (5, .int .i64 k18)]) (fun (x : Int × Int × (List UInt8) × Value) => [box g6 126 [v2, .int .i64 x.1, .int .u64 x.2.1], row x.2.2.2 5 fByte x.2.2.1]) ?_ ?_
        · clear hk25
          refine WJ.block ?_
          obtain ⟨kj30, hk31, hm⟩ := withK_open hm
          refine WJ.join (X := Int × Int × (List UInt8) × Value) (fun (x : Int × Int × (List UInt8) × Value) => kj30 x.1 x.2.1 x.2.2.1 = some r) (fun (x : Int × Int × (List UInt8) × Value) => [(3, pt g6 0), (4, x.2.2.2), (5, .int .i64 k18)]) (fun (x : Int × Int × (List UInt8) × Value) => [box g6 126 [v2, .int .i64 x.1, .int .u64 x.2.1], row x.2.2.2 5 fByte x.2.2.1]) ?_ ?_
          · clear hk31
            refine WJ.seq ?_
            refine WJ.reg ?_
            refine SJ.q (YldS.yld (y_move rfl)) rfl ?_
            obtain ⟨r32, h33, hm⟩ := bindS hm
            refine SJ.call1 (k := 0) rfl Try.call60 rfl (fun w S hw hA hO => ok_s_l00Src_pick h33 w S _ (hr3.st1 hw hO) hA) rfl ?_
            rintro _ _ ⟨rfl, rfl⟩
            refine SJ.q (YldS.yld (y_assign rfl)) rfl ?_
            refine SJ.nil ?_
            refine PJ.next ?_
            refine WJ.block ?_
            refine WJ.sel (L' := (fun (x : (List UInt8) × Value × Int) => [box g6 126 [v2, .int .i64 r32.2.at_, .int .u64 r32.2.seed], row x.2.1 5 fByte x.1]) (l16, v17, r32.1)) [0, 1] ⟨by decide, rfl⟩ ?_
            refine WJ.sub (m' := (fun (x : (List UInt8) × Value × Int) => [(3, pt g6 0), (4, x.2.1), (5, .int .i64 k18), (6, .int .i64 x.2.2)]) (l16, v17, r32.1)) ⟨rfl, rfl, rfl, rfl, trivial⟩ ?_
            refine WJ.loop (X := (List UInt8) × Value × Int) (fun N (x : (List UInt8) × Value × Int) => s_A2Row_l2 kj30 r32 N x.1 x.2.2 = some r) (fun (x : (List UInt8) × Value × Int) => [(3, pt g6 0), (4, x.2.1), (5, .int .i64 k18), (6, .int .i64 x.2.2)]) (fun (x : (List UInt8) × Value × Int) => [box g6 126 [v2, .int .i64 r32.2.at_, .int .u64 r32.2.seed], row x.2.1 5 fByte x.1]) ?_ N (l16, v17, r32.1) hm
            · rintro N ⟨l34, v35, n36⟩ hI
              have hm := hI; clear hI
              cases N with
              | zero => cases hm
              | succ N =>
              unfold s_A2Row_l2 at hm
              refine WJ.seq ?_
              refine WJ.seq ?_
              refine WJ.quiet ?_
              refine QJ.step (YldS.yld (y_move rfl)) rfl ?_
              refine QJ.step (YldS.yld (y_bin rfl rfl rfl)) rfl ?_
              refine QJ.done ?_
              refine PJ.next ?_
              refine WJ.cond (t := decide (n36 > 0)) rfl (fun hb37 => ?_) (fun hb37 => ?_)
              · replace hm := ifT hm hb37
                refine WJ.skip ?_
                refine PJ.next ?_
                refine WJ.seq ?_
                refine WJ.block ?_
                refine WJ.reg ?_
                refine SJ.q (YldS.yld (y_move rfl)) rfl ?_
                refine SJ.buildSlice (R := fByte) (os := [.const (.int .u8 (UInt8.toNat 32 : Int))]) [32] Try.runUnderlying22 Try.sizeOf5 Try.zeroValue5 rfl rfl rfl rfl rfl rfl fun v38 => ?_
                obtain ⟨l39, h40, hm⟩ := bindS hm
                refine SJ.append (k := 2) (R := fByte) h40 rfl Try.underlying22 el5 rfl rfl rfl (fun w hw => (hw.row_rd (k := 0) rfl)) rfl fun v41 => ?_
                refine SJ.q (YldS.yld (y_assign rfl)) rfl ?_
                refine SJ.nil ?_
                refine PJ.block_normal (PJ.next ?_)
                refine WJ.quiet ?_
                refine QJ.step (YldS.yld (y_move rfl)) rfl ?_
                refine QJ.step (YldS.yld (y_bin rfl rfl rfl)) rfl ?_
                refine QJ.step (YldS.yld (y_assign rfl)) rfl ?_
                refine QJ.done ?_
                exact PJ.round (l39, v41, w64 (n36 - 1)) [1, 2] hm ⟨rfl, rfl, rfl, rfl, trivial⟩ ⟨by decide, rfl⟩
              · replace hm := ifF hm hb37
                refine WJ.exit ?_
                refine PJ.then_exit (PJ.then_exit (PJ.block_exit ?_))
                exact PJ.joined (r32.2.at_, r32.2.seed, l34, v35) [0, 1] hm ⟨rfl, rfl, rfl, trivial⟩ ⟨by decide, rfl⟩
          · rintro ⟨x26, x27, l28, v29⟩ hm
            subst hk31
            refine WJ.reg ?_
            refine SJ.q (YldS.yld (y_move rfl)) rfl ?_
            refine SJ.q (YldS.yld (y_move rfl)) rfl ?_
            obtain ⟨r42, h43, hm⟩ := bindS hm
            refine SJ.call1 (k := 0) rfl Try.call60 rfl (fun w S hw hA hO => ok_s_l00Src_pick h43 w S _ (hr3.st1 hw hO) hA) rfl ?_
            rintro _ _ ⟨rfl, rfl⟩
            obtain ⟨c44, h45, hm⟩ := bindS hm
            refine SJ.q (YldS.yld (y_idxStr Try.runUnderlying9 rfl rfl h45)) rfl ?_
            refine SJ.buildSlice (R := fByte) (os := [.tmp 28]) [c44] Try.runUnderlying22 Try.sizeOf5 Try.zeroValue5 rfl rfl rfl rfl rfl rfl fun v46 => ?_
            obtain ⟨l47, h48, hm⟩ := bindS hm
            refine SJ.append (k := 2) (R := fByte) h48 rfl Try.underlying22 el5 rfl rfl rfl (fun w hw => (hw.row_rd (k := 0) rfl)) rfl fun v49 => ?_
            refine SJ.q (YldS.yld (y_assign rfl)) rfl ?_
            refine SJ.nil ?_
            refine PJ.block_normal ?_
            exact PJ.joined (r42.2.at_, r42.2.seed, l47, v49) [1, 2] hm ⟨rfl, rfl, rfl, trivial⟩ ⟨by decide, rfl⟩
        · rintro ⟨x20, x21, l22, v23⟩ hm
          subst hk25
          refine WJ.quiet ?_
          refine QJ.step (YldS.yld (y_move rfl)) rfl ?_
          refine QJ.step (YldS.yld (y_bin rfl rfl rfl)) rfl ?_
          refine QJ.step (YldS.yld (y_assign rfl)) rfl ?_
          refine QJ.done ?_
          exact PJ.round (x20, x21, l22, v23, w64 (k18 - 1)) [0, 1] hm ⟨rfl, rfl, rfl, trivial⟩ ⟨by decide, rfl⟩
      · replace hm := ifF hm hb19
        refine WJ.exit ?_
        refine PJ.then_exit (PJ.then_exit (PJ.block_exit ?_))
        exact PJ.joined (l16, v17) [1] hm ⟨rfl, trivial⟩ ⟨by decide, rfl⟩
  · rintro ⟨l8, v9⟩ hm
    subst hk11
    refine WJ.seq ?_
    refine WJ.quiet ?_
    refine QJ.step (YldS.yld (y_move rfl)) rfl ?_
    refine QJ.step (YldS.yld (y_b2s Try.underlying22 Try.underlying9 Try.underlying5 (fun w hw => ⟨_, (hw.row_rd (k := 0) rfl)⟩) rfl)) rfl ?_
    refine QJ.step (YldS.yld (y_assign rfl)) rfl ?_
    refine QJ.done ?_
    refine PJ.next ?_
    refine WJ.ret ?_
    obtain rfl := Option.some.inj hm
    refine PJ.sel (L' := []) [] ⟨List.nodup_nil, rfl⟩ ?_
    exact PJ.retn (vs := [str l8]) Try.results11 ⟨rfl, trivial⟩ ⟨rfl, rfl⟩

set_option maxRecDepth 100000 in
set_option maxHeartbeats 1000000 in
theorem ok_i_isText {N : Nat} {s1 : Str} {low2 : UInt8} {most3 : Int} {r : Bool} (hm : i_isText N s1 low2 most3 = some r) (w : World)  :
    Calls Try.prog 111 #[str s1, .int .u8 (UInt8.toNat low2 : Int), .int .i64 most3] w (Ret (cx w) (.bool r)) := by
  unfold i_isText at hm
  refine Calls.enter [str s1, .int .u8 (UInt8.toNat low2 : Int), .int .i64 most3] Try.func111 rfl Try.ntmps111 rfl ?_
  refine WJ.seq ?_
  refine WJ.quiet ?_
  refine QJ.step (YldS.yld (y_assign rfl)) rfl ?_
  refine QJ.done ?_
  refine PJ.next ?_
  refine WJ.seq ?_
  refine WJ.seq ?_
  refine WJ.quiet ?_
  refine QJ.step (YldS.yld (y_move rfl)) rfl ?_
  refine QJ.step (YldS.yld (y_lenStr Try.runUnderlying9 rfl)) rfl ?_
  refine QJ.step (YldS.yld (y_move rfl)) rfl ?_
  refine QJ.step (YldS.yld (y_bin rfl rfl rfl)) rfl ?_
  refine QJ.done ?_
  refine PJ.next ?_
  refine WJ.cond (t := decide ((List.length s1 : Int) > most3)) rfl (fun hb4 => ?_) (fun hb4 => ?_)
  · replace hm := ifT hm hb4
    refine WJ.seq ?_
    refine WJ.quiet ?_
    refine QJ.step (YldS.yld (y_assign rfl)) rfl ?_
    refine QJ.done ?_
    refine PJ.next ?_
    refine WJ.ret ?_
    refine PJ.then_ret ?_
    obtain rfl := Option.some.inj hm
    refine PJ.sel (L' := []) [] ⟨List.nodup_nil, rfl⟩ ?_
    exact PJ.retn (vs := [.bool false]) Try.results111 ⟨rfl, trivial⟩ ⟨rfl, rfl⟩
  · replace hm := ifF hm hb4
    refine WJ.skip ?_
    refine PJ.next ?_
    obtain ⟨kj5, hk6, hm⟩ := withK_open hm
    refine WJ.join (X := Unit) (fun (_ : Unit) => kj5  = some r) (fun (_ : Unit) => []) (fun (_ : Unit) => []) ?_ ?_
    · clear hk6
      refine WJ.seq ?_
      refine WJ.quiet ?_
      refine QJ.step (YldS.yld (y_move rfl)) rfl ?_
      refine QJ.step (YldS.yld (y_lenStr Try.runUnderlying9 rfl)) rfl ?_
      refine QJ.step (YldS.yld (y_move rfl)) rfl ?_
      refine QJ.done ?_
      refine PJ.next ?_
      refine WJ.block ?_
      refine WJ.sel (L' := (fun (x : Int) => []) 0) [] ⟨List.nodup_nil, rfl⟩ ?_
      refine WJ.sub (m' := (fun (x : Int) => [(0, str s1), (1, .int .u8 (UInt8.toNat low2 : Int)), (13, .int .i64 (List.length s1 : Int)), (14, .int .i64 x)]) 0) ⟨rfl, rfl, rfl, rfl, trivial⟩ ?_
      refine WJ.loop (X := Int) (fun N (x : Int) => i_isText_l1 kj5 s1 low2 N x = some r) (fun (x : Int) => [(0, str s1), (1, .int .u8 (UInt8.toNat low2 : Int)), (13, .int .i64 (List.length s1 : Int)), (14, .int .i64 x)]) (fun (x : Int) => []) ?_ N 0 hm
      · rintro N x7 hI
        have hm := hI; clear hI
        cases N with
        | zero => cases hm
        | succ N =>
        unfold i_isText_l1 at hm
        refine WJ.seq ?_
        refine WJ.quiet ?_
        refine QJ.step (YldS.yld (y_bin rfl rfl rfl)) rfl ?_
        refine QJ.done ?_
        refine PJ.next ?_
        refine WJ.seq ?_
        refine WJ.cond (t := decide (x7 < (List.length s1 : Int))) rfl (fun hb8 => ?_) (fun hb8 => ?_)
        · replace hm := ifT hm hb8
          refine WJ.skip ?_
          refine PJ.next ?_
          refine WJ.seq ?_
          refine WJ.block ?_
          refine WJ.seq ?_
          refine WJ.quiet ?_
          refine QJ.step (YldS.yld (y_move rfl)) rfl ?_
          refine QJ.step (YldS.yld (y_assign rfl)) rfl ?_
          refine QJ.done ?_
          refine PJ.next ?_
          refine WJ.seq ?_
          refine WJ.quiet ?_
          refine QJ.step (YldS.yld (y_move rfl)) rfl ?_
          refine QJ.step (YldS.yld (y_move rfl)) rfl ?_
          obtain ⟨c9, h10, hm⟩ := bindS hm
          refine QJ.step (YldS.yld (y_idxStr Try.runUnderlying9 rfl rfl h10)) rfl ?_
          refine QJ.step (YldS.yld (y_move rfl)) rfl ?_
          refine QJ.step (YldS.yld (y_bin8 c9 low2 rfl rfl rfl)) rfl ?_
          refine QJ.step (YldS.yld (y_move rfl)) rfl ?_
          obtain ⟨t11, h12, hm⟩ := bindS hm
          refine QJ.cut 5 [(0, str s1), (1, .int .u8 (UInt8.toNat low2 : Int)), (13, .int .i64 (List.length s1 : Int)), (14, .int .i64 x7), (27, .bool t11)] ?_ ?_
          · rcases Bool.eq_false_or_eq_true (decide (c9 < low2)) with hb13 | hb13
            · obtain rfl := orT h12 hb13
              refine QJ.off rfl rfl (cB hb13) rfl rfl ?_
              refine QJ.off rfl rfl (cB hb13) rfl rfl ?_
              refine QJ.off rfl rfl (cB hb13) rfl rfl ?_
              refine QJ.off rfl rfl (cB hb13) rfl rfl ?_
              refine QJ.step (YldS.yld (y_pick_t (cB hb13) rfl)) rfl ?_
              exact QJ.cut_end ⟨rfl, rfl, rfl, rfl, rfl, trivial⟩
            · replace h12 := orF h12 hb13
              refine QJ.on rfl rfl (cB hb13) (YldS.yld (y_move rfl)) rfl ?_
              refine QJ.on rfl rfl (cB hb13) (YldS.yld (y_move rfl)) rfl ?_
              obtain ⟨c14, h15, h12⟩ := bindS h12
              refine QJ.on rfl rfl (cB hb13) (YldS.yld (y_idxStr Try.runUnderlying9 rfl rfl h15)) rfl ?_
              refine QJ.on rfl rfl (cB hb13) (YldS.yld (y_bin8 c14 (126 : UInt8) rfl rfl rfl)) rfl ?_
              refine QJ.step (YldS.yld (y_pick_f (cB hb13) rfl)) rfl ?_
              obtain rfl := Option.some.inj h12
              exact QJ.cut_end ⟨rfl, rfl, rfl, rfl, rfl, trivial⟩
          refine QJ.done ?_
          refine PJ.next ?_
          refine WJ.cond (t := t11) rfl (fun hb16 => ?_) (fun hb16 => ?_)
          · replace hm := ifT hm hb16
            refine WJ.seq ?_
            refine WJ.quiet ?_
            refine QJ.step (YldS.yld (y_assign rfl)) rfl ?_
            refine QJ.done ?_
            refine PJ.next ?_
            refine WJ.ret ?_
            refine PJ.block_ret (PJ.then_ret (PJ.then_ret (PJ.block_ret (PJ.then_ret ?_))))
            obtain rfl := Option.some.inj hm
            refine PJ.sel (L' := []) [] ⟨List.nodup_nil, rfl⟩ ?_
            exact PJ.retn (vs := [.bool false]) Try.results111 ⟨rfl, trivial⟩ ⟨rfl, rfl⟩
          · replace hm := ifF hm hb16
            refine WJ.skip ?_
            refine PJ.block_normal (PJ.next ?_)
            refine WJ.quiet ?_
            refine QJ.step (YldS.yld (y_bin rfl rfl rfl)) rfl ?_
            refine QJ.step (YldS.yld (y_move rfl)) rfl ?_
            refine QJ.done ?_
            exact PJ.round (w64 (x7 + 1)) [] hm ⟨rfl, rfl, rfl, rfl, trivial⟩ ⟨List.nodup_nil, rfl⟩
        · replace hm := ifF hm hb8
          refine WJ.exit ?_
          refine PJ.then_exit (PJ.then_exit (PJ.block_exit ?_))
          exact PJ.joined () [] hm trivial ⟨List.nodup_nil, rfl⟩
    · rintro _ hm
      subst hk6
      refine WJ.seq ?_
      refine WJ.quiet ?_
      refine QJ.step (YldS.yld (y_assign rfl)) rfl ?_
      refine QJ.done ?_
      refine PJ.next ?_
      refine WJ.ret ?_
      obtain rfl := Option.some.inj hm
      refine PJ.sel (L' := []) [] ⟨List.nodup_nil, rfl⟩ ?_
      exact PJ.retn (vs := [.bool true]) Try.results111 ⟨rfl, trivial⟩ ⟨rfl, rfl⟩

set_option maxRecDepth 100000 in
set_option maxHeartbeats 1000000 in
theorem ok_i_isRow {N : Nat} {row1 : Str} {r : Bool} (hm : i_isRow N row1 = some r) (w : World)  :
    Calls Try.prog 62 #[str row1] w (Ret (cx w) (.bool r)) := by
  unfold i_isRow at hm
  refine Calls.enter [str row1] Try.func62 rfl Try.ntmps62 rfl ?_
  refine WJ.seq ?_
  refine WJ.quiet ?_
  refine QJ.step (YldS.yld (y_assign rfl)) rfl ?_
  refine QJ.done ?_
  refine PJ.next ?_
  refine WJ.seq ?_
  refine WJ.quiet ?_
  refine QJ.step (YldS.yld (y_move rfl)) rfl ?_
  obtain ⟨r2, h3, hm⟩ := bindS hm
  refine QJ.step (y_call Try.call111 rfl (RetG.quiet fun w hw => ok_i_isText h3 w )) rfl ?_
  refine QJ.step (YldS.yld (y_move rfl)) rfl ?_
  obtain ⟨t4, h5, hm⟩ := bindS hm
  refine QJ.cut 11 [(16, .bool t4)] ?_ ?_
  · rcases Bool.eq_false_or_eq_true r2 with hb6 | hb6
    · replace h5 := andT h5 hb6
      refine QJ.on rfl rfl (cB hb6) (YldS.yld (y_move rfl)) rfl ?_
      refine QJ.on rfl rfl (cB hb6) (YldS.yld (y_binS rfl rfl rfl)) rfl ?_
      refine QJ.on rfl rfl (cB hb6) (YldS.yld (y_move rfl)) rfl ?_
      obtain ⟨t7, h8, h5⟩ := bindS h5
      refine QJ.cut 7 [(5, .bool r2), (15, .bool t7)] ?_ ?_
      · rcases Bool.eq_false_or_eq_true (row1 == []) with hb9 | hb9
        · obtain rfl := orT h8 hb9
          refine QJ.off rfl rfl (cB hb9) rfl rfl ?_
          refine QJ.off rfl rfl (cB hb9) rfl rfl ?_
          refine QJ.off rfl rfl (cB hb9) rfl rfl ?_
          refine QJ.off rfl rfl (cB hb9) rfl rfl ?_
          refine QJ.off rfl rfl (cB hb9) rfl rfl ?_
          refine QJ.off rfl rfl (cB hb9) rfl rfl ?_
          refine QJ.on rfl rfl (cB hb6) (YldS.yld (y_pick_t (cB hb9) rfl)) rfl ?_
          exact QJ.cut_end ⟨rfl, rfl, trivial⟩
        · replace h8 := orF h8 hb9
          refine QJ.on rfl rfl (cB hb9) (YldS.yld (y_move rfl)) rfl ?_
          refine QJ.on rfl rfl (cB hb9) (YldS.yld (y_move rfl)) rfl ?_
          refine QJ.on rfl rfl (cB hb9) (YldS.yld (y_lenStr Try.runUnderlying9 rfl)) rfl ?_
          refine QJ.on rfl rfl (cB hb9) (YldS.yld (y_bin rfl rfl rfl)) rfl ?_
          obtain ⟨c10, h11, h8⟩ := bindS h8
          refine QJ.on rfl rfl (cB hb9) (YldS.yld (y_idxStr Try.runUnderlying9 rfl rfl h11)) rfl ?_
          refine QJ.on rfl rfl (cB hb9) (YldS.yld (y_bin8 c10 (32 : UInt8) rfl rfl rfl)) rfl ?_
          refine QJ.on rfl rfl (cB hb6) (YldS.yld (y_pick_f (cB hb9) rfl)) rfl ?_
          obtain rfl := Option.some.inj h8
          exact QJ.cut_end ⟨rfl, rfl, trivial⟩
      refine QJ.step (YldS.yld (y_pick_t (cB hb6) rfl)) rfl ?_
      obtain rfl := Option.some.inj h5
      exact QJ.cut_end ⟨rfl, trivial⟩
    · obtain rfl := andF h5 hb6
      refine QJ.off rfl rfl (cB hb6) rfl rfl ?_
      refine QJ.off rfl rfl (cB hb6) rfl rfl ?_
      refine QJ.off rfl rfl (cB hb6) rfl rfl ?_
      refine QJ.off_undef rfl rfl rfl rfl ?_
      refine QJ.off_undef rfl rfl rfl rfl ?_
      refine QJ.off_undef rfl rfl rfl rfl ?_
      refine QJ.off_undef rfl rfl rfl rfl ?_
      refine QJ.off_undef rfl rfl rfl rfl ?_
      refine QJ.off_undef rfl rfl rfl rfl ?_
      refine QJ.off rfl rfl (cB hb6) rfl rfl ?_
      refine QJ.step (YldS.yld (y_pick_f (cB hb6) rfl)) rfl ?_
      exact QJ.cut_end ⟨rfl, trivial⟩
  refine QJ.step (YldS.yld (y_assign rfl)) rfl ?_
  refine QJ.done ?_
  refine PJ.next ?_
  refine WJ.ret ?_
  obtain rfl := Option.some.inj hm
  refine PJ.sel (L' := []) [] ⟨List.nodup_nil, rfl⟩ ?_
  exact PJ.retn (vs := [.bool t4]) Try.results62 ⟨rfl, trivial⟩ ⟨rfl, rfl⟩

set_option maxRecDepth 100000 in
set_option maxHeartbeats 1000000 in
theorem ok_i_rowsCode {N : Nat} {rows1 : List Str} {r : Int} (hm : i_rowsCode N rows1 = some r) (w : World) (v2 : Value) (hr3 : RdS w (cx w).Fz v2 fStr.rp rows1) :
    Calls Try.prog 66 #[v2] w (Ret (cx w) (.int .i64 r)) := by
  unfold i_rowsCode at hm
  refine Calls.enter [v2] Try.func66 rfl Try.ntmps66 rfl ?_
  refine WJ.seq ?_
  refine WJ.quiet ?_
  refine QJ.step (YldS.yld (y_assign rfl)) rfl ?_
  refine QJ.done ?_
  refine PJ.next ?_
  refine WJ.seq ?_
  refine WJ.seq ?_
  refine WJ.quiet ?_
  refine QJ.step (YldS.yld (y_move rfl)) rfl ?_
  refine QJ.step (YldS.yld (y_lenS Try.runUnderlying32 hr3 rfl)) rfl ?_
  refine QJ.step (YldS.yld (y_bin rfl rfl rfl)) rfl ?_
  refine QJ.done ?_
  refine PJ.next ?_
  refine WJ.cond (t := decide ((List.length rows1 : Int) > 12)) rfl (fun hb4 => ?_) (fun hb4 => ?_)
  · replace hm := ifT hm hb4
    refine WJ.seq ?_
    refine WJ.quiet ?_
    refine QJ.step (YldS.yld (y_assign rfl)) rfl ?_
    refine QJ.done ?_
    refine PJ.next ?_
    refine WJ.ret ?_
    refine PJ.then_ret ?_
    obtain rfl := Option.some.inj hm
    refine PJ.sel (L' := []) [] ⟨List.nodup_nil, rfl⟩ ?_
    exact PJ.retn (vs := [.int .i64 1]) Try.results66 ⟨rfl, trivial⟩ ⟨rfl, rfl⟩
  · replace hm := ifF hm hb4
    refine WJ.skip ?_
    refine PJ.next ?_
    obtain ⟨kj5, hk6, hm⟩ := withK_open hm
    refine WJ.join (X := Unit) (fun (_ : Unit) => kj5  = some r) (fun (_ : Unit) => []) (fun (_ : Unit) => []) ?_ ?_
    · clear hk6
      refine WJ.seq ?_
      refine WJ.quiet ?_
      refine QJ.step (YldS.yld (y_move rfl)) rfl ?_
      refine QJ.step (YldS.yld (y_lenS Try.runUnderlying32 hr3 rfl)) rfl ?_
      refine QJ.step (YldS.yld (y_move rfl)) rfl ?_
      refine QJ.done ?_
      refine PJ.next ?_
      refine WJ.block ?_
      refine WJ.sel (L' := (fun (x : Int) => []) 0) [] ⟨List.nodup_nil, rfl⟩ ?_
      refine WJ.sub (m' := (fun (x : Int) => [(8, v2), (9, .int .i64 (List.length rows1 : Int)), (10, .int .i64 x)]) 0) ⟨rfl, rfl, rfl, trivial⟩ ?_
      refine WJ.loop (X := Int) (fun N (x : Int) => i_rowsCode_l1 kj5 rows1 N x = some r) (fun (x : Int) => [(8, v2), (9, .int .i64 (List.length rows1 : Int)), (10, .int .i64 x)]) (fun (x : Int) => []) ?_ N 0 hm
      · rintro N x7 hI
        have hm := hI; clear hI
        cases N with
        | zero => cases hm
        | succ N =>
        unfold i_rowsCode_l1 at hm
        refine WJ.seq ?_
        refine WJ.quiet ?_
        refine QJ.step (YldS.yld (y_bin rfl rfl rfl)) rfl ?_
        refine QJ.done ?_
        refine PJ.next ?_
        refine WJ.seq ?_
        refine WJ.cond (t := decide (x7 < (List.length rows1 : Int))) rfl (fun hb8 => ?_) (fun hb8 => ?_)
        · replace hm := ifT hm hb8
          refine WJ.skip ?_
          refine PJ.next ?_
          refine WJ.seq ?_
          refine WJ.block ?_
          refine WJ.seq ?_
          refine WJ.quiet ?_
          obtain ⟨e9, h10, hm⟩ := bindS hm
          obtain ⟨ad11, _, rfl, ha12, hy13⟩ := hr3.elem h10
          refine QJ.step (YldS.yld (hy13 Try.runUnderlying32 Try.sizeOf9 rfl rfl)) rfl ?_
          refine QJ.step (YldS.yld (y_load1 (v := str e9) Try.isAgg9 ha12 St.frozenC rfl)) rfl ?_
          refine QJ.step (YldS.yld (y_assign rfl)) rfl ?_
          refine QJ.done ?_
          refine PJ.next ?_
          refine WJ.seq ?_
          refine WJ.quiet ?_
          refine QJ.step (YldS.yld (y_move rfl)) rfl ?_
          obtain ⟨r14, h15, hm⟩ := bindS hm
          refine QJ.step (y_call Try.call62 rfl (RetG.quiet fun w hw => ok_i_isRow h15 w )) rfl ?_
          refine QJ.step (YldS.yld (y_not rfl)) rfl ?_
          refine QJ.done ?_
          refine PJ.next ?_
          refine WJ.cond (t := !r14) rfl (fun hb16 => ?_) (fun hb16 => ?_)
          · replace hm := ifT hm hb16
            refine WJ.seq ?_
            refine WJ.quiet ?_
            refine QJ.step (YldS.yld (y_assign rfl)) rfl ?_
            refine QJ.done ?_
            refine PJ.next ?_
            refine WJ.ret ?_
            refine PJ.block_ret (PJ.then_ret (PJ.then_ret (PJ.block_ret (PJ.then_ret ?_))))
            obtain rfl := Option.some.inj hm
            refine PJ.sel (L' := []) [] ⟨List.nodup_nil, rfl⟩ ?_
            exact PJ.retn (vs := [.int .i64 2]) Try.results66 ⟨rfl, trivial⟩ ⟨rfl, rfl⟩
          · replace hm := ifF hm hb16
            refine WJ.skip ?_
            refine PJ.block_normal (PJ.next ?_)
            refine WJ.quiet ?_
            refine QJ.step (YldS.yld (y_bin rfl rfl rfl)) rfl ?_
            refine QJ.step (YldS.yld (y_move rfl)) rfl ?_
            refine QJ.done ?_
            exact PJ.round (w64 (x7 + 1)) [] hm ⟨rfl, rfl, rfl, trivial⟩ ⟨List.nodup_nil, rfl⟩
        · replace hm := ifF hm hb8
          refine WJ.exit ?_
          refine PJ.then_exit (PJ.then_exit (PJ.block_exit ?_))
          exact PJ.joined () [] hm trivial ⟨List.nodup_nil, rfl⟩
    · rintro _ hm
      subst hk6
      refine WJ.seq ?_
      refine WJ.quiet ?_
      refine QJ.step (YldS.yld (y_assign rfl)) rfl ?_
      refine QJ.done ?_
      refine PJ.next ?_
      refine WJ.ret ?_
      obtain rfl := Option.some.inj hm
      refine PJ.sel (L' := []) [] ⟨List.nodup_nil, rfl⟩ ?_
      exact PJ.retn (vs := [.int .i64 0]) Try.results66 ⟨rfl, trivial⟩ ⟨rfl, rfl⟩

set_option maxRecDepth 100000 in
set_option maxHeartbeats 1000000 in
theorem ok_i_between {n1 : Int} {low2 : Int} {high3 : Int} {r : Bool} (hm : i_between n1 low2 high3 = some r) (w : World)  :
    Calls Try.prog 69 #[.int .i64 n1, .int .i64 low2, .int .i64 high3] w (Ret (cx w) (.bool r)) := by
  unfold i_between at hm
  refine Calls.enter [.int .i64 n1, .int .i64 low2, .int .i64 high3] Try.func69 rfl Try.ntmps69 rfl ?_
  refine WJ.seq ?_
  refine WJ.quiet ?_
  refine QJ.step (YldS.yld (y_assign rfl)) rfl ?_
  refine QJ.done ?_
  refine PJ.next ?_
  refine WJ.seq ?_
  refine WJ.quiet ?_
  refine QJ.step (YldS.yld (y_move rfl)) rfl ?_
  refine QJ.step (YldS.yld (y_move rfl)) rfl ?_
  refine QJ.step (YldS.yld (y_bin rfl rfl rfl)) rfl ?_
  refine QJ.step (YldS.yld (y_move rfl)) rfl ?_
  obtain ⟨t4, h5, hm⟩ := bindS hm
  refine QJ.cut 4 [(14, .bool t4)] ?_ ?_
  · rcases Bool.eq_false_or_eq_true (decide (n1 ≥ low2)) with hb6 | hb6
    · replace h5 := andT h5 hb6
      refine QJ.on rfl rfl (cB hb6) (YldS.yld (y_move rfl)) rfl ?_
      refine QJ.on rfl rfl (cB hb6) (YldS.yld (y_move rfl)) rfl ?_
      refine QJ.on rfl rfl (cB hb6) (YldS.yld (y_bin rfl rfl rfl)) rfl ?_
      refine QJ.step (YldS.yld (y_pick_t (cB hb6) rfl)) rfl ?_
      obtain rfl := Option.some.inj h5
      exact QJ.cut_end ⟨rfl, trivial⟩
    · obtain rfl := andF h5 hb6
      refine QJ.off rfl rfl (cB hb6) rfl rfl ?_
      refine QJ.off rfl rfl (cB hb6) rfl rfl ?_
      refine QJ.off rfl rfl (cB hb6) rfl rfl ?_
      refine QJ.step (YldS.yld (y_pick_f (cB hb6) rfl)) rfl ?_
      exact QJ.cut_end ⟨rfl, trivial⟩
  refine QJ.step (YldS.yld (y_assign rfl)) rfl ?_
  refine QJ.done ?_
  refine PJ.next ?_
  refine WJ.ret ?_
  obtain rfl := Option.some.inj hm
  refine PJ.sel (L' := []) [] ⟨List.nodup_nil, rfl⟩ ?_
  exact PJ.retn (vs := [.bool t4]) Try.results69 ⟨rfl, trivial⟩ ⟨rfl, rfl⟩

set_option maxRecDepth 100000 in
set_option maxHeartbeats 1000000 in
theorem ok_i_moved {N : Nat} {stops1 : List Int} {column4 : Int} {move5 : UInt8} {r : Int × Bool} (hm : i_moved N stops1 column4 move5 = some r) (w : World) (v2 : Value) (hr3 : RdS w (cx w).Fz v2 fI64.rp stops1) :
    Calls Try.prog 64 #[v2, .int .i64 column4, .int .u8 (UInt8.toNat move5 : Int)] w (Ret (cx w) (tup [.int .i64 r.1, .bool r.2])) := by
  unfold i_moved at hm
  refine Calls.enter [v2, .int .i64 column4, .int .u8 (UInt8.toNat move5 : Int)] Try.func64 rfl Try.ntmps64 rfl ?_
  refine WJ.seq ?_
  refine WJ.quiet ?_
  refine QJ.step (YldS.yld (y_assign rfl)) rfl ?_
  refine QJ.step (YldS.yld (y_assign rfl)) rfl ?_
  refine QJ.done ?_
  refine PJ.next ?_
  refine WJ.seq ?_
  refine WJ.seq ?_
  refine WJ.quiet ?_
  refine QJ.step (YldS.yld (y_move rfl)) rfl ?_
  refine QJ.done ?_
  refine PJ.next ?_
  refine WJ.block ?_
  refine WJ.seq ?_
  refine WJ.quiet ?_
  refine QJ.step (YldS.yld (y_bin8 move5 (62 : UInt8) rfl rfl rfl)) rfl ?_
  refine QJ.step (YldS.yld (y_assign rfl)) rfl ?_
  refine QJ.done ?_
  refine PJ.next ?_
  refine WJ.cond (t := (move5 == (62 : UInt8))) rfl (fun hb6 => ?_) (fun hb6 => ?_)
  · replace hm := ifT hm hb6
    refine WJ.seq ?_
    refine WJ.quiet ?_
    refine QJ.step (YldS.yld (y_move rfl)) rfl ?_
    refine QJ.step (YldS.yld (y_bin rfl rfl rfl)) rfl ?_
    refine QJ.step (YldS.yld (y_move rfl)) rfl ?_
    refine QJ.step (YldS.yld (y_bin rfl rfl rfl)) rfl ?_
    refine QJ.step (YldS.yld (y_assign rfl)) rfl ?_
    refine QJ.step (YldS.yld (y_assign rfl)) rfl ?_
    refine QJ.done ?_
    refine PJ.next ?_
    refine WJ.ret ?_
    refine PJ.block_ret (PJ.then_ret ?_)
    obtain rfl := Option.some.inj hm
    refine PJ.sel (L' := []) [] ⟨List.nodup_nil, rfl⟩ ?_
    exact PJ.retn (vs := [.int .i64 (w64 (column4 + 1)), .bool (decide (column4 < 30))]) Try.results64 ⟨rfl, rfl, trivial⟩ ⟨rfl, rfl⟩
  · replace hm := ifF hm hb6
    refine WJ.seq ?_
    refine WJ.quiet ?_
    refine QJ.step (YldS.yld (y_bin8 move5 (60 : UInt8) rfl rfl rfl)) rfl ?_
    refine QJ.step (YldS.yld (y_assign rfl)) rfl ?_
    refine QJ.done ?_
    refine PJ.next ?_
    refine WJ.cond (t := (move5 == (60 : UInt8))) rfl (fun hb7 => ?_) (fun hb7 => ?_)
    · replace hm := ifT hm hb7
      refine WJ.seq ?_
      refine WJ.quiet ?_
      refine QJ.step (YldS.yld (y_move rfl)) rfl ?_
      refine QJ.step (YldS.yld (y_bin rfl rfl rfl)) rfl ?_
      refine QJ.step (YldS.yld (y_move rfl)) rfl ?_
      refine QJ.step (YldS.yld (y_bin rfl rfl rfl)) rfl ?_
      refine QJ.step (YldS.yld (y_assign rfl)) rfl ?_
      refine QJ.step (YldS.yld (y_assign rfl)) rfl ?_
      refine QJ.done ?_
      refine PJ.next ?_
      refine WJ.ret ?_
      refine PJ.block_ret (PJ.then_ret ?_)
      obtain rfl := Option.some.inj hm
      refine PJ.sel (L' := []) [] ⟨List.nodup_nil, rfl⟩ ?_
      exact PJ.retn (vs := [.int .i64 (w64 (column4 - 1)), .bool (decide (column4 > 0))]) Try.results64 ⟨rfl, rfl, trivial⟩ ⟨rfl, rfl⟩
    · replace hm := ifF hm hb7
      refine WJ.skip ?_
      refine PJ.block_normal (PJ.next ?_)
      obtain ⟨kj8, hk9, hm⟩ := withK_open hm
      refine WJ.join (X := Unit) (fun (_ : Unit) => kj8  = some r) (fun (_ : Unit) => []) (fun (_ : Unit) => []) ?_ ?_
      · clear hk9
        refine WJ.seq ?_
        refine WJ.quiet ?_
        refine QJ.step (YldS.yld (y_move rfl)) rfl ?_
        refine QJ.step (YldS.yld (y_lenS Try.runUnderlying24 hr3 rfl)) rfl ?_
        refine QJ.step (YldS.yld (y_move rfl)) rfl ?_
        refine QJ.done ?_
        refine PJ.next ?_
        refine WJ.block ?_
        refine WJ.sel (L' := (fun (x : Int) => []) 0) [] ⟨List.nodup_nil, rfl⟩ ?_
        refine WJ.sub (m' := (fun (x : Int) => [(1, .int .i64 column4), (23, v2), (24, .int .i64 (List.length stops1 : Int)), (25, .int .i64 x)]) 0) ⟨rfl, rfl, rfl, rfl, trivial⟩ ?_
        refine WJ.loop (X := Int) (fun N (x : Int) => i_moved_l1 kj8 stops1 column4 N x = some r) (fun (x : Int) => [(1, .int .i64 column4), (23, v2), (24, .int .i64 (List.length stops1 : Int)), (25, .int .i64 x)]) (fun (x : Int) => []) ?_ N 0 hm
        · rintro N x10 hI
          have hm := hI; clear hI
          cases N with
          | zero => cases hm
          | succ N =>
          unfold i_moved_l1 at hm
          refine WJ.seq ?_
          refine WJ.quiet ?_
          refine QJ.step (YldS.yld (y_bin rfl rfl rfl)) rfl ?_
          refine QJ.done ?_
          refine PJ.next ?_
          refine WJ.seq ?_
          refine WJ.cond (t := decide (x10 < (List.length stops1 : Int))) rfl (fun hb11 => ?_) (fun hb11 => ?_)
          · replace hm := ifT hm hb11
            refine WJ.skip ?_
            refine PJ.next ?_
            refine WJ.seq ?_
            refine WJ.block ?_
            refine WJ.seq ?_
            refine WJ.quiet ?_
            obtain ⟨e12, h13, hm⟩ := bindS hm
            obtain ⟨ad14, _, rfl, ha15, hy16⟩ := hr3.elem h13
            refine QJ.step (YldS.yld (hy16 Try.runUnderlying24 Try.sizeOf2 rfl rfl)) rfl ?_
            refine QJ.step (YldS.yld (y_load1 (v := .int .i64 e12) Try.isAgg2 ha15 St.frozenC rfl)) rfl ?_
            refine QJ.step (YldS.yld (y_assign rfl)) rfl ?_
            refine QJ.done ?_
            refine PJ.next ?_
            refine WJ.seq ?_
            refine WJ.quiet ?_
            refine QJ.step (YldS.yld (y_move rfl)) rfl ?_
            refine QJ.step (YldS.yld (y_move rfl)) rfl ?_
            refine QJ.step (YldS.yld (y_bin rfl rfl rfl)) rfl ?_
            refine QJ.done ?_
            refine PJ.next ?_
            refine WJ.cond (t := decide (e12 > column4)) rfl (fun hb17 => ?_) (fun hb17 => ?_)
            · replace hm := ifT hm hb17
              refine WJ.seq ?_
              refine WJ.quiet ?_
              refine QJ.step (YldS.yld (y_move rfl)) rfl ?_
              refine QJ.step (YldS.yld (y_assign rfl)) rfl ?_
              refine QJ.step (YldS.yld (y_assign rfl)) rfl ?_
              refine QJ.done ?_
              refine PJ.next ?_
              refine WJ.ret ?_
              refine PJ.block_ret (PJ.then_ret (PJ.then_ret (PJ.block_ret (PJ.then_ret ?_))))
              obtain rfl := Option.some.inj hm
              refine PJ.sel (L' := []) [] ⟨List.nodup_nil, rfl⟩ ?_
              exact PJ.retn (vs := [.int .i64 e12, .bool true]) Try.results64 ⟨rfl, rfl, trivial⟩ ⟨rfl, rfl⟩
            · replace hm := ifF hm hb17
              refine WJ.skip ?_
              refine PJ.block_normal (PJ.next ?_)
              refine WJ.quiet ?_
              refine QJ.step (YldS.yld (y_bin rfl rfl rfl)) rfl ?_
              refine QJ.step (YldS.yld (y_move rfl)) rfl ?_
              refine QJ.done ?_
              exact PJ.round (w64 (x10 + 1)) [] hm ⟨rfl, rfl, rfl, rfl, trivial⟩ ⟨List.nodup_nil, rfl⟩
          · replace hm := ifF hm hb11
            refine WJ.exit ?_
            refine PJ.then_exit (PJ.then_exit (PJ.block_exit ?_))
            exact PJ.joined () [] hm trivial ⟨List.nodup_nil, rfl⟩
      · rintro _ hm
        subst hk9
        refine WJ.seq ?_
        refine WJ.quiet ?_
        refine QJ.step (YldS.yld (y_assign rfl)) rfl ?_
        refine QJ.step (YldS.yld (y_assign rfl)) rfl ?_
        refine QJ.done ?_
        refine PJ.next ?_
        refine WJ.ret ?_
        obtain rfl := Option.some.inj hm
        refine PJ.sel (L' := []) [] ⟨List.nodup_nil, rfl⟩ ?_
        exact PJ.retn (vs := [.int .i64 0, .bool false]) Try.results64 ⟨rfl, rfl, trivial⟩ ⟨rfl, rfl⟩

set_option maxRecDepth 100000 in
set_option maxHeartbeats 1000000 in
theorem ok_i_distances {N : Nat} {stops1 : List Int} {x4 : Int} {r : (List Int)} (hm : i_distances N stops1 x4 = some r) (w : World) (v2 : Value) (hr3 : RdS w (cx w).Fz v2 fI64.rp stops1) :
    Calls Try.prog 139 #[v2, .int .i64 x4] w (Ret (cx w) (.agg (List.toArray (encs fI64 r)))) := by
  unfold i_distances at hm
  refine Calls.enter [v2, .int .i64 x4] Try.func139 rfl Try.ntmps139 rfl ?_
  refine WJ.seq ?_
  refine WJ.reg ?_
  refine SJ.allocA (R := fI64) (xs := List.replicate 31 (0 : Int)) 31 zv161 rfl rfl rfl rfl fun g5 => ?_
  refine SJ.nil ?_
  refine PJ.next ?_
  refine WJ.seq ?_
  refine WJ.reg ?_
  refine SJ.q (YldS.yld (y_build0 Try.runUnderlying161 zv161 Try.sizeOf2)) rfl ?_
  refine SJ.allocA (R := fI64) (xs := List.replicate 31 (0 : Int)) 31 zv161 rfl rfl rfl rfl fun g6 => ?_
  refine SJ.storeA (k := 0) (ys := (List.replicate 31 (0 : Int))) rfl rfl rfl rfl (by simp) Try.sizeOf161 (by simp [length_encs, fI64]) ?_
  refine SJ.nil ?_
  refine PJ.next ?_
  obtain ⟨kj8, hk9, hm⟩ := withK_open hm
  refine WJ.join (X := (List Int)) (fun (x : (List Int)) => kj8 x = some r) (fun (x : (List Int)) => [(0, v2), (1, .int .i64 x4), (4, pt g5 0), (5, pt g6 0)]) (fun (x : (List Int)) => [row (av g6 31) 161 fI64 x, row (av g5 31) 161 fI64 (List.replicate 31 (0 : Int))]) ?_ ?_
  · clear hk9
    refine WJ.seq ?_
    refine WJ.quiet ?_
    refine QJ.step (YldS.yld (y_move rfl)) rfl ?_
    refine QJ.done ?_
    refine PJ.next ?_
    refine WJ.block ?_
    refine WJ.sel (L' := (fun (x : (List Int) × Int) => [row (av g6 31) 161 fI64 x.1, row (av g5 31) 161 fI64 (List.replicate 31 (0 : Int))]) ((List.replicate 31 (0 : Int)), 0)) [0, 1] ⟨by decide, rfl⟩ ?_
    refine WJ.sub (m' := (fun (x : (List Int) × Int) => [(0, v2), (1, .int .i64 x4), (4, pt g5 0), (5, pt g6 0), (15, .int .i64 x.2)]) ((List.replicate 31 (0 : Int)), 0)) ⟨rfl, rfl, rfl, rfl, rfl, trivial⟩ ?_
    refine WJ.loop (X := (List Int) × Int) (fun N (x : (List Int) × Int) => i_distances_l1 kj8 N x.1 x.2 = some r) (fun (x : (List Int) × Int) => [(0, v2), (1, .int .i64 x4), (4, pt g5 0), (5, pt g6 0), (15, .int .i64 x.2)]) (fun (x : (List Int) × Int) => [row (av g6 31) 161 fI64 x.1, row (av g5 31) 161 fI64 (List.replicate 31 (0 : Int))]) ?_ N ((List.replicate 31 (0 : Int)), 0) hm
    · rintro N ⟨l10, x11⟩ hI
      have hm := hI; clear hI
      cases N with
      | zero => cases hm
      | succ N =>
      unfold i_distances_l1 at hm
      refine WJ.seq ?_
      refine WJ.quiet ?_
      refine QJ.step (YldS.yld (y_bin rfl rfl rfl)) rfl ?_
      refine QJ.done ?_
      refine PJ.next ?_
      refine WJ.seq ?_
      refine WJ.cond (t := decide (x11 < 31)) rfl (fun hb12 => ?_) (fun hb12 => ?_)
      · replace hm := ifT hm hb12
        refine WJ.skip ?_
        refine PJ.next ?_
        refine WJ.seq ?_
        refine WJ.block ?_
        refine WJ.seq ?_
        refine WJ.quiet ?_
        refine QJ.step (YldS.yld (y_move rfl)) rfl ?_
        refine QJ.step (YldS.yld (y_assign rfl)) rfl ?_
        refine QJ.done ?_
        refine PJ.next ?_
        refine WJ.reg ?_
        refine SJ.q (YldS.yld (y_move rfl)) rfl ?_
        obtain ⟨e13, h14, hm⟩ := bindS hm
        refine SJ.q (YldS.yld (y_ixArr (k := 0) (R := fI64) rfl Try.runUnderlying161 Try.sizeOf2 rfl rfl h14)) rfl ?_
        refine SJ.storeRL (k := 0) (i := (Int.toNat x11)) (off := 0) (us := [.int .i64 (-1)]) (b := (-1)) rfl rfl (idx_get h14) rfl rfl Try.sizeOf2 rfl rfl rfl ?_
        refine SJ.nil ?_
        refine PJ.block_normal (PJ.next ?_)
        refine WJ.quiet ?_
        refine QJ.step (YldS.yld (y_bin rfl rfl rfl)) rfl ?_
        refine QJ.step (YldS.yld (y_move rfl)) rfl ?_
        refine QJ.done ?_
        exact PJ.round ((List.set l10 (Int.toNat x11) (-1)), w64 (x11 + 1)) [0, 1] hm ⟨rfl, rfl, rfl, rfl, rfl, trivial⟩ ⟨by decide, rfl⟩
      · replace hm := ifF hm hb12
        refine WJ.exit ?_
        refine PJ.then_exit (PJ.then_exit (PJ.block_exit ?_))
        exact PJ.joined l10 [0, 1] hm ⟨rfl, rfl, rfl, rfl, trivial⟩ ⟨by decide, rfl⟩
  · rintro l7 hm
    subst hk9
    refine WJ.seq ?_
    refine WJ.reg ?_
    refine SJ.q (YldS.yld (y_move rfl)) rfl ?_
    obtain ⟨e15, h16, hm⟩ := bindS hm
    refine SJ.q (YldS.yld (y_ixArr (k := 0) (R := fI64) rfl Try.runUnderlying161 Try.sizeOf2 rfl rfl h16)) rfl ?_
    refine SJ.storeRL (k := 0) (i := (Int.toNat x4)) (off := 0) (us := [.int .i64 0]) (b := 0) rfl rfl (idx_get h16) rfl rfl Try.sizeOf2 rfl rfl rfl ?_
    refine SJ.nil ?_
    refine PJ.next ?_
    obtain ⟨kj18, hk19, hm⟩ := withK_open hm
    refine WJ.join (X := (List Int)) (fun (x : (List Int)) => kj18 x = some r) (fun (x : (List Int)) => [(4, pt g5 0), (5, pt g6 0)]) (fun (x : (List Int)) => [row (av g6 31) 161 fI64 x, row (av g5 31) 161 fI64 (List.replicate 31 (0 : Int))]) ?_ ?_
    · clear hk19
      refine WJ.seq ?_
      refine WJ.quiet ?_
      refine QJ.step (YldS.yld (y_assign rfl)) rfl ?_
      refine QJ.step (YldS.yld (y_assign rfl)) rfl ?_
      refine QJ.done ?_
      refine PJ.next ?_
      refine WJ.block ?_
      refine WJ.sel (L' := (fun (x : (List Int) × Bool × Int) => [row (av g6 31) 161 fI64 x.1, row (av g5 31) 161 fI64 (List.replicate 31 (0 : Int))]) ((List.set l7 (Int.toNat x4) 0), true, 0)) [0, 1] ⟨by decide, rfl⟩ ?_
      refine WJ.sub (m' := (fun (x : (List Int) × Bool × Int) => [(0, v2), (4, pt g5 0), (5, pt g6 0), (7, .bool x.2.1), (8, .int .i64 x.2.2)]) ((List.set l7 (Int.toNat x4) 0), true, 0)) ⟨rfl, rfl, rfl, rfl, rfl, trivial⟩ ?_
      refine WJ.loop (X := (List Int) × Bool × Int) (fun N (x : (List Int) × Bool × Int) => i_distances_l2 kj18 stops1 N x.1 x.2.1 x.2.2 = some r) (fun (x : (List Int) × Bool × Int) => [(0, v2), (4, pt g5 0), (5, pt g6 0), (7, .bool x.2.1), (8, .int .i64 x.2.2)]) (fun (x : (List Int) × Bool × Int) => [row (av g6 31) 161 fI64 x.1, row (av g5 31) 161 fI64 (List.replicate 31 (0 : Int))]) ?_ N ((List.set l7 (Int.toNat x4) 0), true, 0) hm
      · rintro N ⟨l20, x21, x22⟩ hI
        have hm := hI; clear hI
        cases N with
        | zero => cases hm
        | succ N =>
        unfold i_distances_l2 at hm
        refine WJ.seq ?_
        refine WJ.seq ?_
        refine WJ.quiet ?_
        refine QJ.step (YldS.yld (y_move rfl)) rfl ?_
        refine QJ.done ?_
        refine PJ.next ?_
        refine WJ.cond (t := x21) rfl (fun hb23 => ?_) (fun hb23 => ?_)
        · replace hm := ifT hm hb23
          refine WJ.skip ?_
          refine PJ.next ?_
          obtain ⟨kj26, hk27, hm⟩ := withK_open hm
          refine WJ.join (X := (List Int) × Bool) (fun (x : (List Int) × Bool) => kj26 x.1 x.2 = some r) (fun (x : (List Int) × Bool) => [(0, v2), (4, pt g5 0), (5, pt g6 0), (7, .bool x.2), (8, .int .i64 x22)]) (fun (x : (List Int) × Bool) => [row (av g6 31) 161 fI64 x.1, row (av g5 31) 161 fI64 (List.replicate 31 (0 : Int))]) ?_ ?_
          · clear hk27
            refine WJ.block ?_
            refine WJ.seq ?_
            refine WJ.quiet ?_
            refine QJ.step (YldS.yld (y_assign rfl)) rfl ?_
            refine QJ.done ?_
            refine PJ.next ?_
            refine WJ.seq ?_
            refine WJ.quiet ?_
            refine QJ.step (YldS.yld (y_move rfl)) rfl ?_
            refine QJ.done ?_
            refine PJ.next ?_
            refine WJ.block ?_
            refine WJ.sel (L' := (fun (x : (List Int) × Bool × Int) => [row (av g6 31) 161 fI64 x.1, row (av g5 31) 161 fI64 (List.replicate 31 (0 : Int))]) (l20, false, 0)) [0, 1] ⟨by decide, rfl⟩ ?_
            refine WJ.sub (m' := (fun (x : (List Int) × Bool × Int) => [(0, v2), (4, pt g5 0), (5, pt g6 0), (7, .bool x.2.1), (8, .int .i64 x22), (26, .int .i64 x.2.2)]) (l20, false, 0)) ⟨rfl, rfl, rfl, rfl, rfl, rfl, trivial⟩ ?_
            refine WJ.loop (X := (List Int) × Bool × Int) (fun N (x : (List Int) × Bool × Int) => i_distances_l3 kj26 stops1 x22 N x.1 x.2.1 x.2.2 = some r) (fun (x : (List Int) × Bool × Int) => [(0, v2), (4, pt g5 0), (5, pt g6 0), (7, .bool x.2.1), (8, .int .i64 x22), (26, .int .i64 x.2.2)]) (fun (x : (List Int) × Bool × Int) => [row (av g6 31) 161 fI64 x.1, row (av g5 31) 161 fI64 (List.replicate 31 (0 : Int))]) ?_ N (l20, false, 0) hm
            · rintro N ⟨l28, x29, x30⟩ hI
              have hm := hI; clear hI
              cases N with
              | zero => cases hm
              | succ N =>
              unfold i_distances_l3 at hm
              refine WJ.seq ?_
              refine WJ.quiet ?_
              refine QJ.step (YldS.yld (y_bin rfl rfl rfl)) rfl ?_
              refine QJ.done ?_
              refine PJ.next ?_
              refine WJ.seq ?_
              refine WJ.cond (t := decide (x30 < 31)) rfl (fun hb31 => ?_) (fun hb31 => ?_)
              · replace hm := ifT hm hb31
                refine WJ.skip ?_
                refine PJ.next ?_
                obtain ⟨kj34, hk35, hm⟩ := withK_open hm
                refine WJ.join (X := (List Int) × Bool) (fun (x : (List Int) × Bool) => kj34 x.1 x.2 = some r) (fun (x : (List Int) × Bool) => [(0, v2), (4, pt g5 0), (5, pt g6 0), (7, .bool x.2), (8, .int .i64 x22), (26, .int .i64 x30)]) (fun (x : (List Int) × Bool) => [row (av g6 31) 161 fI64 x.1, row (av g5 31) 161 fI64 (List.replicate 31 (0 : Int))]) ?_ ?_
                · clear hk35
                  refine WJ.block ?_
                  refine WJ.seq ?_
                  refine WJ.quiet ?_
                  refine QJ.step (YldS.yld (y_move rfl)) rfl ?_
                  refine QJ.step (YldS.yld (y_assign rfl)) rfl ?_
                  refine QJ.done ?_
                  refine PJ.next ?_
                  refine WJ.seq ?_
                  refine WJ.seq ?_
                  refine WJ.quiet ?_
                  refine QJ.step (YldS.yld (y_move rfl)) rfl ?_
                  obtain ⟨e36, h37, hm⟩ := bindS hm
                  refine QJ.step (YldS.yld (y_ixArr (k := 0) (R := fI64) rfl Try.runUnderlying161 Try.sizeOf2 rfl rfl h37)) rfl ?_
                  refine QJ.step (YldS.yld (y_loadR (k := 0) (i := (Int.toNat x30)) (off := 0) (u := .int .i64 e36) rfl Try.isAgg2 rfl (idx_get h37) rfl)) rfl ?_
                  refine QJ.step (YldS.yld (y_bin rfl rfl rfl)) rfl ?_
                  refine QJ.done ?_
                  refine PJ.next ?_
                  refine WJ.cond (t := decide (e36 ≥ 0)) rfl (fun hb38 => ?_) (fun hb38 => ?_)
                  · replace hm := ifT hm hb38
                    refine WJ.exit ?_
                    refine PJ.then_exit (PJ.block_exit ?_)
                    exact PJ.joined (l28, x29) [0, 1] hm ⟨rfl, rfl, rfl, rfl, rfl, rfl, trivial⟩ ⟨by decide, rfl⟩
                  · replace hm := ifF hm hb38
                    refine WJ.skip ?_
                    refine PJ.next ?_
                    obtain ⟨kj40, hk41, hm⟩ := withK_open hm
                    refine WJ.join (X := (List Int)) (fun (x : (List Int)) => kj40 x = some r) (fun (x : (List Int)) => [(0, v2), (4, pt g5 0), (5, pt g6 0), (7, .bool x29), (8, .int .i64 x22), (9, .int .i64 x30), (26, .int .i64 x30)]) (fun (x : (List Int)) => [row (av g6 31) 161 fI64 x, row (av g5 31) 161 fI64 (List.replicate 31 (0 : Int))]) ?_ ?_
                    · clear hk41
                      refine WJ.seq ?_
                      refine WJ.reg ?_
                      refine SJ.buildSlice (R := fByte) (os := [.const (.int .u8 (UInt8.toNat 35 : Int)), .const (.int .u8 (UInt8.toNat 60 : Int)), .const (.int .u8 (UInt8.toNat 62 : Int))]) [35, 60, 62] Try.runUnderlying22 Try.sizeOf5 Try.zeroValue5 rfl rfl rfl rfl rfl rfl fun v42 => ?_
                      refine SJ.convMark (k := 0) rfl Try.underlying22 Try.underlying5 rfl rfl ?_
                      refine SJ.q (YldS.yld (y_lenRowM (k := 0) rfl Try.runUnderlying22 rfl)) rfl ?_
                      refine SJ.q (YldS.yld (y_move rfl)) rfl ?_
                      refine SJ.nil ?_
                      refine PJ.next ?_
                      refine WJ.block ?_
                      refine WJ.sel (L' := (fun (x : (List Int) × Int) => [rowM v42 5 fByte [35, 60, 62], row (av g6 31) 161 fI64 x.1, row (av g5 31) 161 fI64 (List.replicate 31 (0 : Int))]) (l28, 0)) [0, 1, 2] ⟨by decide, rfl⟩ ?_
                      refine WJ.sub (m' := (fun (x : (List Int) × Int) => [(0, v2), (4, pt g5 0), (5, pt g6 0), (7, .bool x29), (8, .int .i64 x22), (9, .int .i64 x30), (26, .int .i64 x30), (34, v42), (35, .int .i64 (List.length [35, 60, 62] : Int)), (36, .int .i64 x.2)]) (l28, 0)) ⟨rfl, rfl, rfl, rfl, rfl, rfl, rfl, rfl, rfl, rfl, trivial⟩ ?_
                      refine WJ.loop (X := (List Int) × Int) (fun N (x : (List Int) × Int) => i_distances_l4 kj40 stops1 x22 x30 N x.1 x.2 = some r) (fun (x : (List Int) × Int) => [(0, v2), (4, pt g5 0), (5, pt g6 0), (7, .bool x29), (8, .int .i64 x22), (9, .int .i64 x30), (26, .int .i64 x30), (34, v42), (35, .int .i64 (List.length [35, 60, 62] : Int)), (36, .int .i64 x.2)]) (fun (x : (List Int) × Int) => [rowM v42 5 fByte [35, 60, 62], row (av g6 31) 161 fI64 x.1, row (av g5 31) 161 fI64 (List.replicate 31 (0 : Int))]) ?_ N (l28, 0) hm
                      · rintro N ⟨l43, x44⟩ hI
                        have hm := hI; clear hI
                        cases N with
                        | zero => cases hm
                        | succ N =>
                        unfold i_distances_l4 at hm
                        refine WJ.seq ?_
                        refine WJ.quiet ?_
                        refine QJ.step (YldS.yld (y_bin rfl rfl rfl)) rfl ?_
                        refine QJ.done ?_
                        refine PJ.next ?_
                        refine WJ.seq ?_
                        refine WJ.cond (t := decide (x44 < (List.length [35, 60, 62] : Int))) rfl (fun hb45 => ?_) (fun hb45 => ?_)
                        · replace hm := ifT hm hb45
                          refine WJ.skip ?_
                          refine PJ.next ?_
                          obtain ⟨kj47, hk48, hm⟩ := withK_open hm
                          refine WJ.join (X := (List Int)) (fun (x : (List Int)) => kj47 x = some r) (fun (x : (List Int)) => [(0, v2), (4, pt g5 0), (5, pt g6 0), (7, .bool x29), (8, .int .i64 x22), (9, .int .i64 x30), (26, .int .i64 x30), (34, v42), (35, .int .i64 (List.length [35, 60, 62] : Int)), (36, .int .i64 x44)]) (fun (x : (List Int)) => [rowM v42 5 fByte [35, 60, 62], row (av g6 31) 161 fI64 x, row (av g5 31) 161 fI64 (List.replicate 31 (0 : Int))]) ?_ ?_
                          · clear hk48
                            refine WJ.block ?_
                            refine WJ.seq ?_
                            refine WJ.quiet ?_
                            obtain ⟨e49, h50, hm⟩ := bindS hm
                            refine QJ.step (YldS.yld (y_ixRowM (k := 0) (R := fByte) rfl Try.runUnderlying22 Try.sizeOf5 rfl rfl h50)) rfl ?_
                            refine QJ.step (YldS.yld (y_loadRM (k := 0) (i := (Int.toNat x44)) (off := 0) (u := .int .u8 (UInt8.toNat e49 : Int)) rfl Try.isAgg5 rfl (idx_get h50) rfl)) rfl ?_
                            refine QJ.step (YldS.yld (y_assign rfl)) rfl ?_
                            refine QJ.done ?_
                            refine PJ.next ?_
                            refine WJ.seq ?_
                            refine WJ.quiet ?_
                            refine QJ.step (YldS.yld (y_move rfl)) rfl ?_
                            refine QJ.step (YldS.yld (y_move rfl)) rfl ?_
                            refine QJ.step (YldS.yld (y_move rfl)) rfl ?_
                            obtain ⟨r51, h52, hm⟩ := bindS hm
                            refine QJ.step (y_call Try.call64 rfl (RetG.quiet fun w hw => ok_i_moved h52 w _ (hr3.st hw))) rfl ?_
                            refine QJ.step (YldS.yld (y_move rfl)) rfl ?_
                            refine QJ.step (YldS.yld (y_extract rfl rfl)) rfl ?_
                            refine QJ.step (YldS.yld (y_extract rfl rfl)) rfl ?_
                            refine QJ.step (YldS.yld (y_assign rfl)) rfl ?_
                            refine QJ.step (YldS.yld (y_assign rfl)) rfl ?_
                            refine QJ.done ?_
                            refine PJ.next ?_
                            refine WJ.seq ?_
                            refine WJ.quiet ?_
                            refine QJ.step (YldS.yld (y_move rfl)) rfl ?_
                            refine QJ.step (YldS.yld (y_move rfl)) rfl ?_
                            obtain ⟨t53, h54, hm⟩ := bindS hm
                            refine QJ.cut 6 [(0, v2), (4, pt g5 0), (5, pt g6 0), (7, .bool x29), (8, .int .i64 x22), (9, .int .i64 x30), (26, .int .i64 x30), (34, v42), (35, .int .i64 (List.length [35, 60, 62] : Int)), (36, .int .i64 x44), (54, .bool t53)] ?_ ?_
                            · rcases Bool.eq_false_or_eq_true r51.2 with hb55 | hb55
                              · replace h54 := andT h54 hb55
                                refine QJ.on rfl rfl (cB hb55) (YldS.yld (y_move rfl)) rfl ?_
                                obtain ⟨e56, h57, h54⟩ := bindS h54
                                refine QJ.on rfl rfl (cB hb55) (YldS.yld (y_ixArr (k := 1) (R := fI64) rfl Try.runUnderlying161 Try.sizeOf2 rfl rfl h57)) rfl ?_
                                refine QJ.on rfl rfl (cB hb55) (YldS.yld (y_loadR (k := 1) (i := (Int.toNat r51.1)) (off := 0) (u := .int .i64 e56) rfl Try.isAgg2 rfl (idx_get h57) rfl)) rfl ?_
                                refine QJ.on rfl rfl (cB hb55) (YldS.yld (y_move rfl)) rfl ?_
                                refine QJ.on rfl rfl (cB hb55) (YldS.yld (y_bin rfl rfl rfl)) rfl ?_
                                refine QJ.step (YldS.yld (y_pick_t (cB hb55) rfl)) rfl ?_
                                obtain rfl := Option.some.inj h54
                                exact QJ.cut_end ⟨rfl, rfl, rfl, rfl, rfl, rfl, rfl, rfl, rfl, rfl, rfl, trivial⟩
                              · obtain rfl := andF h54 hb55
                                refine QJ.off rfl rfl (cB hb55) rfl rfl ?_
                                refine QJ.off rfl rfl (cB hb55) rfl rfl ?_
                                refine QJ.off rfl rfl (cB hb55) rfl rfl ?_
                                refine QJ.off rfl rfl (cB hb55) rfl rfl ?_
                                refine QJ.off rfl rfl (cB hb55) rfl rfl ?_
                                refine QJ.step (YldS.yld (y_pick_f (cB hb55) rfl)) rfl ?_
                                exact QJ.cut_end ⟨rfl, rfl, rfl, rfl, rfl, rfl, rfl, rfl, rfl, rfl, rfl, trivial⟩
                            refine QJ.done ?_
                            refine PJ.next ?_
                            refine WJ.cond (t := t53) rfl (fun hb58 => ?_) (fun hb58 => ?_)
                            · replace hm := ifT hm hb58
                              refine WJ.reg ?_
                              refine SJ.q (YldS.yld (y_move rfl)) rfl ?_
                              refine SJ.q (YldS.yld (y_move rfl)) rfl ?_
                              refine SJ.q (YldS.yld (y_bin rfl rfl rfl)) rfl ?_
                              obtain ⟨e59, h60, hm⟩ := bindS hm
                              refine SJ.q (YldS.yld (y_ixArr (k := 1) (R := fI64) rfl Try.runUnderlying161 Try.sizeOf2 rfl rfl h60)) rfl ?_
                              refine SJ.storeRL (k := 1) (i := (Int.toNat x30)) (off := 0) (us := [.int .i64 (w64 (x22 + 1))]) (b := w64 (x22 + 1)) rfl rfl (idx_get h60) rfl rfl Try.sizeOf2 rfl rfl rfl ?_
                              refine SJ.nil ?_
                              refine PJ.block_normal ?_
                              exact PJ.joined (List.set l43 (Int.toNat x30) (w64 (x22 + 1))) [0, 1, 2] hm ⟨rfl, rfl, rfl, rfl, rfl, rfl, rfl, rfl, rfl, rfl, trivial⟩ ⟨by decide, rfl⟩
                            · replace hm := ifF hm hb58
                              refine WJ.skip ?_
                              refine PJ.block_normal ?_
                              exact PJ.joined l43 [0, 1, 2] hm ⟨rfl, rfl, rfl, rfl, rfl, rfl, rfl, rfl, rfl, rfl, trivial⟩ ⟨by decide, rfl⟩
                          · rintro l46 hm
                            subst hk48
                            refine WJ.quiet ?_
                            refine QJ.step (YldS.yld (y_bin rfl rfl rfl)) rfl ?_
                            refine QJ.step (YldS.yld (y_move rfl)) rfl ?_
                            refine QJ.done ?_
                            exact PJ.round (l46, w64 (x44 + 1)) [0, 1, 2] hm ⟨rfl, rfl, rfl, rfl, rfl, rfl, rfl, rfl, rfl, rfl, trivial⟩ ⟨by decide, rfl⟩
                        · replace hm := ifF hm hb45
                          refine WJ.exit ?_
                          refine PJ.then_exit (PJ.then_exit (PJ.block_exit ?_))
                          exact PJ.joined l43 [1, 2] hm ⟨rfl, rfl, rfl, rfl, rfl, rfl, rfl, trivial⟩ ⟨by decide, rfl⟩
                    · rintro l39 hm
                      subst hk41
                      refine WJ.quiet ?_
                      refine QJ.step (YldS.yld (y_move rfl)) rfl ?_
                      refine QJ.step (YldS.yld (y_move rfl)) rfl ?_
                      obtain ⟨t61, h62, hm⟩ := bindS hm
                      refine QJ.cut 5 [(0, v2), (4, pt g5 0), (5, pt g6 0), (8, .int .i64 x22), (26, .int .i64 x30), (66, .bool t61)] ?_ ?_
                      · rcases Bool.eq_false_or_eq_true x29 with hb63 | hb63
                        · obtain rfl := orT h62 hb63
                          refine QJ.off rfl rfl (cB hb63) rfl rfl ?_
                          refine QJ.off rfl rfl (cB hb63) rfl rfl ?_
                          refine QJ.off rfl rfl (cB hb63) rfl rfl ?_
                          refine QJ.off rfl rfl (cB hb63) rfl rfl ?_
                          refine QJ.step (YldS.yld (y_pick_t (cB hb63) rfl)) rfl ?_
                          exact QJ.cut_end ⟨rfl, rfl, rfl, rfl, rfl, rfl, trivial⟩
                        · replace h62 := orF h62 hb63
                          refine QJ.on rfl rfl (cB hb63) (YldS.yld (y_move rfl)) rfl ?_
                          obtain ⟨e64, h65, h62⟩ := bindS h62
                          refine QJ.on rfl rfl (cB hb63) (YldS.yld (y_ixArr (k := 0) (R := fI64) rfl Try.runUnderlying161 Try.sizeOf2 rfl rfl h65)) rfl ?_
                          refine QJ.on rfl rfl (cB hb63) (YldS.yld (y_loadR (k := 0) (i := (Int.toNat x30)) (off := 0) (u := .int .i64 e64) rfl Try.isAgg2 rfl (idx_get h65) rfl)) rfl ?_
                          refine QJ.on rfl rfl (cB hb63) (YldS.yld (y_bin rfl rfl rfl)) rfl ?_
                          refine QJ.step (YldS.yld (y_pick_f (cB hb63) rfl)) rfl ?_
                          obtain rfl := Option.some.inj h62
                          exact QJ.cut_end ⟨rfl, rfl, rfl, rfl, rfl, rfl, trivial⟩
                      refine QJ.step (YldS.yld (y_assign rfl)) rfl ?_
                      refine QJ.done ?_
                      refine PJ.block_normal ?_
                      exact PJ.joined (l39, t61) [0, 1] hm ⟨rfl, rfl, rfl, rfl, rfl, rfl, trivial⟩ ⟨by decide, rfl⟩
                · rintro ⟨l32, x33⟩ hm
                  subst hk35
                  refine WJ.quiet ?_
                  refine QJ.step (YldS.yld (y_bin rfl rfl rfl)) rfl ?_
                  refine QJ.step (YldS.yld (y_move rfl)) rfl ?_
                  refine QJ.done ?_
                  exact PJ.round (l32, x33, w64 (x30 + 1)) [0, 1] hm ⟨rfl, rfl, rfl, rfl, rfl, rfl, trivial⟩ ⟨by decide, rfl⟩
              · replace hm := ifF hm hb31
                refine WJ.exit ?_
                refine PJ.then_exit (PJ.then_exit (PJ.block_exit (PJ.block_normal ?_)))
                exact PJ.joined (l28, x29) [0, 1] hm ⟨rfl, rfl, rfl, rfl, rfl, trivial⟩ ⟨by decide, rfl⟩
          · rintro ⟨l24, x25⟩ hm
            subst hk27
            refine WJ.quiet ?_
            refine QJ.step (YldS.yld (y_move rfl)) rfl ?_
            refine QJ.step (YldS.yld (y_bin rfl rfl rfl)) rfl ?_
            refine QJ.step (YldS.yld (y_assign rfl)) rfl ?_
            refine QJ.done ?_
            exact PJ.round (l24, x25, w64 (x22 + 1)) [0, 1] hm ⟨rfl, rfl, rfl, rfl, rfl, trivial⟩ ⟨by decide, rfl⟩
        · replace hm := ifF hm hb23
          refine WJ.exit ?_
          refine PJ.then_exit (PJ.then_exit (PJ.block_exit ?_))
          exact PJ.joined l20 [0, 1] hm ⟨rfl, rfl, trivial⟩ ⟨by decide, rfl⟩
    · rintro l17 hm
      subst hk19
      refine WJ.seq ?_
      refine WJ.reg ?_
      refine SJ.q (YldS.yld (y_loadA (k := 0) (R := fI64) rfl Try.isAgg161 Try.sizeOf161 rfl rfl)) rfl ?_
      obtain ⟨l66, h67, hm⟩ := bindS hm
      refine SJ.storeA (k := 1) (ys := l17) rfl rfl rfl rfl (chkA_len h67) Try.sizeOf161 ((length_encs fI64 l17).trans (congrArg (fun z => z * (fI64).size) (chkA_len h67))) ?_
      refine SJ.nil ?_
      refine PJ.next ?_
      refine WJ.ret ?_
      refine PJ.boxA 1 rfl fun hlen68 => ?_
      obtain rfl := Option.some.inj hm
      exact PJ.retn_sel (vs := [.agg (List.toArray (encs fI64 l17))]) Try.results139 ⟨⟨1, g5, 161, (encs fI64 l17), rfl, rfl, .inl ⟨Try.isAgg161, fun w => (Try.sizeOf161 w).trans (congrArg (fun z => Result.ok z w) ((length_encs fI64 l17).trans (congrArg (fun z => z * (fI64).size) hlen68)).symm), rfl⟩⟩, trivial⟩ [] ⟨List.nodup_nil, rfl⟩ ⟨rfl, rfl⟩

set_option maxRecDepth 100000 in
set_option maxHeartbeats 1000000 in
theorem ok_i_planBetween {N : Nat} {stops1 : List Int} {from4 : Int} {to5 : Int} {r : Str} (hm : i_planBetween N stops1 from4 to5 = some r) (w : World) (v2 : Value) (hr3 : RdS w (cx w).Fz v2 fI64.rp stops1) :
    Calls Try.prog 112 #[v2, .int .i64 from4, .int .i64 to5] w (Ret (cx w) (str r)) := by
  unfold i_planBetween at hm
  refine Calls.enter [v2, .int .i64 from4, .int .i64 to5] Try.func112 rfl Try.ntmps112 rfl ?_
  refine WJ.seq ?_
  refine WJ.quiet ?_
  refine QJ.step (YldS.yld (y_assign rfl)) rfl ?_
  refine QJ.done ?_
  refine PJ.next ?_
  refine WJ.seq ?_
  refine WJ.reg ?_
  refine SJ.q (YldS.yld (y_move rfl)) rfl ?_
  refine SJ.q (YldS.yld (y_move rfl)) rfl ?_
  obtain ⟨r6, h7, hm⟩ := bindS hm
  refine SJ.q (y_call Try.call139 rfl (RetG.quiet fun w hw => ok_i_distances h7 w _ (hr3.st hw))) rfl ?_
  refine SJ.allocA (R := fI64) (xs := List.replicate 31 (0 : Int)) 31 zv161 rfl rfl rfl rfl fun g8 => ?_
  obtain ⟨l9, h10, hm⟩ := bindS hm
  refine SJ.storeA (k := 0) (ys := r6) rfl rfl rfl rfl (chkA_len h10) Try.sizeOf161 ((length_encs fI64 r6).trans (congrArg (fun z => z * (fI64).size) (chkA_len h10))) ?_
  refine SJ.nil ?_
  refine PJ.next ?_
  refine WJ.seq ?_
  refine WJ.reg ?_
  refine SJ.buildSlice (R := fByte) (os := []) [] Try.runUnderlying22 Try.sizeOf5 Try.zeroValue5 rfl rfl rfl rfl rfl rfl fun v11 => ?_
  refine SJ.q (YldS.yld (y_assign rfl)) rfl ?_
  refine SJ.nil ?_
  refine PJ.next ?_
  obtain ⟨kj14, hk15, hm⟩ := withK_open hm
  refine WJ.join (X := (List UInt8) × Value) (fun (x : (List UInt8) × Value) => kj14 x.1 = some r) (fun (x : (List UInt8) × Value) => [(8, x.2)]) (fun (x : (List UInt8) × Value) => [row x.2 5 fByte x.1]) ?_ ?_
  · clear hk15
    refine WJ.block ?_
    refine WJ.sel (L' := (fun (x : (List UInt8) × Value × Int) => [row x.2.1 5 fByte x.1, row (av g8 31) 161 fI64 r6]) ([], v11, from4)) [0, 1] ⟨by decide, rfl⟩ ?_
    refine WJ.sub (m' := (fun (x : (List UInt8) × Value × Int) => [(0, v2), (1, .int .i64 x.2.2), (2, .int .i64 to5), (7, pt g8 0), (8, x.2.1)]) ([], v11, from4)) ⟨rfl, rfl, rfl, rfl, rfl, trivial⟩ ?_
    refine WJ.loop (X := (List UInt8) × Value × Int) (fun N (x : (List UInt8) × Value × Int) => i_planBetween_l1 kj14 stops1 to5 r6 N x.1 x.2.2 = some r) (fun (x : (List UInt8) × Value × Int) => [(0, v2), (1, .int .i64 x.2.2), (2, .int .i64 to5), (7, pt g8 0), (8, x.2.1)]) (fun (x : (List UInt8) × Value × Int) => [row x.2.1 5 fByte x.1, row (av g8 31) 161 fI64 r6]) ?_ N ([], v11, from4) hm
    · rintro N ⟨l16, v17, from18⟩ hI
      have hm := hI; clear hI
      cases N with
      | zero => cases hm
      | succ N =>
      unfold i_planBetween_l1 at hm
      obtain ⟨kj22, hk23, hm⟩ := withK_open hm
      refine WJ.joinT (X := (List UInt8) × Value × Int) (fun (x : (List UInt8) × Value × Int) => kj22 x.1 x.2.2 = some r) (fun (x : (List UInt8) × Value × Int) => [(0, v2), (1, .int .i64 x.2.2), (2, .int .i64 to5), (7, pt g8 0), (8, x.2.1)]) (fun (x : (List UInt8) × Value × Int) => [row x.2.1 5 fByte x.1, row (av g8 31) 161 fI64 r6]) ?_ ?_
      · clear hk23
        refine WJ.seq ?_
        refine WJ.seq ?_
        refine WJ.quiet ?_
        refine QJ.step (YldS.yld (y_move rfl)) rfl ?_
        refine QJ.step (YldS.yld (y_move rfl)) rfl ?_
        refine QJ.step (YldS.yld (y_bin rfl rfl rfl)) rfl ?_
        refine QJ.done ?_
        refine PJ.next ?_
        refine WJ.cond (t := (from18 != to5)) rfl (fun hb24 => ?_) (fun hb24 => ?_)
        · replace hm := ifT hm hb24
          refine WJ.skip ?_
          refine PJ.next ?_
          refine WJ.block ?_
          refine WJ.seq ?_
          refine WJ.reg ?_
          refine SJ.buildSlice (R := fByte) (os := [.const (.int .u8 (UInt8.toNat 35 : Int)), .const (.int .u8 (UInt8.toNat 60 : Int)), .const (.int .u8 (UInt8.toNat 62 : Int))]) [35, 60, 62] Try.runUnderlying22 Try.sizeOf5 Try.zeroValue5 rfl rfl rfl rfl rfl rfl fun v25 => ?_
          refine SJ.convMark (k := 0) rfl Try.underlying22 Try.underlying5 rfl rfl ?_
          refine SJ.q (YldS.yld (y_lenRowM (k := 0) rfl Try.runUnderlying22 rfl)) rfl ?_
          refine SJ.q (YldS.yld (y_move rfl)) rfl ?_
          refine SJ.nil ?_
          refine PJ.next ?_
          refine WJ.block ?_
          refine WJ.sel (L' := (fun (x : (List UInt8) × Value × Int × Int) => [rowM v25 5 fByte [35, 60, 62], row x.2.1 5 fByte x.1, row (av g8 31) 161 fI64 r6]) (l16, v17, from18, 0)) [0, 1, 2] ⟨by decide, rfl⟩ ?_
          refine WJ.sub (m' := (fun (x : (List UInt8) × Value × Int × Int) => [(0, v2), (1, .int .i64 x.2.2.1), (2, .int .i64 to5), (7, pt g8 0), (8, x.2.1), (21, v25), (22, .int .i64 (List.length [35, 60, 62] : Int)), (23, .int .i64 x.2.2.2)]) (l16, v17, from18, 0)) ⟨rfl, rfl, rfl, rfl, rfl, rfl, rfl, rfl, trivial⟩ ?_
          refine WJ.loop (X := (List UInt8) × Value × Int × Int) (fun N (x : (List UInt8) × Value × Int × Int) => i_planBetween_l2 kj22 stops1 r6 N x.1 x.2.2.1 x.2.2.2 = some r) (fun (x : (List UInt8) × Value × Int × Int) => [(0, v2), (1, .int .i64 x.2.2.1), (2, .int .i64 to5), (7, pt g8 0), (8, x.2.1), (21, v25), (22, .int .i64 (List.length [35, 60, 62] : Int)), (23, .int .i64 x.2.2.2)]) (fun (x : (List UInt8) × Value × Int × Int) => [rowM v25 5 fByte [35, 60, 62], row x.2.1 5 fByte x.1, row (av g8 31) 161 fI64 r6]) ?_ N (l16, v17, from18, 0) hm
          · rintro N ⟨l26, v27, from28, x29⟩ hI
            have hm := hI; clear hI
            cases N with
            | zero => cases hm
            | succ N =>
            unfold i_planBetween_l2 at hm
            refine WJ.seq ?_
            refine WJ.quiet ?_
            refine QJ.step (YldS.yld (y_bin rfl rfl rfl)) rfl ?_
            refine QJ.done ?_
            refine PJ.next ?_
            refine WJ.seq ?_
            refine WJ.cond (t := decide (x29 < (List.length [35, 60, 62] : Int))) rfl (fun hb30 => ?_) (fun hb30 => ?_)
            · replace hm := ifT hm hb30
              refine WJ.skip ?_
              refine PJ.next ?_
              refine WJ.seq ?_
              refine WJ.block ?_
              refine WJ.seq ?_
              refine WJ.quiet ?_
              obtain ⟨e31, h32, hm⟩ := bindS hm
              refine QJ.step (YldS.yld (y_ixRowM (k := 0) (R := fByte) rfl Try.runUnderlying22 Try.sizeOf5 rfl rfl h32)) rfl ?_
              refine QJ.step (YldS.yld (y_loadRM (k := 0) (i := (Int.toNat x29)) (off := 0) (u := .int .u8 (UInt8.toNat e31 : Int)) rfl Try.isAgg5 rfl (idx_get h32) rfl)) rfl ?_
              refine QJ.step (YldS.yld (y_assign rfl)) rfl ?_
              refine QJ.done ?_
              refine PJ.next ?_
              refine WJ.seq ?_
              refine WJ.quiet ?_
              refine QJ.step (YldS.yld (y_move rfl)) rfl ?_
              refine QJ.step (YldS.yld (y_move rfl)) rfl ?_
              refine QJ.step (YldS.yld (y_move rfl)) rfl ?_
              obtain ⟨r33, h34, hm⟩ := bindS hm
              refine QJ.step (y_call Try.call64 rfl (RetG.quiet fun w hw => ok_i_moved h34 w _ (hr3.st hw))) rfl ?_
              refine QJ.step (YldS.yld (y_move rfl)) rfl ?_
              refine QJ.step (YldS.yld (y_extract rfl rfl)) rfl ?_
              refine QJ.step (YldS.yld (y_extract rfl rfl)) rfl ?_
              refine QJ.step (YldS.yld (y_assign rfl)) rfl ?_
              refine QJ.step (YldS.yld (y_assign rfl)) rfl ?_
              refine QJ.done ?_
              refine PJ.next ?_
              refine WJ.seq ?_
              refine WJ.quiet_draw follows (by kernel_rfl) ?_
              refine QJ.step (YldS.yld (y_move rfl)) rfl ?_
              refine QJ.step (YldS.yld (y_move rfl)) rfl ?_
              obtain ⟨t35, h36, hm⟩ := bindS hm
              refine QJ.cut 9 [(0, v2), (1, .int .i64 from28), (2, .int .i64 to5), (7, pt g8 0), (8, v27), (10, .int .u8 (UInt8.toNat e31 : Int)), (11, .int .i64 r33.1), (21, v25), (22, .int .i64 (List.length [35, 60, 62] : Int)), (23, .int .i64 x29), (44, .bool t35)] ?_ ?_
              · rcases Bool.eq_false_or_eq_true r33.2 with hb37 | hb37
                · replace h36 := andT h36 hb37
                  refine QJ.on rfl rfl (cB hb37) (YldS.yld (y_move rfl)) rfl ?_
                  obtain ⟨e38, h39, h36⟩ := bindS h36
                  refine QJ.on rfl rfl (cB hb37) (YldS.yld (y_ixArr (k := 2) (R := fI64) rfl Try.runUnderlying161 Try.sizeOf2 rfl rfl h39)) rfl ?_
                  refine QJ.on rfl rfl (cB hb37) (YldS.yld (y_loadR (k := 2) (i := (Int.toNat r33.1)) (off := 0) (u := .int .i64 e38) rfl Try.isAgg2 rfl (idx_get h39) rfl)) rfl ?_
                  refine QJ.on rfl rfl (cB hb37) (YldS.yld (y_move rfl)) rfl ?_
                  obtain ⟨e40, h41, h36⟩ := bindS h36
                  refine QJ.on rfl rfl (cB hb37) (YldS.yld (y_ixArr (k := 2) (R := fI64) rfl Try.runUnderlying161 Try.sizeOf2 rfl rfl h41)) rfl ?_
                  refine QJ.on rfl rfl (cB hb37) (YldS.yld (y_loadR (k := 2) (i := (Int.toNat from28)) (off := 0) (u := .int .i64 e40) rfl Try.isAgg2 rfl (idx_get h41) rfl)) rfl ?_
                  refine QJ.on rfl rfl (cB hb37) (YldS.yld (y_bin rfl rfl rfl)) rfl ?_
                  refine QJ.on rfl rfl (cB hb37) (YldS.yld (y_bin rfl rfl rfl)) rfl ?_
                  refine QJ.step (YldS.yld (y_pick_t (cB hb37) rfl)) rfl ?_
                  obtain rfl := Option.some.inj h36
                  exact QJ.cut_end ⟨rfl, rfl, rfl, rfl, rfl, rfl, rfl, rfl, rfl, rfl, rfl, trivial⟩
                · obtain rfl := andF h36 hb37
                  refine QJ.off rfl rfl (cB hb37) rfl rfl ?_
                  refine QJ.off rfl rfl (cB hb37) rfl rfl ?_
                  refine QJ.off rfl rfl (cB hb37) rfl rfl ?_
                  refine QJ.off rfl rfl (cB hb37) rfl rfl ?_
                  refine QJ.off rfl rfl (cB hb37) rfl rfl ?_
                  refine QJ.off rfl rfl (cB hb37) rfl rfl ?_
                  refine QJ.off rfl rfl (cB hb37) rfl rfl ?_
                  refine QJ.off rfl rfl (cB hb37) rfl rfl ?_
                  refine QJ.step (YldS.yld (y_pick_f (cB hb37) rfl)) rfl ?_
                  exact QJ.cut_end ⟨rfl, rfl, rfl, rfl, rfl, rfl, rfl, rfl, rfl, rfl, rfl, trivial⟩
              refine QJ.done ?_
              refine PJ.next ?_
              refine WJ.cond (t := t35) rfl (fun hb42 => ?_) (fun hb42 => ?_)
              · replace hm := ifT hm hb42
                refine WJ.seq ?_
                refine WJ.reg ?_
                refine SJ.q (YldS.yld (y_move rfl)) rfl ?_
                refine SJ.q (YldS.yld (y_move rfl)) rfl ?_
                refine SJ.buildSlice (R := fByte) (os := [.tmp 46]) [e31] Try.runUnderlying22 Try.sizeOf5 Try.zeroValue5 rfl rfl rfl rfl rfl rfl fun v43 => ?_
                obtain ⟨l44, h45, hm⟩ := bindS hm
                refine SJ.append (k := 2) (R := fByte) h45 rfl Try.underlying22 el5 rfl rfl rfl (fun w hw => (hw.row_rd (k := 0) rfl)) rfl fun v46 => ?_
                refine SJ.q (YldS.yld (y_assign rfl)) rfl ?_
                refine SJ.nil ?_
                refine PJ.next ?_
                refine WJ.seq ?_
                refine WJ.quiet ?_
                refine QJ.step (YldS.yld (y_move rfl)) rfl ?_
                refine QJ.step (YldS.yld (y_assign rfl)) rfl ?_
                refine QJ.done ?_
                refine PJ.next ?_
                refine WJ.exit ?_
                refine PJ.block_exit_ne rfl (PJ.then_exit (PJ.then_exit (PJ.block_exit (PJ.block_normal ?_))))
                exact PJ.joined (l44, v46, r33.1) [2, 3] hm ⟨rfl, rfl, rfl, rfl, rfl, trivial⟩ ⟨by decide, rfl⟩
              · replace hm := ifF hm hb42
                refine WJ.skip ?_
                refine PJ.block_normal (PJ.next ?_)
                refine WJ.quiet ?_
                refine QJ.step (YldS.yld (y_bin rfl rfl rfl)) rfl ?_
                refine QJ.step (YldS.yld (y_move rfl)) rfl ?_
                refine QJ.done ?_
                exact PJ.round (l26, v27, from28, w64 (x29 + 1)) [0, 1, 2] hm ⟨rfl, rfl, rfl, rfl, rfl, rfl, rfl, rfl, trivial⟩ ⟨by decide, rfl⟩
            · replace hm := ifF hm hb30
              refine WJ.exit ?_
              refine PJ.then_exit (PJ.then_exit (PJ.block_exit (PJ.block_normal ?_)))
              exact PJ.joined (l26, v27, from28) [1, 2] hm ⟨rfl, rfl, rfl, rfl, rfl, trivial⟩ ⟨by decide, rfl⟩
        · replace hm := ifF hm hb24
          refine WJ.exit ?_
          refine PJ.then_exit (PJ.then_exit (PJ.then_exit (PJ.block_exit ?_)))
          exact PJ.joined (l16, v17) [0] hm ⟨rfl, trivial⟩ ⟨by decide, rfl⟩
      · rintro ⟨l19, v20, from21⟩ hm
        subst hk23
        exact PJ.round (l19, v20, from21) [0, 1] hm ⟨rfl, rfl, rfl, rfl, rfl, trivial⟩ ⟨by decide, rfl⟩
  · rintro ⟨l12, v13⟩ hm
    subst hk15
    refine WJ.seq ?_
    refine WJ.quiet ?_
    refine QJ.step (YldS.yld (y_move rfl)) rfl ?_
    refine QJ.step (YldS.yld (y_b2s Try.underlying22 Try.underlying9 Try.underlying5 (fun w hw => ⟨_, (hw.row_rd (k := 0) rfl)⟩) rfl)) rfl ?_
    refine QJ.step (YldS.yld (y_assign rfl)) rfl ?_
    refine QJ.done ?_
    refine PJ.next ?_
    refine WJ.ret ?_
    obtain rfl := Option.some.inj hm
    refine PJ.sel (L' := []) [] ⟨List.nodup_nil, rfl⟩ ?_
    exact PJ.retn (vs := [str l12]) Try.results112 ⟨rfl, trivial⟩ ⟨rfl, rfl⟩

set_option maxRecDepth 100000 in
set_option maxHeartbeats 1000000 in
theorem ok_i_rowPlan {N : Nat} {stops1 : List Int} {row4 : Str} {r : Str × Int} (hm : i_rowPlan N stops1 row4 = some r) (w : World) (v2 : Value) (hr3 : RdS w (cx w).Fz v2 fI64.rp stops1) :
    Calls Try.prog 63 #[v2, str row4] w (Ret (cx w) (tup [str r.1, .int .i64 r.2])) := by
  unfold i_rowPlan at hm
  refine Calls.enter [v2, str row4] Try.func63 rfl Try.ntmps63 rfl ?_
  refine WJ.seq ?_
  refine WJ.quiet ?_
  refine QJ.step (YldS.yld (y_assign rfl)) rfl ?_
  refine QJ.step (YldS.yld (y_assign rfl)) rfl ?_
  refine QJ.done ?_
  refine PJ.next ?_
  refine WJ.seq ?_
  refine WJ.quiet ?_
  refine QJ.step (YldS.yld (y_assign rfl)) rfl ?_
  refine QJ.step (YldS.yld (y_assign rfl)) rfl ?_
  refine QJ.step (YldS.yld (y_assign rfl)) rfl ?_
  refine QJ.done ?_
  refine PJ.next ?_
  obtain ⟨kj7, hk8, hm⟩ := withK_open hm
  refine WJ.join (X := Str × Int) (fun (x : Str × Int) => kj7 x.1 x.2 = some r) (fun (x : Str × Int) => [(6, str x.1), (7, .int .i64 x.2)]) (fun (x : Str × Int) => []) ?_ ?_
  · clear hk8
    refine WJ.seq ?_
    refine WJ.quiet ?_
    refine QJ.step (YldS.yld (y_move rfl)) rfl ?_
    refine QJ.step (YldS.yld (y_lenStr Try.runUnderlying9 rfl)) rfl ?_
    refine QJ.step (YldS.yld (y_move rfl)) rfl ?_
    refine QJ.done ?_
    refine PJ.next ?_
    refine WJ.block ?_
    refine WJ.sel (L' := (fun (x : Str × Int × Int × Int) => []) ([], 0, 0, 0)) [] ⟨List.nodup_nil, rfl⟩ ?_
    refine WJ.sub (m' := (fun (x : Str × Int × Int × Int) => [(0, v2), (1, str row4), (6, str x.1), (7, .int .i64 x.2.1), (8, .int .i64 x.2.2.1), (12, .int .i64 (List.length row4 : Int)), (13, .int .i64 x.2.2.2)]) ([], 0, 0, 0)) ⟨rfl, rfl, rfl, rfl, rfl, rfl, rfl, trivial⟩ ?_
    refine WJ.loop (X := Str × Int × Int × Int) (fun N (x : Str × Int × Int × Int) => i_rowPlan_l1 kj7 stops1 row4 N x.1 x.2.1 x.2.2.1 x.2.2.2 = some r) (fun (x : Str × Int × Int × Int) => [(0, v2), (1, str row4), (6, str x.1), (7, .int .i64 x.2.1), (8, .int .i64 x.2.2.1), (12, .int .i64 (List.length row4 : Int)), (13, .int .i64 x.2.2.2)]) (fun (x : Str × Int × Int × Int) => []) ?_ N ([], 0, 0, 0) hm
    · rintro N ⟨plan9, moves10, at11, x12⟩ hI
      have hm := hI; clear hI
      cases N with
      | zero => cases hm
      | succ N =>
      unfold i_rowPlan_l1 at hm
      refine WJ.seq ?_
      refine WJ.quiet ?_
      refine QJ.step (YldS.yld (y_bin rfl rfl rfl)) rfl ?_
      refine QJ.done ?_
      refine PJ.next ?_
      refine WJ.seq ?_
      refine WJ.cond (t := decide (x12 < (List.length row4 : Int))) rfl (fun hb13 => ?_) (fun hb13 => ?_)
      · replace hm := ifT hm hb13
        refine WJ.skip ?_
        refine PJ.next ?_
        obtain ⟨kj17, hk18, hm⟩ := withK_open hm
        refine WJ.join (X := Str × Int × Int) (fun (x : Str × Int × Int) => kj17 x.1 x.2.1 x.2.2 = some r) (fun (x : Str × Int × Int) => [(0, v2), (1, str row4), (6, str x.1), (7, .int .i64 x.2.1), (8, .int .i64 x.2.2), (12, .int .i64 (List.length row4 : Int)), (13, .int .i64 x12)]) (fun (x : Str × Int × Int) => []) ?_ ?_
        · clear hk18
          refine WJ.block ?_
          refine WJ.seq ?_
          refine WJ.quiet ?_
          refine QJ.step (YldS.yld (y_move rfl)) rfl ?_
          refine QJ.step (YldS.yld (y_assign rfl)) rfl ?_
          refine QJ.done ?_
          refine PJ.next ?_
          refine WJ.seq ?_
          refine WJ.seq ?_
          refine WJ.quiet ?_
          refine QJ.step (YldS.yld (y_move rfl)) rfl ?_
          refine QJ.step (YldS.yld (y_move rfl)) rfl ?_
          obtain ⟨c19, h20, hm⟩ := bindS hm
          refine QJ.step (YldS.yld (y_idxStr Try.runUnderlying9 rfl rfl h20)) rfl ?_
          refine QJ.step (YldS.yld (y_bin8 c19 (32 : UInt8) rfl rfl rfl)) rfl ?_
          refine QJ.done ?_
          refine PJ.next ?_
          refine WJ.cond (t := (c19 == (32 : UInt8))) rfl (fun hb21 => ?_) (fun hb21 => ?_)
          · replace hm := ifT hm hb21
            refine WJ.exit ?_
            refine PJ.then_exit (PJ.block_exit ?_)
            exact PJ.joined (plan9, moves10, at11) [] hm ⟨rfl, rfl, rfl, rfl, rfl, rfl, rfl, trivial⟩ ⟨List.nodup_nil, rfl⟩
          · replace hm := ifF hm hb21
            refine WJ.skip ?_
            refine PJ.next ?_
            refine WJ.seq ?_
            refine WJ.quiet ?_
            refine QJ.step (YldS.yld (y_move rfl)) rfl ?_
            refine QJ.step (YldS.yld (y_move rfl)) rfl ?_
            refine QJ.step (YldS.yld (y_move rfl)) rfl ?_
            obtain ⟨r22, h23, hm⟩ := bindS hm
            refine QJ.step (y_call Try.call112 rfl (RetG.quiet fun w hw => ok_i_planBetween h23 w _ (hr3.st hw))) rfl ?_
            refine QJ.step (YldS.yld (y_assign rfl)) rfl ?_
            refine QJ.done ?_
            refine PJ.next ?_
            refine WJ.seq ?_
            refine WJ.quiet ?_
            refine QJ.step (YldS.yld (y_move rfl)) rfl ?_
            refine QJ.step (YldS.yld (y_move rfl)) rfl ?_
            obtain ⟨s24, h25, hm⟩ := bindS hm
            refine QJ.step (YldS.yld (y_cat h25 rfl rfl)) rfl ?_
            refine QJ.step (YldS.yld (y_move rfl)) rfl ?_
            refine QJ.step (YldS.yld (y_move rfl)) rfl ?_
            refine QJ.step (YldS.yld (y_move rfl)) rfl ?_
            refine QJ.step (YldS.yld (y_bin rfl rfl rfl)) rfl ?_
            obtain ⟨s26, h27, hm⟩ := bindS hm
            refine QJ.step (YldS.yld (y_subStr (i := some x12) (j := some (w64 (x12 + 1))) h27 Try.runUnderlying9 rfl ⟨_, rfl⟩ ⟨_, rfl⟩)) rfl ?_
            obtain ⟨s28, h29, hm⟩ := bindS hm
            refine QJ.step (YldS.yld (y_cat h29 rfl rfl)) rfl ?_
            obtain ⟨s30, h31, hm⟩ := bindS hm
            refine QJ.step (YldS.yld (y_cat h31 rfl rfl)) rfl ?_
            refine QJ.step (YldS.yld (y_assign rfl)) rfl ?_
            refine QJ.done ?_
            refine PJ.next ?_
            refine WJ.seq ?_
            refine WJ.quiet ?_
            refine QJ.step (YldS.yld (y_move rfl)) rfl ?_
            refine QJ.step (YldS.yld (y_move rfl)) rfl ?_
            refine QJ.step (YldS.yld (y_lenStr Try.runUnderlying9 rfl)) rfl ?_
            refine QJ.step (YldS.yld (y_bin rfl rfl rfl)) rfl ?_
            refine QJ.step (YldS.yld (y_assign rfl)) rfl ?_
            refine QJ.done ?_
            refine PJ.next ?_
            refine WJ.quiet ?_
            refine QJ.step (YldS.yld (y_move rfl)) rfl ?_
            refine QJ.step (YldS.yld (y_bin rfl rfl rfl)) rfl ?_
            refine QJ.step (YldS.yld (y_assign rfl)) rfl ?_
            refine QJ.done ?_
            refine PJ.block_normal ?_
            exact PJ.joined (s30, w64 (moves10 + (List.length r22 : Int)), w64 (x12 + 1)) [] hm ⟨rfl, rfl, rfl, rfl, rfl, rfl, rfl, trivial⟩ ⟨List.nodup_nil, rfl⟩
        · rintro ⟨plan14, moves15, at16⟩ hm
          subst hk18
          refine WJ.quiet ?_
          refine QJ.step (YldS.yld (y_bin rfl rfl rfl)) rfl ?_
          refine QJ.step (YldS.yld (y_move rfl)) rfl ?_
          refine QJ.done ?_
          exact PJ.round (plan14, moves15, at16, w64 (x12 + 1)) [] hm ⟨rfl, rfl, rfl, rfl, rfl, rfl, rfl, trivial⟩ ⟨List.nodup_nil, rfl⟩
      · replace hm := ifF hm hb13
        refine WJ.exit ?_
        refine PJ.then_exit (PJ.then_exit (PJ.block_exit ?_))
        exact PJ.joined (plan9, moves10) [] hm ⟨rfl, rfl, trivial⟩ ⟨List.nodup_nil, rfl⟩
  · rintro ⟨plan5, moves6⟩ hm
    subst hk8
    refine WJ.seq ?_
    refine WJ.quiet ?_
    refine QJ.step (YldS.yld (y_move rfl)) rfl ?_
    refine QJ.step (YldS.yld (y_move rfl)) rfl ?_
    refine QJ.step (YldS.yld (y_assign rfl)) rfl ?_
    refine QJ.step (YldS.yld (y_assign rfl)) rfl ?_
    refine QJ.done ?_
    refine PJ.next ?_
    refine WJ.ret ?_
    obtain rfl := Option.some.inj hm
    refine PJ.sel (L' := []) [] ⟨List.nodup_nil, rfl⟩ ?_
    exact PJ.retn (vs := [str plan5, .int .i64 moves6]) Try.results63 ⟨rfl, rfl, trivial⟩ ⟨rfl, rfl⟩

set_option maxRecDepth 100000 in
set_option maxHeartbeats 1000000 in
theorem ok_i_pageMoves {N : Nat} {stops1 : List Int} {rows4 : List Str} {r : Int} (hm : i_pageMoves N stops1 rows4 = some r) (w : World) (v2 : Value) (hr3 : RdS w (cx w).Fz v2 fI64.rp stops1) (v5 : Value) (hr6 : RdS w (cx w).Fz v5 fStr.rp rows4) :
    Calls Try.prog 67 #[v2, v5] w (Ret (cx w) (.int .i64 r)) := by
  unfold i_pageMoves at hm
  refine Calls.enter [v2, v5] Try.func67 rfl Try.ntmps67 rfl ?_
  refine WJ.seq ?_
  refine WJ.quiet ?_
  refine QJ.step (YldS.yld (y_assign rfl)) rfl ?_
  refine QJ.done ?_
  refine PJ.next ?_
  refine WJ.seq ?_
  refine WJ.quiet ?_
  refine QJ.step (YldS.yld (y_assign rfl)) rfl ?_
  refine QJ.done ?_
  refine PJ.next ?_
  obtain ⟨kj8, hk9, hm⟩ := withK_open hm
  refine WJ.join (X := Int) (fun (x : Int) => kj8 x = some r) (fun (x : Int) => [(5, .int .i64 x)]) (fun (x : Int) => []) ?_ ?_
  · clear hk9
    refine WJ.seq ?_
    refine WJ.quiet ?_
    refine QJ.step (YldS.yld (y_move rfl)) rfl ?_
    refine QJ.step (YldS.yld (y_lenS Try.runUnderlying32 hr6 rfl)) rfl ?_
    refine QJ.step (YldS.yld (y_move rfl)) rfl ?_
    refine QJ.done ?_
    refine PJ.next ?_
    refine WJ.block ?_
    refine WJ.sel (L' := (fun (x : Int × Int) => []) (0, 0)) [] ⟨List.nodup_nil, rfl⟩ ?_
    refine WJ.sub (m' := (fun (x : Int × Int) => [(0, v2), (5, .int .i64 x.1), (10, v5), (11, .int .i64 (List.length rows4 : Int)), (12, .int .i64 x.2)]) (0, 0)) ⟨rfl, rfl, rfl, rfl, rfl, trivial⟩ ?_
    refine WJ.loop (X := Int × Int) (fun N (x : Int × Int) => i_pageMoves_l1 kj8 stops1 rows4 N x.1 x.2 = some r) (fun (x : Int × Int) => [(0, v2), (5, .int .i64 x.1), (10, v5), (11, .int .i64 (List.length rows4 : Int)), (12, .int .i64 x.2)]) (fun (x : Int × Int) => []) ?_ N (0, 0) hm
    · rintro N ⟨sum10, x11⟩ hI
      have hm := hI; clear hI
      cases N with
      | zero => cases hm
      | succ N =>
      unfold i_pageMoves_l1 at hm
      refine WJ.seq ?_
      refine WJ.quiet ?_
      refine QJ.step (YldS.yld (y_bin rfl rfl rfl)) rfl ?_
      refine QJ.done ?_
      refine PJ.next ?_
      refine WJ.seq ?_
      refine WJ.cond (t := decide (x11 < (List.length rows4 : Int))) rfl (fun hb12 => ?_) (fun hb12 => ?_)
      · replace hm := ifT hm hb12
        refine WJ.skip ?_
        refine PJ.next ?_
        refine WJ.seq ?_
        refine WJ.block ?_
        refine WJ.seq ?_
        refine WJ.quiet ?_
        obtain ⟨e13, h14, hm⟩ := bindS hm
        obtain ⟨ad15, _, rfl, ha16, hy17⟩ := hr6.elem h14
        refine QJ.step (YldS.yld (hy17 Try.runUnderlying32 Try.sizeOf9 rfl rfl)) rfl ?_
        refine QJ.step (YldS.yld (y_load1 (v := str e13) Try.isAgg9 ha16 St.frozenC rfl)) rfl ?_
        refine QJ.step (YldS.yld (y_assign rfl)) rfl ?_
        refine QJ.done ?_
        refine PJ.next ?_
        refine WJ.seq ?_
        refine WJ.quiet ?_
        refine QJ.step (YldS.yld (y_move rfl)) rfl ?_
        refine QJ.step (YldS.yld (y_move rfl)) rfl ?_
        obtain ⟨r18, h19, hm⟩ := bindS hm
        refine QJ.step (y_call Try.call63 rfl (RetG.quiet fun w hw => ok_i_rowPlan h19 w _ (hr3.st hw))) rfl ?_
        refine QJ.step (YldS.yld (y_move rfl)) rfl ?_
        refine QJ.step (YldS.yld (y_extract rfl rfl)) rfl ?_
        refine QJ.step (YldS.yld (y_extract rfl rfl)) rfl ?_
        refine QJ.step (YldS.yld (y_assign rfl)) rfl ?_
        refine QJ.step (YldS.yld (y_assign rfl)) rfl ?_
        refine QJ.done ?_
        refine PJ.next ?_
        refine WJ.quiet ?_
        refine QJ.step (YldS.yld (y_move rfl)) rfl ?_
        refine QJ.step (YldS.yld (y_move rfl)) rfl ?_
        refine QJ.step (YldS.yld (y_bin rfl rfl rfl)) rfl ?_
        refine QJ.step (YldS.yld (y_assign rfl)) rfl ?_
        refine QJ.done ?_
        refine PJ.block_normal (PJ.next ?_)
        refine WJ.quiet ?_
        refine QJ.step (YldS.yld (y_bin rfl rfl rfl)) rfl ?_
        refine QJ.step (YldS.yld (y_move rfl)) rfl ?_
        refine QJ.done ?_
        exact PJ.round (w64 (sum10 + r18.2), w64 (x11 + 1)) [] hm ⟨rfl, rfl, rfl, rfl, rfl, trivial⟩ ⟨List.nodup_nil, rfl⟩
      · replace hm := ifF hm hb12
        refine WJ.exit ?_
        refine PJ.then_exit (PJ.then_exit (PJ.block_exit ?_))
        exact PJ.joined sum10 [] hm ⟨rfl, trivial⟩ ⟨List.nodup_nil, rfl⟩
  · rintro sum7 hm
    subst hk9
    refine WJ.seq ?_
    refine WJ.quiet ?_
    refine QJ.step (YldS.yld (y_move rfl)) rfl ?_
    refine QJ.step (YldS.yld (y_assign rfl)) rfl ?_
    refine QJ.done ?_
    refine PJ.next ?_
    refine WJ.ret ?_
    obtain rfl := Option.some.inj hm
    refine PJ.sel (L' := []) [] ⟨List.nodup_nil, rfl⟩ ?_
    exact PJ.retn (vs := [.int .i64 sum7]) Try.results67 ⟨rfl, trivial⟩ ⟨rfl, rfl⟩

set_option maxRecDepth 100000 in
set_option maxHeartbeats 1000000 in
theorem ok_i_BestStops {N : Nat} {rows1 : List Str} {x4 : Int} {r : (List Int) × Int × Int} (hm : i_BestStops N rows1 x4 = some r) (w : World) (v2 : Value) (hr3 : RdS w (cx w).Fz v2 fStr.rp rows1) :
    Calls Try.prog 48 #[v2, .int .i64 x4] w (RetG (cx w) fun u L => ∃ (u1 : Value), (u = tup [u1, .int .i64 r.2.1, .int .i64 r.2.2] ∧ L = [vw u1 fI64.rp r.1])) := by
  unfold i_BestStops at hm
  refine Calls.enter [v2, .int .i64 x4] Try.func48 rfl Try.ntmps48 rfl ?_
  refine WJ.seq ?_
  refine WJ.quiet ?_
  refine QJ.step (YldS.yld (y_assign rfl)) rfl ?_
  refine QJ.step (YldS.yld (y_assign rfl)) rfl ?_
  refine QJ.step (YldS.yld (y_assign rfl)) rfl ?_
  refine QJ.done ?_
  refine PJ.next ?_
  refine WJ.seq ?_
  refine WJ.seq ?_
  refine WJ.quiet ?_
  refine QJ.step (YldS.yld (y_move rfl)) rfl ?_
  obtain ⟨r5, h6, hm⟩ := bindS hm
  refine QJ.step (y_call Try.call66 rfl (RetG.quiet fun w hw => ok_i_rowsCode h6 w _ (hr3.st hw))) rfl ?_
  refine QJ.step (YldS.yld (y_assign rfl)) rfl ?_
  refine QJ.done ?_
  refine PJ.next ?_
  refine WJ.seq ?_
  refine WJ.quiet ?_
  refine QJ.step (YldS.yld (y_move rfl)) rfl ?_
  refine QJ.step (YldS.yld (y_bin rfl rfl rfl)) rfl ?_
  refine QJ.done ?_
  refine PJ.next ?_
  refine WJ.cond (t := (r5 != 0)) rfl (fun hb7 => ?_) (fun hb7 => ?_)
  · replace hm := ifT hm hb7
    refine WJ.seq ?_
    refine WJ.quiet ?_
    refine QJ.step (YldS.yld (y_move rfl)) rfl ?_
    refine QJ.step (YldS.yld (y_assign rfl)) rfl ?_
    refine QJ.step (YldS.yld (y_assign rfl)) rfl ?_
    refine QJ.step (YldS.yld (y_assign rfl)) rfl ?_
    refine QJ.done ?_
    refine PJ.next ?_
    refine WJ.ret ?_
    refine PJ.then_ret ?_
    refine PJ.nil_row 2 fI64 ?_
    refine PJ.view 0 rfl ?_
    obtain rfl := Option.some.inj hm
    refine PJ.sel (L' := [vw (.slice none 0 0) fI64.rp []]) [0] ⟨by decide, rfl⟩ ?_
    exact PJ.retn (vs := [(.slice none 0 0), .int .i64 0, .int .i64 r5]) Try.results48 ⟨rfl, rfl, rfl, trivial⟩ ⟨_, rfl, rfl⟩
  · replace hm := ifF hm hb7
    refine WJ.skip ?_
    refine PJ.next ?_
    refine WJ.seq ?_
    refine WJ.seq ?_
    refine WJ.quiet ?_
    refine QJ.step (YldS.yld (y_move rfl)) rfl ?_
    obtain ⟨r8, h9, hm⟩ := bindS hm
    refine QJ.step (y_call Try.call69 rfl (RetG.quiet fun w hw => ok_i_between h9 w )) rfl ?_
    refine QJ.step (YldS.yld (y_not rfl)) rfl ?_
    refine QJ.done ?_
    refine PJ.next ?_
    refine WJ.cond (t := !r8) rfl (fun hb10 => ?_) (fun hb10 => ?_)
    · replace hm := ifT hm hb10
      refine WJ.seq ?_
      refine WJ.quiet ?_
      refine QJ.step (YldS.yld (y_assign rfl)) rfl ?_
      refine QJ.step (YldS.yld (y_assign rfl)) rfl ?_
      refine QJ.step (YldS.yld (y_assign rfl)) rfl ?_
      refine QJ.done ?_
      refine PJ.next ?_
      refine WJ.ret ?_
      refine PJ.then_ret ?_
      refine PJ.nil_row 2 fI64 ?_
      refine PJ.view 0 rfl ?_
      obtain rfl := Option.some.inj hm
      refine PJ.sel (L' := [vw (.slice none 0 0) fI64.rp []]) [0] ⟨by decide, rfl⟩ ?_
      exact PJ.retn (vs := [(.slice none 0 0), .int .i64 0, .int .i64 2]) Try.results48 ⟨rfl, rfl, rfl, trivial⟩ ⟨_, rfl, rfl⟩
    · replace hm := ifF hm hb10
      refine WJ.skip ?_
      refine PJ.next ?_
      refine WJ.seq ?_
      refine WJ.reg ?_
      refine SJ.buildSlice (R := fRaw1) (os := []) ([] : List (Raw 1)) Try.runUnderlying113 Try.sizeOf24 Try.zeroValue24 rfl rfl rfl rfl rfl rfl fun v11 => ?_
      refine SJ.inn_nil (q := 1) (rSl fI64.rp) ?_
      refine SJ.q (YldS.yld (y_assign rfl)) rfl ?_
      refine SJ.nil ?_
      refine PJ.next ?_
      obtain ⟨kj15, hk16, hm⟩ := withK_open hm
      refine WJ.join (X := (List (List Int)) × (List (Raw 1)) × Value) (fun (x : (List (List Int)) × (List (Raw 1)) × Value) => kj15 x.1 = some r) (fun (x : (List (List Int)) × (List (Raw 1)) × Value) => [(0, v2), (1, .int .i64 x4), (8, x.2.2)]) (fun (x : (List (List Int)) × (List (Raw 1)) × Value) => [inn (rSl fI64.rp) x.2.1 x.1, row x.2.2 24 fRaw1 x.2.1]) ?_ ?_
      · clear hk16
        refine WJ.seq ?_
        refine WJ.quiet ?_
        refine QJ.step (YldS.yld (y_assign rfl)) rfl ?_
        refine QJ.done ?_
        refine PJ.next ?_
        refine WJ.block ?_
        refine WJ.sel (L' := (fun (x : (List (List Int)) × (List (Raw 1)) × Value × Int) => [inn (rSl fI64.rp) x.2.1 x.1, row x.2.2.1 24 fRaw1 x.2.1]) (([] : List (List Int)), ([] : List (Raw 1)), v11, 1)) [0, 1] ⟨by decide, rfl⟩ ?_
        refine WJ.sub (m' := (fun (x : (List (List Int)) × (List (Raw 1)) × Value × Int) => [(0, v2), (1, .int .i64 x4), (8, x.2.2.1), (9, .int .i64 x.2.2.2)]) (([] : List (List Int)), ([] : List (Raw 1)), v11, 1)) ⟨rfl, rfl, rfl, rfl, trivial⟩ ?_
        refine WJ.loop (X := (List (List Int)) × (List (Raw 1)) × Value × Int) (fun N (x : (List (List Int)) × (List (Raw 1)) × Value × Int) => i_BestStops_l1 kj15 x4 N x.1 x.2.2.2 = some r) (fun (x : (List (List Int)) × (List (Raw 1)) × Value × Int) => [(0, v2), (1, .int .i64 x4), (8, x.2.2.1), (9, .int .i64 x.2.2.2)]) (fun (x : (List (List Int)) × (List (Raw 1)) × Value × Int) => [inn (rSl fI64.rp) x.2.1 x.1, row x.2.2.1 24 fRaw1 x.2.1]) ?_ N (([] : List (List Int)), ([] : List (Raw 1)), v11, 1) hm
        · rintro N ⟨l17, vs18, v19, x20⟩ hI
          have hm := hI; clear hI
          cases N with
          | zero => cases hm
          | succ N =>
          unfold i_BestStops_l1 at hm
          refine WJ.seq ?_
          refine WJ.seq ?_
          refine WJ.quiet ?_
          refine QJ.step (YldS.yld (y_move rfl)) rfl ?_
          refine QJ.step (YldS.yld (y_bin rfl rfl rfl)) rfl ?_
          refine QJ.done ?_
          refine PJ.next ?_
          refine WJ.cond (t := decide (x20 ≤ 30)) rfl (fun hb21 => ?_) (fun hb21 => ?_)
          · replace hm := ifT hm hb21
            refine WJ.skip ?_
            refine PJ.next ?_
            obtain ⟨kj25, hk26, hm⟩ := withK_open hm
            refine WJ.join (X := (List (List Int)) × (List (Raw 1)) × Value) (fun (x : (List (List Int)) × (List (Raw 1)) × Value) => kj25 x.1 = some r) (fun (x : (List (List Int)) × (List (Raw 1)) × Value) => [(0, v2), (1, .int .i64 x4), (8, x.2.2), (9, .int .i64 x20)]) (fun (x : (List (List Int)) × (List (Raw 1)) × Value) => [inn (rSl fI64.rp) x.2.1 x.1, row x.2.2 24 fRaw1 x.2.1]) ?_ ?_
            · clear hk26
              refine WJ.block ?_
              obtain ⟨kj30, hk31, hm⟩ := withK_open hm
              refine WJ.join (X := (List (List Int)) × (List (Raw 1)) × Value) (fun (x : (List (List Int)) × (List (Raw 1)) × Value) => kj30 x.1 = some r) (fun (x : (List (List Int)) × (List (Raw 1)) × Value) => [(0, v2), (1, .int .i64 x4), (8, x.2.2), (9, .int .i64 x20)]) (fun (x : (List (List Int)) × (List (Raw 1)) × Value) => [inn (rSl fI64.rp) x.2.1 x.1, row x.2.2 24 fRaw1 x.2.1]) ?_ ?_
              · clear hk31
                refine WJ.seq ?_
                refine WJ.quiet ?_
                refine QJ.step (YldS.yld (y_move rfl)) rfl ?_
                refine QJ.step (YldS.yld (y_bin rfl rfl rfl)) rfl ?_
                refine QJ.done ?_
                refine PJ.next ?_
                refine WJ.cond (t := (x4 == 1)) rfl (fun hb32 => ?_) (fun hb32 => ?_)
                · replace hm := ifT hm hb32
                  refine WJ.reg ?_
                  refine SJ.q (YldS.yld (y_move rfl)) rfl ?_
                  refine SJ.q (YldS.yld (y_move rfl)) rfl ?_
                  refine SJ.buildSlice (R := fI64) (os := [.tmp 32]) [x20] Try.runUnderlying24 Try.sizeOf2 Try.zeroValue2 rfl rfl rfl rfl rfl rfl fun v33 => ?_
                  refine SJ.rowCells (k := 0) rfl fun hc34 => ?_
                  refine SJ.buildSlice (R := fRaw1) (os := [.tmp 33]) ([mkRaw1 v33 hc34.2] : List (Raw 1)) Try.runUnderlying113 Try.sizeOf24 Try.zeroValue24 rfl rfl rfl (by simp only [List.map_cons, List.map_nil, hc34.1]; rfl) rfl rfl fun v35 => ?_
                  refine SJ.inn_nil (q := 1) (rSl fI64.rp) ?_
                  refine SJ.sel (L' := [row v33 2 fI64 [x20], inn (rSl fI64.rp) [] ([] : List (List Int)), row v35 24 fRaw1 ([mkRaw1 v33 hc34.2] : List (Raw 1)), inn (rSl fI64.rp) vs18 l17, row v19 24 fRaw1 vs18]) [2, 0, 1, 3, 4] ⟨by decide, rfl⟩ ?_
                  refine SJ.star ?_
                  refine SJ.conv0 (fun w S h => inn_push hc34.2 h) ?_
                  refine SJ.conv0 (B := inn (rSl fI64.rp) ([mkRaw1 v33 hc34.2] : List (Raw 1)) ([[x20]] : List (List Int))) (fun w S h => h) ?_
                  refine SJ.inn_len 2 rfl fun hl36 => ?_
                  refine SJ.inn_len 0 rfl fun hl37 => ?_
                  obtain ⟨l38, h39, hm⟩ := bindS hm
                  refine SJ.append (k := 3) (R := fRaw1) (app_raw h39 hl36 hl37) rfl Try.underlying113 el24 rfl rfl rfl (fun w hw => (hw.row_rd (k := 1) rfl)) rfl fun v40 => ?_
                  refine SJ.sel (L' := [inn (rSl fI64.rp) vs18 l17, inn (rSl fI64.rp) ([mkRaw1 v33 hc34.2] : List (Raw 1)) ([[x20]] : List (List Int)), row v35 24 fRaw1 ([mkRaw1 v33 hc34.2] : List (Raw 1)), row v40 24 fRaw1 (vs18 ++ ([mkRaw1 v33 hc34.2] : List (Raw 1)))]) [2, 0, 1, 3] ⟨by decide, rfl⟩ ?_
                  refine SJ.star ?_
                  refine SJ.conv0 (fun w S h => inn_app h39 h) ?_
                  refine SJ.q (YldS.yld (y_assign rfl)) rfl ?_
                  refine SJ.nil ?_
                  exact PJ.joined (l38, (vs18 ++ ([mkRaw1 v33 hc34.2] : List (Raw 1))), v40) [0, 2] hm ⟨rfl, rfl, rfl, rfl, trivial⟩ ⟨by decide, rfl⟩
                · replace hm := ifF hm hb32
                  refine WJ.skip ?_
                  exact PJ.joined (l17, vs18, v19) [0, 1] hm ⟨rfl, rfl, rfl, rfl, trivial⟩ ⟨by decide, rfl⟩
              · rintro ⟨l27, vs28, v29⟩ hm
                subst hk31
                refine WJ.seq ?_
                refine WJ.quiet ?_
                refine QJ.step (YldS.yld (y_move rfl)) rfl ?_
                refine QJ.step (YldS.yld (y_bin rfl rfl rfl)) rfl ?_
                refine QJ.step (YldS.yld (y_assign rfl)) rfl ?_
                refine QJ.done ?_
                refine PJ.next ?_
                refine WJ.block ?_
                refine WJ.sel (L' := (fun (x : (List (List Int)) × (List (Raw 1)) × Value × Int) => [inn (rSl fI64.rp) x.2.1 x.1, row x.2.2.1 24 fRaw1 x.2.1]) (l27, vs28, v29, w64 (x20 + 1))) [0, 1] ⟨by decide, rfl⟩ ?_
                refine WJ.sub (m' := (fun (x : (List (List Int)) × (List (Raw 1)) × Value × Int) => [(0, v2), (1, .int .i64 x4), (8, x.2.2.1), (9, .int .i64 x20), (10, .int .i64 x.2.2.2)]) (l27, vs28, v29, w64 (x20 + 1))) ⟨rfl, rfl, rfl, rfl, rfl, trivial⟩ ?_
                refine WJ.loop (X := (List (List Int)) × (List (Raw 1)) × Value × Int) (fun N (x : (List (List Int)) × (List (Raw 1)) × Value × Int) => i_BestStops_l2 kj25 x4 x20 N x.1 x.2.2.2 = some r) (fun (x : (List (List Int)) × (List (Raw 1)) × Value × Int) => [(0, v2), (1, .int .i64 x4), (8, x.2.2.1), (9, .int .i64 x20), (10, .int .i64 x.2.2.2)]) (fun (x : (List (List Int)) × (List (Raw 1)) × Value × Int) => [inn (rSl fI64.rp) x.2.1 x.1, row x.2.2.1 24 fRaw1 x.2.1]) ?_ N (l27, vs28, v29, w64 (x20 + 1)) hm
                · rintro N ⟨l41, vs42, v43, x44⟩ hI
                  have hm := hI; clear hI
                  cases N with
                  | zero => cases hm
                  | succ N =>
                  unfold i_BestStops_l2 at hm
                  refine WJ.seq ?_
                  refine WJ.seq ?_
                  refine WJ.quiet ?_
                  refine QJ.step (YldS.yld (y_move rfl)) rfl ?_
                  refine QJ.step (YldS.yld (y_bin rfl rfl rfl)) rfl ?_
                  refine QJ.step (YldS.yld (y_move rfl)) rfl ?_
                  obtain ⟨t45, h46, hm⟩ := bindS hm
                  refine QJ.cut 3 [(0, v2), (1, .int .i64 x4), (8, v43), (9, .int .i64 x20), (10, .int .i64 x44), (43, .bool t45)] ?_ ?_
                  · rcases Bool.eq_false_or_eq_true (x4 == 2) with hb47 | hb47
                    · replace h46 := andT h46 hb47
                      refine QJ.on rfl rfl (cB hb47) (YldS.yld (y_move rfl)) rfl ?_
                      refine QJ.on rfl rfl (cB hb47) (YldS.yld (y_bin rfl rfl rfl)) rfl ?_
                      refine QJ.step (YldS.yld (y_pick_t (cB hb47) rfl)) rfl ?_
                      obtain rfl := Option.some.inj h46
                      exact QJ.cut_end ⟨rfl, rfl, rfl, rfl, rfl, rfl, trivial⟩
                    · obtain rfl := andF h46 hb47
                      refine QJ.off rfl rfl (cB hb47) rfl rfl ?_
                      refine QJ.off rfl rfl (cB hb47) rfl rfl ?_
                      refine QJ.step (YldS.yld (y_pick_f (cB hb47) rfl)) rfl ?_
                      exact QJ.cut_end ⟨rfl, rfl, rfl, rfl, rfl, rfl, trivial⟩
                  refine QJ.done ?_
                  refine PJ.next ?_
                  refine WJ.cond (t := t45) rfl (fun hb48 => ?_) (fun hb48 => ?_)
                  · replace hm := ifT hm hb48
                    refine WJ.skip ?_
                    refine PJ.next ?_
                    refine WJ.seq ?_
                    refine WJ.block ?_
                    refine WJ.reg ?_
                    refine SJ.q (YldS.yld (y_move rfl)) rfl ?_
                    refine SJ.q (YldS.yld (y_move rfl)) rfl ?_
                    refine SJ.q (YldS.yld (y_move rfl)) rfl ?_
                    refine SJ.buildSlice (R := fI64) (os := [.tmp 47, .tmp 48]) [x20, x44] Try.runUnderlying24 Try.sizeOf2 Try.zeroValue2 rfl rfl rfl rfl rfl rfl fun v49 => ?_
                    refine SJ.rowCells (k := 0) rfl fun hc50 => ?_
                    refine SJ.buildSlice (R := fRaw1) (os := [.tmp 49]) ([mkRaw1 v49 hc50.2] : List (Raw 1)) Try.runUnderlying113 Try.sizeOf24 Try.zeroValue24 rfl rfl rfl (by simp only [List.map_cons, List.map_nil, hc50.1]; rfl) rfl rfl fun v51 => ?_
                    refine SJ.inn_nil (q := 1) (rSl fI64.rp) ?_
                    refine SJ.sel (L' := [row v49 2 fI64 [x20, x44], inn (rSl fI64.rp) [] ([] : List (List Int)), row v51 24 fRaw1 ([mkRaw1 v49 hc50.2] : List (Raw 1)), inn (rSl fI64.rp) vs42 l41, row v43 24 fRaw1 vs42]) [2, 0, 1, 3, 4] ⟨by decide, rfl⟩ ?_
                    refine SJ.star ?_
                    refine SJ.conv0 (fun w S h => inn_push hc50.2 h) ?_
                    refine SJ.conv0 (B := inn (rSl fI64.rp) ([mkRaw1 v49 hc50.2] : List (Raw 1)) ([[x20, x44]] : List (List Int))) (fun w S h => h) ?_
                    refine SJ.inn_len 2 rfl fun hl52 => ?_
                    refine SJ.inn_len 0 rfl fun hl53 => ?_
                    obtain ⟨l54, h55, hm⟩ := bindS hm
                    refine SJ.append (k := 3) (R := fRaw1) (app_raw h55 hl52 hl53) rfl Try.underlying113 el24 rfl rfl rfl (fun w hw => (hw.row_rd (k := 1) rfl)) rfl fun v56 => ?_
                    refine SJ.sel (L' := [inn (rSl fI64.rp) vs42 l41, inn (rSl fI64.rp) ([mkRaw1 v49 hc50.2] : List (Raw 1)) ([[x20, x44]] : List (List Int)), row v51 24 fRaw1 ([mkRaw1 v49 hc50.2] : List (Raw 1)), row v56 24 fRaw1 (vs42 ++ ([mkRaw1 v49 hc50.2] : List (Raw 1)))]) [2, 0, 1, 3] ⟨by decide, rfl⟩ ?_
                    refine SJ.star ?_
                    refine SJ.conv0 (fun w S h => inn_app h55 h) ?_
                    refine SJ.q (YldS.yld (y_assign rfl)) rfl ?_
                    refine SJ.nil ?_
                    refine PJ.block_normal (PJ.next ?_)
                    refine WJ.quiet ?_
                    refine QJ.step (YldS.yld (y_move rfl)) rfl ?_
                    refine QJ.step (YldS.yld (y_bin rfl rfl rfl)) rfl ?_
                    refine QJ.step (YldS.yld (y_assign rfl)) rfl ?_
                    refine QJ.done ?_
                    exact PJ.round (l54, (vs42 ++ ([mkRaw1 v49 hc50.2] : List (Raw 1))), v56, w64 (x44 + 1)) [0, 2] hm ⟨rfl, rfl, rfl, rfl, rfl, trivial⟩ ⟨by decide, rfl⟩
                  · replace hm := ifF hm hb48
                    refine WJ.exit ?_
                    refine PJ.then_exit (PJ.then_exit (PJ.block_exit (PJ.block_normal ?_)))
                    exact PJ.joined (l41, vs42, v43) [0, 1] hm ⟨rfl, rfl, rfl, rfl, trivial⟩ ⟨by decide, rfl⟩
            · rintro ⟨l22, vs23, v24⟩ hm
              subst hk26
              refine WJ.quiet ?_
              refine QJ.step (YldS.yld (y_move rfl)) rfl ?_
              refine QJ.step (YldS.yld (y_bin rfl rfl rfl)) rfl ?_
              refine QJ.step (YldS.yld (y_assign rfl)) rfl ?_
              refine QJ.done ?_
              exact PJ.round (l22, vs23, v24, w64 (x20 + 1)) [0, 1] hm ⟨rfl, rfl, rfl, rfl, trivial⟩ ⟨by decide, rfl⟩
          · replace hm := ifF hm hb21
            refine WJ.exit ?_
            refine PJ.then_exit (PJ.then_exit (PJ.block_exit ?_))
            exact PJ.joined (l17, vs18, v19) [0, 1] hm ⟨rfl, rfl, rfl, trivial⟩ ⟨by decide, rfl⟩
      · rintro ⟨l12, vs13, v14⟩ hm
        subst hk16
        obtain ⟨kj60, hk61, hm⟩ := withK_open hm
        refine WJ.join (X := (List (List Int)) × (List (Raw 1)) × Value) (fun (x : (List (List Int)) × (List (Raw 1)) × Value) => kj60 x.1 = some r) (fun (x : (List (List Int)) × (List (Raw 1)) × Value) => [(0, v2), (8, x.2.2)]) (fun (x : (List (List Int)) × (List (Raw 1)) × Value) => [inn (rSl fI64.rp) x.2.1 x.1, row x.2.2 24 fRaw1 x.2.1]) ?_ ?_
        · clear hk61
          refine WJ.seq ?_
          refine WJ.quiet ?_
          refine QJ.step (YldS.yld (y_move rfl)) rfl ?_
          refine QJ.step (YldS.yld (y_bin rfl rfl rfl)) rfl ?_
          refine QJ.done ?_
          refine PJ.next ?_
          refine WJ.cond (t := (x4 == 0)) rfl (fun hb62 => ?_) (fun hb62 => ?_)
          · replace hm := ifT hm hb62
            refine WJ.reg ?_
            refine SJ.buildSlice (R := fI64) (os := []) [] Try.runUnderlying24 Try.sizeOf2 Try.zeroValue2 rfl rfl rfl rfl rfl rfl fun v63 => ?_
            refine SJ.rowCells (k := 0) rfl fun hc64 => ?_
            refine SJ.buildSlice (R := fRaw1) (os := [.tmp 54]) ([mkRaw1 v63 hc64.2] : List (Raw 1)) Try.runUnderlying113 Try.sizeOf24 Try.zeroValue24 rfl rfl rfl (by simp only [List.map_cons, List.map_nil, hc64.1]; rfl) rfl rfl fun v65 => ?_
            refine SJ.inn_nil (q := 1) (rSl fI64.rp) ?_
            refine SJ.sel (L' := [row v63 2 fI64 [], inn (rSl fI64.rp) [] ([] : List (List Int)), row v65 24 fRaw1 ([mkRaw1 v63 hc64.2] : List (Raw 1)), inn (rSl fI64.rp) vs13 l12, row v14 24 fRaw1 vs13]) [2, 0, 1, 3, 4] ⟨by decide, rfl⟩ ?_
            refine SJ.star ?_
            refine SJ.conv0 (fun w S h => inn_push hc64.2 h) ?_
            refine SJ.conv0 (B := inn (rSl fI64.rp) ([mkRaw1 v63 hc64.2] : List (Raw 1)) ([[]] : List (List Int))) (fun w S h => h) ?_
            refine SJ.q (YldS.yld (y_assign rfl)) rfl ?_
            refine SJ.erase 3 ?_
            refine SJ.erase 2 ?_
            refine SJ.nil ?_
            exact PJ.joined (([[]] : List (List Int)), ([mkRaw1 v63 hc64.2] : List (Raw 1)), v65) [0, 1] hm ⟨rfl, rfl, trivial⟩ ⟨by decide, rfl⟩
          · replace hm := ifF hm hb62
            refine WJ.skip ?_
            exact PJ.joined (l12, vs13, v14) [0, 1] hm ⟨rfl, rfl, trivial⟩ ⟨by decide, rfl⟩
        · rintro ⟨l57, vs58, v59⟩ hm
          subst hk61
          refine WJ.seq ?_
          refine WJ.reg ?_
          refine SJ.buildSlice (R := fI64) (os := []) [] Try.runUnderlying24 Try.sizeOf2 Try.zeroValue2 rfl rfl rfl rfl rfl rfl fun v66 => ?_
          refine SJ.q (YldS.yld (y_assign rfl)) rfl ?_
          refine SJ.sel (L' := [row v66 2 fI64 [], inn (rSl fI64.rp) vs58 l57, row v59 24 fRaw1 vs58]) [0, 1, 2] ⟨by decide, rfl⟩ ?_
          refine SJ.star ?_
          refine SJ.conv0 (fun w S h => ext_new h) ?_
          refine SJ.q (YldS.yld (y_assign rfl)) rfl ?_
          refine SJ.nil ?_
          refine PJ.next ?_
          obtain ⟨kj70, hk71, hm⟩ := withK_open hm
          refine WJ.join (X := (List Int) × Value × Int) (fun (x : (List Int) × Value × Int) => kj70 x.1 x.2.2 = some r) (fun (x : (List Int) × Value × Int) => [(11, x.2.1), (12, .int .i64 x.2.2)]) (fun (x : (List Int) × Value × Int) => [ext (inn (rSl fI64.rp) vs58 l57) x.2.1 fI64.rp x.1, row v59 24 fRaw1 vs58]) ?_ ?_
          · clear hk71
            refine WJ.seq ?_
            refine WJ.quiet ?_
            refine QJ.step (YldS.yld (y_move rfl)) rfl ?_
            refine QJ.step (YldS.yld (y_lenG (fun w hw => (hw.nst_rdX (k := 1) (j := 0) rfl rfl)) Try.runUnderlying113 rfl)) rfl ?_
            refine QJ.step (YldS.yld (y_move rfl)) rfl ?_
            refine QJ.done ?_
            refine PJ.next ?_
            refine WJ.block ?_
            refine WJ.sel (L' := (fun (x : (List Int) × Value × Int × Int) => [ext (inn (rSl fI64.rp) vs58 l57) x.2.1 fI64.rp x.1, row v59 24 fRaw1 vs58]) (([] : List Int), v66, (-1), 0)) [0, 1] ⟨by decide, rfl⟩ ?_
            refine WJ.sub (m' := (fun (x : (List Int) × Value × Int × Int) => [(0, v2), (11, x.2.1), (12, .int .i64 x.2.2.1), (57, v59), (58, .int .i64 (List.length l57 : Int)), (59, .int .i64 x.2.2.2)]) (([] : List Int), v66, (-1), 0)) ⟨rfl, rfl, rfl, rfl, rfl, rfl, trivial⟩ ?_
            refine WJ.loop (X := (List Int) × Value × Int × Int) (fun N (x : (List Int) × Value × Int × Int) => i_BestStops_l3 kj70 rows1 l57 N x.1 x.2.2.1 x.2.2.2 = some r) (fun (x : (List Int) × Value × Int × Int) => [(0, v2), (11, x.2.1), (12, .int .i64 x.2.2.1), (57, v59), (58, .int .i64 (List.length l57 : Int)), (59, .int .i64 x.2.2.2)]) (fun (x : (List Int) × Value × Int × Int) => [ext (inn (rSl fI64.rp) vs58 l57) x.2.1 fI64.rp x.1, row v59 24 fRaw1 vs58]) ?_ N (([] : List Int), v66, (-1), 0) hm
            · rintro N ⟨l72, v73, x74, x75⟩ hI
              have hm := hI; clear hI
              cases N with
              | zero => cases hm
              | succ N =>
              unfold i_BestStops_l3 at hm
              refine WJ.seq ?_
              refine WJ.quiet ?_
              refine QJ.step (YldS.yld (y_bin rfl rfl rfl)) rfl ?_
              refine QJ.done ?_
              refine PJ.next ?_
              refine WJ.seq ?_
              refine WJ.cond (t := decide (x75 < (List.length l57 : Int))) rfl (fun hb76 => ?_) (fun hb76 => ?_)
              · replace hm := ifT hm hb76
                refine WJ.skip ?_
                refine PJ.next ?_
                obtain ⟨kj80, hk81, hm⟩ := withK_open hm
                refine WJ.join (X := (List Int) × Value × Int) (fun (x : (List Int) × Value × Int) => kj80 x.1 x.2.2 = some r) (fun (x : (List Int) × Value × Int) => [(0, v2), (11, x.2.1), (12, .int .i64 x.2.2), (57, v59), (58, .int .i64 (List.length l57 : Int)), (59, .int .i64 x75)]) (fun (x : (List Int) × Value × Int) => [ext (inn (rSl fI64.rp) vs58 l57) x.2.1 fI64.rp x.1, row v59 24 fRaw1 vs58]) ?_ ?_
                · clear hk81
                  refine WJ.block ?_
                  refine WJ.seq ?_
                  refine WJ.inn_lenX 0 rfl fun hl82 => ?_
                  refine WJ.quiet ?_
                  obtain ⟨e83, h84, hm⟩ := bindS hm
                  obtain ⟨y85, hy86⟩ := inn_idx hl82 h84
                  refine QJ.step (YldS.yld (y_ixRow (k := 1) (R := fRaw1) rfl Try.runUnderlying113 Try.sizeOf24 rfl rfl hy86)) rfl ?_
                  refine QJ.step (YldS.yld (y_loadR (k := 1) (i := (Int.toNat x75)) (off := 0) rfl Try.isAgg24 rfl (idx_get hy86) (raw_get y85))) rfl ?_
                  refine QJ.step (YldS.yld (y_assign rfl)) rfl ?_
                  refine QJ.done ?_
                  refine PJ.next ?_
                  refine WJ.seq ?_
                  refine WJ.quiet ?_
                  refine QJ.step (YldS.yld (y_move rfl)) rfl ?_
                  refine QJ.step (YldS.yld (y_move rfl)) rfl ?_
                  obtain ⟨r87, h88, hm⟩ := bindS hm
                  refine QJ.step (y_call Try.call67 rfl (RetG.quiet fun w hw => ok_i_pageMoves h88 w _ (hw.inn_rdX (k := 0) rfl rfl hy86 h84) _ (hr3.st hw))) rfl ?_
                  refine QJ.step (YldS.yld (y_assign rfl)) rfl ?_
                  refine QJ.done ?_
                  refine PJ.next ?_
                  refine WJ.seq ?_
                  refine WJ.quiet ?_
                  refine QJ.step (YldS.yld (y_move rfl)) rfl ?_
                  refine QJ.step (YldS.yld (y_bin rfl rfl rfl)) rfl ?_
                  refine QJ.step (YldS.yld (y_move rfl)) rfl ?_
                  obtain ⟨t89, h90, hm⟩ := bindS hm
                  refine QJ.cut 4 [(0, v2), (11, v73), (12, .int .i64 x74), (14, (raw0 y85)), (15, .int .i64 r87), (57, v59), (58, .int .i64 (List.length l57 : Int)), (59, .int .i64 x75), (72, .bool t89)] ?_ ?_
                  · rcases Bool.eq_false_or_eq_true (decide (x74 < 0)) with hb91 | hb91
                    · obtain rfl := orT h90 hb91
                      refine QJ.off rfl rfl (cB hb91) rfl rfl ?_
                      refine QJ.off rfl rfl (cB hb91) rfl rfl ?_
                      refine QJ.off rfl rfl (cB hb91) rfl rfl ?_
                      refine QJ.step (YldS.yld (y_pick_t (cB hb91) rfl)) rfl ?_
                      exact QJ.cut_end ⟨rfl, rfl, rfl, rfl, rfl, rfl, rfl, rfl, rfl, trivial⟩
                    · replace h90 := orF h90 hb91
                      refine QJ.on rfl rfl (cB hb91) (YldS.yld (y_move rfl)) rfl ?_
                      refine QJ.on rfl rfl (cB hb91) (YldS.yld (y_move rfl)) rfl ?_
                      refine QJ.on rfl rfl (cB hb91) (YldS.yld (y_bin rfl rfl rfl)) rfl ?_
                      refine QJ.step (YldS.yld (y_pick_f (cB hb91) rfl)) rfl ?_
                      obtain rfl := Option.some.inj h90
                      exact QJ.cut_end ⟨rfl, rfl, rfl, rfl, rfl, rfl, rfl, rfl, rfl, trivial⟩
                  refine QJ.done ?_
                  refine PJ.next ?_
                  refine WJ.cond (t := t89) rfl (fun hb92 => ?_) (fun hb92 => ?_)
                  · replace hm := ifT hm hb92
                    refine WJ.quiet ?_
                    refine QJ.step (YldS.yld (y_move rfl)) rfl ?_
                    refine QJ.step (YldS.yld (y_move rfl)) rfl ?_
                    refine QJ.step (YldS.yld (y_assign rfl)) rfl ?_
                    refine QJ.step (YldS.yld (y_assign rfl)) rfl ?_
                    refine QJ.done ?_
                    refine PJ.ext_inn 0 rfl hy86 h84 ?_
                    refine PJ.block_normal ?_
                    exact PJ.joined (e83, (raw0 y85), r87) [0, 1] hm ⟨rfl, rfl, rfl, rfl, rfl, rfl, trivial⟩ ⟨by decide, rfl⟩
                  · replace hm := ifF hm hb92
                    refine WJ.skip ?_
                    refine PJ.block_normal ?_
                    exact PJ.joined (l72, v73, x74) [0, 1] hm ⟨rfl, rfl, rfl, rfl, rfl, rfl, trivial⟩ ⟨by decide, rfl⟩
                · rintro ⟨l77, v78, x79⟩ hm
                  subst hk81
                  refine WJ.quiet ?_
                  refine QJ.step (YldS.yld (y_bin rfl rfl rfl)) rfl ?_
                  refine QJ.step (YldS.yld (y_move rfl)) rfl ?_
                  refine QJ.done ?_
                  exact PJ.round (l77, v78, x79, w64 (x75 + 1)) [0, 1] hm ⟨rfl, rfl, rfl, rfl, rfl, rfl, trivial⟩ ⟨by decide, rfl⟩
              · replace hm := ifF hm hb76
                refine WJ.exit ?_
                refine PJ.then_exit (PJ.then_exit (PJ.block_exit ?_))
                exact PJ.joined (l72, v73, x74) [0, 1] hm ⟨rfl, rfl, trivial⟩ ⟨by decide, rfl⟩
          · rintro ⟨l67, v68, x69⟩ hm
            subst hk71
            refine WJ.seq ?_
            refine WJ.quiet ?_
            refine QJ.step (YldS.yld (y_move rfl)) rfl ?_
            refine QJ.step (YldS.yld (y_move rfl)) rfl ?_
            refine QJ.step (YldS.yld (y_assign rfl)) rfl ?_
            refine QJ.step (YldS.yld (y_assign rfl)) rfl ?_
            refine QJ.step (YldS.yld (y_assign rfl)) rfl ?_
            refine QJ.done ?_
            refine PJ.next ?_
            refine WJ.ret ?_
            refine PJ.ext_view 0 rfl ?_
            obtain rfl := Option.some.inj hm
            refine PJ.sel (L' := [vw v68 fI64.rp l67]) [0] ⟨by decide, rfl⟩ ?_
            exact PJ.retn (vs := [v68, .int .i64 x69, .int .i64 0]) Try.results48 ⟨rfl, rfl, rfl, trivial⟩ ⟨_, rfl, rfl⟩

set_option maxRecDepth 100000 in
set_option maxHeartbeats 1000000 in
theorem ok_i_ValidStops {N : Nat} {stops1 : List Int} {r : Bool} (hm : i_ValidStops N stops1 = some r) (w : World) (v2 : Value) (hr3 : RdS w (cx w).Fz v2 fI64.rp stops1) :
    Calls Try.prog 61 #[v2] w (Ret (cx w) (.bool r)) := by
  unfold i_ValidStops at hm
  refine Calls.enter [v2] Try.func61 rfl Try.ntmps61 rfl ?_
  refine WJ.seq ?_
  refine WJ.quiet ?_
  refine QJ.step (YldS.yld (y_assign rfl)) rfl ?_
  refine QJ.done ?_
  refine PJ.next ?_
  refine WJ.seq ?_
  refine WJ.seq ?_
  refine WJ.quiet ?_
  refine QJ.step (YldS.yld (y_move rfl)) rfl ?_
  refine QJ.step (YldS.yld (y_lenS Try.runUnderlying24 hr3 rfl)) rfl ?_
  refine QJ.step (YldS.yld (y_bin rfl rfl rfl)) rfl ?_
  refine QJ.done ?_
  refine PJ.next ?_
  refine WJ.cond (t := decide ((List.length stops1 : Int) > 6)) rfl (fun hb4 => ?_) (fun hb4 => ?_)
  · replace hm := ifT hm hb4
    refine WJ.seq ?_
    refine WJ.quiet ?_
    refine QJ.step (YldS.yld (y_assign rfl)) rfl ?_
    refine QJ.done ?_
    refine PJ.next ?_
    refine WJ.ret ?_
    refine PJ.then_ret ?_
    obtain rfl := Option.some.inj hm
    refine PJ.sel (L' := []) [] ⟨List.nodup_nil, rfl⟩ ?_
    exact PJ.retn (vs := [.bool false]) Try.results61 ⟨rfl, trivial⟩ ⟨rfl, rfl⟩
  · replace hm := ifF hm hb4
    refine WJ.skip ?_
    refine PJ.next ?_
    obtain ⟨kj5, hk6, hm⟩ := withK_open hm
    refine WJ.join (X := Unit) (fun (_ : Unit) => kj5  = some r) (fun (_ : Unit) => []) (fun (_ : Unit) => []) ?_ ?_
    · clear hk6
      refine WJ.seq ?_
      refine WJ.quiet ?_
      refine QJ.step (YldS.yld (y_move rfl)) rfl ?_
      refine QJ.step (YldS.yld (y_lenS Try.runUnderlying24 hr3 rfl)) rfl ?_
      refine QJ.step (YldS.yld (y_move rfl)) rfl ?_
      refine QJ.done ?_
      refine PJ.next ?_
      refine WJ.block ?_
      refine WJ.sel (L' := (fun (x : Int) => []) 0) [] ⟨List.nodup_nil, rfl⟩ ?_
      refine WJ.sub (m' := (fun (x : Int) => [(0, v2), (8, v2), (9, .int .i64 (List.length stops1 : Int)), (10, .int .i64 x)]) 0) ⟨rfl, rfl, rfl, rfl, trivial⟩ ?_
      refine WJ.loop (X := Int) (fun N (x : Int) => i_ValidStops_l1 kj5 stops1 N x = some r) (fun (x : Int) => [(0, v2), (8, v2), (9, .int .i64 (List.length stops1 : Int)), (10, .int .i64 x)]) (fun (x : Int) => []) ?_ N 0 hm
      · rintro N x7 hI
        have hm := hI; clear hI
        cases N with
        | zero => cases hm
        | succ N =>
        unfold i_ValidStops_l1 at hm
        refine WJ.seq ?_
        refine WJ.quiet ?_
        refine QJ.step (YldS.yld (y_bin rfl rfl rfl)) rfl ?_
        refine QJ.done ?_
        refine PJ.next ?_
        refine WJ.seq ?_
        refine WJ.cond (t := decide (x7 < (List.length stops1 : Int))) rfl (fun hb8 => ?_) (fun hb8 => ?_)
        · replace hm := ifT hm hb8
          refine WJ.skip ?_
          refine PJ.next ?_
          refine WJ.seq ?_
          refine WJ.block ?_
          refine WJ.seq ?_
          refine WJ.quiet ?_
          refine QJ.step (YldS.yld (y_move rfl)) rfl ?_
          obtain ⟨e9, h10, hm⟩ := bindS hm
          obtain ⟨ad11, _, rfl, ha12, hy13⟩ := hr3.elem h10
          refine QJ.step (YldS.yld (hy13 Try.runUnderlying24 Try.sizeOf2 rfl rfl)) rfl ?_
          refine QJ.step (YldS.yld (y_load1 (v := .int .i64 e9) Try.isAgg2 ha12 St.frozenC rfl)) rfl ?_
          refine QJ.step (YldS.yld (y_assign rfl)) rfl ?_
          refine QJ.step (YldS.yld (y_assign rfl)) rfl ?_
          refine QJ.done ?_
          refine PJ.next ?_
          refine WJ.seq ?_
          refine WJ.quiet ?_
          refine QJ.step (YldS.yld (y_move rfl)) rfl ?_
          obtain ⟨r14, h15, hm⟩ := bindS hm
          refine QJ.step (y_call Try.call69 rfl (RetG.quiet fun w hw => ok_i_between h15 w )) rfl ?_
          refine QJ.step (YldS.yld (y_not rfl)) rfl ?_
          refine QJ.step (YldS.yld (y_move rfl)) rfl ?_
          obtain ⟨t16, h17, hm⟩ := bindS hm
          refine QJ.cut 12 [(0, v2), (8, v2), (9, .int .i64 (List.length stops1 : Int)), (10, .int .i64 x7), (30, .bool t16)] ?_ ?_
          · rcases Bool.eq_false_or_eq_true (!r14) with hb18 | hb18
            · obtain rfl := orT h17 hb18
              refine QJ.off rfl rfl (cB hb18) rfl rfl ?_
              refine QJ.off rfl rfl (cB hb18) rfl rfl ?_
              refine QJ.off rfl rfl (cB hb18) rfl rfl ?_
              refine QJ.off_undef rfl rfl rfl rfl ?_
              refine QJ.off_undef rfl rfl rfl rfl ?_
              refine QJ.off_undef rfl rfl rfl rfl ?_
              refine QJ.off_undef rfl rfl rfl rfl ?_
              refine QJ.off_undef rfl rfl rfl rfl ?_
              refine QJ.off_undef rfl rfl rfl rfl ?_
              refine QJ.off_undef rfl rfl rfl rfl ?_
              refine QJ.off rfl rfl (cB hb18) rfl rfl ?_
              refine QJ.step (YldS.yld (y_pick_t (cB hb18) rfl)) rfl ?_
              exact QJ.cut_end ⟨rfl, rfl, rfl, rfl, rfl, trivial⟩
            · replace h17 := orF h17 hb18
              refine QJ.on rfl rfl (cB hb18) (YldS.yld (y_move rfl)) rfl ?_
              refine QJ.on rfl rfl (cB hb18) (YldS.yld (y_bin rfl rfl rfl)) rfl ?_
              refine QJ.on rfl rfl (cB hb18) (YldS.yld (y_move rfl)) rfl ?_
              obtain ⟨t19, h20, h17⟩ := bindS h17
              refine QJ.cut 8 [(0, v2), (8, v2), (9, .int .i64 (List.length stops1 : Int)), (10, .int .i64 x7), (18, .bool (!r14)), (19, .int .i64 x7), (20, .bool (decide (x7 > 0))), (21, .bool (decide (x7 > 0))), (29, .bool t19)] ?_ ?_
              · rcases Bool.eq_false_or_eq_true (decide (x7 > 0)) with hb21 | hb21
                · replace h20 := andT h20 hb21
                  refine QJ.on rfl rfl (cB hb21) (YldS.yld (y_move rfl)) rfl ?_
                  refine QJ.on rfl rfl (cB hb21) (YldS.yld (y_move rfl)) rfl ?_
                  refine QJ.on rfl rfl (cB hb21) (YldS.yld (y_move rfl)) rfl ?_
                  refine QJ.on rfl rfl (cB hb21) (YldS.yld (y_bin rfl rfl rfl)) rfl ?_
                  obtain ⟨e22, h23, h20⟩ := bindS h20
                  obtain ⟨ad24, _, rfl, ha25, hy26⟩ := hr3.elem h23
                  refine QJ.on rfl rfl (cB hb21) (YldS.yld (hy26 Try.runUnderlying24 Try.sizeOf2 rfl rfl)) rfl ?_
                  refine QJ.on rfl rfl (cB hb21) (YldS.yld (y_load1 (v := .int .i64 e22) Try.isAgg2 ha25 St.frozenC rfl)) rfl ?_
                  refine QJ.on rfl rfl (cB hb21) (YldS.yld (y_bin rfl rfl rfl)) rfl ?_
                  refine QJ.on rfl rfl (cB hb18) (YldS.yld (y_pick_t (cB hb21) rfl)) rfl ?_
                  obtain rfl := Option.some.inj h20
                  exact QJ.cut_end ⟨rfl, rfl, rfl, rfl, rfl, rfl, rfl, rfl, rfl, trivial⟩
                · obtain rfl := andF h20 hb21
                  refine QJ.off rfl rfl (cB hb21) rfl rfl ?_
                  refine QJ.off rfl rfl (cB hb21) rfl rfl ?_
                  refine QJ.off rfl rfl (cB hb21) rfl rfl ?_
                  refine QJ.off rfl rfl (cB hb21) rfl rfl ?_
                  refine QJ.off rfl rfl (cB hb21) rfl rfl ?_
                  refine QJ.off rfl rfl (cB hb21) rfl rfl ?_
                  refine QJ.off rfl rfl (cB hb21) rfl rfl ?_
                  refine QJ.on rfl rfl (cB hb18) (YldS.yld (y_pick_f (cB hb21) rfl)) rfl ?_
                  exact QJ.cut_end ⟨rfl, rfl, rfl, rfl, rfl, rfl, rfl, rfl, rfl, trivial⟩
              refine QJ.step (YldS.yld (y_pick_f (cB hb18) rfl)) rfl ?_
              obtain rfl := Option.some.inj h17
              exact QJ.cut_end ⟨rfl, rfl, rfl, rfl, rfl, trivial⟩
          refine QJ.done ?_
          refine PJ.next ?_
          refine WJ.cond (t := t16) rfl (fun hb27 => ?_) (fun hb27 => ?_)
          · replace hm := ifT hm hb27
            refine WJ.seq ?_
            refine WJ.quiet ?_
            refine QJ.step (YldS.yld (y_assign rfl)) rfl ?_
            refine QJ.done ?_
            refine PJ.next ?_
            refine WJ.ret ?_
            refine PJ.block_ret (PJ.then_ret (PJ.then_ret (PJ.block_ret (PJ.then_ret ?_))))
            obtain rfl := Option.some.inj hm
            refine PJ.sel (L' := []) [] ⟨List.nodup_nil, rfl⟩ ?_
            exact PJ.retn (vs := [.bool false]) Try.results61 ⟨rfl, trivial⟩ ⟨rfl, rfl⟩
          · replace hm := ifF hm hb27
            refine WJ.skip ?_
            refine PJ.block_normal (PJ.next ?_)
            refine WJ.quiet ?_
            refine QJ.step (YldS.yld (y_bin rfl rfl rfl)) rfl ?_
            refine QJ.step (YldS.yld (y_move rfl)) rfl ?_
            refine QJ.done ?_
            exact PJ.round (w64 (x7 + 1)) [] hm ⟨rfl, rfl, rfl, rfl, trivial⟩ ⟨List.nodup_nil, rfl⟩
        · replace hm := ifF hm hb8
          refine WJ.exit ?_
          refine PJ.then_exit (PJ.then_exit (PJ.block_exit ?_))
          exact PJ.joined () [] hm trivial ⟨List.nodup_nil, rfl⟩
    · rintro _ hm
      subst hk6
      refine WJ.seq ?_
      refine WJ.quiet ?_
      refine QJ.step (YldS.yld (y_assign rfl)) rfl ?_
      refine QJ.done ?_
      refine PJ.next ?_
      refine WJ.ret ?_
      obtain rfl := Option.some.inj hm
      refine PJ.sel (L' := []) [] ⟨List.nodup_nil, rfl⟩ ?_
      exact PJ.retn (vs := [.bool true]) Try.results61 ⟨rfl, trivial⟩ ⟨rfl, rfl⟩

set_option maxRecDepth 100000 in
set_option maxHeartbeats 1000000 in
theorem ok_i_PageMoves {N : Nat} {stops1 : List Int} {rows4 : List Str} {r : Int × Int} (hm : i_PageMoves N stops1 rows4 = some r) (w : World) (v2 : Value) (hr3 : RdS w (cx w).Fz v2 fI64.rp stops1) (v5 : Value) (hr6 : RdS w (cx w).Fz v5 fStr.rp rows4) :
    Calls Try.prog 15 #[v2, v5] w (Ret (cx w) (tup [.int .i64 r.1, .int .i64 r.2])) := by
  unfold i_PageMoves at hm
  refine Calls.enter [v2, v5] Try.func15 rfl Try.ntmps15 rfl ?_
  refine WJ.seq ?_
  refine WJ.quiet ?_
  refine QJ.step (YldS.yld (y_assign rfl)) rfl ?_
  refine QJ.step (YldS.yld (y_assign rfl)) rfl ?_
  refine QJ.done ?_
  refine PJ.next ?_
  refine WJ.seq ?_
  refine WJ.seq ?_
  refine WJ.quiet ?_
  refine QJ.step (YldS.yld (y_move rfl)) rfl ?_
  obtain ⟨r7, h8, hm⟩ := bindS hm
  refine QJ.step (y_call Try.call61 rfl (RetG.quiet fun w hw => ok_i_ValidStops h8 w _ (hr3.st hw))) rfl ?_
  refine QJ.step (YldS.yld (y_not rfl)) rfl ?_
  refine QJ.done ?_
  refine PJ.next ?_
  refine WJ.cond (t := !r7) rfl (fun hb9 => ?_) (fun hb9 => ?_)
  · replace hm := ifT hm hb9
    refine WJ.seq ?_
    refine WJ.quiet ?_
    refine QJ.step (YldS.yld (y_assign rfl)) rfl ?_
    refine QJ.step (YldS.yld (y_assign rfl)) rfl ?_
    refine QJ.done ?_
    refine PJ.next ?_
    refine WJ.ret ?_
    refine PJ.then_ret ?_
    obtain rfl := Option.some.inj hm
    refine PJ.sel (L' := []) [] ⟨List.nodup_nil, rfl⟩ ?_
    exact PJ.retn (vs := [.int .i64 0, .int .i64 1]) Try.results15 ⟨rfl, rfl, trivial⟩ ⟨rfl, rfl⟩
  · replace hm := ifF hm hb9
    refine WJ.skip ?_
    refine PJ.next ?_
    refine WJ.seq ?_
    refine WJ.seq ?_
    refine WJ.quiet ?_
    refine QJ.step (YldS.yld (y_move rfl)) rfl ?_
    obtain ⟨r10, h11, hm⟩ := bindS hm
    refine QJ.step (y_call Try.call66 rfl (RetG.quiet fun w hw => ok_i_rowsCode h11 w _ (hr6.st hw))) rfl ?_
    refine QJ.step (YldS.yld (y_assign rfl)) rfl ?_
    refine QJ.done ?_
    refine PJ.next ?_
    refine WJ.seq ?_
    refine WJ.quiet ?_
    refine QJ.step (YldS.yld (y_move rfl)) rfl ?_
    refine QJ.step (YldS.yld (y_bin rfl rfl rfl)) rfl ?_
    refine QJ.done ?_
    refine PJ.next ?_
    refine WJ.cond (t := (r10 != 0)) rfl (fun hb12 => ?_) (fun hb12 => ?_)
    · replace hm := ifT hm hb12
      refine WJ.seq ?_
      refine WJ.quiet ?_
      refine QJ.step (YldS.yld (y_move rfl)) rfl ?_
      refine QJ.step (YldS.yld (y_assign rfl)) rfl ?_
      refine QJ.step (YldS.yld (y_assign rfl)) rfl ?_
      refine QJ.done ?_
      refine PJ.next ?_
      refine WJ.ret ?_
      refine PJ.then_ret ?_
      obtain rfl := Option.some.inj hm
      refine PJ.sel (L' := []) [] ⟨List.nodup_nil, rfl⟩ ?_
      exact PJ.retn (vs := [.int .i64 0, .int .i64 r10]) Try.results15 ⟨rfl, rfl, trivial⟩ ⟨rfl, rfl⟩
    · replace hm := ifF hm hb12
      refine WJ.skip ?_
      refine PJ.next ?_
      refine WJ.seq ?_
      refine WJ.quiet ?_
      refine QJ.step (YldS.yld (y_move rfl)) rfl ?_
      refine QJ.step (YldS.yld (y_move rfl)) rfl ?_
      obtain ⟨r13, h14, hm⟩ := bindS hm
      refine QJ.step (y_call Try.call67 rfl (RetG.quiet fun w hw => ok_i_pageMoves h14 w _ (hr3.st hw) _ (hr6.st hw))) rfl ?_
      refine QJ.step (YldS.yld (y_assign rfl)) rfl ?_
      refine QJ.step (YldS.yld (y_assign rfl)) rfl ?_
      refine QJ.done ?_
      refine PJ.next ?_
      refine WJ.ret ?_
      obtain rfl := Option.some.inj hm
      refine PJ.sel (L' := []) [] ⟨List.nodup_nil, rfl⟩ ?_
      exact PJ.retn (vs := [.int .i64 r13, .int .i64 0]) Try.results15 ⟨rfl, rfl, trivial⟩ ⟨rfl, rfl⟩

set_option maxRecDepth 100000 in
set_option maxHeartbeats 1000000 in
theorem ok_s_l00In {n1 : Int} {low2 : Int} {high3 : Int} {r : Bool} (hm : s_l00In n1 low2 high3 = some r) (w : World)  :
    Calls Try.prog 144 #[.int .i64 n1, .int .i64 low2, .int .i64 high3] w (Ret (cx w) (.bool r)) := by
  unfold s_l00In at hm
  refine Calls.enter [.int .i64 n1, .int .i64 low2, .int .i64 high3] Try.func144 rfl Try.ntmps144 rfl ?_
  refine WJ.seq ?_
  refine WJ.quiet ?_
  refine QJ.step (YldS.yld (y_assign rfl)) rfl ?_
  refine QJ.done ?_
  refine PJ.next ?_
  refine WJ.seq ?_
  refine WJ.quiet ?_
  refine QJ.step (YldS.yld (y_move rfl)) rfl ?_
  refine QJ.step (YldS.yld (y_move rfl)) rfl ?_
  refine QJ.step (YldS.yld (y_bin rfl rfl rfl)) rfl ?_
  refine QJ.step (YldS.yld (y_move rfl)) rfl ?_
  obtain ⟨t4, h5, hm⟩ := bindS hm
  refine QJ.cut 4 [(14, .bool t4)] ?_ ?_
  · rcases Bool.eq_false_or_eq_true (decide (n1 ≥ low2)) with hb6 | hb6
    · replace h5 := andT h5 hb6
      refine QJ.on rfl rfl (cB hb6) (YldS.yld (y_move rfl)) rfl ?_
      refine QJ.on rfl rfl (cB hb6) (YldS.yld (y_move rfl)) rfl ?_
      refine QJ.on rfl rfl (cB hb6) (YldS.yld (y_bin rfl rfl rfl)) rfl ?_
      refine QJ.step (YldS.yld (y_pick_t (cB hb6) rfl)) rfl ?_
      obtain rfl := Option.some.inj h5
      exact QJ.cut_end ⟨rfl, trivial⟩
    · obtain rfl := andF h5 hb6
      refine QJ.off rfl rfl (cB hb6) rfl rfl ?_
      refine QJ.off rfl rfl (cB hb6) rfl rfl ?_
      refine QJ.off rfl rfl (cB hb6) rfl rfl ?_
      refine QJ.step (YldS.yld (y_pick_f (cB hb6) rfl)) rfl ?_
      exact QJ.cut_end ⟨rfl, trivial⟩
  refine QJ.step (YldS.yld (y_assign rfl)) rfl ?_
  refine QJ.done ?_
  refine PJ.next ?_
  refine WJ.ret ?_
  obtain rfl := Option.some.inj hm
  refine PJ.sel (L' := []) [] ⟨List.nodup_nil, rfl⟩ ?_
  exact PJ.retn (vs := [.bool t4]) Try.results144 ⟨rfl, trivial⟩ ⟨rfl, rfl⟩

set_option maxRecDepth 100000 in
set_option maxHeartbeats 1000000 in
theorem ok_s_l00Rises {N : Nat} {list1 : List Int} {low4 : Int} {high5 : Int} {r : Bool} (hm : s_l00Rises N list1 low4 high5 = some r) (w : World) (v2 : Value) (hr3 : RdS w (cx w).Fz v2 fI64.rp list1) :
    Calls Try.prog 131 #[v2, .int .i64 low4, .int .i64 high5] w (Ret (cx w) (.bool r)) := by
  unfold s_l00Rises at hm
  refine Calls.enter [v2, .int .i64 low4, .int .i64 high5] Try.func131 rfl Try.ntmps131 rfl ?_
  refine WJ.seq ?_
  refine WJ.quiet ?_
  refine QJ.step (YldS.yld (y_assign rfl)) rfl ?_
  refine QJ.done ?_
  refine PJ.next ?_
  obtain ⟨kj6, hk7, hm⟩ := withK_open hm
  refine WJ.join (X := Unit) (fun (_ : Unit) => kj6  = some r) (fun (_ : Unit) => []) (fun (_ : Unit) => []) ?_ ?_
  · clear hk7
    refine WJ.seq ?_
    refine WJ.quiet ?_
    refine QJ.step (YldS.yld (y_assign rfl)) rfl ?_
    refine QJ.done ?_
    refine PJ.next ?_
    refine WJ.block ?_
    refine WJ.sel (L' := (fun (x : Int) => []) 0) [] ⟨List.nodup_nil, rfl⟩ ?_
    refine WJ.sub (m' := (fun (x : Int) => [(0, v2), (1, .int .i64 low4), (2, .int .i64 high5), (7, .int .i64 x)]) 0) ⟨rfl, rfl, rfl, rfl, trivial⟩ ?_
    refine WJ.loop (X := Int) (fun N (x : Int) => s_l00Rises_l1 kj6 list1 low4 high5 N x = some r) (fun (x : Int) => [(0, v2), (1, .int .i64 low4), (2, .int .i64 high5), (7, .int .i64 x)]) (fun (x : Int) => []) ?_ N 0 hm
    · rintro N i8 hI
      have hm := hI; clear hI
      cases N with
      | zero => cases hm
      | succ N =>
      unfold s_l00Rises_l1 at hm
      refine WJ.seq ?_
      refine WJ.seq ?_
      refine WJ.quiet ?_
      refine QJ.step (YldS.yld (y_move rfl)) rfl ?_
      refine QJ.step (YldS.yld (y_move rfl)) rfl ?_
      refine QJ.step (YldS.yld (y_lenS Try.runUnderlying24 hr3 rfl)) rfl ?_
      refine QJ.step (YldS.yld (y_bin rfl rfl rfl)) rfl ?_
      refine QJ.done ?_
      refine PJ.next ?_
      refine WJ.cond (t := decide (i8 < (List.length list1 : Int))) rfl (fun hb9 => ?_) (fun hb9 => ?_)
      · replace hm := ifT hm hb9
        refine WJ.skip ?_
        refine PJ.next ?_
        refine WJ.seq ?_
        refine WJ.block ?_
        refine WJ.seq ?_
        refine WJ.quiet_draw follows (by kernel_rfl) ?_
        refine QJ.step (YldS.yld (y_move rfl)) rfl ?_
        refine QJ.step (YldS.yld (y_move rfl)) rfl ?_
        obtain ⟨e10, h11, hm⟩ := bindS hm
        obtain ⟨ad12, _, rfl, ha13, hy14⟩ := hr3.elem h11
        refine QJ.step (YldS.yld (hy14 Try.runUnderlying24 Try.sizeOf2 rfl rfl)) rfl ?_
        refine QJ.step (YldS.yld (y_load1 (v := .int .i64 e10) Try.isAgg2 ha13 St.frozenC rfl)) rfl ?_
        refine QJ.step (YldS.yld (y_move rfl)) rfl ?_
        refine QJ.step (YldS.yld (y_move rfl)) rfl ?_
        obtain ⟨r15, h16, hm⟩ := bindS hm
        refine QJ.step (y_call Try.call144 rfl (RetG.quiet fun w hw => ok_s_l00In h16 w )) rfl ?_
        refine QJ.step (YldS.yld (y_not rfl)) rfl ?_
        refine QJ.step (YldS.yld (y_move rfl)) rfl ?_
        obtain ⟨t17, h18, hm⟩ := bindS hm
        refine QJ.cut 15 [(0, v2), (1, .int .i64 low4), (2, .int .i64 high5), (7, .int .i64 i8), (37, .bool t17)] ?_ ?_
        · rcases Bool.eq_false_or_eq_true (!r15) with hb19 | hb19
          · obtain rfl := orT h18 hb19
            refine QJ.off rfl rfl (cB hb19) rfl rfl ?_
            refine QJ.off rfl rfl (cB hb19) rfl rfl ?_
            refine QJ.off rfl rfl (cB hb19) rfl rfl ?_
            refine QJ.off_undef rfl rfl rfl rfl ?_
            refine QJ.off_undef rfl rfl rfl rfl ?_
            refine QJ.off_undef rfl rfl rfl rfl ?_
            refine QJ.off_undef rfl rfl rfl rfl ?_
            refine QJ.off_undef rfl rfl rfl rfl ?_
            refine QJ.off_undef rfl rfl rfl rfl ?_
            refine QJ.off_undef rfl rfl rfl rfl ?_
            refine QJ.off_undef rfl rfl rfl rfl ?_
            refine QJ.off_undef rfl rfl rfl rfl ?_
            refine QJ.off_undef rfl rfl rfl rfl ?_
            refine QJ.off rfl rfl (cB hb19) rfl rfl ?_
            refine QJ.step (YldS.yld (y_pick_t (cB hb19) rfl)) rfl ?_
            exact QJ.cut_end ⟨rfl, rfl, rfl, rfl, rfl, trivial⟩
          · replace h18 := orF h18 hb19
            refine QJ.on rfl rfl (cB hb19) (YldS.yld (y_move rfl)) rfl ?_
            refine QJ.on rfl rfl (cB hb19) (YldS.yld (y_bin rfl rfl rfl)) rfl ?_
            refine QJ.on rfl rfl (cB hb19) (YldS.yld (y_move rfl)) rfl ?_
            obtain ⟨t20, h21, h18⟩ := bindS h18
            refine QJ.cut 11 [(0, v2), (1, .int .i64 low4), (2, .int .i64 high5), (7, .int .i64 i8), (22, .bool (!r15)), (23, .int .i64 i8), (24, .bool (decide (i8 > 0))), (25, .bool (decide (i8 > 0))), (36, .bool t20)] ?_ ?_
            · rcases Bool.eq_false_or_eq_true (decide (i8 > 0)) with hb22 | hb22
              · replace h21 := andT h21 hb22
                refine QJ.on rfl rfl (cB hb22) (YldS.yld (y_move rfl)) rfl ?_
                refine QJ.on rfl rfl (cB hb22) (YldS.yld (y_move rfl)) rfl ?_
                refine QJ.on rfl rfl (cB hb22) (YldS.yld (y_bin rfl rfl rfl)) rfl ?_
                obtain ⟨e23, h24, h21⟩ := bindS h21
                obtain ⟨ad25, _, rfl, ha26, hy27⟩ := hr3.elem h24
                refine QJ.on rfl rfl (cB hb22) (YldS.yld (hy27 Try.runUnderlying24 Try.sizeOf2 rfl rfl)) rfl ?_
                refine QJ.on rfl rfl (cB hb22) (YldS.yld (y_load1 (v := .int .i64 e23) Try.isAgg2 ha26 St.frozenC rfl)) rfl ?_
                refine QJ.on rfl rfl (cB hb22) (YldS.yld (y_move rfl)) rfl ?_
                refine QJ.on rfl rfl (cB hb22) (YldS.yld (y_move rfl)) rfl ?_
                obtain ⟨e28, h29, h21⟩ := bindS h21
                obtain ⟨ad30, _, rfl, ha31, hy32⟩ := hr3.elem h29
                refine QJ.on rfl rfl (cB hb22) (YldS.yld (hy32 Try.runUnderlying24 Try.sizeOf2 rfl rfl)) rfl ?_
                refine QJ.on rfl rfl (cB hb22) (YldS.yld (y_load1 (v := .int .i64 e28) Try.isAgg2 ha31 St.frozenC rfl)) rfl ?_
                refine QJ.on rfl rfl (cB hb22) (YldS.yld (y_bin rfl rfl rfl)) rfl ?_
                refine QJ.on rfl rfl (cB hb19) (YldS.yld (y_pick_t (cB hb22) rfl)) rfl ?_
                obtain rfl := Option.some.inj h21
                exact QJ.cut_end ⟨rfl, rfl, rfl, rfl, rfl, rfl, rfl, rfl, rfl, trivial⟩
              · obtain rfl := andF h21 hb22
                refine QJ.off rfl rfl (cB hb22) rfl rfl ?_
                refine QJ.off rfl rfl (cB hb22) rfl rfl ?_
                refine QJ.off rfl rfl (cB hb22) rfl rfl ?_
                refine QJ.off rfl rfl (cB hb22) rfl rfl ?_
                refine QJ.off rfl rfl (cB hb22) rfl rfl ?_
                refine QJ.off rfl rfl (cB hb22) rfl rfl ?_
                refine QJ.off rfl rfl (cB hb22) rfl rfl ?_
                refine QJ.off rfl rfl (cB hb22) rfl rfl ?_
                refine QJ.off rfl rfl (cB hb22) rfl rfl ?_
                refine QJ.off rfl rfl (cB hb22) rfl rfl ?_
                refine QJ.on rfl rfl (cB hb19) (YldS.yld (y_pick_f (cB hb22) rfl)) rfl ?_
                exact QJ.cut_end ⟨rfl, rfl, rfl, rfl, rfl, rfl, rfl, rfl, rfl, trivial⟩
            refine QJ.step (YldS.yld (y_pick_f (cB hb19) rfl)) rfl ?_
            obtain rfl := Option.some.inj h18
            exact QJ.cut_end ⟨rfl, rfl, rfl, rfl, rfl, trivial⟩
        refine QJ.done ?_
        refine PJ.next ?_
        refine WJ.cond (t := t17) rfl (fun hb33 => ?_) (fun hb33 => ?_)
        · replace hm := ifT hm hb33
          refine WJ.seq ?_
          refine WJ.quiet ?_
          refine QJ.step (YldS.yld (y_assign rfl)) rfl ?_
          refine QJ.done ?_
          refine PJ.next ?_
          refine WJ.ret ?_
          refine PJ.block_ret (PJ.then_ret (PJ.then_ret (PJ.block_ret (PJ.then_ret ?_))))
          obtain rfl := Option.some.inj hm
          refine PJ.sel (L' := []) [] ⟨List.nodup_nil, rfl⟩ ?_
          exact PJ.retn (vs := [.bool false]) Try.results131 ⟨rfl, trivial⟩ ⟨rfl, rfl⟩
        · replace hm := ifF hm hb33
          refine WJ.skip ?_
          refine PJ.block_normal (PJ.next ?_)
          refine WJ.quiet ?_
          refine QJ.step (YldS.yld (y_move rfl)) rfl ?_
          refine QJ.step (YldS.yld (y_bin rfl rfl rfl)) rfl ?_
          refine QJ.step (YldS.yld (y_assign rfl)) rfl ?_
          refine QJ.done ?_
          exact PJ.round (w64 (i8 + 1)) [] hm ⟨rfl, rfl, rfl, rfl, trivial⟩ ⟨List.nodup_nil, rfl⟩
      · replace hm := ifF hm hb9
        refine WJ.exit ?_
        refine PJ.then_exit (PJ.then_exit (PJ.block_exit ?_))
        exact PJ.joined () [] hm trivial ⟨List.nodup_nil, rfl⟩
  · rintro _ hm
    subst hk7
    refine WJ.seq ?_
    refine WJ.quiet ?_
    refine QJ.step (YldS.yld (y_assign rfl)) rfl ?_
    refine QJ.done ?_
    refine PJ.next ?_
    refine WJ.ret ?_
    obtain rfl := Option.some.inj hm
    refine PJ.sel (L' := []) [] ⟨List.nodup_nil, rfl⟩ ?_
    exact PJ.retn (vs := [.bool true]) Try.results131 ⟨rfl, trivial⟩ ⟨rfl, rfl⟩

set_option maxRecDepth 100000 in
set_option maxHeartbeats 1000000 in
theorem ok_s_l11Ok {N : Nat} {stops1 : List Int} {r : Bool} (hm : s_l11Ok N stops1 = some r) (w : World) (v2 : Value) (hr3 : RdS w (cx w).Fz v2 fI64.rp stops1) :
    Calls Try.prog 95 #[v2] w (Ret (cx w) (.bool r)) := by
  unfold s_l11Ok at hm
  refine Calls.enter [v2] Try.func95 rfl Try.ntmps95 rfl ?_
  refine WJ.seq ?_
  refine WJ.quiet ?_
  refine QJ.step (YldS.yld (y_assign rfl)) rfl ?_
  refine QJ.done ?_
  refine PJ.next ?_
  refine WJ.seq ?_
  refine WJ.quiet ?_
  refine QJ.step (YldS.yld (y_move rfl)) rfl ?_
  refine QJ.step (YldS.yld (y_lenS Try.runUnderlying24 hr3 rfl)) rfl ?_
  refine QJ.step (YldS.yld (y_bin rfl rfl rfl)) rfl ?_
  refine QJ.step (YldS.yld (y_move rfl)) rfl ?_
  obtain ⟨t4, h5, hm⟩ := bindS hm
  refine QJ.cut 3 [(9, .bool t4)] ?_ ?_
  · rcases Bool.eq_false_or_eq_true (decide ((List.length stops1 : Int) ≤ 6)) with hb6 | hb6
    · replace h5 := andT h5 hb6
      refine QJ.on rfl rfl (cB hb6) (YldS.yld (y_move rfl)) rfl ?_
      obtain ⟨r7, h8, h5⟩ := bindS h5
      refine QJ.on rfl rfl (cB hb6) (y_call Try.call131 rfl (RetG.quiet fun w hw => ok_s_l00Rises h8 w _ (hr3.st hw))) rfl ?_
      refine QJ.step (YldS.yld (y_pick_t (cB hb6) rfl)) rfl ?_
      obtain rfl := Option.some.inj h5
      exact QJ.cut_end ⟨rfl, trivial⟩
    · obtain rfl := andF h5 hb6
      refine QJ.off rfl rfl (cB hb6) rfl rfl ?_
      refine QJ.off rfl rfl (cB hb6) rfl rfl ?_
      refine QJ.step (YldS.yld (y_pick_f (cB hb6) rfl)) rfl ?_
      exact QJ.cut_end ⟨rfl, trivial⟩
  refine QJ.step (YldS.yld (y_assign rfl)) rfl ?_
  refine QJ.done ?_
  refine PJ.next ?_
  refine WJ.ret ?_
  obtain rfl := Option.some.inj hm
  refine PJ.sel (L' := []) [] ⟨List.nodup_nil, rfl⟩ ?_
  exact PJ.retn (vs := [.bool t4]) Try.results95 ⟨rfl, trivial⟩ ⟨rfl, rfl⟩

set_option maxRecDepth 100000 in
set_option maxHeartbeats 1000000 in
theorem ok_s_ValidStops {N : Nat} {stops1 : List Int} {r : Bool} (hm : s_ValidStops N stops1 = some r) (w : World) (v2 : Value) (hr3 : RdS w (cx w).Fz v2 fI64.rp stops1) :
    Calls Try.prog 49 #[v2] w (Ret (cx w) (.bool r)) := by
  unfold s_ValidStops at hm
  refine Calls.enter [v2] Try.func49 rfl Try.ntmps49 rfl ?_
  refine WJ.seq ?_
  refine WJ.quiet ?_
  refine QJ.step (YldS.yld (y_assign rfl)) rfl ?_
  refine QJ.done ?_
  refine PJ.next ?_
  refine WJ.seq ?_
  refine WJ.quiet ?_
  refine QJ.step (YldS.yld (y_move rfl)) rfl ?_
  obtain ⟨r4, h5, hm⟩ := bindS hm
  refine QJ.step (y_call Try.call95 rfl (RetG.quiet fun w hw => ok_s_l11Ok h5 w _ (hr3.st hw))) rfl ?_
  refine QJ.step (YldS.yld (y_assign rfl)) rfl ?_
  refine QJ.done ?_
  refine PJ.next ?_
  refine WJ.ret ?_
  obtain rfl := Option.some.inj hm
  refine PJ.sel (L' := []) [] ⟨List.nodup_nil, rfl⟩ ?_
  exact PJ.retn (vs := [.bool r4]) Try.results49 ⟨rfl, trivial⟩ ⟨rfl, rfl⟩

set_option maxRecDepth 100000 in
set_option maxHeartbeats 1000000 in
theorem ok_w_FnBestStops {N : Nat} {code1 : List UInt8} {x4 : List UInt8} {r : Bool} (hm : w_FnBestStops N code1 x4 = some r) (w : World) (v2 : Value) (hr3 : RdS w (cx w).Fz v2 fByte.rp code1) (v5 : Value) (hr6 : RdS w (cx w).Fz v5 fByte.rp x4) :
    Calls Try.prog 7 #[v2, v5] w (Ret (cx w) (.bool r)) := by
  unfold w_FnBestStops at hm
  refine Calls.enter [v2, v5] Try.func7 rfl Try.ntmps7 rfl ?_
  refine WJ.seq ?_
  refine WJ.quiet ?_
  refine QJ.step (YldS.yld (y_assign rfl)) rfl ?_
  refine QJ.done ?_
  refine PJ.next ?_
  refine WJ.seq ?_
  refine WJ.seq ?_
  refine WJ.quiet ?_
  refine QJ.step (YldS.yld (y_move rfl)) rfl ?_
  refine QJ.step (YldS.yld (y_move rfl)) rfl ?_
  obtain ⟨r7, h8, hm⟩ := bindS hm
  refine QJ.step (y_call Try.call9 rfl (RetG.quiet fun w hw => ok_w_a2Long h8 w _ (hr3.st hw) _ (hr6.st hw))) rfl ?_
  refine QJ.done ?_
  refine PJ.next ?_
  refine WJ.cond (t := r7) rfl (fun hb9 => ?_) (fun hb9 => ?_)
  · replace hm := ifT hm hb9
    refine WJ.seq ?_
    refine WJ.quiet ?_
    refine QJ.step (YldS.yld (y_assign rfl)) rfl ?_
    refine QJ.done ?_
    refine PJ.next ?_
    refine WJ.ret ?_
    refine PJ.then_ret ?_
    obtain rfl := Option.some.inj hm
    refine PJ.sel (L' := []) [] ⟨List.nodup_nil, rfl⟩ ?_
    exact PJ.retn (vs := [.bool true]) Try.results7 ⟨rfl, trivial⟩ ⟨rfl, rfl⟩
  · replace hm := ifF hm hb9
    refine WJ.skip ?_
    refine PJ.next ?_
    refine WJ.seq ?_
    refine WJ.reg ?_
    refine SJ.q (YldS.yld (y_move rfl)) rfl ?_
    obtain ⟨r10, h11, hm⟩ := bindS hm
    refine SJ.q (y_call Try.call11 rfl (RetG.quiet fun w hw => ok_s_A2Row h11 w _ (hr3.st hw))) rfl ?_
    refine SJ.q (YldS.yld (y_move rfl)) rfl ?_
    obtain ⟨r12, h13, hm⟩ := bindS hm
    refine SJ.q (y_call Try.call11 rfl (RetG.quiet fun w hw => ok_s_A2Row h13 w _ (hr6.st hw))) rfl ?_
    refine SJ.buildSlice (R := fStr) (os := [.tmp 17, .tmp 19]) [r10, r12] Try.runUnderlying32 Try.sizeOf9 Try.zeroValue9 rfl rfl rfl rfl rfl rfl fun v14 => ?_
    refine SJ.q (YldS.yld (y_assign rfl)) rfl ?_
    refine SJ.nil ?_
    refine PJ.next ?_
    refine WJ.seq ?_
    refine WJ.quiet ?_
    refine QJ.step (YldS.yld (y_assign rfl)) rfl ?_
    refine QJ.done ?_
    refine PJ.next ?_
    obtain ⟨kj15, hk16, hm⟩ := withK_open hm
    refine WJ.join (X := Unit) (fun (_ : Unit) => kj15  = some r) (fun (_ : Unit) => []) (fun (_ : Unit) => []) ?_ ?_
    · clear hk16
      refine WJ.seq ?_
      refine WJ.quiet ?_
      refine QJ.step (YldS.yld (y_assign rfl)) rfl ?_
      refine QJ.done ?_
      refine PJ.next ?_
      refine WJ.block ?_
      refine WJ.sel (L' := (fun (x : Int × Int) => [row v14 9 fStr [r10, r12]]) ((-1), 0)) [0] ⟨by decide, rfl⟩ ?_
      refine WJ.sub (m' := (fun (x : Int × Int) => [(5, v14), (6, .int .i64 x.1), (7, .int .i64 x.2)]) ((-1), 0)) ⟨rfl, rfl, rfl, trivial⟩ ?_
      refine WJ.loop (X := Int × Int) (fun N (x : Int × Int) => w_FnBestStops_l1 kj15 r10 r12 N x.1 x.2 = some r) (fun (x : Int × Int) => [(5, v14), (6, .int .i64 x.1), (7, .int .i64 x.2)]) (fun (x : Int × Int) => [row v14 9 fStr [r10, r12]]) ?_ N ((-1), 0) hm
      · rintro N ⟨x17, x18⟩ hI
        have hm := hI; clear hI
        cases N with
        | zero => cases hm
        | succ N =>
        unfold w_FnBestStops_l1 at hm
        refine WJ.seq ?_
        refine WJ.seq ?_
        refine WJ.quiet ?_
        refine QJ.step (YldS.yld (y_move rfl)) rfl ?_
        refine QJ.step (YldS.yld (y_bin rfl rfl rfl)) rfl ?_
        refine QJ.done ?_
        refine PJ.next ?_
        refine WJ.cond (t := decide (x18 ≤ 2)) rfl (fun hb19 => ?_) (fun hb19 => ?_)
        · replace hm := ifT hm hb19
          refine WJ.skip ?_
          refine PJ.next ?_
          refine WJ.seq ?_
          refine WJ.block ?_
          refine WJ.seq ?_
          refine WJ.reg ?_
          refine SJ.q (YldS.yld (y_move rfl)) rfl ?_
          refine SJ.q (YldS.yld (y_move rfl)) rfl ?_
          obtain ⟨r20, h21, hm⟩ := bindS hm
          refine SJ.call Try.call48 rfl (fun w hw => ok_i_BestStops h21 w _ (hw.row_rd (k := 0) rfl)) rfl ?_
          rintro _ _ ⟨v22, rfl, rfl⟩
          refine SJ.q (YldS.yld (y_move rfl)) rfl ?_
          refine SJ.q (YldS.yld (y_extract rfl rfl)) rfl ?_
          refine SJ.q (YldS.yld (y_extract rfl rfl)) rfl ?_
          refine SJ.q (YldS.yld (y_extract rfl rfl)) rfl ?_
          refine SJ.q (YldS.yld (y_assign rfl)) rfl ?_
          refine SJ.q (YldS.yld (y_assign rfl)) rfl ?_
          refine SJ.q (YldS.yld (y_assign rfl)) rfl ?_
          refine SJ.nil ?_
          refine PJ.next ?_
          refine WJ.seq ?_
          refine WJ.quiet ?_
          refine QJ.step (YldS.yld (y_move rfl)) rfl ?_
          refine QJ.step (YldS.yld (y_move rfl)) rfl ?_
          obtain ⟨r23, h24, hm⟩ := bindS hm
          refine QJ.step (y_call Try.call15 rfl (RetG.quiet fun w hw => ok_i_PageMoves h24 w _ (hw.vw_rd (k := 0) rfl) _ (hw.row_rd (k := 1) rfl))) rfl ?_
          refine QJ.step (YldS.yld (y_move rfl)) rfl ?_
          refine QJ.step (YldS.yld (y_extract rfl rfl)) rfl ?_
          refine QJ.step (YldS.yld (y_extract rfl rfl)) rfl ?_
          refine QJ.step (YldS.yld (y_assign rfl)) rfl ?_
          refine QJ.step (YldS.yld (y_assign rfl)) rfl ?_
          refine QJ.done ?_
          refine PJ.next ?_
          refine WJ.seq ?_
          refine WJ.seq ?_
          refine WJ.quiet ?_
          refine QJ.step (YldS.yld (y_move rfl)) rfl ?_
          refine QJ.step (YldS.yld (y_bin rfl rfl rfl)) rfl ?_
          refine QJ.step (YldS.yld (y_move rfl)) rfl ?_
          obtain ⟨t25, h26, hm⟩ := bindS hm
          refine QJ.cut 5 [(5, v14), (6, .int .i64 x17), (7, .int .i64 x18), (8, v22), (9, .int .i64 r20.2.1), (11, .int .i64 r23.1), (12, .int .i64 r23.2), (45, .bool t25)] ?_ ?_
          · rcases Bool.eq_false_or_eq_true (r20.2.2 != 0) with hb27 | hb27
            · obtain rfl := orT h26 hb27
              refine QJ.off rfl rfl (cB hb27) rfl rfl ?_
              refine QJ.off rfl rfl (cB hb27) rfl rfl ?_
              refine QJ.off rfl rfl (cB hb27) rfl rfl ?_
              refine QJ.off rfl rfl (cB hb27) rfl rfl ?_
              refine QJ.step (YldS.yld (y_pick_t (cB hb27) rfl)) rfl ?_
              exact QJ.cut_end ⟨rfl, rfl, rfl, rfl, rfl, rfl, rfl, rfl, trivial⟩
            · replace h26 := orF h26 hb27
              refine QJ.on rfl rfl (cB hb27) (YldS.yld (y_move rfl)) rfl ?_
              refine QJ.on rfl rfl (cB hb27) (YldS.yld (y_lenRowV (k := 0) rfl Try.runUnderlying24 rfl)) rfl ?_
              refine QJ.on rfl rfl (cB hb27) (YldS.yld (y_move rfl)) rfl ?_
              refine QJ.on rfl rfl (cB hb27) (YldS.yld (y_bin rfl rfl rfl)) rfl ?_
              refine QJ.step (YldS.yld (y_pick_f (cB hb27) rfl)) rfl ?_
              obtain rfl := Option.some.inj h26
              exact QJ.cut_end ⟨rfl, rfl, rfl, rfl, rfl, rfl, rfl, rfl, trivial⟩
          refine QJ.step (YldS.yld (y_move rfl)) rfl ?_
          obtain ⟨t28, h29, hm⟩ := bindS hm
          refine QJ.cut 4 [(5, v14), (6, .int .i64 x17), (7, .int .i64 x18), (9, .int .i64 r20.2.1), (11, .int .i64 r23.1), (12, .int .i64 r23.2), (50, .bool t28)] ?_ ?_
          · rcases Bool.eq_false_or_eq_true t25 with hb30 | hb30
            · obtain rfl := orT h29 hb30
              refine QJ.off rfl rfl (cB hb30) rfl rfl ?_
              refine QJ.off rfl rfl (cB hb30) rfl rfl ?_
              refine QJ.off rfl rfl (cB hb30) rfl rfl ?_
              refine QJ.step (YldS.yld (y_pick_t (cB hb30) rfl)) rfl ?_
              exact QJ.cut_end ⟨rfl, rfl, rfl, rfl, rfl, rfl, rfl, trivial⟩
            · replace h29 := orF h29 hb30
              refine QJ.on rfl rfl (cB hb30) (YldS.yld (y_move rfl)) rfl ?_
              obtain ⟨r31, h32, h29⟩ := bindS h29
              refine QJ.on rfl rfl (cB hb30) (y_call Try.call49 rfl (RetG.quiet fun w hw => ok_s_ValidStops h32 w _ (hw.vw_rd (k := 0) rfl))) rfl ?_
              refine QJ.on rfl rfl (cB hb30) (YldS.yld (y_not rfl)) rfl ?_
              refine QJ.step (YldS.yld (y_pick_f (cB hb30) rfl)) rfl ?_
              obtain rfl := Option.some.inj h29
              exact QJ.cut_end ⟨rfl, rfl, rfl, rfl, rfl, rfl, rfl, trivial⟩
          refine QJ.step (YldS.yld (y_move rfl)) rfl ?_
          obtain ⟨t33, h34, hm⟩ := bindS hm
          refine QJ.cut 3 [(5, v14), (6, .int .i64 x17), (7, .int .i64 x18), (9, .int .i64 r20.2.1), (11, .int .i64 r23.1), (54, .bool t33)] ?_ ?_
          · rcases Bool.eq_false_or_eq_true t28 with hb35 | hb35
            · obtain rfl := orT h34 hb35
              refine QJ.off rfl rfl (cB hb35) rfl rfl ?_
              refine QJ.off rfl rfl (cB hb35) rfl rfl ?_
              refine QJ.step (YldS.yld (y_pick_t (cB hb35) rfl)) rfl ?_
              exact QJ.cut_end ⟨rfl, rfl, rfl, rfl, rfl, rfl, trivial⟩
            · replace h34 := orF h34 hb35
              refine QJ.on rfl rfl (cB hb35) (YldS.yld (y_move rfl)) rfl ?_
              refine QJ.on rfl rfl (cB hb35) (YldS.yld (y_bin rfl rfl rfl)) rfl ?_
              refine QJ.step (YldS.yld (y_pick_f (cB hb35) rfl)) rfl ?_
              obtain rfl := Option.some.inj h34
              exact QJ.cut_end ⟨rfl, rfl, rfl, rfl, rfl, rfl, trivial⟩
          refine QJ.step (YldS.yld (y_move rfl)) rfl ?_
          obtain ⟨t36, h37, hm⟩ := bindS hm
          refine QJ.cut 4 [(5, v14), (6, .int .i64 x17), (7, .int .i64 x18), (9, .int .i64 r20.2.1), (59, .bool t36)] ?_ ?_
          · rcases Bool.eq_false_or_eq_true t33 with hb38 | hb38
            · obtain rfl := orT h37 hb38
              refine QJ.off rfl rfl (cB hb38) rfl rfl ?_
              refine QJ.off rfl rfl (cB hb38) rfl rfl ?_
              refine QJ.off rfl rfl (cB hb38) rfl rfl ?_
              refine QJ.step (YldS.yld (y_pick_t (cB hb38) rfl)) rfl ?_
              exact QJ.cut_end ⟨rfl, rfl, rfl, rfl, rfl, trivial⟩
            · replace h37 := orF h37 hb38
              refine QJ.on rfl rfl (cB hb38) (YldS.yld (y_move rfl)) rfl ?_
              refine QJ.on rfl rfl (cB hb38) (YldS.yld (y_move rfl)) rfl ?_
              refine QJ.on rfl rfl (cB hb38) (YldS.yld (y_bin rfl rfl rfl)) rfl ?_
              refine QJ.step (YldS.yld (y_pick_f (cB hb38) rfl)) rfl ?_
              obtain rfl := Option.some.inj h37
              exact QJ.cut_end ⟨rfl, rfl, rfl, rfl, rfl, trivial⟩
          refine QJ.step (YldS.yld (y_move rfl)) rfl ?_
          obtain ⟨t39, h40, hm⟩ := bindS hm
          refine QJ.cut 8 [(5, v14), (7, .int .i64 x18), (9, .int .i64 r20.2.1), (68, .bool t39)] ?_ ?_
          · rcases Bool.eq_false_or_eq_true t36 with hb41 | hb41
            · obtain rfl := orT h40 hb41
              refine QJ.off rfl rfl (cB hb41) rfl rfl ?_
              refine QJ.off rfl rfl (cB hb41) rfl rfl ?_
              refine QJ.off rfl rfl (cB hb41) rfl rfl ?_
              refine QJ.off_undef rfl rfl rfl rfl ?_
              refine QJ.off_undef rfl rfl rfl rfl ?_
              refine QJ.off_undef rfl rfl rfl rfl ?_
              refine QJ.off rfl rfl (cB hb41) rfl rfl ?_
              refine QJ.step (YldS.yld (y_pick_t (cB hb41) rfl)) rfl ?_
              exact QJ.cut_end ⟨rfl, rfl, rfl, rfl, trivial⟩
            · replace h40 := orF h40 hb41
              refine QJ.on rfl rfl (cB hb41) (YldS.yld (y_move rfl)) rfl ?_
              refine QJ.on rfl rfl (cB hb41) (YldS.yld (y_bin rfl rfl rfl)) rfl ?_
              refine QJ.on rfl rfl (cB hb41) (YldS.yld (y_move rfl)) rfl ?_
              obtain ⟨t42, h43, h40⟩ := bindS h40
              refine QJ.cut 4 [(5, v14), (7, .int .i64 x18), (9, .int .i64 r20.2.1), (60, .bool t36), (61, .int .i64 x17), (62, .bool (decide (x17 ≥ 0))), (63, .bool (decide (x17 ≥ 0))), (67, .bool t42)] ?_ ?_
              · rcases Bool.eq_false_or_eq_true (decide (x17 ≥ 0)) with hb44 | hb44
                · replace h43 := andT h43 hb44
                  refine QJ.on rfl rfl (cB hb44) (YldS.yld (y_move rfl)) rfl ?_
                  refine QJ.on rfl rfl (cB hb44) (YldS.yld (y_move rfl)) rfl ?_
                  refine QJ.on rfl rfl (cB hb44) (YldS.yld (y_bin rfl rfl rfl)) rfl ?_
                  refine QJ.on rfl rfl (cB hb41) (YldS.yld (y_pick_t (cB hb44) rfl)) rfl ?_
                  obtain rfl := Option.some.inj h43
                  exact QJ.cut_end ⟨rfl, rfl, rfl, rfl, rfl, rfl, rfl, rfl, trivial⟩
                · obtain rfl := andF h43 hb44
                  refine QJ.off rfl rfl (cB hb44) rfl rfl ?_
                  refine QJ.off rfl rfl (cB hb44) rfl rfl ?_
                  refine QJ.off rfl rfl (cB hb44) rfl rfl ?_
                  refine QJ.on rfl rfl (cB hb41) (YldS.yld (y_pick_f (cB hb44) rfl)) rfl ?_
                  exact QJ.cut_end ⟨rfl, rfl, rfl, rfl, rfl, rfl, rfl, rfl, trivial⟩
              refine QJ.step (YldS.yld (y_pick_f (cB hb41) rfl)) rfl ?_
              obtain rfl := Option.some.inj h40
              exact QJ.cut_end ⟨rfl, rfl, rfl, rfl, trivial⟩
          refine QJ.done ?_
          refine PJ.next ?_
          refine WJ.cond (t := t39) rfl (fun hb45 => ?_) (fun hb45 => ?_)
          · replace hm := ifT hm hb45
            refine WJ.seq ?_
            refine WJ.quiet ?_
            refine QJ.step (YldS.yld (y_assign rfl)) rfl ?_
            refine QJ.done ?_
            refine PJ.next ?_
            refine WJ.ret ?_
            refine PJ.then_ret (PJ.block_ret (PJ.then_ret (PJ.then_ret (PJ.block_ret (PJ.then_ret ?_)))))
            obtain rfl := Option.some.inj hm
            refine PJ.sel (L' := []) [] ⟨List.nodup_nil, rfl⟩ ?_
            exact PJ.retn (vs := [.bool false]) Try.results7 ⟨rfl, trivial⟩ ⟨rfl, rfl⟩
          · replace hm := ifF hm hb45
            refine WJ.skip ?_
            refine PJ.next ?_
            refine WJ.quiet ?_
            refine QJ.step (YldS.yld (y_move rfl)) rfl ?_
            refine QJ.step (YldS.yld (y_assign rfl)) rfl ?_
            refine QJ.done ?_
            refine PJ.block_normal (PJ.next ?_)
            refine WJ.quiet ?_
            refine QJ.step (YldS.yld (y_move rfl)) rfl ?_
            refine QJ.step (YldS.yld (y_bin rfl rfl rfl)) rfl ?_
            refine QJ.step (YldS.yld (y_assign rfl)) rfl ?_
            refine QJ.done ?_
            exact PJ.round (r20.2.1, w64 (x18 + 1)) [1] hm ⟨rfl, rfl, rfl, trivial⟩ ⟨by decide, rfl⟩
        · replace hm := ifF hm hb19
          refine WJ.exit ?_
          refine PJ.then_exit (PJ.then_exit (PJ.block_exit ?_))
          exact PJ.joined () [] hm trivial ⟨List.nodup_nil, rfl⟩
    · rintro _ hm
      subst hk16
      refine WJ.seq ?_
      refine WJ.quiet ?_
      refine QJ.step (YldS.yld (y_assign rfl)) rfl ?_
      refine QJ.done ?_
      refine PJ.next ?_
      refine WJ.ret ?_
      obtain rfl := Option.some.inj hm
      refine PJ.sel (L' := []) [] ⟨List.nodup_nil, rfl⟩ ?_
      exact PJ.retn (vs := [.bool true]) Try.results7 ⟨rfl, trivial⟩ ⟨rfl, rfl⟩

end Go.Proofs.Ytimcachjcocjmaa
