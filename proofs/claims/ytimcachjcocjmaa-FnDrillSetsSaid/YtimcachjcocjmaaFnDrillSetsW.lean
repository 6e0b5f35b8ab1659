/-
  The walks: a call hands back what its plain function computes, where that has a value. No other conditions.
-/
import Derived.Test.YtimcachjcocjmaaFnDrillSetsM
import Derived.Test.YtimcachjcocjmaaChecked
namespace Go.Proofs.Ytimcachjcocjmaa
open Go.RowKit Go.Proofs
set_option linter.unusedVariables false
set_option linter.unusedSimpArgs false

theorem follows : Try.prog.follows .mixedOrders = true := by kernel_rfl

def Drill.enc (x : Drill) : List Value := [str x.name, str x.letters, .int .i64 x.minutes]
def fDrill : FRp Drill := ⟨3, Drill.enc, fun _ => rfl, by decide, fun x u hu => by
  simp only [Drill.enc, List.mem_cons, List.not_mem_nil, or_false] at hu
  rcases hu with rfl | rfl | rfl <;> rfl⟩

theorem pl126 : PlacesOk Try.prog 126 [(0, 1), (1, 1), (2, 1)] := ⟨_, Try.runUnderlying126, fun w => by simp [Try.sizeOf3, Try.sizeOf22, Try.sizeOf124]⟩
theorem fld126_1 : FieldOk Try.prog 126 1 1 3 0 := ⟨_, _, Try.runUnderlying126, rfl, rfl, rfl, Try.sizeOf3⟩
theorem fld126_0 : FieldOk Try.prog 126 0 0 22 0 := ⟨_, _, Try.runUnderlying126, rfl, rfl, rfl, Try.sizeOf22⟩
theorem fld126_2 : FieldOk Try.prog 126 2 2 124 0 := ⟨_, _, Try.runUnderlying126, rfl, rfl, rfl, Try.sizeOf124⟩
theorem pl152 : PlacesOk Try.prog 152 [(0, 1), (1, 1), (2, 1)] := ⟨_, Try.runUnderlying152, fun w => by simp [Try.sizeOf2, Try.sizeOf9]⟩
theorem fld152_1 : FieldOk Try.prog 152 1 1 9 0 := ⟨_, _, Try.runUnderlying152, rfl, rfl, rfl, Try.sizeOf9⟩
theorem fld152_2 : FieldOk Try.prog 152 2 2 2 0 := ⟨_, _, Try.runUnderlying152, rfl, rfl, rfl, Try.sizeOf2⟩
set_option maxRecDepth 100000 in
theorem el152 : ElemOk Try.prog 152 3 (fDrill.enc (Drill.mk [] [] 0)) := ⟨_, _, Try.type152, rfl, rfl, rfl, by decide⟩
set_option maxRecDepth 100000 in
theorem el5 : ElemOk Try.prog 5 1 (fByte.enc 0) := ⟨_, _, Try.type5, rfl, rfl, rfl, by decide⟩
set_option maxRecDepth 100000 in
theorem el2 : ElemOk Try.prog 2 1 (fI64.enc 0) := ⟨_, _, Try.type2, rfl, rfl, rfl, by decide⟩
theorem fld152_0 : FieldOk Try.prog 152 0 0 9 0 := ⟨_, _, Try.runUnderlying152, rfl, rfl, rfl, Try.sizeOf9⟩
set_option maxRecDepth 100000 in
theorem zv97 : ∀ w, (zeroValue 97).run Try.prog w = .ok (.agg (List.toArray (encs fBool (List.replicate 256 false)))) w := fun w => by
  rw [Try.zeroValue97]
  refine congrArg (fun z => Result.ok (Value.agg z) w) ?_
  kernel_rfl

set_option maxRecDepth 100000 in
set_option maxHeartbeats 1000000 in
theorem ok_w_a2Long {code1 : List UInt8} {more4 : List UInt8} {r : Bool} (hm : w_a2Long code1 more4 = some r) (w : World) (v2 : Value) (hr3 : RdS w (cx w).Fz v2 fByte.rp code1) (v5 : Value) (hr6 : RdS w (cx w).Fz v5 fByte.rp more4) :
    Calls Try.prog 9 #[v2, v5] w (Ret (cx w) (.bool r)) := by
  unfold w_a2Long at hm
  refine Calls.enter [v2, v5] Try.func9 rfl Try.ntmps9 rfl ?_
  refine WJ.seq ?_
  refine WJ.quiet ?_
  refine QJ.step (YldS.yld (y_assign rfl)) rfl ?_
  refine QJ.done ?_
  refine PJ.next ?_
  refine WJ.seq ?_
  refine WJ.quiet ?_
  refine QJ.step (YldS.yld (y_move rfl)) rfl ?_
  refine QJ.step (YldS.yld (y_lenS Try.runUnderlying22 hr3 rfl)) rfl ?_
  refine QJ.step (YldS.yld (y_bin rfl rfl rfl)) rfl ?_
  refine QJ.step (YldS.yld (y_move rfl)) rfl ?_
  obtain ⟨t7, h8, hm⟩ := bindS hm
  refine QJ.cut 4 [(12, .bool t7)] ?_ ?_
  · rcases Bool.eq_false_or_eq_true (decide ((List.length code1 : Int) > 3000)) with hb9 | hb9
    · obtain rfl := orT h8 hb9
      refine QJ.off rfl rfl (cB hb9) rfl rfl ?_
      refine QJ.off rfl rfl (cB hb9) rfl rfl ?_
      refine QJ.off rfl rfl (cB hb9) rfl rfl ?_
      refine QJ.step (YldS.yld (y_pick_t (cB hb9) rfl)) rfl ?_
      exact QJ.cut_end ⟨rfl, trivial⟩
    · replace h8 := orF h8 hb9
      refine QJ.on rfl rfl (cB hb9) (YldS.yld (y_move rfl)) rfl ?_
      refine QJ.on rfl rfl (cB hb9) (YldS.yld (y_lenS Try.runUnderlying22 hr6 rfl)) rfl ?_
      refine QJ.on rfl rfl (cB hb9) (YldS.yld (y_bin rfl rfl rfl)) rfl ?_
      refine QJ.step (YldS.yld (y_pick_f (cB hb9) rfl)) rfl ?_
      obtain rfl := Option.some.inj h8
      exact QJ.cut_end ⟨rfl, trivial⟩
  refine QJ.step (YldS.yld (y_assign rfl)) rfl ?_
  refine QJ.done ?_
  refine PJ.next ?_
  refine WJ.ret ?_
  obtain rfl := Option.some.inj hm
  refine PJ.sel (L' := []) [] ⟨List.nodup_nil, rfl⟩ ?_
  exact PJ.retn (vs := [.bool t7]) Try.results9 ⟨rfl, trivial⟩ ⟨rfl, rfl⟩

set_option maxRecDepth 100000 in
set_option maxHeartbeats 1000000 in
theorem ok_s_l00From {code1 : List UInt8} {r : L00Src} (hm : s_l00From code1 = some r) (w : World) (v2 : Value) (hr3 : RdS w (cx w).Fz v2 fByte.rp code1) :
    Calls Try.prog 59 #[v2] w (RetG (cx w) fun u L => ∃ (u1 : Nat), (u = pt u1 0 ∧ L = [box u1 126 [v2, .int .i64 r.at_, .int .u64 r.seed]])) := by
  unfold s_l00From at hm
  refine Calls.enter [v2] Try.func59 rfl Try.ntmps59 rfl ?_
  refine WJ.seq ?_
  refine WJ.quiet ?_
  refine QJ.step (YldS.yld (y_assign rfl)) rfl ?_
  refine QJ.done ?_
  refine PJ.next ?_
  refine WJ.seq ?_
  refine WJ.reg ?_
  refine SJ.q (YldS.yld (y_move rfl)) rfl ?_
  refine SJ.q (YldS.yld (y_build (parts := [(0, .tmp 3)]) (places := [(0, 1), (1, 1), (2, 1)]) (r := [v2, .int .i64 0, .int .u64 0]) pl126 Try.zeroValue126 rfl rfl (show _ = [(0, [v2])] from by simp only [List.map, RdS.cells1 hr3]) rfl)) rfl ?_
  refine SJ.box (cs := [v2, .int .i64 0, .int .u64 0]) rfl rfl rfl fun g4 => ?_
  refine SJ.q (YldS.yld (y_assign rfl)) rfl ?_
  refine SJ.nil ?_
  refine PJ.next ?_
  refine WJ.ret ?_
  obtain rfl := Option.some.inj hm
  refine PJ.sel (L' := [box g4 126 [v2, .int .i64 0, .int .u64 0]]) [0] ⟨by decide, rfl⟩ ?_
  exact PJ.retn (vs := [pt g4 0]) Try.results59 ⟨rfl, trivial⟩ ⟨_, rfl, rfl⟩

set_option maxRecDepth 100000 in
set_option maxHeartbeats 1000000 in
theorem ok_s_l00Src_next {s1 : L00Src} {g2 : Nat} {r : Int × L00Src} (hm : s_l00Src_next s1 = some r) (w : World) (S : Nat → Prop) (v3 : Value) (hr4 : RdS w (Cx.Fz ⟨w, S⟩) v3 fByte.rp s1.code) (hA : (box g2 126 [v3, .int .i64 s1.at_, .int .u64 s1.seed]).holds w S) :
    Calls Try.prog 110 #[pt g2 0] w (RetG ⟨w, S⟩ fun u L => (u = .int .i64 r.1 ∧ L = [box g2 126 [v3, .int .i64 r.2.at_, .int .u64 r.2.seed]])) := by
  unfold s_l00Src_next at hm
  refine Calls.enter1 hA [pt g2 0] Try.func110 rfl Try.ntmps110 rfl ?_
  refine WJ.seq ?_
  refine WJ.quiet ?_
  refine QJ.step (YldS.yld (y_assign rfl)) rfl ?_
  refine QJ.done ?_
  refine PJ.next ?_
  refine WJ.seq ?_
  refine WJ.quiet ?_
  refine QJ.step (YldS.yld (y_assign rfl)) rfl ?_
  refine QJ.done ?_
  refine PJ.next ?_
  obtain ⟨kj6, hk7, hm⟩ := withK_open hm
  refine WJ.join (X := Int) (fun (x : Int) => kj6 x = some r) (fun (x : Int) => [(0, pt g2 0), (3, .int .i64 x)]) (fun (x : Int) => [box g2 126 [v3, .int .i64 s1.at_, .int .u64 s1.seed]]) ?_ ?_
  · clear hk7
    refine WJ.seq ?_
    refine WJ.quiet_draw follows (by kernel_rfl) ?_
    refine QJ.step (YldS.yld (y_move rfl)) rfl ?_
    refine QJ.step (YldS.yld (y_nil rfl)) rfl ?_
    refine QJ.step (YldS.yld (y_fldB (o := 0) fld126_1 rfl)) rfl ?_
    refine QJ.step (YldS.yld (y_loadB (k := 0) (off := 1) (v := .int .i64 s1.at_) rfl Try.isAgg3 rfl rfl)) rfl ?_
    refine QJ.step (YldS.yld (y_move rfl)) rfl ?_
    refine QJ.step (YldS.yld (y_nil rfl)) rfl ?_
    refine QJ.step (YldS.yld (y_fldB (o := 0) fld126_0 rfl)) rfl ?_
    refine QJ.step (YldS.yld (y_loadB (k := 0) (off := 0) (v := v3) rfl Try.isAgg22 rfl rfl)) rfl ?_
    refine QJ.step (YldS.yld (y_lenS Try.runUnderlying22 hr4 rfl)) rfl ?_
    refine QJ.step (YldS.yld (y_bin rfl rfl rfl)) rfl ?_
    refine QJ.done ?_
    refine PJ.next ?_
    refine WJ.cond (t := decide (s1.at_ < (List.length s1.code : Int))) rfl (fun hb8 => ?_) (fun hb8 => ?_)
    · replace hm := ifT hm hb8
      refine WJ.quiet_draw follows (by kernel_rfl) ?_
      refine QJ.step (YldS.yld (y_move rfl)) rfl ?_
      refine QJ.step (YldS.yld (y_nil rfl)) rfl ?_
      refine QJ.step (YldS.yld (y_fldB (o := 0) fld126_0 rfl)) rfl ?_
      refine QJ.step (YldS.yld (y_loadB (k := 0) (off := 0) (v := v3) rfl Try.isAgg22 rfl rfl)) rfl ?_
      refine QJ.step (YldS.yld (y_move rfl)) rfl ?_
      refine QJ.step (YldS.yld (y_nil rfl)) rfl ?_
      refine QJ.step (YldS.yld (y_fldB (o := 0) fld126_1 rfl)) rfl ?_
      refine QJ.step (YldS.yld (y_loadB (k := 0) (off := 1) (v := .int .i64 s1.at_) rfl Try.isAgg3 rfl rfl)) rfl ?_
      obtain ⟨e9, h10, hm⟩ := bindS hm
      obtain ⟨ad11, _, rfl, ha12, hy13⟩ := hr4.elem h10
      refine QJ.step (YldS.yld (hy13 Try.runUnderlying22 Try.sizeOf5 rfl rfl)) rfl ?_
      refine QJ.step (YldS.yld (y_load1 (v := .int .u8 (UInt8.toNat e9 : Int)) Try.isAgg5 ha12 St.frozenC rfl)) rfl ?_
      refine QJ.step (YldS.yld (y_conv8 Try.runUnderlying5 Try.runUnderlying3 rfl)) rfl ?_
      refine QJ.step (YldS.yld (y_assign rfl)) rfl ?_
      refine QJ.done ?_
      exact PJ.joined (UInt8.toNat e9 : Int) [0] hm ⟨rfl, rfl, trivial⟩ ⟨by decide, rfl⟩
    · replace hm := ifF hm hb8
      refine WJ.skip ?_
      exact PJ.joined 0 [0] hm ⟨rfl, rfl, trivial⟩ ⟨by decide, rfl⟩
  · rintro b5 hm
    subst hk7
    refine WJ.seq ?_
    refine WJ.reg ?_
    refine SJ.q (YldS.yld (y_move rfl)) rfl ?_
    refine SJ.q (YldS.yld (y_nil rfl)) rfl ?_
    refine SJ.q (YldS.yld (y_fldB (o := 0) fld126_1 rfl)) rfl ?_
    refine SJ.q (YldS.yld (y_loadB (k := 0) (off := 1) (v := .int .i64 s1.at_) rfl Try.isAgg3 rfl rfl)) rfl ?_
    refine SJ.q (YldS.yld (y_bin rfl rfl rfl)) rfl ?_
    refine SJ.q (YldS.yld (y_nil rfl)) rfl ?_
    refine SJ.q (YldS.yld (y_fldB (o := 0) fld126_1 rfl)) rfl ?_
    refine SJ.storeL (k := 0) (off := 1) (us := [.int .i64 (w64 (s1.at_ + 1))]) rfl rfl rfl rfl Try.sizeOf3 rfl rfl ?_
    refine SJ.nil ?_
    refine PJ.next ?_
    refine WJ.seq ?_
    refine WJ.reg ?_
    refine SJ.q (YldS.yld (y_move rfl)) rfl ?_
    refine SJ.q (YldS.yld (y_move rfl)) rfl ?_
    refine SJ.q (YldS.yld (y_nil rfl)) rfl ?_
    refine SJ.q (YldS.yld (y_fldB (o := 0) fld126_2 rfl)) rfl ?_
    refine SJ.q (YldS.yld (y_loadB (k := 0) (off := 2) (v := .int .u64 s1.seed) rfl Try.isAgg124 rfl rfl)) rfl ?_
    refine SJ.q (YldS.yld (y_bin rfl rfl rfl)) rfl ?_
    refine SJ.q (YldS.yld (y_move rfl)) rfl ?_
    refine SJ.q (YldS.yld (y_convI Try.runUnderlying3 Try.runUnderlying124 rfl)) rfl ?_
    refine SJ.q (YldS.yld (y_bin rfl rfl rfl)) rfl ?_
    refine SJ.q (YldS.yld (y_bin rfl rfl rfl)) rfl ?_
    refine SJ.q (YldS.yld (y_nil rfl)) rfl ?_
    refine SJ.q (YldS.yld (y_fldB (o := 0) fld126_2 rfl)) rfl ?_
    refine SJ.storeL (k := 0) (off := 2) (us := [.int .u64 (IntKind.u64.wrap ((IntKind.u64.wrap ((IntKind.u64.wrap (s1.seed * 6364136223846793005)) + (IntKind.u64.wrap b5))) + 1442695040888963407))]) rfl rfl rfl rfl Try.sizeOf124 rfl rfl ?_
    refine SJ.nil ?_
    refine PJ.next ?_
    refine WJ.seq ?_
    refine WJ.seq ?_
    refine WJ.quiet_draw follows (by kernel_rfl) ?_
    refine QJ.step (YldS.yld (y_move rfl)) rfl ?_
    refine QJ.step (YldS.yld (y_nil rfl)) rfl ?_
    refine QJ.step (YldS.yld (y_fldB (o := 0) fld126_1 rfl)) rfl ?_
    refine QJ.step (YldS.yld (y_loadB (k := 0) (off := 1) (v := .int .i64 (w64 (s1.at_ + 1))) rfl Try.isAgg3 rfl rfl)) rfl ?_
    refine QJ.step (YldS.yld (y_move rfl)) rfl ?_
    refine QJ.step (YldS.yld (y_nil rfl)) rfl ?_
    refine QJ.step (YldS.yld (y_fldB (o := 0) fld126_0 rfl)) rfl ?_
    refine QJ.step (YldS.yld (y_loadB (k := 0) (off := 0) (v := v3) rfl Try.isAgg22 rfl rfl)) rfl ?_
    refine QJ.step (YldS.yld (y_lenS Try.runUnderlying22 hr4 rfl)) rfl ?_
    refine QJ.step (YldS.yld (y_bin rfl rfl rfl)) rfl ?_
    refine QJ.done ?_
    refine PJ.next ?_
    refine WJ.cond (t := decide ((w64 (s1.at_ + 1)) ≤ (List.length s1.code : Int))) rfl (fun hb14 => ?_) (fun hb14 => ?_)
    · replace hm := ifT hm hb14
      refine WJ.seq ?_
      refine WJ.quiet ?_
      refine QJ.step (YldS.yld (y_move rfl)) rfl ?_
      refine QJ.step (YldS.yld (y_assign rfl)) rfl ?_
      refine QJ.done ?_
      refine PJ.next ?_
      refine WJ.ret ?_
      refine PJ.then_ret ?_
      obtain rfl := Option.some.inj hm
      refine PJ.sel (L' := [box g2 126 [v3, .int .i64 (w64 (s1.at_ + 1)), .int .u64 (IntKind.u64.wrap ((IntKind.u64.wrap ((IntKind.u64.wrap (s1.seed * 6364136223846793005)) + (IntKind.u64.wrap b5))) + 1442695040888963407))]]) [0] ⟨by decide, rfl⟩ ?_
      exact PJ.retn (vs := [.int .i64 b5]) Try.results110 ⟨rfl, trivial⟩ ⟨rfl, rfl⟩
    · replace hm := ifF hm hb14
      refine WJ.skip ?_
      refine PJ.next ?_
      refine WJ.seq ?_
      refine WJ.quiet ?_
      refine QJ.step (YldS.yld (y_move rfl)) rfl ?_
      refine QJ.step (YldS.yld (y_nil rfl)) rfl ?_
      refine QJ.step (YldS.yld (y_fldB (o := 0) fld126_2 rfl)) rfl ?_
      refine QJ.step (YldS.yld (y_loadB (k := 0) (off := 2) (v := .int .u64 (IntKind.u64.wrap ((IntKind.u64.wrap ((IntKind.u64.wrap (s1.seed * 6364136223846793005)) + (IntKind.u64.wrap b5))) + 1442695040888963407))) rfl Try.isAgg124 rfl rfl)) rfl ?_
      refine QJ.step (YldS.yld (y_shru rfl rfl rfl)) rfl ?_
      refine QJ.step (YldS.yld (y_andu rfl rfl rfl)) rfl ?_
      refine QJ.step (YldS.yld (y_convI Try.runUnderlying124 Try.runUnderlying2 rfl)) rfl ?_
      refine QJ.step (YldS.yld (y_assign rfl)) rfl ?_
      refine QJ.done ?_
      refine PJ.next ?_
      refine WJ.ret ?_
      obtain rfl := Option.some.inj hm
      refine PJ.sel (L' := [box g2 126 [v3, .int .i64 (w64 (s1.at_ + 1)), .int .u64 (IntKind.u64.wrap ((IntKind.u64.wrap ((IntKind.u64.wrap (s1.seed * 6364136223846793005)) + (IntKind.u64.wrap b5))) + 1442695040888963407))]]) [0] ⟨by decide, rfl⟩ ?_
      exact PJ.retn (vs := [.int .i64 (w64 (uand (ushr (IntKind.u64.wrap ((IntKind.u64.wrap ((IntKind.u64.wrap (s1.seed * 6364136223846793005)) + (IntKind.u64.wrap b5))) + 1442695040888963407)) 40) 255))]) Try.results110 ⟨rfl, trivial⟩ ⟨rfl, rfl⟩

set_option maxRecDepth 100000 in
set_option maxHeartbeats 1000000 in
theorem ok_s_l00Src_pick {s1 : L00Src} {n5 : Int} {g2 : Nat} {r : Int × L00Src} (hm : s_l00Src_pick s1 n5 = some r) (w : World) (S : Nat → Prop) (v3 : Value) (hr4 : RdS w (Cx.Fz ⟨w, S⟩) v3 fByte.rp s1.code) (hA : (box g2 126 [v3, .int .i64 s1.at_, .int .u64 s1.seed]).holds w S) :
    Calls Try.prog 60 #[pt g2 0, .int .i64 n5] w (RetG ⟨w, S⟩ fun u L => (u = .int .i64 r.1 ∧ L = [box g2 126 [v3, .int .i64 r.2.at_, .int .u64 r.2.seed]])) := by
  unfold s_l00Src_pick at hm
  refine Calls.enter1 hA [pt g2 0, .int .i64 n5] Try.func60 rfl Try.ntmps60 rfl ?_
  refine WJ.seq ?_
  refine WJ.quiet ?_
  refine QJ.step (YldS.yld (y_assign rfl)) rfl ?_
  refine QJ.done ?_
  refine PJ.next ?_
  refine WJ.seq ?_
  refine WJ.seq ?_
  refine WJ.quiet ?_
  refine QJ.step (YldS.yld (y_move rfl)) rfl ?_
  refine QJ.step (YldS.yld (y_bin rfl rfl rfl)) rfl ?_
  refine QJ.done ?_
  refine PJ.next ?_
  refine WJ.cond (t := decide (n5 ≤ 1)) rfl (fun hb6 => ?_) (fun hb6 => ?_)
  · replace hm := ifT hm hb6
    refine WJ.seq ?_
    refine WJ.quiet ?_
    refine QJ.step (YldS.yld (y_assign rfl)) rfl ?_
    refine QJ.done ?_
    refine PJ.next ?_
    refine WJ.ret ?_
    refine PJ.then_ret ?_
    obtain rfl := Option.some.inj hm
    refine PJ.sel (L' := [box g2 126 [v3, .int .i64 s1.at_, .int .u64 s1.seed]]) [0] ⟨by decide, rfl⟩ ?_
    exact PJ.retn (vs := [.int .i64 0]) Try.results60 ⟨rfl, trivial⟩ ⟨rfl, rfl⟩
  · replace hm := ifF hm hb6
    refine WJ.skip ?_
    refine PJ.next ?_
    refine WJ.seq ?_
    refine WJ.reg ?_
    refine SJ.q (YldS.yld (y_move rfl)) rfl ?_
    obtain ⟨r7, h8, hm⟩ := bindS hm
    refine SJ.call1 (k := 0) rfl Try.call110 rfl (fun w S hw hA hO => ok_s_l00Src_next h8 w S _ (hr4.st1 hw hO) hA) rfl ?_
    rintro _ _ ⟨rfl, rfl⟩
    refine SJ.q (YldS.yld (y_assign rfl)) rfl ?_
    refine SJ.nil ?_
    refine PJ.next ?_
    obtain ⟨kj12, hk13, hm⟩ := withK_open hm
    refine WJ.join (X := Int × Int × Int) (fun (x : Int × Int × Int) => kj12 x.1 x.2.1 x.2.2 = some r) (fun (x : Int × Int × Int) => [(1, .int .i64 n5), (5, .int .i64 x.2.2)]) (fun (x : Int × Int × Int) => [box g2 126 [v3, .int .i64 x.1, .int .u64 x.2.1]]) ?_ ?_
    · clear hk13
      refine WJ.seq ?_
      refine WJ.quiet ?_
      refine QJ.step (YldS.yld (y_move rfl)) rfl ?_
      refine QJ.step (YldS.yld (y_bin rfl rfl rfl)) rfl ?_
      refine QJ.done ?_
      refine PJ.next ?_
      refine WJ.cond (t := decide (n5 > 200)) rfl (fun hb14 => ?_) (fun hb14 => ?_)
      · replace hm := ifT hm hb14
        refine WJ.reg ?_
        refine SJ.q (YldS.yld (y_move rfl)) rfl ?_
        refine SJ.q (YldS.yld (y_bin rfl rfl rfl)) rfl ?_
        refine SJ.q (YldS.yld (y_move rfl)) rfl ?_
        obtain ⟨r15, h16, hm⟩ := bindS hm
        refine SJ.call1 (k := 0) rfl Try.call110 rfl (fun w S hw hA hO => ok_s_l00Src_next h16 w S _ (hr4.st1 hw hO) hA) rfl ?_
        rintro _ _ ⟨rfl, rfl⟩
        refine SJ.q (YldS.yld (y_bin rfl rfl rfl)) rfl ?_
        refine SJ.q (YldS.yld (y_assign rfl)) rfl ?_
        refine SJ.nil ?_
        exact PJ.joined (r15.2.at_, r15.2.seed, w64 ((w64 (r7.1 * 256)) + r15.1)) [0] hm ⟨rfl, rfl, trivial⟩ ⟨by decide, rfl⟩
      · replace hm := ifF hm hb14
        refine WJ.skip ?_
        exact PJ.joined (r7.2.at_, r7.2.seed, r7.1) [0] hm ⟨rfl, rfl, trivial⟩ ⟨by decide, rfl⟩
    · rintro ⟨x9, x10, x11⟩ hm
      subst hk13
      refine WJ.seq ?_
      refine WJ.quiet ?_
      refine QJ.step (YldS.yld (y_move rfl)) rfl ?_
      refine QJ.step (YldS.yld (y_move rfl)) rfl ?_
      obtain ⟨q17, h18, hm⟩ := bindS hm
      refine QJ.step (YldS.yld (y_rem' h18 rfl rfl)) rfl ?_
      refine QJ.step (YldS.yld (y_assign rfl)) rfl ?_
      refine QJ.done ?_
      refine PJ.next ?_
      refine WJ.ret ?_
      obtain rfl := Option.some.inj hm
      refine PJ.sel (L' := [box g2 126 [v3, .int .i64 x9, .int .u64 x10]]) [0] ⟨by decide, rfl⟩ ?_
      exact PJ.retn (vs := [.int .i64 q17]) Try.results60 ⟨rfl, trivial⟩ ⟨rfl, rfl⟩

set_option maxRecDepth 100000 in
set_option maxHeartbeats 1000000 in
theorem ok_s_l00Src_text {s1 : L00Src} {list5 : List Str} {g2 : Nat} {r : Str × L00Src} (hm : s_l00Src_text s1 list5 = some r) (w : World) (S : Nat → Prop) (v3 : Value) (hr4 : RdS w (Cx.Fz ⟨w, S⟩) v3 fByte.rp s1.code) (v6 : Value) (hr7 : RdS w (Cx.Fz ⟨w, S⟩) v6 fStr.rp list5) (hA : (box g2 126 [v3, .int .i64 s1.at_, .int .u64 s1.seed]).holds w S) :
    Calls Try.prog 157 #[pt g2 0, v6] w (RetG ⟨w, S⟩ fun u L => (u = str r.1 ∧ L = [box g2 126 [v3, .int .i64 r.2.at_, .int .u64 r.2.seed]])) := by
  unfold s_l00Src_text at hm
  refine Calls.enter1 hA [pt g2 0, v6] Try.func157 rfl Try.ntmps157 rfl ?_
  refine WJ.seq ?_
  refine WJ.quiet ?_
  refine QJ.step (YldS.yld (y_assign rfl)) rfl ?_
  refine QJ.done ?_
  refine PJ.next ?_
  refine WJ.seq ?_
  refine WJ.reg ?_
  refine SJ.q (YldS.yld (y_move rfl)) rfl ?_
  refine SJ.q (YldS.yld (y_move rfl)) rfl ?_
  refine SJ.q (YldS.yld (y_move rfl)) rfl ?_
  refine SJ.q (YldS.yld (y_lenS Try.runUnderlying32 hr7 rfl)) rfl ?_
  obtain ⟨r8, h9, hm⟩ := bindS hm
  refine SJ.call1 (k := 0) rfl Try.call60 rfl (fun w S hw hA hO => ok_s_l00Src_pick h9 w S _ (hr4.st1 hw hO) hA) rfl ?_
  rintro _ _ ⟨rfl, rfl⟩
  obtain ⟨e10, h11, hm⟩ := bindS hm
  obtain ⟨ad12, _, rfl, ha13, hy14⟩ := hr7.elem h11
  refine SJ.q (YldS.yld (hy14 Try.runUnderlying32 Try.sizeOf9 rfl rfl)) rfl ?_
  refine SJ.q (YldS.yld (y_load1 (v := str e10) Try.isAgg9 ha13 St.frozenC rfl)) rfl ?_
  refine SJ.q (YldS.yld (y_assign rfl)) rfl ?_
  refine SJ.nil ?_
  refine PJ.next ?_
  refine WJ.ret ?_
  obtain rfl := Option.some.inj hm
  refine PJ.sel (L' := [box g2 126 [v3, .int .i64 r8.2.at_, .int .u64 r8.2.seed]]) [0] ⟨by decide, rfl⟩ ?_
  exact PJ.retn (vs := [str e10]) Try.results157 ⟨rfl, trivial⟩ ⟨rfl, rfl⟩

set_option maxRecDepth 100000 in
set_option maxHeartbeats 1000000 in
theorem ok_s_l21New {s1 : L00Src} {name5 : Str} {g2 : Nat} {r : Drill × L00Src} (hm : s_l21New s1 name5 = some r) (w : World) (S : Nat → Prop) (v3 : Value) (hr4 : RdS w (Cx.Fz ⟨w, S⟩) v3 fByte.rp s1.code) (hA : (box g2 126 [v3, .int .i64 s1.at_, .int .u64 s1.seed]).holds w S) :
    Calls Try.prog 132 #[pt g2 0, str name5] w (RetG ⟨w, S⟩ fun u L => (u = .agg (Drill.enc r.1).toArray ∧ L = [box g2 126 [v3, .int .i64 r.2.at_, .int .u64 r.2.seed]])) := by
  unfold s_l21New at hm
  refine Calls.enter1 hA [pt g2 0, str name5] Try.func132 rfl Try.ntmps132 rfl ?_
  refine WJ.seq ?_
  refine WJ.reg ?_
  refine SJ.alloc (cs := [str [], str [], .int .i64 0]) Try.zeroValue152 rfl rfl fun g6 => ?_
  refine SJ.nil ?_
  refine PJ.next ?_
  refine WJ.seq ?_
  refine WJ.reg ?_
  refine SJ.q (YldS.yld (y_move rfl)) rfl ?_
  refine SJ.q (YldS.yld (y_build (parts := [(0, .tmp 6)]) (places := [(0, 1), (1, 1), (2, 1)]) (r := [str ((Drill.mk name5 [] 0).name), str ((Drill.mk name5 [] 0).letters), .int .i64 ((Drill.mk name5 [] 0).minutes)]) pl152 Try.zeroValue152 rfl rfl rfl rfl)) rfl ?_
  refine SJ.alloc (cs := [str [], str [], .int .i64 0]) Try.zeroValue152 rfl rfl fun g7 => ?_
  refine SJ.storeL (k := 0) (off := 0) (us := [str ((Drill.mk name5 [] 0).name), str ((Drill.mk name5 [] 0).letters), .int .i64 ((Drill.mk name5 [] 0).minutes)]) rfl rfl rfl rfl Try.sizeOf152 rfl rfl ?_
  refine SJ.nil ?_
  refine PJ.next ?_
  refine WJ.seq ?_
  refine WJ.reg ?_
  refine SJ.q (YldS.yld (y_move rfl)) rfl ?_
  refine SJ.buildSlice (R := fStr) (os := [.const (str [102, 106]), .const (str [97, 115, 100, 102]), .const (str [101, 105]), .const (str [114, 116, 121, 117]), .const (str [122, 120, 99]), .const (str [110, 109, 44, 46]), .const (str [126, 33]), .const (str [103, 104, 97, 101, 105])]) [[102, 106], [97, 115, 100, 102], [101, 105], [114, 116, 121, 117], [122, 120, 99], [110, 109, 44, 46], [126, 33], [103, 104, 97, 101, 105]] Try.runUnderlying32 Try.sizeOf9 Try.zeroValue9 rfl rfl rfl rfl rfl rfl fun v8 => ?_
  obtain ⟨r9, h10, hm⟩ := bindS hm
  refine SJ.call2 (k := 3) rfl Try.call157 rfl (fun w S hw hA hO hB => ok_s_l00Src_text h10 w S _ (hr4.st1 hw hO) _ (hB.row_rd (j := 0) (k := 3) rfl rfl) hA) rfl ?_
  rintro _ _ ⟨rfl, rfl⟩
  refine SJ.q (YldS.yld (y_fldB (o := 0) fld152_1 rfl)) rfl ?_
  refine SJ.storeL (k := 2) (off := 1) (us := [str r9.1]) rfl rfl rfl rfl Try.sizeOf9 rfl rfl ?_
  refine SJ.nil ?_
  refine PJ.next ?_
  refine WJ.seq ?_
  refine WJ.reg ?_
  refine SJ.q (YldS.yld (y_move rfl)) rfl ?_
  obtain ⟨r11, h12, hm⟩ := bindS hm
  refine SJ.call1 (k := 0) rfl Try.call60 rfl (fun w S hw hA hO => ok_s_l00Src_pick h12 w S _ (hr4.st1 hw hO) hA) rfl ?_
  rintro _ _ ⟨rfl, rfl⟩
  refine SJ.q (YldS.yld (y_bin rfl rfl rfl)) rfl ?_
  refine SJ.q (YldS.yld (y_fldB (o := 0) fld152_2 rfl)) rfl ?_
  refine SJ.storeL (k := 2) (off := 2) (us := [.int .i64 (w64 (1 + r11.1))]) rfl rfl rfl rfl Try.sizeOf2 rfl rfl ?_
  refine SJ.nil ?_
  refine PJ.next ?_
  refine WJ.seq ?_
  refine WJ.reg ?_
  refine SJ.q (YldS.yld (y_loadBN (k := 2) (off := 0) (us := [str ((Drill.mk name5 [] 0).name), str r9.1, .int .i64 (w64 (1 + r11.1))]) rfl Try.isAgg152 Try.sizeOf152 rfl rfl)) rfl ?_
  refine SJ.storeL (k := 3) (off := 0) (us := [str ((Drill.mk name5 [] 0).name), str r9.1, .int .i64 (w64 (1 + r11.1))]) rfl rfl rfl rfl Try.sizeOf152 rfl rfl ?_
  refine SJ.nil ?_
  refine PJ.next ?_
  refine WJ.ret ?_
  obtain rfl := Option.some.inj hm
  exact PJ.retn_sel (vs := [.agg #[str ((Drill.mk name5 [] 0).name), str r9.1, .int .i64 (w64 (1 + r11.1))]]) Try.results132 ⟨⟨3, g6, 152, [str ((Drill.mk name5 [] 0).name), str r9.1, .int .i64 (w64 (1 + r11.1))], rfl, rfl, .inl ⟨Try.isAgg152, Try.sizeOf152, rfl⟩⟩, trivial⟩ [0] ⟨by decide, rfl⟩ ⟨rfl, rfl⟩

set_option maxRecDepth 100000 in
set_option maxHeartbeats 1000000 in
theorem ok_s_l21Draw {N : Nat} {s1 : L00Src} {g2 : Nat} {r : (List Drill) × L00Src} (hm : s_l21Draw N s1 = some r) (w : World) (S : Nat → Prop) (v3 : Value) (hr4 : RdS w (Cx.Fz ⟨w, S⟩) v3 fByte.rp s1.code) (hA : (box g2 126 [v3, .int .i64 s1.at_, .int .u64 s1.seed]).holds w S) :
    Calls Try.prog 96 #[pt g2 0] w (RetG ⟨w, S⟩ fun u L => ∃ (u1 : Value), (u = u1 ∧ L = [box g2 126 [v3, .int .i64 r.2.at_, .int .u64 r.2.seed], row u1 152 fDrill r.1])) := by
  unfold s_l21Draw at hm
  refine Calls.enter1 hA [pt g2 0] Try.func96 rfl Try.ntmps96 rfl ?_
  refine WJ.seq ?_
  refine WJ.quiet ?_
  refine QJ.step (YldS.yld (y_assign rfl)) rfl ?_
  refine QJ.done ?_
  refine PJ.next ?_
  refine WJ.seq ?_
  refine WJ.reg ?_
  refine SJ.buildSlice (R := fStr) (os := [.const (str [104, 111, 109, 101]), .const (str [116, 111, 112]), .const (str [108, 111, 119]), .const (str [116, 104, 117, 109, 98]), .const (str [109, 105, 120, 45, 49]), .const (str [109, 105, 120, 45, 50])]) [[104, 111, 109, 101], [116, 111, 112], [108, 111, 119], [116, 104, 117, 109, 98], [109, 105, 120, 45, 49], [109, 105, 120, 45, 50]] Try.runUnderlying32 Try.sizeOf9 Try.zeroValue9 rfl rfl rfl rfl rfl rfl fun v5 => ?_
  refine SJ.q (YldS.yld (y_assign rfl)) rfl ?_
  refine SJ.nil ?_
  refine PJ.next ?_
  refine WJ.seq ?_
  refine WJ.reg ?_
  refine SJ.buildSlice (R := fDrill) (os := []) [] Try.runUnderlying70 Try.sizeOf152 Try.zeroValue152 rfl rfl rfl rfl rfl rfl fun v6 => ?_
  refine SJ.q (YldS.yld (y_assign rfl)) rfl ?_
  refine SJ.nil ?_
  refine PJ.next ?_
  obtain ⟨kj11, hk12, hm⟩ := withK_open hm
  refine WJ.join (X := Int × Int × (List Drill) × Value) (fun (x : Int × Int × (List Drill) × Value) => kj11 x.1 x.2.1 x.2.2.1 = some r) (fun (x : Int × Int × (List Drill) × Value) => [(4, x.2.2.2)]) (fun (x : Int × Int × (List Drill) × Value) => [box g2 126 [v3, .int .i64 x.1, .int .u64 x.2.1], row x.2.2.2 152 fDrill x.2.2.1]) ?_ ?_
  · clear hk12
    refine WJ.seq ?_
    refine WJ.reg ?_
    refine SJ.q (YldS.yld (y_move rfl)) rfl ?_
    obtain ⟨r13, h14, hm⟩ := bindS hm
    refine SJ.call1 (k := 2) rfl Try.call60 rfl (fun w S hw hA hO => ok_s_l00Src_pick h14 w S _ (hr4.st1 hw hO) hA) rfl ?_
    rintro _ _ ⟨rfl, rfl⟩
    refine SJ.q (YldS.yld (y_assign rfl)) rfl ?_
    refine SJ.nil ?_
    refine PJ.next ?_
    refine WJ.block ?_
    refine WJ.sel (L' := (fun (x : Int × Int × (List Drill) × Value × Int) => [box g2 126 [v3, .int .i64 x.1, .int .u64 x.2.1], row x.2.2.2.1 152 fDrill x.2.2.1, row v5 9 fStr [[104, 111, 109, 101], [116, 111, 112], [108, 111, 119], [116, 104, 117, 109, 98], [109, 105, 120, 45, 49], [109, 105, 120, 45, 50]]]) (r13.2.at_, r13.2.seed, [], v6, r13.1)) [0, 1, 2] ⟨by decide, rfl⟩ ?_
    refine WJ.sub (m' := (fun (x : Int × Int × (List Drill) × Value × Int) => [(0, pt g2 0), (3, v5), (4, x.2.2.2.1), (5, .int .i64 x.2.2.2.2)]) (r13.2.at_, r13.2.seed, [], v6, r13.1)) ⟨rfl, rfl, rfl, rfl, trivial⟩ ?_
    refine WJ.loop (X := Int × Int × (List Drill) × Value × Int) (fun N (x : Int × Int × (List Drill) × Value × Int) => s_l21Draw_l1 kj11 s1 N x.1 x.2.1 x.2.2.1 x.2.2.2.2 = some r) (fun (x : Int × Int × (List Drill) × Value × Int) => [(0, pt g2 0), (3, v5), (4, x.2.2.2.1), (5, .int .i64 x.2.2.2.2)]) (fun (x : Int × Int × (List Drill) × Value × Int) => [box g2 126 [v3, .int .i64 x.1, .int .u64 x.2.1], row x.2.2.2.1 152 fDrill x.2.2.1, row v5 9 fStr [[104, 111, 109, 101], [116, 111, 112], [108, 111, 119], [116, 104, 117, 109, 98], [109, 105, 120, 45, 49], [109, 105, 120, 45, 50]]]) ?_ N (r13.2.at_, r13.2.seed, [], v6, r13.1) hm
    · rintro N ⟨x15, x16, l17, v18, k19⟩ hI
      have hm := hI; clear hI
      cases N with
      | zero => cases hm
      | succ N =>
      unfold s_l21Draw_l1 at hm
      refine WJ.seq ?_
      refine WJ.seq ?_
      refine WJ.quiet ?_
      refine QJ.step (YldS.yld (y_move rfl)) rfl ?_
      refine QJ.step (YldS.yld (y_bin rfl rfl rfl)) rfl ?_
      refine QJ.done ?_
      refine PJ.next ?_
      refine WJ.cond (t := decide (k19 > 0)) rfl (fun hb20 => ?_) (fun hb20 => ?_)
      · replace hm := ifT hm hb20
        refine WJ.skip ?_
        refine PJ.next ?_
        refine WJ.seq ?_
        refine WJ.block ?_
        refine WJ.reg ?_
        refine SJ.q (YldS.yld (y_move rfl)) rfl ?_
        refine SJ.q (YldS.yld (y_move rfl)) rfl ?_
        refine SJ.q (YldS.yld (y_move rfl)) rfl ?_
        refine SJ.q (YldS.yld (y_move rfl)) rfl ?_
        refine SJ.q (YldS.yld (y_lenRow (k := 1) rfl Try.runUnderlying70 rfl)) rfl ?_
        obtain ⟨e21, h22, hm⟩ := bindS hm
        refine SJ.q (YldS.yld (y_ixRow (k := 2) (R := fStr) rfl Try.runUnderlying32 Try.sizeOf9 rfl rfl h22)) rfl ?_
        refine SJ.q (YldS.yld (y_loadR (k := 2) (i := (Int.toNat (List.length l17 : Int))) (off := 0) (u := str e21) rfl Try.isAgg9 rfl (idx_get h22) rfl)) rfl ?_
        obtain ⟨r23, h24, hm⟩ := bindS hm
        refine SJ.call1 (k := 0) rfl Try.call132 rfl (fun w S hw hA hO => ok_s_l21New h24 w S _ (hr4.st1 hw hO) hA) rfl ?_
        rintro _ _ ⟨rfl, rfl⟩
        refine SJ.buildSlice (R := fDrill) (os := [.tmp 21]) [r23.1] Try.runUnderlying70 Try.sizeOf152 Try.zeroValue152 rfl rfl rfl rfl rfl rfl fun v25 => ?_
        obtain ⟨l26, h27, hm⟩ := bindS hm
        refine SJ.append (k := 2) (R := fDrill) h27 rfl Try.underlying70 el152 rfl rfl rfl (fun w hw => (hw.row_rd (k := 0) rfl)) rfl fun v28 => ?_
        refine SJ.q (YldS.yld (y_assign rfl)) rfl ?_
        refine SJ.nil ?_
        refine PJ.block_normal (PJ.next ?_)
        refine WJ.quiet ?_
        refine QJ.step (YldS.yld (y_move rfl)) rfl ?_
        refine QJ.step (YldS.yld (y_bin rfl rfl rfl)) rfl ?_
        refine QJ.step (YldS.yld (y_assign rfl)) rfl ?_
        refine QJ.done ?_
        exact PJ.round (r23.2.at_, r23.2.seed, l26, v28, w64 (k19 - 1)) [1, 2, 3] hm ⟨rfl, rfl, rfl, rfl, trivial⟩ ⟨by decide, rfl⟩
      · replace hm := ifF hm hb20
        refine WJ.exit ?_
        refine PJ.then_exit (PJ.then_exit (PJ.block_exit ?_))
        exact PJ.joined (x15, x16, l17, v18) [0, 1] hm ⟨rfl, trivial⟩ ⟨by decide, rfl⟩
  · rintro ⟨x7, x8, l9, v10⟩ hm
    subst hk12
    refine WJ.seq ?_
    refine WJ.quiet ?_
    refine QJ.step (YldS.yld (y_move rfl)) rfl ?_
    refine QJ.step (YldS.yld (y_assign rfl)) rfl ?_
    refine QJ.done ?_
    refine PJ.next ?_
    refine WJ.ret ?_
    obtain rfl := Option.some.inj hm
    refine PJ.sel (L' := [box g2 126 [v3, .int .i64 x7, .int .u64 x8], row v10 152 fDrill l9]) [0, 1] ⟨by decide, rfl⟩ ?_
    exact PJ.retn (vs := [v10]) Try.results96 ⟨rfl, trivial⟩ ⟨_, rfl, rfl⟩

set_option maxRecDepth 100000 in
set_option maxHeartbeats 1000000 in
theorem ok_s_A2Drills {N : Nat} {code1 : List UInt8} {r : (List Drill)} (hm : s_A2Drills N code1 = some r) (w : World) (v2 : Value) (hr3 : RdS w (cx w).Fz v2 fByte.rp code1) :
    Calls Try.prog 50 #[v2] w (RetG (cx w) fun u L => ∃ (u1 : Value), (u = u1 ∧ L = [row u1 152 fDrill r])) := by
  unfold s_A2Drills at hm
  refine Calls.enter [v2] Try.func50 rfl Try.ntmps50 rfl ?_
  refine WJ.seq ?_
  refine WJ.quiet ?_
  refine QJ.step (YldS.yld (y_assign rfl)) rfl ?_
  refine QJ.done ?_
  refine PJ.next ?_
  refine WJ.seq ?_
  refine WJ.reg ?_
  refine SJ.q (YldS.yld (y_move rfl)) rfl ?_
  obtain ⟨r4, h5, hm⟩ := bindS hm
  refine SJ.call Try.call59 rfl (fun w hw => ok_s_l00From h5 w _ (hr3.st hw)) rfl ?_
  rintro _ _ ⟨g6, rfl, rfl⟩
  obtain ⟨r7, h8, hm⟩ := bindS hm
  refine SJ.call1 (k := 0) rfl Try.call96 rfl (fun w S hw hA hO => ok_s_l21Draw h8 w S _ (hr3.st1 hw hO) hA) rfl ?_
  rintro v9 _ ⟨_, rfl, rfl⟩
  refine SJ.q (YldS.yld (y_assign rfl)) rfl ?_
  refine SJ.nil ?_
  refine PJ.next ?_
  refine WJ.ret ?_
  obtain rfl := Option.some.inj hm
  refine PJ.sel (L' := [row v9 152 fDrill r7.1]) [1] ⟨by decide, rfl⟩ ?_
  exact PJ.retn (vs := [v9]) Try.results50 ⟨rfl, trivial⟩ ⟨_, rfl, rfl⟩

set_option maxRecDepth 100000 in
set_option maxHeartbeats 1000000 in
theorem ok_s_l00Src_one {s1 : L00Src} {n5 : Int} {g2 : Nat} {r : Bool × L00Src} (hm : s_l00Src_one s1 n5 = some r) (w : World) (S : Nat → Prop) (v3 : Value) (hr4 : RdS w (Cx.Fz ⟨w, S⟩) v3 fByte.rp s1.code) (hA : (box g2 126 [v3, .int .i64 s1.at_, .int .u64 s1.seed]).holds w S) :
    Calls Try.prog 92 #[pt g2 0, .int .i64 n5] w (RetG ⟨w, S⟩ fun u L => (u = .bool r.1 ∧ L = [box g2 126 [v3, .int .i64 r.2.at_, .int .u64 r.2.seed]])) := by
  unfold s_l00Src_one at hm
  refine Calls.enter1 hA [pt g2 0, .int .i64 n5] Try.func92 rfl Try.ntmps92 rfl ?_
  refine WJ.seq ?_
  refine WJ.quiet ?_
  refine QJ.step (YldS.yld (y_assign rfl)) rfl ?_
  refine QJ.done ?_
  refine PJ.next ?_
  refine WJ.seq ?_
  refine WJ.reg ?_
  refine SJ.q (YldS.yld (y_move rfl)) rfl ?_
  refine SJ.q (YldS.yld (y_move rfl)) rfl ?_
  obtain ⟨r6, h7, hm⟩ := bindS hm
  refine SJ.call1 (k := 0) rfl Try.call60 rfl (fun w S hw hA hO => ok_s_l00Src_pick h7 w S _ (hr4.st1 hw hO) hA) rfl ?_
  rintro _ _ ⟨rfl, rfl⟩
  refine SJ.q (YldS.yld (y_bin rfl rfl rfl)) rfl ?_
  refine SJ.q (YldS.yld (y_assign rfl)) rfl ?_
  refine SJ.nil ?_
  refine PJ.next ?_
  refine WJ.ret ?_
  obtain rfl := Option.some.inj hm
  refine PJ.sel (L' := [box g2 126 [v3, .int .i64 r6.2.at_, .int .u64 r6.2.seed]]) [0] ⟨by decide, rfl⟩ ?_
  exact PJ.retn (vs := [.bool (r6.1 == 0)]) Try.results92 ⟨rfl, trivial⟩ ⟨rfl, rfl⟩

set_option maxRecDepth 100000 in
set_option maxHeartbeats 1000000 in
theorem ok_s_A2Needs {N : Nat} {code1 : List UInt8} {r : Str × (List Int)} (hm : s_A2Needs N code1 = some r) (w : World) (v2 : Value) (hr3 : RdS w (cx w).Fz v2 fByte.rp code1) :
    Calls Try.prog 51 #[v2] w (RetG (cx w) fun u L => ∃ (u1 : Value), (u = tup [str r.1, u1] ∧ L = [row u1 2 fI64 r.2])) := by
  unfold s_A2Needs at hm
  refine Calls.enter [v2] Try.func51 rfl Try.ntmps51 rfl ?_
  refine WJ.seq ?_
  refine WJ.quiet ?_
  refine QJ.step (YldS.yld (y_assign rfl)) rfl ?_
  refine QJ.step (YldS.yld (y_assign rfl)) rfl ?_
  refine QJ.done ?_
  refine PJ.next ?_
  refine WJ.seq ?_
  refine WJ.reg ?_
  refine SJ.q (YldS.yld (y_move rfl)) rfl ?_
  obtain ⟨r4, h5, hm⟩ := bindS hm
  refine SJ.call Try.call59 rfl (fun w hw => ok_s_l00From h5 w _ (hr3.st hw)) rfl ?_
  rintro _ _ ⟨g6, rfl, rfl⟩
  refine SJ.q (YldS.yld (y_assign rfl)) rfl ?_
  refine SJ.nil ?_
  refine PJ.next ?_
  refine WJ.seq ?_
  refine WJ.reg ?_
  refine SJ.buildSlice (R := fByte) (os := []) [] Try.runUnderlying22 Try.sizeOf5 Try.zeroValue5 rfl rfl rfl rfl rfl rfl fun v7 => ?_
  refine SJ.q (YldS.yld (y_assign rfl)) rfl ?_
  refine SJ.nil ?_
  refine PJ.next ?_
  refine WJ.seq ?_
  refine WJ.reg ?_
  refine SJ.buildSlice (R := fI64) (os := []) [] Try.runUnderlying24 Try.sizeOf2 Try.zeroValue2 rfl rfl rfl rfl rfl rfl fun v8 => ?_
  refine SJ.q (YldS.yld (y_assign rfl)) rfl ?_
  refine SJ.nil ?_
  refine PJ.next ?_
  obtain ⟨kj13, hk14, hm⟩ := withK_open hm
  refine WJ.join (X := (List Int) × Value × (List UInt8) × Value) (fun (x : (List Int) × Value × (List UInt8) × Value) => kj13 x.1 x.2.2.1 = some r) (fun (x : (List Int) × Value × (List UInt8) × Value) => [(5, x.2.2.2), (6, x.2.1)]) (fun (x : (List Int) × Value × (List UInt8) × Value) => [row x.2.1 2 fI64 x.1, row x.2.2.2 5 fByte x.2.2.1]) ?_ ?_
  · clear hk14
    refine WJ.seq ?_
    refine WJ.quiet ?_
    refine QJ.step (YldS.yld (y_assign rfl)) rfl ?_
    refine QJ.done ?_
    refine PJ.next ?_
    refine WJ.block ?_
    refine WJ.sel (L' := (fun (x : (List Int) × Value × (List UInt8) × Value × Int × Int × UInt8) => [row x.2.1 2 fI64 x.1, row x.2.2.2.1 5 fByte x.2.2.1, box g6 126 [v2, .int .i64 x.2.2.2.2.1, .int .u64 x.2.2.2.2.2.1]]) ([], v8, [], v7, r4.at_, r4.seed, 97)) [0, 1, 2] ⟨by decide, rfl⟩ ?_
    refine WJ.sub (m' := (fun (x : (List Int) × Value × (List UInt8) × Value × Int × Int × UInt8) => [(4, pt g6 0), (5, x.2.2.2.1), (6, x.2.1), (7, .int .u8 (UInt8.toNat x.2.2.2.2.2.2 : Int))]) ([], v8, [], v7, r4.at_, r4.seed, 97)) ⟨rfl, rfl, rfl, rfl, trivial⟩ ?_
    refine WJ.loop (X := (List Int) × Value × (List UInt8) × Value × Int × Int × UInt8) (fun N (x : (List Int) × Value × (List UInt8) × Value × Int × Int × UInt8) => s_A2Needs_l1 kj13 code1 N x.1 x.2.2.1 x.2.2.2.2.1 x.2.2.2.2.2.1 x.2.2.2.2.2.2 = some r) (fun (x : (List Int) × Value × (List UInt8) × Value × Int × Int × UInt8) => [(4, pt g6 0), (5, x.2.2.2.1), (6, x.2.1), (7, .int .u8 (UInt8.toNat x.2.2.2.2.2.2 : Int))]) (fun (x : (List Int) × Value × (List UInt8) × Value × Int × Int × UInt8) => [row x.2.1 2 fI64 x.1, row x.2.2.2.1 5 fByte x.2.2.1, box g6 126 [v2, .int .i64 x.2.2.2.2.1, .int .u64 x.2.2.2.2.2.1]]) ?_ N ([], v8, [], v7, r4.at_, r4.seed, 97) hm
    · rintro N ⟨l15, v16, l17, v18, x19, x20, c21⟩ hI
      have hm := hI; clear hI
      cases N with
      | zero => cases hm
      | succ N =>
      unfold s_A2Needs_l1 at hm
      refine WJ.seq ?_
      refine WJ.seq ?_
      refine WJ.quiet ?_
      refine QJ.step (YldS.yld (y_move rfl)) rfl ?_
      refine QJ.step (YldS.yld (y_bin8 c21 (110 : UInt8) rfl rfl rfl)) rfl ?_
      refine QJ.done ?_
      refine PJ.next ?_
      refine WJ.cond (t := decide (c21 ≤ (110 : UInt8))) rfl (fun hb22 => ?_) (fun hb22 => ?_)
      · replace hm := ifT hm hb22
        refine WJ.skip ?_
        refine PJ.next ?_
        obtain ⟨kj29, hk30, hm⟩ := withK_open hm
        refine WJ.join (X := Int × Int × (List Int) × Value × (List UInt8) × Value) (fun (x : Int × Int × (List Int) × Value × (List UInt8) × Value) => kj29 x.1 x.2.1 x.2.2.1 x.2.2.2.2.1 = some r) (fun (x : Int × Int × (List Int) × Value × (List UInt8) × Value) => [(4, pt g6 0), (5, x.2.2.2.2.2), (6, x.2.2.2.1), (7, .int .u8 (UInt8.toNat c21 : Int))]) (fun (x : Int × Int × (List Int) × Value × (List UInt8) × Value) => [box g6 126 [v2, .int .i64 x.1, .int .u64 x.2.1], row x.2.2.2.1 2 fI64 x.2.2.1, row x.2.2.2.2.2 5 fByte x.2.2.2.2.1]) ?_ ?_
        · clear hk30
          refine WJ.block ?_
          refine WJ.seq ?_
          refine WJ.reg ?_
          refine SJ.q (YldS.yld (y_move rfl)) rfl ?_
          obtain ⟨r31, h32, hm⟩ := bindS hm
          refine SJ.call1 (k := 2) rfl Try.call92 rfl (fun w S hw hA hO => ok_s_l00Src_one h32 w S _ (hr3.st1 hw hO) hA) rfl ?_
          rintro _ _ ⟨rfl, rfl⟩
          refine SJ.nil ?_
          refine PJ.next ?_
          refine WJ.cond (t := r31.1) rfl (fun hb33 => ?_) (fun hb33 => ?_)
          · replace hm := ifT hm hb33
            refine WJ.seq ?_
            refine WJ.reg ?_
            refine SJ.q (YldS.yld (y_move rfl)) rfl ?_
            refine SJ.q (YldS.yld (y_move rfl)) rfl ?_
            refine SJ.buildSlice (R := fByte) (os := [.tmp 19]) [c21] Try.runUnderlying22 Try.sizeOf5 Try.zeroValue5 rfl rfl rfl rfl rfl rfl fun v34 => ?_
            obtain ⟨l35, h36, hm⟩ := bindS hm
            refine SJ.append (k := 3) (R := fByte) h36 rfl Try.underlying22 el5 rfl rfl rfl (fun w hw => (hw.row_rd (k := 0) rfl)) rfl fun v37 => ?_
            refine SJ.q (YldS.yld (y_assign rfl)) rfl ?_
            refine SJ.nil ?_
            refine PJ.next ?_
            refine WJ.reg ?_
            refine SJ.q (YldS.yld (y_move rfl)) rfl ?_
            refine SJ.q (YldS.yld (y_move rfl)) rfl ?_
            obtain ⟨r38, h39, hm⟩ := bindS hm
            refine SJ.call1 (k := 1) rfl Try.call60 rfl (fun w S hw hA hO => ok_s_l00Src_pick h39 w S _ (hr3.st1 hw hO) hA) rfl ?_
            rintro _ _ ⟨rfl, rfl⟩
            refine SJ.buildSlice (R := fI64) (os := [.tmp 24]) [r38.1] Try.runUnderlying24 Try.sizeOf2 Try.zeroValue2 rfl rfl rfl rfl rfl rfl fun v40 => ?_
            obtain ⟨l41, h42, hm⟩ := bindS hm
            refine SJ.append (k := 3) (R := fI64) h42 rfl Try.underlying24 el2 rfl rfl rfl (fun w hw => (hw.row_rd (k := 0) rfl)) rfl fun v43 => ?_
            refine SJ.q (YldS.yld (y_assign rfl)) rfl ?_
            refine SJ.nil ?_
            refine PJ.block_normal ?_
            exact PJ.joined (r38.2.at_, r38.2.seed, l41, v43, l35, v37) [1, 3, 4] hm ⟨rfl, rfl, rfl, rfl, trivial⟩ ⟨by decide, rfl⟩
          · replace hm := ifF hm hb33
            refine WJ.skip ?_
            refine PJ.block_normal ?_
            exact PJ.joined (r31.2.at_, r31.2.seed, l15, v16, l17, v18) [0, 1, 2] hm ⟨rfl, rfl, rfl, rfl, trivial⟩ ⟨by decide, rfl⟩
        · rintro ⟨x23, x24, l25, v26, l27, v28⟩ hm
          subst hk30
          refine WJ.quiet ?_
          refine QJ.step (YldS.yld (y_move rfl)) rfl ?_
          refine QJ.step (YldS.yld (y_bin8 c21 (1 : UInt8) rfl rfl rfl)) rfl ?_
          refine QJ.step (YldS.yld (y_assign rfl)) rfl ?_
          refine QJ.done ?_
          exact PJ.round (l25, v26, l27, v28, x23, x24, c21 + (1 : UInt8)) [1, 2, 0] hm ⟨rfl, rfl, rfl, rfl, trivial⟩ ⟨by decide, rfl⟩
      · replace hm := ifF hm hb22
        refine WJ.exit ?_
        refine PJ.then_exit (PJ.then_exit (PJ.block_exit ?_))
        exact PJ.joined (l15, v16, l17, v18) [0, 1] hm ⟨rfl, rfl, trivial⟩ ⟨by decide, rfl⟩
  · rintro ⟨l9, v10, l11, v12⟩ hm
    subst hk14
    refine WJ.seq ?_
    refine WJ.quiet ?_
    refine QJ.step (YldS.yld (y_move rfl)) rfl ?_
    refine QJ.step (YldS.yld (y_b2s Try.underlying22 Try.underlying9 Try.underlying5 (fun w hw => ⟨_, (hw.row_rd (k := 1) rfl)⟩) rfl)) rfl ?_
    refine QJ.step (YldS.yld (y_move rfl)) rfl ?_
    refine QJ.step (YldS.yld (y_assign rfl)) rfl ?_
    refine QJ.step (YldS.yld (y_assign rfl)) rfl ?_
    refine QJ.done ?_
    refine PJ.next ?_
    refine WJ.ret ?_
    obtain rfl := Option.some.inj hm
    refine PJ.sel (L' := [row v10 2 fI64 l9]) [0] ⟨by decide, rfl⟩ ?_
    exact PJ.retn (vs := [str l11, v10]) Try.results51 ⟨rfl, rfl, trivial⟩ ⟨_, rfl, rfl⟩

set_option maxRecDepth 100000 in
set_option maxHeartbeats 1000000 in
theorem ok_w_a2At {code1 : List UInt8} {at4 : Int} {n5 : Int} {r : Int} (hm : w_a2At code1 at4 n5 = some r) (w : World) (v2 : Value) (hr3 : RdS w (cx w).Fz v2 fByte.rp code1) :
    Calls Try.prog 20 #[v2, .int .i64 at4, .int .i64 n5] w (Ret (cx w) (.int .i64 r)) := by
  unfold w_a2At at hm
  refine Calls.enter [v2, .int .i64 at4, .int .i64 n5] Try.func20 rfl Try.ntmps20 rfl ?_
  refine WJ.seq ?_
  refine WJ.quiet ?_
  refine QJ.step (YldS.yld (y_assign rfl)) rfl ?_
  refine QJ.done ?_
  refine PJ.next ?_
  refine WJ.seq ?_
  refine WJ.seq ?_
  refine WJ.quiet ?_
  refine QJ.step (YldS.yld (y_move rfl)) rfl ?_
  refine QJ.step (YldS.yld (y_move rfl)) rfl ?_
  refine QJ.step (YldS.yld (y_lenS Try.runUnderlying22 hr3 rfl)) rfl ?_
  refine QJ.step (YldS.yld (y_bin rfl rfl rfl)) rfl ?_
  refine QJ.step (YldS.yld (y_move rfl)) rfl ?_
  obtain ⟨t6, h7, hm⟩ := bindS hm
  refine QJ.cut 3 [(0, v2), (1, .int .i64 at4), (2, .int .i64 n5), (14, .bool t6)] ?_ ?_
  · rcases Bool.eq_false_or_eq_true (decide (at4 ≥ (List.length code1 : Int))) with hb8 | hb8
    · obtain rfl := orT h7 hb8
      refine QJ.off rfl rfl (cB hb8) rfl rfl ?_
      refine QJ.off rfl rfl (cB hb8) rfl rfl ?_
      refine QJ.step (YldS.yld (y_pick_t (cB hb8) rfl)) rfl ?_
      exact QJ.cut_end ⟨rfl, rfl, rfl, rfl, trivial⟩
    · replace h7 := orF h7 hb8
      refine QJ.on rfl rfl (cB hb8) (YldS.yld (y_move rfl)) rfl ?_
      refine QJ.on rfl rfl (cB hb8) (YldS.yld (y_bin rfl rfl rfl)) rfl ?_
      refine QJ.step (YldS.yld (y_pick_f (cB hb8) rfl)) rfl ?_
      obtain rfl := Option.some.inj h7
      exact QJ.cut_end ⟨rfl, rfl, rfl, rfl, trivial⟩
  refine QJ.done ?_
  refine PJ.next ?_
  refine WJ.cond (t := t6) rfl (fun hb9 => ?_) (fun hb9 => ?_)
  · replace hm := ifT hm hb9
    refine WJ.seq ?_
    refine WJ.quiet ?_
    refine QJ.step (YldS.yld (y_assign rfl)) rfl ?_
    refine QJ.done ?_
    refine PJ.next ?_
    refine WJ.ret ?_
    refine PJ.then_ret ?_
    obtain rfl := Option.some.inj hm
    refine PJ.sel (L' := []) [] ⟨List.nodup_nil, rfl⟩ ?_
    exact PJ.retn (vs := [.int .i64 0]) Try.results20 ⟨rfl, trivial⟩ ⟨rfl, rfl⟩
  · replace hm := ifF hm hb9
    refine WJ.skip ?_
    refine PJ.next ?_
    refine WJ.seq ?_
    refine WJ.quiet ?_
    refine QJ.step (YldS.yld (y_move rfl)) rfl ?_
    refine QJ.step (YldS.yld (y_move rfl)) rfl ?_
    obtain ⟨e10, h11, hm⟩ := bindS hm
    obtain ⟨ad12, _, rfl, ha13, hy14⟩ := hr3.elem h11
    refine QJ.step (YldS.yld (hy14 Try.runUnderlying22 Try.sizeOf5 rfl rfl)) rfl ?_
    refine QJ.step (YldS.yld (y_load1 (v := .int .u8 (UInt8.toNat e10 : Int)) Try.isAgg5 ha13 St.frozenC rfl)) rfl ?_
    refine QJ.step (YldS.yld (y_conv8 Try.runUnderlying5 Try.runUnderlying2 rfl)) rfl ?_
    refine QJ.step (YldS.yld (y_move rfl)) rfl ?_
    obtain ⟨q15, h16, hm⟩ := bindS hm
    refine QJ.step (YldS.yld (y_rem' h16 rfl rfl)) rfl ?_
    refine QJ.step (YldS.yld (y_assign rfl)) rfl ?_
    refine QJ.done ?_
    refine PJ.next ?_
    refine WJ.ret ?_
    obtain rfl := Option.some.inj hm
    refine PJ.sel (L' := []) [] ⟨List.nodup_nil, rfl⟩ ?_
    exact PJ.retn (vs := [.int .i64 q15]) Try.results20 ⟨rfl, trivial⟩ ⟨rfl, rfl⟩

set_option maxRecDepth 100000 in
set_option maxHeartbeats 1000000 in
theorem ok_i_isDigit {b1 : UInt8} {r : Bool} (hm : i_isDigit b1 = some r) (w : World)  :
    Calls Try.prog 162 #[.int .u8 (UInt8.toNat b1 : Int)] w (Ret (cx w) (.bool r)) := by
  unfold i_isDigit at hm
  refine Calls.enter [.int .u8 (UInt8.toNat b1 : Int)] Try.func162 rfl Try.ntmps162 rfl ?_
  refine WJ.seq ?_
  refine WJ.quiet ?_
  refine QJ.step (YldS.yld (y_assign rfl)) rfl ?_
  refine QJ.done ?_
  refine PJ.next ?_
  refine WJ.seq ?_
  refine WJ.quiet ?_
  refine QJ.step (YldS.yld (y_move rfl)) rfl ?_
  refine QJ.step (YldS.yld (y_bin8 b1 (48 : UInt8) rfl rfl rfl)) rfl ?_
  refine QJ.step (YldS.yld (y_move rfl)) rfl ?_
  obtain ⟨t2, h3, hm⟩ := bindS hm
  refine QJ.cut 3 [(8, .bool t2)] ?_ ?_
  · rcases Bool.eq_false_or_eq_true (decide (b1 ≥ (48 : UInt8))) with hb4 | hb4
    · replace h3 := andT h3 hb4
      refine QJ.on rfl rfl (cB hb4) (YldS.yld (y_move rfl)) rfl ?_
      refine QJ.on rfl rfl (cB hb4) (YldS.yld (y_bin8 b1 (57 : UInt8) rfl rfl rfl)) rfl ?_
      refine QJ.step (YldS.yld (y_pick_t (cB hb4) rfl)) rfl ?_
      obtain rfl := Option.some.inj h3
      exact QJ.cut_end ⟨rfl, trivial⟩
    · obtain rfl := andF h3 hb4
      refine QJ.off rfl rfl (cB hb4) rfl rfl ?_
      refine QJ.off rfl rfl (cB hb4) rfl rfl ?_
      refine QJ.step (YldS.yld (y_pick_f (cB hb4) rfl)) rfl ?_
      exact QJ.cut_end ⟨rfl, trivial⟩
  refine QJ.step (YldS.yld (y_assign rfl)) rfl ?_
  refine QJ.done ?_
  refine PJ.next ?_
  refine WJ.ret ?_
  obtain rfl := Option.some.inj hm
  refine PJ.sel (L' := []) [] ⟨List.nodup_nil, rfl⟩ ?_
  exact PJ.retn (vs := [.bool t2]) Try.results162 ⟨rfl, trivial⟩ ⟨rfl, rfl⟩

set_option maxRecDepth 100000 in
set_option maxHeartbeats 1000000 in
theorem ok_i_IsName {N : Nat} {s1 : Str} {r : Bool} (hm : i_IsName N s1 = some r) (w : World)  :
    Calls Try.prog 158 #[str s1] w (Ret (cx w) (.bool r)) := by
  unfold i_IsName at hm
  refine Calls.enter [str s1] Try.func158 rfl Try.ntmps158 rfl ?_
  refine WJ.seq ?_
  refine WJ.quiet ?_
  refine QJ.step (YldS.yld (y_assign rfl)) rfl ?_
  refine QJ.done ?_
  refine PJ.next ?_
  refine WJ.seq ?_
  refine WJ.seq ?_
  refine WJ.quiet ?_
  refine QJ.step (YldS.yld (y_move rfl)) rfl ?_
  refine QJ.step (YldS.yld (y_lenStr Try.runUnderlying9 rfl)) rfl ?_
  refine QJ.step (YldS.yld (y_bin rfl rfl rfl)) rfl ?_
  refine QJ.step (YldS.yld (y_move rfl)) rfl ?_
  obtain ⟨t2, h3, hm⟩ := bindS hm
  refine QJ.cut 4 [(0, str s1), (12, .bool t2)] ?_ ?_
  · rcases Bool.eq_false_or_eq_true ((List.length s1 : Int) == 0) with hb4 | hb4
    · obtain rfl := orT h3 hb4
      refine QJ.off rfl rfl (cB hb4) rfl rfl ?_
      refine QJ.off rfl rfl (cB hb4) rfl rfl ?_
      refine QJ.off rfl rfl (cB hb4) rfl rfl ?_
      refine QJ.step (YldS.yld (y_pick_t (cB hb4) rfl)) rfl ?_
      exact QJ.cut_end ⟨rfl, rfl, trivial⟩
    · replace h3 := orF h3 hb4
      refine QJ.on rfl rfl (cB hb4) (YldS.yld (y_move rfl)) rfl ?_
      refine QJ.on rfl rfl (cB hb4) (YldS.yld (y_lenStr Try.runUnderlying9 rfl)) rfl ?_
      refine QJ.on rfl rfl (cB hb4) (YldS.yld (y_bin rfl rfl rfl)) rfl ?_
      refine QJ.step (YldS.yld (y_pick_f (cB hb4) rfl)) rfl ?_
      obtain rfl := Option.some.inj h3
      exact QJ.cut_end ⟨rfl, rfl, trivial⟩
  refine QJ.done ?_
  refine PJ.next ?_
  refine WJ.cond (t := t2) rfl (fun hb5 => ?_) (fun hb5 => ?_)
  · replace hm := ifT hm hb5
    refine WJ.seq ?_
    refine WJ.quiet ?_
    refine QJ.step (YldS.yld (y_assign rfl)) rfl ?_
    refine QJ.done ?_
    refine PJ.next ?_
    refine WJ.ret ?_
    refine PJ.then_ret ?_
    obtain rfl := Option.some.inj hm
    refine PJ.sel (L' := []) [] ⟨List.nodup_nil, rfl⟩ ?_
    exact PJ.retn (vs := [.bool false]) Try.results158 ⟨rfl, trivial⟩ ⟨rfl, rfl⟩
  · replace hm := ifF hm hb5
    refine WJ.skip ?_
    refine PJ.next ?_
    obtain ⟨kj6, hk7, hm⟩ := withK_open hm
    refine WJ.join (X := Unit) (fun (_ : Unit) => kj6  = some r) (fun (_ : Unit) => []) (fun (_ : Unit) => []) ?_ ?_
    · clear hk7
      refine WJ.seq ?_
      refine WJ.quiet ?_
      refine QJ.step (YldS.yld (y_move rfl)) rfl ?_
      refine QJ.step (YldS.yld (y_lenStr Try.runUnderlying9 rfl)) rfl ?_
      refine QJ.step (YldS.yld (y_move rfl)) rfl ?_
      refine QJ.done ?_
      refine PJ.next ?_
      refine WJ.block ?_
      refine WJ.sel (L' := (fun (x : Int) => []) 0) [] ⟨List.nodup_nil, rfl⟩ ?_
      refine WJ.sub (m' := (fun (x : Int) => [(0, str s1), (14, .int .i64 (List.length s1 : Int)), (15, .int .i64 x)]) 0) ⟨rfl, rfl, rfl, trivial⟩ ?_
      refine WJ.loop (X := Int) (fun N (x : Int) => i_IsName_l1 kj6 s1 N x = some r) (fun (x : Int) => [(0, str s1), (14, .int .i64 (List.length s1 : Int)), (15, .int .i64 x)]) (fun (x : Int) => []) ?_ N 0 hm
      · rintro N x8 hI
        have hm := hI; clear hI
        cases N with
        | zero => cases hm
        | succ N =>
        unfold i_IsName_l1 at hm
        refine WJ.seq ?_
        refine WJ.quiet ?_
        refine QJ.step (YldS.yld (y_bin rfl rfl rfl)) rfl ?_
        refine QJ.done ?_
        refine PJ.next ?_
        refine WJ.seq ?_
        refine WJ.cond (t := decide (x8 < (List.length s1 : Int))) rfl (fun hb9 => ?_) (fun hb9 => ?_)
        · replace hm := ifT hm hb9
          refine WJ.skip ?_
          refine PJ.next ?_
          refine WJ.seq ?_
          refine WJ.block ?_
          refine WJ.seq ?_
          refine WJ.quiet ?_
          refine QJ.step (YldS.yld (y_move rfl)) rfl ?_
          refine QJ.step (YldS.yld (y_assign rfl)) rfl ?_
          refine QJ.done ?_
          refine PJ.next ?_
          refine WJ.seq ?_
          refine WJ.quiet ?_
          refine QJ.step (YldS.yld (y_move rfl)) rfl ?_
          refine QJ.step (YldS.yld (y_move rfl)) rfl ?_
          obtain ⟨c10, h11, hm⟩ := bindS hm
          refine QJ.step (YldS.yld (y_idxStr Try.runUnderlying9 rfl rfl h11)) rfl ?_
          refine QJ.step (YldS.yld (y_bin8 c10 (97 : UInt8) rfl rfl rfl)) rfl ?_
          refine QJ.step (YldS.yld (y_move rfl)) rfl ?_
          obtain ⟨t12, h13, hm⟩ := bindS hm
          refine QJ.cut 5 [(0, str s1), (3, .int .i64 x8), (14, .int .i64 (List.length s1 : Int)), (15, .int .i64 x8), (27, .bool t12)] ?_ ?_
          · rcases Bool.eq_false_or_eq_true (decide (c10 ≥ (97 : UInt8))) with hb14 | hb14
            · replace h13 := andT h13 hb14
              refine QJ.on rfl rfl (cB hb14) (YldS.yld (y_move rfl)) rfl ?_
              refine QJ.on rfl rfl (cB hb14) (YldS.yld (y_move rfl)) rfl ?_
              obtain ⟨c15, h16, h13⟩ := bindS h13
              refine QJ.on rfl rfl (cB hb14) (YldS.yld (y_idxStr Try.runUnderlying9 rfl rfl h16)) rfl ?_
              refine QJ.on rfl rfl (cB hb14) (YldS.yld (y_bin8 c15 (122 : UInt8) rfl rfl rfl)) rfl ?_
              refine QJ.step (YldS.yld (y_pick_t (cB hb14) rfl)) rfl ?_
              obtain rfl := Option.some.inj h13
              exact QJ.cut_end ⟨rfl, rfl, rfl, rfl, rfl, trivial⟩
            · obtain rfl := andF h13 hb14
              refine QJ.off rfl rfl (cB hb14) rfl rfl ?_
              refine QJ.off rfl rfl (cB hb14) rfl rfl ?_
              refine QJ.off rfl rfl (cB hb14) rfl rfl ?_
              refine QJ.off rfl rfl (cB hb14) rfl rfl ?_
              refine QJ.step (YldS.yld (y_pick_f (cB hb14) rfl)) rfl ?_
              exact QJ.cut_end ⟨rfl, rfl, rfl, rfl, rfl, trivial⟩
          refine QJ.step (YldS.yld (y_assign rfl)) rfl ?_
          refine QJ.done ?_
          refine PJ.next ?_
          refine WJ.seq ?_
          refine WJ.quiet ?_
          refine QJ.step (YldS.yld (y_move rfl)) rfl ?_
          refine QJ.step (YldS.yld (y_not rfl)) rfl ?_
          refine QJ.step (YldS.yld (y_move rfl)) rfl ?_
          obtain ⟨t17, h18, hm⟩ := bindS hm
          refine QJ.cut 16 [(0, str s1), (14, .int .i64 (List.length s1 : Int)), (15, .int .i64 x8), (46, .bool t17)] ?_ ?_
          · rcases Bool.eq_false_or_eq_true (!t12) with hb19 | hb19
            · replace h18 := andT h18 hb19
              refine QJ.on rfl rfl (cB hb19) (YldS.yld (y_move rfl)) rfl ?_
              refine QJ.on rfl rfl (cB hb19) (YldS.yld (y_bin rfl rfl rfl)) rfl ?_
              refine QJ.on rfl rfl (cB hb19) (YldS.yld (y_move rfl)) rfl ?_
              obtain ⟨t20, h21, h18⟩ := bindS h18
              refine QJ.cut 12 [(0, str s1), (14, .int .i64 (List.length s1 : Int)), (15, .int .i64 x8), (30, .bool (!t12)), (31, .int .i64 x8), (32, .bool (x8 == 0)), (33, .bool (x8 == 0)), (45, .bool t20)] ?_ ?_
              · rcases Bool.eq_false_or_eq_true (x8 == 0) with hb22 | hb22
                · obtain rfl := orT h21 hb22
                  refine QJ.off rfl rfl (cB hb22) rfl rfl ?_
                  refine QJ.off rfl rfl (cB hb22) rfl rfl ?_
                  refine QJ.off rfl rfl (cB hb22) rfl rfl ?_
                  refine QJ.off rfl rfl (cB hb22) rfl rfl ?_
                  refine QJ.off rfl rfl (cB hb22) rfl rfl ?_
                  refine QJ.off_undef rfl rfl rfl rfl ?_
                  refine QJ.off_undef rfl rfl rfl rfl ?_
                  refine QJ.off_undef rfl rfl rfl rfl ?_
                  refine QJ.off_undef rfl rfl rfl rfl ?_
                  refine QJ.off_undef rfl rfl rfl rfl ?_
                  refine QJ.off rfl rfl (cB hb22) rfl rfl ?_
                  refine QJ.on rfl rfl (cB hb19) (YldS.yld (y_pick_t (cB hb22) rfl)) rfl ?_
                  exact QJ.cut_end ⟨rfl, rfl, rfl, rfl, rfl, rfl, rfl, rfl, trivial⟩
                · replace h21 := orF h21 hb22
                  refine QJ.on rfl rfl (cB hb22) (YldS.yld (y_move rfl)) rfl ?_
                  refine QJ.on rfl rfl (cB hb22) (YldS.yld (y_move rfl)) rfl ?_
                  obtain ⟨c23, h24, h21⟩ := bindS h21
                  refine QJ.on rfl rfl (cB hb22) (YldS.yld (y_idxStr Try.runUnderlying9 rfl rfl h24)) rfl ?_
                  refine QJ.on rfl rfl (cB hb22) (YldS.yld (y_bin8 c23 (45 : UInt8) rfl rfl rfl)) rfl ?_
                  refine QJ.on rfl rfl (cB hb22) (YldS.yld (y_move rfl)) rfl ?_
                  obtain ⟨t25, h26, h21⟩ := bindS h21
                  refine QJ.cut 6 [(0, str s1), (14, .int .i64 (List.length s1 : Int)), (15, .int .i64 x8), (30, .bool (!t12)), (31, .int .i64 x8), (32, .bool (x8 == 0)), (33, .bool (x8 == 0)), (34, str s1), (35, .int .i64 x8), (36, .int .u8 (UInt8.toNat c23 : Int)), (37, .bool (c23 != (45 : UInt8))), (38, .bool (c23 != (45 : UInt8))), (44, .bool t25)] ?_ ?_
                  · rcases Bool.eq_false_or_eq_true (c23 != (45 : UInt8)) with hb27 | hb27
                    · replace h26 := andT h26 hb27
                      refine QJ.on rfl rfl (cB hb27) (YldS.yld (y_move rfl)) rfl ?_
                      refine QJ.on rfl rfl (cB hb27) (YldS.yld (y_move rfl)) rfl ?_
                      obtain ⟨c28, h29, h26⟩ := bindS h26
                      refine QJ.on rfl rfl (cB hb27) (YldS.yld (y_idxStr Try.runUnderlying9 rfl rfl h29)) rfl ?_
                      obtain ⟨r30, h31, h26⟩ := bindS h26
                      refine QJ.on rfl rfl (cB hb27) (y_call Try.call162 rfl (RetG.quiet fun w hw => ok_i_isDigit h31 w )) rfl ?_
                      refine QJ.on rfl rfl (cB hb27) (YldS.yld (y_not rfl)) rfl ?_
                      refine QJ.on rfl rfl (cB hb22) (YldS.yld (y_pick_t (cB hb27) rfl)) rfl ?_
                      obtain rfl := Option.some.inj h26
                      exact QJ.cut_end ⟨rfl, rfl, rfl, rfl, rfl, rfl, rfl, rfl, rfl, rfl, rfl, rfl, rfl, trivial⟩
                    · obtain rfl := andF h26 hb27
                      refine QJ.off rfl rfl (cB hb27) rfl rfl ?_
                      refine QJ.off rfl rfl (cB hb27) rfl rfl ?_
                      refine QJ.off rfl rfl (cB hb27) rfl rfl ?_
                      refine QJ.off rfl rfl (cB hb27) rfl rfl ?_
                      refine QJ.off rfl rfl (cB hb27) rfl rfl ?_
                      refine QJ.on rfl rfl (cB hb22) (YldS.yld (y_pick_f (cB hb27) rfl)) rfl ?_
                      exact QJ.cut_end ⟨rfl, rfl, rfl, rfl, rfl, rfl, rfl, rfl, rfl, rfl, rfl, rfl, rfl, trivial⟩
                  refine QJ.on rfl rfl (cB hb19) (YldS.yld (y_pick_f (cB hb22) rfl)) rfl ?_
                  obtain rfl := Option.some.inj h21
                  exact QJ.cut_end ⟨rfl, rfl, rfl, rfl, rfl, rfl, rfl, rfl, trivial⟩
              refine QJ.step (YldS.yld (y_pick_t (cB hb19) rfl)) rfl ?_
              obtain rfl := Option.some.inj h18
              exact QJ.cut_end ⟨rfl, rfl, rfl, rfl, trivial⟩
            · obtain rfl := andF h18 hb19
              refine QJ.off rfl rfl (cB hb19) rfl rfl ?_
              refine QJ.off rfl rfl (cB hb19) rfl rfl ?_
              refine QJ.off rfl rfl (cB hb19) rfl rfl ?_
              refine QJ.off_undef rfl rfl rfl rfl ?_
              refine QJ.off_undef rfl rfl rfl rfl ?_
              refine QJ.off_undef rfl rfl rfl rfl ?_
              refine QJ.off_undef rfl rfl rfl rfl ?_
              refine QJ.off_undef rfl rfl rfl rfl ?_
              refine QJ.off_undef rfl rfl rfl rfl ?_
              refine QJ.off_undef rfl rfl rfl rfl ?_
              refine QJ.off_undef rfl rfl rfl rfl ?_
              refine QJ.off_undef rfl rfl rfl rfl ?_
              refine QJ.off_undef rfl rfl rfl rfl ?_
              refine QJ.off_undef rfl rfl rfl rfl ?_
              refine QJ.off rfl rfl (cB hb19) rfl rfl ?_
              refine QJ.step (YldS.yld (y_pick_f (cB hb19) rfl)) rfl ?_
              exact QJ.cut_end ⟨rfl, rfl, rfl, rfl, trivial⟩
          refine QJ.done ?_
          refine PJ.next ?_
          refine WJ.cond (t := t17) rfl (fun hb32 => ?_) (fun hb32 => ?_)
          · replace hm := ifT hm hb32
            refine WJ.seq ?_
            refine WJ.quiet ?_
            refine QJ.step (YldS.yld (y_assign rfl)) rfl ?_
            refine QJ.done ?_
            refine PJ.next ?_
            refine WJ.ret ?_
            refine PJ.block_ret (PJ.then_ret (PJ.then_ret (PJ.block_ret (PJ.then_ret ?_))))
            obtain rfl := Option.some.inj hm
            refine PJ.sel (L' := []) [] ⟨List.nodup_nil, rfl⟩ ?_
            exact PJ.retn (vs := [.bool false]) Try.results158 ⟨rfl, trivial⟩ ⟨rfl, rfl⟩
          · replace hm := ifF hm hb32
            refine WJ.skip ?_
            refine PJ.block_normal (PJ.next ?_)
            refine WJ.quiet ?_
            refine QJ.step (YldS.yld (y_bin rfl rfl rfl)) rfl ?_
            refine QJ.step (YldS.yld (y_move rfl)) rfl ?_
            refine QJ.done ?_
            exact PJ.round (w64 (x8 + 1)) [] hm ⟨rfl, rfl, rfl, trivial⟩ ⟨List.nodup_nil, rfl⟩
        · replace hm := ifF hm hb9
          refine WJ.exit ?_
          refine PJ.then_exit (PJ.then_exit (PJ.block_exit ?_))
          exact PJ.joined () [] hm trivial ⟨List.nodup_nil, rfl⟩
    · rintro _ hm
      subst hk7
      refine WJ.seq ?_
      refine WJ.quiet ?_
      refine QJ.step (YldS.yld (y_assign rfl)) rfl ?_
      refine QJ.done ?_
      refine PJ.next ?_
      refine WJ.ret ?_
      obtain rfl := Option.some.inj hm
      refine PJ.sel (L' := []) [] ⟨List.nodup_nil, rfl⟩ ?_
      exact PJ.retn (vs := [.bool true]) Try.results158 ⟨rfl, trivial⟩ ⟨rfl, rfl⟩

set_option maxRecDepth 100000 in
set_option maxHeartbeats 1000000 in
theorem ok_i_isText {N : Nat} {s1 : Str} {low2 : UInt8} {most3 : Int} {r : Bool} (hm : i_isText N s1 low2 most3 = some r) (w : World)  :
    Calls Try.prog 111 #[str s1, .int .u8 (UInt8.toNat low2 : Int), .int .i64 most3] w (Ret (cx w) (.bool r)) := by
  unfold i_isText at hm
  refine Calls.enter [str s1, .int .u8 (UInt8.toNat low2 : Int), .int .i64 most3] Try.func111 rfl Try.ntmps111 rfl ?_
  refine WJ.seq ?_
  refine WJ.quiet ?_
  refine QJ.step (YldS.yld (y_assign rfl)) rfl ?_
  refine QJ.done ?_
  refine PJ.next ?_
  refine WJ.seq ?_
  refine WJ.seq ?_
  refine WJ.quiet ?_
  refine QJ.step (YldS.yld (y_move rfl)) rfl ?_
  refine QJ.step (YldS.yld (y_lenStr Try.runUnderlying9 rfl)) rfl ?_
  refine QJ.step (YldS.yld (y_move rfl)) rfl ?_
  refine QJ.step (YldS.yld (y_bin rfl rfl rfl)) rfl ?_
  refine QJ.done ?_
  refine PJ.next ?_
  refine WJ.cond (t := decide ((List.length s1 : Int) > most3)) rfl (fun hb4 => ?_) (fun hb4 => ?_)
  · replace hm := ifT hm hb4
    refine WJ.seq ?_
    refine WJ.quiet ?_
    refine QJ.step (YldS.yld (y_assign rfl)) rfl ?_
    refine QJ.done ?_
    refine PJ.next ?_
    refine WJ.ret ?_
    refine PJ.then_ret ?_
    obtain rfl := Option.some.inj hm
    refine PJ.sel (L' := []) [] ⟨List.nodup_nil, rfl⟩ ?_
    exact PJ.retn (vs := [.bool false]) Try.results111 ⟨rfl, trivial⟩ ⟨rfl, rfl⟩
  · replace hm := ifF hm hb4
    refine WJ.skip ?_
    refine PJ.next ?_
    obtain ⟨kj5, hk6, hm⟩ := withK_open hm
    refine WJ.join (X := Unit) (fun (_ : Unit) => kj5  = some r) (fun (_ : Unit) => []) (fun (_ : Unit) => []) ?_ ?_
    · clear hk6
      refine WJ.seq ?_
      refine WJ.quiet ?_
      refine QJ.step (YldS.yld (y_move rfl)) rfl ?_
      refine QJ.step (YldS.yld (y_lenStr Try.runUnderlying9 rfl)) rfl ?_
      refine QJ.step (YldS.yld (y_move rfl)) rfl ?_
      refine QJ.done ?_
      refine PJ.next ?_
      refine WJ.block ?_
      refine WJ.sel (L' := (fun (x : Int) => []) 0) [] ⟨List.nodup_nil, rfl⟩ ?_
      refine WJ.sub (m' := (fun (x : Int) => [(0, str s1), (1, .int .u8 (UInt8.toNat low2 : Int)), (13, .int .i64 (List.length s1 : Int)), (14, .int .i64 x)]) 0) ⟨rfl, rfl, rfl, rfl, trivial⟩ ?_
      refine WJ.loop (X := Int) (fun N (x : Int) => i_isText_l1 kj5 s1 low2 N x = some r) (fun (x : Int) => [(0, str s1), (1, .int .u8 (UInt8.toNat low2 : Int)), (13, .int .i64 (List.length s1 : Int)), (14, .int .i64 x)]) (fun (x : Int) => []) ?_ N 0 hm
      · rintro N x7 hI
        have hm := hI; clear hI
        cases N with
        | zero => cases hm
        | succ N =>
        unfold i_isText_l1 at hm
        refine WJ.seq ?_
        refine WJ.quiet ?_
        refine QJ.step (YldS.yld (y_bin rfl rfl rfl)) rfl ?_
        refine QJ.done ?_
        refine PJ.next ?_
        refine WJ.seq ?_
        refine WJ.cond (t := decide (x7 < (List.length s1 : Int))) rfl (fun hb8 => ?_) (fun hb8 => ?_)
        · replace hm := ifT hm hb8
          refine WJ.skip ?_
          refine PJ.next ?_
          refine WJ.seq ?_
          refine WJ.block ?_
          refine WJ.seq ?_
          refine WJ.quiet ?_
          refine QJ.step (YldS.yld (y_move rfl)) rfl ?_
          refine QJ.step (YldS.yld (y_assign rfl)) rfl ?_
          refine QJ.done ?_
          refine PJ.next ?_
          refine WJ.seq ?_
          refine WJ.quiet ?_
          refine QJ.step (YldS.yld (y_move rfl)) rfl ?_
          refine QJ.step (YldS.yld (y_move rfl)) rfl ?_
          obtain ⟨c9, h10, hm⟩ := bindS hm
          refine QJ.step (YldS.yld (y_idxStr Try.runUnderlying9 rfl rfl h10)) rfl ?_
          refine QJ.step (YldS.yld (y_move rfl)) rfl ?_
          refine QJ.step (YldS.yld (y_bin8 c9 low2 rfl rfl rfl)) rfl ?_
          refine QJ.step (YldS.yld (y_move rfl)) rfl ?_
          obtain ⟨t11, h12, hm⟩ := bindS hm
          refine QJ.cut 5 [(0, str s1), (1, .int .u8 (UInt8.toNat low2 : Int)), (13, .int .i64 (List.length s1 : Int)), (14, .int .i64 x7), (27, .bool t11)] ?_ ?_
          · rcases Bool.eq_false_or_eq_true (decide (c9 < low2)) with hb13 | hb13
            · obtain rfl := orT h12 hb13
              refine QJ.off rfl rfl (cB hb13) rfl rfl ?_
              refine QJ.off rfl rfl (cB hb13) rfl rfl ?_
              refine QJ.off rfl rfl (cB hb13) rfl rfl ?_
              refine QJ.off rfl rfl (cB hb13) rfl rfl ?_
              refine QJ.step (YldS.yld (y_pick_t (cB hb13) rfl)) rfl ?_
              exact QJ.cut_end ⟨rfl, rfl, rfl, rfl, rfl, trivial⟩
            · replace h12 := orF h12 hb13
              refine QJ.on rfl rfl (cB hb13) (YldS.yld (y_move rfl)) rfl ?_
              refine QJ.on rfl rfl (cB hb13) (YldS.yld (y_move rfl)) rfl ?_
              obtain ⟨c14, h15, h12⟩ := bindS h12
              refine QJ.on rfl rfl (cB hb13) (YldS.yld (y_idxStr Try.runUnderlying9 rfl rfl h15)) rfl ?_
              refine QJ.on rfl rfl (cB hb13) (YldS.yld (y_bin8 c14 (126 : UInt8) rfl rfl rfl)) rfl ?_
              refine QJ.step (YldS.yld (y_pick_f (cB hb13) rfl)) rfl ?_
              obtain rfl := Option.some.inj h12
              exact QJ.cut_end ⟨rfl, rfl, rfl, rfl, rfl, trivial⟩
          refine QJ.done ?_
          refine PJ.next ?_
          refine WJ.cond (t := t11) rfl (fun hb16 => ?_) (fun hb16 => ?_)
          · replace hm := ifT hm hb16
            refine WJ.seq ?_
            refine WJ.quiet ?_
            refine QJ.step (YldS.yld (y_assign rfl)) rfl ?_
            refine QJ.done ?_
            refine PJ.next ?_
            refine WJ.ret ?_
            refine PJ.block_ret (PJ.then_ret (PJ.then_ret (PJ.block_ret (PJ.then_ret ?_))))
            obtain rfl := Option.some.inj hm
            refine PJ.sel (L' := []) [] ⟨List.nodup_nil, rfl⟩ ?_
            exact PJ.retn (vs := [.bool false]) Try.results111 ⟨rfl, trivial⟩ ⟨rfl, rfl⟩
          · replace hm := ifF hm hb16
            refine WJ.skip ?_
            refine PJ.block_normal (PJ.next ?_)
            refine WJ.quiet ?_
            refine QJ.step (YldS.yld (y_bin rfl rfl rfl)) rfl ?_
            refine QJ.step (YldS.yld (y_move rfl)) rfl ?_
            refine QJ.done ?_
            exact PJ.round (w64 (x7 + 1)) [] hm ⟨rfl, rfl, rfl, rfl, trivial⟩ ⟨List.nodup_nil, rfl⟩
        · replace hm := ifF hm hb8
          refine WJ.exit ?_
          refine PJ.then_exit (PJ.then_exit (PJ.block_exit ?_))
          exact PJ.joined () [] hm trivial ⟨List.nodup_nil, rfl⟩
    · rintro _ hm
      subst hk6
      refine WJ.seq ?_
      refine WJ.quiet ?_
      refine QJ.step (YldS.yld (y_assign rfl)) rfl ?_
      refine QJ.done ?_
      refine PJ.next ?_
      refine WJ.ret ?_
      obtain rfl := Option.some.inj hm
      refine PJ.sel (L' := []) [] ⟨List.nodup_nil, rfl⟩ ?_
      exact PJ.retn (vs := [.bool true]) Try.results111 ⟨rfl, trivial⟩ ⟨rfl, rfl⟩

set_option maxRecDepth 100000 in
set_option maxHeartbeats 1000000 in
theorem ok_i_between {n1 : Int} {low2 : Int} {high3 : Int} {r : Bool} (hm : i_between n1 low2 high3 = some r) (w : World)  :
    Calls Try.prog 69 #[.int .i64 n1, .int .i64 low2, .int .i64 high3] w (Ret (cx w) (.bool r)) := by
  unfold i_between at hm
  refine Calls.enter [.int .i64 n1, .int .i64 low2, .int .i64 high3] Try.func69 rfl Try.ntmps69 rfl ?_
  refine WJ.seq ?_
  refine WJ.quiet ?_
  refine QJ.step (YldS.yld (y_assign rfl)) rfl ?_
  refine QJ.done ?_
  refine PJ.next ?_
  refine WJ.seq ?_
  refine WJ.quiet ?_
  refine QJ.step (YldS.yld (y_move rfl)) rfl ?_
  refine QJ.step (YldS.yld (y_move rfl)) rfl ?_
  refine QJ.step (YldS.yld (y_bin rfl rfl rfl)) rfl ?_
  refine QJ.step (YldS.yld (y_move rfl)) rfl ?_
  obtain ⟨t4, h5, hm⟩ := bindS hm
  refine QJ.cut 4 [(14, .bool t4)] ?_ ?_
  · rcases Bool.eq_false_or_eq_true (decide (n1 ≥ low2)) with hb6 | hb6
    · replace h5 := andT h5 hb6
      refine QJ.on rfl rfl (cB hb6) (YldS.yld (y_move rfl)) rfl ?_
      refine QJ.on rfl rfl (cB hb6) (YldS.yld (y_move rfl)) rfl ?_
      refine QJ.on rfl rfl (cB hb6) (YldS.yld (y_bin rfl rfl rfl)) rfl ?_
      refine QJ.step (YldS.yld (y_pick_t (cB hb6) rfl)) rfl ?_
      obtain rfl := Option.some.inj h5
      exact QJ.cut_end ⟨rfl, trivial⟩
    · obtain rfl := andF h5 hb6
      refine QJ.off rfl rfl (cB hb6) rfl rfl ?_
      refine QJ.off rfl rfl (cB hb6) rfl rfl ?_
      refine QJ.off rfl rfl (cB hb6) rfl rfl ?_
      refine QJ.step (YldS.yld (y_pick_f (cB hb6) rfl)) rfl ?_
      exact QJ.cut_end ⟨rfl, trivial⟩
  refine QJ.step (YldS.yld (y_assign rfl)) rfl ?_
  refine QJ.done ?_
  refine PJ.next ?_
  refine WJ.ret ?_
  obtain rfl := Option.some.inj hm
  refine PJ.sel (L' := []) [] ⟨List.nodup_nil, rfl⟩ ?_
  exact PJ.retn (vs := [.bool t4]) Try.results69 ⟨rfl, trivial⟩ ⟨rfl, rfl⟩

set_option maxRecDepth 100000 in
set_option maxHeartbeats 1000000 in
theorem ok_i_validDrill {N : Nat} {d1 : Drill} {r : Bool} (hm : i_validDrill N d1 = some r) (w : World)  :
    Calls Try.prog 133 #[.agg (Drill.enc d1).toArray] w (Ret (cx w) (.bool r)) := by
  unfold i_validDrill at hm
  refine Calls.enter [.agg (Drill.enc d1).toArray] Try.func133 rfl Try.ntmps133 rfl ?_
  refine WJ.seq ?_
  refine WJ.reg ?_
  refine SJ.box (cs := [str d1.name, str d1.letters, .int .i64 d1.minutes]) rfl rfl rfl fun g2 => ?_
  refine SJ.q (YldS.yld (y_assign rfl)) rfl ?_
  refine SJ.nil ?_
  refine PJ.next ?_
  refine WJ.seq ?_
  refine WJ.seq ?_
  refine WJ.quiet ?_
  refine QJ.step (YldS.yld (y_fldB (o := 0) fld152_0 rfl)) rfl ?_
  refine QJ.step (YldS.yld (y_loadB (k := 0) (off := 0) (v := str d1.name) rfl Try.isAgg9 rfl rfl)) rfl ?_
  obtain ⟨r3, h4, hm⟩ := bindS hm
  refine QJ.step (y_call Try.call158 rfl (RetG.quiet fun w hw => ok_i_IsName h4 w )) rfl ?_
  refine QJ.step (YldS.yld (y_not rfl)) rfl ?_
  refine QJ.step (YldS.yld (y_move rfl)) rfl ?_
  obtain ⟨t5, h6, hm⟩ := bindS hm
  refine QJ.cut 4 [(1, pt g2 0), (13, .bool t5)] ?_ ?_
  · rcases Bool.eq_false_or_eq_true (!r3) with hb7 | hb7
    · obtain rfl := orT h6 hb7
      refine QJ.off rfl rfl (cB hb7) rfl rfl ?_
      refine QJ.off rfl rfl (cB hb7) rfl rfl ?_
      refine QJ.off rfl rfl (cB hb7) rfl rfl ?_
      refine QJ.step (YldS.yld (y_pick_t (cB hb7) rfl)) rfl ?_
      exact QJ.cut_end ⟨rfl, rfl, trivial⟩
    · replace h6 := orF h6 hb7
      refine QJ.on rfl rfl (cB hb7) (YldS.yld (y_fldB (o := 0) fld152_1 rfl)) rfl ?_
      refine QJ.on rfl rfl (cB hb7) (YldS.yld (y_loadB (k := 0) (off := 1) (v := str d1.letters) rfl Try.isAgg9 rfl rfl)) rfl ?_
      refine QJ.on rfl rfl (cB hb7) (YldS.yld (y_binS rfl rfl rfl)) rfl ?_
      refine QJ.step (YldS.yld (y_pick_f (cB hb7) rfl)) rfl ?_
      obtain rfl := Option.some.inj h6
      exact QJ.cut_end ⟨rfl, rfl, trivial⟩
  refine QJ.step (YldS.yld (y_move rfl)) rfl ?_
  obtain ⟨t8, h9, hm⟩ := bindS hm
  refine QJ.cut 5 [(1, pt g2 0), (19, .bool t8)] ?_ ?_
  · rcases Bool.eq_false_or_eq_true t5 with hb10 | hb10
    · obtain rfl := orT h9 hb10
      refine QJ.off rfl rfl (cB hb10) rfl rfl ?_
      refine QJ.off rfl rfl (cB hb10) rfl rfl ?_
      refine QJ.off rfl rfl (cB hb10) rfl rfl ?_
      refine QJ.off rfl rfl (cB hb10) rfl rfl ?_
      refine QJ.step (YldS.yld (y_pick_t (cB hb10) rfl)) rfl ?_
      exact QJ.cut_end ⟨rfl, rfl, trivial⟩
    · replace h9 := orF h9 hb10
      refine QJ.on rfl rfl (cB hb10) (YldS.yld (y_fldB (o := 0) fld152_1 rfl)) rfl ?_
      refine QJ.on rfl rfl (cB hb10) (YldS.yld (y_loadB (k := 0) (off := 1) (v := str d1.letters) rfl Try.isAgg9 rfl rfl)) rfl ?_
      obtain ⟨r11, h12, h9⟩ := bindS h9
      refine QJ.on rfl rfl (cB hb10) (y_call Try.call111 rfl (RetG.quiet fun w hw => ok_i_isText h12 w )) rfl ?_
      refine QJ.on rfl rfl (cB hb10) (YldS.yld (y_not rfl)) rfl ?_
      refine QJ.step (YldS.yld (y_pick_f (cB hb10) rfl)) rfl ?_
      obtain rfl := Option.some.inj h9
      exact QJ.cut_end ⟨rfl, rfl, trivial⟩
  refine QJ.step (YldS.yld (y_move rfl)) rfl ?_
  obtain ⟨t13, h14, hm⟩ := bindS hm
  refine QJ.cut 5 [(1, pt g2 0), (25, .bool t13)] ?_ ?_
  · rcases Bool.eq_false_or_eq_true t8 with hb15 | hb15
    · obtain rfl := orT h14 hb15
      refine QJ.off rfl rfl (cB hb15) rfl rfl ?_
      refine QJ.off rfl rfl (cB hb15) rfl rfl ?_
      refine QJ.off rfl rfl (cB hb15) rfl rfl ?_
      refine QJ.off rfl rfl (cB hb15) rfl rfl ?_
      refine QJ.step (YldS.yld (y_pick_t (cB hb15) rfl)) rfl ?_
      exact QJ.cut_end ⟨rfl, rfl, trivial⟩
    · replace h14 := orF h14 hb15
      refine QJ.on rfl rfl (cB hb15) (YldS.yld (y_fldB (o := 0) fld152_2 rfl)) rfl ?_
      refine QJ.on rfl rfl (cB hb15) (YldS.yld (y_loadB (k := 0) (off := 2) (v := .int .i64 d1.minutes) rfl Try.isAgg2 rfl rfl)) rfl ?_
      obtain ⟨r16, h17, h14⟩ := bindS h14
      refine QJ.on rfl rfl (cB hb15) (y_call Try.call69 rfl (RetG.quiet fun w hw => ok_i_between h17 w )) rfl ?_
      refine QJ.on rfl rfl (cB hb15) (YldS.yld (y_not rfl)) rfl ?_
      refine QJ.step (YldS.yld (y_pick_f (cB hb15) rfl)) rfl ?_
      obtain rfl := Option.some.inj h14
      exact QJ.cut_end ⟨rfl, rfl, trivial⟩
  refine QJ.done ?_
  refine PJ.next ?_
  refine WJ.cond (t := t13) rfl (fun hb18 => ?_) (fun hb18 => ?_)
  · replace hm := ifT hm hb18
    refine WJ.seq ?_
    refine WJ.quiet ?_
    refine QJ.step (YldS.yld (y_assign rfl)) rfl ?_
    refine QJ.done ?_
    refine PJ.next ?_
    refine WJ.ret ?_
    refine PJ.then_ret ?_
    obtain rfl := Option.some.inj hm
    refine PJ.sel (L' := []) [] ⟨List.nodup_nil, rfl⟩ ?_
    exact PJ.retn (vs := [.bool false]) Try.results133 ⟨rfl, trivial⟩ ⟨rfl, rfl⟩
  · replace hm := ifF hm hb18
    refine WJ.skip ?_
    refine PJ.next ?_
    refine WJ.seq ?_
    refine WJ.reg ?_
    refine SJ.q (YldS.yld (y_build0 Try.runUnderlying97 zv97 Try.sizeOf4)) rfl ?_
    refine SJ.allocA (R := fBool) (xs := List.replicate 256 false) 256 zv97 rfl rfl rfl rfl fun g19 => ?_
    refine SJ.storeA (k := 0) (ys := (List.replicate 256 false)) rfl rfl rfl rfl (by simp) Try.sizeOf97 (by simp [length_encs, fBool]) ?_
    refine SJ.nil ?_
    refine PJ.next ?_
    obtain ⟨kj20, hk21, hm⟩ := withK_open hm
    refine WJ.join (X := Unit) (fun (_ : Unit) => kj20  = some r) (fun (_ : Unit) => []) (fun (_ : Unit) => []) ?_ ?_
    · clear hk21
      refine WJ.seq ?_
      refine WJ.quiet ?_
      refine QJ.step (YldS.yld (y_fldB (o := 0) fld152_1 rfl)) rfl ?_
      refine QJ.step (YldS.yld (y_loadB (k := 1) (off := 1) (v := str d1.letters) rfl Try.isAgg9 rfl rfl)) rfl ?_
      refine QJ.step (YldS.yld (y_lenStr Try.runUnderlying9 rfl)) rfl ?_
      refine QJ.step (YldS.yld (y_move rfl)) rfl ?_
      refine QJ.done ?_
      refine PJ.next ?_
      refine WJ.block ?_
      refine WJ.sel (L' := (fun (x : (List Bool) × Int) => [row (av g19 256) 97 fBool x.1, box g2 152 [str d1.name, str d1.letters, .int .i64 d1.minutes]]) ((List.replicate 256 false), 0)) [0, 1] ⟨by decide, rfl⟩ ?_
      refine WJ.sub (m' := (fun (x : (List Bool) × Int) => [(1, pt g2 0), (3, pt g19 0), (29, .int .i64 (List.length d1.letters : Int)), (30, .int .i64 x.2)]) ((List.replicate 256 false), 0)) ⟨rfl, rfl, rfl, rfl, trivial⟩ ?_
      refine WJ.loop (X := (List Bool) × Int) (fun N (x : (List Bool) × Int) => i_validDrill_l1 kj20 d1 N x.1 x.2 = some r) (fun (x : (List Bool) × Int) => [(1, pt g2 0), (3, pt g19 0), (29, .int .i64 (List.length d1.letters : Int)), (30, .int .i64 x.2)]) (fun (x : (List Bool) × Int) => [row (av g19 256) 97 fBool x.1, box g2 152 [str d1.name, str d1.letters, .int .i64 d1.minutes]]) ?_ N ((List.replicate 256 false), 0) hm
      · rintro N ⟨l22, x23⟩ hI
        have hm := hI; clear hI
        cases N with
        | zero => cases hm
        | succ N =>
        unfold i_validDrill_l1 at hm
        refine WJ.seq ?_
        refine WJ.quiet ?_
        refine QJ.step (YldS.yld (y_bin rfl rfl rfl)) rfl ?_
        refine QJ.done ?_
        refine PJ.next ?_
        refine WJ.seq ?_
        refine WJ.cond (t := decide (x23 < (List.length d1.letters : Int))) rfl (fun hb24 => ?_) (fun hb24 => ?_)
        · replace hm := ifT hm hb24
          refine WJ.skip ?_
          refine PJ.next ?_
          refine WJ.seq ?_
          refine WJ.block ?_
          refine WJ.seq ?_
          refine WJ.quiet ?_
          refine QJ.step (YldS.yld (y_move rfl)) rfl ?_
          refine QJ.step (YldS.yld (y_assign rfl)) rfl ?_
          refine QJ.done ?_
          refine PJ.next ?_
          refine WJ.seq ?_
          refine WJ.seq ?_
          refine WJ.quiet ?_
          refine QJ.step (YldS.yld (y_fldB (o := 0) fld152_1 rfl)) rfl ?_
          refine QJ.step (YldS.yld (y_loadB (k := 1) (off := 1) (v := str d1.letters) rfl Try.isAgg9 rfl rfl)) rfl ?_
          refine QJ.step (YldS.yld (y_move rfl)) rfl ?_
          obtain ⟨c25, h26, hm⟩ := bindS hm
          refine QJ.step (YldS.yld (y_idxStr Try.runUnderlying9 rfl rfl h26)) rfl ?_
          obtain ⟨e27, h28, hm⟩ := bindS hm
          refine QJ.step (YldS.yld (y_ixArr (k := 0) (R := fBool) rfl Try.runUnderlying97 Try.sizeOf4 rfl rfl h28)) rfl ?_
          refine QJ.step (YldS.yld (y_loadR (k := 0) (i := (Int.toNat (UInt8.toNat c25 : Int))) (off := 0) (u := .bool e27) rfl Try.isAgg4 rfl (idx_get h28) rfl)) rfl ?_
          refine QJ.done ?_
          refine PJ.next ?_
          refine WJ.cond (t := e27) rfl (fun hb29 => ?_) (fun hb29 => ?_)
          · replace hm := ifT hm hb29
            refine WJ.seq ?_
            refine WJ.quiet ?_
            refine QJ.step (YldS.yld (y_assign rfl)) rfl ?_
            refine QJ.done ?_
            refine PJ.next ?_
            refine WJ.ret ?_
            refine PJ.then_ret (PJ.block_ret (PJ.then_ret (PJ.then_ret (PJ.block_ret (PJ.then_ret ?_)))))
            obtain rfl := Option.some.inj hm
            refine PJ.sel (L' := []) [] ⟨List.nodup_nil, rfl⟩ ?_
            exact PJ.retn (vs := [.bool false]) Try.results133 ⟨rfl, trivial⟩ ⟨rfl, rfl⟩
          · replace hm := ifF hm hb29
            refine WJ.skip ?_
            refine PJ.next ?_
            refine WJ.reg ?_
            refine SJ.q (YldS.yld (y_fldB (o := 0) fld152_1 rfl)) rfl ?_
            refine SJ.q (YldS.yld (y_loadB (k := 1) (off := 1) (v := str d1.letters) rfl Try.isAgg9 rfl rfl)) rfl ?_
            refine SJ.q (YldS.yld (y_move rfl)) rfl ?_
            obtain ⟨c30, h31, hm⟩ := bindS hm
            refine SJ.q (YldS.yld (y_idxStr Try.runUnderlying9 rfl rfl h31)) rfl ?_
            obtain ⟨e32, h33, hm⟩ := bindS hm
            refine SJ.q (YldS.yld (y_ixArr (k := 0) (R := fBool) rfl Try.runUnderlying97 Try.sizeOf4 rfl rfl h33)) rfl ?_
            refine SJ.storeRL (k := 0) (i := (Int.toNat (UInt8.toNat c30 : Int))) (off := 0) (us := [.bool true]) (b := true) rfl rfl (idx_get h33) rfl rfl Try.sizeOf4 rfl rfl rfl ?_
            refine SJ.nil ?_
            refine PJ.block_normal (PJ.next ?_)
            refine WJ.quiet ?_
            refine QJ.step (YldS.yld (y_bin rfl rfl rfl)) rfl ?_
            refine QJ.step (YldS.yld (y_move rfl)) rfl ?_
            refine QJ.done ?_
            exact PJ.round ((List.set l22 (Int.toNat (UInt8.toNat c30 : Int)) true), w64 (x23 + 1)) [0, 1] hm ⟨rfl, rfl, rfl, rfl, trivial⟩ ⟨by decide, rfl⟩
        · replace hm := ifF hm hb24
          refine WJ.exit ?_
          refine PJ.then_exit (PJ.then_exit (PJ.block_exit ?_))
          exact PJ.joined () [] hm trivial ⟨List.nodup_nil, rfl⟩
    · rintro _ hm
      subst hk21
      refine WJ.seq ?_
      refine WJ.quiet ?_
      refine QJ.step (YldS.yld (y_assign rfl)) rfl ?_
      refine QJ.done ?_
      refine PJ.next ?_
      refine WJ.ret ?_
      obtain rfl := Option.some.inj hm
      refine PJ.sel (L' := []) [] ⟨List.nodup_nil, rfl⟩ ?_
      exact PJ.retn (vs := [.bool true]) Try.results133 ⟨rfl, trivial⟩ ⟨rfl, rfl⟩

set_option maxRecDepth 100000 in
set_option maxHeartbeats 1000000 in
theorem ok_i_ValidDrills {N : Nat} {list1 : List Drill} {r : Bool} (hm : i_ValidDrills N list1 = some r) (w : World) (v2 : Value) (hr3 : RdS w (cx w).Fz v2 fDrill.rp list1) :
    Calls Try.prog 97 #[v2] w (Ret (cx w) (.bool r)) := by
  unfold i_ValidDrills at hm
  refine Calls.enter [v2] Try.func97 rfl Try.ntmps97 rfl ?_
  refine WJ.seq ?_
  refine WJ.quiet ?_
  refine QJ.step (YldS.yld (y_assign rfl)) rfl ?_
  refine QJ.done ?_
  refine PJ.next ?_
  refine WJ.seq ?_
  refine WJ.reg ?_
  refine SJ.makeMap rfl fun g4 => ?_
  refine SJ.q (YldS.yld (y_assign rfl)) rfl ?_
  refine SJ.nil ?_
  refine PJ.next ?_
  obtain ⟨kj5, hk6, hm⟩ := withK_open hm
  refine WJ.join (X := Unit) (fun (_ : Unit) => kj5  = some r) (fun (_ : Unit) => [(0, v2)]) (fun (_ : Unit) => []) ?_ ?_
  · clear hk6
    refine WJ.seq ?_
    refine WJ.quiet ?_
    refine QJ.step (YldS.yld (y_move rfl)) rfl ?_
    refine QJ.step (YldS.yld (y_lenS Try.runUnderlying70 hr3 rfl)) rfl ?_
    refine QJ.step (YldS.yld (y_move rfl)) rfl ?_
    refine QJ.done ?_
    refine PJ.next ?_
    refine WJ.block ?_
    refine WJ.sel (L' := (fun (x : (List (Str × Bool)) × Int) => [mp g4 x.1]) ([], 0)) [0] ⟨by decide, rfl⟩ ?_
    refine WJ.sub (m' := (fun (x : (List (Str × Bool)) × Int) => [(0, v2), (3, .map (some g4)), (7, v2), (8, .int .i64 (List.length list1 : Int)), (9, .int .i64 x.2)]) ([], 0)) ⟨rfl, rfl, rfl, rfl, rfl, trivial⟩ ?_
    refine WJ.loop (X := (List (Str × Bool)) × Int) (fun N (x : (List (Str × Bool)) × Int) => i_ValidDrills_l1 kj5 list1 N x.1 x.2 = some r) (fun (x : (List (Str × Bool)) × Int) => [(0, v2), (3, .map (some g4)), (7, v2), (8, .int .i64 (List.length list1 : Int)), (9, .int .i64 x.2)]) (fun (x : (List (Str × Bool)) × Int) => [mp g4 x.1]) ?_ N ([], 0) hm
    · rintro N ⟨mp7, x8⟩ hI
      have hm := hI; clear hI
      cases N with
      | zero => cases hm
      | succ N =>
      unfold i_ValidDrills_l1 at hm
      refine WJ.seq ?_
      refine WJ.quiet ?_
      refine QJ.step (YldS.yld (y_bin rfl rfl rfl)) rfl ?_
      refine QJ.done ?_
      refine PJ.next ?_
      refine WJ.seq ?_
      refine WJ.cond (t := decide (x8 < (List.length list1 : Int))) rfl (fun hb9 => ?_) (fun hb9 => ?_)
      · replace hm := ifT hm hb9
        refine WJ.skip ?_
        refine PJ.next ?_
        refine WJ.seq ?_
        refine WJ.block ?_
        refine WJ.seq ?_
        refine WJ.reg ?_
        obtain ⟨e10, h11, hm⟩ := bindS hm
        obtain ⟨ad12, _, rfl, ha13, hy14⟩ := hr3.elem h11
        refine SJ.q (YldS.yld (hy14 Try.runUnderlying70 Try.sizeOf152 rfl rfl)) rfl ?_
        refine SJ.q (YldS.yld (y_loadN Try.isAgg152 Try.sizeOf152 rfl ha13 St.frozenC rfl)) rfl ?_
        refine SJ.alloc (cs := [str [], str [], .int .i64 0]) Try.zeroValue152 rfl rfl fun g15 => ?_
        refine SJ.storeL (k := 0) (off := 0) (us := [str e10.name, str e10.letters, .int .i64 e10.minutes]) rfl rfl rfl rfl Try.sizeOf152 rfl rfl ?_
        refine SJ.nil ?_
        refine PJ.next ?_
        refine WJ.seq ?_
        refine WJ.seq ?_
        refine WJ.quiet ?_
        refine QJ.step (YldS.yld (y_loadBN (k := 0) (off := 0) (us := [str e10.name, str e10.letters, .int .i64 e10.minutes]) rfl Try.isAgg152 Try.sizeOf152 rfl rfl)) rfl ?_
        obtain ⟨r16, h17, hm⟩ := bindS hm
        refine QJ.step (y_call Try.call133 rfl (RetG.quiet fun w hw => ok_i_validDrill h17 w )) rfl ?_
        refine QJ.step (YldS.yld (y_not rfl)) rfl ?_
        refine QJ.step (YldS.yld (y_move rfl)) rfl ?_
        obtain ⟨t18, h19, hm⟩ := bindS hm
        refine QJ.cut 5 [(0, v2), (3, .map (some g4)), (5, pt g15 0), (7, v2), (8, .int .i64 (List.length list1 : Int)), (9, .int .i64 x8), (21, .bool t18)] ?_ ?_
        · rcases Bool.eq_false_or_eq_true (!r16) with hb20 | hb20
          · obtain rfl := orT h19 hb20
            refine QJ.off rfl rfl (cB hb20) rfl rfl ?_
            refine QJ.off rfl rfl (cB hb20) rfl rfl ?_
            refine QJ.off rfl rfl (cB hb20) rfl rfl ?_
            refine QJ.off rfl rfl (cB hb20) rfl rfl ?_
            refine QJ.step (YldS.yld (y_pick_t (cB hb20) rfl)) rfl ?_
            exact QJ.cut_end ⟨rfl, rfl, rfl, rfl, rfl, rfl, rfl, trivial⟩
          · replace h19 := orF h19 hb20
            refine QJ.on rfl rfl (cB hb20) (YldS.yld (y_move rfl)) rfl ?_
            refine QJ.on rfl rfl (cB hb20) (YldS.yld (y_fldB (o := 0) fld152_0 rfl)) rfl ?_
            refine QJ.on rfl rfl (cB hb20) (YldS.yld (y_loadB (k := 0) (off := 0) (v := str e10.name) rfl Try.isAgg9 rfl rfl)) rfl ?_
            refine QJ.on rfl rfl (cB hb20) (YldS.yld (y_lookupSB (k := 1) rfl Try.underlying154 Try.underlying9 Try.zeroValue4 rfl rfl)) rfl ?_
            refine QJ.step (YldS.yld (y_pick_f (cB hb20) rfl)) rfl ?_
            obtain rfl := Option.some.inj h19
            exact QJ.cut_end ⟨rfl, rfl, rfl, rfl, rfl, rfl, rfl, trivial⟩
        refine QJ.done ?_
        refine PJ.next ?_
        refine WJ.cond (t := t18) rfl (fun hb21 => ?_) (fun hb21 => ?_)
        · replace hm := ifT hm hb21
          refine WJ.seq ?_
          refine WJ.quiet ?_
          refine QJ.step (YldS.yld (y_assign rfl)) rfl ?_
          refine QJ.done ?_
          refine PJ.next ?_
          refine WJ.ret ?_
          refine PJ.then_ret (PJ.block_ret (PJ.then_ret (PJ.then_ret (PJ.block_ret (PJ.then_ret ?_)))))
          obtain rfl := Option.some.inj hm
          refine PJ.sel (L' := []) [] ⟨List.nodup_nil, rfl⟩ ?_
          exact PJ.retn (vs := [.bool false]) Try.results97 ⟨rfl, trivial⟩ ⟨rfl, rfl⟩
        · replace hm := ifF hm hb21
          refine WJ.skip ?_
          refine PJ.next ?_
          refine WJ.reg ?_
          refine SJ.q (YldS.yld (y_move rfl)) rfl ?_
          refine SJ.q (YldS.yld (y_fldB (o := 0) fld152_0 rfl)) rfl ?_
          refine SJ.q (YldS.yld (y_loadB (k := 0) (off := 0) (v := str e10.name) rfl Try.isAgg9 rfl rfl)) rfl ?_
          refine SJ.mapUpdateSB (k := 1) Try.underlying154 Try.underlying9 rfl rfl rfl rfl ?_
          refine SJ.nil ?_
          refine PJ.block_normal (PJ.next ?_)
          refine WJ.quiet ?_
          refine QJ.step (YldS.yld (y_bin rfl rfl rfl)) rfl ?_
          refine QJ.step (YldS.yld (y_move rfl)) rfl ?_
          refine QJ.done ?_
          exact PJ.round (mset mp7 e10.name true, w64 (x8 + 1)) [1] hm ⟨rfl, rfl, rfl, rfl, rfl, trivial⟩ ⟨by decide, rfl⟩
      · replace hm := ifF hm hb9
        refine WJ.exit ?_
        refine PJ.then_exit (PJ.then_exit (PJ.block_exit ?_))
        exact PJ.joined () [] hm ⟨rfl, trivial⟩ ⟨List.nodup_nil, rfl⟩
  · rintro _ hm
    subst hk6
    refine WJ.seq ?_
    refine WJ.quiet ?_
    refine QJ.step (YldS.yld (y_move rfl)) rfl ?_
    refine QJ.step (YldS.yld (y_lenS Try.runUnderlying70 hr3 rfl)) rfl ?_
    refine QJ.step (YldS.yld (y_bin rfl rfl rfl)) rfl ?_
    refine QJ.step (YldS.yld (y_assign rfl)) rfl ?_
    refine QJ.done ?_
    refine PJ.next ?_
    refine WJ.ret ?_
    obtain rfl := Option.some.inj hm
    refine PJ.sel (L' := []) [] ⟨List.nodup_nil, rfl⟩ ?_
    exact PJ.retn (vs := [.bool (decide ((List.length list1 : Int) ≤ 10))]) Try.results97 ⟨rfl, trivial⟩ ⟨rfl, rfl⟩

set_option maxRecDepth 100000 in
set_option maxHeartbeats 1000000 in
theorem ok_i_areNeeded {N : Nat} {letters1 : Str} {r : Bool} (hm : i_areNeeded N letters1 = some r) (w : World)  :
    Calls Try.prog 104 #[str letters1] w (Ret (cx w) (.bool r)) := by
  unfold i_areNeeded at hm
  refine Calls.enter [str letters1] Try.func104 rfl Try.ntmps104 rfl ?_
  refine WJ.seq ?_
  refine WJ.quiet ?_
  refine QJ.step (YldS.yld (y_assign rfl)) rfl ?_
  refine QJ.done ?_
  refine PJ.next ?_
  obtain ⟨kj2, hk3, hm⟩ := withK_open hm
  refine WJ.join (X := Unit) (fun (_ : Unit) => kj2  = some r) (fun (_ : Unit) => [(0, str letters1)]) (fun (_ : Unit) => []) ?_ ?_
  · clear hk3
    refine WJ.seq ?_
    refine WJ.quiet ?_
    refine QJ.step (YldS.yld (y_assign rfl)) rfl ?_
    refine QJ.done ?_
    refine PJ.next ?_
    refine WJ.block ?_
    refine WJ.sel (L' := (fun (x : Int) => []) 1) [] ⟨List.nodup_nil, rfl⟩ ?_
    refine WJ.sub (m' := (fun (x : Int) => [(0, str letters1), (3, .int .i64 x)]) 1) ⟨rfl, rfl, trivial⟩ ?_
    refine WJ.loop (X := Int) (fun N (x : Int) => i_areNeeded_l1 kj2 letters1 N x = some r) (fun (x : Int) => [(0, str letters1), (3, .int .i64 x)]) (fun (x : Int) => []) ?_ N 1 hm
    · rintro N i4 hI
      have hm := hI; clear hI
      cases N with
      | zero => cases hm
      | succ N =>
      unfold i_areNeeded_l1 at hm
      refine WJ.seq ?_
      refine WJ.seq ?_
      refine WJ.quiet ?_
      refine QJ.step (YldS.yld (y_move rfl)) rfl ?_
      refine QJ.step (YldS.yld (y_move rfl)) rfl ?_
      refine QJ.step (YldS.yld (y_lenStr Try.runUnderlying9 rfl)) rfl ?_
      refine QJ.step (YldS.yld (y_bin rfl rfl rfl)) rfl ?_
      refine QJ.done ?_
      refine PJ.next ?_
      refine WJ.cond (t := decide (i4 < (List.length letters1 : Int))) rfl (fun hb5 => ?_) (fun hb5 => ?_)
      · replace hm := ifT hm hb5
        refine WJ.skip ?_
        refine PJ.next ?_
        refine WJ.seq ?_
        refine WJ.block ?_
        refine WJ.seq ?_
        refine WJ.quiet_draw follows (by kernel_rfl) ?_
        refine QJ.step (YldS.yld (y_move rfl)) rfl ?_
        refine QJ.step (YldS.yld (y_move rfl)) rfl ?_
        obtain ⟨c6, h7, hm⟩ := bindS hm
        refine QJ.step (YldS.yld (y_idxStr Try.runUnderlying9 rfl rfl h7)) rfl ?_
        refine QJ.step (YldS.yld (y_move rfl)) rfl ?_
        refine QJ.step (YldS.yld (y_move rfl)) rfl ?_
        refine QJ.step (YldS.yld (y_bin rfl rfl rfl)) rfl ?_
        obtain ⟨c8, h9, hm⟩ := bindS hm
        refine QJ.step (YldS.yld (y_idxStr Try.runUnderlying9 rfl rfl h9)) rfl ?_
        refine QJ.step (YldS.yld (y_bin8 c6 c8 rfl rfl rfl)) rfl ?_
        refine QJ.done ?_
        refine PJ.next ?_
        refine WJ.cond (t := decide (c6 ≤ c8)) rfl (fun hb10 => ?_) (fun hb10 => ?_)
        · replace hm := ifT hm hb10
          refine WJ.seq ?_
          refine WJ.quiet ?_
          refine QJ.step (YldS.yld (y_assign rfl)) rfl ?_
          refine QJ.done ?_
          refine PJ.next ?_
          refine WJ.ret ?_
          refine PJ.block_ret (PJ.then_ret (PJ.then_ret (PJ.block_ret (PJ.then_ret ?_))))
          obtain rfl := Option.some.inj hm
          refine PJ.sel (L' := []) [] ⟨List.nodup_nil, rfl⟩ ?_
          exact PJ.retn (vs := [.bool false]) Try.results104 ⟨rfl, trivial⟩ ⟨rfl, rfl⟩
        · replace hm := ifF hm hb10
          refine WJ.skip ?_
          refine PJ.block_normal (PJ.next ?_)
          refine WJ.quiet ?_
          refine QJ.step (YldS.yld (y_move rfl)) rfl ?_
          refine QJ.step (YldS.yld (y_bin rfl rfl rfl)) rfl ?_
          refine QJ.step (YldS.yld (y_assign rfl)) rfl ?_
          refine QJ.done ?_
          exact PJ.round (w64 (i4 + 1)) [] hm ⟨rfl, rfl, trivial⟩ ⟨List.nodup_nil, rfl⟩
      · replace hm := ifF hm hb5
        refine WJ.exit ?_
        refine PJ.then_exit (PJ.then_exit (PJ.block_exit ?_))
        exact PJ.joined () [] hm ⟨rfl, trivial⟩ ⟨List.nodup_nil, rfl⟩
  · rintro _ hm
    subst hk3
    refine WJ.seq ?_
    refine WJ.quiet ?_
    refine QJ.step (YldS.yld (y_move rfl)) rfl ?_
    obtain ⟨r11, h12, hm⟩ := bindS hm
    refine QJ.step (y_call Try.call111 rfl (RetG.quiet fun w hw => ok_i_isText h12 w )) rfl ?_
    refine QJ.step (YldS.yld (y_assign rfl)) rfl ?_
    refine QJ.done ?_
    refine PJ.next ?_
    refine WJ.ret ?_
    obtain rfl := Option.some.inj hm
    refine PJ.sel (L' := []) [] ⟨List.nodup_nil, rfl⟩ ?_
    exact PJ.retn (vs := [.bool r11]) Try.results104 ⟨rfl, trivial⟩ ⟨rfl, rfl⟩

set_option maxRecDepth 100000 in
set_option maxHeartbeats 1000000 in
theorem ok_i_ValidNeeds {N : Nat} {letters1 : Str} {counts2 : List Int} {r : Bool} (hm : i_ValidNeeds N letters1 counts2 = some r) (w : World) (v3 : Value) (hr4 : RdS w (cx w).Fz v3 fI64.rp counts2) :
    Calls Try.prog 98 #[str letters1, v3] w (Ret (cx w) (.bool r)) := by
  unfold i_ValidNeeds at hm
  refine Calls.enter [str letters1, v3] Try.func98 rfl Try.ntmps98 rfl ?_
  refine WJ.seq ?_
  refine WJ.quiet ?_
  refine QJ.step (YldS.yld (y_assign rfl)) rfl ?_
  refine QJ.done ?_
  refine PJ.next ?_
  obtain ⟨kj5, hk6, hm⟩ := withK_open hm
  refine WJ.join (X := Unit) (fun (_ : Unit) => kj5  = some r) (fun (_ : Unit) => [(0, str letters1), (1, v3)]) (fun (_ : Unit) => []) ?_ ?_
  · clear hk6
    refine WJ.seq ?_
    refine WJ.quiet ?_
    refine QJ.step (YldS.yld (y_move rfl)) rfl ?_
    refine QJ.step (YldS.yld (y_lenS Try.runUnderlying24 hr4 rfl)) rfl ?_
    refine QJ.step (YldS.yld (y_move rfl)) rfl ?_
    refine QJ.done ?_
    refine PJ.next ?_
    refine WJ.block ?_
    refine WJ.sel (L' := (fun (x : Int) => []) 0) [] ⟨List.nodup_nil, rfl⟩ ?_
    refine WJ.sub (m' := (fun (x : Int) => [(0, str letters1), (1, v3), (7, v3), (8, .int .i64 (List.length counts2 : Int)), (9, .int .i64 x)]) 0) ⟨rfl, rfl, rfl, rfl, rfl, trivial⟩ ?_
    refine WJ.loop (X := Int) (fun N (x : Int) => i_ValidNeeds_l1 kj5 counts2 N x = some r) (fun (x : Int) => [(0, str letters1), (1, v3), (7, v3), (8, .int .i64 (List.length counts2 : Int)), (9, .int .i64 x)]) (fun (x : Int) => []) ?_ N 0 hm
    · rintro N x7 hI
      have hm := hI; clear hI
      cases N with
      | zero => cases hm
      | succ N =>
      unfold i_ValidNeeds_l1 at hm
      refine WJ.seq ?_
      refine WJ.quiet ?_
      refine QJ.step (YldS.yld (y_bin rfl rfl rfl)) rfl ?_
      refine QJ.done ?_
      refine PJ.next ?_
      refine WJ.seq ?_
      refine WJ.cond (t := decide (x7 < (List.length counts2 : Int))) rfl (fun hb8 => ?_) (fun hb8 => ?_)
      · replace hm := ifT hm hb8
        refine WJ.skip ?_
        refine PJ.next ?_
        refine WJ.seq ?_
        refine WJ.block ?_
        refine WJ.seq ?_
        refine WJ.quiet ?_
        obtain ⟨e9, h10, hm⟩ := bindS hm
        obtain ⟨ad11, _, rfl, ha12, hy13⟩ := hr4.elem h10
        refine QJ.step (YldS.yld (hy13 Try.runUnderlying24 Try.sizeOf2 rfl rfl)) rfl ?_
        refine QJ.step (YldS.yld (y_load1 (v := .int .i64 e9) Try.isAgg2 ha12 St.frozenC rfl)) rfl ?_
        refine QJ.step (YldS.yld (y_assign rfl)) rfl ?_
        refine QJ.done ?_
        refine PJ.next ?_
        refine WJ.seq ?_
        refine WJ.quiet ?_
        refine QJ.step (YldS.yld (y_move rfl)) rfl ?_
        obtain ⟨r14, h15, hm⟩ := bindS hm
        refine QJ.step (y_call Try.call69 rfl (RetG.quiet fun w hw => ok_i_between h15 w )) rfl ?_
        refine QJ.step (YldS.yld (y_not rfl)) rfl ?_
        refine QJ.done ?_
        refine PJ.next ?_
        refine WJ.cond (t := !r14) rfl (fun hb16 => ?_) (fun hb16 => ?_)
        · replace hm := ifT hm hb16
          refine WJ.seq ?_
          refine WJ.quiet ?_
          refine QJ.step (YldS.yld (y_assign rfl)) rfl ?_
          refine QJ.done ?_
          refine PJ.next ?_
          refine WJ.ret ?_
          refine PJ.block_ret (PJ.then_ret (PJ.then_ret (PJ.block_ret (PJ.then_ret ?_))))
          obtain rfl := Option.some.inj hm
          refine PJ.sel (L' := []) [] ⟨List.nodup_nil, rfl⟩ ?_
          exact PJ.retn (vs := [.bool false]) Try.results98 ⟨rfl, trivial⟩ ⟨rfl, rfl⟩
        · replace hm := ifF hm hb16
          refine WJ.skip ?_
          refine PJ.block_normal (PJ.next ?_)
          refine WJ.quiet ?_
          refine QJ.step (YldS.yld (y_bin rfl rfl rfl)) rfl ?_
          refine QJ.step (YldS.yld (y_move rfl)) rfl ?_
          refine QJ.done ?_
          exact PJ.round (w64 (x7 + 1)) [] hm ⟨rfl, rfl, rfl, rfl, rfl, trivial⟩ ⟨List.nodup_nil, rfl⟩
      · replace hm := ifF hm hb8
        refine WJ.exit ?_
        refine PJ.then_exit (PJ.then_exit (PJ.block_exit ?_))
        exact PJ.joined () [] hm ⟨rfl, rfl, trivial⟩ ⟨List.nodup_nil, rfl⟩
  · rintro _ hm
    subst hk6
    refine WJ.seq ?_
    refine WJ.quiet ?_
    refine QJ.step (YldS.yld (y_move rfl)) rfl ?_
    obtain ⟨r17, h18, hm⟩ := bindS hm
    refine QJ.step (y_call Try.call104 rfl (RetG.quiet fun w hw => ok_i_areNeeded h18 w )) rfl ?_
    refine QJ.step (YldS.yld (y_move rfl)) rfl ?_
    obtain ⟨t19, h20, hm⟩ := bindS hm
    refine QJ.cut 6 [(25, .bool t19)] ?_ ?_
    · rcases Bool.eq_false_or_eq_true r17 with hb21 | hb21
      · replace h20 := andT h20 hb21
        refine QJ.on rfl rfl (cB hb21) (YldS.yld (y_move rfl)) rfl ?_
        refine QJ.on rfl rfl (cB hb21) (YldS.yld (y_lenS Try.runUnderlying24 hr4 rfl)) rfl ?_
        refine QJ.on rfl rfl (cB hb21) (YldS.yld (y_move rfl)) rfl ?_
        refine QJ.on rfl rfl (cB hb21) (YldS.yld (y_lenStr Try.runUnderlying9 rfl)) rfl ?_
        refine QJ.on rfl rfl (cB hb21) (YldS.yld (y_bin rfl rfl rfl)) rfl ?_
        refine QJ.step (YldS.yld (y_pick_t (cB hb21) rfl)) rfl ?_
        obtain rfl := Option.some.inj h20
        exact QJ.cut_end ⟨rfl, trivial⟩
      · obtain rfl := andF h20 hb21
        refine QJ.off rfl rfl (cB hb21) rfl rfl ?_
        refine QJ.off rfl rfl (cB hb21) rfl rfl ?_
        refine QJ.off rfl rfl (cB hb21) rfl rfl ?_
        refine QJ.off rfl rfl (cB hb21) rfl rfl ?_
        refine QJ.off rfl rfl (cB hb21) rfl rfl ?_
        refine QJ.step (YldS.yld (y_pick_f (cB hb21) rfl)) rfl ?_
        exact QJ.cut_end ⟨rfl, trivial⟩
    refine QJ.step (YldS.yld (y_assign rfl)) rfl ?_
    refine QJ.done ?_
    refine PJ.next ?_
    refine WJ.ret ?_
    obtain rfl := Option.some.inj hm
    refine PJ.sel (L' := []) [] ⟨List.nodup_nil, rfl⟩ ?_
    exact PJ.retn (vs := [.bool t19]) Try.results98 ⟨rfl, trivial⟩ ⟨rfl, rfl⟩

set_option maxRecDepth 100000 in
set_option maxHeartbeats 1000000 in
theorem ok_i_chosen {N : Nat} {set1 : Int} {n2 : Int} {r : (List Int)} (hm : i_chosen N set1 n2 = some r) (w : World)  :
    Calls Try.prog 99 #[.int .i64 set1, .int .i64 n2] w (RetG (cx w) fun u L => ∃ (u1 : Value), (u = u1 ∧ L = [row u1 2 fI64 r])) := by
  unfold i_chosen at hm
  refine Calls.enter [.int .i64 set1, .int .i64 n2] Try.func99 rfl Try.ntmps99 rfl ?_
  refine WJ.seq ?_
  refine WJ.quiet ?_
  refine QJ.step (YldS.yld (y_assign rfl)) rfl ?_
  refine QJ.done ?_
  refine PJ.next ?_
  refine WJ.seq ?_
  refine WJ.reg ?_
  refine SJ.buildSlice (R := fI64) (os := []) [] Try.runUnderlying24 Try.sizeOf2 Try.zeroValue2 rfl rfl rfl rfl rfl rfl fun v3 => ?_
  refine SJ.q (YldS.yld (y_assign rfl)) rfl ?_
  refine SJ.nil ?_
  refine PJ.next ?_
  obtain ⟨kj6, hk7, hm⟩ := withK_open hm
  refine WJ.join (X := (List Int) × Value) (fun (x : (List Int) × Value) => kj6 x.1 = some r) (fun (x : (List Int) × Value) => [(5, x.2)]) (fun (x : (List Int) × Value) => [row x.2 2 fI64 x.1]) ?_ ?_
  · clear hk7
    refine WJ.seq ?_
    refine WJ.quiet ?_
    refine QJ.step (YldS.yld (y_move rfl)) rfl ?_
    refine QJ.step (YldS.yld (y_move rfl)) rfl ?_
    refine QJ.done ?_
    refine PJ.next ?_
    refine WJ.block ?_
    refine WJ.sel (L' := (fun (x : (List Int) × Value × Int) => [row x.2.1 2 fI64 x.1]) ([], v3, 0)) [0] ⟨by decide, rfl⟩ ?_
    refine WJ.sub (m' := (fun (x : (List Int) × Value × Int) => [(0, .int .i64 set1), (5, x.2.1), (8, .int .i64 n2), (9, .int .i64 x.2.2)]) ([], v3, 0)) ⟨rfl, rfl, rfl, rfl, trivial⟩ ?_
    refine WJ.loop (X := (List Int) × Value × Int) (fun N (x : (List Int) × Value × Int) => i_chosen_l1 kj6 set1 n2 N x.1 x.2.2 = some r) (fun (x : (List Int) × Value × Int) => [(0, .int .i64 set1), (5, x.2.1), (8, .int .i64 n2), (9, .int .i64 x.2.2)]) (fun (x : (List Int) × Value × Int) => [row x.2.1 2 fI64 x.1]) ?_ N ([], v3, 0) hm
    · rintro N ⟨l8, v9, x10⟩ hI
      have hm := hI; clear hI
      cases N with
      | zero => cases hm
      | succ N =>
      unfold i_chosen_l1 at hm
      refine WJ.seq ?_
      refine WJ.quiet ?_
      refine QJ.step (YldS.yld (y_bin rfl rfl rfl)) rfl ?_
      refine QJ.done ?_
      refine PJ.next ?_
      refine WJ.seq ?_
      refine WJ.cond (t := decide (x10 < n2)) rfl (fun hb11 => ?_) (fun hb11 => ?_)
      · replace hm := ifT hm hb11
        refine WJ.skip ?_
        refine PJ.next ?_
        obtain ⟨kj14, hk15, hm⟩ := withK_open hm
        refine WJ.join (X := (List Int) × Value) (fun (x : (List Int) × Value) => kj14 x.1 = some r) (fun (x : (List Int) × Value) => [(0, .int .i64 set1), (5, x.2), (8, .int .i64 n2), (9, .int .i64 x10)]) (fun (x : (List Int) × Value) => [row x.2 2 fI64 x.1]) ?_ ?_
        · clear hk15
          refine WJ.block ?_
          refine WJ.seq ?_
          refine WJ.quiet ?_
          refine QJ.step (YldS.yld (y_move rfl)) rfl ?_
          refine QJ.step (YldS.yld (y_assign rfl)) rfl ?_
          refine QJ.done ?_
          refine PJ.next ?_
          refine WJ.seq ?_
          refine WJ.quiet ?_
          refine QJ.step (YldS.yld (y_move rfl)) rfl ?_
          refine QJ.step (YldS.yld (y_move rfl)) rfl ?_
          obtain ⟨q16, h17, hm⟩ := bindS hm
          refine QJ.step (YldS.yld (y_shr' h17 rfl rfl)) rfl ?_
          refine QJ.step (YldS.yld (y_and rfl rfl)) rfl ?_
          refine QJ.step (YldS.yld (y_bin rfl rfl rfl)) rfl ?_
          refine QJ.done ?_
          refine PJ.next ?_
          refine WJ.cond (t := ((iand q16 1) == 1)) rfl (fun hb18 => ?_) (fun hb18 => ?_)
          · replace hm := ifT hm hb18
            refine WJ.reg ?_
            refine SJ.q (YldS.yld (y_move rfl)) rfl ?_
            refine SJ.q (YldS.yld (y_move rfl)) rfl ?_
            refine SJ.buildSlice (R := fI64) (os := [.tmp 18]) [x10] Try.runUnderlying24 Try.sizeOf2 Try.zeroValue2 rfl rfl rfl rfl rfl rfl fun v19 => ?_
            obtain ⟨l20, h21, hm⟩ := bindS hm
            refine SJ.append (k := 1) (R := fI64) h21 rfl Try.underlying24 el2 rfl rfl rfl (fun w hw => (hw.row_rd (k := 0) rfl)) rfl fun v22 => ?_
            refine SJ.q (YldS.yld (y_assign rfl)) rfl ?_
            refine SJ.nil ?_
            refine PJ.block_normal ?_
            exact PJ.joined (l20, v22) [1] hm ⟨rfl, rfl, rfl, rfl, trivial⟩ ⟨by decide, rfl⟩
          · replace hm := ifF hm hb18
            refine WJ.skip ?_
            refine PJ.block_normal ?_
            exact PJ.joined (l8, v9) [0] hm ⟨rfl, rfl, rfl, rfl, trivial⟩ ⟨by decide, rfl⟩
        · rintro ⟨l12, v13⟩ hm
          subst hk15
          refine WJ.quiet ?_
          refine QJ.step (YldS.yld (y_bin rfl rfl rfl)) rfl ?_
          refine QJ.step (YldS.yld (y_move rfl)) rfl ?_
          refine QJ.done ?_
          exact PJ.round (l12, v13, w64 (x10 + 1)) [0] hm ⟨rfl, rfl, rfl, rfl, trivial⟩ ⟨by decide, rfl⟩
      · replace hm := ifF hm hb11
        refine WJ.exit ?_
        refine PJ.then_exit (PJ.then_exit (PJ.block_exit ?_))
        exact PJ.joined (l8, v9) [0] hm ⟨rfl, trivial⟩ ⟨by decide, rfl⟩
  · rintro ⟨l4, v5⟩ hm
    subst hk7
    refine WJ.seq ?_
    refine WJ.quiet ?_
    refine QJ.step (YldS.yld (y_move rfl)) rfl ?_
    refine QJ.step (YldS.yld (y_assign rfl)) rfl ?_
    refine QJ.done ?_
    refine PJ.next ?_
    refine WJ.ret ?_
    obtain rfl := Option.some.inj hm
    refine PJ.sel (L' := [row v5 2 fI64 l4]) [0] ⟨by decide, rfl⟩ ?_
    exact PJ.retn (vs := [v5]) Try.results99 ⟨rfl, trivial⟩ ⟨_, rfl, rfl⟩

set_option maxRecDepth 100000 in
set_option maxHeartbeats 1000000 in
theorem ok_i_minutesOf {N : Nat} {list1 : List Drill} {some4 : List Int} {r : Int} (hm : i_minutesOf N list1 some4 = some r) (w : World) (v2 : Value) (hr3 : RdS w (cx w).Fz v2 fDrill.rp list1) (v5 : Value) (hr6 : RdS w (cx w).Fz v5 fI64.rp some4) :
    Calls Try.prog 100 #[v2, v5] w (Ret (cx w) (.int .i64 r)) := by
  unfold i_minutesOf at hm
  refine Calls.enter [v2, v5] Try.func100 rfl Try.ntmps100 rfl ?_
  refine WJ.seq ?_
  refine WJ.quiet ?_
  refine QJ.step (YldS.yld (y_assign rfl)) rfl ?_
  refine QJ.done ?_
  refine PJ.next ?_
  refine WJ.seq ?_
  refine WJ.quiet ?_
  refine QJ.step (YldS.yld (y_assign rfl)) rfl ?_
  refine QJ.done ?_
  refine PJ.next ?_
  obtain ⟨kj8, hk9, hm⟩ := withK_open hm
  refine WJ.join (X := Int) (fun (x : Int) => kj8 x = some r) (fun (x : Int) => [(5, .int .i64 x)]) (fun (x : Int) => []) ?_ ?_
  · clear hk9
    refine WJ.seq ?_
    refine WJ.quiet ?_
    refine QJ.step (YldS.yld (y_move rfl)) rfl ?_
    refine QJ.step (YldS.yld (y_lenS Try.runUnderlying24 hr6 rfl)) rfl ?_
    refine QJ.step (YldS.yld (y_move rfl)) rfl ?_
    refine QJ.done ?_
    refine PJ.next ?_
    refine WJ.block ?_
    refine WJ.sel (L' := (fun (x : Int × Int) => []) (0, 0)) [] ⟨List.nodup_nil, rfl⟩ ?_
    refine WJ.sub (m' := (fun (x : Int × Int) => [(0, v2), (5, .int .i64 x.1), (8, v5), (9, .int .i64 (List.length some4 : Int)), (10, .int .i64 x.2)]) (0, 0)) ⟨rfl, rfl, rfl, rfl, rfl, trivial⟩ ?_
    refine WJ.loop (X := Int × Int) (fun N (x : Int × Int) => i_minutesOf_l1 kj8 list1 some4 N x.1 x.2 = some r) (fun (x : Int × Int) => [(0, v2), (5, .int .i64 x.1), (8, v5), (9, .int .i64 (List.length some4 : Int)), (10, .int .i64 x.2)]) (fun (x : Int × Int) => []) ?_ N (0, 0) hm
    · rintro N ⟨sum10, x11⟩ hI
      have hm := hI; clear hI
      cases N with
      | zero => cases hm
      | succ N =>
      unfold i_minutesOf_l1 at hm
      refine WJ.seq ?_
      refine WJ.quiet ?_
      refine QJ.step (YldS.yld (y_bin rfl rfl rfl)) rfl ?_
      refine QJ.done ?_
      refine PJ.next ?_
      refine WJ.seq ?_
      refine WJ.cond (t := decide (x11 < (List.length some4 : Int))) rfl (fun hb12 => ?_) (fun hb12 => ?_)
      · replace hm := ifT hm hb12
        refine WJ.skip ?_
        refine PJ.next ?_
        refine WJ.seq ?_
        refine WJ.block ?_
        refine WJ.seq ?_
        refine WJ.quiet ?_
        obtain ⟨e13, h14, hm⟩ := bindS hm
        obtain ⟨ad15, _, rfl, ha16, hy17⟩ := hr6.elem h14
        refine QJ.step (YldS.yld (hy17 Try.runUnderlying24 Try.sizeOf2 rfl rfl)) rfl ?_
        refine QJ.step (YldS.yld (y_load1 (v := .int .i64 e13) Try.isAgg2 ha16 St.frozenC rfl)) rfl ?_
        refine QJ.step (YldS.yld (y_assign rfl)) rfl ?_
        refine QJ.done ?_
        refine PJ.next ?_
        refine WJ.quiet ?_
        refine QJ.step (YldS.yld (y_move rfl)) rfl ?_
        refine QJ.step (YldS.yld (y_move rfl)) rfl ?_
        refine QJ.step (YldS.yld (y_move rfl)) rfl ?_
        obtain ⟨e18, h19, hm⟩ := bindS hm
        obtain ⟨ad20, _, rfl, ha21, hy22⟩ := hr3.elem h19
        refine QJ.step (YldS.yld (hy22 Try.runUnderlying70 Try.sizeOf152 rfl rfl)) rfl ?_
        refine QJ.step (YldS.yld (y_fld (ad := ad20) fld152_2 rfl)) rfl ?_
        refine QJ.step (YldS.yld (y_load1 (v := .int .i64 e18.minutes) Try.isAgg2 (ha21.sub 2 1) St.frozenC rfl)) rfl ?_
        refine QJ.step (YldS.yld (y_bin rfl rfl rfl)) rfl ?_
        refine QJ.step (YldS.yld (y_assign rfl)) rfl ?_
        refine QJ.done ?_
        refine PJ.block_normal (PJ.next ?_)
        refine WJ.quiet ?_
        refine QJ.step (YldS.yld (y_bin rfl rfl rfl)) rfl ?_
        refine QJ.step (YldS.yld (y_move rfl)) rfl ?_
        refine QJ.done ?_
        exact PJ.round (w64 (sum10 + e18.minutes), w64 (x11 + 1)) [] hm ⟨rfl, rfl, rfl, rfl, rfl, trivial⟩ ⟨List.nodup_nil, rfl⟩
      · replace hm := ifF hm hb12
        refine WJ.exit ?_
        refine PJ.then_exit (PJ.then_exit (PJ.block_exit ?_))
        exact PJ.joined sum10 [] hm ⟨rfl, trivial⟩ ⟨List.nodup_nil, rfl⟩
  · rintro sum7 hm
    subst hk9
    refine WJ.seq ?_
    refine WJ.quiet ?_
    refine QJ.step (YldS.yld (y_move rfl)) rfl ?_
    refine QJ.step (YldS.yld (y_assign rfl)) rfl ?_
    refine QJ.done ?_
    refine PJ.next ?_
    refine WJ.ret ?_
    obtain rfl := Option.some.inj hm
    refine PJ.sel (L' := []) [] ⟨List.nodup_nil, rfl⟩ ?_
    exact PJ.retn (vs := [.int .i64 sum7]) Try.results100 ⟨rfl, trivial⟩ ⟨rfl, rfl⟩

set_option maxRecDepth 100000 in
set_option maxHeartbeats 1000000 in
theorem ok_i_trained {N : Nat} {list1 : List Drill} {some4 : List Int} {r : (List Bool)} (hm : i_trained N list1 some4 = some r) (w : World) (v2 : Value) (hr3 : RdS w (cx w).Fz v2 fDrill.rp list1) (v5 : Value) (hr6 : RdS w (cx w).Fz v5 fI64.rp some4) :
    Calls Try.prog 134 #[v2, v5] w (RetG (cx w) fun u L => ∃ (u1 : Nat), (u = pt u1 0 ∧ L = [row (av u1 256) 97 fBool r])) := by
  unfold i_trained at hm
  refine Calls.enter [v2, v5] Try.func134 rfl Try.ntmps134 rfl ?_
  refine WJ.seq ?_
  refine WJ.quiet ?_
  refine QJ.step (YldS.yld (y_assign rfl)) rfl ?_
  refine QJ.done ?_
  refine PJ.next ?_
  refine WJ.seq ?_
  refine WJ.reg ?_
  refine SJ.q (YldS.yld (y_build0 Try.runUnderlying97 zv97 Try.sizeOf4)) rfl ?_
  refine SJ.boxAr (R := fBool) (xs := (List.replicate 256 false)) 256 rfl (by simp) rfl rfl fun g7 => ?_
  refine SJ.q (YldS.yld (y_assign rfl)) rfl ?_
  refine SJ.nil ?_
  refine PJ.next ?_
  obtain ⟨kj9, hk10, hm⟩ := withK_open hm
  refine WJ.join (X := (List Bool)) (fun (x : (List Bool)) => kj9 x = some r) (fun (x : (List Bool)) => [(5, pt g7 0)]) (fun (x : (List Bool)) => [row (av g7 256) 97 fBool x]) ?_ ?_
  · clear hk10
    refine WJ.seq ?_
    refine WJ.quiet ?_
    refine QJ.step (YldS.yld (y_move rfl)) rfl ?_
    refine QJ.step (YldS.yld (y_lenS Try.runUnderlying24 hr6 rfl)) rfl ?_
    refine QJ.step (YldS.yld (y_move rfl)) rfl ?_
    refine QJ.done ?_
    refine PJ.next ?_
    refine WJ.block ?_
    refine WJ.sel (L' := (fun (x : (List Bool) × Int) => [row (av g7 256) 97 fBool x.1]) ((List.replicate 256 false), 0)) [0] ⟨by decide, rfl⟩ ?_
    refine WJ.sub (m' := (fun (x : (List Bool) × Int) => [(0, v2), (5, pt g7 0), (11, v5), (12, .int .i64 (List.length some4 : Int)), (13, .int .i64 x.2)]) ((List.replicate 256 false), 0)) ⟨rfl, rfl, rfl, rfl, rfl, trivial⟩ ?_
    refine WJ.loop (X := (List Bool) × Int) (fun N (x : (List Bool) × Int) => i_trained_l1 kj9 list1 some4 N x.1 x.2 = some r) (fun (x : (List Bool) × Int) => [(0, v2), (5, pt g7 0), (11, v5), (12, .int .i64 (List.length some4 : Int)), (13, .int .i64 x.2)]) (fun (x : (List Bool) × Int) => [row (av g7 256) 97 fBool x.1]) ?_ N ((List.replicate 256 false), 0) hm
    · rintro N ⟨l11, x12⟩ hI
      have hm := hI; clear hI
      cases N with
      | zero => cases hm
      | succ N =>
      unfold i_trained_l1 at hm
      refine WJ.seq ?_
      refine WJ.quiet ?_
      refine QJ.step (YldS.yld (y_bin rfl rfl rfl)) rfl ?_
      refine QJ.done ?_
      refine PJ.next ?_
      refine WJ.seq ?_
      refine WJ.cond (t := decide (x12 < (List.length some4 : Int))) rfl (fun hb13 => ?_) (fun hb13 => ?_)
      · replace hm := ifT hm hb13
        refine WJ.skip ?_
        refine PJ.next ?_
        obtain ⟨kj15, hk16, hm⟩ := withK_open hm
        refine WJ.join (X := (List Bool)) (fun (x : (List Bool)) => kj15 x = some r) (fun (x : (List Bool)) => [(0, v2), (5, pt g7 0), (11, v5), (12, .int .i64 (List.length some4 : Int)), (13, .int .i64 x12)]) (fun (x : (List Bool)) => [row (av g7 256) 97 fBool x]) ?_ ?_
        · clear hk16
          refine WJ.block ?_
          refine WJ.seq ?_
          refine WJ.quiet ?_
          obtain ⟨e17, h18, hm⟩ := bindS hm
          obtain ⟨ad19, _, rfl, ha20, hy21⟩ := hr6.elem h18
          refine QJ.step (YldS.yld (hy21 Try.runUnderlying24 Try.sizeOf2 rfl rfl)) rfl ?_
          refine QJ.step (YldS.yld (y_load1 (v := .int .i64 e17) Try.isAgg2 ha20 St.frozenC rfl)) rfl ?_
          refine QJ.step (YldS.yld (y_assign rfl)) rfl ?_
          refine QJ.done ?_
          refine PJ.next ?_
          refine WJ.seq ?_
          refine WJ.quiet ?_
          refine QJ.step (YldS.yld (y_move rfl)) rfl ?_
          refine QJ.step (YldS.yld (y_move rfl)) rfl ?_
          obtain ⟨e22, h23, hm⟩ := bindS hm
          obtain ⟨ad24, _, rfl, ha25, hy26⟩ := hr3.elem h23
          refine QJ.step (YldS.yld (hy26 Try.runUnderlying70 Try.sizeOf152 rfl rfl)) rfl ?_
          refine QJ.step (YldS.yld (y_fld (ad := ad24) fld152_1 rfl)) rfl ?_
          refine QJ.step (YldS.yld (y_load1 (v := str e22.letters) Try.isAgg9 (ha25.sub 1 1) St.frozenC rfl)) rfl ?_
          refine QJ.step (YldS.yld (y_lenStr Try.runUnderlying9 rfl)) rfl ?_
          refine QJ.step (YldS.yld (y_move rfl)) rfl ?_
          refine QJ.done ?_
          refine PJ.next ?_
          refine WJ.block ?_
          refine WJ.sel (L' := (fun (x : (List Bool) × Int) => [row (av g7 256) 97 fBool x.1]) (l11, 0)) [0] ⟨by decide, rfl⟩ ?_
          refine WJ.sub (m' := (fun (x : (List Bool) × Int) => [(0, v2), (5, pt g7 0), (7, .int .i64 e17), (11, v5), (12, .int .i64 (List.length some4 : Int)), (13, .int .i64 x12), (22, .int .i64 (List.length e22.letters : Int)), (23, .int .i64 x.2)]) (l11, 0)) ⟨rfl, rfl, rfl, rfl, rfl, rfl, rfl, rfl, trivial⟩ ?_
          refine WJ.loop (X := (List Bool) × Int) (fun N (x : (List Bool) × Int) => i_trained_l2 kj15 list1 e17 e22 N x.1 x.2 = some r) (fun (x : (List Bool) × Int) => [(0, v2), (5, pt g7 0), (7, .int .i64 e17), (11, v5), (12, .int .i64 (List.length some4 : Int)), (13, .int .i64 x12), (22, .int .i64 (List.length e22.letters : Int)), (23, .int .i64 x.2)]) (fun (x : (List Bool) × Int) => [row (av g7 256) 97 fBool x.1]) ?_ N (l11, 0) hm
          · rintro N ⟨l27, x28⟩ hI
            have hm := hI; clear hI
            cases N with
            | zero => cases hm
            | succ N =>
            unfold i_trained_l2 at hm
            refine WJ.seq ?_
            refine WJ.quiet ?_
            refine QJ.step (YldS.yld (y_bin rfl rfl rfl)) rfl ?_
            refine QJ.done ?_
            refine PJ.next ?_
            refine WJ.seq ?_
            refine WJ.cond (t := decide (x28 < (List.length e22.letters : Int))) rfl (fun hb29 => ?_) (fun hb29 => ?_)
            · replace hm := ifT hm hb29
              refine WJ.skip ?_
              refine PJ.next ?_
              refine WJ.seq ?_
              refine WJ.block ?_
              refine WJ.seq ?_
              refine WJ.quiet ?_
              refine QJ.step (YldS.yld (y_move rfl)) rfl ?_
              refine QJ.step (YldS.yld (y_assign rfl)) rfl ?_
              refine QJ.done ?_
              refine PJ.next ?_
              obtain ⟨e30, h31, hm⟩ := bindS hm
              obtain ⟨ad32, _, rfl, ha33, hy34⟩ := hr3.elem h31
              obtain ⟨c35, h36, hm⟩ := bindS hm
              obtain ⟨e37, h38, hm⟩ := bindS hm
              refine WJ.draws (N := 11) (listed0 := #[false, false, false, false, false, false, false, false, false, false, false]) [] follows rfl rfl ?_
              refine RJ.first 0 (listed' := #[true, false, false, false, false, false, false, false, false, false, false]) [] rfl (by kernel_rfl) rfl ⟨List.nodup_nil, rfl⟩ (y_move rfl) rfl ?_
              refine RJ.first 1 (listed' := #[true, true, false, false, false, false, false, false, false, false, false]) [] rfl (by kernel_rfl) rfl ⟨List.nodup_nil, rfl⟩ (y_move rfl) rfl ?_
              refine RJ.first 2 (listed' := #[true, true, true, false, false, false, false, false, false, false, false]) [] rfl (by kernel_rfl) rfl ⟨List.nodup_nil, rfl⟩ (y_move rfl) rfl ?_
              refine RJ.first 3 (listed' := #[true, true, true, true, false, false, false, false, false, false, false]) [] rfl (by kernel_rfl) rfl ⟨List.nodup_nil, rfl⟩ (hy34 Try.runUnderlying70 Try.sizeOf152 rfl rfl) rfl ?_
              refine RJ.first 4 (listed' := #[true, true, true, true, true, false, false, false, false, false, false]) [] rfl (by kernel_rfl) rfl ⟨List.nodup_nil, rfl⟩ (y_fld (ad := ad32) fld152_1 rfl) rfl ?_
              refine RJ.first 5 (listed' := #[true, true, true, true, true, true, false, false, false, false, false]) [] rfl (by kernel_rfl) rfl ⟨List.nodup_nil, rfl⟩ (y_load1 (v := str e30.letters) Try.isAgg9 (ha33.sub 1 1) St.frozenC rfl) rfl ?_
              refine RJ.first 6 (listed' := #[true, true, true, true, true, true, true, false, false, false, false]) [] rfl (by kernel_rfl) rfl ⟨List.nodup_nil, rfl⟩ (y_move rfl) rfl ?_
              refine RJ.first 7 (listed' := #[true, true, true, true, true, true, true, true, false, false, false]) [] rfl (by kernel_rfl) rfl ⟨List.nodup_nil, rfl⟩ (y_idxStr Try.runUnderlying9 rfl rfl h36) rfl ?_
              refine RJ.first 8 (listed' := #[true, true, true, true, true, true, true, true, true, false, false]) [] rfl (by kernel_rfl) rfl ⟨List.nodup_nil, rfl⟩ (y_nil rfl) rfl ?_
              refine RJ.step1 9 [] (by kernel_rfl) ⟨List.nodup_nil, rfl⟩ ?_
              refine RO.of (listed' := #[true, true, true, true, true, true, true, true, true, true, false]) rfl rfl ?_
              refine SJ.q (YldS.yld (y_ixArr (k := 0) (R := fBool) rfl Try.runUnderlying97 Try.sizeOf4 rfl rfl h38)) rfl ?_
              refine SJ.nil ?_
              refine PJ.draw ?_
              refine RJ.step1 10 [] (by kernel_rfl) ⟨List.nodup_nil, rfl⟩ ?_
              refine RO.of (listed' := #[true, true, true, true, true, true, true, true, true, true, true]) rfl rfl ?_
              refine SJ.storeRL (k := 0) (i := (Int.toNat (UInt8.toNat c35 : Int))) (off := 0) (us := [.bool true]) (b := true) rfl rfl (idx_get h38) rfl rfl Try.sizeOf4 rfl rfl rfl ?_
              refine SJ.nil ?_
              refine PJ.draw ?_
              refine RJ.fin [] (by kernel_rfl) ⟨List.nodup_nil, rfl⟩ ?_
              refine PJ.block_normal (PJ.next ?_)
              refine WJ.quiet ?_
              refine QJ.step (YldS.yld (y_bin rfl rfl rfl)) rfl ?_
              refine QJ.step (YldS.yld (y_move rfl)) rfl ?_
              refine QJ.done ?_
              exact PJ.round ((List.set l27 (Int.toNat (UInt8.toNat c35 : Int)) true), w64 (x28 + 1)) [0] hm ⟨rfl, rfl, rfl, rfl, rfl, rfl, rfl, rfl, trivial⟩ ⟨by decide, rfl⟩
            · replace hm := ifF hm hb29
              refine WJ.exit ?_
              refine PJ.then_exit (PJ.then_exit (PJ.block_exit (PJ.block_normal ?_)))
              exact PJ.joined l27 [0] hm ⟨rfl, rfl, rfl, rfl, rfl, trivial⟩ ⟨by decide, rfl⟩
        · rintro l14 hm
          subst hk16
          refine WJ.quiet ?_
          refine QJ.step (YldS.yld (y_bin rfl rfl rfl)) rfl ?_
          refine QJ.step (YldS.yld (y_move rfl)) rfl ?_
          refine QJ.done ?_
          exact PJ.round (l14, w64 (x12 + 1)) [0] hm ⟨rfl, rfl, rfl, rfl, rfl, trivial⟩ ⟨by decide, rfl⟩
      · replace hm := ifF hm hb13
        refine WJ.exit ?_
        refine PJ.then_exit (PJ.then_exit (PJ.block_exit ?_))
        exact PJ.joined l11 [0] hm ⟨rfl, trivial⟩ ⟨by decide, rfl⟩
  · rintro l8 hm
    subst hk10
    refine WJ.seq ?_
    refine WJ.quiet ?_
    refine QJ.step (YldS.yld (y_move rfl)) rfl ?_
    refine QJ.step (YldS.yld (y_assign rfl)) rfl ?_
    refine QJ.done ?_
    refine PJ.next ?_
    refine WJ.ret ?_
    obtain rfl := Option.some.inj hm
    refine PJ.sel (L' := [row (av g7 256) 97 fBool l8]) [0] ⟨by decide, rfl⟩ ?_
    exact PJ.retn (vs := [pt g7 0]) Try.results134 ⟨rfl, trivial⟩ ⟨_, rfl, rfl⟩

set_option maxRecDepth 100000 in
set_option maxHeartbeats 1000000 in
theorem ok_i_covered {N : Nat} {list1 : List Drill} {some4 : List Int} {letters7 : Str} {counts8 : List Int} {r : Int} (hm : i_covered N list1 some4 letters7 counts8 = some r) (w : World) (v2 : Value) (hr3 : RdS w (cx w).Fz v2 fDrill.rp list1) (v5 : Value) (hr6 : RdS w (cx w).Fz v5 fI64.rp some4) (v9 : Value) (hr10 : RdS w (cx w).Fz v9 fI64.rp counts8) :
    Calls Try.prog 101 #[v2, v5, str letters7, v9] w (Ret (cx w) (.int .i64 r)) := by
  unfold i_covered at hm
  refine Calls.enter [v2, v5, str letters7, v9] Try.func101 rfl Try.ntmps101 rfl ?_
  refine WJ.seq ?_
  refine WJ.quiet ?_
  refine QJ.step (YldS.yld (y_assign rfl)) rfl ?_
  refine QJ.done ?_
  refine PJ.next ?_
  refine WJ.seq ?_
  refine WJ.quiet ?_
  refine QJ.step (YldS.yld (y_assign rfl)) rfl ?_
  refine QJ.done ?_
  refine PJ.next ?_
  refine WJ.seq ?_
  refine WJ.reg ?_
  refine SJ.q (YldS.yld (y_move rfl)) rfl ?_
  refine SJ.q (YldS.yld (y_move rfl)) rfl ?_
  obtain ⟨r11, h12, hm⟩ := bindS hm
  refine SJ.call Try.call134 rfl (fun w hw => ok_i_trained h12 w _ (hr3.st hw) _ (hr6.st hw)) rfl ?_
  rintro _ _ ⟨g13, rfl, rfl⟩
  refine SJ.q (YldS.yld (y_assign rfl)) rfl ?_
  refine SJ.nil ?_
  refine PJ.next ?_
  obtain ⟨kj15, hk16, hm⟩ := withK_open hm
  refine WJ.join (X := Int) (fun (x : Int) => kj15 x = some r) (fun (x : Int) => [(9, .int .i64 x)]) (fun (x : Int) => []) ?_ ?_
  · clear hk16
    refine WJ.seq ?_
    refine WJ.quiet ?_
    refine QJ.step (YldS.yld (y_move rfl)) rfl ?_
    refine QJ.step (YldS.yld (y_lenStr Try.runUnderlying9 rfl)) rfl ?_
    refine QJ.step (YldS.yld (y_move rfl)) rfl ?_
    refine QJ.done ?_
    refine PJ.next ?_
    refine WJ.block ?_
    refine WJ.sel (L' := (fun (x : Int × Int) => [row (av g13 256) 97 fBool r11]) (0, 0)) [0] ⟨by decide, rfl⟩ ?_
    refine WJ.sub (m' := (fun (x : Int × Int) => [(2, str letters7), (3, v9), (9, .int .i64 x.1), (10, pt g13 0), (16, .int .i64 (List.length letters7 : Int)), (17, .int .i64 x.2)]) (0, 0)) ⟨rfl, rfl, rfl, rfl, rfl, rfl, trivial⟩ ?_
    refine WJ.loop (X := Int × Int) (fun N (x : Int × Int) => i_covered_l1 kj15 letters7 counts8 r11 N x.1 x.2 = some r) (fun (x : Int × Int) => [(2, str letters7), (3, v9), (9, .int .i64 x.1), (10, pt g13 0), (16, .int .i64 (List.length letters7 : Int)), (17, .int .i64 x.2)]) (fun (x : Int × Int) => [row (av g13 256) 97 fBool r11]) ?_ N (0, 0) hm
    · rintro N ⟨sum17, x18⟩ hI
      have hm := hI; clear hI
      cases N with
      | zero => cases hm
      | succ N =>
      unfold i_covered_l1 at hm
      refine WJ.seq ?_
      refine WJ.quiet ?_
      refine QJ.step (YldS.yld (y_bin rfl rfl rfl)) rfl ?_
      refine QJ.done ?_
      refine PJ.next ?_
      refine WJ.seq ?_
      refine WJ.cond (t := decide (x18 < (List.length letters7 : Int))) rfl (fun hb19 => ?_) (fun hb19 => ?_)
      · replace hm := ifT hm hb19
        refine WJ.skip ?_
        refine PJ.next ?_
        obtain ⟨kj21, hk22, hm⟩ := withK_open hm
        refine WJ.join (X := Int) (fun (x : Int) => kj21 x = some r) (fun (x : Int) => [(2, str letters7), (3, v9), (9, .int .i64 x), (10, pt g13 0), (16, .int .i64 (List.length letters7 : Int)), (17, .int .i64 x18)]) (fun (x : Int) => [row (av g13 256) 97 fBool r11]) ?_ ?_
        · clear hk22
          refine WJ.block ?_
          refine WJ.seq ?_
          refine WJ.quiet ?_
          refine QJ.step (YldS.yld (y_move rfl)) rfl ?_
          refine QJ.step (YldS.yld (y_assign rfl)) rfl ?_
          refine QJ.done ?_
          refine PJ.next ?_
          refine WJ.seq ?_
          refine WJ.quiet_draw follows (by kernel_rfl) ?_
          refine QJ.step (YldS.yld (y_move rfl)) rfl ?_
          refine QJ.step (YldS.yld (y_move rfl)) rfl ?_
          refine QJ.step (YldS.yld (y_move rfl)) rfl ?_
          obtain ⟨c23, h24, hm⟩ := bindS hm
          refine QJ.step (YldS.yld (y_idxStr Try.runUnderlying9 rfl rfl h24)) rfl ?_
          refine QJ.step (YldS.yld (y_nil rfl)) rfl ?_
          obtain ⟨e25, h26, hm⟩ := bindS hm
          refine QJ.step (YldS.yld (y_ixArr (k := 0) (R := fBool) rfl Try.runUnderlying97 Try.sizeOf4 rfl rfl h26)) rfl ?_
          refine QJ.step (YldS.yld (y_loadR (k := 0) (i := (Int.toNat (UInt8.toNat c23 : Int))) (off := 0) (u := .bool e25) rfl Try.isAgg4 rfl (idx_get h26) rfl)) rfl ?_
          refine QJ.done ?_
          refine PJ.next ?_
          refine WJ.cond (t := e25) rfl (fun hb27 => ?_) (fun hb27 => ?_)
          · replace hm := ifT hm hb27
            refine WJ.quiet ?_
            refine QJ.step (YldS.yld (y_move rfl)) rfl ?_
            refine QJ.step (YldS.yld (y_move rfl)) rfl ?_
            refine QJ.step (YldS.yld (y_move rfl)) rfl ?_
            obtain ⟨e28, h29, hm⟩ := bindS hm
            obtain ⟨ad30, _, rfl, ha31, hy32⟩ := hr10.elem h29
            refine QJ.step (YldS.yld (hy32 Try.runUnderlying24 Try.sizeOf2 rfl rfl)) rfl ?_
            refine QJ.step (YldS.yld (y_load1 (v := .int .i64 e28) Try.isAgg2 ha31 St.frozenC rfl)) rfl ?_
            refine QJ.step (YldS.yld (y_bin rfl rfl rfl)) rfl ?_
            refine QJ.step (YldS.yld (y_assign rfl)) rfl ?_
            refine QJ.done ?_
            refine PJ.block_normal ?_
            exact PJ.joined (w64 (sum17 + e28)) [0] hm ⟨rfl, rfl, rfl, rfl, rfl, rfl, trivial⟩ ⟨by decide, rfl⟩
          · replace hm := ifF hm hb27
            refine WJ.skip ?_
            refine PJ.block_normal ?_
            exact PJ.joined sum17 [0] hm ⟨rfl, rfl, rfl, rfl, rfl, rfl, trivial⟩ ⟨by decide, rfl⟩
        · rintro sum20 hm
          subst hk22
          refine WJ.quiet ?_
          refine QJ.step (YldS.yld (y_bin rfl rfl rfl)) rfl ?_
          refine QJ.step (YldS.yld (y_move rfl)) rfl ?_
          refine QJ.done ?_
          exact PJ.round (sum20, w64 (x18 + 1)) [0] hm ⟨rfl, rfl, rfl, rfl, rfl, rfl, trivial⟩ ⟨by decide, rfl⟩
      · replace hm := ifF hm hb19
        refine WJ.exit ?_
        refine PJ.then_exit (PJ.then_exit (PJ.block_exit ?_))
        exact PJ.joined sum17 [] hm ⟨rfl, trivial⟩ ⟨List.nodup_nil, rfl⟩
  · rintro sum14 hm
    subst hk16
    refine WJ.seq ?_
    refine WJ.quiet ?_
    refine QJ.step (YldS.yld (y_move rfl)) rfl ?_
    refine QJ.step (YldS.yld (y_assign rfl)) rfl ?_
    refine QJ.done ?_
    refine PJ.next ?_
    refine WJ.ret ?_
    obtain rfl := Option.some.inj hm
    refine PJ.sel (L' := []) [] ⟨List.nodup_nil, rfl⟩ ?_
    exact PJ.retn (vs := [.int .i64 sum14]) Try.results101 ⟨rfl, trivial⟩ ⟨rfl, rfl⟩

set_option maxRecDepth 100000 in
set_option maxHeartbeats 1000000 in
theorem ok_i_compareNumbers {N : Nat} {a1 : List Int} {b4 : List Int} {r : Int} (hm : i_compareNumbers N a1 b4 = some r) (w : World) (v2 : Value) (hr3 : RdS w (cx w).Fz v2 fI64.rp a1) (v5 : Value) (hr6 : RdS w (cx w).Fz v5 fI64.rp b4) :
    Calls Try.prog 102 #[v2, v5] w (Ret (cx w) (.int .i64 r)) := by
  unfold i_compareNumbers at hm
  refine Calls.enter [v2, v5] Try.func102 rfl Try.ntmps102 rfl ?_
  refine WJ.seq ?_
  refine WJ.quiet ?_
  refine QJ.step (YldS.yld (y_assign rfl)) rfl ?_
  refine QJ.done ?_
  refine PJ.next ?_
  obtain ⟨kj7, hk8, hm⟩ := withK_open hm
  refine WJ.join (X := Unit) (fun (_ : Unit) => kj7  = some r) (fun (_ : Unit) => [(0, v2), (1, v5)]) (fun (_ : Unit) => []) ?_ ?_
  · clear hk8
    refine WJ.seq ?_
    refine WJ.quiet ?_
    refine QJ.step (YldS.yld (y_assign rfl)) rfl ?_
    refine QJ.done ?_
    refine PJ.next ?_
    refine WJ.block ?_
    refine WJ.sel (L' := (fun (x : Int) => []) 0) [] ⟨List.nodup_nil, rfl⟩ ?_
    refine WJ.sub (m' := (fun (x : Int) => [(0, v2), (1, v5), (5, .int .i64 x)]) 0) ⟨rfl, rfl, rfl, trivial⟩ ?_
    refine WJ.loop (X := Int) (fun N (x : Int) => i_compareNumbers_l1 kj7 a1 b4 N x = some r) (fun (x : Int) => [(0, v2), (1, v5), (5, .int .i64 x)]) (fun (x : Int) => []) ?_ N 0 hm
    · rintro N i9 hI
      have hm := hI; clear hI
      cases N with
      | zero => cases hm
      | succ N =>
      unfold i_compareNumbers_l1 at hm
      refine WJ.seq ?_
      refine WJ.seq ?_
      refine WJ.quiet ?_
      refine QJ.step (YldS.yld (y_move rfl)) rfl ?_
      refine QJ.step (YldS.yld (y_move rfl)) rfl ?_
      refine QJ.step (YldS.yld (y_lenS Try.runUnderlying24 hr3 rfl)) rfl ?_
      refine QJ.step (YldS.yld (y_bin rfl rfl rfl)) rfl ?_
      refine QJ.step (YldS.yld (y_move rfl)) rfl ?_
      obtain ⟨t10, h11, hm⟩ := bindS hm
      refine QJ.cut 5 [(0, v2), (1, v5), (5, .int .i64 i9), (15, .bool t10)] ?_ ?_
      · rcases Bool.eq_false_or_eq_true (decide (i9 < (List.length a1 : Int))) with hb12 | hb12
        · replace h11 := andT h11 hb12
          refine QJ.on rfl rfl (cB hb12) (YldS.yld (y_move rfl)) rfl ?_
          refine QJ.on rfl rfl (cB hb12) (YldS.yld (y_move rfl)) rfl ?_
          refine QJ.on rfl rfl (cB hb12) (YldS.yld (y_lenS Try.runUnderlying24 hr6 rfl)) rfl ?_
          refine QJ.on rfl rfl (cB hb12) (YldS.yld (y_bin rfl rfl rfl)) rfl ?_
          refine QJ.step (YldS.yld (y_pick_t (cB hb12) rfl)) rfl ?_
          obtain rfl := Option.some.inj h11
          exact QJ.cut_end ⟨rfl, rfl, rfl, rfl, trivial⟩
        · obtain rfl := andF h11 hb12
          refine QJ.off rfl rfl (cB hb12) rfl rfl ?_
          refine QJ.off rfl rfl (cB hb12) rfl rfl ?_
          refine QJ.off rfl rfl (cB hb12) rfl rfl ?_
          refine QJ.off rfl rfl (cB hb12) rfl rfl ?_
          refine QJ.step (YldS.yld (y_pick_f (cB hb12) rfl)) rfl ?_
          exact QJ.cut_end ⟨rfl, rfl, rfl, rfl, trivial⟩
      refine QJ.done ?_
      refine PJ.next ?_
      refine WJ.cond (t := t10) rfl (fun hb13 => ?_) (fun hb13 => ?_)
      · replace hm := ifT hm hb13
        refine WJ.skip ?_
        refine PJ.next ?_
        refine WJ.seq ?_
        refine WJ.block ?_
        refine WJ.block ?_
        refine WJ.seq ?_
        refine WJ.quiet_draw follows (by kernel_rfl) ?_
        refine QJ.step (YldS.yld (y_move rfl)) rfl ?_
        refine QJ.step (YldS.yld (y_move rfl)) rfl ?_
        obtain ⟨e14, h15, hm⟩ := bindS hm
        obtain ⟨ad16, _, rfl, ha17, hy18⟩ := hr3.elem h15
        refine QJ.step (YldS.yld (hy18 Try.runUnderlying24 Try.sizeOf2 rfl rfl)) rfl ?_
        refine QJ.step (YldS.yld (y_load1 (v := .int .i64 e14) Try.isAgg2 ha17 St.frozenC rfl)) rfl ?_
        refine QJ.step (YldS.yld (y_move rfl)) rfl ?_
        refine QJ.step (YldS.yld (y_move rfl)) rfl ?_
        obtain ⟨e19, h20, hm⟩ := bindS hm
        obtain ⟨ad21, _, rfl, ha22, hy23⟩ := hr6.elem h20
        refine QJ.step (YldS.yld (hy23 Try.runUnderlying24 Try.sizeOf2 rfl rfl)) rfl ?_
        refine QJ.step (YldS.yld (y_load1 (v := .int .i64 e19) Try.isAgg2 ha22 St.frozenC rfl)) rfl ?_
        refine QJ.step (YldS.yld (y_bin rfl rfl rfl)) rfl ?_
        refine QJ.step (YldS.yld (y_assign rfl)) rfl ?_
        refine QJ.done ?_
        refine PJ.next ?_
        refine WJ.cond (t := decide (e14 < e19)) rfl (fun hb24 => ?_) (fun hb24 => ?_)
        · replace hm := ifT hm hb24
          refine WJ.seq ?_
          refine WJ.quiet ?_
          refine QJ.step (YldS.yld (y_assign rfl)) rfl ?_
          refine QJ.done ?_
          refine PJ.next ?_
          refine WJ.ret ?_
          refine PJ.block_ret (PJ.block_ret (PJ.then_ret (PJ.then_ret (PJ.block_ret (PJ.then_ret ?_)))))
          obtain rfl := Option.some.inj hm
          refine PJ.sel (L' := []) [] ⟨List.nodup_nil, rfl⟩ ?_
          exact PJ.retn (vs := [.int .i64 (-1)]) Try.results102 ⟨rfl, trivial⟩ ⟨rfl, rfl⟩
        · replace hm := ifF hm hb24
          refine WJ.seq ?_
          refine WJ.quiet_draw follows (by kernel_rfl) ?_
          refine QJ.step (YldS.yld (y_move rfl)) rfl ?_
          refine QJ.step (YldS.yld (y_move rfl)) rfl ?_
          obtain ⟨e25, h26, hm⟩ := bindS hm
          obtain ⟨ad27, _, rfl, ha28, hy29⟩ := hr3.elem h26
          refine QJ.step (YldS.yld (hy29 Try.runUnderlying24 Try.sizeOf2 rfl rfl)) rfl ?_
          refine QJ.step (YldS.yld (y_load1 (v := .int .i64 e25) Try.isAgg2 ha28 St.frozenC rfl)) rfl ?_
          refine QJ.step (YldS.yld (y_move rfl)) rfl ?_
          refine QJ.step (YldS.yld (y_move rfl)) rfl ?_
          obtain ⟨e30, h31, hm⟩ := bindS hm
          obtain ⟨ad32, _, rfl, ha33, hy34⟩ := hr6.elem h31
          refine QJ.step (YldS.yld (hy34 Try.runUnderlying24 Try.sizeOf2 rfl rfl)) rfl ?_
          refine QJ.step (YldS.yld (y_load1 (v := .int .i64 e30) Try.isAgg2 ha33 St.frozenC rfl)) rfl ?_
          refine QJ.step (YldS.yld (y_bin rfl rfl rfl)) rfl ?_
          refine QJ.step (YldS.yld (y_assign rfl)) rfl ?_
          refine QJ.done ?_
          refine PJ.next ?_
          refine WJ.cond (t := decide (e25 > e30)) rfl (fun hb35 => ?_) (fun hb35 => ?_)
          · replace hm := ifT hm hb35
            refine WJ.seq ?_
            refine WJ.quiet ?_
            refine QJ.step (YldS.yld (y_assign rfl)) rfl ?_
            refine QJ.done ?_
            refine PJ.next ?_
            refine WJ.ret ?_
            refine PJ.block_ret (PJ.block_ret (PJ.then_ret (PJ.then_ret (PJ.block_ret (PJ.then_ret ?_)))))
            obtain rfl := Option.some.inj hm
            refine PJ.sel (L' := []) [] ⟨List.nodup_nil, rfl⟩ ?_
            exact PJ.retn (vs := [.int .i64 1]) Try.results102 ⟨rfl, trivial⟩ ⟨rfl, rfl⟩
          · replace hm := ifF hm hb35
            refine WJ.skip ?_
            refine PJ.block_normal (PJ.block_normal (PJ.next ?_))
            refine WJ.quiet ?_
            refine QJ.step (YldS.yld (y_move rfl)) rfl ?_
            refine QJ.step (YldS.yld (y_bin rfl rfl rfl)) rfl ?_
            refine QJ.step (YldS.yld (y_assign rfl)) rfl ?_
            refine QJ.done ?_
            exact PJ.round (w64 (i9 + 1)) [] hm ⟨rfl, rfl, rfl, trivial⟩ ⟨List.nodup_nil, rfl⟩
      · replace hm := ifF hm hb13
        refine WJ.exit ?_
        refine PJ.then_exit (PJ.then_exit (PJ.block_exit ?_))
        exact PJ.joined () [] hm ⟨rfl, rfl, trivial⟩ ⟨List.nodup_nil, rfl⟩
  · rintro _ hm
    subst hk8
    refine WJ.seq ?_
    refine WJ.block ?_
    refine WJ.seq ?_
    refine WJ.quiet ?_
    refine QJ.step (YldS.yld (y_move rfl)) rfl ?_
    refine QJ.step (YldS.yld (y_lenS Try.runUnderlying24 hr3 rfl)) rfl ?_
    refine QJ.step (YldS.yld (y_move rfl)) rfl ?_
    refine QJ.step (YldS.yld (y_lenS Try.runUnderlying24 hr6 rfl)) rfl ?_
    refine QJ.step (YldS.yld (y_bin rfl rfl rfl)) rfl ?_
    refine QJ.step (YldS.yld (y_assign rfl)) rfl ?_
    refine QJ.done ?_
    refine PJ.next ?_
    refine WJ.cond (t := decide ((List.length a1 : Int) < (List.length b4 : Int))) rfl (fun hb36 => ?_) (fun hb36 => ?_)
    · replace hm := ifT hm hb36
      refine WJ.seq ?_
      refine WJ.quiet ?_
      refine QJ.step (YldS.yld (y_assign rfl)) rfl ?_
      refine QJ.done ?_
      refine PJ.next ?_
      refine WJ.ret ?_
      refine PJ.block_ret (PJ.then_ret ?_)
      obtain rfl := Option.some.inj hm
      refine PJ.sel (L' := []) [] ⟨List.nodup_nil, rfl⟩ ?_
      exact PJ.retn (vs := [.int .i64 (-1)]) Try.results102 ⟨rfl, trivial⟩ ⟨rfl, rfl⟩
    · replace hm := ifF hm hb36
      refine WJ.seq ?_
      refine WJ.quiet ?_
      refine QJ.step (YldS.yld (y_move rfl)) rfl ?_
      refine QJ.step (YldS.yld (y_lenS Try.runUnderlying24 hr3 rfl)) rfl ?_
      refine QJ.step (YldS.yld (y_move rfl)) rfl ?_
      refine QJ.step (YldS.yld (y_lenS Try.runUnderlying24 hr6 rfl)) rfl ?_
      refine QJ.step (YldS.yld (y_bin rfl rfl rfl)) rfl ?_
      refine QJ.step (YldS.yld (y_assign rfl)) rfl ?_
      refine QJ.done ?_
      refine PJ.next ?_
      refine WJ.cond (t := decide ((List.length a1 : Int) > (List.length b4 : Int))) rfl (fun hb37 => ?_) (fun hb37 => ?_)
      · replace hm := ifT hm hb37
        refine WJ.seq ?_
        refine WJ.quiet ?_
        refine QJ.step (YldS.yld (y_assign rfl)) rfl ?_
        refine QJ.done ?_
        refine PJ.next ?_
        refine WJ.ret ?_
        refine PJ.block_ret (PJ.then_ret ?_)
        obtain rfl := Option.some.inj hm
        refine PJ.sel (L' := []) [] ⟨List.nodup_nil, rfl⟩ ?_
        exact PJ.retn (vs := [.int .i64 1]) Try.results102 ⟨rfl, trivial⟩ ⟨rfl, rfl⟩
      · replace hm := ifF hm hb37
        refine WJ.skip ?_
        refine PJ.block_normal (PJ.next ?_)
        refine WJ.seq ?_
        refine WJ.quiet ?_
        refine QJ.step (YldS.yld (y_assign rfl)) rfl ?_
        refine QJ.done ?_
        refine PJ.next ?_
        refine WJ.ret ?_
        obtain rfl := Option.some.inj hm
        refine PJ.sel (L' := []) [] ⟨List.nodup_nil, rfl⟩ ?_
        exact PJ.retn (vs := [.int .i64 0]) Try.results102 ⟨rfl, trivial⟩ ⟨rfl, rfl⟩

set_option maxRecDepth 100000 in
set_option maxHeartbeats 1000000 in
theorem ok_i_BestDrills {N : Nat} {list1 : List Drill} {x4 : Str} {x5 : List Int} {x8 : Int} {r : (List Int) × Int × Int} (hm : i_BestDrills N list1 x4 x5 x8 = some r) (w : World) (v2 : Value) (hr3 : RdS w (cx w).Fz v2 fDrill.rp list1) (v6 : Value) (hr7 : RdS w (cx w).Fz v6 fI64.rp x5) :
    Calls Try.prog 52 #[v2, str x4, v6, .int .i64 x8] w (RetG (cx w) fun u L => ∃ (u1 : Value), (u = tup [u1, .int .i64 r.2.1, .int .i64 r.2.2] ∧ L = [row u1 2 fI64 r.1])) := by
  unfold i_BestDrills at hm
  refine Calls.enter [v2, str x4, v6, .int .i64 x8] Try.func52 rfl Try.ntmps52 rfl ?_
  refine WJ.seq ?_
  refine WJ.quiet ?_
  refine QJ.step (YldS.yld (y_assign rfl)) rfl ?_
  refine QJ.step (YldS.yld (y_assign rfl)) rfl ?_
  refine QJ.step (YldS.yld (y_assign rfl)) rfl ?_
  refine QJ.done ?_
  refine PJ.next ?_
  refine WJ.seq ?_
  refine WJ.seq ?_
  refine WJ.quiet ?_
  refine QJ.step (YldS.yld (y_move rfl)) rfl ?_
  obtain ⟨r9, h10, hm⟩ := bindS hm
  refine QJ.step (y_call Try.call97 rfl (RetG.quiet fun w hw => ok_i_ValidDrills h10 w _ (hr3.st hw))) rfl ?_
  refine QJ.step (YldS.yld (y_not rfl)) rfl ?_
  refine QJ.step (YldS.yld (y_move rfl)) rfl ?_
  obtain ⟨t11, h12, hm⟩ := bindS hm
  refine QJ.cut 5 [(0, v2), (1, str x4), (2, v6), (3, .int .i64 x8), (27, .bool t11)] ?_ ?_
  · rcases Bool.eq_false_or_eq_true (!r9) with hb13 | hb13
    · obtain rfl := orT h12 hb13
      refine QJ.off rfl rfl (cB hb13) rfl rfl ?_
      refine QJ.off rfl rfl (cB hb13) rfl rfl ?_
      refine QJ.off rfl rfl (cB hb13) rfl rfl ?_
      refine QJ.off rfl rfl (cB hb13) rfl rfl ?_
      refine QJ.step (YldS.yld (y_pick_t (cB hb13) rfl)) rfl ?_
      exact QJ.cut_end ⟨rfl, rfl, rfl, rfl, rfl, trivial⟩
    · replace h12 := orF h12 hb13
      refine QJ.on rfl rfl (cB hb13) (YldS.yld (y_move rfl)) rfl ?_
      refine QJ.on rfl rfl (cB hb13) (YldS.yld (y_move rfl)) rfl ?_
      obtain ⟨r14, h15, h12⟩ := bindS h12
      refine QJ.on rfl rfl (cB hb13) (y_call Try.call98 rfl (RetG.quiet fun w hw => ok_i_ValidNeeds h15 w _ (hr7.st hw))) rfl ?_
      refine QJ.on rfl rfl (cB hb13) (YldS.yld (y_not rfl)) rfl ?_
      refine QJ.step (YldS.yld (y_pick_f (cB hb13) rfl)) rfl ?_
      obtain rfl := Option.some.inj h12
      exact QJ.cut_end ⟨rfl, rfl, rfl, rfl, rfl, trivial⟩
  refine QJ.done ?_
  refine PJ.next ?_
  refine WJ.cond (t := t11) rfl (fun hb16 => ?_) (fun hb16 => ?_)
  · replace hm := ifT hm hb16
    refine WJ.seq ?_
    refine WJ.quiet ?_
    refine QJ.step (YldS.yld (y_assign rfl)) rfl ?_
    refine QJ.step (YldS.yld (y_assign rfl)) rfl ?_
    refine QJ.step (YldS.yld (y_assign rfl)) rfl ?_
    refine QJ.done ?_
    refine PJ.next ?_
    refine WJ.ret ?_
    refine PJ.then_ret ?_
    refine PJ.nil_row 2 fI64 ?_
    obtain rfl := Option.some.inj hm
    refine PJ.sel (L' := [row (.slice none 0 0) 2 fI64 []]) [0] ⟨by decide, rfl⟩ ?_
    exact PJ.retn (vs := [(.slice none 0 0), .int .i64 0, .int .i64 1]) Try.results52 ⟨rfl, rfl, rfl, trivial⟩ ⟨_, rfl, rfl⟩
  · replace hm := ifF hm hb16
    refine WJ.skip ?_
    refine PJ.next ?_
    refine WJ.seq ?_
    refine WJ.seq ?_
    refine WJ.quiet ?_
    refine QJ.step (YldS.yld (y_move rfl)) rfl ?_
    obtain ⟨r17, h18, hm⟩ := bindS hm
    refine QJ.step (y_call Try.call69 rfl (RetG.quiet fun w hw => ok_i_between h18 w )) rfl ?_
    refine QJ.step (YldS.yld (y_not rfl)) rfl ?_
    refine QJ.done ?_
    refine PJ.next ?_
    refine WJ.cond (t := !r17) rfl (fun hb19 => ?_) (fun hb19 => ?_)
    · replace hm := ifT hm hb19
      refine WJ.seq ?_
      refine WJ.quiet ?_
      refine QJ.step (YldS.yld (y_assign rfl)) rfl ?_
      refine QJ.step (YldS.yld (y_assign rfl)) rfl ?_
      refine QJ.step (YldS.yld (y_assign rfl)) rfl ?_
      refine QJ.done ?_
      refine PJ.next ?_
      refine WJ.ret ?_
      refine PJ.then_ret ?_
      refine PJ.nil_row 2 fI64 ?_
      obtain rfl := Option.some.inj hm
      refine PJ.sel (L' := [row (.slice none 0 0) 2 fI64 []]) [0] ⟨by decide, rfl⟩ ?_
      exact PJ.retn (vs := [(.slice none 0 0), .int .i64 0, .int .i64 2]) Try.results52 ⟨rfl, rfl, rfl, trivial⟩ ⟨_, rfl, rfl⟩
    · replace hm := ifF hm hb19
      refine WJ.skip ?_
      refine PJ.next ?_
      refine WJ.seq ?_
      refine WJ.reg ?_
      refine SJ.buildSlice (R := fI64) (os := []) [] Try.runUnderlying24 Try.sizeOf2 Try.zeroValue2 rfl rfl rfl rfl rfl rfl fun v20 => ?_
      refine SJ.q (YldS.yld (y_assign rfl)) rfl ?_
      refine SJ.q (YldS.yld (y_assign rfl)) rfl ?_
      refine SJ.q (YldS.yld (y_assign rfl)) rfl ?_
      refine SJ.nil ?_
      refine PJ.next ?_
      obtain ⟨kj24, hk25, hm⟩ := withK_open hm
      refine WJ.join (X := (List Int) × Value × Int) (fun (x : (List Int) × Value × Int) => kj24 x.1 x.2.2 = some r) (fun (x : (List Int) × Value × Int) => [(11, x.2.1), (12, .int .i64 x.2.2)]) (fun (x : (List Int) × Value × Int) => [row x.2.1 2 fI64 x.1]) ?_ ?_
      · clear hk25
        refine WJ.seq ?_
        refine WJ.quiet ?_
        refine QJ.step (YldS.yld (y_move rfl)) rfl ?_
        refine QJ.step (YldS.yld (y_lenS Try.runUnderlying70 hr3 rfl)) rfl ?_
        obtain ⟨q26, h27, hm⟩ := bindS hm
        refine QJ.step (YldS.yld (y_shl' h27 rfl rfl)) rfl ?_
        refine QJ.step (YldS.yld (y_move rfl)) rfl ?_
        refine QJ.done ?_
        refine PJ.next ?_
        refine WJ.block ?_
        refine WJ.sel (L' := (fun (x : (List Int) × Value × Int × Int × Int) => [row x.2.1 2 fI64 x.1]) ([], v20, (-1), 0, 0)) [0] ⟨by decide, rfl⟩ ?_
        refine WJ.sub (m' := (fun (x : (List Int) × Value × Int × Int × Int) => [(0, v2), (1, str x4), (2, v6), (3, .int .i64 x8), (11, x.2.1), (12, .int .i64 x.2.2.1), (13, .int .i64 x.2.2.2.1), (34, .int .i64 q26), (35, .int .i64 x.2.2.2.2)]) ([], v20, (-1), 0, 0)) ⟨rfl, rfl, rfl, rfl, rfl, rfl, rfl, rfl, rfl, trivial⟩ ?_
        refine WJ.loop (X := (List Int) × Value × Int × Int × Int) (fun N (x : (List Int) × Value × Int × Int × Int) => i_BestDrills_l1 kj24 list1 x4 x5 x8 q26 N x.1 x.2.2.1 x.2.2.2.1 x.2.2.2.2 = some r) (fun (x : (List Int) × Value × Int × Int × Int) => [(0, v2), (1, str x4), (2, v6), (3, .int .i64 x8), (11, x.2.1), (12, .int .i64 x.2.2.1), (13, .int .i64 x.2.2.2.1), (34, .int .i64 q26), (35, .int .i64 x.2.2.2.2)]) (fun (x : (List Int) × Value × Int × Int × Int) => [row x.2.1 2 fI64 x.1]) ?_ N ([], v20, (-1), 0, 0) hm
        · rintro N ⟨l28, v29, x30, x31, x32⟩ hI
          have hm := hI; clear hI
          cases N with
          | zero => cases hm
          | succ N =>
          unfold i_BestDrills_l1 at hm
          refine WJ.seq ?_
          refine WJ.quiet ?_
          refine QJ.step (YldS.yld (y_bin rfl rfl rfl)) rfl ?_
          refine QJ.done ?_
          refine PJ.next ?_
          refine WJ.seq ?_
          refine WJ.cond (t := decide (x32 < q26)) rfl (fun hb33 => ?_) (fun hb33 => ?_)
          · replace hm := ifT hm hb33
            refine WJ.skip ?_
            refine PJ.next ?_
            obtain ⟨kj38, hk39, hm⟩ := withK_open hm
            refine WJ.join (X := (List Int) × Value × Int × Int) (fun (x : (List Int) × Value × Int × Int) => kj38 x.1 x.2.2.1 x.2.2.2 = some r) (fun (x : (List Int) × Value × Int × Int) => [(0, v2), (1, str x4), (2, v6), (3, .int .i64 x8), (11, x.2.1), (12, .int .i64 x.2.2.1), (13, .int .i64 x.2.2.2), (34, .int .i64 q26), (35, .int .i64 x32)]) (fun (x : (List Int) × Value × Int × Int) => [row x.2.1 2 fI64 x.1]) ?_ ?_
            · clear hk39
              refine WJ.block ?_
              refine WJ.seq ?_
              refine WJ.quiet ?_
              refine QJ.step (YldS.yld (y_move rfl)) rfl ?_
              refine QJ.step (YldS.yld (y_assign rfl)) rfl ?_
              refine QJ.done ?_
              refine PJ.next ?_
              refine WJ.seq ?_
              refine WJ.reg ?_
              refine SJ.q (YldS.yld (y_move rfl)) rfl ?_
              refine SJ.q (YldS.yld (y_move rfl)) rfl ?_
              refine SJ.q (YldS.yld (y_lenS Try.runUnderlying70 hr3 rfl)) rfl ?_
              obtain ⟨r40, h41, hm⟩ := bindS hm
              refine SJ.call Try.call99 rfl (fun w hw => ok_i_chosen h41 w ) rfl ?_
              rintro v42 _ ⟨_, rfl, rfl⟩
              refine SJ.q (YldS.yld (y_assign rfl)) rfl ?_
              refine SJ.nil ?_
              refine PJ.next ?_
              refine WJ.seq ?_
              refine WJ.quiet ?_
              refine QJ.step (YldS.yld (y_move rfl)) rfl ?_
              refine QJ.step (YldS.yld (y_move rfl)) rfl ?_
              obtain ⟨r43, h44, hm⟩ := bindS hm
              refine QJ.step (y_call Try.call100 rfl (RetG.quiet fun w hw => ok_i_minutesOf h44 w _ (hr3.st hw) _ (hw.row_rd (k := 0) rfl))) rfl ?_
              refine QJ.step (YldS.yld (y_assign rfl)) rfl ?_
              refine QJ.done ?_
              refine PJ.next ?_
              refine WJ.seq ?_
              refine WJ.seq ?_
              refine WJ.quiet ?_
              refine QJ.step (YldS.yld (y_move rfl)) rfl ?_
              refine QJ.step (YldS.yld (y_move rfl)) rfl ?_
              refine QJ.step (YldS.yld (y_bin rfl rfl rfl)) rfl ?_
              refine QJ.done ?_
              refine PJ.next ?_
              refine WJ.cond (t := decide (r43 > x8)) rfl (fun hb45 => ?_) (fun hb45 => ?_)
              · replace hm := ifT hm hb45
                refine WJ.exit ?_
                refine PJ.then_exit (PJ.block_exit ?_)
                exact PJ.joined (l28, v29, x30, x31) [1] hm ⟨rfl, rfl, rfl, rfl, rfl, rfl, rfl, rfl, rfl, trivial⟩ ⟨by decide, rfl⟩
              · replace hm := ifF hm hb45
                refine WJ.skip ?_
                refine PJ.next ?_
                refine WJ.seq ?_
                refine WJ.quiet ?_
                refine QJ.step (YldS.yld (y_move rfl)) rfl ?_
                refine QJ.step (YldS.yld (y_move rfl)) rfl ?_
                refine QJ.step (YldS.yld (y_move rfl)) rfl ?_
                refine QJ.step (YldS.yld (y_move rfl)) rfl ?_
                obtain ⟨r46, h47, hm⟩ := bindS hm
                refine QJ.step (y_call Try.call101 rfl (RetG.quiet fun w hw => ok_i_covered h47 w _ (hr3.st hw) _ (hw.row_rd (k := 0) rfl) _ (hr7.st hw))) rfl ?_
                refine QJ.step (YldS.yld (y_assign rfl)) rfl ?_
                refine QJ.done ?_
                refine PJ.next ?_
                refine WJ.seq ?_
                refine WJ.quiet ?_
                refine QJ.step (YldS.yld (y_move rfl)) rfl ?_
                refine QJ.step (YldS.yld (y_move rfl)) rfl ?_
                refine QJ.step (YldS.yld (y_bin rfl rfl rfl)) rfl ?_
                refine QJ.step (YldS.yld (y_move rfl)) rfl ?_
                obtain ⟨t48, h49, hm⟩ := bindS hm
                refine QJ.cut 9 [(0, v2), (1, str x4), (2, v6), (3, .int .i64 x8), (11, v29), (12, .int .i64 x30), (13, .int .i64 x31), (15, v42), (16, .int .i64 r43), (17, .int .i64 r46), (34, .int .i64 q26), (35, .int .i64 x32), (65, .bool t48)] ?_ ?_
                · rcases Bool.eq_false_or_eq_true (decide (r46 > x30)) with hb50 | hb50
                  · obtain rfl := orT h49 hb50
                    refine QJ.off rfl rfl (cB hb50) rfl rfl ?_
                    refine QJ.off rfl rfl (cB hb50) rfl rfl ?_
                    refine QJ.off rfl rfl (cB hb50) rfl rfl ?_
                    refine QJ.off rfl rfl (cB hb50) rfl rfl ?_
                    refine QJ.off_undef rfl rfl rfl rfl ?_
                    refine QJ.off_undef rfl rfl rfl rfl ?_
                    refine QJ.off_undef rfl rfl rfl rfl ?_
                    refine QJ.off rfl rfl (cB hb50) rfl rfl ?_
                    refine QJ.step (YldS.yld (y_pick_t (cB hb50) rfl)) rfl ?_
                    exact QJ.cut_end ⟨rfl, rfl, rfl, rfl, rfl, rfl, rfl, rfl, rfl, rfl, rfl, rfl, rfl, trivial⟩
                  · replace h49 := orF h49 hb50
                    refine QJ.on rfl rfl (cB hb50) (YldS.yld (y_move rfl)) rfl ?_
                    refine QJ.on rfl rfl (cB hb50) (YldS.yld (y_move rfl)) rfl ?_
                    refine QJ.on rfl rfl (cB hb50) (YldS.yld (y_bin rfl rfl rfl)) rfl ?_
                    refine QJ.on rfl rfl (cB hb50) (YldS.yld (y_move rfl)) rfl ?_
                    obtain ⟨t51, h52, h49⟩ := bindS h49
                    refine QJ.cut 4 [(0, v2), (1, str x4), (2, v6), (3, .int .i64 x8), (11, v29), (12, .int .i64 x30), (13, .int .i64 x31), (15, v42), (16, .int .i64 r43), (17, .int .i64 r46), (34, .int .i64 q26), (35, .int .i64 x32), (56, .bool (decide (r46 > x30))), (57, .int .i64 r46), (58, .int .i64 x30), (59, .bool (r46 == x30)), (60, .bool (r46 == x30)), (64, .bool t51)] ?_ ?_
                    · rcases Bool.eq_false_or_eq_true (r46 == x30) with hb53 | hb53
                      · replace h52 := andT h52 hb53
                        refine QJ.on rfl rfl (cB hb53) (YldS.yld (y_move rfl)) rfl ?_
                        refine QJ.on rfl rfl (cB hb53) (YldS.yld (y_move rfl)) rfl ?_
                        refine QJ.on rfl rfl (cB hb53) (YldS.yld (y_bin rfl rfl rfl)) rfl ?_
                        refine QJ.on rfl rfl (cB hb50) (YldS.yld (y_pick_t (cB hb53) rfl)) rfl ?_
                        obtain rfl := Option.some.inj h52
                        exact QJ.cut_end ⟨rfl, rfl, rfl, rfl, rfl, rfl, rfl, rfl, rfl, rfl, rfl, rfl, rfl, rfl, rfl, rfl, rfl, rfl, trivial⟩
                      · obtain rfl := andF h52 hb53
                        refine QJ.off rfl rfl (cB hb53) rfl rfl ?_
                        refine QJ.off rfl rfl (cB hb53) rfl rfl ?_
                        refine QJ.off rfl rfl (cB hb53) rfl rfl ?_
                        refine QJ.on rfl rfl (cB hb50) (YldS.yld (y_pick_f (cB hb53) rfl)) rfl ?_
                        exact QJ.cut_end ⟨rfl, rfl, rfl, rfl, rfl, rfl, rfl, rfl, rfl, rfl, rfl, rfl, rfl, rfl, rfl, rfl, rfl, rfl, trivial⟩
                    refine QJ.step (YldS.yld (y_pick_f (cB hb50) rfl)) rfl ?_
                    obtain rfl := Option.some.inj h49
                    exact QJ.cut_end ⟨rfl, rfl, rfl, rfl, rfl, rfl, rfl, rfl, rfl, rfl, rfl, rfl, rfl, trivial⟩
                refine QJ.step (YldS.yld (y_assign rfl)) rfl ?_
                refine QJ.done ?_
                refine PJ.next ?_
                obtain ⟨kj55, hk56, hm⟩ := withK_open hm
                refine WJ.join (X := Bool) (fun (x : Bool) => kj55 x = some r) (fun (x : Bool) => [(0, v2), (1, str x4), (2, v6), (3, .int .i64 x8), (11, v29), (12, .int .i64 x30), (13, .int .i64 x31), (15, v42), (16, .int .i64 r43), (17, .int .i64 r46), (18, .bool x), (34, .int .i64 q26), (35, .int .i64 x32)]) (fun (x : Bool) => [row v42 2 fI64 r40, row v29 2 fI64 l28]) ?_ ?_
                · clear hk56
                  refine WJ.seq ?_
                  refine WJ.quiet ?_
                  refine QJ.step (YldS.yld (y_move rfl)) rfl ?_
                  refine QJ.step (YldS.yld (y_move rfl)) rfl ?_
                  refine QJ.step (YldS.yld (y_bin rfl rfl rfl)) rfl ?_
                  refine QJ.step (YldS.yld (y_move rfl)) rfl ?_
                  obtain ⟨t57, h58, hm⟩ := bindS hm
                  refine QJ.cut 4 [(0, v2), (1, str x4), (2, v6), (3, .int .i64 x8), (11, v29), (12, .int .i64 x30), (13, .int .i64 x31), (15, v42), (16, .int .i64 r43), (17, .int .i64 r46), (18, .bool t48), (34, .int .i64 q26), (35, .int .i64 x32), (73, .bool t57)] ?_ ?_
                  · rcases Bool.eq_false_or_eq_true (r46 == x30) with hb59 | hb59
                    · replace h58 := andT h58 hb59
                      refine QJ.on rfl rfl (cB hb59) (YldS.yld (y_move rfl)) rfl ?_
                      refine QJ.on rfl rfl (cB hb59) (YldS.yld (y_move rfl)) rfl ?_
                      refine QJ.on rfl rfl (cB hb59) (YldS.yld (y_bin rfl rfl rfl)) rfl ?_
                      refine QJ.step (YldS.yld (y_pick_t (cB hb59) rfl)) rfl ?_
                      obtain rfl := Option.some.inj h58
                      exact QJ.cut_end ⟨rfl, rfl, rfl, rfl, rfl, rfl, rfl, rfl, rfl, rfl, rfl, rfl, rfl, rfl, trivial⟩
                    · obtain rfl := andF h58 hb59
                      refine QJ.off rfl rfl (cB hb59) rfl rfl ?_
                      refine QJ.off rfl rfl (cB hb59) rfl rfl ?_
                      refine QJ.off rfl rfl (cB hb59) rfl rfl ?_
                      refine QJ.step (YldS.yld (y_pick_f (cB hb59) rfl)) rfl ?_
                      exact QJ.cut_end ⟨rfl, rfl, rfl, rfl, rfl, rfl, rfl, rfl, rfl, rfl, rfl, rfl, rfl, rfl, trivial⟩
                  refine QJ.done ?_
                  refine PJ.next ?_
                  refine WJ.cond (t := t57) rfl (fun hb60 => ?_) (fun hb60 => ?_)
                  · replace hm := ifT hm hb60
                    refine WJ.quiet ?_
                    refine QJ.step (YldS.yld (y_move rfl)) rfl ?_
                    refine QJ.step (YldS.yld (y_move rfl)) rfl ?_
                    obtain ⟨r61, h62, hm⟩ := bindS hm
                    refine QJ.step (y_call Try.call102 rfl (RetG.quiet fun w hw => ok_i_compareNumbers h62 w _ (hw.row_rd (k := 0) rfl) _ (hw.row_rd (k := 1) rfl))) rfl ?_
                    refine QJ.step (YldS.yld (y_bin rfl rfl rfl)) rfl ?_
                    refine QJ.step (YldS.yld (y_assign rfl)) rfl ?_
                    refine QJ.done ?_
                    exact PJ.joined (decide (r61 < 0)) [0, 1] hm ⟨rfl, rfl, rfl, rfl, rfl, rfl, rfl, rfl, rfl, rfl, rfl, rfl, rfl, trivial⟩ ⟨by decide, rfl⟩
                  · replace hm := ifF hm hb60
                    refine WJ.skip ?_
                    exact PJ.joined t48 [0, 1] hm ⟨rfl, rfl, rfl, rfl, rfl, rfl, rfl, rfl, rfl, rfl, rfl, rfl, rfl, trivial⟩ ⟨by decide, rfl⟩
                · rintro x54 hm
                  subst hk56
                  refine WJ.seq ?_
                  refine WJ.quiet ?_
                  refine QJ.step (YldS.yld (y_move rfl)) rfl ?_
                  refine QJ.done ?_
                  refine PJ.next ?_
                  refine WJ.cond (t := x54) rfl (fun hb63 => ?_) (fun hb63 => ?_)
                  · replace hm := ifT hm hb63
                    refine WJ.quiet ?_
                    refine QJ.step (YldS.yld (y_move rfl)) rfl ?_
                    refine QJ.step (YldS.yld (y_move rfl)) rfl ?_
                    refine QJ.step (YldS.yld (y_move rfl)) rfl ?_
                    refine QJ.step (YldS.yld (y_assign rfl)) rfl ?_
                    refine QJ.step (YldS.yld (y_assign rfl)) rfl ?_
                    refine QJ.step (YldS.yld (y_assign rfl)) rfl ?_
                    refine QJ.done ?_
                    refine PJ.block_normal ?_
                    exact PJ.joined (r40, v42, r46, r43) [0] hm ⟨rfl, rfl, rfl, rfl, rfl, rfl, rfl, rfl, rfl, trivial⟩ ⟨by decide, rfl⟩
                  · replace hm := ifF hm hb63
                    refine WJ.skip ?_
                    refine PJ.block_normal ?_
                    exact PJ.joined (l28, v29, x30, x31) [1] hm ⟨rfl, rfl, rfl, rfl, rfl, rfl, rfl, rfl, rfl, trivial⟩ ⟨by decide, rfl⟩
            · rintro ⟨l34, v35, x36, x37⟩ hm
              subst hk39
              refine WJ.quiet ?_
              refine QJ.step (YldS.yld (y_bin rfl rfl rfl)) rfl ?_
              refine QJ.step (YldS.yld (y_move rfl)) rfl ?_
              refine QJ.done ?_
              exact PJ.round (l34, v35, x36, x37, w64 (x32 + 1)) [0] hm ⟨rfl, rfl, rfl, rfl, rfl, rfl, rfl, rfl, rfl, trivial⟩ ⟨by decide, rfl⟩
          · replace hm := ifF hm hb33
            refine WJ.exit ?_
            refine PJ.then_exit (PJ.then_exit (PJ.block_exit ?_))
            exact PJ.joined (l28, v29, x30) [0] hm ⟨rfl, rfl, trivial⟩ ⟨by decide, rfl⟩
      · rintro ⟨l21, v22, x23⟩ hm
        subst hk25
        refine WJ.seq ?_
        refine WJ.quiet ?_
        refine QJ.step (YldS.yld (y_move rfl)) rfl ?_
        refine QJ.step (YldS.yld (y_move rfl)) rfl ?_
        refine QJ.step (YldS.yld (y_assign rfl)) rfl ?_
        refine QJ.step (YldS.yld (y_assign rfl)) rfl ?_
        refine QJ.step (YldS.yld (y_assign rfl)) rfl ?_
        refine QJ.done ?_
        refine PJ.next ?_
        refine WJ.ret ?_
        obtain rfl := Option.some.inj hm
        refine PJ.sel (L' := [row v22 2 fI64 l21]) [0] ⟨by decide, rfl⟩ ?_
        exact PJ.retn (vs := [v22, .int .i64 x23, .int .i64 0]) Try.results52 ⟨rfl, rfl, rfl, trivial⟩ ⟨_, rfl, rfl⟩

set_option maxRecDepth 100000 in
set_option maxHeartbeats 1000000 in
theorem ok_i_areIndices {N : Nat} {list1 : List Int} {n4 : Int} {r : Bool} (hm : i_areIndices N list1 n4 = some r) (w : World) (v2 : Value) (hr3 : RdS w (cx w).Fz v2 fI64.rp list1) :
    Calls Try.prog 103 #[v2, .int .i64 n4] w (Ret (cx w) (.bool r)) := by
  unfold i_areIndices at hm
  refine Calls.enter [v2, .int .i64 n4] Try.func103 rfl Try.ntmps103 rfl ?_
  refine WJ.seq ?_
  refine WJ.quiet ?_
  refine QJ.step (YldS.yld (y_assign rfl)) rfl ?_
  refine QJ.done ?_
  refine PJ.next ?_
  obtain ⟨kj5, hk6, hm⟩ := withK_open hm
  refine WJ.join (X := Unit) (fun (_ : Unit) => kj5  = some r) (fun (_ : Unit) => []) (fun (_ : Unit) => []) ?_ ?_
  · clear hk6
    refine WJ.seq ?_
    refine WJ.quiet ?_
    refine QJ.step (YldS.yld (y_move rfl)) rfl ?_
    refine QJ.step (YldS.yld (y_lenS Try.runUnderlying24 hr3 rfl)) rfl ?_
    refine QJ.step (YldS.yld (y_move rfl)) rfl ?_
    refine QJ.done ?_
    refine PJ.next ?_
    refine WJ.block ?_
    refine WJ.sel (L' := (fun (x : Int) => []) 0) [] ⟨List.nodup_nil, rfl⟩ ?_
    refine WJ.sub (m' := (fun (x : Int) => [(0, v2), (1, .int .i64 n4), (7, v2), (8, .int .i64 (List.length list1 : Int)), (9, .int .i64 x)]) 0) ⟨rfl, rfl, rfl, rfl, rfl, trivial⟩ ?_
    refine WJ.loop (X := Int) (fun N (x : Int) => i_areIndices_l1 kj5 list1 n4 N x = some r) (fun (x : Int) => [(0, v2), (1, .int .i64 n4), (7, v2), (8, .int .i64 (List.length list1 : Int)), (9, .int .i64 x)]) (fun (x : Int) => []) ?_ N 0 hm
    · rintro N x7 hI
      have hm := hI; clear hI
      cases N with
      | zero => cases hm
      | succ N =>
      unfold i_areIndices_l1 at hm
      refine WJ.seq ?_
      refine WJ.quiet ?_
      refine QJ.step (YldS.yld (y_bin rfl rfl rfl)) rfl ?_
      refine QJ.done ?_
      refine PJ.next ?_
      refine WJ.seq ?_
      refine WJ.cond (t := decide (x7 < (List.length list1 : Int))) rfl (fun hb8 => ?_) (fun hb8 => ?_)
      · replace hm := ifT hm hb8
        refine WJ.skip ?_
        refine PJ.next ?_
        refine WJ.seq ?_
        refine WJ.block ?_
        refine WJ.seq ?_
        refine WJ.quiet ?_
        refine QJ.step (YldS.yld (y_move rfl)) rfl ?_
        obtain ⟨e9, h10, hm⟩ := bindS hm
        obtain ⟨ad11, _, rfl, ha12, hy13⟩ := hr3.elem h10
        refine QJ.step (YldS.yld (hy13 Try.runUnderlying24 Try.sizeOf2 rfl rfl)) rfl ?_
        refine QJ.step (YldS.yld (y_load1 (v := .int .i64 e9) Try.isAgg2 ha12 St.frozenC rfl)) rfl ?_
        refine QJ.step (YldS.yld (y_assign rfl)) rfl ?_
        refine QJ.step (YldS.yld (y_assign rfl)) rfl ?_
        refine QJ.done ?_
        refine PJ.next ?_
        refine WJ.seq ?_
        refine WJ.quiet ?_
        refine QJ.step (YldS.yld (y_move rfl)) rfl ?_
        refine QJ.step (YldS.yld (y_move rfl)) rfl ?_
        refine QJ.step (YldS.yld (y_bin rfl rfl rfl)) rfl ?_
        obtain ⟨r14, h15, hm⟩ := bindS hm
        refine QJ.step (y_call Try.call69 rfl (RetG.quiet fun w hw => ok_i_between h15 w )) rfl ?_
        refine QJ.step (YldS.yld (y_not rfl)) rfl ?_
        refine QJ.step (YldS.yld (y_move rfl)) rfl ?_
        obtain ⟨t16, h17, hm⟩ := bindS hm
        refine QJ.cut 12 [(0, v2), (1, .int .i64 n4), (7, v2), (8, .int .i64 (List.length list1 : Int)), (9, .int .i64 x7), (31, .bool t16)] ?_ ?_
        · rcases Bool.eq_false_or_eq_true (!r14) with hb18 | hb18
          · obtain rfl := orT h17 hb18
            refine QJ.off rfl rfl (cB hb18) rfl rfl ?_
            refine QJ.off rfl rfl (cB hb18) rfl rfl ?_
            refine QJ.off rfl rfl (cB hb18) rfl rfl ?_
            refine QJ.off_undef rfl rfl rfl rfl ?_
            refine QJ.off_undef rfl rfl rfl rfl ?_
            refine QJ.off_undef rfl rfl rfl rfl ?_
            refine QJ.off_undef rfl rfl rfl rfl ?_
            refine QJ.off_undef rfl rfl rfl rfl ?_
            refine QJ.off_undef rfl rfl rfl rfl ?_
            refine QJ.off_undef rfl rfl rfl rfl ?_
            refine QJ.off rfl rfl (cB hb18) rfl rfl ?_
            refine QJ.step (YldS.yld (y_pick_t (cB hb18) rfl)) rfl ?_
            exact QJ.cut_end ⟨rfl, rfl, rfl, rfl, rfl, rfl, trivial⟩
          · replace h17 := orF h17 hb18
            refine QJ.on rfl rfl (cB hb18) (YldS.yld (y_move rfl)) rfl ?_
            refine QJ.on rfl rfl (cB hb18) (YldS.yld (y_bin rfl rfl rfl)) rfl ?_
            refine QJ.on rfl rfl (cB hb18) (YldS.yld (y_move rfl)) rfl ?_
            obtain ⟨t19, h20, h17⟩ := bindS h17
            refine QJ.cut 8 [(0, v2), (1, .int .i64 n4), (7, v2), (8, .int .i64 (List.length list1 : Int)), (9, .int .i64 x7), (19, .bool (!r14)), (20, .int .i64 x7), (21, .bool (decide (x7 > 0))), (22, .bool (decide (x7 > 0))), (30, .bool t19)] ?_ ?_
            · rcases Bool.eq_false_or_eq_true (decide (x7 > 0)) with hb21 | hb21
              · replace h20 := andT h20 hb21
                refine QJ.on rfl rfl (cB hb21) (YldS.yld (y_move rfl)) rfl ?_
                refine QJ.on rfl rfl (cB hb21) (YldS.yld (y_move rfl)) rfl ?_
                refine QJ.on rfl rfl (cB hb21) (YldS.yld (y_move rfl)) rfl ?_
                refine QJ.on rfl rfl (cB hb21) (YldS.yld (y_bin rfl rfl rfl)) rfl ?_
                obtain ⟨e22, h23, h20⟩ := bindS h20
                obtain ⟨ad24, _, rfl, ha25, hy26⟩ := hr3.elem h23
                refine QJ.on rfl rfl (cB hb21) (YldS.yld (hy26 Try.runUnderlying24 Try.sizeOf2 rfl rfl)) rfl ?_
                refine QJ.on rfl rfl (cB hb21) (YldS.yld (y_load1 (v := .int .i64 e22) Try.isAgg2 ha25 St.frozenC rfl)) rfl ?_
                refine QJ.on rfl rfl (cB hb21) (YldS.yld (y_bin rfl rfl rfl)) rfl ?_
                refine QJ.on rfl rfl (cB hb18) (YldS.yld (y_pick_t (cB hb21) rfl)) rfl ?_
                obtain rfl := Option.some.inj h20
                exact QJ.cut_end ⟨rfl, rfl, rfl, rfl, rfl, rfl, rfl, rfl, rfl, rfl, trivial⟩
              · obtain rfl := andF h20 hb21
                refine QJ.off rfl rfl (cB hb21) rfl rfl ?_
                refine QJ.off rfl rfl (cB hb21) rfl rfl ?_
                refine QJ.off rfl rfl (cB hb21) rfl rfl ?_
                refine QJ.off rfl rfl (cB hb21) rfl rfl ?_
                refine QJ.off rfl rfl (cB hb21) rfl rfl ?_
                refine QJ.off rfl rfl (cB hb21) rfl rfl ?_
                refine QJ.off rfl rfl (cB hb21) rfl rfl ?_
                refine QJ.on rfl rfl (cB hb18) (YldS.yld (y_pick_f (cB hb21) rfl)) rfl ?_
                exact QJ.cut_end ⟨rfl, rfl, rfl, rfl, rfl, rfl, rfl, rfl, rfl, rfl, trivial⟩
            refine QJ.step (YldS.yld (y_pick_f (cB hb18) rfl)) rfl ?_
            obtain rfl := Option.some.inj h17
            exact QJ.cut_end ⟨rfl, rfl, rfl, rfl, rfl, rfl, trivial⟩
        refine QJ.done ?_
        refine PJ.next ?_
        refine WJ.cond (t := t16) rfl (fun hb27 => ?_) (fun hb27 => ?_)
        · replace hm := ifT hm hb27
          refine WJ.seq ?_
          refine WJ.quiet ?_
          refine QJ.step (YldS.yld (y_assign rfl)) rfl ?_
          refine QJ.done ?_
          refine PJ.next ?_
          refine WJ.ret ?_
          refine PJ.block_ret (PJ.then_ret (PJ.then_ret (PJ.block_ret (PJ.then_ret ?_))))
          obtain rfl := Option.some.inj hm
          refine PJ.sel (L' := []) [] ⟨List.nodup_nil, rfl⟩ ?_
          exact PJ.retn (vs := [.bool false]) Try.results103 ⟨rfl, trivial⟩ ⟨rfl, rfl⟩
        · replace hm := ifF hm hb27
          refine WJ.skip ?_
          refine PJ.block_normal (PJ.next ?_)
          refine WJ.quiet ?_
          refine QJ.step (YldS.yld (y_bin rfl rfl rfl)) rfl ?_
          refine QJ.step (YldS.yld (y_move rfl)) rfl ?_
          refine QJ.done ?_
          exact PJ.round (w64 (x7 + 1)) [] hm ⟨rfl, rfl, rfl, rfl, rfl, trivial⟩ ⟨List.nodup_nil, rfl⟩
      · replace hm := ifF hm hb8
        refine WJ.exit ?_
        refine PJ.then_exit (PJ.then_exit (PJ.block_exit ?_))
        exact PJ.joined () [] hm trivial ⟨List.nodup_nil, rfl⟩
  · rintro _ hm
    subst hk6
    refine WJ.seq ?_
    refine WJ.quiet ?_
    refine QJ.step (YldS.yld (y_assign rfl)) rfl ?_
    refine QJ.done ?_
    refine PJ.next ?_
    refine WJ.ret ?_
    obtain rfl := Option.some.inj hm
    refine PJ.sel (L' := []) [] ⟨List.nodup_nil, rfl⟩ ?_
    exact PJ.retn (vs := [.bool true]) Try.results103 ⟨rfl, trivial⟩ ⟨rfl, rfl⟩

set_option maxRecDepth 100000 in
set_option maxHeartbeats 1000000 in
theorem ok_i_MinutesOf {N : Nat} {list1 : List Drill} {some4 : List Int} {r : Int × Int} (hm : i_MinutesOf N list1 some4 = some r) (w : World) (v2 : Value) (hr3 : RdS w (cx w).Fz v2 fDrill.rp list1) (v5 : Value) (hr6 : RdS w (cx w).Fz v5 fI64.rp some4) :
    Calls Try.prog 53 #[v2, v5] w (Ret (cx w) (tup [.int .i64 r.1, .int .i64 r.2])) := by
  unfold i_MinutesOf at hm
  refine Calls.enter [v2, v5] Try.func53 rfl Try.ntmps53 rfl ?_
  refine WJ.seq ?_
  refine WJ.quiet ?_
  refine QJ.step (YldS.yld (y_assign rfl)) rfl ?_
  refine QJ.step (YldS.yld (y_assign rfl)) rfl ?_
  refine QJ.done ?_
  refine PJ.next ?_
  refine WJ.seq ?_
  refine WJ.seq ?_
  refine WJ.quiet ?_
  refine QJ.step (YldS.yld (y_move rfl)) rfl ?_
  obtain ⟨r7, h8, hm⟩ := bindS hm
  refine QJ.step (y_call Try.call97 rfl (RetG.quiet fun w hw => ok_i_ValidDrills h8 w _ (hr3.st hw))) rfl ?_
  refine QJ.step (YldS.yld (y_not rfl)) rfl ?_
  refine QJ.done ?_
  refine PJ.next ?_
  refine WJ.cond (t := !r7) rfl (fun hb9 => ?_) (fun hb9 => ?_)
  · replace hm := ifT hm hb9
    refine WJ.seq ?_
    refine WJ.quiet ?_
    refine QJ.step (YldS.yld (y_assign rfl)) rfl ?_
    refine QJ.step (YldS.yld (y_assign rfl)) rfl ?_
    refine QJ.done ?_
    refine PJ.next ?_
    refine WJ.ret ?_
    refine PJ.then_ret ?_
    obtain rfl := Option.some.inj hm
    refine PJ.sel (L' := []) [] ⟨List.nodup_nil, rfl⟩ ?_
    exact PJ.retn (vs := [.int .i64 0, .int .i64 1]) Try.results53 ⟨rfl, rfl, trivial⟩ ⟨rfl, rfl⟩
  · replace hm := ifF hm hb9
    refine WJ.skip ?_
    refine PJ.next ?_
    refine WJ.seq ?_
    refine WJ.seq ?_
    refine WJ.quiet ?_
    refine QJ.step (YldS.yld (y_move rfl)) rfl ?_
    refine QJ.step (YldS.yld (y_move rfl)) rfl ?_
    refine QJ.step (YldS.yld (y_lenS Try.runUnderlying70 hr3 rfl)) rfl ?_
    obtain ⟨r10, h11, hm⟩ := bindS hm
    refine QJ.step (y_call Try.call103 rfl (RetG.quiet fun w hw => ok_i_areIndices h11 w _ (hr6.st hw))) rfl ?_
    refine QJ.step (YldS.yld (y_not rfl)) rfl ?_
    refine QJ.done ?_
    refine PJ.next ?_
    refine WJ.cond (t := !r10) rfl (fun hb12 => ?_) (fun hb12 => ?_)
    · replace hm := ifT hm hb12
      refine WJ.seq ?_
      refine WJ.quiet ?_
      refine QJ.step (YldS.yld (y_assign rfl)) rfl ?_
      refine QJ.step (YldS.yld (y_assign rfl)) rfl ?_
      refine QJ.done ?_
      refine PJ.next ?_
      refine WJ.ret ?_
      refine PJ.then_ret ?_
      obtain rfl := Option.some.inj hm
      refine PJ.sel (L' := []) [] ⟨List.nodup_nil, rfl⟩ ?_
      exact PJ.retn (vs := [.int .i64 0, .int .i64 2]) Try.results53 ⟨rfl, rfl, trivial⟩ ⟨rfl, rfl⟩
    · replace hm := ifF hm hb12
      refine WJ.skip ?_
      refine PJ.next ?_
      refine WJ.seq ?_
      refine WJ.quiet ?_
      refine QJ.step (YldS.yld (y_move rfl)) rfl ?_
      refine QJ.step (YldS.yld (y_move rfl)) rfl ?_
      obtain ⟨r13, h14, hm⟩ := bindS hm
      refine QJ.step (y_call Try.call100 rfl (RetG.quiet fun w hw => ok_i_minutesOf h14 w _ (hr3.st hw) _ (hr6.st hw))) rfl ?_
      refine QJ.step (YldS.yld (y_assign rfl)) rfl ?_
      refine QJ.step (YldS.yld (y_assign rfl)) rfl ?_
      refine QJ.done ?_
      refine PJ.next ?_
      refine WJ.ret ?_
      obtain rfl := Option.some.inj hm
      refine PJ.sel (L' := []) [] ⟨List.nodup_nil, rfl⟩ ?_
      exact PJ.retn (vs := [.int .i64 r13, .int .i64 0]) Try.results53 ⟨rfl, rfl, trivial⟩ ⟨rfl, rfl⟩

set_option maxRecDepth 100000 in
set_option maxHeartbeats 1000000 in
theorem ok_i_CoveredBy {N : Nat} {list1 : List Drill} {some4 : List Int} {letters7 : Str} {counts8 : List Int} {r : Int × Int} (hm : i_CoveredBy N list1 some4 letters7 counts8 = some r) (w : World) (v2 : Value) (hr3 : RdS w (cx w).Fz v2 fDrill.rp list1) (v5 : Value) (hr6 : RdS w (cx w).Fz v5 fI64.rp some4) (v9 : Value) (hr10 : RdS w (cx w).Fz v9 fI64.rp counts8) :
    Calls Try.prog 54 #[v2, v5, str letters7, v9] w (Ret (cx w) (tup [.int .i64 r.1, .int .i64 r.2])) := by
  unfold i_CoveredBy at hm
  refine Calls.enter [v2, v5, str letters7, v9] Try.func54 rfl Try.ntmps54 rfl ?_
  refine WJ.seq ?_
  refine WJ.quiet ?_
  refine QJ.step (YldS.yld (y_assign rfl)) rfl ?_
  refine QJ.step (YldS.yld (y_assign rfl)) rfl ?_
  refine QJ.done ?_
  refine PJ.next ?_
  refine WJ.seq ?_
  refine WJ.seq ?_
  refine WJ.quiet ?_
  refine QJ.step (YldS.yld (y_move rfl)) rfl ?_
  obtain ⟨r11, h12, hm⟩ := bindS hm
  refine QJ.step (y_call Try.call97 rfl (RetG.quiet fun w hw => ok_i_ValidDrills h12 w _ (hr3.st hw))) rfl ?_
  refine QJ.step (YldS.yld (y_not rfl)) rfl ?_
  refine QJ.step (YldS.yld (y_move rfl)) rfl ?_
  obtain ⟨t13, h14, hm⟩ := bindS hm
  refine QJ.cut 5 [(0, v2), (1, v5), (2, str letters7), (3, v9), (18, .bool t13)] ?_ ?_
  · rcases Bool.eq_false_or_eq_true (!r11) with hb15 | hb15
    · obtain rfl := orT h14 hb15
      refine QJ.off rfl rfl (cB hb15) rfl rfl ?_
      refine QJ.off rfl rfl (cB hb15) rfl rfl ?_
      refine QJ.off rfl rfl (cB hb15) rfl rfl ?_
      refine QJ.off rfl rfl (cB hb15) rfl rfl ?_
      refine QJ.step (YldS.yld (y_pick_t (cB hb15) rfl)) rfl ?_
      exact QJ.cut_end ⟨rfl, rfl, rfl, rfl, rfl, trivial⟩
    · replace h14 := orF h14 hb15
      refine QJ.on rfl rfl (cB hb15) (YldS.yld (y_move rfl)) rfl ?_
      refine QJ.on rfl rfl (cB hb15) (YldS.yld (y_move rfl)) rfl ?_
      obtain ⟨r16, h17, h14⟩ := bindS h14
      refine QJ.on rfl rfl (cB hb15) (y_call Try.call98 rfl (RetG.quiet fun w hw => ok_i_ValidNeeds h17 w _ (hr10.st hw))) rfl ?_
      refine QJ.on rfl rfl (cB hb15) (YldS.yld (y_not rfl)) rfl ?_
      refine QJ.step (YldS.yld (y_pick_f (cB hb15) rfl)) rfl ?_
      obtain rfl := Option.some.inj h14
      exact QJ.cut_end ⟨rfl, rfl, rfl, rfl, rfl, trivial⟩
  refine QJ.done ?_
  refine PJ.next ?_
  refine WJ.cond (t := t13) rfl (fun hb18 => ?_) (fun hb18 => ?_)
  · replace hm := ifT hm hb18
    refine WJ.seq ?_
    refine WJ.quiet ?_
    refine QJ.step (YldS.yld (y_assign rfl)) rfl ?_
    refine QJ.step (YldS.yld (y_assign rfl)) rfl ?_
    refine QJ.done ?_
    refine PJ.next ?_
    refine WJ.ret ?_
    refine PJ.then_ret ?_
    obtain rfl := Option.some.inj hm
    refine PJ.sel (L' := []) [] ⟨List.nodup_nil, rfl⟩ ?_
    exact PJ.retn (vs := [.int .i64 0, .int .i64 1]) Try.results54 ⟨rfl, rfl, trivial⟩ ⟨rfl, rfl⟩
  · replace hm := ifF hm hb18
    refine WJ.skip ?_
    refine PJ.next ?_
    refine WJ.seq ?_
    refine WJ.seq ?_
    refine WJ.quiet ?_
    refine QJ.step (YldS.yld (y_move rfl)) rfl ?_
    refine QJ.step (YldS.yld (y_move rfl)) rfl ?_
    refine QJ.step (YldS.yld (y_lenS Try.runUnderlying70 hr3 rfl)) rfl ?_
    obtain ⟨r19, h20, hm⟩ := bindS hm
    refine QJ.step (y_call Try.call103 rfl (RetG.quiet fun w hw => ok_i_areIndices h20 w _ (hr6.st hw))) rfl ?_
    refine QJ.step (YldS.yld (y_not rfl)) rfl ?_
    refine QJ.done ?_
    refine PJ.next ?_
    refine WJ.cond (t := !r19) rfl (fun hb21 => ?_) (fun hb21 => ?_)
    · replace hm := ifT hm hb21
      refine WJ.seq ?_
      refine WJ.quiet ?_
      refine QJ.step (YldS.yld (y_assign rfl)) rfl ?_
      refine QJ.step (YldS.yld (y_assign rfl)) rfl ?_
      refine QJ.done ?_
      refine PJ.next ?_
      refine WJ.ret ?_
      refine PJ.then_ret ?_
      obtain rfl := Option.some.inj hm
      refine PJ.sel (L' := []) [] ⟨List.nodup_nil, rfl⟩ ?_
      exact PJ.retn (vs := [.int .i64 0, .int .i64 2]) Try.results54 ⟨rfl, rfl, trivial⟩ ⟨rfl, rfl⟩
    · replace hm := ifF hm hb21
      refine WJ.skip ?_
      refine PJ.next ?_
      refine WJ.seq ?_
      refine WJ.quiet ?_
      refine QJ.step (YldS.yld (y_move rfl)) rfl ?_
      refine QJ.step (YldS.yld (y_move rfl)) rfl ?_
      refine QJ.step (YldS.yld (y_move rfl)) rfl ?_
      refine QJ.step (YldS.yld (y_move rfl)) rfl ?_
      obtain ⟨r22, h23, hm⟩ := bindS hm
      refine QJ.step (y_call Try.call101 rfl (RetG.quiet fun w hw => ok_i_covered h23 w _ (hr3.st hw) _ (hr6.st hw) _ (hr10.st hw))) rfl ?_
      refine QJ.step (YldS.yld (y_assign rfl)) rfl ?_
      refine QJ.step (YldS.yld (y_assign rfl)) rfl ?_
      refine QJ.done ?_
      refine PJ.next ?_
      refine WJ.ret ?_
      obtain rfl := Option.some.inj hm
      refine PJ.sel (L' := []) [] ⟨List.nodup_nil, rfl⟩ ?_
      exact PJ.retn (vs := [.int .i64 r22, .int .i64 0]) Try.results54 ⟨rfl, rfl, trivial⟩ ⟨rfl, rfl⟩

set_option maxRecDepth 100000 in
set_option maxHeartbeats 1000000 in
theorem ok_s_A2Some {N : Nat} {code1 : List UInt8} {n4 : Int} {r : (List Int)} (hm : s_A2Some N code1 n4 = some r) (w : World) (v2 : Value) (hr3 : RdS w (cx w).Fz v2 fByte.rp code1) :
    Calls Try.prog 55 #[v2, .int .i64 n4] w (RetG (cx w) fun u L => ∃ (u1 : Value), (u = u1 ∧ L = [row u1 2 fI64 r])) := by
  unfold s_A2Some at hm
  refine Calls.enter [v2, .int .i64 n4] Try.func55 rfl Try.ntmps55 rfl ?_
  refine WJ.seq ?_
  refine WJ.quiet ?_
  refine QJ.step (YldS.yld (y_assign rfl)) rfl ?_
  refine QJ.done ?_
  refine PJ.next ?_
  refine WJ.seq ?_
  refine WJ.reg ?_
  refine SJ.q (YldS.yld (y_move rfl)) rfl ?_
  obtain ⟨r5, h6, hm⟩ := bindS hm
  refine SJ.call Try.call59 rfl (fun w hw => ok_s_l00From h6 w _ (hr3.st hw)) rfl ?_
  rintro _ _ ⟨g7, rfl, rfl⟩
  refine SJ.q (YldS.yld (y_assign rfl)) rfl ?_
  refine SJ.nil ?_
  refine PJ.next ?_
  refine WJ.seq ?_
  refine WJ.reg ?_
  refine SJ.buildSlice (R := fI64) (os := []) [] Try.runUnderlying24 Try.sizeOf2 Try.zeroValue2 rfl rfl rfl rfl rfl rfl fun v8 => ?_
  refine SJ.q (YldS.yld (y_assign rfl)) rfl ?_
  refine SJ.nil ?_
  refine PJ.next ?_
  obtain ⟨kj11, hk12, hm⟩ := withK_open hm
  refine WJ.join (X := (List Int) × Value) (fun (x : (List Int) × Value) => kj11 x.1 = some r) (fun (x : (List Int) × Value) => [(6, x.2)]) (fun (x : (List Int) × Value) => [row x.2 2 fI64 x.1]) ?_ ?_
  · clear hk12
    refine WJ.seq ?_
    refine WJ.quiet ?_
    refine QJ.step (YldS.yld (y_assign rfl)) rfl ?_
    refine QJ.done ?_
    refine PJ.next ?_
    refine WJ.block ?_
    refine WJ.sel (L' := (fun (x : (List Int) × Value × Int × Int × Int) => [row x.2.1 2 fI64 x.1, box g7 126 [v2, .int .i64 x.2.2.1, .int .u64 x.2.2.2.1]]) ([], v8, r5.at_, r5.seed, 0)) [0, 1] ⟨by decide, rfl⟩ ?_
    refine WJ.sub (m' := (fun (x : (List Int) × Value × Int × Int × Int) => [(1, .int .i64 n4), (5, pt g7 0), (6, x.2.1), (7, .int .i64 x.2.2.2.2)]) ([], v8, r5.at_, r5.seed, 0)) ⟨rfl, rfl, rfl, rfl, trivial⟩ ?_
    refine WJ.loop (X := (List Int) × Value × Int × Int × Int) (fun N (x : (List Int) × Value × Int × Int × Int) => s_A2Some_l1 kj11 code1 n4 N x.1 x.2.2.1 x.2.2.2.1 x.2.2.2.2 = some r) (fun (x : (List Int) × Value × Int × Int × Int) => [(1, .int .i64 n4), (5, pt g7 0), (6, x.2.1), (7, .int .i64 x.2.2.2.2)]) (fun (x : (List Int) × Value × Int × Int × Int) => [row x.2.1 2 fI64 x.1, box g7 126 [v2, .int .i64 x.2.2.1, .int .u64 x.2.2.2.1]]) ?_ N ([], v8, r5.at_, r5.seed, 0) hm
    · rintro N ⟨l13, v14, x15, x16, i17⟩ hI
      have hm := hI; clear hI
      cases N with
      | zero => cases hm
      | succ N =>
      unfold s_A2Some_l1 at hm
      refine WJ.seq ?_
      refine WJ.seq ?_
      refine WJ.quiet ?_
      refine QJ.step (YldS.yld (y_move rfl)) rfl ?_
      refine QJ.step (YldS.yld (y_move rfl)) rfl ?_
      refine QJ.step (YldS.yld (y_bin rfl rfl rfl)) rfl ?_
      refine QJ.done ?_
      refine PJ.next ?_
      refine WJ.cond (t := decide (i17 < n4)) rfl (fun hb18 => ?_) (fun hb18 => ?_)
      · replace hm := ifT hm hb18
        refine WJ.skip ?_
        refine PJ.next ?_
        obtain ⟨kj23, hk24, hm⟩ := withK_open hm
        refine WJ.join (X := Int × Int × (List Int) × Value) (fun (x : Int × Int × (List Int) × Value) => kj23 x.1 x.2.1 x.2.2.1 = some r) (fun (x : Int × Int × (List Int) × Value) => [(1, .int .i64 n4), (5, pt g7 0), (6, x.2.2.2), (7, .int .i64 i17)]) (fun (x : Int × Int × (List Int) × Value) => [box g7 126 [v2, .int .i64 x.1, .int .u64 x.2.1], row x.2.2.2 2 fI64 x.2.2.1]) ?_ ?_
        · clear hk24
          refine WJ.block ?_
          refine WJ.seq ?_
          refine WJ.reg ?_
          refine SJ.q (YldS.yld (y_move rfl)) rfl ?_
          obtain ⟨r25, h26, hm⟩ := bindS hm
          refine SJ.call1 (k := 1) rfl Try.call92 rfl (fun w S hw hA hO => ok_s_l00Src_one h26 w S _ (hr3.st1 hw hO) hA) rfl ?_
          rintro _ _ ⟨rfl, rfl⟩
          refine SJ.nil ?_
          refine PJ.next ?_
          refine WJ.cond (t := r25.1) rfl (fun hb27 => ?_) (fun hb27 => ?_)
          · replace hm := ifT hm hb27
            refine WJ.reg ?_
            refine SJ.q (YldS.yld (y_move rfl)) rfl ?_
            refine SJ.q (YldS.yld (y_move rfl)) rfl ?_
            refine SJ.buildSlice (R := fI64) (os := [.tmp 19]) [i17] Try.runUnderlying24 Try.sizeOf2 Try.zeroValue2 rfl rfl rfl rfl rfl rfl fun v28 => ?_
            obtain ⟨l29, h30, hm⟩ := bindS hm
            refine SJ.append (k := 2) (R := fI64) h30 rfl Try.underlying24 el2 rfl rfl rfl (fun w hw => (hw.row_rd (k := 0) rfl)) rfl fun v31 => ?_
            refine SJ.q (YldS.yld (y_assign rfl)) rfl ?_
            refine SJ.nil ?_
            refine PJ.block_normal ?_
            exact PJ.joined (r25.2.at_, r25.2.seed, l29, v31) [1, 2] hm ⟨rfl, rfl, rfl, rfl, trivial⟩ ⟨by decide, rfl⟩
          · replace hm := ifF hm hb27
            refine WJ.skip ?_
            refine PJ.block_normal ?_
            exact PJ.joined (r25.2.at_, r25.2.seed, l13, v14) [0, 1] hm ⟨rfl, rfl, rfl, rfl, trivial⟩ ⟨by decide, rfl⟩
        · rintro ⟨x19, x20, l21, v22⟩ hm
          subst hk24
          refine WJ.quiet ?_
          refine QJ.step (YldS.yld (y_move rfl)) rfl ?_
          refine QJ.step (YldS.yld (y_bin rfl rfl rfl)) rfl ?_
          refine QJ.step (YldS.yld (y_assign rfl)) rfl ?_
          refine QJ.done ?_
          exact PJ.round (l21, v22, x19, x20, w64 (i17 + 1)) [1, 0] hm ⟨rfl, rfl, rfl, rfl, trivial⟩ ⟨by decide, rfl⟩
      · replace hm := ifF hm hb18
        refine WJ.exit ?_
        refine PJ.then_exit (PJ.then_exit (PJ.block_exit ?_))
        exact PJ.joined (l13, v14) [0] hm ⟨rfl, trivial⟩ ⟨by decide, rfl⟩
  · rintro ⟨l9, v10⟩ hm
    subst hk12
    refine WJ.seq ?_
    refine WJ.quiet ?_
    refine QJ.step (YldS.yld (y_move rfl)) rfl ?_
    refine QJ.step (YldS.yld (y_assign rfl)) rfl ?_
    refine QJ.done ?_
    refine PJ.next ?_
    refine WJ.ret ?_
    obtain rfl := Option.some.inj hm
    refine PJ.sel (L' := [row v10 2 fI64 l9]) [0] ⟨by decide, rfl⟩ ?_
    exact PJ.retn (vs := [v10]) Try.results55 ⟨rfl, trivial⟩ ⟨_, rfl, rfl⟩

set_option maxRecDepth 100000 in
set_option maxHeartbeats 1000000 in
theorem ok_i_left {N : Nat} {list1 : List Drill} {some4 : List Int} {letters7 : Str} {r : Str} (hm : i_left N list1 some4 letters7 = some r) (w : World) (v2 : Value) (hr3 : RdS w (cx w).Fz v2 fDrill.rp list1) (v5 : Value) (hr6 : RdS w (cx w).Fz v5 fI64.rp some4) :
    Calls Try.prog 105 #[v2, v5, str letters7] w (Ret (cx w) (str r)) := by
  unfold i_left at hm
  refine Calls.enter [v2, v5, str letters7] Try.func105 rfl Try.ntmps105 rfl ?_
  refine WJ.seq ?_
  refine WJ.quiet ?_
  refine QJ.step (YldS.yld (y_assign rfl)) rfl ?_
  refine QJ.done ?_
  refine PJ.next ?_
  refine WJ.seq ?_
  refine WJ.reg ?_
  refine SJ.buildSlice (R := fByte) (os := []) [] Try.runUnderlying22 Try.sizeOf5 Try.zeroValue5 rfl rfl rfl rfl rfl rfl fun v8 => ?_
  refine SJ.q (YldS.yld (y_assign rfl)) rfl ?_
  refine SJ.nil ?_
  refine PJ.next ?_
  refine WJ.seq ?_
  refine WJ.reg ?_
  refine SJ.q (YldS.yld (y_move rfl)) rfl ?_
  refine SJ.q (YldS.yld (y_move rfl)) rfl ?_
  obtain ⟨r9, h10, hm⟩ := bindS hm
  refine SJ.call Try.call134 rfl (fun w hw => ok_i_trained h10 w _ (hr3.st hw) _ (hr6.st hw)) rfl ?_
  rintro _ _ ⟨g11, rfl, rfl⟩
  refine SJ.q (YldS.yld (y_assign rfl)) rfl ?_
  refine SJ.nil ?_
  refine PJ.next ?_
  obtain ⟨kj14, hk15, hm⟩ := withK_open hm
  refine WJ.join (X := (List UInt8) × Value) (fun (x : (List UInt8) × Value) => kj14 x.1 = some r) (fun (x : (List UInt8) × Value) => [(7, x.2)]) (fun (x : (List UInt8) × Value) => [row x.2 5 fByte x.1]) ?_ ?_
  · clear hk15
    refine WJ.seq ?_
    refine WJ.quiet ?_
    refine QJ.step (YldS.yld (y_move rfl)) rfl ?_
    refine QJ.step (YldS.yld (y_lenStr Try.runUnderlying9 rfl)) rfl ?_
    refine QJ.step (YldS.yld (y_move rfl)) rfl ?_
    refine QJ.done ?_
    refine PJ.next ?_
    refine WJ.block ?_
    refine WJ.sel (L' := (fun (x : (List UInt8) × Value × Int) => [row (av g11 256) 97 fBool r9, row x.2.1 5 fByte x.1]) ([], v8, 0)) [0, 1] ⟨by decide, rfl⟩ ?_
    refine WJ.sub (m' := (fun (x : (List UInt8) × Value × Int) => [(2, str letters7), (7, x.2.1), (8, pt g11 0), (15, .int .i64 (List.length letters7 : Int)), (16, .int .i64 x.2.2)]) ([], v8, 0)) ⟨rfl, rfl, rfl, rfl, rfl, trivial⟩ ?_
    refine WJ.loop (X := (List UInt8) × Value × Int) (fun N (x : (List UInt8) × Value × Int) => i_left_l1 kj14 letters7 r9 N x.1 x.2.2 = some r) (fun (x : (List UInt8) × Value × Int) => [(2, str letters7), (7, x.2.1), (8, pt g11 0), (15, .int .i64 (List.length letters7 : Int)), (16, .int .i64 x.2.2)]) (fun (x : (List UInt8) × Value × Int) => [row (av g11 256) 97 fBool r9, row x.2.1 5 fByte x.1]) ?_ N ([], v8, 0) hm
    · rintro N ⟨l16, v17, x18⟩ hI
      have hm := hI; clear hI
      cases N with
      | zero => cases hm
      | succ N =>
      unfold i_left_l1 at hm
      refine WJ.seq ?_
      refine WJ.quiet ?_
      refine QJ.step (YldS.yld (y_bin rfl rfl rfl)) rfl ?_
      refine QJ.done ?_
      refine PJ.next ?_
      refine WJ.seq ?_
      refine WJ.cond (t := decide (x18 < (List.length letters7 : Int))) rfl (fun hb19 => ?_) (fun hb19 => ?_)
      · replace hm := ifT hm hb19
        refine WJ.skip ?_
        refine PJ.next ?_
        obtain ⟨kj22, hk23, hm⟩ := withK_open hm
        refine WJ.join (X := (List UInt8) × Value) (fun (x : (List UInt8) × Value) => kj22 x.1 = some r) (fun (x : (List UInt8) × Value) => [(2, str letters7), (7, x.2), (8, pt g11 0), (15, .int .i64 (List.length letters7 : Int)), (16, .int .i64 x18)]) (fun (x : (List UInt8) × Value) => [row (av g11 256) 97 fBool r9, row x.2 5 fByte x.1]) ?_ ?_
        · clear hk23
          refine WJ.block ?_
          refine WJ.seq ?_
          refine WJ.quiet ?_
          refine QJ.step (YldS.yld (y_move rfl)) rfl ?_
          refine QJ.step (YldS.yld (y_assign rfl)) rfl ?_
          refine QJ.done ?_
          refine PJ.next ?_
          refine WJ.seq ?_
          refine WJ.quiet_draw follows (by kernel_rfl) ?_
          refine QJ.step (YldS.yld (y_move rfl)) rfl ?_
          refine QJ.step (YldS.yld (y_move rfl)) rfl ?_
          refine QJ.step (YldS.yld (y_move rfl)) rfl ?_
          obtain ⟨c24, h25, hm⟩ := bindS hm
          refine QJ.step (YldS.yld (y_idxStr Try.runUnderlying9 rfl rfl h25)) rfl ?_
          refine QJ.step (YldS.yld (y_nil rfl)) rfl ?_
          obtain ⟨e26, h27, hm⟩ := bindS hm
          refine QJ.step (YldS.yld (y_ixArr (k := 0) (R := fBool) rfl Try.runUnderlying97 Try.sizeOf4 rfl rfl h27)) rfl ?_
          refine QJ.step (YldS.yld (y_loadR (k := 0) (i := (Int.toNat (UInt8.toNat c24 : Int))) (off := 0) (u := .bool e26) rfl Try.isAgg4 rfl (idx_get h27) rfl)) rfl ?_
          refine QJ.step (YldS.yld (y_not rfl)) rfl ?_
          refine QJ.done ?_
          refine PJ.next ?_
          refine WJ.cond (t := !e26) rfl (fun hb28 => ?_) (fun hb28 => ?_)
          · replace hm := ifT hm hb28
            refine WJ.reg ?_
            refine SJ.q (YldS.yld (y_move rfl)) rfl ?_
            refine SJ.q (YldS.yld (y_move rfl)) rfl ?_
            refine SJ.q (YldS.yld (y_move rfl)) rfl ?_
            obtain ⟨c29, h30, hm⟩ := bindS hm
            refine SJ.q (YldS.yld (y_idxStr Try.runUnderlying9 rfl rfl h30)) rfl ?_
            refine SJ.buildSlice (R := fByte) (os := [.tmp 30]) [c29] Try.runUnderlying22 Try.sizeOf5 Try.zeroValue5 rfl rfl rfl rfl rfl rfl fun v31 => ?_
            obtain ⟨l32, h33, hm⟩ := bindS hm
            refine SJ.append (k := 2) (R := fByte) h33 rfl Try.underlying22 el5 rfl rfl rfl (fun w hw => (hw.row_rd (k := 0) rfl)) rfl fun v34 => ?_
            refine SJ.q (YldS.yld (y_assign rfl)) rfl ?_
            refine SJ.nil ?_
            refine PJ.block_normal ?_
            exact PJ.joined (l32, v34) [1, 2] hm ⟨rfl, rfl, rfl, rfl, rfl, trivial⟩ ⟨by decide, rfl⟩
          · replace hm := ifF hm hb28
            refine WJ.skip ?_
            refine PJ.block_normal ?_
            exact PJ.joined (l16, v17) [0, 1] hm ⟨rfl, rfl, rfl, rfl, rfl, trivial⟩ ⟨by decide, rfl⟩
        · rintro ⟨l20, v21⟩ hm
          subst hk23
          refine WJ.quiet ?_
          refine QJ.step (YldS.yld (y_bin rfl rfl rfl)) rfl ?_
          refine QJ.step (YldS.yld (y_move rfl)) rfl ?_
          refine QJ.done ?_
          exact PJ.round (l20, v21, w64 (x18 + 1)) [0, 1] hm ⟨rfl, rfl, rfl, rfl, rfl, trivial⟩ ⟨by decide, rfl⟩
      · replace hm := ifF hm hb19
        refine WJ.exit ?_
        refine PJ.then_exit (PJ.then_exit (PJ.block_exit ?_))
        exact PJ.joined (l16, v17) [1] hm ⟨rfl, trivial⟩ ⟨by decide, rfl⟩
  · rintro ⟨l12, v13⟩ hm
    subst hk15
    refine WJ.seq ?_
    refine WJ.quiet ?_
    refine QJ.step (YldS.yld (y_move rfl)) rfl ?_
    refine QJ.step (YldS.yld (y_b2s Try.underlying22 Try.underlying9 Try.underlying5 (fun w hw => ⟨_, (hw.row_rd (k := 0) rfl)⟩) rfl)) rfl ?_
    refine QJ.step (YldS.yld (y_assign rfl)) rfl ?_
    refine QJ.done ?_
    refine PJ.next ?_
    refine WJ.ret ?_
    obtain rfl := Option.some.inj hm
    refine PJ.sel (L' := []) [] ⟨List.nodup_nil, rfl⟩ ?_
    exact PJ.retn (vs := [str l12]) Try.results105 ⟨rfl, trivial⟩ ⟨rfl, rfl⟩

set_option maxRecDepth 100000 in
set_option maxHeartbeats 1000000 in
theorem ok_i_LettersLeft {N : Nat} {list1 : List Drill} {some4 : List Int} {letters7 : Str} {r : Str × Int} (hm : i_LettersLeft N list1 some4 letters7 = some r) (w : World) (v2 : Value) (hr3 : RdS w (cx w).Fz v2 fDrill.rp list1) (v5 : Value) (hr6 : RdS w (cx w).Fz v5 fI64.rp some4) :
    Calls Try.prog 56 #[v2, v5, str letters7] w (Ret (cx w) (tup [str r.1, .int .i64 r.2])) := by
  unfold i_LettersLeft at hm
  refine Calls.enter [v2, v5, str letters7] Try.func56 rfl Try.ntmps56 rfl ?_
  refine WJ.seq ?_
  refine WJ.quiet ?_
  refine QJ.step (YldS.yld (y_assign rfl)) rfl ?_
  refine QJ.step (YldS.yld (y_assign rfl)) rfl ?_
  refine QJ.done ?_
  refine PJ.next ?_
  refine WJ.seq ?_
  refine WJ.seq ?_
  refine WJ.quiet ?_
  refine QJ.step (YldS.yld (y_move rfl)) rfl ?_
  obtain ⟨r8, h9, hm⟩ := bindS hm
  refine QJ.step (y_call Try.call97 rfl (RetG.quiet fun w hw => ok_i_ValidDrills h9 w _ (hr3.st hw))) rfl ?_
  refine QJ.step (YldS.yld (y_not rfl)) rfl ?_
  refine QJ.step (YldS.yld (y_move rfl)) rfl ?_
  obtain ⟨t10, h11, hm⟩ := bindS hm
  refine QJ.cut 4 [(0, v2), (1, v5), (2, str letters7), (15, .bool t10)] ?_ ?_
  · rcases Bool.eq_false_or_eq_true (!r8) with hb12 | hb12
    · obtain rfl := orT h11 hb12
      refine QJ.off rfl rfl (cB hb12) rfl rfl ?_
      refine QJ.off rfl rfl (cB hb12) rfl rfl ?_
      refine QJ.off rfl rfl (cB hb12) rfl rfl ?_
      refine QJ.step (YldS.yld (y_pick_t (cB hb12) rfl)) rfl ?_
      exact QJ.cut_end ⟨rfl, rfl, rfl, rfl, trivial⟩
    · replace h11 := orF h11 hb12
      refine QJ.on rfl rfl (cB hb12) (YldS.yld (y_move rfl)) rfl ?_
      obtain ⟨r13, h14, h11⟩ := bindS h11
      refine QJ.on rfl rfl (cB hb12) (y_call Try.call104 rfl (RetG.quiet fun w hw => ok_i_areNeeded h14 w )) rfl ?_
      refine QJ.on rfl rfl (cB hb12) (YldS.yld (y_not rfl)) rfl ?_
      refine QJ.step (YldS.yld (y_pick_f (cB hb12) rfl)) rfl ?_
      obtain rfl := Option.some.inj h11
      exact QJ.cut_end ⟨rfl, rfl, rfl, rfl, trivial⟩
  refine QJ.done ?_
  refine PJ.next ?_
  refine WJ.cond (t := t10) rfl (fun hb15 => ?_) (fun hb15 => ?_)
  · replace hm := ifT hm hb15
    refine WJ.seq ?_
    refine WJ.quiet ?_
    refine QJ.step (YldS.yld (y_assign rfl)) rfl ?_
    refine QJ.step (YldS.yld (y_assign rfl)) rfl ?_
    refine QJ.done ?_
    refine PJ.next ?_
    refine WJ.ret ?_
    refine PJ.then_ret ?_
    obtain rfl := Option.some.inj hm
    refine PJ.sel (L' := []) [] ⟨List.nodup_nil, rfl⟩ ?_
    exact PJ.retn (vs := [str [], .int .i64 1]) Try.results56 ⟨rfl, rfl, trivial⟩ ⟨rfl, rfl⟩
  · replace hm := ifF hm hb15
    refine WJ.skip ?_
    refine PJ.next ?_
    refine WJ.seq ?_
    refine WJ.seq ?_
    refine WJ.quiet ?_
    refine QJ.step (YldS.yld (y_move rfl)) rfl ?_
    refine QJ.step (YldS.yld (y_move rfl)) rfl ?_
    refine QJ.step (YldS.yld (y_lenS Try.runUnderlying70 hr3 rfl)) rfl ?_
    obtain ⟨r16, h17, hm⟩ := bindS hm
    refine QJ.step (y_call Try.call103 rfl (RetG.quiet fun w hw => ok_i_areIndices h17 w _ (hr6.st hw))) rfl ?_
    refine QJ.step (YldS.yld (y_not rfl)) rfl ?_
    refine QJ.done ?_
    refine PJ.next ?_
    refine WJ.cond (t := !r16) rfl (fun hb18 => ?_) (fun hb18 => ?_)
    · replace hm := ifT hm hb18
      refine WJ.seq ?_
      refine WJ.quiet ?_
      refine QJ.step (YldS.yld (y_assign rfl)) rfl ?_
      refine QJ.step (YldS.yld (y_assign rfl)) rfl ?_
      refine QJ.done ?_
      refine PJ.next ?_
      refine WJ.ret ?_
      refine PJ.then_ret ?_
      obtain rfl := Option.some.inj hm
      refine PJ.sel (L' := []) [] ⟨List.nodup_nil, rfl⟩ ?_
      exact PJ.retn (vs := [str [], .int .i64 2]) Try.results56 ⟨rfl, rfl, trivial⟩ ⟨rfl, rfl⟩
    · replace hm := ifF hm hb18
      refine WJ.skip ?_
      refine PJ.next ?_
      refine WJ.seq ?_
      refine WJ.quiet ?_
      refine QJ.step (YldS.yld (y_move rfl)) rfl ?_
      refine QJ.step (YldS.yld (y_move rfl)) rfl ?_
      refine QJ.step (YldS.yld (y_move rfl)) rfl ?_
      obtain ⟨r19, h20, hm⟩ := bindS hm
      refine QJ.step (y_call Try.call105 rfl (RetG.quiet fun w hw => ok_i_left h20 w _ (hr3.st hw) _ (hr6.st hw))) rfl ?_
      refine QJ.step (YldS.yld (y_assign rfl)) rfl ?_
      refine QJ.step (YldS.yld (y_assign rfl)) rfl ?_
      refine QJ.done ?_
      refine PJ.next ?_
      refine WJ.ret ?_
      obtain rfl := Option.some.inj hm
      refine PJ.sel (L' := []) [] ⟨List.nodup_nil, rfl⟩ ?_
      exact PJ.retn (vs := [str r19, .int .i64 0]) Try.results56 ⟨rfl, rfl, trivial⟩ ⟨rfl, rfl⟩

set_option maxRecDepth 100000 in
set_option maxHeartbeats 1000000 in
theorem ok_w_a2Sum {N : Nat} {list1 : List Int} {r : Int} (hm : w_a2Sum N list1 = some r) (w : World) (v2 : Value) (hr3 : RdS w (cx w).Fz v2 fI64.rp list1) :
    Calls Try.prog 23 #[v2] w (Ret (cx w) (.int .i64 r)) := by
  unfold w_a2Sum at hm
  refine Calls.enter [v2] Try.func23 rfl Try.ntmps23 rfl ?_
  refine WJ.seq ?_
  refine WJ.quiet ?_
  refine QJ.step (YldS.yld (y_assign rfl)) rfl ?_
  refine QJ.done ?_
  refine PJ.next ?_
  refine WJ.seq ?_
  refine WJ.quiet ?_
  refine QJ.step (YldS.yld (y_assign rfl)) rfl ?_
  refine QJ.done ?_
  refine PJ.next ?_
  obtain ⟨kj5, hk6, hm⟩ := withK_open hm
  refine WJ.join (X := Int) (fun (x : Int) => kj5 x = some r) (fun (x : Int) => [(3, .int .i64 x)]) (fun (x : Int) => []) ?_ ?_
  · clear hk6
    refine WJ.seq ?_
    refine WJ.quiet ?_
    refine QJ.step (YldS.yld (y_assign rfl)) rfl ?_
    refine QJ.done ?_
    refine PJ.next ?_
    refine WJ.block ?_
    refine WJ.sel (L' := (fun (x : Int × Int) => []) (0, 0)) [] ⟨List.nodup_nil, rfl⟩ ?_
    refine WJ.sub (m' := (fun (x : Int × Int) => [(0, v2), (3, .int .i64 x.1), (4, .int .i64 x.2)]) (0, 0)) ⟨rfl, rfl, rfl, trivial⟩ ?_
    refine WJ.loop (X := Int × Int) (fun N (x : Int × Int) => w_a2Sum_l1 kj5 list1 N x.1 x.2 = some r) (fun (x : Int × Int) => [(0, v2), (3, .int .i64 x.1), (4, .int .i64 x.2)]) (fun (x : Int × Int) => []) ?_ N (0, 0) hm
    · rintro N ⟨sum7, i8⟩ hI
      have hm := hI; clear hI
      cases N with
      | zero => cases hm
      | succ N =>
      unfold w_a2Sum_l1 at hm
      refine WJ.seq ?_
      refine WJ.seq ?_
      refine WJ.quiet ?_
      refine QJ.step (YldS.yld (y_move rfl)) rfl ?_
      refine QJ.step (YldS.yld (y_move rfl)) rfl ?_
      refine QJ.step (YldS.yld (y_lenS Try.runUnderlying24 hr3 rfl)) rfl ?_
      refine QJ.step (YldS.yld (y_bin rfl rfl rfl)) rfl ?_
      refine QJ.done ?_
      refine PJ.next ?_
      refine WJ.cond (t := decide (i8 < (List.length list1 : Int))) rfl (fun hb9 => ?_) (fun hb9 => ?_)
      · replace hm := ifT hm hb9
        refine WJ.skip ?_
        refine PJ.next ?_
        refine WJ.seq ?_
        refine WJ.block ?_
        refine WJ.quiet ?_
        refine QJ.step (YldS.yld (y_move rfl)) rfl ?_
        refine QJ.step (YldS.yld (y_move rfl)) rfl ?_
        refine QJ.step (YldS.yld (y_move rfl)) rfl ?_
        obtain ⟨e10, h11, hm⟩ := bindS hm
        obtain ⟨ad12, _, rfl, ha13, hy14⟩ := hr3.elem h11
        refine QJ.step (YldS.yld (hy14 Try.runUnderlying24 Try.sizeOf2 rfl rfl)) rfl ?_
        refine QJ.step (YldS.yld (y_load1 (v := .int .i64 e10) Try.isAgg2 ha13 St.frozenC rfl)) rfl ?_
        refine QJ.step (YldS.yld (y_bin rfl rfl rfl)) rfl ?_
        refine QJ.step (YldS.yld (y_assign rfl)) rfl ?_
        refine QJ.done ?_
        refine PJ.block_normal (PJ.next ?_)
        refine WJ.quiet ?_
        refine QJ.step (YldS.yld (y_move rfl)) rfl ?_
        refine QJ.step (YldS.yld (y_bin rfl rfl rfl)) rfl ?_
        refine QJ.step (YldS.yld (y_assign rfl)) rfl ?_
        refine QJ.done ?_
        exact PJ.round (w64 (sum7 + e10), w64 (i8 + 1)) [] hm ⟨rfl, rfl, rfl, trivial⟩ ⟨List.nodup_nil, rfl⟩
      · replace hm := ifF hm hb9
        refine WJ.exit ?_
        refine PJ.then_exit (PJ.then_exit (PJ.block_exit ?_))
        exact PJ.joined sum7 [] hm ⟨rfl, trivial⟩ ⟨List.nodup_nil, rfl⟩
  · rintro sum4 hm
    subst hk6
    refine WJ.seq ?_
    refine WJ.quiet ?_
    refine QJ.step (YldS.yld (y_move rfl)) rfl ?_
    refine QJ.step (YldS.yld (y_assign rfl)) rfl ?_
    refine QJ.done ?_
    refine PJ.next ?_
    refine WJ.ret ?_
    obtain rfl := Option.some.inj hm
    refine PJ.sel (L' := []) [] ⟨List.nodup_nil, rfl⟩ ?_
    exact PJ.retn (vs := [.int .i64 sum4]) Try.results23 ⟨rfl, trivial⟩ ⟨rfl, rfl⟩

set_option maxRecDepth 100000 in
set_option maxHeartbeats 1000000 in
theorem ok_i_FewestDrills {N : Nat} {list1 : List Drill} {letters4 : Str} {r : (List Int) × Int} (hm : i_FewestDrills N list1 letters4 = some r) (w : World) (v2 : Value) (hr3 : RdS w (cx w).Fz v2 fDrill.rp list1) :
    Calls Try.prog 57 #[v2, str letters4] w (RetG (cx w) fun u L => ∃ (u1 : Value), (u = tup [u1, .int .i64 r.2] ∧ L = [row u1 2 fI64 r.1])) := by
  unfold i_FewestDrills at hm
  refine Calls.enter [v2, str letters4] Try.func57 rfl Try.ntmps57 rfl ?_
  refine WJ.seq ?_
  refine WJ.quiet ?_
  refine QJ.step (YldS.yld (y_assign rfl)) rfl ?_
  refine QJ.step (YldS.yld (y_assign rfl)) rfl ?_
  refine QJ.done ?_
  refine PJ.next ?_
  refine WJ.seq ?_
  refine WJ.seq ?_
  refine WJ.quiet ?_
  refine QJ.step (YldS.yld (y_move rfl)) rfl ?_
  obtain ⟨r5, h6, hm⟩ := bindS hm
  refine QJ.step (y_call Try.call97 rfl (RetG.quiet fun w hw => ok_i_ValidDrills h6 w _ (hr3.st hw))) rfl ?_
  refine QJ.step (YldS.yld (y_not rfl)) rfl ?_
  refine QJ.step (YldS.yld (y_move rfl)) rfl ?_
  obtain ⟨t7, h8, hm⟩ := bindS hm
  refine QJ.cut 4 [(0, v2), (1, str letters4), (17, .bool t7)] ?_ ?_
  · rcases Bool.eq_false_or_eq_true (!r5) with hb9 | hb9
    · obtain rfl := orT h8 hb9
      refine QJ.off rfl rfl (cB hb9) rfl rfl ?_
      refine QJ.off rfl rfl (cB hb9) rfl rfl ?_
      refine QJ.off rfl rfl (cB hb9) rfl rfl ?_
      refine QJ.step (YldS.yld (y_pick_t (cB hb9) rfl)) rfl ?_
      exact QJ.cut_end ⟨rfl, rfl, rfl, trivial⟩
    · replace h8 := orF h8 hb9
      refine QJ.on rfl rfl (cB hb9) (YldS.yld (y_move rfl)) rfl ?_
      obtain ⟨r10, h11, h8⟩ := bindS h8
      refine QJ.on rfl rfl (cB hb9) (y_call Try.call104 rfl (RetG.quiet fun w hw => ok_i_areNeeded h11 w )) rfl ?_
      refine QJ.on rfl rfl (cB hb9) (YldS.yld (y_not rfl)) rfl ?_
      refine QJ.step (YldS.yld (y_pick_f (cB hb9) rfl)) rfl ?_
      obtain rfl := Option.some.inj h8
      exact QJ.cut_end ⟨rfl, rfl, rfl, trivial⟩
  refine QJ.done ?_
  refine PJ.next ?_
  refine WJ.cond (t := t7) rfl (fun hb12 => ?_) (fun hb12 => ?_)
  · replace hm := ifT hm hb12
    refine WJ.seq ?_
    refine WJ.quiet ?_
    refine QJ.step (YldS.yld (y_assign rfl)) rfl ?_
    refine QJ.step (YldS.yld (y_assign rfl)) rfl ?_
    refine QJ.done ?_
    refine PJ.next ?_
    refine WJ.ret ?_
    refine PJ.then_ret ?_
    refine PJ.nil_row 2 fI64 ?_
    obtain rfl := Option.some.inj hm
    refine PJ.sel (L' := [row (.slice none 0 0) 2 fI64 []]) [0] ⟨by decide, rfl⟩ ?_
    exact PJ.retn (vs := [(.slice none 0 0), .int .i64 1]) Try.results57 ⟨rfl, rfl, trivial⟩ ⟨_, rfl, rfl⟩
  · replace hm := ifF hm hb12
    refine WJ.skip ?_
    refine PJ.next ?_
    refine WJ.seq ?_
    refine WJ.reg ?_
    refine SJ.buildSlice (R := fI64) (os := []) [] Try.runUnderlying24 Try.sizeOf2 Try.zeroValue2 rfl rfl rfl rfl rfl rfl fun v13 => ?_
    refine SJ.q (YldS.yld (y_assign rfl)) rfl ?_
    refine SJ.q (YldS.yld (y_assign rfl)) rfl ?_
    refine SJ.nil ?_
    refine PJ.next ?_
    obtain ⟨kj17, hk18, hm⟩ := withK_open hm
    refine WJ.join (X := (List Int) × Value × Bool) (fun (x : (List Int) × Value × Bool) => kj17 x.1 x.2.2 = some r) (fun (x : (List Int) × Value × Bool) => [(6, x.2.1), (7, .bool x.2.2)]) (fun (x : (List Int) × Value × Bool) => [row x.2.1 2 fI64 x.1]) ?_ ?_
    · clear hk18
      refine WJ.seq ?_
      refine WJ.quiet ?_
      refine QJ.step (YldS.yld (y_move rfl)) rfl ?_
      refine QJ.step (YldS.yld (y_lenS Try.runUnderlying70 hr3 rfl)) rfl ?_
      obtain ⟨q19, h20, hm⟩ := bindS hm
      refine QJ.step (YldS.yld (y_shl' h20 rfl rfl)) rfl ?_
      refine QJ.step (YldS.yld (y_move rfl)) rfl ?_
      refine QJ.done ?_
      refine PJ.next ?_
      refine WJ.block ?_
      refine WJ.sel (L' := (fun (x : (List Int) × Value × Bool × Int) => [row x.2.1 2 fI64 x.1]) ([], v13, false, 0)) [0] ⟨by decide, rfl⟩ ?_
      refine WJ.sub (m' := (fun (x : (List Int) × Value × Bool × Int) => [(0, v2), (1, str letters4), (6, x.2.1), (7, .bool x.2.2.1), (21, .int .i64 q19), (22, .int .i64 x.2.2.2)]) ([], v13, false, 0)) ⟨rfl, rfl, rfl, rfl, rfl, rfl, trivial⟩ ?_
      refine WJ.loop (X := (List Int) × Value × Bool × Int) (fun N (x : (List Int) × Value × Bool × Int) => i_FewestDrills_l1 kj17 list1 letters4 q19 N x.1 x.2.2.1 x.2.2.2 = some r) (fun (x : (List Int) × Value × Bool × Int) => [(0, v2), (1, str letters4), (6, x.2.1), (7, .bool x.2.2.1), (21, .int .i64 q19), (22, .int .i64 x.2.2.2)]) (fun (x : (List Int) × Value × Bool × Int) => [row x.2.1 2 fI64 x.1]) ?_ N ([], v13, false, 0) hm
      · rintro N ⟨l21, v22, found23, x24⟩ hI
        have hm := hI; clear hI
        cases N with
        | zero => cases hm
        | succ N =>
        unfold i_FewestDrills_l1 at hm
        refine WJ.seq ?_
        refine WJ.quiet ?_
        refine QJ.step (YldS.yld (y_bin rfl rfl rfl)) rfl ?_
        refine QJ.done ?_
        refine PJ.next ?_
        refine WJ.seq ?_
        refine WJ.cond (t := decide (x24 < q19)) rfl (fun hb25 => ?_) (fun hb25 => ?_)
        · replace hm := ifT hm hb25
          refine WJ.skip ?_
          refine PJ.next ?_
          obtain ⟨kj29, hk30, hm⟩ := withK_open hm
          refine WJ.join (X := (List Int) × Value × Bool) (fun (x : (List Int) × Value × Bool) => kj29 x.1 x.2.2 = some r) (fun (x : (List Int) × Value × Bool) => [(0, v2), (1, str letters4), (6, x.2.1), (7, .bool x.2.2), (21, .int .i64 q19), (22, .int .i64 x24)]) (fun (x : (List Int) × Value × Bool) => [row x.2.1 2 fI64 x.1]) ?_ ?_
          · clear hk30
            refine WJ.block ?_
            refine WJ.seq ?_
            refine WJ.quiet ?_
            refine QJ.step (YldS.yld (y_move rfl)) rfl ?_
            refine QJ.step (YldS.yld (y_assign rfl)) rfl ?_
            refine QJ.done ?_
            refine PJ.next ?_
            refine WJ.seq ?_
            refine WJ.reg ?_
            refine SJ.q (YldS.yld (y_move rfl)) rfl ?_
            refine SJ.q (YldS.yld (y_move rfl)) rfl ?_
            refine SJ.q (YldS.yld (y_lenS Try.runUnderlying70 hr3 rfl)) rfl ?_
            obtain ⟨r31, h32, hm⟩ := bindS hm
            refine SJ.call Try.call99 rfl (fun w hw => ok_i_chosen h32 w ) rfl ?_
            rintro v33 _ ⟨_, rfl, rfl⟩
            refine SJ.q (YldS.yld (y_assign rfl)) rfl ?_
            refine SJ.nil ?_
            refine PJ.next ?_
            refine WJ.seq ?_
            refine WJ.seq ?_
            refine WJ.quiet ?_
            refine QJ.step (YldS.yld (y_move rfl)) rfl ?_
            refine QJ.step (YldS.yld (y_move rfl)) rfl ?_
            refine QJ.step (YldS.yld (y_move rfl)) rfl ?_
            obtain ⟨r34, h35, hm⟩ := bindS hm
            refine QJ.step (y_call Try.call105 rfl (RetG.quiet fun w hw => ok_i_left h35 w _ (hr3.st hw) _ (hw.row_rd (k := 0) rfl))) rfl ?_
            refine QJ.step (YldS.yld (y_binS rfl rfl rfl)) rfl ?_
            refine QJ.done ?_
            refine PJ.next ?_
            refine WJ.cond (t := (r34 != [])) rfl (fun hb36 => ?_) (fun hb36 => ?_)
            · replace hm := ifT hm hb36
              refine WJ.exit ?_
              refine PJ.then_exit (PJ.block_exit ?_)
              exact PJ.joined (l21, v22, found23) [1] hm ⟨rfl, rfl, rfl, rfl, rfl, rfl, trivial⟩ ⟨by decide, rfl⟩
            · replace hm := ifF hm hb36
              refine WJ.skip ?_
              refine PJ.next ?_
              refine WJ.seq ?_
              refine WJ.quiet ?_
              refine QJ.step (YldS.yld (y_move rfl)) rfl ?_
              refine QJ.step (YldS.yld (y_not rfl)) rfl ?_
              refine QJ.step (YldS.yld (y_move rfl)) rfl ?_
              obtain ⟨t37, h38, hm⟩ := bindS hm
              refine QJ.cut 6 [(0, v2), (1, str letters4), (6, v22), (7, .bool found23), (9, v33), (21, .int .i64 q19), (22, .int .i64 x24), (42, .bool t37)] ?_ ?_
              · rcases Bool.eq_false_or_eq_true (!found23) with hb39 | hb39
                · obtain rfl := orT h38 hb39
                  refine QJ.off rfl rfl (cB hb39) rfl rfl ?_
                  refine QJ.off rfl rfl (cB hb39) rfl rfl ?_
                  refine QJ.off rfl rfl (cB hb39) rfl rfl ?_
                  refine QJ.off rfl rfl (cB hb39) rfl rfl ?_
                  refine QJ.off rfl rfl (cB hb39) rfl rfl ?_
                  refine QJ.step (YldS.yld (y_pick_t (cB hb39) rfl)) rfl ?_
                  exact QJ.cut_end ⟨rfl, rfl, rfl, rfl, rfl, rfl, rfl, rfl, trivial⟩
                · replace h38 := orF h38 hb39
                  refine QJ.on rfl rfl (cB hb39) (YldS.yld (y_move rfl)) rfl ?_
                  refine QJ.on rfl rfl (cB hb39) (YldS.yld (y_lenRow (k := 0) rfl Try.runUnderlying24 rfl)) rfl ?_
                  refine QJ.on rfl rfl (cB hb39) (YldS.yld (y_move rfl)) rfl ?_
                  refine QJ.on rfl rfl (cB hb39) (YldS.yld (y_lenRow (k := 1) rfl Try.runUnderlying24 rfl)) rfl ?_
                  refine QJ.on rfl rfl (cB hb39) (YldS.yld (y_bin rfl rfl rfl)) rfl ?_
                  refine QJ.step (YldS.yld (y_pick_f (cB hb39) rfl)) rfl ?_
                  obtain rfl := Option.some.inj h38
                  exact QJ.cut_end ⟨rfl, rfl, rfl, rfl, rfl, rfl, rfl, rfl, trivial⟩
              refine QJ.step (YldS.yld (y_move rfl)) rfl ?_
              obtain ⟨t40, h41, hm⟩ := bindS hm
              refine QJ.cut 12 [(0, v2), (1, str letters4), (6, v22), (7, .bool found23), (9, v33), (21, .int .i64 q19), (22, .int .i64 x24), (55, .bool t40)] ?_ ?_
              · rcases Bool.eq_false_or_eq_true t37 with hb42 | hb42
                · obtain rfl := orT h41 hb42
                  refine QJ.off rfl rfl (cB hb42) rfl rfl ?_
                  refine QJ.off rfl rfl (cB hb42) rfl rfl ?_
                  refine QJ.off rfl rfl (cB hb42) rfl rfl ?_
                  refine QJ.off rfl rfl (cB hb42) rfl rfl ?_
                  refine QJ.off rfl rfl (cB hb42) rfl rfl ?_
                  refine QJ.off rfl rfl (cB hb42) rfl rfl ?_
                  refine QJ.off_undef rfl rfl rfl rfl ?_
                  refine QJ.off_undef rfl rfl rfl rfl ?_
                  refine QJ.off_undef rfl rfl rfl rfl ?_
                  refine QJ.off_undef rfl rfl rfl rfl ?_
                  refine QJ.off rfl rfl (cB hb42) rfl rfl ?_
                  refine QJ.step (YldS.yld (y_pick_t (cB hb42) rfl)) rfl ?_
                  exact QJ.cut_end ⟨rfl, rfl, rfl, rfl, rfl, rfl, rfl, rfl, trivial⟩
                · replace h41 := orF h41 hb42
                  refine QJ.on rfl rfl (cB hb42) (YldS.yld (y_move rfl)) rfl ?_
                  refine QJ.on rfl rfl (cB hb42) (YldS.yld (y_lenRow (k := 0) rfl Try.runUnderlying24 rfl)) rfl ?_
                  refine QJ.on rfl rfl (cB hb42) (YldS.yld (y_move rfl)) rfl ?_
                  refine QJ.on rfl rfl (cB hb42) (YldS.yld (y_lenRow (k := 1) rfl Try.runUnderlying24 rfl)) rfl ?_
                  refine QJ.on rfl rfl (cB hb42) (YldS.yld (y_bin rfl rfl rfl)) rfl ?_
                  refine QJ.on rfl rfl (cB hb42) (YldS.yld (y_move rfl)) rfl ?_
                  obtain ⟨t43, h44, h41⟩ := bindS h41
                  refine QJ.cut 5 [(0, v2), (1, str letters4), (6, v22), (7, .bool found23), (9, v33), (21, .int .i64 q19), (22, .int .i64 x24), (43, .bool t37), (44, v33), (45, .int .i64 (List.length r31 : Int)), (46, v22), (47, .int .i64 (List.length l21 : Int)), (48, .bool ((List.length r31 : Int) == (List.length l21 : Int))), (49, .bool ((List.length r31 : Int) == (List.length l21 : Int))), (54, .bool t43)] ?_ ?_
                  · rcases Bool.eq_false_or_eq_true ((List.length r31 : Int) == (List.length l21 : Int)) with hb45 | hb45
                    · replace h44 := andT h44 hb45
                      refine QJ.on rfl rfl (cB hb45) (YldS.yld (y_move rfl)) rfl ?_
                      refine QJ.on rfl rfl (cB hb45) (YldS.yld (y_move rfl)) rfl ?_
                      obtain ⟨r46, h47, h44⟩ := bindS h44
                      refine QJ.on rfl rfl (cB hb45) (y_call Try.call102 rfl (RetG.quiet fun w hw => ok_i_compareNumbers h47 w _ (hw.row_rd (k := 0) rfl) _ (hw.row_rd (k := 1) rfl))) rfl ?_
                      refine QJ.on rfl rfl (cB hb45) (YldS.yld (y_bin rfl rfl rfl)) rfl ?_
                      refine QJ.on rfl rfl (cB hb42) (YldS.yld (y_pick_t (cB hb45) rfl)) rfl ?_
                      obtain rfl := Option.some.inj h44
                      exact QJ.cut_end ⟨rfl, rfl, rfl, rfl, rfl, rfl, rfl, rfl, rfl, rfl, rfl, rfl, rfl, rfl, rfl, trivial⟩
                    · obtain rfl := andF h44 hb45
                      refine QJ.off rfl rfl (cB hb45) rfl rfl ?_
                      refine QJ.off rfl rfl (cB hb45) rfl rfl ?_
                      refine QJ.off rfl rfl (cB hb45) rfl rfl ?_
                      refine QJ.off rfl rfl (cB hb45) rfl rfl ?_
                      refine QJ.on rfl rfl (cB hb42) (YldS.yld (y_pick_f (cB hb45) rfl)) rfl ?_
                      exact QJ.cut_end ⟨rfl, rfl, rfl, rfl, rfl, rfl, rfl, rfl, rfl, rfl, rfl, rfl, rfl, rfl, rfl, trivial⟩
                  refine QJ.step (YldS.yld (y_pick_f (cB hb42) rfl)) rfl ?_
                  obtain rfl := Option.some.inj h41
                  exact QJ.cut_end ⟨rfl, rfl, rfl, rfl, rfl, rfl, rfl, rfl, trivial⟩
              refine QJ.done ?_
              refine PJ.next ?_
              refine WJ.cond (t := t40) rfl (fun hb48 => ?_) (fun hb48 => ?_)
              · replace hm := ifT hm hb48
                refine WJ.quiet ?_
                refine QJ.step (YldS.yld (y_move rfl)) rfl ?_
                refine QJ.step (YldS.yld (y_assign rfl)) rfl ?_
                refine QJ.step (YldS.yld (y_assign rfl)) rfl ?_
                refine QJ.done ?_
                refine PJ.block_normal ?_
                exact PJ.joined (r31, v33, true) [0] hm ⟨rfl, rfl, rfl, rfl, rfl, rfl, trivial⟩ ⟨by decide, rfl⟩
              · replace hm := ifF hm hb48
                refine WJ.skip ?_
                refine PJ.block_normal ?_
                exact PJ.joined (l21, v22, found23) [1] hm ⟨rfl, rfl, rfl, rfl, rfl, rfl, trivial⟩ ⟨by decide, rfl⟩
          · rintro ⟨l26, v27, found28⟩ hm
            subst hk30
            refine WJ.quiet ?_
            refine QJ.step (YldS.yld (y_bin rfl rfl rfl)) rfl ?_
            refine QJ.step (YldS.yld (y_move rfl)) rfl ?_
            refine QJ.done ?_
            exact PJ.round (l26, v27, found28, w64 (x24 + 1)) [0] hm ⟨rfl, rfl, rfl, rfl, rfl, rfl, trivial⟩ ⟨by decide, rfl⟩
        · replace hm := ifF hm hb25
          refine WJ.exit ?_
          refine PJ.then_exit (PJ.then_exit (PJ.block_exit ?_))
          exact PJ.joined (l21, v22, found23) [0] hm ⟨rfl, rfl, trivial⟩ ⟨by decide, rfl⟩
    · rintro ⟨l14, v15, found16⟩ hm
      subst hk18
      refine WJ.seq ?_
      refine WJ.seq ?_
      refine WJ.quiet ?_
      refine QJ.step (YldS.yld (y_move rfl)) rfl ?_
      refine QJ.step (YldS.yld (y_not rfl)) rfl ?_
      refine QJ.done ?_
      refine PJ.next ?_
      refine WJ.cond (t := !found16) rfl (fun hb49 => ?_) (fun hb49 => ?_)
      · replace hm := ifT hm hb49
        refine WJ.seq ?_
        refine WJ.quiet ?_
        refine QJ.step (YldS.yld (y_assign rfl)) rfl ?_
        refine QJ.step (YldS.yld (y_assign rfl)) rfl ?_
        refine QJ.done ?_
        refine PJ.next ?_
        refine WJ.ret ?_
        refine PJ.then_ret ?_
        refine PJ.nil_row 2 fI64 ?_
        obtain rfl := Option.some.inj hm
        refine PJ.sel (L' := [row (.slice none 0 0) 2 fI64 []]) [0] ⟨by decide, rfl⟩ ?_
        exact PJ.retn (vs := [(.slice none 0 0), .int .i64 3]) Try.results57 ⟨rfl, rfl, trivial⟩ ⟨_, rfl, rfl⟩
      · replace hm := ifF hm hb49
        refine WJ.skip ?_
        refine PJ.next ?_
        refine WJ.seq ?_
        refine WJ.quiet ?_
        refine QJ.step (YldS.yld (y_move rfl)) rfl ?_
        refine QJ.step (YldS.yld (y_assign rfl)) rfl ?_
        refine QJ.step (YldS.yld (y_assign rfl)) rfl ?_
        refine QJ.done ?_
        refine PJ.next ?_
        refine WJ.ret ?_
        obtain rfl := Option.some.inj hm
        refine PJ.sel (L' := [row v15 2 fI64 l14]) [0] ⟨by decide, rfl⟩ ?_
        exact PJ.retn (vs := [v15, .int .i64 0]) Try.results57 ⟨rfl, rfl, trivial⟩ ⟨_, rfl, rfl⟩

set_option maxRecDepth 100000 in
set_option maxHeartbeats 1000000 in
theorem ok_s_l05Index {N : Nat} {s1 : Str} {c2 : UInt8} {r : Int} (hm : s_l05Index N s1 c2 = some r) (w : World)  :
    Calls Try.prog 159 #[str s1, .int .u8 (UInt8.toNat c2 : Int)] w (Ret (cx w) (.int .i64 r)) := by
  unfold s_l05Index at hm
  refine Calls.enter [str s1, .int .u8 (UInt8.toNat c2 : Int)] Try.func159 rfl Try.ntmps159 rfl ?_
  refine WJ.seq ?_
  refine WJ.quiet ?_
  refine QJ.step (YldS.yld (y_assign rfl)) rfl ?_
  refine QJ.done ?_
  refine PJ.next ?_
  obtain ⟨kj3, hk4, hm⟩ := withK_open hm
  refine WJ.join (X := Unit) (fun (_ : Unit) => kj3  = some r) (fun (_ : Unit) => []) (fun (_ : Unit) => []) ?_ ?_
  · clear hk4
    refine WJ.seq ?_
    refine WJ.quiet ?_
    refine QJ.step (YldS.yld (y_assign rfl)) rfl ?_
    refine QJ.done ?_
    refine PJ.next ?_
    refine WJ.block ?_
    refine WJ.sel (L' := (fun (x : Int) => []) 0) [] ⟨List.nodup_nil, rfl⟩ ?_
    refine WJ.sub (m' := (fun (x : Int) => [(0, str s1), (1, .int .u8 (UInt8.toNat c2 : Int)), (5, .int .i64 x)]) 0) ⟨rfl, rfl, rfl, trivial⟩ ?_
    refine WJ.loop (X := Int) (fun N (x : Int) => s_l05Index_l1 kj3 s1 c2 N x = some r) (fun (x : Int) => [(0, str s1), (1, .int .u8 (UInt8.toNat c2 : Int)), (5, .int .i64 x)]) (fun (x : Int) => []) ?_ N 0 hm
    · rintro N i5 hI
      have hm := hI; clear hI
      cases N with
      | zero => cases hm
      | succ N =>
      unfold s_l05Index_l1 at hm
      refine WJ.seq ?_
      refine WJ.seq ?_
      refine WJ.quiet ?_
      refine QJ.step (YldS.yld (y_move rfl)) rfl ?_
      refine QJ.step (YldS.yld (y_move rfl)) rfl ?_
      refine QJ.step (YldS.yld (y_lenStr Try.runUnderlying9 rfl)) rfl ?_
      refine QJ.step (YldS.yld (y_bin rfl rfl rfl)) rfl ?_
      refine QJ.done ?_
      refine PJ.next ?_
      refine WJ.cond (t := decide (i5 < (List.length s1 : Int))) rfl (fun hb6 => ?_) (fun hb6 => ?_)
      · replace hm := ifT hm hb6
        refine WJ.skip ?_
        refine PJ.next ?_
        refine WJ.seq ?_
        refine WJ.block ?_
        refine WJ.seq ?_
        refine WJ.quiet ?_
        refine QJ.step (YldS.yld (y_move rfl)) rfl ?_
        refine QJ.step (YldS.yld (y_move rfl)) rfl ?_
        obtain ⟨c7, h8, hm⟩ := bindS hm
        refine QJ.step (YldS.yld (y_idxStr Try.runUnderlying9 rfl rfl h8)) rfl ?_
        refine QJ.step (YldS.yld (y_move rfl)) rfl ?_
        refine QJ.step (YldS.yld (y_bin8 c7 c2 rfl rfl rfl)) rfl ?_
        refine QJ.done ?_
        refine PJ.next ?_
        refine WJ.cond (t := (c7 == c2)) rfl (fun hb9 => ?_) (fun hb9 => ?_)
        · replace hm := ifT hm hb9
          refine WJ.seq ?_
          refine WJ.quiet ?_
          refine QJ.step (YldS.yld (y_move rfl)) rfl ?_
          refine QJ.step (YldS.yld (y_assign rfl)) rfl ?_
          refine QJ.done ?_
          refine PJ.next ?_
          refine WJ.ret ?_
          refine PJ.block_ret (PJ.then_ret (PJ.then_ret (PJ.block_ret (PJ.then_ret ?_))))
          obtain rfl := Option.some.inj hm
          refine PJ.sel (L' := []) [] ⟨List.nodup_nil, rfl⟩ ?_
          exact PJ.retn (vs := [.int .i64 i5]) Try.results159 ⟨rfl, trivial⟩ ⟨rfl, rfl⟩
        · replace hm := ifF hm hb9
          refine WJ.skip ?_
          refine PJ.block_normal (PJ.next ?_)
          refine WJ.quiet ?_
          refine QJ.step (YldS.yld (y_move rfl)) rfl ?_
          refine QJ.step (YldS.yld (y_bin rfl rfl rfl)) rfl ?_
          refine QJ.step (YldS.yld (y_assign rfl)) rfl ?_
          refine QJ.done ?_
          exact PJ.round (w64 (i5 + 1)) [] hm ⟨rfl, rfl, rfl, trivial⟩ ⟨List.nodup_nil, rfl⟩
      · replace hm := ifF hm hb6
        refine WJ.exit ?_
        refine PJ.then_exit (PJ.then_exit (PJ.block_exit ?_))
        exact PJ.joined () [] hm trivial ⟨List.nodup_nil, rfl⟩
  · rintro _ hm
    subst hk4
    refine WJ.seq ?_
    refine WJ.quiet ?_
    refine QJ.step (YldS.yld (y_assign rfl)) rfl ?_
    refine QJ.done ?_
    refine PJ.next ?_
    refine WJ.ret ?_
    obtain rfl := Option.some.inj hm
    refine PJ.sel (L' := []) [] ⟨List.nodup_nil, rfl⟩ ?_
    exact PJ.retn (vs := [.int .i64 (-1)]) Try.results159 ⟨rfl, trivial⟩ ⟨rfl, rfl⟩

set_option maxRecDepth 100000 in
set_option maxHeartbeats 1000000 in
theorem ok_s_l01Small {c1 : UInt8} {r : Bool} (hm : s_l01Small c1 = some r) (w : World)  :
    Calls Try.prog 163 #[.int .u8 (UInt8.toNat c1 : Int)] w (Ret (cx w) (.bool r)) := by
  unfold s_l01Small at hm
  refine Calls.enter [.int .u8 (UInt8.toNat c1 : Int)] Try.func163 rfl Try.ntmps163 rfl ?_
  refine WJ.seq ?_
  refine WJ.quiet ?_
  refine QJ.step (YldS.yld (y_assign rfl)) rfl ?_
  refine QJ.done ?_
  refine PJ.next ?_
  refine WJ.seq ?_
  refine WJ.quiet ?_
  refine QJ.step (YldS.yld (y_move rfl)) rfl ?_
  refine QJ.step (YldS.yld (y_bin8 c1 (97 : UInt8) rfl rfl rfl)) rfl ?_
  refine QJ.step (YldS.yld (y_move rfl)) rfl ?_
  obtain ⟨t2, h3, hm⟩ := bindS hm
  refine QJ.cut 3 [(8, .bool t2)] ?_ ?_
  · rcases Bool.eq_false_or_eq_true (decide (c1 ≥ (97 : UInt8))) with hb4 | hb4
    · replace h3 := andT h3 hb4
      refine QJ.on rfl rfl (cB hb4) (YldS.yld (y_move rfl)) rfl ?_
      refine QJ.on rfl rfl (cB hb4) (YldS.yld (y_bin8 c1 (122 : UInt8) rfl rfl rfl)) rfl ?_
      refine QJ.step (YldS.yld (y_pick_t (cB hb4) rfl)) rfl ?_
      obtain rfl := Option.some.inj h3
      exact QJ.cut_end ⟨rfl, trivial⟩
    · obtain rfl := andF h3 hb4
      refine QJ.off rfl rfl (cB hb4) rfl rfl ?_
      refine QJ.off rfl rfl (cB hb4) rfl rfl ?_
      refine QJ.step (YldS.yld (y_pick_f (cB hb4) rfl)) rfl ?_
      exact QJ.cut_end ⟨rfl, trivial⟩
  refine QJ.step (YldS.yld (y_assign rfl)) rfl ?_
  refine QJ.done ?_
  refine PJ.next ?_
  refine WJ.ret ?_
  obtain rfl := Option.some.inj hm
  refine PJ.sel (L' := []) [] ⟨List.nodup_nil, rfl⟩ ?_
  exact PJ.retn (vs := [.bool t2]) Try.results163 ⟨rfl, trivial⟩ ⟨rfl, rfl⟩

set_option maxRecDepth 100000 in
set_option maxHeartbeats 1000000 in
theorem ok_s_l01Digit {c1 : UInt8} {r : Bool} (hm : s_l01Digit c1 = some r) (w : World)  :
    Calls Try.prog 164 #[.int .u8 (UInt8.toNat c1 : Int)] w (Ret (cx w) (.bool r)) := by
  unfold s_l01Digit at hm
  refine Calls.enter [.int .u8 (UInt8.toNat c1 : Int)] Try.func164 rfl Try.ntmps164 rfl ?_
  refine WJ.seq ?_
  refine WJ.quiet ?_
  refine QJ.step (YldS.yld (y_assign rfl)) rfl ?_
  refine QJ.done ?_
  refine PJ.next ?_
  refine WJ.seq ?_
  refine WJ.quiet ?_
  refine QJ.step (YldS.yld (y_move rfl)) rfl ?_
  refine QJ.step (YldS.yld (y_bin8 c1 (48 : UInt8) rfl rfl rfl)) rfl ?_
  refine QJ.step (YldS.yld (y_move rfl)) rfl ?_
  obtain ⟨t2, h3, hm⟩ := bindS hm
  refine QJ.cut 3 [(8, .bool t2)] ?_ ?_
  · rcases Bool.eq_false_or_eq_true (decide (c1 ≥ (48 : UInt8))) with hb4 | hb4
    · replace h3 := andT h3 hb4
      refine QJ.on rfl rfl (cB hb4) (YldS.yld (y_move rfl)) rfl ?_
      refine QJ.on rfl rfl (cB hb4) (YldS.yld (y_bin8 c1 (57 : UInt8) rfl rfl rfl)) rfl ?_
      refine QJ.step (YldS.yld (y_pick_t (cB hb4) rfl)) rfl ?_
      obtain rfl := Option.some.inj h3
      exact QJ.cut_end ⟨rfl, trivial⟩
    · obtain rfl := andF h3 hb4
      refine QJ.off rfl rfl (cB hb4) rfl rfl ?_
      refine QJ.off rfl rfl (cB hb4) rfl rfl ?_
      refine QJ.step (YldS.yld (y_pick_f (cB hb4) rfl)) rfl ?_
      exact QJ.cut_end ⟨rfl, trivial⟩
  refine QJ.step (YldS.yld (y_assign rfl)) rfl ?_
  refine QJ.done ?_
  refine PJ.next ?_
  refine WJ.ret ?_
  obtain rfl := Option.some.inj hm
  refine PJ.sel (L' := []) [] ⟨List.nodup_nil, rfl⟩ ?_
  exact PJ.retn (vs := [.bool t2]) Try.results164 ⟨rfl, trivial⟩ ⟨rfl, rfl⟩

set_option maxRecDepth 100000 in
set_option maxHeartbeats 1000000 in
theorem ok_s_IsName {N : Nat} {s1 : Str} {r : Bool} (hm : s_IsName N s1 = some r) (w : World)  :
    Calls Try.prog 160 #[str s1] w (Ret (cx w) (.bool r)) := by
  unfold s_IsName at hm
  refine Calls.enter [str s1] Try.func160 rfl Try.ntmps160 rfl ?_
  refine WJ.seq ?_
  refine WJ.quiet ?_
  refine QJ.step (YldS.yld (y_assign rfl)) rfl ?_
  refine QJ.done ?_
  refine PJ.next ?_
  refine WJ.seq ?_
  refine WJ.seq ?_
  refine WJ.quiet ?_
  refine QJ.step (YldS.yld (y_move rfl)) rfl ?_
  refine QJ.step (YldS.yld (y_binS rfl rfl rfl)) rfl ?_
  refine QJ.step (YldS.yld (y_move rfl)) rfl ?_
  obtain ⟨t2, h3, hm⟩ := bindS hm
  refine QJ.cut 4 [(0, str s1), (10, .bool t2)] ?_ ?_
  · rcases Bool.eq_false_or_eq_true (s1 == []) with hb4 | hb4
    · obtain rfl := orT h3 hb4
      refine QJ.off rfl rfl (cB hb4) rfl rfl ?_
      refine QJ.off rfl rfl (cB hb4) rfl rfl ?_
      refine QJ.off rfl rfl (cB hb4) rfl rfl ?_
      refine QJ.step (YldS.yld (y_pick_t (cB hb4) rfl)) rfl ?_
      exact QJ.cut_end ⟨rfl, rfl, trivial⟩
    · replace h3 := orF h3 hb4
      refine QJ.on rfl rfl (cB hb4) (YldS.yld (y_move rfl)) rfl ?_
      refine QJ.on rfl rfl (cB hb4) (YldS.yld (y_lenStr Try.runUnderlying9 rfl)) rfl ?_
      refine QJ.on rfl rfl (cB hb4) (YldS.yld (y_bin rfl rfl rfl)) rfl ?_
      refine QJ.step (YldS.yld (y_pick_f (cB hb4) rfl)) rfl ?_
      obtain rfl := Option.some.inj h3
      exact QJ.cut_end ⟨rfl, rfl, trivial⟩
  refine QJ.step (YldS.yld (y_move rfl)) rfl ?_
  obtain ⟨t5, h6, hm⟩ := bindS hm
  refine QJ.cut 5 [(0, str s1), (16, .bool t5)] ?_ ?_
  · rcases Bool.eq_false_or_eq_true t2 with hb7 | hb7
    · obtain rfl := orT h6 hb7
      refine QJ.off rfl rfl (cB hb7) rfl rfl ?_
      refine QJ.off rfl rfl (cB hb7) rfl rfl ?_
      refine QJ.off rfl rfl (cB hb7) rfl rfl ?_
      refine QJ.off rfl rfl (cB hb7) rfl rfl ?_
      refine QJ.step (YldS.yld (y_pick_t (cB hb7) rfl)) rfl ?_
      exact QJ.cut_end ⟨rfl, rfl, trivial⟩
    · replace h6 := orF h6 hb7
      refine QJ.on rfl rfl (cB hb7) (YldS.yld (y_move rfl)) rfl ?_
      obtain ⟨c8, h9, h6⟩ := bindS h6
      refine QJ.on rfl rfl (cB hb7) (YldS.yld (y_idxStr Try.runUnderlying9 rfl rfl h9)) rfl ?_
      obtain ⟨r10, h11, h6⟩ := bindS h6
      refine QJ.on rfl rfl (cB hb7) (y_call Try.call163 rfl (RetG.quiet fun w hw => ok_s_l01Small h11 w )) rfl ?_
      refine QJ.on rfl rfl (cB hb7) (YldS.yld (y_not rfl)) rfl ?_
      refine QJ.step (YldS.yld (y_pick_f (cB hb7) rfl)) rfl ?_
      obtain rfl := Option.some.inj h6
      exact QJ.cut_end ⟨rfl, rfl, trivial⟩
  refine QJ.done ?_
  refine PJ.next ?_
  refine WJ.cond (t := t5) rfl (fun hb12 => ?_) (fun hb12 => ?_)
  · replace hm := ifT hm hb12
    refine WJ.seq ?_
    refine WJ.quiet ?_
    refine QJ.step (YldS.yld (y_assign rfl)) rfl ?_
    refine QJ.done ?_
    refine PJ.next ?_
    refine WJ.ret ?_
    refine PJ.then_ret ?_
    obtain rfl := Option.some.inj hm
    refine PJ.sel (L' := []) [] ⟨List.nodup_nil, rfl⟩ ?_
    exact PJ.retn (vs := [.bool false]) Try.results160 ⟨rfl, trivial⟩ ⟨rfl, rfl⟩
  · replace hm := ifF hm hb12
    refine WJ.skip ?_
    refine PJ.next ?_
    obtain ⟨kj13, hk14, hm⟩ := withK_open hm
    refine WJ.join (X := Unit) (fun (_ : Unit) => kj13  = some r) (fun (_ : Unit) => []) (fun (_ : Unit) => []) ?_ ?_
    · clear hk14
      refine WJ.seq ?_
      refine WJ.quiet ?_
      refine QJ.step (YldS.yld (y_assign rfl)) rfl ?_
      refine QJ.done ?_
      refine PJ.next ?_
      refine WJ.block ?_
      refine WJ.sel (L' := (fun (x : Int) => []) 0) [] ⟨List.nodup_nil, rfl⟩ ?_
      refine WJ.sub (m' := (fun (x : Int) => [(0, str s1), (3, .int .i64 x)]) 0) ⟨rfl, rfl, trivial⟩ ?_
      refine WJ.loop (X := Int) (fun N (x : Int) => s_IsName_l1 kj13 s1 N x = some r) (fun (x : Int) => [(0, str s1), (3, .int .i64 x)]) (fun (x : Int) => []) ?_ N 0 hm
      · rintro N i15 hI
        have hm := hI; clear hI
        cases N with
        | zero => cases hm
        | succ N =>
        unfold s_IsName_l1 at hm
        refine WJ.seq ?_
        refine WJ.seq ?_
        refine WJ.quiet ?_
        refine QJ.step (YldS.yld (y_move rfl)) rfl ?_
        refine QJ.step (YldS.yld (y_move rfl)) rfl ?_
        refine QJ.step (YldS.yld (y_lenStr Try.runUnderlying9 rfl)) rfl ?_
        refine QJ.step (YldS.yld (y_bin rfl rfl rfl)) rfl ?_
        refine QJ.done ?_
        refine PJ.next ?_
        refine WJ.cond (t := decide (i15 < (List.length s1 : Int))) rfl (fun hb16 => ?_) (fun hb16 => ?_)
        · replace hm := ifT hm hb16
          refine WJ.skip ?_
          refine PJ.next ?_
          refine WJ.seq ?_
          refine WJ.block ?_
          refine WJ.seq ?_
          refine WJ.quiet ?_
          refine QJ.step (YldS.yld (y_move rfl)) rfl ?_
          refine QJ.step (YldS.yld (y_move rfl)) rfl ?_
          obtain ⟨c17, h18, hm⟩ := bindS hm
          refine QJ.step (YldS.yld (y_idxStr Try.runUnderlying9 rfl rfl h18)) rfl ?_
          obtain ⟨r19, h20, hm⟩ := bindS hm
          refine QJ.step (y_call Try.call163 rfl (RetG.quiet fun w hw => ok_s_l01Small h20 w )) rfl ?_
          refine QJ.step (YldS.yld (y_not rfl)) rfl ?_
          refine QJ.step (YldS.yld (y_move rfl)) rfl ?_
          obtain ⟨t21, h22, hm⟩ := bindS hm
          refine QJ.cut 6 [(0, str s1), (3, .int .i64 i15), (34, .bool t21)] ?_ ?_
          · rcases Bool.eq_false_or_eq_true (!r19) with hb23 | hb23
            · replace h22 := andT h22 hb23
              refine QJ.on rfl rfl (cB hb23) (YldS.yld (y_move rfl)) rfl ?_
              refine QJ.on rfl rfl (cB hb23) (YldS.yld (y_move rfl)) rfl ?_
              obtain ⟨c24, h25, h22⟩ := bindS h22
              refine QJ.on rfl rfl (cB hb23) (YldS.yld (y_idxStr Try.runUnderlying9 rfl rfl h25)) rfl ?_
              obtain ⟨r26, h27, h22⟩ := bindS h22
              refine QJ.on rfl rfl (cB hb23) (y_call Try.call164 rfl (RetG.quiet fun w hw => ok_s_l01Digit h27 w )) rfl ?_
              refine QJ.on rfl rfl (cB hb23) (YldS.yld (y_not rfl)) rfl ?_
              refine QJ.step (YldS.yld (y_pick_t (cB hb23) rfl)) rfl ?_
              obtain rfl := Option.some.inj h22
              exact QJ.cut_end ⟨rfl, rfl, rfl, trivial⟩
            · obtain rfl := andF h22 hb23
              refine QJ.off rfl rfl (cB hb23) rfl rfl ?_
              refine QJ.off rfl rfl (cB hb23) rfl rfl ?_
              refine QJ.off rfl rfl (cB hb23) rfl rfl ?_
              refine QJ.off rfl rfl (cB hb23) rfl rfl ?_
              refine QJ.off rfl rfl (cB hb23) rfl rfl ?_
              refine QJ.step (YldS.yld (y_pick_f (cB hb23) rfl)) rfl ?_
              exact QJ.cut_end ⟨rfl, rfl, rfl, trivial⟩
          refine QJ.step (YldS.yld (y_move rfl)) rfl ?_
          obtain ⟨t28, h29, hm⟩ := bindS hm
          refine QJ.cut 5 [(0, str s1), (3, .int .i64 i15), (40, .bool t28)] ?_ ?_
          · rcases Bool.eq_false_or_eq_true t21 with hb30 | hb30
            · replace h29 := andT h29 hb30
              refine QJ.on rfl rfl (cB hb30) (YldS.yld (y_move rfl)) rfl ?_
              refine QJ.on rfl rfl (cB hb30) (YldS.yld (y_move rfl)) rfl ?_
              obtain ⟨c31, h32, h29⟩ := bindS h29
              refine QJ.on rfl rfl (cB hb30) (YldS.yld (y_idxStr Try.runUnderlying9 rfl rfl h32)) rfl ?_
              refine QJ.on rfl rfl (cB hb30) (YldS.yld (y_bin8 c31 (45 : UInt8) rfl rfl rfl)) rfl ?_
              refine QJ.step (YldS.yld (y_pick_t (cB hb30) rfl)) rfl ?_
              obtain rfl := Option.some.inj h29
              exact QJ.cut_end ⟨rfl, rfl, rfl, trivial⟩
            · obtain rfl := andF h29 hb30
              refine QJ.off rfl rfl (cB hb30) rfl rfl ?_
              refine QJ.off rfl rfl (cB hb30) rfl rfl ?_
              refine QJ.off rfl rfl (cB hb30) rfl rfl ?_
              refine QJ.off rfl rfl (cB hb30) rfl rfl ?_
              refine QJ.step (YldS.yld (y_pick_f (cB hb30) rfl)) rfl ?_
              exact QJ.cut_end ⟨rfl, rfl, rfl, trivial⟩
          refine QJ.done ?_
          refine PJ.next ?_
          refine WJ.cond (t := t28) rfl (fun hb33 => ?_) (fun hb33 => ?_)
          · replace hm := ifT hm hb33
            refine WJ.seq ?_
            refine WJ.quiet ?_
            refine QJ.step (YldS.yld (y_assign rfl)) rfl ?_
            refine QJ.done ?_
            refine PJ.next ?_
            refine WJ.ret ?_
            refine PJ.block_ret (PJ.then_ret (PJ.then_ret (PJ.block_ret (PJ.then_ret ?_))))
            obtain rfl := Option.some.inj hm
            refine PJ.sel (L' := []) [] ⟨List.nodup_nil, rfl⟩ ?_
            exact PJ.retn (vs := [.bool false]) Try.results160 ⟨rfl, trivial⟩ ⟨rfl, rfl⟩
          · replace hm := ifF hm hb33
            refine WJ.skip ?_
            refine PJ.block_normal (PJ.next ?_)
            refine WJ.quiet ?_
            refine QJ.step (YldS.yld (y_move rfl)) rfl ?_
            refine QJ.step (YldS.yld (y_bin rfl rfl rfl)) rfl ?_
            refine QJ.step (YldS.yld (y_assign rfl)) rfl ?_
            refine QJ.done ?_
            exact PJ.round (w64 (i15 + 1)) [] hm ⟨rfl, rfl, trivial⟩ ⟨List.nodup_nil, rfl⟩
        · replace hm := ifF hm hb16
          refine WJ.exit ?_
          refine PJ.then_exit (PJ.then_exit (PJ.block_exit ?_))
          exact PJ.joined () [] hm trivial ⟨List.nodup_nil, rfl⟩
    · rintro _ hm
      subst hk14
      refine WJ.seq ?_
      refine WJ.quiet ?_
      refine QJ.step (YldS.yld (y_assign rfl)) rfl ?_
      refine QJ.done ?_
      refine PJ.next ?_
      refine WJ.ret ?_
      obtain rfl := Option.some.inj hm
      refine PJ.sel (L' := []) [] ⟨List.nodup_nil, rfl⟩ ?_
      exact PJ.retn (vs := [.bool true]) Try.results160 ⟨rfl, trivial⟩ ⟨rfl, rfl⟩

set_option maxRecDepth 100000 in
set_option maxHeartbeats 1000000 in
theorem ok_s_l17Text {N : Nat} {s1 : Str} {most2 : Int} {r : Bool} (hm : s_l17Text N s1 most2 = some r) (w : World)  :
    Calls Try.prog 137 #[str s1, .int .i64 most2] w (Ret (cx w) (.bool r)) := by
  unfold s_l17Text at hm
  refine Calls.enter [str s1, .int .i64 most2] Try.func137 rfl Try.ntmps137 rfl ?_
  refine WJ.seq ?_
  refine WJ.quiet ?_
  refine QJ.step (YldS.yld (y_assign rfl)) rfl ?_
  refine QJ.done ?_
  refine PJ.next ?_
  obtain ⟨kj3, hk4, hm⟩ := withK_open hm
  refine WJ.join (X := Unit) (fun (_ : Unit) => kj3  = some r) (fun (_ : Unit) => [(0, str s1), (1, .int .i64 most2)]) (fun (_ : Unit) => []) ?_ ?_
  · clear hk4
    refine WJ.seq ?_
    refine WJ.quiet ?_
    refine QJ.step (YldS.yld (y_assign rfl)) rfl ?_
    refine QJ.done ?_
    refine PJ.next ?_
    refine WJ.block ?_
    refine WJ.sel (L' := (fun (x : Int) => []) 0) [] ⟨List.nodup_nil, rfl⟩ ?_
    refine WJ.sub (m' := (fun (x : Int) => [(0, str s1), (1, .int .i64 most2), (5, .int .i64 x)]) 0) ⟨rfl, rfl, rfl, trivial⟩ ?_
    refine WJ.loop (X := Int) (fun N (x : Int) => s_l17Text_l1 kj3 s1 N x = some r) (fun (x : Int) => [(0, str s1), (1, .int .i64 most2), (5, .int .i64 x)]) (fun (x : Int) => []) ?_ N 0 hm
    · rintro N i5 hI
      have hm := hI; clear hI
      cases N with
      | zero => cases hm
      | succ N =>
      unfold s_l17Text_l1 at hm
      refine WJ.seq ?_
      refine WJ.seq ?_
      refine WJ.quiet ?_
      refine QJ.step (YldS.yld (y_move rfl)) rfl ?_
      refine QJ.step (YldS.yld (y_move rfl)) rfl ?_
      refine QJ.step (YldS.yld (y_lenStr Try.runUnderlying9 rfl)) rfl ?_
      refine QJ.step (YldS.yld (y_bin rfl rfl rfl)) rfl ?_
      refine QJ.done ?_
      refine PJ.next ?_
      refine WJ.cond (t := decide (i5 < (List.length s1 : Int))) rfl (fun hb6 => ?_) (fun hb6 => ?_)
      · replace hm := ifT hm hb6
        refine WJ.skip ?_
        refine PJ.next ?_
        refine WJ.seq ?_
        refine WJ.block ?_
        refine WJ.seq ?_
        refine WJ.quiet ?_
        refine QJ.step (YldS.yld (y_move rfl)) rfl ?_
        refine QJ.step (YldS.yld (y_move rfl)) rfl ?_
        obtain ⟨c7, h8, hm⟩ := bindS hm
        refine QJ.step (YldS.yld (y_idxStr Try.runUnderlying9 rfl rfl h8)) rfl ?_
        refine QJ.step (YldS.yld (y_bin8 c7 (33 : UInt8) rfl rfl rfl)) rfl ?_
        refine QJ.step (YldS.yld (y_move rfl)) rfl ?_
        obtain ⟨t9, h10, hm⟩ := bindS hm
        refine QJ.cut 5 [(0, str s1), (1, .int .i64 most2), (5, .int .i64 i5), (21, .bool t9)] ?_ ?_
        · rcases Bool.eq_false_or_eq_true (decide (c7 < (33 : UInt8))) with hb11 | hb11
          · obtain rfl := orT h10 hb11
            refine QJ.off rfl rfl (cB hb11) rfl rfl ?_
            refine QJ.off rfl rfl (cB hb11) rfl rfl ?_
            refine QJ.off rfl rfl (cB hb11) rfl rfl ?_
            refine QJ.off rfl rfl (cB hb11) rfl rfl ?_
            refine QJ.step (YldS.yld (y_pick_t (cB hb11) rfl)) rfl ?_
            exact QJ.cut_end ⟨rfl, rfl, rfl, rfl, trivial⟩
          · replace h10 := orF h10 hb11
            refine QJ.on rfl rfl (cB hb11) (YldS.yld (y_move rfl)) rfl ?_
            refine QJ.on rfl rfl (cB hb11) (YldS.yld (y_move rfl)) rfl ?_
            obtain ⟨c12, h13, h10⟩ := bindS h10
            refine QJ.on rfl rfl (cB hb11) (YldS.yld (y_idxStr Try.runUnderlying9 rfl rfl h13)) rfl ?_
            refine QJ.on rfl rfl (cB hb11) (YldS.yld (y_bin8 c12 (126 : UInt8) rfl rfl rfl)) rfl ?_
            refine QJ.step (YldS.yld (y_pick_f (cB hb11) rfl)) rfl ?_
            obtain rfl := Option.some.inj h10
            exact QJ.cut_end ⟨rfl, rfl, rfl, rfl, trivial⟩
        refine QJ.done ?_
        refine PJ.next ?_
        refine WJ.cond (t := t9) rfl (fun hb14 => ?_) (fun hb14 => ?_)
        · replace hm := ifT hm hb14
          refine WJ.seq ?_
          refine WJ.quiet ?_
          refine QJ.step (YldS.yld (y_assign rfl)) rfl ?_
          refine QJ.done ?_
          refine PJ.next ?_
          refine WJ.ret ?_
          refine PJ.block_ret (PJ.then_ret (PJ.then_ret (PJ.block_ret (PJ.then_ret ?_))))
          obtain rfl := Option.some.inj hm
          refine PJ.sel (L' := []) [] ⟨List.nodup_nil, rfl⟩ ?_
          exact PJ.retn (vs := [.bool false]) Try.results137 ⟨rfl, trivial⟩ ⟨rfl, rfl⟩
        · replace hm := ifF hm hb14
          refine WJ.skip ?_
          refine PJ.block_normal (PJ.next ?_)
          refine WJ.quiet ?_
          refine QJ.step (YldS.yld (y_move rfl)) rfl ?_
          refine QJ.step (YldS.yld (y_bin rfl rfl rfl)) rfl ?_
          refine QJ.step (YldS.yld (y_assign rfl)) rfl ?_
          refine QJ.done ?_
          exact PJ.round (w64 (i5 + 1)) [] hm ⟨rfl, rfl, rfl, trivial⟩ ⟨List.nodup_nil, rfl⟩
      · replace hm := ifF hm hb6
        refine WJ.exit ?_
        refine PJ.then_exit (PJ.then_exit (PJ.block_exit ?_))
        exact PJ.joined () [] hm ⟨rfl, rfl, trivial⟩ ⟨List.nodup_nil, rfl⟩
  · rintro _ hm
    subst hk4
    refine WJ.seq ?_
    refine WJ.quiet ?_
    refine QJ.step (YldS.yld (y_move rfl)) rfl ?_
    refine QJ.step (YldS.yld (y_lenStr Try.runUnderlying9 rfl)) rfl ?_
    refine QJ.step (YldS.yld (y_move rfl)) rfl ?_
    refine QJ.step (YldS.yld (y_bin rfl rfl rfl)) rfl ?_
    refine QJ.step (YldS.yld (y_assign rfl)) rfl ?_
    refine QJ.done ?_
    refine PJ.next ?_
    refine WJ.ret ?_
    obtain rfl := Option.some.inj hm
    refine PJ.sel (L' := []) [] ⟨List.nodup_nil, rfl⟩ ?_
    exact PJ.retn (vs := [.bool (decide ((List.length s1 : Int) ≤ most2))]) Try.results137 ⟨rfl, trivial⟩ ⟨rfl, rfl⟩

set_option maxRecDepth 100000 in
set_option maxHeartbeats 1000000 in
theorem ok_s_l00In {n1 : Int} {low2 : Int} {high3 : Int} {r : Bool} (hm : s_l00In n1 low2 high3 = some r) (w : World)  :
    Calls Try.prog 144 #[.int .i64 n1, .int .i64 low2, .int .i64 high3] w (Ret (cx w) (.bool r)) := by
  unfold s_l00In at hm
  refine Calls.enter [.int .i64 n1, .int .i64 low2, .int .i64 high3] Try.func144 rfl Try.ntmps144 rfl ?_
  refine WJ.seq ?_
  refine WJ.quiet ?_
  refine QJ.step (YldS.yld (y_assign rfl)) rfl ?_
  refine QJ.done ?_
  refine PJ.next ?_
  refine WJ.seq ?_
  refine WJ.quiet ?_
  refine QJ.step (YldS.yld (y_move rfl)) rfl ?_
  refine QJ.step (YldS.yld (y_move rfl)) rfl ?_
  refine QJ.step (YldS.yld (y_bin rfl rfl rfl)) rfl ?_
  refine QJ.step (YldS.yld (y_move rfl)) rfl ?_
  obtain ⟨t4, h5, hm⟩ := bindS hm
  refine QJ.cut 4 [(14, .bool t4)] ?_ ?_
  · rcases Bool.eq_false_or_eq_true (decide (n1 ≥ low2)) with hb6 | hb6
    · replace h5 := andT h5 hb6
      refine QJ.on rfl rfl (cB hb6) (YldS.yld (y_move rfl)) rfl ?_
      refine QJ.on rfl rfl (cB hb6) (YldS.yld (y_move rfl)) rfl ?_
      refine QJ.on rfl rfl (cB hb6) (YldS.yld (y_bin rfl rfl rfl)) rfl ?_
      refine QJ.step (YldS.yld (y_pick_t (cB hb6) rfl)) rfl ?_
      obtain rfl := Option.some.inj h5
      exact QJ.cut_end ⟨rfl, trivial⟩
    · obtain rfl := andF h5 hb6
      refine QJ.off rfl rfl (cB hb6) rfl rfl ?_
      refine QJ.off rfl rfl (cB hb6) rfl rfl ?_
      refine QJ.off rfl rfl (cB hb6) rfl rfl ?_
      refine QJ.step (YldS.yld (y_pick_f (cB hb6) rfl)) rfl ?_
      exact QJ.cut_end ⟨rfl, trivial⟩
  refine QJ.step (YldS.yld (y_assign rfl)) rfl ?_
  refine QJ.done ?_
  refine PJ.next ?_
  refine WJ.ret ?_
  obtain rfl := Option.some.inj hm
  refine PJ.sel (L' := []) [] ⟨List.nodup_nil, rfl⟩ ?_
  exact PJ.retn (vs := [.bool t4]) Try.results144 ⟨rfl, trivial⟩ ⟨rfl, rfl⟩

set_option maxRecDepth 100000 in
set_option maxHeartbeats 1000000 in
theorem ok_s_l21One {N : Nat} {d1 : Drill} {r : Bool} (hm : s_l21One N d1 = some r) (w : World)  :
    Calls Try.prog 135 #[.agg (Drill.enc d1).toArray] w (Ret (cx w) (.bool r)) := by
  unfold s_l21One at hm
  refine Calls.enter [.agg (Drill.enc d1).toArray] Try.func135 rfl Try.ntmps135 rfl ?_
  refine WJ.seq ?_
  refine WJ.reg ?_
  refine SJ.box (cs := [str d1.name, str d1.letters, .int .i64 d1.minutes]) rfl rfl rfl fun g2 => ?_
  refine SJ.q (YldS.yld (y_assign rfl)) rfl ?_
  refine SJ.nil ?_
  refine PJ.next ?_
  obtain ⟨kj3, hk4, hm⟩ := withK_open hm
  refine WJ.join (X := Unit) (fun (_ : Unit) => kj3  = some r) (fun (_ : Unit) => [(1, pt g2 0)]) (fun (_ : Unit) => [box g2 152 [str d1.name, str d1.letters, .int .i64 d1.minutes]]) ?_ ?_
  · clear hk4
    refine WJ.seq ?_
    refine WJ.quiet ?_
    refine QJ.step (YldS.yld (y_assign rfl)) rfl ?_
    refine QJ.done ?_
    refine PJ.next ?_
    refine WJ.block ?_
    refine WJ.sel (L' := (fun (x : Int) => [box g2 152 [str d1.name, str d1.letters, .int .i64 d1.minutes]]) 0) [0] ⟨by decide, rfl⟩ ?_
    refine WJ.sub (m' := (fun (x : Int) => [(1, pt g2 0), (3, .int .i64 x)]) 0) ⟨rfl, rfl, trivial⟩ ?_
    refine WJ.loop (X := Int) (fun N (x : Int) => s_l21One_l1 kj3 d1 N x = some r) (fun (x : Int) => [(1, pt g2 0), (3, .int .i64 x)]) (fun (x : Int) => [box g2 152 [str d1.name, str d1.letters, .int .i64 d1.minutes]]) ?_ N 0 hm
    · rintro N i5 hI
      have hm := hI; clear hI
      cases N with
      | zero => cases hm
      | succ N =>
      unfold s_l21One_l1 at hm
      refine WJ.seq ?_
      refine WJ.seq ?_
      refine WJ.quiet ?_
      refine QJ.step (YldS.yld (y_move rfl)) rfl ?_
      refine QJ.step (YldS.yld (y_fldB (o := 0) fld152_1 rfl)) rfl ?_
      refine QJ.step (YldS.yld (y_loadB (k := 0) (off := 1) (v := str d1.letters) rfl Try.isAgg9 rfl rfl)) rfl ?_
      refine QJ.step (YldS.yld (y_lenStr Try.runUnderlying9 rfl)) rfl ?_
      refine QJ.step (YldS.yld (y_bin rfl rfl rfl)) rfl ?_
      refine QJ.done ?_
      refine PJ.next ?_
      refine WJ.cond (t := decide (i5 < (List.length d1.letters : Int))) rfl (fun hb6 => ?_) (fun hb6 => ?_)
      · replace hm := ifT hm hb6
        refine WJ.skip ?_
        refine PJ.next ?_
        refine WJ.seq ?_
        refine WJ.block ?_
        refine WJ.seq ?_
        refine WJ.quiet_draw follows (by kernel_rfl) ?_
        refine QJ.step (YldS.yld (y_fldB (o := 0) fld152_1 rfl)) rfl ?_
        refine QJ.step (YldS.yld (y_loadB (k := 0) (off := 1) (v := str d1.letters) rfl Try.isAgg9 rfl rfl)) rfl ?_
        refine QJ.step (YldS.yld (y_fldB (o := 0) fld152_1 rfl)) rfl ?_
        refine QJ.step (YldS.yld (y_loadB (k := 0) (off := 1) (v := str d1.letters) rfl Try.isAgg9 rfl rfl)) rfl ?_
        refine QJ.step (YldS.yld (y_move rfl)) rfl ?_
        obtain ⟨c7, h8, hm⟩ := bindS hm
        refine QJ.step (YldS.yld (y_idxStr Try.runUnderlying9 rfl rfl h8)) rfl ?_
        obtain ⟨r9, h10, hm⟩ := bindS hm
        refine QJ.step (y_call Try.call159 rfl (RetG.quiet fun w hw => ok_s_l05Index h10 w )) rfl ?_
        refine QJ.step (YldS.yld (y_move rfl)) rfl ?_
        refine QJ.step (YldS.yld (y_bin rfl rfl rfl)) rfl ?_
        refine QJ.done ?_
        refine PJ.next ?_
        refine WJ.cond (t := (r9 != i5)) rfl (fun hb11 => ?_) (fun hb11 => ?_)
        · replace hm := ifT hm hb11
          refine WJ.seq ?_
          refine WJ.quiet ?_
          refine QJ.step (YldS.yld (y_assign rfl)) rfl ?_
          refine QJ.done ?_
          refine PJ.next ?_
          refine WJ.ret ?_
          refine PJ.block_ret (PJ.then_ret (PJ.then_ret (PJ.block_ret (PJ.then_ret ?_))))
          obtain rfl := Option.some.inj hm
          refine PJ.sel (L' := []) [] ⟨List.nodup_nil, rfl⟩ ?_
          exact PJ.retn (vs := [.bool false]) Try.results135 ⟨rfl, trivial⟩ ⟨rfl, rfl⟩
        · replace hm := ifF hm hb11
          refine WJ.skip ?_
          refine PJ.block_normal (PJ.next ?_)
          refine WJ.quiet ?_
          refine QJ.step (YldS.yld (y_move rfl)) rfl ?_
          refine QJ.step (YldS.yld (y_bin rfl rfl rfl)) rfl ?_
          refine QJ.step (YldS.yld (y_assign rfl)) rfl ?_
          refine QJ.done ?_
          exact PJ.round (w64 (i5 + 1)) [0] hm ⟨rfl, rfl, trivial⟩ ⟨by decide, rfl⟩
      · replace hm := ifF hm hb6
        refine WJ.exit ?_
        refine PJ.then_exit (PJ.then_exit (PJ.block_exit ?_))
        exact PJ.joined () [0] hm ⟨rfl, trivial⟩ ⟨by decide, rfl⟩
  · rintro _ hm
    subst hk4
    refine WJ.seq ?_
    refine WJ.quiet ?_
    refine QJ.step (YldS.yld (y_fldB (o := 0) fld152_0 rfl)) rfl ?_
    refine QJ.step (YldS.yld (y_loadB (k := 0) (off := 0) (v := str d1.name) rfl Try.isAgg9 rfl rfl)) rfl ?_
    obtain ⟨r12, h13, hm⟩ := bindS hm
    refine QJ.step (y_call Try.call160 rfl (RetG.quiet fun w hw => ok_s_IsName h13 w )) rfl ?_
    refine QJ.step (YldS.yld (y_move rfl)) rfl ?_
    obtain ⟨t14, h15, hm⟩ := bindS hm
    refine QJ.cut 4 [(1, pt g2 0), (27, .bool t14)] ?_ ?_
    · rcases Bool.eq_false_or_eq_true r12 with hb16 | hb16
      · replace h15 := andT h15 hb16
        refine QJ.on rfl rfl (cB hb16) (YldS.yld (y_fldB (o := 0) fld152_1 rfl)) rfl ?_
        refine QJ.on rfl rfl (cB hb16) (YldS.yld (y_loadB (k := 0) (off := 1) (v := str d1.letters) rfl Try.isAgg9 rfl rfl)) rfl ?_
        obtain ⟨r17, h18, h15⟩ := bindS h15
        refine QJ.on rfl rfl (cB hb16) (y_call Try.call137 rfl (RetG.quiet fun w hw => ok_s_l17Text h18 w )) rfl ?_
        refine QJ.step (YldS.yld (y_pick_t (cB hb16) rfl)) rfl ?_
        obtain rfl := Option.some.inj h15
        exact QJ.cut_end ⟨rfl, rfl, trivial⟩
      · obtain rfl := andF h15 hb16
        refine QJ.off rfl rfl (cB hb16) rfl rfl ?_
        refine QJ.off rfl rfl (cB hb16) rfl rfl ?_
        refine QJ.off rfl rfl (cB hb16) rfl rfl ?_
        refine QJ.step (YldS.yld (y_pick_f (cB hb16) rfl)) rfl ?_
        exact QJ.cut_end ⟨rfl, rfl, trivial⟩
    refine QJ.step (YldS.yld (y_move rfl)) rfl ?_
    obtain ⟨t19, h20, hm⟩ := bindS hm
    refine QJ.cut 4 [(1, pt g2 0), (32, .bool t19)] ?_ ?_
    · rcases Bool.eq_false_or_eq_true t14 with hb21 | hb21
      · replace h20 := andT h20 hb21
        refine QJ.on rfl rfl (cB hb21) (YldS.yld (y_fldB (o := 0) fld152_1 rfl)) rfl ?_
        refine QJ.on rfl rfl (cB hb21) (YldS.yld (y_loadB (k := 0) (off := 1) (v := str d1.letters) rfl Try.isAgg9 rfl rfl)) rfl ?_
        refine QJ.on rfl rfl (cB hb21) (YldS.yld (y_binS rfl rfl rfl)) rfl ?_
        refine QJ.step (YldS.yld (y_pick_t (cB hb21) rfl)) rfl ?_
        obtain rfl := Option.some.inj h20
        exact QJ.cut_end ⟨rfl, rfl, trivial⟩
      · obtain rfl := andF h20 hb21
        refine QJ.off rfl rfl (cB hb21) rfl rfl ?_
        refine QJ.off rfl rfl (cB hb21) rfl rfl ?_
        refine QJ.off rfl rfl (cB hb21) rfl rfl ?_
        refine QJ.step (YldS.yld (y_pick_f (cB hb21) rfl)) rfl ?_
        exact QJ.cut_end ⟨rfl, rfl, trivial⟩
    refine QJ.step (YldS.yld (y_move rfl)) rfl ?_
    obtain ⟨t22, h23, hm⟩ := bindS hm
    refine QJ.cut 4 [(37, .bool t22)] ?_ ?_
    · rcases Bool.eq_false_or_eq_true t19 with hb24 | hb24
      · replace h23 := andT h23 hb24
        refine QJ.on rfl rfl (cB hb24) (YldS.yld (y_fldB (o := 0) fld152_2 rfl)) rfl ?_
        refine QJ.on rfl rfl (cB hb24) (YldS.yld (y_loadB (k := 0) (off := 2) (v := .int .i64 d1.minutes) rfl Try.isAgg2 rfl rfl)) rfl ?_
        obtain ⟨r25, h26, h23⟩ := bindS h23
        refine QJ.on rfl rfl (cB hb24) (y_call Try.call144 rfl (RetG.quiet fun w hw => ok_s_l00In h26 w )) rfl ?_
        refine QJ.step (YldS.yld (y_pick_t (cB hb24) rfl)) rfl ?_
        obtain rfl := Option.some.inj h23
        exact QJ.cut_end ⟨rfl, trivial⟩
      · obtain rfl := andF h23 hb24
        refine QJ.off rfl rfl (cB hb24) rfl rfl ?_
        refine QJ.off rfl rfl (cB hb24) rfl rfl ?_
        refine QJ.off rfl rfl (cB hb24) rfl rfl ?_
        refine QJ.step (YldS.yld (y_pick_f (cB hb24) rfl)) rfl ?_
        exact QJ.cut_end ⟨rfl, trivial⟩
    refine QJ.step (YldS.yld (y_assign rfl)) rfl ?_
    refine QJ.done ?_
    refine PJ.next ?_
    refine WJ.ret ?_
    obtain rfl := Option.some.inj hm
    refine PJ.sel (L' := []) [] ⟨List.nodup_nil, rfl⟩ ?_
    exact PJ.retn (vs := [.bool t22]) Try.results135 ⟨rfl, trivial⟩ ⟨rfl, rfl⟩

set_option maxRecDepth 100000 in
set_option maxHeartbeats 1000000 in
theorem ok_s_l21Find {N : Nat} {list1 : List Drill} {name4 : Str} {r : Int} (hm : s_l21Find N list1 name4 = some r) (w : World) (v2 : Value) (hr3 : RdS w (cx w).Fz v2 fDrill.rp list1) :
    Calls Try.prog 136 #[v2, str name4] w (Ret (cx w) (.int .i64 r)) := by
  unfold s_l21Find at hm
  refine Calls.enter [v2, str name4] Try.func136 rfl Try.ntmps136 rfl ?_
  refine WJ.seq ?_
  refine WJ.quiet ?_
  refine QJ.step (YldS.yld (y_assign rfl)) rfl ?_
  refine QJ.done ?_
  refine PJ.next ?_
  obtain ⟨kj5, hk6, hm⟩ := withK_open hm
  refine WJ.join (X := Unit) (fun (_ : Unit) => kj5  = some r) (fun (_ : Unit) => []) (fun (_ : Unit) => []) ?_ ?_
  · clear hk6
    refine WJ.seq ?_
    refine WJ.quiet ?_
    refine QJ.step (YldS.yld (y_assign rfl)) rfl ?_
    refine QJ.done ?_
    refine PJ.next ?_
    refine WJ.block ?_
    refine WJ.sel (L' := (fun (x : Int) => []) 0) [] ⟨List.nodup_nil, rfl⟩ ?_
    refine WJ.sub (m' := (fun (x : Int) => [(0, v2), (1, str name4), (5, .int .i64 x)]) 0) ⟨rfl, rfl, rfl, trivial⟩ ?_
    refine WJ.loop (X := Int) (fun N (x : Int) => s_l21Find_l1 kj5 list1 name4 N x = some r) (fun (x : Int) => [(0, v2), (1, str name4), (5, .int .i64 x)]) (fun (x : Int) => []) ?_ N 0 hm
    · rintro N i7 hI
      have hm := hI; clear hI
      cases N with
      | zero => cases hm
      | succ N =>
      unfold s_l21Find_l1 at hm
      refine WJ.seq ?_
      refine WJ.seq ?_
      refine WJ.quiet ?_
      refine QJ.step (YldS.yld (y_move rfl)) rfl ?_
      refine QJ.step (YldS.yld (y_move rfl)) rfl ?_
      refine QJ.step (YldS.yld (y_lenS Try.runUnderlying70 hr3 rfl)) rfl ?_
      refine QJ.step (YldS.yld (y_bin rfl rfl rfl)) rfl ?_
      refine QJ.done ?_
      refine PJ.next ?_
      refine WJ.cond (t := decide (i7 < (List.length list1 : Int))) rfl (fun hb8 => ?_) (fun hb8 => ?_)
      · replace hm := ifT hm hb8
        refine WJ.skip ?_
        refine PJ.next ?_
        refine WJ.seq ?_
        refine WJ.block ?_
        refine WJ.seq ?_
        refine WJ.quiet ?_
        refine QJ.step (YldS.yld (y_move rfl)) rfl ?_
        refine QJ.step (YldS.yld (y_move rfl)) rfl ?_
        obtain ⟨e9, h10, hm⟩ := bindS hm
        obtain ⟨ad11, _, rfl, ha12, hy13⟩ := hr3.elem h10
        refine QJ.step (YldS.yld (hy13 Try.runUnderlying70 Try.sizeOf152 rfl rfl)) rfl ?_
        refine QJ.step (YldS.yld (y_fld (ad := ad11) fld152_0 rfl)) rfl ?_
        refine QJ.step (YldS.yld (y_load1 (v := str e9.name) Try.isAgg9 (ha12.sub 0 1) St.frozenC rfl)) rfl ?_
        refine QJ.step (YldS.yld (y_move rfl)) rfl ?_
        refine QJ.step (YldS.yld (y_binS rfl rfl rfl)) rfl ?_
        refine QJ.done ?_
        refine PJ.next ?_
        refine WJ.cond (t := (e9.name == name4)) rfl (fun hb14 => ?_) (fun hb14 => ?_)
        · replace hm := ifT hm hb14
          refine WJ.seq ?_
          refine WJ.quiet ?_
          refine QJ.step (YldS.yld (y_move rfl)) rfl ?_
          refine QJ.step (YldS.yld (y_assign rfl)) rfl ?_
          refine QJ.done ?_
          refine PJ.next ?_
          refine WJ.ret ?_
          refine PJ.block_ret (PJ.then_ret (PJ.then_ret (PJ.block_ret (PJ.then_ret ?_))))
          obtain rfl := Option.some.inj hm
          refine PJ.sel (L' := []) [] ⟨List.nodup_nil, rfl⟩ ?_
          exact PJ.retn (vs := [.int .i64 i7]) Try.results136 ⟨rfl, trivial⟩ ⟨rfl, rfl⟩
        · replace hm := ifF hm hb14
          refine WJ.skip ?_
          refine PJ.block_normal (PJ.next ?_)
          refine WJ.quiet ?_
          refine QJ.step (YldS.yld (y_move rfl)) rfl ?_
          refine QJ.step (YldS.yld (y_bin rfl rfl rfl)) rfl ?_
          refine QJ.step (YldS.yld (y_assign rfl)) rfl ?_
          refine QJ.done ?_
          exact PJ.round (w64 (i7 + 1)) [] hm ⟨rfl, rfl, rfl, trivial⟩ ⟨List.nodup_nil, rfl⟩
      · replace hm := ifF hm hb8
        refine WJ.exit ?_
        refine PJ.then_exit (PJ.then_exit (PJ.block_exit ?_))
        exact PJ.joined () [] hm trivial ⟨List.nodup_nil, rfl⟩
  · rintro _ hm
    subst hk6
    refine WJ.seq ?_
    refine WJ.quiet ?_
    refine QJ.step (YldS.yld (y_assign rfl)) rfl ?_
    refine QJ.done ?_
    refine PJ.next ?_
    refine WJ.ret ?_
    obtain rfl := Option.some.inj hm
    refine PJ.sel (L' := []) [] ⟨List.nodup_nil, rfl⟩ ?_
    exact PJ.retn (vs := [.int .i64 (-1)]) Try.results136 ⟨rfl, trivial⟩ ⟨rfl, rfl⟩

end Go.Proofs.Ytimcachjcocjmaa
