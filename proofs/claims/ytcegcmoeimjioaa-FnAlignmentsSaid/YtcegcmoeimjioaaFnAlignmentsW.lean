/-
  The walks: a call hands back what its plain function computes, where that has a value. No other conditions.
-/
import Derived.Test.YtcegcmoeimjioaaFnAlignmentsM
import Derived.Test.YtcegcmoeimjioaaChecked
namespace Go.Proofs.Ytcegcmoeimjioaa
open Go.RowKit Go.Proofs
set_option linter.unusedVariables false
set_option linter.unusedSimpArgs false

theorem follows : Try.prog.follows .mixedOrders = true := by kernel_rfl

theorem pl96 : PlacesOk Try.prog 96 [(0, 1), (1, 1), (2, 1)] := ⟨_, Try.runUnderlying96, fun w => by simp [Try.sizeOf3, Try.sizeOf22, Try.sizeOf94]⟩
theorem fld96_1 : FieldOk Try.prog 96 1 1 3 0 := ⟨_, _, Try.runUnderlying96, rfl, rfl, rfl, Try.sizeOf3⟩
theorem fld96_0 : FieldOk Try.prog 96 0 0 22 0 := ⟨_, _, Try.runUnderlying96, rfl, rfl, rfl, Try.sizeOf22⟩
theorem fld96_2 : FieldOk Try.prog 96 2 2 94 0 := ⟨_, _, Try.runUnderlying96, rfl, rfl, rfl, Try.sizeOf94⟩
set_option maxRecDepth 100000 in
theorem el5 : ElemOk Try.prog 5 1 (fByte.enc 0) := ⟨_, _, Try.type5, rfl, rfl, rfl, by decide⟩
set_option maxRecDepth 100000 in
theorem el81 : ElemOk Try.prog 81 1 [.slice none 0 0] := ⟨_, _, Try.type81, rfl, rfl, rfl, by decide⟩
set_option maxRecDepth 100000 in
theorem el3 : ElemOk Try.prog 3 1 (fI64.enc 0) := ⟨_, _, Try.type3, rfl, rfl, rfl, by decide⟩

set_option maxRecDepth 100000 in
set_option maxHeartbeats 1000000 in
theorem ok_w_a2Long {code1 : List UInt8} {more4 : List UInt8} {r : Bool} (hm : w_a2Long code1 more4 = some r) (w : World) (v2 : Value) (hr3 : RdS w (cx w).Fz v2 fByte.rp code1) (v5 : Value) (hr6 : RdS w (cx w).Fz v5 fByte.rp more4) :
    Calls Try.prog 7 #[v2, v5] w (Ret (cx w) (.bool r)) := by
  unfold w_a2Long at hm
  refine Calls.enter [v2, v5] Try.func7 rfl Try.ntmps7 rfl ?_
  refine WJ.seq ?_
  refine WJ.quiet ?_
  refine QJ.step (YldS.yld (y_assign rfl)) rfl ?_
  refine QJ.done ?_
  refine PJ.next ?_
  refine WJ.seq ?_
  refine WJ.quiet ?_
  refine QJ.step (YldS.yld (y_move rfl)) rfl ?_
  refine QJ.step (YldS.yld (y_lenS Try.runUnderlying22 hr3 rfl)) rfl ?_
  refine QJ.step (YldS.yld (y_bin rfl rfl rfl)) rfl ?_
  refine QJ.step (YldS.yld (y_move rfl)) rfl ?_
  obtain ⟨t7, h8, hm⟩ := bindS hm
  refine QJ.cut 4 [(12, .bool t7)] ?_ ?_
  · rcases Bool.eq_false_or_eq_true (decide ((List.length code1 : Int) > 3000)) with hb9 | hb9
    · obtain rfl := orT h8 hb9
      refine QJ.off rfl rfl (cB hb9) rfl rfl ?_
      refine QJ.off rfl rfl (cB hb9) rfl rfl ?_
      refine QJ.off rfl rfl (cB hb9) rfl rfl ?_
      refine QJ.step (YldS.yld (y_pick_t (cB hb9) rfl)) rfl ?_
      exact QJ.cut_end ⟨rfl, trivial⟩
    · replace h8 := orF h8 hb9
      refine QJ.on rfl rfl (cB hb9) (YldS.yld (y_move rfl)) rfl ?_
      refine QJ.on rfl rfl (cB hb9) (YldS.yld (y_lenS Try.runUnderlying22 hr6 rfl)) rfl ?_
      refine QJ.on rfl rfl (cB hb9) (YldS.yld (y_bin rfl rfl rfl)) rfl ?_
      refine QJ.step (YldS.yld (y_pick_f (cB hb9) rfl)) rfl ?_
      obtain rfl := Option.some.inj h8
      exact QJ.cut_end ⟨rfl, trivial⟩
  refine QJ.step (YldS.yld (y_assign rfl)) rfl ?_
  refine QJ.done ?_
  refine PJ.next ?_
  refine WJ.ret ?_
  obtain rfl := Option.some.inj hm
  refine PJ.sel (L' := []) [] ⟨List.nodup_nil, rfl⟩ ?_
  exact PJ.retn (vs := [.bool t7]) Try.results7 ⟨rfl, trivial⟩ ⟨rfl, rfl⟩

set_option maxRecDepth 100000 in
set_option maxHeartbeats 1000000 in
theorem ok_s_l00From {code1 : List UInt8} {r : L00Src} (hm : s_l00From code1 = some r) (w : World) (v2 : Value) (hr3 : RdS w (cx w).Fz v2 fByte.rp code1) :
    Calls Try.prog 42 #[v2] w (RetG (cx w) fun u L => ∃ (u1 : Nat), (u = pt u1 0 ∧ L = [box u1 96 [v2, .int .i64 r.at_, .int .u64 r.seed]])) := by
  unfold s_l00From at hm
  refine Calls.enter [v2] Try.func42 rfl Try.ntmps42 rfl ?_
  refine WJ.seq ?_
  refine WJ.quiet ?_
  refine QJ.step (YldS.yld (y_assign rfl)) rfl ?_
  refine QJ.done ?_
  refine PJ.next ?_
  refine WJ.seq ?_
  refine WJ.reg ?_
  refine SJ.q (YldS.yld (y_move rfl)) rfl ?_
  refine SJ.q (YldS.yld (y_build (parts := [(0, .tmp 3)]) (places := [(0, 1), (1, 1), (2, 1)]) (r := [v2, .int .i64 0, .int .u64 0]) pl96 Try.zeroValue96 rfl rfl (show _ = [(0, [v2])] from by simp only [List.map, RdS.cells1 hr3]) rfl)) rfl ?_
  refine SJ.box (cs := [v2, .int .i64 0, .int .u64 0]) rfl rfl rfl fun g4 => ?_
  refine SJ.q (YldS.yld (y_assign rfl)) rfl ?_
  refine SJ.nil ?_
  refine PJ.next ?_
  refine WJ.ret ?_
  obtain rfl := Option.some.inj hm
  refine PJ.sel (L' := [box g4 96 [v2, .int .i64 0, .int .u64 0]]) [0] ⟨by decide, rfl⟩ ?_
  exact PJ.retn (vs := [pt g4 0]) Try.results42 ⟨rfl, trivial⟩ ⟨_, rfl, rfl⟩

set_option maxRecDepth 100000 in
set_option maxHeartbeats 1000000 in
theorem ok_s_l00Src_next {s1 : L00Src} {g2 : Nat} {r : Int × L00Src} (hm : s_l00Src_next s1 = some r) (w : World) (S : Nat → Prop) (v3 : Value) (hr4 : RdS w (Cx.Fz ⟨w, S⟩) v3 fByte.rp s1.code) (hA : (box g2 96 [v3, .int .i64 s1.at_, .int .u64 s1.seed]).holds w S) :
    Calls Try.prog 72 #[pt g2 0] w (RetG ⟨w, S⟩ fun u L => (u = .int .i64 r.1 ∧ L = [box g2 96 [v3, .int .i64 r.2.at_, .int .u64 r.2.seed]])) := by
  unfold s_l00Src_next at hm
  refine Calls.enter1 hA [pt g2 0] Try.func72 rfl Try.ntmps72 rfl ?_
  refine WJ.seq ?_
  refine WJ.quiet ?_
  refine QJ.step (YldS.yld (y_assign rfl)) rfl ?_
  refine QJ.done ?_
  refine PJ.next ?_
  refine WJ.seq ?_
  refine WJ.quiet ?_
  refine QJ.step (YldS.yld (y_assign rfl)) rfl ?_
  refine QJ.done ?_
  refine PJ.next ?_
  obtain ⟨kj6, hk7, hm⟩ := withK_open hm
  refine WJ.join (X := Int) (fun (x : Int) => kj6 x = some r) (fun (x : Int) => [(0, pt g2 0), (3, .int .i64 x)]) (fun (x : Int) => [box g2 96 [v3, .int .i64 s1.at_, .int .u64 s1.seed]]) ?_ ?_
  · clear hk7
    refine WJ.seq ?_
    refine WJ.quiet_draw follows (by kernel_rfl) ?_
    refine QJ.step (YldS.yld (y_move rfl)) rfl ?_
    refine QJ.step (YldS.yld (y_nil rfl)) rfl ?_
    refine QJ.step (YldS.yld (y_fldB (o := 0) fld96_1 rfl)) rfl ?_
    refine QJ.step (YldS.yld (y_loadB (k := 0) (off := 1) (v := .int .i64 s1.at_) rfl Try.isAgg3 rfl rfl)) rfl ?_
    refine QJ.step (YldS.yld (y_move rfl)) rfl ?_
    refine QJ.step (YldS.yld (y_nil rfl)) rfl ?_
    refine QJ.step (YldS.yld (y_fldB (o := 0) fld96_0 rfl)) rfl ?_
    refine QJ.step (YldS.yld (y_loadB (k := 0) (off := 0) (v := v3) rfl Try.isAgg22 rfl rfl)) rfl ?_
    refine QJ.step (YldS.yld (y_lenS Try.runUnderlying22 hr4 rfl)) rfl ?_
    refine QJ.step (YldS.yld (y_bin rfl rfl rfl)) rfl ?_
    refine QJ.done ?_
    refine PJ.next ?_
    refine WJ.cond (t := decide (s1.at_ < (List.length s1.code : Int))) rfl (fun hb8 => ?_) (fun hb8 => ?_)
    · replace hm := ifT hm hb8
      refine WJ.quiet_draw follows (by kernel_rfl) ?_
      refine QJ.step (YldS.yld (y_move rfl)) rfl ?_
      refine QJ.step (YldS.yld (y_nil rfl)) rfl ?_
      refine QJ.step (YldS.yld (y_fldB (o := 0) fld96_0 rfl)) rfl ?_
      refine QJ.step (YldS.yld (y_loadB (k := 0) (off := 0) (v := v3) rfl Try.isAgg22 rfl rfl)) rfl ?_
      refine QJ.step (YldS.yld (y_move rfl)) rfl ?_
      refine QJ.step (YldS.yld (y_nil rfl)) rfl ?_
      refine QJ.step (YldS.yld (y_fldB (o := 0) fld96_1 rfl)) rfl ?_
      refine QJ.step (YldS.yld (y_loadB (k := 0) (off := 1) (v := .int .i64 s1.at_) rfl Try.isAgg3 rfl rfl)) rfl ?_
      obtain ⟨e9, h10, hm⟩ := bindS hm
      obtain ⟨ad11, _, rfl, ha12, hy13⟩ := hr4.elem h10
      refine QJ.step (YldS.yld (hy13 Try.runUnderlying22 Try.sizeOf5 rfl rfl)) rfl ?_
      refine QJ.step (YldS.yld (y_load1 (v := .int .u8 (UInt8.toNat e9 : Int)) Try.isAgg5 ha12 St.frozenC rfl)) rfl ?_
      refine QJ.step (YldS.yld (y_conv8 Try.runUnderlying5 Try.runUnderlying3 rfl)) rfl ?_
      refine QJ.step (YldS.yld (y_assign rfl)) rfl ?_
      refine QJ.done ?_
      exact PJ.joined (UInt8.toNat e9 : Int) [0] hm ⟨rfl, rfl, trivial⟩ ⟨by decide, rfl⟩
    · replace hm := ifF hm hb8
      refine WJ.skip ?_
      exact PJ.joined 0 [0] hm ⟨rfl, rfl, trivial⟩ ⟨by decide, rfl⟩
  · rintro b5 hm
    subst hk7
    refine WJ.seq ?_
    refine WJ.reg ?_
    refine SJ.q (YldS.yld (y_move rfl)) rfl ?_
    refine SJ.q (YldS.yld (y_nil rfl)) rfl ?_
    refine SJ.q (YldS.yld (y_fldB (o := 0) fld96_1 rfl)) rfl ?_
    refine SJ.q (YldS.yld (y_loadB (k := 0) (off := 1) (v := .int .i64 s1.at_) rfl Try.isAgg3 rfl rfl)) rfl ?_
    refine SJ.q (YldS.yld (y_bin rfl rfl rfl)) rfl ?_
    refine SJ.q (YldS.yld (y_nil rfl)) rfl ?_
    refine SJ.q (YldS.yld (y_fldB (o := 0) fld96_1 rfl)) rfl ?_
    refine SJ.storeL (k := 0) (off := 1) (us := [.int .i64 (w64 (s1.at_ + 1))]) rfl rfl rfl rfl Try.sizeOf3 rfl rfl ?_
    refine SJ.nil ?_
    refine PJ.next ?_
    refine WJ.seq ?_
    refine WJ.reg ?_
    refine SJ.q (YldS.yld (y_move rfl)) rfl ?_
    refine SJ.q (YldS.yld (y_move rfl)) rfl ?_
    refine SJ.q (YldS.yld (y_nil rfl)) rfl ?_
    refine SJ.q (YldS.yld (y_fldB (o := 0) fld96_2 rfl)) rfl ?_
    refine SJ.q (YldS.yld (y_loadB (k := 0) (off := 2) (v := .int .u64 s1.seed) rfl Try.isAgg94 rfl rfl)) rfl ?_
    refine SJ.q (YldS.yld (y_bin rfl rfl rfl)) rfl ?_
    refine SJ.q (YldS.yld (y_move rfl)) rfl ?_
    refine SJ.q (YldS.yld (y_convI Try.runUnderlying3 Try.runUnderlying94 rfl)) rfl ?_
    refine SJ.q (YldS.yld (y_bin rfl rfl rfl)) rfl ?_
    refine SJ.q (YldS.yld (y_bin rfl rfl rfl)) rfl ?_
    refine SJ.q (YldS.yld (y_nil rfl)) rfl ?_
    refine SJ.q (YldS.yld (y_fldB (o := 0) fld96_2 rfl)) rfl ?_
    refine SJ.storeL (k := 0) (off := 2) (us := [.int .u64 (IntKind.u64.wrap ((IntKind.u64.wrap ((IntKind.u64.wrap (s1.seed * 6364136223846793005)) + (IntKind.u64.wrap b5))) + 1442695040888963407))]) rfl rfl rfl rfl Try.sizeOf94 rfl rfl ?_
    refine SJ.nil ?_
    refine PJ.next ?_
    refine WJ.seq ?_
    refine WJ.seq ?_
    refine WJ.quiet_draw follows (by kernel_rfl) ?_
    refine QJ.step (YldS.yld (y_move rfl)) rfl ?_
    refine QJ.step (YldS.yld (y_nil rfl)) rfl ?_
    refine QJ.step (YldS.yld (y_fldB (o := 0) fld96_1 rfl)) rfl ?_
    refine QJ.step (YldS.yld (y_loadB (k := 0) (off := 1) (v := .int .i64 (w64 (s1.at_ + 1))) rfl Try.isAgg3 rfl rfl)) rfl ?_
    refine QJ.step (YldS.yld (y_move rfl)) rfl ?_
    refine QJ.step (YldS.yld (y_nil rfl)) rfl ?_
    refine QJ.step (YldS.yld (y_fldB (o := 0) fld96_0 rfl)) rfl ?_
    refine QJ.step (YldS.yld (y_loadB (k := 0) (off := 0) (v := v3) rfl Try.isAgg22 rfl rfl)) rfl ?_
    refine QJ.step (YldS.yld (y_lenS Try.runUnderlying22 hr4 rfl)) rfl ?_
    refine QJ.step (YldS.yld (y_bin rfl rfl rfl)) rfl ?_
    refine QJ.done ?_
    refine PJ.next ?_
    refine WJ.cond (t := decide ((w64 (s1.at_ + 1)) ≤ (List.length s1.code : Int))) rfl (fun hb14 => ?_) (fun hb14 => ?_)
    · replace hm := ifT hm hb14
      refine WJ.seq ?_
      refine WJ.quiet ?_
      refine QJ.step (YldS.yld (y_move rfl)) rfl ?_
      refine QJ.step (YldS.yld (y_assign rfl)) rfl ?_
      refine QJ.done ?_
      refine PJ.next ?_
      refine WJ.ret ?_
      refine PJ.then_ret ?_
      obtain rfl := Option.some.inj hm
      refine PJ.sel (L' := [box g2 96 [v3, .int .i64 (w64 (s1.at_ + 1)), .int .u64 (IntKind.u64.wrap ((IntKind.u64.wrap ((IntKind.u64.wrap (s1.seed * 6364136223846793005)) + (IntKind.u64.wrap b5))) + 1442695040888963407))]]) [0] ⟨by decide, rfl⟩ ?_
      exact PJ.retn (vs := [.int .i64 b5]) Try.results72 ⟨rfl, trivial⟩ ⟨rfl, rfl⟩
    · replace hm := ifF hm hb14
      refine WJ.skip ?_
      refine PJ.next ?_
      refine WJ.seq ?_
      refine WJ.quiet ?_
      refine QJ.step (YldS.yld (y_move rfl)) rfl ?_
      refine QJ.step (YldS.yld (y_nil rfl)) rfl ?_
      refine QJ.step (YldS.yld (y_fldB (o := 0) fld96_2 rfl)) rfl ?_
      refine QJ.step (YldS.yld (y_loadB (k := 0) (off := 2) (v := .int .u64 (IntKind.u64.wrap ((IntKind.u64.wrap ((IntKind.u64.wrap (s1.seed * 6364136223846793005)) + (IntKind.u64.wrap b5))) + 1442695040888963407))) rfl Try.isAgg94 rfl rfl)) rfl ?_
      refine QJ.step (YldS.yld (y_shru rfl rfl rfl)) rfl ?_
      refine QJ.step (YldS.yld (y_andu rfl rfl rfl)) rfl ?_
      refine QJ.step (YldS.yld (y_convI Try.runUnderlying94 Try.runUnderlying2 rfl)) rfl ?_
      refine QJ.step (YldS.yld (y_assign rfl)) rfl ?_
      refine QJ.done ?_
      refine PJ.next ?_
      refine WJ.ret ?_
      obtain rfl := Option.some.inj hm
      refine PJ.sel (L' := [box g2 96 [v3, .int .i64 (w64 (s1.at_ + 1)), .int .u64 (IntKind.u64.wrap ((IntKind.u64.wrap ((IntKind.u64.wrap (s1.seed * 6364136223846793005)) + (IntKind.u64.wrap b5))) + 1442695040888963407))]]) [0] ⟨by decide, rfl⟩ ?_
      exact PJ.retn (vs := [.int .i64 (w64 (uand (ushr (IntKind.u64.wrap ((IntKind.u64.wrap ((IntKind.u64.wrap (s1.seed * 6364136223846793005)) + (IntKind.u64.wrap b5))) + 1442695040888963407)) 40) 255))]) Try.results72 ⟨rfl, trivial⟩ ⟨rfl, rfl⟩

set_option maxRecDepth 100000 in
set_option maxHeartbeats 1000000 in
theorem ok_s_l00Src_pick {s1 : L00Src} {n5 : Int} {g2 : Nat} {r : Int × L00Src} (hm : s_l00Src_pick s1 n5 = some r) (w : World) (S : Nat → Prop) (v3 : Value) (hr4 : RdS w (Cx.Fz ⟨w, S⟩) v3 fByte.rp s1.code) (hA : (box g2 96 [v3, .int .i64 s1.at_, .int .u64 s1.seed]).holds w S) :
    Calls Try.prog 43 #[pt g2 0, .int .i64 n5] w (RetG ⟨w, S⟩ fun u L => (u = .int .i64 r.1 ∧ L = [box g2 96 [v3, .int .i64 r.2.at_, .int .u64 r.2.seed]])) := by
  unfold s_l00Src_pick at hm
  refine Calls.enter1 hA [pt g2 0, .int .i64 n5] Try.func43 rfl Try.ntmps43 rfl ?_
  refine WJ.seq ?_
  refine WJ.quiet ?_
  refine QJ.step (YldS.yld (y_assign rfl)) rfl ?_
  refine QJ.done ?_
  refine PJ.next ?_
  refine WJ.seq ?_
  refine WJ.seq ?_
  refine WJ.quiet ?_
  refine QJ.step (YldS.yld (y_move rfl)) rfl ?_
  refine QJ.step (YldS.yld (y_bin rfl rfl rfl)) rfl ?_
  refine QJ.done ?_
  refine PJ.next ?_
  refine WJ.cond (t := decide (n5 ≤ 1)) rfl (fun hb6 => ?_) (fun hb6 => ?_)
  · replace hm := ifT hm hb6
    refine WJ.seq ?_
    refine WJ.quiet ?_
    refine QJ.step (YldS.yld (y_assign rfl)) rfl ?_
    refine QJ.done ?_
    refine PJ.next ?_
    refine WJ.ret ?_
    refine PJ.then_ret ?_
    obtain rfl := Option.some.inj hm
    refine PJ.sel (L' := [box g2 96 [v3, .int .i64 s1.at_, .int .u64 s1.seed]]) [0] ⟨by decide, rfl⟩ ?_
    exact PJ.retn (vs := [.int .i64 0]) Try.results43 ⟨rfl, trivial⟩ ⟨rfl, rfl⟩
  · replace hm := ifF hm hb6
    refine WJ.skip ?_
    refine PJ.next ?_
    refine WJ.seq ?_
    refine WJ.reg ?_
    refine SJ.q (YldS.yld (y_move rfl)) rfl ?_
    obtain ⟨r7, h8, hm⟩ := bindS hm
    refine SJ.call1 (k := 0) rfl Try.call72 rfl (fun w S hw hA hO => ok_s_l00Src_next h8 w S _ (hr4.st1 hw hO) hA) rfl ?_
    rintro _ _ ⟨rfl, rfl⟩
    refine SJ.q (YldS.yld (y_assign rfl)) rfl ?_
    refine SJ.nil ?_
    refine PJ.next ?_
    obtain ⟨kj12, hk13, hm⟩ := withK_open hm
    refine WJ.join (X := Int × Int × Int) (fun (x : Int × Int × Int) => kj12 x.1 x.2.1 x.2.2 = some r) (fun (x : Int × Int × Int) => [(1, .int .i64 n5), (5, .int .i64 x.2.2)]) (fun (x : Int × Int × Int) => [box g2 96 [v3, .int .i64 x.1, .int .u64 x.2.1]]) ?_ ?_
    · clear hk13
      refine WJ.seq ?_
      refine WJ.quiet ?_
      refine QJ.step (YldS.yld (y_move rfl)) rfl ?_
      refine QJ.step (YldS.yld (y_bin rfl rfl rfl)) rfl ?_
      refine QJ.done ?_
      refine PJ.next ?_
      refine WJ.cond (t := decide (n5 > 200)) rfl (fun hb14 => ?_) (fun hb14 => ?_)
      · replace hm := ifT hm hb14
        refine WJ.reg ?_
        refine SJ.q (YldS.yld (y_move rfl)) rfl ?_
        refine SJ.q (YldS.yld (y_bin rfl rfl rfl)) rfl ?_
        refine SJ.q (YldS.yld (y_move rfl)) rfl ?_
        obtain ⟨r15, h16, hm⟩ := bindS hm
        refine SJ.call1 (k := 0) rfl Try.call72 rfl (fun w S hw hA hO => ok_s_l00Src_next h16 w S _ (hr4.st1 hw hO) hA) rfl ?_
        rintro _ _ ⟨rfl, rfl⟩
        refine SJ.q (YldS.yld (y_bin rfl rfl rfl)) rfl ?_
        refine SJ.q (YldS.yld (y_assign rfl)) rfl ?_
        refine SJ.nil ?_
        exact PJ.joined (r15.2.at_, r15.2.seed, w64 ((w64 (r7.1 * 256)) + r15.1)) [0] hm ⟨rfl, rfl, trivial⟩ ⟨by decide, rfl⟩
      · replace hm := ifF hm hb14
        refine WJ.skip ?_
        exact PJ.joined (r7.2.at_, r7.2.seed, r7.1) [0] hm ⟨rfl, rfl, trivial⟩ ⟨by decide, rfl⟩
    · rintro ⟨x9, x10, x11⟩ hm
      subst hk13
      refine WJ.seq ?_
      refine WJ.quiet ?_
      refine QJ.step (YldS.yld (y_move rfl)) rfl ?_
      refine QJ.step (YldS.yld (y_move rfl)) rfl ?_
      obtain ⟨q17, h18, hm⟩ := bindS hm
      refine QJ.step (YldS.yld (y_rem' h18 rfl rfl)) rfl ?_
      refine QJ.step (YldS.yld (y_assign rfl)) rfl ?_
      refine QJ.done ?_
      refine PJ.next ?_
      refine WJ.ret ?_
      obtain rfl := Option.some.inj hm
      refine PJ.sel (L' := [box g2 96 [v3, .int .i64 x9, .int .u64 x10]]) [0] ⟨by decide, rfl⟩ ?_
      exact PJ.retn (vs := [.int .i64 q17]) Try.results43 ⟨rfl, trivial⟩ ⟨rfl, rfl⟩

set_option maxRecDepth 100000 in
set_option maxHeartbeats 1000000 in
theorem ok_s_l19Draw {N : Nat} {s1 : L00Src} {g2 : Nat} {r : Str × L00Src} (hm : s_l19Draw N s1 = some r) (w : World) (S : Nat → Prop) (v3 : Value) (hr4 : RdS w (Cx.Fz ⟨w, S⟩) v3 fByte.rp s1.code) (hA : (box g2 96 [v3, .int .i64 s1.at_, .int .u64 s1.seed]).holds w S) :
    Calls Try.prog 47 #[pt g2 0] w (RetG ⟨w, S⟩ fun u L => (u = str r.1 ∧ L = [box g2 96 [v3, .int .i64 r.2.at_, .int .u64 r.2.seed]])) := by
  unfold s_l19Draw at hm
  refine Calls.enter1 hA [pt g2 0] Try.func47 rfl Try.ntmps47 rfl ?_
  refine WJ.seq ?_
  refine WJ.quiet ?_
  refine QJ.step (YldS.yld (y_assign rfl)) rfl ?_
  refine QJ.done ?_
  refine PJ.next ?_
  refine WJ.seq ?_
  refine WJ.reg ?_
  refine SJ.buildSlice (R := fByte) (os := []) [] Try.runUnderlying22 Try.sizeOf5 Try.zeroValue5 rfl rfl rfl rfl rfl rfl fun v5 => ?_
  refine SJ.q (YldS.yld (y_assign rfl)) rfl ?_
  refine SJ.nil ?_
  refine PJ.next ?_
  obtain ⟨kj10, hk11, hm⟩ := withK_open hm
  refine WJ.join (X := Int × Int × (List UInt8) × Value) (fun (x : Int × Int × (List UInt8) × Value) => kj10 x.1 x.2.1 x.2.2.1 = some r) (fun (x : Int × Int × (List UInt8) × Value) => [(3, x.2.2.2)]) (fun (x : Int × Int × (List UInt8) × Value) => [box g2 96 [v3, .int .i64 x.1, .int .u64 x.2.1], row x.2.2.2 5 fByte x.2.2.1]) ?_ ?_
  · clear hk11
    refine WJ.seq ?_
    refine WJ.reg ?_
    refine SJ.q (YldS.yld (y_move rfl)) rfl ?_
    obtain ⟨r12, h13, hm⟩ := bindS hm
    refine SJ.call1 (k := 1) rfl Try.call43 rfl (fun w S hw hA hO => ok_s_l00Src_pick h13 w S _ (hr4.st1 hw hO) hA) rfl ?_
    rintro _ _ ⟨rfl, rfl⟩
    refine SJ.q (YldS.yld (y_assign rfl)) rfl ?_
    refine SJ.nil ?_
    refine PJ.next ?_
    refine WJ.block ?_
    refine WJ.sel (L' := (fun (x : Int × Int × (List UInt8) × Value × Int) => [box g2 96 [v3, .int .i64 x.1, .int .u64 x.2.1], row x.2.2.2.1 5 fByte x.2.2.1]) (r12.2.at_, r12.2.seed, [], v5, r12.1)) [0, 1] ⟨by decide, rfl⟩ ?_
    refine WJ.sub (m' := (fun (x : Int × Int × (List UInt8) × Value × Int) => [(0, pt g2 0), (3, x.2.2.2.1), (4, .int .i64 x.2.2.2.2)]) (r12.2.at_, r12.2.seed, [], v5, r12.1)) ⟨rfl, rfl, rfl, trivial⟩ ?_
    refine WJ.loop (X := Int × Int × (List UInt8) × Value × Int) (fun N (x : Int × Int × (List UInt8) × Value × Int) => s_l19Draw_l1 kj10 s1 N x.1 x.2.1 x.2.2.1 x.2.2.2.2 = some r) (fun (x : Int × Int × (List UInt8) × Value × Int) => [(0, pt g2 0), (3, x.2.2.2.1), (4, .int .i64 x.2.2.2.2)]) (fun (x : Int × Int × (List UInt8) × Value × Int) => [box g2 96 [v3, .int .i64 x.1, .int .u64 x.2.1], row x.2.2.2.1 5 fByte x.2.2.1]) ?_ N (r12.2.at_, r12.2.seed, [], v5, r12.1) hm
    · rintro N ⟨x14, x15, l16, v17, k18⟩ hI
      have hm := hI; clear hI
      cases N with
      | zero => cases hm
      | succ N =>
      unfold s_l19Draw_l1 at hm
      refine WJ.seq ?_
      refine WJ.seq ?_
      refine WJ.quiet ?_
      refine QJ.step (YldS.yld (y_move rfl)) rfl ?_
      refine QJ.step (YldS.yld (y_bin rfl rfl rfl)) rfl ?_
      refine QJ.done ?_
      refine PJ.next ?_
      refine WJ.cond (t := decide (k18 > 0)) rfl (fun hb19 => ?_) (fun hb19 => ?_)
      · replace hm := ifT hm hb19
        refine WJ.skip ?_
        refine PJ.next ?_
        refine WJ.seq ?_
        refine WJ.block ?_
        refine WJ.reg ?_
        refine SJ.q (YldS.yld (y_move rfl)) rfl ?_
        refine SJ.q (YldS.yld (y_move rfl)) rfl ?_
        obtain ⟨r20, h21, hm⟩ := bindS hm
        refine SJ.call1 (k := 0) rfl Try.call43 rfl (fun w S hw hA hO => ok_s_l00Src_pick h21 w S _ (hr4.st1 hw hO) hA) rfl ?_
        rintro _ _ ⟨rfl, rfl⟩
        obtain ⟨c22, h23, hm⟩ := bindS hm
        refine SJ.q (YldS.yld (y_idxStr Try.runUnderlying9 rfl rfl h23)) rfl ?_
        refine SJ.buildSlice (R := fByte) (os := [.tmp 15]) [c22] Try.runUnderlying22 Try.sizeOf5 Try.zeroValue5 rfl rfl rfl rfl rfl rfl fun v24 => ?_
        obtain ⟨l25, h26, hm⟩ := bindS hm
        refine SJ.append (k := 2) (R := fByte) h26 rfl Try.underlying22 el5 rfl rfl rfl (fun w hw => (hw.row_rd (k := 0) rfl)) rfl fun v27 => ?_
        refine SJ.q (YldS.yld (y_assign rfl)) rfl ?_
        refine SJ.nil ?_
        refine PJ.block_normal (PJ.next ?_)
        refine WJ.quiet ?_
        refine QJ.step (YldS.yld (y_move rfl)) rfl ?_
        refine QJ.step (YldS.yld (y_bin rfl rfl rfl)) rfl ?_
        refine QJ.step (YldS.yld (y_assign rfl)) rfl ?_
        refine QJ.done ?_
        exact PJ.round (r20.2.at_, r20.2.seed, l25, v27, w64 (k18 - 1)) [1, 2] hm ⟨rfl, rfl, rfl, trivial⟩ ⟨by decide, rfl⟩
      · replace hm := ifF hm hb19
        refine WJ.exit ?_
        refine PJ.then_exit (PJ.then_exit (PJ.block_exit ?_))
        exact PJ.joined (x14, x15, l16, v17) [0, 1] hm ⟨rfl, trivial⟩ ⟨by decide, rfl⟩
  · rintro ⟨x6, x7, l8, v9⟩ hm
    subst hk11
    refine WJ.seq ?_
    refine WJ.quiet ?_
    refine QJ.step (YldS.yld (y_move rfl)) rfl ?_
    refine QJ.step (YldS.yld (y_b2s Try.underlying22 Try.underlying9 Try.underlying5 (fun w hw => ⟨_, (hw.row_rd (k := 1) rfl)⟩) rfl)) rfl ?_
    refine QJ.step (YldS.yld (y_assign rfl)) rfl ?_
    refine QJ.done ?_
    refine PJ.next ?_
    refine WJ.ret ?_
    obtain rfl := Option.some.inj hm
    refine PJ.sel (L' := [box g2 96 [v3, .int .i64 x6, .int .u64 x7]]) [0] ⟨by decide, rfl⟩ ?_
    exact PJ.retn (vs := [str l8]) Try.results47 ⟨rfl, trivial⟩ ⟨rfl, rfl⟩

set_option maxRecDepth 100000 in
set_option maxHeartbeats 1000000 in
theorem ok_s_l19Near {N : Nat} {s1 : L00Src} {want5 : Str} {g2 : Nat} {r : Str × L00Src} (hm : s_l19Near N s1 want5 = some r) (w : World) (S : Nat → Prop) (v3 : Value) (hr4 : RdS w (Cx.Fz ⟨w, S⟩) v3 fByte.rp s1.code) (hA : (box g2 96 [v3, .int .i64 s1.at_, .int .u64 s1.seed]).holds w S) :
    Calls Try.prog 48 #[pt g2 0, str want5] w (RetG ⟨w, S⟩ fun u L => (u = str r.1 ∧ L = [box g2 96 [v3, .int .i64 r.2.at_, .int .u64 r.2.seed]])) := by
  unfold s_l19Near at hm
  refine Calls.enter1 hA [pt g2 0, str want5] Try.func48 rfl Try.ntmps48 rfl ?_
  refine WJ.seq ?_
  refine WJ.quiet ?_
  refine QJ.step (YldS.yld (y_assign rfl)) rfl ?_
  refine QJ.done ?_
  refine PJ.next ?_
  refine WJ.seq ?_
  refine WJ.reg ?_
  refine SJ.q (YldS.yld (y_move rfl)) rfl ?_
  obtain ⟨l6, h7, hm⟩ := bindS hm
  refine SJ.convBytes h7 Try.underlying9 Try.underlying22 Try.underlying5 rfl rfl fun v8 => ?_
  refine SJ.mixM 0 rfl ?_
  refine SJ.q (YldS.yld (y_assign rfl)) rfl ?_
  refine SJ.nil ?_
  refine PJ.next ?_
  obtain ⟨kj13, hk14, hm⟩ := withK_open hm
  refine WJ.join (X := Int × Int × (List UInt8) × Value) (fun (x : Int × Int × (List UInt8) × Value) => kj13 x.1 x.2.1 x.2.2.1 = some r) (fun (x : Int × Int × (List UInt8) × Value) => [(5, x.2.2.2)]) (fun (x : Int × Int × (List UInt8) × Value) => [box g2 96 [v3, .int .i64 x.1, .int .u64 x.2.1], rowX x.2.2.2 5 fByte x.2.2.1]) ?_ ?_
  · clear hk14
    refine WJ.seq ?_
    refine WJ.reg ?_
    refine SJ.q (YldS.yld (y_move rfl)) rfl ?_
    obtain ⟨r15, h16, hm⟩ := bindS hm
    refine SJ.call1 (k := 1) rfl Try.call43 rfl (fun w S hw hA hO => ok_s_l00Src_pick h16 w S _ (hr4.st1 hw hO) hA) rfl ?_
    rintro _ _ ⟨rfl, rfl⟩
    refine SJ.q (YldS.yld (y_assign rfl)) rfl ?_
    refine SJ.nil ?_
    refine PJ.next ?_
    refine WJ.block ?_
    refine WJ.sel (L' := (fun (x : Int × Int × (List UInt8) × Value × Int) => [box g2 96 [v3, .int .i64 x.1, .int .u64 x.2.1], rowX x.2.2.2.1 5 fByte x.2.2.1]) (r15.2.at_, r15.2.seed, l6, v8, r15.1)) [0, 1] ⟨by decide, rfl⟩ ?_
    refine WJ.sub (m' := (fun (x : Int × Int × (List UInt8) × Value × Int) => [(0, pt g2 0), (5, x.2.2.2.1), (6, .int .i64 x.2.2.2.2)]) (r15.2.at_, r15.2.seed, l6, v8, r15.1)) ⟨rfl, rfl, rfl, trivial⟩ ?_
    refine WJ.loop (X := Int × Int × (List UInt8) × Value × Int) (fun N (x : Int × Int × (List UInt8) × Value × Int) => s_l19Near_l1 kj13 s1 N x.1 x.2.1 x.2.2.1 x.2.2.2.2 = some r) (fun (x : Int × Int × (List UInt8) × Value × Int) => [(0, pt g2 0), (5, x.2.2.2.1), (6, .int .i64 x.2.2.2.2)]) (fun (x : Int × Int × (List UInt8) × Value × Int) => [box g2 96 [v3, .int .i64 x.1, .int .u64 x.2.1], rowX x.2.2.2.1 5 fByte x.2.2.1]) ?_ N (r15.2.at_, r15.2.seed, l6, v8, r15.1) hm
    · rintro N ⟨x17, x18, l19, v20, k21⟩ hI
      have hm := hI; clear hI
      cases N with
      | zero => cases hm
      | succ N =>
      unfold s_l19Near_l1 at hm
      refine WJ.seq ?_
      refine WJ.seq ?_
      refine WJ.quiet ?_
      refine QJ.step (YldS.yld (y_move rfl)) rfl ?_
      refine QJ.step (YldS.yld (y_bin rfl rfl rfl)) rfl ?_
      refine QJ.step (YldS.yld (y_move rfl)) rfl ?_
      obtain ⟨t22, h23, hm⟩ := bindS hm
      refine QJ.cut 4 [(0, pt g2 0), (5, v20), (6, .int .i64 k21), (20, .bool t22)] ?_ ?_
      · rcases Bool.eq_false_or_eq_true (decide (k21 > 0)) with hb24 | hb24
        · replace h23 := andT h23 hb24
          refine QJ.on rfl rfl (cB hb24) (YldS.yld (y_move rfl)) rfl ?_
          refine QJ.on rfl rfl (cB hb24) (YldS.yld (y_lenRowX (k := 1) rfl Try.runUnderlying22 rfl)) rfl ?_
          refine QJ.on rfl rfl (cB hb24) (YldS.yld (y_bin rfl rfl rfl)) rfl ?_
          refine QJ.step (YldS.yld (y_pick_t (cB hb24) rfl)) rfl ?_
          obtain rfl := Option.some.inj h23
          exact QJ.cut_end ⟨rfl, rfl, rfl, rfl, trivial⟩
        · obtain rfl := andF h23 hb24
          refine QJ.off rfl rfl (cB hb24) rfl rfl ?_
          refine QJ.off rfl rfl (cB hb24) rfl rfl ?_
          refine QJ.off rfl rfl (cB hb24) rfl rfl ?_
          refine QJ.step (YldS.yld (y_pick_f (cB hb24) rfl)) rfl ?_
          exact QJ.cut_end ⟨rfl, rfl, rfl, rfl, trivial⟩
      refine QJ.done ?_
      refine PJ.next ?_
      refine WJ.cond (t := t22) rfl (fun hb25 => ?_) (fun hb25 => ?_)
      · replace hm := ifT hm hb25
        refine WJ.skip ?_
        refine PJ.next ?_
        obtain ⟨kj30, hk31, hm⟩ := withK_open hm
        refine WJ.join (X := Int × Int × (List UInt8) × Value) (fun (x : Int × Int × (List UInt8) × Value) => kj30 x.1 x.2.1 x.2.2.1 = some r) (fun (x : Int × Int × (List UInt8) × Value) => [(0, pt g2 0), (5, x.2.2.2), (6, .int .i64 k21)]) (fun (x : Int × Int × (List UInt8) × Value) => [box g2 96 [v3, .int .i64 x.1, .int .u64 x.2.1], rowX x.2.2.2 5 fByte x.2.2.1]) ?_ ?_
        · clear hk31
          refine WJ.block ?_
          refine WJ.seq ?_
          refine WJ.reg ?_
          refine SJ.q (YldS.yld (y_move rfl)) rfl ?_
          refine SJ.q (YldS.yld (y_move rfl)) rfl ?_
          refine SJ.q (YldS.yld (y_lenRowX (k := 1) rfl Try.runUnderlying22 rfl)) rfl ?_
          refine SJ.q (YldS.yld (y_bin rfl rfl rfl)) rfl ?_
          obtain ⟨r32, h33, hm⟩ := bindS hm
          refine SJ.call1 (k := 0) rfl Try.call43 rfl (fun w S hw hA hO => ok_s_l00Src_pick h33 w S _ (hr4.st1 hw hO) hA) rfl ?_
          rintro _ _ ⟨rfl, rfl⟩
          refine SJ.q (YldS.yld (y_assign rfl)) rfl ?_
          refine SJ.nil ?_
          refine PJ.next ?_
          refine WJ.seq ?_
          refine WJ.reg ?_
          refine SJ.q (YldS.yld (y_move rfl)) rfl ?_
          obtain ⟨r34, h35, hm⟩ := bindS hm
          refine SJ.call1 (k := 0) rfl Try.call43 rfl (fun w S hw hA hO => ok_s_l00Src_pick h35 w S _ (hr4.st1 hw hO) hA) rfl ?_
          rintro _ _ ⟨rfl, rfl⟩
          refine SJ.nil ?_
          refine PJ.next ?_
          refine WJ.block ?_
          refine WJ.seq ?_
          refine WJ.quiet ?_
          refine QJ.step (YldS.yld (y_bin rfl rfl rfl)) rfl ?_
          refine QJ.step (YldS.yld (y_assign rfl)) rfl ?_
          refine QJ.done ?_
          refine PJ.next ?_
          refine WJ.cond (t := (r34.1 == 0)) rfl (fun hb36 => ?_) (fun hb36 => ?_)
          · replace hm := ifT hm hb36
            refine WJ.reg ?_
            refine SJ.q (YldS.yld (y_move rfl)) rfl ?_
            refine SJ.q (YldS.yld (y_move rfl)) rfl ?_
            refine SJ.q (YldS.yld (y_move rfl)) rfl ?_
            obtain ⟨r37, h38, hm⟩ := bindS hm
            refine SJ.call1 (k := 0) rfl Try.call43 rfl (fun w S hw hA hO => ok_s_l00Src_pick h38 w S _ (hr4.st1 hw hO) hA) rfl ?_
            rintro _ _ ⟨rfl, rfl⟩
            obtain ⟨c39, h40, hm⟩ := bindS hm
            refine SJ.q (YldS.yld (y_idxStr Try.runUnderlying9 rfl rfl h40)) rfl ?_
            obtain ⟨e41, h42, hm⟩ := bindS hm
            refine SJ.q (YldS.yld (y_ixRowX (k := 1) (R := fByte) rfl Try.runUnderlying22 Try.sizeOf5 rfl rfl h42)) rfl ?_
            refine SJ.storeRLX (k := 1) (i := (Int.toNat r32.1)) (off := 0) (us := [.int .u8 (UInt8.toNat c39 : Int)]) (b := c39) rfl rfl (idx_get h42) rfl rfl Try.sizeOf5 rfl rfl rfl ?_
            refine SJ.nil ?_
            refine PJ.block_normal (PJ.block_normal ?_)
            exact PJ.joined (r37.2.at_, r37.2.seed, (List.set l19 (Int.toNat r32.1) c39), v20) [0, 1] hm ⟨rfl, rfl, rfl, trivial⟩ ⟨by decide, rfl⟩
          · replace hm := ifF hm hb36
            refine WJ.seq ?_
            refine WJ.quiet ?_
            refine QJ.step (YldS.yld (y_bin rfl rfl rfl)) rfl ?_
            refine QJ.step (YldS.yld (y_assign rfl)) rfl ?_
            refine QJ.done ?_
            refine PJ.next ?_
            refine WJ.cond (t := (r34.1 == 1)) rfl (fun hb43 => ?_) (fun hb43 => ?_)
            · replace hm := ifT hm hb43
              refine WJ.seq ?_
              refine WJ.quiet ?_
              refine QJ.step (YldS.yld (y_move rfl)) rfl ?_
              refine QJ.step (YldS.yld (y_move rfl)) rfl ?_
              obtain ⟨e44, h45, hm⟩ := bindS hm
              refine QJ.step (YldS.yld (y_ixRowX (k := 1) (R := fByte) rfl Try.runUnderlying22 Try.sizeOf5 rfl rfl h45)) rfl ?_
              refine QJ.step (YldS.yld (y_loadRX (k := 1) (i := (Int.toNat r32.1)) (off := 0) (u := .int .u8 (UInt8.toNat e44 : Int)) rfl Try.isAgg5 rfl (idx_get h45) rfl)) rfl ?_
              refine QJ.step (YldS.yld (y_assign rfl)) rfl ?_
              refine QJ.done ?_
              refine PJ.next ?_
              refine WJ.seq ?_
              refine WJ.reg ?_
              refine SJ.q (YldS.yld (y_move rfl)) rfl ?_
              refine SJ.q (YldS.yld (y_move rfl)) rfl ?_
              refine SJ.q (YldS.yld (y_move rfl)) rfl ?_
              refine SJ.q (YldS.yld (y_move rfl)) rfl ?_
              refine SJ.q (YldS.yld (y_bin rfl rfl rfl)) rfl ?_
              obtain ⟨e46, h47, hm⟩ := bindS hm
              refine SJ.q (YldS.yld (y_ixRowX (k := 1) (R := fByte) rfl Try.runUnderlying22 Try.sizeOf5 rfl rfl h47)) rfl ?_
              refine SJ.q (YldS.yld (y_loadRX (k := 1) (i := (Int.toNat (w64 (r32.1 + 1)))) (off := 0) (u := .int .u8 (UInt8.toNat e46 : Int)) rfl Try.isAgg5 rfl (idx_get h47) rfl)) rfl ?_
              obtain ⟨e48, h49, hm⟩ := bindS hm
              refine SJ.q (YldS.yld (y_ixRowX (k := 1) (R := fByte) rfl Try.runUnderlying22 Try.sizeOf5 rfl rfl h49)) rfl ?_
              refine SJ.storeRLX (k := 1) (i := (Int.toNat r32.1)) (off := 0) (us := [.int .u8 (UInt8.toNat e46 : Int)]) (b := e46) rfl rfl (idx_get h49) rfl rfl Try.sizeOf5 rfl rfl rfl ?_
              refine SJ.nil ?_
              refine PJ.next ?_
              refine WJ.reg ?_
              refine SJ.q (YldS.yld (y_move rfl)) rfl ?_
              refine SJ.q (YldS.yld (y_move rfl)) rfl ?_
              refine SJ.q (YldS.yld (y_bin rfl rfl rfl)) rfl ?_
              refine SJ.q (YldS.yld (y_move rfl)) rfl ?_
              obtain ⟨e50, h51, hm⟩ := bindS hm
              refine SJ.q (YldS.yld (y_ixRowX (k := 1) (R := fByte) rfl Try.runUnderlying22 Try.sizeOf5 rfl rfl h51)) rfl ?_
              refine SJ.storeRLX (k := 1) (i := (Int.toNat (w64 (r32.1 + 1)))) (off := 0) (us := [.int .u8 (UInt8.toNat e44 : Int)]) (b := e44) rfl rfl (idx_get h51) rfl rfl Try.sizeOf5 rfl rfl rfl ?_
              refine SJ.nil ?_
              refine PJ.block_normal (PJ.block_normal ?_)
              exact PJ.joined (r34.2.at_, r34.2.seed, (List.set (List.set l19 (Int.toNat r32.1) e46) (Int.toNat (w64 (r32.1 + 1))) e44), v20) [0, 1] hm ⟨rfl, rfl, rfl, trivial⟩ ⟨by decide, rfl⟩
            · replace hm := ifF hm hb43
              refine WJ.seq ?_
              refine WJ.quiet ?_
              refine QJ.step (YldS.yld (y_bin rfl rfl rfl)) rfl ?_
              refine QJ.step (YldS.yld (y_assign rfl)) rfl ?_
              refine QJ.done ?_
              refine PJ.next ?_
              refine WJ.cond (t := (r34.1 == 2)) rfl (fun hb52 => ?_) (fun hb52 => ?_)
              · replace hm := ifT hm hb52
                obtain ⟨l54, h55, hm⟩ := bindS hm
                obtain ⟨l56, h57, hm⟩ := bindS hm
                obtain ⟨l59, h60, hm⟩ := bindS hm
                obtain ⟨l61, h62, hm⟩ := bindS hm
                refine WJ.draws (N := 11) (listed0 := #[false, false, false, false, false, false, false, false, false, false, false]) [box g2 96 [v3, .int .i64 r34.2.at_, .int .u64 r34.2.seed], rowX v20 5 fByte l19] follows rfl rfl ?_
                refine RJ.first 1 (listed' := #[false, true, false, false, false, false, false, false, false, false, false]) [0, 1] rfl (by kernel_rfl) rfl ⟨by decide, rfl⟩ (y_move rfl) rfl ?_
                refine RJ.first 2 (listed' := #[false, true, true, false, false, false, false, false, false, false, false]) [0, 1] rfl (by kernel_rfl) rfl ⟨by decide, rfl⟩ (y_move rfl) rfl ?_
                refine RJ.first 3 (listed' := #[false, true, true, true, false, false, false, false, false, false, false]) [0, 1] rfl (by kernel_rfl) rfl ⟨by decide, rfl⟩ (y_slcX (i := none) (j := some r32.1) (k := 1) h55 rfl Try.runUnderlying22 Try.sizeOf5 rfl trivial ⟨_, rfl⟩) rfl ?_
                refine RJ.first 5 (listed' := #[false, true, true, true, false, true, false, false, false, false, false]) [0, 1] rfl (by kernel_rfl) rfl ⟨by decide, rfl⟩ (y_move rfl) rfl ?_
                refine RJ.first 6 (listed' := #[false, true, true, true, false, true, true, false, false, false, false]) [0, 1] rfl (by kernel_rfl) rfl ⟨by decide, rfl⟩ (y_move rfl) rfl ?_
                refine RJ.first 7 (listed' := #[false, true, true, true, false, true, true, true, false, false, false]) [0, 1] rfl (by kernel_rfl) rfl ⟨by decide, rfl⟩ (y_bin rfl rfl rfl) rfl ?_
                refine RJ.first 8 (listed' := #[false, true, true, true, false, true, true, true, true, false, false]) [0, 1] rfl (by kernel_rfl) rfl ⟨by decide, rfl⟩ (y_slcX (i := some (w64 (r32.1 + 1))) (j := none) (k := 1) h60 rfl Try.runUnderlying22 Try.sizeOf5 rfl ⟨_, rfl⟩ trivial) rfl ?_
                refine RJ.step1 0 [0, 1] (by kernel_rfl) ⟨by decide, rfl⟩ ?_
                refine RO.of (listed' := #[true, true, true, true, false, true, true, true, true, false, false]) rfl rfl ?_
                refine SJ.buildSlice (R := fByte) (os := []) [] Try.runUnderlying22 Try.sizeOf5 Try.zeroValue5 rfl rfl rfl rfl rfl rfl fun v53 => ?_
                refine SJ.nil ?_
                refine PJ.draw ?_
                refine RJ.step1 4 [1, 2] (by kernel_rfl) ⟨by decide, rfl⟩ ?_
                refine RO.of (listed' := #[true, true, true, true, true, true, true, true, true, false, false]) rfl rfl ?_
                refine SJ.append (k := 0) (R := fByte) h57 rfl Try.underlying22 el5 rfl rfl rfl (fun w hw => (hw.slcX_rd (k := 2) (i := none) (j := some r32.1) rfl h55)) rfl fun v58 => ?_
                refine SJ.nil ?_
                refine PJ.draw ?_
                refine RJ.step1 9 [1, 2] (by kernel_rfl) ⟨by decide, rfl⟩ ?_
                refine RO.of (listed' := #[true, true, true, true, true, true, true, true, true, true, false]) rfl rfl ?_
                refine SJ.append (k := 0) (R := fByte) h62 rfl Try.underlying22 el5 rfl rfl rfl (fun w hw => (hw.slcX_rd (k := 2) (i := some (w64 (r32.1 + 1))) (j := none) rfl h60)) rfl fun v63 => ?_
                refine SJ.nil ?_
                refine PJ.draw ?_
                refine RJ.first 10 (listed' := #[true, true, true, true, true, true, true, true, true, true, true]) [1, 2] rfl (by kernel_rfl) rfl ⟨by decide, rfl⟩ (y_assign rfl) rfl ?_
                refine RJ.fin [1, 2] (by kernel_rfl) ⟨by decide, rfl⟩ ?_
                refine PJ.block_normal (PJ.block_normal ?_)
                refine PJ.mixR 0 rfl ?_
                exact PJ.joined (r34.2.at_, r34.2.seed, l61, v63) [1, 0] hm ⟨rfl, rfl, rfl, trivial⟩ ⟨by decide, rfl⟩
              · replace hm := ifF hm hb52
                refine WJ.seq ?_
                refine WJ.reg ?_
                refine SJ.buildSlice (R := fByte) (os := []) [] Try.runUnderlying22 Try.sizeOf5 Try.zeroValue5 rfl rfl rfl rfl rfl rfl fun v64 => ?_
                refine SJ.q (YldS.yld (y_move rfl)) rfl ?_
                refine SJ.q (YldS.yld (y_move rfl)) rfl ?_
                obtain ⟨l65, h66, hm⟩ := bindS hm
                refine SJ.q (YldS.yld (y_slcX (i := none) (j := some r32.1) (k := 2) h66 rfl Try.runUnderlying22 Try.sizeOf5 rfl trivial ⟨_, rfl⟩)) rfl ?_
                obtain ⟨l67, h68, hm⟩ := bindS hm
                refine SJ.append (k := 0) (R := fByte) h68 rfl Try.underlying22 el5 rfl rfl rfl (fun w hw => (hw.slcX_rd (k := 2) (i := none) (j := some r32.1) rfl h66)) rfl fun v69 => ?_
                refine SJ.q (YldS.yld (y_move rfl)) rfl ?_
                obtain ⟨r70, h71, hm⟩ := bindS hm
                refine SJ.call1 (k := 1) rfl Try.call43 rfl (fun w S hw hA hO => ok_s_l00Src_pick h71 w S _ (hr4.st1 hw hO) hA) rfl ?_
                rintro _ _ ⟨rfl, rfl⟩
                obtain ⟨c72, h73, hm⟩ := bindS hm
                refine SJ.q (YldS.yld (y_idxStr Try.runUnderlying9 rfl rfl h73)) rfl ?_
                refine SJ.buildSlice (R := fByte) (os := [.tmp 37]) [c72] Try.runUnderlying22 Try.sizeOf5 Try.zeroValue5 rfl rfl rfl rfl rfl rfl fun v74 => ?_
                obtain ⟨l75, h76, hm⟩ := bindS hm
                refine SJ.append (k := 2) (R := fByte) h76 rfl Try.underlying22 el5 rfl rfl rfl (fun w hw => (hw.row_rd (k := 0) rfl)) rfl fun v77 => ?_
                refine SJ.q (YldS.yld (y_assign rfl)) rfl ?_
                refine SJ.nil ?_
                refine PJ.next ?_
                refine WJ.reg ?_
                refine SJ.q (YldS.yld (y_move rfl)) rfl ?_
                refine SJ.q (YldS.yld (y_move rfl)) rfl ?_
                refine SJ.q (YldS.yld (y_move rfl)) rfl ?_
                obtain ⟨l78, h79, hm⟩ := bindS hm
                refine SJ.q (YldS.yld (y_slcX (i := some r32.1) (j := none) (k := 3) h79 rfl Try.runUnderlying22 Try.sizeOf5 rfl ⟨_, rfl⟩ trivial)) rfl ?_
                obtain ⟨l80, h81, hm⟩ := bindS hm
                refine SJ.append (k := 2) (R := fByte) h81 rfl Try.underlying22 el5 rfl rfl rfl (fun w hw => (hw.slcX_rd (k := 3) (i := some r32.1) (j := none) rfl h79)) rfl fun v82 => ?_
                refine SJ.q (YldS.yld (y_assign rfl)) rfl ?_
                refine SJ.nil ?_
                refine PJ.block_normal (PJ.block_normal ?_)
                refine PJ.mixR 2 rfl ?_
                exact PJ.joined (r70.2.at_, r70.2.seed, l80, v82) [1, 2] hm ⟨rfl, rfl, rfl, trivial⟩ ⟨by decide, rfl⟩
        · rintro ⟨x26, x27, l28, v29⟩ hm
          subst hk31
          refine WJ.quiet ?_
          refine QJ.step (YldS.yld (y_move rfl)) rfl ?_
          refine QJ.step (YldS.yld (y_bin rfl rfl rfl)) rfl ?_
          refine QJ.step (YldS.yld (y_assign rfl)) rfl ?_
          refine QJ.done ?_
          exact PJ.round (x26, x27, l28, v29, w64 (k21 - 1)) [0, 1] hm ⟨rfl, rfl, rfl, trivial⟩ ⟨by decide, rfl⟩
      · replace hm := ifF hm hb25
        refine WJ.exit ?_
        refine PJ.then_exit (PJ.then_exit (PJ.block_exit ?_))
        exact PJ.joined (x17, x18, l19, v20) [0, 1] hm ⟨rfl, trivial⟩ ⟨by decide, rfl⟩
  · rintro ⟨x9, x10, l11, v12⟩ hm
    subst hk14
    refine WJ.seq ?_
    refine WJ.quiet ?_
    refine QJ.step (YldS.yld (y_move rfl)) rfl ?_
    refine QJ.step (YldS.yld (y_b2s Try.underlying22 Try.underlying9 Try.underlying5 (fun w hw => ⟨_, (hw.rowX_rd (k := 1) rfl)⟩) rfl)) rfl ?_
    refine QJ.step (YldS.yld (y_assign rfl)) rfl ?_
    refine QJ.done ?_
    refine PJ.next ?_
    refine WJ.ret ?_
    obtain rfl := Option.some.inj hm
    refine PJ.sel (L' := [box g2 96 [v3, .int .i64 x9, .int .u64 x10]]) [0] ⟨by decide, rfl⟩ ?_
    exact PJ.retn (vs := [str l11]) Try.results48 ⟨rfl, trivial⟩ ⟨rfl, rfl⟩

set_option maxRecDepth 100000 in
set_option maxHeartbeats 1000000 in
theorem ok_s_A2Typed {N : Nat} {code1 : List UInt8} {r : Str × Str} (hm : s_A2Typed N code1 = some r) (w : World) (v2 : Value) (hr3 : RdS w (cx w).Fz v2 fByte.rp code1) :
    Calls Try.prog 15 #[v2] w (Ret (cx w) (tup [str r.1, str r.2])) := by
  unfold s_A2Typed at hm
  refine Calls.enter [v2] Try.func15 rfl Try.ntmps15 rfl ?_
  refine WJ.seq ?_
  refine WJ.quiet ?_
  refine QJ.step (YldS.yld (y_assign rfl)) rfl ?_
  refine QJ.step (YldS.yld (y_assign rfl)) rfl ?_
  refine QJ.done ?_
  refine PJ.next ?_
  refine WJ.seq ?_
  refine WJ.reg ?_
  refine SJ.q (YldS.yld (y_move rfl)) rfl ?_
  obtain ⟨r4, h5, hm⟩ := bindS hm
  refine SJ.call Try.call42 rfl (fun w hw => ok_s_l00From h5 w _ (hr3.st hw)) rfl ?_
  rintro _ _ ⟨g6, rfl, rfl⟩
  refine SJ.q (YldS.yld (y_assign rfl)) rfl ?_
  refine SJ.nil ?_
  refine PJ.next ?_
  refine WJ.seq ?_
  refine WJ.reg ?_
  refine SJ.q (YldS.yld (y_move rfl)) rfl ?_
  obtain ⟨r7, h8, hm⟩ := bindS hm
  refine SJ.call1 (k := 0) rfl Try.call47 rfl (fun w S hw hA hO => ok_s_l19Draw h8 w S _ (hr3.st1 hw hO) hA) rfl ?_
  rintro _ _ ⟨rfl, rfl⟩
  refine SJ.q (YldS.yld (y_assign rfl)) rfl ?_
  refine SJ.nil ?_
  refine PJ.next ?_
  refine WJ.seq ?_
  refine WJ.reg ?_
  refine SJ.q (YldS.yld (y_move rfl)) rfl ?_
  refine SJ.q (YldS.yld (y_move rfl)) rfl ?_
  refine SJ.q (YldS.yld (y_move rfl)) rfl ?_
  obtain ⟨r9, h10, hm⟩ := bindS hm
  refine SJ.call1 (k := 0) rfl Try.call48 rfl (fun w S hw hA hO => ok_s_l19Near h10 w S _ (hr3.st1 hw hO) hA) rfl ?_
  rintro _ _ ⟨rfl, rfl⟩
  refine SJ.q (YldS.yld (y_assign rfl)) rfl ?_
  refine SJ.q (YldS.yld (y_assign rfl)) rfl ?_
  refine SJ.nil ?_
  refine PJ.next ?_
  refine WJ.ret ?_
  obtain rfl := Option.some.inj hm
  refine PJ.sel (L' := []) [] ⟨List.nodup_nil, rfl⟩ ?_
  exact PJ.retn (vs := [str r7.1, str r9.1]) Try.results15 ⟨rfl, rfl, trivial⟩ ⟨rfl, rfl⟩

set_option maxRecDepth 100000 in
set_option maxHeartbeats 1000000 in
theorem ok_i_isText {N : Nat} {s1 : Str} {low2 : UInt8} {most3 : Int} {r : Bool} (hm : i_isText N s1 low2 most3 = some r) (w : World)  :
    Calls Try.prog 76 #[str s1, .int .u8 (UInt8.toNat low2 : Int), .int .i64 most3] w (Ret (cx w) (.bool r)) := by
  unfold i_isText at hm
  refine Calls.enter [str s1, .int .u8 (UInt8.toNat low2 : Int), .int .i64 most3] Try.func76 rfl Try.ntmps76 rfl ?_
  refine WJ.seq ?_
  refine WJ.quiet ?_
  refine QJ.step (YldS.yld (y_assign rfl)) rfl ?_
  refine QJ.done ?_
  refine PJ.next ?_
  refine WJ.seq ?_
  refine WJ.seq ?_
  refine WJ.quiet ?_
  refine QJ.step (YldS.yld (y_move rfl)) rfl ?_
  refine QJ.step (YldS.yld (y_lenStr Try.runUnderlying9 rfl)) rfl ?_
  refine QJ.step (YldS.yld (y_move rfl)) rfl ?_
  refine QJ.step (YldS.yld (y_bin rfl rfl rfl)) rfl ?_
  refine QJ.done ?_
  refine PJ.next ?_
  refine WJ.cond (t := decide ((List.length s1 : Int) > most3)) rfl (fun hb4 => ?_) (fun hb4 => ?_)
  · replace hm := ifT hm hb4
    refine WJ.seq ?_
    refine WJ.quiet ?_
    refine QJ.step (YldS.yld (y_assign rfl)) rfl ?_
    refine QJ.done ?_
    refine PJ.next ?_
    refine WJ.ret ?_
    refine PJ.then_ret ?_
    obtain rfl := Option.some.inj hm
    refine PJ.sel (L' := []) [] ⟨List.nodup_nil, rfl⟩ ?_
    exact PJ.retn (vs := [.bool false]) Try.results76 ⟨rfl, trivial⟩ ⟨rfl, rfl⟩
  · replace hm := ifF hm hb4
    refine WJ.skip ?_
    refine PJ.next ?_
    obtain ⟨kj5, hk6, hm⟩ := withK_open hm
    refine WJ.join (X := Unit) (fun (_ : Unit) => kj5  = some r) (fun (_ : Unit) => []) (fun (_ : Unit) => []) ?_ ?_
    · clear hk6
      refine WJ.seq ?_
      refine WJ.quiet ?_
      refine QJ.step (YldS.yld (y_move rfl)) rfl ?_
      refine QJ.step (YldS.yld (y_lenStr Try.runUnderlying9 rfl)) rfl ?_
      refine QJ.step (YldS.yld (y_move rfl)) rfl ?_
      refine QJ.done ?_
      refine PJ.next ?_
      refine WJ.block ?_
      refine WJ.sel (L' := (fun (x : Int) => []) 0) [] ⟨List.nodup_nil, rfl⟩ ?_
      refine WJ.sub (m' := (fun (x : Int) => [(0, str s1), (1, .int .u8 (UInt8.toNat low2 : Int)), (13, .int .i64 (List.length s1 : Int)), (14, .int .i64 x)]) 0) ⟨rfl, rfl, rfl, rfl, trivial⟩ ?_
      refine WJ.loop (X := Int) (fun N (x : Int) => i_isText_l1 kj5 s1 low2 N x = some r) (fun (x : Int) => [(0, str s1), (1, .int .u8 (UInt8.toNat low2 : Int)), (13, .int .i64 (List.length s1 : Int)), (14, .int .i64 x)]) (fun (x : Int) => []) ?_ N 0 hm
      · rintro N x7 hI
        have hm := hI; clear hI
        cases N with
        | zero => cases hm
        | succ N =>
        unfold i_isText_l1 at hm
        refine WJ.seq ?_
        refine WJ.quiet ?_
        refine QJ.step (YldS.yld (y_bin rfl rfl rfl)) rfl ?_
        refine QJ.done ?_
        refine PJ.next ?_
        refine WJ.seq ?_
        refine WJ.cond (t := decide (x7 < (List.length s1 : Int))) rfl (fun hb8 => ?_) (fun hb8 => ?_)
        · replace hm := ifT hm hb8
          refine WJ.skip ?_
          refine PJ.next ?_
          refine WJ.seq ?_
          refine WJ.block ?_
          refine WJ.seq ?_
          refine WJ.quiet ?_
          refine QJ.step (YldS.yld (y_move rfl)) rfl ?_
          refine QJ.step (YldS.yld (y_assign rfl)) rfl ?_
          refine QJ.done ?_
          refine PJ.next ?_
          refine WJ.seq ?_
          refine WJ.quiet ?_
          refine QJ.step (YldS.yld (y_move rfl)) rfl ?_
          refine QJ.step (YldS.yld (y_move rfl)) rfl ?_
          obtain ⟨c9, h10, hm⟩ := bindS hm
          refine QJ.step (YldS.yld (y_idxStr Try.runUnderlying9 rfl rfl h10)) rfl ?_
          refine QJ.step (YldS.yld (y_move rfl)) rfl ?_
          refine QJ.step (YldS.yld (y_bin8 c9 low2 rfl rfl rfl)) rfl ?_
          refine QJ.step (YldS.yld (y_move rfl)) rfl ?_
          obtain ⟨t11, h12, hm⟩ := bindS hm
          refine QJ.cut 5 [(0, str s1), (1, .int .u8 (UInt8.toNat low2 : Int)), (13, .int .i64 (List.length s1 : Int)), (14, .int .i64 x7), (27, .bool t11)] ?_ ?_
          · rcases Bool.eq_false_or_eq_true (decide (c9 < low2)) with hb13 | hb13
            · obtain rfl := orT h12 hb13
              refine QJ.off rfl rfl (cB hb13) rfl rfl ?_
              refine QJ.off rfl rfl (cB hb13) rfl rfl ?_
              refine QJ.off rfl rfl (cB hb13) rfl rfl ?_
              refine QJ.off rfl rfl (cB hb13) rfl rfl ?_
              refine QJ.step (YldS.yld (y_pick_t (cB hb13) rfl)) rfl ?_
              exact QJ.cut_end ⟨rfl, rfl, rfl, rfl, rfl, trivial⟩
            · replace h12 := orF h12 hb13
              refine QJ.on rfl rfl (cB hb13) (YldS.yld (y_move rfl)) rfl ?_
              refine QJ.on rfl rfl (cB hb13) (YldS.yld (y_move rfl)) rfl ?_
              obtain ⟨c14, h15, h12⟩ := bindS h12
              refine QJ.on rfl rfl (cB hb13) (YldS.yld (y_idxStr Try.runUnderlying9 rfl rfl h15)) rfl ?_
              refine QJ.on rfl rfl (cB hb13) (YldS.yld (y_bin8 c14 (126 : UInt8) rfl rfl rfl)) rfl ?_
              refine QJ.step (YldS.yld (y_pick_f (cB hb13) rfl)) rfl ?_
              obtain rfl := Option.some.inj h12
              exact QJ.cut_end ⟨rfl, rfl, rfl, rfl, rfl, trivial⟩
          refine QJ.done ?_
          refine PJ.next ?_
          refine WJ.cond (t := t11) rfl (fun hb16 => ?_) (fun hb16 => ?_)
          · replace hm := ifT hm hb16
            refine WJ.seq ?_
            refine WJ.quiet ?_
            refine QJ.step (YldS.yld (y_assign rfl)) rfl ?_
            refine QJ.done ?_
            refine PJ.next ?_
            refine WJ.ret ?_
            refine PJ.block_ret (PJ.then_ret (PJ.then_ret (PJ.block_ret (PJ.then_ret ?_))))
            obtain rfl := Option.some.inj hm
            refine PJ.sel (L' := []) [] ⟨List.nodup_nil, rfl⟩ ?_
            exact PJ.retn (vs := [.bool false]) Try.results76 ⟨rfl, trivial⟩ ⟨rfl, rfl⟩
          · replace hm := ifF hm hb16
            refine WJ.skip ?_
            refine PJ.block_normal (PJ.next ?_)
            refine WJ.quiet ?_
            refine QJ.step (YldS.yld (y_bin rfl rfl rfl)) rfl ?_
            refine QJ.step (YldS.yld (y_move rfl)) rfl ?_
            refine QJ.done ?_
            exact PJ.round (w64 (x7 + 1)) [] hm ⟨rfl, rfl, rfl, rfl, trivial⟩ ⟨List.nodup_nil, rfl⟩
        · replace hm := ifF hm hb8
          refine WJ.exit ?_
          refine PJ.then_exit (PJ.then_exit (PJ.block_exit ?_))
          exact PJ.joined () [] hm trivial ⟨List.nodup_nil, rfl⟩
    · rintro _ hm
      subst hk6
      refine WJ.seq ?_
      refine WJ.quiet ?_
      refine QJ.step (YldS.yld (y_assign rfl)) rfl ?_
      refine QJ.done ?_
      refine PJ.next ?_
      refine WJ.ret ?_
      obtain rfl := Option.some.inj hm
      refine PJ.sel (L' := []) [] ⟨List.nodup_nil, rfl⟩ ?_
      exact PJ.retn (vs := [.bool true]) Try.results76 ⟨rfl, trivial⟩ ⟨rfl, rfl⟩

set_option maxRecDepth 100000 in
set_option maxHeartbeats 1000000 in
theorem ok_i_isTyped {N : Nat} {s1 : Str} {r : Bool} (hm : i_isTyped N s1 = some r) (w : World)  :
    Calls Try.prog 53 #[str s1] w (Ret (cx w) (.bool r)) := by
  unfold i_isTyped at hm
  refine Calls.enter [str s1] Try.func53 rfl Try.ntmps53 rfl ?_
  refine WJ.seq ?_
  refine WJ.quiet ?_
  refine QJ.step (YldS.yld (y_assign rfl)) rfl ?_
  refine QJ.done ?_
  refine PJ.next ?_
  refine WJ.seq ?_
  refine WJ.quiet ?_
  refine QJ.step (YldS.yld (y_move rfl)) rfl ?_
  obtain ⟨r2, h3, hm⟩ := bindS hm
  refine QJ.step (y_call Try.call76 rfl (RetG.quiet fun w hw => ok_i_isText h3 w )) rfl ?_
  refine QJ.step (YldS.yld (y_assign rfl)) rfl ?_
  refine QJ.done ?_
  refine PJ.next ?_
  refine WJ.ret ?_
  obtain rfl := Option.some.inj hm
  refine PJ.sel (L' := []) [] ⟨List.nodup_nil, rfl⟩ ?_
  exact PJ.retn (vs := [.bool r2]) Try.results53 ⟨rfl, trivial⟩ ⟨rfl, rfl⟩

set_option maxRecDepth 100000 in
set_option maxHeartbeats 1000000 in
theorem ok_i_stepAt {want1 : Str} {typed2 : Str} {step3 : UInt8} {r : Int × Int × Int × Bool} (hm : i_stepAt want1 typed2 step3 = some r) (w : World)  :
    Calls Try.prog 77 #[str want1, str typed2, .int .u8 (UInt8.toNat step3 : Int)] w (Ret (cx w) (tup [.int .i64 r.1, .int .i64 r.2.1, .int .i64 r.2.2.1, .bool r.2.2.2])) := by
  unfold i_stepAt at hm
  refine Calls.enter [str want1, str typed2, .int .u8 (UInt8.toNat step3 : Int)] Try.func77 rfl Try.ntmps77 rfl ?_
  refine WJ.seq ?_
  refine WJ.quiet ?_
  refine QJ.step (YldS.yld (y_assign rfl)) rfl ?_
  refine QJ.step (YldS.yld (y_assign rfl)) rfl ?_
  refine QJ.step (YldS.yld (y_assign rfl)) rfl ?_
  refine QJ.step (YldS.yld (y_assign rfl)) rfl ?_
  refine QJ.done ?_
  refine PJ.next ?_
  refine WJ.seq ?_
  refine WJ.quiet ?_
  refine QJ.step (YldS.yld (y_move rfl)) rfl ?_
  refine QJ.step (YldS.yld (y_binS rfl rfl rfl)) rfl ?_
  refine QJ.step (YldS.yld (y_move rfl)) rfl ?_
  obtain ⟨t4, h5, hm⟩ := bindS hm
  refine QJ.cut 3 [(0, str want1), (1, str typed2), (2, .int .u8 (UInt8.toNat step3 : Int)), (16, .bool t4)] ?_ ?_
  · rcases Bool.eq_false_or_eq_true (want1 != []) with hb6 | hb6
    · replace h5 := andT h5 hb6
      refine QJ.on rfl rfl (cB hb6) (YldS.yld (y_move rfl)) rfl ?_
      refine QJ.on rfl rfl (cB hb6) (YldS.yld (y_binS rfl rfl rfl)) rfl ?_
      refine QJ.step (YldS.yld (y_pick_t (cB hb6) rfl)) rfl ?_
      obtain rfl := Option.some.inj h5
      exact QJ.cut_end ⟨rfl, rfl, rfl, rfl, trivial⟩
    · obtain rfl := andF h5 hb6
      refine QJ.off rfl rfl (cB hb6) rfl rfl ?_
      refine QJ.off rfl rfl (cB hb6) rfl rfl ?_
      refine QJ.step (YldS.yld (y_pick_f (cB hb6) rfl)) rfl ?_
      exact QJ.cut_end ⟨rfl, rfl, rfl, rfl, trivial⟩
  refine QJ.step (YldS.yld (y_assign rfl)) rfl ?_
  refine QJ.done ?_
  refine PJ.next ?_
  refine WJ.seq ?_
  refine WJ.seq ?_
  refine WJ.quiet ?_
  refine QJ.step (YldS.yld (y_move rfl)) rfl ?_
  refine QJ.done ?_
  refine PJ.next ?_
  refine WJ.block ?_
  refine WJ.seq ?_
  refine WJ.quiet ?_
  refine QJ.step (YldS.yld (y_bin8 step3 (61 : UInt8) rfl rfl rfl)) rfl ?_
  refine QJ.step (YldS.yld (y_assign rfl)) rfl ?_
  refine QJ.done ?_
  refine PJ.next ?_
  refine WJ.cond (t := (step3 == (61 : UInt8))) rfl (fun hb7 => ?_) (fun hb7 => ?_)
  · replace hm := ifT hm hb7
    refine WJ.seq ?_
    refine WJ.quiet_draw follows (by kernel_rfl) ?_
    refine QJ.step (YldS.yld (y_move rfl)) rfl ?_
    refine QJ.step (YldS.yld (y_move rfl)) rfl ?_
    obtain ⟨t8, h9, hm⟩ := bindS hm
    refine QJ.cut 6 [(27, .bool t8)] ?_ ?_
    · rcases Bool.eq_false_or_eq_true t4 with hb10 | hb10
      · replace h9 := andT h9 hb10
        refine QJ.on rfl rfl (cB hb10) (YldS.yld (y_move rfl)) rfl ?_
        obtain ⟨c11, h12, h9⟩ := bindS h9
        refine QJ.on rfl rfl (cB hb10) (YldS.yld (y_idxStr Try.runUnderlying9 rfl rfl h12)) rfl ?_
        refine QJ.on rfl rfl (cB hb10) (YldS.yld (y_move rfl)) rfl ?_
        obtain ⟨c13, h14, h9⟩ := bindS h9
        refine QJ.on rfl rfl (cB hb10) (YldS.yld (y_idxStr Try.runUnderlying9 rfl rfl h14)) rfl ?_
        refine QJ.on rfl rfl (cB hb10) (YldS.yld (y_bin8 c11 c13 rfl rfl rfl)) rfl ?_
        refine QJ.step (YldS.yld (y_pick_t (cB hb10) rfl)) rfl ?_
        obtain rfl := Option.some.inj h9
        exact QJ.cut_end ⟨rfl, trivial⟩
      · obtain rfl := andF h9 hb10
        refine QJ.off rfl rfl (cB hb10) rfl rfl ?_
        refine QJ.off rfl rfl (cB hb10) rfl rfl ?_
        refine QJ.off rfl rfl (cB hb10) rfl rfl ?_
        refine QJ.off rfl rfl (cB hb10) rfl rfl ?_
        refine QJ.off rfl rfl (cB hb10) rfl rfl ?_
        refine QJ.step (YldS.yld (y_pick_f (cB hb10) rfl)) rfl ?_
        exact QJ.cut_end ⟨rfl, trivial⟩
    refine QJ.step (YldS.yld (y_assign rfl)) rfl ?_
    refine QJ.step (YldS.yld (y_assign rfl)) rfl ?_
    refine QJ.step (YldS.yld (y_assign rfl)) rfl ?_
    refine QJ.step (YldS.yld (y_assign rfl)) rfl ?_
    refine QJ.done ?_
    refine PJ.next ?_
    refine WJ.ret ?_
    refine PJ.block_ret (PJ.then_ret ?_)
    obtain rfl := Option.some.inj hm
    refine PJ.sel (L' := []) [] ⟨List.nodup_nil, rfl⟩ ?_
    exact PJ.retn (vs := [.int .i64 1, .int .i64 1, .int .i64 0, .bool t8]) Try.results77 ⟨rfl, rfl, rfl, rfl, trivial⟩ ⟨rfl, rfl⟩
  · replace hm := ifF hm hb7
    refine WJ.seq ?_
    refine WJ.quiet ?_
    refine QJ.step (YldS.yld (y_bin8 step3 (120 : UInt8) rfl rfl rfl)) rfl ?_
    refine QJ.step (YldS.yld (y_assign rfl)) rfl ?_
    refine QJ.done ?_
    refine PJ.next ?_
    refine WJ.cond (t := (step3 == (120 : UInt8))) rfl (fun hb15 => ?_) (fun hb15 => ?_)
    · replace hm := ifT hm hb15
      refine WJ.seq ?_
      refine WJ.quiet_draw follows (by kernel_rfl) ?_
      refine QJ.step (YldS.yld (y_move rfl)) rfl ?_
      refine QJ.step (YldS.yld (y_move rfl)) rfl ?_
      obtain ⟨t16, h17, hm⟩ := bindS hm
      refine QJ.cut 6 [(37, .bool t16)] ?_ ?_
      · rcases Bool.eq_false_or_eq_true t4 with hb18 | hb18
        · replace h17 := andT h17 hb18
          refine QJ.on rfl rfl (cB hb18) (YldS.yld (y_move rfl)) rfl ?_
          obtain ⟨c19, h20, h17⟩ := bindS h17
          refine QJ.on rfl rfl (cB hb18) (YldS.yld (y_idxStr Try.runUnderlying9 rfl rfl h20)) rfl ?_
          refine QJ.on rfl rfl (cB hb18) (YldS.yld (y_move rfl)) rfl ?_
          obtain ⟨c21, h22, h17⟩ := bindS h17
          refine QJ.on rfl rfl (cB hb18) (YldS.yld (y_idxStr Try.runUnderlying9 rfl rfl h22)) rfl ?_
          refine QJ.on rfl rfl (cB hb18) (YldS.yld (y_bin8 c19 c21 rfl rfl rfl)) rfl ?_
          refine QJ.step (YldS.yld (y_pick_t (cB hb18) rfl)) rfl ?_
          obtain rfl := Option.some.inj h17
          exact QJ.cut_end ⟨rfl, trivial⟩
        · obtain rfl := andF h17 hb18
          refine QJ.off rfl rfl (cB hb18) rfl rfl ?_
          refine QJ.off rfl rfl (cB hb18) rfl rfl ?_
          refine QJ.off rfl rfl (cB hb18) rfl rfl ?_
          refine QJ.off rfl rfl (cB hb18) rfl rfl ?_
          refine QJ.off rfl rfl (cB hb18) rfl rfl ?_
          refine QJ.step (YldS.yld (y_pick_f (cB hb18) rfl)) rfl ?_
          exact QJ.cut_end ⟨rfl, trivial⟩
      refine QJ.step (YldS.yld (y_assign rfl)) rfl ?_
      refine QJ.step (YldS.yld (y_assign rfl)) rfl ?_
      refine QJ.step (YldS.yld (y_assign rfl)) rfl ?_
      refine QJ.step (YldS.yld (y_assign rfl)) rfl ?_
      refine QJ.done ?_
      refine PJ.next ?_
      refine WJ.ret ?_
      refine PJ.block_ret (PJ.then_ret ?_)
      obtain rfl := Option.some.inj hm
      refine PJ.sel (L' := []) [] ⟨List.nodup_nil, rfl⟩ ?_
      exact PJ.retn (vs := [.int .i64 1, .int .i64 1, .int .i64 1, .bool t16]) Try.results77 ⟨rfl, rfl, rfl, rfl, trivial⟩ ⟨rfl, rfl⟩
    · replace hm := ifF hm hb15
      refine WJ.seq ?_
      refine WJ.quiet ?_
      refine QJ.step (YldS.yld (y_bin8 step3 (45 : UInt8) rfl rfl rfl)) rfl ?_
      refine QJ.step (YldS.yld (y_assign rfl)) rfl ?_
      refine QJ.done ?_
      refine PJ.next ?_
      refine WJ.cond (t := (step3 == (45 : UInt8))) rfl (fun hb23 => ?_) (fun hb23 => ?_)
      · replace hm := ifT hm hb23
        refine WJ.seq ?_
        refine WJ.quiet ?_
        refine QJ.step (YldS.yld (y_move rfl)) rfl ?_
        refine QJ.step (YldS.yld (y_binS rfl rfl rfl)) rfl ?_
        refine QJ.step (YldS.yld (y_assign rfl)) rfl ?_
        refine QJ.step (YldS.yld (y_assign rfl)) rfl ?_
        refine QJ.step (YldS.yld (y_assign rfl)) rfl ?_
        refine QJ.step (YldS.yld (y_assign rfl)) rfl ?_
        refine QJ.done ?_
        refine PJ.next ?_
        refine WJ.ret ?_
        refine PJ.block_ret (PJ.then_ret ?_)
        obtain rfl := Option.some.inj hm
        refine PJ.sel (L' := []) [] ⟨List.nodup_nil, rfl⟩ ?_
        exact PJ.retn (vs := [.int .i64 1, .int .i64 0, .int .i64 1, .bool (want1 != [])]) Try.results77 ⟨rfl, rfl, rfl, rfl, trivial⟩ ⟨rfl, rfl⟩
      · replace hm := ifF hm hb23
        refine WJ.seq ?_
        refine WJ.quiet ?_
        refine QJ.step (YldS.yld (y_bin8 step3 (43 : UInt8) rfl rfl rfl)) rfl ?_
        refine QJ.step (YldS.yld (y_assign rfl)) rfl ?_
        refine QJ.done ?_
        refine PJ.next ?_
        refine WJ.cond (t := (step3 == (43 : UInt8))) rfl (fun hb24 => ?_) (fun hb24 => ?_)
        · replace hm := ifT hm hb24
          refine WJ.seq ?_
          refine WJ.quiet ?_
          refine QJ.step (YldS.yld (y_move rfl)) rfl ?_
          refine QJ.step (YldS.yld (y_binS rfl rfl rfl)) rfl ?_
          refine QJ.step (YldS.yld (y_assign rfl)) rfl ?_
          refine QJ.step (YldS.yld (y_assign rfl)) rfl ?_
          refine QJ.step (YldS.yld (y_assign rfl)) rfl ?_
          refine QJ.step (YldS.yld (y_assign rfl)) rfl ?_
          refine QJ.done ?_
          refine PJ.next ?_
          refine WJ.ret ?_
          refine PJ.block_ret (PJ.then_ret ?_)
          obtain rfl := Option.some.inj hm
          refine PJ.sel (L' := []) [] ⟨List.nodup_nil, rfl⟩ ?_
          exact PJ.retn (vs := [.int .i64 0, .int .i64 1, .int .i64 1, .bool (typed2 != [])]) Try.results77 ⟨rfl, rfl, rfl, rfl, trivial⟩ ⟨rfl, rfl⟩
        · replace hm := ifF hm hb24
          refine WJ.seq ?_
          refine WJ.quiet ?_
          refine QJ.step (YldS.yld (y_bin8 step3 (126 : UInt8) rfl rfl rfl)) rfl ?_
          refine QJ.step (YldS.yld (y_assign rfl)) rfl ?_
          refine QJ.done ?_
          refine PJ.next ?_
          refine WJ.cond (t := (step3 == (126 : UInt8))) rfl (fun hb25 => ?_) (fun hb25 => ?_)
          · replace hm := ifT hm hb25
            refine WJ.seq ?_
            refine WJ.quiet_draw follows (by kernel_rfl) ?_
            refine QJ.step (YldS.yld (y_move rfl)) rfl ?_
            refine QJ.step (YldS.yld (y_lenStr Try.runUnderlying9 rfl)) rfl ?_
            refine QJ.step (YldS.yld (y_bin rfl rfl rfl)) rfl ?_
            refine QJ.step (YldS.yld (y_move rfl)) rfl ?_
            obtain ⟨t26, h27, hm⟩ := bindS hm
            refine QJ.cut 4 [(0, str want1), (1, str typed2), (55, .bool t26)] ?_ ?_
            · rcases Bool.eq_false_or_eq_true (decide ((List.length want1 : Int) > 1)) with hb28 | hb28
              · replace h27 := andT h27 hb28
                refine QJ.on rfl rfl (cB hb28) (YldS.yld (y_move rfl)) rfl ?_
                refine QJ.on rfl rfl (cB hb28) (YldS.yld (y_lenStr Try.runUnderlying9 rfl)) rfl ?_
                refine QJ.on rfl rfl (cB hb28) (YldS.yld (y_bin rfl rfl rfl)) rfl ?_
                refine QJ.step (YldS.yld (y_pick_t (cB hb28) rfl)) rfl ?_
                obtain rfl := Option.some.inj h27
                exact QJ.cut_end ⟨rfl, rfl, rfl, trivial⟩
              · obtain rfl := andF h27 hb28
                refine QJ.off rfl rfl (cB hb28) rfl rfl ?_
                refine QJ.off rfl rfl (cB hb28) rfl rfl ?_
                refine QJ.off rfl rfl (cB hb28) rfl rfl ?_
                refine QJ.step (YldS.yld (y_pick_f (cB hb28) rfl)) rfl ?_
                exact QJ.cut_end ⟨rfl, rfl, rfl, trivial⟩
            refine QJ.step (YldS.yld (y_move rfl)) rfl ?_
            obtain ⟨t29, h30, hm⟩ := bindS hm
            refine QJ.cut 6 [(0, str want1), (1, str typed2), (62, .bool t29)] ?_ ?_
            · rcases Bool.eq_false_or_eq_true t26 with hb31 | hb31
              · replace h30 := andT h30 hb31
                refine QJ.on rfl rfl (cB hb31) (YldS.yld (y_move rfl)) rfl ?_
                obtain ⟨c32, h33, h30⟩ := bindS h30
                refine QJ.on rfl rfl (cB hb31) (YldS.yld (y_idxStr Try.runUnderlying9 rfl rfl h33)) rfl ?_
                refine QJ.on rfl rfl (cB hb31) (YldS.yld (y_move rfl)) rfl ?_
                obtain ⟨c34, h35, h30⟩ := bindS h30
                refine QJ.on rfl rfl (cB hb31) (YldS.yld (y_idxStr Try.runUnderlying9 rfl rfl h35)) rfl ?_
                refine QJ.on rfl rfl (cB hb31) (YldS.yld (y_bin8 c32 c34 rfl rfl rfl)) rfl ?_
                refine QJ.step (YldS.yld (y_pick_t (cB hb31) rfl)) rfl ?_
                obtain rfl := Option.some.inj h30
                exact QJ.cut_end ⟨rfl, rfl, rfl, trivial⟩
              · obtain rfl := andF h30 hb31
                refine QJ.off rfl rfl (cB hb31) rfl rfl ?_
                refine QJ.off rfl rfl (cB hb31) rfl rfl ?_
                refine QJ.off rfl rfl (cB hb31) rfl rfl ?_
                refine QJ.off rfl rfl (cB hb31) rfl rfl ?_
                refine QJ.off rfl rfl (cB hb31) rfl rfl ?_
                refine QJ.step (YldS.yld (y_pick_f (cB hb31) rfl)) rfl ?_
                exact QJ.cut_end ⟨rfl, rfl, rfl, trivial⟩
            refine QJ.step (YldS.yld (y_move rfl)) rfl ?_
            obtain ⟨t36, h37, hm⟩ := bindS hm
            refine QJ.cut 6 [(0, str want1), (1, str typed2), (69, .bool t36)] ?_ ?_
            · rcases Bool.eq_false_or_eq_true t29 with hb38 | hb38
              · replace h37 := andT h37 hb38
                refine QJ.on rfl rfl (cB hb38) (YldS.yld (y_move rfl)) rfl ?_
                obtain ⟨c39, h40, h37⟩ := bindS h37
                refine QJ.on rfl rfl (cB hb38) (YldS.yld (y_idxStr Try.runUnderlying9 rfl rfl h40)) rfl ?_
                refine QJ.on rfl rfl (cB hb38) (YldS.yld (y_move rfl)) rfl ?_
                obtain ⟨c41, h42, h37⟩ := bindS h37
                refine QJ.on rfl rfl (cB hb38) (YldS.yld (y_idxStr Try.runUnderlying9 rfl rfl h42)) rfl ?_
                refine QJ.on rfl rfl (cB hb38) (YldS.yld (y_bin8 c39 c41 rfl rfl rfl)) rfl ?_
                refine QJ.step (YldS.yld (y_pick_t (cB hb38) rfl)) rfl ?_
                obtain rfl := Option.some.inj h37
                exact QJ.cut_end ⟨rfl, rfl, rfl, trivial⟩
              · obtain rfl := andF h37 hb38
                refine QJ.off rfl rfl (cB hb38) rfl rfl ?_
                refine QJ.off rfl rfl (cB hb38) rfl rfl ?_
                refine QJ.off rfl rfl (cB hb38) rfl rfl ?_
                refine QJ.off rfl rfl (cB hb38) rfl rfl ?_
                refine QJ.off rfl rfl (cB hb38) rfl rfl ?_
                refine QJ.step (YldS.yld (y_pick_f (cB hb38) rfl)) rfl ?_
                exact QJ.cut_end ⟨rfl, rfl, rfl, trivial⟩
            refine QJ.step (YldS.yld (y_move rfl)) rfl ?_
            obtain ⟨t43, h44, hm⟩ := bindS hm
            refine QJ.cut 6 [(76, .bool t43)] ?_ ?_
            · rcases Bool.eq_false_or_eq_true t36 with hb45 | hb45
              · replace h44 := andT h44 hb45
                refine QJ.on rfl rfl (cB hb45) (YldS.yld (y_move rfl)) rfl ?_
                obtain ⟨c46, h47, h44⟩ := bindS h44
                refine QJ.on rfl rfl (cB hb45) (YldS.yld (y_idxStr Try.runUnderlying9 rfl rfl h47)) rfl ?_
                refine QJ.on rfl rfl (cB hb45) (YldS.yld (y_move rfl)) rfl ?_
                obtain ⟨c48, h49, h44⟩ := bindS h44
                refine QJ.on rfl rfl (cB hb45) (YldS.yld (y_idxStr Try.runUnderlying9 rfl rfl h49)) rfl ?_
                refine QJ.on rfl rfl (cB hb45) (YldS.yld (y_bin8 c46 c48 rfl rfl rfl)) rfl ?_
                refine QJ.step (YldS.yld (y_pick_t (cB hb45) rfl)) rfl ?_
                obtain rfl := Option.some.inj h44
                exact QJ.cut_end ⟨rfl, trivial⟩
              · obtain rfl := andF h44 hb45
                refine QJ.off rfl rfl (cB hb45) rfl rfl ?_
                refine QJ.off rfl rfl (cB hb45) rfl rfl ?_
                refine QJ.off rfl rfl (cB hb45) rfl rfl ?_
                refine QJ.off rfl rfl (cB hb45) rfl rfl ?_
                refine QJ.off rfl rfl (cB hb45) rfl rfl ?_
                refine QJ.step (YldS.yld (y_pick_f (cB hb45) rfl)) rfl ?_
                exact QJ.cut_end ⟨rfl, trivial⟩
            refine QJ.step (YldS.yld (y_assign rfl)) rfl ?_
            refine QJ.step (YldS.yld (y_assign rfl)) rfl ?_
            refine QJ.step (YldS.yld (y_assign rfl)) rfl ?_
            refine QJ.step (YldS.yld (y_assign rfl)) rfl ?_
            refine QJ.done ?_
            refine PJ.next ?_
            refine WJ.ret ?_
            refine PJ.block_ret (PJ.then_ret ?_)
            obtain rfl := Option.some.inj hm
            refine PJ.sel (L' := []) [] ⟨List.nodup_nil, rfl⟩ ?_
            exact PJ.retn (vs := [.int .i64 2, .int .i64 2, .int .i64 1, .bool t43]) Try.results77 ⟨rfl, rfl, rfl, rfl, trivial⟩ ⟨rfl, rfl⟩
          · replace hm := ifF hm hb25
            refine WJ.skip ?_
            refine PJ.block_normal (PJ.next ?_)
            refine WJ.seq ?_
            refine WJ.quiet ?_
            refine QJ.step (YldS.yld (y_assign rfl)) rfl ?_
            refine QJ.step (YldS.yld (y_assign rfl)) rfl ?_
            refine QJ.step (YldS.yld (y_assign rfl)) rfl ?_
            refine QJ.step (YldS.yld (y_assign rfl)) rfl ?_
            refine QJ.done ?_
            refine PJ.next ?_
            refine WJ.ret ?_
            obtain rfl := Option.some.inj hm
            refine PJ.sel (L' := []) [] ⟨List.nodup_nil, rfl⟩ ?_
            exact PJ.retn (vs := [.int .i64 0, .int .i64 0, .int .i64 0, .bool false]) Try.results77 ⟨rfl, rfl, rfl, rfl, trivial⟩ ⟨rfl, rfl⟩

set_option maxRecDepth 100000 in
set_option maxHeartbeats 1000000 in
theorem ok_i_leastFrom {N : Nat} {want1 : Str} {typed2 : Str} {r : (List (List Int))} (hm : i_leastFrom N want1 typed2 = some r) (w : World)  :
    Calls Try.prog 57 #[str want1, str typed2] w (RetG (cx w) fun u L => ∃ (u1 : Value) (u2 : List (Raw 1)), (u = u1 ∧ L = [row u1 81 fRaw1 u2, inn (rSl fI64.rp) u2 r])) := by
  unfold i_leastFrom at hm
  refine Calls.enter [str want1, str typed2] Try.func57 rfl Try.ntmps57 rfl ?_
  refine WJ.seq ?_
  refine WJ.quiet ?_
  refine QJ.step (YldS.yld (y_assign rfl)) rfl ?_
  refine QJ.done ?_
  refine PJ.next ?_
  refine WJ.seq ?_
  refine WJ.reg ?_
  refine SJ.q (YldS.yld (y_move rfl)) rfl ?_
  refine SJ.q (YldS.yld (y_lenStr Try.runUnderlying9 rfl)) rfl ?_
  refine SJ.q (YldS.yld (y_bin rfl rfl rfl)) rfl ?_
  obtain ⟨l3, h4, hm⟩ := bindS hm
  refine SJ.makeSlice (R := fRaw1) (z := rawNil) (mk_raw h4) Try.underlying82 el81 rfl rfl rfl fun v5 => ?_
  refine SJ.inm_make 3 fI64 h4 ?_
  refine SJ.q (YldS.yld (y_assign rfl)) rfl ?_
  refine SJ.nil ?_
  refine PJ.next ?_
  obtain ⟨kj8, hk9, hm⟩ := withK_open hm
  refine WJ.join (X := (List (List Int)) × (List (Raw 1))) (fun (x : (List (List Int)) × (List (Raw 1))) => kj8 x.1 = some r) (fun (x : (List (List Int)) × (List (Raw 1))) => [(0, str want1), (1, str typed2), (5, v5)]) (fun (x : (List (List Int)) × (List (Raw 1))) => [inm 3 fI64 x.2 x.1, row v5 81 fRaw1 x.2]) ?_ ?_
  · clear hk9
    refine WJ.seq ?_
    refine WJ.quiet ?_
    refine QJ.step (YldS.yld (y_move rfl)) rfl ?_
    refine QJ.step (YldS.yld (y_lenG (fun w hw => (hw.nsm_rd (k := 1) (j := 0) rfl rfl)) Try.runUnderlying82 rfl)) rfl ?_
    refine QJ.step (YldS.yld (y_move rfl)) rfl ?_
    refine QJ.done ?_
    refine PJ.next ?_
    refine WJ.block ?_
    refine WJ.sel (L' := (fun (x : (List (List Int)) × (List (Raw 1)) × Int) => [inm 3 fI64 x.2.1 x.1, row v5 81 fRaw1 x.2.1]) (l3, (List.replicate (List.length l3) rawNil), 0)) [0, 1] ⟨by decide, rfl⟩ ?_
    refine WJ.sub (m' := (fun (x : (List (List Int)) × (List (Raw 1)) × Int) => [(0, str want1), (1, str typed2), (5, v5), (21, .int .i64 (List.length l3 : Int)), (22, .int .i64 x.2.2)]) (l3, (List.replicate (List.length l3) rawNil), 0)) ⟨rfl, rfl, rfl, rfl, rfl, trivial⟩ ?_
    refine WJ.loop (X := (List (List Int)) × (List (Raw 1)) × Int) (fun N (x : (List (List Int)) × (List (Raw 1)) × Int) => i_leastFrom_l1 kj8 typed2 l3 N x.1 x.2.2 = some r) (fun (x : (List (List Int)) × (List (Raw 1)) × Int) => [(0, str want1), (1, str typed2), (5, v5), (21, .int .i64 (List.length l3 : Int)), (22, .int .i64 x.2.2)]) (fun (x : (List (List Int)) × (List (Raw 1)) × Int) => [inm 3 fI64 x.2.1 x.1, row v5 81 fRaw1 x.2.1]) ?_ N (l3, (List.replicate (List.length l3) rawNil), 0) hm
    · rintro N ⟨l10, vs11, x12⟩ hI
      have hm := hI; clear hI
      cases N with
      | zero => cases hm
      | succ N =>
      unfold i_leastFrom_l1 at hm
      refine WJ.seq ?_
      refine WJ.quiet ?_
      refine QJ.step (YldS.yld (y_bin rfl rfl rfl)) rfl ?_
      refine QJ.done ?_
      refine PJ.next ?_
      refine WJ.seq ?_
      refine WJ.cond (t := decide (x12 < (List.length l3 : Int))) rfl (fun hb13 => ?_) (fun hb13 => ?_)
      · replace hm := ifT hm hb13
        refine WJ.skip ?_
        refine PJ.next ?_
        refine WJ.seq ?_
        refine WJ.block ?_
        refine WJ.seq ?_
        refine WJ.quiet ?_
        refine QJ.step (YldS.yld (y_move rfl)) rfl ?_
        refine QJ.step (YldS.yld (y_assign rfl)) rfl ?_
        refine QJ.done ?_
        refine PJ.next ?_
        refine WJ.inm_len 0 rfl fun hl14 => ?_
        refine WJ.reg ?_
        refine SJ.q (YldS.yld (y_move rfl)) rfl ?_
        refine SJ.q (YldS.yld (y_move rfl)) rfl ?_
        refine SJ.q (YldS.yld (y_move rfl)) rfl ?_
        refine SJ.q (YldS.yld (y_lenStr Try.runUnderlying9 rfl)) rfl ?_
        refine SJ.q (YldS.yld (y_bin rfl rfl rfl)) rfl ?_
        obtain ⟨l15, h16, hm⟩ := bindS hm
        refine SJ.makeSlice (R := fI64) (z := 0) h16 Try.underlying81 el3 rfl rfl rfl fun v17 => ?_
        obtain ⟨e18, h19, hm⟩ := bindS hm
        obtain ⟨y20, hy21⟩ := inn_idx hl14 h19
        refine SJ.q (YldS.yld (y_ixRow (k := 2) (R := fRaw1) rfl Try.runUnderlying82 Try.sizeOf81 rfl rfl hy21)) rfl ?_
        refine SJ.rowCells (k := 0) rfl fun hc22 => ?_
        refine SJ.storeRL (k := 2) (i := (Int.toNat x12)) (off := 0) (us := [v17]) (b := (mkRaw1 v17 hc22.2)) rfl rfl (idx_get hy21) rfl hc22.1 Try.sizeOf81 rfl (by simp [hc22.2]) (raw_put _ _) ?_
        refine SJ.sel (L' := [row v17 3 fI64 l15, inm 3 fI64 vs11 l10, row v5 81 fRaw1 (List.set vs11 (Int.toNat x12) (mkRaw1 v17 hc22.2))]) [0, 1, 2] ⟨by decide, rfl⟩ ?_
        refine SJ.star ?_
        refine SJ.conv0 (fun w S h => inm_set hc22.2 (i0 := (Int.toNat x12)) h) ?_
        refine SJ.nil ?_
        refine PJ.block_normal (PJ.next ?_)
        refine WJ.quiet ?_
        refine QJ.step (YldS.yld (y_bin rfl rfl rfl)) rfl ?_
        refine QJ.step (YldS.yld (y_move rfl)) rfl ?_
        refine QJ.done ?_
        exact PJ.round ((List.set l10 (Int.toNat x12) l15), (List.set vs11 (Int.toNat x12) (mkRaw1 v17 hc22.2)), w64 (x12 + 1)) [0, 1] hm ⟨rfl, rfl, rfl, rfl, rfl, trivial⟩ ⟨by decide, rfl⟩
      · replace hm := ifF hm hb13
        refine WJ.exit ?_
        refine PJ.then_exit (PJ.then_exit (PJ.block_exit ?_))
        exact PJ.joined (l10, vs11) [0, 1] hm ⟨rfl, rfl, rfl, trivial⟩ ⟨by decide, rfl⟩
  · rintro ⟨l6, vs7⟩ hm
    subst hk9
    obtain ⟨kj24, hk25, hm⟩ := withK_open hm
    refine WJ.join (X := (List (List Int))) (fun (x : (List (List Int))) => kj24 x = some r) (fun (x : (List (List Int))) => [(5, v5)]) (fun (x : (List (List Int))) => [inm 3 fI64 vs7 x, row v5 81 fRaw1 vs7]) ?_ ?_
    · clear hk25
      refine WJ.seq ?_
      refine WJ.quiet ?_
      refine QJ.step (YldS.yld (y_move rfl)) rfl ?_
      refine QJ.step (YldS.yld (y_lenStr Try.runUnderlying9 rfl)) rfl ?_
      refine QJ.step (YldS.yld (y_assign rfl)) rfl ?_
      refine QJ.done ?_
      refine PJ.next ?_
      refine WJ.block ?_
      refine WJ.sel (L' := (fun (x : (List (List Int)) × Int) => [inm 3 fI64 vs7 x.1, row v5 81 fRaw1 vs7]) (l6, (List.length want1 : Int))) [0, 1] ⟨by decide, rfl⟩ ?_
      refine WJ.sub (m' := (fun (x : (List (List Int)) × Int) => [(0, str want1), (1, str typed2), (5, v5), (7, .int .i64 x.2)]) (l6, (List.length want1 : Int))) ⟨rfl, rfl, rfl, rfl, trivial⟩ ?_
      refine WJ.loop (X := (List (List Int)) × Int) (fun N (x : (List (List Int)) × Int) => i_leastFrom_l2 kj24 want1 typed2 N x.1 x.2 = some r) (fun (x : (List (List Int)) × Int) => [(0, str want1), (1, str typed2), (5, v5), (7, .int .i64 x.2)]) (fun (x : (List (List Int)) × Int) => [inm 3 fI64 vs7 x.1, row v5 81 fRaw1 vs7]) ?_ N (l6, (List.length want1 : Int)) hm
      · rintro N ⟨l26, i27⟩ hI
        have hm := hI; clear hI
        cases N with
        | zero => cases hm
        | succ N =>
        unfold i_leastFrom_l2 at hm
        refine WJ.seq ?_
        refine WJ.seq ?_
        refine WJ.quiet ?_
        refine QJ.step (YldS.yld (y_move rfl)) rfl ?_
        refine QJ.step (YldS.yld (y_bin rfl rfl rfl)) rfl ?_
        refine QJ.done ?_
        refine PJ.next ?_
        refine WJ.cond (t := decide (i27 ≥ 0)) rfl (fun hb28 => ?_) (fun hb28 => ?_)
        · replace hm := ifT hm hb28
          refine WJ.skip ?_
          refine PJ.next ?_
          obtain ⟨kj30, hk31, hm⟩ := withK_open hm
          refine WJ.join (X := (List (List Int))) (fun (x : (List (List Int))) => kj30 x = some r) (fun (x : (List (List Int))) => [(0, str want1), (1, str typed2), (5, v5), (7, .int .i64 i27)]) (fun (x : (List (List Int))) => [inm 3 fI64 vs7 x, row v5 81 fRaw1 vs7]) ?_ ?_
          · clear hk31
            refine WJ.block ?_
            refine WJ.seq ?_
            refine WJ.quiet ?_
            refine QJ.step (YldS.yld (y_move rfl)) rfl ?_
            refine QJ.step (YldS.yld (y_lenStr Try.runUnderlying9 rfl)) rfl ?_
            refine QJ.step (YldS.yld (y_assign rfl)) rfl ?_
            refine QJ.done ?_
            refine PJ.next ?_
            refine WJ.block ?_
            refine WJ.sel (L' := (fun (x : (List (List Int)) × Int) => [inm 3 fI64 vs7 x.1, row v5 81 fRaw1 vs7]) (l26, (List.length typed2 : Int))) [0, 1] ⟨by decide, rfl⟩ ?_
            refine WJ.sub (m' := (fun (x : (List (List Int)) × Int) => [(0, str want1), (1, str typed2), (5, v5), (7, .int .i64 i27), (8, .int .i64 x.2)]) (l26, (List.length typed2 : Int))) ⟨rfl, rfl, rfl, rfl, rfl, trivial⟩ ?_
            refine WJ.loop (X := (List (List Int)) × Int) (fun N (x : (List (List Int)) × Int) => i_leastFrom_l3 kj30 want1 typed2 i27 N x.1 x.2 = some r) (fun (x : (List (List Int)) × Int) => [(0, str want1), (1, str typed2), (5, v5), (7, .int .i64 i27), (8, .int .i64 x.2)]) (fun (x : (List (List Int)) × Int) => [inm 3 fI64 vs7 x.1, row v5 81 fRaw1 vs7]) ?_ N (l26, (List.length typed2 : Int)) hm
            · rintro N ⟨l32, k33⟩ hI
              have hm := hI; clear hI
              cases N with
              | zero => cases hm
              | succ N =>
              unfold i_leastFrom_l3 at hm
              refine WJ.seq ?_
              refine WJ.seq ?_
              refine WJ.quiet ?_
              refine QJ.step (YldS.yld (y_move rfl)) rfl ?_
              refine QJ.step (YldS.yld (y_bin rfl rfl rfl)) rfl ?_
              refine QJ.done ?_
              refine PJ.next ?_
              refine WJ.cond (t := decide (k33 ≥ 0)) rfl (fun hb34 => ?_) (fun hb34 => ?_)
              · replace hm := ifT hm hb34
                refine WJ.skip ?_
                refine PJ.next ?_
                obtain ⟨kj36, hk37, hm⟩ := withK_open hm
                refine WJ.join (X := (List (List Int))) (fun (x : (List (List Int))) => kj36 x = some r) (fun (x : (List (List Int))) => [(0, str want1), (1, str typed2), (5, v5), (7, .int .i64 i27), (8, .int .i64 k33)]) (fun (x : (List (List Int))) => [inm 3 fI64 vs7 x, row v5 81 fRaw1 vs7]) ?_ ?_
                · clear hk37
                  refine WJ.block ?_
                  refine WJ.seq ?_
                  refine WJ.quiet ?_
                  refine QJ.step (YldS.yld (y_assign rfl)) rfl ?_
                  refine QJ.done ?_
                  refine PJ.next ?_
                  obtain ⟨kj39, hk40, hm⟩ := withK_open hm
                  refine WJ.join (X := Int) (fun (x : Int) => kj39 x = some r) (fun (x : Int) => [(0, str want1), (1, str typed2), (5, v5), (7, .int .i64 i27), (8, .int .i64 k33), (9, .int .i64 x)]) (fun (x : Int) => [inm 3 fI64 vs7 l32, row v5 81 fRaw1 vs7]) ?_ ?_
                  · clear hk40
                    refine WJ.seq ?_
                    refine WJ.reg ?_
                    refine SJ.buildSlice (R := fByte) (os := [.const (.int .u8 (UInt8.toNat 43 : Int)), .const (.int .u8 (UInt8.toNat 45 : Int)), .const (.int .u8 (UInt8.toNat 61 : Int)), .const (.int .u8 (UInt8.toNat 120 : Int)), .const (.int .u8 (UInt8.toNat 126 : Int))]) [43, 45, 61, 120, 126] Try.runUnderlying22 Try.sizeOf5 Try.zeroValue5 rfl rfl rfl rfl rfl rfl fun v41 => ?_
                    refine SJ.convMark (k := 0) rfl Try.underlying22 Try.underlying5 rfl rfl ?_
                    refine SJ.q (YldS.yld (y_lenRowM (k := 0) rfl Try.runUnderlying22 rfl)) rfl ?_
                    refine SJ.q (YldS.yld (y_move rfl)) rfl ?_
                    refine SJ.nil ?_
                    refine PJ.next ?_
                    refine WJ.block ?_
                    refine WJ.sel (L' := (fun (x : Int × Int) => [rowM v41 5 fByte [43, 45, 61, 120, 126], inm 3 fI64 vs7 l32, row v5 81 fRaw1 vs7]) ((-1), 0)) [0, 1, 2] ⟨by decide, rfl⟩ ?_
                    refine WJ.sub (m' := (fun (x : Int × Int) => [(0, str want1), (1, str typed2), (5, v5), (7, .int .i64 i27), (8, .int .i64 k33), (9, .int .i64 x.1), (46, v41), (47, .int .i64 (List.length [43, 45, 61, 120, 126] : Int)), (48, .int .i64 x.2)]) ((-1), 0)) ⟨rfl, rfl, rfl, rfl, rfl, rfl, rfl, rfl, rfl, trivial⟩ ?_
                    refine WJ.loop (X := Int × Int) (fun N (x : Int × Int) => i_leastFrom_l4 kj39 want1 typed2 i27 l32 k33 N x.1 x.2 = some r) (fun (x : Int × Int) => [(0, str want1), (1, str typed2), (5, v5), (7, .int .i64 i27), (8, .int .i64 k33), (9, .int .i64 x.1), (46, v41), (47, .int .i64 (List.length [43, 45, 61, 120, 126] : Int)), (48, .int .i64 x.2)]) (fun (x : Int × Int) => [rowM v41 5 fByte [43, 45, 61, 120, 126], inm 3 fI64 vs7 l32, row v5 81 fRaw1 vs7]) ?_ N ((-1), 0) hm
                    · rintro N ⟨best42, x43⟩ hI
                      have hm := hI; clear hI
                      cases N with
                      | zero => cases hm
                      | succ N =>
                      unfold i_leastFrom_l4 at hm
                      refine WJ.seq ?_
                      refine WJ.quiet ?_
                      refine QJ.step (YldS.yld (y_bin rfl rfl rfl)) rfl ?_
                      refine QJ.done ?_
                      refine PJ.next ?_
                      refine WJ.seq ?_
                      refine WJ.cond (t := decide (x43 < (List.length [43, 45, 61, 120, 126] : Int))) rfl (fun hb44 => ?_) (fun hb44 => ?_)
                      · replace hm := ifT hm hb44
                        refine WJ.skip ?_
                        refine PJ.next ?_
                        obtain ⟨kj46, hk47, hm⟩ := withK_open hm
                        refine WJ.join (X := Int) (fun (x : Int) => kj46 x = some r) (fun (x : Int) => [(0, str want1), (1, str typed2), (5, v5), (7, .int .i64 i27), (8, .int .i64 k33), (9, .int .i64 x), (46, v41), (47, .int .i64 (List.length [43, 45, 61, 120, 126] : Int)), (48, .int .i64 x43)]) (fun (x : Int) => [rowM v41 5 fByte [43, 45, 61, 120, 126], inm 3 fI64 vs7 l32, row v5 81 fRaw1 vs7]) ?_ ?_
                        · clear hk47
                          refine WJ.block ?_
                          refine WJ.seq ?_
                          refine WJ.quiet ?_
                          obtain ⟨e48, h49, hm⟩ := bindS hm
                          refine QJ.step (YldS.yld (y_ixRowM (k := 0) (R := fByte) rfl Try.runUnderlying22 Try.sizeOf5 rfl rfl h49)) rfl ?_
                          refine QJ.step (YldS.yld (y_loadRM (k := 0) (i := (Int.toNat x43)) (off := 0) (u := .int .u8 (UInt8.toNat e48 : Int)) rfl Try.isAgg5 rfl (idx_get h49) rfl)) rfl ?_
                          refine QJ.step (YldS.yld (y_assign rfl)) rfl ?_
                          refine QJ.done ?_
                          refine PJ.next ?_
                          refine WJ.seq ?_
                          refine WJ.quiet_draw follows (by kernel_rfl) ?_
                          refine QJ.step (YldS.yld (y_move rfl)) rfl ?_
                          refine QJ.step (YldS.yld (y_move rfl)) rfl ?_
                          obtain ⟨s50, h51, hm⟩ := bindS hm
                          refine QJ.step (YldS.yld (y_subStr (i := some i27) (j := none) h51 Try.runUnderlying9 rfl ⟨_, rfl⟩ trivial)) rfl ?_
                          refine QJ.step (YldS.yld (y_move rfl)) rfl ?_
                          refine QJ.step (YldS.yld (y_move rfl)) rfl ?_
                          obtain ⟨s52, h53, hm⟩ := bindS hm
                          refine QJ.step (YldS.yld (y_subStr (i := some k33) (j := none) h53 Try.runUnderlying9 rfl ⟨_, rfl⟩ trivial)) rfl ?_
                          refine QJ.step (YldS.yld (y_move rfl)) rfl ?_
                          obtain ⟨r54, h55, hm⟩ := bindS hm
                          refine QJ.step (y_call Try.call77 rfl (RetG.quiet fun w hw => ok_i_stepAt h55 w )) rfl ?_
                          refine QJ.step (YldS.yld (y_move rfl)) rfl ?_
                          refine QJ.step (YldS.yld (y_extract rfl rfl)) rfl ?_
                          refine QJ.step (YldS.yld (y_extract rfl rfl)) rfl ?_
                          refine QJ.step (YldS.yld (y_extract rfl rfl)) rfl ?_
                          refine QJ.step (YldS.yld (y_extract rfl rfl)) rfl ?_
                          refine QJ.step (YldS.yld (y_assign rfl)) rfl ?_
                          refine QJ.step (YldS.yld (y_assign rfl)) rfl ?_
                          refine QJ.step (YldS.yld (y_assign rfl)) rfl ?_
                          refine QJ.step (YldS.yld (y_assign rfl)) rfl ?_
                          refine QJ.done ?_
                          refine PJ.next ?_
                          refine WJ.seq ?_
                          refine WJ.inm_len 1 rfl fun hl56 => ?_
                          refine WJ.quiet ?_
                          refine QJ.step (YldS.yld (y_move rfl)) rfl ?_
                          refine QJ.step (YldS.yld (y_move rfl)) rfl ?_
                          obtain ⟨t57, h58, hm⟩ := bindS hm
                          refine QJ.cut 20 [(0, str want1), (1, str typed2), (5, v5), (7, .int .i64 i27), (8, .int .i64 k33), (9, .int .i64 best42), (12, .int .i64 r54.1), (13, .int .i64 r54.2.1), (14, .int .i64 r54.2.2.1), (46, v41), (47, .int .i64 (List.length [43, 45, 61, 120, 126] : Int)), (48, .int .i64 x43), (86, .bool t57)] ?_ ?_
                          · rcases Bool.eq_false_or_eq_true r54.2.2.2 with hb59 | hb59
                            · replace h58 := andT h58 hb59
                              refine QJ.on rfl rfl (cB hb59) (YldS.yld (y_move rfl)) rfl ?_
                              refine QJ.on rfl rfl (cB hb59) (YldS.yld (y_bin rfl rfl rfl)) rfl ?_
                              refine QJ.on rfl rfl (cB hb59) (YldS.yld (y_move rfl)) rfl ?_
                              obtain ⟨t60, h61, h58⟩ := bindS h58
                              refine QJ.cut 16 [(0, str want1), (1, str typed2), (5, v5), (7, .int .i64 i27), (8, .int .i64 k33), (9, .int .i64 best42), (12, .int .i64 r54.1), (13, .int .i64 r54.2.1), (14, .int .i64 r54.2.2.1), (46, v41), (47, .int .i64 (List.length [43, 45, 61, 120, 126] : Int)), (48, .int .i64 x43), (66, .bool r54.2.2.2), (85, .bool t60)] ?_ ?_
                              · rcases Bool.eq_false_or_eq_true (decide (best42 < 0)) with hb62 | hb62
                                · obtain rfl := orT h61 hb62
                                  refine QJ.off rfl rfl (cB hb62) rfl rfl ?_
                                  refine QJ.off rfl rfl (cB hb62) rfl rfl ?_
                                  refine QJ.off rfl rfl (cB hb62) rfl rfl ?_
                                  refine QJ.off rfl rfl (cB hb62) rfl rfl ?_
                                  refine QJ.off rfl rfl (cB hb62) rfl rfl ?_
                                  refine QJ.off rfl rfl (cB hb62) rfl rfl ?_
                                  refine QJ.off rfl rfl (cB hb62) rfl rfl ?_
                                  refine QJ.off rfl rfl (cB hb62) rfl rfl ?_
                                  refine QJ.off rfl rfl (cB hb62) rfl rfl ?_
                                  refine QJ.off rfl rfl (cB hb62) rfl rfl ?_
                                  refine QJ.off rfl rfl (cB hb62) rfl rfl ?_
                                  refine QJ.off rfl rfl (cB hb62) rfl rfl ?_
                                  refine QJ.off rfl rfl (cB hb62) rfl rfl ?_
                                  refine QJ.off rfl rfl (cB hb62) rfl rfl ?_
                                  refine QJ.off rfl rfl (cB hb62) rfl rfl ?_
                                  refine QJ.on rfl rfl (cB hb59) (YldS.yld (y_pick_t (cB hb62) rfl)) rfl ?_
                                  exact QJ.cut_end ⟨rfl, rfl, rfl, rfl, rfl, rfl, rfl, rfl, rfl, rfl, rfl, rfl, rfl, rfl, trivial⟩
                                · replace h61 := orF h61 hb62
                                  refine QJ.on rfl rfl (cB hb62) (YldS.yld (y_move rfl)) rfl ?_
                                  refine QJ.on rfl rfl (cB hb62) (YldS.yld (y_move rfl)) rfl ?_
                                  refine QJ.on rfl rfl (cB hb62) (YldS.yld (y_move rfl)) rfl ?_
                                  refine QJ.on rfl rfl (cB hb62) (YldS.yld (y_bin rfl rfl rfl)) rfl ?_
                                  obtain ⟨e63, h64, h61⟩ := bindS h61
                                  obtain ⟨y65, hy66⟩ := inn_idx hl56 h64
                                  refine QJ.on rfl rfl (cB hb62) (YldS.yld (y_ixRow (k := 2) (R := fRaw1) rfl Try.runUnderlying82 Try.sizeOf81 rfl rfl hy66)) rfl ?_
                                  refine QJ.on rfl rfl (cB hb62) (YldS.yld (y_loadR (k := 2) (i := (Int.toNat (w64 (i27 + r54.1)))) (off := 0) rfl Try.isAgg81 rfl (idx_get hy66) (raw_get y65))) rfl ?_
                                  refine QJ.on rfl rfl (cB hb62) (YldS.yld (y_move rfl)) rfl ?_
                                  refine QJ.on rfl rfl (cB hb62) (YldS.yld (y_move rfl)) rfl ?_
                                  refine QJ.on rfl rfl (cB hb62) (YldS.yld (y_bin rfl rfl rfl)) rfl ?_
                                  obtain ⟨e67, h68, h61⟩ := bindS h61
                                  refine QJ.on rfl rfl (cB hb62) (YldS.yld (y_ixG (R := fI64) (fun w hw => (hw.inm_rd (k := 1) rfl rfl hy66 h64)) Try.runUnderlying81 Try.sizeOf3 rfl rfl h68)) rfl ?_
                                  refine QJ.on rfl rfl (cB hb62) (YldS.yld (y_loadG (R := fI64) (i := (Int.toNat (w64 (k33 + r54.2.1)))) (off := 0) (fun w hw => (hw.inm_rd (k := 1) rfl rfl hy66 h64)) Try.isAgg3 rfl (idx_get h68) rfl)) rfl ?_
                                  refine QJ.on rfl rfl (cB hb62) (YldS.yld (y_move rfl)) rfl ?_
                                  refine QJ.on rfl rfl (cB hb62) (YldS.yld (y_bin rfl rfl rfl)) rfl ?_
                                  refine QJ.on rfl rfl (cB hb62) (YldS.yld (y_move rfl)) rfl ?_
                                  refine QJ.on rfl rfl (cB hb62) (YldS.yld (y_bin rfl rfl rfl)) rfl ?_
                                  refine QJ.on rfl rfl (cB hb59) (YldS.yld (y_pick_f (cB hb62) rfl)) rfl ?_
                                  obtain rfl := Option.some.inj h61
                                  exact QJ.cut_end ⟨rfl, rfl, rfl, rfl, rfl, rfl, rfl, rfl, rfl, rfl, rfl, rfl, rfl, rfl, trivial⟩
                              refine QJ.step (YldS.yld (y_pick_t (cB hb59) rfl)) rfl ?_
                              obtain rfl := Option.some.inj h58
                              exact QJ.cut_end ⟨rfl, rfl, rfl, rfl, rfl, rfl, rfl, rfl, rfl, rfl, rfl, rfl, rfl, trivial⟩
                            · obtain rfl := andF h58 hb59
                              refine QJ.off rfl rfl (cB hb59) rfl rfl ?_
                              refine QJ.off rfl rfl (cB hb59) rfl rfl ?_
                              refine QJ.off rfl rfl (cB hb59) rfl rfl ?_
                              refine QJ.off_undef rfl rfl rfl rfl ?_
                              refine QJ.off_undef rfl rfl rfl rfl ?_
                              refine QJ.off_undef rfl rfl rfl rfl ?_
                              refine QJ.off_undef rfl rfl rfl rfl ?_
                              refine QJ.off_undef rfl rfl rfl rfl ?_
                              refine QJ.off_undef rfl rfl rfl rfl ?_
                              refine QJ.off_undef rfl rfl rfl rfl ?_
                              refine QJ.off_undef rfl rfl rfl rfl ?_
                              refine QJ.off_undef rfl rfl rfl rfl ?_
                              refine QJ.off_undef rfl rfl rfl rfl ?_
                              refine QJ.off_undef rfl rfl rfl rfl ?_
                              refine QJ.off_undef rfl rfl rfl rfl ?_
                              refine QJ.off_undef rfl rfl rfl rfl ?_
                              refine QJ.off_undef rfl rfl rfl rfl ?_
                              refine QJ.off_undef rfl rfl rfl rfl ?_
                              refine QJ.off rfl rfl (cB hb59) rfl rfl ?_
                              refine QJ.step (YldS.yld (y_pick_f (cB hb59) rfl)) rfl ?_
                              exact QJ.cut_end ⟨rfl, rfl, rfl, rfl, rfl, rfl, rfl, rfl, rfl, rfl, rfl, rfl, rfl, trivial⟩
                          refine QJ.done ?_
                          refine PJ.next ?_
                          refine WJ.cond (t := t57) rfl (fun hb69 => ?_) (fun hb69 => ?_)
                          · replace hm := ifT hm hb69
                            refine WJ.inm_len 1 rfl fun hl70 => ?_
                            refine WJ.quiet ?_
                            refine QJ.step (YldS.yld (y_move rfl)) rfl ?_
                            refine QJ.step (YldS.yld (y_move rfl)) rfl ?_
                            refine QJ.step (YldS.yld (y_move rfl)) rfl ?_
                            refine QJ.step (YldS.yld (y_bin rfl rfl rfl)) rfl ?_
                            obtain ⟨e71, h72, hm⟩ := bindS hm
                            obtain ⟨y73, hy74⟩ := inn_idx hl70 h72
                            refine QJ.step (YldS.yld (y_ixRow (k := 2) (R := fRaw1) rfl Try.runUnderlying82 Try.sizeOf81 rfl rfl hy74)) rfl ?_
                            refine QJ.step (YldS.yld (y_loadR (k := 2) (i := (Int.toNat (w64 (i27 + r54.1)))) (off := 0) rfl Try.isAgg81 rfl (idx_get hy74) (raw_get y73))) rfl ?_
                            refine QJ.step (YldS.yld (y_move rfl)) rfl ?_
                            refine QJ.step (YldS.yld (y_move rfl)) rfl ?_
                            refine QJ.step (YldS.yld (y_bin rfl rfl rfl)) rfl ?_
                            obtain ⟨e75, h76, hm⟩ := bindS hm
                            refine QJ.step (YldS.yld (y_ixG (R := fI64) (fun w hw => (hw.inm_rd (k := 1) rfl rfl hy74 h72)) Try.runUnderlying81 Try.sizeOf3 rfl rfl h76)) rfl ?_
                            refine QJ.step (YldS.yld (y_loadG (R := fI64) (i := (Int.toNat (w64 (k33 + r54.2.1)))) (off := 0) (fun w hw => (hw.inm_rd (k := 1) rfl rfl hy74 h72)) Try.isAgg3 rfl (idx_get h76) rfl)) rfl ?_
                            refine QJ.step (YldS.yld (y_move rfl)) rfl ?_
                            refine QJ.step (YldS.yld (y_bin rfl rfl rfl)) rfl ?_
                            refine QJ.step (YldS.yld (y_assign rfl)) rfl ?_
                            refine QJ.done ?_
                            refine PJ.block_normal ?_
                            exact PJ.joined (w64 (e75 + r54.2.2.1)) [0, 1, 2] hm ⟨rfl, rfl, rfl, rfl, rfl, rfl, rfl, rfl, rfl, trivial⟩ ⟨by decide, rfl⟩
                          · replace hm := ifF hm hb69
                            refine WJ.skip ?_
                            refine PJ.block_normal ?_
                            exact PJ.joined best42 [0, 1, 2] hm ⟨rfl, rfl, rfl, rfl, rfl, rfl, rfl, rfl, rfl, trivial⟩ ⟨by decide, rfl⟩
                        · rintro best45 hm
                          subst hk47
                          refine WJ.quiet ?_
                          refine QJ.step (YldS.yld (y_bin rfl rfl rfl)) rfl ?_
                          refine QJ.step (YldS.yld (y_move rfl)) rfl ?_
                          refine QJ.done ?_
                          exact PJ.round (best45, w64 (x43 + 1)) [0, 1, 2] hm ⟨rfl, rfl, rfl, rfl, rfl, rfl, rfl, rfl, rfl, trivial⟩ ⟨by decide, rfl⟩
                      · replace hm := ifF hm hb44
                        refine WJ.exit ?_
                        refine PJ.then_exit (PJ.then_exit (PJ.block_exit ?_))
                        exact PJ.joined best42 [1, 2] hm ⟨rfl, rfl, rfl, rfl, rfl, rfl, trivial⟩ ⟨by decide, rfl⟩
                  · rintro best38 hm
                    subst hk40
                    refine WJ.inm_len 0 rfl fun hl77 => ?_
                    refine WJ.reg ?_
                    refine SJ.q (YldS.yld (y_move rfl)) rfl ?_
                    refine SJ.q (YldS.yld (y_move rfl)) rfl ?_
                    obtain ⟨e78, h79, hm⟩ := bindS hm
                    obtain ⟨y80, hy81⟩ := inn_idx hl77 h79
                    refine SJ.q (YldS.yld (y_ixRow (k := 1) (R := fRaw1) rfl Try.runUnderlying82 Try.sizeOf81 rfl rfl hy81)) rfl ?_
                    refine SJ.q (YldS.yld (y_loadR (k := 1) (i := (Int.toNat i27)) (off := 0) rfl Try.isAgg81 rfl (idx_get hy81) (raw_get y80))) rfl ?_
                    refine SJ.q (YldS.yld (y_move rfl)) rfl ?_
                    refine SJ.q (YldS.yld (y_move rfl)) rfl ?_
                    refine SJ.q (YldS.yld (y_max rfl rfl)) rfl ?_
                    obtain ⟨e82, h83, hm⟩ := bindS hm
                    refine SJ.q (YldS.yld (y_ixG (R := fI64) (fun w hw => (hw.inm_rd (k := 0) rfl rfl hy81 h79)) Try.runUnderlying81 Try.sizeOf3 rfl rfl h83)) rfl ?_
                    refine SJ.storeG (k := 0) (i := i27) (q := (Int.toNat k33)) (b0 := (imax best38 0)) rfl rfl hy81 h79 rfl (idx_get h83) rfl Try.sizeOf3 rfl rfl rfl ?_
                    refine SJ.nil ?_
                    refine PJ.block_normal ?_
                    exact PJ.joined (List.set l32 (Int.toNat i27) (List.set e78 (Int.toNat k33) (imax best38 0))) [0, 1] hm ⟨rfl, rfl, rfl, rfl, rfl, trivial⟩ ⟨by decide, rfl⟩
                · rintro l35 hm
                  subst hk37
                  refine WJ.quiet ?_
                  refine QJ.step (YldS.yld (y_move rfl)) rfl ?_
                  refine QJ.step (YldS.yld (y_bin rfl rfl rfl)) rfl ?_
                  refine QJ.step (YldS.yld (y_assign rfl)) rfl ?_
                  refine QJ.done ?_
                  exact PJ.round (l35, w64 (k33 - 1)) [0, 1] hm ⟨rfl, rfl, rfl, rfl, rfl, trivial⟩ ⟨by decide, rfl⟩
              · replace hm := ifF hm hb34
                refine WJ.exit ?_
                refine PJ.then_exit (PJ.then_exit (PJ.block_exit (PJ.block_normal ?_)))
                exact PJ.joined l32 [0, 1] hm ⟨rfl, rfl, rfl, rfl, trivial⟩ ⟨by decide, rfl⟩
          · rintro l29 hm
            subst hk31
            refine WJ.quiet ?_
            refine QJ.step (YldS.yld (y_move rfl)) rfl ?_
            refine QJ.step (YldS.yld (y_bin rfl rfl rfl)) rfl ?_
            refine QJ.step (YldS.yld (y_assign rfl)) rfl ?_
            refine QJ.done ?_
            exact PJ.round (l29, w64 (i27 - 1)) [0, 1] hm ⟨rfl, rfl, rfl, rfl, trivial⟩ ⟨by decide, rfl⟩
        · replace hm := ifF hm hb28
          refine WJ.exit ?_
          refine PJ.then_exit (PJ.then_exit (PJ.block_exit ?_))
          exact PJ.joined l26 [0, 1] hm ⟨rfl, trivial⟩ ⟨by decide, rfl⟩
    · rintro l23 hm
      subst hk25
      refine WJ.seq ?_
      refine WJ.quiet ?_
      refine QJ.step (YldS.yld (y_move rfl)) rfl ?_
      refine QJ.step (YldS.yld (y_assign rfl)) rfl ?_
      refine QJ.done ?_
      refine PJ.next ?_
      refine WJ.ret ?_
      refine PJ.inm_inn 0 rfl ?_
      obtain rfl := Option.some.inj hm
      refine PJ.sel (L' := [row v5 81 fRaw1 vs7, inn (rSl fI64.rp) vs7 l23]) [1, 0] ⟨by decide, rfl⟩ ?_
      exact PJ.retn (vs := [v5]) Try.results57 ⟨rfl, trivial⟩ ⟨_, _, rfl, rfl⟩

set_option maxRecDepth 100000 in
set_option maxHeartbeats 1000000 in
theorem ok_i_LeastErrors {N : Nat} {want1 : Str} {typed2 : Str} {r : Int × Int} (hm : i_LeastErrors N want1 typed2 = some r) (w : World)  :
    Calls Try.prog 38 #[str want1, str typed2] w (Ret (cx w) (tup [.int .i64 r.1, .int .i64 r.2])) := by
  unfold i_LeastErrors at hm
  refine Calls.enter [str want1, str typed2] Try.func38 rfl Try.ntmps38 rfl ?_
  refine WJ.seq ?_
  refine WJ.quiet ?_
  refine QJ.step (YldS.yld (y_assign rfl)) rfl ?_
  refine QJ.step (YldS.yld (y_assign rfl)) rfl ?_
  refine QJ.done ?_
  refine PJ.next ?_
  refine WJ.seq ?_
  refine WJ.seq ?_
  refine WJ.quiet ?_
  refine QJ.step (YldS.yld (y_move rfl)) rfl ?_
  obtain ⟨r3, h4, hm⟩ := bindS hm
  refine QJ.step (y_call Try.call53 rfl (RetG.quiet fun w hw => ok_i_isTyped h4 w )) rfl ?_
  refine QJ.step (YldS.yld (y_not rfl)) rfl ?_
  refine QJ.step (YldS.yld (y_move rfl)) rfl ?_
  obtain ⟨t5, h6, hm⟩ := bindS hm
  refine QJ.cut 4 [(0, str want1), (1, str typed2), (13, .bool t5)] ?_ ?_
  · rcases Bool.eq_false_or_eq_true (!r3) with hb7 | hb7
    · obtain rfl := orT h6 hb7
      refine QJ.off rfl rfl (cB hb7) rfl rfl ?_
      refine QJ.off rfl rfl (cB hb7) rfl rfl ?_
      refine QJ.off rfl rfl (cB hb7) rfl rfl ?_
      refine QJ.step (YldS.yld (y_pick_t (cB hb7) rfl)) rfl ?_
      exact QJ.cut_end ⟨rfl, rfl, rfl, trivial⟩
    · replace h6 := orF h6 hb7
      refine QJ.on rfl rfl (cB hb7) (YldS.yld (y_move rfl)) rfl ?_
      obtain ⟨r8, h9, h6⟩ := bindS h6
      refine QJ.on rfl rfl (cB hb7) (y_call Try.call53 rfl (RetG.quiet fun w hw => ok_i_isTyped h9 w )) rfl ?_
      refine QJ.on rfl rfl (cB hb7) (YldS.yld (y_not rfl)) rfl ?_
      refine QJ.step (YldS.yld (y_pick_f (cB hb7) rfl)) rfl ?_
      obtain rfl := Option.some.inj h6
      exact QJ.cut_end ⟨rfl, rfl, rfl, trivial⟩
  refine QJ.done ?_
  refine PJ.next ?_
  refine WJ.cond (t := t5) rfl (fun hb10 => ?_) (fun hb10 => ?_)
  · replace hm := ifT hm hb10
    refine WJ.seq ?_
    refine WJ.quiet ?_
    refine QJ.step (YldS.yld (y_assign rfl)) rfl ?_
    refine QJ.step (YldS.yld (y_assign rfl)) rfl ?_
    refine QJ.done ?_
    refine PJ.next ?_
    refine WJ.ret ?_
    refine PJ.then_ret ?_
    obtain rfl := Option.some.inj hm
    refine PJ.sel (L' := []) [] ⟨List.nodup_nil, rfl⟩ ?_
    exact PJ.retn (vs := [.int .i64 0, .int .i64 2]) Try.results38 ⟨rfl, rfl, trivial⟩ ⟨rfl, rfl⟩
  · replace hm := ifF hm hb10
    refine WJ.skip ?_
    refine PJ.next ?_
    refine WJ.seq ?_
    refine WJ.reg ?_
    refine SJ.q (YldS.yld (y_move rfl)) rfl ?_
    refine SJ.q (YldS.yld (y_move rfl)) rfl ?_
    obtain ⟨r11, h12, hm⟩ := bindS hm
    refine SJ.call Try.call57 rfl (fun w hw => ok_i_leastFrom h12 w ) rfl ?_
    rintro v13 _ ⟨_, vs14, rfl, rfl⟩
    refine SJ.inn_len 1 rfl fun hl15 => ?_
    obtain ⟨e16, h17, hm⟩ := bindS hm
    obtain ⟨y18, hy19⟩ := inn_idx hl15 h17
    refine SJ.q (YldS.yld (y_ixRow (k := 0) (R := fRaw1) rfl Try.runUnderlying82 Try.sizeOf81 rfl rfl hy19)) rfl ?_
    refine SJ.q (YldS.yld (y_loadR (k := 0) (i := (Int.toNat 0)) (off := 0) rfl Try.isAgg81 rfl (idx_get hy19) (raw_get y18))) rfl ?_
    obtain ⟨e20, h21, hm⟩ := bindS hm
    refine SJ.q (YldS.yld (y_ixG (R := fI64) (fun w hw => (hw.inn_rd (k := 1) rfl rfl hy19 h17)) Try.runUnderlying81 Try.sizeOf3 rfl rfl h21)) rfl ?_
    refine SJ.q (YldS.yld (y_loadG (R := fI64) (i := (Int.toNat 0)) (off := 0) (fun w hw => (hw.inn_rd (k := 1) rfl rfl hy19 h17)) Try.isAgg3 rfl (idx_get h21) rfl)) rfl ?_
    refine SJ.q (YldS.yld (y_assign rfl)) rfl ?_
    refine SJ.q (YldS.yld (y_assign rfl)) rfl ?_
    refine SJ.nil ?_
    refine PJ.next ?_
    refine WJ.ret ?_
    obtain rfl := Option.some.inj hm
    refine PJ.sel (L' := []) [] ⟨List.nodup_nil, rfl⟩ ?_
    exact PJ.retn (vs := [.int .i64 e20, .int .i64 0]) Try.results38 ⟨rfl, rfl, trivial⟩ ⟨rfl, rfl⟩

set_option maxRecDepth 100000 in
set_option maxHeartbeats 1000000 in
theorem ok_i_alignment {N : Nat} {want1 : Str} {typed2 : Str} {r : Str} (hm : i_alignment N want1 typed2 = some r) (w : World)  :
    Calls Try.prog 54 #[str want1, str typed2] w (Ret (cx w) (str r)) := by
  unfold i_alignment at hm
  refine Calls.enter [str want1, str typed2] Try.func54 rfl Try.ntmps54 rfl ?_
  refine WJ.seq ?_
  refine WJ.quiet ?_
  refine QJ.step (YldS.yld (y_assign rfl)) rfl ?_
  refine QJ.done ?_
  refine PJ.next ?_
  refine WJ.seq ?_
  refine WJ.reg ?_
  refine SJ.q (YldS.yld (y_move rfl)) rfl ?_
  refine SJ.q (YldS.yld (y_move rfl)) rfl ?_
  obtain ⟨r3, h4, hm⟩ := bindS hm
  refine SJ.call Try.call57 rfl (fun w hw => ok_i_leastFrom h4 w ) rfl ?_
  rintro v5 _ ⟨_, vs6, rfl, rfl⟩
  refine SJ.q (YldS.yld (y_assign rfl)) rfl ?_
  refine SJ.nil ?_
  refine PJ.next ?_
  refine WJ.seq ?_
  refine WJ.reg ?_
  refine SJ.buildSlice (R := fByte) (os := []) [] Try.runUnderlying22 Try.sizeOf5 Try.zeroValue5 rfl rfl rfl rfl rfl rfl fun v7 => ?_
  refine SJ.q (YldS.yld (y_assign rfl)) rfl ?_
  refine SJ.nil ?_
  refine PJ.next ?_
  obtain ⟨kj10, hk11, hm⟩ := withK_open hm
  refine WJ.join (X := (List UInt8) × Value) (fun (x : (List UInt8) × Value) => kj10 x.1 = some r) (fun (x : (List UInt8) × Value) => [(6, x.2)]) (fun (x : (List UInt8) × Value) => [row x.2 5 fByte x.1]) ?_ ?_
  · clear hk11
    refine WJ.seq ?_
    refine WJ.quiet ?_
    refine QJ.step (YldS.yld (y_assign rfl)) rfl ?_
    refine QJ.step (YldS.yld (y_assign rfl)) rfl ?_
    refine QJ.done ?_
    refine PJ.next ?_
    refine WJ.block ?_
    refine WJ.sel (L' := (fun (x : (List UInt8) × Value × Int × Int) => [row x.2.1 5 fByte x.1, row v5 81 fRaw1 vs6, inn (rSl fI64.rp) vs6 r3]) ([], v7, 0, 0)) [0, 1, 2] ⟨by decide, rfl⟩ ?_
    refine WJ.sub (m' := (fun (x : (List UInt8) × Value × Int × Int) => [(0, str want1), (1, str typed2), (5, v5), (6, x.2.1), (7, .int .i64 x.2.2.1), (8, .int .i64 x.2.2.2)]) ([], v7, 0, 0)) ⟨rfl, rfl, rfl, rfl, rfl, rfl, trivial⟩ ?_
    refine WJ.loop (X := (List UInt8) × Value × Int × Int) (fun N (x : (List UInt8) × Value × Int × Int) => i_alignment_l1 kj10 want1 typed2 r3 N x.1 x.2.2.1 x.2.2.2 = some r) (fun (x : (List UInt8) × Value × Int × Int) => [(0, str want1), (1, str typed2), (5, v5), (6, x.2.1), (7, .int .i64 x.2.2.1), (8, .int .i64 x.2.2.2)]) (fun (x : (List UInt8) × Value × Int × Int) => [row x.2.1 5 fByte x.1, row v5 81 fRaw1 vs6, inn (rSl fI64.rp) vs6 r3]) ?_ N ([], v7, 0, 0) hm
    · rintro N ⟨l12, v13, i14, k15⟩ hI
      have hm := hI; clear hI
      cases N with
      | zero => cases hm
      | succ N =>
      unfold i_alignment_l1 at hm
      obtain ⟨kj20, hk21, hm⟩ := withK_open hm
      refine WJ.joinT (X := (List UInt8) × Value × Int × Int) (fun (x : (List UInt8) × Value × Int × Int) => kj20 x.1 x.2.2.1 x.2.2.2 = some r) (fun (x : (List UInt8) × Value × Int × Int) => [(0, str want1), (1, str typed2), (5, v5), (6, x.2.1), (7, .int .i64 x.2.2.1), (8, .int .i64 x.2.2.2)]) (fun (x : (List UInt8) × Value × Int × Int) => [row x.2.1 5 fByte x.1, row v5 81 fRaw1 vs6, inn (rSl fI64.rp) vs6 r3]) ?_ ?_
      · clear hk21
        refine WJ.seq ?_
        refine WJ.seq ?_
        refine WJ.quiet ?_
        refine QJ.step (YldS.yld (y_move rfl)) rfl ?_
        refine QJ.step (YldS.yld (y_move rfl)) rfl ?_
        refine QJ.step (YldS.yld (y_lenStr Try.runUnderlying9 rfl)) rfl ?_
        refine QJ.step (YldS.yld (y_bin rfl rfl rfl)) rfl ?_
        refine QJ.step (YldS.yld (y_move rfl)) rfl ?_
        obtain ⟨t22, h23, hm⟩ := bindS hm
        refine QJ.cut 5 [(0, str want1), (1, str typed2), (5, v5), (6, v13), (7, .int .i64 i14), (8, .int .i64 k15), (28, .bool t22)] ?_ ?_
        · rcases Bool.eq_false_or_eq_true (decide (i14 < (List.length want1 : Int))) with hb24 | hb24
          · obtain rfl := orT h23 hb24
            refine QJ.off rfl rfl (cB hb24) rfl rfl ?_
            refine QJ.off rfl rfl (cB hb24) rfl rfl ?_
            refine QJ.off rfl rfl (cB hb24) rfl rfl ?_
            refine QJ.off rfl rfl (cB hb24) rfl rfl ?_
            refine QJ.step (YldS.yld (y_pick_t (cB hb24) rfl)) rfl ?_
            exact QJ.cut_end ⟨rfl, rfl, rfl, rfl, rfl, rfl, rfl, trivial⟩
          · replace h23 := orF h23 hb24
            refine QJ.on rfl rfl (cB hb24) (YldS.yld (y_move rfl)) rfl ?_
            refine QJ.on rfl rfl (cB hb24) (YldS.yld (y_move rfl)) rfl ?_
            refine QJ.on rfl rfl (cB hb24) (YldS.yld (y_lenStr Try.runUnderlying9 rfl)) rfl ?_
            refine QJ.on rfl rfl (cB hb24) (YldS.yld (y_bin rfl rfl rfl)) rfl ?_
            refine QJ.step (YldS.yld (y_pick_f (cB hb24) rfl)) rfl ?_
            obtain rfl := Option.some.inj h23
            exact QJ.cut_end ⟨rfl, rfl, rfl, rfl, rfl, rfl, rfl, trivial⟩
        refine QJ.done ?_
        refine PJ.next ?_
        refine WJ.cond (t := t22) rfl (fun hb25 => ?_) (fun hb25 => ?_)
        · replace hm := ifT hm hb25
          refine WJ.skip ?_
          refine PJ.next ?_
          refine WJ.block ?_
          refine WJ.seq ?_
          refine WJ.reg ?_
          refine SJ.buildSlice (R := fByte) (os := [.const (.int .u8 (UInt8.toNat 43 : Int)), .const (.int .u8 (UInt8.toNat 45 : Int)), .const (.int .u8 (UInt8.toNat 61 : Int)), .const (.int .u8 (UInt8.toNat 120 : Int)), .const (.int .u8 (UInt8.toNat 126 : Int))]) [43, 45, 61, 120, 126] Try.runUnderlying22 Try.sizeOf5 Try.zeroValue5 rfl rfl rfl rfl rfl rfl fun v26 => ?_
          refine SJ.convMark (k := 0) rfl Try.underlying22 Try.underlying5 rfl rfl ?_
          refine SJ.q (YldS.yld (y_lenRowM (k := 0) rfl Try.runUnderlying22 rfl)) rfl ?_
          refine SJ.q (YldS.yld (y_move rfl)) rfl ?_
          refine SJ.nil ?_
          refine PJ.next ?_
          refine WJ.block ?_
          refine WJ.sel (L' := (fun (x : (List UInt8) × Value × Int × Int × Int) => [rowM v26 5 fByte [43, 45, 61, 120, 126], row x.2.1 5 fByte x.1, row v5 81 fRaw1 vs6, inn (rSl fI64.rp) vs6 r3]) (l12, v13, i14, k15, 0)) [0, 1, 2, 3] ⟨by decide, rfl⟩ ?_
          refine WJ.sub (m' := (fun (x : (List UInt8) × Value × Int × Int × Int) => [(0, str want1), (1, str typed2), (5, v5), (6, x.2.1), (7, .int .i64 x.2.2.1), (8, .int .i64 x.2.2.2.1), (30, v26), (31, .int .i64 (List.length [43, 45, 61, 120, 126] : Int)), (32, .int .i64 x.2.2.2.2)]) (l12, v13, i14, k15, 0)) ⟨rfl, rfl, rfl, rfl, rfl, rfl, rfl, rfl, rfl, trivial⟩ ?_
          refine WJ.loop (X := (List UInt8) × Value × Int × Int × Int) (fun N (x : (List UInt8) × Value × Int × Int × Int) => i_alignment_l2 kj20 want1 typed2 r3 N x.1 x.2.2.1 x.2.2.2.1 x.2.2.2.2 = some r) (fun (x : (List UInt8) × Value × Int × Int × Int) => [(0, str want1), (1, str typed2), (5, v5), (6, x.2.1), (7, .int .i64 x.2.2.1), (8, .int .i64 x.2.2.2.1), (30, v26), (31, .int .i64 (List.length [43, 45, 61, 120, 126] : Int)), (32, .int .i64 x.2.2.2.2)]) (fun (x : (List UInt8) × Value × Int × Int × Int) => [rowM v26 5 fByte [43, 45, 61, 120, 126], row x.2.1 5 fByte x.1, row v5 81 fRaw1 vs6, inn (rSl fI64.rp) vs6 r3]) ?_ N (l12, v13, i14, k15, 0) hm
          · rintro N ⟨l27, v28, i29, k30, x31⟩ hI
            have hm := hI; clear hI
            cases N with
            | zero => cases hm
            | succ N =>
            unfold i_alignment_l2 at hm
            refine WJ.seq ?_
            refine WJ.quiet ?_
            refine QJ.step (YldS.yld (y_bin rfl rfl rfl)) rfl ?_
            refine QJ.done ?_
            refine PJ.next ?_
            refine WJ.seq ?_
            refine WJ.cond (t := decide (x31 < (List.length [43, 45, 61, 120, 126] : Int))) rfl (fun hb32 => ?_) (fun hb32 => ?_)
            · replace hm := ifT hm hb32
              refine WJ.skip ?_
              refine PJ.next ?_
              refine WJ.seq ?_
              refine WJ.block ?_
              refine WJ.seq ?_
              refine WJ.quiet ?_
              obtain ⟨e33, h34, hm⟩ := bindS hm
              refine QJ.step (YldS.yld (y_ixRowM (k := 0) (R := fByte) rfl Try.runUnderlying22 Try.sizeOf5 rfl rfl h34)) rfl ?_
              refine QJ.step (YldS.yld (y_loadRM (k := 0) (i := (Int.toNat x31)) (off := 0) (u := .int .u8 (UInt8.toNat e33 : Int)) rfl Try.isAgg5 rfl (idx_get h34) rfl)) rfl ?_
              refine QJ.step (YldS.yld (y_assign rfl)) rfl ?_
              refine QJ.done ?_
              refine PJ.next ?_
              refine WJ.seq ?_
              refine WJ.quiet_draw follows (by kernel_rfl) ?_
              refine QJ.step (YldS.yld (y_move rfl)) rfl ?_
              refine QJ.step (YldS.yld (y_move rfl)) rfl ?_
              obtain ⟨s35, h36, hm⟩ := bindS hm
              refine QJ.step (YldS.yld (y_subStr (i := some i29) (j := none) h36 Try.runUnderlying9 rfl ⟨_, rfl⟩ trivial)) rfl ?_
              refine QJ.step (YldS.yld (y_move rfl)) rfl ?_
              refine QJ.step (YldS.yld (y_move rfl)) rfl ?_
              obtain ⟨s37, h38, hm⟩ := bindS hm
              refine QJ.step (YldS.yld (y_subStr (i := some k30) (j := none) h38 Try.runUnderlying9 rfl ⟨_, rfl⟩ trivial)) rfl ?_
              refine QJ.step (YldS.yld (y_move rfl)) rfl ?_
              obtain ⟨r39, h40, hm⟩ := bindS hm
              refine QJ.step (y_call Try.call77 rfl (RetG.quiet fun w hw => ok_i_stepAt h40 w )) rfl ?_
              refine QJ.step (YldS.yld (y_move rfl)) rfl ?_
              refine QJ.step (YldS.yld (y_extract rfl rfl)) rfl ?_
              refine QJ.step (YldS.yld (y_extract rfl rfl)) rfl ?_
              refine QJ.step (YldS.yld (y_extract rfl rfl)) rfl ?_
              refine QJ.step (YldS.yld (y_extract rfl rfl)) rfl ?_
              refine QJ.step (YldS.yld (y_assign rfl)) rfl ?_
              refine QJ.step (YldS.yld (y_assign rfl)) rfl ?_
              refine QJ.step (YldS.yld (y_assign rfl)) rfl ?_
              refine QJ.step (YldS.yld (y_assign rfl)) rfl ?_
              refine QJ.done ?_
              refine PJ.next ?_
              refine WJ.seq ?_
              refine WJ.inn_len 3 rfl fun hl41 => ?_
              refine WJ.quiet_draw follows (by kernel_rfl) ?_
              refine QJ.step (YldS.yld (y_move rfl)) rfl ?_
              refine QJ.step (YldS.yld (y_move rfl)) rfl ?_
              obtain ⟨t42, h43, hm⟩ := bindS hm
              refine QJ.cut 22 [(0, str want1), (1, str typed2), (5, v5), (6, v28), (7, .int .i64 i29), (8, .int .i64 k30), (10, .int .u8 (UInt8.toNat e33 : Int)), (11, .int .i64 r39.1), (12, .int .i64 r39.2.1), (30, v26), (31, .int .i64 (List.length [43, 45, 61, 120, 126] : Int)), (32, .int .i64 x31), (72, .bool t42)] ?_ ?_
              · rcases Bool.eq_false_or_eq_true r39.2.2.2 with hb44 | hb44
                · replace h43 := andT h43 hb44
                  refine QJ.on rfl rfl (cB hb44) (YldS.yld (y_move rfl)) rfl ?_
                  refine QJ.on rfl rfl (cB hb44) (YldS.yld (y_move rfl)) rfl ?_
                  refine QJ.on rfl rfl (cB hb44) (YldS.yld (y_move rfl)) rfl ?_
                  refine QJ.on rfl rfl (cB hb44) (YldS.yld (y_bin rfl rfl rfl)) rfl ?_
                  obtain ⟨e45, h46, h43⟩ := bindS h43
                  obtain ⟨y47, hy48⟩ := inn_idx hl41 h46
                  refine QJ.on rfl rfl (cB hb44) (YldS.yld (y_ixRow (k := 2) (R := fRaw1) rfl Try.runUnderlying82 Try.sizeOf81 rfl rfl hy48)) rfl ?_
                  refine QJ.on rfl rfl (cB hb44) (YldS.yld (y_loadR (k := 2) (i := (Int.toNat (w64 (i29 + r39.1)))) (off := 0) rfl Try.isAgg81 rfl (idx_get hy48) (raw_get y47))) rfl ?_
                  refine QJ.on rfl rfl (cB hb44) (YldS.yld (y_move rfl)) rfl ?_
                  refine QJ.on rfl rfl (cB hb44) (YldS.yld (y_move rfl)) rfl ?_
                  refine QJ.on rfl rfl (cB hb44) (YldS.yld (y_bin rfl rfl rfl)) rfl ?_
                  obtain ⟨e49, h50, h43⟩ := bindS h43
                  refine QJ.on rfl rfl (cB hb44) (YldS.yld (y_ixG (R := fI64) (fun w hw => (hw.inn_rd (k := 3) rfl rfl hy48 h46)) Try.runUnderlying81 Try.sizeOf3 rfl rfl h50)) rfl ?_
                  refine QJ.on rfl rfl (cB hb44) (YldS.yld (y_loadG (R := fI64) (i := (Int.toNat (w64 (k30 + r39.2.1)))) (off := 0) (fun w hw => (hw.inn_rd (k := 3) rfl rfl hy48 h46)) Try.isAgg3 rfl (idx_get h50) rfl)) rfl ?_
                  refine QJ.on rfl rfl (cB hb44) (YldS.yld (y_move rfl)) rfl ?_
                  refine QJ.on rfl rfl (cB hb44) (YldS.yld (y_bin rfl rfl rfl)) rfl ?_
                  refine QJ.on rfl rfl (cB hb44) (YldS.yld (y_move rfl)) rfl ?_
                  refine QJ.on rfl rfl (cB hb44) (YldS.yld (y_move rfl)) rfl ?_
                  obtain ⟨e51, h52, h43⟩ := bindS h43
                  obtain ⟨y53, hy54⟩ := inn_idx hl41 h52
                  refine QJ.on rfl rfl (cB hb44) (YldS.yld (y_ixRow (k := 2) (R := fRaw1) rfl Try.runUnderlying82 Try.sizeOf81 rfl rfl hy54)) rfl ?_
                  refine QJ.on rfl rfl (cB hb44) (YldS.yld (y_loadR (k := 2) (i := (Int.toNat i29)) (off := 0) rfl Try.isAgg81 rfl (idx_get hy54) (raw_get y53))) rfl ?_
                  refine QJ.on rfl rfl (cB hb44) (YldS.yld (y_move rfl)) rfl ?_
                  obtain ⟨e55, h56, h43⟩ := bindS h43
                  refine QJ.on rfl rfl (cB hb44) (YldS.yld (y_ixG (R := fI64) (fun w hw => (hw.inn_rd (k := 3) rfl rfl hy54 h52)) Try.runUnderlying81 Try.sizeOf3 rfl rfl h56)) rfl ?_
                  refine QJ.on rfl rfl (cB hb44) (YldS.yld (y_loadG (R := fI64) (i := (Int.toNat k30)) (off := 0) (fun w hw => (hw.inn_rd (k := 3) rfl rfl hy54 h52)) Try.isAgg3 rfl (idx_get h56) rfl)) rfl ?_
                  refine QJ.on rfl rfl (cB hb44) (YldS.yld (y_bin rfl rfl rfl)) rfl ?_
                  refine QJ.step (YldS.yld (y_pick_t (cB hb44) rfl)) rfl ?_
                  obtain rfl := Option.some.inj h43
                  exact QJ.cut_end ⟨rfl, rfl, rfl, rfl, rfl, rfl, rfl, rfl, rfl, rfl, rfl, rfl, rfl, trivial⟩
                · obtain rfl := andF h43 hb44
                  refine QJ.off rfl rfl (cB hb44) rfl rfl ?_
                  refine QJ.off rfl rfl (cB hb44) rfl rfl ?_
                  refine QJ.off rfl rfl (cB hb44) rfl rfl ?_
                  refine QJ.off rfl rfl (cB hb44) rfl rfl ?_
                  refine QJ.off rfl rfl (cB hb44) rfl rfl ?_
                  refine QJ.off rfl rfl (cB hb44) rfl rfl ?_
                  refine QJ.off rfl rfl (cB hb44) rfl rfl ?_
                  refine QJ.off rfl rfl (cB hb44) rfl rfl ?_
                  refine QJ.off rfl rfl (cB hb44) rfl rfl ?_
                  refine QJ.off rfl rfl (cB hb44) rfl rfl ?_
                  refine QJ.off rfl rfl (cB hb44) rfl rfl ?_
                  refine QJ.off rfl rfl (cB hb44) rfl rfl ?_
                  refine QJ.off rfl rfl (cB hb44) rfl rfl ?_
                  refine QJ.off rfl rfl (cB hb44) rfl rfl ?_
                  refine QJ.off rfl rfl (cB hb44) rfl rfl ?_
                  refine QJ.off rfl rfl (cB hb44) rfl rfl ?_
                  refine QJ.off rfl rfl (cB hb44) rfl rfl ?_
                  refine QJ.off rfl rfl (cB hb44) rfl rfl ?_
                  refine QJ.off rfl rfl (cB hb44) rfl rfl ?_
                  refine QJ.off rfl rfl (cB hb44) rfl rfl ?_
                  refine QJ.off rfl rfl (cB hb44) rfl rfl ?_
                  refine QJ.step (YldS.yld (y_pick_f (cB hb44) rfl)) rfl ?_
                  exact QJ.cut_end ⟨rfl, rfl, rfl, rfl, rfl, rfl, rfl, rfl, rfl, rfl, rfl, rfl, rfl, trivial⟩
              refine QJ.done ?_
              refine PJ.next ?_
              refine WJ.cond (t := t42) rfl (fun hb57 => ?_) (fun hb57 => ?_)
              · replace hm := ifT hm hb57
                refine WJ.seq ?_
                refine WJ.reg ?_
                refine SJ.q (YldS.yld (y_move rfl)) rfl ?_
                refine SJ.q (YldS.yld (y_move rfl)) rfl ?_
                refine SJ.buildSlice (R := fByte) (os := [.tmp 74]) [e33] Try.runUnderlying22 Try.sizeOf5 Try.zeroValue5 rfl rfl rfl rfl rfl rfl fun v58 => ?_
                obtain ⟨l59, h60, hm⟩ := bindS hm
                refine SJ.append (k := 2) (R := fByte) h60 rfl Try.underlying22 el5 rfl rfl rfl (fun w hw => (hw.row_rd (k := 0) rfl)) rfl fun v61 => ?_
                refine SJ.q (YldS.yld (y_assign rfl)) rfl ?_
                refine SJ.nil ?_
                refine PJ.next ?_
                refine WJ.seq ?_
                refine WJ.quiet ?_
                refine QJ.step (YldS.yld (y_move rfl)) rfl ?_
                refine QJ.step (YldS.yld (y_move rfl)) rfl ?_
                refine QJ.step (YldS.yld (y_bin rfl rfl rfl)) rfl ?_
                refine QJ.step (YldS.yld (y_move rfl)) rfl ?_
                refine QJ.step (YldS.yld (y_move rfl)) rfl ?_
                refine QJ.step (YldS.yld (y_bin rfl rfl rfl)) rfl ?_
                refine QJ.step (YldS.yld (y_assign rfl)) rfl ?_
                refine QJ.step (YldS.yld (y_assign rfl)) rfl ?_
                refine QJ.done ?_
                refine PJ.next ?_
                refine WJ.exit ?_
                refine PJ.block_exit_ne rfl (PJ.then_exit (PJ.then_exit (PJ.block_exit (PJ.block_normal ?_))))
                exact PJ.joined (l59, v61, w64 (i29 + r39.1), w64 (k30 + r39.2.1)) [2, 3, 4] hm ⟨rfl, rfl, rfl, rfl, rfl, rfl, trivial⟩ ⟨by decide, rfl⟩
              · replace hm := ifF hm hb57
                refine WJ.skip ?_
                refine PJ.block_normal (PJ.next ?_)
                refine WJ.quiet ?_
                refine QJ.step (YldS.yld (y_bin rfl rfl rfl)) rfl ?_
                refine QJ.step (YldS.yld (y_move rfl)) rfl ?_
                refine QJ.done ?_
                exact PJ.round (l27, v28, i29, k30, w64 (x31 + 1)) [0, 1, 2, 3] hm ⟨rfl, rfl, rfl, rfl, rfl, rfl, rfl, rfl, rfl, trivial⟩ ⟨by decide, rfl⟩
            · replace hm := ifF hm hb32
              refine WJ.exit ?_
              refine PJ.then_exit (PJ.then_exit (PJ.block_exit (PJ.block_normal ?_)))
              exact PJ.joined (l27, v28, i29, k30) [1, 2, 3] hm ⟨rfl, rfl, rfl, rfl, rfl, rfl, trivial⟩ ⟨by decide, rfl⟩
        · replace hm := ifF hm hb25
          refine WJ.exit ?_
          refine PJ.then_exit (PJ.then_exit (PJ.then_exit (PJ.block_exit ?_)))
          exact PJ.joined (l12, v13) [0] hm ⟨rfl, trivial⟩ ⟨by decide, rfl⟩
      · rintro ⟨l16, v17, i18, k19⟩ hm
        subst hk21
        exact PJ.round (l16, v17, i18, k19) [0, 1, 2] hm ⟨rfl, rfl, rfl, rfl, rfl, rfl, trivial⟩ ⟨by decide, rfl⟩
  · rintro ⟨l8, v9⟩ hm
    subst hk11
    refine WJ.seq ?_
    refine WJ.quiet ?_
    refine QJ.step (YldS.yld (y_move rfl)) rfl ?_
    refine QJ.step (YldS.yld (y_b2s Try.underlying22 Try.underlying9 Try.underlying5 (fun w hw => ⟨_, (hw.row_rd (k := 0) rfl)⟩) rfl)) rfl ?_
    refine QJ.step (YldS.yld (y_assign rfl)) rfl ?_
    refine QJ.done ?_
    refine PJ.next ?_
    refine WJ.ret ?_
    obtain rfl := Option.some.inj hm
    refine PJ.sel (L' := []) [] ⟨List.nodup_nil, rfl⟩ ?_
    exact PJ.retn (vs := [str l8]) Try.results54 ⟨rfl, trivial⟩ ⟨rfl, rfl⟩

set_option maxRecDepth 100000 in
set_option maxHeartbeats 1000000 in
theorem ok_i_AlignTexts {N : Nat} {want1 : Str} {typed2 : Str} {r : Str × Int} (hm : i_AlignTexts N want1 typed2 = some r) (w : World)  :
    Calls Try.prog 39 #[str want1, str typed2] w (Ret (cx w) (tup [str r.1, .int .i64 r.2])) := by
  unfold i_AlignTexts at hm
  refine Calls.enter [str want1, str typed2] Try.func39 rfl Try.ntmps39 rfl ?_
  refine WJ.seq ?_
  refine WJ.quiet ?_
  refine QJ.step (YldS.yld (y_assign rfl)) rfl ?_
  refine QJ.step (YldS.yld (y_assign rfl)) rfl ?_
  refine QJ.done ?_
  refine PJ.next ?_
  refine WJ.seq ?_
  refine WJ.seq ?_
  refine WJ.quiet ?_
  refine QJ.step (YldS.yld (y_move rfl)) rfl ?_
  obtain ⟨r3, h4, hm⟩ := bindS hm
  refine QJ.step (y_call Try.call53 rfl (RetG.quiet fun w hw => ok_i_isTyped h4 w )) rfl ?_
  refine QJ.step (YldS.yld (y_not rfl)) rfl ?_
  refine QJ.step (YldS.yld (y_move rfl)) rfl ?_
  obtain ⟨t5, h6, hm⟩ := bindS hm
  refine QJ.cut 4 [(0, str want1), (1, str typed2), (13, .bool t5)] ?_ ?_
  · rcases Bool.eq_false_or_eq_true (!r3) with hb7 | hb7
    · obtain rfl := orT h6 hb7
      refine QJ.off rfl rfl (cB hb7) rfl rfl ?_
      refine QJ.off rfl rfl (cB hb7) rfl rfl ?_
      refine QJ.off rfl rfl (cB hb7) rfl rfl ?_
      refine QJ.step (YldS.yld (y_pick_t (cB hb7) rfl)) rfl ?_
      exact QJ.cut_end ⟨rfl, rfl, rfl, trivial⟩
    · replace h6 := orF h6 hb7
      refine QJ.on rfl rfl (cB hb7) (YldS.yld (y_move rfl)) rfl ?_
      obtain ⟨r8, h9, h6⟩ := bindS h6
      refine QJ.on rfl rfl (cB hb7) (y_call Try.call53 rfl (RetG.quiet fun w hw => ok_i_isTyped h9 w )) rfl ?_
      refine QJ.on rfl rfl (cB hb7) (YldS.yld (y_not rfl)) rfl ?_
      refine QJ.step (YldS.yld (y_pick_f (cB hb7) rfl)) rfl ?_
      obtain rfl := Option.some.inj h6
      exact QJ.cut_end ⟨rfl, rfl, rfl, trivial⟩
  refine QJ.done ?_
  refine PJ.next ?_
  refine WJ.cond (t := t5) rfl (fun hb10 => ?_) (fun hb10 => ?_)
  · replace hm := ifT hm hb10
    refine WJ.seq ?_
    refine WJ.quiet ?_
    refine QJ.step (YldS.yld (y_assign rfl)) rfl ?_
    refine QJ.step (YldS.yld (y_assign rfl)) rfl ?_
    refine QJ.done ?_
    refine PJ.next ?_
    refine WJ.ret ?_
    refine PJ.then_ret ?_
    obtain rfl := Option.some.inj hm
    refine PJ.sel (L' := []) [] ⟨List.nodup_nil, rfl⟩ ?_
    exact PJ.retn (vs := [str [], .int .i64 2]) Try.results39 ⟨rfl, rfl, trivial⟩ ⟨rfl, rfl⟩
  · replace hm := ifF hm hb10
    refine WJ.skip ?_
    refine PJ.next ?_
    refine WJ.seq ?_
    refine WJ.quiet ?_
    refine QJ.step (YldS.yld (y_move rfl)) rfl ?_
    refine QJ.step (YldS.yld (y_move rfl)) rfl ?_
    obtain ⟨r11, h12, hm⟩ := bindS hm
    refine QJ.step (y_call Try.call54 rfl (RetG.quiet fun w hw => ok_i_alignment h12 w )) rfl ?_
    refine QJ.step (YldS.yld (y_assign rfl)) rfl ?_
    refine QJ.step (YldS.yld (y_assign rfl)) rfl ?_
    refine QJ.done ?_
    refine PJ.next ?_
    refine WJ.ret ?_
    obtain rfl := Option.some.inj hm
    refine PJ.sel (L' := []) [] ⟨List.nodup_nil, rfl⟩ ?_
    exact PJ.retn (vs := [str r11, .int .i64 0]) Try.results39 ⟨rfl, rfl, trivial⟩ ⟨rfl, rfl⟩

set_option maxRecDepth 100000 in
set_option maxHeartbeats 1000000 in
theorem ok_i_areSteps {N : Nat} {steps1 : Str} {r : Bool} (hm : i_areSteps N steps1 = some r) (w : World)  :
    Calls Try.prog 51 #[str steps1] w (Ret (cx w) (.bool r)) := by
  unfold i_areSteps at hm
  refine Calls.enter [str steps1] Try.func51 rfl Try.ntmps51 rfl ?_
  refine WJ.seq ?_
  refine WJ.quiet ?_
  refine QJ.step (YldS.yld (y_assign rfl)) rfl ?_
  refine QJ.done ?_
  refine PJ.next ?_
  obtain ⟨kj2, hk3, hm⟩ := withK_open hm
  refine WJ.join (X := Unit) (fun (_ : Unit) => kj2  = some r) (fun (_ : Unit) => [(0, str steps1)]) (fun (_ : Unit) => []) ?_ ?_
  · clear hk3
    refine WJ.seq ?_
    refine WJ.quiet ?_
    refine QJ.step (YldS.yld (y_move rfl)) rfl ?_
    refine QJ.step (YldS.yld (y_lenStr Try.runUnderlying9 rfl)) rfl ?_
    refine QJ.step (YldS.yld (y_move rfl)) rfl ?_
    refine QJ.done ?_
    refine PJ.next ?_
    refine WJ.block ?_
    refine WJ.sel (L' := (fun (x : Int) => []) 0) [] ⟨List.nodup_nil, rfl⟩ ?_
    refine WJ.sub (m' := (fun (x : Int) => [(0, str steps1), (5, .int .i64 (List.length steps1 : Int)), (6, .int .i64 x)]) 0) ⟨rfl, rfl, rfl, trivial⟩ ?_
    refine WJ.loop (X := Int) (fun N (x : Int) => i_areSteps_l1 kj2 steps1 N x = some r) (fun (x : Int) => [(0, str steps1), (5, .int .i64 (List.length steps1 : Int)), (6, .int .i64 x)]) (fun (x : Int) => []) ?_ N 0 hm
    · rintro N x4 hI
      have hm := hI; clear hI
      cases N with
      | zero => cases hm
      | succ N =>
      unfold i_areSteps_l1 at hm
      refine WJ.seq ?_
      refine WJ.quiet ?_
      refine QJ.step (YldS.yld (y_bin rfl rfl rfl)) rfl ?_
      refine QJ.done ?_
      refine PJ.next ?_
      refine WJ.seq ?_
      refine WJ.cond (t := decide (x4 < (List.length steps1 : Int))) rfl (fun hb5 => ?_) (fun hb5 => ?_)
      · replace hm := ifT hm hb5
        refine WJ.skip ?_
        refine PJ.next ?_
        refine WJ.seq ?_
        refine WJ.block ?_
        refine WJ.seq ?_
        refine WJ.quiet ?_
        refine QJ.step (YldS.yld (y_move rfl)) rfl ?_
        refine QJ.step (YldS.yld (y_assign rfl)) rfl ?_
        refine QJ.done ?_
        refine PJ.next ?_
        refine WJ.seq ?_
        refine WJ.quiet ?_
        refine QJ.step (YldS.yld (y_move rfl)) rfl ?_
        refine QJ.step (YldS.yld (y_move rfl)) rfl ?_
        obtain ⟨c6, h7, hm⟩ := bindS hm
        refine QJ.step (YldS.yld (y_idxStr Try.runUnderlying9 rfl rfl h7)) rfl ?_
        refine QJ.done ?_
        refine PJ.next ?_
        refine WJ.block ?_
        obtain ⟨kj9, hk10, hm⟩ := withK_open hm
        refine WJ.join (X := Bool) (fun (x : Bool) => kj9 x = some r) (fun (x : Bool) => [(0, str steps1), (5, .int .i64 (List.length steps1 : Int)), (6, .int .i64 x4), (12, .bool x)]) (fun (x : Bool) => []) ?_ ?_
        · clear hk10
          refine WJ.seq ?_
          refine WJ.quiet ?_
          refine QJ.step (YldS.yld (y_bin8 c6 (61 : UInt8) rfl rfl rfl)) rfl ?_
          refine QJ.step (YldS.yld (y_assign rfl)) rfl ?_
          refine QJ.done ?_
          refine PJ.next ?_
          refine WJ.cond (t := (c6 == (61 : UInt8))) rfl (fun hb11 => ?_) (fun hb11 => ?_)
          · replace hm := ifT hm hb11
            refine WJ.skip ?_
            exact PJ.joined (c6 == (61 : UInt8)) [] hm ⟨rfl, rfl, rfl, rfl, trivial⟩ ⟨List.nodup_nil, rfl⟩
          · replace hm := ifF hm hb11
            refine WJ.seq ?_
            refine WJ.quiet ?_
            refine QJ.step (YldS.yld (y_bin8 c6 (120 : UInt8) rfl rfl rfl)) rfl ?_
            refine QJ.step (YldS.yld (y_assign rfl)) rfl ?_
            refine QJ.done ?_
            refine PJ.next ?_
            refine WJ.cond (t := (c6 == (120 : UInt8))) rfl (fun hb12 => ?_) (fun hb12 => ?_)
            · replace hm := ifT hm hb12
              refine WJ.skip ?_
              exact PJ.joined (c6 == (120 : UInt8)) [] hm ⟨rfl, rfl, rfl, rfl, trivial⟩ ⟨List.nodup_nil, rfl⟩
            · replace hm := ifF hm hb12
              refine WJ.seq ?_
              refine WJ.quiet ?_
              refine QJ.step (YldS.yld (y_bin8 c6 (45 : UInt8) rfl rfl rfl)) rfl ?_
              refine QJ.step (YldS.yld (y_assign rfl)) rfl ?_
              refine QJ.done ?_
              refine PJ.next ?_
              refine WJ.cond (t := (c6 == (45 : UInt8))) rfl (fun hb13 => ?_) (fun hb13 => ?_)
              · replace hm := ifT hm hb13
                refine WJ.skip ?_
                exact PJ.joined (c6 == (45 : UInt8)) [] hm ⟨rfl, rfl, rfl, rfl, trivial⟩ ⟨List.nodup_nil, rfl⟩
              · replace hm := ifF hm hb13
                refine WJ.seq ?_
                refine WJ.quiet ?_
                refine QJ.step (YldS.yld (y_bin8 c6 (43 : UInt8) rfl rfl rfl)) rfl ?_
                refine QJ.step (YldS.yld (y_assign rfl)) rfl ?_
                refine QJ.done ?_
                refine PJ.next ?_
                refine WJ.cond (t := (c6 == (43 : UInt8))) rfl (fun hb14 => ?_) (fun hb14 => ?_)
                · replace hm := ifT hm hb14
                  refine WJ.skip ?_
                  exact PJ.joined (c6 == (43 : UInt8)) [] hm ⟨rfl, rfl, rfl, rfl, trivial⟩ ⟨List.nodup_nil, rfl⟩
                · replace hm := ifF hm hb14
                  refine WJ.quiet ?_
                  refine QJ.step (YldS.yld (y_bin8 c6 (126 : UInt8) rfl rfl rfl)) rfl ?_
                  refine QJ.step (YldS.yld (y_assign rfl)) rfl ?_
                  refine QJ.done ?_
                  exact PJ.joined (c6 == (126 : UInt8)) [] hm ⟨rfl, rfl, rfl, rfl, trivial⟩ ⟨List.nodup_nil, rfl⟩
        · rintro x8 hm
          subst hk10
          refine WJ.cond (t := x8) rfl (fun hb15 => ?_) (fun hb15 => ?_)
          · replace hm := ifT hm hb15
            refine WJ.skip ?_
            refine PJ.block_normal (PJ.block_normal (PJ.next ?_))
            refine WJ.quiet ?_
            refine QJ.step (YldS.yld (y_bin rfl rfl rfl)) rfl ?_
            refine QJ.step (YldS.yld (y_move rfl)) rfl ?_
            refine QJ.done ?_
            exact PJ.round (w64 (x4 + 1)) [] hm ⟨rfl, rfl, rfl, trivial⟩ ⟨List.nodup_nil, rfl⟩
          · replace hm := ifF hm hb15
            refine WJ.seq ?_
            refine WJ.quiet ?_
            refine QJ.step (YldS.yld (y_assign rfl)) rfl ?_
            refine QJ.done ?_
            refine PJ.next ?_
            refine WJ.ret ?_
            refine PJ.block_ret (PJ.block_ret (PJ.then_ret (PJ.then_ret (PJ.block_ret (PJ.then_ret ?_)))))
            obtain rfl := Option.some.inj hm
            refine PJ.sel (L' := []) [] ⟨List.nodup_nil, rfl⟩ ?_
            exact PJ.retn (vs := [.bool false]) Try.results51 ⟨rfl, trivial⟩ ⟨rfl, rfl⟩
      · replace hm := ifF hm hb5
        refine WJ.exit ?_
        refine PJ.then_exit (PJ.then_exit (PJ.block_exit ?_))
        exact PJ.joined () [] hm ⟨rfl, trivial⟩ ⟨List.nodup_nil, rfl⟩
  · rintro _ hm
    subst hk3
    refine WJ.seq ?_
    refine WJ.quiet ?_
    refine QJ.step (YldS.yld (y_move rfl)) rfl ?_
    refine QJ.step (YldS.yld (y_lenStr Try.runUnderlying9 rfl)) rfl ?_
    refine QJ.step (YldS.yld (y_bin rfl rfl rfl)) rfl ?_
    refine QJ.step (YldS.yld (y_assign rfl)) rfl ?_
    refine QJ.done ?_
    refine PJ.next ?_
    refine WJ.ret ?_
    obtain rfl := Option.some.inj hm
    refine PJ.sel (L' := []) [] ⟨List.nodup_nil, rfl⟩ ?_
    exact PJ.retn (vs := [.bool (decide ((List.length steps1 : Int) ≤ 120))]) Try.results51 ⟨rfl, trivial⟩ ⟨rfl, rfl⟩

set_option maxRecDepth 100000 in
set_option maxHeartbeats 1000000 in
theorem ok_i_aligns {N : Nat} {want1 : Str} {typed2 : Str} {steps3 : Str} {r : Bool} (hm : i_aligns N want1 typed2 steps3 = some r) (w : World)  :
    Calls Try.prog 71 #[str want1, str typed2, str steps3] w (Ret (cx w) (.bool r)) := by
  unfold i_aligns at hm
  refine Calls.enter [str want1, str typed2, str steps3] Try.func71 rfl Try.ntmps71 rfl ?_
  refine WJ.seq ?_
  refine WJ.quiet ?_
  refine QJ.step (YldS.yld (y_assign rfl)) rfl ?_
  refine QJ.done ?_
  refine PJ.next ?_
  refine WJ.seq ?_
  refine WJ.quiet ?_
  refine QJ.step (YldS.yld (y_assign rfl)) rfl ?_
  refine QJ.step (YldS.yld (y_assign rfl)) rfl ?_
  refine QJ.done ?_
  refine PJ.next ?_
  obtain ⟨kj6, hk7, hm⟩ := withK_open hm
  refine WJ.join (X := Int × Int) (fun (x : Int × Int) => kj6 x.1 x.2 = some r) (fun (x : Int × Int) => [(0, str want1), (1, str typed2), (7, .int .i64 x.1), (8, .int .i64 x.2)]) (fun (x : Int × Int) => []) ?_ ?_
  · clear hk7
    refine WJ.seq ?_
    refine WJ.quiet ?_
    refine QJ.step (YldS.yld (y_move rfl)) rfl ?_
    refine QJ.step (YldS.yld (y_lenStr Try.runUnderlying9 rfl)) rfl ?_
    refine QJ.step (YldS.yld (y_move rfl)) rfl ?_
    refine QJ.done ?_
    refine PJ.next ?_
    refine WJ.block ?_
    refine WJ.sel (L' := (fun (x : Int × Int × Int) => []) (0, 0, 0)) [] ⟨List.nodup_nil, rfl⟩ ?_
    refine WJ.sub (m' := (fun (x : Int × Int × Int) => [(0, str want1), (1, str typed2), (2, str steps3), (7, .int .i64 x.1), (8, .int .i64 x.2.1), (15, .int .i64 (List.length steps3 : Int)), (16, .int .i64 x.2.2)]) (0, 0, 0)) ⟨rfl, rfl, rfl, rfl, rfl, rfl, rfl, trivial⟩ ?_
    refine WJ.loop (X := Int × Int × Int) (fun N (x : Int × Int × Int) => i_aligns_l1 kj6 want1 typed2 steps3 N x.1 x.2.1 x.2.2 = some r) (fun (x : Int × Int × Int) => [(0, str want1), (1, str typed2), (2, str steps3), (7, .int .i64 x.1), (8, .int .i64 x.2.1), (15, .int .i64 (List.length steps3 : Int)), (16, .int .i64 x.2.2)]) (fun (x : Int × Int × Int) => []) ?_ N (0, 0, 0) hm
    · rintro N ⟨i8, k9, x10⟩ hI
      have hm := hI; clear hI
      cases N with
      | zero => cases hm
      | succ N =>
      unfold i_aligns_l1 at hm
      refine WJ.seq ?_
      refine WJ.quiet ?_
      refine QJ.step (YldS.yld (y_bin rfl rfl rfl)) rfl ?_
      refine QJ.done ?_
      refine PJ.next ?_
      refine WJ.seq ?_
      refine WJ.cond (t := decide (x10 < (List.length steps3 : Int))) rfl (fun hb11 => ?_) (fun hb11 => ?_)
      · replace hm := ifT hm hb11
        refine WJ.skip ?_
        refine PJ.next ?_
        refine WJ.seq ?_
        refine WJ.block ?_
        refine WJ.seq ?_
        refine WJ.quiet ?_
        refine QJ.step (YldS.yld (y_move rfl)) rfl ?_
        refine QJ.step (YldS.yld (y_assign rfl)) rfl ?_
        refine QJ.done ?_
        refine PJ.next ?_
        refine WJ.seq ?_
        refine WJ.quiet_draw follows (by kernel_rfl) ?_
        refine QJ.step (YldS.yld (y_move rfl)) rfl ?_
        refine QJ.step (YldS.yld (y_move rfl)) rfl ?_
        obtain ⟨s12, h13, hm⟩ := bindS hm
        refine QJ.step (YldS.yld (y_subStr (i := some i8) (j := none) h13 Try.runUnderlying9 rfl ⟨_, rfl⟩ trivial)) rfl ?_
        refine QJ.step (YldS.yld (y_move rfl)) rfl ?_
        refine QJ.step (YldS.yld (y_move rfl)) rfl ?_
        obtain ⟨s14, h15, hm⟩ := bindS hm
        refine QJ.step (YldS.yld (y_subStr (i := some k9) (j := none) h15 Try.runUnderlying9 rfl ⟨_, rfl⟩ trivial)) rfl ?_
        refine QJ.step (YldS.yld (y_move rfl)) rfl ?_
        refine QJ.step (YldS.yld (y_move rfl)) rfl ?_
        obtain ⟨c16, h17, hm⟩ := bindS hm
        refine QJ.step (YldS.yld (y_idxStr Try.runUnderlying9 rfl rfl h17)) rfl ?_
        obtain ⟨r18, h19, hm⟩ := bindS hm
        refine QJ.step (y_call Try.call77 rfl (RetG.quiet fun w hw => ok_i_stepAt h19 w )) rfl ?_
        refine QJ.step (YldS.yld (y_move rfl)) rfl ?_
        refine QJ.step (YldS.yld (y_extract rfl rfl)) rfl ?_
        refine QJ.step (YldS.yld (y_extract rfl rfl)) rfl ?_
        refine QJ.step (YldS.yld (y_extract rfl rfl)) rfl ?_
        refine QJ.step (YldS.yld (y_extract rfl rfl)) rfl ?_
        refine QJ.step (YldS.yld (y_assign rfl)) rfl ?_
        refine QJ.step (YldS.yld (y_assign rfl)) rfl ?_
        refine QJ.step (YldS.yld (y_assign rfl)) rfl ?_
        refine QJ.step (YldS.yld (y_assign rfl)) rfl ?_
        refine QJ.done ?_
        refine PJ.next ?_
        refine WJ.seq ?_
        refine WJ.seq ?_
        refine WJ.quiet ?_
        refine QJ.step (YldS.yld (y_move rfl)) rfl ?_
        refine QJ.step (YldS.yld (y_not rfl)) rfl ?_
        refine QJ.done ?_
        refine PJ.next ?_
        refine WJ.cond (t := !r18.2.2.2) rfl (fun hb20 => ?_) (fun hb20 => ?_)
        · replace hm := ifT hm hb20
          refine WJ.seq ?_
          refine WJ.quiet ?_
          refine QJ.step (YldS.yld (y_assign rfl)) rfl ?_
          refine QJ.done ?_
          refine PJ.next ?_
          refine WJ.ret ?_
          refine PJ.then_ret (PJ.block_ret (PJ.then_ret (PJ.then_ret (PJ.block_ret (PJ.then_ret ?_)))))
          obtain rfl := Option.some.inj hm
          refine PJ.sel (L' := []) [] ⟨List.nodup_nil, rfl⟩ ?_
          exact PJ.retn (vs := [.bool false]) Try.results71 ⟨rfl, trivial⟩ ⟨rfl, rfl⟩
        · replace hm := ifF hm hb20
          refine WJ.skip ?_
          refine PJ.next ?_
          refine WJ.quiet ?_
          refine QJ.step (YldS.yld (y_move rfl)) rfl ?_
          refine QJ.step (YldS.yld (y_move rfl)) rfl ?_
          refine QJ.step (YldS.yld (y_bin rfl rfl rfl)) rfl ?_
          refine QJ.step (YldS.yld (y_move rfl)) rfl ?_
          refine QJ.step (YldS.yld (y_move rfl)) rfl ?_
          refine QJ.step (YldS.yld (y_bin rfl rfl rfl)) rfl ?_
          refine QJ.step (YldS.yld (y_assign rfl)) rfl ?_
          refine QJ.step (YldS.yld (y_assign rfl)) rfl ?_
          refine QJ.done ?_
          refine PJ.block_normal (PJ.next ?_)
          refine WJ.quiet ?_
          refine QJ.step (YldS.yld (y_bin rfl rfl rfl)) rfl ?_
          refine QJ.step (YldS.yld (y_move rfl)) rfl ?_
          refine QJ.done ?_
          exact PJ.round (w64 (i8 + r18.1), w64 (k9 + r18.2.1), w64 (x10 + 1)) [] hm ⟨rfl, rfl, rfl, rfl, rfl, rfl, rfl, trivial⟩ ⟨List.nodup_nil, rfl⟩
      · replace hm := ifF hm hb11
        refine WJ.exit ?_
        refine PJ.then_exit (PJ.then_exit (PJ.block_exit ?_))
        exact PJ.joined (i8, k9) [] hm ⟨rfl, rfl, rfl, rfl, trivial⟩ ⟨List.nodup_nil, rfl⟩
  · rintro ⟨i4, k5⟩ hm
    subst hk7
    refine WJ.seq ?_
    refine WJ.quiet ?_
    refine QJ.step (YldS.yld (y_move rfl)) rfl ?_
    refine QJ.step (YldS.yld (y_move rfl)) rfl ?_
    refine QJ.step (YldS.yld (y_lenStr Try.runUnderlying9 rfl)) rfl ?_
    refine QJ.step (YldS.yld (y_bin rfl rfl rfl)) rfl ?_
    refine QJ.step (YldS.yld (y_move rfl)) rfl ?_
    obtain ⟨t21, h22, hm⟩ := bindS hm
    refine QJ.cut 5 [(52, .bool t21)] ?_ ?_
    · rcases Bool.eq_false_or_eq_true (i4 == (List.length want1 : Int)) with hb23 | hb23
      · replace h22 := andT h22 hb23
        refine QJ.on rfl rfl (cB hb23) (YldS.yld (y_move rfl)) rfl ?_
        refine QJ.on rfl rfl (cB hb23) (YldS.yld (y_move rfl)) rfl ?_
        refine QJ.on rfl rfl (cB hb23) (YldS.yld (y_lenStr Try.runUnderlying9 rfl)) rfl ?_
        refine QJ.on rfl rfl (cB hb23) (YldS.yld (y_bin rfl rfl rfl)) rfl ?_
        refine QJ.step (YldS.yld (y_pick_t (cB hb23) rfl)) rfl ?_
        obtain rfl := Option.some.inj h22
        exact QJ.cut_end ⟨rfl, trivial⟩
      · obtain rfl := andF h22 hb23
        refine QJ.off rfl rfl (cB hb23) rfl rfl ?_
        refine QJ.off rfl rfl (cB hb23) rfl rfl ?_
        refine QJ.off rfl rfl (cB hb23) rfl rfl ?_
        refine QJ.off rfl rfl (cB hb23) rfl rfl ?_
        refine QJ.step (YldS.yld (y_pick_f (cB hb23) rfl)) rfl ?_
        exact QJ.cut_end ⟨rfl, trivial⟩
    refine QJ.step (YldS.yld (y_assign rfl)) rfl ?_
    refine QJ.done ?_
    refine PJ.next ?_
    refine WJ.ret ?_
    obtain rfl := Option.some.inj hm
    refine PJ.sel (L' := []) [] ⟨List.nodup_nil, rfl⟩ ?_
    exact PJ.retn (vs := [.bool t21]) Try.results71 ⟨rfl, trivial⟩ ⟨rfl, rfl⟩

set_option maxRecDepth 100000 in
set_option maxHeartbeats 1000000 in
theorem ok_i_TypedFrom {N : Nat} {want1 : Str} {steps2 : Str} {extra3 : Str} {r : Str × Int} (hm : i_TypedFrom N want1 steps2 extra3 = some r) (w : World)  :
    Calls Try.prog 40 #[str want1, str steps2, str extra3] w (Ret (cx w) (tup [str r.1, .int .i64 r.2])) := by
  unfold i_TypedFrom at hm
  refine Calls.enter [str want1, str steps2, str extra3] Try.func40 rfl Try.ntmps40 rfl ?_
  refine WJ.seq ?_
  refine WJ.quiet ?_
  refine QJ.step (YldS.yld (y_assign rfl)) rfl ?_
  refine QJ.step (YldS.yld (y_assign rfl)) rfl ?_
  refine QJ.done ?_
  refine PJ.next ?_
  refine WJ.seq ?_
  refine WJ.seq ?_
  refine WJ.quiet ?_
  refine QJ.step (YldS.yld (y_move rfl)) rfl ?_
  obtain ⟨r4, h5, hm⟩ := bindS hm
  refine QJ.step (y_call Try.call53 rfl (RetG.quiet fun w hw => ok_i_isTyped h5 w )) rfl ?_
  refine QJ.step (YldS.yld (y_not rfl)) rfl ?_
  refine QJ.step (YldS.yld (y_move rfl)) rfl ?_
  obtain ⟨t6, h7, hm⟩ := bindS hm
  refine QJ.cut 4 [(0, str want1), (1, str steps2), (2, str extra3), (22, .bool t6)] ?_ ?_
  · rcases Bool.eq_false_or_eq_true (!r4) with hb8 | hb8
    · obtain rfl := orT h7 hb8
      refine QJ.off rfl rfl (cB hb8) rfl rfl ?_
      refine QJ.off rfl rfl (cB hb8) rfl rfl ?_
      refine QJ.off rfl rfl (cB hb8) rfl rfl ?_
      refine QJ.step (YldS.yld (y_pick_t (cB hb8) rfl)) rfl ?_
      exact QJ.cut_end ⟨rfl, rfl, rfl, rfl, trivial⟩
    · replace h7 := orF h7 hb8
      refine QJ.on rfl rfl (cB hb8) (YldS.yld (y_move rfl)) rfl ?_
      obtain ⟨r9, h10, h7⟩ := bindS h7
      refine QJ.on rfl rfl (cB hb8) (y_call Try.call53 rfl (RetG.quiet fun w hw => ok_i_isTyped h10 w )) rfl ?_
      refine QJ.on rfl rfl (cB hb8) (YldS.yld (y_not rfl)) rfl ?_
      refine QJ.step (YldS.yld (y_pick_f (cB hb8) rfl)) rfl ?_
      obtain rfl := Option.some.inj h7
      exact QJ.cut_end ⟨rfl, rfl, rfl, rfl, trivial⟩
  refine QJ.done ?_
  refine PJ.next ?_
  refine WJ.cond (t := t6) rfl (fun hb11 => ?_) (fun hb11 => ?_)
  · replace hm := ifT hm hb11
    refine WJ.seq ?_
    refine WJ.quiet ?_
    refine QJ.step (YldS.yld (y_assign rfl)) rfl ?_
    refine QJ.step (YldS.yld (y_assign rfl)) rfl ?_
    refine QJ.done ?_
    refine PJ.next ?_
    refine WJ.ret ?_
    refine PJ.then_ret ?_
    obtain rfl := Option.some.inj hm
    refine PJ.sel (L' := []) [] ⟨List.nodup_nil, rfl⟩ ?_
    exact PJ.retn (vs := [str [], .int .i64 2]) Try.results40 ⟨rfl, rfl, trivial⟩ ⟨rfl, rfl⟩
  · replace hm := ifF hm hb11
    refine WJ.skip ?_
    refine PJ.next ?_
    refine WJ.seq ?_
    refine WJ.seq ?_
    refine WJ.quiet ?_
    refine QJ.step (YldS.yld (y_move rfl)) rfl ?_
    obtain ⟨r12, h13, hm⟩ := bindS hm
    refine QJ.step (y_call Try.call51 rfl (RetG.quiet fun w hw => ok_i_areSteps h13 w )) rfl ?_
    refine QJ.step (YldS.yld (y_not rfl)) rfl ?_
    refine QJ.done ?_
    refine PJ.next ?_
    refine WJ.cond (t := !r12) rfl (fun hb14 => ?_) (fun hb14 => ?_)
    · replace hm := ifT hm hb14
      refine WJ.seq ?_
      refine WJ.quiet ?_
      refine QJ.step (YldS.yld (y_assign rfl)) rfl ?_
      refine QJ.step (YldS.yld (y_assign rfl)) rfl ?_
      refine QJ.done ?_
      refine PJ.next ?_
      refine WJ.ret ?_
      refine PJ.then_ret ?_
      obtain rfl := Option.some.inj hm
      refine PJ.sel (L' := []) [] ⟨List.nodup_nil, rfl⟩ ?_
      exact PJ.retn (vs := [str [], .int .i64 7]) Try.results40 ⟨rfl, rfl, trivial⟩ ⟨rfl, rfl⟩
    · replace hm := ifF hm hb14
      refine WJ.skip ?_
      refine PJ.next ?_
      refine WJ.seq ?_
      refine WJ.reg ?_
      refine SJ.buildSlice (R := fByte) (os := []) [] Try.runUnderlying22 Try.sizeOf5 Try.zeroValue5 rfl rfl rfl rfl rfl rfl fun v15 => ?_
      refine SJ.q (YldS.yld (y_assign rfl)) rfl ?_
      refine SJ.nil ?_
      refine PJ.next ?_
      refine WJ.seq ?_
      refine WJ.quiet ?_
      refine QJ.step (YldS.yld (y_assign rfl)) rfl ?_
      refine QJ.step (YldS.yld (y_assign rfl)) rfl ?_
      refine QJ.done ?_
      refine PJ.next ?_
      obtain ⟨kj19, hk20, hm⟩ := withK_open hm
      refine WJ.join (X := (List UInt8) × Value × Int) (fun (x : (List UInt8) × Value × Int) => kj19 x.1 x.2.2 = some r) (fun (x : (List UInt8) × Value × Int) => [(0, str want1), (1, str steps2), (2, str extra3), (8, x.2.1), (10, .int .i64 x.2.2)]) (fun (x : (List UInt8) × Value × Int) => [row x.2.1 5 fByte x.1]) ?_ ?_
      · clear hk20
        refine WJ.seq ?_
        refine WJ.quiet ?_
        refine QJ.step (YldS.yld (y_move rfl)) rfl ?_
        refine QJ.step (YldS.yld (y_lenStr Try.runUnderlying9 rfl)) rfl ?_
        refine QJ.step (YldS.yld (y_move rfl)) rfl ?_
        refine QJ.done ?_
        refine PJ.next ?_
        refine WJ.block ?_
        refine WJ.sel (L' := (fun (x : (List UInt8) × Value × Int × Int × Int) => [row x.2.1 5 fByte x.1]) ([], v15, 0, 0, 0)) [0] ⟨by decide, rfl⟩ ?_
        refine WJ.sub (m' := (fun (x : (List UInt8) × Value × Int × Int × Int) => [(0, str want1), (1, str steps2), (2, str extra3), (8, x.2.1), (9, .int .i64 x.2.2.1), (10, .int .i64 x.2.2.2.1), (28, .int .i64 (List.length steps2 : Int)), (29, .int .i64 x.2.2.2.2)]) ([], v15, 0, 0, 0)) ⟨rfl, rfl, rfl, rfl, rfl, rfl, rfl, rfl, trivial⟩ ?_
        refine WJ.loop (X := (List UInt8) × Value × Int × Int × Int) (fun N (x : (List UInt8) × Value × Int × Int × Int) => i_TypedFrom_l1 kj19 want1 steps2 extra3 N x.1 x.2.2.1 x.2.2.2.1 x.2.2.2.2 = some r) (fun (x : (List UInt8) × Value × Int × Int × Int) => [(0, str want1), (1, str steps2), (2, str extra3), (8, x.2.1), (9, .int .i64 x.2.2.1), (10, .int .i64 x.2.2.2.1), (28, .int .i64 (List.length steps2 : Int)), (29, .int .i64 x.2.2.2.2)]) (fun (x : (List UInt8) × Value × Int × Int × Int) => [row x.2.1 5 fByte x.1]) ?_ N ([], v15, 0, 0, 0) hm
        · rintro N ⟨l21, v22, at23, used24, x25⟩ hI
          have hm := hI; clear hI
          cases N with
          | zero => cases hm
          | succ N =>
          unfold i_TypedFrom_l1 at hm
          refine WJ.seq ?_
          refine WJ.quiet ?_
          refine QJ.step (YldS.yld (y_bin rfl rfl rfl)) rfl ?_
          refine QJ.done ?_
          refine PJ.next ?_
          refine WJ.seq ?_
          refine WJ.cond (t := decide (x25 < (List.length steps2 : Int))) rfl (fun hb26 => ?_) (fun hb26 => ?_)
          · replace hm := ifT hm hb26
            refine WJ.skip ?_
            refine PJ.next ?_
            refine WJ.seq ?_
            refine WJ.block ?_
            refine WJ.seq ?_
            refine WJ.quiet ?_
            refine QJ.step (YldS.yld (y_move rfl)) rfl ?_
            refine QJ.step (YldS.yld (y_assign rfl)) rfl ?_
            refine QJ.done ?_
            refine PJ.next ?_
            refine WJ.seq ?_
            refine WJ.quiet ?_
            refine QJ.step (YldS.yld (y_move rfl)) rfl ?_
            refine QJ.step (YldS.yld (y_move rfl)) rfl ?_
            obtain ⟨c27, h28, hm⟩ := bindS hm
            refine QJ.step (YldS.yld (y_idxStr Try.runUnderlying9 rfl rfl h28)) rfl ?_
            refine QJ.step (YldS.yld (y_assign rfl)) rfl ?_
            refine QJ.done ?_
            refine PJ.next ?_
            refine WJ.seq ?_
            refine WJ.quiet ?_
            refine QJ.step (YldS.yld (y_assign rfl)) rfl ?_
            refine QJ.step (YldS.yld (y_assign rfl)) rfl ?_
            refine QJ.done ?_
            refine PJ.next ?_
            obtain ⟨kj31, hk32, hm⟩ := withK_open hm
            refine WJ.join (X := Int × Int) (fun (x : Int × Int) => kj31 x.1 x.2 = some r) (fun (x : Int × Int) => [(0, str want1), (1, str steps2), (2, str extra3), (8, v22), (9, .int .i64 at23), (10, .int .i64 used24), (12, .int .u8 (UInt8.toNat c27 : Int)), (13, .int .i64 x.1), (14, .int .i64 x.2), (28, .int .i64 (List.length steps2 : Int)), (29, .int .i64 x25)]) (fun (x : Int × Int) => [row v22 5 fByte l21]) ?_ ?_
            · clear hk32
              refine WJ.seq ?_
              refine WJ.quiet ?_
              refine QJ.step (YldS.yld (y_move rfl)) rfl ?_
              refine QJ.done ?_
              refine PJ.next ?_
              refine WJ.block ?_
              refine WJ.seq ?_
              refine WJ.quiet ?_
              refine QJ.step (YldS.yld (y_bin8 c27 (43 : UInt8) rfl rfl rfl)) rfl ?_
              refine QJ.step (YldS.yld (y_assign rfl)) rfl ?_
              refine QJ.done ?_
              refine PJ.next ?_
              refine WJ.cond (t := (c27 == (43 : UInt8))) rfl (fun hb33 => ?_) (fun hb33 => ?_)
              · replace hm := ifT hm hb33
                refine WJ.quiet ?_
                refine QJ.step (YldS.yld (y_assign rfl)) rfl ?_
                refine QJ.step (YldS.yld (y_assign rfl)) rfl ?_
                refine QJ.done ?_
                refine PJ.block_normal ?_
                exact PJ.joined (0, 1) [0] hm ⟨rfl, rfl, rfl, rfl, rfl, rfl, rfl, rfl, rfl, rfl, rfl, trivial⟩ ⟨by decide, rfl⟩
              · replace hm := ifF hm hb33
                refine WJ.seq ?_
                refine WJ.quiet ?_
                refine QJ.step (YldS.yld (y_bin8 c27 (120 : UInt8) rfl rfl rfl)) rfl ?_
                refine QJ.step (YldS.yld (y_assign rfl)) rfl ?_
                refine QJ.done ?_
                refine PJ.next ?_
                refine WJ.cond (t := (c27 == (120 : UInt8))) rfl (fun hb34 => ?_) (fun hb34 => ?_)
                · replace hm := ifT hm hb34
                  refine WJ.quiet ?_
                  refine QJ.step (YldS.yld (y_assign rfl)) rfl ?_
                  refine QJ.done ?_
                  refine PJ.block_normal ?_
                  exact PJ.joined (1, 1) [0] hm ⟨rfl, rfl, rfl, rfl, rfl, rfl, rfl, rfl, rfl, rfl, rfl, trivial⟩ ⟨by decide, rfl⟩
                · replace hm := ifF hm hb34
                  refine WJ.seq ?_
                  refine WJ.quiet ?_
                  refine QJ.step (YldS.yld (y_bin8 c27 (126 : UInt8) rfl rfl rfl)) rfl ?_
                  refine QJ.step (YldS.yld (y_assign rfl)) rfl ?_
                  refine QJ.done ?_
                  refine PJ.next ?_
                  refine WJ.cond (t := (c27 == (126 : UInt8))) rfl (fun hb35 => ?_) (fun hb35 => ?_)
                  · replace hm := ifT hm hb35
                    refine WJ.quiet ?_
                    refine QJ.step (YldS.yld (y_assign rfl)) rfl ?_
                    refine QJ.done ?_
                    refine PJ.block_normal ?_
                    exact PJ.joined (2, 0) [0] hm ⟨rfl, rfl, rfl, rfl, rfl, rfl, rfl, rfl, rfl, rfl, rfl, trivial⟩ ⟨by decide, rfl⟩
                  · replace hm := ifF hm hb35
                    refine WJ.skip ?_
                    refine PJ.block_normal ?_
                    exact PJ.joined (1, 0) [0] hm ⟨rfl, rfl, rfl, rfl, rfl, rfl, rfl, rfl, rfl, rfl, rfl, trivial⟩ ⟨by decide, rfl⟩
            · rintro ⟨need29, more30⟩ hm
              subst hk32
              refine WJ.seq ?_
              refine WJ.seq ?_
              refine WJ.quiet ?_
              refine QJ.step (YldS.yld (y_move rfl)) rfl ?_
              refine QJ.step (YldS.yld (y_move rfl)) rfl ?_
              refine QJ.step (YldS.yld (y_bin rfl rfl rfl)) rfl ?_
              refine QJ.step (YldS.yld (y_move rfl)) rfl ?_
              refine QJ.step (YldS.yld (y_lenStr Try.runUnderlying9 rfl)) rfl ?_
              refine QJ.step (YldS.yld (y_bin rfl rfl rfl)) rfl ?_
              refine QJ.step (YldS.yld (y_move rfl)) rfl ?_
              obtain ⟨t36, h37, hm⟩ := bindS hm
              refine QJ.cut 7 [(0, str want1), (1, str steps2), (2, str extra3), (8, v22), (9, .int .i64 at23), (10, .int .i64 used24), (12, .int .u8 (UInt8.toNat c27 : Int)), (13, .int .i64 need29), (14, .int .i64 more30), (28, .int .i64 (List.length steps2 : Int)), (29, .int .i64 x25), (55, .bool t36)] ?_ ?_
              · rcases Bool.eq_false_or_eq_true (decide ((w64 (at23 + need29)) > (List.length want1 : Int))) with hb38 | hb38
                · obtain rfl := orT h37 hb38
                  refine QJ.off rfl rfl (cB hb38) rfl rfl ?_
                  refine QJ.off rfl rfl (cB hb38) rfl rfl ?_
                  refine QJ.off rfl rfl (cB hb38) rfl rfl ?_
                  refine QJ.off rfl rfl (cB hb38) rfl rfl ?_
                  refine QJ.off rfl rfl (cB hb38) rfl rfl ?_
                  refine QJ.off rfl rfl (cB hb38) rfl rfl ?_
                  refine QJ.step (YldS.yld (y_pick_t (cB hb38) rfl)) rfl ?_
                  exact QJ.cut_end ⟨rfl, rfl, rfl, rfl, rfl, rfl, rfl, rfl, rfl, rfl, rfl, rfl, trivial⟩
                · replace h37 := orF h37 hb38
                  refine QJ.on rfl rfl (cB hb38) (YldS.yld (y_move rfl)) rfl ?_
                  refine QJ.on rfl rfl (cB hb38) (YldS.yld (y_move rfl)) rfl ?_
                  refine QJ.on rfl rfl (cB hb38) (YldS.yld (y_bin rfl rfl rfl)) rfl ?_
                  refine QJ.on rfl rfl (cB hb38) (YldS.yld (y_move rfl)) rfl ?_
                  refine QJ.on rfl rfl (cB hb38) (YldS.yld (y_lenStr Try.runUnderlying9 rfl)) rfl ?_
                  refine QJ.on rfl rfl (cB hb38) (YldS.yld (y_bin rfl rfl rfl)) rfl ?_
                  refine QJ.step (YldS.yld (y_pick_f (cB hb38) rfl)) rfl ?_
                  obtain rfl := Option.some.inj h37
                  exact QJ.cut_end ⟨rfl, rfl, rfl, rfl, rfl, rfl, rfl, rfl, rfl, rfl, rfl, rfl, trivial⟩
              refine QJ.done ?_
              refine PJ.next ?_
              refine WJ.cond (t := t36) rfl (fun hb39 => ?_) (fun hb39 => ?_)
              · replace hm := ifT hm hb39
                refine WJ.seq ?_
                refine WJ.quiet ?_
                refine QJ.step (YldS.yld (y_assign rfl)) rfl ?_
                refine QJ.step (YldS.yld (y_assign rfl)) rfl ?_
                refine QJ.done ?_
                refine PJ.next ?_
                refine WJ.ret ?_
                refine PJ.then_ret (PJ.block_ret (PJ.then_ret (PJ.then_ret (PJ.block_ret (PJ.then_ret ?_)))))
                obtain rfl := Option.some.inj hm
                refine PJ.sel (L' := []) [] ⟨List.nodup_nil, rfl⟩ ?_
                exact PJ.retn (vs := [str [], .int .i64 9]) Try.results40 ⟨rfl, rfl, trivial⟩ ⟨rfl, rfl⟩
              · replace hm := ifF hm hb39
                refine WJ.skip ?_
                refine PJ.next ?_
                obtain ⟨kj42, hk43, hm⟩ := withK_open hm
                refine WJ.join (X := (List UInt8) × Value) (fun (x : (List UInt8) × Value) => kj42 x.1 = some r) (fun (x : (List UInt8) × Value) => [(0, str want1), (1, str steps2), (2, str extra3), (8, x.2), (9, .int .i64 at23), (10, .int .i64 used24), (13, .int .i64 need29), (14, .int .i64 more30), (28, .int .i64 (List.length steps2 : Int)), (29, .int .i64 x25)]) (fun (x : (List UInt8) × Value) => [row x.2 5 fByte x.1]) ?_ ?_
                · clear hk43
                  refine WJ.seq ?_
                  refine WJ.quiet ?_
                  refine QJ.step (YldS.yld (y_move rfl)) rfl ?_
                  refine QJ.done ?_
                  refine PJ.next ?_
                  refine WJ.block ?_
                  refine WJ.seq ?_
                  refine WJ.quiet ?_
                  refine QJ.step (YldS.yld (y_bin8 c27 (61 : UInt8) rfl rfl rfl)) rfl ?_
                  refine QJ.step (YldS.yld (y_assign rfl)) rfl ?_
                  refine QJ.done ?_
                  refine PJ.next ?_
                  refine WJ.cond (t := (c27 == (61 : UInt8))) rfl (fun hb44 => ?_) (fun hb44 => ?_)
                  · replace hm := ifT hm hb44
                    refine WJ.reg ?_
                    refine SJ.q (YldS.yld (y_move rfl)) rfl ?_
                    refine SJ.q (YldS.yld (y_move rfl)) rfl ?_
                    refine SJ.q (YldS.yld (y_move rfl)) rfl ?_
                    obtain ⟨c45, h46, hm⟩ := bindS hm
                    refine SJ.q (YldS.yld (y_idxStr Try.runUnderlying9 rfl rfl h46)) rfl ?_
                    refine SJ.buildSlice (R := fByte) (os := [.tmp 62]) [c45] Try.runUnderlying22 Try.sizeOf5 Try.zeroValue5 rfl rfl rfl rfl rfl rfl fun v47 => ?_
                    obtain ⟨l48, h49, hm⟩ := bindS hm
                    refine SJ.append (k := 1) (R := fByte) h49 rfl Try.underlying22 el5 rfl rfl rfl (fun w hw => (hw.row_rd (k := 0) rfl)) rfl fun v50 => ?_
                    refine SJ.q (YldS.yld (y_assign rfl)) rfl ?_
                    refine SJ.nil ?_
                    refine PJ.block_normal ?_
                    exact PJ.joined (l48, v50) [1] hm ⟨rfl, rfl, rfl, rfl, rfl, rfl, rfl, rfl, rfl, rfl, trivial⟩ ⟨by decide, rfl⟩
                  · replace hm := ifF hm hb44
                    obtain ⟨kj52, hk53, hm⟩ := withK_open hm
                    refine WJ.join (X := Bool) (fun (x : Bool) => kj52 x = some r) (fun (x : Bool) => [(0, str want1), (1, str steps2), (2, str extra3), (8, v22), (9, .int .i64 at23), (10, .int .i64 used24), (13, .int .i64 need29), (14, .int .i64 more30), (28, .int .i64 (List.length steps2 : Int)), (29, .int .i64 x25), (56, .int .u8 (UInt8.toNat c27 : Int)), (65, .bool x)]) (fun (x : Bool) => [row v22 5 fByte l21]) ?_ ?_
                    · clear hk53
                      refine WJ.seq ?_
                      refine WJ.quiet ?_
                      refine QJ.step (YldS.yld (y_bin8 c27 (120 : UInt8) rfl rfl rfl)) rfl ?_
                      refine QJ.step (YldS.yld (y_assign rfl)) rfl ?_
                      refine QJ.done ?_
                      refine PJ.next ?_
                      refine WJ.cond (t := (c27 == (120 : UInt8))) rfl (fun hb54 => ?_) (fun hb54 => ?_)
                      · replace hm := ifT hm hb54
                        refine WJ.skip ?_
                        exact PJ.joined (c27 == (120 : UInt8)) [0] hm ⟨rfl, rfl, rfl, rfl, rfl, rfl, rfl, rfl, rfl, rfl, rfl, rfl, trivial⟩ ⟨by decide, rfl⟩
                      · replace hm := ifF hm hb54
                        refine WJ.quiet ?_
                        refine QJ.step (YldS.yld (y_bin8 c27 (43 : UInt8) rfl rfl rfl)) rfl ?_
                        refine QJ.step (YldS.yld (y_assign rfl)) rfl ?_
                        refine QJ.done ?_
                        exact PJ.joined (c27 == (43 : UInt8)) [0] hm ⟨rfl, rfl, rfl, rfl, rfl, rfl, rfl, rfl, rfl, rfl, rfl, rfl, trivial⟩ ⟨by decide, rfl⟩
                    · rintro x51 hm
                      subst hk53
                      refine WJ.cond (t := x51) rfl (fun hb55 => ?_) (fun hb55 => ?_)
                      · replace hm := ifT hm hb55
                        refine WJ.reg ?_
                        refine SJ.q (YldS.yld (y_move rfl)) rfl ?_
                        refine SJ.q (YldS.yld (y_move rfl)) rfl ?_
                        refine SJ.q (YldS.yld (y_move rfl)) rfl ?_
                        obtain ⟨c56, h57, hm⟩ := bindS hm
                        refine SJ.q (YldS.yld (y_idxStr Try.runUnderlying9 rfl rfl h57)) rfl ?_
                        refine SJ.buildSlice (R := fByte) (os := [.tmp 71]) [c56] Try.runUnderlying22 Try.sizeOf5 Try.zeroValue5 rfl rfl rfl rfl rfl rfl fun v58 => ?_
                        obtain ⟨l59, h60, hm⟩ := bindS hm
                        refine SJ.append (k := 1) (R := fByte) h60 rfl Try.underlying22 el5 rfl rfl rfl (fun w hw => (hw.row_rd (k := 0) rfl)) rfl fun v61 => ?_
                        refine SJ.q (YldS.yld (y_assign rfl)) rfl ?_
                        refine SJ.nil ?_
                        refine PJ.block_normal ?_
                        exact PJ.joined (l59, v61) [1] hm ⟨rfl, rfl, rfl, rfl, rfl, rfl, rfl, rfl, rfl, rfl, trivial⟩ ⟨by decide, rfl⟩
                      · replace hm := ifF hm hb55
                        refine WJ.seq ?_
                        refine WJ.quiet ?_
                        refine QJ.step (YldS.yld (y_bin8 c27 (126 : UInt8) rfl rfl rfl)) rfl ?_
                        refine QJ.step (YldS.yld (y_assign rfl)) rfl ?_
                        refine QJ.done ?_
                        refine PJ.next ?_
                        refine WJ.cond (t := (c27 == (126 : UInt8))) rfl (fun hb62 => ?_) (fun hb62 => ?_)
                        · replace hm := ifT hm hb62
                          obtain ⟨c63, h64, hm⟩ := bindS hm
                          obtain ⟨c65, h66, hm⟩ := bindS hm
                          obtain ⟨l68, h69, hm⟩ := bindS hm
                          refine WJ.draws (N := 11) (listed0 := #[false, false, false, false, false, false, false, false, false, false, false]) [] follows rfl rfl ?_
                          refine RJ.first 0 (listed' := #[true, false, false, false, false, false, false, false, false, false, false]) [] rfl (by kernel_rfl) rfl ⟨List.nodup_nil, rfl⟩ (y_move rfl) rfl ?_
                          refine RJ.first 1 (listed' := #[true, true, false, false, false, false, false, false, false, false, false]) [] rfl (by kernel_rfl) rfl ⟨List.nodup_nil, rfl⟩ (y_move rfl) rfl ?_
                          refine RJ.first 2 (listed' := #[true, true, true, false, false, false, false, false, false, false, false]) [] rfl (by kernel_rfl) rfl ⟨List.nodup_nil, rfl⟩ (y_move rfl) rfl ?_
                          refine RJ.first 3 (listed' := #[true, true, true, true, false, false, false, false, false, false, false]) [] rfl (by kernel_rfl) rfl ⟨List.nodup_nil, rfl⟩ (y_bin rfl rfl rfl) rfl ?_
                          refine RJ.first 4 (listed' := #[true, true, true, true, true, false, false, false, false, false, false]) [] rfl (by kernel_rfl) rfl ⟨List.nodup_nil, rfl⟩ (y_idxStr Try.runUnderlying9 rfl rfl h64) rfl ?_
                          refine RJ.first 5 (listed' := #[true, true, true, true, true, true, false, false, false, false, false]) [] rfl (by kernel_rfl) rfl ⟨List.nodup_nil, rfl⟩ (y_move rfl) rfl ?_
                          refine RJ.first 6 (listed' := #[true, true, true, true, true, true, true, false, false, false, false]) [] rfl (by kernel_rfl) rfl ⟨List.nodup_nil, rfl⟩ (y_move rfl) rfl ?_
                          refine RJ.first 7 (listed' := #[true, true, true, true, true, true, true, true, false, false, false]) [] rfl (by kernel_rfl) rfl ⟨List.nodup_nil, rfl⟩ (y_idxStr Try.runUnderlying9 rfl rfl h66) rfl ?_
                          refine RJ.step1 8 [] (by kernel_rfl) ⟨List.nodup_nil, rfl⟩ ?_
                          refine RO.of (listed' := #[true, true, true, true, true, true, true, true, true, false, false]) rfl rfl ?_
                          refine SJ.buildSlice (R := fByte) (os := [.tmp 80, .tmp 83]) [c63, c65] Try.runUnderlying22 Try.sizeOf5 Try.zeroValue5 rfl rfl rfl rfl rfl rfl fun v67 => ?_
                          refine SJ.nil ?_
                          refine PJ.draw ?_
                          refine RJ.step1 9 [] (by kernel_rfl) ⟨List.nodup_nil, rfl⟩ ?_
                          refine RO.of (listed' := #[true, true, true, true, true, true, true, true, true, true, false]) rfl rfl ?_
                          refine SJ.append (k := 1) (R := fByte) h69 rfl Try.underlying22 el5 rfl rfl rfl (fun w hw => (hw.row_rd (k := 0) rfl)) rfl fun v70 => ?_
                          refine SJ.nil ?_
                          refine PJ.draw ?_
                          refine RJ.first 10 (listed' := #[true, true, true, true, true, true, true, true, true, true, true]) [] rfl (by kernel_rfl) rfl ⟨List.nodup_nil, rfl⟩ (y_assign rfl) rfl ?_
                          refine RJ.fin [] (by kernel_rfl) ⟨List.nodup_nil, rfl⟩ ?_
                          refine PJ.block_normal ?_
                          exact PJ.joined (l68, v70) [1] hm ⟨rfl, rfl, rfl, rfl, rfl, rfl, rfl, rfl, rfl, rfl, trivial⟩ ⟨by decide, rfl⟩
                        · replace hm := ifF hm hb62
                          refine WJ.skip ?_
                          refine PJ.block_normal ?_
                          exact PJ.joined (l21, v22) [0] hm ⟨rfl, rfl, rfl, rfl, rfl, rfl, rfl, rfl, rfl, rfl, trivial⟩ ⟨by decide, rfl⟩
                · rintro ⟨l40, v41⟩ hm
                  subst hk43
                  refine WJ.quiet ?_
                  refine QJ.step (YldS.yld (y_move rfl)) rfl ?_
                  refine QJ.step (YldS.yld (y_move rfl)) rfl ?_
                  refine QJ.step (YldS.yld (y_bin rfl rfl rfl)) rfl ?_
                  refine QJ.step (YldS.yld (y_move rfl)) rfl ?_
                  refine QJ.step (YldS.yld (y_move rfl)) rfl ?_
                  refine QJ.step (YldS.yld (y_bin rfl rfl rfl)) rfl ?_
                  refine QJ.step (YldS.yld (y_assign rfl)) rfl ?_
                  refine QJ.step (YldS.yld (y_assign rfl)) rfl ?_
                  refine QJ.done ?_
                  refine PJ.block_normal (PJ.next ?_)
                  refine WJ.quiet ?_
                  refine QJ.step (YldS.yld (y_bin rfl rfl rfl)) rfl ?_
                  refine QJ.step (YldS.yld (y_move rfl)) rfl ?_
                  refine QJ.done ?_
                  exact PJ.round (l40, v41, w64 (at23 + need29), w64 (used24 + more30), w64 (x25 + 1)) [0] hm ⟨rfl, rfl, rfl, rfl, rfl, rfl, rfl, rfl, trivial⟩ ⟨by decide, rfl⟩
          · replace hm := ifF hm hb26
            refine WJ.exit ?_
            refine PJ.then_exit (PJ.then_exit (PJ.block_exit ?_))
            exact PJ.joined (l21, v22, used24) [0] hm ⟨rfl, rfl, rfl, rfl, rfl, trivial⟩ ⟨by decide, rfl⟩
      · rintro ⟨l16, v17, used18⟩ hm
        subst hk20
        refine WJ.seq ?_
        refine WJ.seq ?_
        refine WJ.quiet ?_
        refine QJ.step (YldS.yld (y_move rfl)) rfl ?_
        refine QJ.step (YldS.yld (y_move rfl)) rfl ?_
        refine QJ.step (YldS.yld (y_lenStr Try.runUnderlying9 rfl)) rfl ?_
        refine QJ.step (YldS.yld (y_bin rfl rfl rfl)) rfl ?_
        refine QJ.step (YldS.yld (y_move rfl)) rfl ?_
        obtain ⟨t71, h72, hm⟩ := bindS hm
        refine QJ.cut 7 [(8, v17), (104, .bool t71)] ?_ ?_
        · rcases Bool.eq_false_or_eq_true (used18 != (List.length extra3 : Int)) with hb73 | hb73
          · obtain rfl := orT h72 hb73
            refine QJ.off rfl rfl (cB hb73) rfl rfl ?_
            refine QJ.off rfl rfl (cB hb73) rfl rfl ?_
            refine QJ.off rfl rfl (cB hb73) rfl rfl ?_
            refine QJ.off rfl rfl (cB hb73) rfl rfl ?_
            refine QJ.off rfl rfl (cB hb73) rfl rfl ?_
            refine QJ.off rfl rfl (cB hb73) rfl rfl ?_
            refine QJ.step (YldS.yld (y_pick_t (cB hb73) rfl)) rfl ?_
            exact QJ.cut_end ⟨rfl, rfl, trivial⟩
          · replace h72 := orF h72 hb73
            refine QJ.on rfl rfl (cB hb73) (YldS.yld (y_move rfl)) rfl ?_
            refine QJ.on rfl rfl (cB hb73) (YldS.yld (y_move rfl)) rfl ?_
            refine QJ.on rfl rfl (cB hb73) (YldS.yld (y_b2s Try.underlying22 Try.underlying9 Try.underlying5 (fun w hw => ⟨_, (hw.row_rd (k := 0) rfl)⟩) rfl)) rfl ?_
            refine QJ.on rfl rfl (cB hb73) (YldS.yld (y_move rfl)) rfl ?_
            obtain ⟨r74, h75, h72⟩ := bindS h72
            refine QJ.on rfl rfl (cB hb73) (y_call Try.call71 rfl (RetG.quiet fun w hw => ok_i_aligns h75 w )) rfl ?_
            refine QJ.on rfl rfl (cB hb73) (YldS.yld (y_not rfl)) rfl ?_
            refine QJ.step (YldS.yld (y_pick_f (cB hb73) rfl)) rfl ?_
            obtain rfl := Option.some.inj h72
            exact QJ.cut_end ⟨rfl, rfl, trivial⟩
        refine QJ.done ?_
        refine PJ.next ?_
        refine WJ.cond (t := t71) rfl (fun hb76 => ?_) (fun hb76 => ?_)
        · replace hm := ifT hm hb76
          refine WJ.seq ?_
          refine WJ.quiet ?_
          refine QJ.step (YldS.yld (y_assign rfl)) rfl ?_
          refine QJ.step (YldS.yld (y_assign rfl)) rfl ?_
          refine QJ.done ?_
          refine PJ.next ?_
          refine WJ.ret ?_
          refine PJ.then_ret ?_
          obtain rfl := Option.some.inj hm
          refine PJ.sel (L' := []) [] ⟨List.nodup_nil, rfl⟩ ?_
          exact PJ.retn (vs := [str [], .int .i64 9]) Try.results40 ⟨rfl, rfl, trivial⟩ ⟨rfl, rfl⟩
        · replace hm := ifF hm hb76
          refine WJ.skip ?_
          refine PJ.next ?_
          refine WJ.seq ?_
          refine WJ.seq ?_
          refine WJ.quiet ?_
          refine QJ.step (YldS.yld (y_move rfl)) rfl ?_
          refine QJ.step (YldS.yld (y_lenRow (k := 0) rfl Try.runUnderlying22 rfl)) rfl ?_
          refine QJ.step (YldS.yld (y_bin rfl rfl rfl)) rfl ?_
          refine QJ.done ?_
          refine PJ.next ?_
          refine WJ.cond (t := decide ((List.length l16 : Int) > 60)) rfl (fun hb77 => ?_) (fun hb77 => ?_)
          · replace hm := ifT hm hb77
            refine WJ.seq ?_
            refine WJ.quiet ?_
            refine QJ.step (YldS.yld (y_assign rfl)) rfl ?_
            refine QJ.step (YldS.yld (y_assign rfl)) rfl ?_
            refine QJ.done ?_
            refine PJ.next ?_
            refine WJ.ret ?_
            refine PJ.then_ret ?_
            obtain rfl := Option.some.inj hm
            refine PJ.sel (L' := []) [] ⟨List.nodup_nil, rfl⟩ ?_
            exact PJ.retn (vs := [str [], .int .i64 5]) Try.results40 ⟨rfl, rfl, trivial⟩ ⟨rfl, rfl⟩
          · replace hm := ifF hm hb77
            refine WJ.skip ?_
            refine PJ.next ?_
            refine WJ.seq ?_
            refine WJ.quiet ?_
            refine QJ.step (YldS.yld (y_move rfl)) rfl ?_
            refine QJ.step (YldS.yld (y_b2s Try.underlying22 Try.underlying9 Try.underlying5 (fun w hw => ⟨_, (hw.row_rd (k := 0) rfl)⟩) rfl)) rfl ?_
            refine QJ.step (YldS.yld (y_assign rfl)) rfl ?_
            refine QJ.step (YldS.yld (y_assign rfl)) rfl ?_
            refine QJ.done ?_
            refine PJ.next ?_
            refine WJ.ret ?_
            obtain rfl := Option.some.inj hm
            refine PJ.sel (L' := []) [] ⟨List.nodup_nil, rfl⟩ ?_
            exact PJ.retn (vs := [str l16, .int .i64 0]) Try.results40 ⟨rfl, rfl, trivial⟩ ⟨rfl, rfl⟩

set_option maxRecDepth 100000 in
set_option maxHeartbeats 1000000 in
theorem ok_i_BestTry {N : Nat} {want1 : Str} {tries2 : List Str} {r : Int × Int} (hm : i_BestTry N want1 tries2 = some r) (w : World) (v3 : Value) (hr4 : RdS w (cx w).Fz v3 fStr.rp tries2) :
    Calls Try.prog 41 #[str want1, v3] w (Ret (cx w) (tup [.int .i64 r.1, .int .i64 r.2])) := by
  unfold i_BestTry at hm
  refine Calls.enter [str want1, v3] Try.func41 rfl Try.ntmps41 rfl ?_
  refine WJ.seq ?_
  refine WJ.quiet ?_
  refine QJ.step (YldS.yld (y_assign rfl)) rfl ?_
  refine QJ.step (YldS.yld (y_assign rfl)) rfl ?_
  refine QJ.done ?_
  refine PJ.next ?_
  refine WJ.seq ?_
  refine WJ.seq ?_
  refine WJ.quiet ?_
  refine QJ.step (YldS.yld (y_move rfl)) rfl ?_
  obtain ⟨r5, h6, hm⟩ := bindS hm
  refine QJ.step (y_call Try.call53 rfl (RetG.quiet fun w hw => ok_i_isTyped h6 w )) rfl ?_
  refine QJ.step (YldS.yld (y_not rfl)) rfl ?_
  refine QJ.step (YldS.yld (y_move rfl)) rfl ?_
  obtain ⟨t7, h8, hm⟩ := bindS hm
  refine QJ.cut 4 [(0, str want1), (1, v3), (20, .bool t7)] ?_ ?_
  · rcases Bool.eq_false_or_eq_true (!r5) with hb9 | hb9
    · obtain rfl := orT h8 hb9
      refine QJ.off rfl rfl (cB hb9) rfl rfl ?_
      refine QJ.off rfl rfl (cB hb9) rfl rfl ?_
      refine QJ.off rfl rfl (cB hb9) rfl rfl ?_
      refine QJ.step (YldS.yld (y_pick_t (cB hb9) rfl)) rfl ?_
      exact QJ.cut_end ⟨rfl, rfl, rfl, trivial⟩
    · replace h8 := orF h8 hb9
      refine QJ.on rfl rfl (cB hb9) (YldS.yld (y_move rfl)) rfl ?_
      refine QJ.on rfl rfl (cB hb9) (YldS.yld (y_lenS Try.runUnderlying63 hr4 rfl)) rfl ?_
      refine QJ.on rfl rfl (cB hb9) (YldS.yld (y_bin rfl rfl rfl)) rfl ?_
      refine QJ.step (YldS.yld (y_pick_f (cB hb9) rfl)) rfl ?_
      obtain rfl := Option.some.inj h8
      exact QJ.cut_end ⟨rfl, rfl, rfl, trivial⟩
  refine QJ.done ?_
  refine PJ.next ?_
  refine WJ.cond (t := t7) rfl (fun hb10 => ?_) (fun hb10 => ?_)
  · replace hm := ifT hm hb10
    refine WJ.seq ?_
    refine WJ.quiet ?_
    refine QJ.step (YldS.yld (y_assign rfl)) rfl ?_
    refine QJ.step (YldS.yld (y_assign rfl)) rfl ?_
    refine QJ.done ?_
    refine PJ.next ?_
    refine WJ.ret ?_
    refine PJ.then_ret ?_
    obtain rfl := Option.some.inj hm
    refine PJ.sel (L' := []) [] ⟨List.nodup_nil, rfl⟩ ?_
    exact PJ.retn (vs := [.int .i64 0, .int .i64 2]) Try.results41 ⟨rfl, rfl, trivial⟩ ⟨rfl, rfl⟩
  · replace hm := ifF hm hb10
    refine WJ.skip ?_
    refine PJ.next ?_
    obtain ⟨kj11, hk12, hm⟩ := withK_open hm
    refine WJ.join (X := Unit) (fun (_ : Unit) => kj11  = some r) (fun (_ : Unit) => [(0, str want1), (1, v3)]) (fun (_ : Unit) => []) ?_ ?_
    · clear hk12
      refine WJ.seq ?_
      refine WJ.quiet ?_
      refine QJ.step (YldS.yld (y_move rfl)) rfl ?_
      refine QJ.step (YldS.yld (y_lenS Try.runUnderlying63 hr4 rfl)) rfl ?_
      refine QJ.step (YldS.yld (y_move rfl)) rfl ?_
      refine QJ.done ?_
      refine PJ.next ?_
      refine WJ.block ?_
      refine WJ.sel (L' := (fun (x : Int) => []) 0) [] ⟨List.nodup_nil, rfl⟩ ?_
      refine WJ.sub (m' := (fun (x : Int) => [(0, str want1), (1, v3), (21, v3), (22, .int .i64 (List.length tries2 : Int)), (23, .int .i64 x)]) 0) ⟨rfl, rfl, rfl, rfl, rfl, trivial⟩ ?_
      refine WJ.loop (X := Int) (fun N (x : Int) => i_BestTry_l1 kj11 tries2 N x = some r) (fun (x : Int) => [(0, str want1), (1, v3), (21, v3), (22, .int .i64 (List.length tries2 : Int)), (23, .int .i64 x)]) (fun (x : Int) => []) ?_ N 0 hm
      · rintro N x13 hI
        have hm := hI; clear hI
        cases N with
        | zero => cases hm
        | succ N =>
        unfold i_BestTry_l1 at hm
        refine WJ.seq ?_
        refine WJ.quiet ?_
        refine QJ.step (YldS.yld (y_bin rfl rfl rfl)) rfl ?_
        refine QJ.done ?_
        refine PJ.next ?_
        refine WJ.seq ?_
        refine WJ.cond (t := decide (x13 < (List.length tries2 : Int))) rfl (fun hb14 => ?_) (fun hb14 => ?_)
        · replace hm := ifT hm hb14
          refine WJ.skip ?_
          refine PJ.next ?_
          refine WJ.seq ?_
          refine WJ.block ?_
          refine WJ.seq ?_
          refine WJ.quiet ?_
          obtain ⟨e15, h16, hm⟩ := bindS hm
          obtain ⟨ad17, _, rfl, ha18, hy19⟩ := hr4.elem h16
          refine QJ.step (YldS.yld (hy19 Try.runUnderlying63 Try.sizeOf9 rfl rfl)) rfl ?_
          refine QJ.step (YldS.yld (y_load1 (v := str e15) Try.isAgg9 ha18 St.frozenC rfl)) rfl ?_
          refine QJ.step (YldS.yld (y_assign rfl)) rfl ?_
          refine QJ.done ?_
          refine PJ.next ?_
          refine WJ.seq ?_
          refine WJ.quiet ?_
          refine QJ.step (YldS.yld (y_move rfl)) rfl ?_
          obtain ⟨r20, h21, hm⟩ := bindS hm
          refine QJ.step (y_call Try.call53 rfl (RetG.quiet fun w hw => ok_i_isTyped h21 w )) rfl ?_
          refine QJ.step (YldS.yld (y_not rfl)) rfl ?_
          refine QJ.done ?_
          refine PJ.next ?_
          refine WJ.cond (t := !r20) rfl (fun hb22 => ?_) (fun hb22 => ?_)
          · replace hm := ifT hm hb22
            refine WJ.seq ?_
            refine WJ.quiet ?_
            refine QJ.step (YldS.yld (y_assign rfl)) rfl ?_
            refine QJ.step (YldS.yld (y_assign rfl)) rfl ?_
            refine QJ.done ?_
            refine PJ.next ?_
            refine WJ.ret ?_
            refine PJ.block_ret (PJ.then_ret (PJ.then_ret (PJ.block_ret (PJ.then_ret ?_))))
            obtain rfl := Option.some.inj hm
            refine PJ.sel (L' := []) [] ⟨List.nodup_nil, rfl⟩ ?_
            exact PJ.retn (vs := [.int .i64 0, .int .i64 2]) Try.results41 ⟨rfl, rfl, trivial⟩ ⟨rfl, rfl⟩
          · replace hm := ifF hm hb22
            refine WJ.skip ?_
            refine PJ.block_normal (PJ.next ?_)
            refine WJ.quiet ?_
            refine QJ.step (YldS.yld (y_bin rfl rfl rfl)) rfl ?_
            refine QJ.step (YldS.yld (y_move rfl)) rfl ?_
            refine QJ.done ?_
            exact PJ.round (w64 (x13 + 1)) [] hm ⟨rfl, rfl, rfl, rfl, rfl, trivial⟩ ⟨List.nodup_nil, rfl⟩
        · replace hm := ifF hm hb14
          refine WJ.exit ?_
          refine PJ.then_exit (PJ.then_exit (PJ.block_exit ?_))
          exact PJ.joined () [] hm ⟨rfl, rfl, trivial⟩ ⟨List.nodup_nil, rfl⟩
    · rintro _ hm
      subst hk12
      refine WJ.seq ?_
      refine WJ.quiet ?_
      refine QJ.step (YldS.yld (y_assign rfl)) rfl ?_
      refine QJ.step (YldS.yld (y_assign rfl)) rfl ?_
      refine QJ.done ?_
      refine PJ.next ?_
      obtain ⟨kj24, hk25, hm⟩ := withK_open hm
      refine WJ.join (X := Int) (fun (x : Int) => kj24 x = some r) (fun (x : Int) => [(8, .int .i64 x)]) (fun (x : Int) => []) ?_ ?_
      · clear hk25
        refine WJ.seq ?_
        refine WJ.quiet ?_
        refine QJ.step (YldS.yld (y_move rfl)) rfl ?_
        refine QJ.step (YldS.yld (y_lenS Try.runUnderlying63 hr4 rfl)) rfl ?_
        refine QJ.step (YldS.yld (y_move rfl)) rfl ?_
        refine QJ.done ?_
        refine PJ.next ?_
        refine WJ.block ?_
        refine WJ.sel (L' := (fun (x : Int × Int × Int) => []) ((-1), 0, 0)) [] ⟨List.nodup_nil, rfl⟩ ?_
        refine WJ.sub (m' := (fun (x : Int × Int × Int) => [(0, str want1), (8, .int .i64 x.1), (9, .int .i64 x.2.1), (31, v3), (32, .int .i64 (List.length tries2 : Int)), (33, .int .i64 x.2.2)]) ((-1), 0, 0)) ⟨rfl, rfl, rfl, rfl, rfl, rfl, trivial⟩ ?_
        refine WJ.loop (X := Int × Int × Int) (fun N (x : Int × Int × Int) => i_BestTry_l2 kj24 want1 tries2 N x.1 x.2.1 x.2.2 = some r) (fun (x : Int × Int × Int) => [(0, str want1), (8, .int .i64 x.1), (9, .int .i64 x.2.1), (31, v3), (32, .int .i64 (List.length tries2 : Int)), (33, .int .i64 x.2.2)]) (fun (x : Int × Int × Int) => []) ?_ N ((-1), 0, 0) hm
        · rintro N ⟨best26, least27, x28⟩ hI
          have hm := hI; clear hI
          cases N with
          | zero => cases hm
          | succ N =>
          unfold i_BestTry_l2 at hm
          refine WJ.seq ?_
          refine WJ.quiet ?_
          refine QJ.step (YldS.yld (y_bin rfl rfl rfl)) rfl ?_
          refine QJ.done ?_
          refine PJ.next ?_
          refine WJ.seq ?_
          refine WJ.cond (t := decide (x28 < (List.length tries2 : Int))) rfl (fun hb29 => ?_) (fun hb29 => ?_)
          · replace hm := ifT hm hb29
            refine WJ.skip ?_
            refine PJ.next ?_
            obtain ⟨kj32, hk33, hm⟩ := withK_open hm
            refine WJ.join (X := Int × Int) (fun (x : Int × Int) => kj32 x.1 x.2 = some r) (fun (x : Int × Int) => [(0, str want1), (8, .int .i64 x.1), (9, .int .i64 x.2), (31, v3), (32, .int .i64 (List.length tries2 : Int)), (33, .int .i64 x28)]) (fun (x : Int × Int) => []) ?_ ?_
            · clear hk33
              refine WJ.block ?_
              refine WJ.seq ?_
              refine WJ.quiet ?_
              refine QJ.step (YldS.yld (y_move rfl)) rfl ?_
              obtain ⟨e34, h35, hm⟩ := bindS hm
              obtain ⟨ad36, _, rfl, ha37, hy38⟩ := hr4.elem h35
              refine QJ.step (YldS.yld (hy38 Try.runUnderlying63 Try.sizeOf9 rfl rfl)) rfl ?_
              refine QJ.step (YldS.yld (y_load1 (v := str e34) Try.isAgg9 ha37 St.frozenC rfl)) rfl ?_
              refine QJ.step (YldS.yld (y_assign rfl)) rfl ?_
              refine QJ.step (YldS.yld (y_assign rfl)) rfl ?_
              refine QJ.done ?_
              refine PJ.next ?_
              refine WJ.seq ?_
              refine WJ.reg ?_
              refine SJ.q (YldS.yld (y_move rfl)) rfl ?_
              refine SJ.q (YldS.yld (y_move rfl)) rfl ?_
              obtain ⟨r39, h40, hm⟩ := bindS hm
              refine SJ.call Try.call57 rfl (fun w hw => ok_i_leastFrom h40 w ) rfl ?_
              rintro v41 _ ⟨_, vs42, rfl, rfl⟩
              refine SJ.inn_len 1 rfl fun hl43 => ?_
              obtain ⟨e44, h45, hm⟩ := bindS hm
              obtain ⟨y46, hy47⟩ := inn_idx hl43 h45
              refine SJ.q (YldS.yld (y_ixRow (k := 0) (R := fRaw1) rfl Try.runUnderlying82 Try.sizeOf81 rfl rfl hy47)) rfl ?_
              refine SJ.q (YldS.yld (y_loadR (k := 0) (i := (Int.toNat 0)) (off := 0) rfl Try.isAgg81 rfl (idx_get hy47) (raw_get y46))) rfl ?_
              obtain ⟨e48, h49, hm⟩ := bindS hm
              refine SJ.q (YldS.yld (y_ixG (R := fI64) (fun w hw => (hw.inn_rd (k := 1) rfl rfl hy47 h45)) Try.runUnderlying81 Try.sizeOf3 rfl rfl h49)) rfl ?_
              refine SJ.q (YldS.yld (y_loadG (R := fI64) (i := (Int.toNat 0)) (off := 0) (fun w hw => (hw.inn_rd (k := 1) rfl rfl hy47 h45)) Try.isAgg3 rfl (idx_get h49) rfl)) rfl ?_
              refine SJ.q (YldS.yld (y_assign rfl)) rfl ?_
              refine SJ.nil ?_
              refine PJ.next ?_
              refine WJ.seq ?_
              refine WJ.quiet ?_
              refine QJ.step (YldS.yld (y_move rfl)) rfl ?_
              refine QJ.step (YldS.yld (y_bin rfl rfl rfl)) rfl ?_
              refine QJ.step (YldS.yld (y_move rfl)) rfl ?_
              obtain ⟨t50, h51, hm⟩ := bindS hm
              refine QJ.cut 4 [(0, str want1), (8, .int .i64 best26), (9, .int .i64 least27), (10, .int .i64 x28), (12, .int .i64 e48), (31, v3), (32, .int .i64 (List.length tries2 : Int)), (33, .int .i64 x28), (51, .bool t50)] ?_ ?_
              · rcases Bool.eq_false_or_eq_true (decide (best26 < 0)) with hb52 | hb52
                · obtain rfl := orT h51 hb52
                  refine QJ.off rfl rfl (cB hb52) rfl rfl ?_
                  refine QJ.off rfl rfl (cB hb52) rfl rfl ?_
                  refine QJ.off rfl rfl (cB hb52) rfl rfl ?_
                  refine QJ.step (YldS.yld (y_pick_t (cB hb52) rfl)) rfl ?_
                  exact QJ.cut_end ⟨rfl, rfl, rfl, rfl, rfl, rfl, rfl, rfl, rfl, trivial⟩
                · replace h51 := orF h51 hb52
                  refine QJ.on rfl rfl (cB hb52) (YldS.yld (y_move rfl)) rfl ?_
                  refine QJ.on rfl rfl (cB hb52) (YldS.yld (y_move rfl)) rfl ?_
                  refine QJ.on rfl rfl (cB hb52) (YldS.yld (y_bin rfl rfl rfl)) rfl ?_
                  refine QJ.step (YldS.yld (y_pick_f (cB hb52) rfl)) rfl ?_
                  obtain rfl := Option.some.inj h51
                  exact QJ.cut_end ⟨rfl, rfl, rfl, rfl, rfl, rfl, rfl, rfl, rfl, trivial⟩
              refine QJ.done ?_
              refine PJ.next ?_
              refine WJ.cond (t := t50) rfl (fun hb53 => ?_) (fun hb53 => ?_)
              · replace hm := ifT hm hb53
                refine WJ.quiet ?_
                refine QJ.step (YldS.yld (y_move rfl)) rfl ?_
                refine QJ.step (YldS.yld (y_move rfl)) rfl ?_
                refine QJ.step (YldS.yld (y_assign rfl)) rfl ?_
                refine QJ.step (YldS.yld (y_assign rfl)) rfl ?_
                refine QJ.done ?_
                refine PJ.block_normal ?_
                exact PJ.joined (x28, e48) [] hm ⟨rfl, rfl, rfl, rfl, rfl, rfl, trivial⟩ ⟨List.nodup_nil, rfl⟩
              · replace hm := ifF hm hb53
                refine WJ.skip ?_
                refine PJ.block_normal ?_
                exact PJ.joined (best26, least27) [] hm ⟨rfl, rfl, rfl, rfl, rfl, rfl, trivial⟩ ⟨List.nodup_nil, rfl⟩
            · rintro ⟨best30, least31⟩ hm
              subst hk33
              refine WJ.quiet ?_
              refine QJ.step (YldS.yld (y_bin rfl rfl rfl)) rfl ?_
              refine QJ.step (YldS.yld (y_move rfl)) rfl ?_
              refine QJ.done ?_
              exact PJ.round (best30, least31, w64 (x28 + 1)) [] hm ⟨rfl, rfl, rfl, rfl, rfl, rfl, trivial⟩ ⟨List.nodup_nil, rfl⟩
          · replace hm := ifF hm hb29
            refine WJ.exit ?_
            refine PJ.then_exit (PJ.then_exit (PJ.block_exit ?_))
            exact PJ.joined best26 [] hm ⟨rfl, trivial⟩ ⟨List.nodup_nil, rfl⟩
      · rintro best23 hm
        subst hk25
        refine WJ.seq ?_
        refine WJ.seq ?_
        refine WJ.quiet ?_
        refine QJ.step (YldS.yld (y_move rfl)) rfl ?_
        refine QJ.step (YldS.yld (y_bin rfl rfl rfl)) rfl ?_
        refine QJ.done ?_
        refine PJ.next ?_
        refine WJ.cond (t := decide (best23 < 0)) rfl (fun hb54 => ?_) (fun hb54 => ?_)
        · replace hm := ifT hm hb54
          refine WJ.seq ?_
          refine WJ.quiet ?_
          refine QJ.step (YldS.yld (y_assign rfl)) rfl ?_
          refine QJ.step (YldS.yld (y_assign rfl)) rfl ?_
          refine QJ.done ?_
          refine PJ.next ?_
          refine WJ.ret ?_
          refine PJ.then_ret ?_
          obtain rfl := Option.some.inj hm
          refine PJ.sel (L' := []) [] ⟨List.nodup_nil, rfl⟩ ?_
          exact PJ.retn (vs := [.int .i64 0, .int .i64 3]) Try.results41 ⟨rfl, rfl, trivial⟩ ⟨rfl, rfl⟩
        · replace hm := ifF hm hb54
          refine WJ.skip ?_
          refine PJ.next ?_
          refine WJ.seq ?_
          refine WJ.quiet ?_
          refine QJ.step (YldS.yld (y_move rfl)) rfl ?_
          refine QJ.step (YldS.yld (y_assign rfl)) rfl ?_
          refine QJ.step (YldS.yld (y_assign rfl)) rfl ?_
          refine QJ.done ?_
          refine PJ.next ?_
          refine WJ.ret ?_
          obtain rfl := Option.some.inj hm
          refine PJ.sel (L' := []) [] ⟨List.nodup_nil, rfl⟩ ?_
          exact PJ.retn (vs := [.int .i64 best23, .int .i64 0]) Try.results41 ⟨rfl, rfl, trivial⟩ ⟨rfl, rfl⟩

set_option maxRecDepth 100000 in
set_option maxHeartbeats 1000000 in
theorem ok_w_FnAlignments {N : Nat} {code1 : List UInt8} {more4 : List UInt8} {r : Bool} (hm : w_FnAlignments N code1 more4 = some r) (w : World) (v2 : Value) (hr3 : RdS w (cx w).Fz v2 fByte.rp code1) (v5 : Value) (hr6 : RdS w (cx w).Fz v5 fByte.rp more4) :
    Calls Try.prog 6 #[v2, v5] w (Ret (cx w) (.bool r)) := by
  unfold w_FnAlignments at hm
  refine Calls.enter [v2, v5] Try.func6 rfl Try.ntmps6 rfl ?_
  refine WJ.seq ?_
  refine WJ.quiet ?_
  refine QJ.step (YldS.yld (y_assign rfl)) rfl ?_
  refine QJ.done ?_
  refine PJ.next ?_
  refine WJ.seq ?_
  refine WJ.seq ?_
  refine WJ.quiet ?_
  refine QJ.step (YldS.yld (y_move rfl)) rfl ?_
  refine QJ.step (YldS.yld (y_move rfl)) rfl ?_
  obtain ⟨r7, h8, hm⟩ := bindS hm
  refine QJ.step (y_call Try.call7 rfl (RetG.quiet fun w hw => ok_w_a2Long h8 w _ (hr3.st hw) _ (hr6.st hw))) rfl ?_
  refine QJ.done ?_
  refine PJ.next ?_
  refine WJ.cond (t := r7) rfl (fun hb9 => ?_) (fun hb9 => ?_)
  · replace hm := ifT hm hb9
    refine WJ.seq ?_
    refine WJ.quiet ?_
    refine QJ.step (YldS.yld (y_assign rfl)) rfl ?_
    refine QJ.done ?_
    refine PJ.next ?_
    refine WJ.ret ?_
    refine PJ.then_ret ?_
    obtain rfl := Option.some.inj hm
    refine PJ.sel (L' := []) [] ⟨List.nodup_nil, rfl⟩ ?_
    exact PJ.retn (vs := [.bool true]) Try.results6 ⟨rfl, trivial⟩ ⟨rfl, rfl⟩
  · replace hm := ifF hm hb9
    refine WJ.skip ?_
    refine PJ.next ?_
    refine WJ.seq ?_
    refine WJ.quiet ?_
    refine QJ.step (YldS.yld (y_move rfl)) rfl ?_
    obtain ⟨r10, h11, hm⟩ := bindS hm
    refine QJ.step (y_call Try.call15 rfl (RetG.quiet fun w hw => ok_s_A2Typed h11 w _ (hr3.st hw))) rfl ?_
    refine QJ.step (YldS.yld (y_move rfl)) rfl ?_
    refine QJ.step (YldS.yld (y_extract rfl rfl)) rfl ?_
    refine QJ.step (YldS.yld (y_extract rfl rfl)) rfl ?_
    refine QJ.step (YldS.yld (y_assign rfl)) rfl ?_
    refine QJ.step (YldS.yld (y_assign rfl)) rfl ?_
    refine QJ.done ?_
    refine PJ.next ?_
    refine WJ.seq ?_
    refine WJ.quiet ?_
    refine QJ.step (YldS.yld (y_move rfl)) rfl ?_
    refine QJ.step (YldS.yld (y_move rfl)) rfl ?_
    obtain ⟨r12, h13, hm⟩ := bindS hm
    refine QJ.step (y_call Try.call38 rfl (RetG.quiet fun w hw => ok_i_LeastErrors h13 w )) rfl ?_
    refine QJ.step (YldS.yld (y_move rfl)) rfl ?_
    refine QJ.step (YldS.yld (y_extract rfl rfl)) rfl ?_
    refine QJ.step (YldS.yld (y_extract rfl rfl)) rfl ?_
    refine QJ.step (YldS.yld (y_assign rfl)) rfl ?_
    refine QJ.step (YldS.yld (y_assign rfl)) rfl ?_
    refine QJ.done ?_
    refine PJ.next ?_
    refine WJ.seq ?_
    refine WJ.quiet ?_
    refine QJ.step (YldS.yld (y_move rfl)) rfl ?_
    refine QJ.step (YldS.yld (y_move rfl)) rfl ?_
    obtain ⟨r14, h15, hm⟩ := bindS hm
    refine QJ.step (y_call Try.call38 rfl (RetG.quiet fun w hw => ok_i_LeastErrors h15 w )) rfl ?_
    refine QJ.step (YldS.yld (y_move rfl)) rfl ?_
    refine QJ.step (YldS.yld (y_extract rfl rfl)) rfl ?_
    refine QJ.step (YldS.yld (y_extract rfl rfl)) rfl ?_
    refine QJ.step (YldS.yld (y_assign rfl)) rfl ?_
    refine QJ.step (YldS.yld (y_assign rfl)) rfl ?_
    refine QJ.done ?_
    refine PJ.next ?_
    refine WJ.seq ?_
    refine WJ.quiet ?_
    refine QJ.step (YldS.yld (y_move rfl)) rfl ?_
    refine QJ.step (YldS.yld (y_move rfl)) rfl ?_
    obtain ⟨r16, h17, hm⟩ := bindS hm
    refine QJ.step (y_call Try.call39 rfl (RetG.quiet fun w hw => ok_i_AlignTexts h17 w )) rfl ?_
    refine QJ.step (YldS.yld (y_move rfl)) rfl ?_
    refine QJ.step (YldS.yld (y_extract rfl rfl)) rfl ?_
    refine QJ.step (YldS.yld (y_extract rfl rfl)) rfl ?_
    refine QJ.step (YldS.yld (y_assign rfl)) rfl ?_
    refine QJ.step (YldS.yld (y_assign rfl)) rfl ?_
    refine QJ.done ?_
    refine PJ.next ?_
    refine WJ.seq ?_
    refine WJ.seq ?_
    refine WJ.quiet ?_
    refine QJ.step (YldS.yld (y_move rfl)) rfl ?_
    refine QJ.step (YldS.yld (y_bin rfl rfl rfl)) rfl ?_
    refine QJ.step (YldS.yld (y_move rfl)) rfl ?_
    obtain ⟨t18, h19, hm⟩ := bindS hm
    refine QJ.cut 3 [(1, v5), (5, str r10.1), (6, str r10.2), (7, .int .i64 r12.1), (9, .int .i64 r14.1), (11, str r16.1), (12, .int .i64 r16.2), (58, .bool t18)] ?_ ?_
    · rcases Bool.eq_false_or_eq_true (r12.2 != 0) with hb20 | hb20
      · obtain rfl := orT h19 hb20
        refine QJ.off rfl rfl (cB hb20) rfl rfl ?_
        refine QJ.off rfl rfl (cB hb20) rfl rfl ?_
        refine QJ.step (YldS.yld (y_pick_t (cB hb20) rfl)) rfl ?_
        exact QJ.cut_end ⟨rfl, rfl, rfl, rfl, rfl, rfl, rfl, rfl, trivial⟩
      · replace h19 := orF h19 hb20
        refine QJ.on rfl rfl (cB hb20) (YldS.yld (y_move rfl)) rfl ?_
        refine QJ.on rfl rfl (cB hb20) (YldS.yld (y_bin rfl rfl rfl)) rfl ?_
        refine QJ.step (YldS.yld (y_pick_f (cB hb20) rfl)) rfl ?_
        obtain rfl := Option.some.inj h19
        exact QJ.cut_end ⟨rfl, rfl, rfl, rfl, rfl, rfl, rfl, rfl, trivial⟩
    refine QJ.step (YldS.yld (y_move rfl)) rfl ?_
    obtain ⟨t21, h22, hm⟩ := bindS hm
    refine QJ.cut 4 [(1, v5), (5, str r10.1), (6, str r10.2), (7, .int .i64 r12.1), (11, str r16.1), (12, .int .i64 r16.2), (63, .bool t21)] ?_ ?_
    · rcases Bool.eq_false_or_eq_true t18 with hb23 | hb23
      · obtain rfl := orT h22 hb23
        refine QJ.off rfl rfl (cB hb23) rfl rfl ?_
        refine QJ.off rfl rfl (cB hb23) rfl rfl ?_
        refine QJ.off rfl rfl (cB hb23) rfl rfl ?_
        refine QJ.step (YldS.yld (y_pick_t (cB hb23) rfl)) rfl ?_
        exact QJ.cut_end ⟨rfl, rfl, rfl, rfl, rfl, rfl, rfl, trivial⟩
      · replace h22 := orF h22 hb23
        refine QJ.on rfl rfl (cB hb23) (YldS.yld (y_move rfl)) rfl ?_
        refine QJ.on rfl rfl (cB hb23) (YldS.yld (y_move rfl)) rfl ?_
        refine QJ.on rfl rfl (cB hb23) (YldS.yld (y_bin rfl rfl rfl)) rfl ?_
        refine QJ.step (YldS.yld (y_pick_f (cB hb23) rfl)) rfl ?_
        obtain rfl := Option.some.inj h22
        exact QJ.cut_end ⟨rfl, rfl, rfl, rfl, rfl, rfl, rfl, trivial⟩
    refine QJ.step (YldS.yld (y_move rfl)) rfl ?_
    obtain ⟨t24, h25, hm⟩ := bindS hm
    refine QJ.cut 3 [(1, v5), (5, str r10.1), (6, str r10.2), (7, .int .i64 r12.1), (11, str r16.1), (67, .bool t24)] ?_ ?_
    · rcases Bool.eq_false_or_eq_true t21 with hb26 | hb26
      · obtain rfl := orT h25 hb26
        refine QJ.off rfl rfl (cB hb26) rfl rfl ?_
        refine QJ.off rfl rfl (cB hb26) rfl rfl ?_
        refine QJ.step (YldS.yld (y_pick_t (cB hb26) rfl)) rfl ?_
        exact QJ.cut_end ⟨rfl, rfl, rfl, rfl, rfl, rfl, trivial⟩
      · replace h25 := orF h25 hb26
        refine QJ.on rfl rfl (cB hb26) (YldS.yld (y_move rfl)) rfl ?_
        refine QJ.on rfl rfl (cB hb26) (YldS.yld (y_bin rfl rfl rfl)) rfl ?_
        refine QJ.step (YldS.yld (y_pick_f (cB hb26) rfl)) rfl ?_
        obtain rfl := Option.some.inj h25
        exact QJ.cut_end ⟨rfl, rfl, rfl, rfl, rfl, rfl, trivial⟩
    refine QJ.step (YldS.yld (y_move rfl)) rfl ?_
    obtain ⟨t27, h28, hm⟩ := bindS hm
    refine QJ.cut 7 [(1, v5), (5, str r10.1), (6, str r10.2), (7, .int .i64 r12.1), (11, str r16.1), (75, .bool t27)] ?_ ?_
    · rcases Bool.eq_false_or_eq_true t24 with hb29 | hb29
      · obtain rfl := orT h28 hb29
        refine QJ.off rfl rfl (cB hb29) rfl rfl ?_
        refine QJ.off rfl rfl (cB hb29) rfl rfl ?_
        refine QJ.off rfl rfl (cB hb29) rfl rfl ?_
        refine QJ.off rfl rfl (cB hb29) rfl rfl ?_
        refine QJ.off rfl rfl (cB hb29) rfl rfl ?_
        refine QJ.off rfl rfl (cB hb29) rfl rfl ?_
        refine QJ.step (YldS.yld (y_pick_t (cB hb29) rfl)) rfl ?_
        exact QJ.cut_end ⟨rfl, rfl, rfl, rfl, rfl, rfl, trivial⟩
      · replace h28 := orF h28 hb29
        refine QJ.on rfl rfl (cB hb29) (YldS.yld (y_move rfl)) rfl ?_
        refine QJ.on rfl rfl (cB hb29) (YldS.yld (y_bin rfl rfl rfl)) rfl ?_
        refine QJ.on rfl rfl (cB hb29) (YldS.yld (y_move rfl)) rfl ?_
        refine QJ.on rfl rfl (cB hb29) (YldS.yld (y_move rfl)) rfl ?_
        refine QJ.on rfl rfl (cB hb29) (YldS.yld (y_binS rfl rfl rfl)) rfl ?_
        refine QJ.on rfl rfl (cB hb29) (YldS.yld (y_neB Try.underlying4 rfl rfl rfl)) rfl ?_
        refine QJ.step (YldS.yld (y_pick_f (cB hb29) rfl)) rfl ?_
        obtain rfl := Option.some.inj h28
        exact QJ.cut_end ⟨rfl, rfl, rfl, rfl, rfl, rfl, trivial⟩
    refine QJ.step (YldS.yld (y_move rfl)) rfl ?_
    obtain ⟨t30, h31, hm⟩ := bindS hm
    refine QJ.cut 4 [(1, v5), (5, str r10.1), (6, str r10.2), (7, .int .i64 r12.1), (11, str r16.1), (80, .bool t30)] ?_ ?_
    · rcases Bool.eq_false_or_eq_true t27 with hb32 | hb32
      · obtain rfl := orT h31 hb32
        refine QJ.off rfl rfl (cB hb32) rfl rfl ?_
        refine QJ.off rfl rfl (cB hb32) rfl rfl ?_
        refine QJ.off rfl rfl (cB hb32) rfl rfl ?_
        refine QJ.step (YldS.yld (y_pick_t (cB hb32) rfl)) rfl ?_
        exact QJ.cut_end ⟨rfl, rfl, rfl, rfl, rfl, rfl, trivial⟩
      · replace h31 := orF h31 hb32
        refine QJ.on rfl rfl (cB hb32) (YldS.yld (y_move rfl)) rfl ?_
        refine QJ.on rfl rfl (cB hb32) (YldS.yld (y_lenStr Try.runUnderlying9 rfl)) rfl ?_
        refine QJ.on rfl rfl (cB hb32) (YldS.yld (y_bin rfl rfl rfl)) rfl ?_
        refine QJ.step (YldS.yld (y_pick_f (cB hb32) rfl)) rfl ?_
        obtain rfl := Option.some.inj h31
        exact QJ.cut_end ⟨rfl, rfl, rfl, rfl, rfl, rfl, trivial⟩
    refine QJ.done ?_
    refine PJ.next ?_
    refine WJ.cond (t := t30) rfl (fun hb33 => ?_) (fun hb33 => ?_)
    · replace hm := ifT hm hb33
      refine WJ.seq ?_
      refine WJ.quiet ?_
      refine QJ.step (YldS.yld (y_assign rfl)) rfl ?_
      refine QJ.done ?_
      refine PJ.next ?_
      refine WJ.ret ?_
      refine PJ.then_ret ?_
      obtain rfl := Option.some.inj hm
      refine PJ.sel (L' := []) [] ⟨List.nodup_nil, rfl⟩ ?_
      exact PJ.retn (vs := [.bool false]) Try.results6 ⟨rfl, trivial⟩ ⟨rfl, rfl⟩
    · replace hm := ifF hm hb33
      refine WJ.skip ?_
      refine PJ.next ?_
      refine WJ.seq ?_
      refine WJ.quiet ?_
      refine QJ.step (YldS.yld (y_assign rfl)) rfl ?_
      refine QJ.done ?_
      refine PJ.next ?_
      refine WJ.seq ?_
      refine WJ.quiet ?_
      refine QJ.step (YldS.yld (y_assign rfl)) rfl ?_
      refine QJ.done ?_
      refine PJ.next ?_
      obtain ⟨kj35, hk36, hm⟩ := withK_open hm
      refine WJ.join (X := Str) (fun (x : Str) => kj35 x = some r) (fun (x : Str) => [(1, v5), (5, str r10.1), (6, str r10.2), (7, .int .i64 r12.1), (11, str r16.1), (13, str x)]) (fun (x : Str) => []) ?_ ?_
      · clear hk36
        refine WJ.seq ?_
        refine WJ.quiet ?_
        refine QJ.step (YldS.yld (y_assign rfl)) rfl ?_
        refine QJ.done ?_
        refine PJ.next ?_
        refine WJ.block ?_
        refine WJ.sel (L' := (fun (x : Str × Int × Int) => []) ([], 0, 0)) [] ⟨List.nodup_nil, rfl⟩ ?_
        refine WJ.sub (m' := (fun (x : Str × Int × Int) => [(1, v5), (5, str r10.1), (6, str r10.2), (7, .int .i64 r12.1), (11, str r16.1), (13, str x.1), (14, .int .i64 x.2.1), (15, .int .i64 x.2.2)]) ([], 0, 0)) ⟨rfl, rfl, rfl, rfl, rfl, rfl, rfl, rfl, trivial⟩ ?_
        refine WJ.loop (X := Str × Int × Int) (fun N (x : Str × Int × Int) => w_FnAlignments_l1 kj35 r10 r16 N x.1 x.2.1 x.2.2 = some r) (fun (x : Str × Int × Int) => [(1, v5), (5, str r10.1), (6, str r10.2), (7, .int .i64 r12.1), (11, str r16.1), (13, str x.1), (14, .int .i64 x.2.1), (15, .int .i64 x.2.2)]) (fun (x : Str × Int × Int) => []) ?_ N ([], 0, 0) hm
        · rintro N ⟨extra37, at38, i39⟩ hI
          have hm := hI; clear hI
          cases N with
          | zero => cases hm
          | succ N =>
          unfold w_FnAlignments_l1 at hm
          refine WJ.seq ?_
          refine WJ.seq ?_
          refine WJ.quiet ?_
          refine QJ.step (YldS.yld (y_move rfl)) rfl ?_
          refine QJ.step (YldS.yld (y_move rfl)) rfl ?_
          refine QJ.step (YldS.yld (y_lenStr Try.runUnderlying9 rfl)) rfl ?_
          refine QJ.step (YldS.yld (y_bin rfl rfl rfl)) rfl ?_
          refine QJ.done ?_
          refine PJ.next ?_
          refine WJ.cond (t := decide (i39 < (List.length r16.1 : Int))) rfl (fun hb40 => ?_) (fun hb40 => ?_)
          · replace hm := ifT hm hb40
            refine WJ.skip ?_
            refine PJ.next ?_
            obtain ⟨kj43, hk44, hm⟩ := withK_open hm
            refine WJ.join (X := Str × Int) (fun (x : Str × Int) => kj43 x.1 x.2 = some r) (fun (x : Str × Int) => [(1, v5), (5, str r10.1), (6, str r10.2), (7, .int .i64 r12.1), (11, str r16.1), (13, str x.1), (14, .int .i64 x.2), (15, .int .i64 i39)]) (fun (x : Str × Int) => []) ?_ ?_
            · clear hk44
              refine WJ.block ?_
              refine WJ.seq ?_
              refine WJ.seq ?_
              refine WJ.quiet ?_
              refine QJ.step (YldS.yld (y_move rfl)) rfl ?_
              refine QJ.step (YldS.yld (y_move rfl)) rfl ?_
              refine QJ.step (YldS.yld (y_lenStr Try.runUnderlying9 rfl)) rfl ?_
              refine QJ.step (YldS.yld (y_bin rfl rfl rfl)) rfl ?_
              refine QJ.step (YldS.yld (y_move rfl)) rfl ?_
              obtain ⟨t45, h46, hm⟩ := bindS hm
              refine QJ.cut 5 [(1, v5), (5, str r10.1), (6, str r10.2), (7, .int .i64 r12.1), (11, str r16.1), (13, str extra37), (14, .int .i64 at38), (15, .int .i64 i39), (96, .bool t45)] ?_ ?_
              · rcases Bool.eq_false_or_eq_true (decide (at38 ≥ (List.length r10.2 : Int))) with hb47 | hb47
                · replace h46 := andT h46 hb47
                  refine QJ.on rfl rfl (cB hb47) (YldS.yld (y_move rfl)) rfl ?_
                  refine QJ.on rfl rfl (cB hb47) (YldS.yld (y_move rfl)) rfl ?_
                  obtain ⟨c48, h49, h46⟩ := bindS h46
                  refine QJ.on rfl rfl (cB hb47) (YldS.yld (y_idxStr Try.runUnderlying9 rfl rfl h49)) rfl ?_
                  refine QJ.on rfl rfl (cB hb47) (YldS.yld (y_bin8 c48 (45 : UInt8) rfl rfl rfl)) rfl ?_
                  refine QJ.step (YldS.yld (y_pick_t (cB hb47) rfl)) rfl ?_
                  obtain rfl := Option.some.inj h46
                  exact QJ.cut_end ⟨rfl, rfl, rfl, rfl, rfl, rfl, rfl, rfl, rfl, trivial⟩
                · obtain rfl := andF h46 hb47
                  refine QJ.off rfl rfl (cB hb47) rfl rfl ?_
                  refine QJ.off rfl rfl (cB hb47) rfl rfl ?_
                  refine QJ.off rfl rfl (cB hb47) rfl rfl ?_
                  refine QJ.off rfl rfl (cB hb47) rfl rfl ?_
                  refine QJ.step (YldS.yld (y_pick_f (cB hb47) rfl)) rfl ?_
                  exact QJ.cut_end ⟨rfl, rfl, rfl, rfl, rfl, rfl, rfl, rfl, rfl, trivial⟩
              refine QJ.done ?_
              refine PJ.next ?_
              refine WJ.cond (t := t45) rfl (fun hb50 => ?_) (fun hb50 => ?_)
              · replace hm := ifT hm hb50
                refine WJ.seq ?_
                refine WJ.quiet ?_
                refine QJ.step (YldS.yld (y_assign rfl)) rfl ?_
                refine QJ.done ?_
                refine PJ.next ?_
                refine WJ.ret ?_
                refine PJ.then_ret (PJ.block_ret (PJ.then_ret (PJ.then_ret (PJ.block_ret (PJ.then_ret ?_)))))
                obtain rfl := Option.some.inj hm
                refine PJ.sel (L' := []) [] ⟨List.nodup_nil, rfl⟩ ?_
                exact PJ.retn (vs := [.bool false]) Try.results6 ⟨rfl, trivial⟩ ⟨rfl, rfl⟩
              · replace hm := ifF hm hb50
                refine WJ.skip ?_
                refine PJ.next ?_
                refine WJ.seq ?_
                refine WJ.quiet ?_
                refine QJ.step (YldS.yld (y_move rfl)) rfl ?_
                refine QJ.step (YldS.yld (y_move rfl)) rfl ?_
                obtain ⟨c51, h52, hm⟩ := bindS hm
                refine QJ.step (YldS.yld (y_idxStr Try.runUnderlying9 rfl rfl h52)) rfl ?_
                refine QJ.done ?_
                refine PJ.next ?_
                refine WJ.block ?_
                obtain ⟨kj54, hk55, hm⟩ := withK_open hm
                refine WJ.join (X := Bool) (fun (x : Bool) => kj54 x = some r) (fun (x : Bool) => [(1, v5), (5, str r10.1), (6, str r10.2), (7, .int .i64 r12.1), (11, str r16.1), (13, str extra37), (14, .int .i64 at38), (15, .int .i64 i39), (99, .int .u8 (UInt8.toNat c51 : Int)), (100, .bool x)]) (fun (x : Bool) => []) ?_ ?_
                · clear hk55
                  refine WJ.seq ?_
                  refine WJ.quiet ?_
                  refine QJ.step (YldS.yld (y_bin8 c51 (43 : UInt8) rfl rfl rfl)) rfl ?_
                  refine QJ.step (YldS.yld (y_assign rfl)) rfl ?_
                  refine QJ.done ?_
                  refine PJ.next ?_
                  refine WJ.cond (t := (c51 == (43 : UInt8))) rfl (fun hb56 => ?_) (fun hb56 => ?_)
                  · replace hm := ifT hm hb56
                    refine WJ.skip ?_
                    exact PJ.joined (c51 == (43 : UInt8)) [] hm ⟨rfl, rfl, rfl, rfl, rfl, rfl, rfl, rfl, rfl, rfl, trivial⟩ ⟨List.nodup_nil, rfl⟩
                  · replace hm := ifF hm hb56
                    refine WJ.quiet ?_
                    refine QJ.step (YldS.yld (y_bin8 c51 (120 : UInt8) rfl rfl rfl)) rfl ?_
                    refine QJ.step (YldS.yld (y_assign rfl)) rfl ?_
                    refine QJ.done ?_
                    exact PJ.joined (c51 == (120 : UInt8)) [] hm ⟨rfl, rfl, rfl, rfl, rfl, rfl, rfl, rfl, rfl, rfl, trivial⟩ ⟨List.nodup_nil, rfl⟩
                · rintro x53 hm
                  subst hk55
                  refine WJ.cond (t := x53) rfl (fun hb57 => ?_) (fun hb57 => ?_)
                  · replace hm := ifT hm hb57
                    refine WJ.seq ?_
                    refine WJ.quiet ?_
                    refine QJ.step (YldS.yld (y_move rfl)) rfl ?_
                    refine QJ.step (YldS.yld (y_move rfl)) rfl ?_
                    refine QJ.step (YldS.yld (y_move rfl)) rfl ?_
                    refine QJ.step (YldS.yld (y_move rfl)) rfl ?_
                    refine QJ.step (YldS.yld (y_bin rfl rfl rfl)) rfl ?_
                    obtain ⟨s58, h59, hm⟩ := bindS hm
                    refine QJ.step (YldS.yld (y_subStr (i := some at38) (j := some (w64 (at38 + 1))) h59 Try.runUnderlying9 rfl ⟨_, rfl⟩ ⟨_, rfl⟩)) rfl ?_
                    obtain ⟨s60, h61, hm⟩ := bindS hm
                    refine QJ.step (YldS.yld (y_cat h61 rfl rfl)) rfl ?_
                    refine QJ.step (YldS.yld (y_assign rfl)) rfl ?_
                    refine QJ.done ?_
                    refine PJ.next ?_
                    refine WJ.quiet ?_
                    refine QJ.step (YldS.yld (y_move rfl)) rfl ?_
                    refine QJ.step (YldS.yld (y_bin rfl rfl rfl)) rfl ?_
                    refine QJ.step (YldS.yld (y_assign rfl)) rfl ?_
                    refine QJ.done ?_
                    refine PJ.block_normal (PJ.block_normal ?_)
                    exact PJ.joined (s60, w64 (at38 + 1)) [] hm ⟨rfl, rfl, rfl, rfl, rfl, rfl, rfl, rfl, trivial⟩ ⟨List.nodup_nil, rfl⟩
                  · replace hm := ifF hm hb57
                    refine WJ.seq ?_
                    refine WJ.quiet ?_
                    refine QJ.step (YldS.yld (y_bin8 c51 (61 : UInt8) rfl rfl rfl)) rfl ?_
                    refine QJ.step (YldS.yld (y_assign rfl)) rfl ?_
                    refine QJ.done ?_
                    refine PJ.next ?_
                    refine WJ.cond (t := (c51 == (61 : UInt8))) rfl (fun hb62 => ?_) (fun hb62 => ?_)
                    · replace hm := ifT hm hb62
                      refine WJ.quiet ?_
                      refine QJ.step (YldS.yld (y_move rfl)) rfl ?_
                      refine QJ.step (YldS.yld (y_bin rfl rfl rfl)) rfl ?_
                      refine QJ.step (YldS.yld (y_assign rfl)) rfl ?_
                      refine QJ.done ?_
                      refine PJ.block_normal (PJ.block_normal ?_)
                      exact PJ.joined (extra37, w64 (at38 + 1)) [] hm ⟨rfl, rfl, rfl, rfl, rfl, rfl, rfl, rfl, trivial⟩ ⟨List.nodup_nil, rfl⟩
                    · replace hm := ifF hm hb62
                      refine WJ.seq ?_
                      refine WJ.quiet ?_
                      refine QJ.step (YldS.yld (y_bin8 c51 (126 : UInt8) rfl rfl rfl)) rfl ?_
                      refine QJ.step (YldS.yld (y_assign rfl)) rfl ?_
                      refine QJ.done ?_
                      refine PJ.next ?_
                      refine WJ.cond (t := (c51 == (126 : UInt8))) rfl (fun hb63 => ?_) (fun hb63 => ?_)
                      · replace hm := ifT hm hb63
                        refine WJ.quiet ?_
                        refine QJ.step (YldS.yld (y_move rfl)) rfl ?_
                        refine QJ.step (YldS.yld (y_bin rfl rfl rfl)) rfl ?_
                        refine QJ.step (YldS.yld (y_assign rfl)) rfl ?_
                        refine QJ.done ?_
                        refine PJ.block_normal (PJ.block_normal ?_)
                        exact PJ.joined (extra37, w64 (at38 + 2)) [] hm ⟨rfl, rfl, rfl, rfl, rfl, rfl, rfl, rfl, trivial⟩ ⟨List.nodup_nil, rfl⟩
                      · replace hm := ifF hm hb63
                        refine WJ.skip ?_
                        refine PJ.block_normal (PJ.block_normal ?_)
                        exact PJ.joined (extra37, at38) [] hm ⟨rfl, rfl, rfl, rfl, rfl, rfl, rfl, rfl, trivial⟩ ⟨List.nodup_nil, rfl⟩
            · rintro ⟨extra41, at42⟩ hm
              subst hk44
              refine WJ.quiet ?_
              refine QJ.step (YldS.yld (y_move rfl)) rfl ?_
              refine QJ.step (YldS.yld (y_bin rfl rfl rfl)) rfl ?_
              refine QJ.step (YldS.yld (y_assign rfl)) rfl ?_
              refine QJ.done ?_
              exact PJ.round (extra41, at42, w64 (i39 + 1)) [] hm ⟨rfl, rfl, rfl, rfl, rfl, rfl, rfl, rfl, trivial⟩ ⟨List.nodup_nil, rfl⟩
          · replace hm := ifF hm hb40
            refine WJ.exit ?_
            refine PJ.then_exit (PJ.then_exit (PJ.block_exit ?_))
            exact PJ.joined extra37 [] hm ⟨rfl, rfl, rfl, rfl, rfl, rfl, trivial⟩ ⟨List.nodup_nil, rfl⟩
      · rintro extra34 hm
        subst hk36
        refine WJ.seq ?_
        refine WJ.quiet ?_
        refine QJ.step (YldS.yld (y_move rfl)) rfl ?_
        refine QJ.step (YldS.yld (y_move rfl)) rfl ?_
        refine QJ.step (YldS.yld (y_move rfl)) rfl ?_
        obtain ⟨r64, h65, hm⟩ := bindS hm
        refine QJ.step (y_call Try.call40 rfl (RetG.quiet fun w hw => ok_i_TypedFrom h65 w )) rfl ?_
        refine QJ.step (YldS.yld (y_move rfl)) rfl ?_
        refine QJ.step (YldS.yld (y_extract rfl rfl)) rfl ?_
        refine QJ.step (YldS.yld (y_extract rfl rfl)) rfl ?_
        refine QJ.step (YldS.yld (y_assign rfl)) rfl ?_
        refine QJ.step (YldS.yld (y_assign rfl)) rfl ?_
        refine QJ.done ?_
        refine PJ.next ?_
        refine WJ.seq ?_
        refine WJ.seq ?_
        refine WJ.quiet ?_
        refine QJ.step (YldS.yld (y_move rfl)) rfl ?_
        refine QJ.step (YldS.yld (y_bin rfl rfl rfl)) rfl ?_
        refine QJ.step (YldS.yld (y_move rfl)) rfl ?_
        obtain ⟨t66, h67, hm⟩ := bindS hm
        refine QJ.cut 4 [(1, v5), (5, str r10.1), (6, str r10.2), (7, .int .i64 r12.1), (133, .bool t66)] ?_ ?_
        · rcases Bool.eq_false_or_eq_true (r64.2 != 0) with hb68 | hb68
          · obtain rfl := orT h67 hb68
            refine QJ.off rfl rfl (cB hb68) rfl rfl ?_
            refine QJ.off rfl rfl (cB hb68) rfl rfl ?_
            refine QJ.off rfl rfl (cB hb68) rfl rfl ?_
            refine QJ.step (YldS.yld (y_pick_t (cB hb68) rfl)) rfl ?_
            exact QJ.cut_end ⟨rfl, rfl, rfl, rfl, rfl, trivial⟩
          · replace h67 := orF h67 hb68
            refine QJ.on rfl rfl (cB hb68) (YldS.yld (y_move rfl)) rfl ?_
            refine QJ.on rfl rfl (cB hb68) (YldS.yld (y_move rfl)) rfl ?_
            refine QJ.on rfl rfl (cB hb68) (YldS.yld (y_binS rfl rfl rfl)) rfl ?_
            refine QJ.step (YldS.yld (y_pick_f (cB hb68) rfl)) rfl ?_
            obtain rfl := Option.some.inj h67
            exact QJ.cut_end ⟨rfl, rfl, rfl, rfl, rfl, trivial⟩
        refine QJ.done ?_
        refine PJ.next ?_
        refine WJ.cond (t := t66) rfl (fun hb69 => ?_) (fun hb69 => ?_)
        · replace hm := ifT hm hb69
          refine WJ.seq ?_
          refine WJ.quiet ?_
          refine QJ.step (YldS.yld (y_assign rfl)) rfl ?_
          refine QJ.done ?_
          refine PJ.next ?_
          refine WJ.ret ?_
          refine PJ.then_ret ?_
          obtain rfl := Option.some.inj hm
          refine PJ.sel (L' := []) [] ⟨List.nodup_nil, rfl⟩ ?_
          exact PJ.retn (vs := [.bool false]) Try.results6 ⟨rfl, trivial⟩ ⟨rfl, rfl⟩
        · replace hm := ifF hm hb69
          refine WJ.skip ?_
          refine PJ.next ?_
          refine WJ.seq ?_
          refine WJ.quiet ?_
          refine QJ.step (YldS.yld (y_move rfl)) rfl ?_
          obtain ⟨s70, h71, hm⟩ := bindS hm
          refine QJ.step (YldS.yld (y_cat h71 rfl rfl)) rfl ?_
          refine QJ.step (YldS.yld (y_assign rfl)) rfl ?_
          refine QJ.done ?_
          refine PJ.next ?_
          refine WJ.seq ?_
          refine WJ.quiet ?_
          refine QJ.step (YldS.yld (y_move rfl)) rfl ?_
          refine QJ.step (YldS.yld (y_move rfl)) rfl ?_
          obtain ⟨r72, h73, hm⟩ := bindS hm
          refine QJ.step (y_call Try.call38 rfl (RetG.quiet fun w hw => ok_i_LeastErrors h73 w )) rfl ?_
          refine QJ.step (YldS.yld (y_move rfl)) rfl ?_
          refine QJ.step (YldS.yld (y_extract rfl rfl)) rfl ?_
          refine QJ.step (YldS.yld (y_extract rfl rfl)) rfl ?_
          refine QJ.step (YldS.yld (y_assign rfl)) rfl ?_
          refine QJ.step (YldS.yld (y_assign rfl)) rfl ?_
          refine QJ.done ?_
          refine PJ.next ?_
          refine WJ.seq ?_
          refine WJ.quiet ?_
          refine QJ.step (YldS.yld (y_move rfl)) rfl ?_
          obtain ⟨r74, h75, hm⟩ := bindS hm
          refine QJ.step (y_call Try.call15 rfl (RetG.quiet fun w hw => ok_s_A2Typed h75 w _ (hr6.st hw))) rfl ?_
          refine QJ.step (YldS.yld (y_move rfl)) rfl ?_
          refine QJ.step (YldS.yld (y_extract rfl rfl)) rfl ?_
          refine QJ.step (YldS.yld (y_extract rfl rfl)) rfl ?_
          refine QJ.step (YldS.yld (y_assign rfl)) rfl ?_
          refine QJ.step (YldS.yld (y_assign rfl)) rfl ?_
          refine QJ.done ?_
          refine PJ.next ?_
          refine WJ.seq ?_
          refine WJ.quiet ?_
          refine QJ.step (YldS.yld (y_move rfl)) rfl ?_
          refine QJ.step (YldS.yld (y_move rfl)) rfl ?_
          obtain ⟨r76, h77, hm⟩ := bindS hm
          refine QJ.step (y_call Try.call38 rfl (RetG.quiet fun w hw => ok_i_LeastErrors h77 w )) rfl ?_
          refine QJ.step (YldS.yld (y_move rfl)) rfl ?_
          refine QJ.step (YldS.yld (y_extract rfl rfl)) rfl ?_
          refine QJ.step (YldS.yld (y_extract rfl rfl)) rfl ?_
          refine QJ.step (YldS.yld (y_assign rfl)) rfl ?_
          refine QJ.step (YldS.yld (y_assign rfl)) rfl ?_
          refine QJ.done ?_
          refine PJ.next ?_
          refine WJ.seq ?_
          refine WJ.reg ?_
          refine SJ.q (YldS.yld (y_move rfl)) rfl ?_
          refine SJ.q (YldS.yld (y_move rfl)) rfl ?_
          refine SJ.q (YldS.yld (y_move rfl)) rfl ?_
          refine SJ.buildSlice (R := fStr) (os := [.tmp 155, .tmp 156]) [r74.1, r10.2] Try.runUnderlying63 Try.sizeOf9 Try.zeroValue9 rfl rfl rfl rfl rfl rfl fun v78 => ?_
          obtain ⟨r79, h80, hm⟩ := bindS hm
          refine SJ.q (y_call Try.call41 rfl (RetG.quiet fun w hw => ok_i_BestTry h80 w _ (hw.row_rd (k := 0) rfl))) rfl ?_
          refine SJ.q (YldS.yld (y_move rfl)) rfl ?_
          refine SJ.q (YldS.yld (y_extract rfl rfl)) rfl ?_
          refine SJ.q (YldS.yld (y_extract rfl rfl)) rfl ?_
          refine SJ.q (YldS.yld (y_assign rfl)) rfl ?_
          refine SJ.q (YldS.yld (y_assign rfl)) rfl ?_
          refine SJ.nil ?_
          refine PJ.next ?_
          refine WJ.seq ?_
          refine WJ.quiet ?_
          refine QJ.step (YldS.yld (y_move rfl)) rfl ?_
          refine QJ.step (YldS.yld (y_bin rfl rfl rfl)) rfl ?_
          refine QJ.step (YldS.yld (y_move rfl)) rfl ?_
          obtain ⟨t81, h82, hm⟩ := bindS hm
          refine QJ.cut 5 [(7, .int .i64 r12.1), (19, .int .i64 r72.1), (23, .int .i64 r76.1), (24, .int .i64 r76.2), (25, .int .i64 r79.1), (26, .int .i64 r79.2), (168, .bool t81)] ?_ ?_
          · rcases Bool.eq_false_or_eq_true (r72.2 == 0) with hb83 | hb83
            · replace h82 := andT h82 hb83
              refine QJ.on rfl rfl (cB hb83) (YldS.yld (y_move rfl)) rfl ?_
              refine QJ.on rfl rfl (cB hb83) (YldS.yld (y_move rfl)) rfl ?_
              refine QJ.on rfl rfl (cB hb83) (YldS.yld (y_bin rfl rfl rfl)) rfl ?_
              refine QJ.on rfl rfl (cB hb83) (YldS.yld (y_bin rfl rfl rfl)) rfl ?_
              refine QJ.step (YldS.yld (y_pick_t (cB hb83) rfl)) rfl ?_
              obtain rfl := Option.some.inj h82
              exact QJ.cut_end ⟨rfl, rfl, rfl, rfl, rfl, rfl, rfl, trivial⟩
            · obtain rfl := andF h82 hb83
              refine QJ.off rfl rfl (cB hb83) rfl rfl ?_
              refine QJ.off rfl rfl (cB hb83) rfl rfl ?_
              refine QJ.off rfl rfl (cB hb83) rfl rfl ?_
              refine QJ.off rfl rfl (cB hb83) rfl rfl ?_
              refine QJ.step (YldS.yld (y_pick_f (cB hb83) rfl)) rfl ?_
              exact QJ.cut_end ⟨rfl, rfl, rfl, rfl, rfl, rfl, rfl, trivial⟩
          refine QJ.step (YldS.yld (y_move rfl)) rfl ?_
          obtain ⟨t84, h85, hm⟩ := bindS hm
          refine QJ.cut 5 [(7, .int .i64 r12.1), (23, .int .i64 r76.1), (24, .int .i64 r76.2), (25, .int .i64 r79.1), (26, .int .i64 r79.2), (174, .bool t84)] ?_ ?_
          · rcases Bool.eq_false_or_eq_true t81 with hb86 | hb86
            · replace h85 := andT h85 hb86
              refine QJ.on rfl rfl (cB hb86) (YldS.yld (y_move rfl)) rfl ?_
              refine QJ.on rfl rfl (cB hb86) (YldS.yld (y_move rfl)) rfl ?_
              refine QJ.on rfl rfl (cB hb86) (YldS.yld (y_bin rfl rfl rfl)) rfl ?_
              refine QJ.on rfl rfl (cB hb86) (YldS.yld (y_bin rfl rfl rfl)) rfl ?_
              refine QJ.step (YldS.yld (y_pick_t (cB hb86) rfl)) rfl ?_
              obtain rfl := Option.some.inj h85
              exact QJ.cut_end ⟨rfl, rfl, rfl, rfl, rfl, rfl, trivial⟩
            · obtain rfl := andF h85 hb86
              refine QJ.off rfl rfl (cB hb86) rfl rfl ?_
              refine QJ.off rfl rfl (cB hb86) rfl rfl ?_
              refine QJ.off rfl rfl (cB hb86) rfl rfl ?_
              refine QJ.off rfl rfl (cB hb86) rfl rfl ?_
              refine QJ.step (YldS.yld (y_pick_f (cB hb86) rfl)) rfl ?_
              exact QJ.cut_end ⟨rfl, rfl, rfl, rfl, rfl, rfl, trivial⟩
          refine QJ.step (YldS.yld (y_move rfl)) rfl ?_
          obtain ⟨t87, h88, hm⟩ := bindS hm
          refine QJ.cut 3 [(7, .int .i64 r12.1), (23, .int .i64 r76.1), (25, .int .i64 r79.1), (26, .int .i64 r79.2), (178, .bool t87)] ?_ ?_
          · rcases Bool.eq_false_or_eq_true t84 with hb89 | hb89
            · replace h88 := andT h88 hb89
              refine QJ.on rfl rfl (cB hb89) (YldS.yld (y_move rfl)) rfl ?_
              refine QJ.on rfl rfl (cB hb89) (YldS.yld (y_bin rfl rfl rfl)) rfl ?_
              refine QJ.step (YldS.yld (y_pick_t (cB hb89) rfl)) rfl ?_
              obtain rfl := Option.some.inj h88
              exact QJ.cut_end ⟨rfl, rfl, rfl, rfl, rfl, trivial⟩
            · obtain rfl := andF h88 hb89
              refine QJ.off rfl rfl (cB hb89) rfl rfl ?_
              refine QJ.off rfl rfl (cB hb89) rfl rfl ?_
              refine QJ.step (YldS.yld (y_pick_f (cB hb89) rfl)) rfl ?_
              exact QJ.cut_end ⟨rfl, rfl, rfl, rfl, rfl, trivial⟩
          refine QJ.step (YldS.yld (y_move rfl)) rfl ?_
          obtain ⟨t90, h91, hm⟩ := bindS hm
          refine QJ.cut 3 [(7, .int .i64 r12.1), (23, .int .i64 r76.1), (25, .int .i64 r79.1), (182, .bool t90)] ?_ ?_
          · rcases Bool.eq_false_or_eq_true t87 with hb92 | hb92
            · replace h91 := andT h91 hb92
              refine QJ.on rfl rfl (cB hb92) (YldS.yld (y_move rfl)) rfl ?_
              refine QJ.on rfl rfl (cB hb92) (YldS.yld (y_bin rfl rfl rfl)) rfl ?_
              refine QJ.step (YldS.yld (y_pick_t (cB hb92) rfl)) rfl ?_
              obtain rfl := Option.some.inj h91
              exact QJ.cut_end ⟨rfl, rfl, rfl, rfl, trivial⟩
            · obtain rfl := andF h91 hb92
              refine QJ.off rfl rfl (cB hb92) rfl rfl ?_
              refine QJ.off rfl rfl (cB hb92) rfl rfl ?_
              refine QJ.step (YldS.yld (y_pick_f (cB hb92) rfl)) rfl ?_
              exact QJ.cut_end ⟨rfl, rfl, rfl, rfl, trivial⟩
          refine QJ.step (YldS.yld (y_move rfl)) rfl ?_
          obtain ⟨t93, h94, hm⟩ := bindS hm
          refine QJ.cut 7 [(25, .int .i64 r79.1), (190, .bool t93)] ?_ ?_
          · rcases Bool.eq_false_or_eq_true t90 with hb95 | hb95
            · replace h94 := andT h94 hb95
              refine QJ.on rfl rfl (cB hb95) (YldS.yld (y_move rfl)) rfl ?_
              refine QJ.on rfl rfl (cB hb95) (YldS.yld (y_bin rfl rfl rfl)) rfl ?_
              refine QJ.on rfl rfl (cB hb95) (YldS.yld (y_move rfl)) rfl ?_
              refine QJ.on rfl rfl (cB hb95) (YldS.yld (y_move rfl)) rfl ?_
              refine QJ.on rfl rfl (cB hb95) (YldS.yld (y_bin rfl rfl rfl)) rfl ?_
              refine QJ.on rfl rfl (cB hb95) (YldS.yld (y_eqB Try.underlying4 rfl rfl rfl)) rfl ?_
              refine QJ.step (YldS.yld (y_pick_t (cB hb95) rfl)) rfl ?_
              obtain rfl := Option.some.inj h94
              exact QJ.cut_end ⟨rfl, rfl, trivial⟩
            · obtain rfl := andF h94 hb95
              refine QJ.off rfl rfl (cB hb95) rfl rfl ?_
              refine QJ.off rfl rfl (cB hb95) rfl rfl ?_
              refine QJ.off rfl rfl (cB hb95) rfl rfl ?_
              refine QJ.off rfl rfl (cB hb95) rfl rfl ?_
              refine QJ.off rfl rfl (cB hb95) rfl rfl ?_
              refine QJ.off rfl rfl (cB hb95) rfl rfl ?_
              refine QJ.step (YldS.yld (y_pick_f (cB hb95) rfl)) rfl ?_
              exact QJ.cut_end ⟨rfl, rfl, trivial⟩
          refine QJ.step (YldS.yld (y_move rfl)) rfl ?_
          obtain ⟨t96, h97, hm⟩ := bindS hm
          refine QJ.cut 7 [(198, .bool t96)] ?_ ?_
          · rcases Bool.eq_false_or_eq_true t93 with hb98 | hb98
            · replace h97 := andT h97 hb98
              refine QJ.on rfl rfl (cB hb98) (YldS.yld (y_move rfl)) rfl ?_
              refine QJ.on rfl rfl (cB hb98) (YldS.yld (y_bin rfl rfl rfl)) rfl ?_
              refine QJ.on rfl rfl (cB hb98) (YldS.yld (y_move rfl)) rfl ?_
              obtain ⟨t99, h100, h97⟩ := bindS h97
              refine QJ.cut 3 [(191, .bool t93), (197, .bool t99)] ?_ ?_
              · rcases Bool.eq_false_or_eq_true (r79.1 == 0) with hb101 | hb101
                · obtain rfl := orT h100 hb101
                  refine QJ.off rfl rfl (cB hb101) rfl rfl ?_
                  refine QJ.off rfl rfl (cB hb101) rfl rfl ?_
                  refine QJ.on rfl rfl (cB hb98) (YldS.yld (y_pick_t (cB hb101) rfl)) rfl ?_
                  exact QJ.cut_end ⟨rfl, rfl, trivial⟩
                · replace h100 := orF h100 hb101
                  refine QJ.on rfl rfl (cB hb101) (YldS.yld (y_move rfl)) rfl ?_
                  refine QJ.on rfl rfl (cB hb101) (YldS.yld (y_bin rfl rfl rfl)) rfl ?_
                  refine QJ.on rfl rfl (cB hb98) (YldS.yld (y_pick_f (cB hb101) rfl)) rfl ?_
                  obtain rfl := Option.some.inj h100
                  exact QJ.cut_end ⟨rfl, rfl, trivial⟩
              refine QJ.step (YldS.yld (y_pick_t (cB hb98) rfl)) rfl ?_
              obtain rfl := Option.some.inj h97
              exact QJ.cut_end ⟨rfl, trivial⟩
            · obtain rfl := andF h97 hb98
              refine QJ.off rfl rfl (cB hb98) rfl rfl ?_
              refine QJ.off rfl rfl (cB hb98) rfl rfl ?_
              refine QJ.off rfl rfl (cB hb98) rfl rfl ?_
              refine QJ.off_undef rfl rfl rfl rfl ?_
              refine QJ.off_undef rfl rfl rfl rfl ?_
              refine QJ.off rfl rfl (cB hb98) rfl rfl ?_
              refine QJ.step (YldS.yld (y_pick_f (cB hb98) rfl)) rfl ?_
              exact QJ.cut_end ⟨rfl, trivial⟩
          refine QJ.step (YldS.yld (y_assign rfl)) rfl ?_
          refine QJ.done ?_
          refine PJ.next ?_
          refine WJ.ret ?_
          obtain rfl := Option.some.inj hm
          refine PJ.sel (L' := []) [] ⟨List.nodup_nil, rfl⟩ ?_
          exact PJ.retn (vs := [.bool t96]) Try.results6 ⟨rfl, trivial⟩ ⟨rfl, rfl⟩

end Go.Proofs.Ytcegcmoeimjioaa
