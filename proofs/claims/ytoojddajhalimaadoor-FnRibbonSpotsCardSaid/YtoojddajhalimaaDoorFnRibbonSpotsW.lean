/-
  The walks: a call hands back what its plain function computes, where that has a value. No other conditions.
-/
import Derived.Test.YtoojddajhalimaaDoorFnRibbonSpotsM
import Derived.Test.YtoojddajhalimaaDoorChecked
import Derived.Test.YtoojddajhalimaaDoorRows
import Derived.Test.YtoojddajhalimaaDoorFnRibbonSpotsS
namespace Go.Proofs.YtoojddajhalimaaDoor
open Go.RowKit Go.Proofs
set_option linter.unusedVariables false
set_option linter.unusedSimpArgs false

def tabNm : String := (Rows.fnRibbonSpotsRow.laid.map (fun x => x.1)).getD 2 default

theorem follows : Tryd.prog.follows .mixedOrders = true := by kernel_rfl

def Ribbon.enc (x : Ribbon) : List Value := [.int .i64 x.spots, .int .i64 x.ink, .int .i64 x.takes]
def fRibbon : FRp Ribbon := ⟨3, Ribbon.enc, fun _ => rfl, by decide, fun x u hu => by
  simp only [Ribbon.enc, List.mem_cons, List.not_mem_nil, or_false] at hu
  rcases hu with rfl | rfl | rfl <;> rfl⟩

theorem pl75 : PlacesOk Tryd.prog 75 [(0, 1), (1, 1), (2, 1)] := ⟨_, Tryd.runUnderlying75, fun w => by simp [Tryd.sizeOf3, Tryd.sizeOf22, Tryd.sizeOf73]⟩
theorem fld75_1 : FieldOk Tryd.prog 75 1 1 3 0 := ⟨_, _, Tryd.runUnderlying75, rfl, rfl, rfl, Tryd.sizeOf3⟩
theorem fld75_0 : FieldOk Tryd.prog 75 0 0 22 0 := ⟨_, _, Tryd.runUnderlying75, rfl, rfl, rfl, Tryd.sizeOf22⟩
theorem fld75_2 : FieldOk Tryd.prog 75 2 2 73 0 := ⟨_, _, Tryd.runUnderlying75, rfl, rfl, rfl, Tryd.sizeOf73⟩
theorem pl25 : PlacesOk Tryd.prog 25 [(0, 1), (1, 1), (2, 1)] := ⟨_, Tryd.runUnderlying25, fun w => by simp [Tryd.sizeOf2]⟩
theorem fld25_1 : FieldOk Tryd.prog 25 1 1 2 0 := ⟨_, _, Tryd.runUnderlying25, rfl, rfl, rfl, Tryd.sizeOf2⟩
theorem fld25_2 : FieldOk Tryd.prog 25 2 2 2 0 := ⟨_, _, Tryd.runUnderlying25, rfl, rfl, rfl, Tryd.sizeOf2⟩
theorem fld25_0 : FieldOk Tryd.prog 25 0 0 2 0 := ⟨_, _, Tryd.runUnderlying25, rfl, rfl, rfl, Tryd.sizeOf2⟩
set_option maxRecDepth 100000 in
theorem el2 : ElemOk Tryd.prog 2 1 (fI64.enc 0) := ⟨_, _, Tryd.type2, rfl, rfl, rfl, by decide⟩
set_option maxRecDepth 100000 in
theorem el5 : ElemOk Tryd.prog 5 1 (fByte.enc 0) := ⟨_, _, Tryd.type5, rfl, rfl, rfl, by decide⟩

set_option maxRecDepth 100000 in
set_option maxHeartbeats 1000000 in
theorem ok_w_f6big {code1 : List UInt8} {r : Bool} (hm : w_f6big code1 = some r) (w : World) (v2 : Value) (hr3 : RdS w (cx w).Fz v2 fByte.rp code1) :
    Calls Tryd.prog 5 #[v2] w (Ret (cx w) (.bool r)) := by
  unfold w_f6big at hm
  refine Calls.enter [v2] Tryd.func5 rfl Tryd.ntmps5 rfl ?_
  refine WJ.seq ?_
  refine WJ.quiet ?_
  refine QJ.step (YldS.yld (y_assign rfl)) rfl ?_
  refine QJ.done ?_
  refine PJ.next ?_
  refine WJ.seq ?_
  refine WJ.quiet ?_
  refine QJ.step (YldS.yld (y_move rfl)) rfl ?_
  refine QJ.step (YldS.yld (y_lenS Tryd.runUnderlying22 hr3 rfl)) rfl ?_
  refine QJ.step (YldS.yld (y_bin rfl rfl rfl)) rfl ?_
  refine QJ.step (YldS.yld (y_assign rfl)) rfl ?_
  refine QJ.done ?_
  refine PJ.next ?_
  refine WJ.ret ?_
  obtain rfl := Option.some.inj hm
  refine PJ.sel (L' := []) [] ⟨List.nodup_nil, rfl⟩ ?_
  exact PJ.retn (vs := [.bool (decide ((List.length code1 : Int) > 4096))]) Tryd.results5 ⟨rfl, trivial⟩ ⟨rfl, rfl⟩

set_option maxRecDepth 100000 in
set_option maxHeartbeats 1000000 in
theorem ok_s_l00From {code1 : List UInt8} {r : L00Src} (hm : s_l00From code1 = some r) (w : World) (v2 : Value) (hr3 : RdS w (cx w).Fz v2 fByte.rp code1) :
    Calls Tryd.prog 43 #[v2] w (RetG (cx w) fun u L => ∃ (u1 : Nat), (u = pt u1 0 ∧ L = [box u1 75 [v2, .int .i64 r.at_, .int .u64 r.seed]])) := by
  unfold s_l00From at hm
  refine Calls.enter [v2] Tryd.func43 rfl Tryd.ntmps43 rfl ?_
  refine WJ.seq ?_
  refine WJ.quiet ?_
  refine QJ.step (YldS.yld (y_assign rfl)) rfl ?_
  refine QJ.done ?_
  refine PJ.next ?_
  refine WJ.seq ?_
  refine WJ.reg ?_
  refine SJ.q (YldS.yld (y_move rfl)) rfl ?_
  refine SJ.q (YldS.yld (y_build (parts := [(0, .tmp 3)]) (places := [(0, 1), (1, 1), (2, 1)]) (r := [v2, .int .i64 0, .int .u64 0]) pl75 Tryd.zeroValue75 rfl rfl (show _ = [(0, [v2])] from by simp only [List.map, RdS.cells1 hr3]) rfl)) rfl ?_
  refine SJ.box (cs := [v2, .int .i64 0, .int .u64 0]) rfl rfl rfl fun g4 => ?_
  refine SJ.q (YldS.yld (y_assign rfl)) rfl ?_
  refine SJ.nil ?_
  refine PJ.next ?_
  refine WJ.ret ?_
  obtain rfl := Option.some.inj hm
  refine PJ.sel (L' := [box g4 75 [v2, .int .i64 0, .int .u64 0]]) [0] ⟨by decide, rfl⟩ ?_
  exact PJ.retn (vs := [pt g4 0]) Tryd.results43 ⟨rfl, trivial⟩ ⟨_, rfl, rfl⟩

set_option maxRecDepth 100000 in
set_option maxHeartbeats 1000000 in
theorem ok_s_l00Src_next {s1 : L00Src} {g2 : Nat} {r : Int × L00Src} (hm : s_l00Src_next s1 = some r) (w : World) (S : Nat → Prop) (v3 : Value) (hr4 : RdS w (Cx.Fz ⟨w, S⟩) v3 fByte.rp s1.code) (hA : (box g2 75 [v3, .int .i64 s1.at_, .int .u64 s1.seed]).holds w S) :
    Calls Tryd.prog 65 #[pt g2 0] w (RetG ⟨w, S⟩ fun u L => (u = .int .i64 r.1 ∧ L = [box g2 75 [v3, .int .i64 r.2.at_, .int .u64 r.2.seed]])) := by
  unfold s_l00Src_next at hm
  refine Calls.enter1 hA [pt g2 0] Tryd.func65 rfl Tryd.ntmps65 rfl ?_
  refine WJ.seq ?_
  refine WJ.quiet ?_
  refine QJ.step (YldS.yld (y_assign rfl)) rfl ?_
  refine QJ.done ?_
  refine PJ.next ?_
  refine WJ.seq ?_
  refine WJ.quiet ?_
  refine QJ.step (YldS.yld (y_assign rfl)) rfl ?_
  refine QJ.done ?_
  refine PJ.next ?_
  obtain ⟨kj6, hk7, hm⟩ := withK_open hm
  refine WJ.join (X := Int) (fun (x : Int) => kj6 x = some r) (fun (x : Int) => [(0, pt g2 0), (3, .int .i64 x)]) (fun (x : Int) => [box g2 75 [v3, .int .i64 s1.at_, .int .u64 s1.seed]]) ?_ ?_
  · clear hk7
    refine WJ.seq ?_
    refine WJ.quiet_draw follows (by kernel_rfl) ?_
    refine QJ.step (YldS.yld (y_move rfl)) rfl ?_
    refine QJ.step (YldS.yld (y_nil rfl)) rfl ?_
    refine QJ.step (YldS.yld (y_fldB (o := 0) fld75_1 rfl)) rfl ?_
    refine QJ.step (YldS.yld (y_loadB (k := 0) (off := 1) (v := .int .i64 s1.at_) rfl Tryd.isAgg3 rfl rfl)) rfl ?_
    refine QJ.step (YldS.yld (y_move rfl)) rfl ?_
    refine QJ.step (YldS.yld (y_nil rfl)) rfl ?_
    refine QJ.step (YldS.yld (y_fldB (o := 0) fld75_0 rfl)) rfl ?_
    refine QJ.step (YldS.yld (y_loadB (k := 0) (off := 0) (v := v3) rfl Tryd.isAgg22 rfl rfl)) rfl ?_
    refine QJ.step (YldS.yld (y_lenS Tryd.runUnderlying22 hr4 rfl)) rfl ?_
    refine QJ.step (YldS.yld (y_bin rfl rfl rfl)) rfl ?_
    refine QJ.done ?_
    refine PJ.next ?_
    refine WJ.cond (t := decide (s1.at_ < (List.length s1.code : Int))) rfl (fun hb8 => ?_) (fun hb8 => ?_)
    · replace hm := ifT hm hb8
      refine WJ.quiet_draw follows (by kernel_rfl) ?_
      refine QJ.step (YldS.yld (y_move rfl)) rfl ?_
      refine QJ.step (YldS.yld (y_nil rfl)) rfl ?_
      refine QJ.step (YldS.yld (y_fldB (o := 0) fld75_0 rfl)) rfl ?_
      refine QJ.step (YldS.yld (y_loadB (k := 0) (off := 0) (v := v3) rfl Tryd.isAgg22 rfl rfl)) rfl ?_
      refine QJ.step (YldS.yld (y_move rfl)) rfl ?_
      refine QJ.step (YldS.yld (y_nil rfl)) rfl ?_
      refine QJ.step (YldS.yld (y_fldB (o := 0) fld75_1 rfl)) rfl ?_
      refine QJ.step (YldS.yld (y_loadB (k := 0) (off := 1) (v := .int .i64 s1.at_) rfl Tryd.isAgg3 rfl rfl)) rfl ?_
      obtain ⟨e9, h10, hm⟩ := bindS hm
      obtain ⟨ad11, _, rfl, ha12, hy13⟩ := hr4.elem h10
      refine QJ.step (YldS.yld (hy13 Tryd.runUnderlying22 Tryd.sizeOf5 rfl rfl)) rfl ?_
      refine QJ.step (YldS.yld (y_load1 (v := .int .u8 (UInt8.toNat e9 : Int)) Tryd.isAgg5 ha12 St.frozenC rfl)) rfl ?_
      refine QJ.step (YldS.yld (y_conv8 Tryd.runUnderlying5 Tryd.runUnderlying3 rfl)) rfl ?_
      refine QJ.step (YldS.yld (y_assign rfl)) rfl ?_
      refine QJ.done ?_
      exact PJ.joined (UInt8.toNat e9 : Int) [0] hm ⟨rfl, rfl, trivial⟩ ⟨by decide, rfl⟩
    · replace hm := ifF hm hb8
      refine WJ.skip ?_
      exact PJ.joined 0 [0] hm ⟨rfl, rfl, trivial⟩ ⟨by decide, rfl⟩
  · rintro b5 hm
    subst hk7
    refine WJ.seq ?_
    refine WJ.reg ?_
    refine SJ.q (YldS.yld (y_move rfl)) rfl ?_
    refine SJ.q (YldS.yld (y_nil rfl)) rfl ?_
    refine SJ.q (YldS.yld (y_fldB (o := 0) fld75_1 rfl)) rfl ?_
    refine SJ.q (YldS.yld (y_loadB (k := 0) (off := 1) (v := .int .i64 s1.at_) rfl Tryd.isAgg3 rfl rfl)) rfl ?_
    refine SJ.q (YldS.yld (y_bin rfl rfl rfl)) rfl ?_
    refine SJ.q (YldS.yld (y_nil rfl)) rfl ?_
    refine SJ.q (YldS.yld (y_fldB (o := 0) fld75_1 rfl)) rfl ?_
    refine SJ.storeL (k := 0) (off := 1) (us := [.int .i64 (w64 (s1.at_ + 1))]) rfl rfl rfl rfl Tryd.sizeOf3 rfl rfl ?_
    refine SJ.nil ?_
    refine PJ.next ?_
    refine WJ.seq ?_
    refine WJ.reg ?_
    refine SJ.q (YldS.yld (y_move rfl)) rfl ?_
    refine SJ.q (YldS.yld (y_move rfl)) rfl ?_
    refine SJ.q (YldS.yld (y_nil rfl)) rfl ?_
    refine SJ.q (YldS.yld (y_fldB (o := 0) fld75_2 rfl)) rfl ?_
    refine SJ.q (YldS.yld (y_loadB (k := 0) (off := 2) (v := .int .u64 s1.seed) rfl Tryd.isAgg73 rfl rfl)) rfl ?_
    refine SJ.q (YldS.yld (y_bin rfl rfl rfl)) rfl ?_
    refine SJ.q (YldS.yld (y_move rfl)) rfl ?_
    refine SJ.q (YldS.yld (y_convI Tryd.runUnderlying3 Tryd.runUnderlying73 rfl)) rfl ?_
    refine SJ.q (YldS.yld (y_bin rfl rfl rfl)) rfl ?_
    refine SJ.q (YldS.yld (y_bin rfl rfl rfl)) rfl ?_
    refine SJ.q (YldS.yld (y_nil rfl)) rfl ?_
    refine SJ.q (YldS.yld (y_fldB (o := 0) fld75_2 rfl)) rfl ?_
    refine SJ.storeL (k := 0) (off := 2) (us := [.int .u64 (IntKind.u64.wrap ((IntKind.u64.wrap ((IntKind.u64.wrap (s1.seed * 6364136223846793005)) + (IntKind.u64.wrap b5))) + 1442695040888963407))]) rfl rfl rfl rfl Tryd.sizeOf73 rfl rfl ?_
    refine SJ.nil ?_
    refine PJ.next ?_
    refine WJ.seq ?_
    refine WJ.seq ?_
    refine WJ.quiet_draw follows (by kernel_rfl) ?_
    refine QJ.step (YldS.yld (y_move rfl)) rfl ?_
    refine QJ.step (YldS.yld (y_nil rfl)) rfl ?_
    refine QJ.step (YldS.yld (y_fldB (o := 0) fld75_1 rfl)) rfl ?_
    refine QJ.step (YldS.yld (y_loadB (k := 0) (off := 1) (v := .int .i64 (w64 (s1.at_ + 1))) rfl Tryd.isAgg3 rfl rfl)) rfl ?_
    refine QJ.step (YldS.yld (y_move rfl)) rfl ?_
    refine QJ.step (YldS.yld (y_nil rfl)) rfl ?_
    refine QJ.step (YldS.yld (y_fldB (o := 0) fld75_0 rfl)) rfl ?_
    refine QJ.step (YldS.yld (y_loadB (k := 0) (off := 0) (v := v3) rfl Tryd.isAgg22 rfl rfl)) rfl ?_
    refine QJ.step (YldS.yld (y_lenS Tryd.runUnderlying22 hr4 rfl)) rfl ?_
    refine QJ.step (YldS.yld (y_bin rfl rfl rfl)) rfl ?_
    refine QJ.done ?_
    refine PJ.next ?_
    refine WJ.cond (t := decide ((w64 (s1.at_ + 1)) ≤ (List.length s1.code : Int))) rfl (fun hb14 => ?_) (fun hb14 => ?_)
    · replace hm := ifT hm hb14
      refine WJ.seq ?_
      refine WJ.quiet ?_
      refine QJ.step (YldS.yld (y_move rfl)) rfl ?_
      refine QJ.step (YldS.yld (y_assign rfl)) rfl ?_
      refine QJ.done ?_
      refine PJ.next ?_
      refine WJ.ret ?_
      refine PJ.then_ret ?_
      obtain rfl := Option.some.inj hm
      refine PJ.sel (L' := [box g2 75 [v3, .int .i64 (w64 (s1.at_ + 1)), .int .u64 (IntKind.u64.wrap ((IntKind.u64.wrap ((IntKind.u64.wrap (s1.seed * 6364136223846793005)) + (IntKind.u64.wrap b5))) + 1442695040888963407))]]) [0] ⟨by decide, rfl⟩ ?_
      exact PJ.retn (vs := [.int .i64 b5]) Tryd.results65 ⟨rfl, trivial⟩ ⟨rfl, rfl⟩
    · replace hm := ifF hm hb14
      refine WJ.skip ?_
      refine PJ.next ?_
      refine WJ.seq ?_
      refine WJ.quiet ?_
      refine QJ.step (YldS.yld (y_move rfl)) rfl ?_
      refine QJ.step (YldS.yld (y_nil rfl)) rfl ?_
      refine QJ.step (YldS.yld (y_fldB (o := 0) fld75_2 rfl)) rfl ?_
      refine QJ.step (YldS.yld (y_loadB (k := 0) (off := 2) (v := .int .u64 (IntKind.u64.wrap ((IntKind.u64.wrap ((IntKind.u64.wrap (s1.seed * 6364136223846793005)) + (IntKind.u64.wrap b5))) + 1442695040888963407))) rfl Tryd.isAgg73 rfl rfl)) rfl ?_
      refine QJ.step (YldS.yld (y_shru rfl rfl rfl)) rfl ?_
      refine QJ.step (YldS.yld (y_andu rfl rfl rfl)) rfl ?_
      refine QJ.step (YldS.yld (y_convI Tryd.runUnderlying73 Tryd.runUnderlying2 rfl)) rfl ?_
      refine QJ.step (YldS.yld (y_assign rfl)) rfl ?_
      refine QJ.done ?_
      refine PJ.next ?_
      refine WJ.ret ?_
      obtain rfl := Option.some.inj hm
      refine PJ.sel (L' := [box g2 75 [v3, .int .i64 (w64 (s1.at_ + 1)), .int .u64 (IntKind.u64.wrap ((IntKind.u64.wrap ((IntKind.u64.wrap (s1.seed * 6364136223846793005)) + (IntKind.u64.wrap b5))) + 1442695040888963407))]]) [0] ⟨by decide, rfl⟩ ?_
      exact PJ.retn (vs := [.int .i64 (w64 (uand (ushr (IntKind.u64.wrap ((IntKind.u64.wrap ((IntKind.u64.wrap (s1.seed * 6364136223846793005)) + (IntKind.u64.wrap b5))) + 1442695040888963407)) 40) 255))]) Tryd.results65 ⟨rfl, trivial⟩ ⟨rfl, rfl⟩

set_option maxRecDepth 100000 in
set_option maxHeartbeats 1000000 in
theorem ok_s_l00Src_pick {s1 : L00Src} {n5 : Int} {g2 : Nat} {r : Int × L00Src} (hm : s_l00Src_pick s1 n5 = some r) (w : World) (S : Nat → Prop) (v3 : Value) (hr4 : RdS w (Cx.Fz ⟨w, S⟩) v3 fByte.rp s1.code) (hA : (box g2 75 [v3, .int .i64 s1.at_, .int .u64 s1.seed]).holds w S) :
    Calls Tryd.prog 56 #[pt g2 0, .int .i64 n5] w (RetG ⟨w, S⟩ fun u L => (u = .int .i64 r.1 ∧ L = [box g2 75 [v3, .int .i64 r.2.at_, .int .u64 r.2.seed]])) := by
  unfold s_l00Src_pick at hm
  refine Calls.enter1 hA [pt g2 0, .int .i64 n5] Tryd.func56 rfl Tryd.ntmps56 rfl ?_
  refine WJ.seq ?_
  refine WJ.quiet ?_
  refine QJ.step (YldS.yld (y_assign rfl)) rfl ?_
  refine QJ.done ?_
  refine PJ.next ?_
  refine WJ.seq ?_
  refine WJ.seq ?_
  refine WJ.quiet ?_
  refine QJ.step (YldS.yld (y_move rfl)) rfl ?_
  refine QJ.step (YldS.yld (y_bin rfl rfl rfl)) rfl ?_
  refine QJ.done ?_
  refine PJ.next ?_
  refine WJ.cond (t := decide (n5 ≤ 1)) rfl (fun hb6 => ?_) (fun hb6 => ?_)
  · replace hm := ifT hm hb6
    refine WJ.seq ?_
    refine WJ.quiet ?_
    refine QJ.step (YldS.yld (y_assign rfl)) rfl ?_
    refine QJ.done ?_
    refine PJ.next ?_
    refine WJ.ret ?_
    refine PJ.then_ret ?_
    obtain rfl := Option.some.inj hm
    refine PJ.sel (L' := [box g2 75 [v3, .int .i64 s1.at_, .int .u64 s1.seed]]) [0] ⟨by decide, rfl⟩ ?_
    exact PJ.retn (vs := [.int .i64 0]) Tryd.results56 ⟨rfl, trivial⟩ ⟨rfl, rfl⟩
  · replace hm := ifF hm hb6
    refine WJ.skip ?_
    refine PJ.next ?_
    refine WJ.seq ?_
    refine WJ.reg ?_
    refine SJ.q (YldS.yld (y_move rfl)) rfl ?_
    obtain ⟨r7, h8, hm⟩ := bindS hm
    refine SJ.call1 (k := 0) rfl Tryd.call65 rfl (fun w S hw hA hO => ok_s_l00Src_next h8 w S _ (hr4.st1 hw hO) hA) rfl ?_
    rintro _ _ ⟨rfl, rfl⟩
    refine SJ.q (YldS.yld (y_assign rfl)) rfl ?_
    refine SJ.nil ?_
    refine PJ.next ?_
    obtain ⟨kj12, hk13, hm⟩ := withK_open hm
    refine WJ.join (X := Int × Int × Int) (fun (x : Int × Int × Int) => kj12 x.1 x.2.1 x.2.2 = some r) (fun (x : Int × Int × Int) => [(1, .int .i64 n5), (5, .int .i64 x.2.2)]) (fun (x : Int × Int × Int) => [box g2 75 [v3, .int .i64 x.1, .int .u64 x.2.1]]) ?_ ?_
    · clear hk13
      refine WJ.seq ?_
      refine WJ.quiet ?_
      refine QJ.step (YldS.yld (y_move rfl)) rfl ?_
      refine QJ.step (YldS.yld (y_bin rfl rfl rfl)) rfl ?_
      refine QJ.done ?_
      refine PJ.next ?_
      refine WJ.cond (t := decide (n5 > 200)) rfl (fun hb14 => ?_) (fun hb14 => ?_)
      · replace hm := ifT hm hb14
        refine WJ.reg ?_
        refine SJ.q (YldS.yld (y_move rfl)) rfl ?_
        refine SJ.q (YldS.yld (y_bin rfl rfl rfl)) rfl ?_
        refine SJ.q (YldS.yld (y_move rfl)) rfl ?_
        obtain ⟨r15, h16, hm⟩ := bindS hm
        refine SJ.call1 (k := 0) rfl Tryd.call65 rfl (fun w S hw hA hO => ok_s_l00Src_next h16 w S _ (hr4.st1 hw hO) hA) rfl ?_
        rintro _ _ ⟨rfl, rfl⟩
        refine SJ.q (YldS.yld (y_bin rfl rfl rfl)) rfl ?_
        refine SJ.q (YldS.yld (y_assign rfl)) rfl ?_
        refine SJ.nil ?_
        exact PJ.joined (r15.2.at_, r15.2.seed, w64 ((w64 (r7.1 * 256)) + r15.1)) [0] hm ⟨rfl, rfl, trivial⟩ ⟨by decide, rfl⟩
      · replace hm := ifF hm hb14
        refine WJ.skip ?_
        exact PJ.joined (r7.2.at_, r7.2.seed, r7.1) [0] hm ⟨rfl, rfl, trivial⟩ ⟨by decide, rfl⟩
    · rintro ⟨x9, x10, x11⟩ hm
      subst hk13
      refine WJ.seq ?_
      refine WJ.quiet ?_
      refine QJ.step (YldS.yld (y_move rfl)) rfl ?_
      refine QJ.step (YldS.yld (y_move rfl)) rfl ?_
      obtain ⟨q17, h18, hm⟩ := bindS hm
      refine QJ.step (YldS.yld (y_rem' h18 rfl rfl)) rfl ?_
      refine QJ.step (YldS.yld (y_assign rfl)) rfl ?_
      refine QJ.done ?_
      refine PJ.next ?_
      refine WJ.ret ?_
      obtain rfl := Option.some.inj hm
      refine PJ.sel (L' := [box g2 75 [v3, .int .i64 x9, .int .u64 x10]]) [0] ⟨by decide, rfl⟩ ?_
      exact PJ.retn (vs := [.int .i64 q17]) Tryd.results56 ⟨rfl, trivial⟩ ⟨rfl, rfl⟩

set_option maxRecDepth 100000 in
set_option maxHeartbeats 1000000 in
theorem ok_s_l14Draw {s1 : L00Src} {g2 : Nat} {r : Ribbon × L00Src} (hm : s_l14Draw s1 = some r) (w : World) (S : Nat → Prop) (v3 : Value) (hr4 : RdS w (Cx.Fz ⟨w, S⟩) v3 fByte.rp s1.code) (hA : (box g2 75 [v3, .int .i64 s1.at_, .int .u64 s1.seed]).holds w S) :
    Calls Tryd.prog 61 #[pt g2 0] w (RetG ⟨w, S⟩ fun u L => (u = .agg (Ribbon.enc r.1).toArray ∧ L = [box g2 75 [v3, .int .i64 r.2.at_, .int .u64 r.2.seed]])) := by
  unfold s_l14Draw at hm
  refine Calls.enter1 hA [pt g2 0] Tryd.func61 rfl Tryd.ntmps61 rfl ?_
  refine WJ.seq ?_
  refine WJ.reg ?_
  refine SJ.alloc (cs := [.int .i64 0, .int .i64 0, .int .i64 0]) Tryd.zeroValue25 rfl rfl fun g5 => ?_
  refine SJ.nil ?_
  refine PJ.next ?_
  refine WJ.seq ?_
  refine WJ.reg ?_
  refine SJ.q (YldS.yld (y_move rfl)) rfl ?_
  obtain ⟨r6, h7, hm⟩ := bindS hm
  refine SJ.call1 (k := 1) rfl Tryd.call56 rfl (fun w S hw hA hO => ok_s_l00Src_pick h7 w S _ (hr4.st1 hw hO) hA) rfl ?_
  rintro _ _ ⟨rfl, rfl⟩
  refine SJ.q (YldS.yld (y_bin rfl rfl rfl)) rfl ?_
  refine SJ.q (YldS.yld (y_build (parts := [(0, .tmp 6), (1, .const (.int .i64 20))]) (places := [(0, 1), (1, 1), (2, 1)]) (r := [.int .i64 ((Ribbon.mk (w64 (2 + r6.1)) 20 0).spots), .int .i64 ((Ribbon.mk (w64 (2 + r6.1)) 20 0).ink), .int .i64 ((Ribbon.mk (w64 (2 + r6.1)) 20 0).takes)]) pl25 Tryd.zeroValue25 rfl rfl rfl rfl)) rfl ?_
  refine SJ.alloc (cs := [.int .i64 0, .int .i64 0, .int .i64 0]) Tryd.zeroValue25 rfl rfl fun g8 => ?_
  refine SJ.storeL (k := 0) (off := 0) (us := [.int .i64 ((Ribbon.mk (w64 (2 + r6.1)) 20 0).spots), .int .i64 ((Ribbon.mk (w64 (2 + r6.1)) 20 0).ink), .int .i64 ((Ribbon.mk (w64 (2 + r6.1)) 20 0).takes)]) rfl rfl rfl rfl Tryd.sizeOf25 rfl rfl ?_
  refine SJ.nil ?_
  refine PJ.next ?_
  refine WJ.seq ?_
  refine WJ.reg ?_
  refine SJ.q (YldS.yld (y_move rfl)) rfl ?_
  obtain ⟨r9, h10, hm⟩ := bindS hm
  refine SJ.call1 (k := 1) rfl Tryd.call56 rfl (fun w S hw hA hO => ok_s_l00Src_pick h10 w S _ (hr4.st1 hw hO) hA) rfl ?_
  rintro _ _ ⟨rfl, rfl⟩
  refine SJ.q (YldS.yld (y_bin rfl rfl rfl)) rfl ?_
  refine SJ.q (YldS.yld (y_fldB (o := 0) fld25_1 rfl)) rfl ?_
  refine SJ.storeL (k := 1) (off := 1) (us := [.int .i64 (w64 (20 + r9.1))]) rfl rfl rfl rfl Tryd.sizeOf2 rfl rfl ?_
  refine SJ.nil ?_
  refine PJ.next ?_
  refine WJ.seq ?_
  refine WJ.reg ?_
  refine SJ.q (YldS.yld (y_move rfl)) rfl ?_
  obtain ⟨r11, h12, hm⟩ := bindS hm
  refine SJ.call1 (k := 0) rfl Tryd.call56 rfl (fun w S hw hA hO => ok_s_l00Src_pick h12 w S _ (hr4.st1 hw hO) hA) rfl ?_
  rintro _ _ ⟨rfl, rfl⟩
  refine SJ.q (YldS.yld (y_bin rfl rfl rfl)) rfl ?_
  refine SJ.q (YldS.yld (y_fldB (o := 0) fld25_2 rfl)) rfl ?_
  refine SJ.storeL (k := 1) (off := 2) (us := [.int .i64 (w64 (1 + r11.1))]) rfl rfl rfl rfl Tryd.sizeOf2 rfl rfl ?_
  refine SJ.nil ?_
  refine PJ.next ?_
  refine WJ.seq ?_
  refine WJ.reg ?_
  refine SJ.q (YldS.yld (y_loadBN (k := 1) (off := 0) (us := [.int .i64 ((Ribbon.mk (w64 (2 + r6.1)) 20 0).spots), .int .i64 (w64 (20 + r9.1)), .int .i64 (w64 (1 + r11.1))]) rfl Tryd.isAgg25 Tryd.sizeOf25 rfl rfl)) rfl ?_
  refine SJ.storeL (k := 2) (off := 0) (us := [.int .i64 ((Ribbon.mk (w64 (2 + r6.1)) 20 0).spots), .int .i64 (w64 (20 + r9.1)), .int .i64 (w64 (1 + r11.1))]) rfl rfl rfl rfl Tryd.sizeOf25 rfl rfl ?_
  refine SJ.nil ?_
  refine PJ.next ?_
  refine WJ.ret ?_
  obtain rfl := Option.some.inj hm
  exact PJ.retn_sel (vs := [.agg #[.int .i64 ((Ribbon.mk (w64 (2 + r6.1)) 20 0).spots), .int .i64 (w64 (20 + r9.1)), .int .i64 (w64 (1 + r11.1))]]) Tryd.results61 ⟨⟨2, g5, 25, [.int .i64 ((Ribbon.mk (w64 (2 + r6.1)) 20 0).spots), .int .i64 (w64 (20 + r9.1)), .int .i64 (w64 (1 + r11.1))], rfl, rfl, .inl ⟨Tryd.isAgg25, Tryd.sizeOf25, rfl⟩⟩, trivial⟩ [0] ⟨by decide, rfl⟩ ⟨rfl, rfl⟩

set_option maxRecDepth 100000 in
set_option maxHeartbeats 1000000 in
theorem ok_s_l00Src_among {s1 : L00Src} {list5 : List Int} {g2 : Nat} {r : Int × L00Src} (hm : s_l00Src_among s1 list5 = some r) (w : World) (S : Nat → Prop) (v3 : Value) (hr4 : RdS w (Cx.Fz ⟨w, S⟩) v3 fByte.rp s1.code) (v6 : Value) (hr7 : RdS w (Cx.Fz ⟨w, S⟩) v6 fI64.rp list5) (hA : (box g2 75 [v3, .int .i64 s1.at_, .int .u64 s1.seed]).holds w S) :
    Calls Tryd.prog 62 #[pt g2 0, v6] w (RetG ⟨w, S⟩ fun u L => (u = .int .i64 r.1 ∧ L = [box g2 75 [v3, .int .i64 r.2.at_, .int .u64 r.2.seed]])) := by
  unfold s_l00Src_among at hm
  refine Calls.enter1 hA [pt g2 0, v6] Tryd.func62 rfl Tryd.ntmps62 rfl ?_
  refine WJ.seq ?_
  refine WJ.quiet ?_
  refine QJ.step (YldS.yld (y_assign rfl)) rfl ?_
  refine QJ.done ?_
  refine PJ.next ?_
  refine WJ.seq ?_
  refine WJ.reg ?_
  refine SJ.q (YldS.yld (y_move rfl)) rfl ?_
  refine SJ.q (YldS.yld (y_move rfl)) rfl ?_
  refine SJ.q (YldS.yld (y_move rfl)) rfl ?_
  refine SJ.q (YldS.yld (y_lenS Tryd.runUnderlying28 hr7 rfl)) rfl ?_
  obtain ⟨r8, h9, hm⟩ := bindS hm
  refine SJ.call1 (k := 0) rfl Tryd.call56 rfl (fun w S hw hA hO => ok_s_l00Src_pick h9 w S _ (hr4.st1 hw hO) hA) rfl ?_
  rintro _ _ ⟨rfl, rfl⟩
  obtain ⟨e10, h11, hm⟩ := bindS hm
  obtain ⟨ad12, _, rfl, ha13, hy14⟩ := hr7.elem h11
  refine SJ.q (YldS.yld (hy14 Tryd.runUnderlying28 Tryd.sizeOf2 rfl rfl)) rfl ?_
  refine SJ.q (YldS.yld (y_load1 (v := .int .i64 e10) Tryd.isAgg2 ha13 St.frozenC rfl)) rfl ?_
  refine SJ.q (YldS.yld (y_assign rfl)) rfl ?_
  refine SJ.nil ?_
  refine PJ.next ?_
  refine WJ.ret ?_
  obtain rfl := Option.some.inj hm
  refine PJ.sel (L' := [box g2 75 [v3, .int .i64 r8.2.at_, .int .u64 r8.2.seed]]) [0] ⟨by decide, rfl⟩ ?_
  exact PJ.retn (vs := [.int .i64 e10]) Tryd.results62 ⟨rfl, trivial⟩ ⟨rfl, rfl⟩

set_option maxRecDepth 100000 in
set_option maxHeartbeats 1000000 in
theorem ok_s_l14Bent {s1 : L00Src} {g2 : Nat} {r : Ribbon × L00Src} (hm : s_l14Bent s1 = some r) (w : World) (S : Nat → Prop) (v3 : Value) (hr4 : RdS w (Cx.Fz ⟨w, S⟩) v3 fByte.rp s1.code) (hA : (box g2 75 [v3, .int .i64 s1.at_, .int .u64 s1.seed]).holds w S) :
    Calls Tryd.prog 50 #[pt g2 0] w (RetG ⟨w, S⟩ fun u L => (u = .agg (Ribbon.enc r.1).toArray ∧ L = [box g2 75 [v3, .int .i64 r.2.at_, .int .u64 r.2.seed]])) := by
  unfold s_l14Bent at hm
  refine Calls.enter1 hA [pt g2 0] Tryd.func50 rfl Tryd.ntmps50 rfl ?_
  refine WJ.seq ?_
  refine WJ.reg ?_
  refine SJ.alloc (cs := [.int .i64 0, .int .i64 0, .int .i64 0]) Tryd.zeroValue25 rfl rfl fun g5 => ?_
  refine SJ.nil ?_
  refine PJ.next ?_
  refine WJ.seq ?_
  refine WJ.reg ?_
  refine SJ.q (YldS.yld (y_move rfl)) rfl ?_
  obtain ⟨r6, h7, hm⟩ := bindS hm
  refine SJ.call1 (k := 1) rfl Tryd.call61 rfl (fun w S hw hA hO => ok_s_l14Draw h7 w S _ (hr4.st1 hw hO) hA) rfl ?_
  rintro _ _ ⟨rfl, rfl⟩
  refine SJ.alloc (cs := [.int .i64 0, .int .i64 0, .int .i64 0]) Tryd.zeroValue25 rfl rfl fun g8 => ?_
  refine SJ.storeL (k := 0) (off := 0) (us := [.int .i64 r6.1.spots, .int .i64 r6.1.ink, .int .i64 r6.1.takes]) rfl rfl rfl rfl Tryd.sizeOf25 rfl rfl ?_
  refine SJ.nil ?_
  refine PJ.next ?_
  obtain ⟨kj14, hk15, hm⟩ := withK_open hm
  refine WJ.join (X := Int × Int × Int × Int × Int) (fun (x : Int × Int × Int × Int × Int) => kj14 x.1 x.2.1 x.2.2.1 x.2.2.2.1 x.2.2.2.2 = some r) (fun (x : Int × Int × Int × Int × Int) => [(2, pt g5 0), (3, pt g8 0)]) (fun (x : Int × Int × Int × Int × Int) => [box g2 75 [v3, .int .i64 x.1, .int .u64 x.2.1], box g8 25 [.int .i64 x.2.2.1, .int .i64 x.2.2.2.1, .int .i64 x.2.2.2.2], box g5 25 [.int .i64 0, .int .i64 0, .int .i64 0]]) ?_ ?_
  · clear hk15
    refine WJ.seq ?_
    refine WJ.reg ?_
    refine SJ.q (YldS.yld (y_move rfl)) rfl ?_
    obtain ⟨r16, h17, hm⟩ := bindS hm
    refine SJ.call1 (k := 1) rfl Tryd.call56 rfl (fun w S hw hA hO => ok_s_l00Src_pick h17 w S _ (hr4.st1 hw hO) hA) rfl ?_
    rintro _ _ ⟨rfl, rfl⟩
    refine SJ.nil ?_
    refine PJ.next ?_
    refine WJ.block ?_
    refine WJ.seq ?_
    refine WJ.quiet ?_
    refine QJ.step (YldS.yld (y_bin rfl rfl rfl)) rfl ?_
    refine QJ.step (YldS.yld (y_assign rfl)) rfl ?_
    refine QJ.done ?_
    refine PJ.next ?_
    refine WJ.cond (t := (r16.1 == 0)) rfl (fun hb18 => ?_) (fun hb18 => ?_)
    · replace hm := ifT hm hb18
      refine WJ.reg ?_
      refine SJ.q (YldS.yld (y_move rfl)) rfl ?_
      refine SJ.buildSlice (R := fI64) (os := [.const (.int .i64 1), .const (.int .i64 2), .const (.int .i64 200), .const (.int .i64 201), .const (.int .i64 (-9223372036854775808))]) [1, 2, 200, 201, (-9223372036854775808)] Tryd.runUnderlying28 Tryd.sizeOf2 Tryd.zeroValue2 rfl rfl rfl rfl rfl rfl fun v19 => ?_
      obtain ⟨r20, h21, hm⟩ := bindS hm
      refine SJ.call2 (k := 1) rfl Tryd.call62 rfl (fun w S hw hA hO hB => ok_s_l00Src_among h21 w S _ (hr4.st1 hw hO) _ (hB.row_rd (j := 0) (k := 1) rfl rfl) hA) rfl ?_
      rintro _ _ ⟨rfl, rfl⟩
      refine SJ.q (YldS.yld (y_fldB (o := 0) fld25_0 rfl)) rfl ?_
      refine SJ.storeL (k := 2) (off := 0) (us := [.int .i64 r20.1]) rfl rfl rfl rfl Tryd.sizeOf2 rfl rfl ?_
      refine SJ.nil ?_
      refine PJ.block_normal ?_
      exact PJ.joined (r20.2.at_, r20.2.seed, r20.1, r6.1.ink, r6.1.takes) [0, 2, 3] hm ⟨rfl, rfl, trivial⟩ ⟨by decide, rfl⟩
    · replace hm := ifF hm hb18
      refine WJ.seq ?_
      refine WJ.quiet ?_
      refine QJ.step (YldS.yld (y_bin rfl rfl rfl)) rfl ?_
      refine QJ.step (YldS.yld (y_assign rfl)) rfl ?_
      refine QJ.done ?_
      refine PJ.next ?_
      refine WJ.cond (t := (r16.1 == 1)) rfl (fun hb22 => ?_) (fun hb22 => ?_)
      · replace hm := ifT hm hb22
        refine WJ.reg ?_
        refine SJ.q (YldS.yld (y_move rfl)) rfl ?_
        refine SJ.q (YldS.yld (y_fldB (o := 0) fld25_2 rfl)) rfl ?_
        refine SJ.q (YldS.yld (y_loadB (k := 1) (off := 2) (v := .int .i64 r6.1.takes) rfl Tryd.isAgg2 rfl rfl)) rfl ?_
        refine SJ.buildSlice (R := fI64) (os := [.const (.int .i64 0), .tmp 18, .const (.int .i64 1000), .const (.int .i64 1001)]) [0, r6.1.takes, 1000, 1001] Tryd.runUnderlying28 Tryd.sizeOf2 Tryd.zeroValue2 rfl rfl rfl rfl rfl rfl fun v23 => ?_
        obtain ⟨r24, h25, hm⟩ := bindS hm
        refine SJ.call2 (k := 1) rfl Tryd.call62 rfl (fun w S hw hA hO hB => ok_s_l00Src_among h25 w S _ (hr4.st1 hw hO) _ (hB.row_rd (j := 0) (k := 1) rfl rfl) hA) rfl ?_
        rintro _ _ ⟨rfl, rfl⟩
        refine SJ.q (YldS.yld (y_fldB (o := 0) fld25_1 rfl)) rfl ?_
        refine SJ.storeL (k := 2) (off := 1) (us := [.int .i64 r24.1]) rfl rfl rfl rfl Tryd.sizeOf2 rfl rfl ?_
        refine SJ.nil ?_
        refine PJ.block_normal ?_
        exact PJ.joined (r24.2.at_, r24.2.seed, r6.1.spots, r24.1, r6.1.takes) [0, 2, 3] hm ⟨rfl, rfl, trivial⟩ ⟨by decide, rfl⟩
      · replace hm := ifF hm hb22
        refine WJ.seq ?_
        refine WJ.quiet ?_
        refine QJ.step (YldS.yld (y_bin rfl rfl rfl)) rfl ?_
        refine QJ.step (YldS.yld (y_assign rfl)) rfl ?_
        refine QJ.done ?_
        refine PJ.next ?_
        refine WJ.cond (t := (r16.1 == 2)) rfl (fun hb26 => ?_) (fun hb26 => ?_)
        · replace hm := ifT hm hb26
          refine WJ.reg ?_
          refine SJ.q (YldS.yld (y_move rfl)) rfl ?_
          refine SJ.q (YldS.yld (y_fldB (o := 0) fld25_1 rfl)) rfl ?_
          refine SJ.q (YldS.yld (y_loadB (k := 1) (off := 1) (v := .int .i64 r6.1.ink) rfl Tryd.isAgg2 rfl rfl)) rfl ?_
          refine SJ.q (YldS.yld (y_fldB (o := 0) fld25_1 rfl)) rfl ?_
          refine SJ.q (YldS.yld (y_loadB (k := 1) (off := 1) (v := .int .i64 r6.1.ink) rfl Tryd.isAgg2 rfl rfl)) rfl ?_
          refine SJ.q (YldS.yld (y_bin rfl rfl rfl)) rfl ?_
          refine SJ.buildSlice (R := fI64) (os := [.const (.int .i64 0), .const (.int .i64 1), .tmp 26, .tmp 29]) [0, 1, r6.1.ink, w64 (r6.1.ink + 1)] Tryd.runUnderlying28 Tryd.sizeOf2 Tryd.zeroValue2 rfl rfl rfl rfl rfl rfl fun v27 => ?_
          obtain ⟨r28, h29, hm⟩ := bindS hm
          refine SJ.call2 (k := 1) rfl Tryd.call62 rfl (fun w S hw hA hO hB => ok_s_l00Src_among h29 w S _ (hr4.st1 hw hO) _ (hB.row_rd (j := 0) (k := 1) rfl rfl) hA) rfl ?_
          rintro _ _ ⟨rfl, rfl⟩
          refine SJ.q (YldS.yld (y_fldB (o := 0) fld25_2 rfl)) rfl ?_
          refine SJ.storeL (k := 2) (off := 2) (us := [.int .i64 r28.1]) rfl rfl rfl rfl Tryd.sizeOf2 rfl rfl ?_
          refine SJ.nil ?_
          refine PJ.block_normal ?_
          exact PJ.joined (r28.2.at_, r28.2.seed, r6.1.spots, r6.1.ink, r28.1) [0, 2, 3] hm ⟨rfl, rfl, trivial⟩ ⟨by decide, rfl⟩
        · replace hm := ifF hm hb26
          refine WJ.skip ?_
          refine PJ.block_normal ?_
          exact PJ.joined (r16.2.at_, r16.2.seed, r6.1.spots, r6.1.ink, r6.1.takes) [0, 1, 2] hm ⟨rfl, rfl, trivial⟩ ⟨by decide, rfl⟩
  · rintro ⟨x9, x10, x11, x12, x13⟩ hm
    subst hk15
    refine WJ.seq ?_
    refine WJ.reg ?_
    refine SJ.q (YldS.yld (y_loadBN (k := 1) (off := 0) (us := [.int .i64 x11, .int .i64 x12, .int .i64 x13]) rfl Tryd.isAgg25 Tryd.sizeOf25 rfl rfl)) rfl ?_
    refine SJ.storeL (k := 2) (off := 0) (us := [.int .i64 x11, .int .i64 x12, .int .i64 x13]) rfl rfl rfl rfl Tryd.sizeOf25 rfl rfl ?_
    refine SJ.nil ?_
    refine PJ.next ?_
    refine WJ.ret ?_
    obtain rfl := Option.some.inj hm
    exact PJ.retn_sel (vs := [.agg #[.int .i64 x11, .int .i64 x12, .int .i64 x13]]) Tryd.results50 ⟨⟨2, g5, 25, [.int .i64 x11, .int .i64 x12, .int .i64 x13], rfl, rfl, .inl ⟨Tryd.isAgg25, Tryd.sizeOf25, rfl⟩⟩, trivial⟩ [0] ⟨by decide, rfl⟩ ⟨rfl, rfl⟩

set_option maxRecDepth 100000 in
set_option maxHeartbeats 1000000 in
theorem ok_s_l00Src_one {s1 : L00Src} {n5 : Int} {g2 : Nat} {r : Bool × L00Src} (hm : s_l00Src_one s1 n5 = some r) (w : World) (S : Nat → Prop) (v3 : Value) (hr4 : RdS w (Cx.Fz ⟨w, S⟩) v3 fByte.rp s1.code) (hA : (box g2 75 [v3, .int .i64 s1.at_, .int .u64 s1.seed]).holds w S) :
    Calls Tryd.prog 63 #[pt g2 0, .int .i64 n5] w (RetG ⟨w, S⟩ fun u L => (u = .bool r.1 ∧ L = [box g2 75 [v3, .int .i64 r.2.at_, .int .u64 r.2.seed]])) := by
  unfold s_l00Src_one at hm
  refine Calls.enter1 hA [pt g2 0, .int .i64 n5] Tryd.func63 rfl Tryd.ntmps63 rfl ?_
  refine WJ.seq ?_
  refine WJ.quiet ?_
  refine QJ.step (YldS.yld (y_assign rfl)) rfl ?_
  refine QJ.done ?_
  refine PJ.next ?_
  refine WJ.seq ?_
  refine WJ.reg ?_
  refine SJ.q (YldS.yld (y_move rfl)) rfl ?_
  refine SJ.q (YldS.yld (y_move rfl)) rfl ?_
  obtain ⟨r6, h7, hm⟩ := bindS hm
  refine SJ.call1 (k := 0) rfl Tryd.call56 rfl (fun w S hw hA hO => ok_s_l00Src_pick h7 w S _ (hr4.st1 hw hO) hA) rfl ?_
  rintro _ _ ⟨rfl, rfl⟩
  refine SJ.q (YldS.yld (y_bin rfl rfl rfl)) rfl ?_
  refine SJ.q (YldS.yld (y_assign rfl)) rfl ?_
  refine SJ.nil ?_
  refine PJ.next ?_
  refine WJ.ret ?_
  obtain rfl := Option.some.inj hm
  refine PJ.sel (L' := [box g2 75 [v3, .int .i64 r6.2.at_, .int .u64 r6.2.seed]]) [0] ⟨by decide, rfl⟩ ?_
  exact PJ.retn (vs := [.bool (r6.1 == 0)]) Tryd.results63 ⟨rfl, trivial⟩ ⟨rfl, rfl⟩

set_option maxRecDepth 100000 in
set_option maxHeartbeats 1000000 in
theorem ok_s_l14Strokes {s1 : L00Src} {g2 : Nat} {r : Int × L00Src} (hm : s_l14Strokes s1 = some r) (w : World) (S : Nat → Prop) (v3 : Value) (hr4 : RdS w (Cx.Fz ⟨w, S⟩) v3 fByte.rp s1.code) (hA : (box g2 75 [v3, .int .i64 s1.at_, .int .u64 s1.seed]).holds w S) :
    Calls Tryd.prog 51 #[pt g2 0] w (RetG ⟨w, S⟩ fun u L => (u = .int .i64 r.1 ∧ L = [box g2 75 [v3, .int .i64 r.2.at_, .int .u64 r.2.seed]])) := by
  unfold s_l14Strokes at hm
  refine Calls.enter1 hA [pt g2 0] Tryd.func51 rfl Tryd.ntmps51 rfl ?_
  refine WJ.seq ?_
  refine WJ.quiet ?_
  refine QJ.step (YldS.yld (y_assign rfl)) rfl ?_
  refine QJ.done ?_
  refine PJ.next ?_
  refine WJ.seq ?_
  refine WJ.seq ?_
  refine WJ.reg ?_
  refine SJ.q (YldS.yld (y_move rfl)) rfl ?_
  obtain ⟨r5, h6, hm⟩ := bindS hm
  refine SJ.call1 (k := 0) rfl Tryd.call63 rfl (fun w S hw hA hO => ok_s_l00Src_one h6 w S _ (hr4.st1 hw hO) hA) rfl ?_
  rintro _ _ ⟨rfl, rfl⟩
  refine SJ.nil ?_
  refine PJ.next ?_
  refine WJ.cond (t := r5.1) rfl (fun hb7 => ?_) (fun hb7 => ?_)
  · replace hm := ifT hm hb7
    refine WJ.seq ?_
    refine WJ.reg ?_
    refine SJ.q (YldS.yld (y_move rfl)) rfl ?_
    refine SJ.buildSlice (R := fI64) (os := [.const (.int .i64 (-1)), .const (.int .i64 0), .const (.int .i64 100000), .const (.int .i64 100001), .const (.int .i64 9223372036854775807)]) [(-1), 0, 100000, 100001, 9223372036854775807] Tryd.runUnderlying28 Tryd.sizeOf2 Tryd.zeroValue2 rfl rfl rfl rfl rfl rfl fun v8 => ?_
    obtain ⟨r9, h10, hm⟩ := bindS hm
    refine SJ.call2 (k := 1) rfl Tryd.call62 rfl (fun w S hw hA hO hB => ok_s_l00Src_among h10 w S _ (hr4.st1 hw hO) _ (hB.row_rd (j := 0) (k := 1) rfl rfl) hA) rfl ?_
    rintro _ _ ⟨rfl, rfl⟩
    refine SJ.q (YldS.yld (y_assign rfl)) rfl ?_
    refine SJ.nil ?_
    refine PJ.next ?_
    refine WJ.ret ?_
    refine PJ.then_ret ?_
    obtain rfl := Option.some.inj hm
    refine PJ.sel (L' := [box g2 75 [v3, .int .i64 r9.2.at_, .int .u64 r9.2.seed]]) [0] ⟨by decide, rfl⟩ ?_
    exact PJ.retn (vs := [.int .i64 r9.1]) Tryd.results51 ⟨rfl, trivial⟩ ⟨rfl, rfl⟩
  · replace hm := ifF hm hb7
    refine WJ.skip ?_
    refine PJ.next ?_
    refine WJ.seq ?_
    refine WJ.reg ?_
    refine SJ.q (YldS.yld (y_move rfl)) rfl ?_
    obtain ⟨r11, h12, hm⟩ := bindS hm
    refine SJ.call1 (k := 0) rfl Tryd.call56 rfl (fun w S hw hA hO => ok_s_l00Src_pick h12 w S _ (hr4.st1 hw hO) hA) rfl ?_
    rintro _ _ ⟨rfl, rfl⟩
    refine SJ.q (YldS.yld (y_assign rfl)) rfl ?_
    refine SJ.nil ?_
    refine PJ.next ?_
    refine WJ.ret ?_
    obtain rfl := Option.some.inj hm
    refine PJ.sel (L' := [box g2 75 [v3, .int .i64 r11.2.at_, .int .u64 r11.2.seed]]) [0] ⟨by decide, rfl⟩ ?_
    exact PJ.retn (vs := [.int .i64 r11.1]) Tryd.results51 ⟨rfl, trivial⟩ ⟨rfl, rfl⟩

set_option maxRecDepth 100000 in
set_option maxHeartbeats 1000000 in
theorem ok_s_l14Both {code1 : List UInt8} {r : Ribbon × Int} (hm : s_l14Both code1 = some r) (w : World) (v2 : Value) (hr3 : RdS w (cx w).Fz v2 fByte.rp code1) :
    Calls Tryd.prog 28 #[v2] w (Ret (cx w) (tup [.agg (Ribbon.enc r.1).toArray, .int .i64 r.2])) := by
  unfold s_l14Both at hm
  refine Calls.enter [v2] Tryd.func28 rfl Tryd.ntmps28 rfl ?_
  refine WJ.seq ?_
  refine WJ.reg ?_
  refine SJ.alloc (cs := [.int .i64 0, .int .i64 0, .int .i64 0]) Tryd.zeroValue25 rfl rfl fun g4 => ?_
  refine SJ.q (YldS.yld (y_assign rfl)) rfl ?_
  refine SJ.nil ?_
  refine PJ.next ?_
  refine WJ.seq ?_
  refine WJ.reg ?_
  refine SJ.q (YldS.yld (y_move rfl)) rfl ?_
  obtain ⟨r5, h6, hm⟩ := bindS hm
  refine SJ.call Tryd.call43 rfl (fun w hw => ok_s_l00From h6 w _ (hr3.st hw)) rfl ?_
  rintro _ _ ⟨g7, rfl, rfl⟩
  refine SJ.q (YldS.yld (y_assign rfl)) rfl ?_
  refine SJ.nil ?_
  refine PJ.next ?_
  refine WJ.seq ?_
  refine WJ.reg ?_
  refine SJ.q (YldS.yld (y_move rfl)) rfl ?_
  obtain ⟨r8, h9, hm⟩ := bindS hm
  refine SJ.call1 (k := 0) rfl Tryd.call50 rfl (fun w S hw hA hO => ok_s_l14Bent h9 w S _ (hr3.st1 hw hO) hA) rfl ?_
  rintro _ _ ⟨rfl, rfl⟩
  refine SJ.alloc (cs := [.int .i64 0, .int .i64 0, .int .i64 0]) Tryd.zeroValue25 rfl rfl fun g10 => ?_
  refine SJ.storeL (k := 0) (off := 0) (us := [.int .i64 r8.1.spots, .int .i64 r8.1.ink, .int .i64 r8.1.takes]) rfl rfl rfl rfl Tryd.sizeOf25 rfl rfl ?_
  refine SJ.nil ?_
  refine PJ.next ?_
  refine WJ.seq ?_
  obtain ⟨r11, h12, hm⟩ := bindS hm
  refine WJ.draws (N := 5) (listed0 := #[false, false, false, false, false]) [box g10 25 [.int .i64 r8.1.spots, .int .i64 r8.1.ink, .int .i64 r8.1.takes]] follows rfl rfl ?_
  refine RJ.first 0 (listed' := #[true, false, false, false, false]) [0] rfl (by kernel_rfl) rfl ⟨by decide, rfl⟩ (y_loadBN (k := 0) (off := 0) (us := [.int .i64 r8.1.spots, .int .i64 r8.1.ink, .int .i64 r8.1.takes]) rfl Tryd.isAgg25 Tryd.sizeOf25 rfl rfl) rfl ?_
  refine RJ.first 1 (listed' := #[true, true, false, false, false]) [0] rfl (by kernel_rfl) rfl ⟨by decide, rfl⟩ (y_move rfl) rfl ?_
  refine RJ.step1 2 [0] (by kernel_rfl) ⟨by decide, rfl⟩ ?_
  refine RO.of (listed' := #[true, true, true, false, false]) rfl rfl ?_
  refine SJ.call1 (k := 1) rfl Tryd.call51 rfl (fun w S hw hA hO => ok_s_l14Strokes h12 w S _ (hr3.st1 hw hO) hA) rfl ?_
  rintro _ _ ⟨rfl, rfl⟩
  refine SJ.nil ?_
  refine PJ.draw ?_
  refine RJ.step1 3 [1] (by kernel_rfl) ⟨by decide, rfl⟩ ?_
  refine RO.of (listed' := #[true, true, true, true, false]) rfl rfl ?_
  refine SJ.storeL (k := 2) (off := 0) (us := [.int .i64 r8.1.spots, .int .i64 r8.1.ink, .int .i64 r8.1.takes]) rfl rfl rfl rfl Tryd.sizeOf25 rfl rfl ?_
  refine SJ.nil ?_
  refine PJ.draw ?_
  refine RJ.first 4 (listed' := #[true, true, true, true, true]) [1] rfl (by kernel_rfl) rfl ⟨by decide, rfl⟩ (y_assign rfl) rfl ?_
  refine RJ.fin [1] (by kernel_rfl) ⟨by decide, rfl⟩ ?_
  refine PJ.next ?_
  refine WJ.ret ?_
  obtain rfl := Option.some.inj hm
  exact PJ.retn_sel (vs := [.agg (Ribbon.enc r8.1).toArray, .int .i64 r11.1]) Tryd.results28 ⟨⟨2, g4, 25, [.int .i64 r8.1.spots, .int .i64 r8.1.ink, .int .i64 r8.1.takes], rfl, rfl, .inl ⟨Tryd.isAgg25, Tryd.sizeOf25, rfl⟩⟩, rfl, trivial⟩ [] ⟨List.nodup_nil, rfl⟩ ⟨rfl, rfl⟩

set_option maxRecDepth 100000 in
set_option maxHeartbeats 1000000 in
theorem ok_s_DrawUsesOf {code1 : List UInt8} {r : Ribbon × Int} (hm : s_DrawUsesOf code1 = some r) (w : World) (v2 : Value) (hr3 : RdS w (cx w).Fz v2 fByte.rp code1) :
    Calls Tryd.prog 6 #[v2] w (Ret (cx w) (tup [.agg (Ribbon.enc r.1).toArray, .int .i64 r.2])) := by
  unfold s_DrawUsesOf at hm
  refine Calls.enter [v2] Tryd.func6 rfl Tryd.ntmps6 rfl ?_
  refine WJ.seq ?_
  refine WJ.reg ?_
  refine SJ.alloc (cs := [.int .i64 0, .int .i64 0, .int .i64 0]) Tryd.zeroValue25 rfl rfl fun g4 => ?_
  refine SJ.q (YldS.yld (y_assign rfl)) rfl ?_
  refine SJ.nil ?_
  refine PJ.next ?_
  refine WJ.seq ?_
  refine WJ.reg ?_
  refine SJ.q (YldS.yld (y_move rfl)) rfl ?_
  obtain ⟨r5, h6, hm⟩ := bindS hm
  refine SJ.q (y_call Tryd.call28 rfl (RetG.quiet fun w hw => ok_s_l14Both h6 w _ (hr3.st hw))) rfl ?_
  refine SJ.q (YldS.yld (y_extract rfl rfl)) rfl ?_
  refine SJ.q (YldS.yld (y_extract rfl rfl)) rfl ?_
  refine SJ.storeL (k := 0) (off := 0) (us := [.int .i64 r5.1.spots, .int .i64 r5.1.ink, .int .i64 r5.1.takes]) rfl rfl rfl rfl Tryd.sizeOf25 rfl rfl ?_
  refine SJ.q (YldS.yld (y_assign rfl)) rfl ?_
  refine SJ.nil ?_
  refine PJ.next ?_
  refine WJ.ret ?_
  obtain rfl := Option.some.inj hm
  exact PJ.retn_sel (vs := [.agg (Ribbon.enc r5.1).toArray, .int .i64 r5.2]) Tryd.results6 ⟨⟨0, g4, 25, [.int .i64 r5.1.spots, .int .i64 r5.1.ink, .int .i64 r5.1.takes], rfl, rfl, .inl ⟨Tryd.isAgg25, Tryd.sizeOf25, rfl⟩⟩, rfl, trivial⟩ [] ⟨List.nodup_nil, rfl⟩ ⟨rfl, rfl⟩

set_option maxRecDepth 100000 in
set_option maxHeartbeats 1000000 in
theorem ok_i_between {n1 : Int} {low2 : Int} {high3 : Int} {r : Bool} (hm : i_between n1 low2 high3 = some r) (w : World)  :
    Calls Tryd.prog 41 #[.int .i64 n1, .int .i64 low2, .int .i64 high3] w (Ret (cx w) (.bool r)) := by
  unfold i_between at hm
  refine Calls.enter [.int .i64 n1, .int .i64 low2, .int .i64 high3] Tryd.func41 rfl Tryd.ntmps41 rfl ?_
  refine WJ.seq ?_
  refine WJ.quiet ?_
  refine QJ.step (YldS.yld (y_assign rfl)) rfl ?_
  refine QJ.done ?_
  refine PJ.next ?_
  refine WJ.seq ?_
  refine WJ.quiet ?_
  refine QJ.step (YldS.yld (y_move rfl)) rfl ?_
  refine QJ.step (YldS.yld (y_move rfl)) rfl ?_
  refine QJ.step (YldS.yld (y_bin rfl rfl rfl)) rfl ?_
  refine QJ.step (YldS.yld (y_move rfl)) rfl ?_
  obtain ⟨t4, h5, hm⟩ := bindS hm
  refine QJ.cut 4 [(14, .bool t4)] ?_ ?_
  · rcases Bool.eq_false_or_eq_true (decide (n1 ≥ low2)) with hb6 | hb6
    · replace h5 := andT h5 hb6
      refine QJ.on rfl rfl (cB hb6) (YldS.yld (y_move rfl)) rfl ?_
      refine QJ.on rfl rfl (cB hb6) (YldS.yld (y_move rfl)) rfl ?_
      refine QJ.on rfl rfl (cB hb6) (YldS.yld (y_bin rfl rfl rfl)) rfl ?_
      refine QJ.step (YldS.yld (y_pick_t (cB hb6) rfl)) rfl ?_
      obtain rfl := Option.some.inj h5
      exact QJ.cut_end ⟨rfl, trivial⟩
    · obtain rfl := andF h5 hb6
      refine QJ.off rfl rfl (cB hb6) rfl rfl ?_
      refine QJ.off rfl rfl (cB hb6) rfl rfl ?_
      refine QJ.off rfl rfl (cB hb6) rfl rfl ?_
      refine QJ.step (YldS.yld (y_pick_f (cB hb6) rfl)) rfl ?_
      exact QJ.cut_end ⟨rfl, trivial⟩
  refine QJ.step (YldS.yld (y_assign rfl)) rfl ?_
  refine QJ.done ?_
  refine PJ.next ?_
  refine WJ.ret ?_
  obtain rfl := Option.some.inj hm
  refine PJ.sel (L' := []) [] ⟨List.nodup_nil, rfl⟩ ?_
  exact PJ.retn (vs := [.bool t4]) Tryd.results41 ⟨rfl, trivial⟩ ⟨rfl, rfl⟩

set_option maxRecDepth 100000 in
set_option maxHeartbeats 1000000 in
theorem ok_i_ValidRibbon {r1 : Ribbon} {r : Bool} (hm : i_ValidRibbon r1 = some r) (w : World)  :
    Calls Tryd.prog 18 #[.agg (Ribbon.enc r1).toArray] w (Ret (cx w) (.bool r)) := by
  unfold i_ValidRibbon at hm
  refine Calls.enter [.agg (Ribbon.enc r1).toArray] Tryd.func18 rfl Tryd.ntmps18 rfl ?_
  refine WJ.seq ?_
  refine WJ.reg ?_
  refine SJ.box (cs := [.int .i64 r1.spots, .int .i64 r1.ink, .int .i64 r1.takes]) rfl rfl rfl fun g2 => ?_
  refine SJ.q (YldS.yld (y_assign rfl)) rfl ?_
  refine SJ.nil ?_
  refine PJ.next ?_
  refine WJ.seq ?_
  refine WJ.quiet ?_
  refine QJ.step (YldS.yld (y_fldB (o := 0) fld25_0 rfl)) rfl ?_
  refine QJ.step (YldS.yld (y_loadB (k := 0) (off := 0) (v := .int .i64 r1.spots) rfl Tryd.isAgg2 rfl rfl)) rfl ?_
  obtain ⟨r3, h4, hm⟩ := bindS hm
  refine QJ.step (y_call Tryd.call41 rfl (RetG.quiet fun w hw => ok_i_between h4 w )) rfl ?_
  refine QJ.step (YldS.yld (y_move rfl)) rfl ?_
  obtain ⟨t5, h6, hm⟩ := bindS hm
  refine QJ.cut 4 [(1, pt g2 0), (10, .bool t5)] ?_ ?_
  · rcases Bool.eq_false_or_eq_true r3 with hb7 | hb7
    · replace h6 := andT h6 hb7
      refine QJ.on rfl rfl (cB hb7) (YldS.yld (y_fldB (o := 0) fld25_1 rfl)) rfl ?_
      refine QJ.on rfl rfl (cB hb7) (YldS.yld (y_loadB (k := 0) (off := 1) (v := .int .i64 r1.ink) rfl Tryd.isAgg2 rfl rfl)) rfl ?_
      obtain ⟨r8, h9, h6⟩ := bindS h6
      refine QJ.on rfl rfl (cB hb7) (y_call Tryd.call41 rfl (RetG.quiet fun w hw => ok_i_between h9 w )) rfl ?_
      refine QJ.step (YldS.yld (y_pick_t (cB hb7) rfl)) rfl ?_
      obtain rfl := Option.some.inj h6
      exact QJ.cut_end ⟨rfl, rfl, trivial⟩
    · obtain rfl := andF h6 hb7
      refine QJ.off rfl rfl (cB hb7) rfl rfl ?_
      refine QJ.off rfl rfl (cB hb7) rfl rfl ?_
      refine QJ.off rfl rfl (cB hb7) rfl rfl ?_
      refine QJ.step (YldS.yld (y_pick_f (cB hb7) rfl)) rfl ?_
      exact QJ.cut_end ⟨rfl, rfl, trivial⟩
  refine QJ.step (YldS.yld (y_move rfl)) rfl ?_
  obtain ⟨t10, h11, hm⟩ := bindS hm
  refine QJ.cut 6 [(17, .bool t10)] ?_ ?_
  · rcases Bool.eq_false_or_eq_true t5 with hb12 | hb12
    · replace h11 := andT h11 hb12
      refine QJ.on rfl rfl (cB hb12) (YldS.yld (y_fldB (o := 0) fld25_2 rfl)) rfl ?_
      refine QJ.on rfl rfl (cB hb12) (YldS.yld (y_loadB (k := 0) (off := 2) (v := .int .i64 r1.takes) rfl Tryd.isAgg2 rfl rfl)) rfl ?_
      refine QJ.on rfl rfl (cB hb12) (YldS.yld (y_fldB (o := 0) fld25_1 rfl)) rfl ?_
      refine QJ.on rfl rfl (cB hb12) (YldS.yld (y_loadB (k := 0) (off := 1) (v := .int .i64 r1.ink) rfl Tryd.isAgg2 rfl rfl)) rfl ?_
      obtain ⟨r13, h14, h11⟩ := bindS h11
      refine QJ.on rfl rfl (cB hb12) (y_call Tryd.call41 rfl (RetG.quiet fun w hw => ok_i_between h14 w )) rfl ?_
      refine QJ.step (YldS.yld (y_pick_t (cB hb12) rfl)) rfl ?_
      obtain rfl := Option.some.inj h11
      exact QJ.cut_end ⟨rfl, trivial⟩
    · obtain rfl := andF h11 hb12
      refine QJ.off rfl rfl (cB hb12) rfl rfl ?_
      refine QJ.off rfl rfl (cB hb12) rfl rfl ?_
      refine QJ.off rfl rfl (cB hb12) rfl rfl ?_
      refine QJ.off rfl rfl (cB hb12) rfl rfl ?_
      refine QJ.off rfl rfl (cB hb12) rfl rfl ?_
      refine QJ.step (YldS.yld (y_pick_f (cB hb12) rfl)) rfl ?_
      exact QJ.cut_end ⟨rfl, trivial⟩
  refine QJ.step (YldS.yld (y_assign rfl)) rfl ?_
  refine QJ.done ?_
  refine PJ.next ?_
  refine WJ.ret ?_
  obtain rfl := Option.some.inj hm
  refine PJ.sel (L' := []) [] ⟨List.nodup_nil, rfl⟩ ?_
  exact PJ.retn (vs := [.bool t10]) Tryd.results18 ⟨rfl, trivial⟩ ⟨rfl, rfl⟩

set_option maxRecDepth 100000 in
set_option maxHeartbeats 1000000 in
theorem ok_i_isUse {n1 : Int} {r : Bool} (hm : i_isUse n1 = some r) (w : World)  :
    Calls Tryd.prog 29 #[.int .i64 n1] w (Ret (cx w) (.bool r)) := by
  unfold i_isUse at hm
  refine Calls.enter [.int .i64 n1] Tryd.func29 rfl Tryd.ntmps29 rfl ?_
  refine WJ.seq ?_
  refine WJ.quiet ?_
  refine QJ.step (YldS.yld (y_assign rfl)) rfl ?_
  refine QJ.done ?_
  refine PJ.next ?_
  refine WJ.seq ?_
  refine WJ.quiet ?_
  refine QJ.step (YldS.yld (y_move rfl)) rfl ?_
  obtain ⟨r2, h3, hm⟩ := bindS hm
  refine QJ.step (y_call Tryd.call41 rfl (RetG.quiet fun w hw => ok_i_between h3 w )) rfl ?_
  refine QJ.step (YldS.yld (y_assign rfl)) rfl ?_
  refine QJ.done ?_
  refine PJ.next ?_
  refine WJ.ret ?_
  obtain rfl := Option.some.inj hm
  refine PJ.sel (L' := []) [] ⟨List.nodup_nil, rfl⟩ ?_
  exact PJ.retn (vs := [.bool r2]) Tryd.results29 ⟨rfl, trivial⟩ ⟨rfl, rfl⟩

set_option maxRecDepth 100000 in
set_option maxHeartbeats 1000000 in
theorem ok_i_Ribbon_period {r1 : Ribbon} {r : Int} (hm : i_Ribbon_period r1 = some r) (w : World)  :
    Calls Tryd.prog 52 #[.agg (Ribbon.enc r1).toArray] w (Ret (cx w) (.int .i64 r)) := by
  unfold i_Ribbon_period at hm
  refine Calls.enter [.agg (Ribbon.enc r1).toArray] Tryd.func52 rfl Tryd.ntmps52 rfl ?_
  refine WJ.seq ?_
  refine WJ.reg ?_
  refine SJ.box (cs := [.int .i64 r1.spots, .int .i64 r1.ink, .int .i64 r1.takes]) rfl rfl rfl fun g2 => ?_
  refine SJ.q (YldS.yld (y_assign rfl)) rfl ?_
  refine SJ.nil ?_
  refine PJ.next ?_
  refine WJ.seq ?_
  refine WJ.quiet ?_
  refine QJ.step (YldS.yld (y_fldB (o := 0) fld25_0 rfl)) rfl ?_
  refine QJ.step (YldS.yld (y_loadB (k := 0) (off := 0) (v := .int .i64 r1.spots) rfl Tryd.isAgg2 rfl rfl)) rfl ?_
  refine QJ.step (YldS.yld (y_bin rfl rfl rfl)) rfl ?_
  refine QJ.step (YldS.yld (y_bin rfl rfl rfl)) rfl ?_
  refine QJ.step (YldS.yld (y_assign rfl)) rfl ?_
  refine QJ.done ?_
  refine PJ.next ?_
  refine WJ.ret ?_
  obtain rfl := Option.some.inj hm
  refine PJ.sel (L' := []) [] ⟨List.nodup_nil, rfl⟩ ?_
  exact PJ.retn (vs := [.int .i64 (w64 (2 * (w64 (r1.spots - 1))))]) Tryd.results52 ⟨rfl, trivial⟩ ⟨rfl, rfl⟩

set_option maxRecDepth 100000 in
set_option maxHeartbeats 1000000 in
theorem ok_i_Ribbon_isEnd {r1 : Ribbon} {spot2 : Int} {r : Bool} (hm : i_Ribbon_isEnd r1 spot2 = some r) (w : World)  :
    Calls Tryd.prog 53 #[.agg (Ribbon.enc r1).toArray, .int .i64 spot2] w (Ret (cx w) (.bool r)) := by
  unfold i_Ribbon_isEnd at hm
  refine Calls.enter [.agg (Ribbon.enc r1).toArray, .int .i64 spot2] Tryd.func53 rfl Tryd.ntmps53 rfl ?_
  refine WJ.seq ?_
  refine WJ.reg ?_
  refine SJ.box (cs := [.int .i64 r1.spots, .int .i64 r1.ink, .int .i64 r1.takes]) rfl rfl rfl fun g3 => ?_
  refine SJ.q (YldS.yld (y_assign rfl)) rfl ?_
  refine SJ.nil ?_
  refine PJ.next ?_
  refine WJ.seq ?_
  refine WJ.quiet ?_
  refine QJ.step (YldS.yld (y_move rfl)) rfl ?_
  refine QJ.step (YldS.yld (y_bin rfl rfl rfl)) rfl ?_
  refine QJ.step (YldS.yld (y_move rfl)) rfl ?_
  obtain ⟨t4, h5, hm⟩ := bindS hm
  refine QJ.cut 6 [(13, .bool t4)] ?_ ?_
  · rcases Bool.eq_false_or_eq_true (spot2 == 0) with hb6 | hb6
    · obtain rfl := orT h5 hb6
      refine QJ.off rfl rfl (cB hb6) rfl rfl ?_
      refine QJ.off rfl rfl (cB hb6) rfl rfl ?_
      refine QJ.off rfl rfl (cB hb6) rfl rfl ?_
      refine QJ.off rfl rfl (cB hb6) rfl rfl ?_
      refine QJ.off rfl rfl (cB hb6) rfl rfl ?_
      refine QJ.step (YldS.yld (y_pick_t (cB hb6) rfl)) rfl ?_
      exact QJ.cut_end ⟨rfl, trivial⟩
    · replace h5 := orF h5 hb6
      refine QJ.on rfl rfl (cB hb6) (YldS.yld (y_move rfl)) rfl ?_
      refine QJ.on rfl rfl (cB hb6) (YldS.yld (y_fldB (o := 0) fld25_0 rfl)) rfl ?_
      refine QJ.on rfl rfl (cB hb6) (YldS.yld (y_loadB (k := 0) (off := 0) (v := .int .i64 r1.spots) rfl Tryd.isAgg2 rfl rfl)) rfl ?_
      refine QJ.on rfl rfl (cB hb6) (YldS.yld (y_bin rfl rfl rfl)) rfl ?_
      refine QJ.on rfl rfl (cB hb6) (YldS.yld (y_bin rfl rfl rfl)) rfl ?_
      refine QJ.step (YldS.yld (y_pick_f (cB hb6) rfl)) rfl ?_
      obtain rfl := Option.some.inj h5
      exact QJ.cut_end ⟨rfl, trivial⟩
  refine QJ.step (YldS.yld (y_assign rfl)) rfl ?_
  refine QJ.done ?_
  refine PJ.next ?_
  refine WJ.ret ?_
  obtain rfl := Option.some.inj hm
  refine PJ.sel (L' := []) [] ⟨List.nodup_nil, rfl⟩ ?_
  exact PJ.retn (vs := [.bool t4]) Tryd.results53 ⟨rfl, trivial⟩ ⟨rfl, rfl⟩

set_option maxRecDepth 100000 in
set_option maxHeartbeats 1000000 in
theorem ok_i_Ribbon_uses {r1 : Ribbon} {spot2 : Int} {strokes3 : Int} {r : Int} (hm : i_Ribbon_uses r1 spot2 strokes3 = some r) (w : World)  :
    Calls Tryd.prog 30 #[.agg (Ribbon.enc r1).toArray, .int .i64 spot2, .int .i64 strokes3] w (Ret (cx w) (.int .i64 r)) := by
  unfold i_Ribbon_uses at hm
  refine Calls.enter [.agg (Ribbon.enc r1).toArray, .int .i64 spot2, .int .i64 strokes3] Tryd.func30 rfl Tryd.ntmps30 rfl ?_
  refine WJ.seq ?_
  refine WJ.reg ?_
  refine SJ.box (cs := [.int .i64 r1.spots, .int .i64 r1.ink, .int .i64 r1.takes]) rfl rfl rfl fun g4 => ?_
  refine SJ.q (YldS.yld (y_assign rfl)) rfl ?_
  refine SJ.nil ?_
  refine PJ.next ?_
  refine WJ.seq ?_
  refine WJ.quiet_draw follows (by kernel_rfl) ?_
  refine QJ.step (YldS.yld (y_move rfl)) rfl ?_
  refine QJ.step (YldS.yld (y_loadBN (k := 0) (off := 0) (us := [.int .i64 r1.spots, .int .i64 r1.ink, .int .i64 r1.takes]) rfl Tryd.isAgg25 Tryd.sizeOf25 rfl rfl)) rfl ?_
  obtain ⟨r5, h6, hm⟩ := bindS hm
  refine QJ.step (y_call Tryd.call52 rfl (RetG.quiet fun w hw => ok_i_Ribbon_period h6 w )) rfl ?_
  obtain ⟨q7, h8, hm⟩ := bindS hm
  refine QJ.step (YldS.yld (y_quo' h8 rfl rfl)) rfl ?_
  refine QJ.step (YldS.yld (y_move rfl)) rfl ?_
  refine QJ.step (YldS.yld (y_loadBN (k := 0) (off := 0) (us := [.int .i64 r1.spots, .int .i64 r1.ink, .int .i64 r1.takes]) rfl Tryd.isAgg25 Tryd.sizeOf25 rfl rfl)) rfl ?_
  obtain ⟨r9, h10, hm⟩ := bindS hm
  refine QJ.step (y_call Tryd.call52 rfl (RetG.quiet fun w hw => ok_i_Ribbon_period h10 w )) rfl ?_
  obtain ⟨q11, h12, hm⟩ := bindS hm
  refine QJ.step (YldS.yld (y_rem' h12 rfl rfl)) rfl ?_
  refine QJ.step (YldS.yld (y_assign rfl)) rfl ?_
  refine QJ.step (YldS.yld (y_assign rfl)) rfl ?_
  refine QJ.done ?_
  refine PJ.next ?_
  refine WJ.seq ?_
  refine WJ.quiet ?_
  refine QJ.step (YldS.yld (y_move rfl)) rfl ?_
  refine QJ.step (YldS.yld (y_assign rfl)) rfl ?_
  refine QJ.done ?_
  refine PJ.next ?_
  obtain ⟨kj14, hk15, hm⟩ := withK_open hm
  refine WJ.join (X := Int) (fun (x : Int) => kj14 x = some r) (fun (x : Int) => [(1, .int .i64 spot2), (3, pt g4 0), (7, .int .i64 q7), (8, .int .i64 q11), (9, .int .i64 x)]) (fun (x : Int) => [box g4 25 [.int .i64 r1.spots, .int .i64 r1.ink, .int .i64 r1.takes]]) ?_ ?_
  · clear hk15
    refine WJ.seq ?_
    refine WJ.quiet ?_
    refine QJ.step (YldS.yld (y_move rfl)) rfl ?_
    refine QJ.step (YldS.yld (y_move rfl)) rfl ?_
    refine QJ.step (YldS.yld (y_bin rfl rfl rfl)) rfl ?_
    refine QJ.done ?_
    refine PJ.next ?_
    refine WJ.cond (t := decide (spot2 < q11)) rfl (fun hb16 => ?_) (fun hb16 => ?_)
    · replace hm := ifT hm hb16
      refine WJ.quiet ?_
      refine QJ.step (YldS.yld (y_move rfl)) rfl ?_
      refine QJ.step (YldS.yld (y_bin rfl rfl rfl)) rfl ?_
      refine QJ.step (YldS.yld (y_assign rfl)) rfl ?_
      refine QJ.done ?_
      exact PJ.joined (w64 (q7 + 1)) [0] hm ⟨rfl, rfl, rfl, rfl, rfl, trivial⟩ ⟨by decide, rfl⟩
    · replace hm := ifF hm hb16
      refine WJ.skip ?_
      exact PJ.joined q7 [0] hm ⟨rfl, rfl, rfl, rfl, rfl, trivial⟩ ⟨by decide, rfl⟩
  · rintro n13 hm
    subst hk15
    refine WJ.seq ?_
    refine WJ.seq ?_
    refine WJ.quiet ?_
    refine QJ.step (YldS.yld (y_loadBN (k := 0) (off := 0) (us := [.int .i64 r1.spots, .int .i64 r1.ink, .int .i64 r1.takes]) rfl Tryd.isAgg25 Tryd.sizeOf25 rfl rfl)) rfl ?_
    refine QJ.step (YldS.yld (y_move rfl)) rfl ?_
    obtain ⟨r17, h18, hm⟩ := bindS hm
    refine QJ.step (y_call Tryd.call53 rfl (RetG.quiet fun w hw => ok_i_Ribbon_isEnd h18 w )) rfl ?_
    refine QJ.done ?_
    refine PJ.next ?_
    refine WJ.cond (t := r17) rfl (fun hb19 => ?_) (fun hb19 => ?_)
    · replace hm := ifT hm hb19
      refine WJ.seq ?_
      refine WJ.quiet ?_
      refine QJ.step (YldS.yld (y_move rfl)) rfl ?_
      refine QJ.step (YldS.yld (y_assign rfl)) rfl ?_
      refine QJ.done ?_
      refine PJ.next ?_
      refine WJ.ret ?_
      refine PJ.then_ret ?_
      obtain rfl := Option.some.inj hm
      refine PJ.sel (L' := []) [] ⟨List.nodup_nil, rfl⟩ ?_
      exact PJ.retn (vs := [.int .i64 n13]) Tryd.results30 ⟨rfl, trivial⟩ ⟨rfl, rfl⟩
    · replace hm := ifF hm hb19
      refine WJ.skip ?_
      refine PJ.next ?_
      refine WJ.seq ?_
      refine WJ.quiet ?_
      refine QJ.step (YldS.yld (y_move rfl)) rfl ?_
      refine QJ.step (YldS.yld (y_move rfl)) rfl ?_
      refine QJ.step (YldS.yld (y_bin rfl rfl rfl)) rfl ?_
      refine QJ.step (YldS.yld (y_assign rfl)) rfl ?_
      refine QJ.done ?_
      refine PJ.next ?_
      obtain ⟨kj21, hk22, hm⟩ := withK_open hm
      refine WJ.join (X := Int) (fun (x : Int) => kj21 x = some r) (fun (x : Int) => [(9, .int .i64 x)]) (fun (x : Int) => []) ?_ ?_
      · clear hk22
        refine WJ.seq ?_
        refine WJ.quiet ?_
        refine QJ.step (YldS.yld (y_loadBN (k := 0) (off := 0) (us := [.int .i64 r1.spots, .int .i64 r1.ink, .int .i64 r1.takes]) rfl Tryd.isAgg25 Tryd.sizeOf25 rfl rfl)) rfl ?_
        obtain ⟨r23, h24, hm⟩ := bindS hm
        refine QJ.step (y_call Tryd.call52 rfl (RetG.quiet fun w hw => ok_i_Ribbon_period h24 w )) rfl ?_
        refine QJ.step (YldS.yld (y_move rfl)) rfl ?_
        refine QJ.step (YldS.yld (y_bin rfl rfl rfl)) rfl ?_
        refine QJ.step (YldS.yld (y_move rfl)) rfl ?_
        refine QJ.step (YldS.yld (y_bin rfl rfl rfl)) rfl ?_
        refine QJ.done ?_
        refine PJ.next ?_
        refine WJ.cond (t := decide ((w64 (r23 - spot2)) < q11)) rfl (fun hb25 => ?_) (fun hb25 => ?_)
        · replace hm := ifT hm hb25
          refine WJ.quiet ?_
          refine QJ.step (YldS.yld (y_move rfl)) rfl ?_
          refine QJ.step (YldS.yld (y_bin rfl rfl rfl)) rfl ?_
          refine QJ.step (YldS.yld (y_assign rfl)) rfl ?_
          refine QJ.done ?_
          exact PJ.joined (w64 ((w64 (n13 + q7)) + 1)) [] hm ⟨rfl, trivial⟩ ⟨List.nodup_nil, rfl⟩
        · replace hm := ifF hm hb25
          refine WJ.skip ?_
          exact PJ.joined (w64 (n13 + q7)) [] hm ⟨rfl, trivial⟩ ⟨List.nodup_nil, rfl⟩
      · rintro n20 hm
        subst hk22
        refine WJ.seq ?_
        refine WJ.quiet ?_
        refine QJ.step (YldS.yld (y_move rfl)) rfl ?_
        refine QJ.step (YldS.yld (y_assign rfl)) rfl ?_
        refine QJ.done ?_
        refine PJ.next ?_
        refine WJ.ret ?_
        obtain rfl := Option.some.inj hm
        refine PJ.sel (L' := []) [] ⟨List.nodup_nil, rfl⟩ ?_
        exact PJ.retn (vs := [.int .i64 n20]) Tryd.results30 ⟨rfl, trivial⟩ ⟨rfl, rfl⟩

set_option maxRecDepth 100000 in
set_option maxHeartbeats 1000000 in
theorem ok_i_UsesOf {N : Nat} {r1 : Ribbon} {strokes2 : Int} {r : (List Int) × Int} (hm : i_UsesOf N r1 strokes2 = some r) (w : World)  :
    Calls Tryd.prog 7 #[.agg (Ribbon.enc r1).toArray, .int .i64 strokes2] w (RetG (cx w) fun u L => ∃ (u1 : Value), (u = tup [u1, .int .i64 r.2] ∧ L = [row u1 2 fI64 r.1])) := by
  unfold i_UsesOf at hm
  refine Calls.enter [.agg (Ribbon.enc r1).toArray, .int .i64 strokes2] Tryd.func7 rfl Tryd.ntmps7 rfl ?_
  refine WJ.seq ?_
  refine WJ.reg ?_
  refine SJ.box (cs := [.int .i64 r1.spots, .int .i64 r1.ink, .int .i64 r1.takes]) rfl rfl rfl fun g3 => ?_
  refine SJ.q (YldS.yld (y_assign rfl)) rfl ?_
  refine SJ.q (YldS.yld (y_assign rfl)) rfl ?_
  refine SJ.nil ?_
  refine PJ.next ?_
  refine WJ.seq ?_
  refine WJ.seq ?_
  refine WJ.quiet ?_
  refine QJ.step (YldS.yld (y_loadBN (k := 0) (off := 0) (us := [.int .i64 r1.spots, .int .i64 r1.ink, .int .i64 r1.takes]) rfl Tryd.isAgg25 Tryd.sizeOf25 rfl rfl)) rfl ?_
  obtain ⟨r4, h5, hm⟩ := bindS hm
  refine QJ.step (y_call Tryd.call18 rfl (RetG.quiet fun w hw => ok_i_ValidRibbon h5 w )) rfl ?_
  refine QJ.step (YldS.yld (y_not rfl)) rfl ?_
  refine QJ.done ?_
  refine PJ.next ?_
  refine WJ.cond (t := !r4) rfl (fun hb6 => ?_) (fun hb6 => ?_)
  · replace hm := ifT hm hb6
    refine WJ.seq ?_
    refine WJ.quiet ?_
    refine QJ.step (YldS.yld (y_assign rfl)) rfl ?_
    refine QJ.step (YldS.yld (y_assign rfl)) rfl ?_
    refine QJ.done ?_
    refine PJ.next ?_
    refine WJ.ret ?_
    refine PJ.then_ret ?_
    refine PJ.nil_row 2 fI64 ?_
    obtain rfl := Option.some.inj hm
    refine PJ.sel (L' := [row (.slice none 0 0) 2 fI64 []]) [0] ⟨by decide, rfl⟩ ?_
    exact PJ.retn (vs := [(.slice none 0 0), .int .i64 1]) Tryd.results7 ⟨rfl, rfl, trivial⟩ ⟨_, rfl, rfl⟩
  · replace hm := ifF hm hb6
    refine WJ.skip ?_
    refine PJ.next ?_
    refine WJ.seq ?_
    refine WJ.seq ?_
    refine WJ.quiet ?_
    refine QJ.step (YldS.yld (y_move rfl)) rfl ?_
    obtain ⟨r7, h8, hm⟩ := bindS hm
    refine QJ.step (y_call Tryd.call29 rfl (RetG.quiet fun w hw => ok_i_isUse h8 w )) rfl ?_
    refine QJ.step (YldS.yld (y_not rfl)) rfl ?_
    refine QJ.done ?_
    refine PJ.next ?_
    refine WJ.cond (t := !r7) rfl (fun hb9 => ?_) (fun hb9 => ?_)
    · replace hm := ifT hm hb9
      refine WJ.seq ?_
      refine WJ.quiet ?_
      refine QJ.step (YldS.yld (y_assign rfl)) rfl ?_
      refine QJ.step (YldS.yld (y_assign rfl)) rfl ?_
      refine QJ.done ?_
      refine PJ.next ?_
      refine WJ.ret ?_
      refine PJ.then_ret ?_
      refine PJ.nil_row 2 fI64 ?_
      obtain rfl := Option.some.inj hm
      refine PJ.sel (L' := [row (.slice none 0 0) 2 fI64 []]) [0] ⟨by decide, rfl⟩ ?_
      exact PJ.retn (vs := [(.slice none 0 0), .int .i64 2]) Tryd.results7 ⟨rfl, rfl, trivial⟩ ⟨_, rfl, rfl⟩
    · replace hm := ifF hm hb9
      refine WJ.skip ?_
      refine PJ.next ?_
      refine WJ.seq ?_
      refine WJ.reg ?_
      refine SJ.buildSlice (R := fI64) (os := []) [] Tryd.runUnderlying28 Tryd.sizeOf2 Tryd.zeroValue2 rfl rfl rfl rfl rfl rfl fun v10 => ?_
      refine SJ.q (YldS.yld (y_assign rfl)) rfl ?_
      refine SJ.nil ?_
      refine PJ.next ?_
      obtain ⟨kj13, hk14, hm⟩ := withK_open hm
      refine WJ.join (X := (List Int) × Value) (fun (x : (List Int) × Value) => kj13 x.1 = some r) (fun (x : (List Int) × Value) => [(6, x.2)]) (fun (x : (List Int) × Value) => [row x.2 2 fI64 x.1]) ?_ ?_
      · clear hk14
        refine WJ.seq ?_
        refine WJ.quiet ?_
        refine QJ.step (YldS.yld (y_fldB (o := 0) fld25_0 rfl)) rfl ?_
        refine QJ.step (YldS.yld (y_loadB (k := 1) (off := 0) (v := .int .i64 r1.spots) rfl Tryd.isAgg2 rfl rfl)) rfl ?_
        refine QJ.step (YldS.yld (y_move rfl)) rfl ?_
        refine QJ.done ?_
        refine PJ.next ?_
        refine WJ.block ?_
        refine WJ.sel (L' := (fun (x : (List Int) × Value × Int) => [row x.2.1 2 fI64 x.1, box g3 25 [.int .i64 r1.spots, .int .i64 r1.ink, .int .i64 r1.takes]]) ([], v10, 0)) [0, 1] ⟨by decide, rfl⟩ ?_
        refine WJ.sub (m' := (fun (x : (List Int) × Value × Int) => [(1, .int .i64 strokes2), (2, pt g3 0), (6, x.2.1), (16, .int .i64 r1.spots), (17, .int .i64 x.2.2)]) ([], v10, 0)) ⟨rfl, rfl, rfl, rfl, rfl, trivial⟩ ?_
        refine WJ.loop (X := (List Int) × Value × Int) (fun N (x : (List Int) × Value × Int) => i_UsesOf_l1 kj13 r1 strokes2 N x.1 x.2.2 = some r) (fun (x : (List Int) × Value × Int) => [(1, .int .i64 strokes2), (2, pt g3 0), (6, x.2.1), (16, .int .i64 r1.spots), (17, .int .i64 x.2.2)]) (fun (x : (List Int) × Value × Int) => [row x.2.1 2 fI64 x.1, box g3 25 [.int .i64 r1.spots, .int .i64 r1.ink, .int .i64 r1.takes]]) ?_ N ([], v10, 0) hm
        · rintro N ⟨l15, v16, x17⟩ hI
          have hm := hI; clear hI
          cases N with
          | zero => cases hm
          | succ N =>
          unfold i_UsesOf_l1 at hm
          refine WJ.seq ?_
          refine WJ.quiet ?_
          refine QJ.step (YldS.yld (y_bin rfl rfl rfl)) rfl ?_
          refine QJ.done ?_
          refine PJ.next ?_
          refine WJ.seq ?_
          refine WJ.cond (t := decide (x17 < r1.spots)) rfl (fun hb18 => ?_) (fun hb18 => ?_)
          · replace hm := ifT hm hb18
            refine WJ.skip ?_
            refine PJ.next ?_
            refine WJ.seq ?_
            refine WJ.block ?_
            refine WJ.seq ?_
            refine WJ.quiet ?_
            refine QJ.step (YldS.yld (y_move rfl)) rfl ?_
            refine QJ.step (YldS.yld (y_assign rfl)) rfl ?_
            refine QJ.done ?_
            refine PJ.next ?_
            refine WJ.reg ?_
            refine SJ.q (YldS.yld (y_move rfl)) rfl ?_
            refine SJ.q (YldS.yld (y_loadBN (k := 1) (off := 0) (us := [.int .i64 r1.spots, .int .i64 r1.ink, .int .i64 r1.takes]) rfl Tryd.isAgg25 Tryd.sizeOf25 rfl rfl)) rfl ?_
            refine SJ.q (YldS.yld (y_move rfl)) rfl ?_
            refine SJ.q (YldS.yld (y_move rfl)) rfl ?_
            obtain ⟨r19, h20, hm⟩ := bindS hm
            refine SJ.q (y_call Tryd.call30 rfl (RetG.quiet fun w hw => ok_i_Ribbon_uses h20 w )) rfl ?_
            refine SJ.buildSlice (R := fI64) (os := [.tmp 24]) [r19] Tryd.runUnderlying28 Tryd.sizeOf2 Tryd.zeroValue2 rfl rfl rfl rfl rfl rfl fun v21 => ?_
            obtain ⟨l22, h23, hm⟩ := bindS hm
            refine SJ.append (k := 1) (R := fI64) h23 rfl Tryd.underlying28 el2 rfl rfl rfl (fun w hw => (hw.row_rd (k := 0) rfl)) rfl fun v24 => ?_
            refine SJ.q (YldS.yld (y_assign rfl)) rfl ?_
            refine SJ.nil ?_
            refine PJ.block_normal (PJ.next ?_)
            refine WJ.quiet ?_
            refine QJ.step (YldS.yld (y_bin rfl rfl rfl)) rfl ?_
            refine QJ.step (YldS.yld (y_move rfl)) rfl ?_
            refine QJ.done ?_
            exact PJ.round (l22, v24, w64 (x17 + 1)) [1, 2] hm ⟨rfl, rfl, rfl, rfl, rfl, trivial⟩ ⟨by decide, rfl⟩
          · replace hm := ifF hm hb18
            refine WJ.exit ?_
            refine PJ.then_exit (PJ.then_exit (PJ.block_exit ?_))
            exact PJ.joined (l15, v16) [0] hm ⟨rfl, trivial⟩ ⟨by decide, rfl⟩
      · rintro ⟨l11, v12⟩ hm
        subst hk14
        refine WJ.seq ?_
        refine WJ.quiet ?_
        refine QJ.step (YldS.yld (y_move rfl)) rfl ?_
        refine QJ.step (YldS.yld (y_assign rfl)) rfl ?_
        refine QJ.step (YldS.yld (y_assign rfl)) rfl ?_
        refine QJ.done ?_
        refine PJ.next ?_
        refine WJ.ret ?_
        obtain rfl := Option.some.inj hm
        refine PJ.sel (L' := [row v12 2 fI64 l11]) [0] ⟨by decide, rfl⟩ ?_
        exact PJ.retn (vs := [v12, .int .i64 0]) Tryd.results7 ⟨rfl, rfl, trivial⟩ ⟨_, rfl, rfl⟩

set_option maxRecDepth 100000 in
set_option maxHeartbeats 1000000 in
theorem ok_s_l00In {n1 : Int} {low2 : Int} {high3 : Int} {r : Bool} (hm : s_l00In n1 low2 high3 = some r) (w : World)  :
    Calls Tryd.prog 54 #[.int .i64 n1, .int .i64 low2, .int .i64 high3] w (Ret (cx w) (.bool r)) := by
  unfold s_l00In at hm
  refine Calls.enter [.int .i64 n1, .int .i64 low2, .int .i64 high3] Tryd.func54 rfl Tryd.ntmps54 rfl ?_
  refine WJ.seq ?_
  refine WJ.quiet ?_
  refine QJ.step (YldS.yld (y_assign rfl)) rfl ?_
  refine QJ.done ?_
  refine PJ.next ?_
  refine WJ.seq ?_
  refine WJ.quiet ?_
  refine QJ.step (YldS.yld (y_move rfl)) rfl ?_
  refine QJ.step (YldS.yld (y_move rfl)) rfl ?_
  refine QJ.step (YldS.yld (y_bin rfl rfl rfl)) rfl ?_
  refine QJ.step (YldS.yld (y_move rfl)) rfl ?_
  obtain ⟨t4, h5, hm⟩ := bindS hm
  refine QJ.cut 4 [(14, .bool t4)] ?_ ?_
  · rcases Bool.eq_false_or_eq_true (decide (n1 ≥ low2)) with hb6 | hb6
    · replace h5 := andT h5 hb6
      refine QJ.on rfl rfl (cB hb6) (YldS.yld (y_move rfl)) rfl ?_
      refine QJ.on rfl rfl (cB hb6) (YldS.yld (y_move rfl)) rfl ?_
      refine QJ.on rfl rfl (cB hb6) (YldS.yld (y_bin rfl rfl rfl)) rfl ?_
      refine QJ.step (YldS.yld (y_pick_t (cB hb6) rfl)) rfl ?_
      obtain rfl := Option.some.inj h5
      exact QJ.cut_end ⟨rfl, trivial⟩
    · obtain rfl := andF h5 hb6
      refine QJ.off rfl rfl (cB hb6) rfl rfl ?_
      refine QJ.off rfl rfl (cB hb6) rfl rfl ?_
      refine QJ.off rfl rfl (cB hb6) rfl rfl ?_
      refine QJ.step (YldS.yld (y_pick_f (cB hb6) rfl)) rfl ?_
      exact QJ.cut_end ⟨rfl, trivial⟩
  refine QJ.step (YldS.yld (y_assign rfl)) rfl ?_
  refine QJ.done ?_
  refine PJ.next ?_
  refine WJ.ret ?_
  obtain rfl := Option.some.inj hm
  refine PJ.sel (L' := []) [] ⟨List.nodup_nil, rfl⟩ ?_
  exact PJ.retn (vs := [.bool t4]) Tryd.results54 ⟨rfl, trivial⟩ ⟨rfl, rfl⟩

set_option maxRecDepth 100000 in
set_option maxHeartbeats 1000000 in
theorem ok_s_l14Ok {r1 : Ribbon} {r : Bool} (hm : s_l14Ok r1 = some r) (w : World)  :
    Calls Tryd.prog 39 #[.agg (Ribbon.enc r1).toArray] w (Ret (cx w) (.bool r)) := by
  unfold s_l14Ok at hm
  refine Calls.enter [.agg (Ribbon.enc r1).toArray] Tryd.func39 rfl Tryd.ntmps39 rfl ?_
  refine WJ.seq ?_
  refine WJ.reg ?_
  refine SJ.box (cs := [.int .i64 r1.spots, .int .i64 r1.ink, .int .i64 r1.takes]) rfl rfl rfl fun g2 => ?_
  refine SJ.q (YldS.yld (y_assign rfl)) rfl ?_
  refine SJ.nil ?_
  refine PJ.next ?_
  refine WJ.seq ?_
  refine WJ.quiet ?_
  refine QJ.step (YldS.yld (y_fldB (o := 0) fld25_0 rfl)) rfl ?_
  refine QJ.step (YldS.yld (y_loadB (k := 0) (off := 0) (v := .int .i64 r1.spots) rfl Tryd.isAgg2 rfl rfl)) rfl ?_
  obtain ⟨r3, h4, hm⟩ := bindS hm
  refine QJ.step (y_call Tryd.call54 rfl (RetG.quiet fun w hw => ok_s_l00In h4 w )) rfl ?_
  refine QJ.step (YldS.yld (y_move rfl)) rfl ?_
  obtain ⟨t5, h6, hm⟩ := bindS hm
  refine QJ.cut 4 [(1, pt g2 0), (10, .bool t5)] ?_ ?_
  · rcases Bool.eq_false_or_eq_true r3 with hb7 | hb7
    · replace h6 := andT h6 hb7
      refine QJ.on rfl rfl (cB hb7) (YldS.yld (y_fldB (o := 0) fld25_1 rfl)) rfl ?_
      refine QJ.on rfl rfl (cB hb7) (YldS.yld (y_loadB (k := 0) (off := 1) (v := .int .i64 r1.ink) rfl Tryd.isAgg2 rfl rfl)) rfl ?_
      obtain ⟨r8, h9, h6⟩ := bindS h6
      refine QJ.on rfl rfl (cB hb7) (y_call Tryd.call54 rfl (RetG.quiet fun w hw => ok_s_l00In h9 w )) rfl ?_
      refine QJ.step (YldS.yld (y_pick_t (cB hb7) rfl)) rfl ?_
      obtain rfl := Option.some.inj h6
      exact QJ.cut_end ⟨rfl, rfl, trivial⟩
    · obtain rfl := andF h6 hb7
      refine QJ.off rfl rfl (cB hb7) rfl rfl ?_
      refine QJ.off rfl rfl (cB hb7) rfl rfl ?_
      refine QJ.off rfl rfl (cB hb7) rfl rfl ?_
      refine QJ.step (YldS.yld (y_pick_f (cB hb7) rfl)) rfl ?_
      exact QJ.cut_end ⟨rfl, rfl, trivial⟩
  refine QJ.step (YldS.yld (y_move rfl)) rfl ?_
  obtain ⟨t10, h11, hm⟩ := bindS hm
  refine QJ.cut 6 [(17, .bool t10)] ?_ ?_
  · rcases Bool.eq_false_or_eq_true t5 with hb12 | hb12
    · replace h11 := andT h11 hb12
      refine QJ.on rfl rfl (cB hb12) (YldS.yld (y_fldB (o := 0) fld25_2 rfl)) rfl ?_
      refine QJ.on rfl rfl (cB hb12) (YldS.yld (y_loadB (k := 0) (off := 2) (v := .int .i64 r1.takes) rfl Tryd.isAgg2 rfl rfl)) rfl ?_
      refine QJ.on rfl rfl (cB hb12) (YldS.yld (y_fldB (o := 0) fld25_1 rfl)) rfl ?_
      refine QJ.on rfl rfl (cB hb12) (YldS.yld (y_loadB (k := 0) (off := 1) (v := .int .i64 r1.ink) rfl Tryd.isAgg2 rfl rfl)) rfl ?_
      obtain ⟨r13, h14, h11⟩ := bindS h11
      refine QJ.on rfl rfl (cB hb12) (y_call Tryd.call54 rfl (RetG.quiet fun w hw => ok_s_l00In h14 w )) rfl ?_
      refine QJ.step (YldS.yld (y_pick_t (cB hb12) rfl)) rfl ?_
      obtain rfl := Option.some.inj h11
      exact QJ.cut_end ⟨rfl, trivial⟩
    · obtain rfl := andF h11 hb12
      refine QJ.off rfl rfl (cB hb12) rfl rfl ?_
      refine QJ.off rfl rfl (cB hb12) rfl rfl ?_
      refine QJ.off rfl rfl (cB hb12) rfl rfl ?_
      refine QJ.off rfl rfl (cB hb12) rfl rfl ?_
      refine QJ.off rfl rfl (cB hb12) rfl rfl ?_
      refine QJ.step (YldS.yld (y_pick_f (cB hb12) rfl)) rfl ?_
      exact QJ.cut_end ⟨rfl, trivial⟩
  refine QJ.step (YldS.yld (y_assign rfl)) rfl ?_
  refine QJ.done ?_
  refine PJ.next ?_
  refine WJ.ret ?_
  obtain rfl := Option.some.inj hm
  refine PJ.sel (L' := []) [] ⟨List.nodup_nil, rfl⟩ ?_
  exact PJ.retn (vs := [.bool t10]) Tryd.results39 ⟨rfl, trivial⟩ ⟨rfl, rfl⟩

set_option maxRecDepth 100000 in
set_option maxHeartbeats 1000000 in
theorem ok_s_l14Code {r1 : Ribbon} {strokes2 : Int} {r : Int} (hm : s_l14Code r1 strokes2 = some r) (w : World)  :
    Calls Tryd.prog 31 #[.agg (Ribbon.enc r1).toArray, .int .i64 strokes2] w (Ret (cx w) (.int .i64 r)) := by
  unfold s_l14Code at hm
  refine Calls.enter [.agg (Ribbon.enc r1).toArray, .int .i64 strokes2] Tryd.func31 rfl Tryd.ntmps31 rfl ?_
  refine WJ.seq ?_
  refine WJ.reg ?_
  refine SJ.box (cs := [.int .i64 r1.spots, .int .i64 r1.ink, .int .i64 r1.takes]) rfl rfl rfl fun g3 => ?_
  refine SJ.q (YldS.yld (y_assign rfl)) rfl ?_
  refine SJ.nil ?_
  refine PJ.next ?_
  refine WJ.seq ?_
  refine WJ.seq ?_
  refine WJ.quiet ?_
  refine QJ.step (YldS.yld (y_loadBN (k := 0) (off := 0) (us := [.int .i64 r1.spots, .int .i64 r1.ink, .int .i64 r1.takes]) rfl Tryd.isAgg25 Tryd.sizeOf25 rfl rfl)) rfl ?_
  obtain ⟨r4, h5, hm⟩ := bindS hm
  refine QJ.step (y_call Tryd.call39 rfl (RetG.quiet fun w hw => ok_s_l14Ok h5 w )) rfl ?_
  refine QJ.step (YldS.yld (y_not rfl)) rfl ?_
  refine QJ.done ?_
  refine PJ.next ?_
  refine WJ.cond (t := !r4) rfl (fun hb6 => ?_) (fun hb6 => ?_)
  · replace hm := ifT hm hb6
    refine WJ.seq ?_
    refine WJ.quiet ?_
    refine QJ.step (YldS.yld (y_assign rfl)) rfl ?_
    refine QJ.done ?_
    refine PJ.next ?_
    refine WJ.ret ?_
    refine PJ.then_ret ?_
    obtain rfl := Option.some.inj hm
    refine PJ.sel (L' := []) [] ⟨List.nodup_nil, rfl⟩ ?_
    exact PJ.retn (vs := [.int .i64 1]) Tryd.results31 ⟨rfl, trivial⟩ ⟨rfl, rfl⟩
  · replace hm := ifF hm hb6
    refine WJ.skip ?_
    refine PJ.next ?_
    refine WJ.seq ?_
    refine WJ.seq ?_
    refine WJ.quiet ?_
    refine QJ.step (YldS.yld (y_move rfl)) rfl ?_
    obtain ⟨r7, h8, hm⟩ := bindS hm
    refine QJ.step (y_call Tryd.call54 rfl (RetG.quiet fun w hw => ok_s_l00In h8 w )) rfl ?_
    refine QJ.step (YldS.yld (y_not rfl)) rfl ?_
    refine QJ.done ?_
    refine PJ.next ?_
    refine WJ.cond (t := !r7) rfl (fun hb9 => ?_) (fun hb9 => ?_)
    · replace hm := ifT hm hb9
      refine WJ.seq ?_
      refine WJ.quiet ?_
      refine QJ.step (YldS.yld (y_assign rfl)) rfl ?_
      refine QJ.done ?_
      refine PJ.next ?_
      refine WJ.ret ?_
      refine PJ.then_ret ?_
      obtain rfl := Option.some.inj hm
      refine PJ.sel (L' := []) [] ⟨List.nodup_nil, rfl⟩ ?_
      exact PJ.retn (vs := [.int .i64 2]) Tryd.results31 ⟨rfl, trivial⟩ ⟨rfl, rfl⟩
    · replace hm := ifF hm hb9
      refine WJ.skip ?_
      refine PJ.next ?_
      refine WJ.seq ?_
      refine WJ.quiet ?_
      refine QJ.step (YldS.yld (y_assign rfl)) rfl ?_
      refine QJ.done ?_
      refine PJ.next ?_
      refine WJ.ret ?_
      obtain rfl := Option.some.inj hm
      refine PJ.sel (L' := []) [] ⟨List.nodup_nil, rfl⟩ ?_
      exact PJ.retn (vs := [.int .i64 0]) Tryd.results31 ⟨rfl, trivial⟩ ⟨rfl, rfl⟩

set_option maxRecDepth 100000 in
set_option maxHeartbeats 1000000 in
theorem ok_s_l14Spot {r1 : Ribbon} {stroke2 : Int} {r : Int} (hm : s_l14Spot r1 stroke2 = some r) (w : World)  :
    Calls Tryd.prog 34 #[.agg (Ribbon.enc r1).toArray, .int .i64 stroke2] w (Ret (cx w) (.int .i64 r)) := by
  unfold s_l14Spot at hm
  refine Calls.enter [.agg (Ribbon.enc r1).toArray, .int .i64 stroke2] Tryd.func34 rfl Tryd.ntmps34 rfl ?_
  refine WJ.seq ?_
  refine WJ.reg ?_
  refine SJ.box (cs := [.int .i64 r1.spots, .int .i64 r1.ink, .int .i64 r1.takes]) rfl rfl rfl fun g3 => ?_
  refine SJ.q (YldS.yld (y_assign rfl)) rfl ?_
  refine SJ.nil ?_
  refine PJ.next ?_
  refine WJ.seq ?_
  refine WJ.quiet ?_
  refine QJ.step (YldS.yld (y_fldB (o := 0) fld25_0 rfl)) rfl ?_
  refine QJ.step (YldS.yld (y_loadB (k := 0) (off := 0) (v := .int .i64 r1.spots) rfl Tryd.isAgg2 rfl rfl)) rfl ?_
  refine QJ.step (YldS.yld (y_bin rfl rfl rfl)) rfl ?_
  refine QJ.step (YldS.yld (y_bin rfl rfl rfl)) rfl ?_
  refine QJ.step (YldS.yld (y_assign rfl)) rfl ?_
  refine QJ.done ?_
  refine PJ.next ?_
  refine WJ.seq ?_
  refine WJ.quiet ?_
  refine QJ.step (YldS.yld (y_move rfl)) rfl ?_
  refine QJ.step (YldS.yld (y_move rfl)) rfl ?_
  obtain ⟨q4, h5, hm⟩ := bindS hm
  refine QJ.step (YldS.yld (y_rem' h5 rfl rfl)) rfl ?_
  refine QJ.step (YldS.yld (y_assign rfl)) rfl ?_
  refine QJ.done ?_
  refine PJ.next ?_
  refine WJ.seq ?_
  refine WJ.seq ?_
  refine WJ.quiet ?_
  refine QJ.step (YldS.yld (y_move rfl)) rfl ?_
  refine QJ.step (YldS.yld (y_fldB (o := 0) fld25_0 rfl)) rfl ?_
  refine QJ.step (YldS.yld (y_loadB (k := 0) (off := 0) (v := .int .i64 r1.spots) rfl Tryd.isAgg2 rfl rfl)) rfl ?_
  refine QJ.step (YldS.yld (y_bin rfl rfl rfl)) rfl ?_
  refine QJ.done ?_
  refine PJ.next ?_
  refine WJ.cond (t := decide (q4 ≥ r1.spots)) rfl (fun hb6 => ?_) (fun hb6 => ?_)
  · replace hm := ifT hm hb6
    refine WJ.seq ?_
    refine WJ.quiet ?_
    refine QJ.step (YldS.yld (y_move rfl)) rfl ?_
    refine QJ.step (YldS.yld (y_move rfl)) rfl ?_
    refine QJ.step (YldS.yld (y_bin rfl rfl rfl)) rfl ?_
    refine QJ.step (YldS.yld (y_assign rfl)) rfl ?_
    refine QJ.done ?_
    refine PJ.next ?_
    refine WJ.ret ?_
    refine PJ.then_ret ?_
    obtain rfl := Option.some.inj hm
    refine PJ.sel (L' := []) [] ⟨List.nodup_nil, rfl⟩ ?_
    exact PJ.retn (vs := [.int .i64 (w64 ((w64 (2 * (w64 (r1.spots - 1)))) - q4))]) Tryd.results34 ⟨rfl, trivial⟩ ⟨rfl, rfl⟩
  · replace hm := ifF hm hb6
    refine WJ.skip ?_
    refine PJ.next ?_
    refine WJ.seq ?_
    refine WJ.quiet ?_
    refine QJ.step (YldS.yld (y_move rfl)) rfl ?_
    refine QJ.step (YldS.yld (y_assign rfl)) rfl ?_
    refine QJ.done ?_
    refine PJ.next ?_
    refine WJ.ret ?_
    obtain rfl := Option.some.inj hm
    refine PJ.sel (L' := []) [] ⟨List.nodup_nil, rfl⟩ ?_
    exact PJ.retn (vs := [.int .i64 q4]) Tryd.results34 ⟨rfl, trivial⟩ ⟨rfl, rfl⟩

set_option maxRecDepth 100000 in
set_option maxHeartbeats 1000000 in
theorem ok_s_l14Before {N : Nat} {r1 : Ribbon} {strokes2 : Int} {spot3 : Int} {r : Int} (hm : s_l14Before N r1 strokes2 spot3 = some r) (w : World)  :
    Calls Tryd.prog 32 #[.agg (Ribbon.enc r1).toArray, .int .i64 strokes2, .int .i64 spot3] w (Ret (cx w) (.int .i64 r)) := by
  unfold s_l14Before at hm
  refine Calls.enter [.agg (Ribbon.enc r1).toArray, .int .i64 strokes2, .int .i64 spot3] Tryd.func32 rfl Tryd.ntmps32 rfl ?_
  refine WJ.seq ?_
  refine WJ.reg ?_
  refine SJ.box (cs := [.int .i64 r1.spots, .int .i64 r1.ink, .int .i64 r1.takes]) rfl rfl rfl fun g4 => ?_
  refine SJ.q (YldS.yld (y_assign rfl)) rfl ?_
  refine SJ.nil ?_
  refine PJ.next ?_
  refine WJ.seq ?_
  refine WJ.quiet ?_
  refine QJ.step (YldS.yld (y_fldB (o := 0) fld25_0 rfl)) rfl ?_
  refine QJ.step (YldS.yld (y_loadB (k := 0) (off := 0) (v := .int .i64 r1.spots) rfl Tryd.isAgg2 rfl rfl)) rfl ?_
  refine QJ.step (YldS.yld (y_bin rfl rfl rfl)) rfl ?_
  refine QJ.step (YldS.yld (y_bin rfl rfl rfl)) rfl ?_
  refine QJ.step (YldS.yld (y_assign rfl)) rfl ?_
  refine QJ.done ?_
  refine PJ.next ?_
  refine WJ.seq ?_
  refine WJ.quiet ?_
  refine QJ.step (YldS.yld (y_move rfl)) rfl ?_
  refine QJ.step (YldS.yld (y_move rfl)) rfl ?_
  obtain ⟨q5, h6, hm⟩ := bindS hm
  refine QJ.step (YldS.yld (y_quo' h6 rfl rfl)) rfl ?_
  refine QJ.step (YldS.yld (y_assign rfl)) rfl ?_
  refine QJ.done ?_
  refine PJ.next ?_
  refine WJ.seq ?_
  refine WJ.quiet ?_
  refine QJ.step (YldS.yld (y_move rfl)) rfl ?_
  refine QJ.step (YldS.yld (y_assign rfl)) rfl ?_
  refine QJ.done ?_
  refine PJ.next ?_
  obtain ⟨kj8, hk9, hm⟩ := withK_open hm
  refine WJ.join (X := Int) (fun (x : Int) => kj8 x = some r) (fun (x : Int) => [(1, .int .i64 strokes2), (2, .int .i64 spot3), (3, pt g4 0), (7, .int .i64 (w64 (2 * (w64 (r1.spots - 1))))), (8, .int .i64 q5), (9, .int .i64 x)]) (fun (x : Int) => [box g4 25 [.int .i64 r1.spots, .int .i64 r1.ink, .int .i64 r1.takes]]) ?_ ?_
  · clear hk9
    refine WJ.seq ?_
    refine WJ.quiet ?_
    refine QJ.step (YldS.yld (y_move rfl)) rfl ?_
    refine QJ.step (YldS.yld (y_bin rfl rfl rfl)) rfl ?_
    refine QJ.step (YldS.yld (y_move rfl)) rfl ?_
    obtain ⟨t10, h11, hm⟩ := bindS hm
    refine QJ.cut 6 [(1, .int .i64 strokes2), (2, .int .i64 spot3), (3, pt g4 0), (7, .int .i64 (w64 (2 * (w64 (r1.spots - 1))))), (8, .int .i64 q5), (9, .int .i64 q5), (27, .bool t10)] ?_ ?_
    · rcases Bool.eq_false_or_eq_true (decide (spot3 > 0)) with hb12 | hb12
      · replace h11 := andT h11 hb12
        refine QJ.on rfl rfl (cB hb12) (YldS.yld (y_move rfl)) rfl ?_
        refine QJ.on rfl rfl (cB hb12) (YldS.yld (y_fldB (o := 0) fld25_0 rfl)) rfl ?_
        refine QJ.on rfl rfl (cB hb12) (YldS.yld (y_loadB (k := 0) (off := 0) (v := .int .i64 r1.spots) rfl Tryd.isAgg2 rfl rfl)) rfl ?_
        refine QJ.on rfl rfl (cB hb12) (YldS.yld (y_bin rfl rfl rfl)) rfl ?_
        refine QJ.on rfl rfl (cB hb12) (YldS.yld (y_bin rfl rfl rfl)) rfl ?_
        refine QJ.step (YldS.yld (y_pick_t (cB hb12) rfl)) rfl ?_
        obtain rfl := Option.some.inj h11
        exact QJ.cut_end ⟨rfl, rfl, rfl, rfl, rfl, rfl, rfl, trivial⟩
      · obtain rfl := andF h11 hb12
        refine QJ.off rfl rfl (cB hb12) rfl rfl ?_
        refine QJ.off rfl rfl (cB hb12) rfl rfl ?_
        refine QJ.off rfl rfl (cB hb12) rfl rfl ?_
        refine QJ.off rfl rfl (cB hb12) rfl rfl ?_
        refine QJ.off rfl rfl (cB hb12) rfl rfl ?_
        refine QJ.step (YldS.yld (y_pick_f (cB hb12) rfl)) rfl ?_
        exact QJ.cut_end ⟨rfl, rfl, rfl, rfl, rfl, rfl, rfl, trivial⟩
    refine QJ.done ?_
    refine PJ.next ?_
    refine WJ.cond (t := t10) rfl (fun hb13 => ?_) (fun hb13 => ?_)
    · replace hm := ifT hm hb13
      refine WJ.quiet ?_
      refine QJ.step (YldS.yld (y_move rfl)) rfl ?_
      refine QJ.step (YldS.yld (y_bin rfl rfl rfl)) rfl ?_
      refine QJ.step (YldS.yld (y_assign rfl)) rfl ?_
      refine QJ.done ?_
      exact PJ.joined (w64 (2 * q5)) [0] hm ⟨rfl, rfl, rfl, rfl, rfl, rfl, trivial⟩ ⟨by decide, rfl⟩
    · replace hm := ifF hm hb13
      refine WJ.skip ?_
      exact PJ.joined q5 [0] hm ⟨rfl, rfl, rfl, rfl, rfl, rfl, trivial⟩ ⟨by decide, rfl⟩
  · rintro uses7 hm
    subst hk9
    obtain ⟨kj15, hk16, hm⟩ := withK_open hm
    refine WJ.join (X := Int) (fun (x : Int) => kj15 x = some r) (fun (x : Int) => [(9, .int .i64 x)]) (fun (x : Int) => []) ?_ ?_
    · clear hk16
      refine WJ.seq ?_
      refine WJ.quiet ?_
      refine QJ.step (YldS.yld (y_move rfl)) rfl ?_
      refine QJ.step (YldS.yld (y_move rfl)) rfl ?_
      refine QJ.step (YldS.yld (y_bin rfl rfl rfl)) rfl ?_
      refine QJ.step (YldS.yld (y_assign rfl)) rfl ?_
      refine QJ.done ?_
      refine PJ.next ?_
      refine WJ.block ?_
      refine WJ.sel (L' := (fun (x : Int × Int) => [box g4 25 [.int .i64 r1.spots, .int .i64 r1.ink, .int .i64 r1.takes]]) (uses7, w64 (q5 * (w64 (2 * (w64 (r1.spots - 1))))))) [0] ⟨by decide, rfl⟩ ?_
      refine WJ.sub (m' := (fun (x : Int × Int) => [(1, .int .i64 strokes2), (2, .int .i64 spot3), (3, pt g4 0), (9, .int .i64 x.1), (10, .int .i64 x.2)]) (uses7, w64 (q5 * (w64 (2 * (w64 (r1.spots - 1))))))) ⟨rfl, rfl, rfl, rfl, rfl, trivial⟩ ?_
      refine WJ.loop (X := Int × Int) (fun N (x : Int × Int) => s_l14Before_l1 kj15 r1 strokes2 spot3 N x.1 x.2 = some r) (fun (x : Int × Int) => [(1, .int .i64 strokes2), (2, .int .i64 spot3), (3, pt g4 0), (9, .int .i64 x.1), (10, .int .i64 x.2)]) (fun (x : Int × Int) => [box g4 25 [.int .i64 r1.spots, .int .i64 r1.ink, .int .i64 r1.takes]]) ?_ N (uses7, w64 (q5 * (w64 (2 * (w64 (r1.spots - 1)))))) hm
      · rintro N ⟨uses17, k18⟩ hI
        have hm := hI; clear hI
        cases N with
        | zero => cases hm
        | succ N =>
        unfold s_l14Before_l1 at hm
        refine WJ.seq ?_
        refine WJ.seq ?_
        refine WJ.quiet ?_
        refine QJ.step (YldS.yld (y_move rfl)) rfl ?_
        refine QJ.step (YldS.yld (y_move rfl)) rfl ?_
        refine QJ.step (YldS.yld (y_bin rfl rfl rfl)) rfl ?_
        refine QJ.done ?_
        refine PJ.next ?_
        refine WJ.cond (t := decide (k18 < strokes2)) rfl (fun hb19 => ?_) (fun hb19 => ?_)
        · replace hm := ifT hm hb19
          refine WJ.skip ?_
          refine PJ.next ?_
          obtain ⟨kj21, hk22, hm⟩ := withK_open hm
          refine WJ.join (X := Int) (fun (x : Int) => kj21 x = some r) (fun (x : Int) => [(1, .int .i64 strokes2), (2, .int .i64 spot3), (3, pt g4 0), (9, .int .i64 x), (10, .int .i64 k18)]) (fun (x : Int) => [box g4 25 [.int .i64 r1.spots, .int .i64 r1.ink, .int .i64 r1.takes]]) ?_ ?_
          · clear hk22
            refine WJ.block ?_
            refine WJ.seq ?_
            refine WJ.quiet ?_
            refine QJ.step (YldS.yld (y_loadBN (k := 0) (off := 0) (us := [.int .i64 r1.spots, .int .i64 r1.ink, .int .i64 r1.takes]) rfl Tryd.isAgg25 Tryd.sizeOf25 rfl rfl)) rfl ?_
            refine QJ.step (YldS.yld (y_move rfl)) rfl ?_
            obtain ⟨r23, h24, hm⟩ := bindS hm
            refine QJ.step (y_call Tryd.call34 rfl (RetG.quiet fun w hw => ok_s_l14Spot h24 w )) rfl ?_
            refine QJ.step (YldS.yld (y_move rfl)) rfl ?_
            refine QJ.step (YldS.yld (y_bin rfl rfl rfl)) rfl ?_
            refine QJ.done ?_
            refine PJ.next ?_
            refine WJ.cond (t := (r23 == spot3)) rfl (fun hb25 => ?_) (fun hb25 => ?_)
            · replace hm := ifT hm hb25
              refine WJ.quiet ?_
              refine QJ.step (YldS.yld (y_move rfl)) rfl ?_
              refine QJ.step (YldS.yld (y_bin rfl rfl rfl)) rfl ?_
              refine QJ.step (YldS.yld (y_assign rfl)) rfl ?_
              refine QJ.done ?_
              refine PJ.block_normal ?_
              exact PJ.joined (w64 (uses17 + 1)) [0] hm ⟨rfl, rfl, rfl, rfl, rfl, trivial⟩ ⟨by decide, rfl⟩
            · replace hm := ifF hm hb25
              refine WJ.skip ?_
              refine PJ.block_normal ?_
              exact PJ.joined uses17 [0] hm ⟨rfl, rfl, rfl, rfl, rfl, trivial⟩ ⟨by decide, rfl⟩
          · rintro uses20 hm
            subst hk22
            refine WJ.quiet ?_
            refine QJ.step (YldS.yld (y_move rfl)) rfl ?_
            refine QJ.step (YldS.yld (y_bin rfl rfl rfl)) rfl ?_
            refine QJ.step (YldS.yld (y_assign rfl)) rfl ?_
            refine QJ.done ?_
            exact PJ.round (uses20, w64 (k18 + 1)) [0] hm ⟨rfl, rfl, rfl, rfl, rfl, trivial⟩ ⟨by decide, rfl⟩
        · replace hm := ifF hm hb19
          refine WJ.exit ?_
          refine PJ.then_exit (PJ.then_exit (PJ.block_exit ?_))
          exact PJ.joined uses17 [] hm ⟨rfl, trivial⟩ ⟨List.nodup_nil, rfl⟩
    · rintro uses14 hm
      subst hk16
      refine WJ.seq ?_
      refine WJ.quiet ?_
      refine QJ.step (YldS.yld (y_move rfl)) rfl ?_
      refine QJ.step (YldS.yld (y_assign rfl)) rfl ?_
      refine QJ.done ?_
      refine PJ.next ?_
      refine WJ.ret ?_
      obtain rfl := Option.some.inj hm
      refine PJ.sel (L' := []) [] ⟨List.nodup_nil, rfl⟩ ?_
      exact PJ.retn (vs := [.int .i64 uses14]) Tryd.results32 ⟨rfl, trivial⟩ ⟨rfl, rfl⟩

set_option maxRecDepth 100000 in
set_option maxHeartbeats 1000000 in
theorem ok_s_UsesOf {N : Nat} {r1 : Ribbon} {strokes2 : Int} {r : (List Int) × Int} (hm : s_UsesOf N r1 strokes2 = some r) (w : World)  :
    Calls Tryd.prog 8 #[.agg (Ribbon.enc r1).toArray, .int .i64 strokes2] w (RetG (cx w) fun u L => ∃ (u1 : Value), (u = tup [u1, .int .i64 r.2] ∧ L = [row u1 2 fI64 r.1])) := by
  unfold s_UsesOf at hm
  refine Calls.enter [.agg (Ribbon.enc r1).toArray, .int .i64 strokes2] Tryd.func8 rfl Tryd.ntmps8 rfl ?_
  refine WJ.seq ?_
  refine WJ.reg ?_
  refine SJ.box (cs := [.int .i64 r1.spots, .int .i64 r1.ink, .int .i64 r1.takes]) rfl rfl rfl fun g3 => ?_
  refine SJ.q (YldS.yld (y_assign rfl)) rfl ?_
  refine SJ.q (YldS.yld (y_assign rfl)) rfl ?_
  refine SJ.nil ?_
  refine PJ.next ?_
  refine WJ.seq ?_
  refine WJ.quiet ?_
  refine QJ.step (YldS.yld (y_loadBN (k := 0) (off := 0) (us := [.int .i64 r1.spots, .int .i64 r1.ink, .int .i64 r1.takes]) rfl Tryd.isAgg25 Tryd.sizeOf25 rfl rfl)) rfl ?_
  refine QJ.step (YldS.yld (y_move rfl)) rfl ?_
  obtain ⟨r4, h5, hm⟩ := bindS hm
  refine QJ.step (y_call Tryd.call31 rfl (RetG.quiet fun w hw => ok_s_l14Code h5 w )) rfl ?_
  refine QJ.step (YldS.yld (y_assign rfl)) rfl ?_
  refine QJ.done ?_
  refine PJ.next ?_
  refine WJ.seq ?_
  refine WJ.seq ?_
  refine WJ.quiet ?_
  refine QJ.step (YldS.yld (y_move rfl)) rfl ?_
  refine QJ.step (YldS.yld (y_bin rfl rfl rfl)) rfl ?_
  refine QJ.done ?_
  refine PJ.next ?_
  refine WJ.cond (t := (r4 != 0)) rfl (fun hb6 => ?_) (fun hb6 => ?_)
  · replace hm := ifT hm hb6
    refine WJ.seq ?_
    refine WJ.quiet ?_
    refine QJ.step (YldS.yld (y_move rfl)) rfl ?_
    refine QJ.step (YldS.yld (y_assign rfl)) rfl ?_
    refine QJ.step (YldS.yld (y_assign rfl)) rfl ?_
    refine QJ.done ?_
    refine PJ.next ?_
    refine WJ.ret ?_
    refine PJ.then_ret ?_
    refine PJ.nil_row 2 fI64 ?_
    obtain rfl := Option.some.inj hm
    refine PJ.sel (L' := [row (.slice none 0 0) 2 fI64 []]) [0] ⟨by decide, rfl⟩ ?_
    exact PJ.retn (vs := [(.slice none 0 0), .int .i64 r4]) Tryd.results8 ⟨rfl, rfl, trivial⟩ ⟨_, rfl, rfl⟩
  · replace hm := ifF hm hb6
    refine WJ.skip ?_
    refine PJ.next ?_
    refine WJ.seq ?_
    refine WJ.reg ?_
    refine SJ.buildSlice (R := fI64) (os := []) [] Tryd.runUnderlying28 Tryd.sizeOf2 Tryd.zeroValue2 rfl rfl rfl rfl rfl rfl fun v7 => ?_
    refine SJ.q (YldS.yld (y_assign rfl)) rfl ?_
    refine SJ.nil ?_
    refine PJ.next ?_
    obtain ⟨kj10, hk11, hm⟩ := withK_open hm
    refine WJ.join (X := (List Int) × Value) (fun (x : (List Int) × Value) => kj10 x.1 = some r) (fun (x : (List Int) × Value) => [(7, x.2)]) (fun (x : (List Int) × Value) => [row x.2 2 fI64 x.1]) ?_ ?_
    · clear hk11
      refine WJ.seq ?_
      refine WJ.quiet ?_
      refine QJ.step (YldS.yld (y_assign rfl)) rfl ?_
      refine QJ.done ?_
      refine PJ.next ?_
      refine WJ.block ?_
      refine WJ.sel (L' := (fun (x : (List Int) × Value × Int) => [row x.2.1 2 fI64 x.1, box g3 25 [.int .i64 r1.spots, .int .i64 r1.ink, .int .i64 r1.takes]]) ([], v7, 0)) [0, 1] ⟨by decide, rfl⟩ ?_
      refine WJ.sub (m' := (fun (x : (List Int) × Value × Int) => [(1, .int .i64 strokes2), (2, pt g3 0), (7, x.2.1), (8, .int .i64 x.2.2)]) ([], v7, 0)) ⟨rfl, rfl, rfl, rfl, trivial⟩ ?_
      refine WJ.loop (X := (List Int) × Value × Int) (fun N (x : (List Int) × Value × Int) => s_UsesOf_l1 kj10 r1 strokes2 N x.1 x.2.2 = some r) (fun (x : (List Int) × Value × Int) => [(1, .int .i64 strokes2), (2, pt g3 0), (7, x.2.1), (8, .int .i64 x.2.2)]) (fun (x : (List Int) × Value × Int) => [row x.2.1 2 fI64 x.1, box g3 25 [.int .i64 r1.spots, .int .i64 r1.ink, .int .i64 r1.takes]]) ?_ N ([], v7, 0) hm
      · rintro N ⟨l12, v13, k14⟩ hI
        have hm := hI; clear hI
        cases N with
        | zero => cases hm
        | succ N =>
        unfold s_UsesOf_l1 at hm
        refine WJ.seq ?_
        refine WJ.seq ?_
        refine WJ.quiet ?_
        refine QJ.step (YldS.yld (y_move rfl)) rfl ?_
        refine QJ.step (YldS.yld (y_fldB (o := 0) fld25_0 rfl)) rfl ?_
        refine QJ.step (YldS.yld (y_loadB (k := 1) (off := 0) (v := .int .i64 r1.spots) rfl Tryd.isAgg2 rfl rfl)) rfl ?_
        refine QJ.step (YldS.yld (y_bin rfl rfl rfl)) rfl ?_
        refine QJ.done ?_
        refine PJ.next ?_
        refine WJ.cond (t := decide (k14 < r1.spots)) rfl (fun hb15 => ?_) (fun hb15 => ?_)
        · replace hm := ifT hm hb15
          refine WJ.skip ?_
          refine PJ.next ?_
          refine WJ.seq ?_
          refine WJ.block ?_
          refine WJ.reg ?_
          refine SJ.q (YldS.yld (y_move rfl)) rfl ?_
          refine SJ.q (YldS.yld (y_loadBN (k := 1) (off := 0) (us := [.int .i64 r1.spots, .int .i64 r1.ink, .int .i64 r1.takes]) rfl Tryd.isAgg25 Tryd.sizeOf25 rfl rfl)) rfl ?_
          refine SJ.q (YldS.yld (y_move rfl)) rfl ?_
          refine SJ.q (YldS.yld (y_move rfl)) rfl ?_
          obtain ⟨r16, h17, hm⟩ := bindS hm
          refine SJ.q (y_call Tryd.call32 rfl (RetG.quiet fun w hw => ok_s_l14Before h17 w )) rfl ?_
          refine SJ.buildSlice (R := fI64) (os := [.tmp 26]) [r16] Tryd.runUnderlying28 Tryd.sizeOf2 Tryd.zeroValue2 rfl rfl rfl rfl rfl rfl fun v18 => ?_
          obtain ⟨l19, h20, hm⟩ := bindS hm
          refine SJ.append (k := 1) (R := fI64) h20 rfl Tryd.underlying28 el2 rfl rfl rfl (fun w hw => (hw.row_rd (k := 0) rfl)) rfl fun v21 => ?_
          refine SJ.q (YldS.yld (y_assign rfl)) rfl ?_
          refine SJ.nil ?_
          refine PJ.block_normal (PJ.next ?_)
          refine WJ.quiet ?_
          refine QJ.step (YldS.yld (y_move rfl)) rfl ?_
          refine QJ.step (YldS.yld (y_bin rfl rfl rfl)) rfl ?_
          refine QJ.step (YldS.yld (y_assign rfl)) rfl ?_
          refine QJ.done ?_
          exact PJ.round (l19, v21, w64 (k14 + 1)) [1, 2] hm ⟨rfl, rfl, rfl, rfl, trivial⟩ ⟨by decide, rfl⟩
        · replace hm := ifF hm hb15
          refine WJ.exit ?_
          refine PJ.then_exit (PJ.then_exit (PJ.block_exit ?_))
          exact PJ.joined (l12, v13) [0] hm ⟨rfl, trivial⟩ ⟨by decide, rfl⟩
    · rintro ⟨l8, v9⟩ hm
      subst hk11
      refine WJ.seq ?_
      refine WJ.quiet ?_
      refine QJ.step (YldS.yld (y_move rfl)) rfl ?_
      refine QJ.step (YldS.yld (y_assign rfl)) rfl ?_
      refine QJ.step (YldS.yld (y_assign rfl)) rfl ?_
      refine QJ.done ?_
      refine PJ.next ?_
      refine WJ.ret ?_
      obtain rfl := Option.some.inj hm
      refine PJ.sel (L' := [row v9 2 fI64 l8]) [0] ⟨by decide, rfl⟩ ?_
      exact PJ.retn (vs := [v9, .int .i64 0]) Tryd.results8 ⟨rfl, rfl, trivial⟩ ⟨_, rfl, rfl⟩

set_option maxRecDepth 100000 in
set_option maxHeartbeats 1000000 in
theorem ok_i_Ribbon_spot {r1 : Ribbon} {stroke2 : Int} {r : Int} (hm : i_Ribbon_spot r1 stroke2 = some r) (w : World)  :
    Calls Tryd.prog 33 #[.agg (Ribbon.enc r1).toArray, .int .i64 stroke2] w (Ret (cx w) (.int .i64 r)) := by
  unfold i_Ribbon_spot at hm
  refine Calls.enter [.agg (Ribbon.enc r1).toArray, .int .i64 stroke2] Tryd.func33 rfl Tryd.ntmps33 rfl ?_
  refine WJ.seq ?_
  refine WJ.reg ?_
  refine SJ.box (cs := [.int .i64 r1.spots, .int .i64 r1.ink, .int .i64 r1.takes]) rfl rfl rfl fun g3 => ?_
  refine SJ.q (YldS.yld (y_assign rfl)) rfl ?_
  refine SJ.nil ?_
  refine PJ.next ?_
  refine WJ.seq ?_
  refine WJ.quiet ?_
  refine QJ.step (YldS.yld (y_move rfl)) rfl ?_
  refine QJ.step (YldS.yld (y_loadBN (k := 0) (off := 0) (us := [.int .i64 r1.spots, .int .i64 r1.ink, .int .i64 r1.takes]) rfl Tryd.isAgg25 Tryd.sizeOf25 rfl rfl)) rfl ?_
  obtain ⟨r4, h5, hm⟩ := bindS hm
  refine QJ.step (y_call Tryd.call52 rfl (RetG.quiet fun w hw => ok_i_Ribbon_period h5 w )) rfl ?_
  obtain ⟨q6, h7, hm⟩ := bindS hm
  refine QJ.step (YldS.yld (y_rem' h7 rfl rfl)) rfl ?_
  refine QJ.step (YldS.yld (y_assign rfl)) rfl ?_
  refine QJ.done ?_
  refine PJ.next ?_
  refine WJ.seq ?_
  refine WJ.seq ?_
  refine WJ.quiet ?_
  refine QJ.step (YldS.yld (y_move rfl)) rfl ?_
  refine QJ.step (YldS.yld (y_fldB (o := 0) fld25_0 rfl)) rfl ?_
  refine QJ.step (YldS.yld (y_loadB (k := 0) (off := 0) (v := .int .i64 r1.spots) rfl Tryd.isAgg2 rfl rfl)) rfl ?_
  refine QJ.step (YldS.yld (y_bin rfl rfl rfl)) rfl ?_
  refine QJ.done ?_
  refine PJ.next ?_
  refine WJ.cond (t := decide (q6 ≥ r1.spots)) rfl (fun hb8 => ?_) (fun hb8 => ?_)
  · replace hm := ifT hm hb8
    refine WJ.seq ?_
    refine WJ.quiet ?_
    refine QJ.step (YldS.yld (y_loadBN (k := 0) (off := 0) (us := [.int .i64 r1.spots, .int .i64 r1.ink, .int .i64 r1.takes]) rfl Tryd.isAgg25 Tryd.sizeOf25 rfl rfl)) rfl ?_
    obtain ⟨r9, h10, hm⟩ := bindS hm
    refine QJ.step (y_call Tryd.call52 rfl (RetG.quiet fun w hw => ok_i_Ribbon_period h10 w )) rfl ?_
    refine QJ.step (YldS.yld (y_move rfl)) rfl ?_
    refine QJ.step (YldS.yld (y_bin rfl rfl rfl)) rfl ?_
    refine QJ.step (YldS.yld (y_assign rfl)) rfl ?_
    refine QJ.done ?_
    refine PJ.next ?_
    refine WJ.ret ?_
    refine PJ.then_ret ?_
    obtain rfl := Option.some.inj hm
    refine PJ.sel (L' := []) [] ⟨List.nodup_nil, rfl⟩ ?_
    exact PJ.retn (vs := [.int .i64 (w64 (r9 - q6))]) Tryd.results33 ⟨rfl, trivial⟩ ⟨rfl, rfl⟩
  · replace hm := ifF hm hb8
    refine WJ.skip ?_
    refine PJ.next ?_
    refine WJ.seq ?_
    refine WJ.quiet ?_
    refine QJ.step (YldS.yld (y_move rfl)) rfl ?_
    refine QJ.step (YldS.yld (y_assign rfl)) rfl ?_
    refine QJ.done ?_
    refine PJ.next ?_
    refine WJ.ret ?_
    obtain rfl := Option.some.inj hm
    refine PJ.sel (L' := []) [] ⟨List.nodup_nil, rfl⟩ ?_
    exact PJ.retn (vs := [.int .i64 q6]) Tryd.results33 ⟨rfl, trivial⟩ ⟨rfl, rfl⟩

set_option maxRecDepth 100000 in
set_option maxHeartbeats 1000000 in
theorem ok_i_SpotAt {r1 : Ribbon} {stroke2 : Int} {r : Int × Int} (hm : i_SpotAt r1 stroke2 = some r) (w : World)  :
    Calls Tryd.prog 9 #[.agg (Ribbon.enc r1).toArray, .int .i64 stroke2] w (Ret (cx w) (tup [.int .i64 r.1, .int .i64 r.2])) := by
  unfold i_SpotAt at hm
  refine Calls.enter [.agg (Ribbon.enc r1).toArray, .int .i64 stroke2] Tryd.func9 rfl Tryd.ntmps9 rfl ?_
  refine WJ.seq ?_
  refine WJ.reg ?_
  refine SJ.box (cs := [.int .i64 r1.spots, .int .i64 r1.ink, .int .i64 r1.takes]) rfl rfl rfl fun g3 => ?_
  refine SJ.q (YldS.yld (y_assign rfl)) rfl ?_
  refine SJ.q (YldS.yld (y_assign rfl)) rfl ?_
  refine SJ.nil ?_
  refine PJ.next ?_
  refine WJ.seq ?_
  refine WJ.seq ?_
  refine WJ.quiet ?_
  refine QJ.step (YldS.yld (y_loadBN (k := 0) (off := 0) (us := [.int .i64 r1.spots, .int .i64 r1.ink, .int .i64 r1.takes]) rfl Tryd.isAgg25 Tryd.sizeOf25 rfl rfl)) rfl ?_
  obtain ⟨r4, h5, hm⟩ := bindS hm
  refine QJ.step (y_call Tryd.call18 rfl (RetG.quiet fun w hw => ok_i_ValidRibbon h5 w )) rfl ?_
  refine QJ.step (YldS.yld (y_not rfl)) rfl ?_
  refine QJ.done ?_
  refine PJ.next ?_
  refine WJ.cond (t := !r4) rfl (fun hb6 => ?_) (fun hb6 => ?_)
  · replace hm := ifT hm hb6
    refine WJ.seq ?_
    refine WJ.quiet ?_
    refine QJ.step (YldS.yld (y_assign rfl)) rfl ?_
    refine QJ.step (YldS.yld (y_assign rfl)) rfl ?_
    refine QJ.done ?_
    refine PJ.next ?_
    refine WJ.ret ?_
    refine PJ.then_ret ?_
    obtain rfl := Option.some.inj hm
    refine PJ.sel (L' := []) [] ⟨List.nodup_nil, rfl⟩ ?_
    exact PJ.retn (vs := [.int .i64 0, .int .i64 1]) Tryd.results9 ⟨rfl, rfl, trivial⟩ ⟨rfl, rfl⟩
  · replace hm := ifF hm hb6
    refine WJ.skip ?_
    refine PJ.next ?_
    refine WJ.seq ?_
    refine WJ.seq ?_
    refine WJ.quiet ?_
    refine QJ.step (YldS.yld (y_move rfl)) rfl ?_
    obtain ⟨r7, h8, hm⟩ := bindS hm
    refine QJ.step (y_call Tryd.call29 rfl (RetG.quiet fun w hw => ok_i_isUse h8 w )) rfl ?_
    refine QJ.step (YldS.yld (y_not rfl)) rfl ?_
    refine QJ.done ?_
    refine PJ.next ?_
    refine WJ.cond (t := !r7) rfl (fun hb9 => ?_) (fun hb9 => ?_)
    · replace hm := ifT hm hb9
      refine WJ.seq ?_
      refine WJ.quiet ?_
      refine QJ.step (YldS.yld (y_assign rfl)) rfl ?_
      refine QJ.step (YldS.yld (y_assign rfl)) rfl ?_
      refine QJ.done ?_
      refine PJ.next ?_
      refine WJ.ret ?_
      refine PJ.then_ret ?_
      obtain rfl := Option.some.inj hm
      refine PJ.sel (L' := []) [] ⟨List.nodup_nil, rfl⟩ ?_
      exact PJ.retn (vs := [.int .i64 0, .int .i64 2]) Tryd.results9 ⟨rfl, rfl, trivial⟩ ⟨rfl, rfl⟩
    · replace hm := ifF hm hb9
      refine WJ.skip ?_
      refine PJ.next ?_
      refine WJ.seq ?_
      refine WJ.quiet ?_
      refine QJ.step (YldS.yld (y_loadBN (k := 0) (off := 0) (us := [.int .i64 r1.spots, .int .i64 r1.ink, .int .i64 r1.takes]) rfl Tryd.isAgg25 Tryd.sizeOf25 rfl rfl)) rfl ?_
      refine QJ.step (YldS.yld (y_move rfl)) rfl ?_
      obtain ⟨r10, h11, hm⟩ := bindS hm
      refine QJ.step (y_call Tryd.call33 rfl (RetG.quiet fun w hw => ok_i_Ribbon_spot h11 w )) rfl ?_
      refine QJ.step (YldS.yld (y_assign rfl)) rfl ?_
      refine QJ.step (YldS.yld (y_assign rfl)) rfl ?_
      refine QJ.done ?_
      refine PJ.next ?_
      refine WJ.ret ?_
      obtain rfl := Option.some.inj hm
      refine PJ.sel (L' := []) [] ⟨List.nodup_nil, rfl⟩ ?_
      exact PJ.retn (vs := [.int .i64 r10, .int .i64 0]) Tryd.results9 ⟨rfl, rfl, trivial⟩ ⟨rfl, rfl⟩

set_option maxRecDepth 100000 in
set_option maxHeartbeats 1000000 in
theorem ok_s_SpotAt {r1 : Ribbon} {stroke2 : Int} {r : Int × Int} (hm : s_SpotAt r1 stroke2 = some r) (w : World)  :
    Calls Tryd.prog 10 #[.agg (Ribbon.enc r1).toArray, .int .i64 stroke2] w (Ret (cx w) (tup [.int .i64 r.1, .int .i64 r.2])) := by
  unfold s_SpotAt at hm
  refine Calls.enter [.agg (Ribbon.enc r1).toArray, .int .i64 stroke2] Tryd.func10 rfl Tryd.ntmps10 rfl ?_
  refine WJ.seq ?_
  refine WJ.reg ?_
  refine SJ.box (cs := [.int .i64 r1.spots, .int .i64 r1.ink, .int .i64 r1.takes]) rfl rfl rfl fun g3 => ?_
  refine SJ.q (YldS.yld (y_assign rfl)) rfl ?_
  refine SJ.q (YldS.yld (y_assign rfl)) rfl ?_
  refine SJ.nil ?_
  refine PJ.next ?_
  refine WJ.seq ?_
  refine WJ.quiet ?_
  refine QJ.step (YldS.yld (y_loadBN (k := 0) (off := 0) (us := [.int .i64 r1.spots, .int .i64 r1.ink, .int .i64 r1.takes]) rfl Tryd.isAgg25 Tryd.sizeOf25 rfl rfl)) rfl ?_
  refine QJ.step (YldS.yld (y_move rfl)) rfl ?_
  obtain ⟨r4, h5, hm⟩ := bindS hm
  refine QJ.step (y_call Tryd.call31 rfl (RetG.quiet fun w hw => ok_s_l14Code h5 w )) rfl ?_
  refine QJ.step (YldS.yld (y_assign rfl)) rfl ?_
  refine QJ.done ?_
  refine PJ.next ?_
  refine WJ.seq ?_
  refine WJ.seq ?_
  refine WJ.quiet ?_
  refine QJ.step (YldS.yld (y_move rfl)) rfl ?_
  refine QJ.step (YldS.yld (y_bin rfl rfl rfl)) rfl ?_
  refine QJ.done ?_
  refine PJ.next ?_
  refine WJ.cond (t := (r4 != 0)) rfl (fun hb6 => ?_) (fun hb6 => ?_)
  · replace hm := ifT hm hb6
    refine WJ.seq ?_
    refine WJ.quiet ?_
    refine QJ.step (YldS.yld (y_move rfl)) rfl ?_
    refine QJ.step (YldS.yld (y_assign rfl)) rfl ?_
    refine QJ.step (YldS.yld (y_assign rfl)) rfl ?_
    refine QJ.done ?_
    refine PJ.next ?_
    refine WJ.ret ?_
    refine PJ.then_ret ?_
    obtain rfl := Option.some.inj hm
    refine PJ.sel (L' := []) [] ⟨List.nodup_nil, rfl⟩ ?_
    exact PJ.retn (vs := [.int .i64 0, .int .i64 r4]) Tryd.results10 ⟨rfl, rfl, trivial⟩ ⟨rfl, rfl⟩
  · replace hm := ifF hm hb6
    refine WJ.skip ?_
    refine PJ.next ?_
    refine WJ.seq ?_
    refine WJ.quiet ?_
    refine QJ.step (YldS.yld (y_loadBN (k := 0) (off := 0) (us := [.int .i64 r1.spots, .int .i64 r1.ink, .int .i64 r1.takes]) rfl Tryd.isAgg25 Tryd.sizeOf25 rfl rfl)) rfl ?_
    refine QJ.step (YldS.yld (y_move rfl)) rfl ?_
    obtain ⟨r7, h8, hm⟩ := bindS hm
    refine QJ.step (y_call Tryd.call34 rfl (RetG.quiet fun w hw => ok_s_l14Spot h8 w )) rfl ?_
    refine QJ.step (YldS.yld (y_assign rfl)) rfl ?_
    refine QJ.step (YldS.yld (y_assign rfl)) rfl ?_
    refine QJ.done ?_
    refine PJ.next ?_
    refine WJ.ret ?_
    obtain rfl := Option.some.inj hm
    refine PJ.sel (L' := []) [] ⟨List.nodup_nil, rfl⟩ ?_
    exact PJ.retn (vs := [.int .i64 r7, .int .i64 0]) Tryd.results10 ⟨rfl, rfl, trivial⟩ ⟨rfl, rfl⟩

set_option maxRecDepth 100000 in
set_option maxHeartbeats 1000000 in
theorem ok_i_TurnsIn {r1 : Ribbon} {strokes2 : Int} {r : Int × Int} (hm : i_TurnsIn r1 strokes2 = some r) (w : World)  :
    Calls Tryd.prog 11 #[.agg (Ribbon.enc r1).toArray, .int .i64 strokes2] w (Ret (cx w) (tup [.int .i64 r.1, .int .i64 r.2])) := by
  unfold i_TurnsIn at hm
  refine Calls.enter [.agg (Ribbon.enc r1).toArray, .int .i64 strokes2] Tryd.func11 rfl Tryd.ntmps11 rfl ?_
  refine WJ.seq ?_
  refine WJ.reg ?_
  refine SJ.box (cs := [.int .i64 r1.spots, .int .i64 r1.ink, .int .i64 r1.takes]) rfl rfl rfl fun g3 => ?_
  refine SJ.q (YldS.yld (y_assign rfl)) rfl ?_
  refine SJ.q (YldS.yld (y_assign rfl)) rfl ?_
  refine SJ.nil ?_
  refine PJ.next ?_
  refine WJ.seq ?_
  refine WJ.seq ?_
  refine WJ.quiet ?_
  refine QJ.step (YldS.yld (y_loadBN (k := 0) (off := 0) (us := [.int .i64 r1.spots, .int .i64 r1.ink, .int .i64 r1.takes]) rfl Tryd.isAgg25 Tryd.sizeOf25 rfl rfl)) rfl ?_
  obtain ⟨r4, h5, hm⟩ := bindS hm
  refine QJ.step (y_call Tryd.call18 rfl (RetG.quiet fun w hw => ok_i_ValidRibbon h5 w )) rfl ?_
  refine QJ.step (YldS.yld (y_not rfl)) rfl ?_
  refine QJ.done ?_
  refine PJ.next ?_
  refine WJ.cond (t := !r4) rfl (fun hb6 => ?_) (fun hb6 => ?_)
  · replace hm := ifT hm hb6
    refine WJ.seq ?_
    refine WJ.quiet ?_
    refine QJ.step (YldS.yld (y_assign rfl)) rfl ?_
    refine QJ.step (YldS.yld (y_assign rfl)) rfl ?_
    refine QJ.done ?_
    refine PJ.next ?_
    refine WJ.ret ?_
    refine PJ.then_ret ?_
    obtain rfl := Option.some.inj hm
    refine PJ.sel (L' := []) [] ⟨List.nodup_nil, rfl⟩ ?_
    exact PJ.retn (vs := [.int .i64 0, .int .i64 1]) Tryd.results11 ⟨rfl, rfl, trivial⟩ ⟨rfl, rfl⟩
  · replace hm := ifF hm hb6
    refine WJ.skip ?_
    refine PJ.next ?_
    refine WJ.seq ?_
    refine WJ.seq ?_
    refine WJ.quiet ?_
    refine QJ.step (YldS.yld (y_move rfl)) rfl ?_
    obtain ⟨r7, h8, hm⟩ := bindS hm
    refine QJ.step (y_call Tryd.call29 rfl (RetG.quiet fun w hw => ok_i_isUse h8 w )) rfl ?_
    refine QJ.step (YldS.yld (y_not rfl)) rfl ?_
    refine QJ.done ?_
    refine PJ.next ?_
    refine WJ.cond (t := !r7) rfl (fun hb9 => ?_) (fun hb9 => ?_)
    · replace hm := ifT hm hb9
      refine WJ.seq ?_
      refine WJ.quiet ?_
      refine QJ.step (YldS.yld (y_assign rfl)) rfl ?_
      refine QJ.step (YldS.yld (y_assign rfl)) rfl ?_
      refine QJ.done ?_
      refine PJ.next ?_
      refine WJ.ret ?_
      refine PJ.then_ret ?_
      obtain rfl := Option.some.inj hm
      refine PJ.sel (L' := []) [] ⟨List.nodup_nil, rfl⟩ ?_
      exact PJ.retn (vs := [.int .i64 0, .int .i64 2]) Tryd.results11 ⟨rfl, rfl, trivial⟩ ⟨rfl, rfl⟩
    · replace hm := ifF hm hb9
      refine WJ.skip ?_
      refine PJ.next ?_
      refine WJ.seq ?_
      refine WJ.quiet_draw follows (by kernel_rfl) ?_
      refine QJ.step (YldS.yld (y_loadBN (k := 0) (off := 0) (us := [.int .i64 r1.spots, .int .i64 r1.ink, .int .i64 r1.takes]) rfl Tryd.isAgg25 Tryd.sizeOf25 rfl rfl)) rfl ?_
      refine QJ.step (YldS.yld (y_move rfl)) rfl ?_
      obtain ⟨r10, h11, hm⟩ := bindS hm
      refine QJ.step (y_call Tryd.call30 rfl (RetG.quiet fun w hw => ok_i_Ribbon_uses h11 w )) rfl ?_
      refine QJ.step (YldS.yld (y_loadBN (k := 0) (off := 0) (us := [.int .i64 r1.spots, .int .i64 r1.ink, .int .i64 r1.takes]) rfl Tryd.isAgg25 Tryd.sizeOf25 rfl rfl)) rfl ?_
      refine QJ.step (YldS.yld (y_fldB (o := 0) fld25_0 rfl)) rfl ?_
      refine QJ.step (YldS.yld (y_loadB (k := 0) (off := 0) (v := .int .i64 r1.spots) rfl Tryd.isAgg2 rfl rfl)) rfl ?_
      refine QJ.step (YldS.yld (y_bin rfl rfl rfl)) rfl ?_
      refine QJ.step (YldS.yld (y_move rfl)) rfl ?_
      obtain ⟨r12, h13, hm⟩ := bindS hm
      refine QJ.step (y_call Tryd.call30 rfl (RetG.quiet fun w hw => ok_i_Ribbon_uses h13 w )) rfl ?_
      refine QJ.step (YldS.yld (y_bin rfl rfl rfl)) rfl ?_
      refine QJ.step (YldS.yld (y_bin rfl rfl rfl)) rfl ?_
      refine QJ.step (YldS.yld (y_max rfl rfl)) rfl ?_
      refine QJ.step (YldS.yld (y_assign rfl)) rfl ?_
      refine QJ.step (YldS.yld (y_assign rfl)) rfl ?_
      refine QJ.done ?_
      refine PJ.next ?_
      refine WJ.ret ?_
      obtain rfl := Option.some.inj hm
      refine PJ.sel (L' := []) [] ⟨List.nodup_nil, rfl⟩ ?_
      exact PJ.retn (vs := [.int .i64 (imax (w64 ((w64 (r10 + r12)) - 1)) 0), .int .i64 0]) Tryd.results11 ⟨rfl, rfl, trivial⟩ ⟨rfl, rfl⟩

set_option maxRecDepth 100000 in
set_option maxHeartbeats 1000000 in
theorem ok_s_l00Max {a1 : Int} {b2 : Int} {r : Int} (hm : s_l00Max a1 b2 = some r) (w : World)  :
    Calls Tryd.prog 35 #[.int .i64 a1, .int .i64 b2] w (Ret (cx w) (.int .i64 r)) := by
  unfold s_l00Max at hm
  refine Calls.enter [.int .i64 a1, .int .i64 b2] Tryd.func35 rfl Tryd.ntmps35 rfl ?_
  refine WJ.seq ?_
  refine WJ.quiet ?_
  refine QJ.step (YldS.yld (y_assign rfl)) rfl ?_
  refine QJ.done ?_
  refine PJ.next ?_
  refine WJ.seq ?_
  refine WJ.seq ?_
  refine WJ.quiet ?_
  refine QJ.step (YldS.yld (y_move rfl)) rfl ?_
  refine QJ.step (YldS.yld (y_move rfl)) rfl ?_
  refine QJ.step (YldS.yld (y_bin rfl rfl rfl)) rfl ?_
  refine QJ.done ?_
  refine PJ.next ?_
  refine WJ.cond (t := decide (a1 > b2)) rfl (fun hb3 => ?_) (fun hb3 => ?_)
  · replace hm := ifT hm hb3
    refine WJ.seq ?_
    refine WJ.quiet ?_
    refine QJ.step (YldS.yld (y_move rfl)) rfl ?_
    refine QJ.step (YldS.yld (y_assign rfl)) rfl ?_
    refine QJ.done ?_
    refine PJ.next ?_
    refine WJ.ret ?_
    refine PJ.then_ret ?_
    obtain rfl := Option.some.inj hm
    refine PJ.sel (L' := []) [] ⟨List.nodup_nil, rfl⟩ ?_
    exact PJ.retn (vs := [.int .i64 a1]) Tryd.results35 ⟨rfl, trivial⟩ ⟨rfl, rfl⟩
  · replace hm := ifF hm hb3
    refine WJ.skip ?_
    refine PJ.next ?_
    refine WJ.seq ?_
    refine WJ.quiet ?_
    refine QJ.step (YldS.yld (y_move rfl)) rfl ?_
    refine QJ.step (YldS.yld (y_assign rfl)) rfl ?_
    refine QJ.done ?_
    refine PJ.next ?_
    refine WJ.ret ?_
    obtain rfl := Option.some.inj hm
    refine PJ.sel (L' := []) [] ⟨List.nodup_nil, rfl⟩ ?_
    exact PJ.retn (vs := [.int .i64 b2]) Tryd.results35 ⟨rfl, trivial⟩ ⟨rfl, rfl⟩

set_option maxRecDepth 100000 in
set_option maxHeartbeats 1000000 in
theorem ok_s_TurnsIn {r1 : Ribbon} {strokes2 : Int} {r : Int × Int} (hm : s_TurnsIn r1 strokes2 = some r) (w : World)  :
    Calls Tryd.prog 12 #[.agg (Ribbon.enc r1).toArray, .int .i64 strokes2] w (Ret (cx w) (tup [.int .i64 r.1, .int .i64 r.2])) := by
  unfold s_TurnsIn at hm
  refine Calls.enter [.agg (Ribbon.enc r1).toArray, .int .i64 strokes2] Tryd.func12 rfl Tryd.ntmps12 rfl ?_
  refine WJ.seq ?_
  refine WJ.reg ?_
  refine SJ.box (cs := [.int .i64 r1.spots, .int .i64 r1.ink, .int .i64 r1.takes]) rfl rfl rfl fun g3 => ?_
  refine SJ.q (YldS.yld (y_assign rfl)) rfl ?_
  refine SJ.q (YldS.yld (y_assign rfl)) rfl ?_
  refine SJ.nil ?_
  refine PJ.next ?_
  refine WJ.seq ?_
  refine WJ.quiet ?_
  refine QJ.step (YldS.yld (y_loadBN (k := 0) (off := 0) (us := [.int .i64 r1.spots, .int .i64 r1.ink, .int .i64 r1.takes]) rfl Tryd.isAgg25 Tryd.sizeOf25 rfl rfl)) rfl ?_
  refine QJ.step (YldS.yld (y_move rfl)) rfl ?_
  obtain ⟨r4, h5, hm⟩ := bindS hm
  refine QJ.step (y_call Tryd.call31 rfl (RetG.quiet fun w hw => ok_s_l14Code h5 w )) rfl ?_
  refine QJ.step (YldS.yld (y_assign rfl)) rfl ?_
  refine QJ.done ?_
  refine PJ.next ?_
  refine WJ.seq ?_
  refine WJ.seq ?_
  refine WJ.quiet ?_
  refine QJ.step (YldS.yld (y_move rfl)) rfl ?_
  refine QJ.step (YldS.yld (y_bin rfl rfl rfl)) rfl ?_
  refine QJ.done ?_
  refine PJ.next ?_
  refine WJ.cond (t := (r4 != 0)) rfl (fun hb6 => ?_) (fun hb6 => ?_)
  · replace hm := ifT hm hb6
    refine WJ.seq ?_
    refine WJ.quiet ?_
    refine QJ.step (YldS.yld (y_move rfl)) rfl ?_
    refine QJ.step (YldS.yld (y_assign rfl)) rfl ?_
    refine QJ.step (YldS.yld (y_assign rfl)) rfl ?_
    refine QJ.done ?_
    refine PJ.next ?_
    refine WJ.ret ?_
    refine PJ.then_ret ?_
    obtain rfl := Option.some.inj hm
    refine PJ.sel (L' := []) [] ⟨List.nodup_nil, rfl⟩ ?_
    exact PJ.retn (vs := [.int .i64 0, .int .i64 r4]) Tryd.results12 ⟨rfl, rfl, trivial⟩ ⟨rfl, rfl⟩
  · replace hm := ifF hm hb6
    refine WJ.skip ?_
    refine PJ.next ?_
    refine WJ.seq ?_
    refine WJ.quiet_draw follows (by kernel_rfl) ?_
    refine QJ.step (YldS.yld (y_move rfl)) rfl ?_
    refine QJ.step (YldS.yld (y_bin rfl rfl rfl)) rfl ?_
    obtain ⟨r7, h8, hm⟩ := bindS hm
    refine QJ.step (y_call Tryd.call35 rfl (RetG.quiet fun w hw => ok_s_l00Max h8 w )) rfl ?_
    refine QJ.step (YldS.yld (y_fldB (o := 0) fld25_0 rfl)) rfl ?_
    refine QJ.step (YldS.yld (y_loadB (k := 0) (off := 0) (v := .int .i64 r1.spots) rfl Tryd.isAgg2 rfl rfl)) rfl ?_
    refine QJ.step (YldS.yld (y_bin rfl rfl rfl)) rfl ?_
    obtain ⟨q9, h10, hm⟩ := bindS hm
    refine QJ.step (YldS.yld (y_quo' h10 rfl rfl)) rfl ?_
    refine QJ.step (YldS.yld (y_assign rfl)) rfl ?_
    refine QJ.step (YldS.yld (y_assign rfl)) rfl ?_
    refine QJ.done ?_
    refine PJ.next ?_
    refine WJ.ret ?_
    obtain rfl := Option.some.inj hm
    refine PJ.sel (L' := []) [] ⟨List.nodup_nil, rfl⟩ ?_
    exact PJ.retn (vs := [.int .i64 q9, .int .i64 0]) Tryd.results12 ⟨rfl, rfl, trivial⟩ ⟨rfl, rfl⟩

set_option maxRecDepth 100000 in
set_option maxHeartbeats 1000000 in
theorem ok_i_Ribbon_shade {r1 : Ribbon} {stroke2 : Int} {r : Int} (hm : i_Ribbon_shade r1 stroke2 = some r) (w : World)  :
    Calls Tryd.prog 36 #[.agg (Ribbon.enc r1).toArray, .int .i64 stroke2] w (Ret (cx w) (.int .i64 r)) := by
  unfold i_Ribbon_shade at hm
  refine Calls.enter [.agg (Ribbon.enc r1).toArray, .int .i64 stroke2] Tryd.func36 rfl Tryd.ntmps36 rfl ?_
  refine WJ.seq ?_
  refine WJ.reg ?_
  refine SJ.box (cs := [.int .i64 r1.spots, .int .i64 r1.ink, .int .i64 r1.takes]) rfl rfl rfl fun g3 => ?_
  refine SJ.q (YldS.yld (y_assign rfl)) rfl ?_
  refine SJ.nil ?_
  refine PJ.next ?_
  refine WJ.seq ?_
  refine WJ.quiet_draw follows (by kernel_rfl) ?_
  refine QJ.step (YldS.yld (y_fldB (o := 0) fld25_1 rfl)) rfl ?_
  refine QJ.step (YldS.yld (y_loadB (k := 0) (off := 1) (v := .int .i64 r1.ink) rfl Tryd.isAgg2 rfl rfl)) rfl ?_
  refine QJ.step (YldS.yld (y_fldB (o := 0) fld25_2 rfl)) rfl ?_
  refine QJ.step (YldS.yld (y_loadB (k := 0) (off := 2) (v := .int .i64 r1.takes) rfl Tryd.isAgg2 rfl rfl)) rfl ?_
  refine QJ.step (YldS.yld (y_loadBN (k := 0) (off := 0) (us := [.int .i64 r1.spots, .int .i64 r1.ink, .int .i64 r1.takes]) rfl Tryd.isAgg25 Tryd.sizeOf25 rfl rfl)) rfl ?_
  refine QJ.step (YldS.yld (y_loadBN (k := 0) (off := 0) (us := [.int .i64 r1.spots, .int .i64 r1.ink, .int .i64 r1.takes]) rfl Tryd.isAgg25 Tryd.sizeOf25 rfl rfl)) rfl ?_
  refine QJ.step (YldS.yld (y_move rfl)) rfl ?_
  obtain ⟨r4, h5, hm⟩ := bindS hm
  refine QJ.step (y_call Tryd.call33 rfl (RetG.quiet fun w hw => ok_i_Ribbon_spot h5 w )) rfl ?_
  refine QJ.step (YldS.yld (y_move rfl)) rfl ?_
  obtain ⟨r6, h7, hm⟩ := bindS hm
  refine QJ.step (y_call Tryd.call30 rfl (RetG.quiet fun w hw => ok_i_Ribbon_uses h7 w )) rfl ?_
  refine QJ.step (YldS.yld (y_bin rfl rfl rfl)) rfl ?_
  refine QJ.step (YldS.yld (y_bin rfl rfl rfl)) rfl ?_
  refine QJ.step (YldS.yld (y_max rfl rfl)) rfl ?_
  refine QJ.step (YldS.yld (y_assign rfl)) rfl ?_
  refine QJ.done ?_
  refine PJ.next ?_
  refine WJ.ret ?_
  obtain rfl := Option.some.inj hm
  refine PJ.sel (L' := []) [] ⟨List.nodup_nil, rfl⟩ ?_
  exact PJ.retn (vs := [.int .i64 (imax (w64 (r1.ink - (w64 (r1.takes * r6)))) 0)]) Tryd.results36 ⟨rfl, trivial⟩ ⟨rfl, rfl⟩

set_option maxRecDepth 100000 in
set_option maxHeartbeats 1000000 in
theorem ok_i_ShadeAt {r1 : Ribbon} {stroke2 : Int} {r : Int × Int} (hm : i_ShadeAt r1 stroke2 = some r) (w : World)  :
    Calls Tryd.prog 13 #[.agg (Ribbon.enc r1).toArray, .int .i64 stroke2] w (Ret (cx w) (tup [.int .i64 r.1, .int .i64 r.2])) := by
  unfold i_ShadeAt at hm
  refine Calls.enter [.agg (Ribbon.enc r1).toArray, .int .i64 stroke2] Tryd.func13 rfl Tryd.ntmps13 rfl ?_
  refine WJ.seq ?_
  refine WJ.reg ?_
  refine SJ.box (cs := [.int .i64 r1.spots, .int .i64 r1.ink, .int .i64 r1.takes]) rfl rfl rfl fun g3 => ?_
  refine SJ.q (YldS.yld (y_assign rfl)) rfl ?_
  refine SJ.q (YldS.yld (y_assign rfl)) rfl ?_
  refine SJ.nil ?_
  refine PJ.next ?_
  refine WJ.seq ?_
  refine WJ.seq ?_
  refine WJ.quiet ?_
  refine QJ.step (YldS.yld (y_loadBN (k := 0) (off := 0) (us := [.int .i64 r1.spots, .int .i64 r1.ink, .int .i64 r1.takes]) rfl Tryd.isAgg25 Tryd.sizeOf25 rfl rfl)) rfl ?_
  obtain ⟨r4, h5, hm⟩ := bindS hm
  refine QJ.step (y_call Tryd.call18 rfl (RetG.quiet fun w hw => ok_i_ValidRibbon h5 w )) rfl ?_
  refine QJ.step (YldS.yld (y_not rfl)) rfl ?_
  refine QJ.done ?_
  refine PJ.next ?_
  refine WJ.cond (t := !r4) rfl (fun hb6 => ?_) (fun hb6 => ?_)
  · replace hm := ifT hm hb6
    refine WJ.seq ?_
    refine WJ.quiet ?_
    refine QJ.step (YldS.yld (y_assign rfl)) rfl ?_
    refine QJ.step (YldS.yld (y_assign rfl)) rfl ?_
    refine QJ.done ?_
    refine PJ.next ?_
    refine WJ.ret ?_
    refine PJ.then_ret ?_
    obtain rfl := Option.some.inj hm
    refine PJ.sel (L' := []) [] ⟨List.nodup_nil, rfl⟩ ?_
    exact PJ.retn (vs := [.int .i64 0, .int .i64 1]) Tryd.results13 ⟨rfl, rfl, trivial⟩ ⟨rfl, rfl⟩
  · replace hm := ifF hm hb6
    refine WJ.skip ?_
    refine PJ.next ?_
    refine WJ.seq ?_
    refine WJ.seq ?_
    refine WJ.quiet ?_
    refine QJ.step (YldS.yld (y_move rfl)) rfl ?_
    obtain ⟨r7, h8, hm⟩ := bindS hm
    refine QJ.step (y_call Tryd.call29 rfl (RetG.quiet fun w hw => ok_i_isUse h8 w )) rfl ?_
    refine QJ.step (YldS.yld (y_not rfl)) rfl ?_
    refine QJ.done ?_
    refine PJ.next ?_
    refine WJ.cond (t := !r7) rfl (fun hb9 => ?_) (fun hb9 => ?_)
    · replace hm := ifT hm hb9
      refine WJ.seq ?_
      refine WJ.quiet ?_
      refine QJ.step (YldS.yld (y_assign rfl)) rfl ?_
      refine QJ.step (YldS.yld (y_assign rfl)) rfl ?_
      refine QJ.done ?_
      refine PJ.next ?_
      refine WJ.ret ?_
      refine PJ.then_ret ?_
      obtain rfl := Option.some.inj hm
      refine PJ.sel (L' := []) [] ⟨List.nodup_nil, rfl⟩ ?_
      exact PJ.retn (vs := [.int .i64 0, .int .i64 2]) Tryd.results13 ⟨rfl, rfl, trivial⟩ ⟨rfl, rfl⟩
    · replace hm := ifF hm hb9
      refine WJ.skip ?_
      refine PJ.next ?_
      refine WJ.seq ?_
      refine WJ.quiet ?_
      refine QJ.step (YldS.yld (y_loadBN (k := 0) (off := 0) (us := [.int .i64 r1.spots, .int .i64 r1.ink, .int .i64 r1.takes]) rfl Tryd.isAgg25 Tryd.sizeOf25 rfl rfl)) rfl ?_
      refine QJ.step (YldS.yld (y_move rfl)) rfl ?_
      obtain ⟨r10, h11, hm⟩ := bindS hm
      refine QJ.step (y_call Tryd.call36 rfl (RetG.quiet fun w hw => ok_i_Ribbon_shade h11 w )) rfl ?_
      refine QJ.step (YldS.yld (y_assign rfl)) rfl ?_
      refine QJ.step (YldS.yld (y_assign rfl)) rfl ?_
      refine QJ.done ?_
      refine PJ.next ?_
      refine WJ.ret ?_
      obtain rfl := Option.some.inj hm
      refine PJ.sel (L' := []) [] ⟨List.nodup_nil, rfl⟩ ?_
      exact PJ.retn (vs := [.int .i64 r10, .int .i64 0]) Tryd.results13 ⟨rfl, rfl, trivial⟩ ⟨rfl, rfl⟩

set_option maxRecDepth 100000 in
set_option maxHeartbeats 1000000 in
theorem ok_s_l14Shade {N : Nat} {r1 : Ribbon} {stroke2 : Int} {r : Int} (hm : s_l14Shade N r1 stroke2 = some r) (w : World)  :
    Calls Tryd.prog 37 #[.agg (Ribbon.enc r1).toArray, .int .i64 stroke2] w (Ret (cx w) (.int .i64 r)) := by
  unfold s_l14Shade at hm
  refine Calls.enter [.agg (Ribbon.enc r1).toArray, .int .i64 stroke2] Tryd.func37 rfl Tryd.ntmps37 rfl ?_
  refine WJ.seq ?_
  refine WJ.reg ?_
  refine SJ.box (cs := [.int .i64 r1.spots, .int .i64 r1.ink, .int .i64 r1.takes]) rfl rfl rfl fun g3 => ?_
  refine SJ.q (YldS.yld (y_assign rfl)) rfl ?_
  refine SJ.nil ?_
  refine PJ.next ?_
  refine WJ.seq ?_
  refine WJ.quiet_draw follows (by kernel_rfl) ?_
  refine QJ.step (YldS.yld (y_fldB (o := 0) fld25_1 rfl)) rfl ?_
  refine QJ.step (YldS.yld (y_loadB (k := 0) (off := 1) (v := .int .i64 r1.ink) rfl Tryd.isAgg2 rfl rfl)) rfl ?_
  refine QJ.step (YldS.yld (y_fldB (o := 0) fld25_2 rfl)) rfl ?_
  refine QJ.step (YldS.yld (y_loadB (k := 0) (off := 2) (v := .int .i64 r1.takes) rfl Tryd.isAgg2 rfl rfl)) rfl ?_
  refine QJ.step (YldS.yld (y_loadBN (k := 0) (off := 0) (us := [.int .i64 r1.spots, .int .i64 r1.ink, .int .i64 r1.takes]) rfl Tryd.isAgg25 Tryd.sizeOf25 rfl rfl)) rfl ?_
  refine QJ.step (YldS.yld (y_move rfl)) rfl ?_
  refine QJ.step (YldS.yld (y_loadBN (k := 0) (off := 0) (us := [.int .i64 r1.spots, .int .i64 r1.ink, .int .i64 r1.takes]) rfl Tryd.isAgg25 Tryd.sizeOf25 rfl rfl)) rfl ?_
  refine QJ.step (YldS.yld (y_move rfl)) rfl ?_
  obtain ⟨r4, h5, hm⟩ := bindS hm
  refine QJ.step (y_call Tryd.call34 rfl (RetG.quiet fun w hw => ok_s_l14Spot h5 w )) rfl ?_
  obtain ⟨r6, h7, hm⟩ := bindS hm
  refine QJ.step (y_call Tryd.call32 rfl (RetG.quiet fun w hw => ok_s_l14Before h7 w )) rfl ?_
  refine QJ.step (YldS.yld (y_bin rfl rfl rfl)) rfl ?_
  refine QJ.step (YldS.yld (y_bin rfl rfl rfl)) rfl ?_
  obtain ⟨r8, h9, hm⟩ := bindS hm
  refine QJ.step (y_call Tryd.call35 rfl (RetG.quiet fun w hw => ok_s_l00Max h9 w )) rfl ?_
  refine QJ.step (YldS.yld (y_assign rfl)) rfl ?_
  refine QJ.done ?_
  refine PJ.next ?_
  refine WJ.ret ?_
  obtain rfl := Option.some.inj hm
  refine PJ.sel (L' := []) [] ⟨List.nodup_nil, rfl⟩ ?_
  exact PJ.retn (vs := [.int .i64 r8]) Tryd.results37 ⟨rfl, trivial⟩ ⟨rfl, rfl⟩

set_option maxRecDepth 100000 in
set_option maxHeartbeats 1000000 in
theorem ok_s_ShadeAt {N : Nat} {r1 : Ribbon} {stroke2 : Int} {r : Int × Int} (hm : s_ShadeAt N r1 stroke2 = some r) (w : World)  :
    Calls Tryd.prog 14 #[.agg (Ribbon.enc r1).toArray, .int .i64 stroke2] w (Ret (cx w) (tup [.int .i64 r.1, .int .i64 r.2])) := by
  unfold s_ShadeAt at hm
  refine Calls.enter [.agg (Ribbon.enc r1).toArray, .int .i64 stroke2] Tryd.func14 rfl Tryd.ntmps14 rfl ?_
  refine WJ.seq ?_
  refine WJ.reg ?_
  refine SJ.box (cs := [.int .i64 r1.spots, .int .i64 r1.ink, .int .i64 r1.takes]) rfl rfl rfl fun g3 => ?_
  refine SJ.q (YldS.yld (y_assign rfl)) rfl ?_
  refine SJ.q (YldS.yld (y_assign rfl)) rfl ?_
  refine SJ.nil ?_
  refine PJ.next ?_
  refine WJ.seq ?_
  refine WJ.quiet ?_
  refine QJ.step (YldS.yld (y_loadBN (k := 0) (off := 0) (us := [.int .i64 r1.spots, .int .i64 r1.ink, .int .i64 r1.takes]) rfl Tryd.isAgg25 Tryd.sizeOf25 rfl rfl)) rfl ?_
  refine QJ.step (YldS.yld (y_move rfl)) rfl ?_
  obtain ⟨r4, h5, hm⟩ := bindS hm
  refine QJ.step (y_call Tryd.call31 rfl (RetG.quiet fun w hw => ok_s_l14Code h5 w )) rfl ?_
  refine QJ.step (YldS.yld (y_assign rfl)) rfl ?_
  refine QJ.done ?_
  refine PJ.next ?_
  refine WJ.seq ?_
  refine WJ.seq ?_
  refine WJ.quiet ?_
  refine QJ.step (YldS.yld (y_move rfl)) rfl ?_
  refine QJ.step (YldS.yld (y_bin rfl rfl rfl)) rfl ?_
  refine QJ.done ?_
  refine PJ.next ?_
  refine WJ.cond (t := (r4 != 0)) rfl (fun hb6 => ?_) (fun hb6 => ?_)
  · replace hm := ifT hm hb6
    refine WJ.seq ?_
    refine WJ.quiet ?_
    refine QJ.step (YldS.yld (y_move rfl)) rfl ?_
    refine QJ.step (YldS.yld (y_assign rfl)) rfl ?_
    refine QJ.step (YldS.yld (y_assign rfl)) rfl ?_
    refine QJ.done ?_
    refine PJ.next ?_
    refine WJ.ret ?_
    refine PJ.then_ret ?_
    obtain rfl := Option.some.inj hm
    refine PJ.sel (L' := []) [] ⟨List.nodup_nil, rfl⟩ ?_
    exact PJ.retn (vs := [.int .i64 0, .int .i64 r4]) Tryd.results14 ⟨rfl, rfl, trivial⟩ ⟨rfl, rfl⟩
  · replace hm := ifF hm hb6
    refine WJ.skip ?_
    refine PJ.next ?_
    refine WJ.seq ?_
    refine WJ.quiet ?_
    refine QJ.step (YldS.yld (y_loadBN (k := 0) (off := 0) (us := [.int .i64 r1.spots, .int .i64 r1.ink, .int .i64 r1.takes]) rfl Tryd.isAgg25 Tryd.sizeOf25 rfl rfl)) rfl ?_
    refine QJ.step (YldS.yld (y_move rfl)) rfl ?_
    obtain ⟨r7, h8, hm⟩ := bindS hm
    refine QJ.step (y_call Tryd.call37 rfl (RetG.quiet fun w hw => ok_s_l14Shade h8 w )) rfl ?_
    refine QJ.step (YldS.yld (y_assign rfl)) rfl ?_
    refine QJ.step (YldS.yld (y_assign rfl)) rfl ?_
    refine QJ.done ?_
    refine PJ.next ?_
    refine WJ.ret ?_
    obtain rfl := Option.some.inj hm
    refine PJ.sel (L' := []) [] ⟨List.nodup_nil, rfl⟩ ?_
    exact PJ.retn (vs := [.int .i64 r7, .int .i64 0]) Tryd.results14 ⟨rfl, rfl, trivial⟩ ⟨rfl, rfl⟩

set_option maxRecDepth 100000 in
set_option maxHeartbeats 1000000 in
theorem ok_w_f6ints {N : Nat} {a1 : List Int} {b4 : List Int} {r : Bool} (hm : w_f6ints N a1 b4 = some r) (w : World) (v2 : Value) (hr3 : RdS w (cx w).Fz v2 fI64.rp a1) (v5 : Value) (hr6 : RdS w (cx w).Fz v5 fI64.rp b4) :
    Calls Tryd.prog 15 #[v2, v5] w (Ret (cx w) (.bool r)) := by
  unfold w_f6ints at hm
  refine Calls.enter [v2, v5] Tryd.func15 rfl Tryd.ntmps15 rfl ?_
  refine WJ.seq ?_
  refine WJ.quiet ?_
  refine QJ.step (YldS.yld (y_assign rfl)) rfl ?_
  refine QJ.done ?_
  refine PJ.next ?_
  refine WJ.seq ?_
  refine WJ.seq ?_
  refine WJ.quiet ?_
  refine QJ.step (YldS.yld (y_move rfl)) rfl ?_
  refine QJ.step (YldS.yld (y_lenS Tryd.runUnderlying28 hr3 rfl)) rfl ?_
  refine QJ.step (YldS.yld (y_move rfl)) rfl ?_
  refine QJ.step (YldS.yld (y_lenS Tryd.runUnderlying28 hr6 rfl)) rfl ?_
  refine QJ.step (YldS.yld (y_bin rfl rfl rfl)) rfl ?_
  refine QJ.done ?_
  refine PJ.next ?_
  refine WJ.cond (t := ((List.length a1 : Int) != (List.length b4 : Int))) rfl (fun hb7 => ?_) (fun hb7 => ?_)
  · replace hm := ifT hm hb7
    refine WJ.seq ?_
    refine WJ.quiet ?_
    refine QJ.step (YldS.yld (y_assign rfl)) rfl ?_
    refine QJ.done ?_
    refine PJ.next ?_
    refine WJ.ret ?_
    refine PJ.then_ret ?_
    obtain rfl := Option.some.inj hm
    refine PJ.sel (L' := []) [] ⟨List.nodup_nil, rfl⟩ ?_
    exact PJ.retn (vs := [.bool false]) Tryd.results15 ⟨rfl, trivial⟩ ⟨rfl, rfl⟩
  · replace hm := ifF hm hb7
    refine WJ.skip ?_
    refine PJ.next ?_
    obtain ⟨kj8, hk9, hm⟩ := withK_open hm
    refine WJ.join (X := Unit) (fun (_ : Unit) => kj8  = some r) (fun (_ : Unit) => []) (fun (_ : Unit) => []) ?_ ?_
    · clear hk9
      refine WJ.seq ?_
      refine WJ.quiet ?_
      refine QJ.step (YldS.yld (y_assign rfl)) rfl ?_
      refine QJ.done ?_
      refine PJ.next ?_
      refine WJ.block ?_
      refine WJ.sel (L' := (fun (x : Int) => []) 0) [] ⟨List.nodup_nil, rfl⟩ ?_
      refine WJ.sub (m' := (fun (x : Int) => [(0, v2), (1, v5), (5, .int .i64 x)]) 0) ⟨rfl, rfl, rfl, trivial⟩ ?_
      refine WJ.loop (X := Int) (fun N (x : Int) => w_f6ints_l1 kj8 a1 b4 N x = some r) (fun (x : Int) => [(0, v2), (1, v5), (5, .int .i64 x)]) (fun (x : Int) => []) ?_ N 0 hm
      · rintro N i10 hI
        have hm := hI; clear hI
        cases N with
        | zero => cases hm
        | succ N =>
        unfold w_f6ints_l1 at hm
        refine WJ.seq ?_
        refine WJ.seq ?_
        refine WJ.quiet ?_
        refine QJ.step (YldS.yld (y_move rfl)) rfl ?_
        refine QJ.step (YldS.yld (y_move rfl)) rfl ?_
        refine QJ.step (YldS.yld (y_lenS Tryd.runUnderlying28 hr3 rfl)) rfl ?_
        refine QJ.step (YldS.yld (y_bin rfl rfl rfl)) rfl ?_
        refine QJ.done ?_
        refine PJ.next ?_
        refine WJ.cond (t := decide (i10 < (List.length a1 : Int))) rfl (fun hb11 => ?_) (fun hb11 => ?_)
        · replace hm := ifT hm hb11
          refine WJ.skip ?_
          refine PJ.next ?_
          refine WJ.seq ?_
          refine WJ.block ?_
          refine WJ.seq ?_
          refine WJ.quiet_draw follows (by kernel_rfl) ?_
          refine QJ.step (YldS.yld (y_move rfl)) rfl ?_
          refine QJ.step (YldS.yld (y_move rfl)) rfl ?_
          obtain ⟨e12, h13, hm⟩ := bindS hm
          obtain ⟨ad14, _, rfl, ha15, hy16⟩ := hr3.elem h13
          refine QJ.step (YldS.yld (hy16 Tryd.runUnderlying28 Tryd.sizeOf2 rfl rfl)) rfl ?_
          refine QJ.step (YldS.yld (y_load1 (v := .int .i64 e12) Tryd.isAgg2 ha15 St.frozenC rfl)) rfl ?_
          refine QJ.step (YldS.yld (y_move rfl)) rfl ?_
          refine QJ.step (YldS.yld (y_move rfl)) rfl ?_
          obtain ⟨e17, h18, hm⟩ := bindS hm
          obtain ⟨ad19, _, rfl, ha20, hy21⟩ := hr6.elem h18
          refine QJ.step (YldS.yld (hy21 Tryd.runUnderlying28 Tryd.sizeOf2 rfl rfl)) rfl ?_
          refine QJ.step (YldS.yld (y_load1 (v := .int .i64 e17) Tryd.isAgg2 ha20 St.frozenC rfl)) rfl ?_
          refine QJ.step (YldS.yld (y_bin rfl rfl rfl)) rfl ?_
          refine QJ.done ?_
          refine PJ.next ?_
          refine WJ.cond (t := (e12 != e17)) rfl (fun hb22 => ?_) (fun hb22 => ?_)
          · replace hm := ifT hm hb22
            refine WJ.seq ?_
            refine WJ.quiet ?_
            refine QJ.step (YldS.yld (y_assign rfl)) rfl ?_
            refine QJ.done ?_
            refine PJ.next ?_
            refine WJ.ret ?_
            refine PJ.block_ret (PJ.then_ret (PJ.then_ret (PJ.block_ret (PJ.then_ret ?_))))
            obtain rfl := Option.some.inj hm
            refine PJ.sel (L' := []) [] ⟨List.nodup_nil, rfl⟩ ?_
            exact PJ.retn (vs := [.bool false]) Tryd.results15 ⟨rfl, trivial⟩ ⟨rfl, rfl⟩
          · replace hm := ifF hm hb22
            refine WJ.skip ?_
            refine PJ.block_normal (PJ.next ?_)
            refine WJ.quiet ?_
            refine QJ.step (YldS.yld (y_move rfl)) rfl ?_
            refine QJ.step (YldS.yld (y_bin rfl rfl rfl)) rfl ?_
            refine QJ.step (YldS.yld (y_assign rfl)) rfl ?_
            refine QJ.done ?_
            exact PJ.round (w64 (i10 + 1)) [] hm ⟨rfl, rfl, rfl, trivial⟩ ⟨List.nodup_nil, rfl⟩
        · replace hm := ifF hm hb11
          refine WJ.exit ?_
          refine PJ.then_exit (PJ.then_exit (PJ.block_exit ?_))
          exact PJ.joined () [] hm trivial ⟨List.nodup_nil, rfl⟩
    · rintro _ hm
      subst hk9
      refine WJ.seq ?_
      refine WJ.quiet ?_
      refine QJ.step (YldS.yld (y_assign rfl)) rfl ?_
      refine QJ.done ?_
      refine PJ.next ?_
      refine WJ.ret ?_
      obtain rfl := Option.some.inj hm
      refine PJ.sel (L' := []) [] ⟨List.nodup_nil, rfl⟩ ?_
      exact PJ.retn (vs := [.bool true]) Tryd.results15 ⟨rfl, trivial⟩ ⟨rfl, rfl⟩

theorem ok_fmtI {a b : Int} {r : Str} (hm : fmtI a b = some r) (w : World) (hT : Tab Tryd.prog tabNm w (cx w).Fz) :
    Calls Tryd.prog 55 #[.int .i64 a, .int .i64 b] w (Ret (cx w) (str r)) :=
  fmtI_ok (fun n h0 h1 w h => Any.strconv_FormatInt_10 Tryd.laysM173 n h0 h1 w h) hm w hT

set_option maxRecDepth 100000 in
set_option maxHeartbeats 1000000 in
theorem ok_i_Decimal {n1 : Int} {r : Str} (hm : i_Decimal n1 = some r) (w : World) (hT : Tab Tryd.prog tabNm w (cx w).Fz) :
    Calls Tryd.prog 38 #[.int .i64 n1] w (Ret (cx w) (str r)) := by
  unfold i_Decimal at hm
  refine Calls.enter [.int .i64 n1] Tryd.func38 rfl Tryd.ntmps38 rfl ?_
  refine WJ.seq ?_
  refine WJ.quiet ?_
  refine QJ.step (YldS.yld (y_assign rfl)) rfl ?_
  refine QJ.done ?_
  refine PJ.next ?_
  refine WJ.seq ?_
  refine WJ.quiet ?_
  refine QJ.step (YldS.yld (y_move rfl)) rfl ?_
  obtain ⟨r2, h3, hm⟩ := bindS hm
  refine QJ.step (y_call Tryd.call55 rfl (RetG.quiet fun w hw => ok_fmtI h3 w (hT.st hw))) rfl ?_
  refine QJ.step (YldS.yld (y_assign rfl)) rfl ?_
  refine QJ.done ?_
  refine PJ.next ?_
  refine WJ.ret ?_
  obtain rfl := Option.some.inj hm
  refine PJ.sel (L' := []) [] ⟨List.nodup_nil, rfl⟩ ?_
  exact PJ.retn (vs := [str r2]) Tryd.results38 ⟨rfl, trivial⟩ ⟨rfl, rfl⟩

set_option maxRecDepth 100000 in
set_option maxHeartbeats 1000000 in
theorem ok_i_RibbonText {r1 : Ribbon} {r : Str} (hm : i_RibbonText r1 = some r) (w : World) (hT : Tab Tryd.prog tabNm w (cx w).Fz) :
    Calls Tryd.prog 16 #[.agg (Ribbon.enc r1).toArray] w (Ret (cx w) (str r)) := by
  unfold i_RibbonText at hm
  refine Calls.enter [.agg (Ribbon.enc r1).toArray] Tryd.func16 rfl Tryd.ntmps16 rfl ?_
  refine WJ.seq ?_
  refine WJ.reg ?_
  refine SJ.box (cs := [.int .i64 r1.spots, .int .i64 r1.ink, .int .i64 r1.takes]) rfl rfl rfl fun g2 => ?_
  refine SJ.q (YldS.yld (y_assign rfl)) rfl ?_
  refine SJ.nil ?_
  refine PJ.next ?_
  refine WJ.seq ?_
  refine WJ.seq ?_
  refine WJ.quiet ?_
  refine QJ.step (YldS.yld (y_loadBN (k := 0) (off := 0) (us := [.int .i64 r1.spots, .int .i64 r1.ink, .int .i64 r1.takes]) rfl Tryd.isAgg25 Tryd.sizeOf25 rfl rfl)) rfl ?_
  obtain ⟨r3, h4, hm⟩ := bindS hm
  refine QJ.step (y_call Tryd.call18 rfl (RetG.quiet fun w hw => ok_i_ValidRibbon h4 w )) rfl ?_
  refine QJ.step (YldS.yld (y_not rfl)) rfl ?_
  refine QJ.done ?_
  refine PJ.next ?_
  refine WJ.cond (t := !r3) rfl (fun hb5 => ?_) (fun hb5 => ?_)
  · replace hm := ifT hm hb5
    refine WJ.seq ?_
    refine WJ.quiet ?_
    refine QJ.step (YldS.yld (y_assign rfl)) rfl ?_
    refine QJ.done ?_
    refine PJ.next ?_
    refine WJ.ret ?_
    refine PJ.then_ret ?_
    obtain rfl := Option.some.inj hm
    refine PJ.sel (L' := []) [] ⟨List.nodup_nil, rfl⟩ ?_
    exact PJ.retn (vs := [str []]) Tryd.results16 ⟨rfl, trivial⟩ ⟨rfl, rfl⟩
  · replace hm := ifF hm hb5
    refine WJ.skip ?_
    refine PJ.next ?_
    refine WJ.seq ?_
    refine WJ.quiet_draw follows (by kernel_rfl) ?_
    refine QJ.step (YldS.yld (y_fldB (o := 0) fld25_0 rfl)) rfl ?_
    refine QJ.step (YldS.yld (y_loadB (k := 0) (off := 0) (v := .int .i64 r1.spots) rfl Tryd.isAgg2 rfl rfl)) rfl ?_
    obtain ⟨r6, h7, hm⟩ := bindS hm
    refine QJ.step (y_call Tryd.call38 rfl (RetG.quiet fun w hw => ok_i_Decimal h7 w (hT.st hw))) rfl ?_
    obtain ⟨s8, h9, hm⟩ := bindS hm
    refine QJ.step (YldS.yld (y_cat h9 rfl rfl)) rfl ?_
    refine QJ.step (YldS.yld (y_fldB (o := 0) fld25_1 rfl)) rfl ?_
    refine QJ.step (YldS.yld (y_loadB (k := 0) (off := 1) (v := .int .i64 r1.ink) rfl Tryd.isAgg2 rfl rfl)) rfl ?_
    obtain ⟨r10, h11, hm⟩ := bindS hm
    refine QJ.step (y_call Tryd.call38 rfl (RetG.quiet fun w hw => ok_i_Decimal h11 w (hT.st hw))) rfl ?_
    obtain ⟨s12, h13, hm⟩ := bindS hm
    refine QJ.step (YldS.yld (y_cat h13 rfl rfl)) rfl ?_
    obtain ⟨s14, h15, hm⟩ := bindS hm
    refine QJ.step (YldS.yld (y_cat h15 rfl rfl)) rfl ?_
    refine QJ.step (YldS.yld (y_fldB (o := 0) fld25_2 rfl)) rfl ?_
    refine QJ.step (YldS.yld (y_loadB (k := 0) (off := 2) (v := .int .i64 r1.takes) rfl Tryd.isAgg2 rfl rfl)) rfl ?_
    obtain ⟨r16, h17, hm⟩ := bindS hm
    refine QJ.step (y_call Tryd.call38 rfl (RetG.quiet fun w hw => ok_i_Decimal h17 w (hT.st hw))) rfl ?_
    obtain ⟨s18, h19, hm⟩ := bindS hm
    refine QJ.step (YldS.yld (y_cat h19 rfl rfl)) rfl ?_
    refine QJ.step (YldS.yld (y_assign rfl)) rfl ?_
    refine QJ.done ?_
    refine PJ.next ?_
    refine WJ.ret ?_
    obtain rfl := Option.some.inj hm
    refine PJ.sel (L' := []) [] ⟨List.nodup_nil, rfl⟩ ?_
    exact PJ.retn (vs := [str s18]) Tryd.results16 ⟨rfl, trivial⟩ ⟨rfl, rfl⟩

set_option maxRecDepth 100000 in
set_option maxHeartbeats 1000000 in
theorem ok_s_l01Dec {N : Nat} {n1 : Int} {r : Str} (hm : s_l01Dec N n1 = some r) (w : World)  :
    Calls Tryd.prog 40 #[.int .i64 n1] w (Ret (cx w) (str r)) := by
  unfold s_l01Dec at hm
  refine Calls.enter [.int .i64 n1] Tryd.func40 rfl Tryd.ntmps40 rfl ?_
  refine WJ.seq ?_
  refine WJ.quiet ?_
  refine QJ.step (YldS.yld (y_assign rfl)) rfl ?_
  refine QJ.done ?_
  refine PJ.next ?_
  refine WJ.seq ?_
  refine WJ.reg ?_
  refine SJ.buildSlice (R := fByte) (os := []) [] Tryd.runUnderlying22 Tryd.sizeOf5 Tryd.zeroValue5 rfl rfl rfl rfl rfl rfl fun v2 => ?_
  refine SJ.q (YldS.yld (y_assign rfl)) rfl ?_
  refine SJ.nil ?_
  refine PJ.next ?_
  obtain ⟨kj5, hk6, hm⟩ := withK_open hm
  refine WJ.join (X := (List UInt8) × Value) (fun (x : (List UInt8) × Value) => kj5 x.1 = some r) (fun (x : (List UInt8) × Value) => [(0, .int .i64 n1), (3, x.2)]) (fun (x : (List UInt8) × Value) => [row x.2 5 fByte x.1]) ?_ ?_
  · clear hk6
    refine WJ.seq ?_
    refine WJ.quiet ?_
    refine QJ.step (YldS.yld (y_move rfl)) rfl ?_
    refine QJ.step (YldS.yld (y_assign rfl)) rfl ?_
    refine QJ.done ?_
    refine PJ.next ?_
    refine WJ.block ?_
    refine WJ.sel (L' := (fun (x : (List UInt8) × Value × Int) => [row x.2.1 5 fByte x.1]) ([], v2, n1)) [0] ⟨by decide, rfl⟩ ?_
    refine WJ.sub (m' := (fun (x : (List UInt8) × Value × Int) => [(0, .int .i64 n1), (3, x.2.1), (4, .int .i64 x.2.2)]) ([], v2, n1)) ⟨rfl, rfl, rfl, trivial⟩ ?_
    refine WJ.loop (X := (List UInt8) × Value × Int) (fun N (x : (List UInt8) × Value × Int) => s_l01Dec_l1 kj5 N x.1 x.2.2 = some r) (fun (x : (List UInt8) × Value × Int) => [(0, .int .i64 n1), (3, x.2.1), (4, .int .i64 x.2.2)]) (fun (x : (List UInt8) × Value × Int) => [row x.2.1 5 fByte x.1]) ?_ N ([], v2, n1) hm
    · rintro N ⟨l7, v8, k9⟩ hI
      have hm := hI; clear hI
      cases N with
      | zero => cases hm
      | succ N =>
      unfold s_l01Dec_l1 at hm
      refine WJ.seq ?_
      refine WJ.seq ?_
      refine WJ.quiet ?_
      refine QJ.step (YldS.yld (y_move rfl)) rfl ?_
      refine QJ.step (YldS.yld (y_bin rfl rfl rfl)) rfl ?_
      refine QJ.done ?_
      refine PJ.next ?_
      refine WJ.cond (t := (k9 != 0)) rfl (fun hb10 => ?_) (fun hb10 => ?_)
      · replace hm := ifT hm hb10
        refine WJ.skip ?_
        refine PJ.next ?_
        refine WJ.seq ?_
        refine WJ.block ?_
        refine WJ.seq ?_
        refine WJ.quiet ?_
        refine QJ.step (YldS.yld (y_move rfl)) rfl ?_
        refine QJ.step (YldS.yld (y_rem rfl rfl (by decide))) rfl ?_
        refine QJ.step (YldS.yld (y_assign rfl)) rfl ?_
        refine QJ.done ?_
        refine PJ.next ?_
        obtain ⟨kj12, hk13, hm⟩ := withK_open hm
        refine WJ.join (X := Int) (fun (x : Int) => kj12 x = some r) (fun (x : Int) => [(0, .int .i64 n1), (3, v8), (4, .int .i64 k9), (5, .int .i64 x)]) (fun (x : Int) => [row v8 5 fByte l7]) ?_ ?_
        · clear hk13
          refine WJ.seq ?_
          refine WJ.quiet ?_
          refine QJ.step (YldS.yld (y_move rfl)) rfl ?_
          refine QJ.step (YldS.yld (y_bin rfl rfl rfl)) rfl ?_
          refine QJ.done ?_
          refine PJ.next ?_
          refine WJ.cond (t := decide ((Int.tmod k9 10) < 0)) rfl (fun hb14 => ?_) (fun hb14 => ?_)
          · replace hm := ifT hm hb14
            refine WJ.quiet ?_
            refine QJ.step (YldS.yld (y_move rfl)) rfl ?_
            refine QJ.step (YldS.yld (y_neg rfl)) rfl ?_
            refine QJ.step (YldS.yld (y_assign rfl)) rfl ?_
            refine QJ.done ?_
            exact PJ.joined (w64 (0 - (Int.tmod k9 10))) [0] hm ⟨rfl, rfl, rfl, rfl, trivial⟩ ⟨by decide, rfl⟩
          · replace hm := ifF hm hb14
            refine WJ.skip ?_
            exact PJ.joined (Int.tmod k9 10) [0] hm ⟨rfl, rfl, rfl, rfl, trivial⟩ ⟨by decide, rfl⟩
        · rintro d11 hm
          subst hk13
          refine WJ.reg ?_
          refine SJ.q (YldS.yld (y_move rfl)) rfl ?_
          refine SJ.q (YldS.yld (y_bin rfl rfl rfl)) rfl ?_
          refine SJ.q (YldS.yld (y_convTo8 Tryd.runUnderlying2 Tryd.runUnderlying5 rfl)) rfl ?_
          refine SJ.buildSlice (R := fByte) (os := [.tmp 20]) [UInt8.ofInt (w64 (48 + d11))] Tryd.runUnderlying22 Tryd.sizeOf5 Tryd.zeroValue5 rfl rfl rfl rfl rfl rfl fun v15 => ?_
          refine SJ.q (YldS.yld (y_move rfl)) rfl ?_
          obtain ⟨l16, h17, hm⟩ := bindS hm
          refine SJ.append (k := 0) (R := fByte) h17 rfl Tryd.underlying22 el5 rfl rfl rfl (fun w hw => (hw.row_rd (k := 1) rfl)) rfl fun v18 => ?_
          refine SJ.q (YldS.yld (y_assign rfl)) rfl ?_
          refine SJ.nil ?_
          refine PJ.block_normal (PJ.next ?_)
          refine WJ.quiet ?_
          refine QJ.step (YldS.yld (y_move rfl)) rfl ?_
          refine QJ.step (YldS.yld (y_quo rfl rfl (by decide))) rfl ?_
          refine QJ.step (YldS.yld (y_assign rfl)) rfl ?_
          refine QJ.done ?_
          exact PJ.round (l16, v18, w64 (Int.tdiv k9 10)) [0] hm ⟨rfl, rfl, rfl, trivial⟩ ⟨by decide, rfl⟩
      · replace hm := ifF hm hb10
        refine WJ.exit ?_
        refine PJ.then_exit (PJ.then_exit (PJ.block_exit ?_))
        exact PJ.joined (l7, v8) [0] hm ⟨rfl, rfl, trivial⟩ ⟨by decide, rfl⟩
  · rintro ⟨l3, v4⟩ hm
    subst hk6
    refine WJ.seq ?_
    refine WJ.seq ?_
    refine WJ.quiet ?_
    refine QJ.step (YldS.yld (y_move rfl)) rfl ?_
    refine QJ.step (YldS.yld (y_lenRow (k := 0) rfl Tryd.runUnderlying22 rfl)) rfl ?_
    refine QJ.step (YldS.yld (y_bin rfl rfl rfl)) rfl ?_
    refine QJ.done ?_
    refine PJ.next ?_
    refine WJ.cond (t := ((List.length l3 : Int) == 0)) rfl (fun hb19 => ?_) (fun hb19 => ?_)
    · replace hm := ifT hm hb19
      refine WJ.seq ?_
      refine WJ.quiet ?_
      refine QJ.step (YldS.yld (y_assign rfl)) rfl ?_
      refine QJ.done ?_
      refine PJ.next ?_
      refine WJ.ret ?_
      refine PJ.then_ret ?_
      obtain rfl := Option.some.inj hm
      refine PJ.sel (L' := []) [] ⟨List.nodup_nil, rfl⟩ ?_
      exact PJ.retn (vs := [str [48]]) Tryd.results40 ⟨rfl, trivial⟩ ⟨rfl, rfl⟩
    · replace hm := ifF hm hb19
      refine WJ.skip ?_
      refine PJ.next ?_
      refine WJ.seq ?_
      refine WJ.seq ?_
      refine WJ.quiet ?_
      refine QJ.step (YldS.yld (y_move rfl)) rfl ?_
      refine QJ.step (YldS.yld (y_bin rfl rfl rfl)) rfl ?_
      refine QJ.done ?_
      refine PJ.next ?_
      refine WJ.cond (t := decide (n1 < 0)) rfl (fun hb20 => ?_) (fun hb20 => ?_)
      · replace hm := ifT hm hb20
        refine WJ.seq ?_
        refine WJ.quiet ?_
        refine QJ.step (YldS.yld (y_move rfl)) rfl ?_
        refine QJ.step (YldS.yld (y_b2s Tryd.underlying22 Tryd.underlying9 Tryd.underlying5 (fun w hw => ⟨_, (hw.row_rd (k := 0) rfl)⟩) rfl)) rfl ?_
        obtain ⟨s21, h22, hm⟩ := bindS hm
        refine QJ.step (YldS.yld (y_cat h22 rfl rfl)) rfl ?_
        refine QJ.step (YldS.yld (y_assign rfl)) rfl ?_
        refine QJ.done ?_
        refine PJ.next ?_
        refine WJ.ret ?_
        refine PJ.then_ret ?_
        obtain rfl := Option.some.inj hm
        refine PJ.sel (L' := []) [] ⟨List.nodup_nil, rfl⟩ ?_
        exact PJ.retn (vs := [str s21]) Tryd.results40 ⟨rfl, trivial⟩ ⟨rfl, rfl⟩
      · replace hm := ifF hm hb20
        refine WJ.skip ?_
        refine PJ.next ?_
        refine WJ.seq ?_
        refine WJ.quiet ?_
        refine QJ.step (YldS.yld (y_move rfl)) rfl ?_
        refine QJ.step (YldS.yld (y_b2s Tryd.underlying22 Tryd.underlying9 Tryd.underlying5 (fun w hw => ⟨_, (hw.row_rd (k := 0) rfl)⟩) rfl)) rfl ?_
        refine QJ.step (YldS.yld (y_assign rfl)) rfl ?_
        refine QJ.done ?_
        refine PJ.next ?_
        refine WJ.ret ?_
        obtain rfl := Option.some.inj hm
        refine PJ.sel (L' := []) [] ⟨List.nodup_nil, rfl⟩ ?_
        exact PJ.retn (vs := [str l3]) Tryd.results40 ⟨rfl, trivial⟩ ⟨rfl, rfl⟩

set_option maxRecDepth 100000 in
set_option maxHeartbeats 1000000 in
theorem ok_s_RibbonText {N : Nat} {r1 : Ribbon} {r : Str} (hm : s_RibbonText N r1 = some r) (w : World)  :
    Calls Tryd.prog 17 #[.agg (Ribbon.enc r1).toArray] w (Ret (cx w) (str r)) := by
  unfold s_RibbonText at hm
  refine Calls.enter [.agg (Ribbon.enc r1).toArray] Tryd.func17 rfl Tryd.ntmps17 rfl ?_
  refine WJ.seq ?_
  refine WJ.reg ?_
  refine SJ.box (cs := [.int .i64 r1.spots, .int .i64 r1.ink, .int .i64 r1.takes]) rfl rfl rfl fun g2 => ?_
  refine SJ.q (YldS.yld (y_assign rfl)) rfl ?_
  refine SJ.nil ?_
  refine PJ.next ?_
  refine WJ.seq ?_
  refine WJ.seq ?_
  refine WJ.quiet ?_
  refine QJ.step (YldS.yld (y_loadBN (k := 0) (off := 0) (us := [.int .i64 r1.spots, .int .i64 r1.ink, .int .i64 r1.takes]) rfl Tryd.isAgg25 Tryd.sizeOf25 rfl rfl)) rfl ?_
  obtain ⟨r3, h4, hm⟩ := bindS hm
  refine QJ.step (y_call Tryd.call39 rfl (RetG.quiet fun w hw => ok_s_l14Ok h4 w )) rfl ?_
  refine QJ.step (YldS.yld (y_not rfl)) rfl ?_
  refine QJ.done ?_
  refine PJ.next ?_
  refine WJ.cond (t := !r3) rfl (fun hb5 => ?_) (fun hb5 => ?_)
  · replace hm := ifT hm hb5
    refine WJ.seq ?_
    refine WJ.quiet ?_
    refine QJ.step (YldS.yld (y_assign rfl)) rfl ?_
    refine QJ.done ?_
    refine PJ.next ?_
    refine WJ.ret ?_
    refine PJ.then_ret ?_
    obtain rfl := Option.some.inj hm
    refine PJ.sel (L' := []) [] ⟨List.nodup_nil, rfl⟩ ?_
    exact PJ.retn (vs := [str []]) Tryd.results17 ⟨rfl, trivial⟩ ⟨rfl, rfl⟩
  · replace hm := ifF hm hb5
    refine WJ.skip ?_
    refine PJ.next ?_
    refine WJ.seq ?_
    refine WJ.quiet_draw follows (by kernel_rfl) ?_
    refine QJ.step (YldS.yld (y_fldB (o := 0) fld25_0 rfl)) rfl ?_
    refine QJ.step (YldS.yld (y_loadB (k := 0) (off := 0) (v := .int .i64 r1.spots) rfl Tryd.isAgg2 rfl rfl)) rfl ?_
    obtain ⟨r6, h7, hm⟩ := bindS hm
    refine QJ.step (y_call Tryd.call40 rfl (RetG.quiet fun w hw => ok_s_l01Dec h7 w )) rfl ?_
    obtain ⟨s8, h9, hm⟩ := bindS hm
    refine QJ.step (YldS.yld (y_cat h9 rfl rfl)) rfl ?_
    refine QJ.step (YldS.yld (y_fldB (o := 0) fld25_1 rfl)) rfl ?_
    refine QJ.step (YldS.yld (y_loadB (k := 0) (off := 1) (v := .int .i64 r1.ink) rfl Tryd.isAgg2 rfl rfl)) rfl ?_
    obtain ⟨r10, h11, hm⟩ := bindS hm
    refine QJ.step (y_call Tryd.call40 rfl (RetG.quiet fun w hw => ok_s_l01Dec h11 w )) rfl ?_
    obtain ⟨s12, h13, hm⟩ := bindS hm
    refine QJ.step (YldS.yld (y_cat h13 rfl rfl)) rfl ?_
    obtain ⟨s14, h15, hm⟩ := bindS hm
    refine QJ.step (YldS.yld (y_cat h15 rfl rfl)) rfl ?_
    refine QJ.step (YldS.yld (y_fldB (o := 0) fld25_2 rfl)) rfl ?_
    refine QJ.step (YldS.yld (y_loadB (k := 0) (off := 2) (v := .int .i64 r1.takes) rfl Tryd.isAgg2 rfl rfl)) rfl ?_
    obtain ⟨r16, h17, hm⟩ := bindS hm
    refine QJ.step (y_call Tryd.call40 rfl (RetG.quiet fun w hw => ok_s_l01Dec h17 w )) rfl ?_
    obtain ⟨s18, h19, hm⟩ := bindS hm
    refine QJ.step (YldS.yld (y_cat h19 rfl rfl)) rfl ?_
    refine QJ.step (YldS.yld (y_assign rfl)) rfl ?_
    refine QJ.done ?_
    refine PJ.next ?_
    refine WJ.ret ?_
    obtain rfl := Option.some.inj hm
    refine PJ.sel (L' := []) [] ⟨List.nodup_nil, rfl⟩ ?_
    exact PJ.retn (vs := [str s18]) Tryd.results17 ⟨rfl, trivial⟩ ⟨rfl, rfl⟩

set_option maxRecDepth 100000 in
set_option maxHeartbeats 1000000 in
theorem ok_s_ValidRibbon {r1 : Ribbon} {r : Bool} (hm : s_ValidRibbon r1 = some r) (w : World)  :
    Calls Tryd.prog 19 #[.agg (Ribbon.enc r1).toArray] w (Ret (cx w) (.bool r)) := by
  unfold s_ValidRibbon at hm
  refine Calls.enter [.agg (Ribbon.enc r1).toArray] Tryd.func19 rfl Tryd.ntmps19 rfl ?_
  refine WJ.seq ?_
  refine WJ.reg ?_
  refine SJ.box (cs := [.int .i64 r1.spots, .int .i64 r1.ink, .int .i64 r1.takes]) rfl rfl rfl fun g2 => ?_
  refine SJ.q (YldS.yld (y_assign rfl)) rfl ?_
  refine SJ.nil ?_
  refine PJ.next ?_
  refine WJ.seq ?_
  refine WJ.quiet ?_
  refine QJ.step (YldS.yld (y_loadBN (k := 0) (off := 0) (us := [.int .i64 r1.spots, .int .i64 r1.ink, .int .i64 r1.takes]) rfl Tryd.isAgg25 Tryd.sizeOf25 rfl rfl)) rfl ?_
  obtain ⟨r3, h4, hm⟩ := bindS hm
  refine QJ.step (y_call Tryd.call39 rfl (RetG.quiet fun w hw => ok_s_l14Ok h4 w )) rfl ?_
  refine QJ.step (YldS.yld (y_assign rfl)) rfl ?_
  refine QJ.done ?_
  refine PJ.next ?_
  refine WJ.ret ?_
  obtain rfl := Option.some.inj hm
  refine PJ.sel (L' := []) [] ⟨List.nodup_nil, rfl⟩ ?_
  exact PJ.retn (vs := [.bool r3]) Tryd.results19 ⟨rfl, trivial⟩ ⟨rfl, rfl⟩

set_option maxRecDepth 100000 in
set_option maxHeartbeats 1000000 in
theorem ok_w_f6sum {N : Nat} {list1 : List Int} {r : Int} (hm : w_f6sum N list1 = some r) (w : World) (v2 : Value) (hr3 : RdS w (cx w).Fz v2 fI64.rp list1) :
    Calls Tryd.prog 20 #[v2] w (Ret (cx w) (.int .i64 r)) := by
  unfold w_f6sum at hm
  refine Calls.enter [v2] Tryd.func20 rfl Tryd.ntmps20 rfl ?_
  refine WJ.seq ?_
  refine WJ.quiet ?_
  refine QJ.step (YldS.yld (y_assign rfl)) rfl ?_
  refine QJ.done ?_
  refine PJ.next ?_
  refine WJ.seq ?_
  refine WJ.quiet ?_
  refine QJ.step (YldS.yld (y_assign rfl)) rfl ?_
  refine QJ.done ?_
  refine PJ.next ?_
  obtain ⟨kj5, hk6, hm⟩ := withK_open hm
  refine WJ.join (X := Int) (fun (x : Int) => kj5 x = some r) (fun (x : Int) => [(3, .int .i64 x)]) (fun (x : Int) => []) ?_ ?_
  · clear hk6
    refine WJ.seq ?_
    refine WJ.quiet ?_
    refine QJ.step (YldS.yld (y_assign rfl)) rfl ?_
    refine QJ.done ?_
    refine PJ.next ?_
    refine WJ.block ?_
    refine WJ.sel (L' := (fun (x : Int × Int) => []) (0, 0)) [] ⟨List.nodup_nil, rfl⟩ ?_
    refine WJ.sub (m' := (fun (x : Int × Int) => [(0, v2), (3, .int .i64 x.1), (4, .int .i64 x.2)]) (0, 0)) ⟨rfl, rfl, rfl, trivial⟩ ?_
    refine WJ.loop (X := Int × Int) (fun N (x : Int × Int) => w_f6sum_l1 kj5 list1 N x.1 x.2 = some r) (fun (x : Int × Int) => [(0, v2), (3, .int .i64 x.1), (4, .int .i64 x.2)]) (fun (x : Int × Int) => []) ?_ N (0, 0) hm
    · rintro N ⟨sum7, i8⟩ hI
      have hm := hI; clear hI
      cases N with
      | zero => cases hm
      | succ N =>
      unfold w_f6sum_l1 at hm
      refine WJ.seq ?_
      refine WJ.seq ?_
      refine WJ.quiet ?_
      refine QJ.step (YldS.yld (y_move rfl)) rfl ?_
      refine QJ.step (YldS.yld (y_move rfl)) rfl ?_
      refine QJ.step (YldS.yld (y_lenS Tryd.runUnderlying28 hr3 rfl)) rfl ?_
      refine QJ.step (YldS.yld (y_bin rfl rfl rfl)) rfl ?_
      refine QJ.done ?_
      refine PJ.next ?_
      refine WJ.cond (t := decide (i8 < (List.length list1 : Int))) rfl (fun hb9 => ?_) (fun hb9 => ?_)
      · replace hm := ifT hm hb9
        refine WJ.skip ?_
        refine PJ.next ?_
        refine WJ.seq ?_
        refine WJ.block ?_
        refine WJ.quiet ?_
        refine QJ.step (YldS.yld (y_move rfl)) rfl ?_
        refine QJ.step (YldS.yld (y_move rfl)) rfl ?_
        refine QJ.step (YldS.yld (y_move rfl)) rfl ?_
        obtain ⟨e10, h11, hm⟩ := bindS hm
        obtain ⟨ad12, _, rfl, ha13, hy14⟩ := hr3.elem h11
        refine QJ.step (YldS.yld (hy14 Tryd.runUnderlying28 Tryd.sizeOf2 rfl rfl)) rfl ?_
        refine QJ.step (YldS.yld (y_load1 (v := .int .i64 e10) Tryd.isAgg2 ha13 St.frozenC rfl)) rfl ?_
        refine QJ.step (YldS.yld (y_bin rfl rfl rfl)) rfl ?_
        refine QJ.step (YldS.yld (y_assign rfl)) rfl ?_
        refine QJ.done ?_
        refine PJ.block_normal (PJ.next ?_)
        refine WJ.quiet ?_
        refine QJ.step (YldS.yld (y_move rfl)) rfl ?_
        refine QJ.step (YldS.yld (y_bin rfl rfl rfl)) rfl ?_
        refine QJ.step (YldS.yld (y_assign rfl)) rfl ?_
        refine QJ.done ?_
        exact PJ.round (w64 (sum7 + e10), w64 (i8 + 1)) [] hm ⟨rfl, rfl, rfl, trivial⟩ ⟨List.nodup_nil, rfl⟩
      · replace hm := ifF hm hb9
        refine WJ.exit ?_
        refine PJ.then_exit (PJ.then_exit (PJ.block_exit ?_))
        exact PJ.joined sum7 [] hm ⟨rfl, trivial⟩ ⟨List.nodup_nil, rfl⟩
  · rintro sum4 hm
    subst hk6
    refine WJ.seq ?_
    refine WJ.quiet ?_
    refine QJ.step (YldS.yld (y_move rfl)) rfl ?_
    refine QJ.step (YldS.yld (y_assign rfl)) rfl ?_
    refine QJ.done ?_
    refine PJ.next ?_
    refine WJ.ret ?_
    obtain rfl := Option.some.inj hm
    refine PJ.sel (L' := []) [] ⟨List.nodup_nil, rfl⟩ ?_
    exact PJ.retn (vs := [.int .i64 sum4]) Tryd.results20 ⟨rfl, trivial⟩ ⟨rfl, rfl⟩

set_option maxRecDepth 100000 in
set_option maxHeartbeats 1000000 in
theorem ok_w_FnRibbonSpots {N : Nat} {code1 : List UInt8} {r : Bool} (hm : w_FnRibbonSpots N code1 = some r) (w : World) (hT : Tab Tryd.prog tabNm w (cx w).Fz) (v2 : Value) (hr3 : RdS w (cx w).Fz v2 fByte.rp code1) :
    Calls Tryd.prog 3 #[v2] w (Ret (cx w) (.bool r)) := by
  unfold w_FnRibbonSpots at hm
  refine Calls.enter [v2] Tryd.func3 rfl Tryd.ntmps3 rfl ?_
  refine WJ.seq ?_
  refine WJ.quiet ?_
  refine QJ.step (YldS.yld (y_assign rfl)) rfl ?_
  refine QJ.done ?_
  refine PJ.next ?_
  refine WJ.seq ?_
  refine WJ.seq ?_
  refine WJ.quiet ?_
  refine QJ.step (YldS.yld (y_move rfl)) rfl ?_
  obtain ⟨r4, h5, hm⟩ := bindS hm
  refine QJ.step (y_call Tryd.call5 rfl (RetG.quiet fun w hw => ok_w_f6big h5 w _ (hr3.st hw))) rfl ?_
  refine QJ.done ?_
  refine PJ.next ?_
  refine WJ.cond (t := r4) rfl (fun hb6 => ?_) (fun hb6 => ?_)
  · replace hm := ifT hm hb6
    refine WJ.seq ?_
    refine WJ.quiet ?_
    refine QJ.step (YldS.yld (y_assign rfl)) rfl ?_
    refine QJ.done ?_
    refine PJ.next ?_
    refine WJ.ret ?_
    refine PJ.then_ret ?_
    obtain rfl := Option.some.inj hm
    refine PJ.sel (L' := []) [] ⟨List.nodup_nil, rfl⟩ ?_
    exact PJ.retn (vs := [.bool true]) Tryd.results3 ⟨rfl, trivial⟩ ⟨rfl, rfl⟩
  · replace hm := ifF hm hb6
    refine WJ.skip ?_
    refine PJ.next ?_
    refine WJ.seq ?_
    refine WJ.reg ?_
    refine SJ.q (YldS.yld (y_move rfl)) rfl ?_
    obtain ⟨r7, h8, hm⟩ := bindS hm
    refine SJ.q (y_call Tryd.call6 rfl (RetG.quiet fun w hw => ok_s_DrawUsesOf h8 w _ (hr3.st hw))) rfl ?_
    refine SJ.q (YldS.yld (y_move rfl)) rfl ?_
    refine SJ.q (YldS.yld (y_extract rfl rfl)) rfl ?_
    refine SJ.q (YldS.yld (y_extract rfl rfl)) rfl ?_
    refine SJ.alloc (cs := [.int .i64 0, .int .i64 0, .int .i64 0]) Tryd.zeroValue25 rfl rfl fun g9 => ?_
    refine SJ.storeL (k := 0) (off := 0) (us := [.int .i64 r7.1.spots, .int .i64 r7.1.ink, .int .i64 r7.1.takes]) rfl rfl rfl rfl Tryd.sizeOf25 rfl rfl ?_
    refine SJ.q (YldS.yld (y_assign rfl)) rfl ?_
    refine SJ.nil ?_
    refine PJ.next ?_
    refine WJ.seq ?_
    refine WJ.reg ?_
    refine SJ.q (YldS.yld (y_loadBN (k := 0) (off := 0) (us := [.int .i64 r7.1.spots, .int .i64 r7.1.ink, .int .i64 r7.1.takes]) rfl Tryd.isAgg25 Tryd.sizeOf25 rfl rfl)) rfl ?_
    refine SJ.q (YldS.yld (y_move rfl)) rfl ?_
    obtain ⟨r10, h11, hm⟩ := bindS hm
    refine SJ.call Tryd.call7 rfl (fun w hw => ok_i_UsesOf h11 w ) rfl ?_
    rintro _ _ ⟨v12, rfl, rfl⟩
    refine SJ.q (YldS.yld (y_move rfl)) rfl ?_
    refine SJ.q (YldS.yld (y_extract rfl rfl)) rfl ?_
    refine SJ.q (YldS.yld (y_extract rfl rfl)) rfl ?_
    refine SJ.q (YldS.yld (y_assign rfl)) rfl ?_
    refine SJ.q (YldS.yld (y_assign rfl)) rfl ?_
    refine SJ.nil ?_
    refine PJ.next ?_
    refine WJ.seq ?_
    refine WJ.reg ?_
    refine SJ.q (YldS.yld (y_loadBN (k := 1) (off := 0) (us := [.int .i64 r7.1.spots, .int .i64 r7.1.ink, .int .i64 r7.1.takes]) rfl Tryd.isAgg25 Tryd.sizeOf25 rfl rfl)) rfl ?_
    refine SJ.q (YldS.yld (y_move rfl)) rfl ?_
    obtain ⟨r13, h14, hm⟩ := bindS hm
    refine SJ.call Tryd.call8 rfl (fun w hw => ok_s_UsesOf h14 w ) rfl ?_
    rintro _ _ ⟨v15, rfl, rfl⟩
    refine SJ.q (YldS.yld (y_move rfl)) rfl ?_
    refine SJ.q (YldS.yld (y_extract rfl rfl)) rfl ?_
    refine SJ.q (YldS.yld (y_extract rfl rfl)) rfl ?_
    refine SJ.q (YldS.yld (y_assign rfl)) rfl ?_
    refine SJ.q (YldS.yld (y_assign rfl)) rfl ?_
    refine SJ.nil ?_
    refine PJ.next ?_
    refine WJ.seq ?_
    refine WJ.quiet ?_
    refine QJ.step (YldS.yld (y_loadBN (k := 2) (off := 0) (us := [.int .i64 r7.1.spots, .int .i64 r7.1.ink, .int .i64 r7.1.takes]) rfl Tryd.isAgg25 Tryd.sizeOf25 rfl rfl)) rfl ?_
    refine QJ.step (YldS.yld (y_move rfl)) rfl ?_
    obtain ⟨r16, h17, hm⟩ := bindS hm
    refine QJ.step (y_call Tryd.call9 rfl (RetG.quiet fun w hw => ok_i_SpotAt h17 w )) rfl ?_
    refine QJ.step (YldS.yld (y_move rfl)) rfl ?_
    refine QJ.step (YldS.yld (y_extract rfl rfl)) rfl ?_
    refine QJ.step (YldS.yld (y_extract rfl rfl)) rfl ?_
    refine QJ.step (YldS.yld (y_assign rfl)) rfl ?_
    refine QJ.step (YldS.yld (y_assign rfl)) rfl ?_
    refine QJ.done ?_
    refine PJ.next ?_
    refine WJ.seq ?_
    refine WJ.quiet ?_
    refine QJ.step (YldS.yld (y_loadBN (k := 2) (off := 0) (us := [.int .i64 r7.1.spots, .int .i64 r7.1.ink, .int .i64 r7.1.takes]) rfl Tryd.isAgg25 Tryd.sizeOf25 rfl rfl)) rfl ?_
    refine QJ.step (YldS.yld (y_move rfl)) rfl ?_
    obtain ⟨r18, h19, hm⟩ := bindS hm
    refine QJ.step (y_call Tryd.call10 rfl (RetG.quiet fun w hw => ok_s_SpotAt h19 w )) rfl ?_
    refine QJ.step (YldS.yld (y_move rfl)) rfl ?_
    refine QJ.step (YldS.yld (y_extract rfl rfl)) rfl ?_
    refine QJ.step (YldS.yld (y_extract rfl rfl)) rfl ?_
    refine QJ.step (YldS.yld (y_assign rfl)) rfl ?_
    refine QJ.step (YldS.yld (y_assign rfl)) rfl ?_
    refine QJ.done ?_
    refine PJ.next ?_
    refine WJ.seq ?_
    refine WJ.quiet ?_
    refine QJ.step (YldS.yld (y_loadBN (k := 2) (off := 0) (us := [.int .i64 r7.1.spots, .int .i64 r7.1.ink, .int .i64 r7.1.takes]) rfl Tryd.isAgg25 Tryd.sizeOf25 rfl rfl)) rfl ?_
    refine QJ.step (YldS.yld (y_move rfl)) rfl ?_
    obtain ⟨r20, h21, hm⟩ := bindS hm
    refine QJ.step (y_call Tryd.call11 rfl (RetG.quiet fun w hw => ok_i_TurnsIn h21 w )) rfl ?_
    refine QJ.step (YldS.yld (y_move rfl)) rfl ?_
    refine QJ.step (YldS.yld (y_extract rfl rfl)) rfl ?_
    refine QJ.step (YldS.yld (y_extract rfl rfl)) rfl ?_
    refine QJ.step (YldS.yld (y_assign rfl)) rfl ?_
    refine QJ.step (YldS.yld (y_assign rfl)) rfl ?_
    refine QJ.done ?_
    refine PJ.next ?_
    refine WJ.seq ?_
    refine WJ.quiet ?_
    refine QJ.step (YldS.yld (y_loadBN (k := 2) (off := 0) (us := [.int .i64 r7.1.spots, .int .i64 r7.1.ink, .int .i64 r7.1.takes]) rfl Tryd.isAgg25 Tryd.sizeOf25 rfl rfl)) rfl ?_
    refine QJ.step (YldS.yld (y_move rfl)) rfl ?_
    obtain ⟨r22, h23, hm⟩ := bindS hm
    refine QJ.step (y_call Tryd.call12 rfl (RetG.quiet fun w hw => ok_s_TurnsIn h23 w )) rfl ?_
    refine QJ.step (YldS.yld (y_move rfl)) rfl ?_
    refine QJ.step (YldS.yld (y_extract rfl rfl)) rfl ?_
    refine QJ.step (YldS.yld (y_extract rfl rfl)) rfl ?_
    refine QJ.step (YldS.yld (y_assign rfl)) rfl ?_
    refine QJ.step (YldS.yld (y_assign rfl)) rfl ?_
    refine QJ.done ?_
    refine PJ.next ?_
    refine WJ.seq ?_
    refine WJ.quiet ?_
    refine QJ.step (YldS.yld (y_loadBN (k := 2) (off := 0) (us := [.int .i64 r7.1.spots, .int .i64 r7.1.ink, .int .i64 r7.1.takes]) rfl Tryd.isAgg25 Tryd.sizeOf25 rfl rfl)) rfl ?_
    refine QJ.step (YldS.yld (y_move rfl)) rfl ?_
    obtain ⟨r24, h25, hm⟩ := bindS hm
    refine QJ.step (y_call Tryd.call13 rfl (RetG.quiet fun w hw => ok_i_ShadeAt h25 w )) rfl ?_
    refine QJ.step (YldS.yld (y_move rfl)) rfl ?_
    refine QJ.step (YldS.yld (y_extract rfl rfl)) rfl ?_
    refine QJ.step (YldS.yld (y_extract rfl rfl)) rfl ?_
    refine QJ.step (YldS.yld (y_assign rfl)) rfl ?_
    refine QJ.step (YldS.yld (y_assign rfl)) rfl ?_
    refine QJ.done ?_
    refine PJ.next ?_
    refine WJ.seq ?_
    refine WJ.quiet ?_
    refine QJ.step (YldS.yld (y_loadBN (k := 2) (off := 0) (us := [.int .i64 r7.1.spots, .int .i64 r7.1.ink, .int .i64 r7.1.takes]) rfl Tryd.isAgg25 Tryd.sizeOf25 rfl rfl)) rfl ?_
    refine QJ.step (YldS.yld (y_move rfl)) rfl ?_
    obtain ⟨r26, h27, hm⟩ := bindS hm
    refine QJ.step (y_call Tryd.call14 rfl (RetG.quiet fun w hw => ok_s_ShadeAt h27 w )) rfl ?_
    refine QJ.step (YldS.yld (y_move rfl)) rfl ?_
    refine QJ.step (YldS.yld (y_extract rfl rfl)) rfl ?_
    refine QJ.step (YldS.yld (y_extract rfl rfl)) rfl ?_
    refine QJ.step (YldS.yld (y_assign rfl)) rfl ?_
    refine QJ.step (YldS.yld (y_assign rfl)) rfl ?_
    refine QJ.done ?_
    refine PJ.next ?_
    refine WJ.seq ?_
    refine WJ.seq ?_
    refine WJ.quiet_draw follows (by kernel_rfl) ?_
    refine QJ.step (YldS.yld (y_move rfl)) rfl ?_
    refine QJ.step (YldS.yld (y_move rfl)) rfl ?_
    refine QJ.step (YldS.yld (y_bin rfl rfl rfl)) rfl ?_
    refine QJ.step (YldS.yld (y_move rfl)) rfl ?_
    obtain ⟨t28, h29, hm⟩ := bindS hm
    refine QJ.cut 5 [(3, pt g9 0), (4, .int .i64 r7.2), (6, .int .i64 r10.2), (7, v15), (9, .int .i64 r16.1), (10, .int .i64 r16.2), (11, .int .i64 r18.1), (12, .int .i64 r18.2), (13, .int .i64 r20.1), (14, .int .i64 r20.2), (15, .int .i64 r22.1), (16, .int .i64 r22.2), (17, .int .i64 r24.1), (18, .int .i64 r24.2), (19, .int .i64 r26.1), (20, .int .i64 r26.2), (89, .bool t28)] ?_ ?_
    · rcases Bool.eq_false_or_eq_true (r10.2 != r13.2) with hb30 | hb30
      · obtain rfl := orT h29 hb30
        refine QJ.off rfl rfl (cB hb30) rfl rfl ?_
        refine QJ.off rfl rfl (cB hb30) rfl rfl ?_
        refine QJ.off rfl rfl (cB hb30) rfl rfl ?_
        refine QJ.off rfl rfl (cB hb30) rfl rfl ?_
        refine QJ.step (YldS.yld (y_pick_t (cB hb30) rfl)) rfl ?_
        exact QJ.cut_end ⟨rfl, rfl, rfl, rfl, rfl, rfl, rfl, rfl, rfl, rfl, rfl, rfl, rfl, rfl, rfl, rfl, rfl, trivial⟩
      · replace h29 := orF h29 hb30
        refine QJ.on rfl rfl (cB hb30) (YldS.yld (y_move rfl)) rfl ?_
        refine QJ.on rfl rfl (cB hb30) (YldS.yld (y_move rfl)) rfl ?_
        obtain ⟨r31, h32, h29⟩ := bindS h29
        refine QJ.on rfl rfl (cB hb30) (y_call Tryd.call15 rfl (RetG.quiet fun w hw => ok_w_f6ints h32 w _ (hw.row_rd (k := 1) rfl) _ (hw.row_rd (k := 0) rfl))) rfl ?_
        refine QJ.on rfl rfl (cB hb30) (YldS.yld (y_not rfl)) rfl ?_
        refine QJ.step (YldS.yld (y_pick_f (cB hb30) rfl)) rfl ?_
        obtain rfl := Option.some.inj h29
        exact QJ.cut_end ⟨rfl, rfl, rfl, rfl, rfl, rfl, rfl, rfl, rfl, rfl, rfl, rfl, rfl, rfl, rfl, rfl, rfl, trivial⟩
    refine QJ.step (YldS.yld (y_move rfl)) rfl ?_
    obtain ⟨t33, h34, hm⟩ := bindS hm
    refine QJ.cut 4 [(3, pt g9 0), (4, .int .i64 r7.2), (6, .int .i64 r10.2), (7, v15), (9, .int .i64 r16.1), (11, .int .i64 r18.1), (13, .int .i64 r20.1), (14, .int .i64 r20.2), (15, .int .i64 r22.1), (16, .int .i64 r22.2), (17, .int .i64 r24.1), (18, .int .i64 r24.2), (19, .int .i64 r26.1), (20, .int .i64 r26.2), (94, .bool t33)] ?_ ?_
    · rcases Bool.eq_false_or_eq_true t28 with hb35 | hb35
      · obtain rfl := orT h34 hb35
        refine QJ.off rfl rfl (cB hb35) rfl rfl ?_
        refine QJ.off rfl rfl (cB hb35) rfl rfl ?_
        refine QJ.off rfl rfl (cB hb35) rfl rfl ?_
        refine QJ.step (YldS.yld (y_pick_t (cB hb35) rfl)) rfl ?_
        exact QJ.cut_end ⟨rfl, rfl, rfl, rfl, rfl, rfl, rfl, rfl, rfl, rfl, rfl, rfl, rfl, rfl, rfl, trivial⟩
      · replace h34 := orF h34 hb35
        refine QJ.on rfl rfl (cB hb35) (YldS.yld (y_move rfl)) rfl ?_
        refine QJ.on rfl rfl (cB hb35) (YldS.yld (y_move rfl)) rfl ?_
        refine QJ.on rfl rfl (cB hb35) (YldS.yld (y_bin rfl rfl rfl)) rfl ?_
        refine QJ.step (YldS.yld (y_pick_f (cB hb35) rfl)) rfl ?_
        obtain rfl := Option.some.inj h34
        exact QJ.cut_end ⟨rfl, rfl, rfl, rfl, rfl, rfl, rfl, rfl, rfl, rfl, rfl, rfl, rfl, rfl, rfl, trivial⟩
    refine QJ.step (YldS.yld (y_move rfl)) rfl ?_
    obtain ⟨t36, h37, hm⟩ := bindS hm
    refine QJ.cut 4 [(3, pt g9 0), (4, .int .i64 r7.2), (6, .int .i64 r10.2), (7, v15), (9, .int .i64 r16.1), (13, .int .i64 r20.1), (14, .int .i64 r20.2), (15, .int .i64 r22.1), (16, .int .i64 r22.2), (17, .int .i64 r24.1), (18, .int .i64 r24.2), (19, .int .i64 r26.1), (20, .int .i64 r26.2), (99, .bool t36)] ?_ ?_
    · rcases Bool.eq_false_or_eq_true t33 with hb38 | hb38
      · obtain rfl := orT h37 hb38
        refine QJ.off rfl rfl (cB hb38) rfl rfl ?_
        refine QJ.off rfl rfl (cB hb38) rfl rfl ?_
        refine QJ.off rfl rfl (cB hb38) rfl rfl ?_
        refine QJ.step (YldS.yld (y_pick_t (cB hb38) rfl)) rfl ?_
        exact QJ.cut_end ⟨rfl, rfl, rfl, rfl, rfl, rfl, rfl, rfl, rfl, rfl, rfl, rfl, rfl, rfl, trivial⟩
      · replace h37 := orF h37 hb38
        refine QJ.on rfl rfl (cB hb38) (YldS.yld (y_move rfl)) rfl ?_
        refine QJ.on rfl rfl (cB hb38) (YldS.yld (y_move rfl)) rfl ?_
        refine QJ.on rfl rfl (cB hb38) (YldS.yld (y_bin rfl rfl rfl)) rfl ?_
        refine QJ.step (YldS.yld (y_pick_f (cB hb38) rfl)) rfl ?_
        obtain rfl := Option.some.inj h37
        exact QJ.cut_end ⟨rfl, rfl, rfl, rfl, rfl, rfl, rfl, rfl, rfl, rfl, rfl, rfl, rfl, rfl, trivial⟩
    refine QJ.step (YldS.yld (y_move rfl)) rfl ?_
    obtain ⟨t39, h40, hm⟩ := bindS hm
    refine QJ.cut 4 [(3, pt g9 0), (4, .int .i64 r7.2), (6, .int .i64 r10.2), (7, v15), (9, .int .i64 r16.1), (13, .int .i64 r20.1), (15, .int .i64 r22.1), (17, .int .i64 r24.1), (18, .int .i64 r24.2), (19, .int .i64 r26.1), (20, .int .i64 r26.2), (104, .bool t39)] ?_ ?_
    · rcases Bool.eq_false_or_eq_true t36 with hb41 | hb41
      · obtain rfl := orT h40 hb41
        refine QJ.off rfl rfl (cB hb41) rfl rfl ?_
        refine QJ.off rfl rfl (cB hb41) rfl rfl ?_
        refine QJ.off rfl rfl (cB hb41) rfl rfl ?_
        refine QJ.step (YldS.yld (y_pick_t (cB hb41) rfl)) rfl ?_
        exact QJ.cut_end ⟨rfl, rfl, rfl, rfl, rfl, rfl, rfl, rfl, rfl, rfl, rfl, rfl, trivial⟩
      · replace h40 := orF h40 hb41
        refine QJ.on rfl rfl (cB hb41) (YldS.yld (y_move rfl)) rfl ?_
        refine QJ.on rfl rfl (cB hb41) (YldS.yld (y_move rfl)) rfl ?_
        refine QJ.on rfl rfl (cB hb41) (YldS.yld (y_bin rfl rfl rfl)) rfl ?_
        refine QJ.step (YldS.yld (y_pick_f (cB hb41) rfl)) rfl ?_
        obtain rfl := Option.some.inj h40
        exact QJ.cut_end ⟨rfl, rfl, rfl, rfl, rfl, rfl, rfl, rfl, rfl, rfl, rfl, rfl, trivial⟩
    refine QJ.step (YldS.yld (y_move rfl)) rfl ?_
    obtain ⟨t42, h43, hm⟩ := bindS hm
    refine QJ.cut 4 [(3, pt g9 0), (4, .int .i64 r7.2), (6, .int .i64 r10.2), (7, v15), (9, .int .i64 r16.1), (13, .int .i64 r20.1), (17, .int .i64 r24.1), (18, .int .i64 r24.2), (19, .int .i64 r26.1), (20, .int .i64 r26.2), (109, .bool t42)] ?_ ?_
    · rcases Bool.eq_false_or_eq_true t39 with hb44 | hb44
      · obtain rfl := orT h43 hb44
        refine QJ.off rfl rfl (cB hb44) rfl rfl ?_
        refine QJ.off rfl rfl (cB hb44) rfl rfl ?_
        refine QJ.off rfl rfl (cB hb44) rfl rfl ?_
        refine QJ.step (YldS.yld (y_pick_t (cB hb44) rfl)) rfl ?_
        exact QJ.cut_end ⟨rfl, rfl, rfl, rfl, rfl, rfl, rfl, rfl, rfl, rfl, rfl, trivial⟩
      · replace h43 := orF h43 hb44
        refine QJ.on rfl rfl (cB hb44) (YldS.yld (y_move rfl)) rfl ?_
        refine QJ.on rfl rfl (cB hb44) (YldS.yld (y_move rfl)) rfl ?_
        refine QJ.on rfl rfl (cB hb44) (YldS.yld (y_bin rfl rfl rfl)) rfl ?_
        refine QJ.step (YldS.yld (y_pick_f (cB hb44) rfl)) rfl ?_
        obtain rfl := Option.some.inj h43
        exact QJ.cut_end ⟨rfl, rfl, rfl, rfl, rfl, rfl, rfl, rfl, rfl, rfl, rfl, trivial⟩
    refine QJ.step (YldS.yld (y_move rfl)) rfl ?_
    obtain ⟨t45, h46, hm⟩ := bindS hm
    refine QJ.cut 4 [(3, pt g9 0), (4, .int .i64 r7.2), (6, .int .i64 r10.2), (7, v15), (9, .int .i64 r16.1), (13, .int .i64 r20.1), (17, .int .i64 r24.1), (19, .int .i64 r26.1), (114, .bool t45)] ?_ ?_
    · rcases Bool.eq_false_or_eq_true t42 with hb47 | hb47
      · obtain rfl := orT h46 hb47
        refine QJ.off rfl rfl (cB hb47) rfl rfl ?_
        refine QJ.off rfl rfl (cB hb47) rfl rfl ?_
        refine QJ.off rfl rfl (cB hb47) rfl rfl ?_
        refine QJ.step (YldS.yld (y_pick_t (cB hb47) rfl)) rfl ?_
        exact QJ.cut_end ⟨rfl, rfl, rfl, rfl, rfl, rfl, rfl, rfl, rfl, trivial⟩
      · replace h46 := orF h46 hb47
        refine QJ.on rfl rfl (cB hb47) (YldS.yld (y_move rfl)) rfl ?_
        refine QJ.on rfl rfl (cB hb47) (YldS.yld (y_move rfl)) rfl ?_
        refine QJ.on rfl rfl (cB hb47) (YldS.yld (y_bin rfl rfl rfl)) rfl ?_
        refine QJ.step (YldS.yld (y_pick_f (cB hb47) rfl)) rfl ?_
        obtain rfl := Option.some.inj h46
        exact QJ.cut_end ⟨rfl, rfl, rfl, rfl, rfl, rfl, rfl, rfl, rfl, trivial⟩
    refine QJ.step (YldS.yld (y_move rfl)) rfl ?_
    obtain ⟨t48, h49, hm⟩ := bindS hm
    refine QJ.cut 4 [(3, pt g9 0), (4, .int .i64 r7.2), (6, .int .i64 r10.2), (7, v15), (9, .int .i64 r16.1), (13, .int .i64 r20.1), (17, .int .i64 r24.1), (119, .bool t48)] ?_ ?_
    · rcases Bool.eq_false_or_eq_true t45 with hb50 | hb50
      · obtain rfl := orT h49 hb50
        refine QJ.off rfl rfl (cB hb50) rfl rfl ?_
        refine QJ.off rfl rfl (cB hb50) rfl rfl ?_
        refine QJ.off rfl rfl (cB hb50) rfl rfl ?_
        refine QJ.step (YldS.yld (y_pick_t (cB hb50) rfl)) rfl ?_
        exact QJ.cut_end ⟨rfl, rfl, rfl, rfl, rfl, rfl, rfl, rfl, trivial⟩
      · replace h49 := orF h49 hb50
        refine QJ.on rfl rfl (cB hb50) (YldS.yld (y_move rfl)) rfl ?_
        refine QJ.on rfl rfl (cB hb50) (YldS.yld (y_move rfl)) rfl ?_
        refine QJ.on rfl rfl (cB hb50) (YldS.yld (y_bin rfl rfl rfl)) rfl ?_
        refine QJ.step (YldS.yld (y_pick_f (cB hb50) rfl)) rfl ?_
        obtain rfl := Option.some.inj h49
        exact QJ.cut_end ⟨rfl, rfl, rfl, rfl, rfl, rfl, rfl, rfl, trivial⟩
    refine QJ.step (YldS.yld (y_move rfl)) rfl ?_
    obtain ⟨t51, h52, hm⟩ := bindS hm
    refine QJ.cut 6 [(3, pt g9 0), (4, .int .i64 r7.2), (6, .int .i64 r10.2), (7, v15), (9, .int .i64 r16.1), (13, .int .i64 r20.1), (17, .int .i64 r24.1), (126, .bool t51)] ?_ ?_
    · rcases Bool.eq_false_or_eq_true t48 with hb53 | hb53
      · obtain rfl := orT h52 hb53
        refine QJ.off rfl rfl (cB hb53) rfl rfl ?_
        refine QJ.off rfl rfl (cB hb53) rfl rfl ?_
        refine QJ.off rfl rfl (cB hb53) rfl rfl ?_
        refine QJ.off rfl rfl (cB hb53) rfl rfl ?_
        refine QJ.off rfl rfl (cB hb53) rfl rfl ?_
        refine QJ.step (YldS.yld (y_pick_t (cB hb53) rfl)) rfl ?_
        exact QJ.cut_end ⟨rfl, rfl, rfl, rfl, rfl, rfl, rfl, rfl, trivial⟩
      · replace h52 := orF h52 hb53
        refine QJ.on rfl rfl (cB hb53) (YldS.yld (y_loadBN (k := 2) (off := 0) (us := [.int .i64 r7.1.spots, .int .i64 r7.1.ink, .int .i64 r7.1.takes]) rfl Tryd.isAgg25 Tryd.sizeOf25 rfl rfl)) rfl ?_
        obtain ⟨r54, h55, h52⟩ := bindS h52
        refine QJ.on rfl rfl (cB hb53) (y_call Tryd.call16 rfl (RetG.quiet fun w hw => ok_i_RibbonText h55 w (hT.st hw))) rfl ?_
        refine QJ.on rfl rfl (cB hb53) (YldS.yld (y_loadBN (k := 2) (off := 0) (us := [.int .i64 r7.1.spots, .int .i64 r7.1.ink, .int .i64 r7.1.takes]) rfl Tryd.isAgg25 Tryd.sizeOf25 rfl rfl)) rfl ?_
        obtain ⟨r56, h57, h52⟩ := bindS h52
        refine QJ.on rfl rfl (cB hb53) (y_call Tryd.call17 rfl (RetG.quiet fun w hw => ok_s_RibbonText h57 w )) rfl ?_
        refine QJ.on rfl rfl (cB hb53) (YldS.yld (y_binS rfl rfl rfl)) rfl ?_
        refine QJ.step (YldS.yld (y_pick_f (cB hb53) rfl)) rfl ?_
        obtain rfl := Option.some.inj h52
        exact QJ.cut_end ⟨rfl, rfl, rfl, rfl, rfl, rfl, rfl, rfl, trivial⟩
    refine QJ.step (YldS.yld (y_move rfl)) rfl ?_
    obtain ⟨t58, h59, hm⟩ := bindS hm
    refine QJ.cut 6 [(3, pt g9 0), (4, .int .i64 r7.2), (6, .int .i64 r10.2), (7, v15), (9, .int .i64 r16.1), (13, .int .i64 r20.1), (17, .int .i64 r24.1), (133, .bool t58)] ?_ ?_
    · rcases Bool.eq_false_or_eq_true t51 with hb60 | hb60
      · obtain rfl := orT h59 hb60
        refine QJ.off rfl rfl (cB hb60) rfl rfl ?_
        refine QJ.off rfl rfl (cB hb60) rfl rfl ?_
        refine QJ.off rfl rfl (cB hb60) rfl rfl ?_
        refine QJ.off rfl rfl (cB hb60) rfl rfl ?_
        refine QJ.off rfl rfl (cB hb60) rfl rfl ?_
        refine QJ.step (YldS.yld (y_pick_t (cB hb60) rfl)) rfl ?_
        exact QJ.cut_end ⟨rfl, rfl, rfl, rfl, rfl, rfl, rfl, rfl, trivial⟩
      · replace h59 := orF h59 hb60
        refine QJ.on rfl rfl (cB hb60) (YldS.yld (y_loadBN (k := 2) (off := 0) (us := [.int .i64 r7.1.spots, .int .i64 r7.1.ink, .int .i64 r7.1.takes]) rfl Tryd.isAgg25 Tryd.sizeOf25 rfl rfl)) rfl ?_
        obtain ⟨r61, h62, h59⟩ := bindS h59
        refine QJ.on rfl rfl (cB hb60) (y_call Tryd.call18 rfl (RetG.quiet fun w hw => ok_i_ValidRibbon h62 w )) rfl ?_
        refine QJ.on rfl rfl (cB hb60) (YldS.yld (y_loadBN (k := 2) (off := 0) (us := [.int .i64 r7.1.spots, .int .i64 r7.1.ink, .int .i64 r7.1.takes]) rfl Tryd.isAgg25 Tryd.sizeOf25 rfl rfl)) rfl ?_
        obtain ⟨r63, h64, h59⟩ := bindS h59
        refine QJ.on rfl rfl (cB hb60) (y_call Tryd.call19 rfl (RetG.quiet fun w hw => ok_s_ValidRibbon h64 w )) rfl ?_
        refine QJ.on rfl rfl (cB hb60) (YldS.yld (y_neB Tryd.underlying4 rfl rfl rfl)) rfl ?_
        refine QJ.step (YldS.yld (y_pick_f (cB hb60) rfl)) rfl ?_
        obtain rfl := Option.some.inj h59
        exact QJ.cut_end ⟨rfl, rfl, rfl, rfl, rfl, rfl, rfl, rfl, trivial⟩
    refine QJ.done ?_
    refine PJ.next ?_
    refine WJ.cond (t := t58) rfl (fun hb65 => ?_) (fun hb65 => ?_)
    · replace hm := ifT hm hb65
      refine WJ.seq ?_
      refine WJ.quiet ?_
      refine QJ.step (YldS.yld (y_assign rfl)) rfl ?_
      refine QJ.done ?_
      refine PJ.next ?_
      refine WJ.ret ?_
      refine PJ.then_ret ?_
      obtain rfl := Option.some.inj hm
      refine PJ.sel (L' := []) [] ⟨List.nodup_nil, rfl⟩ ?_
      exact PJ.retn (vs := [.bool false]) Tryd.results3 ⟨rfl, trivial⟩ ⟨rfl, rfl⟩
    · replace hm := ifF hm hb65
      refine WJ.skip ?_
      refine PJ.next ?_
      refine WJ.seq ?_
      refine WJ.seq ?_
      refine WJ.quiet ?_
      refine QJ.step (YldS.yld (y_move rfl)) rfl ?_
      refine QJ.step (YldS.yld (y_bin rfl rfl rfl)) rfl ?_
      refine QJ.done ?_
      refine PJ.next ?_
      refine WJ.cond (t := (r10.2 != 0)) rfl (fun hb66 => ?_) (fun hb66 => ?_)
      · replace hm := ifT hm hb66
        refine WJ.seq ?_
        refine WJ.quiet ?_
        refine QJ.step (YldS.yld (y_assign rfl)) rfl ?_
        refine QJ.done ?_
        refine PJ.next ?_
        refine WJ.ret ?_
        refine PJ.then_ret ?_
        obtain rfl := Option.some.inj hm
        refine PJ.sel (L' := []) [] ⟨List.nodup_nil, rfl⟩ ?_
        exact PJ.retn (vs := [.bool true]) Tryd.results3 ⟨rfl, trivial⟩ ⟨rfl, rfl⟩
      · replace hm := ifF hm hb66
        refine WJ.skip ?_
        refine PJ.next ?_
        refine WJ.seq ?_
        refine WJ.seq ?_
        refine WJ.quiet_draw follows (by kernel_rfl) ?_
        refine QJ.step (YldS.yld (y_move rfl)) rfl ?_
        obtain ⟨r67, h68, hm⟩ := bindS hm
        refine QJ.step (y_call Tryd.call20 rfl (RetG.quiet fun w hw => ok_w_f6sum h68 w _ (hw.row_rd (k := 0) rfl))) rfl ?_
        refine QJ.step (YldS.yld (y_move rfl)) rfl ?_
        refine QJ.step (YldS.yld (y_bin rfl rfl rfl)) rfl ?_
        refine QJ.step (YldS.yld (y_move rfl)) rfl ?_
        obtain ⟨t69, h70, hm⟩ := bindS hm
        refine QJ.cut 3 [(3, pt g9 0), (4, .int .i64 r7.2), (7, v15), (9, .int .i64 r16.1), (13, .int .i64 r20.1), (17, .int .i64 r24.1), (143, .bool t69)] ?_ ?_
        · rcases Bool.eq_false_or_eq_true (r67 != r7.2) with hb71 | hb71
          · obtain rfl := orT h70 hb71
            refine QJ.off rfl rfl (cB hb71) rfl rfl ?_
            refine QJ.off rfl rfl (cB hb71) rfl rfl ?_
            refine QJ.step (YldS.yld (y_pick_t (cB hb71) rfl)) rfl ?_
            exact QJ.cut_end ⟨rfl, rfl, rfl, rfl, rfl, rfl, rfl, trivial⟩
          · replace h70 := orF h70 hb71
            refine QJ.on rfl rfl (cB hb71) (YldS.yld (y_move rfl)) rfl ?_
            refine QJ.on rfl rfl (cB hb71) (YldS.yld (y_bin rfl rfl rfl)) rfl ?_
            refine QJ.step (YldS.yld (y_pick_f (cB hb71) rfl)) rfl ?_
            obtain rfl := Option.some.inj h70
            exact QJ.cut_end ⟨rfl, rfl, rfl, rfl, rfl, rfl, rfl, trivial⟩
        refine QJ.step (YldS.yld (y_move rfl)) rfl ?_
        obtain ⟨t72, h73, hm⟩ := bindS hm
        refine QJ.cut 5 [(3, pt g9 0), (4, .int .i64 r7.2), (7, v15), (9, .int .i64 r16.1), (13, .int .i64 r20.1), (17, .int .i64 r24.1), (149, .bool t72)] ?_ ?_
        · rcases Bool.eq_false_or_eq_true t69 with hb74 | hb74
          · obtain rfl := orT h73 hb74
            refine QJ.off rfl rfl (cB hb74) rfl rfl ?_
            refine QJ.off rfl rfl (cB hb74) rfl rfl ?_
            refine QJ.off rfl rfl (cB hb74) rfl rfl ?_
            refine QJ.off rfl rfl (cB hb74) rfl rfl ?_
            refine QJ.step (YldS.yld (y_pick_t (cB hb74) rfl)) rfl ?_
            exact QJ.cut_end ⟨rfl, rfl, rfl, rfl, rfl, rfl, rfl, trivial⟩
          · replace h73 := orF h73 hb74
            refine QJ.on rfl rfl (cB hb74) (YldS.yld (y_move rfl)) rfl ?_
            refine QJ.on rfl rfl (cB hb74) (YldS.yld (y_fldB (o := 0) fld25_0 rfl)) rfl ?_
            refine QJ.on rfl rfl (cB hb74) (YldS.yld (y_loadB (k := 2) (off := 0) (v := .int .i64 r7.1.spots) rfl Tryd.isAgg2 rfl rfl)) rfl ?_
            refine QJ.on rfl rfl (cB hb74) (YldS.yld (y_bin rfl rfl rfl)) rfl ?_
            refine QJ.step (YldS.yld (y_pick_f (cB hb74) rfl)) rfl ?_
            obtain rfl := Option.some.inj h73
            exact QJ.cut_end ⟨rfl, rfl, rfl, rfl, rfl, rfl, rfl, trivial⟩
        refine QJ.step (YldS.yld (y_move rfl)) rfl ?_
        obtain ⟨t75, h76, hm⟩ := bindS hm
        refine QJ.cut 14 [(3, pt g9 0), (4, .int .i64 r7.2), (9, .int .i64 r16.1), (13, .int .i64 r20.1), (164, .bool t75)] ?_ ?_
        · rcases Bool.eq_false_or_eq_true t72 with hb77 | hb77
          · obtain rfl := orT h76 hb77
            refine QJ.off rfl rfl (cB hb77) rfl rfl ?_
            refine QJ.off rfl rfl (cB hb77) rfl rfl ?_
            refine QJ.off rfl rfl (cB hb77) rfl rfl ?_
            refine QJ.off rfl rfl (cB hb77) rfl rfl ?_
            refine QJ.off rfl rfl (cB hb77) rfl rfl ?_
            refine QJ.off rfl rfl (cB hb77) rfl rfl ?_
            refine QJ.off rfl rfl (cB hb77) rfl rfl ?_
            refine QJ.off rfl rfl (cB hb77) rfl rfl ?_
            refine QJ.off rfl rfl (cB hb77) rfl rfl ?_
            refine QJ.off rfl rfl (cB hb77) rfl rfl ?_
            refine QJ.off rfl rfl (cB hb77) rfl rfl ?_
            refine QJ.off rfl rfl (cB hb77) rfl rfl ?_
            refine QJ.off rfl rfl (cB hb77) rfl rfl ?_
            refine QJ.step (YldS.yld (y_pick_t (cB hb77) rfl)) rfl ?_
            exact QJ.cut_end ⟨rfl, rfl, rfl, rfl, rfl, trivial⟩
          · replace h76 := orF h76 hb77
            refine QJ.on rfl rfl (cB hb77) (YldS.yld (y_move rfl)) rfl ?_
            refine QJ.on rfl rfl (cB hb77) (YldS.yld (y_fldB (o := 0) fld25_1 rfl)) rfl ?_
            refine QJ.on rfl rfl (cB hb77) (YldS.yld (y_loadB (k := 2) (off := 1) (v := .int .i64 r7.1.ink) rfl Tryd.isAgg2 rfl rfl)) rfl ?_
            refine QJ.on rfl rfl (cB hb77) (YldS.yld (y_fldB (o := 0) fld25_2 rfl)) rfl ?_
            refine QJ.on rfl rfl (cB hb77) (YldS.yld (y_loadB (k := 2) (off := 2) (v := .int .i64 r7.1.takes) rfl Tryd.isAgg2 rfl rfl)) rfl ?_
            refine QJ.on rfl rfl (cB hb77) (YldS.yld (y_move rfl)) rfl ?_
            refine QJ.on rfl rfl (cB hb77) (YldS.yld (y_move rfl)) rfl ?_
            obtain ⟨e78, h79, h76⟩ := bindS h76
            refine QJ.on rfl rfl (cB hb77) (YldS.yld (y_ixRow (k := 0) (R := fI64) rfl Tryd.runUnderlying28 Tryd.sizeOf2 rfl rfl h79)) rfl ?_
            refine QJ.on rfl rfl (cB hb77) (YldS.yld (y_loadR (k := 0) (i := (Int.toNat r16.1)) (off := 0) (u := .int .i64 e78) rfl Tryd.isAgg2 rfl (idx_get h79) rfl)) rfl ?_
            refine QJ.on rfl rfl (cB hb77) (YldS.yld (y_bin rfl rfl rfl)) rfl ?_
            refine QJ.on rfl rfl (cB hb77) (YldS.yld (y_bin rfl rfl rfl)) rfl ?_
            refine QJ.on rfl rfl (cB hb77) (YldS.yld (y_max rfl rfl)) rfl ?_
            refine QJ.on rfl rfl (cB hb77) (YldS.yld (y_bin rfl rfl rfl)) rfl ?_
            refine QJ.step (YldS.yld (y_pick_f (cB hb77) rfl)) rfl ?_
            obtain rfl := Option.some.inj h76
            exact QJ.cut_end ⟨rfl, rfl, rfl, rfl, rfl, trivial⟩
        refine QJ.done ?_
        refine PJ.next ?_
        refine WJ.cond (t := t75) rfl (fun hb80 => ?_) (fun hb80 => ?_)
        · replace hm := ifT hm hb80
          refine WJ.seq ?_
          refine WJ.quiet ?_
          refine QJ.step (YldS.yld (y_assign rfl)) rfl ?_
          refine QJ.done ?_
          refine PJ.next ?_
          refine WJ.ret ?_
          refine PJ.then_ret ?_
          obtain rfl := Option.some.inj hm
          refine PJ.sel (L' := []) [] ⟨List.nodup_nil, rfl⟩ ?_
          exact PJ.retn (vs := [.bool false]) Tryd.results3 ⟨rfl, trivial⟩ ⟨rfl, rfl⟩
        · replace hm := ifF hm hb80
          refine WJ.skip ?_
          refine PJ.next ?_
          refine WJ.seq ?_
          refine WJ.seq ?_
          refine WJ.quiet ?_
          refine QJ.step (YldS.yld (y_move rfl)) rfl ?_
          refine QJ.step (YldS.yld (y_bin rfl rfl rfl)) rfl ?_
          refine QJ.done ?_
          refine PJ.next ?_
          refine WJ.cond (t := (r7.2 == 0)) rfl (fun hb81 => ?_) (fun hb81 => ?_)
          · replace hm := ifT hm hb81
            refine WJ.seq ?_
            refine WJ.quiet ?_
            refine QJ.step (YldS.yld (y_move rfl)) rfl ?_
            refine QJ.step (YldS.yld (y_bin rfl rfl rfl)) rfl ?_
            refine QJ.step (YldS.yld (y_move rfl)) rfl ?_
            obtain ⟨t82, h83, hm⟩ := bindS hm
            refine QJ.cut 3 [(172, .bool t82)] ?_ ?_
            · rcases Bool.eq_false_or_eq_true (r16.1 == 0) with hb84 | hb84
              · replace h83 := andT h83 hb84
                refine QJ.on rfl rfl (cB hb84) (YldS.yld (y_move rfl)) rfl ?_
                refine QJ.on rfl rfl (cB hb84) (YldS.yld (y_bin rfl rfl rfl)) rfl ?_
                refine QJ.step (YldS.yld (y_pick_t (cB hb84) rfl)) rfl ?_
                obtain rfl := Option.some.inj h83
                exact QJ.cut_end ⟨rfl, trivial⟩
              · obtain rfl := andF h83 hb84
                refine QJ.off rfl rfl (cB hb84) rfl rfl ?_
                refine QJ.off rfl rfl (cB hb84) rfl rfl ?_
                refine QJ.step (YldS.yld (y_pick_f (cB hb84) rfl)) rfl ?_
                exact QJ.cut_end ⟨rfl, trivial⟩
            refine QJ.step (YldS.yld (y_assign rfl)) rfl ?_
            refine QJ.done ?_
            refine PJ.next ?_
            refine WJ.ret ?_
            refine PJ.then_ret ?_
            obtain rfl := Option.some.inj hm
            refine PJ.sel (L' := []) [] ⟨List.nodup_nil, rfl⟩ ?_
            exact PJ.retn (vs := [.bool t82]) Tryd.results3 ⟨rfl, trivial⟩ ⟨rfl, rfl⟩
          · replace hm := ifF hm hb81
            refine WJ.skip ?_
            refine PJ.next ?_
            refine WJ.seq ?_
            refine WJ.quiet ?_
            refine QJ.step (YldS.yld (y_loadBN (k := 2) (off := 0) (us := [.int .i64 r7.1.spots, .int .i64 r7.1.ink, .int .i64 r7.1.takes]) rfl Tryd.isAgg25 Tryd.sizeOf25 rfl rfl)) rfl ?_
            refine QJ.step (YldS.yld (y_move rfl)) rfl ?_
            refine QJ.step (YldS.yld (y_bin rfl rfl rfl)) rfl ?_
            obtain ⟨r85, h86, hm⟩ := bindS hm
            refine QJ.step (y_call Tryd.call9 rfl (RetG.quiet fun w hw => ok_i_SpotAt h86 w )) rfl ?_
            refine QJ.step (YldS.yld (y_move rfl)) rfl ?_
            refine QJ.step (YldS.yld (y_extract rfl rfl)) rfl ?_
            refine QJ.step (YldS.yld (y_extract rfl rfl)) rfl ?_
            refine QJ.step (YldS.yld (y_assign rfl)) rfl ?_
            refine QJ.step (YldS.yld (y_assign rfl)) rfl ?_
            refine QJ.done ?_
            refine PJ.next ?_
            refine WJ.seq ?_
            refine WJ.quiet ?_
            refine QJ.step (YldS.yld (y_loadBN (k := 2) (off := 0) (us := [.int .i64 r7.1.spots, .int .i64 r7.1.ink, .int .i64 r7.1.takes]) rfl Tryd.isAgg25 Tryd.sizeOf25 rfl rfl)) rfl ?_
            refine QJ.step (YldS.yld (y_move rfl)) rfl ?_
            refine QJ.step (YldS.yld (y_bin rfl rfl rfl)) rfl ?_
            obtain ⟨r87, h88, hm⟩ := bindS hm
            refine QJ.step (y_call Tryd.call11 rfl (RetG.quiet fun w hw => ok_i_TurnsIn h88 w )) rfl ?_
            refine QJ.step (YldS.yld (y_move rfl)) rfl ?_
            refine QJ.step (YldS.yld (y_extract rfl rfl)) rfl ?_
            refine QJ.step (YldS.yld (y_extract rfl rfl)) rfl ?_
            refine QJ.step (YldS.yld (y_assign rfl)) rfl ?_
            refine QJ.step (YldS.yld (y_assign rfl)) rfl ?_
            refine QJ.done ?_
            refine PJ.next ?_
            refine WJ.seq ?_
            refine WJ.quiet ?_
            refine QJ.step (YldS.yld (y_assign rfl)) rfl ?_
            refine QJ.done ?_
            refine PJ.next ?_
            obtain ⟨kj90, hk91, hm⟩ := withK_open hm
            refine WJ.join (X := Int) (fun (x : Int) => kj90 x = some r) (fun (x : Int) => [(9, .int .i64 r16.1), (13, .int .i64 r20.1), (21, .int .i64 r85.1), (22, .int .i64 r85.2), (23, .int .i64 r87.1), (24, .int .i64 r87.2), (25, .int .i64 x)]) (fun (x : Int) => []) ?_ ?_
            · clear hk91
              refine WJ.seq ?_
              refine WJ.quiet ?_
              refine QJ.step (YldS.yld (y_move rfl)) rfl ?_
              refine QJ.step (YldS.yld (y_bin rfl rfl rfl)) rfl ?_
              refine QJ.step (YldS.yld (y_move rfl)) rfl ?_
              obtain ⟨t92, h93, hm⟩ := bindS hm
              refine QJ.cut 10 [(9, .int .i64 r16.1), (13, .int .i64 r20.1), (21, .int .i64 r85.1), (22, .int .i64 r85.2), (23, .int .i64 r87.1), (24, .int .i64 r87.2), (25, .int .i64 0), (199, .bool t92)] ?_ ?_
              · rcases Bool.eq_false_or_eq_true (decide (r7.2 > 1)) with hb94 | hb94
                · replace h93 := andT h93 hb94
                  refine QJ.on rfl rfl (cB hb94) (YldS.yld (y_move rfl)) rfl ?_
                  refine QJ.on rfl rfl (cB hb94) (YldS.yld (y_bin rfl rfl rfl)) rfl ?_
                  refine QJ.on rfl rfl (cB hb94) (YldS.yld (y_move rfl)) rfl ?_
                  obtain ⟨t95, h96, h93⟩ := bindS h93
                  refine QJ.cut 6 [(9, .int .i64 r16.1), (13, .int .i64 r20.1), (21, .int .i64 r85.1), (22, .int .i64 r85.2), (23, .int .i64 r87.1), (24, .int .i64 r87.2), (25, .int .i64 0), (189, .bool (decide (r7.2 > 1))), (198, .bool t95)] ?_ ?_
                  · rcases Bool.eq_false_or_eq_true (r85.1 == 0) with hb97 | hb97
                    · obtain rfl := orT h96 hb97
                      refine QJ.off rfl rfl (cB hb97) rfl rfl ?_
                      refine QJ.off rfl rfl (cB hb97) rfl rfl ?_
                      refine QJ.off rfl rfl (cB hb97) rfl rfl ?_
                      refine QJ.off rfl rfl (cB hb97) rfl rfl ?_
                      refine QJ.off rfl rfl (cB hb97) rfl rfl ?_
                      refine QJ.on rfl rfl (cB hb94) (YldS.yld (y_pick_t (cB hb97) rfl)) rfl ?_
                      exact QJ.cut_end ⟨rfl, rfl, rfl, rfl, rfl, rfl, rfl, rfl, rfl, trivial⟩
                    · replace h96 := orF h96 hb97
                      refine QJ.on rfl rfl (cB hb97) (YldS.yld (y_move rfl)) rfl ?_
                      refine QJ.on rfl rfl (cB hb97) (YldS.yld (y_fldB (o := 0) fld25_0 rfl)) rfl ?_
                      refine QJ.on rfl rfl (cB hb97) (YldS.yld (y_loadB (k := 2) (off := 0) (v := .int .i64 r7.1.spots) rfl Tryd.isAgg2 rfl rfl)) rfl ?_
                      refine QJ.on rfl rfl (cB hb97) (YldS.yld (y_bin rfl rfl rfl)) rfl ?_
                      refine QJ.on rfl rfl (cB hb97) (YldS.yld (y_bin rfl rfl rfl)) rfl ?_
                      refine QJ.on rfl rfl (cB hb94) (YldS.yld (y_pick_f (cB hb97) rfl)) rfl ?_
                      obtain rfl := Option.some.inj h96
                      exact QJ.cut_end ⟨rfl, rfl, rfl, rfl, rfl, rfl, rfl, rfl, rfl, trivial⟩
                  refine QJ.step (YldS.yld (y_pick_t (cB hb94) rfl)) rfl ?_
                  obtain rfl := Option.some.inj h93
                  exact QJ.cut_end ⟨rfl, rfl, rfl, rfl, rfl, rfl, rfl, rfl, trivial⟩
                · obtain rfl := andF h93 hb94
                  refine QJ.off rfl rfl (cB hb94) rfl rfl ?_
                  refine QJ.off rfl rfl (cB hb94) rfl rfl ?_
                  refine QJ.off rfl rfl (cB hb94) rfl rfl ?_
                  refine QJ.off_undef rfl rfl rfl rfl ?_
                  refine QJ.off_undef rfl rfl rfl rfl ?_
                  refine QJ.off_undef rfl rfl rfl rfl ?_
                  refine QJ.off_undef rfl rfl rfl rfl ?_
                  refine QJ.off_undef rfl rfl rfl rfl ?_
                  refine QJ.off rfl rfl (cB hb94) rfl rfl ?_
                  refine QJ.step (YldS.yld (y_pick_f (cB hb94) rfl)) rfl ?_
                  exact QJ.cut_end ⟨rfl, rfl, rfl, rfl, rfl, rfl, rfl, rfl, trivial⟩
              refine QJ.done ?_
              refine PJ.next ?_
              refine WJ.cond (t := t92) rfl (fun hb98 => ?_) (fun hb98 => ?_)
              · replace hm := ifT hm hb98
                refine WJ.quiet ?_
                refine QJ.step (YldS.yld (y_assign rfl)) rfl ?_
                refine QJ.done ?_
                exact PJ.joined 1 [] hm ⟨rfl, rfl, rfl, rfl, rfl, rfl, rfl, trivial⟩ ⟨List.nodup_nil, rfl⟩
              · replace hm := ifF hm hb98
                refine WJ.skip ?_
                exact PJ.joined 0 [] hm ⟨rfl, rfl, rfl, rfl, rfl, rfl, rfl, trivial⟩ ⟨List.nodup_nil, rfl⟩
            · rintro end89 hm
              subst hk91
              refine WJ.seq ?_
              refine WJ.quiet ?_
              refine QJ.step (YldS.yld (y_move rfl)) rfl ?_
              refine QJ.step (YldS.yld (y_bin rfl rfl rfl)) rfl ?_
              refine QJ.step (YldS.yld (y_move rfl)) rfl ?_
              obtain ⟨t99, h100, hm⟩ := bindS hm
              refine QJ.cut 9 [(13, .int .i64 r20.1), (23, .int .i64 r87.1), (24, .int .i64 r87.2), (25, .int .i64 end89), (211, .bool t99)] ?_ ?_
              · rcases Bool.eq_false_or_eq_true (r85.2 == 0) with hb101 | hb101
                · replace h100 := andT h100 hb101
                  refine QJ.on rfl rfl (cB hb101) (YldS.yld (y_move rfl)) rfl ?_
                  refine QJ.on rfl rfl (cB hb101) (YldS.yld (y_move rfl)) rfl ?_
                  refine QJ.on rfl rfl (cB hb101) (YldS.yld (y_bin rfl rfl rfl)) rfl ?_
                  refine QJ.on rfl rfl (cB hb101) (YldS.yld (y_move rfl)) rfl ?_
                  refine QJ.on rfl rfl (cB hb101) (YldS.yld (y_move rfl)) rfl ?_
                  refine QJ.on rfl rfl (cB hb101) (YldS.yld (y_bin rfl rfl rfl)) rfl ?_
                  refine QJ.on rfl rfl (cB hb101) (YldS.yld (y_max rfl rfl)) rfl ?_
                  refine QJ.on rfl rfl (cB hb101) (YldS.yld (y_bin rfl rfl rfl)) rfl ?_
                  refine QJ.step (YldS.yld (y_pick_t (cB hb101) rfl)) rfl ?_
                  obtain rfl := Option.some.inj h100
                  exact QJ.cut_end ⟨rfl, rfl, rfl, rfl, rfl, trivial⟩
                · obtain rfl := andF h100 hb101
                  refine QJ.off rfl rfl (cB hb101) rfl rfl ?_
                  refine QJ.off rfl rfl (cB hb101) rfl rfl ?_
                  refine QJ.off rfl rfl (cB hb101) rfl rfl ?_
                  refine QJ.off rfl rfl (cB hb101) rfl rfl ?_
                  refine QJ.off rfl rfl (cB hb101) rfl rfl ?_
                  refine QJ.off rfl rfl (cB hb101) rfl rfl ?_
                  refine QJ.off rfl rfl (cB hb101) rfl rfl ?_
                  refine QJ.off rfl rfl (cB hb101) rfl rfl ?_
                  refine QJ.step (YldS.yld (y_pick_f (cB hb101) rfl)) rfl ?_
                  exact QJ.cut_end ⟨rfl, rfl, rfl, rfl, rfl, trivial⟩
              refine QJ.step (YldS.yld (y_move rfl)) rfl ?_
              obtain ⟨t102, h103, hm⟩ := bindS hm
              refine QJ.cut 3 [(13, .int .i64 r20.1), (23, .int .i64 r87.1), (25, .int .i64 end89), (215, .bool t102)] ?_ ?_
              · rcases Bool.eq_false_or_eq_true t99 with hb104 | hb104
                · replace h103 := andT h103 hb104
                  refine QJ.on rfl rfl (cB hb104) (YldS.yld (y_move rfl)) rfl ?_
                  refine QJ.on rfl rfl (cB hb104) (YldS.yld (y_bin rfl rfl rfl)) rfl ?_
                  refine QJ.step (YldS.yld (y_pick_t (cB hb104) rfl)) rfl ?_
                  obtain rfl := Option.some.inj h103
                  exact QJ.cut_end ⟨rfl, rfl, rfl, rfl, trivial⟩
                · obtain rfl := andF h103 hb104
                  refine QJ.off rfl rfl (cB hb104) rfl rfl ?_
                  refine QJ.off rfl rfl (cB hb104) rfl rfl ?_
                  refine QJ.step (YldS.yld (y_pick_f (cB hb104) rfl)) rfl ?_
                  exact QJ.cut_end ⟨rfl, rfl, rfl, rfl, trivial⟩
              refine QJ.step (YldS.yld (y_move rfl)) rfl ?_
              obtain ⟨t105, h106, hm⟩ := bindS hm
              refine QJ.cut 6 [(222, .bool t105)] ?_ ?_
              · rcases Bool.eq_false_or_eq_true t102 with hb107 | hb107
                · replace h106 := andT h106 hb107
                  refine QJ.on rfl rfl (cB hb107) (YldS.yld (y_move rfl)) rfl ?_
                  refine QJ.on rfl rfl (cB hb107) (YldS.yld (y_move rfl)) rfl ?_
                  refine QJ.on rfl rfl (cB hb107) (YldS.yld (y_move rfl)) rfl ?_
                  refine QJ.on rfl rfl (cB hb107) (YldS.yld (y_bin rfl rfl rfl)) rfl ?_
                  refine QJ.on rfl rfl (cB hb107) (YldS.yld (y_bin rfl rfl rfl)) rfl ?_
                  refine QJ.step (YldS.yld (y_pick_t (cB hb107) rfl)) rfl ?_
                  obtain rfl := Option.some.inj h106
                  exact QJ.cut_end ⟨rfl, trivial⟩
                · obtain rfl := andF h106 hb107
                  refine QJ.off rfl rfl (cB hb107) rfl rfl ?_
                  refine QJ.off rfl rfl (cB hb107) rfl rfl ?_
                  refine QJ.off rfl rfl (cB hb107) rfl rfl ?_
                  refine QJ.off rfl rfl (cB hb107) rfl rfl ?_
                  refine QJ.off rfl rfl (cB hb107) rfl rfl ?_
                  refine QJ.step (YldS.yld (y_pick_f (cB hb107) rfl)) rfl ?_
                  exact QJ.cut_end ⟨rfl, trivial⟩
              refine QJ.step (YldS.yld (y_assign rfl)) rfl ?_
              refine QJ.done ?_
              refine PJ.next ?_
              refine WJ.ret ?_
              obtain rfl := Option.some.inj hm
              refine PJ.sel (L' := []) [] ⟨List.nodup_nil, rfl⟩ ?_
              exact PJ.retn (vs := [.bool t105]) Tryd.results3 ⟨rfl, trivial⟩ ⟨rfl, rfl⟩

end Go.Proofs.YtoojddajhalimaaDoor
