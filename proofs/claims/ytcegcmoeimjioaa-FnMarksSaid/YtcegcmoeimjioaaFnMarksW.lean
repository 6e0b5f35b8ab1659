/-
  The walks: a call hands back what its plain function computes, where that has a value. No other conditions.
-/
import Derived.Test.YtcegcmoeimjioaaFnMarksM
import Derived.Test.YtcegcmoeimjioaaChecked
namespace Go.Proofs.Ytcegcmoeimjioaa
open Go.RowKit Go.Proofs
set_option linter.unusedVariables false
set_option linter.unusedSimpArgs false

theorem follows : Try.prog.follows .mixedOrders = true := by kernel_rfl

def Fraction.enc (x : Fraction) : List Value := [.int .i64 x.num, .int .i64 x.den]
def fFraction : FRp Fraction := ⟨2, Fraction.enc, fun _ => rfl, by decide, fun x u hu => by
  simp only [Fraction.enc, List.mem_cons, List.not_mem_nil, or_false] at hu
  rcases hu with rfl | rfl <;> rfl⟩

theorem pl96 : PlacesOk Try.prog 96 [(0, 1), (1, 1), (2, 1)] := ⟨_, Try.runUnderlying96, fun w => by simp [Try.sizeOf3, Try.sizeOf22, Try.sizeOf94]⟩
theorem fld96_1 : FieldOk Try.prog 96 1 1 3 0 := ⟨_, _, Try.runUnderlying96, rfl, rfl, rfl, Try.sizeOf3⟩
theorem fld96_0 : FieldOk Try.prog 96 0 0 22 0 := ⟨_, _, Try.runUnderlying96, rfl, rfl, rfl, Try.sizeOf22⟩
theorem fld96_2 : FieldOk Try.prog 96 2 2 94 0 := ⟨_, _, Try.runUnderlying96, rfl, rfl, rfl, Try.sizeOf94⟩
set_option maxRecDepth 100000 in
theorem el5 : ElemOk Try.prog 5 1 (fByte.enc 0) := ⟨_, _, Try.type5, rfl, rfl, rfl, by decide⟩
set_option maxRecDepth 100000 in
theorem el24 : ElemOk Try.prog 24 1 [.slice none 0 0] := ⟨_, _, Try.type24, rfl, rfl, rfl, by decide⟩
set_option maxRecDepth 100000 in
theorem el2 : ElemOk Try.prog 2 1 (fI64.enc 0) := ⟨_, _, Try.type2, rfl, rfl, rfl, by decide⟩
set_option maxRecDepth 100000 in
theorem el81 : ElemOk Try.prog 81 1 [.slice none 0 0] := ⟨_, _, Try.type81, rfl, rfl, rfl, by decide⟩
set_option maxRecDepth 100000 in
theorem el3 : ElemOk Try.prog 3 1 (fI64.enc 0) := ⟨_, _, Try.type3, rfl, rfl, rfl, by decide⟩
set_option maxRecDepth 100000 in
theorem zv76 : ∀ w, (zeroValue 76).run Try.prog w = .ok (.agg (List.toArray (encs fI64 (List.replicate 256 (0 : Int))))) w := fun w => by
  rw [Try.zeroValue76]
  refine congrArg (fun z => Result.ok (Value.agg z) w) ?_
  kernel_rfl
set_option maxRecDepth 100000 in
theorem zv77 : ∀ w, (zeroValue 77).run Try.prog w = .ok (.agg (List.toArray (encs fBool (List.replicate 256 false)))) w := fun w => by
  rw [Try.zeroValue77]
  refine congrArg (fun z => Result.ok (Value.agg z) w) ?_
  kernel_rfl
theorem pl41 : PlacesOk Try.prog 41 [(0, 1), (1, 1)] := ⟨_, Try.runUnderlying41, fun w => by simp [Try.sizeOf2]⟩
theorem fld41_1 : FieldOk Try.prog 41 1 1 2 0 := ⟨_, _, Try.runUnderlying41, rfl, rfl, rfl, Try.sizeOf2⟩
theorem fld41_0 : FieldOk Try.prog 41 0 0 2 0 := ⟨_, _, Try.runUnderlying41, rfl, rfl, rfl, Try.sizeOf2⟩

set_option maxRecDepth 100000 in
set_option maxHeartbeats 1000000 in
theorem ok_w_a2Long {code1 : List UInt8} {more4 : List UInt8} {r : Bool} (hm : w_a2Long code1 more4 = some r) (w : World) (v2 : Value) (hr3 : RdS w (cx w).Fz v2 fByte.rp code1) (v5 : Value) (hr6 : RdS w (cx w).Fz v5 fByte.rp more4) :
    Calls Try.prog 7 #[v2, v5] w (Ret (cx w) (.bool r)) := by
  unfold w_a2Long at hm
  refine Calls.enter [v2, v5] Try.func7 rfl Try.ntmps7 rfl ?_
  refine WJ.seq ?_
  refine WJ.quiet ?_
  refine QJ.step (YldS.yld (y_assign rfl)) rfl ?_
  refine QJ.done ?_
  refine PJ.next ?_
  refine WJ.seq ?_
  refine WJ.quiet ?_
  refine QJ.step (YldS.yld (y_move rfl)) rfl ?_
  refine QJ.step (YldS.yld (y_lenS Try.runUnderlying22 hr3 rfl)) rfl ?_
  refine QJ.step (YldS.yld (y_bin rfl rfl rfl)) rfl ?_
  refine QJ.step (YldS.yld (y_move rfl)) rfl ?_
  obtain ⟨t7, h8, hm⟩ := bindS hm
  refine QJ.cut 4 [(12, .bool t7)] ?_ ?_
  · rcases Bool.eq_false_or_eq_true (decide ((List.length code1 : Int) > 3000)) with hb9 | hb9
    · obtain rfl := orT h8 hb9
      refine QJ.off rfl rfl (cB hb9) rfl rfl ?_
      refine QJ.off rfl rfl (cB hb9) rfl rfl ?_
      refine QJ.off rfl rfl (cB hb9) rfl rfl ?_
      refine QJ.step (YldS.yld (y_pick_t (cB hb9) rfl)) rfl ?_
      exact QJ.cut_end ⟨rfl, trivial⟩
    · replace h8 := orF h8 hb9
      refine QJ.on rfl rfl (cB hb9) (YldS.yld (y_move rfl)) rfl ?_
      refine QJ.on rfl rfl (cB hb9) (YldS.yld (y_lenS Try.runUnderlying22 hr6 rfl)) rfl ?_
      refine QJ.on rfl rfl (cB hb9) (YldS.yld (y_bin rfl rfl rfl)) rfl ?_
      refine QJ.step (YldS.yld (y_pick_f (cB hb9) rfl)) rfl ?_
      obtain rfl := Option.some.inj h8
      exact QJ.cut_end ⟨rfl, trivial⟩
  refine QJ.step (YldS.yld (y_assign rfl)) rfl ?_
  refine QJ.done ?_
  refine PJ.next ?_
  refine WJ.ret ?_
  obtain rfl := Option.some.inj hm
  refine PJ.sel (L' := []) [] ⟨List.nodup_nil, rfl⟩ ?_
  exact PJ.retn (vs := [.bool t7]) Try.results7 ⟨rfl, trivial⟩ ⟨rfl, rfl⟩

set_option maxRecDepth 100000 in
set_option maxHeartbeats 1000000 in
theorem ok_s_l00From {code1 : List UInt8} {r : L00Src} (hm : s_l00From code1 = some r) (w : World) (v2 : Value) (hr3 : RdS w (cx w).Fz v2 fByte.rp code1) :
    Calls Try.prog 42 #[v2] w (RetG (cx w) fun u L => ∃ (u1 : Nat), (u = pt u1 0 ∧ L = [box u1 96 [v2, .int .i64 r.at_, .int .u64 r.seed]])) := by
  unfold s_l00From at hm
  refine Calls.enter [v2] Try.func42 rfl Try.ntmps42 rfl ?_
  refine WJ.seq ?_
  refine WJ.quiet ?_
  refine QJ.step (YldS.yld (y_assign rfl)) rfl ?_
  refine QJ.done ?_
  refine PJ.next ?_
  refine WJ.seq ?_
  refine WJ.reg ?_
  refine SJ.q (YldS.yld (y_move rfl)) rfl ?_
  refine SJ.q (YldS.yld (y_build (parts := [(0, .tmp 3)]) (places := [(0, 1), (1, 1), (2, 1)]) (r := [v2, .int .i64 0, .int .u64 0]) pl96 Try.zeroValue96 rfl rfl (show _ = [(0, [v2])] from by simp only [List.map, RdS.cells1 hr3]) rfl)) rfl ?_
  refine SJ.box (cs := [v2, .int .i64 0, .int .u64 0]) rfl rfl rfl fun g4 => ?_
  refine SJ.q (YldS.yld (y_assign rfl)) rfl ?_
  refine SJ.nil ?_
  refine PJ.next ?_
  refine WJ.ret ?_
  obtain rfl := Option.some.inj hm
  refine PJ.sel (L' := [box g4 96 [v2, .int .i64 0, .int .u64 0]]) [0] ⟨by decide, rfl⟩ ?_
  exact PJ.retn (vs := [pt g4 0]) Try.results42 ⟨rfl, trivial⟩ ⟨_, rfl, rfl⟩

set_option maxRecDepth 100000 in
set_option maxHeartbeats 1000000 in
theorem ok_s_l00Src_next {s1 : L00Src} {g2 : Nat} {r : Int × L00Src} (hm : s_l00Src_next s1 = some r) (w : World) (S : Nat → Prop) (v3 : Value) (hr4 : RdS w (Cx.Fz ⟨w, S⟩) v3 fByte.rp s1.code) (hA : (box g2 96 [v3, .int .i64 s1.at_, .int .u64 s1.seed]).holds w S) :
    Calls Try.prog 72 #[pt g2 0] w (RetG ⟨w, S⟩ fun u L => (u = .int .i64 r.1 ∧ L = [box g2 96 [v3, .int .i64 r.2.at_, .int .u64 r.2.seed]])) := by
  unfold s_l00Src_next at hm
  refine Calls.enter1 hA [pt g2 0] Try.func72 rfl Try.ntmps72 rfl ?_
  refine WJ.seq ?_
  refine WJ.quiet ?_
  refine QJ.step (YldS.yld (y_assign rfl)) rfl ?_
  refine QJ.done ?_
  refine PJ.next ?_
  refine WJ.seq ?_
  refine WJ.quiet ?_
  refine QJ.step (YldS.yld (y_assign rfl)) rfl ?_
  refine QJ.done ?_
  refine PJ.next ?_
  obtain ⟨kj6, hk7, hm⟩ := withK_open hm
  refine WJ.join (X := Int) (fun (x : Int) => kj6 x = some r) (fun (x : Int) => [(0, pt g2 0), (3, .int .i64 x)]) (fun (x : Int) => [box g2 96 [v3, .int .i64 s1.at_, .int .u64 s1.seed]]) ?_ ?_
  · clear hk7
    refine WJ.seq ?_
    refine WJ.quiet_draw follows (by kernel_rfl) ?_
    refine QJ.step (YldS.yld (y_move rfl)) rfl ?_
    refine QJ.step (YldS.yld (y_nil rfl)) rfl ?_
    refine QJ.step (YldS.yld (y_fldB (o := 0) fld96_1 rfl)) rfl ?_
    refine QJ.step (YldS.yld (y_loadB (k := 0) (off := 1) (v := .int .i64 s1.at_) rfl Try.isAgg3 rfl rfl)) rfl ?_
    refine QJ.step (YldS.yld (y_move rfl)) rfl ?_
    refine QJ.step (YldS.yld (y_nil rfl)) rfl ?_
    refine QJ.step (YldS.yld (y_fldB (o := 0) fld96_0 rfl)) rfl ?_
    refine QJ.step (YldS.yld (y_loadB (k := 0) (off := 0) (v := v3) rfl Try.isAgg22 rfl rfl)) rfl ?_
    refine QJ.step (YldS.yld (y_lenS Try.runUnderlying22 hr4 rfl)) rfl ?_
    refine QJ.step (YldS.yld (y_bin rfl rfl rfl)) rfl ?_
    refine QJ.done ?_
    refine PJ.next ?_
    refine WJ.cond (t := decide (s1.at_ < (List.length s1.code : Int))) rfl (fun hb8 => ?_) (fun hb8 => ?_)
    · replace hm := ifT hm hb8
      refine WJ.quiet_draw follows (by kernel_rfl) ?_
      refine QJ.step (YldS.yld (y_move rfl)) rfl ?_
      refine QJ.step (YldS.yld (y_nil rfl)) rfl ?_
      refine QJ.step (YldS.yld (y_fldB (o := 0) fld96_0 rfl)) rfl ?_
      refine QJ.step (YldS.yld (y_loadB (k := 0) (off := 0) (v := v3) rfl Try.isAgg22 rfl rfl)) rfl ?_
      refine QJ.step (YldS.yld (y_move rfl)) rfl ?_
      refine QJ.step (YldS.yld (y_nil rfl)) rfl ?_
      refine QJ.step (YldS.yld (y_fldB (o := 0) fld96_1 rfl)) rfl ?_
      refine QJ.step (YldS.yld (y_loadB (k := 0) (off := 1) (v := .int .i64 s1.at_) rfl Try.isAgg3 rfl rfl)) rfl ?_
      obtain ⟨e9, h10, hm⟩ := bindS hm
      obtain ⟨ad11, _, rfl, ha12, hy13⟩ := hr4.elem h10
      refine QJ.step (YldS.yld (hy13 Try.runUnderlying22 Try.sizeOf5 rfl rfl)) rfl ?_
      refine QJ.step (YldS.yld (y_load1 (v := .int .u8 (UInt8.toNat e9 : Int)) Try.isAgg5 ha12 St.frozenC rfl)) rfl ?_
      refine QJ.step (YldS.yld (y_conv8 Try.runUnderlying5 Try.runUnderlying3 rfl)) rfl ?_
      refine QJ.step (YldS.yld (y_assign rfl)) rfl ?_
      refine QJ.done ?_
      exact PJ.joined (UInt8.toNat e9 : Int) [0] hm ⟨rfl, rfl, trivial⟩ ⟨by decide, rfl⟩
    · replace hm := ifF hm hb8
      refine WJ.skip ?_
      exact PJ.joined 0 [0] hm ⟨rfl, rfl, trivial⟩ ⟨by decide, rfl⟩
  · rintro b5 hm
    subst hk7
    refine WJ.seq ?_
    refine WJ.reg ?_
    refine SJ.q (YldS.yld (y_move rfl)) rfl ?_
    refine SJ.q (YldS.yld (y_nil rfl)) rfl ?_
    refine SJ.q (YldS.yld (y_fldB (o := 0) fld96_1 rfl)) rfl ?_
    refine SJ.q (YldS.yld (y_loadB (k := 0) (off := 1) (v := .int .i64 s1.at_) rfl Try.isAgg3 rfl rfl)) rfl ?_
    refine SJ.q (YldS.yld (y_bin rfl rfl rfl)) rfl ?_
    refine SJ.q (YldS.yld (y_nil rfl)) rfl ?_
    refine SJ.q (YldS.yld (y_fldB (o := 0) fld96_1 rfl)) rfl ?_
    refine SJ.storeL (k := 0) (off := 1) (us := [.int .i64 (w64 (s1.at_ + 1))]) rfl rfl rfl rfl Try.sizeOf3 rfl rfl ?_
    refine SJ.nil ?_
    refine PJ.next ?_
    refine WJ.seq ?_
    refine WJ.reg ?_
    refine SJ.q (YldS.yld (y_move rfl)) rfl ?_
    refine SJ.q (YldS.yld (y_move rfl)) rfl ?_
    refine SJ.q (YldS.yld (y_nil rfl)) rfl ?_
    refine SJ.q (YldS.yld (y_fldB (o := 0) fld96_2 rfl)) rfl ?_
    refine SJ.q (YldS.yld (y_loadB (k := 0) (off := 2) (v := .int .u64 s1.seed) rfl Try.isAgg94 rfl rfl)) rfl ?_
    refine SJ.q (YldS.yld (y_bin rfl rfl rfl)) rfl ?_
    refine SJ.q (YldS.yld (y_move rfl)) rfl ?_
    refine SJ.q (YldS.yld (y_convI Try.runUnderlying3 Try.runUnderlying94 rfl)) rfl ?_
    refine SJ.q (YldS.yld (y_bin rfl rfl rfl)) rfl ?_
    refine SJ.q (YldS.yld (y_bin rfl rfl rfl)) rfl ?_
    refine SJ.q (YldS.yld (y_nil rfl)) rfl ?_
    refine SJ.q (YldS.yld (y_fldB (o := 0) fld96_2 rfl)) rfl ?_
    refine SJ.storeL (k := 0) (off := 2) (us := [.int .u64 (IntKind.u64.wrap ((IntKind.u64.wrap ((IntKind.u64.wrap (s1.seed * 6364136223846793005)) + (IntKind.u64.wrap b5))) + 1442695040888963407))]) rfl rfl rfl rfl Try.sizeOf94 rfl rfl ?_
    refine SJ.nil ?_
    refine PJ.next ?_
    refine WJ.seq ?_
    refine WJ.seq ?_
    refine WJ.quiet_draw follows (by kernel_rfl) ?_
    refine QJ.step (YldS.yld (y_move rfl)) rfl ?_
    refine QJ.step (YldS.yld (y_nil rfl)) rfl ?_
    refine QJ.step (YldS.yld (y_fldB (o := 0) fld96_1 rfl)) rfl ?_
    refine QJ.step (YldS.yld (y_loadB (k := 0) (off := 1) (v := .int .i64 (w64 (s1.at_ + 1))) rfl Try.isAgg3 rfl rfl)) rfl ?_
    refine QJ.step (YldS.yld (y_move rfl)) rfl ?_
    refine QJ.step (YldS.yld (y_nil rfl)) rfl ?_
    refine QJ.step (YldS.yld (y_fldB (o := 0) fld96_0 rfl)) rfl ?_
    refine QJ.step (YldS.yld (y_loadB (k := 0) (off := 0) (v := v3) rfl Try.isAgg22 rfl rfl)) rfl ?_
    refine QJ.step (YldS.yld (y_lenS Try.runUnderlying22 hr4 rfl)) rfl ?_
    refine QJ.step (YldS.yld (y_bin rfl rfl rfl)) rfl ?_
    refine QJ.done ?_
    refine PJ.next ?_
    refine WJ.cond (t := decide ((w64 (s1.at_ + 1)) ≤ (List.length s1.code : Int))) rfl (fun hb14 => ?_) (fun hb14 => ?_)
    · replace hm := ifT hm hb14
      refine WJ.seq ?_
      refine WJ.quiet ?_
      refine QJ.step (YldS.yld (y_move rfl)) rfl ?_
      refine QJ.step (YldS.yld (y_assign rfl)) rfl ?_
      refine QJ.done ?_
      refine PJ.next ?_
      refine WJ.ret ?_
      refine PJ.then_ret ?_
      obtain rfl := Option.some.inj hm
      refine PJ.sel (L' := [box g2 96 [v3, .int .i64 (w64 (s1.at_ + 1)), .int .u64 (IntKind.u64.wrap ((IntKind.u64.wrap ((IntKind.u64.wrap (s1.seed * 6364136223846793005)) + (IntKind.u64.wrap b5))) + 1442695040888963407))]]) [0] ⟨by decide, rfl⟩ ?_
      exact PJ.retn (vs := [.int .i64 b5]) Try.results72 ⟨rfl, trivial⟩ ⟨rfl, rfl⟩
    · replace hm := ifF hm hb14
      refine WJ.skip ?_
      refine PJ.next ?_
      refine WJ.seq ?_
      refine WJ.quiet ?_
      refine QJ.step (YldS.yld (y_move rfl)) rfl ?_
      refine QJ.step (YldS.yld (y_nil rfl)) rfl ?_
      refine QJ.step (YldS.yld (y_fldB (o := 0) fld96_2 rfl)) rfl ?_
      refine QJ.step (YldS.yld (y_loadB (k := 0) (off := 2) (v := .int .u64 (IntKind.u64.wrap ((IntKind.u64.wrap ((IntKind.u64.wrap (s1.seed * 6364136223846793005)) + (IntKind.u64.wrap b5))) + 1442695040888963407))) rfl Try.isAgg94 rfl rfl)) rfl ?_
      refine QJ.step (YldS.yld (y_shru rfl rfl rfl)) rfl ?_
      refine QJ.step (YldS.yld (y_andu rfl rfl rfl)) rfl ?_
      refine QJ.step (YldS.yld (y_convI Try.runUnderlying94 Try.runUnderlying2 rfl)) rfl ?_
      refine QJ.step (YldS.yld (y_assign rfl)) rfl ?_
      refine QJ.done ?_
      refine PJ.next ?_
      refine WJ.ret ?_
      obtain rfl := Option.some.inj hm
      refine PJ.sel (L' := [box g2 96 [v3, .int .i64 (w64 (s1.at_ + 1)), .int .u64 (IntKind.u64.wrap ((IntKind.u64.wrap ((IntKind.u64.wrap (s1.seed * 6364136223846793005)) + (IntKind.u64.wrap b5))) + 1442695040888963407))]]) [0] ⟨by decide, rfl⟩ ?_
      exact PJ.retn (vs := [.int .i64 (w64 (uand (ushr (IntKind.u64.wrap ((IntKind.u64.wrap ((IntKind.u64.wrap (s1.seed * 6364136223846793005)) + (IntKind.u64.wrap b5))) + 1442695040888963407)) 40) 255))]) Try.results72 ⟨rfl, trivial⟩ ⟨rfl, rfl⟩

set_option maxRecDepth 100000 in
set_option maxHeartbeats 1000000 in
theorem ok_s_l00Src_pick {s1 : L00Src} {n5 : Int} {g2 : Nat} {r : Int × L00Src} (hm : s_l00Src_pick s1 n5 = some r) (w : World) (S : Nat → Prop) (v3 : Value) (hr4 : RdS w (Cx.Fz ⟨w, S⟩) v3 fByte.rp s1.code) (hA : (box g2 96 [v3, .int .i64 s1.at_, .int .u64 s1.seed]).holds w S) :
    Calls Try.prog 43 #[pt g2 0, .int .i64 n5] w (RetG ⟨w, S⟩ fun u L => (u = .int .i64 r.1 ∧ L = [box g2 96 [v3, .int .i64 r.2.at_, .int .u64 r.2.seed]])) := by
  unfold s_l00Src_pick at hm
  refine Calls.enter1 hA [pt g2 0, .int .i64 n5] Try.func43 rfl Try.ntmps43 rfl ?_
  refine WJ.seq ?_
  refine WJ.quiet ?_
  refine QJ.step (YldS.yld (y_assign rfl)) rfl ?_
  refine QJ.done ?_
  refine PJ.next ?_
  refine WJ.seq ?_
  refine WJ.seq ?_
  refine WJ.quiet ?_
  refine QJ.step (YldS.yld (y_move rfl)) rfl ?_
  refine QJ.step (YldS.yld (y_bin rfl rfl rfl)) rfl ?_
  refine QJ.done ?_
  refine PJ.next ?_
  refine WJ.cond (t := decide (n5 ≤ 1)) rfl (fun hb6 => ?_) (fun hb6 => ?_)
  · replace hm := ifT hm hb6
    refine WJ.seq ?_
    refine WJ.quiet ?_
    refine QJ.step (YldS.yld (y_assign rfl)) rfl ?_
    refine QJ.done ?_
    refine PJ.next ?_
    refine WJ.ret ?_
    refine PJ.then_ret ?_
    obtain rfl := Option.some.inj hm
    refine PJ.sel (L' := [box g2 96 [v3, .int .i64 s1.at_, .int .u64 s1.seed]]) [0] ⟨by decide, rfl⟩ ?_
    exact PJ.retn (vs := [.int .i64 0]) Try.results43 ⟨rfl, trivial⟩ ⟨rfl, rfl⟩
  · replace hm := ifF hm hb6
    refine WJ.skip ?_
    refine PJ.next ?_
    refine WJ.seq ?_
    refine WJ.reg ?_
    refine SJ.q (YldS.yld (y_move rfl)) rfl ?_
    obtain ⟨r7, h8, hm⟩ := bindS hm
    refine SJ.call1 (k := 0) rfl Try.call72 rfl (fun w S hw hA hO => ok_s_l00Src_next h8 w S _ (hr4.st1 hw hO) hA) rfl ?_
    rintro _ _ ⟨rfl, rfl⟩
    refine SJ.q (YldS.yld (y_assign rfl)) rfl ?_
    refine SJ.nil ?_
    refine PJ.next ?_
    obtain ⟨kj12, hk13, hm⟩ := withK_open hm
    refine WJ.join (X := Int × Int × Int) (fun (x : Int × Int × Int) => kj12 x.1 x.2.1 x.2.2 = some r) (fun (x : Int × Int × Int) => [(1, .int .i64 n5), (5, .int .i64 x.2.2)]) (fun (x : Int × Int × Int) => [box g2 96 [v3, .int .i64 x.1, .int .u64 x.2.1]]) ?_ ?_
    · clear hk13
      refine WJ.seq ?_
      refine WJ.quiet ?_
      refine QJ.step (YldS.yld (y_move rfl)) rfl ?_
      refine QJ.step (YldS.yld (y_bin rfl rfl rfl)) rfl ?_
      refine QJ.done ?_
      refine PJ.next ?_
      refine WJ.cond (t := decide (n5 > 200)) rfl (fun hb14 => ?_) (fun hb14 => ?_)
      · replace hm := ifT hm hb14
        refine WJ.reg ?_
        refine SJ.q (YldS.yld (y_move rfl)) rfl ?_
        refine SJ.q (YldS.yld (y_bin rfl rfl rfl)) rfl ?_
        refine SJ.q (YldS.yld (y_move rfl)) rfl ?_
        obtain ⟨r15, h16, hm⟩ := bindS hm
        refine SJ.call1 (k := 0) rfl Try.call72 rfl (fun w S hw hA hO => ok_s_l00Src_next h16 w S _ (hr4.st1 hw hO) hA) rfl ?_
        rintro _ _ ⟨rfl, rfl⟩
        refine SJ.q (YldS.yld (y_bin rfl rfl rfl)) rfl ?_
        refine SJ.q (YldS.yld (y_assign rfl)) rfl ?_
        refine SJ.nil ?_
        exact PJ.joined (r15.2.at_, r15.2.seed, w64 ((w64 (r7.1 * 256)) + r15.1)) [0] hm ⟨rfl, rfl, trivial⟩ ⟨by decide, rfl⟩
      · replace hm := ifF hm hb14
        refine WJ.skip ?_
        exact PJ.joined (r7.2.at_, r7.2.seed, r7.1) [0] hm ⟨rfl, rfl, trivial⟩ ⟨by decide, rfl⟩
    · rintro ⟨x9, x10, x11⟩ hm
      subst hk13
      refine WJ.seq ?_
      refine WJ.quiet ?_
      refine QJ.step (YldS.yld (y_move rfl)) rfl ?_
      refine QJ.step (YldS.yld (y_move rfl)) rfl ?_
      obtain ⟨q17, h18, hm⟩ := bindS hm
      refine QJ.step (YldS.yld (y_rem' h18 rfl rfl)) rfl ?_
      refine QJ.step (YldS.yld (y_assign rfl)) rfl ?_
      refine QJ.done ?_
      refine PJ.next ?_
      refine WJ.ret ?_
      obtain rfl := Option.some.inj hm
      refine PJ.sel (L' := [box g2 96 [v3, .int .i64 x9, .int .u64 x10]]) [0] ⟨by decide, rfl⟩ ?_
      exact PJ.retn (vs := [.int .i64 q17]) Try.results43 ⟨rfl, trivial⟩ ⟨rfl, rfl⟩

set_option maxRecDepth 100000 in
set_option maxHeartbeats 1000000 in
theorem ok_s_l19Draw {N : Nat} {s1 : L00Src} {g2 : Nat} {r : Str × L00Src} (hm : s_l19Draw N s1 = some r) (w : World) (S : Nat → Prop) (v3 : Value) (hr4 : RdS w (Cx.Fz ⟨w, S⟩) v3 fByte.rp s1.code) (hA : (box g2 96 [v3, .int .i64 s1.at_, .int .u64 s1.seed]).holds w S) :
    Calls Try.prog 47 #[pt g2 0] w (RetG ⟨w, S⟩ fun u L => (u = str r.1 ∧ L = [box g2 96 [v3, .int .i64 r.2.at_, .int .u64 r.2.seed]])) := by
  unfold s_l19Draw at hm
  refine Calls.enter1 hA [pt g2 0] Try.func47 rfl Try.ntmps47 rfl ?_
  refine WJ.seq ?_
  refine WJ.quiet ?_
  refine QJ.step (YldS.yld (y_assign rfl)) rfl ?_
  refine QJ.done ?_
  refine PJ.next ?_
  refine WJ.seq ?_
  refine WJ.reg ?_
  refine SJ.buildSlice (R := fByte) (os := []) [] Try.runUnderlying22 Try.sizeOf5 Try.zeroValue5 rfl rfl rfl rfl rfl rfl fun v5 => ?_
  refine SJ.q (YldS.yld (y_assign rfl)) rfl ?_
  refine SJ.nil ?_
  refine PJ.next ?_
  obtain ⟨kj10, hk11, hm⟩ := withK_open hm
  refine WJ.join (X := Int × Int × (List UInt8) × Value) (fun (x : Int × Int × (List UInt8) × Value) => kj10 x.1 x.2.1 x.2.2.1 = some r) (fun (x : Int × Int × (List UInt8) × Value) => [(3, x.2.2.2)]) (fun (x : Int × Int × (List UInt8) × Value) => [box g2 96 [v3, .int .i64 x.1, .int .u64 x.2.1], row x.2.2.2 5 fByte x.2.2.1]) ?_ ?_
  · clear hk11
    refine WJ.seq ?_
    refine WJ.reg ?_
    refine SJ.q (YldS.yld (y_move rfl)) rfl ?_
    obtain ⟨r12, h13, hm⟩ := bindS hm
    refine SJ.call1 (k := 1) rfl Try.call43 rfl (fun w S hw hA hO => ok_s_l00Src_pick h13 w S _ (hr4.st1 hw hO) hA) rfl ?_
    rintro _ _ ⟨rfl, rfl⟩
    refine SJ.q (YldS.yld (y_assign rfl)) rfl ?_
    refine SJ.nil ?_
    refine PJ.next ?_
    refine WJ.block ?_
    refine WJ.sel (L' := (fun (x : Int × Int × (List UInt8) × Value × Int) => [box g2 96 [v3, .int .i64 x.1, .int .u64 x.2.1], row x.2.2.2.1 5 fByte x.2.2.1]) (r12.2.at_, r12.2.seed, [], v5, r12.1)) [0, 1] ⟨by decide, rfl⟩ ?_
    refine WJ.sub (m' := (fun (x : Int × Int × (List UInt8) × Value × Int) => [(0, pt g2 0), (3, x.2.2.2.1), (4, .int .i64 x.2.2.2.2)]) (r12.2.at_, r12.2.seed, [], v5, r12.1)) ⟨rfl, rfl, rfl, trivial⟩ ?_
    refine WJ.loop (X := Int × Int × (List UInt8) × Value × Int) (fun N (x : Int × Int × (List UInt8) × Value × Int) => s_l19Draw_l1 kj10 s1 N x.1 x.2.1 x.2.2.1 x.2.2.2.2 = some r) (fun (x : Int × Int × (List UInt8) × Value × Int) => [(0, pt g2 0), (3, x.2.2.2.1), (4, .int .i64 x.2.2.2.2)]) (fun (x : Int × Int × (List UInt8) × Value × Int) => [box g2 96 [v3, .int .i64 x.1, .int .u64 x.2.1], row x.2.2.2.1 5 fByte x.2.2.1]) ?_ N (r12.2.at_, r12.2.seed, [], v5, r12.1) hm
    · rintro N ⟨x14, x15, l16, v17, k18⟩ hI
      have hm := hI; clear hI
      cases N with
      | zero => cases hm
      | succ N =>
      unfold s_l19Draw_l1 at hm
      refine WJ.seq ?_
      refine WJ.seq ?_
      refine WJ.quiet ?_
      refine QJ.step (YldS.yld (y_move rfl)) rfl ?_
      refine QJ.step (YldS.yld (y_bin rfl rfl rfl)) rfl ?_
      refine QJ.done ?_
      refine PJ.next ?_
      refine WJ.cond (t := decide (k18 > 0)) rfl (fun hb19 => ?_) (fun hb19 => ?_)
      · replace hm := ifT hm hb19
        refine WJ.skip ?_
        refine PJ.next ?_
        refine WJ.seq ?_
        refine WJ.block ?_
        refine WJ.reg ?_
        refine SJ.q (YldS.yld (y_move rfl)) rfl ?_
        refine SJ.q (YldS.yld (y_move rfl)) rfl ?_
        obtain ⟨r20, h21, hm⟩ := bindS hm
        refine SJ.call1 (k := 0) rfl Try.call43 rfl (fun w S hw hA hO => ok_s_l00Src_pick h21 w S _ (hr4.st1 hw hO) hA) rfl ?_
        rintro _ _ ⟨rfl, rfl⟩
        obtain ⟨c22, h23, hm⟩ := bindS hm
        refine SJ.q (YldS.yld (y_idxStr Try.runUnderlying9 rfl rfl h23)) rfl ?_
        refine SJ.buildSlice (R := fByte) (os := [.tmp 15]) [c22] Try.runUnderlying22 Try.sizeOf5 Try.zeroValue5 rfl rfl rfl rfl rfl rfl fun v24 => ?_
        obtain ⟨l25, h26, hm⟩ := bindS hm
        refine SJ.append (k := 2) (R := fByte) h26 rfl Try.underlying22 el5 rfl rfl rfl (fun w hw => (hw.row_rd (k := 0) rfl)) rfl fun v27 => ?_
        refine SJ.q (YldS.yld (y_assign rfl)) rfl ?_
        refine SJ.nil ?_
        refine PJ.block_normal (PJ.next ?_)
        refine WJ.quiet ?_
        refine QJ.step (YldS.yld (y_move rfl)) rfl ?_
        refine QJ.step (YldS.yld (y_bin rfl rfl rfl)) rfl ?_
        refine QJ.step (YldS.yld (y_assign rfl)) rfl ?_
        refine QJ.done ?_
        exact PJ.round (r20.2.at_, r20.2.seed, l25, v27, w64 (k18 - 1)) [1, 2] hm ⟨rfl, rfl, rfl, trivial⟩ ⟨by decide, rfl⟩
      · replace hm := ifF hm hb19
        refine WJ.exit ?_
        refine PJ.then_exit (PJ.then_exit (PJ.block_exit ?_))
        exact PJ.joined (x14, x15, l16, v17) [0, 1] hm ⟨rfl, trivial⟩ ⟨by decide, rfl⟩
  · rintro ⟨x6, x7, l8, v9⟩ hm
    subst hk11
    refine WJ.seq ?_
    refine WJ.quiet ?_
    refine QJ.step (YldS.yld (y_move rfl)) rfl ?_
    refine QJ.step (YldS.yld (y_b2s Try.underlying22 Try.underlying9 Try.underlying5 (fun w hw => ⟨_, (hw.row_rd (k := 1) rfl)⟩) rfl)) rfl ?_
    refine QJ.step (YldS.yld (y_assign rfl)) rfl ?_
    refine QJ.done ?_
    refine PJ.next ?_
    refine WJ.ret ?_
    obtain rfl := Option.some.inj hm
    refine PJ.sel (L' := [box g2 96 [v3, .int .i64 x6, .int .u64 x7]]) [0] ⟨by decide, rfl⟩ ?_
    exact PJ.retn (vs := [str l8]) Try.results47 ⟨rfl, trivial⟩ ⟨rfl, rfl⟩

set_option maxRecDepth 100000 in
set_option maxHeartbeats 1000000 in
theorem ok_s_l19Near {N : Nat} {s1 : L00Src} {want5 : Str} {g2 : Nat} {r : Str × L00Src} (hm : s_l19Near N s1 want5 = some r) (w : World) (S : Nat → Prop) (v3 : Value) (hr4 : RdS w (Cx.Fz ⟨w, S⟩) v3 fByte.rp s1.code) (hA : (box g2 96 [v3, .int .i64 s1.at_, .int .u64 s1.seed]).holds w S) :
    Calls Try.prog 48 #[pt g2 0, str want5] w (RetG ⟨w, S⟩ fun u L => (u = str r.1 ∧ L = [box g2 96 [v3, .int .i64 r.2.at_, .int .u64 r.2.seed]])) := by
  unfold s_l19Near at hm
  refine Calls.enter1 hA [pt g2 0, str want5] Try.func48 rfl Try.ntmps48 rfl ?_
  refine WJ.seq ?_
  refine WJ.quiet ?_
  refine QJ.step (YldS.yld (y_assign rfl)) rfl ?_
  refine QJ.done ?_
  refine PJ.next ?_
  refine WJ.seq ?_
  refine WJ.reg ?_
  refine SJ.q (YldS.yld (y_move rfl)) rfl ?_
  obtain ⟨l6, h7, hm⟩ := bindS hm
  refine SJ.convBytes h7 Try.underlying9 Try.underlying22 Try.underlying5 rfl rfl fun v8 => ?_
  refine SJ.mixM 0 rfl ?_
  refine SJ.q (YldS.yld (y_assign rfl)) rfl ?_
  refine SJ.nil ?_
  refine PJ.next ?_
  obtain ⟨kj13, hk14, hm⟩ := withK_open hm
  refine WJ.join (X := Int × Int × (List UInt8) × Value) (fun (x : Int × Int × (List UInt8) × Value) => kj13 x.1 x.2.1 x.2.2.1 = some r) (fun (x : Int × Int × (List UInt8) × Value) => [(5, x.2.2.2)]) (fun (x : Int × Int × (List UInt8) × Value) => [box g2 96 [v3, .int .i64 x.1, .int .u64 x.2.1], rowX x.2.2.2 5 fByte x.2.2.1]) ?_ ?_
  · clear hk14
    refine WJ.seq ?_
    refine WJ.reg ?_
    refine SJ.q (YldS.yld (y_move rfl)) rfl ?_
    obtain ⟨r15, h16, hm⟩ := bindS hm
    refine SJ.call1 (k := 1) rfl Try.call43 rfl (fun w S hw hA hO => ok_s_l00Src_pick h16 w S _ (hr4.st1 hw hO) hA) rfl ?_
    rintro _ _ ⟨rfl, rfl⟩
    refine SJ.q (YldS.yld (y_assign rfl)) rfl ?_
    refine SJ.nil ?_
    refine PJ.next ?_
    refine WJ.block ?_
    refine WJ.sel (L' := (fun (x : Int × Int × (List UInt8) × Value × Int) => [box g2 96 [v3, .int .i64 x.1, .int .u64 x.2.1], rowX x.2.2.2.1 5 fByte x.2.2.1]) (r15.2.at_, r15.2.seed, l6, v8, r15.1)) [0, 1] ⟨by decide, rfl⟩ ?_
    refine WJ.sub (m' := (fun (x : Int × Int × (List UInt8) × Value × Int) => [(0, pt g2 0), (5, x.2.2.2.1), (6, .int .i64 x.2.2.2.2)]) (r15.2.at_, r15.2.seed, l6, v8, r15.1)) ⟨rfl, rfl, rfl, trivial⟩ ?_
    refine WJ.loop (X := Int × Int × (List UInt8) × Value × Int) (fun N (x : Int × Int × (List UInt8) × Value × Int) => s_l19Near_l1 kj13 s1 N x.1 x.2.1 x.2.2.1 x.2.2.2.2 = some r) (fun (x : Int × Int × (List UInt8) × Value × Int) => [(0, pt g2 0), (5, x.2.2.2.1), (6, .int .i64 x.2.2.2.2)]) (fun (x : Int × Int × (List UInt8) × Value × Int) => [box g2 96 [v3, .int .i64 x.1, .int .u64 x.2.1], rowX x.2.2.2.1 5 fByte x.2.2.1]) ?_ N (r15.2.at_, r15.2.seed, l6, v8, r15.1) hm
    · rintro N ⟨x17, x18, l19, v20, k21⟩ hI
      have hm := hI; clear hI
      cases N with
      | zero => cases hm
      | succ N =>
      unfold s_l19Near_l1 at hm
      refine WJ.seq ?_
      refine WJ.seq ?_
      refine WJ.quiet ?_
      refine QJ.step (YldS.yld (y_move rfl)) rfl ?_
      refine QJ.step (YldS.yld (y_bin rfl rfl rfl)) rfl ?_
      refine QJ.step (YldS.yld (y_move rfl)) rfl ?_
      obtain ⟨t22, h23, hm⟩ := bindS hm
      refine QJ.cut 4 [(0, pt g2 0), (5, v20), (6, .int .i64 k21), (20, .bool t22)] ?_ ?_
      · rcases Bool.eq_false_or_eq_true (decide (k21 > 0)) with hb24 | hb24
        · replace h23 := andT h23 hb24
          refine QJ.on rfl rfl (cB hb24) (YldS.yld (y_move rfl)) rfl ?_
          refine QJ.on rfl rfl (cB hb24) (YldS.yld (y_lenRowX (k := 1) rfl Try.runUnderlying22 rfl)) rfl ?_
          refine QJ.on rfl rfl (cB hb24) (YldS.yld (y_bin rfl rfl rfl)) rfl ?_
          refine QJ.step (YldS.yld (y_pick_t (cB hb24) rfl)) rfl ?_
          obtain rfl := Option.some.inj h23
          exact QJ.cut_end ⟨rfl, rfl, rfl, rfl, trivial⟩
        · obtain rfl := andF h23 hb24
          refine QJ.off rfl rfl (cB hb24) rfl rfl ?_
          refine QJ.off rfl rfl (cB hb24) rfl rfl ?_
          refine QJ.off rfl rfl (cB hb24) rfl rfl ?_
          refine QJ.step (YldS.yld (y_pick_f (cB hb24) rfl)) rfl ?_
          exact QJ.cut_end ⟨rfl, rfl, rfl, rfl, trivial⟩
      refine QJ.done ?_
      refine PJ.next ?_
      refine WJ.cond (t := t22) rfl (fun hb25 => ?_) (fun hb25 => ?_)
      · replace hm := ifT hm hb25
        refine WJ.skip ?_
        refine PJ.next ?_
        obtain ⟨kj30, hk31, hm⟩ := withK_open hm
        refine WJ.join (X := Int × Int × (List UInt8) × Value) (fun (x : Int × Int × (List UInt8) × Value) => kj30 x.1 x.2.1 x.2.2.1 = some r) (fun (x : Int × Int × (List UInt8) × Value) => [(0, pt g2 0), (5, x.2.2.2), (6, .int .i64 k21)]) (fun (x : Int × Int × (List UInt8) × Value) => [box g2 96 [v3, .int .i64 x.1, .int .u64 x.2.1], rowX x.2.2.2 5 fByte x.2.2.1]) ?_ ?_
        · clear hk31
          refine WJ.block ?_
          refine WJ.seq ?_
          refine WJ.reg ?_
          refine SJ.q (YldS.yld (y_move rfl)) rfl ?_
          refine SJ.q (YldS.yld (y_move rfl)) rfl ?_
          refine SJ.q (YldS.yld (y_lenRowX (k := 1) rfl Try.runUnderlying22 rfl)) rfl ?_
          refine SJ.q (YldS.yld (y_bin rfl rfl rfl)) rfl ?_
          obtain ⟨r32, h33, hm⟩ := bindS hm
          refine SJ.call1 (k := 0) rfl Try.call43 rfl (fun w S hw hA hO => ok_s_l00Src_pick h33 w S _ (hr4.st1 hw hO) hA) rfl ?_
          rintro _ _ ⟨rfl, rfl⟩
          refine SJ.q (YldS.yld (y_assign rfl)) rfl ?_
          refine SJ.nil ?_
          refine PJ.next ?_
          refine WJ.seq ?_
          refine WJ.reg ?_
          refine SJ.q (YldS.yld (y_move rfl)) rfl ?_
          obtain ⟨r34, h35, hm⟩ := bindS hm
          refine SJ.call1 (k := 0) rfl Try.call43 rfl (fun w S hw hA hO => ok_s_l00Src_pick h35 w S _ (hr4.st1 hw hO) hA) rfl ?_
          rintro _ _ ⟨rfl, rfl⟩
          refine SJ.nil ?_
          refine PJ.next ?_
          refine WJ.block ?_
          refine WJ.seq ?_
          refine WJ.quiet ?_
          refine QJ.step (YldS.yld (y_bin rfl rfl rfl)) rfl ?_
          refine QJ.step (YldS.yld (y_assign rfl)) rfl ?_
          refine QJ.done ?_
          refine PJ.next ?_
          refine WJ.cond (t := (r34.1 == 0)) rfl (fun hb36 => ?_) (fun hb36 => ?_)
          · replace hm := ifT hm hb36
            refine WJ.reg ?_
            refine SJ.q (YldS.yld (y_move rfl)) rfl ?_
            refine SJ.q (YldS.yld (y_move rfl)) rfl ?_
            refine SJ.q (YldS.yld (y_move rfl)) rfl ?_
            obtain ⟨r37, h38, hm⟩ := bindS hm
            refine SJ.call1 (k := 0) rfl Try.call43 rfl (fun w S hw hA hO => ok_s_l00Src_pick h38 w S _ (hr4.st1 hw hO) hA) rfl ?_
            rintro _ _ ⟨rfl, rfl⟩
            obtain ⟨c39, h40, hm⟩ := bindS hm
            refine SJ.q (YldS.yld (y_idxStr Try.runUnderlying9 rfl rfl h40)) rfl ?_
            obtain ⟨e41, h42, hm⟩ := bindS hm
            refine SJ.q (YldS.yld (y_ixRowX (k := 1) (R := fByte) rfl Try.runUnderlying22 Try.sizeOf5 rfl rfl h42)) rfl ?_
            refine SJ.storeRLX (k := 1) (i := (Int.toNat r32.1)) (off := 0) (us := [.int .u8 (UInt8.toNat c39 : Int)]) (b := c39) rfl rfl (idx_get h42) rfl rfl Try.sizeOf5 rfl rfl rfl ?_
            refine SJ.nil ?_
            refine PJ.block_normal (PJ.block_normal ?_)
            exact PJ.joined (r37.2.at_, r37.2.seed, (List.set l19 (Int.toNat r32.1) c39), v20) [0, 1] hm ⟨rfl, rfl, rfl, trivial⟩ ⟨by decide, rfl⟩
          · replace hm := ifF hm hb36
            refine WJ.seq ?_
            refine WJ.quiet ?_
            refine QJ.step (YldS.yld (y_bin rfl rfl rfl)) rfl ?_
            refine QJ.step (YldS.yld (y_assign rfl)) rfl ?_
            refine QJ.done ?_
            refine PJ.next ?_
            refine WJ.cond (t := (r34.1 == 1)) rfl (fun hb43 => ?_) (fun hb43 => ?_)
            · replace hm := ifT hm hb43
              refine WJ.seq ?_
              refine WJ.quiet ?_
              refine QJ.step (YldS.yld (y_move rfl)) rfl ?_
              refine QJ.step (YldS.yld (y_move rfl)) rfl ?_
              obtain ⟨e44, h45, hm⟩ := bindS hm
              refine QJ.step (YldS.yld (y_ixRowX (k := 1) (R := fByte) rfl Try.runUnderlying22 Try.sizeOf5 rfl rfl h45)) rfl ?_
              refine QJ.step (YldS.yld (y_loadRX (k := 1) (i := (Int.toNat r32.1)) (off := 0) (u := .int .u8 (UInt8.toNat e44 : Int)) rfl Try.isAgg5 rfl (idx_get h45) rfl)) rfl ?_
              refine QJ.step (YldS.yld (y_assign rfl)) rfl ?_
              refine QJ.done ?_
              refine PJ.next ?_
              refine WJ.seq ?_
              refine WJ.reg ?_
              refine SJ.q (YldS.yld (y_move rfl)) rfl ?_
              refine SJ.q (YldS.yld (y_move rfl)) rfl ?_
              refine SJ.q (YldS.yld (y_move rfl)) rfl ?_
              refine SJ.q (YldS.yld (y_move rfl)) rfl ?_
              refine SJ.q (YldS.yld (y_bin rfl rfl rfl)) rfl ?_
              obtain ⟨e46, h47, hm⟩ := bindS hm
              refine SJ.q (YldS.yld (y_ixRowX (k := 1) (R := fByte) rfl Try.runUnderlying22 Try.sizeOf5 rfl rfl h47)) rfl ?_
              refine SJ.q (YldS.yld (y_loadRX (k := 1) (i := (Int.toNat (w64 (r32.1 + 1)))) (off := 0) (u := .int .u8 (UInt8.toNat e46 : Int)) rfl Try.isAgg5 rfl (idx_get h47) rfl)) rfl ?_
              obtain ⟨e48, h49, hm⟩ := bindS hm
              refine SJ.q (YldS.yld (y_ixRowX (k := 1) (R := fByte) rfl Try.runUnderlying22 Try.sizeOf5 rfl rfl h49)) rfl ?_
              refine SJ.storeRLX (k := 1) (i := (Int.toNat r32.1)) (off := 0) (us := [.int .u8 (UInt8.toNat e46 : Int)]) (b := e46) rfl rfl (idx_get h49) rfl rfl Try.sizeOf5 rfl rfl rfl ?_
              refine SJ.nil ?_
              refine PJ.next ?_
              refine WJ.reg ?_
              refine SJ.q (YldS.yld (y_move rfl)) rfl ?_
              refine SJ.q (YldS.yld (y_move rfl)) rfl ?_
              refine SJ.q (YldS.yld (y_bin rfl rfl rfl)) rfl ?_
              refine SJ.q (YldS.yld (y_move rfl)) rfl ?_
              obtain ⟨e50, h51, hm⟩ := bindS hm
              refine SJ.q (YldS.yld (y_ixRowX (k := 1) (R := fByte) rfl Try.runUnderlying22 Try.sizeOf5 rfl rfl h51)) rfl ?_
              refine SJ.storeRLX (k := 1) (i := (Int.toNat (w64 (r32.1 + 1)))) (off := 0) (us := [.int .u8 (UInt8.toNat e44 : Int)]) (b := e44) rfl rfl (idx_get h51) rfl rfl Try.sizeOf5 rfl rfl rfl ?_
              refine SJ.nil ?_
              refine PJ.block_normal (PJ.block_normal ?_)
              exact PJ.joined (r34.2.at_, r34.2.seed, (List.set (List.set l19 (Int.toNat r32.1) e46) (Int.toNat (w64 (r32.1 + 1))) e44), v20) [0, 1] hm ⟨rfl, rfl, rfl, trivial⟩ ⟨by decide, rfl⟩
            · replace hm := ifF hm hb43
              refine WJ.seq ?_
              refine WJ.quiet ?_
              refine QJ.step (YldS.yld (y_bin rfl rfl rfl)) rfl ?_
              refine QJ.step (YldS.yld (y_assign rfl)) rfl ?_
              refine QJ.done ?_
              refine PJ.next ?_
              refine WJ.cond (t := (r34.1 == 2)) rfl (fun hb52 => ?_) (fun hb52 => ?_)
              · replace hm := ifT hm hb52
                obtain ⟨l54, h55, hm⟩ := bindS hm
                obtain ⟨l56, h57, hm⟩ := bindS hm
                obtain ⟨l59, h60, hm⟩ := bindS hm
                obtain ⟨l61, h62, hm⟩ := bindS hm
                refine WJ.draws (N := 11) (listed0 := #[false, false, false, false, false, false, false, false, false, false, false]) [box g2 96 [v3, .int .i64 r34.2.at_, .int .u64 r34.2.seed], rowX v20 5 fByte l19] follows rfl rfl ?_
                refine RJ.first 1 (listed' := #[false, true, false, false, false, false, false, false, false, false, false]) [0, 1] rfl (by kernel_rfl) rfl ⟨by decide, rfl⟩ (y_move rfl) rfl ?_
                refine RJ.first 2 (listed' := #[false, true, true, false, false, false, false, false, false, false, false]) [0, 1] rfl (by kernel_rfl) rfl ⟨by decide, rfl⟩ (y_move rfl) rfl ?_
                refine RJ.first 3 (listed' := #[false, true, true, true, false, false, false, false, false, false, false]) [0, 1] rfl (by kernel_rfl) rfl ⟨by decide, rfl⟩ (y_slcX (i := none) (j := some r32.1) (k := 1) h55 rfl Try.runUnderlying22 Try.sizeOf5 rfl trivial ⟨_, rfl⟩) rfl ?_
                refine RJ.first 5 (listed' := #[false, true, true, true, false, true, false, false, false, false, false]) [0, 1] rfl (by kernel_rfl) rfl ⟨by decide, rfl⟩ (y_move rfl) rfl ?_
                refine RJ.first 6 (listed' := #[false, true, true, true, false, true, true, false, false, false, false]) [0, 1] rfl (by kernel_rfl) rfl ⟨by decide, rfl⟩ (y_move rfl) rfl ?_
                refine RJ.first 7 (listed' := #[false, true, true, true, false, true, true, true, false, false, false]) [0, 1] rfl (by kernel_rfl) rfl ⟨by decide, rfl⟩ (y_bin rfl rfl rfl) rfl ?_
                refine RJ.first 8 (listed' := #[false, true, true, true, false, true, true, true, true, false, false]) [0, 1] rfl (by kernel_rfl) rfl ⟨by decide, rfl⟩ (y_slcX (i := some (w64 (r32.1 + 1))) (j := none) (k := 1) h60 rfl Try.runUnderlying22 Try.sizeOf5 rfl ⟨_, rfl⟩ trivial) rfl ?_
                refine RJ.step1 0 [0, 1] (by kernel_rfl) ⟨by decide, rfl⟩ ?_
                refine RO.of (listed' := #[true, true, true, true, false, true, true, true, true, false, false]) rfl rfl ?_
                refine SJ.buildSlice (R := fByte) (os := []) [] Try.runUnderlying22 Try.sizeOf5 Try.zeroValue5 rfl rfl rfl rfl rfl rfl fun v53 => ?_
                refine SJ.nil ?_
                refine PJ.draw ?_
                refine RJ.step1 4 [1, 2] (by kernel_rfl) ⟨by decide, rfl⟩ ?_
                refine RO.of (listed' := #[true, true, true, true, true, true, true, true, true, false, false]) rfl rfl ?_
                refine SJ.append (k := 0) (R := fByte) h57 rfl Try.underlying22 el5 rfl rfl rfl (fun w hw => (hw.slcX_rd (k := 2) (i := none) (j := some r32.1) rfl h55)) rfl fun v58 => ?_
                refine SJ.nil ?_
                refine PJ.draw ?_
                refine RJ.step1 9 [1, 2] (by kernel_rfl) ⟨by decide, rfl⟩ ?_
                refine RO.of (listed' := #[true, true, true, true, true, true, true, true, true, true, false]) rfl rfl ?_
                refine SJ.append (k := 0) (R := fByte) h62 rfl Try.underlying22 el5 rfl rfl rfl (fun w hw => (hw.slcX_rd (k := 2) (i := some (w64 (r32.1 + 1))) (j := none) rfl h60)) rfl fun v63 => ?_
                refine SJ.nil ?_
                refine PJ.draw ?_
                refine RJ.first 10 (listed' := #[true, true, true, true, true, true, true, true, true, true, true]) [1, 2] rfl (by kernel_rfl) rfl ⟨by decide, rfl⟩ (y_assign rfl) rfl ?_
                refine RJ.fin [1, 2] (by kernel_rfl) ⟨by decide, rfl⟩ ?_
                refine PJ.block_normal (PJ.block_normal ?_)
                refine PJ.mixR 0 rfl ?_
                exact PJ.joined (r34.2.at_, r34.2.seed, l61, v63) [1, 0] hm ⟨rfl, rfl, rfl, trivial⟩ ⟨by decide, rfl⟩
              · replace hm := ifF hm hb52
                refine WJ.seq ?_
                refine WJ.reg ?_
                refine SJ.buildSlice (R := fByte) (os := []) [] Try.runUnderlying22 Try.sizeOf5 Try.zeroValue5 rfl rfl rfl rfl rfl rfl fun v64 => ?_
                refine SJ.q (YldS.yld (y_move rfl)) rfl ?_
                refine SJ.q (YldS.yld (y_move rfl)) rfl ?_
                obtain ⟨l65, h66, hm⟩ := bindS hm
                refine SJ.q (YldS.yld (y_slcX (i := none) (j := some r32.1) (k := 2) h66 rfl Try.runUnderlying22 Try.sizeOf5 rfl trivial ⟨_, rfl⟩)) rfl ?_
                obtain ⟨l67, h68, hm⟩ := bindS hm
                refine SJ.append (k := 0) (R := fByte) h68 rfl Try.underlying22 el5 rfl rfl rfl (fun w hw => (hw.slcX_rd (k := 2) (i := none) (j := some r32.1) rfl h66)) rfl fun v69 => ?_
                refine SJ.q (YldS.yld (y_move rfl)) rfl ?_
                obtain ⟨r70, h71, hm⟩ := bindS hm
                refine SJ.call1 (k := 1) rfl Try.call43 rfl (fun w S hw hA hO => ok_s_l00Src_pick h71 w S _ (hr4.st1 hw hO) hA) rfl ?_
                rintro _ _ ⟨rfl, rfl⟩
                obtain ⟨c72, h73, hm⟩ := bindS hm
                refine SJ.q (YldS.yld (y_idxStr Try.runUnderlying9 rfl rfl h73)) rfl ?_
                refine SJ.buildSlice (R := fByte) (os := [.tmp 37]) [c72] Try.runUnderlying22 Try.sizeOf5 Try.zeroValue5 rfl rfl rfl rfl rfl rfl fun v74 => ?_
                obtain ⟨l75, h76, hm⟩ := bindS hm
                refine SJ.append (k := 2) (R := fByte) h76 rfl Try.underlying22 el5 rfl rfl rfl (fun w hw => (hw.row_rd (k := 0) rfl)) rfl fun v77 => ?_
                refine SJ.q (YldS.yld (y_assign rfl)) rfl ?_
                refine SJ.nil ?_
                refine PJ.next ?_
                refine WJ.reg ?_
                refine SJ.q (YldS.yld (y_move rfl)) rfl ?_
                refine SJ.q (YldS.yld (y_move rfl)) rfl ?_
                refine SJ.q (YldS.yld (y_move rfl)) rfl ?_
                obtain ⟨l78, h79, hm⟩ := bindS hm
                refine SJ.q (YldS.yld (y_slcX (i := some r32.1) (j := none) (k := 3) h79 rfl Try.runUnderlying22 Try.sizeOf5 rfl ⟨_, rfl⟩ trivial)) rfl ?_
                obtain ⟨l80, h81, hm⟩ := bindS hm
                refine SJ.append (k := 2) (R := fByte) h81 rfl Try.underlying22 el5 rfl rfl rfl (fun w hw => (hw.slcX_rd (k := 3) (i := some r32.1) (j := none) rfl h79)) rfl fun v82 => ?_
                refine SJ.q (YldS.yld (y_assign rfl)) rfl ?_
                refine SJ.nil ?_
                refine PJ.block_normal (PJ.block_normal ?_)
                refine PJ.mixR 2 rfl ?_
                exact PJ.joined (r70.2.at_, r70.2.seed, l80, v82) [1, 2] hm ⟨rfl, rfl, rfl, trivial⟩ ⟨by decide, rfl⟩
        · rintro ⟨x26, x27, l28, v29⟩ hm
          subst hk31
          refine WJ.quiet ?_
          refine QJ.step (YldS.yld (y_move rfl)) rfl ?_
          refine QJ.step (YldS.yld (y_bin rfl rfl rfl)) rfl ?_
          refine QJ.step (YldS.yld (y_assign rfl)) rfl ?_
          refine QJ.done ?_
          exact PJ.round (x26, x27, l28, v29, w64 (k21 - 1)) [0, 1] hm ⟨rfl, rfl, rfl, trivial⟩ ⟨by decide, rfl⟩
      · replace hm := ifF hm hb25
        refine WJ.exit ?_
        refine PJ.then_exit (PJ.then_exit (PJ.block_exit ?_))
        exact PJ.joined (x17, x18, l19, v20) [0, 1] hm ⟨rfl, trivial⟩ ⟨by decide, rfl⟩
  · rintro ⟨x9, x10, l11, v12⟩ hm
    subst hk14
    refine WJ.seq ?_
    refine WJ.quiet ?_
    refine QJ.step (YldS.yld (y_move rfl)) rfl ?_
    refine QJ.step (YldS.yld (y_b2s Try.underlying22 Try.underlying9 Try.underlying5 (fun w hw => ⟨_, (hw.rowX_rd (k := 1) rfl)⟩) rfl)) rfl ?_
    refine QJ.step (YldS.yld (y_assign rfl)) rfl ?_
    refine QJ.done ?_
    refine PJ.next ?_
    refine WJ.ret ?_
    obtain rfl := Option.some.inj hm
    refine PJ.sel (L' := [box g2 96 [v3, .int .i64 x9, .int .u64 x10]]) [0] ⟨by decide, rfl⟩ ?_
    exact PJ.retn (vs := [str l11]) Try.results48 ⟨rfl, trivial⟩ ⟨rfl, rfl⟩

set_option maxRecDepth 100000 in
set_option maxHeartbeats 1000000 in
theorem ok_s_A2Typed {N : Nat} {code1 : List UInt8} {r : Str × Str} (hm : s_A2Typed N code1 = some r) (w : World) (v2 : Value) (hr3 : RdS w (cx w).Fz v2 fByte.rp code1) :
    Calls Try.prog 15 #[v2] w (Ret (cx w) (tup [str r.1, str r.2])) := by
  unfold s_A2Typed at hm
  refine Calls.enter [v2] Try.func15 rfl Try.ntmps15 rfl ?_
  refine WJ.seq ?_
  refine WJ.quiet ?_
  refine QJ.step (YldS.yld (y_assign rfl)) rfl ?_
  refine QJ.step (YldS.yld (y_assign rfl)) rfl ?_
  refine QJ.done ?_
  refine PJ.next ?_
  refine WJ.seq ?_
  refine WJ.reg ?_
  refine SJ.q (YldS.yld (y_move rfl)) rfl ?_
  obtain ⟨r4, h5, hm⟩ := bindS hm
  refine SJ.call Try.call42 rfl (fun w hw => ok_s_l00From h5 w _ (hr3.st hw)) rfl ?_
  rintro _ _ ⟨g6, rfl, rfl⟩
  refine SJ.q (YldS.yld (y_assign rfl)) rfl ?_
  refine SJ.nil ?_
  refine PJ.next ?_
  refine WJ.seq ?_
  refine WJ.reg ?_
  refine SJ.q (YldS.yld (y_move rfl)) rfl ?_
  obtain ⟨r7, h8, hm⟩ := bindS hm
  refine SJ.call1 (k := 0) rfl Try.call47 rfl (fun w S hw hA hO => ok_s_l19Draw h8 w S _ (hr3.st1 hw hO) hA) rfl ?_
  rintro _ _ ⟨rfl, rfl⟩
  refine SJ.q (YldS.yld (y_assign rfl)) rfl ?_
  refine SJ.nil ?_
  refine PJ.next ?_
  refine WJ.seq ?_
  refine WJ.reg ?_
  refine SJ.q (YldS.yld (y_move rfl)) rfl ?_
  refine SJ.q (YldS.yld (y_move rfl)) rfl ?_
  refine SJ.q (YldS.yld (y_move rfl)) rfl ?_
  obtain ⟨r9, h10, hm⟩ := bindS hm
  refine SJ.call1 (k := 0) rfl Try.call48 rfl (fun w S hw hA hO => ok_s_l19Near h10 w S _ (hr3.st1 hw hO) hA) rfl ?_
  rintro _ _ ⟨rfl, rfl⟩
  refine SJ.q (YldS.yld (y_assign rfl)) rfl ?_
  refine SJ.q (YldS.yld (y_assign rfl)) rfl ?_
  refine SJ.nil ?_
  refine PJ.next ?_
  refine WJ.ret ?_
  obtain rfl := Option.some.inj hm
  refine PJ.sel (L' := []) [] ⟨List.nodup_nil, rfl⟩ ?_
  exact PJ.retn (vs := [str r7.1, str r9.1]) Try.results15 ⟨rfl, rfl, trivial⟩ ⟨rfl, rfl⟩

set_option maxRecDepth 100000 in
set_option maxHeartbeats 1000000 in
theorem ok_s_l00Text {N : Nat} {s1 : Str} {most2 : Int} {r : Bool} (hm : s_l00Text N s1 most2 = some r) (w : World)  :
    Calls Try.prog 92 #[str s1, .int .i64 most2] w (Ret (cx w) (.bool r)) := by
  unfold s_l00Text at hm
  refine Calls.enter [str s1, .int .i64 most2] Try.func92 rfl Try.ntmps92 rfl ?_
  refine WJ.seq ?_
  refine WJ.quiet ?_
  refine QJ.step (YldS.yld (y_assign rfl)) rfl ?_
  refine QJ.done ?_
  refine PJ.next ?_
  obtain ⟨kj3, hk4, hm⟩ := withK_open hm
  refine WJ.join (X := Unit) (fun (_ : Unit) => kj3  = some r) (fun (_ : Unit) => [(0, str s1), (1, .int .i64 most2)]) (fun (_ : Unit) => []) ?_ ?_
  · clear hk4
    refine WJ.seq ?_
    refine WJ.quiet ?_
    refine QJ.step (YldS.yld (y_assign rfl)) rfl ?_
    refine QJ.done ?_
    refine PJ.next ?_
    refine WJ.block ?_
    refine WJ.sel (L' := (fun (x : Int) => []) 0) [] ⟨List.nodup_nil, rfl⟩ ?_
    refine WJ.sub (m' := (fun (x : Int) => [(0, str s1), (1, .int .i64 most2), (5, .int .i64 x)]) 0) ⟨rfl, rfl, rfl, trivial⟩ ?_
    refine WJ.loop (X := Int) (fun N (x : Int) => s_l00Text_l1 kj3 s1 N x = some r) (fun (x : Int) => [(0, str s1), (1, .int .i64 most2), (5, .int .i64 x)]) (fun (x : Int) => []) ?_ N 0 hm
    · rintro N i5 hI
      have hm := hI; clear hI
      cases N with
      | zero => cases hm
      | succ N =>
      unfold s_l00Text_l1 at hm
      refine WJ.seq ?_
      refine WJ.seq ?_
      refine WJ.quiet ?_
      refine QJ.step (YldS.yld (y_move rfl)) rfl ?_
      refine QJ.step (YldS.yld (y_move rfl)) rfl ?_
      refine QJ.step (YldS.yld (y_lenStr Try.runUnderlying9 rfl)) rfl ?_
      refine QJ.step (YldS.yld (y_bin rfl rfl rfl)) rfl ?_
      refine QJ.done ?_
      refine PJ.next ?_
      refine WJ.cond (t := decide (i5 < (List.length s1 : Int))) rfl (fun hb6 => ?_) (fun hb6 => ?_)
      · replace hm := ifT hm hb6
        refine WJ.skip ?_
        refine PJ.next ?_
        refine WJ.seq ?_
        refine WJ.block ?_
        refine WJ.seq ?_
        refine WJ.quiet ?_
        refine QJ.step (YldS.yld (y_move rfl)) rfl ?_
        refine QJ.step (YldS.yld (y_move rfl)) rfl ?_
        obtain ⟨c7, h8, hm⟩ := bindS hm
        refine QJ.step (YldS.yld (y_idxStr Try.runUnderlying9 rfl rfl h8)) rfl ?_
        refine QJ.step (YldS.yld (y_bin8 c7 (32 : UInt8) rfl rfl rfl)) rfl ?_
        refine QJ.step (YldS.yld (y_move rfl)) rfl ?_
        obtain ⟨t9, h10, hm⟩ := bindS hm
        refine QJ.cut 5 [(0, str s1), (1, .int .i64 most2), (5, .int .i64 i5), (21, .bool t9)] ?_ ?_
        · rcases Bool.eq_false_or_eq_true (decide (c7 < (32 : UInt8))) with hb11 | hb11
          · obtain rfl := orT h10 hb11
            refine QJ.off rfl rfl (cB hb11) rfl rfl ?_
            refine QJ.off rfl rfl (cB hb11) rfl rfl ?_
            refine QJ.off rfl rfl (cB hb11) rfl rfl ?_
            refine QJ.off rfl rfl (cB hb11) rfl rfl ?_
            refine QJ.step (YldS.yld (y_pick_t (cB hb11) rfl)) rfl ?_
            exact QJ.cut_end ⟨rfl, rfl, rfl, rfl, trivial⟩
          · replace h10 := orF h10 hb11
            refine QJ.on rfl rfl (cB hb11) (YldS.yld (y_move rfl)) rfl ?_
            refine QJ.on rfl rfl (cB hb11) (YldS.yld (y_move rfl)) rfl ?_
            obtain ⟨c12, h13, h10⟩ := bindS h10
            refine QJ.on rfl rfl (cB hb11) (YldS.yld (y_idxStr Try.runUnderlying9 rfl rfl h13)) rfl ?_
            refine QJ.on rfl rfl (cB hb11) (YldS.yld (y_bin8 c12 (126 : UInt8) rfl rfl rfl)) rfl ?_
            refine QJ.step (YldS.yld (y_pick_f (cB hb11) rfl)) rfl ?_
            obtain rfl := Option.some.inj h10
            exact QJ.cut_end ⟨rfl, rfl, rfl, rfl, trivial⟩
        refine QJ.done ?_
        refine PJ.next ?_
        refine WJ.cond (t := t9) rfl (fun hb14 => ?_) (fun hb14 => ?_)
        · replace hm := ifT hm hb14
          refine WJ.seq ?_
          refine WJ.quiet ?_
          refine QJ.step (YldS.yld (y_assign rfl)) rfl ?_
          refine QJ.done ?_
          refine PJ.next ?_
          refine WJ.ret ?_
          refine PJ.block_ret (PJ.then_ret (PJ.then_ret (PJ.block_ret (PJ.then_ret ?_))))
          obtain rfl := Option.some.inj hm
          refine PJ.sel (L' := []) [] ⟨List.nodup_nil, rfl⟩ ?_
          exact PJ.retn (vs := [.bool false]) Try.results92 ⟨rfl, trivial⟩ ⟨rfl, rfl⟩
        · replace hm := ifF hm hb14
          refine WJ.skip ?_
          refine PJ.block_normal (PJ.next ?_)
          refine WJ.quiet ?_
          refine QJ.step (YldS.yld (y_move rfl)) rfl ?_
          refine QJ.step (YldS.yld (y_bin rfl rfl rfl)) rfl ?_
          refine QJ.step (YldS.yld (y_assign rfl)) rfl ?_
          refine QJ.done ?_
          exact PJ.round (w64 (i5 + 1)) [] hm ⟨rfl, rfl, rfl, trivial⟩ ⟨List.nodup_nil, rfl⟩
      · replace hm := ifF hm hb6
        refine WJ.exit ?_
        refine PJ.then_exit (PJ.then_exit (PJ.block_exit ?_))
        exact PJ.joined () [] hm ⟨rfl, rfl, trivial⟩ ⟨List.nodup_nil, rfl⟩
  · rintro _ hm
    subst hk4
    refine WJ.seq ?_
    refine WJ.quiet ?_
    refine QJ.step (YldS.yld (y_move rfl)) rfl ?_
    refine QJ.step (YldS.yld (y_lenStr Try.runUnderlying9 rfl)) rfl ?_
    refine QJ.step (YldS.yld (y_move rfl)) rfl ?_
    refine QJ.step (YldS.yld (y_bin rfl rfl rfl)) rfl ?_
    refine QJ.step (YldS.yld (y_assign rfl)) rfl ?_
    refine QJ.done ?_
    refine PJ.next ?_
    refine WJ.ret ?_
    obtain rfl := Option.some.inj hm
    refine PJ.sel (L' := []) [] ⟨List.nodup_nil, rfl⟩ ?_
    exact PJ.retn (vs := [.bool (decide ((List.length s1 : Int) ≤ most2))]) Try.results92 ⟨rfl, trivial⟩ ⟨rfl, rfl⟩

set_option maxRecDepth 100000 in
set_option maxHeartbeats 1000000 in
theorem ok_s_l19Text {N : Nat} {s1 : Str} {r : Bool} (hm : s_l19Text N s1 = some r) (w : World)  :
    Calls Try.prog 74 #[str s1] w (Ret (cx w) (.bool r)) := by
  unfold s_l19Text at hm
  refine Calls.enter [str s1] Try.func74 rfl Try.ntmps74 rfl ?_
  refine WJ.seq ?_
  refine WJ.quiet ?_
  refine QJ.step (YldS.yld (y_assign rfl)) rfl ?_
  refine QJ.done ?_
  refine PJ.next ?_
  refine WJ.seq ?_
  refine WJ.quiet ?_
  refine QJ.step (YldS.yld (y_move rfl)) rfl ?_
  obtain ⟨r2, h3, hm⟩ := bindS hm
  refine QJ.step (y_call Try.call92 rfl (RetG.quiet fun w hw => ok_s_l00Text h3 w )) rfl ?_
  refine QJ.step (YldS.yld (y_assign rfl)) rfl ?_
  refine QJ.done ?_
  refine PJ.next ?_
  refine WJ.ret ?_
  obtain rfl := Option.some.inj hm
  refine PJ.sel (L' := []) [] ⟨List.nodup_nil, rfl⟩ ?_
  exact PJ.retn (vs := [.bool r2]) Try.results74 ⟨rfl, trivial⟩ ⟨rfl, rfl⟩

set_option maxRecDepth 100000 in
set_option maxHeartbeats 1000000 in
theorem ok_s_l19Two {N : Nat} {want1 : Str} {typed2 : Str} {r : Int} (hm : s_l19Two N want1 typed2 = some r) (w : World)  :
    Calls Try.prog 49 #[str want1, str typed2] w (Ret (cx w) (.int .i64 r)) := by
  unfold s_l19Two at hm
  refine Calls.enter [str want1, str typed2] Try.func49 rfl Try.ntmps49 rfl ?_
  refine WJ.seq ?_
  refine WJ.quiet ?_
  refine QJ.step (YldS.yld (y_assign rfl)) rfl ?_
  refine QJ.done ?_
  refine PJ.next ?_
  refine WJ.seq ?_
  refine WJ.seq ?_
  refine WJ.quiet ?_
  refine QJ.step (YldS.yld (y_move rfl)) rfl ?_
  obtain ⟨r3, h4, hm⟩ := bindS hm
  refine QJ.step (y_call Try.call74 rfl (RetG.quiet fun w hw => ok_s_l19Text h4 w )) rfl ?_
  refine QJ.step (YldS.yld (y_not rfl)) rfl ?_
  refine QJ.step (YldS.yld (y_move rfl)) rfl ?_
  obtain ⟨t5, h6, hm⟩ := bindS hm
  refine QJ.cut 4 [(12, .bool t5)] ?_ ?_
  · rcases Bool.eq_false_or_eq_true (!r3) with hb7 | hb7
    · obtain rfl := orT h6 hb7
      refine QJ.off rfl rfl (cB hb7) rfl rfl ?_
      refine QJ.off rfl rfl (cB hb7) rfl rfl ?_
      refine QJ.off rfl rfl (cB hb7) rfl rfl ?_
      refine QJ.step (YldS.yld (y_pick_t (cB hb7) rfl)) rfl ?_
      exact QJ.cut_end ⟨rfl, trivial⟩
    · replace h6 := orF h6 hb7
      refine QJ.on rfl rfl (cB hb7) (YldS.yld (y_move rfl)) rfl ?_
      obtain ⟨r8, h9, h6⟩ := bindS h6
      refine QJ.on rfl rfl (cB hb7) (y_call Try.call74 rfl (RetG.quiet fun w hw => ok_s_l19Text h9 w )) rfl ?_
      refine QJ.on rfl rfl (cB hb7) (YldS.yld (y_not rfl)) rfl ?_
      refine QJ.step (YldS.yld (y_pick_f (cB hb7) rfl)) rfl ?_
      obtain rfl := Option.some.inj h6
      exact QJ.cut_end ⟨rfl, trivial⟩
  refine QJ.done ?_
  refine PJ.next ?_
  refine WJ.cond (t := t5) rfl (fun hb10 => ?_) (fun hb10 => ?_)
  · replace hm := ifT hm hb10
    refine WJ.seq ?_
    refine WJ.quiet ?_
    refine QJ.step (YldS.yld (y_assign rfl)) rfl ?_
    refine QJ.done ?_
    refine PJ.next ?_
    refine WJ.ret ?_
    refine PJ.then_ret ?_
    obtain rfl := Option.some.inj hm
    refine PJ.sel (L' := []) [] ⟨List.nodup_nil, rfl⟩ ?_
    exact PJ.retn (vs := [.int .i64 2]) Try.results49 ⟨rfl, trivial⟩ ⟨rfl, rfl⟩
  · replace hm := ifF hm hb10
    refine WJ.skip ?_
    refine PJ.next ?_
    refine WJ.seq ?_
    refine WJ.quiet ?_
    refine QJ.step (YldS.yld (y_assign rfl)) rfl ?_
    refine QJ.done ?_
    refine PJ.next ?_
    refine WJ.ret ?_
    obtain rfl := Option.some.inj hm
    refine PJ.sel (L' := []) [] ⟨List.nodup_nil, rfl⟩ ?_
    exact PJ.retn (vs := [.int .i64 0]) Try.results49 ⟨rfl, trivial⟩ ⟨rfl, rfl⟩

set_option maxRecDepth 100000 in
set_option maxHeartbeats 1000000 in
theorem ok_s_l00Min {a1 : Int} {b2 : Int} {r : Int} (hm : s_l00Min a1 b2 = some r) (w : World)  :
    Calls Try.prog 93 #[.int .i64 a1, .int .i64 b2] w (Ret (cx w) (.int .i64 r)) := by
  unfold s_l00Min at hm
  refine Calls.enter [.int .i64 a1, .int .i64 b2] Try.func93 rfl Try.ntmps93 rfl ?_
  refine WJ.seq ?_
  refine WJ.quiet ?_
  refine QJ.step (YldS.yld (y_assign rfl)) rfl ?_
  refine QJ.done ?_
  refine PJ.next ?_
  refine WJ.seq ?_
  refine WJ.seq ?_
  refine WJ.quiet ?_
  refine QJ.step (YldS.yld (y_move rfl)) rfl ?_
  refine QJ.step (YldS.yld (y_move rfl)) rfl ?_
  refine QJ.step (YldS.yld (y_bin rfl rfl rfl)) rfl ?_
  refine QJ.done ?_
  refine PJ.next ?_
  refine WJ.cond (t := decide (a1 < b2)) rfl (fun hb3 => ?_) (fun hb3 => ?_)
  · replace hm := ifT hm hb3
    refine WJ.seq ?_
    refine WJ.quiet ?_
    refine QJ.step (YldS.yld (y_move rfl)) rfl ?_
    refine QJ.step (YldS.yld (y_assign rfl)) rfl ?_
    refine QJ.done ?_
    refine PJ.next ?_
    refine WJ.ret ?_
    refine PJ.then_ret ?_
    obtain rfl := Option.some.inj hm
    refine PJ.sel (L' := []) [] ⟨List.nodup_nil, rfl⟩ ?_
    exact PJ.retn (vs := [.int .i64 a1]) Try.results93 ⟨rfl, trivial⟩ ⟨rfl, rfl⟩
  · replace hm := ifF hm hb3
    refine WJ.skip ?_
    refine PJ.next ?_
    refine WJ.seq ?_
    refine WJ.quiet ?_
    refine QJ.step (YldS.yld (y_move rfl)) rfl ?_
    refine QJ.step (YldS.yld (y_assign rfl)) rfl ?_
    refine QJ.done ?_
    refine PJ.next ?_
    refine WJ.ret ?_
    obtain rfl := Option.some.inj hm
    refine PJ.sel (L' := []) [] ⟨List.nodup_nil, rfl⟩ ?_
    exact PJ.retn (vs := [.int .i64 b2]) Try.results93 ⟨rfl, trivial⟩ ⟨rfl, rfl⟩

set_option maxRecDepth 100000 in
set_option maxHeartbeats 1000000 in
theorem ok_s_l19Swap {a1 : Str} {b2 : Str} {r : Bool} (hm : s_l19Swap a1 b2 = some r) (w : World)  :
    Calls Try.prog 94 #[str a1, str b2] w (Ret (cx w) (.bool r)) := by
  unfold s_l19Swap at hm
  refine Calls.enter [str a1, str b2] Try.func94 rfl Try.ntmps94 rfl ?_
  refine WJ.seq ?_
  refine WJ.quiet ?_
  refine QJ.step (YldS.yld (y_assign rfl)) rfl ?_
  refine QJ.done ?_
  refine PJ.next ?_
  refine WJ.seq ?_
  refine WJ.quiet_draw follows (by kernel_rfl) ?_
  refine QJ.step (YldS.yld (y_move rfl)) rfl ?_
  refine QJ.step (YldS.yld (y_lenStr Try.runUnderlying9 rfl)) rfl ?_
  refine QJ.step (YldS.yld (y_bin rfl rfl rfl)) rfl ?_
  refine QJ.step (YldS.yld (y_move rfl)) rfl ?_
  obtain ⟨t3, h4, hm⟩ := bindS hm
  refine QJ.cut 4 [(0, str a1), (1, str b2), (12, .bool t3)] ?_ ?_
  · rcases Bool.eq_false_or_eq_true (decide ((List.length a1 : Int) ≥ 2)) with hb5 | hb5
    · replace h4 := andT h4 hb5
      refine QJ.on rfl rfl (cB hb5) (YldS.yld (y_move rfl)) rfl ?_
      refine QJ.on rfl rfl (cB hb5) (YldS.yld (y_lenStr Try.runUnderlying9 rfl)) rfl ?_
      refine QJ.on rfl rfl (cB hb5) (YldS.yld (y_bin rfl rfl rfl)) rfl ?_
      refine QJ.step (YldS.yld (y_pick_t (cB hb5) rfl)) rfl ?_
      obtain rfl := Option.some.inj h4
      exact QJ.cut_end ⟨rfl, rfl, rfl, trivial⟩
    · obtain rfl := andF h4 hb5
      refine QJ.off rfl rfl (cB hb5) rfl rfl ?_
      refine QJ.off rfl rfl (cB hb5) rfl rfl ?_
      refine QJ.off rfl rfl (cB hb5) rfl rfl ?_
      refine QJ.step (YldS.yld (y_pick_f (cB hb5) rfl)) rfl ?_
      exact QJ.cut_end ⟨rfl, rfl, rfl, trivial⟩
  refine QJ.step (YldS.yld (y_move rfl)) rfl ?_
  obtain ⟨t6, h7, hm⟩ := bindS hm
  refine QJ.cut 6 [(0, str a1), (1, str b2), (19, .bool t6)] ?_ ?_
  · rcases Bool.eq_false_or_eq_true t3 with hb8 | hb8
    · replace h7 := andT h7 hb8
      refine QJ.on rfl rfl (cB hb8) (YldS.yld (y_move rfl)) rfl ?_
      obtain ⟨c9, h10, h7⟩ := bindS h7
      refine QJ.on rfl rfl (cB hb8) (YldS.yld (y_idxStr Try.runUnderlying9 rfl rfl h10)) rfl ?_
      refine QJ.on rfl rfl (cB hb8) (YldS.yld (y_move rfl)) rfl ?_
      obtain ⟨c11, h12, h7⟩ := bindS h7
      refine QJ.on rfl rfl (cB hb8) (YldS.yld (y_idxStr Try.runUnderlying9 rfl rfl h12)) rfl ?_
      refine QJ.on rfl rfl (cB hb8) (YldS.yld (y_bin8 c9 c11 rfl rfl rfl)) rfl ?_
      refine QJ.step (YldS.yld (y_pick_t (cB hb8) rfl)) rfl ?_
      obtain rfl := Option.some.inj h7
      exact QJ.cut_end ⟨rfl, rfl, rfl, trivial⟩
    · obtain rfl := andF h7 hb8
      refine QJ.off rfl rfl (cB hb8) rfl rfl ?_
      refine QJ.off rfl rfl (cB hb8) rfl rfl ?_
      refine QJ.off rfl rfl (cB hb8) rfl rfl ?_
      refine QJ.off rfl rfl (cB hb8) rfl rfl ?_
      refine QJ.off rfl rfl (cB hb8) rfl rfl ?_
      refine QJ.step (YldS.yld (y_pick_f (cB hb8) rfl)) rfl ?_
      exact QJ.cut_end ⟨rfl, rfl, rfl, trivial⟩
  refine QJ.step (YldS.yld (y_move rfl)) rfl ?_
  obtain ⟨t13, h14, hm⟩ := bindS hm
  refine QJ.cut 6 [(0, str a1), (1, str b2), (26, .bool t13)] ?_ ?_
  · rcases Bool.eq_false_or_eq_true t6 with hb15 | hb15
    · replace h14 := andT h14 hb15
      refine QJ.on rfl rfl (cB hb15) (YldS.yld (y_move rfl)) rfl ?_
      obtain ⟨c16, h17, h14⟩ := bindS h14
      refine QJ.on rfl rfl (cB hb15) (YldS.yld (y_idxStr Try.runUnderlying9 rfl rfl h17)) rfl ?_
      refine QJ.on rfl rfl (cB hb15) (YldS.yld (y_move rfl)) rfl ?_
      obtain ⟨c18, h19, h14⟩ := bindS h14
      refine QJ.on rfl rfl (cB hb15) (YldS.yld (y_idxStr Try.runUnderlying9 rfl rfl h19)) rfl ?_
      refine QJ.on rfl rfl (cB hb15) (YldS.yld (y_bin8 c16 c18 rfl rfl rfl)) rfl ?_
      refine QJ.step (YldS.yld (y_pick_t (cB hb15) rfl)) rfl ?_
      obtain rfl := Option.some.inj h14
      exact QJ.cut_end ⟨rfl, rfl, rfl, trivial⟩
    · obtain rfl := andF h14 hb15
      refine QJ.off rfl rfl (cB hb15) rfl rfl ?_
      refine QJ.off rfl rfl (cB hb15) rfl rfl ?_
      refine QJ.off rfl rfl (cB hb15) rfl rfl ?_
      refine QJ.off rfl rfl (cB hb15) rfl rfl ?_
      refine QJ.off rfl rfl (cB hb15) rfl rfl ?_
      refine QJ.step (YldS.yld (y_pick_f (cB hb15) rfl)) rfl ?_
      exact QJ.cut_end ⟨rfl, rfl, rfl, trivial⟩
  refine QJ.step (YldS.yld (y_move rfl)) rfl ?_
  obtain ⟨t20, h21, hm⟩ := bindS hm
  refine QJ.cut 6 [(33, .bool t20)] ?_ ?_
  · rcases Bool.eq_false_or_eq_true t13 with hb22 | hb22
    · replace h21 := andT h21 hb22
      refine QJ.on rfl rfl (cB hb22) (YldS.yld (y_move rfl)) rfl ?_
      obtain ⟨c23, h24, h21⟩ := bindS h21
      refine QJ.on rfl rfl (cB hb22) (YldS.yld (y_idxStr Try.runUnderlying9 rfl rfl h24)) rfl ?_
      refine QJ.on rfl rfl (cB hb22) (YldS.yld (y_move rfl)) rfl ?_
      obtain ⟨c25, h26, h21⟩ := bindS h21
      refine QJ.on rfl rfl (cB hb22) (YldS.yld (y_idxStr Try.runUnderlying9 rfl rfl h26)) rfl ?_
      refine QJ.on rfl rfl (cB hb22) (YldS.yld (y_bin8 c23 c25 rfl rfl rfl)) rfl ?_
      refine QJ.step (YldS.yld (y_pick_t (cB hb22) rfl)) rfl ?_
      obtain rfl := Option.some.inj h21
      exact QJ.cut_end ⟨rfl, trivial⟩
    · obtain rfl := andF h21 hb22
      refine QJ.off rfl rfl (cB hb22) rfl rfl ?_
      refine QJ.off rfl rfl (cB hb22) rfl rfl ?_
      refine QJ.off rfl rfl (cB hb22) rfl rfl ?_
      refine QJ.off rfl rfl (cB hb22) rfl rfl ?_
      refine QJ.off rfl rfl (cB hb22) rfl rfl ?_
      refine QJ.step (YldS.yld (y_pick_f (cB hb22) rfl)) rfl ?_
      exact QJ.cut_end ⟨rfl, trivial⟩
  refine QJ.step (YldS.yld (y_assign rfl)) rfl ?_
  refine QJ.done ?_
  refine PJ.next ?_
  refine WJ.ret ?_
  obtain rfl := Option.some.inj hm
  refine PJ.sel (L' := []) [] ⟨List.nodup_nil, rfl⟩ ?_
  exact PJ.retn (vs := [.bool t20]) Try.results94 ⟨rfl, trivial⟩ ⟨rfl, rfl⟩

set_option maxRecDepth 100000 in
set_option maxHeartbeats 1000000 in
theorem ok_s_l19Costs {N : Nat} {want1 : Str} {typed2 : Str} {r : (List (List Int))} (hm : s_l19Costs N want1 typed2 = some r) (w : World)  :
    Calls Try.prog 75 #[str want1, str typed2] w (RetG (cx w) fun u L => ∃ (u1 : Value) (u2 : List (Raw 1)), (u = u1 ∧ L = [row u1 24 fRaw1 u2, inn (rSl fI64.rp) u2 r])) := by
  unfold s_l19Costs at hm
  refine Calls.enter [str want1, str typed2] Try.func75 rfl Try.ntmps75 rfl ?_
  refine WJ.seq ?_
  refine WJ.quiet ?_
  refine QJ.step (YldS.yld (y_assign rfl)) rfl ?_
  refine QJ.done ?_
  refine PJ.next ?_
  refine WJ.seq ?_
  refine WJ.quiet ?_
  refine QJ.step (YldS.yld (y_move rfl)) rfl ?_
  refine QJ.step (YldS.yld (y_lenStr Try.runUnderlying9 rfl)) rfl ?_
  refine QJ.step (YldS.yld (y_assign rfl)) rfl ?_
  refine QJ.done ?_
  refine PJ.next ?_
  refine WJ.seq ?_
  refine WJ.quiet ?_
  refine QJ.step (YldS.yld (y_move rfl)) rfl ?_
  refine QJ.step (YldS.yld (y_lenStr Try.runUnderlying9 rfl)) rfl ?_
  refine QJ.step (YldS.yld (y_assign rfl)) rfl ?_
  refine QJ.done ?_
  refine PJ.next ?_
  refine WJ.seq ?_
  refine WJ.reg ?_
  refine SJ.q (YldS.yld (y_move rfl)) rfl ?_
  refine SJ.q (YldS.yld (y_bin rfl rfl rfl)) rfl ?_
  obtain ⟨l3, h4, hm⟩ := bindS hm
  refine SJ.makeSlice (R := fRaw1) (z := rawNil) (mk_raw h4) Try.underlying98 el24 rfl rfl rfl fun v5 => ?_
  refine SJ.inm_make 2 fI64 h4 ?_
  refine SJ.q (YldS.yld (y_assign rfl)) rfl ?_
  refine SJ.nil ?_
  refine PJ.next ?_
  obtain ⟨kj8, hk9, hm⟩ := withK_open hm
  refine WJ.join (X := (List (List Int)) × (List (Raw 1))) (fun (x : (List (List Int)) × (List (Raw 1))) => kj8 x.1 = some r) (fun (x : (List (List Int)) × (List (Raw 1))) => [(7, v5)]) (fun (x : (List (List Int)) × (List (Raw 1))) => [inm 2 fI64 x.2 x.1, row v5 24 fRaw1 x.2]) ?_ ?_
  · clear hk9
    refine WJ.seq ?_
    refine WJ.quiet ?_
    refine QJ.step (YldS.yld (y_move rfl)) rfl ?_
    refine QJ.step (YldS.yld (y_assign rfl)) rfl ?_
    refine QJ.done ?_
    refine PJ.next ?_
    refine WJ.block ?_
    refine WJ.sel (L' := (fun (x : (List (List Int)) × (List (Raw 1)) × Int) => [inm 2 fI64 x.2.1 x.1, row v5 24 fRaw1 x.2.1]) (l3, (List.replicate (List.length l3) rawNil), (List.length want1 : Int))) [0, 1] ⟨by decide, rfl⟩ ?_
    refine WJ.sub (m' := (fun (x : (List (List Int)) × (List (Raw 1)) × Int) => [(0, str want1), (1, str typed2), (5, .int .i64 (List.length want1 : Int)), (6, .int .i64 (List.length typed2 : Int)), (7, v5), (8, .int .i64 x.2.2)]) (l3, (List.replicate (List.length l3) rawNil), (List.length want1 : Int))) ⟨rfl, rfl, rfl, rfl, rfl, rfl, trivial⟩ ?_
    refine WJ.loop (X := (List (List Int)) × (List (Raw 1)) × Int) (fun N (x : (List (List Int)) × (List (Raw 1)) × Int) => s_l19Costs_l1 kj8 want1 typed2 N x.1 x.2.2 = some r) (fun (x : (List (List Int)) × (List (Raw 1)) × Int) => [(0, str want1), (1, str typed2), (5, .int .i64 (List.length want1 : Int)), (6, .int .i64 (List.length typed2 : Int)), (7, v5), (8, .int .i64 x.2.2)]) (fun (x : (List (List Int)) × (List (Raw 1)) × Int) => [inm 2 fI64 x.2.1 x.1, row v5 24 fRaw1 x.2.1]) ?_ N (l3, (List.replicate (List.length l3) rawNil), (List.length want1 : Int)) hm
    · rintro N ⟨l10, vs11, i12⟩ hI
      have hm := hI; clear hI
      cases N with
      | zero => cases hm
      | succ N =>
      unfold s_l19Costs_l1 at hm
      refine WJ.seq ?_
      refine WJ.seq ?_
      refine WJ.quiet ?_
      refine QJ.step (YldS.yld (y_move rfl)) rfl ?_
      refine QJ.step (YldS.yld (y_bin rfl rfl rfl)) rfl ?_
      refine QJ.done ?_
      refine PJ.next ?_
      refine WJ.cond (t := decide (i12 ≥ 0)) rfl (fun hb13 => ?_) (fun hb13 => ?_)
      · replace hm := ifT hm hb13
        refine WJ.skip ?_
        refine PJ.next ?_
        obtain ⟨kj16, hk17, hm⟩ := withK_open hm
        refine WJ.join (X := (List (List Int)) × (List (Raw 1))) (fun (x : (List (List Int)) × (List (Raw 1))) => kj16 x.1 = some r) (fun (x : (List (List Int)) × (List (Raw 1))) => [(0, str want1), (1, str typed2), (5, .int .i64 (List.length want1 : Int)), (6, .int .i64 (List.length typed2 : Int)), (7, v5), (8, .int .i64 i12)]) (fun (x : (List (List Int)) × (List (Raw 1))) => [inm 2 fI64 x.2 x.1, row v5 24 fRaw1 x.2]) ?_ ?_
        · clear hk17
          refine WJ.block ?_
          refine WJ.seq ?_
          refine WJ.reg ?_
          refine SJ.q (YldS.yld (y_move rfl)) rfl ?_
          refine SJ.q (YldS.yld (y_bin rfl rfl rfl)) rfl ?_
          obtain ⟨l18, h19, hm⟩ := bindS hm
          refine SJ.makeSlice (R := fI64) (z := 0) h19 Try.underlying24 el2 rfl rfl rfl fun v20 => ?_
          refine SJ.q (YldS.yld (y_assign rfl)) rfl ?_
          refine SJ.nil ?_
          refine PJ.next ?_
          obtain ⟨kj22, hk23, hm⟩ := withK_open hm
          refine WJ.join (X := (List Int)) (fun (x : (List Int)) => kj22 x = some r) (fun (x : (List Int)) => [(0, str want1), (1, str typed2), (5, .int .i64 (List.length want1 : Int)), (6, .int .i64 (List.length typed2 : Int)), (7, v5), (8, .int .i64 i12), (9, v20)]) (fun (x : (List Int)) => [row v20 2 fI64 x, inm 2 fI64 vs11 l10, row v5 24 fRaw1 vs11]) ?_ ?_
          · clear hk23
            refine WJ.seq ?_
            refine WJ.quiet ?_
            refine QJ.step (YldS.yld (y_move rfl)) rfl ?_
            refine QJ.step (YldS.yld (y_assign rfl)) rfl ?_
            refine QJ.done ?_
            refine PJ.next ?_
            refine WJ.block ?_
            refine WJ.sel (L' := (fun (x : (List Int) × Int) => [row v20 2 fI64 x.1, inm 2 fI64 vs11 l10, row v5 24 fRaw1 vs11]) (l18, (List.length typed2 : Int))) [0, 1, 2] ⟨by decide, rfl⟩ ?_
            refine WJ.sub (m' := (fun (x : (List Int) × Int) => [(0, str want1), (1, str typed2), (5, .int .i64 (List.length want1 : Int)), (6, .int .i64 (List.length typed2 : Int)), (7, v5), (8, .int .i64 i12), (9, v20), (10, .int .i64 x.2)]) (l18, (List.length typed2 : Int))) ⟨rfl, rfl, rfl, rfl, rfl, rfl, rfl, rfl, trivial⟩ ?_
            refine WJ.loop (X := (List Int) × Int) (fun N (x : (List Int) × Int) => s_l19Costs_l2 kj22 want1 typed2 l10 i12 N x.1 x.2 = some r) (fun (x : (List Int) × Int) => [(0, str want1), (1, str typed2), (5, .int .i64 (List.length want1 : Int)), (6, .int .i64 (List.length typed2 : Int)), (7, v5), (8, .int .i64 i12), (9, v20), (10, .int .i64 x.2)]) (fun (x : (List Int) × Int) => [row v20 2 fI64 x.1, inm 2 fI64 vs11 l10, row v5 24 fRaw1 vs11]) ?_ N (l18, (List.length typed2 : Int)) hm
            · rintro N ⟨l24, k25⟩ hI
              have hm := hI; clear hI
              cases N with
              | zero => cases hm
              | succ N =>
              unfold s_l19Costs_l2 at hm
              refine WJ.seq ?_
              refine WJ.seq ?_
              refine WJ.quiet ?_
              refine QJ.step (YldS.yld (y_move rfl)) rfl ?_
              refine QJ.step (YldS.yld (y_bin rfl rfl rfl)) rfl ?_
              refine QJ.done ?_
              refine PJ.next ?_
              refine WJ.cond (t := decide (k25 ≥ 0)) rfl (fun hb26 => ?_) (fun hb26 => ?_)
              · replace hm := ifT hm hb26
                refine WJ.skip ?_
                refine PJ.next ?_
                refine WJ.seq ?_
                refine WJ.block ?_
                refine WJ.seq ?_
                refine WJ.quiet ?_
                refine QJ.step (YldS.yld (y_assign rfl)) rfl ?_
                refine QJ.done ?_
                refine PJ.next ?_
                obtain ⟨kj28, hk29, hm⟩ := withK_open hm
                refine WJ.join (X := Int) (fun (x : Int) => kj28 x = some r) (fun (x : Int) => [(0, str want1), (1, str typed2), (5, .int .i64 (List.length want1 : Int)), (6, .int .i64 (List.length typed2 : Int)), (7, v5), (8, .int .i64 i12), (9, v20), (10, .int .i64 k25), (11, .int .i64 x)]) (fun (x : Int) => [row v20 2 fI64 l24, inm 2 fI64 vs11 l10, row v5 24 fRaw1 vs11]) ?_ ?_
                · clear hk29
                  refine WJ.seq ?_
                  refine WJ.quiet ?_
                  refine QJ.step (YldS.yld (y_move rfl)) rfl ?_
                  refine QJ.step (YldS.yld (y_move rfl)) rfl ?_
                  refine QJ.step (YldS.yld (y_bin rfl rfl rfl)) rfl ?_
                  refine QJ.step (YldS.yld (y_move rfl)) rfl ?_
                  obtain ⟨t30, h31, hm⟩ := bindS hm
                  refine QJ.cut 4 [(0, str want1), (1, str typed2), (5, .int .i64 (List.length want1 : Int)), (6, .int .i64 (List.length typed2 : Int)), (7, v5), (8, .int .i64 i12), (9, v20), (10, .int .i64 k25), (11, .int .i64 0), (39, .bool t30)] ?_ ?_
                  · rcases Bool.eq_false_or_eq_true (decide (i12 < (List.length want1 : Int))) with hb32 | hb32
                    · obtain rfl := orT h31 hb32
                      refine QJ.off rfl rfl (cB hb32) rfl rfl ?_
                      refine QJ.off rfl rfl (cB hb32) rfl rfl ?_
                      refine QJ.off rfl rfl (cB hb32) rfl rfl ?_
                      refine QJ.step (YldS.yld (y_pick_t (cB hb32) rfl)) rfl ?_
                      exact QJ.cut_end ⟨rfl, rfl, rfl, rfl, rfl, rfl, rfl, rfl, rfl, rfl, trivial⟩
                    · replace h31 := orF h31 hb32
                      refine QJ.on rfl rfl (cB hb32) (YldS.yld (y_move rfl)) rfl ?_
                      refine QJ.on rfl rfl (cB hb32) (YldS.yld (y_move rfl)) rfl ?_
                      refine QJ.on rfl rfl (cB hb32) (YldS.yld (y_bin rfl rfl rfl)) rfl ?_
                      refine QJ.step (YldS.yld (y_pick_f (cB hb32) rfl)) rfl ?_
                      obtain rfl := Option.some.inj h31
                      exact QJ.cut_end ⟨rfl, rfl, rfl, rfl, rfl, rfl, rfl, rfl, rfl, rfl, trivial⟩
                  refine QJ.done ?_
                  refine PJ.next ?_
                  refine WJ.cond (t := t30) rfl (fun hb33 => ?_) (fun hb33 => ?_)
                  · replace hm := ifT hm hb33
                    refine WJ.quiet ?_
                    refine QJ.step (YldS.yld (y_move rfl)) rfl ?_
                    refine QJ.step (YldS.yld (y_move rfl)) rfl ?_
                    refine QJ.step (YldS.yld (y_bin rfl rfl rfl)) rfl ?_
                    refine QJ.step (YldS.yld (y_assign rfl)) rfl ?_
                    refine QJ.done ?_
                    exact PJ.joined (w64 ((List.length want1 : Int) + (List.length typed2 : Int))) [0, 1, 2] hm ⟨rfl, rfl, rfl, rfl, rfl, rfl, rfl, rfl, rfl, trivial⟩ ⟨by decide, rfl⟩
                  · replace hm := ifF hm hb33
                    refine WJ.skip ?_
                    exact PJ.joined 0 [0, 1, 2] hm ⟨rfl, rfl, rfl, rfl, rfl, rfl, rfl, rfl, rfl, trivial⟩ ⟨by decide, rfl⟩
                · rintro best27 hm
                  subst hk29
                  obtain ⟨kj35, hk36, hm⟩ := withK_open hm
                  refine WJ.join (X := Int) (fun (x : Int) => kj35 x = some r) (fun (x : Int) => [(0, str want1), (1, str typed2), (5, .int .i64 (List.length want1 : Int)), (6, .int .i64 (List.length typed2 : Int)), (7, v5), (8, .int .i64 i12), (9, v20), (10, .int .i64 k25), (11, .int .i64 x)]) (fun (x : Int) => [row v20 2 fI64 l24, inm 2 fI64 vs11 l10, row v5 24 fRaw1 vs11]) ?_ ?_
                  · clear hk36
                    refine WJ.seq ?_
                    refine WJ.quiet_draw follows (by kernel_rfl) ?_
                    refine QJ.step (YldS.yld (y_move rfl)) rfl ?_
                    refine QJ.step (YldS.yld (y_move rfl)) rfl ?_
                    refine QJ.step (YldS.yld (y_bin rfl rfl rfl)) rfl ?_
                    refine QJ.step (YldS.yld (y_move rfl)) rfl ?_
                    obtain ⟨t37, h38, hm⟩ := bindS hm
                    refine QJ.cut 4 [(0, str want1), (1, str typed2), (5, .int .i64 (List.length want1 : Int)), (6, .int .i64 (List.length typed2 : Int)), (7, v5), (8, .int .i64 i12), (9, v20), (10, .int .i64 k25), (11, .int .i64 best27), (50, .bool t37)] ?_ ?_
                    · rcases Bool.eq_false_or_eq_true (decide (i12 < (List.length want1 : Int))) with hb39 | hb39
                      · replace h38 := andT h38 hb39
                        refine QJ.on rfl rfl (cB hb39) (YldS.yld (y_move rfl)) rfl ?_
                        refine QJ.on rfl rfl (cB hb39) (YldS.yld (y_move rfl)) rfl ?_
                        refine QJ.on rfl rfl (cB hb39) (YldS.yld (y_bin rfl rfl rfl)) rfl ?_
                        refine QJ.step (YldS.yld (y_pick_t (cB hb39) rfl)) rfl ?_
                        obtain rfl := Option.some.inj h38
                        exact QJ.cut_end ⟨rfl, rfl, rfl, rfl, rfl, rfl, rfl, rfl, rfl, rfl, trivial⟩
                      · obtain rfl := andF h38 hb39
                        refine QJ.off rfl rfl (cB hb39) rfl rfl ?_
                        refine QJ.off rfl rfl (cB hb39) rfl rfl ?_
                        refine QJ.off rfl rfl (cB hb39) rfl rfl ?_
                        refine QJ.step (YldS.yld (y_pick_f (cB hb39) rfl)) rfl ?_
                        exact QJ.cut_end ⟨rfl, rfl, rfl, rfl, rfl, rfl, rfl, rfl, rfl, rfl, trivial⟩
                    refine QJ.step (YldS.yld (y_move rfl)) rfl ?_
                    obtain ⟨t40, h41, hm⟩ := bindS hm
                    refine QJ.cut 8 [(0, str want1), (1, str typed2), (5, .int .i64 (List.length want1 : Int)), (6, .int .i64 (List.length typed2 : Int)), (7, v5), (8, .int .i64 i12), (9, v20), (10, .int .i64 k25), (11, .int .i64 best27), (59, .bool t40)] ?_ ?_
                    · rcases Bool.eq_false_or_eq_true t37 with hb42 | hb42
                      · replace h41 := andT h41 hb42
                        refine QJ.on rfl rfl (cB hb42) (YldS.yld (y_move rfl)) rfl ?_
                        refine QJ.on rfl rfl (cB hb42) (YldS.yld (y_move rfl)) rfl ?_
                        obtain ⟨c43, h44, h41⟩ := bindS h41
                        refine QJ.on rfl rfl (cB hb42) (YldS.yld (y_idxStr Try.runUnderlying9 rfl rfl h44)) rfl ?_
                        refine QJ.on rfl rfl (cB hb42) (YldS.yld (y_move rfl)) rfl ?_
                        refine QJ.on rfl rfl (cB hb42) (YldS.yld (y_move rfl)) rfl ?_
                        obtain ⟨c45, h46, h41⟩ := bindS h41
                        refine QJ.on rfl rfl (cB hb42) (YldS.yld (y_idxStr Try.runUnderlying9 rfl rfl h46)) rfl ?_
                        refine QJ.on rfl rfl (cB hb42) (YldS.yld (y_bin8 c43 c45 rfl rfl rfl)) rfl ?_
                        refine QJ.step (YldS.yld (y_pick_t (cB hb42) rfl)) rfl ?_
                        obtain rfl := Option.some.inj h41
                        exact QJ.cut_end ⟨rfl, rfl, rfl, rfl, rfl, rfl, rfl, rfl, rfl, rfl, trivial⟩
                      · obtain rfl := andF h41 hb42
                        refine QJ.off rfl rfl (cB hb42) rfl rfl ?_
                        refine QJ.off rfl rfl (cB hb42) rfl rfl ?_
                        refine QJ.off rfl rfl (cB hb42) rfl rfl ?_
                        refine QJ.off rfl rfl (cB hb42) rfl rfl ?_
                        refine QJ.off rfl rfl (cB hb42) rfl rfl ?_
                        refine QJ.off rfl rfl (cB hb42) rfl rfl ?_
                        refine QJ.off rfl rfl (cB hb42) rfl rfl ?_
                        refine QJ.step (YldS.yld (y_pick_f (cB hb42) rfl)) rfl ?_
                        exact QJ.cut_end ⟨rfl, rfl, rfl, rfl, rfl, rfl, rfl, rfl, rfl, rfl, trivial⟩
                    refine QJ.done ?_
                    refine PJ.next ?_
                    refine WJ.cond (t := t40) rfl (fun hb47 => ?_) (fun hb47 => ?_)
                    · replace hm := ifT hm hb47
                      refine WJ.inm_len 1 rfl fun hl48 => ?_
                      refine WJ.quiet ?_
                      refine QJ.step (YldS.yld (y_move rfl)) rfl ?_
                      refine QJ.step (YldS.yld (y_move rfl)) rfl ?_
                      refine QJ.step (YldS.yld (y_move rfl)) rfl ?_
                      refine QJ.step (YldS.yld (y_bin rfl rfl rfl)) rfl ?_
                      obtain ⟨e49, h50, hm⟩ := bindS hm
                      obtain ⟨y51, hy52⟩ := inn_idx hl48 h50
                      refine QJ.step (YldS.yld (y_ixRow (k := 2) (R := fRaw1) rfl Try.runUnderlying98 Try.sizeOf24 rfl rfl hy52)) rfl ?_
                      refine QJ.step (YldS.yld (y_loadR (k := 2) (i := (Int.toNat (w64 (i12 + 1)))) (off := 0) rfl Try.isAgg24 rfl (idx_get hy52) (raw_get y51))) rfl ?_
                      refine QJ.step (YldS.yld (y_move rfl)) rfl ?_
                      refine QJ.step (YldS.yld (y_bin rfl rfl rfl)) rfl ?_
                      obtain ⟨e53, h54, hm⟩ := bindS hm
                      refine QJ.step (YldS.yld (y_ixG (R := fI64) (fun w hw => (hw.inm_rd (k := 1) rfl rfl hy52 h50)) Try.runUnderlying24 Try.sizeOf2 rfl rfl h54)) rfl ?_
                      refine QJ.step (YldS.yld (y_loadG (R := fI64) (i := (Int.toNat (w64 (k25 + 1)))) (off := 0) (fun w hw => (hw.inm_rd (k := 1) rfl rfl hy52 h50)) Try.isAgg2 rfl (idx_get h54) rfl)) rfl ?_
                      obtain ⟨r55, h56, hm⟩ := bindS hm
                      refine QJ.step (y_call Try.call93 rfl (RetG.quiet fun w hw => ok_s_l00Min h56 w )) rfl ?_
                      refine QJ.step (YldS.yld (y_assign rfl)) rfl ?_
                      refine QJ.done ?_
                      exact PJ.joined r55 [0, 1, 2] hm ⟨rfl, rfl, rfl, rfl, rfl, rfl, rfl, rfl, rfl, trivial⟩ ⟨by decide, rfl⟩
                    · replace hm := ifF hm hb47
                      refine WJ.skip ?_
                      exact PJ.joined best27 [0, 1, 2] hm ⟨rfl, rfl, rfl, rfl, rfl, rfl, rfl, rfl, rfl, trivial⟩ ⟨by decide, rfl⟩
                  · rintro best34 hm
                    subst hk36
                    obtain ⟨kj58, hk59, hm⟩ := withK_open hm
                    refine WJ.join (X := Int) (fun (x : Int) => kj58 x = some r) (fun (x : Int) => [(0, str want1), (1, str typed2), (5, .int .i64 (List.length want1 : Int)), (6, .int .i64 (List.length typed2 : Int)), (7, v5), (8, .int .i64 i12), (9, v20), (10, .int .i64 k25), (11, .int .i64 x)]) (fun (x : Int) => [row v20 2 fI64 l24, inm 2 fI64 vs11 l10, row v5 24 fRaw1 vs11]) ?_ ?_
                    · clear hk59
                      refine WJ.seq ?_
                      refine WJ.quiet_draw follows (by kernel_rfl) ?_
                      refine QJ.step (YldS.yld (y_move rfl)) rfl ?_
                      refine QJ.step (YldS.yld (y_move rfl)) rfl ?_
                      refine QJ.step (YldS.yld (y_bin rfl rfl rfl)) rfl ?_
                      refine QJ.step (YldS.yld (y_move rfl)) rfl ?_
                      obtain ⟨t60, h61, hm⟩ := bindS hm
                      refine QJ.cut 4 [(0, str want1), (1, str typed2), (5, .int .i64 (List.length want1 : Int)), (6, .int .i64 (List.length typed2 : Int)), (7, v5), (8, .int .i64 i12), (9, v20), (10, .int .i64 k25), (11, .int .i64 best34), (78, .bool t60)] ?_ ?_
                      · rcases Bool.eq_false_or_eq_true (decide (i12 < (List.length want1 : Int))) with hb62 | hb62
                        · replace h61 := andT h61 hb62
                          refine QJ.on rfl rfl (cB hb62) (YldS.yld (y_move rfl)) rfl ?_
                          refine QJ.on rfl rfl (cB hb62) (YldS.yld (y_move rfl)) rfl ?_
                          refine QJ.on rfl rfl (cB hb62) (YldS.yld (y_bin rfl rfl rfl)) rfl ?_
                          refine QJ.step (YldS.yld (y_pick_t (cB hb62) rfl)) rfl ?_
                          obtain rfl := Option.some.inj h61
                          exact QJ.cut_end ⟨rfl, rfl, rfl, rfl, rfl, rfl, rfl, rfl, rfl, rfl, trivial⟩
                        · obtain rfl := andF h61 hb62
                          refine QJ.off rfl rfl (cB hb62) rfl rfl ?_
                          refine QJ.off rfl rfl (cB hb62) rfl rfl ?_
                          refine QJ.off rfl rfl (cB hb62) rfl rfl ?_
                          refine QJ.step (YldS.yld (y_pick_f (cB hb62) rfl)) rfl ?_
                          exact QJ.cut_end ⟨rfl, rfl, rfl, rfl, rfl, rfl, rfl, rfl, rfl, rfl, trivial⟩
                      refine QJ.step (YldS.yld (y_move rfl)) rfl ?_
                      obtain ⟨t63, h64, hm⟩ := bindS hm
                      refine QJ.cut 8 [(0, str want1), (1, str typed2), (5, .int .i64 (List.length want1 : Int)), (6, .int .i64 (List.length typed2 : Int)), (7, v5), (8, .int .i64 i12), (9, v20), (10, .int .i64 k25), (11, .int .i64 best34), (87, .bool t63)] ?_ ?_
                      · rcases Bool.eq_false_or_eq_true t60 with hb65 | hb65
                        · replace h64 := andT h64 hb65
                          refine QJ.on rfl rfl (cB hb65) (YldS.yld (y_move rfl)) rfl ?_
                          refine QJ.on rfl rfl (cB hb65) (YldS.yld (y_move rfl)) rfl ?_
                          obtain ⟨c66, h67, h64⟩ := bindS h64
                          refine QJ.on rfl rfl (cB hb65) (YldS.yld (y_idxStr Try.runUnderlying9 rfl rfl h67)) rfl ?_
                          refine QJ.on rfl rfl (cB hb65) (YldS.yld (y_move rfl)) rfl ?_
                          refine QJ.on rfl rfl (cB hb65) (YldS.yld (y_move rfl)) rfl ?_
                          obtain ⟨c68, h69, h64⟩ := bindS h64
                          refine QJ.on rfl rfl (cB hb65) (YldS.yld (y_idxStr Try.runUnderlying9 rfl rfl h69)) rfl ?_
                          refine QJ.on rfl rfl (cB hb65) (YldS.yld (y_bin8 c66 c68 rfl rfl rfl)) rfl ?_
                          refine QJ.step (YldS.yld (y_pick_t (cB hb65) rfl)) rfl ?_
                          obtain rfl := Option.some.inj h64
                          exact QJ.cut_end ⟨rfl, rfl, rfl, rfl, rfl, rfl, rfl, rfl, rfl, rfl, trivial⟩
                        · obtain rfl := andF h64 hb65
                          refine QJ.off rfl rfl (cB hb65) rfl rfl ?_
                          refine QJ.off rfl rfl (cB hb65) rfl rfl ?_
                          refine QJ.off rfl rfl (cB hb65) rfl rfl ?_
                          refine QJ.off rfl rfl (cB hb65) rfl rfl ?_
                          refine QJ.off rfl rfl (cB hb65) rfl rfl ?_
                          refine QJ.off rfl rfl (cB hb65) rfl rfl ?_
                          refine QJ.off rfl rfl (cB hb65) rfl rfl ?_
                          refine QJ.step (YldS.yld (y_pick_f (cB hb65) rfl)) rfl ?_
                          exact QJ.cut_end ⟨rfl, rfl, rfl, rfl, rfl, rfl, rfl, rfl, rfl, rfl, trivial⟩
                      refine QJ.done ?_
                      refine PJ.next ?_
                      refine WJ.cond (t := t63) rfl (fun hb70 => ?_) (fun hb70 => ?_)
                      · replace hm := ifT hm hb70
                        refine WJ.inm_len 1 rfl fun hl71 => ?_
                        refine WJ.quiet ?_
                        refine QJ.step (YldS.yld (y_move rfl)) rfl ?_
                        refine QJ.step (YldS.yld (y_move rfl)) rfl ?_
                        refine QJ.step (YldS.yld (y_move rfl)) rfl ?_
                        refine QJ.step (YldS.yld (y_bin rfl rfl rfl)) rfl ?_
                        obtain ⟨e72, h73, hm⟩ := bindS hm
                        obtain ⟨y74, hy75⟩ := inn_idx hl71 h73
                        refine QJ.step (YldS.yld (y_ixRow (k := 2) (R := fRaw1) rfl Try.runUnderlying98 Try.sizeOf24 rfl rfl hy75)) rfl ?_
                        refine QJ.step (YldS.yld (y_loadR (k := 2) (i := (Int.toNat (w64 (i12 + 1)))) (off := 0) rfl Try.isAgg24 rfl (idx_get hy75) (raw_get y74))) rfl ?_
                        refine QJ.step (YldS.yld (y_move rfl)) rfl ?_
                        refine QJ.step (YldS.yld (y_bin rfl rfl rfl)) rfl ?_
                        obtain ⟨e76, h77, hm⟩ := bindS hm
                        refine QJ.step (YldS.yld (y_ixG (R := fI64) (fun w hw => (hw.inm_rd (k := 1) rfl rfl hy75 h73)) Try.runUnderlying24 Try.sizeOf2 rfl rfl h77)) rfl ?_
                        refine QJ.step (YldS.yld (y_loadG (R := fI64) (i := (Int.toNat (w64 (k25 + 1)))) (off := 0) (fun w hw => (hw.inm_rd (k := 1) rfl rfl hy75 h73)) Try.isAgg2 rfl (idx_get h77) rfl)) rfl ?_
                        refine QJ.step (YldS.yld (y_bin rfl rfl rfl)) rfl ?_
                        obtain ⟨r78, h79, hm⟩ := bindS hm
                        refine QJ.step (y_call Try.call93 rfl (RetG.quiet fun w hw => ok_s_l00Min h79 w )) rfl ?_
                        refine QJ.step (YldS.yld (y_assign rfl)) rfl ?_
                        refine QJ.done ?_
                        exact PJ.joined r78 [0, 1, 2] hm ⟨rfl, rfl, rfl, rfl, rfl, rfl, rfl, rfl, rfl, trivial⟩ ⟨by decide, rfl⟩
                      · replace hm := ifF hm hb70
                        refine WJ.skip ?_
                        exact PJ.joined best34 [0, 1, 2] hm ⟨rfl, rfl, rfl, rfl, rfl, rfl, rfl, rfl, rfl, trivial⟩ ⟨by decide, rfl⟩
                    · rintro best57 hm
                      subst hk59
                      obtain ⟨kj81, hk82, hm⟩ := withK_open hm
                      refine WJ.join (X := Int) (fun (x : Int) => kj81 x = some r) (fun (x : Int) => [(0, str want1), (1, str typed2), (5, .int .i64 (List.length want1 : Int)), (6, .int .i64 (List.length typed2 : Int)), (7, v5), (8, .int .i64 i12), (9, v20), (10, .int .i64 k25), (11, .int .i64 x)]) (fun (x : Int) => [row v20 2 fI64 l24, inm 2 fI64 vs11 l10, row v5 24 fRaw1 vs11]) ?_ ?_
                      · clear hk82
                        refine WJ.seq ?_
                        refine WJ.quiet ?_
                        refine QJ.step (YldS.yld (y_move rfl)) rfl ?_
                        refine QJ.step (YldS.yld (y_move rfl)) rfl ?_
                        refine QJ.step (YldS.yld (y_bin rfl rfl rfl)) rfl ?_
                        refine QJ.done ?_
                        refine PJ.next ?_
                        refine WJ.cond (t := decide (i12 < (List.length want1 : Int))) rfl (fun hb83 => ?_) (fun hb83 => ?_)
                        · replace hm := ifT hm hb83
                          refine WJ.inm_len 1 rfl fun hl84 => ?_
                          refine WJ.quiet ?_
                          refine QJ.step (YldS.yld (y_move rfl)) rfl ?_
                          refine QJ.step (YldS.yld (y_move rfl)) rfl ?_
                          refine QJ.step (YldS.yld (y_move rfl)) rfl ?_
                          refine QJ.step (YldS.yld (y_bin rfl rfl rfl)) rfl ?_
                          obtain ⟨e85, h86, hm⟩ := bindS hm
                          obtain ⟨y87, hy88⟩ := inn_idx hl84 h86
                          refine QJ.step (YldS.yld (y_ixRow (k := 2) (R := fRaw1) rfl Try.runUnderlying98 Try.sizeOf24 rfl rfl hy88)) rfl ?_
                          refine QJ.step (YldS.yld (y_loadR (k := 2) (i := (Int.toNat (w64 (i12 + 1)))) (off := 0) rfl Try.isAgg24 rfl (idx_get hy88) (raw_get y87))) rfl ?_
                          refine QJ.step (YldS.yld (y_move rfl)) rfl ?_
                          obtain ⟨e89, h90, hm⟩ := bindS hm
                          refine QJ.step (YldS.yld (y_ixG (R := fI64) (fun w hw => (hw.inm_rd (k := 1) rfl rfl hy88 h86)) Try.runUnderlying24 Try.sizeOf2 rfl rfl h90)) rfl ?_
                          refine QJ.step (YldS.yld (y_loadG (R := fI64) (i := (Int.toNat k25)) (off := 0) (fun w hw => (hw.inm_rd (k := 1) rfl rfl hy88 h86)) Try.isAgg2 rfl (idx_get h90) rfl)) rfl ?_
                          refine QJ.step (YldS.yld (y_bin rfl rfl rfl)) rfl ?_
                          obtain ⟨r91, h92, hm⟩ := bindS hm
                          refine QJ.step (y_call Try.call93 rfl (RetG.quiet fun w hw => ok_s_l00Min h92 w )) rfl ?_
                          refine QJ.step (YldS.yld (y_assign rfl)) rfl ?_
                          refine QJ.done ?_
                          exact PJ.joined r91 [0, 1, 2] hm ⟨rfl, rfl, rfl, rfl, rfl, rfl, rfl, rfl, rfl, trivial⟩ ⟨by decide, rfl⟩
                        · replace hm := ifF hm hb83
                          refine WJ.skip ?_
                          exact PJ.joined best57 [0, 1, 2] hm ⟨rfl, rfl, rfl, rfl, rfl, rfl, rfl, rfl, rfl, trivial⟩ ⟨by decide, rfl⟩
                      · rintro best80 hm
                        subst hk82
                        obtain ⟨kj94, hk95, hm⟩ := withK_open hm
                        refine WJ.join (X := Int) (fun (x : Int) => kj94 x = some r) (fun (x : Int) => [(0, str want1), (1, str typed2), (5, .int .i64 (List.length want1 : Int)), (6, .int .i64 (List.length typed2 : Int)), (7, v5), (8, .int .i64 i12), (9, v20), (10, .int .i64 k25), (11, .int .i64 x)]) (fun (x : Int) => [row v20 2 fI64 l24, inm 2 fI64 vs11 l10, row v5 24 fRaw1 vs11]) ?_ ?_
                        · clear hk95
                          refine WJ.seq ?_
                          refine WJ.quiet ?_
                          refine QJ.step (YldS.yld (y_move rfl)) rfl ?_
                          refine QJ.step (YldS.yld (y_move rfl)) rfl ?_
                          refine QJ.step (YldS.yld (y_bin rfl rfl rfl)) rfl ?_
                          refine QJ.done ?_
                          refine PJ.next ?_
                          refine WJ.cond (t := decide (k25 < (List.length typed2 : Int))) rfl (fun hb96 => ?_) (fun hb96 => ?_)
                          · replace hm := ifT hm hb96
                            refine WJ.quiet ?_
                            refine QJ.step (YldS.yld (y_move rfl)) rfl ?_
                            refine QJ.step (YldS.yld (y_move rfl)) rfl ?_
                            refine QJ.step (YldS.yld (y_move rfl)) rfl ?_
                            refine QJ.step (YldS.yld (y_bin rfl rfl rfl)) rfl ?_
                            obtain ⟨e97, h98, hm⟩ := bindS hm
                            refine QJ.step (YldS.yld (y_ixRow (k := 0) (R := fI64) rfl Try.runUnderlying24 Try.sizeOf2 rfl rfl h98)) rfl ?_
                            refine QJ.step (YldS.yld (y_loadR (k := 0) (i := (Int.toNat (w64 (k25 + 1)))) (off := 0) (u := .int .i64 e97) rfl Try.isAgg2 rfl (idx_get h98) rfl)) rfl ?_
                            refine QJ.step (YldS.yld (y_bin rfl rfl rfl)) rfl ?_
                            obtain ⟨r99, h100, hm⟩ := bindS hm
                            refine QJ.step (y_call Try.call93 rfl (RetG.quiet fun w hw => ok_s_l00Min h100 w )) rfl ?_
                            refine QJ.step (YldS.yld (y_assign rfl)) rfl ?_
                            refine QJ.done ?_
                            exact PJ.joined r99 [0, 1, 2] hm ⟨rfl, rfl, rfl, rfl, rfl, rfl, rfl, rfl, rfl, trivial⟩ ⟨by decide, rfl⟩
                          · replace hm := ifF hm hb96
                            refine WJ.skip ?_
                            exact PJ.joined best80 [0, 1, 2] hm ⟨rfl, rfl, rfl, rfl, rfl, rfl, rfl, rfl, rfl, trivial⟩ ⟨by decide, rfl⟩
                        · rintro best93 hm
                          subst hk95
                          obtain ⟨kj102, hk103, hm⟩ := withK_open hm
                          refine WJ.join (X := Int) (fun (x : Int) => kj102 x = some r) (fun (x : Int) => [(0, str want1), (1, str typed2), (5, .int .i64 (List.length want1 : Int)), (6, .int .i64 (List.length typed2 : Int)), (7, v5), (8, .int .i64 i12), (9, v20), (10, .int .i64 k25), (11, .int .i64 x)]) (fun (x : Int) => [row v20 2 fI64 l24, inm 2 fI64 vs11 l10, row v5 24 fRaw1 vs11]) ?_ ?_
                          · clear hk103
                            refine WJ.seq ?_
                            refine WJ.quiet_draw follows (by kernel_rfl) ?_
                            refine QJ.step (YldS.yld (y_move rfl)) rfl ?_
                            refine QJ.step (YldS.yld (y_move rfl)) rfl ?_
                            obtain ⟨s104, h105, hm⟩ := bindS hm
                            refine QJ.step (YldS.yld (y_subStr (i := some i12) (j := none) h105 Try.runUnderlying9 rfl ⟨_, rfl⟩ trivial)) rfl ?_
                            refine QJ.step (YldS.yld (y_move rfl)) rfl ?_
                            refine QJ.step (YldS.yld (y_move rfl)) rfl ?_
                            obtain ⟨s106, h107, hm⟩ := bindS hm
                            refine QJ.step (YldS.yld (y_subStr (i := some k25) (j := none) h107 Try.runUnderlying9 rfl ⟨_, rfl⟩ trivial)) rfl ?_
                            obtain ⟨r108, h109, hm⟩ := bindS hm
                            refine QJ.step (y_call Try.call94 rfl (RetG.quiet fun w hw => ok_s_l19Swap h109 w )) rfl ?_
                            refine QJ.done ?_
                            refine PJ.next ?_
                            refine WJ.cond (t := r108) rfl (fun hb110 => ?_) (fun hb110 => ?_)
                            · replace hm := ifT hm hb110
                              refine WJ.inm_len 1 rfl fun hl111 => ?_
                              refine WJ.quiet ?_
                              refine QJ.step (YldS.yld (y_move rfl)) rfl ?_
                              refine QJ.step (YldS.yld (y_move rfl)) rfl ?_
                              refine QJ.step (YldS.yld (y_move rfl)) rfl ?_
                              refine QJ.step (YldS.yld (y_bin rfl rfl rfl)) rfl ?_
                              obtain ⟨e112, h113, hm⟩ := bindS hm
                              obtain ⟨y114, hy115⟩ := inn_idx hl111 h113
                              refine QJ.step (YldS.yld (y_ixRow (k := 2) (R := fRaw1) rfl Try.runUnderlying98 Try.sizeOf24 rfl rfl hy115)) rfl ?_
                              refine QJ.step (YldS.yld (y_loadR (k := 2) (i := (Int.toNat (w64 (i12 + 2)))) (off := 0) rfl Try.isAgg24 rfl (idx_get hy115) (raw_get y114))) rfl ?_
                              refine QJ.step (YldS.yld (y_move rfl)) rfl ?_
                              refine QJ.step (YldS.yld (y_bin rfl rfl rfl)) rfl ?_
                              obtain ⟨e116, h117, hm⟩ := bindS hm
                              refine QJ.step (YldS.yld (y_ixG (R := fI64) (fun w hw => (hw.inm_rd (k := 1) rfl rfl hy115 h113)) Try.runUnderlying24 Try.sizeOf2 rfl rfl h117)) rfl ?_
                              refine QJ.step (YldS.yld (y_loadG (R := fI64) (i := (Int.toNat (w64 (k25 + 2)))) (off := 0) (fun w hw => (hw.inm_rd (k := 1) rfl rfl hy115 h113)) Try.isAgg2 rfl (idx_get h117) rfl)) rfl ?_
                              refine QJ.step (YldS.yld (y_bin rfl rfl rfl)) rfl ?_
                              obtain ⟨r118, h119, hm⟩ := bindS hm
                              refine QJ.step (y_call Try.call93 rfl (RetG.quiet fun w hw => ok_s_l00Min h119 w )) rfl ?_
                              refine QJ.step (YldS.yld (y_assign rfl)) rfl ?_
                              refine QJ.done ?_
                              exact PJ.joined r118 [0, 1, 2] hm ⟨rfl, rfl, rfl, rfl, rfl, rfl, rfl, rfl, rfl, trivial⟩ ⟨by decide, rfl⟩
                            · replace hm := ifF hm hb110
                              refine WJ.skip ?_
                              exact PJ.joined best93 [0, 1, 2] hm ⟨rfl, rfl, rfl, rfl, rfl, rfl, rfl, rfl, rfl, trivial⟩ ⟨by decide, rfl⟩
                          · rintro best101 hm
                            subst hk103
                            refine WJ.reg ?_
                            refine SJ.q (YldS.yld (y_move rfl)) rfl ?_
                            refine SJ.q (YldS.yld (y_move rfl)) rfl ?_
                            refine SJ.q (YldS.yld (y_move rfl)) rfl ?_
                            obtain ⟨e120, h121, hm⟩ := bindS hm
                            refine SJ.q (YldS.yld (y_ixRow (k := 0) (R := fI64) rfl Try.runUnderlying24 Try.sizeOf2 rfl rfl h121)) rfl ?_
                            refine SJ.storeRL (k := 0) (i := (Int.toNat k25)) (off := 0) (us := [.int .i64 best101]) (b := best101) rfl rfl (idx_get h121) rfl rfl Try.sizeOf2 rfl rfl rfl ?_
                            refine SJ.nil ?_
                            refine PJ.block_normal (PJ.next ?_)
                            refine WJ.quiet ?_
                            refine QJ.step (YldS.yld (y_move rfl)) rfl ?_
                            refine QJ.step (YldS.yld (y_bin rfl rfl rfl)) rfl ?_
                            refine QJ.step (YldS.yld (y_assign rfl)) rfl ?_
                            refine QJ.done ?_
                            exact PJ.round ((List.set l24 (Int.toNat k25) best101), w64 (k25 - 1)) [0, 1, 2] hm ⟨rfl, rfl, rfl, rfl, rfl, rfl, rfl, rfl, trivial⟩ ⟨by decide, rfl⟩
              · replace hm := ifF hm hb26
                refine WJ.exit ?_
                refine PJ.then_exit (PJ.then_exit (PJ.block_exit ?_))
                exact PJ.joined l24 [0, 1, 2] hm ⟨rfl, rfl, rfl, rfl, rfl, rfl, rfl, trivial⟩ ⟨by decide, rfl⟩
          · rintro l21 hm
            subst hk23
            refine WJ.inm_len 1 rfl fun hl122 => ?_
            refine WJ.reg ?_
            refine SJ.q (YldS.yld (y_move rfl)) rfl ?_
            refine SJ.q (YldS.yld (y_move rfl)) rfl ?_
            refine SJ.q (YldS.yld (y_move rfl)) rfl ?_
            obtain ⟨e123, h124, hm⟩ := bindS hm
            obtain ⟨y125, hy126⟩ := inn_idx hl122 h124
            refine SJ.q (YldS.yld (y_ixRow (k := 2) (R := fRaw1) rfl Try.runUnderlying98 Try.sizeOf24 rfl rfl hy126)) rfl ?_
            refine SJ.rowCells (k := 0) rfl fun hc127 => ?_
            refine SJ.storeRL (k := 2) (i := (Int.toNat i12)) (off := 0) (us := [v20]) (b := (mkRaw1 v20 hc127.2)) rfl rfl (idx_get hy126) rfl hc127.1 Try.sizeOf24 rfl (by simp [hc127.2]) (raw_put _ _) ?_
            refine SJ.sel (L' := [row v20 2 fI64 l21, inm 2 fI64 vs11 l10, row v5 24 fRaw1 (List.set vs11 (Int.toNat i12) (mkRaw1 v20 hc127.2))]) [0, 1, 2] ⟨by decide, rfl⟩ ?_
            refine SJ.star ?_
            refine SJ.conv0 (fun w S h => inm_set hc127.2 (i0 := (Int.toNat i12)) h) ?_
            refine SJ.nil ?_
            refine PJ.block_normal ?_
            exact PJ.joined ((List.set l10 (Int.toNat i12) l21), (List.set vs11 (Int.toNat i12) (mkRaw1 v20 hc127.2))) [0, 1] hm ⟨rfl, rfl, rfl, rfl, rfl, rfl, trivial⟩ ⟨by decide, rfl⟩
        · rintro ⟨l14, vs15⟩ hm
          subst hk17
          refine WJ.quiet ?_
          refine QJ.step (YldS.yld (y_move rfl)) rfl ?_
          refine QJ.step (YldS.yld (y_bin rfl rfl rfl)) rfl ?_
          refine QJ.step (YldS.yld (y_assign rfl)) rfl ?_
          refine QJ.done ?_
          exact PJ.round (l14, vs15, w64 (i12 - 1)) [0, 1] hm ⟨rfl, rfl, rfl, rfl, rfl, rfl, trivial⟩ ⟨by decide, rfl⟩
      · replace hm := ifF hm hb13
        refine WJ.exit ?_
        refine PJ.then_exit (PJ.then_exit (PJ.block_exit ?_))
        exact PJ.joined (l10, vs11) [0, 1] hm ⟨rfl, trivial⟩ ⟨by decide, rfl⟩
  · rintro ⟨l6, vs7⟩ hm
    subst hk9
    refine WJ.seq ?_
    refine WJ.quiet ?_
    refine QJ.step (YldS.yld (y_move rfl)) rfl ?_
    refine QJ.step (YldS.yld (y_assign rfl)) rfl ?_
    refine QJ.done ?_
    refine PJ.next ?_
    refine WJ.ret ?_
    refine PJ.inm_inn 0 rfl ?_
    obtain rfl := Option.some.inj hm
    refine PJ.sel (L' := [row v5 24 fRaw1 vs7, inn (rSl fI64.rp) vs7 l6]) [1, 0] ⟨by decide, rfl⟩ ?_
    exact PJ.retn (vs := [v5]) Try.results75 ⟨rfl, trivial⟩ ⟨_, _, rfl, rfl⟩

set_option maxRecDepth 100000 in
set_option maxHeartbeats 1000000 in
theorem ok_s_l19Align {N : Nat} {want1 : Str} {typed2 : Str} {r : Str} (hm : s_l19Align N want1 typed2 = some r) (w : World)  :
    Calls Try.prog 50 #[str want1, str typed2] w (Ret (cx w) (str r)) := by
  unfold s_l19Align at hm
  refine Calls.enter [str want1, str typed2] Try.func50 rfl Try.ntmps50 rfl ?_
  refine WJ.seq ?_
  refine WJ.quiet ?_
  refine QJ.step (YldS.yld (y_assign rfl)) rfl ?_
  refine QJ.done ?_
  refine PJ.next ?_
  refine WJ.seq ?_
  refine WJ.reg ?_
  refine SJ.q (YldS.yld (y_move rfl)) rfl ?_
  refine SJ.q (YldS.yld (y_move rfl)) rfl ?_
  obtain ⟨r3, h4, hm⟩ := bindS hm
  refine SJ.call Try.call75 rfl (fun w hw => ok_s_l19Costs h4 w ) rfl ?_
  rintro v5 _ ⟨_, vs6, rfl, rfl⟩
  refine SJ.q (YldS.yld (y_assign rfl)) rfl ?_
  refine SJ.nil ?_
  refine PJ.next ?_
  refine WJ.seq ?_
  refine WJ.reg ?_
  refine SJ.buildSlice (R := fByte) (os := []) [] Try.runUnderlying22 Try.sizeOf5 Try.zeroValue5 rfl rfl rfl rfl rfl rfl fun v7 => ?_
  refine SJ.q (YldS.yld (y_assign rfl)) rfl ?_
  refine SJ.nil ?_
  refine PJ.next ?_
  refine WJ.seq ?_
  refine WJ.quiet ?_
  refine QJ.step (YldS.yld (y_assign rfl)) rfl ?_
  refine QJ.done ?_
  refine PJ.next ?_
  refine WJ.seq ?_
  refine WJ.quiet ?_
  refine QJ.step (YldS.yld (y_assign rfl)) rfl ?_
  refine QJ.done ?_
  refine PJ.next ?_
  obtain ⟨kj10, hk11, hm⟩ := withK_open hm
  refine WJ.join (X := (List UInt8) × Value) (fun (x : (List UInt8) × Value) => kj10 x.1 = some r) (fun (x : (List UInt8) × Value) => [(6, x.2)]) (fun (x : (List UInt8) × Value) => [row x.2 5 fByte x.1]) ?_ ?_
  · clear hk11
    refine WJ.block ?_
    refine WJ.sel (L' := (fun (x : (List UInt8) × Value × Int × Int) => [row x.2.1 5 fByte x.1, row v5 24 fRaw1 vs6, inn (rSl fI64.rp) vs6 r3]) ([], v7, 0, 0)) [0, 1, 2] ⟨by decide, rfl⟩ ?_
    refine WJ.sub (m' := (fun (x : (List UInt8) × Value × Int × Int) => [(0, str want1), (1, str typed2), (5, v5), (6, x.2.1), (7, .int .i64 x.2.2.1), (8, .int .i64 x.2.2.2)]) ([], v7, 0, 0)) ⟨rfl, rfl, rfl, rfl, rfl, rfl, trivial⟩ ?_
    refine WJ.loop (X := (List UInt8) × Value × Int × Int) (fun N (x : (List UInt8) × Value × Int × Int) => s_l19Align_l1 kj10 want1 typed2 r3 N x.1 x.2.2.1 x.2.2.2 = some r) (fun (x : (List UInt8) × Value × Int × Int) => [(0, str want1), (1, str typed2), (5, v5), (6, x.2.1), (7, .int .i64 x.2.2.1), (8, .int .i64 x.2.2.2)]) (fun (x : (List UInt8) × Value × Int × Int) => [row x.2.1 5 fByte x.1, row v5 24 fRaw1 vs6, inn (rSl fI64.rp) vs6 r3]) ?_ N ([], v7, 0, 0) hm
    · rintro N ⟨l12, v13, i14, k15⟩ hI
      have hm := hI; clear hI
      cases N with
      | zero => cases hm
      | succ N =>
      unfold s_l19Align_l1 at hm
      refine WJ.seq ?_
      refine WJ.seq ?_
      refine WJ.quiet ?_
      refine QJ.step (YldS.yld (y_move rfl)) rfl ?_
      refine QJ.step (YldS.yld (y_move rfl)) rfl ?_
      refine QJ.step (YldS.yld (y_lenStr Try.runUnderlying9 rfl)) rfl ?_
      refine QJ.step (YldS.yld (y_bin rfl rfl rfl)) rfl ?_
      refine QJ.step (YldS.yld (y_move rfl)) rfl ?_
      obtain ⟨t16, h17, hm⟩ := bindS hm
      refine QJ.cut 5 [(0, str want1), (1, str typed2), (5, v5), (6, v13), (7, .int .i64 i14), (8, .int .i64 k15), (23, .bool t16)] ?_ ?_
      · rcases Bool.eq_false_or_eq_true (decide (i14 < (List.length want1 : Int))) with hb18 | hb18
        · obtain rfl := orT h17 hb18
          refine QJ.off rfl rfl (cB hb18) rfl rfl ?_
          refine QJ.off rfl rfl (cB hb18) rfl rfl ?_
          refine QJ.off rfl rfl (cB hb18) rfl rfl ?_
          refine QJ.off rfl rfl (cB hb18) rfl rfl ?_
          refine QJ.step (YldS.yld (y_pick_t (cB hb18) rfl)) rfl ?_
          exact QJ.cut_end ⟨rfl, rfl, rfl, rfl, rfl, rfl, rfl, trivial⟩
        · replace h17 := orF h17 hb18
          refine QJ.on rfl rfl (cB hb18) (YldS.yld (y_move rfl)) rfl ?_
          refine QJ.on rfl rfl (cB hb18) (YldS.yld (y_move rfl)) rfl ?_
          refine QJ.on rfl rfl (cB hb18) (YldS.yld (y_lenStr Try.runUnderlying9 rfl)) rfl ?_
          refine QJ.on rfl rfl (cB hb18) (YldS.yld (y_bin rfl rfl rfl)) rfl ?_
          refine QJ.step (YldS.yld (y_pick_f (cB hb18) rfl)) rfl ?_
          obtain rfl := Option.some.inj h17
          exact QJ.cut_end ⟨rfl, rfl, rfl, rfl, rfl, rfl, rfl, trivial⟩
      refine QJ.done ?_
      refine PJ.next ?_
      refine WJ.cond (t := t16) rfl (fun hb19 => ?_) (fun hb19 => ?_)
      · replace hm := ifT hm hb19
        refine WJ.skip ?_
        refine PJ.next ?_
        refine WJ.block ?_
        refine WJ.seq ?_
        refine WJ.inn_len 2 rfl fun hl20 => ?_
        refine WJ.quiet ?_
        refine QJ.step (YldS.yld (y_move rfl)) rfl ?_
        refine QJ.step (YldS.yld (y_move rfl)) rfl ?_
        obtain ⟨e21, h22, hm⟩ := bindS hm
        obtain ⟨y23, hy24⟩ := inn_idx hl20 h22
        refine QJ.step (YldS.yld (y_ixRow (k := 1) (R := fRaw1) rfl Try.runUnderlying98 Try.sizeOf24 rfl rfl hy24)) rfl ?_
        refine QJ.step (YldS.yld (y_loadR (k := 1) (i := (Int.toNat i14)) (off := 0) rfl Try.isAgg24 rfl (idx_get hy24) (raw_get y23))) rfl ?_
        refine QJ.step (YldS.yld (y_move rfl)) rfl ?_
        obtain ⟨e25, h26, hm⟩ := bindS hm
        refine QJ.step (YldS.yld (y_ixG (R := fI64) (fun w hw => (hw.inn_rd (k := 2) rfl rfl hy24 h22)) Try.runUnderlying24 Try.sizeOf2 rfl rfl h26)) rfl ?_
        refine QJ.step (YldS.yld (y_loadG (R := fI64) (i := (Int.toNat k15)) (off := 0) (fun w hw => (hw.inn_rd (k := 2) rfl rfl hy24 h22)) Try.isAgg2 rfl (idx_get h26) rfl)) rfl ?_
        refine QJ.step (YldS.yld (y_assign rfl)) rfl ?_
        refine QJ.done ?_
        refine PJ.next ?_
        refine WJ.block ?_
        refine WJ.seq ?_
        refine WJ.inn_len 2 rfl fun hl27 => ?_
        refine WJ.quiet ?_
        refine QJ.step (YldS.yld (y_move rfl)) rfl ?_
        refine QJ.step (YldS.yld (y_move rfl)) rfl ?_
        refine QJ.step (YldS.yld (y_lenStr Try.runUnderlying9 rfl)) rfl ?_
        refine QJ.step (YldS.yld (y_bin rfl rfl rfl)) rfl ?_
        refine QJ.step (YldS.yld (y_move rfl)) rfl ?_
        obtain ⟨t28, h29, hm⟩ := bindS hm
        refine QJ.cut 12 [(0, str want1), (1, str typed2), (5, v5), (6, v13), (7, .int .i64 i14), (8, .int .i64 k15), (9, .int .i64 e25), (55, .bool t28)] ?_ ?_
        · rcases Bool.eq_false_or_eq_true (decide (k15 < (List.length typed2 : Int))) with hb30 | hb30
          · replace h29 := andT h29 hb30
            refine QJ.on rfl rfl (cB hb30) (YldS.yld (y_move rfl)) rfl ?_
            refine QJ.on rfl rfl (cB hb30) (YldS.yld (y_move rfl)) rfl ?_
            obtain ⟨e31, h32, h29⟩ := bindS h29
            obtain ⟨y33, hy34⟩ := inn_idx hl27 h32
            refine QJ.on rfl rfl (cB hb30) (YldS.yld (y_ixRow (k := 1) (R := fRaw1) rfl Try.runUnderlying98 Try.sizeOf24 rfl rfl hy34)) rfl ?_
            refine QJ.on rfl rfl (cB hb30) (YldS.yld (y_loadR (k := 1) (i := (Int.toNat i14)) (off := 0) rfl Try.isAgg24 rfl (idx_get hy34) (raw_get y33))) rfl ?_
            refine QJ.on rfl rfl (cB hb30) (YldS.yld (y_move rfl)) rfl ?_
            refine QJ.on rfl rfl (cB hb30) (YldS.yld (y_bin rfl rfl rfl)) rfl ?_
            obtain ⟨e35, h36, h29⟩ := bindS h29
            refine QJ.on rfl rfl (cB hb30) (YldS.yld (y_ixG (R := fI64) (fun w hw => (hw.inn_rd (k := 2) rfl rfl hy34 h32)) Try.runUnderlying24 Try.sizeOf2 rfl rfl h36)) rfl ?_
            refine QJ.on rfl rfl (cB hb30) (YldS.yld (y_loadG (R := fI64) (i := (Int.toNat (w64 (k15 + 1)))) (off := 0) (fun w hw => (hw.inn_rd (k := 2) rfl rfl hy34 h32)) Try.isAgg2 rfl (idx_get h36) rfl)) rfl ?_
            refine QJ.on rfl rfl (cB hb30) (YldS.yld (y_bin rfl rfl rfl)) rfl ?_
            refine QJ.on rfl rfl (cB hb30) (YldS.yld (y_move rfl)) rfl ?_
            refine QJ.on rfl rfl (cB hb30) (YldS.yld (y_bin rfl rfl rfl)) rfl ?_
            refine QJ.step (YldS.yld (y_pick_t (cB hb30) rfl)) rfl ?_
            obtain rfl := Option.some.inj h29
            exact QJ.cut_end ⟨rfl, rfl, rfl, rfl, rfl, rfl, rfl, rfl, trivial⟩
          · obtain rfl := andF h29 hb30
            refine QJ.off rfl rfl (cB hb30) rfl rfl ?_
            refine QJ.off rfl rfl (cB hb30) rfl rfl ?_
            refine QJ.off rfl rfl (cB hb30) rfl rfl ?_
            refine QJ.off rfl rfl (cB hb30) rfl rfl ?_
            refine QJ.off rfl rfl (cB hb30) rfl rfl ?_
            refine QJ.off rfl rfl (cB hb30) rfl rfl ?_
            refine QJ.off rfl rfl (cB hb30) rfl rfl ?_
            refine QJ.off rfl rfl (cB hb30) rfl rfl ?_
            refine QJ.off rfl rfl (cB hb30) rfl rfl ?_
            refine QJ.off rfl rfl (cB hb30) rfl rfl ?_
            refine QJ.off rfl rfl (cB hb30) rfl rfl ?_
            refine QJ.step (YldS.yld (y_pick_f (cB hb30) rfl)) rfl ?_
            exact QJ.cut_end ⟨rfl, rfl, rfl, rfl, rfl, rfl, rfl, rfl, trivial⟩
        refine QJ.step (YldS.yld (y_assign rfl)) rfl ?_
        refine QJ.done ?_
        refine PJ.next ?_
        refine WJ.cond (t := t28) rfl (fun hb37 => ?_) (fun hb37 => ?_)
        · replace hm := ifT hm hb37
          refine WJ.seq ?_
          refine WJ.reg ?_
          refine SJ.q (YldS.yld (y_move rfl)) rfl ?_
          refine SJ.buildSlice (R := fByte) (os := [.const (.int .u8 (UInt8.toNat 43 : Int))]) [43] Try.runUnderlying22 Try.sizeOf5 Try.zeroValue5 rfl rfl rfl rfl rfl rfl fun v38 => ?_
          obtain ⟨l39, h40, hm⟩ := bindS hm
          refine SJ.append (k := 1) (R := fByte) h40 rfl Try.underlying22 el5 rfl rfl rfl (fun w hw => (hw.row_rd (k := 0) rfl)) rfl fun v41 => ?_
          refine SJ.q (YldS.yld (y_assign rfl)) rfl ?_
          refine SJ.nil ?_
          refine PJ.next ?_
          refine WJ.quiet ?_
          refine QJ.step (YldS.yld (y_move rfl)) rfl ?_
          refine QJ.step (YldS.yld (y_bin rfl rfl rfl)) rfl ?_
          refine QJ.step (YldS.yld (y_assign rfl)) rfl ?_
          refine QJ.done ?_
          refine PJ.block_normal (PJ.block_normal ?_)
          exact PJ.round (l39, v41, i14, w64 (k15 + 1)) [1, 2, 3] hm ⟨rfl, rfl, rfl, rfl, rfl, rfl, trivial⟩ ⟨by decide, rfl⟩
        · replace hm := ifF hm hb37
          refine WJ.seq ?_
          refine WJ.inn_len 2 rfl fun hl42 => ?_
          refine WJ.quiet ?_
          refine QJ.step (YldS.yld (y_move rfl)) rfl ?_
          refine QJ.step (YldS.yld (y_move rfl)) rfl ?_
          refine QJ.step (YldS.yld (y_lenStr Try.runUnderlying9 rfl)) rfl ?_
          refine QJ.step (YldS.yld (y_bin rfl rfl rfl)) rfl ?_
          refine QJ.step (YldS.yld (y_move rfl)) rfl ?_
          obtain ⟨t43, h44, hm⟩ := bindS hm
          refine QJ.cut 12 [(0, str want1), (1, str typed2), (5, v5), (6, v13), (7, .int .i64 i14), (8, .int .i64 k15), (9, .int .i64 e25), (78, .bool t43)] ?_ ?_
          · rcases Bool.eq_false_or_eq_true (decide (i14 < (List.length want1 : Int))) with hb45 | hb45
            · replace h44 := andT h44 hb45
              refine QJ.on rfl rfl (cB hb45) (YldS.yld (y_move rfl)) rfl ?_
              refine QJ.on rfl rfl (cB hb45) (YldS.yld (y_move rfl)) rfl ?_
              refine QJ.on rfl rfl (cB hb45) (YldS.yld (y_bin rfl rfl rfl)) rfl ?_
              obtain ⟨e46, h47, h44⟩ := bindS h44
              obtain ⟨y48, hy49⟩ := inn_idx hl42 h47
              refine QJ.on rfl rfl (cB hb45) (YldS.yld (y_ixRow (k := 1) (R := fRaw1) rfl Try.runUnderlying98 Try.sizeOf24 rfl rfl hy49)) rfl ?_
              refine QJ.on rfl rfl (cB hb45) (YldS.yld (y_loadR (k := 1) (i := (Int.toNat (w64 (i14 + 1)))) (off := 0) rfl Try.isAgg24 rfl (idx_get hy49) (raw_get y48))) rfl ?_
              refine QJ.on rfl rfl (cB hb45) (YldS.yld (y_move rfl)) rfl ?_
              obtain ⟨e50, h51, h44⟩ := bindS h44
              refine QJ.on rfl rfl (cB hb45) (YldS.yld (y_ixG (R := fI64) (fun w hw => (hw.inn_rd (k := 2) rfl rfl hy49 h47)) Try.runUnderlying24 Try.sizeOf2 rfl rfl h51)) rfl ?_
              refine QJ.on rfl rfl (cB hb45) (YldS.yld (y_loadG (R := fI64) (i := (Int.toNat k15)) (off := 0) (fun w hw => (hw.inn_rd (k := 2) rfl rfl hy49 h47)) Try.isAgg2 rfl (idx_get h51) rfl)) rfl ?_
              refine QJ.on rfl rfl (cB hb45) (YldS.yld (y_bin rfl rfl rfl)) rfl ?_
              refine QJ.on rfl rfl (cB hb45) (YldS.yld (y_move rfl)) rfl ?_
              refine QJ.on rfl rfl (cB hb45) (YldS.yld (y_bin rfl rfl rfl)) rfl ?_
              refine QJ.step (YldS.yld (y_pick_t (cB hb45) rfl)) rfl ?_
              obtain rfl := Option.some.inj h44
              exact QJ.cut_end ⟨rfl, rfl, rfl, rfl, rfl, rfl, rfl, rfl, trivial⟩
            · obtain rfl := andF h44 hb45
              refine QJ.off rfl rfl (cB hb45) rfl rfl ?_
              refine QJ.off rfl rfl (cB hb45) rfl rfl ?_
              refine QJ.off rfl rfl (cB hb45) rfl rfl ?_
              refine QJ.off rfl rfl (cB hb45) rfl rfl ?_
              refine QJ.off rfl rfl (cB hb45) rfl rfl ?_
              refine QJ.off rfl rfl (cB hb45) rfl rfl ?_
              refine QJ.off rfl rfl (cB hb45) rfl rfl ?_
              refine QJ.off rfl rfl (cB hb45) rfl rfl ?_
              refine QJ.off rfl rfl (cB hb45) rfl rfl ?_
              refine QJ.off rfl rfl (cB hb45) rfl rfl ?_
              refine QJ.off rfl rfl (cB hb45) rfl rfl ?_
              refine QJ.step (YldS.yld (y_pick_f (cB hb45) rfl)) rfl ?_
              exact QJ.cut_end ⟨rfl, rfl, rfl, rfl, rfl, rfl, rfl, rfl, trivial⟩
          refine QJ.step (YldS.yld (y_assign rfl)) rfl ?_
          refine QJ.done ?_
          refine PJ.next ?_
          refine WJ.cond (t := t43) rfl (fun hb52 => ?_) (fun hb52 => ?_)
          · replace hm := ifT hm hb52
            refine WJ.seq ?_
            refine WJ.reg ?_
            refine SJ.q (YldS.yld (y_move rfl)) rfl ?_
            refine SJ.buildSlice (R := fByte) (os := [.const (.int .u8 (UInt8.toNat 45 : Int))]) [45] Try.runUnderlying22 Try.sizeOf5 Try.zeroValue5 rfl rfl rfl rfl rfl rfl fun v53 => ?_
            obtain ⟨l54, h55, hm⟩ := bindS hm
            refine SJ.append (k := 1) (R := fByte) h55 rfl Try.underlying22 el5 rfl rfl rfl (fun w hw => (hw.row_rd (k := 0) rfl)) rfl fun v56 => ?_
            refine SJ.q (YldS.yld (y_assign rfl)) rfl ?_
            refine SJ.nil ?_
            refine PJ.next ?_
            refine WJ.quiet ?_
            refine QJ.step (YldS.yld (y_move rfl)) rfl ?_
            refine QJ.step (YldS.yld (y_bin rfl rfl rfl)) rfl ?_
            refine QJ.step (YldS.yld (y_assign rfl)) rfl ?_
            refine QJ.done ?_
            refine PJ.block_normal (PJ.block_normal ?_)
            exact PJ.round (l54, v56, w64 (i14 + 1), k15) [1, 2, 3] hm ⟨rfl, rfl, rfl, rfl, rfl, rfl, trivial⟩ ⟨by decide, rfl⟩
          · replace hm := ifF hm hb52
            refine WJ.seq ?_
            refine WJ.inn_len 2 rfl fun hl57 => ?_
            refine WJ.quiet_draw follows (by kernel_rfl) ?_
            refine QJ.step (YldS.yld (y_move rfl)) rfl ?_
            refine QJ.step (YldS.yld (y_move rfl)) rfl ?_
            refine QJ.step (YldS.yld (y_lenStr Try.runUnderlying9 rfl)) rfl ?_
            refine QJ.step (YldS.yld (y_bin rfl rfl rfl)) rfl ?_
            refine QJ.step (YldS.yld (y_move rfl)) rfl ?_
            obtain ⟨t58, h59, hm⟩ := bindS hm
            refine QJ.cut 5 [(0, str want1), (1, str typed2), (5, v5), (6, v13), (7, .int .i64 i14), (8, .int .i64 k15), (9, .int .i64 e25), (94, .bool t58)] ?_ ?_
            · rcases Bool.eq_false_or_eq_true (decide (i14 < (List.length want1 : Int))) with hb60 | hb60
              · replace h59 := andT h59 hb60
                refine QJ.on rfl rfl (cB hb60) (YldS.yld (y_move rfl)) rfl ?_
                refine QJ.on rfl rfl (cB hb60) (YldS.yld (y_move rfl)) rfl ?_
                refine QJ.on rfl rfl (cB hb60) (YldS.yld (y_lenStr Try.runUnderlying9 rfl)) rfl ?_
                refine QJ.on rfl rfl (cB hb60) (YldS.yld (y_bin rfl rfl rfl)) rfl ?_
                refine QJ.step (YldS.yld (y_pick_t (cB hb60) rfl)) rfl ?_
                obtain rfl := Option.some.inj h59
                exact QJ.cut_end ⟨rfl, rfl, rfl, rfl, rfl, rfl, rfl, rfl, trivial⟩
              · obtain rfl := andF h59 hb60
                refine QJ.off rfl rfl (cB hb60) rfl rfl ?_
                refine QJ.off rfl rfl (cB hb60) rfl rfl ?_
                refine QJ.off rfl rfl (cB hb60) rfl rfl ?_
                refine QJ.off rfl rfl (cB hb60) rfl rfl ?_
                refine QJ.step (YldS.yld (y_pick_f (cB hb60) rfl)) rfl ?_
                exact QJ.cut_end ⟨rfl, rfl, rfl, rfl, rfl, rfl, rfl, rfl, trivial⟩
            refine QJ.step (YldS.yld (y_move rfl)) rfl ?_
            obtain ⟨t61, h62, hm⟩ := bindS hm
            refine QJ.cut 8 [(0, str want1), (1, str typed2), (5, v5), (6, v13), (7, .int .i64 i14), (8, .int .i64 k15), (9, .int .i64 e25), (103, .bool t61)] ?_ ?_
            · rcases Bool.eq_false_or_eq_true t58 with hb63 | hb63
              · replace h62 := andT h62 hb63
                refine QJ.on rfl rfl (cB hb63) (YldS.yld (y_move rfl)) rfl ?_
                refine QJ.on rfl rfl (cB hb63) (YldS.yld (y_move rfl)) rfl ?_
                obtain ⟨c64, h65, h62⟩ := bindS h62
                refine QJ.on rfl rfl (cB hb63) (YldS.yld (y_idxStr Try.runUnderlying9 rfl rfl h65)) rfl ?_
                refine QJ.on rfl rfl (cB hb63) (YldS.yld (y_move rfl)) rfl ?_
                refine QJ.on rfl rfl (cB hb63) (YldS.yld (y_move rfl)) rfl ?_
                obtain ⟨c66, h67, h62⟩ := bindS h62
                refine QJ.on rfl rfl (cB hb63) (YldS.yld (y_idxStr Try.runUnderlying9 rfl rfl h67)) rfl ?_
                refine QJ.on rfl rfl (cB hb63) (YldS.yld (y_bin8 c64 c66 rfl rfl rfl)) rfl ?_
                refine QJ.step (YldS.yld (y_pick_t (cB hb63) rfl)) rfl ?_
                obtain rfl := Option.some.inj h62
                exact QJ.cut_end ⟨rfl, rfl, rfl, rfl, rfl, rfl, rfl, rfl, trivial⟩
              · obtain rfl := andF h62 hb63
                refine QJ.off rfl rfl (cB hb63) rfl rfl ?_
                refine QJ.off rfl rfl (cB hb63) rfl rfl ?_
                refine QJ.off rfl rfl (cB hb63) rfl rfl ?_
                refine QJ.off rfl rfl (cB hb63) rfl rfl ?_
                refine QJ.off rfl rfl (cB hb63) rfl rfl ?_
                refine QJ.off rfl rfl (cB hb63) rfl rfl ?_
                refine QJ.off rfl rfl (cB hb63) rfl rfl ?_
                refine QJ.step (YldS.yld (y_pick_f (cB hb63) rfl)) rfl ?_
                exact QJ.cut_end ⟨rfl, rfl, rfl, rfl, rfl, rfl, rfl, rfl, trivial⟩
            refine QJ.step (YldS.yld (y_move rfl)) rfl ?_
            obtain ⟨t68, h69, hm⟩ := bindS hm
            refine QJ.cut 12 [(0, str want1), (1, str typed2), (5, v5), (6, v13), (7, .int .i64 i14), (8, .int .i64 k15), (9, .int .i64 e25), (116, .bool t68)] ?_ ?_
            · rcases Bool.eq_false_or_eq_true t61 with hb70 | hb70
              · replace h69 := andT h69 hb70
                refine QJ.on rfl rfl (cB hb70) (YldS.yld (y_move rfl)) rfl ?_
                refine QJ.on rfl rfl (cB hb70) (YldS.yld (y_move rfl)) rfl ?_
                refine QJ.on rfl rfl (cB hb70) (YldS.yld (y_bin rfl rfl rfl)) rfl ?_
                obtain ⟨e71, h72, h69⟩ := bindS h69
                obtain ⟨y73, hy74⟩ := inn_idx hl57 h72
                refine QJ.on rfl rfl (cB hb70) (YldS.yld (y_ixRow (k := 1) (R := fRaw1) rfl Try.runUnderlying98 Try.sizeOf24 rfl rfl hy74)) rfl ?_
                refine QJ.on rfl rfl (cB hb70) (YldS.yld (y_loadR (k := 1) (i := (Int.toNat (w64 (i14 + 1)))) (off := 0) rfl Try.isAgg24 rfl (idx_get hy74) (raw_get y73))) rfl ?_
                refine QJ.on rfl rfl (cB hb70) (YldS.yld (y_move rfl)) rfl ?_
                refine QJ.on rfl rfl (cB hb70) (YldS.yld (y_bin rfl rfl rfl)) rfl ?_
                obtain ⟨e75, h76, h69⟩ := bindS h69
                refine QJ.on rfl rfl (cB hb70) (YldS.yld (y_ixG (R := fI64) (fun w hw => (hw.inn_rd (k := 2) rfl rfl hy74 h72)) Try.runUnderlying24 Try.sizeOf2 rfl rfl h76)) rfl ?_
                refine QJ.on rfl rfl (cB hb70) (YldS.yld (y_loadG (R := fI64) (i := (Int.toNat (w64 (k15 + 1)))) (off := 0) (fun w hw => (hw.inn_rd (k := 2) rfl rfl hy74 h72)) Try.isAgg2 rfl (idx_get h76) rfl)) rfl ?_
                refine QJ.on rfl rfl (cB hb70) (YldS.yld (y_move rfl)) rfl ?_
                refine QJ.on rfl rfl (cB hb70) (YldS.yld (y_bin rfl rfl rfl)) rfl ?_
                refine QJ.step (YldS.yld (y_pick_t (cB hb70) rfl)) rfl ?_
                obtain rfl := Option.some.inj h69
                exact QJ.cut_end ⟨rfl, rfl, rfl, rfl, rfl, rfl, rfl, rfl, trivial⟩
              · obtain rfl := andF h69 hb70
                refine QJ.off rfl rfl (cB hb70) rfl rfl ?_
                refine QJ.off rfl rfl (cB hb70) rfl rfl ?_
                refine QJ.off rfl rfl (cB hb70) rfl rfl ?_
                refine QJ.off rfl rfl (cB hb70) rfl rfl ?_
                refine QJ.off rfl rfl (cB hb70) rfl rfl ?_
                refine QJ.off rfl rfl (cB hb70) rfl rfl ?_
                refine QJ.off rfl rfl (cB hb70) rfl rfl ?_
                refine QJ.off rfl rfl (cB hb70) rfl rfl ?_
                refine QJ.off rfl rfl (cB hb70) rfl rfl ?_
                refine QJ.off rfl rfl (cB hb70) rfl rfl ?_
                refine QJ.off rfl rfl (cB hb70) rfl rfl ?_
                refine QJ.step (YldS.yld (y_pick_f (cB hb70) rfl)) rfl ?_
                exact QJ.cut_end ⟨rfl, rfl, rfl, rfl, rfl, rfl, rfl, rfl, trivial⟩
            refine QJ.step (YldS.yld (y_assign rfl)) rfl ?_
            refine QJ.done ?_
            refine PJ.next ?_
            refine WJ.cond (t := t68) rfl (fun hb77 => ?_) (fun hb77 => ?_)
            · replace hm := ifT hm hb77
              refine WJ.seq ?_
              refine WJ.reg ?_
              refine SJ.q (YldS.yld (y_move rfl)) rfl ?_
              refine SJ.buildSlice (R := fByte) (os := [.const (.int .u8 (UInt8.toNat 61 : Int))]) [61] Try.runUnderlying22 Try.sizeOf5 Try.zeroValue5 rfl rfl rfl rfl rfl rfl fun v78 => ?_
              obtain ⟨l79, h80, hm⟩ := bindS hm
              refine SJ.append (k := 1) (R := fByte) h80 rfl Try.underlying22 el5 rfl rfl rfl (fun w hw => (hw.row_rd (k := 0) rfl)) rfl fun v81 => ?_
              refine SJ.q (YldS.yld (y_assign rfl)) rfl ?_
              refine SJ.nil ?_
              refine PJ.next ?_
              refine WJ.seq ?_
              refine WJ.quiet ?_
              refine QJ.step (YldS.yld (y_move rfl)) rfl ?_
              refine QJ.step (YldS.yld (y_bin rfl rfl rfl)) rfl ?_
              refine QJ.step (YldS.yld (y_assign rfl)) rfl ?_
              refine QJ.done ?_
              refine PJ.next ?_
              refine WJ.quiet ?_
              refine QJ.step (YldS.yld (y_move rfl)) rfl ?_
              refine QJ.step (YldS.yld (y_bin rfl rfl rfl)) rfl ?_
              refine QJ.step (YldS.yld (y_assign rfl)) rfl ?_
              refine QJ.done ?_
              refine PJ.block_normal (PJ.block_normal ?_)
              exact PJ.round (l79, v81, w64 (i14 + 1), w64 (k15 + 1)) [1, 2, 3] hm ⟨rfl, rfl, rfl, rfl, rfl, rfl, trivial⟩ ⟨by decide, rfl⟩
            · replace hm := ifF hm hb77
              refine WJ.seq ?_
              refine WJ.inn_len 2 rfl fun hl82 => ?_
              refine WJ.quiet_draw follows (by kernel_rfl) ?_
              refine QJ.step (YldS.yld (y_move rfl)) rfl ?_
              refine QJ.step (YldS.yld (y_move rfl)) rfl ?_
              refine QJ.step (YldS.yld (y_lenStr Try.runUnderlying9 rfl)) rfl ?_
              refine QJ.step (YldS.yld (y_bin rfl rfl rfl)) rfl ?_
              refine QJ.step (YldS.yld (y_move rfl)) rfl ?_
              obtain ⟨t83, h84, hm⟩ := bindS hm
              refine QJ.cut 5 [(0, str want1), (1, str typed2), (5, v5), (6, v13), (7, .int .i64 i14), (8, .int .i64 k15), (9, .int .i64 e25), (134, .bool t83)] ?_ ?_
              · rcases Bool.eq_false_or_eq_true (decide (i14 < (List.length want1 : Int))) with hb85 | hb85
                · replace h84 := andT h84 hb85
                  refine QJ.on rfl rfl (cB hb85) (YldS.yld (y_move rfl)) rfl ?_
                  refine QJ.on rfl rfl (cB hb85) (YldS.yld (y_move rfl)) rfl ?_
                  refine QJ.on rfl rfl (cB hb85) (YldS.yld (y_lenStr Try.runUnderlying9 rfl)) rfl ?_
                  refine QJ.on rfl rfl (cB hb85) (YldS.yld (y_bin rfl rfl rfl)) rfl ?_
                  refine QJ.step (YldS.yld (y_pick_t (cB hb85) rfl)) rfl ?_
                  obtain rfl := Option.some.inj h84
                  exact QJ.cut_end ⟨rfl, rfl, rfl, rfl, rfl, rfl, rfl, rfl, trivial⟩
                · obtain rfl := andF h84 hb85
                  refine QJ.off rfl rfl (cB hb85) rfl rfl ?_
                  refine QJ.off rfl rfl (cB hb85) rfl rfl ?_
                  refine QJ.off rfl rfl (cB hb85) rfl rfl ?_
                  refine QJ.off rfl rfl (cB hb85) rfl rfl ?_
                  refine QJ.step (YldS.yld (y_pick_f (cB hb85) rfl)) rfl ?_
                  exact QJ.cut_end ⟨rfl, rfl, rfl, rfl, rfl, rfl, rfl, rfl, trivial⟩
              refine QJ.step (YldS.yld (y_move rfl)) rfl ?_
              obtain ⟨t86, h87, hm⟩ := bindS hm
              refine QJ.cut 8 [(0, str want1), (1, str typed2), (5, v5), (6, v13), (7, .int .i64 i14), (8, .int .i64 k15), (9, .int .i64 e25), (143, .bool t86)] ?_ ?_
              · rcases Bool.eq_false_or_eq_true t83 with hb88 | hb88
                · replace h87 := andT h87 hb88
                  refine QJ.on rfl rfl (cB hb88) (YldS.yld (y_move rfl)) rfl ?_
                  refine QJ.on rfl rfl (cB hb88) (YldS.yld (y_move rfl)) rfl ?_
                  obtain ⟨c89, h90, h87⟩ := bindS h87
                  refine QJ.on rfl rfl (cB hb88) (YldS.yld (y_idxStr Try.runUnderlying9 rfl rfl h90)) rfl ?_
                  refine QJ.on rfl rfl (cB hb88) (YldS.yld (y_move rfl)) rfl ?_
                  refine QJ.on rfl rfl (cB hb88) (YldS.yld (y_move rfl)) rfl ?_
                  obtain ⟨c91, h92, h87⟩ := bindS h87
                  refine QJ.on rfl rfl (cB hb88) (YldS.yld (y_idxStr Try.runUnderlying9 rfl rfl h92)) rfl ?_
                  refine QJ.on rfl rfl (cB hb88) (YldS.yld (y_bin8 c89 c91 rfl rfl rfl)) rfl ?_
                  refine QJ.step (YldS.yld (y_pick_t (cB hb88) rfl)) rfl ?_
                  obtain rfl := Option.some.inj h87
                  exact QJ.cut_end ⟨rfl, rfl, rfl, rfl, rfl, rfl, rfl, rfl, trivial⟩
                · obtain rfl := andF h87 hb88
                  refine QJ.off rfl rfl (cB hb88) rfl rfl ?_
                  refine QJ.off rfl rfl (cB hb88) rfl rfl ?_
                  refine QJ.off rfl rfl (cB hb88) rfl rfl ?_
                  refine QJ.off rfl rfl (cB hb88) rfl rfl ?_
                  refine QJ.off rfl rfl (cB hb88) rfl rfl ?_
                  refine QJ.off rfl rfl (cB hb88) rfl rfl ?_
                  refine QJ.off rfl rfl (cB hb88) rfl rfl ?_
                  refine QJ.step (YldS.yld (y_pick_f (cB hb88) rfl)) rfl ?_
                  exact QJ.cut_end ⟨rfl, rfl, rfl, rfl, rfl, rfl, rfl, rfl, trivial⟩
              refine QJ.step (YldS.yld (y_move rfl)) rfl ?_
              obtain ⟨t93, h94, hm⟩ := bindS hm
              refine QJ.cut 13 [(0, str want1), (1, str typed2), (5, v5), (6, v13), (7, .int .i64 i14), (8, .int .i64 k15), (157, .bool t93)] ?_ ?_
              · rcases Bool.eq_false_or_eq_true t86 with hb95 | hb95
                · replace h94 := andT h94 hb95
                  refine QJ.on rfl rfl (cB hb95) (YldS.yld (y_move rfl)) rfl ?_
                  refine QJ.on rfl rfl (cB hb95) (YldS.yld (y_move rfl)) rfl ?_
                  refine QJ.on rfl rfl (cB hb95) (YldS.yld (y_bin rfl rfl rfl)) rfl ?_
                  obtain ⟨e96, h97, h94⟩ := bindS h94
                  obtain ⟨y98, hy99⟩ := inn_idx hl82 h97
                  refine QJ.on rfl rfl (cB hb95) (YldS.yld (y_ixRow (k := 1) (R := fRaw1) rfl Try.runUnderlying98 Try.sizeOf24 rfl rfl hy99)) rfl ?_
                  refine QJ.on rfl rfl (cB hb95) (YldS.yld (y_loadR (k := 1) (i := (Int.toNat (w64 (i14 + 1)))) (off := 0) rfl Try.isAgg24 rfl (idx_get hy99) (raw_get y98))) rfl ?_
                  refine QJ.on rfl rfl (cB hb95) (YldS.yld (y_move rfl)) rfl ?_
                  refine QJ.on rfl rfl (cB hb95) (YldS.yld (y_bin rfl rfl rfl)) rfl ?_
                  obtain ⟨e100, h101, h94⟩ := bindS h94
                  refine QJ.on rfl rfl (cB hb95) (YldS.yld (y_ixG (R := fI64) (fun w hw => (hw.inn_rd (k := 2) rfl rfl hy99 h97)) Try.runUnderlying24 Try.sizeOf2 rfl rfl h101)) rfl ?_
                  refine QJ.on rfl rfl (cB hb95) (YldS.yld (y_loadG (R := fI64) (i := (Int.toNat (w64 (k15 + 1)))) (off := 0) (fun w hw => (hw.inn_rd (k := 2) rfl rfl hy99 h97)) Try.isAgg2 rfl (idx_get h101) rfl)) rfl ?_
                  refine QJ.on rfl rfl (cB hb95) (YldS.yld (y_bin rfl rfl rfl)) rfl ?_
                  refine QJ.on rfl rfl (cB hb95) (YldS.yld (y_move rfl)) rfl ?_
                  refine QJ.on rfl rfl (cB hb95) (YldS.yld (y_bin rfl rfl rfl)) rfl ?_
                  refine QJ.step (YldS.yld (y_pick_t (cB hb95) rfl)) rfl ?_
                  obtain rfl := Option.some.inj h94
                  exact QJ.cut_end ⟨rfl, rfl, rfl, rfl, rfl, rfl, rfl, trivial⟩
                · obtain rfl := andF h94 hb95
                  refine QJ.off rfl rfl (cB hb95) rfl rfl ?_
                  refine QJ.off rfl rfl (cB hb95) rfl rfl ?_
                  refine QJ.off rfl rfl (cB hb95) rfl rfl ?_
                  refine QJ.off rfl rfl (cB hb95) rfl rfl ?_
                  refine QJ.off rfl rfl (cB hb95) rfl rfl ?_
                  refine QJ.off rfl rfl (cB hb95) rfl rfl ?_
                  refine QJ.off rfl rfl (cB hb95) rfl rfl ?_
                  refine QJ.off rfl rfl (cB hb95) rfl rfl ?_
                  refine QJ.off rfl rfl (cB hb95) rfl rfl ?_
                  refine QJ.off rfl rfl (cB hb95) rfl rfl ?_
                  refine QJ.off rfl rfl (cB hb95) rfl rfl ?_
                  refine QJ.off rfl rfl (cB hb95) rfl rfl ?_
                  refine QJ.step (YldS.yld (y_pick_f (cB hb95) rfl)) rfl ?_
                  exact QJ.cut_end ⟨rfl, rfl, rfl, rfl, rfl, rfl, rfl, trivial⟩
              refine QJ.step (YldS.yld (y_assign rfl)) rfl ?_
              refine QJ.done ?_
              refine PJ.next ?_
              refine WJ.cond (t := t93) rfl (fun hb102 => ?_) (fun hb102 => ?_)
              · replace hm := ifT hm hb102
                refine WJ.seq ?_
                refine WJ.reg ?_
                refine SJ.q (YldS.yld (y_move rfl)) rfl ?_
                refine SJ.buildSlice (R := fByte) (os := [.const (.int .u8 (UInt8.toNat 120 : Int))]) [120] Try.runUnderlying22 Try.sizeOf5 Try.zeroValue5 rfl rfl rfl rfl rfl rfl fun v103 => ?_
                obtain ⟨l104, h105, hm⟩ := bindS hm
                refine SJ.append (k := 1) (R := fByte) h105 rfl Try.underlying22 el5 rfl rfl rfl (fun w hw => (hw.row_rd (k := 0) rfl)) rfl fun v106 => ?_
                refine SJ.q (YldS.yld (y_assign rfl)) rfl ?_
                refine SJ.nil ?_
                refine PJ.next ?_
                refine WJ.seq ?_
                refine WJ.quiet ?_
                refine QJ.step (YldS.yld (y_move rfl)) rfl ?_
                refine QJ.step (YldS.yld (y_bin rfl rfl rfl)) rfl ?_
                refine QJ.step (YldS.yld (y_assign rfl)) rfl ?_
                refine QJ.done ?_
                refine PJ.next ?_
                refine WJ.quiet ?_
                refine QJ.step (YldS.yld (y_move rfl)) rfl ?_
                refine QJ.step (YldS.yld (y_bin rfl rfl rfl)) rfl ?_
                refine QJ.step (YldS.yld (y_assign rfl)) rfl ?_
                refine QJ.done ?_
                refine PJ.block_normal (PJ.block_normal ?_)
                exact PJ.round (l104, v106, w64 (i14 + 1), w64 (k15 + 1)) [1, 2, 3] hm ⟨rfl, rfl, rfl, rfl, rfl, rfl, trivial⟩ ⟨by decide, rfl⟩
              · replace hm := ifF hm hb102
                refine WJ.seq ?_
                refine WJ.reg ?_
                refine SJ.q (YldS.yld (y_move rfl)) rfl ?_
                refine SJ.buildSlice (R := fByte) (os := [.const (.int .u8 (UInt8.toNat 126 : Int))]) [126] Try.runUnderlying22 Try.sizeOf5 Try.zeroValue5 rfl rfl rfl rfl rfl rfl fun v107 => ?_
                obtain ⟨l108, h109, hm⟩ := bindS hm
                refine SJ.append (k := 1) (R := fByte) h109 rfl Try.underlying22 el5 rfl rfl rfl (fun w hw => (hw.row_rd (k := 0) rfl)) rfl fun v110 => ?_
                refine SJ.q (YldS.yld (y_assign rfl)) rfl ?_
                refine SJ.nil ?_
                refine PJ.next ?_
                refine WJ.seq ?_
                refine WJ.quiet ?_
                refine QJ.step (YldS.yld (y_move rfl)) rfl ?_
                refine QJ.step (YldS.yld (y_bin rfl rfl rfl)) rfl ?_
                refine QJ.step (YldS.yld (y_assign rfl)) rfl ?_
                refine QJ.done ?_
                refine PJ.next ?_
                refine WJ.quiet ?_
                refine QJ.step (YldS.yld (y_move rfl)) rfl ?_
                refine QJ.step (YldS.yld (y_bin rfl rfl rfl)) rfl ?_
                refine QJ.step (YldS.yld (y_assign rfl)) rfl ?_
                refine QJ.done ?_
                refine PJ.block_normal (PJ.block_normal ?_)
                exact PJ.round (l108, v110, w64 (i14 + 2), w64 (k15 + 2)) [1, 2, 3] hm ⟨rfl, rfl, rfl, rfl, rfl, rfl, trivial⟩ ⟨by decide, rfl⟩
      · replace hm := ifF hm hb19
        refine WJ.exit ?_
        refine PJ.then_exit (PJ.then_exit (PJ.block_exit ?_))
        exact PJ.joined (l12, v13) [0] hm ⟨rfl, trivial⟩ ⟨by decide, rfl⟩
  · rintro ⟨l8, v9⟩ hm
    subst hk11
    refine WJ.seq ?_
    refine WJ.quiet ?_
    refine QJ.step (YldS.yld (y_move rfl)) rfl ?_
    refine QJ.step (YldS.yld (y_b2s Try.underlying22 Try.underlying9 Try.underlying5 (fun w hw => ⟨_, (hw.row_rd (k := 0) rfl)⟩) rfl)) rfl ?_
    refine QJ.step (YldS.yld (y_assign rfl)) rfl ?_
    refine QJ.done ?_
    refine PJ.next ?_
    refine WJ.ret ?_
    obtain rfl := Option.some.inj hm
    refine PJ.sel (L' := []) [] ⟨List.nodup_nil, rfl⟩ ?_
    exact PJ.retn (vs := [str l8]) Try.results50 ⟨rfl, trivial⟩ ⟨rfl, rfl⟩

set_option maxRecDepth 100000 in
set_option maxHeartbeats 1000000 in
theorem ok_s_AlignTexts {N : Nat} {want1 : Str} {typed2 : Str} {r : Str × Int} (hm : s_AlignTexts N want1 typed2 = some r) (w : World)  :
    Calls Try.prog 16 #[str want1, str typed2] w (Ret (cx w) (tup [str r.1, .int .i64 r.2])) := by
  unfold s_AlignTexts at hm
  refine Calls.enter [str want1, str typed2] Try.func16 rfl Try.ntmps16 rfl ?_
  refine WJ.seq ?_
  refine WJ.quiet ?_
  refine QJ.step (YldS.yld (y_assign rfl)) rfl ?_
  refine QJ.step (YldS.yld (y_assign rfl)) rfl ?_
  refine QJ.done ?_
  refine PJ.next ?_
  refine WJ.seq ?_
  refine WJ.quiet ?_
  refine QJ.step (YldS.yld (y_move rfl)) rfl ?_
  refine QJ.step (YldS.yld (y_move rfl)) rfl ?_
  obtain ⟨r3, h4, hm⟩ := bindS hm
  refine QJ.step (y_call Try.call49 rfl (RetG.quiet fun w hw => ok_s_l19Two h4 w )) rfl ?_
  refine QJ.step (YldS.yld (y_assign rfl)) rfl ?_
  refine QJ.done ?_
  refine PJ.next ?_
  refine WJ.seq ?_
  refine WJ.seq ?_
  refine WJ.quiet ?_
  refine QJ.step (YldS.yld (y_move rfl)) rfl ?_
  refine QJ.step (YldS.yld (y_bin rfl rfl rfl)) rfl ?_
  refine QJ.done ?_
  refine PJ.next ?_
  refine WJ.cond (t := (r3 != 0)) rfl (fun hb5 => ?_) (fun hb5 => ?_)
  · replace hm := ifT hm hb5
    refine WJ.seq ?_
    refine WJ.quiet ?_
    refine QJ.step (YldS.yld (y_move rfl)) rfl ?_
    refine QJ.step (YldS.yld (y_assign rfl)) rfl ?_
    refine QJ.step (YldS.yld (y_assign rfl)) rfl ?_
    refine QJ.done ?_
    refine PJ.next ?_
    refine WJ.ret ?_
    refine PJ.then_ret ?_
    obtain rfl := Option.some.inj hm
    refine PJ.sel (L' := []) [] ⟨List.nodup_nil, rfl⟩ ?_
    exact PJ.retn (vs := [str [], .int .i64 r3]) Try.results16 ⟨rfl, rfl, trivial⟩ ⟨rfl, rfl⟩
  · replace hm := ifF hm hb5
    refine WJ.skip ?_
    refine PJ.next ?_
    refine WJ.seq ?_
    refine WJ.quiet ?_
    refine QJ.step (YldS.yld (y_move rfl)) rfl ?_
    refine QJ.step (YldS.yld (y_move rfl)) rfl ?_
    obtain ⟨r6, h7, hm⟩ := bindS hm
    refine QJ.step (y_call Try.call50 rfl (RetG.quiet fun w hw => ok_s_l19Align h7 w )) rfl ?_
    refine QJ.step (YldS.yld (y_assign rfl)) rfl ?_
    refine QJ.step (YldS.yld (y_assign rfl)) rfl ?_
    refine QJ.done ?_
    refine PJ.next ?_
    refine WJ.ret ?_
    obtain rfl := Option.some.inj hm
    refine PJ.sel (L' := []) [] ⟨List.nodup_nil, rfl⟩ ?_
    exact PJ.retn (vs := [str r6, .int .i64 0]) Try.results16 ⟨rfl, rfl, trivial⟩ ⟨rfl, rfl⟩

set_option maxRecDepth 100000 in
set_option maxHeartbeats 1000000 in
theorem ok_i_areSteps {N : Nat} {steps1 : Str} {r : Bool} (hm : i_areSteps N steps1 = some r) (w : World)  :
    Calls Try.prog 51 #[str steps1] w (Ret (cx w) (.bool r)) := by
  unfold i_areSteps at hm
  refine Calls.enter [str steps1] Try.func51 rfl Try.ntmps51 rfl ?_
  refine WJ.seq ?_
  refine WJ.quiet ?_
  refine QJ.step (YldS.yld (y_assign rfl)) rfl ?_
  refine QJ.done ?_
  refine PJ.next ?_
  obtain ⟨kj2, hk3, hm⟩ := withK_open hm
  refine WJ.join (X := Unit) (fun (_ : Unit) => kj2  = some r) (fun (_ : Unit) => [(0, str steps1)]) (fun (_ : Unit) => []) ?_ ?_
  · clear hk3
    refine WJ.seq ?_
    refine WJ.quiet ?_
    refine QJ.step (YldS.yld (y_move rfl)) rfl ?_
    refine QJ.step (YldS.yld (y_lenStr Try.runUnderlying9 rfl)) rfl ?_
    refine QJ.step (YldS.yld (y_move rfl)) rfl ?_
    refine QJ.done ?_
    refine PJ.next ?_
    refine WJ.block ?_
    refine WJ.sel (L' := (fun (x : Int) => []) 0) [] ⟨List.nodup_nil, rfl⟩ ?_
    refine WJ.sub (m' := (fun (x : Int) => [(0, str steps1), (5, .int .i64 (List.length steps1 : Int)), (6, .int .i64 x)]) 0) ⟨rfl, rfl, rfl, trivial⟩ ?_
    refine WJ.loop (X := Int) (fun N (x : Int) => i_areSteps_l1 kj2 steps1 N x = some r) (fun (x : Int) => [(0, str steps1), (5, .int .i64 (List.length steps1 : Int)), (6, .int .i64 x)]) (fun (x : Int) => []) ?_ N 0 hm
    · rintro N x4 hI
      have hm := hI; clear hI
      cases N with
      | zero => cases hm
      | succ N =>
      unfold i_areSteps_l1 at hm
      refine WJ.seq ?_
      refine WJ.quiet ?_
      refine QJ.step (YldS.yld (y_bin rfl rfl rfl)) rfl ?_
      refine QJ.done ?_
      refine PJ.next ?_
      refine WJ.seq ?_
      refine WJ.cond (t := decide (x4 < (List.length steps1 : Int))) rfl (fun hb5 => ?_) (fun hb5 => ?_)
      · replace hm := ifT hm hb5
        refine WJ.skip ?_
        refine PJ.next ?_
        refine WJ.seq ?_
        refine WJ.block ?_
        refine WJ.seq ?_
        refine WJ.quiet ?_
        refine QJ.step (YldS.yld (y_move rfl)) rfl ?_
        refine QJ.step (YldS.yld (y_assign rfl)) rfl ?_
        refine QJ.done ?_
        refine PJ.next ?_
        refine WJ.seq ?_
        refine WJ.quiet ?_
        refine QJ.step (YldS.yld (y_move rfl)) rfl ?_
        refine QJ.step (YldS.yld (y_move rfl)) rfl ?_
        obtain ⟨c6, h7, hm⟩ := bindS hm
        refine QJ.step (YldS.yld (y_idxStr Try.runUnderlying9 rfl rfl h7)) rfl ?_
        refine QJ.done ?_
        refine PJ.next ?_
        refine WJ.block ?_
        obtain ⟨kj9, hk10, hm⟩ := withK_open hm
        refine WJ.join (X := Bool) (fun (x : Bool) => kj9 x = some r) (fun (x : Bool) => [(0, str steps1), (5, .int .i64 (List.length steps1 : Int)), (6, .int .i64 x4), (12, .bool x)]) (fun (x : Bool) => []) ?_ ?_
        · clear hk10
          refine WJ.seq ?_
          refine WJ.quiet ?_
          refine QJ.step (YldS.yld (y_bin8 c6 (61 : UInt8) rfl rfl rfl)) rfl ?_
          refine QJ.step (YldS.yld (y_assign rfl)) rfl ?_
          refine QJ.done ?_
          refine PJ.next ?_
          refine WJ.cond (t := (c6 == (61 : UInt8))) rfl (fun hb11 => ?_) (fun hb11 => ?_)
          · replace hm := ifT hm hb11
            refine WJ.skip ?_
            exact PJ.joined (c6 == (61 : UInt8)) [] hm ⟨rfl, rfl, rfl, rfl, trivial⟩ ⟨List.nodup_nil, rfl⟩
          · replace hm := ifF hm hb11
            refine WJ.seq ?_
            refine WJ.quiet ?_
            refine QJ.step (YldS.yld (y_bin8 c6 (120 : UInt8) rfl rfl rfl)) rfl ?_
            refine QJ.step (YldS.yld (y_assign rfl)) rfl ?_
            refine QJ.done ?_
            refine PJ.next ?_
            refine WJ.cond (t := (c6 == (120 : UInt8))) rfl (fun hb12 => ?_) (fun hb12 => ?_)
            · replace hm := ifT hm hb12
              refine WJ.skip ?_
              exact PJ.joined (c6 == (120 : UInt8)) [] hm ⟨rfl, rfl, rfl, rfl, trivial⟩ ⟨List.nodup_nil, rfl⟩
            · replace hm := ifF hm hb12
              refine WJ.seq ?_
              refine WJ.quiet ?_
              refine QJ.step (YldS.yld (y_bin8 c6 (45 : UInt8) rfl rfl rfl)) rfl ?_
              refine QJ.step (YldS.yld (y_assign rfl)) rfl ?_
              refine QJ.done ?_
              refine PJ.next ?_
              refine WJ.cond (t := (c6 == (45 : UInt8))) rfl (fun hb13 => ?_) (fun hb13 => ?_)
              · replace hm := ifT hm hb13
                refine WJ.skip ?_
                exact PJ.joined (c6 == (45 : UInt8)) [] hm ⟨rfl, rfl, rfl, rfl, trivial⟩ ⟨List.nodup_nil, rfl⟩
              · replace hm := ifF hm hb13
                refine WJ.seq ?_
                refine WJ.quiet ?_
                refine QJ.step (YldS.yld (y_bin8 c6 (43 : UInt8) rfl rfl rfl)) rfl ?_
                refine QJ.step (YldS.yld (y_assign rfl)) rfl ?_
                refine QJ.done ?_
                refine PJ.next ?_
                refine WJ.cond (t := (c6 == (43 : UInt8))) rfl (fun hb14 => ?_) (fun hb14 => ?_)
                · replace hm := ifT hm hb14
                  refine WJ.skip ?_
                  exact PJ.joined (c6 == (43 : UInt8)) [] hm ⟨rfl, rfl, rfl, rfl, trivial⟩ ⟨List.nodup_nil, rfl⟩
                · replace hm := ifF hm hb14
                  refine WJ.quiet ?_
                  refine QJ.step (YldS.yld (y_bin8 c6 (126 : UInt8) rfl rfl rfl)) rfl ?_
                  refine QJ.step (YldS.yld (y_assign rfl)) rfl ?_
                  refine QJ.done ?_
                  exact PJ.joined (c6 == (126 : UInt8)) [] hm ⟨rfl, rfl, rfl, rfl, trivial⟩ ⟨List.nodup_nil, rfl⟩
        · rintro x8 hm
          subst hk10
          refine WJ.cond (t := x8) rfl (fun hb15 => ?_) (fun hb15 => ?_)
          · replace hm := ifT hm hb15
            refine WJ.skip ?_
            refine PJ.block_normal (PJ.block_normal (PJ.next ?_))
            refine WJ.quiet ?_
            refine QJ.step (YldS.yld (y_bin rfl rfl rfl)) rfl ?_
            refine QJ.step (YldS.yld (y_move rfl)) rfl ?_
            refine QJ.done ?_
            exact PJ.round (w64 (x4 + 1)) [] hm ⟨rfl, rfl, rfl, trivial⟩ ⟨List.nodup_nil, rfl⟩
          · replace hm := ifF hm hb15
            refine WJ.seq ?_
            refine WJ.quiet ?_
            refine QJ.step (YldS.yld (y_assign rfl)) rfl ?_
            refine QJ.done ?_
            refine PJ.next ?_
            refine WJ.ret ?_
            refine PJ.block_ret (PJ.block_ret (PJ.then_ret (PJ.then_ret (PJ.block_ret (PJ.then_ret ?_)))))
            obtain rfl := Option.some.inj hm
            refine PJ.sel (L' := []) [] ⟨List.nodup_nil, rfl⟩ ?_
            exact PJ.retn (vs := [.bool false]) Try.results51 ⟨rfl, trivial⟩ ⟨rfl, rfl⟩
      · replace hm := ifF hm hb5
        refine WJ.exit ?_
        refine PJ.then_exit (PJ.then_exit (PJ.block_exit ?_))
        exact PJ.joined () [] hm ⟨rfl, trivial⟩ ⟨List.nodup_nil, rfl⟩
  · rintro _ hm
    subst hk3
    refine WJ.seq ?_
    refine WJ.quiet ?_
    refine QJ.step (YldS.yld (y_move rfl)) rfl ?_
    refine QJ.step (YldS.yld (y_lenStr Try.runUnderlying9 rfl)) rfl ?_
    refine QJ.step (YldS.yld (y_bin rfl rfl rfl)) rfl ?_
    refine QJ.step (YldS.yld (y_assign rfl)) rfl ?_
    refine QJ.done ?_
    refine PJ.next ?_
    refine WJ.ret ?_
    obtain rfl := Option.some.inj hm
    refine PJ.sel (L' := []) [] ⟨List.nodup_nil, rfl⟩ ?_
    exact PJ.retn (vs := [.bool (decide ((List.length steps1 : Int) ≤ 120))]) Try.results51 ⟨rfl, trivial⟩ ⟨rfl, rfl⟩

set_option maxRecDepth 100000 in
set_option maxHeartbeats 1000000 in
theorem ok_i_countByte {N : Nat} {s1 : Str} {b2 : UInt8} {r : Int} (hm : i_countByte N s1 b2 = some r) (w : World)  :
    Calls Try.prog 52 #[str s1, .int .u8 (UInt8.toNat b2 : Int)] w (Ret (cx w) (.int .i64 r)) := by
  unfold i_countByte at hm
  refine Calls.enter [str s1, .int .u8 (UInt8.toNat b2 : Int)] Try.func52 rfl Try.ntmps52 rfl ?_
  refine WJ.seq ?_
  refine WJ.quiet ?_
  refine QJ.step (YldS.yld (y_assign rfl)) rfl ?_
  refine QJ.done ?_
  refine PJ.next ?_
  refine WJ.seq ?_
  refine WJ.quiet ?_
  refine QJ.step (YldS.yld (y_assign rfl)) rfl ?_
  refine QJ.done ?_
  refine PJ.next ?_
  obtain ⟨kj4, hk5, hm⟩ := withK_open hm
  refine WJ.join (X := Int) (fun (x : Int) => kj4 x = some r) (fun (x : Int) => [(5, .int .i64 x)]) (fun (x : Int) => []) ?_ ?_
  · clear hk5
    refine WJ.seq ?_
    refine WJ.quiet ?_
    refine QJ.step (YldS.yld (y_move rfl)) rfl ?_
    refine QJ.step (YldS.yld (y_lenStr Try.runUnderlying9 rfl)) rfl ?_
    refine QJ.step (YldS.yld (y_move rfl)) rfl ?_
    refine QJ.done ?_
    refine PJ.next ?_
    refine WJ.block ?_
    refine WJ.sel (L' := (fun (x : Int × Int) => []) (0, 0)) [] ⟨List.nodup_nil, rfl⟩ ?_
    refine WJ.sub (m' := (fun (x : Int × Int) => [(0, str s1), (1, .int .u8 (UInt8.toNat b2 : Int)), (5, .int .i64 x.1), (8, .int .i64 (List.length s1 : Int)), (9, .int .i64 x.2)]) (0, 0)) ⟨rfl, rfl, rfl, rfl, rfl, trivial⟩ ?_
    refine WJ.loop (X := Int × Int) (fun N (x : Int × Int) => i_countByte_l1 kj4 s1 b2 N x.1 x.2 = some r) (fun (x : Int × Int) => [(0, str s1), (1, .int .u8 (UInt8.toNat b2 : Int)), (5, .int .i64 x.1), (8, .int .i64 (List.length s1 : Int)), (9, .int .i64 x.2)]) (fun (x : Int × Int) => []) ?_ N (0, 0) hm
    · rintro N ⟨n6, x7⟩ hI
      have hm := hI; clear hI
      cases N with
      | zero => cases hm
      | succ N =>
      unfold i_countByte_l1 at hm
      refine WJ.seq ?_
      refine WJ.quiet ?_
      refine QJ.step (YldS.yld (y_bin rfl rfl rfl)) rfl ?_
      refine QJ.done ?_
      refine PJ.next ?_
      refine WJ.seq ?_
      refine WJ.cond (t := decide (x7 < (List.length s1 : Int))) rfl (fun hb8 => ?_) (fun hb8 => ?_)
      · replace hm := ifT hm hb8
        refine WJ.skip ?_
        refine PJ.next ?_
        obtain ⟨kj10, hk11, hm⟩ := withK_open hm
        refine WJ.join (X := Int) (fun (x : Int) => kj10 x = some r) (fun (x : Int) => [(0, str s1), (1, .int .u8 (UInt8.toNat b2 : Int)), (5, .int .i64 x), (8, .int .i64 (List.length s1 : Int)), (9, .int .i64 x7)]) (fun (x : Int) => []) ?_ ?_
        · clear hk11
          refine WJ.block ?_
          refine WJ.seq ?_
          refine WJ.quiet ?_
          refine QJ.step (YldS.yld (y_move rfl)) rfl ?_
          refine QJ.step (YldS.yld (y_assign rfl)) rfl ?_
          refine QJ.done ?_
          refine PJ.next ?_
          refine WJ.seq ?_
          refine WJ.quiet ?_
          refine QJ.step (YldS.yld (y_move rfl)) rfl ?_
          refine QJ.step (YldS.yld (y_move rfl)) rfl ?_
          obtain ⟨c12, h13, hm⟩ := bindS hm
          refine QJ.step (YldS.yld (y_idxStr Try.runUnderlying9 rfl rfl h13)) rfl ?_
          refine QJ.step (YldS.yld (y_move rfl)) rfl ?_
          refine QJ.step (YldS.yld (y_bin8 c12 b2 rfl rfl rfl)) rfl ?_
          refine QJ.done ?_
          refine PJ.next ?_
          refine WJ.cond (t := (c12 == b2)) rfl (fun hb14 => ?_) (fun hb14 => ?_)
          · replace hm := ifT hm hb14
            refine WJ.quiet ?_
            refine QJ.step (YldS.yld (y_move rfl)) rfl ?_
            refine QJ.step (YldS.yld (y_bin rfl rfl rfl)) rfl ?_
            refine QJ.step (YldS.yld (y_assign rfl)) rfl ?_
            refine QJ.done ?_
            refine PJ.block_normal ?_
            exact PJ.joined (w64 (n6 + 1)) [] hm ⟨rfl, rfl, rfl, rfl, rfl, trivial⟩ ⟨List.nodup_nil, rfl⟩
          · replace hm := ifF hm hb14
            refine WJ.skip ?_
            refine PJ.block_normal ?_
            exact PJ.joined n6 [] hm ⟨rfl, rfl, rfl, rfl, rfl, trivial⟩ ⟨List.nodup_nil, rfl⟩
        · rintro n9 hm
          subst hk11
          refine WJ.quiet ?_
          refine QJ.step (YldS.yld (y_bin rfl rfl rfl)) rfl ?_
          refine QJ.step (YldS.yld (y_move rfl)) rfl ?_
          refine QJ.done ?_
          exact PJ.round (n9, w64 (x7 + 1)) [] hm ⟨rfl, rfl, rfl, rfl, rfl, trivial⟩ ⟨List.nodup_nil, rfl⟩
      · replace hm := ifF hm hb8
        refine WJ.exit ?_
        refine PJ.then_exit (PJ.then_exit (PJ.block_exit ?_))
        exact PJ.joined n6 [] hm ⟨rfl, trivial⟩ ⟨List.nodup_nil, rfl⟩
  · rintro n3 hm
    subst hk5
    refine WJ.seq ?_
    refine WJ.quiet ?_
    refine QJ.step (YldS.yld (y_move rfl)) rfl ?_
    refine QJ.step (YldS.yld (y_assign rfl)) rfl ?_
    refine QJ.done ?_
    refine PJ.next ?_
    refine WJ.ret ?_
    obtain rfl := Option.some.inj hm
    refine PJ.sel (L' := []) [] ⟨List.nodup_nil, rfl⟩ ?_
    exact PJ.retn (vs := [.int .i64 n3]) Try.results52 ⟨rfl, trivial⟩ ⟨rfl, rfl⟩

set_option maxRecDepth 100000 in
set_option maxHeartbeats 1000000 in
theorem ok_i_ErrorsIn {N : Nat} {steps1 : Str} {r : (List Int) × Int} (hm : i_ErrorsIn N steps1 = some r) (w : World)  :
    Calls Try.prog 17 #[str steps1] w (RetG (cx w) fun u L => ∃ (u1 : Value), (u = tup [u1, .int .i64 r.2] ∧ L = [row u1 2 fI64 r.1])) := by
  unfold i_ErrorsIn at hm
  refine Calls.enter [str steps1] Try.func17 rfl Try.ntmps17 rfl ?_
  refine WJ.seq ?_
  refine WJ.quiet ?_
  refine QJ.step (YldS.yld (y_assign rfl)) rfl ?_
  refine QJ.step (YldS.yld (y_assign rfl)) rfl ?_
  refine QJ.done ?_
  refine PJ.next ?_
  refine WJ.seq ?_
  refine WJ.seq ?_
  refine WJ.quiet ?_
  refine QJ.step (YldS.yld (y_move rfl)) rfl ?_
  obtain ⟨r2, h3, hm⟩ := bindS hm
  refine QJ.step (y_call Try.call51 rfl (RetG.quiet fun w hw => ok_i_areSteps h3 w )) rfl ?_
  refine QJ.step (YldS.yld (y_not rfl)) rfl ?_
  refine QJ.done ?_
  refine PJ.next ?_
  refine WJ.cond (t := !r2) rfl (fun hb4 => ?_) (fun hb4 => ?_)
  · replace hm := ifT hm hb4
    refine WJ.seq ?_
    refine WJ.quiet ?_
    refine QJ.step (YldS.yld (y_assign rfl)) rfl ?_
    refine QJ.step (YldS.yld (y_assign rfl)) rfl ?_
    refine QJ.done ?_
    refine PJ.next ?_
    refine WJ.ret ?_
    refine PJ.then_ret ?_
    refine PJ.nil_row 2 fI64 ?_
    obtain rfl := Option.some.inj hm
    refine PJ.sel (L' := [row (.slice none 0 0) 2 fI64 []]) [0] ⟨by decide, rfl⟩ ?_
    exact PJ.retn (vs := [(.slice none 0 0), .int .i64 7]) Try.results17 ⟨rfl, rfl, trivial⟩ ⟨_, rfl, rfl⟩
  · replace hm := ifF hm hb4
    refine WJ.skip ?_
    refine PJ.next ?_
    refine WJ.seq ?_
    refine WJ.reg ?_
    refine SJ.buildSlice (R := fI64) (os := []) [] Try.runUnderlying24 Try.sizeOf2 Try.zeroValue2 rfl rfl rfl rfl rfl rfl fun v5 => ?_
    refine SJ.q (YldS.yld (y_assign rfl)) rfl ?_
    refine SJ.nil ?_
    refine PJ.next ?_
    obtain ⟨kj8, hk9, hm⟩ := withK_open hm
    refine WJ.join (X := (List Int) × Value) (fun (x : (List Int) × Value) => kj8 x.1 = some r) (fun (x : (List Int) × Value) => [(4, x.2)]) (fun (x : (List Int) × Value) => [row x.2 2 fI64 x.1]) ?_ ?_
    · clear hk9
      refine WJ.seq ?_
      refine WJ.reg ?_
      refine SJ.buildSlice (R := fByte) (os := [.const (.int .u8 (UInt8.toNat 43 : Int)), .const (.int .u8 (UInt8.toNat 45 : Int)), .const (.int .u8 (UInt8.toNat 120 : Int)), .const (.int .u8 (UInt8.toNat 126 : Int))]) [43, 45, 120, 126] Try.runUnderlying22 Try.sizeOf5 Try.zeroValue5 rfl rfl rfl rfl rfl rfl fun v10 => ?_
      refine SJ.convMark (k := 0) rfl Try.underlying22 Try.underlying5 rfl rfl ?_
      refine SJ.q (YldS.yld (y_lenRowM (k := 0) rfl Try.runUnderlying22 rfl)) rfl ?_
      refine SJ.q (YldS.yld (y_move rfl)) rfl ?_
      refine SJ.nil ?_
      refine PJ.next ?_
      refine WJ.block ?_
      refine WJ.sel (L' := (fun (x : (List Int) × Value × Int) => [rowM v10 5 fByte [43, 45, 120, 126], row x.2.1 2 fI64 x.1]) ([], v5, 0)) [0, 1] ⟨by decide, rfl⟩ ?_
      refine WJ.sub (m' := (fun (x : (List Int) × Value × Int) => [(0, str steps1), (4, x.2.1), (12, v10), (13, .int .i64 (List.length [43, 45, 120, 126] : Int)), (14, .int .i64 x.2.2)]) ([], v5, 0)) ⟨rfl, rfl, rfl, rfl, rfl, trivial⟩ ?_
      refine WJ.loop (X := (List Int) × Value × Int) (fun N (x : (List Int) × Value × Int) => i_ErrorsIn_l1 kj8 steps1 N x.1 x.2.2 = some r) (fun (x : (List Int) × Value × Int) => [(0, str steps1), (4, x.2.1), (12, v10), (13, .int .i64 (List.length [43, 45, 120, 126] : Int)), (14, .int .i64 x.2.2)]) (fun (x : (List Int) × Value × Int) => [rowM v10 5 fByte [43, 45, 120, 126], row x.2.1 2 fI64 x.1]) ?_ N ([], v5, 0) hm
      · rintro N ⟨l11, v12, x13⟩ hI
        have hm := hI; clear hI
        cases N with
        | zero => cases hm
        | succ N =>
        unfold i_ErrorsIn_l1 at hm
        refine WJ.seq ?_
        refine WJ.quiet ?_
        refine QJ.step (YldS.yld (y_bin rfl rfl rfl)) rfl ?_
        refine QJ.done ?_
        refine PJ.next ?_
        refine WJ.seq ?_
        refine WJ.cond (t := decide (x13 < (List.length [43, 45, 120, 126] : Int))) rfl (fun hb14 => ?_) (fun hb14 => ?_)
        · replace hm := ifT hm hb14
          refine WJ.skip ?_
          refine PJ.next ?_
          refine WJ.seq ?_
          refine WJ.block ?_
          refine WJ.seq ?_
          refine WJ.quiet ?_
          obtain ⟨e15, h16, hm⟩ := bindS hm
          refine QJ.step (YldS.yld (y_ixRowM (k := 0) (R := fByte) rfl Try.runUnderlying22 Try.sizeOf5 rfl rfl h16)) rfl ?_
          refine QJ.step (YldS.yld (y_loadRM (k := 0) (i := (Int.toNat x13)) (off := 0) (u := .int .u8 (UInt8.toNat e15 : Int)) rfl Try.isAgg5 rfl (idx_get h16) rfl)) rfl ?_
          refine QJ.step (YldS.yld (y_assign rfl)) rfl ?_
          refine QJ.done ?_
          refine PJ.next ?_
          refine WJ.reg ?_
          refine SJ.q (YldS.yld (y_move rfl)) rfl ?_
          refine SJ.q (YldS.yld (y_move rfl)) rfl ?_
          refine SJ.q (YldS.yld (y_move rfl)) rfl ?_
          obtain ⟨r17, h18, hm⟩ := bindS hm
          refine SJ.q (y_call Try.call52 rfl (RetG.quiet fun w hw => ok_i_countByte h18 w )) rfl ?_
          refine SJ.buildSlice (R := fI64) (os := [.tmp 21]) [r17] Try.runUnderlying24 Try.sizeOf2 Try.zeroValue2 rfl rfl rfl rfl rfl rfl fun v19 => ?_
          obtain ⟨l20, h21, hm⟩ := bindS hm
          refine SJ.append (k := 2) (R := fI64) h21 rfl Try.underlying24 el2 rfl rfl rfl (fun w hw => (hw.row_rd (k := 0) rfl)) rfl fun v22 => ?_
          refine SJ.q (YldS.yld (y_assign rfl)) rfl ?_
          refine SJ.nil ?_
          refine PJ.block_normal (PJ.next ?_)
          refine WJ.quiet ?_
          refine QJ.step (YldS.yld (y_bin rfl rfl rfl)) rfl ?_
          refine QJ.step (YldS.yld (y_move rfl)) rfl ?_
          refine QJ.done ?_
          exact PJ.round (l20, v22, w64 (x13 + 1)) [1, 2] hm ⟨rfl, rfl, rfl, rfl, rfl, trivial⟩ ⟨by decide, rfl⟩
        · replace hm := ifF hm hb14
          refine WJ.exit ?_
          refine PJ.then_exit (PJ.then_exit (PJ.block_exit ?_))
          exact PJ.joined (l11, v12) [1] hm ⟨rfl, trivial⟩ ⟨by decide, rfl⟩
    · rintro ⟨l6, v7⟩ hm
      subst hk9
      refine WJ.seq ?_
      refine WJ.quiet ?_
      refine QJ.step (YldS.yld (y_move rfl)) rfl ?_
      refine QJ.step (YldS.yld (y_assign rfl)) rfl ?_
      refine QJ.step (YldS.yld (y_assign rfl)) rfl ?_
      refine QJ.done ?_
      refine PJ.next ?_
      refine WJ.ret ?_
      obtain rfl := Option.some.inj hm
      refine PJ.sel (L' := [row v7 2 fI64 l6]) [0] ⟨by decide, rfl⟩ ?_
      exact PJ.retn (vs := [v7, .int .i64 0]) Try.results17 ⟨rfl, rfl, trivial⟩ ⟨_, rfl, rfl⟩

set_option maxRecDepth 100000 in
set_option maxHeartbeats 1000000 in
theorem ok_i_isText {N : Nat} {s1 : Str} {low2 : UInt8} {most3 : Int} {r : Bool} (hm : i_isText N s1 low2 most3 = some r) (w : World)  :
    Calls Try.prog 76 #[str s1, .int .u8 (UInt8.toNat low2 : Int), .int .i64 most3] w (Ret (cx w) (.bool r)) := by
  unfold i_isText at hm
  refine Calls.enter [str s1, .int .u8 (UInt8.toNat low2 : Int), .int .i64 most3] Try.func76 rfl Try.ntmps76 rfl ?_
  refine WJ.seq ?_
  refine WJ.quiet ?_
  refine QJ.step (YldS.yld (y_assign rfl)) rfl ?_
  refine QJ.done ?_
  refine PJ.next ?_
  refine WJ.seq ?_
  refine WJ.seq ?_
  refine WJ.quiet ?_
  refine QJ.step (YldS.yld (y_move rfl)) rfl ?_
  refine QJ.step (YldS.yld (y_lenStr Try.runUnderlying9 rfl)) rfl ?_
  refine QJ.step (YldS.yld (y_move rfl)) rfl ?_
  refine QJ.step (YldS.yld (y_bin rfl rfl rfl)) rfl ?_
  refine QJ.done ?_
  refine PJ.next ?_
  refine WJ.cond (t := decide ((List.length s1 : Int) > most3)) rfl (fun hb4 => ?_) (fun hb4 => ?_)
  · replace hm := ifT hm hb4
    refine WJ.seq ?_
    refine WJ.quiet ?_
    refine QJ.step (YldS.yld (y_assign rfl)) rfl ?_
    refine QJ.done ?_
    refine PJ.next ?_
    refine WJ.ret ?_
    refine PJ.then_ret ?_
    obtain rfl := Option.some.inj hm
    refine PJ.sel (L' := []) [] ⟨List.nodup_nil, rfl⟩ ?_
    exact PJ.retn (vs := [.bool false]) Try.results76 ⟨rfl, trivial⟩ ⟨rfl, rfl⟩
  · replace hm := ifF hm hb4
    refine WJ.skip ?_
    refine PJ.next ?_
    obtain ⟨kj5, hk6, hm⟩ := withK_open hm
    refine WJ.join (X := Unit) (fun (_ : Unit) => kj5  = some r) (fun (_ : Unit) => []) (fun (_ : Unit) => []) ?_ ?_
    · clear hk6
      refine WJ.seq ?_
      refine WJ.quiet ?_
      refine QJ.step (YldS.yld (y_move rfl)) rfl ?_
      refine QJ.step (YldS.yld (y_lenStr Try.runUnderlying9 rfl)) rfl ?_
      refine QJ.step (YldS.yld (y_move rfl)) rfl ?_
      refine QJ.done ?_
      refine PJ.next ?_
      refine WJ.block ?_
      refine WJ.sel (L' := (fun (x : Int) => []) 0) [] ⟨List.nodup_nil, rfl⟩ ?_
      refine WJ.sub (m' := (fun (x : Int) => [(0, str s1), (1, .int .u8 (UInt8.toNat low2 : Int)), (13, .int .i64 (List.length s1 : Int)), (14, .int .i64 x)]) 0) ⟨rfl, rfl, rfl, rfl, trivial⟩ ?_
      refine WJ.loop (X := Int) (fun N (x : Int) => i_isText_l1 kj5 s1 low2 N x = some r) (fun (x : Int) => [(0, str s1), (1, .int .u8 (UInt8.toNat low2 : Int)), (13, .int .i64 (List.length s1 : Int)), (14, .int .i64 x)]) (fun (x : Int) => []) ?_ N 0 hm
      · rintro N x7 hI
        have hm := hI; clear hI
        cases N with
        | zero => cases hm
        | succ N =>
        unfold i_isText_l1 at hm
        refine WJ.seq ?_
        refine WJ.quiet ?_
        refine QJ.step (YldS.yld (y_bin rfl rfl rfl)) rfl ?_
        refine QJ.done ?_
        refine PJ.next ?_
        refine WJ.seq ?_
        refine WJ.cond (t := decide (x7 < (List.length s1 : Int))) rfl (fun hb8 => ?_) (fun hb8 => ?_)
        · replace hm := ifT hm hb8
          refine WJ.skip ?_
          refine PJ.next ?_
          refine WJ.seq ?_
          refine WJ.block ?_
          refine WJ.seq ?_
          refine WJ.quiet ?_
          refine QJ.step (YldS.yld (y_move rfl)) rfl ?_
          refine QJ.step (YldS.yld (y_assign rfl)) rfl ?_
          refine QJ.done ?_
          refine PJ.next ?_
          refine WJ.seq ?_
          refine WJ.quiet ?_
          refine QJ.step (YldS.yld (y_move rfl)) rfl ?_
          refine QJ.step (YldS.yld (y_move rfl)) rfl ?_
          obtain ⟨c9, h10, hm⟩ := bindS hm
          refine QJ.step (YldS.yld (y_idxStr Try.runUnderlying9 rfl rfl h10)) rfl ?_
          refine QJ.step (YldS.yld (y_move rfl)) rfl ?_
          refine QJ.step (YldS.yld (y_bin8 c9 low2 rfl rfl rfl)) rfl ?_
          refine QJ.step (YldS.yld (y_move rfl)) rfl ?_
          obtain ⟨t11, h12, hm⟩ := bindS hm
          refine QJ.cut 5 [(0, str s1), (1, .int .u8 (UInt8.toNat low2 : Int)), (13, .int .i64 (List.length s1 : Int)), (14, .int .i64 x7), (27, .bool t11)] ?_ ?_
          · rcases Bool.eq_false_or_eq_true (decide (c9 < low2)) with hb13 | hb13
            · obtain rfl := orT h12 hb13
              refine QJ.off rfl rfl (cB hb13) rfl rfl ?_
              refine QJ.off rfl rfl (cB hb13) rfl rfl ?_
              refine QJ.off rfl rfl (cB hb13) rfl rfl ?_
              refine QJ.off rfl rfl (cB hb13) rfl rfl ?_
              refine QJ.step (YldS.yld (y_pick_t (cB hb13) rfl)) rfl ?_
              exact QJ.cut_end ⟨rfl, rfl, rfl, rfl, rfl, trivial⟩
            · replace h12 := orF h12 hb13
              refine QJ.on rfl rfl (cB hb13) (YldS.yld (y_move rfl)) rfl ?_
              refine QJ.on rfl rfl (cB hb13) (YldS.yld (y_move rfl)) rfl ?_
              obtain ⟨c14, h15, h12⟩ := bindS h12
              refine QJ.on rfl rfl (cB hb13) (YldS.yld (y_idxStr Try.runUnderlying9 rfl rfl h15)) rfl ?_
              refine QJ.on rfl rfl (cB hb13) (YldS.yld (y_bin8 c14 (126 : UInt8) rfl rfl rfl)) rfl ?_
              refine QJ.step (YldS.yld (y_pick_f (cB hb13) rfl)) rfl ?_
              obtain rfl := Option.some.inj h12
              exact QJ.cut_end ⟨rfl, rfl, rfl, rfl, rfl, trivial⟩
          refine QJ.done ?_
          refine PJ.next ?_
          refine WJ.cond (t := t11) rfl (fun hb16 => ?_) (fun hb16 => ?_)
          · replace hm := ifT hm hb16
            refine WJ.seq ?_
            refine WJ.quiet ?_
            refine QJ.step (YldS.yld (y_assign rfl)) rfl ?_
            refine QJ.done ?_
            refine PJ.next ?_
            refine WJ.ret ?_
            refine PJ.block_ret (PJ.then_ret (PJ.then_ret (PJ.block_ret (PJ.then_ret ?_))))
            obtain rfl := Option.some.inj hm
            refine PJ.sel (L' := []) [] ⟨List.nodup_nil, rfl⟩ ?_
            exact PJ.retn (vs := [.bool false]) Try.results76 ⟨rfl, trivial⟩ ⟨rfl, rfl⟩
          · replace hm := ifF hm hb16
            refine WJ.skip ?_
            refine PJ.block_normal (PJ.next ?_)
            refine WJ.quiet ?_
            refine QJ.step (YldS.yld (y_bin rfl rfl rfl)) rfl ?_
            refine QJ.step (YldS.yld (y_move rfl)) rfl ?_
            refine QJ.done ?_
            exact PJ.round (w64 (x7 + 1)) [] hm ⟨rfl, rfl, rfl, rfl, trivial⟩ ⟨List.nodup_nil, rfl⟩
        · replace hm := ifF hm hb8
          refine WJ.exit ?_
          refine PJ.then_exit (PJ.then_exit (PJ.block_exit ?_))
          exact PJ.joined () [] hm trivial ⟨List.nodup_nil, rfl⟩
    · rintro _ hm
      subst hk6
      refine WJ.seq ?_
      refine WJ.quiet ?_
      refine QJ.step (YldS.yld (y_assign rfl)) rfl ?_
      refine QJ.done ?_
      refine PJ.next ?_
      refine WJ.ret ?_
      obtain rfl := Option.some.inj hm
      refine PJ.sel (L' := []) [] ⟨List.nodup_nil, rfl⟩ ?_
      exact PJ.retn (vs := [.bool true]) Try.results76 ⟨rfl, trivial⟩ ⟨rfl, rfl⟩

set_option maxRecDepth 100000 in
set_option maxHeartbeats 1000000 in
theorem ok_i_isTyped {N : Nat} {s1 : Str} {r : Bool} (hm : i_isTyped N s1 = some r) (w : World)  :
    Calls Try.prog 53 #[str s1] w (Ret (cx w) (.bool r)) := by
  unfold i_isTyped at hm
  refine Calls.enter [str s1] Try.func53 rfl Try.ntmps53 rfl ?_
  refine WJ.seq ?_
  refine WJ.quiet ?_
  refine QJ.step (YldS.yld (y_assign rfl)) rfl ?_
  refine QJ.done ?_
  refine PJ.next ?_
  refine WJ.seq ?_
  refine WJ.quiet ?_
  refine QJ.step (YldS.yld (y_move rfl)) rfl ?_
  obtain ⟨r2, h3, hm⟩ := bindS hm
  refine QJ.step (y_call Try.call76 rfl (RetG.quiet fun w hw => ok_i_isText h3 w )) rfl ?_
  refine QJ.step (YldS.yld (y_assign rfl)) rfl ?_
  refine QJ.done ?_
  refine PJ.next ?_
  refine WJ.ret ?_
  obtain rfl := Option.some.inj hm
  refine PJ.sel (L' := []) [] ⟨List.nodup_nil, rfl⟩ ?_
  exact PJ.retn (vs := [.bool r2]) Try.results53 ⟨rfl, trivial⟩ ⟨rfl, rfl⟩

set_option maxRecDepth 100000 in
set_option maxHeartbeats 1000000 in
theorem ok_i_stepAt {want1 : Str} {typed2 : Str} {step3 : UInt8} {r : Int × Int × Int × Bool} (hm : i_stepAt want1 typed2 step3 = some r) (w : World)  :
    Calls Try.prog 77 #[str want1, str typed2, .int .u8 (UInt8.toNat step3 : Int)] w (Ret (cx w) (tup [.int .i64 r.1, .int .i64 r.2.1, .int .i64 r.2.2.1, .bool r.2.2.2])) := by
  unfold i_stepAt at hm
  refine Calls.enter [str want1, str typed2, .int .u8 (UInt8.toNat step3 : Int)] Try.func77 rfl Try.ntmps77 rfl ?_
  refine WJ.seq ?_
  refine WJ.quiet ?_
  refine QJ.step (YldS.yld (y_assign rfl)) rfl ?_
  refine QJ.step (YldS.yld (y_assign rfl)) rfl ?_
  refine QJ.step (YldS.yld (y_assign rfl)) rfl ?_
  refine QJ.step (YldS.yld (y_assign rfl)) rfl ?_
  refine QJ.done ?_
  refine PJ.next ?_
  refine WJ.seq ?_
  refine WJ.quiet ?_
  refine QJ.step (YldS.yld (y_move rfl)) rfl ?_
  refine QJ.step (YldS.yld (y_binS rfl rfl rfl)) rfl ?_
  refine QJ.step (YldS.yld (y_move rfl)) rfl ?_
  obtain ⟨t4, h5, hm⟩ := bindS hm
  refine QJ.cut 3 [(0, str want1), (1, str typed2), (2, .int .u8 (UInt8.toNat step3 : Int)), (16, .bool t4)] ?_ ?_
  · rcases Bool.eq_false_or_eq_true (want1 != []) with hb6 | hb6
    · replace h5 := andT h5 hb6
      refine QJ.on rfl rfl (cB hb6) (YldS.yld (y_move rfl)) rfl ?_
      refine QJ.on rfl rfl (cB hb6) (YldS.yld (y_binS rfl rfl rfl)) rfl ?_
      refine QJ.step (YldS.yld (y_pick_t (cB hb6) rfl)) rfl ?_
      obtain rfl := Option.some.inj h5
      exact QJ.cut_end ⟨rfl, rfl, rfl, rfl, trivial⟩
    · obtain rfl := andF h5 hb6
      refine QJ.off rfl rfl (cB hb6) rfl rfl ?_
      refine QJ.off rfl rfl (cB hb6) rfl rfl ?_
      refine QJ.step (YldS.yld (y_pick_f (cB hb6) rfl)) rfl ?_
      exact QJ.cut_end ⟨rfl, rfl, rfl, rfl, trivial⟩
  refine QJ.step (YldS.yld (y_assign rfl)) rfl ?_
  refine QJ.done ?_
  refine PJ.next ?_
  refine WJ.seq ?_
  refine WJ.seq ?_
  refine WJ.quiet ?_
  refine QJ.step (YldS.yld (y_move rfl)) rfl ?_
  refine QJ.done ?_
  refine PJ.next ?_
  refine WJ.block ?_
  refine WJ.seq ?_
  refine WJ.quiet ?_
  refine QJ.step (YldS.yld (y_bin8 step3 (61 : UInt8) rfl rfl rfl)) rfl ?_
  refine QJ.step (YldS.yld (y_assign rfl)) rfl ?_
  refine QJ.done ?_
  refine PJ.next ?_
  refine WJ.cond (t := (step3 == (61 : UInt8))) rfl (fun hb7 => ?_) (fun hb7 => ?_)
  · replace hm := ifT hm hb7
    refine WJ.seq ?_
    refine WJ.quiet_draw follows (by kernel_rfl) ?_
    refine QJ.step (YldS.yld (y_move rfl)) rfl ?_
    refine QJ.step (YldS.yld (y_move rfl)) rfl ?_
    obtain ⟨t8, h9, hm⟩ := bindS hm
    refine QJ.cut 6 [(27, .bool t8)] ?_ ?_
    · rcases Bool.eq_false_or_eq_true t4 with hb10 | hb10
      · replace h9 := andT h9 hb10
        refine QJ.on rfl rfl (cB hb10) (YldS.yld (y_move rfl)) rfl ?_
        obtain ⟨c11, h12, h9⟩ := bindS h9
        refine QJ.on rfl rfl (cB hb10) (YldS.yld (y_idxStr Try.runUnderlying9 rfl rfl h12)) rfl ?_
        refine QJ.on rfl rfl (cB hb10) (YldS.yld (y_move rfl)) rfl ?_
        obtain ⟨c13, h14, h9⟩ := bindS h9
        refine QJ.on rfl rfl (cB hb10) (YldS.yld (y_idxStr Try.runUnderlying9 rfl rfl h14)) rfl ?_
        refine QJ.on rfl rfl (cB hb10) (YldS.yld (y_bin8 c11 c13 rfl rfl rfl)) rfl ?_
        refine QJ.step (YldS.yld (y_pick_t (cB hb10) rfl)) rfl ?_
        obtain rfl := Option.some.inj h9
        exact QJ.cut_end ⟨rfl, trivial⟩
      · obtain rfl := andF h9 hb10
        refine QJ.off rfl rfl (cB hb10) rfl rfl ?_
        refine QJ.off rfl rfl (cB hb10) rfl rfl ?_
        refine QJ.off rfl rfl (cB hb10) rfl rfl ?_
        refine QJ.off rfl rfl (cB hb10) rfl rfl ?_
        refine QJ.off rfl rfl (cB hb10) rfl rfl ?_
        refine QJ.step (YldS.yld (y_pick_f (cB hb10) rfl)) rfl ?_
        exact QJ.cut_end ⟨rfl, trivial⟩
    refine QJ.step (YldS.yld (y_assign rfl)) rfl ?_
    refine QJ.step (YldS.yld (y_assign rfl)) rfl ?_
    refine QJ.step (YldS.yld (y_assign rfl)) rfl ?_
    refine QJ.step (YldS.yld (y_assign rfl)) rfl ?_
    refine QJ.done ?_
    refine PJ.next ?_
    refine WJ.ret ?_
    refine PJ.block_ret (PJ.then_ret ?_)
    obtain rfl := Option.some.inj hm
    refine PJ.sel (L' := []) [] ⟨List.nodup_nil, rfl⟩ ?_
    exact PJ.retn (vs := [.int .i64 1, .int .i64 1, .int .i64 0, .bool t8]) Try.results77 ⟨rfl, rfl, rfl, rfl, trivial⟩ ⟨rfl, rfl⟩
  · replace hm := ifF hm hb7
    refine WJ.seq ?_
    refine WJ.quiet ?_
    refine QJ.step (YldS.yld (y_bin8 step3 (120 : UInt8) rfl rfl rfl)) rfl ?_
    refine QJ.step (YldS.yld (y_assign rfl)) rfl ?_
    refine QJ.done ?_
    refine PJ.next ?_
    refine WJ.cond (t := (step3 == (120 : UInt8))) rfl (fun hb15 => ?_) (fun hb15 => ?_)
    · replace hm := ifT hm hb15
      refine WJ.seq ?_
      refine WJ.quiet_draw follows (by kernel_rfl) ?_
      refine QJ.step (YldS.yld (y_move rfl)) rfl ?_
      refine QJ.step (YldS.yld (y_move rfl)) rfl ?_
      obtain ⟨t16, h17, hm⟩ := bindS hm
      refine QJ.cut 6 [(37, .bool t16)] ?_ ?_
      · rcases Bool.eq_false_or_eq_true t4 with hb18 | hb18
        · replace h17 := andT h17 hb18
          refine QJ.on rfl rfl (cB hb18) (YldS.yld (y_move rfl)) rfl ?_
          obtain ⟨c19, h20, h17⟩ := bindS h17
          refine QJ.on rfl rfl (cB hb18) (YldS.yld (y_idxStr Try.runUnderlying9 rfl rfl h20)) rfl ?_
          refine QJ.on rfl rfl (cB hb18) (YldS.yld (y_move rfl)) rfl ?_
          obtain ⟨c21, h22, h17⟩ := bindS h17
          refine QJ.on rfl rfl (cB hb18) (YldS.yld (y_idxStr Try.runUnderlying9 rfl rfl h22)) rfl ?_
          refine QJ.on rfl rfl (cB hb18) (YldS.yld (y_bin8 c19 c21 rfl rfl rfl)) rfl ?_
          refine QJ.step (YldS.yld (y_pick_t (cB hb18) rfl)) rfl ?_
          obtain rfl := Option.some.inj h17
          exact QJ.cut_end ⟨rfl, trivial⟩
        · obtain rfl := andF h17 hb18
          refine QJ.off rfl rfl (cB hb18) rfl rfl ?_
          refine QJ.off rfl rfl (cB hb18) rfl rfl ?_
          refine QJ.off rfl rfl (cB hb18) rfl rfl ?_
          refine QJ.off rfl rfl (cB hb18) rfl rfl ?_
          refine QJ.off rfl rfl (cB hb18) rfl rfl ?_
          refine QJ.step (YldS.yld (y_pick_f (cB hb18) rfl)) rfl ?_
          exact QJ.cut_end ⟨rfl, trivial⟩
      refine QJ.step (YldS.yld (y_assign rfl)) rfl ?_
      refine QJ.step (YldS.yld (y_assign rfl)) rfl ?_
      refine QJ.step (YldS.yld (y_assign rfl)) rfl ?_
      refine QJ.step (YldS.yld (y_assign rfl)) rfl ?_
      refine QJ.done ?_
      refine PJ.next ?_
      refine WJ.ret ?_
      refine PJ.block_ret (PJ.then_ret ?_)
      obtain rfl := Option.some.inj hm
      refine PJ.sel (L' := []) [] ⟨List.nodup_nil, rfl⟩ ?_
      exact PJ.retn (vs := [.int .i64 1, .int .i64 1, .int .i64 1, .bool t16]) Try.results77 ⟨rfl, rfl, rfl, rfl, trivial⟩ ⟨rfl, rfl⟩
    · replace hm := ifF hm hb15
      refine WJ.seq ?_
      refine WJ.quiet ?_
      refine QJ.step (YldS.yld (y_bin8 step3 (45 : UInt8) rfl rfl rfl)) rfl ?_
      refine QJ.step (YldS.yld (y_assign rfl)) rfl ?_
      refine QJ.done ?_
      refine PJ.next ?_
      refine WJ.cond (t := (step3 == (45 : UInt8))) rfl (fun hb23 => ?_) (fun hb23 => ?_)
      · replace hm := ifT hm hb23
        refine WJ.seq ?_
        refine WJ.quiet ?_
        refine QJ.step (YldS.yld (y_move rfl)) rfl ?_
        refine QJ.step (YldS.yld (y_binS rfl rfl rfl)) rfl ?_
        refine QJ.step (YldS.yld (y_assign rfl)) rfl ?_
        refine QJ.step (YldS.yld (y_assign rfl)) rfl ?_
        refine QJ.step (YldS.yld (y_assign rfl)) rfl ?_
        refine QJ.step (YldS.yld (y_assign rfl)) rfl ?_
        refine QJ.done ?_
        refine PJ.next ?_
        refine WJ.ret ?_
        refine PJ.block_ret (PJ.then_ret ?_)
        obtain rfl := Option.some.inj hm
        refine PJ.sel (L' := []) [] ⟨List.nodup_nil, rfl⟩ ?_
        exact PJ.retn (vs := [.int .i64 1, .int .i64 0, .int .i64 1, .bool (want1 != [])]) Try.results77 ⟨rfl, rfl, rfl, rfl, trivial⟩ ⟨rfl, rfl⟩
      · replace hm := ifF hm hb23
        refine WJ.seq ?_
        refine WJ.quiet ?_
        refine QJ.step (YldS.yld (y_bin8 step3 (43 : UInt8) rfl rfl rfl)) rfl ?_
        refine QJ.step (YldS.yld (y_assign rfl)) rfl ?_
        refine QJ.done ?_
        refine PJ.next ?_
        refine WJ.cond (t := (step3 == (43 : UInt8))) rfl (fun hb24 => ?_) (fun hb24 => ?_)
        · replace hm := ifT hm hb24
          refine WJ.seq ?_
          refine WJ.quiet ?_
          refine QJ.step (YldS.yld (y_move rfl)) rfl ?_
          refine QJ.step (YldS.yld (y_binS rfl rfl rfl)) rfl ?_
          refine QJ.step (YldS.yld (y_assign rfl)) rfl ?_
          refine QJ.step (YldS.yld (y_assign rfl)) rfl ?_
          refine QJ.step (YldS.yld (y_assign rfl)) rfl ?_
          refine QJ.step (YldS.yld (y_assign rfl)) rfl ?_
          refine QJ.done ?_
          refine PJ.next ?_
          refine WJ.ret ?_
          refine PJ.block_ret (PJ.then_ret ?_)
          obtain rfl := Option.some.inj hm
          refine PJ.sel (L' := []) [] ⟨List.nodup_nil, rfl⟩ ?_
          exact PJ.retn (vs := [.int .i64 0, .int .i64 1, .int .i64 1, .bool (typed2 != [])]) Try.results77 ⟨rfl, rfl, rfl, rfl, trivial⟩ ⟨rfl, rfl⟩
        · replace hm := ifF hm hb24
          refine WJ.seq ?_
          refine WJ.quiet ?_
          refine QJ.step (YldS.yld (y_bin8 step3 (126 : UInt8) rfl rfl rfl)) rfl ?_
          refine QJ.step (YldS.yld (y_assign rfl)) rfl ?_
          refine QJ.done ?_
          refine PJ.next ?_
          refine WJ.cond (t := (step3 == (126 : UInt8))) rfl (fun hb25 => ?_) (fun hb25 => ?_)
          · replace hm := ifT hm hb25
            refine WJ.seq ?_
            refine WJ.quiet_draw follows (by kernel_rfl) ?_
            refine QJ.step (YldS.yld (y_move rfl)) rfl ?_
            refine QJ.step (YldS.yld (y_lenStr Try.runUnderlying9 rfl)) rfl ?_
            refine QJ.step (YldS.yld (y_bin rfl rfl rfl)) rfl ?_
            refine QJ.step (YldS.yld (y_move rfl)) rfl ?_
            obtain ⟨t26, h27, hm⟩ := bindS hm
            refine QJ.cut 4 [(0, str want1), (1, str typed2), (55, .bool t26)] ?_ ?_
            · rcases Bool.eq_false_or_eq_true (decide ((List.length want1 : Int) > 1)) with hb28 | hb28
              · replace h27 := andT h27 hb28
                refine QJ.on rfl rfl (cB hb28) (YldS.yld (y_move rfl)) rfl ?_
                refine QJ.on rfl rfl (cB hb28) (YldS.yld (y_lenStr Try.runUnderlying9 rfl)) rfl ?_
                refine QJ.on rfl rfl (cB hb28) (YldS.yld (y_bin rfl rfl rfl)) rfl ?_
                refine QJ.step (YldS.yld (y_pick_t (cB hb28) rfl)) rfl ?_
                obtain rfl := Option.some.inj h27
                exact QJ.cut_end ⟨rfl, rfl, rfl, trivial⟩
              · obtain rfl := andF h27 hb28
                refine QJ.off rfl rfl (cB hb28) rfl rfl ?_
                refine QJ.off rfl rfl (cB hb28) rfl rfl ?_
                refine QJ.off rfl rfl (cB hb28) rfl rfl ?_
                refine QJ.step (YldS.yld (y_pick_f (cB hb28) rfl)) rfl ?_
                exact QJ.cut_end ⟨rfl, rfl, rfl, trivial⟩
            refine QJ.step (YldS.yld (y_move rfl)) rfl ?_
            obtain ⟨t29, h30, hm⟩ := bindS hm
            refine QJ.cut 6 [(0, str want1), (1, str typed2), (62, .bool t29)] ?_ ?_
            · rcases Bool.eq_false_or_eq_true t26 with hb31 | hb31
              · replace h30 := andT h30 hb31
                refine QJ.on rfl rfl (cB hb31) (YldS.yld (y_move rfl)) rfl ?_
                obtain ⟨c32, h33, h30⟩ := bindS h30
                refine QJ.on rfl rfl (cB hb31) (YldS.yld (y_idxStr Try.runUnderlying9 rfl rfl h33)) rfl ?_
                refine QJ.on rfl rfl (cB hb31) (YldS.yld (y_move rfl)) rfl ?_
                obtain ⟨c34, h35, h30⟩ := bindS h30
                refine QJ.on rfl rfl (cB hb31) (YldS.yld (y_idxStr Try.runUnderlying9 rfl rfl h35)) rfl ?_
                refine QJ.on rfl rfl (cB hb31) (YldS.yld (y_bin8 c32 c34 rfl rfl rfl)) rfl ?_
                refine QJ.step (YldS.yld (y_pick_t (cB hb31) rfl)) rfl ?_
                obtain rfl := Option.some.inj h30
                exact QJ.cut_end ⟨rfl, rfl, rfl, trivial⟩
              · obtain rfl := andF h30 hb31
                refine QJ.off rfl rfl (cB hb31) rfl rfl ?_
                refine QJ.off rfl rfl (cB hb31) rfl rfl ?_
                refine QJ.off rfl rfl (cB hb31) rfl rfl ?_
                refine QJ.off rfl rfl (cB hb31) rfl rfl ?_
                refine QJ.off rfl rfl (cB hb31) rfl rfl ?_
                refine QJ.step (YldS.yld (y_pick_f (cB hb31) rfl)) rfl ?_
                exact QJ.cut_end ⟨rfl, rfl, rfl, trivial⟩
            refine QJ.step (YldS.yld (y_move rfl)) rfl ?_
            obtain ⟨t36, h37, hm⟩ := bindS hm
            refine QJ.cut 6 [(0, str want1), (1, str typed2), (69, .bool t36)] ?_ ?_
            · rcases Bool.eq_false_or_eq_true t29 with hb38 | hb38
              · replace h37 := andT h37 hb38
                refine QJ.on rfl rfl (cB hb38) (YldS.yld (y_move rfl)) rfl ?_
                obtain ⟨c39, h40, h37⟩ := bindS h37
                refine QJ.on rfl rfl (cB hb38) (YldS.yld (y_idxStr Try.runUnderlying9 rfl rfl h40)) rfl ?_
                refine QJ.on rfl rfl (cB hb38) (YldS.yld (y_move rfl)) rfl ?_
                obtain ⟨c41, h42, h37⟩ := bindS h37
                refine QJ.on rfl rfl (cB hb38) (YldS.yld (y_idxStr Try.runUnderlying9 rfl rfl h42)) rfl ?_
                refine QJ.on rfl rfl (cB hb38) (YldS.yld (y_bin8 c39 c41 rfl rfl rfl)) rfl ?_
                refine QJ.step (YldS.yld (y_pick_t (cB hb38) rfl)) rfl ?_
                obtain rfl := Option.some.inj h37
                exact QJ.cut_end ⟨rfl, rfl, rfl, trivial⟩
              · obtain rfl := andF h37 hb38
                refine QJ.off rfl rfl (cB hb38) rfl rfl ?_
                refine QJ.off rfl rfl (cB hb38) rfl rfl ?_
                refine QJ.off rfl rfl (cB hb38) rfl rfl ?_
                refine QJ.off rfl rfl (cB hb38) rfl rfl ?_
                refine QJ.off rfl rfl (cB hb38) rfl rfl ?_
                refine QJ.step (YldS.yld (y_pick_f (cB hb38) rfl)) rfl ?_
                exact QJ.cut_end ⟨rfl, rfl, rfl, trivial⟩
            refine QJ.step (YldS.yld (y_move rfl)) rfl ?_
            obtain ⟨t43, h44, hm⟩ := bindS hm
            refine QJ.cut 6 [(76, .bool t43)] ?_ ?_
            · rcases Bool.eq_false_or_eq_true t36 with hb45 | hb45
              · replace h44 := andT h44 hb45
                refine QJ.on rfl rfl (cB hb45) (YldS.yld (y_move rfl)) rfl ?_
                obtain ⟨c46, h47, h44⟩ := bindS h44
                refine QJ.on rfl rfl (cB hb45) (YldS.yld (y_idxStr Try.runUnderlying9 rfl rfl h47)) rfl ?_
                refine QJ.on rfl rfl (cB hb45) (YldS.yld (y_move rfl)) rfl ?_
                obtain ⟨c48, h49, h44⟩ := bindS h44
                refine QJ.on rfl rfl (cB hb45) (YldS.yld (y_idxStr Try.runUnderlying9 rfl rfl h49)) rfl ?_
                refine QJ.on rfl rfl (cB hb45) (YldS.yld (y_bin8 c46 c48 rfl rfl rfl)) rfl ?_
                refine QJ.step (YldS.yld (y_pick_t (cB hb45) rfl)) rfl ?_
                obtain rfl := Option.some.inj h44
                exact QJ.cut_end ⟨rfl, trivial⟩
              · obtain rfl := andF h44 hb45
                refine QJ.off rfl rfl (cB hb45) rfl rfl ?_
                refine QJ.off rfl rfl (cB hb45) rfl rfl ?_
                refine QJ.off rfl rfl (cB hb45) rfl rfl ?_
                refine QJ.off rfl rfl (cB hb45) rfl rfl ?_
                refine QJ.off rfl rfl (cB hb45) rfl rfl ?_
                refine QJ.step (YldS.yld (y_pick_f (cB hb45) rfl)) rfl ?_
                exact QJ.cut_end ⟨rfl, trivial⟩
            refine QJ.step (YldS.yld (y_assign rfl)) rfl ?_
            refine QJ.step (YldS.yld (y_assign rfl)) rfl ?_
            refine QJ.step (YldS.yld (y_assign rfl)) rfl ?_
            refine QJ.step (YldS.yld (y_assign rfl)) rfl ?_
            refine QJ.done ?_
            refine PJ.next ?_
            refine WJ.ret ?_
            refine PJ.block_ret (PJ.then_ret ?_)
            obtain rfl := Option.some.inj hm
            refine PJ.sel (L' := []) [] ⟨List.nodup_nil, rfl⟩ ?_
            exact PJ.retn (vs := [.int .i64 2, .int .i64 2, .int .i64 1, .bool t43]) Try.results77 ⟨rfl, rfl, rfl, rfl, trivial⟩ ⟨rfl, rfl⟩
          · replace hm := ifF hm hb25
            refine WJ.skip ?_
            refine PJ.block_normal (PJ.next ?_)
            refine WJ.seq ?_
            refine WJ.quiet ?_
            refine QJ.step (YldS.yld (y_assign rfl)) rfl ?_
            refine QJ.step (YldS.yld (y_assign rfl)) rfl ?_
            refine QJ.step (YldS.yld (y_assign rfl)) rfl ?_
            refine QJ.step (YldS.yld (y_assign rfl)) rfl ?_
            refine QJ.done ?_
            refine PJ.next ?_
            refine WJ.ret ?_
            obtain rfl := Option.some.inj hm
            refine PJ.sel (L' := []) [] ⟨List.nodup_nil, rfl⟩ ?_
            exact PJ.retn (vs := [.int .i64 0, .int .i64 0, .int .i64 0, .bool false]) Try.results77 ⟨rfl, rfl, rfl, rfl, trivial⟩ ⟨rfl, rfl⟩

set_option maxRecDepth 100000 in
set_option maxHeartbeats 1000000 in
theorem ok_i_leastFrom {N : Nat} {want1 : Str} {typed2 : Str} {r : (List (List Int))} (hm : i_leastFrom N want1 typed2 = some r) (w : World)  :
    Calls Try.prog 57 #[str want1, str typed2] w (RetG (cx w) fun u L => ∃ (u1 : Value) (u2 : List (Raw 1)), (u = u1 ∧ L = [row u1 81 fRaw1 u2, inn (rSl fI64.rp) u2 r])) := by
  unfold i_leastFrom at hm
  refine Calls.enter [str want1, str typed2] Try.func57 rfl Try.ntmps57 rfl ?_
  refine WJ.seq ?_
  refine WJ.quiet ?_
  refine QJ.step (YldS.yld (y_assign rfl)) rfl ?_
  refine QJ.done ?_
  refine PJ.next ?_
  refine WJ.seq ?_
  refine WJ.reg ?_
  refine SJ.q (YldS.yld (y_move rfl)) rfl ?_
  refine SJ.q (YldS.yld (y_lenStr Try.runUnderlying9 rfl)) rfl ?_
  refine SJ.q (YldS.yld (y_bin rfl rfl rfl)) rfl ?_
  obtain ⟨l3, h4, hm⟩ := bindS hm
  refine SJ.makeSlice (R := fRaw1) (z := rawNil) (mk_raw h4) Try.underlying82 el81 rfl rfl rfl fun v5 => ?_
  refine SJ.inm_make 3 fI64 h4 ?_
  refine SJ.q (YldS.yld (y_assign rfl)) rfl ?_
  refine SJ.nil ?_
  refine PJ.next ?_
  obtain ⟨kj8, hk9, hm⟩ := withK_open hm
  refine WJ.join (X := (List (List Int)) × (List (Raw 1))) (fun (x : (List (List Int)) × (List (Raw 1))) => kj8 x.1 = some r) (fun (x : (List (List Int)) × (List (Raw 1))) => [(0, str want1), (1, str typed2), (5, v5)]) (fun (x : (List (List Int)) × (List (Raw 1))) => [inm 3 fI64 x.2 x.1, row v5 81 fRaw1 x.2]) ?_ ?_
  · clear hk9
    refine WJ.seq ?_
    refine WJ.quiet ?_
    refine QJ.step (YldS.yld (y_move rfl)) rfl ?_
    refine QJ.step (YldS.yld (y_lenG (fun w hw => (hw.nsm_rd (k := 1) (j := 0) rfl rfl)) Try.runUnderlying82 rfl)) rfl ?_
    refine QJ.step (YldS.yld (y_move rfl)) rfl ?_
    refine QJ.done ?_
    refine PJ.next ?_
    refine WJ.block ?_
    refine WJ.sel (L' := (fun (x : (List (List Int)) × (List (Raw 1)) × Int) => [inm 3 fI64 x.2.1 x.1, row v5 81 fRaw1 x.2.1]) (l3, (List.replicate (List.length l3) rawNil), 0)) [0, 1] ⟨by decide, rfl⟩ ?_
    refine WJ.sub (m' := (fun (x : (List (List Int)) × (List (Raw 1)) × Int) => [(0, str want1), (1, str typed2), (5, v5), (21, .int .i64 (List.length l3 : Int)), (22, .int .i64 x.2.2)]) (l3, (List.replicate (List.length l3) rawNil), 0)) ⟨rfl, rfl, rfl, rfl, rfl, trivial⟩ ?_
    refine WJ.loop (X := (List (List Int)) × (List (Raw 1)) × Int) (fun N (x : (List (List Int)) × (List (Raw 1)) × Int) => i_leastFrom_l1 kj8 typed2 l3 N x.1 x.2.2 = some r) (fun (x : (List (List Int)) × (List (Raw 1)) × Int) => [(0, str want1), (1, str typed2), (5, v5), (21, .int .i64 (List.length l3 : Int)), (22, .int .i64 x.2.2)]) (fun (x : (List (List Int)) × (List (Raw 1)) × Int) => [inm 3 fI64 x.2.1 x.1, row v5 81 fRaw1 x.2.1]) ?_ N (l3, (List.replicate (List.length l3) rawNil), 0) hm
    · rintro N ⟨l10, vs11, x12⟩ hI
      have hm := hI; clear hI
      cases N with
      | zero => cases hm
      | succ N =>
      unfold i_leastFrom_l1 at hm
      refine WJ.seq ?_
      refine WJ.quiet ?_
      refine QJ.step (YldS.yld (y_bin rfl rfl rfl)) rfl ?_
      refine QJ.done ?_
      refine PJ.next ?_
      refine WJ.seq ?_
      refine WJ.cond (t := decide (x12 < (List.length l3 : Int))) rfl (fun hb13 => ?_) (fun hb13 => ?_)
      · replace hm := ifT hm hb13
        refine WJ.skip ?_
        refine PJ.next ?_
        refine WJ.seq ?_
        refine WJ.block ?_
        refine WJ.seq ?_
        refine WJ.quiet ?_
        refine QJ.step (YldS.yld (y_move rfl)) rfl ?_
        refine QJ.step (YldS.yld (y_assign rfl)) rfl ?_
        refine QJ.done ?_
        refine PJ.next ?_
        refine WJ.inm_len 0 rfl fun hl14 => ?_
        refine WJ.reg ?_
        refine SJ.q (YldS.yld (y_move rfl)) rfl ?_
        refine SJ.q (YldS.yld (y_move rfl)) rfl ?_
        refine SJ.q (YldS.yld (y_move rfl)) rfl ?_
        refine SJ.q (YldS.yld (y_lenStr Try.runUnderlying9 rfl)) rfl ?_
        refine SJ.q (YldS.yld (y_bin rfl rfl rfl)) rfl ?_
        obtain ⟨l15, h16, hm⟩ := bindS hm
        refine SJ.makeSlice (R := fI64) (z := 0) h16 Try.underlying81 el3 rfl rfl rfl fun v17 => ?_
        obtain ⟨e18, h19, hm⟩ := bindS hm
        obtain ⟨y20, hy21⟩ := inn_idx hl14 h19
        refine SJ.q (YldS.yld (y_ixRow (k := 2) (R := fRaw1) rfl Try.runUnderlying82 Try.sizeOf81 rfl rfl hy21)) rfl ?_
        refine SJ.rowCells (k := 0) rfl fun hc22 => ?_
        refine SJ.storeRL (k := 2) (i := (Int.toNat x12)) (off := 0) (us := [v17]) (b := (mkRaw1 v17 hc22.2)) rfl rfl (idx_get hy21) rfl hc22.1 Try.sizeOf81 rfl (by simp [hc22.2]) (raw_put _ _) ?_
        refine SJ.sel (L' := [row v17 3 fI64 l15, inm 3 fI64 vs11 l10, row v5 81 fRaw1 (List.set vs11 (Int.toNat x12) (mkRaw1 v17 hc22.2))]) [0, 1, 2] ⟨by decide, rfl⟩ ?_
        refine SJ.star ?_
        refine SJ.conv0 (fun w S h => inm_set hc22.2 (i0 := (Int.toNat x12)) h) ?_
        refine SJ.nil ?_
        refine PJ.block_normal (PJ.next ?_)
        refine WJ.quiet ?_
        refine QJ.step (YldS.yld (y_bin rfl rfl rfl)) rfl ?_
        refine QJ.step (YldS.yld (y_move rfl)) rfl ?_
        refine QJ.done ?_
        exact PJ.round ((List.set l10 (Int.toNat x12) l15), (List.set vs11 (Int.toNat x12) (mkRaw1 v17 hc22.2)), w64 (x12 + 1)) [0, 1] hm ⟨rfl, rfl, rfl, rfl, rfl, trivial⟩ ⟨by decide, rfl⟩
      · replace hm := ifF hm hb13
        refine WJ.exit ?_
        refine PJ.then_exit (PJ.then_exit (PJ.block_exit ?_))
        exact PJ.joined (l10, vs11) [0, 1] hm ⟨rfl, rfl, rfl, trivial⟩ ⟨by decide, rfl⟩
  · rintro ⟨l6, vs7⟩ hm
    subst hk9
    obtain ⟨kj24, hk25, hm⟩ := withK_open hm
    refine WJ.join (X := (List (List Int))) (fun (x : (List (List Int))) => kj24 x = some r) (fun (x : (List (List Int))) => [(5, v5)]) (fun (x : (List (List Int))) => [inm 3 fI64 vs7 x, row v5 81 fRaw1 vs7]) ?_ ?_
    · clear hk25
      refine WJ.seq ?_
      refine WJ.quiet ?_
      refine QJ.step (YldS.yld (y_move rfl)) rfl ?_
      refine QJ.step (YldS.yld (y_lenStr Try.runUnderlying9 rfl)) rfl ?_
      refine QJ.step (YldS.yld (y_assign rfl)) rfl ?_
      refine QJ.done ?_
      refine PJ.next ?_
      refine WJ.block ?_
      refine WJ.sel (L' := (fun (x : (List (List Int)) × Int) => [inm 3 fI64 vs7 x.1, row v5 81 fRaw1 vs7]) (l6, (List.length want1 : Int))) [0, 1] ⟨by decide, rfl⟩ ?_
      refine WJ.sub (m' := (fun (x : (List (List Int)) × Int) => [(0, str want1), (1, str typed2), (5, v5), (7, .int .i64 x.2)]) (l6, (List.length want1 : Int))) ⟨rfl, rfl, rfl, rfl, trivial⟩ ?_
      refine WJ.loop (X := (List (List Int)) × Int) (fun N (x : (List (List Int)) × Int) => i_leastFrom_l2 kj24 want1 typed2 N x.1 x.2 = some r) (fun (x : (List (List Int)) × Int) => [(0, str want1), (1, str typed2), (5, v5), (7, .int .i64 x.2)]) (fun (x : (List (List Int)) × Int) => [inm 3 fI64 vs7 x.1, row v5 81 fRaw1 vs7]) ?_ N (l6, (List.length want1 : Int)) hm
      · rintro N ⟨l26, i27⟩ hI
        have hm := hI; clear hI
        cases N with
        | zero => cases hm
        | succ N =>
        unfold i_leastFrom_l2 at hm
        refine WJ.seq ?_
        refine WJ.seq ?_
        refine WJ.quiet ?_
        refine QJ.step (YldS.yld (y_move rfl)) rfl ?_
        refine QJ.step (YldS.yld (y_bin rfl rfl rfl)) rfl ?_
        refine QJ.done ?_
        refine PJ.next ?_
        refine WJ.cond (t := decide (i27 ≥ 0)) rfl (fun hb28 => ?_) (fun hb28 => ?_)
        · replace hm := ifT hm hb28
          refine WJ.skip ?_
          refine PJ.next ?_
          obtain ⟨kj30, hk31, hm⟩ := withK_open hm
          refine WJ.join (X := (List (List Int))) (fun (x : (List (List Int))) => kj30 x = some r) (fun (x : (List (List Int))) => [(0, str want1), (1, str typed2), (5, v5), (7, .int .i64 i27)]) (fun (x : (List (List Int))) => [inm 3 fI64 vs7 x, row v5 81 fRaw1 vs7]) ?_ ?_
          · clear hk31
            refine WJ.block ?_
            refine WJ.seq ?_
            refine WJ.quiet ?_
            refine QJ.step (YldS.yld (y_move rfl)) rfl ?_
            refine QJ.step (YldS.yld (y_lenStr Try.runUnderlying9 rfl)) rfl ?_
            refine QJ.step (YldS.yld (y_assign rfl)) rfl ?_
            refine QJ.done ?_
            refine PJ.next ?_
            refine WJ.block ?_
            refine WJ.sel (L' := (fun (x : (List (List Int)) × Int) => [inm 3 fI64 vs7 x.1, row v5 81 fRaw1 vs7]) (l26, (List.length typed2 : Int))) [0, 1] ⟨by decide, rfl⟩ ?_
            refine WJ.sub (m' := (fun (x : (List (List Int)) × Int) => [(0, str want1), (1, str typed2), (5, v5), (7, .int .i64 i27), (8, .int .i64 x.2)]) (l26, (List.length typed2 : Int))) ⟨rfl, rfl, rfl, rfl, rfl, trivial⟩ ?_
            refine WJ.loop (X := (List (List Int)) × Int) (fun N (x : (List (List Int)) × Int) => i_leastFrom_l3 kj30 want1 typed2 i27 N x.1 x.2 = some r) (fun (x : (List (List Int)) × Int) => [(0, str want1), (1, str typed2), (5, v5), (7, .int .i64 i27), (8, .int .i64 x.2)]) (fun (x : (List (List Int)) × Int) => [inm 3 fI64 vs7 x.1, row v5 81 fRaw1 vs7]) ?_ N (l26, (List.length typed2 : Int)) hm
            · rintro N ⟨l32, k33⟩ hI
              have hm := hI; clear hI
              cases N with
              | zero => cases hm
              | succ N =>
              unfold i_leastFrom_l3 at hm
              refine WJ.seq ?_
              refine WJ.seq ?_
              refine WJ.quiet ?_
              refine QJ.step (YldS.yld (y_move rfl)) rfl ?_
              refine QJ.step (YldS.yld (y_bin rfl rfl rfl)) rfl ?_
              refine QJ.done ?_
              refine PJ.next ?_
              refine WJ.cond (t := decide (k33 ≥ 0)) rfl (fun hb34 => ?_) (fun hb34 => ?_)
              · replace hm := ifT hm hb34
                refine WJ.skip ?_
                refine PJ.next ?_
                obtain ⟨kj36, hk37, hm⟩ := withK_open hm
                refine WJ.join (X := (List (List Int))) (fun (x : (List (List Int))) => kj36 x = some r) (fun (x : (List (List Int))) => [(0, str want1), (1, str typed2), (5, v5), (7, .int .i64 i27), (8, .int .i64 k33)]) (fun (x : (List (List Int))) => [inm 3 fI64 vs7 x, row v5 81 fRaw1 vs7]) ?_ ?_
                · clear hk37
                  refine WJ.block ?_
                  refine WJ.seq ?_
                  refine WJ.quiet ?_
                  refine QJ.step (YldS.yld (y_assign rfl)) rfl ?_
                  refine QJ.done ?_
                  refine PJ.next ?_
                  obtain ⟨kj39, hk40, hm⟩ := withK_open hm
                  refine WJ.join (X := Int) (fun (x : Int) => kj39 x = some r) (fun (x : Int) => [(0, str want1), (1, str typed2), (5, v5), (7, .int .i64 i27), (8, .int .i64 k33), (9, .int .i64 x)]) (fun (x : Int) => [inm 3 fI64 vs7 l32, row v5 81 fRaw1 vs7]) ?_ ?_
                  · clear hk40
                    refine WJ.seq ?_
                    refine WJ.reg ?_
                    refine SJ.buildSlice (R := fByte) (os := [.const (.int .u8 (UInt8.toNat 43 : Int)), .const (.int .u8 (UInt8.toNat 45 : Int)), .const (.int .u8 (UInt8.toNat 61 : Int)), .const (.int .u8 (UInt8.toNat 120 : Int)), .const (.int .u8 (UInt8.toNat 126 : Int))]) [43, 45, 61, 120, 126] Try.runUnderlying22 Try.sizeOf5 Try.zeroValue5 rfl rfl rfl rfl rfl rfl fun v41 => ?_
                    refine SJ.convMark (k := 0) rfl Try.underlying22 Try.underlying5 rfl rfl ?_
                    refine SJ.q (YldS.yld (y_lenRowM (k := 0) rfl Try.runUnderlying22 rfl)) rfl ?_
                    refine SJ.q (YldS.yld (y_move rfl)) rfl ?_
                    refine SJ.nil ?_
                    refine PJ.next ?_
                    refine WJ.block ?_
                    refine WJ.sel (L' := (fun (x : Int × Int) => [rowM v41 5 fByte [43, 45, 61, 120, 126], inm 3 fI64 vs7 l32, row v5 81 fRaw1 vs7]) ((-1), 0)) [0, 1, 2] ⟨by decide, rfl⟩ ?_
                    refine WJ.sub (m' := (fun (x : Int × Int) => [(0, str want1), (1, str typed2), (5, v5), (7, .int .i64 i27), (8, .int .i64 k33), (9, .int .i64 x.1), (46, v41), (47, .int .i64 (List.length [43, 45, 61, 120, 126] : Int)), (48, .int .i64 x.2)]) ((-1), 0)) ⟨rfl, rfl, rfl, rfl, rfl, rfl, rfl, rfl, rfl, trivial⟩ ?_
                    refine WJ.loop (X := Int × Int) (fun N (x : Int × Int) => i_leastFrom_l4 kj39 want1 typed2 i27 l32 k33 N x.1 x.2 = some r) (fun (x : Int × Int) => [(0, str want1), (1, str typed2), (5, v5), (7, .int .i64 i27), (8, .int .i64 k33), (9, .int .i64 x.1), (46, v41), (47, .int .i64 (List.length [43, 45, 61, 120, 126] : Int)), (48, .int .i64 x.2)]) (fun (x : Int × Int) => [rowM v41 5 fByte [43, 45, 61, 120, 126], inm 3 fI64 vs7 l32, row v5 81 fRaw1 vs7]) ?_ N ((-1), 0) hm
                    · rintro N ⟨best42, x43⟩ hI
                      have hm := hI; clear hI
                      cases N with
                      | zero => cases hm
                      | succ N =>
                      unfold i_leastFrom_l4 at hm
                      refine WJ.seq ?_
                      refine WJ.quiet ?_
                      refine QJ.step (YldS.yld (y_bin rfl rfl rfl)) rfl ?_
                      refine QJ.done ?_
                      refine PJ.next ?_
                      refine WJ.seq ?_
                      refine WJ.cond (t := decide (x43 < (List.length [43, 45, 61, 120, 126] : Int))) rfl (fun hb44 => ?_) (fun hb44 => ?_)
                      · replace hm := ifT hm hb44
                        refine WJ.skip ?_
                        refine PJ.next ?_
                        obtain ⟨kj46, hk47, hm⟩ := withK_open hm
                        refine WJ.join (X := Int) (fun (x : Int) => kj46 x = some r) (fun (x : Int) => [(0, str want1), (1, str typed2), (5, v5), (7, .int .i64 i27), (8, .int .i64 k33), (9, .int .i64 x), (46, v41), (47, .int .i64 (List.length [43, 45, 61, 120, 126] : Int)), (48, .int .i64 x43)]) (fun (x : Int) => [rowM v41 5 fByte [43, 45, 61, 120, 126], inm 3 fI64 vs7 l32, row v5 81 fRaw1 vs7]) ?_ ?_
                        · clear hk47
                          refine WJ.block ?_
                          refine WJ.seq ?_
                          refine WJ.quiet ?_
                          obtain ⟨e48, h49, hm⟩ := bindS hm
                          refine QJ.step (YldS.yld (y_ixRowM (k := 0) (R := fByte) rfl Try.runUnderlying22 Try.sizeOf5 rfl rfl h49)) rfl ?_
                          refine QJ.step (YldS.yld (y_loadRM (k := 0) (i := (Int.toNat x43)) (off := 0) (u := .int .u8 (UInt8.toNat e48 : Int)) rfl Try.isAgg5 rfl (idx_get h49) rfl)) rfl ?_
                          refine QJ.step (YldS.yld (y_assign rfl)) rfl ?_
                          refine QJ.done ?_
                          refine PJ.next ?_
                          refine WJ.seq ?_
                          refine WJ.quiet_draw follows (by kernel_rfl) ?_
                          refine QJ.step (YldS.yld (y_move rfl)) rfl ?_
                          refine QJ.step (YldS.yld (y_move rfl)) rfl ?_
                          obtain ⟨s50, h51, hm⟩ := bindS hm
                          refine QJ.step (YldS.yld (y_subStr (i := some i27) (j := none) h51 Try.runUnderlying9 rfl ⟨_, rfl⟩ trivial)) rfl ?_
                          refine QJ.step (YldS.yld (y_move rfl)) rfl ?_
                          refine QJ.step (YldS.yld (y_move rfl)) rfl ?_
                          obtain ⟨s52, h53, hm⟩ := bindS hm
                          refine QJ.step (YldS.yld (y_subStr (i := some k33) (j := none) h53 Try.runUnderlying9 rfl ⟨_, rfl⟩ trivial)) rfl ?_
                          refine QJ.step (YldS.yld (y_move rfl)) rfl ?_
                          obtain ⟨r54, h55, hm⟩ := bindS hm
                          refine QJ.step (y_call Try.call77 rfl (RetG.quiet fun w hw => ok_i_stepAt h55 w )) rfl ?_
                          refine QJ.step (YldS.yld (y_move rfl)) rfl ?_
                          refine QJ.step (YldS.yld (y_extract rfl rfl)) rfl ?_
                          refine QJ.step (YldS.yld (y_extract rfl rfl)) rfl ?_
                          refine QJ.step (YldS.yld (y_extract rfl rfl)) rfl ?_
                          refine QJ.step (YldS.yld (y_extract rfl rfl)) rfl ?_
                          refine QJ.step (YldS.yld (y_assign rfl)) rfl ?_
                          refine QJ.step (YldS.yld (y_assign rfl)) rfl ?_
                          refine QJ.step (YldS.yld (y_assign rfl)) rfl ?_
                          refine QJ.step (YldS.yld (y_assign rfl)) rfl ?_
                          refine QJ.done ?_
                          refine PJ.next ?_
                          refine WJ.seq ?_
                          refine WJ.inm_len 1 rfl fun hl56 => ?_
                          refine WJ.quiet ?_
                          refine QJ.step (YldS.yld (y_move rfl)) rfl ?_
                          refine QJ.step (YldS.yld (y_move rfl)) rfl ?_
                          obtain ⟨t57, h58, hm⟩ := bindS hm
                          refine QJ.cut 20 [(0, str want1), (1, str typed2), (5, v5), (7, .int .i64 i27), (8, .int .i64 k33), (9, .int .i64 best42), (12, .int .i64 r54.1), (13, .int .i64 r54.2.1), (14, .int .i64 r54.2.2.1), (46, v41), (47, .int .i64 (List.length [43, 45, 61, 120, 126] : Int)), (48, .int .i64 x43), (86, .bool t57)] ?_ ?_
                          · rcases Bool.eq_false_or_eq_true r54.2.2.2 with hb59 | hb59
                            · replace h58 := andT h58 hb59
                              refine QJ.on rfl rfl (cB hb59) (YldS.yld (y_move rfl)) rfl ?_
                              refine QJ.on rfl rfl (cB hb59) (YldS.yld (y_bin rfl rfl rfl)) rfl ?_
                              refine QJ.on rfl rfl (cB hb59) (YldS.yld (y_move rfl)) rfl ?_
                              obtain ⟨t60, h61, h58⟩ := bindS h58
                              refine QJ.cut 16 [(0, str want1), (1, str typed2), (5, v5), (7, .int .i64 i27), (8, .int .i64 k33), (9, .int .i64 best42), (12, .int .i64 r54.1), (13, .int .i64 r54.2.1), (14, .int .i64 r54.2.2.1), (46, v41), (47, .int .i64 (List.length [43, 45, 61, 120, 126] : Int)), (48, .int .i64 x43), (66, .bool r54.2.2.2), (85, .bool t60)] ?_ ?_
                              · rcases Bool.eq_false_or_eq_true (decide (best42 < 0)) with hb62 | hb62
                                · obtain rfl := orT h61 hb62
                                  refine QJ.off rfl rfl (cB hb62) rfl rfl ?_
                                  refine QJ.off rfl rfl (cB hb62) rfl rfl ?_
                                  refine QJ.off rfl rfl (cB hb62) rfl rfl ?_
                                  refine QJ.off rfl rfl (cB hb62) rfl rfl ?_
                                  refine QJ.off rfl rfl (cB hb62) rfl rfl ?_
                                  refine QJ.off rfl rfl (cB hb62) rfl rfl ?_
                                  refine QJ.off rfl rfl (cB hb62) rfl rfl ?_
                                  refine QJ.off rfl rfl (cB hb62) rfl rfl ?_
                                  refine QJ.off rfl rfl (cB hb62) rfl rfl ?_
                                  refine QJ.off rfl rfl (cB hb62) rfl rfl ?_
                                  refine QJ.off rfl rfl (cB hb62) rfl rfl ?_
                                  refine QJ.off rfl rfl (cB hb62) rfl rfl ?_
                                  refine QJ.off rfl rfl (cB hb62) rfl rfl ?_
                                  refine QJ.off rfl rfl (cB hb62) rfl rfl ?_
                                  refine QJ.off rfl rfl (cB hb62) rfl rfl ?_
                                  refine QJ.on rfl rfl (cB hb59) (YldS.yld (y_pick_t (cB hb62) rfl)) rfl ?_
                                  exact QJ.cut_end ⟨rfl, rfl, rfl, rfl, rfl, rfl, rfl, rfl, rfl, rfl, rfl, rfl, rfl, rfl, trivial⟩
                                · replace h61 := orF h61 hb62
                                  refine QJ.on rfl rfl (cB hb62) (YldS.yld (y_move rfl)) rfl ?_
                                  refine QJ.on rfl rfl (cB hb62) (YldS.yld (y_move rfl)) rfl ?_
                                  refine QJ.on rfl rfl (cB hb62) (YldS.yld (y_move rfl)) rfl ?_
                                  refine QJ.on rfl rfl (cB hb62) (YldS.yld (y_bin rfl rfl rfl)) rfl ?_
                                  obtain ⟨e63, h64, h61⟩ := bindS h61
                                  obtain ⟨y65, hy66⟩ := inn_idx hl56 h64
                                  refine QJ.on rfl rfl (cB hb62) (YldS.yld (y_ixRow (k := 2) (R := fRaw1) rfl Try.runUnderlying82 Try.sizeOf81 rfl rfl hy66)) rfl ?_
                                  refine QJ.on rfl rfl (cB hb62) (YldS.yld (y_loadR (k := 2) (i := (Int.toNat (w64 (i27 + r54.1)))) (off := 0) rfl Try.isAgg81 rfl (idx_get hy66) (raw_get y65))) rfl ?_
                                  refine QJ.on rfl rfl (cB hb62) (YldS.yld (y_move rfl)) rfl ?_
                                  refine QJ.on rfl rfl (cB hb62) (YldS.yld (y_move rfl)) rfl ?_
                                  refine QJ.on rfl rfl (cB hb62) (YldS.yld (y_bin rfl rfl rfl)) rfl ?_
                                  obtain ⟨e67, h68, h61⟩ := bindS h61
                                  refine QJ.on rfl rfl (cB hb62) (YldS.yld (y_ixG (R := fI64) (fun w hw => (hw.inm_rd (k := 1) rfl rfl hy66 h64)) Try.runUnderlying81 Try.sizeOf3 rfl rfl h68)) rfl ?_
                                  refine QJ.on rfl rfl (cB hb62) (YldS.yld (y_loadG (R := fI64) (i := (Int.toNat (w64 (k33 + r54.2.1)))) (off := 0) (fun w hw => (hw.inm_rd (k := 1) rfl rfl hy66 h64)) Try.isAgg3 rfl (idx_get h68) rfl)) rfl ?_
                                  refine QJ.on rfl rfl (cB hb62) (YldS.yld (y_move rfl)) rfl ?_
                                  refine QJ.on rfl rfl (cB hb62) (YldS.yld (y_bin rfl rfl rfl)) rfl ?_
                                  refine QJ.on rfl rfl (cB hb62) (YldS.yld (y_move rfl)) rfl ?_
                                  refine QJ.on rfl rfl (cB hb62) (YldS.yld (y_bin rfl rfl rfl)) rfl ?_
                                  refine QJ.on rfl rfl (cB hb59) (YldS.yld (y_pick_f (cB hb62) rfl)) rfl ?_
                                  obtain rfl := Option.some.inj h61
                                  exact QJ.cut_end ⟨rfl, rfl, rfl, rfl, rfl, rfl, rfl, rfl, rfl, rfl, rfl, rfl, rfl, rfl, trivial⟩
                              refine QJ.step (YldS.yld (y_pick_t (cB hb59) rfl)) rfl ?_
                              obtain rfl := Option.some.inj h58
                              exact QJ.cut_end ⟨rfl, rfl, rfl, rfl, rfl, rfl, rfl, rfl, rfl, rfl, rfl, rfl, rfl, trivial⟩
                            · obtain rfl := andF h58 hb59
                              refine QJ.off rfl rfl (cB hb59) rfl rfl ?_
                              refine QJ.off rfl rfl (cB hb59) rfl rfl ?_
                              refine QJ.off rfl rfl (cB hb59) rfl rfl ?_
                              refine QJ.off_undef rfl rfl rfl rfl ?_
                              refine QJ.off_undef rfl rfl rfl rfl ?_
                              refine QJ.off_undef rfl rfl rfl rfl ?_
                              refine QJ.off_undef rfl rfl rfl rfl ?_
                              refine QJ.off_undef rfl rfl rfl rfl ?_
                              refine QJ.off_undef rfl rfl rfl rfl ?_
                              refine QJ.off_undef rfl rfl rfl rfl ?_
                              refine QJ.off_undef rfl rfl rfl rfl ?_
                              refine QJ.off_undef rfl rfl rfl rfl ?_
                              refine QJ.off_undef rfl rfl rfl rfl ?_
                              refine QJ.off_undef rfl rfl rfl rfl ?_
                              refine QJ.off_undef rfl rfl rfl rfl ?_
                              refine QJ.off_undef rfl rfl rfl rfl ?_
                              refine QJ.off_undef rfl rfl rfl rfl ?_
                              refine QJ.off_undef rfl rfl rfl rfl ?_
                              refine QJ.off rfl rfl (cB hb59) rfl rfl ?_
                              refine QJ.step (YldS.yld (y_pick_f (cB hb59) rfl)) rfl ?_
                              exact QJ.cut_end ⟨rfl, rfl, rfl, rfl, rfl, rfl, rfl, rfl, rfl, rfl, rfl, rfl, rfl, trivial⟩
                          refine QJ.done ?_
                          refine PJ.next ?_
                          refine WJ.cond (t := t57) rfl (fun hb69 => ?_) (fun hb69 => ?_)
                          · replace hm := ifT hm hb69
                            refine WJ.inm_len 1 rfl fun hl70 => ?_
                            refine WJ.quiet ?_
                            refine QJ.step (YldS.yld (y_move rfl)) rfl ?_
                            refine QJ.step (YldS.yld (y_move rfl)) rfl ?_
                            refine QJ.step (YldS.yld (y_move rfl)) rfl ?_
                            refine QJ.step (YldS.yld (y_bin rfl rfl rfl)) rfl ?_
                            obtain ⟨e71, h72, hm⟩ := bindS hm
                            obtain ⟨y73, hy74⟩ := inn_idx hl70 h72
                            refine QJ.step (YldS.yld (y_ixRow (k := 2) (R := fRaw1) rfl Try.runUnderlying82 Try.sizeOf81 rfl rfl hy74)) rfl ?_
                            refine QJ.step (YldS.yld (y_loadR (k := 2) (i := (Int.toNat (w64 (i27 + r54.1)))) (off := 0) rfl Try.isAgg81 rfl (idx_get hy74) (raw_get y73))) rfl ?_
                            refine QJ.step (YldS.yld (y_move rfl)) rfl ?_
                            refine QJ.step (YldS.yld (y_move rfl)) rfl ?_
                            refine QJ.step (YldS.yld (y_bin rfl rfl rfl)) rfl ?_
                            obtain ⟨e75, h76, hm⟩ := bindS hm
                            refine QJ.step (YldS.yld (y_ixG (R := fI64) (fun w hw => (hw.inm_rd (k := 1) rfl rfl hy74 h72)) Try.runUnderlying81 Try.sizeOf3 rfl rfl h76)) rfl ?_
                            refine QJ.step (YldS.yld (y_loadG (R := fI64) (i := (Int.toNat (w64 (k33 + r54.2.1)))) (off := 0) (fun w hw => (hw.inm_rd (k := 1) rfl rfl hy74 h72)) Try.isAgg3 rfl (idx_get h76) rfl)) rfl ?_
                            refine QJ.step (YldS.yld (y_move rfl)) rfl ?_
                            refine QJ.step (YldS.yld (y_bin rfl rfl rfl)) rfl ?_
                            refine QJ.step (YldS.yld (y_assign rfl)) rfl ?_
                            refine QJ.done ?_
                            refine PJ.block_normal ?_
                            exact PJ.joined (w64 (e75 + r54.2.2.1)) [0, 1, 2] hm ⟨rfl, rfl, rfl, rfl, rfl, rfl, rfl, rfl, rfl, trivial⟩ ⟨by decide, rfl⟩
                          · replace hm := ifF hm hb69
                            refine WJ.skip ?_
                            refine PJ.block_normal ?_
                            exact PJ.joined best42 [0, 1, 2] hm ⟨rfl, rfl, rfl, rfl, rfl, rfl, rfl, rfl, rfl, trivial⟩ ⟨by decide, rfl⟩
                        · rintro best45 hm
                          subst hk47
                          refine WJ.quiet ?_
                          refine QJ.step (YldS.yld (y_bin rfl rfl rfl)) rfl ?_
                          refine QJ.step (YldS.yld (y_move rfl)) rfl ?_
                          refine QJ.done ?_
                          exact PJ.round (best45, w64 (x43 + 1)) [0, 1, 2] hm ⟨rfl, rfl, rfl, rfl, rfl, rfl, rfl, rfl, rfl, trivial⟩ ⟨by decide, rfl⟩
                      · replace hm := ifF hm hb44
                        refine WJ.exit ?_
                        refine PJ.then_exit (PJ.then_exit (PJ.block_exit ?_))
                        exact PJ.joined best42 [1, 2] hm ⟨rfl, rfl, rfl, rfl, rfl, rfl, trivial⟩ ⟨by decide, rfl⟩
                  · rintro best38 hm
                    subst hk40
                    refine WJ.inm_len 0 rfl fun hl77 => ?_
                    refine WJ.reg ?_
                    refine SJ.q (YldS.yld (y_move rfl)) rfl ?_
                    refine SJ.q (YldS.yld (y_move rfl)) rfl ?_
                    obtain ⟨e78, h79, hm⟩ := bindS hm
                    obtain ⟨y80, hy81⟩ := inn_idx hl77 h79
                    refine SJ.q (YldS.yld (y_ixRow (k := 1) (R := fRaw1) rfl Try.runUnderlying82 Try.sizeOf81 rfl rfl hy81)) rfl ?_
                    refine SJ.q (YldS.yld (y_loadR (k := 1) (i := (Int.toNat i27)) (off := 0) rfl Try.isAgg81 rfl (idx_get hy81) (raw_get y80))) rfl ?_
                    refine SJ.q (YldS.yld (y_move rfl)) rfl ?_
                    refine SJ.q (YldS.yld (y_move rfl)) rfl ?_
                    refine SJ.q (YldS.yld (y_max rfl rfl)) rfl ?_
                    obtain ⟨e82, h83, hm⟩ := bindS hm
                    refine SJ.q (YldS.yld (y_ixG (R := fI64) (fun w hw => (hw.inm_rd (k := 0) rfl rfl hy81 h79)) Try.runUnderlying81 Try.sizeOf3 rfl rfl h83)) rfl ?_
                    refine SJ.storeG (k := 0) (i := i27) (q := (Int.toNat k33)) (b0 := (imax best38 0)) rfl rfl hy81 h79 rfl (idx_get h83) rfl Try.sizeOf3 rfl rfl rfl ?_
                    refine SJ.nil ?_
                    refine PJ.block_normal ?_
                    exact PJ.joined (List.set l32 (Int.toNat i27) (List.set e78 (Int.toNat k33) (imax best38 0))) [0, 1] hm ⟨rfl, rfl, rfl, rfl, rfl, trivial⟩ ⟨by decide, rfl⟩
                · rintro l35 hm
                  subst hk37
                  refine WJ.quiet ?_
                  refine QJ.step (YldS.yld (y_move rfl)) rfl ?_
                  refine QJ.step (YldS.yld (y_bin rfl rfl rfl)) rfl ?_
                  refine QJ.step (YldS.yld (y_assign rfl)) rfl ?_
                  refine QJ.done ?_
                  exact PJ.round (l35, w64 (k33 - 1)) [0, 1] hm ⟨rfl, rfl, rfl, rfl, rfl, trivial⟩ ⟨by decide, rfl⟩
              · replace hm := ifF hm hb34
                refine WJ.exit ?_
                refine PJ.then_exit (PJ.then_exit (PJ.block_exit (PJ.block_normal ?_)))
                exact PJ.joined l32 [0, 1] hm ⟨rfl, rfl, rfl, rfl, trivial⟩ ⟨by decide, rfl⟩
          · rintro l29 hm
            subst hk31
            refine WJ.quiet ?_
            refine QJ.step (YldS.yld (y_move rfl)) rfl ?_
            refine QJ.step (YldS.yld (y_bin rfl rfl rfl)) rfl ?_
            refine QJ.step (YldS.yld (y_assign rfl)) rfl ?_
            refine QJ.done ?_
            exact PJ.round (l29, w64 (i27 - 1)) [0, 1] hm ⟨rfl, rfl, rfl, rfl, trivial⟩ ⟨by decide, rfl⟩
        · replace hm := ifF hm hb28
          refine WJ.exit ?_
          refine PJ.then_exit (PJ.then_exit (PJ.block_exit ?_))
          exact PJ.joined l26 [0, 1] hm ⟨rfl, trivial⟩ ⟨by decide, rfl⟩
    · rintro l23 hm
      subst hk25
      refine WJ.seq ?_
      refine WJ.quiet ?_
      refine QJ.step (YldS.yld (y_move rfl)) rfl ?_
      refine QJ.step (YldS.yld (y_assign rfl)) rfl ?_
      refine QJ.done ?_
      refine PJ.next ?_
      refine WJ.ret ?_
      refine PJ.inm_inn 0 rfl ?_
      obtain rfl := Option.some.inj hm
      refine PJ.sel (L' := [row v5 81 fRaw1 vs7, inn (rSl fI64.rp) vs7 l23]) [1, 0] ⟨by decide, rfl⟩ ?_
      exact PJ.retn (vs := [v5]) Try.results57 ⟨rfl, trivial⟩ ⟨_, _, rfl, rfl⟩

set_option maxRecDepth 100000 in
set_option maxHeartbeats 1000000 in
theorem ok_i_alignment {N : Nat} {want1 : Str} {typed2 : Str} {r : Str} (hm : i_alignment N want1 typed2 = some r) (w : World)  :
    Calls Try.prog 54 #[str want1, str typed2] w (Ret (cx w) (str r)) := by
  unfold i_alignment at hm
  refine Calls.enter [str want1, str typed2] Try.func54 rfl Try.ntmps54 rfl ?_
  refine WJ.seq ?_
  refine WJ.quiet ?_
  refine QJ.step (YldS.yld (y_assign rfl)) rfl ?_
  refine QJ.done ?_
  refine PJ.next ?_
  refine WJ.seq ?_
  refine WJ.reg ?_
  refine SJ.q (YldS.yld (y_move rfl)) rfl ?_
  refine SJ.q (YldS.yld (y_move rfl)) rfl ?_
  obtain ⟨r3, h4, hm⟩ := bindS hm
  refine SJ.call Try.call57 rfl (fun w hw => ok_i_leastFrom h4 w ) rfl ?_
  rintro v5 _ ⟨_, vs6, rfl, rfl⟩
  refine SJ.q (YldS.yld (y_assign rfl)) rfl ?_
  refine SJ.nil ?_
  refine PJ.next ?_
  refine WJ.seq ?_
  refine WJ.reg ?_
  refine SJ.buildSlice (R := fByte) (os := []) [] Try.runUnderlying22 Try.sizeOf5 Try.zeroValue5 rfl rfl rfl rfl rfl rfl fun v7 => ?_
  refine SJ.q (YldS.yld (y_assign rfl)) rfl ?_
  refine SJ.nil ?_
  refine PJ.next ?_
  obtain ⟨kj10, hk11, hm⟩ := withK_open hm
  refine WJ.join (X := (List UInt8) × Value) (fun (x : (List UInt8) × Value) => kj10 x.1 = some r) (fun (x : (List UInt8) × Value) => [(6, x.2)]) (fun (x : (List UInt8) × Value) => [row x.2 5 fByte x.1]) ?_ ?_
  · clear hk11
    refine WJ.seq ?_
    refine WJ.quiet ?_
    refine QJ.step (YldS.yld (y_assign rfl)) rfl ?_
    refine QJ.step (YldS.yld (y_assign rfl)) rfl ?_
    refine QJ.done ?_
    refine PJ.next ?_
    refine WJ.block ?_
    refine WJ.sel (L' := (fun (x : (List UInt8) × Value × Int × Int) => [row x.2.1 5 fByte x.1, row v5 81 fRaw1 vs6, inn (rSl fI64.rp) vs6 r3]) ([], v7, 0, 0)) [0, 1, 2] ⟨by decide, rfl⟩ ?_
    refine WJ.sub (m' := (fun (x : (List UInt8) × Value × Int × Int) => [(0, str want1), (1, str typed2), (5, v5), (6, x.2.1), (7, .int .i64 x.2.2.1), (8, .int .i64 x.2.2.2)]) ([], v7, 0, 0)) ⟨rfl, rfl, rfl, rfl, rfl, rfl, trivial⟩ ?_
    refine WJ.loop (X := (List UInt8) × Value × Int × Int) (fun N (x : (List UInt8) × Value × Int × Int) => i_alignment_l1 kj10 want1 typed2 r3 N x.1 x.2.2.1 x.2.2.2 = some r) (fun (x : (List UInt8) × Value × Int × Int) => [(0, str want1), (1, str typed2), (5, v5), (6, x.2.1), (7, .int .i64 x.2.2.1), (8, .int .i64 x.2.2.2)]) (fun (x : (List UInt8) × Value × Int × Int) => [row x.2.1 5 fByte x.1, row v5 81 fRaw1 vs6, inn (rSl fI64.rp) vs6 r3]) ?_ N ([], v7, 0, 0) hm
    · rintro N ⟨l12, v13, i14, k15⟩ hI
      have hm := hI; clear hI
      cases N with
      | zero => cases hm
      | succ N =>
      unfold i_alignment_l1 at hm
      obtain ⟨kj20, hk21, hm⟩ := withK_open hm
      refine WJ.joinT (X := (List UInt8) × Value × Int × Int) (fun (x : (List UInt8) × Value × Int × Int) => kj20 x.1 x.2.2.1 x.2.2.2 = some r) (fun (x : (List UInt8) × Value × Int × Int) => [(0, str want1), (1, str typed2), (5, v5), (6, x.2.1), (7, .int .i64 x.2.2.1), (8, .int .i64 x.2.2.2)]) (fun (x : (List UInt8) × Value × Int × Int) => [row x.2.1 5 fByte x.1, row v5 81 fRaw1 vs6, inn (rSl fI64.rp) vs6 r3]) ?_ ?_
      · clear hk21
        refine WJ.seq ?_
        refine WJ.seq ?_
        refine WJ.quiet ?_
        refine QJ.step (YldS.yld (y_move rfl)) rfl ?_
        refine QJ.step (YldS.yld (y_move rfl)) rfl ?_
        refine QJ.step (YldS.yld (y_lenStr Try.runUnderlying9 rfl)) rfl ?_
        refine QJ.step (YldS.yld (y_bin rfl rfl rfl)) rfl ?_
        refine QJ.step (YldS.yld (y_move rfl)) rfl ?_
        obtain ⟨t22, h23, hm⟩ := bindS hm
        refine QJ.cut 5 [(0, str want1), (1, str typed2), (5, v5), (6, v13), (7, .int .i64 i14), (8, .int .i64 k15), (28, .bool t22)] ?_ ?_
        · rcases Bool.eq_false_or_eq_true (decide (i14 < (List.length want1 : Int))) with hb24 | hb24
          · obtain rfl := orT h23 hb24
            refine QJ.off rfl rfl (cB hb24) rfl rfl ?_
            refine QJ.off rfl rfl (cB hb24) rfl rfl ?_
            refine QJ.off rfl rfl (cB hb24) rfl rfl ?_
            refine QJ.off rfl rfl (cB hb24) rfl rfl ?_
            refine QJ.step (YldS.yld (y_pick_t (cB hb24) rfl)) rfl ?_
            exact QJ.cut_end ⟨rfl, rfl, rfl, rfl, rfl, rfl, rfl, trivial⟩
          · replace h23 := orF h23 hb24
            refine QJ.on rfl rfl (cB hb24) (YldS.yld (y_move rfl)) rfl ?_
            refine QJ.on rfl rfl (cB hb24) (YldS.yld (y_move rfl)) rfl ?_
            refine QJ.on rfl rfl (cB hb24) (YldS.yld (y_lenStr Try.runUnderlying9 rfl)) rfl ?_
            refine QJ.on rfl rfl (cB hb24) (YldS.yld (y_bin rfl rfl rfl)) rfl ?_
            refine QJ.step (YldS.yld (y_pick_f (cB hb24) rfl)) rfl ?_
            obtain rfl := Option.some.inj h23
            exact QJ.cut_end ⟨rfl, rfl, rfl, rfl, rfl, rfl, rfl, trivial⟩
        refine QJ.done ?_
        refine PJ.next ?_
        refine WJ.cond (t := t22) rfl (fun hb25 => ?_) (fun hb25 => ?_)
        · replace hm := ifT hm hb25
          refine WJ.skip ?_
          refine PJ.next ?_
          refine WJ.block ?_
          refine WJ.seq ?_
          refine WJ.reg ?_
          refine SJ.buildSlice (R := fByte) (os := [.const (.int .u8 (UInt8.toNat 43 : Int)), .const (.int .u8 (UInt8.toNat 45 : Int)), .const (.int .u8 (UInt8.toNat 61 : Int)), .const (.int .u8 (UInt8.toNat 120 : Int)), .const (.int .u8 (UInt8.toNat 126 : Int))]) [43, 45, 61, 120, 126] Try.runUnderlying22 Try.sizeOf5 Try.zeroValue5 rfl rfl rfl rfl rfl rfl fun v26 => ?_
          refine SJ.convMark (k := 0) rfl Try.underlying22 Try.underlying5 rfl rfl ?_
          refine SJ.q (YldS.yld (y_lenRowM (k := 0) rfl Try.runUnderlying22 rfl)) rfl ?_
          refine SJ.q (YldS.yld (y_move rfl)) rfl ?_
          refine SJ.nil ?_
          refine PJ.next ?_
          refine WJ.block ?_
          refine WJ.sel (L' := (fun (x : (List UInt8) × Value × Int × Int × Int) => [rowM v26 5 fByte [43, 45, 61, 120, 126], row x.2.1 5 fByte x.1, row v5 81 fRaw1 vs6, inn (rSl fI64.rp) vs6 r3]) (l12, v13, i14, k15, 0)) [0, 1, 2, 3] ⟨by decide, rfl⟩ ?_
          refine WJ.sub (m' := (fun (x : (List UInt8) × Value × Int × Int × Int) => [(0, str want1), (1, str typed2), (5, v5), (6, x.2.1), (7, .int .i64 x.2.2.1), (8, .int .i64 x.2.2.2.1), (30, v26), (31, .int .i64 (List.length [43, 45, 61, 120, 126] : Int)), (32, .int .i64 x.2.2.2.2)]) (l12, v13, i14, k15, 0)) ⟨rfl, rfl, rfl, rfl, rfl, rfl, rfl, rfl, rfl, trivial⟩ ?_
          refine WJ.loop (X := (List UInt8) × Value × Int × Int × Int) (fun N (x : (List UInt8) × Value × Int × Int × Int) => i_alignment_l2 kj20 want1 typed2 r3 N x.1 x.2.2.1 x.2.2.2.1 x.2.2.2.2 = some r) (fun (x : (List UInt8) × Value × Int × Int × Int) => [(0, str want1), (1, str typed2), (5, v5), (6, x.2.1), (7, .int .i64 x.2.2.1), (8, .int .i64 x.2.2.2.1), (30, v26), (31, .int .i64 (List.length [43, 45, 61, 120, 126] : Int)), (32, .int .i64 x.2.2.2.2)]) (fun (x : (List UInt8) × Value × Int × Int × Int) => [rowM v26 5 fByte [43, 45, 61, 120, 126], row x.2.1 5 fByte x.1, row v5 81 fRaw1 vs6, inn (rSl fI64.rp) vs6 r3]) ?_ N (l12, v13, i14, k15, 0) hm
          · rintro N ⟨l27, v28, i29, k30, x31⟩ hI
            have hm := hI; clear hI
            cases N with
            | zero => cases hm
            | succ N =>
            unfold i_alignment_l2 at hm
            refine WJ.seq ?_
            refine WJ.quiet ?_
            refine QJ.step (YldS.yld (y_bin rfl rfl rfl)) rfl ?_
            refine QJ.done ?_
            refine PJ.next ?_
            refine WJ.seq ?_
            refine WJ.cond (t := decide (x31 < (List.length [43, 45, 61, 120, 126] : Int))) rfl (fun hb32 => ?_) (fun hb32 => ?_)
            · replace hm := ifT hm hb32
              refine WJ.skip ?_
              refine PJ.next ?_
              refine WJ.seq ?_
              refine WJ.block ?_
              refine WJ.seq ?_
              refine WJ.quiet ?_
              obtain ⟨e33, h34, hm⟩ := bindS hm
              refine QJ.step (YldS.yld (y_ixRowM (k := 0) (R := fByte) rfl Try.runUnderlying22 Try.sizeOf5 rfl rfl h34)) rfl ?_
              refine QJ.step (YldS.yld (y_loadRM (k := 0) (i := (Int.toNat x31)) (off := 0) (u := .int .u8 (UInt8.toNat e33 : Int)) rfl Try.isAgg5 rfl (idx_get h34) rfl)) rfl ?_
              refine QJ.step (YldS.yld (y_assign rfl)) rfl ?_
              refine QJ.done ?_
              refine PJ.next ?_
              refine WJ.seq ?_
              refine WJ.quiet_draw follows (by kernel_rfl) ?_
              refine QJ.step (YldS.yld (y_move rfl)) rfl ?_
              refine QJ.step (YldS.yld (y_move rfl)) rfl ?_
              obtain ⟨s35, h36, hm⟩ := bindS hm
              refine QJ.step (YldS.yld (y_subStr (i := some i29) (j := none) h36 Try.runUnderlying9 rfl ⟨_, rfl⟩ trivial)) rfl ?_
              refine QJ.step (YldS.yld (y_move rfl)) rfl ?_
              refine QJ.step (YldS.yld (y_move rfl)) rfl ?_
              obtain ⟨s37, h38, hm⟩ := bindS hm
              refine QJ.step (YldS.yld (y_subStr (i := some k30) (j := none) h38 Try.runUnderlying9 rfl ⟨_, rfl⟩ trivial)) rfl ?_
              refine QJ.step (YldS.yld (y_move rfl)) rfl ?_
              obtain ⟨r39, h40, hm⟩ := bindS hm
              refine QJ.step (y_call Try.call77 rfl (RetG.quiet fun w hw => ok_i_stepAt h40 w )) rfl ?_
              refine QJ.step (YldS.yld (y_move rfl)) rfl ?_
              refine QJ.step (YldS.yld (y_extract rfl rfl)) rfl ?_
              refine QJ.step (YldS.yld (y_extract rfl rfl)) rfl ?_
              refine QJ.step (YldS.yld (y_extract rfl rfl)) rfl ?_
              refine QJ.step (YldS.yld (y_extract rfl rfl)) rfl ?_
              refine QJ.step (YldS.yld (y_assign rfl)) rfl ?_
              refine QJ.step (YldS.yld (y_assign rfl)) rfl ?_
              refine QJ.step (YldS.yld (y_assign rfl)) rfl ?_
              refine QJ.step (YldS.yld (y_assign rfl)) rfl ?_
              refine QJ.done ?_
              refine PJ.next ?_
              refine WJ.seq ?_
              refine WJ.inn_len 3 rfl fun hl41 => ?_
              refine WJ.quiet_draw follows (by kernel_rfl) ?_
              refine QJ.step (YldS.yld (y_move rfl)) rfl ?_
              refine QJ.step (YldS.yld (y_move rfl)) rfl ?_
              obtain ⟨t42, h43, hm⟩ := bindS hm
              refine QJ.cut 22 [(0, str want1), (1, str typed2), (5, v5), (6, v28), (7, .int .i64 i29), (8, .int .i64 k30), (10, .int .u8 (UInt8.toNat e33 : Int)), (11, .int .i64 r39.1), (12, .int .i64 r39.2.1), (30, v26), (31, .int .i64 (List.length [43, 45, 61, 120, 126] : Int)), (32, .int .i64 x31), (72, .bool t42)] ?_ ?_
              · rcases Bool.eq_false_or_eq_true r39.2.2.2 with hb44 | hb44
                · replace h43 := andT h43 hb44
                  refine QJ.on rfl rfl (cB hb44) (YldS.yld (y_move rfl)) rfl ?_
                  refine QJ.on rfl rfl (cB hb44) (YldS.yld (y_move rfl)) rfl ?_
                  refine QJ.on rfl rfl (cB hb44) (YldS.yld (y_move rfl)) rfl ?_
                  refine QJ.on rfl rfl (cB hb44) (YldS.yld (y_bin rfl rfl rfl)) rfl ?_
                  obtain ⟨e45, h46, h43⟩ := bindS h43
                  obtain ⟨y47, hy48⟩ := inn_idx hl41 h46
                  refine QJ.on rfl rfl (cB hb44) (YldS.yld (y_ixRow (k := 2) (R := fRaw1) rfl Try.runUnderlying82 Try.sizeOf81 rfl rfl hy48)) rfl ?_
                  refine QJ.on rfl rfl (cB hb44) (YldS.yld (y_loadR (k := 2) (i := (Int.toNat (w64 (i29 + r39.1)))) (off := 0) rfl Try.isAgg81 rfl (idx_get hy48) (raw_get y47))) rfl ?_
                  refine QJ.on rfl rfl (cB hb44) (YldS.yld (y_move rfl)) rfl ?_
                  refine QJ.on rfl rfl (cB hb44) (YldS.yld (y_move rfl)) rfl ?_
                  refine QJ.on rfl rfl (cB hb44) (YldS.yld (y_bin rfl rfl rfl)) rfl ?_
                  obtain ⟨e49, h50, h43⟩ := bindS h43
                  refine QJ.on rfl rfl (cB hb44) (YldS.yld (y_ixG (R := fI64) (fun w hw => (hw.inn_rd (k := 3) rfl rfl hy48 h46)) Try.runUnderlying81 Try.sizeOf3 rfl rfl h50)) rfl ?_
                  refine QJ.on rfl rfl (cB hb44) (YldS.yld (y_loadG (R := fI64) (i := (Int.toNat (w64 (k30 + r39.2.1)))) (off := 0) (fun w hw => (hw.inn_rd (k := 3) rfl rfl hy48 h46)) Try.isAgg3 rfl (idx_get h50) rfl)) rfl ?_
                  refine QJ.on rfl rfl (cB hb44) (YldS.yld (y_move rfl)) rfl ?_
                  refine QJ.on rfl rfl (cB hb44) (YldS.yld (y_bin rfl rfl rfl)) rfl ?_
                  refine QJ.on rfl rfl (cB hb44) (YldS.yld (y_move rfl)) rfl ?_
                  refine QJ.on rfl rfl (cB hb44) (YldS.yld (y_move rfl)) rfl ?_
                  obtain ⟨e51, h52, h43⟩ := bindS h43
                  obtain ⟨y53, hy54⟩ := inn_idx hl41 h52
                  refine QJ.on rfl rfl (cB hb44) (YldS.yld (y_ixRow (k := 2) (R := fRaw1) rfl Try.runUnderlying82 Try.sizeOf81 rfl rfl hy54)) rfl ?_
                  refine QJ.on rfl rfl (cB hb44) (YldS.yld (y_loadR (k := 2) (i := (Int.toNat i29)) (off := 0) rfl Try.isAgg81 rfl (idx_get hy54) (raw_get y53))) rfl ?_
                  refine QJ.on rfl rfl (cB hb44) (YldS.yld (y_move rfl)) rfl ?_
                  obtain ⟨e55, h56, h43⟩ := bindS h43
                  refine QJ.on rfl rfl (cB hb44) (YldS.yld (y_ixG (R := fI64) (fun w hw => (hw.inn_rd (k := 3) rfl rfl hy54 h52)) Try.runUnderlying81 Try.sizeOf3 rfl rfl h56)) rfl ?_
                  refine QJ.on rfl rfl (cB hb44) (YldS.yld (y_loadG (R := fI64) (i := (Int.toNat k30)) (off := 0) (fun w hw => (hw.inn_rd (k := 3) rfl rfl hy54 h52)) Try.isAgg3 rfl (idx_get h56) rfl)) rfl ?_
                  refine QJ.on rfl rfl (cB hb44) (YldS.yld (y_bin rfl rfl rfl)) rfl ?_
                  refine QJ.step (YldS.yld (y_pick_t (cB hb44) rfl)) rfl ?_
                  obtain rfl := Option.some.inj h43
                  exact QJ.cut_end ⟨rfl, rfl, rfl, rfl, rfl, rfl, rfl, rfl, rfl, rfl, rfl, rfl, rfl, trivial⟩
                · obtain rfl := andF h43 hb44
                  refine QJ.off rfl rfl (cB hb44) rfl rfl ?_
                  refine QJ.off rfl rfl (cB hb44) rfl rfl ?_
                  refine QJ.off rfl rfl (cB hb44) rfl rfl ?_
                  refine QJ.off rfl rfl (cB hb44) rfl rfl ?_
                  refine QJ.off rfl rfl (cB hb44) rfl rfl ?_
                  refine QJ.off rfl rfl (cB hb44) rfl rfl ?_
                  refine QJ.off rfl rfl (cB hb44) rfl rfl ?_
                  refine QJ.off rfl rfl (cB hb44) rfl rfl ?_
                  refine QJ.off rfl rfl (cB hb44) rfl rfl ?_
                  refine QJ.off rfl rfl (cB hb44) rfl rfl ?_
                  refine QJ.off rfl rfl (cB hb44) rfl rfl ?_
                  refine QJ.off rfl rfl (cB hb44) rfl rfl ?_
                  refine QJ.off rfl rfl (cB hb44) rfl rfl ?_
                  refine QJ.off rfl rfl (cB hb44) rfl rfl ?_
                  refine QJ.off rfl rfl (cB hb44) rfl rfl ?_
                  refine QJ.off rfl rfl (cB hb44) rfl rfl ?_
                  refine QJ.off rfl rfl (cB hb44) rfl rfl ?_
                  refine QJ.off rfl rfl (cB hb44) rfl rfl ?_
                  refine QJ.off rfl rfl (cB hb44) rfl rfl ?_
                  refine QJ.off rfl rfl (cB hb44) rfl rfl ?_
                  refine QJ.off rfl rfl (cB hb44) rfl rfl ?_
                  refine QJ.step (YldS.yld (y_pick_f (cB hb44) rfl)) rfl ?_
                  exact QJ.cut_end ⟨rfl, rfl, rfl, rfl, rfl, rfl, rfl, rfl, rfl, rfl, rfl, rfl, rfl, trivial⟩
              refine QJ.done ?_
              refine PJ.next ?_
              refine WJ.cond (t := t42) rfl (fun hb57 => ?_) (fun hb57 => ?_)
              · replace hm := ifT hm hb57
                refine WJ.seq ?_
                refine WJ.reg ?_
                refine SJ.q (YldS.yld (y_move rfl)) rfl ?_
                refine SJ.q (YldS.yld (y_move rfl)) rfl ?_
                refine SJ.buildSlice (R := fByte) (os := [.tmp 74]) [e33] Try.runUnderlying22 Try.sizeOf5 Try.zeroValue5 rfl rfl rfl rfl rfl rfl fun v58 => ?_
                obtain ⟨l59, h60, hm⟩ := bindS hm
                refine SJ.append (k := 2) (R := fByte) h60 rfl Try.underlying22 el5 rfl rfl rfl (fun w hw => (hw.row_rd (k := 0) rfl)) rfl fun v61 => ?_
                refine SJ.q (YldS.yld (y_assign rfl)) rfl ?_
                refine SJ.nil ?_
                refine PJ.next ?_
                refine WJ.seq ?_
                refine WJ.quiet ?_
                refine QJ.step (YldS.yld (y_move rfl)) rfl ?_
                refine QJ.step (YldS.yld (y_move rfl)) rfl ?_
                refine QJ.step (YldS.yld (y_bin rfl rfl rfl)) rfl ?_
                refine QJ.step (YldS.yld (y_move rfl)) rfl ?_
                refine QJ.step (YldS.yld (y_move rfl)) rfl ?_
                refine QJ.step (YldS.yld (y_bin rfl rfl rfl)) rfl ?_
                refine QJ.step (YldS.yld (y_assign rfl)) rfl ?_
                refine QJ.step (YldS.yld (y_assign rfl)) rfl ?_
                refine QJ.done ?_
                refine PJ.next ?_
                refine WJ.exit ?_
                refine PJ.block_exit_ne rfl (PJ.then_exit (PJ.then_exit (PJ.block_exit (PJ.block_normal ?_))))
                exact PJ.joined (l59, v61, w64 (i29 + r39.1), w64 (k30 + r39.2.1)) [2, 3, 4] hm ⟨rfl, rfl, rfl, rfl, rfl, rfl, trivial⟩ ⟨by decide, rfl⟩
              · replace hm := ifF hm hb57
                refine WJ.skip ?_
                refine PJ.block_normal (PJ.next ?_)
                refine WJ.quiet ?_
                refine QJ.step (YldS.yld (y_bin rfl rfl rfl)) rfl ?_
                refine QJ.step (YldS.yld (y_move rfl)) rfl ?_
                refine QJ.done ?_
                exact PJ.round (l27, v28, i29, k30, w64 (x31 + 1)) [0, 1, 2, 3] hm ⟨rfl, rfl, rfl, rfl, rfl, rfl, rfl, rfl, rfl, trivial⟩ ⟨by decide, rfl⟩
            · replace hm := ifF hm hb32
              refine WJ.exit ?_
              refine PJ.then_exit (PJ.then_exit (PJ.block_exit (PJ.block_normal ?_)))
              exact PJ.joined (l27, v28, i29, k30) [1, 2, 3] hm ⟨rfl, rfl, rfl, rfl, rfl, rfl, trivial⟩ ⟨by decide, rfl⟩
        · replace hm := ifF hm hb25
          refine WJ.exit ?_
          refine PJ.then_exit (PJ.then_exit (PJ.then_exit (PJ.block_exit ?_)))
          exact PJ.joined (l12, v13) [0] hm ⟨rfl, trivial⟩ ⟨by decide, rfl⟩
      · rintro ⟨l16, v17, i18, k19⟩ hm
        subst hk21
        exact PJ.round (l16, v17, i18, k19) [0, 1, 2] hm ⟨rfl, rfl, rfl, rfl, rfl, rfl, trivial⟩ ⟨by decide, rfl⟩
  · rintro ⟨l8, v9⟩ hm
    subst hk11
    refine WJ.seq ?_
    refine WJ.quiet ?_
    refine QJ.step (YldS.yld (y_move rfl)) rfl ?_
    refine QJ.step (YldS.yld (y_b2s Try.underlying22 Try.underlying9 Try.underlying5 (fun w hw => ⟨_, (hw.row_rd (k := 0) rfl)⟩) rfl)) rfl ?_
    refine QJ.step (YldS.yld (y_assign rfl)) rfl ?_
    refine QJ.done ?_
    refine PJ.next ?_
    refine WJ.ret ?_
    obtain rfl := Option.some.inj hm
    refine PJ.sel (L' := []) [] ⟨List.nodup_nil, rfl⟩ ?_
    exact PJ.retn (vs := [str l8]) Try.results54 ⟨rfl, trivial⟩ ⟨rfl, rfl⟩

set_option maxRecDepth 100000 in
set_option maxHeartbeats 1000000 in
theorem ok_i_ascending {N : Nat} {marked1 : List Bool} {r : Str} (hm : i_ascending N marked1 = some r) (w : World) (ad2 : Addr) (ha3 : RdS w (cx w).Fz (.slice (some ad2) 256 256) fBool.rp marked1) :
    Calls Try.prog 55 #[.pointer (some ad2)] w (Ret (cx w) (str r)) := by
  unfold i_ascending at hm
  refine Calls.enter [.pointer (some ad2)] Try.func55 rfl Try.ntmps55 rfl ?_
  refine WJ.seq ?_
  refine WJ.quiet ?_
  refine QJ.step (YldS.yld (y_assign rfl)) rfl ?_
  refine QJ.done ?_
  refine PJ.next ?_
  refine WJ.seq ?_
  refine WJ.reg ?_
  refine SJ.buildSlice (R := fByte) (os := []) [] Try.runUnderlying22 Try.sizeOf5 Try.zeroValue5 rfl rfl rfl rfl rfl rfl fun v4 => ?_
  refine SJ.q (YldS.yld (y_assign rfl)) rfl ?_
  refine SJ.nil ?_
  refine PJ.next ?_
  obtain ⟨kj7, hk8, hm⟩ := withK_open hm
  refine WJ.join (X := (List UInt8) × Value) (fun (x : (List UInt8) × Value) => kj7 x.1 = some r) (fun (x : (List UInt8) × Value) => [(3, x.2)]) (fun (x : (List UInt8) × Value) => [row x.2 5 fByte x.1]) ?_ ?_
  · clear hk8
    refine WJ.seq ?_
    refine WJ.quiet ?_
    refine QJ.step (YldS.yld (y_move rfl)) rfl ?_
    refine QJ.done ?_
    refine PJ.next ?_
    refine WJ.block ?_
    refine WJ.sel (L' := (fun (x : (List UInt8) × Value × Int) => [row x.2.1 5 fByte x.1]) ([], v4, 0)) [0] ⟨by decide, rfl⟩ ?_
    refine WJ.sub (m' := (fun (x : (List UInt8) × Value × Int) => [(0, .pointer (some ad2)), (3, x.2.1), (6, .int .i64 x.2.2)]) ([], v4, 0)) ⟨rfl, rfl, rfl, trivial⟩ ?_
    refine WJ.loop (X := (List UInt8) × Value × Int) (fun N (x : (List UInt8) × Value × Int) => i_ascending_l1 kj7 marked1 N x.1 x.2.2 = some r) (fun (x : (List UInt8) × Value × Int) => [(0, .pointer (some ad2)), (3, x.2.1), (6, .int .i64 x.2.2)]) (fun (x : (List UInt8) × Value × Int) => [row x.2.1 5 fByte x.1]) ?_ N ([], v4, 0) hm
    · rintro N ⟨l9, v10, x11⟩ hI
      have hm := hI; clear hI
      cases N with
      | zero => cases hm
      | succ N =>
      unfold i_ascending_l1 at hm
      refine WJ.seq ?_
      refine WJ.quiet ?_
      refine QJ.step (YldS.yld (y_bin rfl rfl rfl)) rfl ?_
      refine QJ.done ?_
      refine PJ.next ?_
      refine WJ.seq ?_
      refine WJ.cond (t := decide (x11 < 256)) rfl (fun hb12 => ?_) (fun hb12 => ?_)
      · replace hm := ifT hm hb12
        refine WJ.skip ?_
        refine PJ.next ?_
        obtain ⟨kj15, hk16, hm⟩ := withK_open hm
        refine WJ.join (X := (List UInt8) × Value) (fun (x : (List UInt8) × Value) => kj15 x.1 = some r) (fun (x : (List UInt8) × Value) => [(0, .pointer (some ad2)), (3, x.2), (6, .int .i64 x11)]) (fun (x : (List UInt8) × Value) => [row x.2 5 fByte x.1]) ?_ ?_
        · clear hk16
          refine WJ.block ?_
          refine WJ.seq ?_
          refine WJ.quiet ?_
          refine QJ.step (YldS.yld (y_move rfl)) rfl ?_
          refine QJ.step (YldS.yld (y_assign rfl)) rfl ?_
          refine QJ.done ?_
          refine PJ.next ?_
          refine WJ.seq ?_
          refine WJ.quiet ?_
          refine QJ.step (YldS.yld (y_move rfl)) rfl ?_
          refine QJ.step (YldS.yld (y_move rfl)) rfl ?_
          refine QJ.step (YldS.yld (y_nil rfl)) rfl ?_
          obtain ⟨e17, h18, hm⟩ := bindS hm
          obtain ⟨ad19, _, rfl, ha20, hy21⟩ := ha3.elemA h18
          refine QJ.step (YldS.yld (hy21 Try.runUnderlying77 Try.sizeOf4 rfl rfl)) rfl ?_
          refine QJ.step (YldS.yld (y_load1 (v := .bool e17) Try.isAgg4 ha20 St.frozenC rfl)) rfl ?_
          refine QJ.done ?_
          refine PJ.next ?_
          refine WJ.cond (t := e17) rfl (fun hb22 => ?_) (fun hb22 => ?_)
          · replace hm := ifT hm hb22
            refine WJ.reg ?_
            refine SJ.q (YldS.yld (y_move rfl)) rfl ?_
            refine SJ.q (YldS.yld (y_move rfl)) rfl ?_
            refine SJ.q (YldS.yld (y_convTo8 Try.runUnderlying3 Try.runUnderlying5 rfl)) rfl ?_
            refine SJ.buildSlice (R := fByte) (os := [.tmp 16]) [UInt8.ofInt x11] Try.runUnderlying22 Try.sizeOf5 Try.zeroValue5 rfl rfl rfl rfl rfl rfl fun v23 => ?_
            obtain ⟨l24, h25, hm⟩ := bindS hm
            refine SJ.append (k := 1) (R := fByte) h25 rfl Try.underlying22 el5 rfl rfl rfl (fun w hw => (hw.row_rd (k := 0) rfl)) rfl fun v26 => ?_
            refine SJ.q (YldS.yld (y_assign rfl)) rfl ?_
            refine SJ.nil ?_
            refine PJ.block_normal ?_
            exact PJ.joined (l24, v26) [1] hm ⟨rfl, rfl, rfl, trivial⟩ ⟨by decide, rfl⟩
          · replace hm := ifF hm hb22
            refine WJ.skip ?_
            refine PJ.block_normal ?_
            exact PJ.joined (l9, v10) [0] hm ⟨rfl, rfl, rfl, trivial⟩ ⟨by decide, rfl⟩
        · rintro ⟨l13, v14⟩ hm
          subst hk16
          refine WJ.quiet ?_
          refine QJ.step (YldS.yld (y_bin rfl rfl rfl)) rfl ?_
          refine QJ.step (YldS.yld (y_move rfl)) rfl ?_
          refine QJ.done ?_
          exact PJ.round (l13, v14, w64 (x11 + 1)) [0] hm ⟨rfl, rfl, rfl, trivial⟩ ⟨by decide, rfl⟩
      · replace hm := ifF hm hb12
        refine WJ.exit ?_
        refine PJ.then_exit (PJ.then_exit (PJ.block_exit ?_))
        exact PJ.joined (l9, v10) [0] hm ⟨rfl, trivial⟩ ⟨by decide, rfl⟩
  · rintro ⟨l5, v6⟩ hm
    subst hk8
    refine WJ.seq ?_
    refine WJ.quiet ?_
    refine QJ.step (YldS.yld (y_move rfl)) rfl ?_
    refine QJ.step (YldS.yld (y_b2s Try.underlying22 Try.underlying9 Try.underlying5 (fun w hw => ⟨_, (hw.row_rd (k := 0) rfl)⟩) rfl)) rfl ?_
    refine QJ.step (YldS.yld (y_assign rfl)) rfl ?_
    refine QJ.done ?_
    refine PJ.next ?_
    refine WJ.ret ?_
    obtain rfl := Option.some.inj hm
    refine PJ.sel (L' := []) [] ⟨List.nodup_nil, rfl⟩ ?_
    exact PJ.retn (vs := [str l5]) Try.results55 ⟨rfl, trivial⟩ ⟨rfl, rfl⟩

set_option maxRecDepth 100000 in
set_option maxHeartbeats 1000000 in
theorem ok_i_MissedLetters {N : Nat} {want1 : Str} {typed2 : Str} {r : Str × (List Int) × Int} (hm : i_MissedLetters N want1 typed2 = some r) (w : World)  :
    Calls Try.prog 18 #[str want1, str typed2] w (RetG (cx w) fun u L => ∃ (u1 : Value), (u = tup [str r.1, u1, .int .i64 r.2.2] ∧ L = [row u1 2 fI64 r.2.1])) := by
  unfold i_MissedLetters at hm
  refine Calls.enter [str want1, str typed2] Try.func18 rfl Try.ntmps18 rfl ?_
  refine WJ.seq ?_
  refine WJ.quiet ?_
  refine QJ.step (YldS.yld (y_assign rfl)) rfl ?_
  refine QJ.step (YldS.yld (y_assign rfl)) rfl ?_
  refine QJ.step (YldS.yld (y_assign rfl)) rfl ?_
  refine QJ.done ?_
  refine PJ.next ?_
  refine WJ.seq ?_
  refine WJ.seq ?_
  refine WJ.quiet ?_
  refine QJ.step (YldS.yld (y_move rfl)) rfl ?_
  obtain ⟨r3, h4, hm⟩ := bindS hm
  refine QJ.step (y_call Try.call53 rfl (RetG.quiet fun w hw => ok_i_isTyped h4 w )) rfl ?_
  refine QJ.step (YldS.yld (y_not rfl)) rfl ?_
  refine QJ.step (YldS.yld (y_move rfl)) rfl ?_
  obtain ⟨t5, h6, hm⟩ := bindS hm
  refine QJ.cut 4 [(0, str want1), (1, str typed2), (22, .bool t5)] ?_ ?_
  · rcases Bool.eq_false_or_eq_true (!r3) with hb7 | hb7
    · obtain rfl := orT h6 hb7
      refine QJ.off rfl rfl (cB hb7) rfl rfl ?_
      refine QJ.off rfl rfl (cB hb7) rfl rfl ?_
      refine QJ.off rfl rfl (cB hb7) rfl rfl ?_
      refine QJ.step (YldS.yld (y_pick_t (cB hb7) rfl)) rfl ?_
      exact QJ.cut_end ⟨rfl, rfl, rfl, trivial⟩
    · replace h6 := orF h6 hb7
      refine QJ.on rfl rfl (cB hb7) (YldS.yld (y_move rfl)) rfl ?_
      obtain ⟨r8, h9, h6⟩ := bindS h6
      refine QJ.on rfl rfl (cB hb7) (y_call Try.call53 rfl (RetG.quiet fun w hw => ok_i_isTyped h9 w )) rfl ?_
      refine QJ.on rfl rfl (cB hb7) (YldS.yld (y_not rfl)) rfl ?_
      refine QJ.step (YldS.yld (y_pick_f (cB hb7) rfl)) rfl ?_
      obtain rfl := Option.some.inj h6
      exact QJ.cut_end ⟨rfl, rfl, rfl, trivial⟩
  refine QJ.done ?_
  refine PJ.next ?_
  refine WJ.cond (t := t5) rfl (fun hb10 => ?_) (fun hb10 => ?_)
  · replace hm := ifT hm hb10
    refine WJ.seq ?_
    refine WJ.quiet ?_
    refine QJ.step (YldS.yld (y_assign rfl)) rfl ?_
    refine QJ.step (YldS.yld (y_assign rfl)) rfl ?_
    refine QJ.step (YldS.yld (y_assign rfl)) rfl ?_
    refine QJ.done ?_
    refine PJ.next ?_
    refine WJ.ret ?_
    refine PJ.then_ret ?_
    refine PJ.nil_row 2 fI64 ?_
    obtain rfl := Option.some.inj hm
    refine PJ.sel (L' := [row (.slice none 0 0) 2 fI64 []]) [0] ⟨by decide, rfl⟩ ?_
    exact PJ.retn (vs := [str [], (.slice none 0 0), .int .i64 2]) Try.results18 ⟨rfl, rfl, rfl, trivial⟩ ⟨_, rfl, rfl⟩
  · replace hm := ifF hm hb10
    refine WJ.skip ?_
    refine PJ.next ?_
    refine WJ.seq ?_
    refine WJ.quiet ?_
    refine QJ.step (YldS.yld (y_move rfl)) rfl ?_
    refine QJ.step (YldS.yld (y_move rfl)) rfl ?_
    obtain ⟨r11, h12, hm⟩ := bindS hm
    refine QJ.step (y_call Try.call54 rfl (RetG.quiet fun w hw => ok_i_alignment h12 w )) rfl ?_
    refine QJ.step (YldS.yld (y_assign rfl)) rfl ?_
    refine QJ.done ?_
    refine PJ.next ?_
    refine WJ.seq ?_
    refine WJ.reg ?_
    refine SJ.q (YldS.yld (y_build0 Try.runUnderlying76 zv76 Try.sizeOf2)) rfl ?_
    refine SJ.q (YldS.yld (y_build0 Try.runUnderlying77 zv77 Try.sizeOf4)) rfl ?_
    refine SJ.allocA (R := fI64) (xs := List.replicate 256 (0 : Int)) 256 zv76 rfl rfl rfl rfl fun g13 => ?_
    refine SJ.allocA (R := fBool) (xs := List.replicate 256 false) 256 zv77 rfl rfl rfl rfl fun g14 => ?_
    refine SJ.storeA (k := 1) (ys := (List.replicate 256 (0 : Int))) rfl rfl rfl rfl (by simp) Try.sizeOf76 (by simp [length_encs, fI64]) ?_
    refine SJ.storeA (k := 0) (ys := (List.replicate 256 false)) rfl rfl rfl rfl (by simp) Try.sizeOf77 (by simp [length_encs, fBool]) ?_
    refine SJ.nil ?_
    refine PJ.next ?_
    refine WJ.seq ?_
    refine WJ.quiet ?_
    refine QJ.step (YldS.yld (y_assign rfl)) rfl ?_
    refine QJ.done ?_
    refine PJ.next ?_
    obtain ⟨kj17, hk18, hm⟩ := withK_open hm
    refine WJ.join (X := (List Bool) × (List Int)) (fun (x : (List Bool) × (List Int)) => kj17 x.1 x.2 = some r) (fun (x : (List Bool) × (List Int)) => [(8, pt g13 0), (9, pt g14 0)]) (fun (x : (List Bool) × (List Int)) => [row (av g14 256) 77 fBool x.1, row (av g13 256) 76 fI64 x.2]) ?_ ?_
    · clear hk18
      refine WJ.seq ?_
      refine WJ.quiet ?_
      refine QJ.step (YldS.yld (y_move rfl)) rfl ?_
      refine QJ.step (YldS.yld (y_lenStr Try.runUnderlying9 rfl)) rfl ?_
      refine QJ.step (YldS.yld (y_move rfl)) rfl ?_
      refine QJ.done ?_
      refine PJ.next ?_
      refine WJ.block ?_
      refine WJ.sel (L' := (fun (x : (List Bool) × (List Int) × Int × Int) => [row (av g14 256) 77 fBool x.1, row (av g13 256) 76 fI64 x.2.1]) ((List.replicate 256 false), (List.replicate 256 (0 : Int)), 0, 0)) [0, 1] ⟨by decide, rfl⟩ ?_
      refine WJ.sub (m' := (fun (x : (List Bool) × (List Int) × Int × Int) => [(0, str want1), (7, str r11), (8, pt g13 0), (9, pt g14 0), (10, .int .i64 x.2.2.1), (29, .int .i64 (List.length r11 : Int)), (30, .int .i64 x.2.2.2)]) ((List.replicate 256 false), (List.replicate 256 (0 : Int)), 0, 0)) ⟨rfl, rfl, rfl, rfl, rfl, rfl, rfl, trivial⟩ ?_
      refine WJ.loop (X := (List Bool) × (List Int) × Int × Int) (fun N (x : (List Bool) × (List Int) × Int × Int) => i_MissedLetters_l1 kj17 want1 r11 N x.1 x.2.1 x.2.2.1 x.2.2.2 = some r) (fun (x : (List Bool) × (List Int) × Int × Int) => [(0, str want1), (7, str r11), (8, pt g13 0), (9, pt g14 0), (10, .int .i64 x.2.2.1), (29, .int .i64 (List.length r11 : Int)), (30, .int .i64 x.2.2.2)]) (fun (x : (List Bool) × (List Int) × Int × Int) => [row (av g14 256) 77 fBool x.1, row (av g13 256) 76 fI64 x.2.1]) ?_ N ((List.replicate 256 false), (List.replicate 256 (0 : Int)), 0, 0) hm
      · rintro N ⟨l19, l20, at21, x22⟩ hI
        have hm := hI; clear hI
        cases N with
        | zero => cases hm
        | succ N =>
        unfold i_MissedLetters_l1 at hm
        refine WJ.seq ?_
        refine WJ.quiet ?_
        refine QJ.step (YldS.yld (y_bin rfl rfl rfl)) rfl ?_
        refine QJ.done ?_
        refine PJ.next ?_
        refine WJ.seq ?_
        refine WJ.cond (t := decide (x22 < (List.length r11 : Int))) rfl (fun hb23 => ?_) (fun hb23 => ?_)
        · replace hm := ifT hm hb23
          refine WJ.skip ?_
          refine PJ.next ?_
          obtain ⟨kj27, hk28, hm⟩ := withK_open hm
          refine WJ.join (X := (List Bool) × (List Int) × Int) (fun (x : (List Bool) × (List Int) × Int) => kj27 x.1 x.2.1 x.2.2 = some r) (fun (x : (List Bool) × (List Int) × Int) => [(0, str want1), (7, str r11), (8, pt g13 0), (9, pt g14 0), (10, .int .i64 x.2.2), (29, .int .i64 (List.length r11 : Int)), (30, .int .i64 x22)]) (fun (x : (List Bool) × (List Int) × Int) => [row (av g14 256) 77 fBool x.1, row (av g13 256) 76 fI64 x.2.1]) ?_ ?_
          · clear hk28
            refine WJ.block ?_
            refine WJ.seq ?_
            refine WJ.quiet ?_
            refine QJ.step (YldS.yld (y_move rfl)) rfl ?_
            refine QJ.step (YldS.yld (y_assign rfl)) rfl ?_
            refine QJ.done ?_
            refine PJ.next ?_
            refine WJ.seq ?_
            refine WJ.quiet ?_
            refine QJ.step (YldS.yld (y_move rfl)) rfl ?_
            refine QJ.step (YldS.yld (y_move rfl)) rfl ?_
            obtain ⟨c29, h30, hm⟩ := bindS hm
            refine QJ.step (YldS.yld (y_idxStr Try.runUnderlying9 rfl rfl h30)) rfl ?_
            refine QJ.done ?_
            refine PJ.next ?_
            refine WJ.block ?_
            obtain ⟨kj32, hk33, hm⟩ := withK_open hm
            refine WJ.join (X := Bool) (fun (x : Bool) => kj32 x = some r) (fun (x : Bool) => [(0, str want1), (7, str r11), (8, pt g13 0), (9, pt g14 0), (10, .int .i64 at21), (29, .int .i64 (List.length r11 : Int)), (30, .int .i64 x22), (35, .int .u8 (UInt8.toNat c29 : Int)), (36, .bool x)]) (fun (x : Bool) => [row (av g14 256) 77 fBool l19, row (av g13 256) 76 fI64 l20]) ?_ ?_
            · clear hk33
              refine WJ.seq ?_
              refine WJ.quiet ?_
              refine QJ.step (YldS.yld (y_bin8 c29 (120 : UInt8) rfl rfl rfl)) rfl ?_
              refine QJ.step (YldS.yld (y_assign rfl)) rfl ?_
              refine QJ.done ?_
              refine PJ.next ?_
              refine WJ.cond (t := (c29 == (120 : UInt8))) rfl (fun hb34 => ?_) (fun hb34 => ?_)
              · replace hm := ifT hm hb34
                refine WJ.skip ?_
                exact PJ.joined (c29 == (120 : UInt8)) [0, 1] hm ⟨rfl, rfl, rfl, rfl, rfl, rfl, rfl, rfl, rfl, trivial⟩ ⟨by decide, rfl⟩
              · replace hm := ifF hm hb34
                refine WJ.quiet ?_
                refine QJ.step (YldS.yld (y_bin8 c29 (45 : UInt8) rfl rfl rfl)) rfl ?_
                refine QJ.step (YldS.yld (y_assign rfl)) rfl ?_
                refine QJ.done ?_
                exact PJ.joined (c29 == (45 : UInt8)) [0, 1] hm ⟨rfl, rfl, rfl, rfl, rfl, rfl, rfl, rfl, rfl, trivial⟩ ⟨by decide, rfl⟩
            · rintro x31 hm
              subst hk33
              refine WJ.cond (t := x31) rfl (fun hb35 => ?_) (fun hb35 => ?_)
              · replace hm := ifT hm hb35
                refine WJ.seq ?_
                refine WJ.reg ?_
                refine SJ.q (YldS.yld (y_move rfl)) rfl ?_
                refine SJ.q (YldS.yld (y_move rfl)) rfl ?_
                obtain ⟨c36, h37, hm⟩ := bindS hm
                refine SJ.q (YldS.yld (y_idxStr Try.runUnderlying9 rfl rfl h37)) rfl ?_
                obtain ⟨e38, h39, hm⟩ := bindS hm
                refine SJ.q (YldS.yld (y_ixArr (k := 1) (R := fI64) rfl Try.runUnderlying76 Try.sizeOf2 rfl rfl h39)) rfl ?_
                refine SJ.q (YldS.yld (y_loadR (k := 1) (i := (Int.toNat (UInt8.toNat c36 : Int))) (off := 0) (u := .int .i64 e38) rfl Try.isAgg2 rfl (idx_get h39) rfl)) rfl ?_
                refine SJ.q (YldS.yld (y_bin rfl rfl rfl)) rfl ?_
                obtain ⟨e40, h41, hm⟩ := bindS hm
                refine SJ.q (YldS.yld (y_ixArr (k := 1) (R := fI64) rfl Try.runUnderlying76 Try.sizeOf2 rfl rfl h41)) rfl ?_
                refine SJ.storeRL (k := 1) (i := (Int.toNat (UInt8.toNat c36 : Int))) (off := 0) (us := [.int .i64 (w64 (e38 + 1))]) (b := w64 (e38 + 1)) rfl rfl (idx_get h41) rfl rfl Try.sizeOf2 rfl rfl rfl ?_
                refine SJ.nil ?_
                refine PJ.next ?_
                refine WJ.seq ?_
                refine WJ.reg ?_
                refine SJ.q (YldS.yld (y_move rfl)) rfl ?_
                refine SJ.q (YldS.yld (y_move rfl)) rfl ?_
                obtain ⟨c42, h43, hm⟩ := bindS hm
                refine SJ.q (YldS.yld (y_idxStr Try.runUnderlying9 rfl rfl h43)) rfl ?_
                obtain ⟨e44, h45, hm⟩ := bindS hm
                refine SJ.q (YldS.yld (y_ixArr (k := 0) (R := fBool) rfl Try.runUnderlying77 Try.sizeOf4 rfl rfl h45)) rfl ?_
                refine SJ.storeRL (k := 0) (i := (Int.toNat (UInt8.toNat c42 : Int))) (off := 0) (us := [.bool true]) (b := true) rfl rfl (idx_get h45) rfl rfl Try.sizeOf4 rfl rfl rfl ?_
                refine SJ.nil ?_
                refine PJ.next ?_
                refine WJ.quiet ?_
                refine QJ.step (YldS.yld (y_move rfl)) rfl ?_
                refine QJ.step (YldS.yld (y_bin rfl rfl rfl)) rfl ?_
                refine QJ.step (YldS.yld (y_assign rfl)) rfl ?_
                refine QJ.done ?_
                refine PJ.block_normal (PJ.block_normal ?_)
                exact PJ.joined ((List.set l19 (Int.toNat (UInt8.toNat c42 : Int)) true), (List.set l20 (Int.toNat (UInt8.toNat c36 : Int)) (w64 (e38 + 1))), w64 (at21 + 1)) [0, 1] hm ⟨rfl, rfl, rfl, rfl, rfl, rfl, rfl, trivial⟩ ⟨by decide, rfl⟩
              · replace hm := ifF hm hb35
                refine WJ.seq ?_
                refine WJ.quiet ?_
                refine QJ.step (YldS.yld (y_bin8 c29 (61 : UInt8) rfl rfl rfl)) rfl ?_
                refine QJ.step (YldS.yld (y_assign rfl)) rfl ?_
                refine QJ.done ?_
                refine PJ.next ?_
                refine WJ.cond (t := (c29 == (61 : UInt8))) rfl (fun hb46 => ?_) (fun hb46 => ?_)
                · replace hm := ifT hm hb46
                  refine WJ.quiet ?_
                  refine QJ.step (YldS.yld (y_move rfl)) rfl ?_
                  refine QJ.step (YldS.yld (y_bin rfl rfl rfl)) rfl ?_
                  refine QJ.step (YldS.yld (y_assign rfl)) rfl ?_
                  refine QJ.done ?_
                  refine PJ.block_normal (PJ.block_normal ?_)
                  exact PJ.joined (l19, l20, w64 (at21 + 1)) [0, 1] hm ⟨rfl, rfl, rfl, rfl, rfl, rfl, rfl, trivial⟩ ⟨by decide, rfl⟩
                · replace hm := ifF hm hb46
                  refine WJ.seq ?_
                  refine WJ.quiet ?_
                  refine QJ.step (YldS.yld (y_bin8 c29 (126 : UInt8) rfl rfl rfl)) rfl ?_
                  refine QJ.step (YldS.yld (y_assign rfl)) rfl ?_
                  refine QJ.done ?_
                  refine PJ.next ?_
                  refine WJ.cond (t := (c29 == (126 : UInt8))) rfl (fun hb47 => ?_) (fun hb47 => ?_)
                  · replace hm := ifT hm hb47
                    refine WJ.quiet ?_
                    refine QJ.step (YldS.yld (y_move rfl)) rfl ?_
                    refine QJ.step (YldS.yld (y_bin rfl rfl rfl)) rfl ?_
                    refine QJ.step (YldS.yld (y_assign rfl)) rfl ?_
                    refine QJ.done ?_
                    refine PJ.block_normal (PJ.block_normal ?_)
                    exact PJ.joined (l19, l20, w64 (at21 + 2)) [0, 1] hm ⟨rfl, rfl, rfl, rfl, rfl, rfl, rfl, trivial⟩ ⟨by decide, rfl⟩
                  · replace hm := ifF hm hb47
                    refine WJ.skip ?_
                    refine PJ.block_normal (PJ.block_normal ?_)
                    exact PJ.joined (l19, l20, at21) [0, 1] hm ⟨rfl, rfl, rfl, rfl, rfl, rfl, rfl, trivial⟩ ⟨by decide, rfl⟩
          · rintro ⟨l24, l25, at26⟩ hm
            subst hk28
            refine WJ.quiet ?_
            refine QJ.step (YldS.yld (y_bin rfl rfl rfl)) rfl ?_
            refine QJ.step (YldS.yld (y_move rfl)) rfl ?_
            refine QJ.done ?_
            exact PJ.round (l24, l25, at26, w64 (x22 + 1)) [0, 1] hm ⟨rfl, rfl, rfl, rfl, rfl, rfl, rfl, trivial⟩ ⟨by decide, rfl⟩
        · replace hm := ifF hm hb23
          refine WJ.exit ?_
          refine PJ.then_exit (PJ.then_exit (PJ.block_exit ?_))
          exact PJ.joined (l19, l20) [0, 1] hm ⟨rfl, rfl, trivial⟩ ⟨by decide, rfl⟩
    · rintro ⟨l15, l16⟩ hm
      subst hk18
      refine WJ.seq ?_
      refine WJ.quiet ?_
      obtain ⟨r48, h49, hm⟩ := bindS hm
      refine QJ.step (y_call Try.call55 rfl (RetG.quiet fun w hw => ok_i_ascending h49 w _ (hw.row_rd (k := 0) rfl))) rfl ?_
      refine QJ.step (YldS.yld (y_assign rfl)) rfl ?_
      refine QJ.done ?_
      refine PJ.next ?_
      refine WJ.seq ?_
      refine WJ.reg ?_
      refine SJ.buildSlice (R := fI64) (os := []) [] Try.runUnderlying24 Try.sizeOf2 Try.zeroValue2 rfl rfl rfl rfl rfl rfl fun v50 => ?_
      refine SJ.q (YldS.yld (y_assign rfl)) rfl ?_
      refine SJ.nil ?_
      refine PJ.next ?_
      obtain ⟨kj53, hk54, hm⟩ := withK_open hm
      refine WJ.join (X := (List Int) × Value) (fun (x : (List Int) × Value) => kj53 x.1 = some r) (fun (x : (List Int) × Value) => [(12, str r48), (13, x.2)]) (fun (x : (List Int) × Value) => [row x.2 2 fI64 x.1]) ?_ ?_
      · clear hk54
        refine WJ.seq ?_
        refine WJ.quiet ?_
        refine QJ.step (YldS.yld (y_move rfl)) rfl ?_
        refine QJ.step (YldS.yld (y_lenStr Try.runUnderlying9 rfl)) rfl ?_
        refine QJ.step (YldS.yld (y_move rfl)) rfl ?_
        refine QJ.done ?_
        refine PJ.next ?_
        refine WJ.block ?_
        refine WJ.sel (L' := (fun (x : (List Int) × Value × Int) => [row x.2.1 2 fI64 x.1, row (av g13 256) 76 fI64 l16]) ([], v50, 0)) [0, 2] ⟨by decide, rfl⟩ ?_
        refine WJ.sub (m' := (fun (x : (List Int) × Value × Int) => [(8, pt g13 0), (12, str r48), (13, x.2.1), (64, .int .i64 (List.length r48 : Int)), (65, .int .i64 x.2.2)]) ([], v50, 0)) ⟨rfl, rfl, rfl, rfl, rfl, trivial⟩ ?_
        refine WJ.loop (X := (List Int) × Value × Int) (fun N (x : (List Int) × Value × Int) => i_MissedLetters_l2 kj53 l16 r48 N x.1 x.2.2 = some r) (fun (x : (List Int) × Value × Int) => [(8, pt g13 0), (12, str r48), (13, x.2.1), (64, .int .i64 (List.length r48 : Int)), (65, .int .i64 x.2.2)]) (fun (x : (List Int) × Value × Int) => [row x.2.1 2 fI64 x.1, row (av g13 256) 76 fI64 l16]) ?_ N ([], v50, 0) hm
        · rintro N ⟨l55, v56, x57⟩ hI
          have hm := hI; clear hI
          cases N with
          | zero => cases hm
          | succ N =>
          unfold i_MissedLetters_l2 at hm
          refine WJ.seq ?_
          refine WJ.quiet ?_
          refine QJ.step (YldS.yld (y_bin rfl rfl rfl)) rfl ?_
          refine QJ.done ?_
          refine PJ.next ?_
          refine WJ.seq ?_
          refine WJ.cond (t := decide (x57 < (List.length r48 : Int))) rfl (fun hb58 => ?_) (fun hb58 => ?_)
          · replace hm := ifT hm hb58
            refine WJ.skip ?_
            refine PJ.next ?_
            refine WJ.seq ?_
            refine WJ.block ?_
            refine WJ.seq ?_
            refine WJ.quiet ?_
            refine QJ.step (YldS.yld (y_move rfl)) rfl ?_
            refine QJ.step (YldS.yld (y_assign rfl)) rfl ?_
            refine QJ.done ?_
            refine PJ.next ?_
            refine WJ.reg ?_
            refine SJ.q (YldS.yld (y_move rfl)) rfl ?_
            refine SJ.q (YldS.yld (y_move rfl)) rfl ?_
            refine SJ.q (YldS.yld (y_move rfl)) rfl ?_
            obtain ⟨c59, h60, hm⟩ := bindS hm
            refine SJ.q (YldS.yld (y_idxStr Try.runUnderlying9 rfl rfl h60)) rfl ?_
            obtain ⟨e61, h62, hm⟩ := bindS hm
            refine SJ.q (YldS.yld (y_ixArr (k := 1) (R := fI64) rfl Try.runUnderlying76 Try.sizeOf2 rfl rfl h62)) rfl ?_
            refine SJ.q (YldS.yld (y_loadR (k := 1) (i := (Int.toNat (UInt8.toNat c59 : Int))) (off := 0) (u := .int .i64 e61) rfl Try.isAgg2 rfl (idx_get h62) rfl)) rfl ?_
            refine SJ.buildSlice (R := fI64) (os := [.tmp 73]) [e61] Try.runUnderlying24 Try.sizeOf2 Try.zeroValue2 rfl rfl rfl rfl rfl rfl fun v63 => ?_
            obtain ⟨l64, h65, hm⟩ := bindS hm
            refine SJ.append (k := 1) (R := fI64) h65 rfl Try.underlying24 el2 rfl rfl rfl (fun w hw => (hw.row_rd (k := 0) rfl)) rfl fun v66 => ?_
            refine SJ.q (YldS.yld (y_assign rfl)) rfl ?_
            refine SJ.nil ?_
            refine PJ.block_normal (PJ.next ?_)
            refine WJ.quiet ?_
            refine QJ.step (YldS.yld (y_bin rfl rfl rfl)) rfl ?_
            refine QJ.step (YldS.yld (y_move rfl)) rfl ?_
            refine QJ.done ?_
            exact PJ.round (l64, v66, w64 (x57 + 1)) [1, 2] hm ⟨rfl, rfl, rfl, rfl, rfl, trivial⟩ ⟨by decide, rfl⟩
          · replace hm := ifF hm hb58
            refine WJ.exit ?_
            refine PJ.then_exit (PJ.then_exit (PJ.block_exit ?_))
            exact PJ.joined (l55, v56) [0] hm ⟨rfl, rfl, trivial⟩ ⟨by decide, rfl⟩
      · rintro ⟨l51, v52⟩ hm
        subst hk54
        refine WJ.seq ?_
        refine WJ.quiet ?_
        refine QJ.step (YldS.yld (y_move rfl)) rfl ?_
        refine QJ.step (YldS.yld (y_move rfl)) rfl ?_
        refine QJ.step (YldS.yld (y_assign rfl)) rfl ?_
        refine QJ.step (YldS.yld (y_assign rfl)) rfl ?_
        refine QJ.step (YldS.yld (y_assign rfl)) rfl ?_
        refine QJ.done ?_
        refine PJ.next ?_
        refine WJ.ret ?_
        obtain rfl := Option.some.inj hm
        refine PJ.sel (L' := [row v52 2 fI64 l51]) [0] ⟨by decide, rfl⟩ ?_
        exact PJ.retn (vs := [str r48, v52, .int .i64 0]) Try.results18 ⟨rfl, rfl, rfl, trivial⟩ ⟨_, rfl, rfl⟩

end Go.Proofs.Ytcegcmoeimjioaa
