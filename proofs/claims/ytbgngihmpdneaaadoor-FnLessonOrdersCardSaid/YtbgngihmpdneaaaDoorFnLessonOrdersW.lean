/-
  The walks: a call hands back what its plain function computes, where that has a value. No other conditions.
-/
import Derived.Test.YtbgngihmpdneaaaDoorFnLessonOrdersM
import Derived.Test.YtbgngihmpdneaaaDoorChecked
import Derived.Test.YtbgngihmpdneaaaDoorRows
import Derived.Test.YtbgngihmpdneaaaDoorFnLessonOrdersS
namespace Go.Proofs.YtbgngihmpdneaaaDoor
open Go.RowKit Go.Proofs
set_option linter.unusedVariables false
set_option linter.unusedSimpArgs false

def tabNm : String := (Rows.fnLessonOrdersRow.laid.map (fun x => x.1)).getD 2 default

theorem follows : Tryd.prog.follows .mixedOrders = true := by kernel_rfl

def shLesson : Sh Lesson Int 4 := ⟨fun v x => [str x.name, str x.letters, v, .int .i64 x.hours], fun x => x.needs, 2, fun _ _ => rfl, fun _ _ => rfl, fun v x hv u hu => by
  simp only [List.mem_cons, List.not_mem_nil, or_false] at hu
  rcases hu with rfl | rfl | rfl | rfl <;> first | rfl | exact hv, by decide⟩

def shL00Src : Sh L00Src UInt8 3 := ⟨fun v x => [v, .int .i64 x.at_, .int .u64 x.seed], fun x => x.code, 0, fun _ _ => rfl, fun _ _ => rfl, fun v x hv u hu => by
  simp only [List.mem_cons, List.not_mem_nil, or_false] at hu
  rcases hu with rfl | rfl | rfl <;> first | rfl | exact hv, by decide⟩

theorem pl112 : PlacesOk Tryd.prog 112 [(0, 1), (1, 1), (2, 1)] := ⟨_, Tryd.runUnderlying112, fun w => by simp [Tryd.sizeOf3, Tryd.sizeOf22, Tryd.sizeOf110]⟩
abbrev fRaw4 : FRp (Raw 4) := fRaw 4 (by decide)
theorem fld112_1 : FieldOk Tryd.prog 112 1 1 3 0 := ⟨_, _, Tryd.runUnderlying112, rfl, rfl, rfl, Tryd.sizeOf3⟩
theorem fld112_0 : FieldOk Tryd.prog 112 0 0 22 0 := ⟨_, _, Tryd.runUnderlying112, rfl, rfl, rfl, Tryd.sizeOf22⟩
theorem fld112_2 : FieldOk Tryd.prog 112 2 2 110 0 := ⟨_, _, Tryd.runUnderlying112, rfl, rfl, rfl, Tryd.sizeOf110⟩
theorem pl47 : PlacesOk Tryd.prog 47 [(0, 1), (1, 1), (2, 1), (3, 1)] := ⟨_, Tryd.runUnderlying47, fun w => by simp [Tryd.sizeOf2, Tryd.sizeOf9, Tryd.sizeOf26]⟩
theorem fld47_1 : FieldOk Tryd.prog 47 1 1 9 0 := ⟨_, _, Tryd.runUnderlying47, rfl, rfl, rfl, Tryd.sizeOf9⟩
theorem fld47_2 : FieldOk Tryd.prog 47 2 2 26 0 := ⟨_, _, Tryd.runUnderlying47, rfl, rfl, rfl, Tryd.sizeOf26⟩
set_option maxRecDepth 100000 in
theorem el2 : ElemOk Tryd.prog 2 1 (fI64.enc 0) := ⟨_, _, Tryd.type2, rfl, rfl, rfl, by decide⟩
set_option maxRecDepth 100000 in
theorem el47 : ElemOk Tryd.prog 47 4 (shLesson.enc (.slice none 0 0) (Lesson.mk [] [] [] 0)) := ⟨_, _, Tryd.type47, rfl, rfl, rfl, by decide⟩
theorem fld47_0 : FieldOk Tryd.prog 47 0 0 9 0 := ⟨_, _, Tryd.runUnderlying47, rfl, rfl, rfl, Tryd.sizeOf9⟩
theorem fld47_3 : FieldOk Tryd.prog 47 3 3 2 0 := ⟨_, _, Tryd.runUnderlying47, rfl, rfl, rfl, Tryd.sizeOf2⟩
set_option maxRecDepth 100000 in
theorem el4 : ElemOk Tryd.prog 4 1 (fBool.enc false) := ⟨_, _, Tryd.type4, rfl, rfl, rfl, by decide⟩
set_option maxRecDepth 100000 in
theorem zv116 : ∀ w, (zeroValue 116).run Tryd.prog w = .ok (.agg (List.toArray (encs fBool (List.replicate 256 false)))) w := fun w => by
  rw [Tryd.zeroValue116]
  refine congrArg (fun z => Result.ok (Value.agg z) w) ?_
  kernel_rfl
set_option maxRecDepth 100000 in
theorem el5 : ElemOk Tryd.prog 5 1 (fByte.enc 0) := ⟨_, _, Tryd.type5, rfl, rfl, rfl, by decide⟩
set_option maxRecDepth 100000 in
theorem el9 : ElemOk Tryd.prog 9 1 (fStr.enc []) := ⟨_, _, Tryd.type9, rfl, rfl, rfl, by decide⟩

set_option maxRecDepth 100000 in
set_option maxHeartbeats 1000000 in
theorem ok_w_f6big {code1 : List UInt8} {r : Bool} (hm : w_f6big code1 = some r) (w : World) (v2 : Value) (hr3 : RdS w (cx w).Fz v2 fByte.rp code1) :
    Calls Tryd.prog 5 #[v2] w (Ret (cx w) (.bool r)) := by
  unfold w_f6big at hm
  refine Calls.enter [v2] Tryd.func5 rfl Tryd.ntmps5 rfl ?_
  refine WJ.seq ?_
  refine WJ.quiet ?_
  refine QJ.step (YldS.yld (y_assign rfl)) rfl ?_
  refine QJ.done ?_
  refine PJ.next ?_
  refine WJ.seq ?_
  refine WJ.quiet ?_
  refine QJ.step (YldS.yld (y_move rfl)) rfl ?_
  refine QJ.step (YldS.yld (y_lenS Tryd.runUnderlying22 hr3 rfl)) rfl ?_
  refine QJ.step (YldS.yld (y_bin rfl rfl rfl)) rfl ?_
  refine QJ.step (YldS.yld (y_assign rfl)) rfl ?_
  refine QJ.done ?_
  refine PJ.next ?_
  refine WJ.ret ?_
  obtain rfl := Option.some.inj hm
  refine PJ.sel (L' := []) [] ⟨List.nodup_nil, rfl⟩ ?_
  exact PJ.retn (vs := [.bool (decide ((List.length code1 : Int) > 4096))]) Tryd.results5 ⟨rfl, trivial⟩ ⟨rfl, rfl⟩

set_option maxRecDepth 100000 in
set_option maxHeartbeats 1000000 in
theorem ok_s_l00From {code1 : List UInt8} {r : L00Src} (hm : s_l00From code1 = some r) (w : World) (v2 : Value) (hr3 : RdS w (cx w).Fz v2 fByte.rp code1) :
    Calls Tryd.prog 49 #[v2] w (RetG (cx w) fun u L => ∃ (u1 : Nat), (u = pt u1 0 ∧ L = [box u1 112 [v2, .int .i64 r.at_, .int .u64 r.seed]])) := by
  unfold s_l00From at hm
  refine Calls.enter [v2] Tryd.func49 rfl Tryd.ntmps49 rfl ?_
  refine WJ.seq ?_
  refine WJ.quiet ?_
  refine QJ.step (YldS.yld (y_assign rfl)) rfl ?_
  refine QJ.done ?_
  refine PJ.next ?_
  refine WJ.seq ?_
  refine WJ.reg ?_
  refine SJ.q (YldS.yld (y_move rfl)) rfl ?_
  refine SJ.q (YldS.yld (y_build (parts := [(0, .tmp 3)]) (places := [(0, 1), (1, 1), (2, 1)]) (r := [v2, .int .i64 0, .int .u64 0]) pl112 Tryd.zeroValue112 rfl rfl (show _ = [(0, [v2])] from by simp only [List.map, RdS.cells1 hr3]) rfl)) rfl ?_
  refine SJ.box (cs := [v2, .int .i64 0, .int .u64 0]) rfl rfl rfl fun g4 => ?_
  refine SJ.q (YldS.yld (y_assign rfl)) rfl ?_
  refine SJ.nil ?_
  refine PJ.next ?_
  refine WJ.ret ?_
  obtain rfl := Option.some.inj hm
  refine PJ.sel (L' := [box g4 112 [v2, .int .i64 0, .int .u64 0]]) [0] ⟨by decide, rfl⟩ ?_
  exact PJ.retn (vs := [pt g4 0]) Tryd.results49 ⟨rfl, trivial⟩ ⟨_, rfl, rfl⟩

set_option maxRecDepth 100000 in
set_option maxHeartbeats 1000000 in
theorem ok_s_l00Src_next {s1 : L00Src} {g2 : Nat} {r : Int × L00Src} (hm : s_l00Src_next s1 = some r) (w : World) (S : Nat → Prop) (v3 : Value) (hr4 : RdS w (Cx.Fz ⟨w, S⟩) v3 fByte.rp s1.code) (hA : (box g2 112 [v3, .int .i64 s1.at_, .int .u64 s1.seed]).holds w S) :
    Calls Tryd.prog 101 #[pt g2 0] w (RetG ⟨w, S⟩ fun u L => (u = .int .i64 r.1 ∧ L = [box g2 112 [v3, .int .i64 r.2.at_, .int .u64 r.2.seed]])) := by
  unfold s_l00Src_next at hm
  refine Calls.enter1 hA [pt g2 0] Tryd.func101 rfl Tryd.ntmps101 rfl ?_
  refine WJ.seq ?_
  refine WJ.quiet ?_
  refine QJ.step (YldS.yld (y_assign rfl)) rfl ?_
  refine QJ.done ?_
  refine PJ.next ?_
  refine WJ.seq ?_
  refine WJ.quiet ?_
  refine QJ.step (YldS.yld (y_assign rfl)) rfl ?_
  refine QJ.done ?_
  refine PJ.next ?_
  obtain ⟨kj6, hk7, hm⟩ := withK_open hm
  refine WJ.join (X := Int) (fun (x : Int) => kj6 x = some r) (fun (x : Int) => [(0, pt g2 0), (3, .int .i64 x)]) (fun (x : Int) => [box g2 112 [v3, .int .i64 s1.at_, .int .u64 s1.seed]]) ?_ ?_
  · clear hk7
    refine WJ.seq ?_
    refine WJ.quiet_draw follows (by kernel_rfl) ?_
    refine QJ.step (YldS.yld (y_move rfl)) rfl ?_
    refine QJ.step (YldS.yld (y_nil rfl)) rfl ?_
    refine QJ.step (YldS.yld (y_fldB (o := 0) fld112_1 rfl)) rfl ?_
    refine QJ.step (YldS.yld (y_loadB (k := 0) (off := 1) (v := .int .i64 s1.at_) rfl Tryd.isAgg3 rfl rfl)) rfl ?_
    refine QJ.step (YldS.yld (y_move rfl)) rfl ?_
    refine QJ.step (YldS.yld (y_nil rfl)) rfl ?_
    refine QJ.step (YldS.yld (y_fldB (o := 0) fld112_0 rfl)) rfl ?_
    refine QJ.step (YldS.yld (y_loadB (k := 0) (off := 0) (v := v3) rfl Tryd.isAgg22 rfl rfl)) rfl ?_
    refine QJ.step (YldS.yld (y_lenS Tryd.runUnderlying22 hr4 rfl)) rfl ?_
    refine QJ.step (YldS.yld (y_bin rfl rfl rfl)) rfl ?_
    refine QJ.done ?_
    refine PJ.next ?_
    refine WJ.cond (t := decide (s1.at_ < (List.length s1.code : Int))) rfl (fun hb8 => ?_) (fun hb8 => ?_)
    · replace hm := ifT hm hb8
      refine WJ.quiet_draw follows (by kernel_rfl) ?_
      refine QJ.step (YldS.yld (y_move rfl)) rfl ?_
      refine QJ.step (YldS.yld (y_nil rfl)) rfl ?_
      refine QJ.step (YldS.yld (y_fldB (o := 0) fld112_0 rfl)) rfl ?_
      refine QJ.step (YldS.yld (y_loadB (k := 0) (off := 0) (v := v3) rfl Tryd.isAgg22 rfl rfl)) rfl ?_
      refine QJ.step (YldS.yld (y_move rfl)) rfl ?_
      refine QJ.step (YldS.yld (y_nil rfl)) rfl ?_
      refine QJ.step (YldS.yld (y_fldB (o := 0) fld112_1 rfl)) rfl ?_
      refine QJ.step (YldS.yld (y_loadB (k := 0) (off := 1) (v := .int .i64 s1.at_) rfl Tryd.isAgg3 rfl rfl)) rfl ?_
      obtain ⟨e9, h10, hm⟩ := bindS hm
      obtain ⟨ad11, _, rfl, ha12, hy13⟩ := hr4.elem h10
      refine QJ.step (YldS.yld (hy13 Tryd.runUnderlying22 Tryd.sizeOf5 rfl rfl)) rfl ?_
      refine QJ.step (YldS.yld (y_load1 (v := .int .u8 (UInt8.toNat e9 : Int)) Tryd.isAgg5 ha12 St.frozenC rfl)) rfl ?_
      refine QJ.step (YldS.yld (y_conv8 Tryd.runUnderlying5 Tryd.runUnderlying3 rfl)) rfl ?_
      refine QJ.step (YldS.yld (y_assign rfl)) rfl ?_
      refine QJ.done ?_
      exact PJ.joined (UInt8.toNat e9 : Int) [0] hm ⟨rfl, rfl, trivial⟩ ⟨by decide, rfl⟩
    · replace hm := ifF hm hb8
      refine WJ.skip ?_
      exact PJ.joined 0 [0] hm ⟨rfl, rfl, trivial⟩ ⟨by decide, rfl⟩
  · rintro b5 hm
    subst hk7
    refine WJ.seq ?_
    refine WJ.reg ?_
    refine SJ.q (YldS.yld (y_move rfl)) rfl ?_
    refine SJ.q (YldS.yld (y_nil rfl)) rfl ?_
    refine SJ.q (YldS.yld (y_fldB (o := 0) fld112_1 rfl)) rfl ?_
    refine SJ.q (YldS.yld (y_loadB (k := 0) (off := 1) (v := .int .i64 s1.at_) rfl Tryd.isAgg3 rfl rfl)) rfl ?_
    refine SJ.q (YldS.yld (y_bin rfl rfl rfl)) rfl ?_
    refine SJ.q (YldS.yld (y_nil rfl)) rfl ?_
    refine SJ.q (YldS.yld (y_fldB (o := 0) fld112_1 rfl)) rfl ?_
    refine SJ.storeL (k := 0) (off := 1) (us := [.int .i64 (w64 (s1.at_ + 1))]) rfl rfl rfl rfl Tryd.sizeOf3 rfl rfl ?_
    refine SJ.nil ?_
    refine PJ.next ?_
    refine WJ.seq ?_
    refine WJ.reg ?_
    refine SJ.q (YldS.yld (y_move rfl)) rfl ?_
    refine SJ.q (YldS.yld (y_move rfl)) rfl ?_
    refine SJ.q (YldS.yld (y_nil rfl)) rfl ?_
    refine SJ.q (YldS.yld (y_fldB (o := 0) fld112_2 rfl)) rfl ?_
    refine SJ.q (YldS.yld (y_loadB (k := 0) (off := 2) (v := .int .u64 s1.seed) rfl Tryd.isAgg110 rfl rfl)) rfl ?_
    refine SJ.q (YldS.yld (y_bin rfl rfl rfl)) rfl ?_
    refine SJ.q (YldS.yld (y_move rfl)) rfl ?_
    refine SJ.q (YldS.yld (y_convI Tryd.runUnderlying3 Tryd.runUnderlying110 rfl)) rfl ?_
    refine SJ.q (YldS.yld (y_bin rfl rfl rfl)) rfl ?_
    refine SJ.q (YldS.yld (y_bin rfl rfl rfl)) rfl ?_
    refine SJ.q (YldS.yld (y_nil rfl)) rfl ?_
    refine SJ.q (YldS.yld (y_fldB (o := 0) fld112_2 rfl)) rfl ?_
    refine SJ.storeL (k := 0) (off := 2) (us := [.int .u64 (IntKind.u64.wrap ((IntKind.u64.wrap ((IntKind.u64.wrap (s1.seed * 6364136223846793005)) + (IntKind.u64.wrap b5))) + 1442695040888963407))]) rfl rfl rfl rfl Tryd.sizeOf110 rfl rfl ?_
    refine SJ.nil ?_
    refine PJ.next ?_
    refine WJ.seq ?_
    refine WJ.seq ?_
    refine WJ.quiet_draw follows (by kernel_rfl) ?_
    refine QJ.step (YldS.yld (y_move rfl)) rfl ?_
    refine QJ.step (YldS.yld (y_nil rfl)) rfl ?_
    refine QJ.step (YldS.yld (y_fldB (o := 0) fld112_1 rfl)) rfl ?_
    refine QJ.step (YldS.yld (y_loadB (k := 0) (off := 1) (v := .int .i64 (w64 (s1.at_ + 1))) rfl Tryd.isAgg3 rfl rfl)) rfl ?_
    refine QJ.step (YldS.yld (y_move rfl)) rfl ?_
    refine QJ.step (YldS.yld (y_nil rfl)) rfl ?_
    refine QJ.step (YldS.yld (y_fldB (o := 0) fld112_0 rfl)) rfl ?_
    refine QJ.step (YldS.yld (y_loadB (k := 0) (off := 0) (v := v3) rfl Tryd.isAgg22 rfl rfl)) rfl ?_
    refine QJ.step (YldS.yld (y_lenS Tryd.runUnderlying22 hr4 rfl)) rfl ?_
    refine QJ.step (YldS.yld (y_bin rfl rfl rfl)) rfl ?_
    refine QJ.done ?_
    refine PJ.next ?_
    refine WJ.cond (t := decide ((w64 (s1.at_ + 1)) ≤ (List.length s1.code : Int))) rfl (fun hb14 => ?_) (fun hb14 => ?_)
    · replace hm := ifT hm hb14
      refine WJ.seq ?_
      refine WJ.quiet ?_
      refine QJ.step (YldS.yld (y_move rfl)) rfl ?_
      refine QJ.step (YldS.yld (y_assign rfl)) rfl ?_
      refine QJ.done ?_
      refine PJ.next ?_
      refine WJ.ret ?_
      refine PJ.then_ret ?_
      obtain rfl := Option.some.inj hm
      refine PJ.sel (L' := [box g2 112 [v3, .int .i64 (w64 (s1.at_ + 1)), .int .u64 (IntKind.u64.wrap ((IntKind.u64.wrap ((IntKind.u64.wrap (s1.seed * 6364136223846793005)) + (IntKind.u64.wrap b5))) + 1442695040888963407))]]) [0] ⟨by decide, rfl⟩ ?_
      exact PJ.retn (vs := [.int .i64 b5]) Tryd.results101 ⟨rfl, trivial⟩ ⟨rfl, rfl⟩
    · replace hm := ifF hm hb14
      refine WJ.skip ?_
      refine PJ.next ?_
      refine WJ.seq ?_
      refine WJ.quiet ?_
      refine QJ.step (YldS.yld (y_move rfl)) rfl ?_
      refine QJ.step (YldS.yld (y_nil rfl)) rfl ?_
      refine QJ.step (YldS.yld (y_fldB (o := 0) fld112_2 rfl)) rfl ?_
      refine QJ.step (YldS.yld (y_loadB (k := 0) (off := 2) (v := .int .u64 (IntKind.u64.wrap ((IntKind.u64.wrap ((IntKind.u64.wrap (s1.seed * 6364136223846793005)) + (IntKind.u64.wrap b5))) + 1442695040888963407))) rfl Tryd.isAgg110 rfl rfl)) rfl ?_
      refine QJ.step (YldS.yld (y_shru rfl rfl rfl)) rfl ?_
      refine QJ.step (YldS.yld (y_andu rfl rfl rfl)) rfl ?_
      refine QJ.step (YldS.yld (y_convI Tryd.runUnderlying110 Tryd.runUnderlying2 rfl)) rfl ?_
      refine QJ.step (YldS.yld (y_assign rfl)) rfl ?_
      refine QJ.done ?_
      refine PJ.next ?_
      refine WJ.ret ?_
      obtain rfl := Option.some.inj hm
      refine PJ.sel (L' := [box g2 112 [v3, .int .i64 (w64 (s1.at_ + 1)), .int .u64 (IntKind.u64.wrap ((IntKind.u64.wrap ((IntKind.u64.wrap (s1.seed * 6364136223846793005)) + (IntKind.u64.wrap b5))) + 1442695040888963407))]]) [0] ⟨by decide, rfl⟩ ?_
      exact PJ.retn (vs := [.int .i64 (w64 (uand (ushr (IntKind.u64.wrap ((IntKind.u64.wrap ((IntKind.u64.wrap (s1.seed * 6364136223846793005)) + (IntKind.u64.wrap b5))) + 1442695040888963407)) 40) 255))]) Tryd.results101 ⟨rfl, trivial⟩ ⟨rfl, rfl⟩

set_option maxRecDepth 100000 in
set_option maxHeartbeats 1000000 in
theorem ok_s_l00Src_pick {s1 : L00Src} {n5 : Int} {g2 : Nat} {r : Int × L00Src} (hm : s_l00Src_pick s1 n5 = some r) (w : World) (S : Nat → Prop) (v3 : Value) (hr4 : RdS w (Cx.Fz ⟨w, S⟩) v3 fByte.rp s1.code) (hA : (box g2 112 [v3, .int .i64 s1.at_, .int .u64 s1.seed]).holds w S) :
    Calls Tryd.prog 66 #[pt g2 0, .int .i64 n5] w (RetG ⟨w, S⟩ fun u L => (u = .int .i64 r.1 ∧ L = [box g2 112 [v3, .int .i64 r.2.at_, .int .u64 r.2.seed]])) := by
  unfold s_l00Src_pick at hm
  refine Calls.enter1 hA [pt g2 0, .int .i64 n5] Tryd.func66 rfl Tryd.ntmps66 rfl ?_
  refine WJ.seq ?_
  refine WJ.quiet ?_
  refine QJ.step (YldS.yld (y_assign rfl)) rfl ?_
  refine QJ.done ?_
  refine PJ.next ?_
  refine WJ.seq ?_
  refine WJ.seq ?_
  refine WJ.quiet ?_
  refine QJ.step (YldS.yld (y_move rfl)) rfl ?_
  refine QJ.step (YldS.yld (y_bin rfl rfl rfl)) rfl ?_
  refine QJ.done ?_
  refine PJ.next ?_
  refine WJ.cond (t := decide (n5 ≤ 1)) rfl (fun hb6 => ?_) (fun hb6 => ?_)
  · replace hm := ifT hm hb6
    refine WJ.seq ?_
    refine WJ.quiet ?_
    refine QJ.step (YldS.yld (y_assign rfl)) rfl ?_
    refine QJ.done ?_
    refine PJ.next ?_
    refine WJ.ret ?_
    refine PJ.then_ret ?_
    obtain rfl := Option.some.inj hm
    refine PJ.sel (L' := [box g2 112 [v3, .int .i64 s1.at_, .int .u64 s1.seed]]) [0] ⟨by decide, rfl⟩ ?_
    exact PJ.retn (vs := [.int .i64 0]) Tryd.results66 ⟨rfl, trivial⟩ ⟨rfl, rfl⟩
  · replace hm := ifF hm hb6
    refine WJ.skip ?_
    refine PJ.next ?_
    refine WJ.seq ?_
    refine WJ.reg ?_
    refine SJ.q (YldS.yld (y_move rfl)) rfl ?_
    obtain ⟨r7, h8, hm⟩ := bindS hm
    refine SJ.call1 (k := 0) rfl Tryd.call101 rfl (fun w S hw hA hO => ok_s_l00Src_next h8 w S _ (hr4.st1 hw hO) hA) rfl ?_
    rintro _ _ ⟨rfl, rfl⟩
    refine SJ.q (YldS.yld (y_assign rfl)) rfl ?_
    refine SJ.nil ?_
    refine PJ.next ?_
    obtain ⟨kj12, hk13, hm⟩ := withK_open hm
    refine WJ.join (X := Int × Int × Int) (fun (x : Int × Int × Int) => kj12 x.1 x.2.1 x.2.2 = some r) (fun (x : Int × Int × Int) => [(1, .int .i64 n5), (5, .int .i64 x.2.2)]) (fun (x : Int × Int × Int) => [box g2 112 [v3, .int .i64 x.1, .int .u64 x.2.1]]) ?_ ?_
    · clear hk13
      refine WJ.seq ?_
      refine WJ.quiet ?_
      refine QJ.step (YldS.yld (y_move rfl)) rfl ?_
      refine QJ.step (YldS.yld (y_bin rfl rfl rfl)) rfl ?_
      refine QJ.done ?_
      refine PJ.next ?_
      refine WJ.cond (t := decide (n5 > 200)) rfl (fun hb14 => ?_) (fun hb14 => ?_)
      · replace hm := ifT hm hb14
        refine WJ.reg ?_
        refine SJ.q (YldS.yld (y_move rfl)) rfl ?_
        refine SJ.q (YldS.yld (y_bin rfl rfl rfl)) rfl ?_
        refine SJ.q (YldS.yld (y_move rfl)) rfl ?_
        obtain ⟨r15, h16, hm⟩ := bindS hm
        refine SJ.call1 (k := 0) rfl Tryd.call101 rfl (fun w S hw hA hO => ok_s_l00Src_next h16 w S _ (hr4.st1 hw hO) hA) rfl ?_
        rintro _ _ ⟨rfl, rfl⟩
        refine SJ.q (YldS.yld (y_bin rfl rfl rfl)) rfl ?_
        refine SJ.q (YldS.yld (y_assign rfl)) rfl ?_
        refine SJ.nil ?_
        exact PJ.joined (r15.2.at_, r15.2.seed, w64 ((w64 (r7.1 * 256)) + r15.1)) [0] hm ⟨rfl, rfl, trivial⟩ ⟨by decide, rfl⟩
      · replace hm := ifF hm hb14
        refine WJ.skip ?_
        exact PJ.joined (r7.2.at_, r7.2.seed, r7.1) [0] hm ⟨rfl, rfl, trivial⟩ ⟨by decide, rfl⟩
    · rintro ⟨x9, x10, x11⟩ hm
      subst hk13
      refine WJ.seq ?_
      refine WJ.quiet ?_
      refine QJ.step (YldS.yld (y_move rfl)) rfl ?_
      refine QJ.step (YldS.yld (y_move rfl)) rfl ?_
      obtain ⟨q17, h18, hm⟩ := bindS hm
      refine QJ.step (YldS.yld (y_rem' h18 rfl rfl)) rfl ?_
      refine QJ.step (YldS.yld (y_assign rfl)) rfl ?_
      refine QJ.done ?_
      refine PJ.next ?_
      refine WJ.ret ?_
      obtain rfl := Option.some.inj hm
      refine PJ.sel (L' := [box g2 112 [v3, .int .i64 x9, .int .u64 x10]]) [0] ⟨by decide, rfl⟩ ?_
      exact PJ.retn (vs := [.int .i64 q17]) Tryd.results66 ⟨rfl, trivial⟩ ⟨rfl, rfl⟩

set_option maxRecDepth 100000 in
set_option maxHeartbeats 1000000 in
theorem ok_s_l00Src_text {s1 : L00Src} {list5 : List Str} {g2 : Nat} {r : Str × L00Src} (hm : s_l00Src_text s1 list5 = some r) (w : World) (S : Nat → Prop) (v3 : Value) (hr4 : RdS w (Cx.Fz ⟨w, S⟩) v3 fByte.rp s1.code) (v6 : Value) (hr7 : RdS w (Cx.Fz ⟨w, S⟩) v6 fStr.rp list5) (hA : (box g2 112 [v3, .int .i64 s1.at_, .int .u64 s1.seed]).holds w S) :
    Calls Tryd.prog 93 #[pt g2 0, v6] w (RetG ⟨w, S⟩ fun u L => (u = str r.1 ∧ L = [box g2 112 [v3, .int .i64 r.2.at_, .int .u64 r.2.seed]])) := by
  unfold s_l00Src_text at hm
  refine Calls.enter1 hA [pt g2 0, v6] Tryd.func93 rfl Tryd.ntmps93 rfl ?_
  refine WJ.seq ?_
  refine WJ.quiet ?_
  refine QJ.step (YldS.yld (y_assign rfl)) rfl ?_
  refine QJ.done ?_
  refine PJ.next ?_
  refine WJ.seq ?_
  refine WJ.reg ?_
  refine SJ.q (YldS.yld (y_move rfl)) rfl ?_
  refine SJ.q (YldS.yld (y_move rfl)) rfl ?_
  refine SJ.q (YldS.yld (y_move rfl)) rfl ?_
  refine SJ.q (YldS.yld (y_lenS Tryd.runUnderlying86 hr7 rfl)) rfl ?_
  obtain ⟨r8, h9, hm⟩ := bindS hm
  refine SJ.call1 (k := 0) rfl Tryd.call66 rfl (fun w S hw hA hO => ok_s_l00Src_pick h9 w S _ (hr4.st1 hw hO) hA) rfl ?_
  rintro _ _ ⟨rfl, rfl⟩
  obtain ⟨e10, h11, hm⟩ := bindS hm
  obtain ⟨ad12, _, rfl, ha13, hy14⟩ := hr7.elem h11
  refine SJ.q (YldS.yld (hy14 Tryd.runUnderlying86 Tryd.sizeOf9 rfl rfl)) rfl ?_
  refine SJ.q (YldS.yld (y_load1 (v := str e10) Tryd.isAgg9 ha13 St.frozenC rfl)) rfl ?_
  refine SJ.q (YldS.yld (y_assign rfl)) rfl ?_
  refine SJ.nil ?_
  refine PJ.next ?_
  refine WJ.ret ?_
  obtain rfl := Option.some.inj hm
  refine PJ.sel (L' := [box g2 112 [v3, .int .i64 r8.2.at_, .int .u64 r8.2.seed]]) [0] ⟨by decide, rfl⟩ ?_
  exact PJ.retn (vs := [str e10]) Tryd.results93 ⟨rfl, trivial⟩ ⟨rfl, rfl⟩

set_option maxRecDepth 100000 in
set_option maxHeartbeats 1000000 in
theorem ok_s_l02PutLetter {N : Nat} {list1 : Str} {letter2 : Str} {r : Str} (hm : s_l02PutLetter N list1 letter2 = some r) (w : World)  :
    Calls Tryd.prog 100 #[str list1, str letter2] w (Ret (cx w) (str r)) := by
  unfold s_l02PutLetter at hm
  refine Calls.enter [str list1, str letter2] Tryd.func100 rfl Tryd.ntmps100 rfl ?_
  refine WJ.seq ?_
  refine WJ.quiet ?_
  refine QJ.step (YldS.yld (y_assign rfl)) rfl ?_
  refine QJ.done ?_
  refine PJ.next ?_
  refine WJ.seq ?_
  refine WJ.quiet ?_
  refine QJ.step (YldS.yld (y_assign rfl)) rfl ?_
  refine QJ.done ?_
  refine PJ.next ?_
  obtain ⟨kj4, hk5, hm⟩ := withK_open hm
  refine WJ.join (X := Int) (fun (x : Int) => kj4 x = some r) (fun (x : Int) => [(0, str list1), (1, str letter2), (5, .int .i64 x)]) (fun (x : Int) => []) ?_ ?_
  · clear hk5
    refine WJ.block ?_
    refine WJ.sel (L' := (fun (x : Int) => []) 0) [] ⟨List.nodup_nil, rfl⟩ ?_
    refine WJ.sub (m' := (fun (x : Int) => [(0, str list1), (1, str letter2), (5, .int .i64 x)]) 0) ⟨rfl, rfl, rfl, trivial⟩ ?_
    refine WJ.loop (X := Int) (fun N (x : Int) => s_l02PutLetter_l1 kj4 list1 letter2 N x = some r) (fun (x : Int) => [(0, str list1), (1, str letter2), (5, .int .i64 x)]) (fun (x : Int) => []) ?_ N 0 hm
    · rintro N k6 hI
      have hm := hI; clear hI
      cases N with
      | zero => cases hm
      | succ N =>
      unfold s_l02PutLetter_l1 at hm
      refine WJ.seq ?_
      refine WJ.seq ?_
      refine WJ.quiet_draw follows (by kernel_rfl) ?_
      refine QJ.step (YldS.yld (y_move rfl)) rfl ?_
      refine QJ.step (YldS.yld (y_move rfl)) rfl ?_
      refine QJ.step (YldS.yld (y_lenStr Tryd.runUnderlying9 rfl)) rfl ?_
      refine QJ.step (YldS.yld (y_bin rfl rfl rfl)) rfl ?_
      refine QJ.step (YldS.yld (y_move rfl)) rfl ?_
      obtain ⟨t7, h8, hm⟩ := bindS hm
      refine QJ.cut 7 [(0, str list1), (1, str letter2), (5, .int .i64 k6), (17, .bool t7)] ?_ ?_
      · rcases Bool.eq_false_or_eq_true (decide (k6 < (List.length list1 : Int))) with hb9 | hb9
        · replace h8 := andT h8 hb9
          refine QJ.on rfl rfl (cB hb9) (YldS.yld (y_move rfl)) rfl ?_
          refine QJ.on rfl rfl (cB hb9) (YldS.yld (y_move rfl)) rfl ?_
          obtain ⟨c10, h11, h8⟩ := bindS h8
          refine QJ.on rfl rfl (cB hb9) (YldS.yld (y_idxStr Tryd.runUnderlying9 rfl rfl h11)) rfl ?_
          refine QJ.on rfl rfl (cB hb9) (YldS.yld (y_move rfl)) rfl ?_
          obtain ⟨c12, h13, h8⟩ := bindS h8
          refine QJ.on rfl rfl (cB hb9) (YldS.yld (y_idxStr Tryd.runUnderlying9 rfl rfl h13)) rfl ?_
          refine QJ.on rfl rfl (cB hb9) (YldS.yld (y_bin8 c10 c12 rfl rfl rfl)) rfl ?_
          refine QJ.step (YldS.yld (y_pick_t (cB hb9) rfl)) rfl ?_
          obtain rfl := Option.some.inj h8
          exact QJ.cut_end ⟨rfl, rfl, rfl, rfl, trivial⟩
        · obtain rfl := andF h8 hb9
          refine QJ.off rfl rfl (cB hb9) rfl rfl ?_
          refine QJ.off rfl rfl (cB hb9) rfl rfl ?_
          refine QJ.off rfl rfl (cB hb9) rfl rfl ?_
          refine QJ.off rfl rfl (cB hb9) rfl rfl ?_
          refine QJ.off rfl rfl (cB hb9) rfl rfl ?_
          refine QJ.off rfl rfl (cB hb9) rfl rfl ?_
          refine QJ.step (YldS.yld (y_pick_f (cB hb9) rfl)) rfl ?_
          exact QJ.cut_end ⟨rfl, rfl, rfl, rfl, trivial⟩
      refine QJ.done ?_
      refine PJ.next ?_
      refine WJ.cond (t := t7) rfl (fun hb14 => ?_) (fun hb14 => ?_)
      · replace hm := ifT hm hb14
        refine WJ.skip ?_
        refine PJ.next ?_
        refine WJ.block ?_
        refine WJ.quiet ?_
        refine QJ.step (YldS.yld (y_move rfl)) rfl ?_
        refine QJ.step (YldS.yld (y_bin rfl rfl rfl)) rfl ?_
        refine QJ.step (YldS.yld (y_assign rfl)) rfl ?_
        refine QJ.done ?_
        refine PJ.block_normal ?_
        exact PJ.round (w64 (k6 + 1)) [] hm ⟨rfl, rfl, rfl, trivial⟩ ⟨List.nodup_nil, rfl⟩
      · replace hm := ifF hm hb14
        refine WJ.exit ?_
        refine PJ.then_exit (PJ.then_exit (PJ.block_exit ?_))
        exact PJ.joined k6 [] hm ⟨rfl, rfl, rfl, trivial⟩ ⟨List.nodup_nil, rfl⟩
  · rintro k3 hm
    subst hk5
    refine WJ.seq ?_
    refine WJ.seq ?_
    refine WJ.quiet_draw follows (by kernel_rfl) ?_
    refine QJ.step (YldS.yld (y_move rfl)) rfl ?_
    refine QJ.step (YldS.yld (y_move rfl)) rfl ?_
    refine QJ.step (YldS.yld (y_lenStr Tryd.runUnderlying9 rfl)) rfl ?_
    refine QJ.step (YldS.yld (y_bin rfl rfl rfl)) rfl ?_
    refine QJ.step (YldS.yld (y_move rfl)) rfl ?_
    obtain ⟨t15, h16, hm⟩ := bindS hm
    refine QJ.cut 7 [(0, str list1), (1, str letter2), (5, .int .i64 k3), (31, .bool t15)] ?_ ?_
    · rcases Bool.eq_false_or_eq_true (decide (k3 < (List.length list1 : Int))) with hb17 | hb17
      · replace h16 := andT h16 hb17
        refine QJ.on rfl rfl (cB hb17) (YldS.yld (y_move rfl)) rfl ?_
        refine QJ.on rfl rfl (cB hb17) (YldS.yld (y_move rfl)) rfl ?_
        obtain ⟨c18, h19, h16⟩ := bindS h16
        refine QJ.on rfl rfl (cB hb17) (YldS.yld (y_idxStr Tryd.runUnderlying9 rfl rfl h19)) rfl ?_
        refine QJ.on rfl rfl (cB hb17) (YldS.yld (y_move rfl)) rfl ?_
        obtain ⟨c20, h21, h16⟩ := bindS h16
        refine QJ.on rfl rfl (cB hb17) (YldS.yld (y_idxStr Tryd.runUnderlying9 rfl rfl h21)) rfl ?_
        refine QJ.on rfl rfl (cB hb17) (YldS.yld (y_bin8 c18 c20 rfl rfl rfl)) rfl ?_
        refine QJ.step (YldS.yld (y_pick_t (cB hb17) rfl)) rfl ?_
        obtain rfl := Option.some.inj h16
        exact QJ.cut_end ⟨rfl, rfl, rfl, rfl, trivial⟩
      · obtain rfl := andF h16 hb17
        refine QJ.off rfl rfl (cB hb17) rfl rfl ?_
        refine QJ.off rfl rfl (cB hb17) rfl rfl ?_
        refine QJ.off rfl rfl (cB hb17) rfl rfl ?_
        refine QJ.off rfl rfl (cB hb17) rfl rfl ?_
        refine QJ.off rfl rfl (cB hb17) rfl rfl ?_
        refine QJ.off rfl rfl (cB hb17) rfl rfl ?_
        refine QJ.step (YldS.yld (y_pick_f (cB hb17) rfl)) rfl ?_
        exact QJ.cut_end ⟨rfl, rfl, rfl, rfl, trivial⟩
    refine QJ.done ?_
    refine PJ.next ?_
    refine WJ.cond (t := t15) rfl (fun hb22 => ?_) (fun hb22 => ?_)
    · replace hm := ifT hm hb22
      refine WJ.seq ?_
      refine WJ.quiet ?_
      refine QJ.step (YldS.yld (y_move rfl)) rfl ?_
      refine QJ.step (YldS.yld (y_assign rfl)) rfl ?_
      refine QJ.done ?_
      refine PJ.next ?_
      refine WJ.ret ?_
      refine PJ.then_ret ?_
      obtain rfl := Option.some.inj hm
      refine PJ.sel (L' := []) [] ⟨List.nodup_nil, rfl⟩ ?_
      exact PJ.retn (vs := [str list1]) Tryd.results100 ⟨rfl, trivial⟩ ⟨rfl, rfl⟩
    · replace hm := ifF hm hb22
      refine WJ.skip ?_
      refine PJ.next ?_
      refine WJ.seq ?_
      refine WJ.quiet_draw follows (by kernel_rfl) ?_
      refine QJ.step (YldS.yld (y_move rfl)) rfl ?_
      refine QJ.step (YldS.yld (y_move rfl)) rfl ?_
      obtain ⟨s23, h24, hm⟩ := bindS hm
      refine QJ.step (YldS.yld (y_subStr (i := none) (j := some k3) h24 Tryd.runUnderlying9 rfl trivial ⟨_, rfl⟩)) rfl ?_
      refine QJ.step (YldS.yld (y_move rfl)) rfl ?_
      obtain ⟨s25, h26, hm⟩ := bindS hm
      refine QJ.step (YldS.yld (y_cat h26 rfl rfl)) rfl ?_
      refine QJ.step (YldS.yld (y_move rfl)) rfl ?_
      refine QJ.step (YldS.yld (y_move rfl)) rfl ?_
      obtain ⟨s27, h28, hm⟩ := bindS hm
      refine QJ.step (YldS.yld (y_subStr (i := some k3) (j := none) h28 Tryd.runUnderlying9 rfl ⟨_, rfl⟩ trivial)) rfl ?_
      obtain ⟨s29, h30, hm⟩ := bindS hm
      refine QJ.step (YldS.yld (y_cat h30 rfl rfl)) rfl ?_
      refine QJ.step (YldS.yld (y_assign rfl)) rfl ?_
      refine QJ.done ?_
      refine PJ.next ?_
      refine WJ.ret ?_
      obtain rfl := Option.some.inj hm
      refine PJ.sel (L' := []) [] ⟨List.nodup_nil, rfl⟩ ?_
      exact PJ.retn (vs := [str s29]) Tryd.results100 ⟨rfl, trivial⟩ ⟨rfl, rfl⟩

set_option maxRecDepth 100000 in
set_option maxHeartbeats 1000000 in
theorem ok_s_l00Src_one {s1 : L00Src} {n5 : Int} {g2 : Nat} {r : Bool × L00Src} (hm : s_l00Src_one s1 n5 = some r) (w : World) (S : Nat → Prop) (v3 : Value) (hr4 : RdS w (Cx.Fz ⟨w, S⟩) v3 fByte.rp s1.code) (hA : (box g2 112 [v3, .int .i64 s1.at_, .int .u64 s1.seed]).holds w S) :
    Calls Tryd.prog 67 #[pt g2 0, .int .i64 n5] w (RetG ⟨w, S⟩ fun u L => (u = .bool r.1 ∧ L = [box g2 112 [v3, .int .i64 r.2.at_, .int .u64 r.2.seed]])) := by
  unfold s_l00Src_one at hm
  refine Calls.enter1 hA [pt g2 0, .int .i64 n5] Tryd.func67 rfl Tryd.ntmps67 rfl ?_
  refine WJ.seq ?_
  refine WJ.quiet ?_
  refine QJ.step (YldS.yld (y_assign rfl)) rfl ?_
  refine QJ.done ?_
  refine PJ.next ?_
  refine WJ.seq ?_
  refine WJ.reg ?_
  refine SJ.q (YldS.yld (y_move rfl)) rfl ?_
  refine SJ.q (YldS.yld (y_move rfl)) rfl ?_
  obtain ⟨r6, h7, hm⟩ := bindS hm
  refine SJ.call1 (k := 0) rfl Tryd.call66 rfl (fun w S hw hA hO => ok_s_l00Src_pick h7 w S _ (hr4.st1 hw hO) hA) rfl ?_
  rintro _ _ ⟨rfl, rfl⟩
  refine SJ.q (YldS.yld (y_bin rfl rfl rfl)) rfl ?_
  refine SJ.q (YldS.yld (y_assign rfl)) rfl ?_
  refine SJ.nil ?_
  refine PJ.next ?_
  refine WJ.ret ?_
  obtain rfl := Option.some.inj hm
  refine PJ.sel (L' := [box g2 112 [v3, .int .i64 r6.2.at_, .int .u64 r6.2.seed]]) [0] ⟨by decide, rfl⟩ ?_
  exact PJ.retn (vs := [.bool (r6.1 == 0)]) Tryd.results67 ⟨rfl, trivial⟩ ⟨rfl, rfl⟩

set_option maxRecDepth 100000 in
set_option maxHeartbeats 1000000 in
theorem ok_s_l18Draw {N : Nat} {s1 : L00Src} {g2 : Nat} {r : (List Lesson) × L00Src} (hm : s_l18Draw N s1 = some r) (w : World) (S : Nat → Prop) (v3 : Value) (hr4 : RdS w (Cx.Fz ⟨w, S⟩) v3 fByte.rp s1.code) (hA : (box g2 112 [v3, .int .i64 s1.at_, .int .u64 s1.seed]).holds w S) :
    Calls Tryd.prog 64 #[pt g2 0] w (RetG ⟨w, S⟩ fun u L => ∃ (u1 : Value) (u2 : List (Raw 4)), (u = u1 ∧ L = [box g2 112 [v3, .int .i64 r.2.at_, .int .u64 r.2.seed], row u1 47 fRaw4 u2, ins shLesson 2 fI64 u2 r.1])) := by
  unfold s_l18Draw at hm
  refine Calls.enter1 hA [pt g2 0] Tryd.func64 rfl Tryd.ntmps64 rfl ?_
  refine WJ.seq ?_
  refine WJ.quiet ?_
  refine QJ.step (YldS.yld (y_assign rfl)) rfl ?_
  refine QJ.done ?_
  refine PJ.next ?_
  refine WJ.seq ?_
  refine WJ.reg ?_
  refine SJ.buildSlice (R := fStr) (os := [.const (str [104, 111, 109, 101]), .const (str [117, 112, 112, 101, 114]), .const (str [108, 111, 119, 101, 114]), .const (str [100, 105, 103, 105, 116, 115]), .const (str [115, 105, 103, 110, 115]), .const (str [115, 112, 101, 101, 100]), .const (str [108, 97, 115, 116, 45, 49])]) ([[104, 111, 109, 101], [117, 112, 112, 101, 114], [108, 111, 119, 101, 114], [100, 105, 103, 105, 116, 115], [115, 105, 103, 110, 115], [115, 112, 101, 101, 100], [108, 97, 115, 116, 45, 49]] : List Str) Tryd.runUnderlying86 Tryd.sizeOf9 Tryd.zeroValue9 rfl rfl rfl rfl rfl rfl fun v5 => ?_
  refine SJ.q (YldS.yld (y_assign rfl)) rfl ?_
  refine SJ.nil ?_
  refine PJ.next ?_
  refine WJ.seq ?_
  refine WJ.reg ?_
  refine SJ.buildSlice (R := fRaw4) (os := []) ([] : List (Raw 4)) Tryd.runUnderlying24 Tryd.sizeOf47 Tryd.zeroValue47 rfl rfl rfl rfl rfl rfl fun v6 => ?_
  refine SJ.ins_nil shLesson 2 fI64 ?_
  refine SJ.q (YldS.yld (y_assign rfl)) rfl ?_
  refine SJ.nil ?_
  refine PJ.next ?_
  refine WJ.seq ?_
  refine WJ.reg ?_
  refine SJ.q (YldS.yld (y_move rfl)) rfl ?_
  obtain ⟨r7, h8, hm⟩ := bindS hm
  refine SJ.call1 (k := 3) rfl Tryd.call66 rfl (fun w S hw hA hO => ok_s_l00Src_pick h8 w S _ (hr4.st1 hw hO) hA) rfl ?_
  rintro _ _ ⟨rfl, rfl⟩
  refine SJ.q (YldS.yld (y_assign rfl)) rfl ?_
  refine SJ.nil ?_
  refine PJ.next ?_
  obtain ⟨kj14, hk15, hm⟩ := withK_open hm
  refine WJ.join (X := Int × Int × (List Lesson) × (List (Raw 4)) × Value) (fun (x : Int × Int × (List Lesson) × (List (Raw 4)) × Value) => kj14 x.1 x.2.1 x.2.2.1 = some r) (fun (x : Int × Int × (List Lesson) × (List (Raw 4)) × Value) => [(4, x.2.2.2.2)]) (fun (x : Int × Int × (List Lesson) × (List (Raw 4)) × Value) => [box g2 112 [v3, .int .i64 x.1, .int .u64 x.2.1], ins shLesson 2 fI64 x.2.2.2.1 x.2.2.1, row x.2.2.2.2 47 fRaw4 x.2.2.2.1]) ?_ ?_
  · clear hk15
    refine WJ.seq ?_
    refine WJ.quiet ?_
    refine QJ.step (YldS.yld (y_assign rfl)) rfl ?_
    refine QJ.done ?_
    refine PJ.next ?_
    refine WJ.block ?_
    refine WJ.sel (L' := (fun (x : Int × Int × (List Lesson) × (List (Raw 4)) × Value × Int) => [box g2 112 [v3, .int .i64 x.1, .int .u64 x.2.1], ins shLesson 2 fI64 x.2.2.2.1 x.2.2.1, row x.2.2.2.2.1 47 fRaw4 x.2.2.2.1, row v5 9 fStr ([[104, 111, 109, 101], [117, 112, 112, 101, 114], [108, 111, 119, 101, 114], [100, 105, 103, 105, 116, 115], [115, 105, 103, 110, 115], [115, 112, 101, 101, 100], [108, 97, 115, 116, 45, 49]] : List Str)]) (r7.2.at_, r7.2.seed, ([] : List Lesson), ([] : List (Raw 4)), v6, 0)) [0, 1, 2, 3] ⟨by decide, rfl⟩ ?_
    refine WJ.sub (m' := (fun (x : Int × Int × (List Lesson) × (List (Raw 4)) × Value × Int) => [(0, pt g2 0), (3, v5), (4, x.2.2.2.2.1), (5, .int .i64 r7.1), (6, .int .i64 x.2.2.2.2.2)]) (r7.2.at_, r7.2.seed, ([] : List Lesson), ([] : List (Raw 4)), v6, 0)) ⟨rfl, rfl, rfl, rfl, rfl, trivial⟩ ?_
    refine WJ.loop (X := Int × Int × (List Lesson) × (List (Raw 4)) × Value × Int) (fun N (x : Int × Int × (List Lesson) × (List (Raw 4)) × Value × Int) => s_l18Draw_l1 kj14 s1 r7 N x.1 x.2.1 x.2.2.1 x.2.2.2.2.2 = some r) (fun (x : Int × Int × (List Lesson) × (List (Raw 4)) × Value × Int) => [(0, pt g2 0), (3, v5), (4, x.2.2.2.2.1), (5, .int .i64 r7.1), (6, .int .i64 x.2.2.2.2.2)]) (fun (x : Int × Int × (List Lesson) × (List (Raw 4)) × Value × Int) => [box g2 112 [v3, .int .i64 x.1, .int .u64 x.2.1], ins shLesson 2 fI64 x.2.2.2.1 x.2.2.1, row x.2.2.2.2.1 47 fRaw4 x.2.2.2.1, row v5 9 fStr ([[104, 111, 109, 101], [117, 112, 112, 101, 114], [108, 111, 119, 101, 114], [100, 105, 103, 105, 116, 115], [115, 105, 103, 110, 115], [115, 112, 101, 101, 100], [108, 97, 115, 116, 45, 49]] : List Str)]) ?_ N (r7.2.at_, r7.2.seed, ([] : List Lesson), ([] : List (Raw 4)), v6, 0) hm
    · rintro N ⟨x16, x17, l18, vs19, v20, i21⟩ hI
      have hm := hI; clear hI
      cases N with
      | zero => cases hm
      | succ N =>
      unfold s_l18Draw_l1 at hm
      refine WJ.seq ?_
      refine WJ.seq ?_
      refine WJ.quiet ?_
      refine QJ.step (YldS.yld (y_move rfl)) rfl ?_
      refine QJ.step (YldS.yld (y_move rfl)) rfl ?_
      refine QJ.step (YldS.yld (y_bin rfl rfl rfl)) rfl ?_
      refine QJ.done ?_
      refine PJ.next ?_
      refine WJ.cond (t := decide (i21 < r7.1)) rfl (fun hb22 => ?_) (fun hb22 => ?_)
      · replace hm := ifT hm hb22
        refine WJ.skip ?_
        refine PJ.next ?_
        obtain ⟨kj28, hk29, hm⟩ := withK_open hm
        refine WJ.join (X := (List Lesson) × Int × Int × (List (Raw 4)) × Value) (fun (x : (List Lesson) × Int × Int × (List (Raw 4)) × Value) => kj28 x.1 x.2.1 x.2.2.1 = some r) (fun (x : (List Lesson) × Int × Int × (List (Raw 4)) × Value) => [(0, pt g2 0), (3, v5), (4, x.2.2.2.2), (5, .int .i64 r7.1), (6, .int .i64 i21)]) (fun (x : (List Lesson) × Int × Int × (List (Raw 4)) × Value) => [ins shLesson 2 fI64 x.2.2.2.1 x.1, box g2 112 [v3, .int .i64 x.2.1, .int .u64 x.2.2.1], row x.2.2.2.2 47 fRaw4 x.2.2.2.1, row v5 9 fStr ([[104, 111, 109, 101], [117, 112, 112, 101, 114], [108, 111, 119, 101, 114], [100, 105, 103, 105, 116, 115], [115, 105, 103, 110, 115], [115, 112, 101, 101, 100], [108, 97, 115, 116, 45, 49]] : List Str)]) ?_ ?_
        · clear hk29
          refine WJ.block ?_
          refine WJ.seq ?_
          obtain ⟨e30, h31, hm⟩ := bindS hm
          obtain ⟨r33, h34, hm⟩ := bindS hm
          refine WJ.draws (N := 10) (listed0 := #[false, false, false, false, false, false, false, false, false, false]) [ins shLesson 2 fI64 vs19 l18, row v20 47 fRaw4 vs19, row v5 9 fStr ([[104, 111, 109, 101], [117, 112, 112, 101, 114], [108, 111, 119, 101, 114], [100, 105, 103, 105, 116, 115], [115, 105, 103, 110, 115], [115, 112, 101, 101, 100], [108, 97, 115, 116, 45, 49]] : List Str)] follows rfl rfl ?_
          refine RJ.first 0 (listed' := #[true, false, false, false, false, false, false, false, false, false]) [1, 2, 3] rfl (by kernel_rfl) rfl ⟨by decide, rfl⟩ (y_move rfl) rfl ?_
          refine RJ.first 1 (listed' := #[true, true, false, false, false, false, false, false, false, false]) [1, 2, 3] rfl (by kernel_rfl) rfl ⟨by decide, rfl⟩ (y_move rfl) rfl ?_
          refine RJ.first 2 (listed' := #[true, true, true, false, false, false, false, false, false, false]) [1, 2, 3] rfl (by kernel_rfl) rfl ⟨by decide, rfl⟩ (y_ixRow (k := 2) (R := fStr) rfl Tryd.runUnderlying86 Tryd.sizeOf9 rfl rfl h31) rfl ?_
          refine RJ.first 3 (listed' := #[true, true, true, true, false, false, false, false, false, false]) [1, 2, 3] rfl (by kernel_rfl) rfl ⟨by decide, rfl⟩ (y_loadR (k := 2) (i := (Int.toNat i21)) (off := 0) (u := str e30) rfl Tryd.isAgg9 rfl (idx_get h31) rfl) rfl ?_
          refine RJ.first 5 (listed' := #[true, true, true, true, false, true, false, false, false, false]) [1, 2, 3] rfl (by kernel_rfl) rfl ⟨by decide, rfl⟩ (y_move rfl) rfl ?_
          refine RJ.hold (X := Nat × Value) 1 #[true, true, true, true, true, true, true, true, true, false] (fun (x : Nat × Value) => [(0, pt g2 0), (3, v5), (4, v20), (5, .int .i64 r7.1), (6, .int .i64 i21), (7, pt x.1 0), (26, .agg #[str e30, str [], x.2, .int .i64 r33.1])]) (fun (x : Nat × Value) => [row (.slice none 0 0) 2 fI64 [], box x.1 47 [str [], str [], (.slice none 0 0), .int .i64 0], box g2 112 [v3, .int .i64 r33.2.at_, .int .u64 r33.2.seed], row x.2 2 fI64 [], ins shLesson 2 fI64 vs19 l18, row v20 47 fRaw4 vs19, row v5 9 fStr ([[104, 111, 109, 101], [117, 112, 112, 101, 114], [108, 111, 119, 101, 114], [100, 105, 103, 105, 116, 115], [115, 105, 103, 110, 115], [115, 112, 101, 101, 100], [108, 97, 115, 116, 45, 49]] : List Str)]) ?_ ?_
          · rintro ⟨g36, v32⟩
            refine RJ.step1 9 [4, 5, 6] (by kernel_rfl) ⟨by decide, rfl⟩ ?_
            refine RO.of (listed' := #[true, true, true, true, true, true, true, true, true, true]) rfl rfl ?_
            refine SJ.rowCells (k := 3) rfl fun hc37 => ?_
            refine SJ.storeL (k := 1) (off := 0) (us := [str e30, str [], v32, .int .i64 r33.1]) rfl rfl rfl rfl Tryd.sizeOf47 rfl (by simp only [List.all_cons, hc37.2]; rfl) ?_
            refine SJ.nil ?_
            refine PJ.draw ?_
            refine RJ.fin [4, 5, 6] (by kernel_rfl) ⟨by decide, rfl⟩ ?_
            refine PJ.next ?_
            obtain ⟨kj44, hk45, hm⟩ := withK_open hm
            refine WJ.join (X := Int × Int × Str × Str × Int) (fun (x : Int × Int × Str × Str × Int) => kj44 x.1 x.2.1 x.2.2.1 x.2.2.2.1 x.2.2.2.2 = some r) (fun (x : Int × Int × Str × Str × Int) => [(0, pt g2 0), (3, v5), (4, v20), (5, .int .i64 r7.1), (6, .int .i64 i21), (7, pt g36 0)]) (fun (x : Int × Int × Str × Str × Int) => [box g2 112 [v3, .int .i64 x.1, .int .u64 x.2.1], box g36 47 [str x.2.2.1, str x.2.2.2.1, v32, .int .i64 x.2.2.2.2], row v32 2 fI64 [], ins shLesson 2 fI64 vs19 l18, row v20 47 fRaw4 vs19, row v5 9 fStr ([[104, 111, 109, 101], [117, 112, 112, 101, 114], [108, 111, 119, 101, 114], [100, 105, 103, 105, 116, 115], [115, 105, 103, 110, 115], [115, 112, 101, 101, 100], [108, 97, 115, 116, 45, 49]] : List Str)]) ?_ ?_
            · clear hk45
              refine WJ.seq ?_
              refine WJ.reg ?_
              refine SJ.q (YldS.yld (y_move rfl)) rfl ?_
              obtain ⟨r46, h47, hm⟩ := bindS hm
              refine SJ.call1 (k := 2) rfl Tryd.call66 rfl (fun w S hw hA hO => ok_s_l00Src_pick h47 w S _ (hr4.st1 hw hO) hA) rfl ?_
              rintro _ _ ⟨rfl, rfl⟩
              refine SJ.q (YldS.yld (y_assign rfl)) rfl ?_
              refine SJ.nil ?_
              refine PJ.next ?_
              refine WJ.block ?_
              refine WJ.sel (L' := (fun (x : Int × Int × Str × Str × Int × Int) => [box g2 112 [v3, .int .i64 x.1, .int .u64 x.2.1], box g36 47 [str x.2.2.1, str x.2.2.2.1, v32, .int .i64 x.2.2.2.2.1], row v32 2 fI64 [], ins shLesson 2 fI64 vs19 l18, row v20 47 fRaw4 vs19, row v5 9 fStr ([[104, 111, 109, 101], [117, 112, 112, 101, 114], [108, 111, 119, 101, 114], [100, 105, 103, 105, 116, 115], [115, 105, 103, 110, 115], [115, 112, 101, 101, 100], [108, 97, 115, 116, 45, 49]] : List Str)]) (r46.2.at_, r46.2.seed, e30, [], r33.1, r46.1)) [0, 2, 3, 4, 5, 6] ⟨by decide, rfl⟩ ?_
              refine WJ.sub (m' := (fun (x : Int × Int × Str × Str × Int × Int) => [(0, pt g2 0), (3, v5), (4, v20), (5, .int .i64 r7.1), (6, .int .i64 i21), (7, pt g36 0), (8, .int .i64 x.2.2.2.2.2)]) (r46.2.at_, r46.2.seed, e30, [], r33.1, r46.1)) ⟨rfl, rfl, rfl, rfl, rfl, rfl, rfl, trivial⟩ ?_
              refine WJ.loop (X := Int × Int × Str × Str × Int × Int) (fun N (x : Int × Int × Str × Str × Int × Int) => s_l18Draw_l2 kj44 s1 N x.1 x.2.1 x.2.2.1 x.2.2.2.1 x.2.2.2.2.1 x.2.2.2.2.2 = some r) (fun (x : Int × Int × Str × Str × Int × Int) => [(0, pt g2 0), (3, v5), (4, v20), (5, .int .i64 r7.1), (6, .int .i64 i21), (7, pt g36 0), (8, .int .i64 x.2.2.2.2.2)]) (fun (x : Int × Int × Str × Str × Int × Int) => [box g2 112 [v3, .int .i64 x.1, .int .u64 x.2.1], box g36 47 [str x.2.2.1, str x.2.2.2.1, v32, .int .i64 x.2.2.2.2.1], row v32 2 fI64 [], ins shLesson 2 fI64 vs19 l18, row v20 47 fRaw4 vs19, row v5 9 fStr ([[104, 111, 109, 101], [117, 112, 112, 101, 114], [108, 111, 119, 101, 114], [100, 105, 103, 105, 116, 115], [115, 105, 103, 110, 115], [115, 112, 101, 101, 100], [108, 97, 115, 116, 45, 49]] : List Str)]) ?_ N (r46.2.at_, r46.2.seed, e30, [], r33.1, r46.1) hm
              · rintro N ⟨x48, x49, x50, x51, x52, k53⟩ hI
                have hm := hI; clear hI
                cases N with
                | zero => cases hm
                | succ N =>
                unfold s_l18Draw_l2 at hm
                refine WJ.seq ?_
                refine WJ.seq ?_
                refine WJ.quiet ?_
                refine QJ.step (YldS.yld (y_move rfl)) rfl ?_
                refine QJ.step (YldS.yld (y_bin rfl rfl rfl)) rfl ?_
                refine QJ.done ?_
                refine PJ.next ?_
                refine WJ.cond (t := decide (k53 > 0)) rfl (fun hb54 => ?_) (fun hb54 => ?_)
                · replace hm := ifT hm hb54
                  refine WJ.skip ?_
                  refine PJ.next ?_
                  refine WJ.seq ?_
                  refine WJ.block ?_
                  obtain ⟨r56, h57, hm⟩ := bindS hm
                  obtain ⟨r58, h59, hm⟩ := bindS hm
                  refine WJ.draws (N := 8) (listed0 := #[false, false, false, false, false, false, false, false]) [row v32 2 fI64 [], ins shLesson 2 fI64 vs19 l18, row v20 47 fRaw4 vs19, row v5 9 fStr ([[104, 111, 109, 101], [117, 112, 112, 101, 114], [108, 111, 119, 101, 114], [100, 105, 103, 105, 116, 115], [115, 105, 103, 110, 115], [115, 112, 101, 101, 100], [108, 97, 115, 116, 45, 49]] : List Str)] follows rfl rfl ?_
                  refine RJ.first 0 (listed' := #[true, false, false, false, false, false, false, false]) [2, 3, 4, 5] rfl (by kernel_rfl) rfl ⟨by decide, rfl⟩ (y_fldB (o := 0) fld47_1 rfl) rfl ?_
                  refine RJ.first 2 (listed' := #[true, false, true, false, false, false, false, false]) [2, 3, 4, 5] rfl (by kernel_rfl) rfl ⟨by decide, rfl⟩ (y_move rfl) rfl ?_
                  refine RJ.hold (X := Value) 3 #[true, true, true, true, true, false, false, false] (fun (x : Value) => [(0, pt g2 0), (3, v5), (4, v20), (5, .int .i64 r7.1), (6, .int .i64 i21), (7, pt g36 0), (8, .int .i64 k53), (34, str x51), (37, str r56.1)]) (fun (x : Value) => [box g2 112 [v3, .int .i64 r56.2.at_, .int .u64 r56.2.seed], row x 9 fStr ([[97], [115], [100], [102], [103], [104], [49]] : List Str), box g36 47 [str x50, str x51, v32, .int .i64 x52], row v32 2 fI64 [], ins shLesson 2 fI64 vs19 l18, row v20 47 fRaw4 vs19, row v5 9 fStr ([[104, 111, 109, 101], [117, 112, 112, 101, 114], [108, 111, 119, 101, 114], [100, 105, 103, 105, 116, 115], [115, 105, 103, 110, 115], [115, 112, 101, 101, 100], [108, 97, 115, 116, 45, 49]] : List Str)]) ?_ ?_
                  · rintro v55
                    refine RJ.step1 5 [3, 4, 5, 6] (by kernel_rfl) ⟨by decide, rfl⟩ ?_
                    refine RO.of (listed' := #[true, true, true, true, true, true, false, false]) rfl rfl ?_
                    refine SJ.q (y_call Tryd.call100 rfl (RetG.quiet fun w hw => ok_s_l02PutLetter h59 w )) rfl ?_
                    refine SJ.nil ?_
                    refine PJ.draw ?_
                    refine RJ.first 6 (listed' := #[true, true, true, true, true, true, true, false]) [3, 4, 5, 6] rfl (by kernel_rfl) rfl ⟨by decide, rfl⟩ (y_fldB (o := 0) fld47_1 rfl) rfl ?_
                    refine RJ.step1 7 [3, 4, 5, 6] (by kernel_rfl) ⟨by decide, rfl⟩ ?_
                    refine RO.of (listed' := #[true, true, true, true, true, true, true, true]) rfl rfl ?_
                    refine SJ.storeL (k := 2) (off := 1) (us := [str r58]) rfl rfl rfl rfl Tryd.sizeOf9 rfl rfl ?_
                    refine SJ.nil ?_
                    refine PJ.draw ?_
                    refine RJ.fin [3, 4, 5, 6] (by kernel_rfl) ⟨by decide, rfl⟩ ?_
                    refine PJ.block_normal (PJ.next ?_)
                    refine WJ.quiet ?_
                    refine QJ.step (YldS.yld (y_move rfl)) rfl ?_
                    refine QJ.step (YldS.yld (y_bin rfl rfl rfl)) rfl ?_
                    refine QJ.step (YldS.yld (y_assign rfl)) rfl ?_
                    refine QJ.done ?_
                    exact PJ.round (r56.2.at_, r56.2.seed, x50, r58, x52, w64 (k53 - 1)) [0, 2, 3, 4, 5, 6] hm ⟨rfl, rfl, rfl, rfl, rfl, rfl, rfl, trivial⟩ ⟨by decide, rfl⟩
                  · intro hD60
                    refine RJ.step2 1 3 [2, 3, 4, 5] (by kernel_rfl) ⟨by decide, rfl⟩ ?_ ?_
                    · refine RO.of (listed' := #[true, true, true, false, false, false, false, false]) rfl rfl ?_
                      refine SJ.q (YldS.yld (y_loadB (k := 1) (off := 1) (v := str x51) rfl Tryd.isAgg9 rfl rfl)) rfl ?_
                      refine SJ.nil ?_
                      refine PJ.draw ?_
                      refine RJ.step1 3 [2, 3, 4, 5] (by kernel_rfl) ⟨by decide, rfl⟩ ?_
                      refine RO.of (listed' := #[true, true, true, true, false, false, false, false]) rfl rfl ?_
                      refine SJ.buildSlice (R := fStr) (os := [.const (str [97]), .const (str [115]), .const (str [100]), .const (str [102]), .const (str [103]), .const (str [104]), .const (str [49])]) ([[97], [115], [100], [102], [103], [104], [49]] : List Str) Tryd.runUnderlying86 Tryd.sizeOf9 Tryd.zeroValue9 rfl rfl rfl rfl rfl rfl fun v55 => ?_
                      refine SJ.nil ?_
                      refine PJ.draw ?_
                      refine RJ.step1 4 [3, 4, 5, 6] (by kernel_rfl) ⟨by decide, rfl⟩ ?_
                      refine RO.of (listed' := #[true, true, true, true, true, false, false, false]) rfl rfl ?_
                      refine SJ.call2 (k := 1) rfl Tryd.call93 rfl (fun w S hw hA hO hB => ok_s_l00Src_text h57 w S _ (hr4.st1 hw hO) _ (hB.row_rd (j := 0) (k := 1) rfl rfl) hA) rfl ?_
                      rintro _ _ ⟨rfl, rfl⟩
                      refine SJ.nil ?_
                      refine PJ.draw ?_
                      exact RJ.weak (hD60 v55) [0, 1, 2, 3, 4, 5, 6] ⟨rfl, rfl, rfl, rfl, rfl, rfl, rfl, rfl, rfl, trivial⟩ ⟨by decide, rfl⟩
                    · refine RO.of (listed' := #[true, false, true, true, false, false, false, false]) rfl rfl ?_
                      refine SJ.buildSlice (R := fStr) (os := [.const (str [97]), .const (str [115]), .const (str [100]), .const (str [102]), .const (str [103]), .const (str [104]), .const (str [49])]) ([[97], [115], [100], [102], [103], [104], [49]] : List Str) Tryd.runUnderlying86 Tryd.sizeOf9 Tryd.zeroValue9 rfl rfl rfl rfl rfl rfl fun v55 => ?_
                      refine SJ.nil ?_
                      refine PJ.draw ?_
                      refine RJ.step2 1 4 [3, 4, 5, 6] (by kernel_rfl) ⟨by decide, rfl⟩ ?_ ?_
                      · refine RO.of (listed' := #[true, true, true, true, false, false, false, false]) rfl rfl ?_
                        refine SJ.q (YldS.yld (y_loadB (k := 2) (off := 1) (v := str x51) rfl Tryd.isAgg9 rfl rfl)) rfl ?_
                        refine SJ.nil ?_
                        refine PJ.draw ?_
                        refine RJ.step1 4 [3, 4, 5, 6] (by kernel_rfl) ⟨by decide, rfl⟩ ?_
                        refine RO.of (listed' := #[true, true, true, true, true, false, false, false]) rfl rfl ?_
                        refine SJ.call2 (k := 1) rfl Tryd.call93 rfl (fun w S hw hA hO hB => ok_s_l00Src_text h57 w S _ (hr4.st1 hw hO) _ (hB.row_rd (j := 0) (k := 1) rfl rfl) hA) rfl ?_
                        rintro _ _ ⟨rfl, rfl⟩
                        refine SJ.nil ?_
                        refine PJ.draw ?_
                        exact RJ.weak (hD60 v55) [0, 1, 2, 3, 4, 5, 6] ⟨rfl, rfl, rfl, rfl, rfl, rfl, rfl, rfl, rfl, trivial⟩ ⟨by decide, rfl⟩
                      · refine RO.of (listed' := #[true, false, true, true, true, false, false, false]) rfl rfl ?_
                        refine SJ.call2 (k := 1) rfl Tryd.call93 rfl (fun w S hw hA hO hB => ok_s_l00Src_text h57 w S _ (hr4.st1 hw hO) _ (hB.row_rd (j := 0) (k := 1) rfl rfl) hA) rfl ?_
                        rintro _ _ ⟨rfl, rfl⟩
                        refine SJ.nil ?_
                        refine PJ.draw ?_
                        refine RJ.step1 1 [3, 4, 5, 6] (by kernel_rfl) ⟨by decide, rfl⟩ ?_
                        refine RO.of (listed' := #[true, true, true, true, true, false, false, false]) rfl rfl ?_
                        refine SJ.q (YldS.yld (y_loadB (k := 2) (off := 1) (v := str x51) rfl Tryd.isAgg9 rfl rfl)) rfl ?_
                        refine SJ.nil ?_
                        refine PJ.draw ?_
                        exact RJ.weak (hD60 v55) [0, 1, 2, 3, 4, 5, 6] ⟨rfl, rfl, rfl, rfl, rfl, rfl, rfl, rfl, rfl, trivial⟩ ⟨by decide, rfl⟩
                · replace hm := ifF hm hb54
                  refine WJ.exit ?_
                  refine PJ.then_exit (PJ.then_exit (PJ.block_exit ?_))
                  exact PJ.joined (x48, x49, x50, x51, x52) [0, 1, 2, 3, 4, 5] hm ⟨rfl, rfl, rfl, rfl, rfl, rfl, trivial⟩ ⟨by decide, rfl⟩
            · rintro ⟨x39, x40, x41, x42, x43⟩ hm
              subst hk45
              obtain ⟨kj68, hk69, hm⟩ := withK_open hm
              refine WJ.join (X := Int × Int × Str × Str × Int × (List Int) × Value) (fun (x : Int × Int × Str × Str × Int × (List Int) × Value) => kj68 x.1 x.2.1 x.2.2.1 x.2.2.2.1 x.2.2.2.2.1 x.2.2.2.2.2.1 = some r) (fun (x : Int × Int × Str × Str × Int × (List Int) × Value) => [(0, pt g2 0), (3, v5), (4, v20), (5, .int .i64 r7.1), (6, .int .i64 i21), (7, pt g36 0)]) (fun (x : Int × Int × Str × Str × Int × (List Int) × Value) => [box g2 112 [v3, .int .i64 x.1, .int .u64 x.2.1], box g36 47 [str x.2.2.1, str x.2.2.2.1, x.2.2.2.2.2.2, .int .i64 x.2.2.2.2.1], row x.2.2.2.2.2.2 2 fI64 x.2.2.2.2.2.1, ins shLesson 2 fI64 vs19 l18, row v20 47 fRaw4 vs19, row v5 9 fStr ([[104, 111, 109, 101], [117, 112, 112, 101, 114], [108, 111, 119, 101, 114], [100, 105, 103, 105, 116, 115], [115, 105, 103, 110, 115], [115, 112, 101, 101, 100], [108, 97, 115, 116, 45, 49]] : List Str)]) ?_ ?_
              · clear hk69
                refine WJ.seq ?_
                refine WJ.quiet ?_
                refine QJ.step (YldS.yld (y_assign rfl)) rfl ?_
                refine QJ.done ?_
                refine PJ.next ?_
                refine WJ.block ?_
                refine WJ.sel (L' := (fun (x : Int × Int × Str × Str × Int × (List Int) × Value × Int) => [box g2 112 [v3, .int .i64 x.1, .int .u64 x.2.1], box g36 47 [str x.2.2.1, str x.2.2.2.1, x.2.2.2.2.2.2.1, .int .i64 x.2.2.2.2.1], row x.2.2.2.2.2.2.1 2 fI64 x.2.2.2.2.2.1, ins shLesson 2 fI64 vs19 l18, row v20 47 fRaw4 vs19, row v5 9 fStr ([[104, 111, 109, 101], [117, 112, 112, 101, 114], [108, 111, 119, 101, 114], [100, 105, 103, 105, 116, 115], [115, 105, 103, 110, 115], [115, 112, 101, 101, 100], [108, 97, 115, 116, 45, 49]] : List Str)]) (x39, x40, x41, x42, x43, [], v32, 0)) [0, 1, 2, 3, 4, 5] ⟨by decide, rfl⟩ ?_
                refine WJ.sub (m' := (fun (x : Int × Int × Str × Str × Int × (List Int) × Value × Int) => [(0, pt g2 0), (3, v5), (4, v20), (5, .int .i64 r7.1), (6, .int .i64 i21), (7, pt g36 0), (9, .int .i64 x.2.2.2.2.2.2.2)]) (x39, x40, x41, x42, x43, [], v32, 0)) ⟨rfl, rfl, rfl, rfl, rfl, rfl, rfl, trivial⟩ ?_
                refine WJ.loop (X := Int × Int × Str × Str × Int × (List Int) × Value × Int) (fun N (x : Int × Int × Str × Str × Int × (List Int) × Value × Int) => s_l18Draw_l3 kj68 s1 r7 i21 N x.1 x.2.1 x.2.2.1 x.2.2.2.1 x.2.2.2.2.1 x.2.2.2.2.2.1 x.2.2.2.2.2.2.2 = some r) (fun (x : Int × Int × Str × Str × Int × (List Int) × Value × Int) => [(0, pt g2 0), (3, v5), (4, v20), (5, .int .i64 r7.1), (6, .int .i64 i21), (7, pt g36 0), (9, .int .i64 x.2.2.2.2.2.2.2)]) (fun (x : Int × Int × Str × Str × Int × (List Int) × Value × Int) => [box g2 112 [v3, .int .i64 x.1, .int .u64 x.2.1], box g36 47 [str x.2.2.1, str x.2.2.2.1, x.2.2.2.2.2.2.1, .int .i64 x.2.2.2.2.1], row x.2.2.2.2.2.2.1 2 fI64 x.2.2.2.2.2.1, ins shLesson 2 fI64 vs19 l18, row v20 47 fRaw4 vs19, row v5 9 fStr ([[104, 111, 109, 101], [117, 112, 112, 101, 114], [108, 111, 119, 101, 114], [100, 105, 103, 105, 116, 115], [115, 105, 103, 110, 115], [115, 112, 101, 101, 100], [108, 97, 115, 116, 45, 49]] : List Str)]) ?_ N (x39, x40, x41, x42, x43, [], v32, 0) hm
                · rintro N ⟨x70, x71, x72, x73, x74, l75, v76, k77⟩ hI
                  have hm := hI; clear hI
                  cases N with
                  | zero => cases hm
                  | succ N =>
                  unfold s_l18Draw_l3 at hm
                  refine WJ.seq ?_
                  refine WJ.seq ?_
                  refine WJ.quiet ?_
                  refine QJ.step (YldS.yld (y_move rfl)) rfl ?_
                  refine QJ.step (YldS.yld (y_move rfl)) rfl ?_
                  refine QJ.step (YldS.yld (y_bin rfl rfl rfl)) rfl ?_
                  refine QJ.done ?_
                  refine PJ.next ?_
                  refine WJ.cond (t := decide (k77 < r7.1)) rfl (fun hb78 => ?_) (fun hb78 => ?_)
                  · replace hm := ifT hm hb78
                    refine WJ.skip ?_
                    refine PJ.next ?_
                    obtain ⟨kj86, hk87, hm⟩ := withK_open hm
                    refine WJ.join (X := Int × Int × Str × Str × Int × (List Int) × Value) (fun (x : Int × Int × Str × Str × Int × (List Int) × Value) => kj86 x.1 x.2.1 x.2.2.1 x.2.2.2.1 x.2.2.2.2.1 x.2.2.2.2.2.1 = some r) (fun (x : Int × Int × Str × Str × Int × (List Int) × Value) => [(0, pt g2 0), (3, v5), (4, v20), (5, .int .i64 r7.1), (6, .int .i64 i21), (7, pt g36 0), (9, .int .i64 k77)]) (fun (x : Int × Int × Str × Str × Int × (List Int) × Value) => [box g2 112 [v3, .int .i64 x.1, .int .u64 x.2.1], box g36 47 [str x.2.2.1, str x.2.2.2.1, x.2.2.2.2.2.2, .int .i64 x.2.2.2.2.1], row x.2.2.2.2.2.2 2 fI64 x.2.2.2.2.2.1, ins shLesson 2 fI64 vs19 l18, row v20 47 fRaw4 vs19, row v5 9 fStr ([[104, 111, 109, 101], [117, 112, 112, 101, 114], [108, 111, 119, 101, 114], [100, 105, 103, 105, 116, 115], [115, 105, 103, 110, 115], [115, 112, 101, 101, 100], [108, 97, 115, 116, 45, 49]] : List Str)]) ?_ ?_
                    · clear hk87
                      refine WJ.block ?_
                      refine WJ.seq ?_
                      refine WJ.reg ?_
                      refine SJ.q (YldS.yld (y_move rfl)) rfl ?_
                      refine SJ.q (YldS.yld (y_move rfl)) rfl ?_
                      refine SJ.q (YldS.yld (y_bin rfl rfl rfl)) rfl ?_
                      refine SJ.q (YldS.yld (y_move rfl)) rfl ?_
                      obtain ⟨x90, h89, hm⟩ := bindS hm
                      refine SJ.cut 3 [(0, pt g2 0), (3, v5), (4, v20), (5, .int .i64 r7.1), (6, .int .i64 i21), (7, pt g36 0), (9, .int .i64 k77), (51, .bool x90.1)] [box g2 112 [v3, .int .i64 x90.2.at_, .int .u64 x90.2.seed], box g36 47 [str x72, str x73, v76, .int .i64 x74], row v76 2 fI64 l75, ins shLesson 2 fI64 vs19 l18, row v20 47 fRaw4 vs19, row v5 9 fStr ([[104, 111, 109, 101], [117, 112, 112, 101, 114], [108, 111, 119, 101, 114], [100, 105, 103, 105, 116, 115], [115, 105, 103, 110, 115], [115, 112, 101, 101, 100], [108, 97, 115, 116, 45, 49]] : List Str)] ?_ ?_
                      · rcases Bool.eq_false_or_eq_true (decide (k77 < i21)) with hb91 | hb91
                        · replace h89 := ifT h89 hb91
                          refine SJ.on rfl rfl (cB hb91) (SJ.q (YldS.yld (y_move rfl)) rfl ?_)
                          obtain ⟨r92, h93, h89⟩ := bindS h89
                          refine SJ.on rfl rfl (cB hb91) (SJ.call1 (k := 0) rfl Tryd.call67 rfl (fun w S hw hA hO => ok_s_l00Src_one h93 w S _ (hr4.st1 hw hO) hA) rfl ?_)
                          rintro _ _ ⟨rfl, rfl⟩
                          refine SJ.q (YldS.yld (y_pick_t (cB hb91) rfl)) rfl ?_
                          obtain rfl := Option.some.inj h89
                          exact SJ.cut_end [0, 1, 2, 3, 4, 5] ⟨rfl, rfl, rfl, rfl, rfl, rfl, rfl, rfl, trivial⟩ ⟨by decide, rfl⟩
                        · replace h89 := ifF h89 hb91
                          obtain rfl := Option.some.inj h89
                          refine SJ.off rfl rfl (cB hb91) rfl rfl ?_
                          refine SJ.off rfl rfl (cB hb91) rfl rfl ?_
                          refine SJ.q (YldS.yld (y_pick_f (cB hb91) rfl)) rfl ?_
                          exact SJ.cut_end [0, 1, 2, 3, 4, 5] ⟨rfl, rfl, rfl, rfl, rfl, rfl, rfl, rfl, trivial⟩ ⟨by decide, rfl⟩
                      refine SJ.q (YldS.yld (y_move rfl)) rfl ?_
                      obtain ⟨x96, h95, hm⟩ := bindS hm
                      refine SJ.cut 8 [(0, pt g2 0), (3, v5), (4, v20), (5, .int .i64 r7.1), (6, .int .i64 i21), (7, pt g36 0), (9, .int .i64 k77), (60, .bool x96.1)] [box g2 112 [v3, .int .i64 x96.2.at_, .int .u64 x96.2.seed], box g36 47 [str x72, str x73, v76, .int .i64 x74], row v76 2 fI64 l75, ins shLesson 2 fI64 vs19 l18, row v20 47 fRaw4 vs19, row v5 9 fStr ([[104, 111, 109, 101], [117, 112, 112, 101, 114], [108, 111, 119, 101, 114], [100, 105, 103, 105, 116, 115], [115, 105, 103, 110, 115], [115, 112, 101, 101, 100], [108, 97, 115, 116, 45, 49]] : List Str)] ?_ ?_
                      · rcases Bool.eq_false_or_eq_true x90.1 with hb97 | hb97
                        · replace h95 := ifT h95 hb97
                          obtain rfl := Option.some.inj h95
                          refine SJ.off rfl rfl (cB hb97) rfl rfl ?_
                          refine SJ.off rfl rfl (cB hb97) rfl rfl ?_
                          refine SJ.off rfl rfl (cB hb97) rfl rfl ?_
                          refine SJ.off rfl rfl (cB hb97) rfl rfl ?_
                          refine SJ.off_undef rfl rfl rfl rfl ?_
                          refine SJ.off_undef rfl rfl rfl rfl ?_
                          refine SJ.off rfl rfl (cB hb97) rfl rfl ?_
                          refine SJ.q (YldS.yld (y_pick_t (cB hb97) rfl)) rfl ?_
                          exact SJ.cut_end [0, 1, 2, 3, 4, 5] ⟨rfl, rfl, rfl, rfl, rfl, rfl, rfl, rfl, trivial⟩ ⟨by decide, rfl⟩
                        · replace h95 := ifF h95 hb97
                          refine SJ.on rfl rfl (cB hb97) (SJ.q (YldS.yld (y_move rfl)) rfl ?_)
                          refine SJ.on rfl rfl (cB hb97) (SJ.q (YldS.yld (y_move rfl)) rfl ?_)
                          refine SJ.on rfl rfl (cB hb97) (SJ.q (YldS.yld (y_bin rfl rfl rfl)) rfl ?_)
                          refine SJ.on rfl rfl (cB hb97) (SJ.q (YldS.yld (y_move rfl)) rfl ?_)
                          obtain ⟨x100, h99, h95⟩ := bindS h95
                          refine SJ.cut 3 [(0, pt g2 0), (3, v5), (4, v20), (5, .int .i64 r7.1), (6, .int .i64 i21), (7, pt g36 0), (9, .int .i64 k77), (52, .bool x90.1), (59, .bool x100.1)] [box g2 112 [v3, .int .i64 x100.2.at_, .int .u64 x100.2.seed], box g36 47 [str x72, str x73, v76, .int .i64 x74], row v76 2 fI64 l75, ins shLesson 2 fI64 vs19 l18, row v20 47 fRaw4 vs19, row v5 9 fStr ([[104, 111, 109, 101], [117, 112, 112, 101, 114], [108, 111, 119, 101, 114], [100, 105, 103, 105, 116, 115], [115, 105, 103, 110, 115], [115, 112, 101, 101, 100], [108, 97, 115, 116, 45, 49]] : List Str)] ?_ ?_
                          · rcases Bool.eq_false_or_eq_true (decide (k77 > i21)) with hb101 | hb101
                            · replace h99 := ifT h99 hb101
                              refine SJ.on rfl rfl (cB hb101) (SJ.q (YldS.yld (y_move rfl)) rfl ?_)
                              obtain ⟨r102, h103, h99⟩ := bindS h99
                              refine SJ.on rfl rfl (cB hb101) (SJ.call1 (k := 0) rfl Tryd.call67 rfl (fun w S hw hA hO => ok_s_l00Src_one h103 w S _ (hr4.st1 hw hO) hA) rfl ?_)
                              rintro _ _ ⟨rfl, rfl⟩
                              refine SJ.on rfl rfl (cB hb97) (SJ.q (YldS.yld (y_pick_t (cB hb101) rfl)) rfl ?_)
                              obtain rfl := Option.some.inj h99
                              exact SJ.cut_end [0, 1, 2, 3, 4, 5] ⟨rfl, rfl, rfl, rfl, rfl, rfl, rfl, rfl, rfl, trivial⟩ ⟨by decide, rfl⟩
                            · replace h99 := ifF h99 hb101
                              obtain rfl := Option.some.inj h99
                              refine SJ.off rfl rfl (cB hb101) rfl rfl ?_
                              refine SJ.off rfl rfl (cB hb101) rfl rfl ?_
                              refine SJ.on rfl rfl (cB hb97) (SJ.q (YldS.yld (y_pick_f (cB hb101) rfl)) rfl ?_)
                              exact SJ.cut_end [0, 1, 2, 3, 4, 5] ⟨rfl, rfl, rfl, rfl, rfl, rfl, rfl, rfl, rfl, trivial⟩ ⟨by decide, rfl⟩
                          refine SJ.q (YldS.yld (y_pick_f (cB hb97) rfl)) rfl ?_
                          obtain rfl := Option.some.inj h95
                          exact SJ.cut_end [0, 1, 2, 3, 4, 5] ⟨rfl, rfl, rfl, rfl, rfl, rfl, rfl, rfl, trivial⟩ ⟨by decide, rfl⟩
                      refine SJ.nil ?_
                      refine PJ.next ?_
                      refine WJ.cond (t := x96.1) rfl (fun hb104 => ?_) (fun hb104 => ?_)
                      · replace hm := ifT hm hb104
                        refine WJ.reg ?_
                        refine SJ.q (YldS.yld (y_fldB (o := 0) fld47_2 rfl)) rfl ?_
                        refine SJ.q (YldS.yld (y_loadB (k := 1) (off := 2) (v := v76) rfl Tryd.isAgg26 rfl rfl)) rfl ?_
                        refine SJ.q (YldS.yld (y_move rfl)) rfl ?_
                        refine SJ.buildSlice (R := fI64) (os := [.tmp 63]) [k77] Tryd.runUnderlying26 Tryd.sizeOf2 Tryd.zeroValue2 rfl rfl rfl rfl rfl rfl fun v105 => ?_
                        obtain ⟨l106, h107, hm⟩ := bindS hm
                        refine SJ.append (k := 3) (R := fI64) h107 rfl Tryd.underlying26 el2 rfl rfl rfl (fun w hw => (hw.row_rd (k := 0) rfl)) rfl fun v108 => ?_
                        refine SJ.q (YldS.yld (y_fldB (o := 0) fld47_2 rfl)) rfl ?_
                        refine SJ.rowCells (k := 3) rfl fun hc109 => ?_
                        refine SJ.storeL (k := 2) (off := 2) (us := [v108]) rfl rfl rfl hc109.1 Tryd.sizeOf26 rfl (by simp [hc109.2]) ?_
                        refine SJ.nil ?_
                        refine PJ.block_normal ?_
                        exact PJ.joined (x96.2.at_, x96.2.seed, x72, x73, x74, l106, v108) [1, 2, 3, 4, 5, 6] hm ⟨rfl, rfl, rfl, rfl, rfl, rfl, rfl, trivial⟩ ⟨by decide, rfl⟩
                      · replace hm := ifF hm hb104
                        refine WJ.skip ?_
                        refine PJ.block_normal ?_
                        exact PJ.joined (x96.2.at_, x96.2.seed, x72, x73, x74, l75, v76) [0, 1, 2, 3, 4, 5] hm ⟨rfl, rfl, rfl, rfl, rfl, rfl, rfl, trivial⟩ ⟨by decide, rfl⟩
                    · rintro ⟨x79, x80, x81, x82, x83, l84, v85⟩ hm
                      subst hk87
                      refine WJ.quiet ?_
                      refine QJ.step (YldS.yld (y_move rfl)) rfl ?_
                      refine QJ.step (YldS.yld (y_bin rfl rfl rfl)) rfl ?_
                      refine QJ.step (YldS.yld (y_assign rfl)) rfl ?_
                      refine QJ.done ?_
                      exact PJ.round (x79, x80, x81, x82, x83, l84, v85, w64 (k77 + 1)) [0, 1, 2, 3, 4, 5] hm ⟨rfl, rfl, rfl, rfl, rfl, rfl, rfl, trivial⟩ ⟨by decide, rfl⟩
                  · replace hm := ifF hm hb78
                    refine WJ.exit ?_
                    refine PJ.then_exit (PJ.then_exit (PJ.block_exit ?_))
                    exact PJ.joined (x70, x71, x72, x73, x74, l75, v76) [0, 1, 2, 3, 4, 5] hm ⟨rfl, rfl, rfl, rfl, rfl, rfl, trivial⟩ ⟨by decide, rfl⟩
              · rintro ⟨x61, x62, x63, x64, x65, l66, v67⟩ hm
                subst hk69
                refine WJ.reg ?_
                refine SJ.q (YldS.yld (y_move rfl)) rfl ?_
                refine SJ.q (YldS.yld (y_loadBN (k := 1) (off := 0) (us := [str x63, str x64, v67, .int .i64 x65]) rfl Tryd.isAgg47 Tryd.sizeOf47 rfl rfl)) rfl ?_
                refine SJ.rowCells (k := 2) rfl fun hc110 => ?_
                refine SJ.buildSlice (R := fRaw4) (os := [.tmp 68]) ([mkRaw (n := 4) (shLesson.enc v67 (Lesson.mk x63 x64 l66 x65)) (shLesson.len _ _) (shLesson.one _ _ hc110.2)] : List (Raw 4)) Tryd.runUnderlying24 Tryd.sizeOf47 Tryd.zeroValue47 rfl rfl rfl rfl rfl rfl fun v111 => ?_
                refine SJ.ins_nil shLesson 2 fI64 ?_
                refine SJ.sel (L' := [row v67 2 fI64 l66, ins shLesson 2 fI64 [] ([] : List Lesson), row v111 47 fRaw4 ([mkRaw (n := 4) (shLesson.enc v67 (Lesson.mk x63 x64 l66 x65)) (shLesson.len _ _) (shLesson.one _ _ hc110.2)] : List (Raw 4)), box g2 112 [v3, .int .i64 x61, .int .u64 x62], box g36 47 [str x63, str x64, v67, .int .i64 x65], ins shLesson 2 fI64 vs19 l18, row v20 47 fRaw4 vs19, row v5 9 fStr ([[104, 111, 109, 101], [117, 112, 112, 101, 114], [108, 111, 119, 101, 114], [100, 105, 103, 105, 116, 115], [115, 105, 103, 110, 115], [115, 112, 101, 101, 100], [108, 97, 115, 116, 45, 49]] : List Str)]) [4, 0, 1, 2, 3, 5, 6, 7] ⟨by decide, rfl⟩ ?_
                refine SJ.star ?_
                refine SJ.conv0 (fun w S h => ins_push (H := shLesson) (lx := l66) (y := mkRaw (n := 4) (shLesson.enc v67 (Lesson.mk x63 x64 l66 x65)) (shLesson.len _ _) (shLesson.one _ _ hc110.2)) (x := (Lesson.mk x63 x64 l66 x65)) rfl rfl h) ?_
                refine SJ.conv0 (B := ins shLesson 2 fI64 ([mkRaw (n := 4) (shLesson.enc v67 (Lesson.mk x63 x64 l66 x65)) (shLesson.len _ _) (shLesson.one _ _ hc110.2)] : List (Raw 4)) ([(Lesson.mk x63 x64 l66 x65)] : List Lesson)) (fun w S h => h) ?_
                refine SJ.ins_len 4 rfl fun hl112 => ?_
                refine SJ.ins_len 0 rfl fun hl113 => ?_
                obtain ⟨l114, h115, hm⟩ := bindS hm
                refine SJ.append (k := 5) (R := fRaw4) (app_raw h115 hl112.1 hl113.1) rfl Tryd.underlying24 el47 rfl rfl rfl (fun w hw => (hw.row_rd (k := 1) rfl)) rfl fun v116 => ?_
                refine SJ.sel (L' := [ins shLesson 2 fI64 vs19 l18, ins shLesson 2 fI64 ([mkRaw (n := 4) (shLesson.enc v67 (Lesson.mk x63 x64 l66 x65)) (shLesson.len _ _) (shLesson.one _ _ hc110.2)] : List (Raw 4)) ([(Lesson.mk x63 x64 l66 x65)] : List Lesson), row v111 47 fRaw4 ([mkRaw (n := 4) (shLesson.enc v67 (Lesson.mk x63 x64 l66 x65)) (shLesson.len _ _) (shLesson.one _ _ hc110.2)] : List (Raw 4)), box g2 112 [v3, .int .i64 x61, .int .u64 x62], box g36 47 [str x63, str x64, v67, .int .i64 x65], row v116 47 fRaw4 (vs19 ++ ([mkRaw (n := 4) (shLesson.enc v67 (Lesson.mk x63 x64 l66 x65)) (shLesson.len _ _) (shLesson.one _ _ hc110.2)] : List (Raw 4))), row v5 9 fStr ([[104, 111, 109, 101], [117, 112, 112, 101, 114], [108, 111, 119, 101, 114], [100, 105, 103, 105, 116, 115], [115, 105, 103, 110, 115], [115, 112, 101, 101, 100], [108, 97, 115, 116, 45, 49]] : List Str)]) [4, 0, 1, 2, 3, 5, 6] ⟨by decide, rfl⟩ ?_
                refine SJ.star ?_
                refine SJ.conv0 (fun w S h => ins_app h115 h) ?_
                refine SJ.q (YldS.yld (y_assign rfl)) rfl ?_
                refine SJ.nil ?_
                refine PJ.block_normal ?_
                exact PJ.joined (l114, x61, x62, (vs19 ++ ([mkRaw (n := 4) (shLesson.enc v67 (Lesson.mk x63 x64 l66 x65)) (shLesson.len _ _) (shLesson.one _ _ hc110.2)] : List (Raw 4))), v116) [0, 2, 4, 5] hm ⟨rfl, rfl, rfl, rfl, rfl, trivial⟩ ⟨by decide, rfl⟩
          · intro hD38
            refine RJ.step3 4 6 8 [1, 2, 3] (by kernel_rfl) ⟨by decide, rfl⟩ ?_ ?_ ?_
            · refine RO.of (listed' := #[true, true, true, true, true, true, false, false, false, false]) rfl rfl ?_
              refine SJ.buildSlice (R := fI64) (os := []) [] Tryd.runUnderlying26 Tryd.sizeOf2 Tryd.zeroValue2 rfl rfl rfl rfl rfl rfl fun v32 => ?_
              refine SJ.nil ?_
              refine PJ.draw ?_
              refine RJ.step2 6 8 [2, 3, 4] (by kernel_rfl) ⟨by decide, rfl⟩ ?_ ?_
              · refine RO.of (listed' := #[true, true, true, true, true, true, true, false, false, false]) rfl rfl ?_
                refine SJ.call1 (k := 1) rfl Tryd.call66 rfl (fun w S hw hA hO => ok_s_l00Src_pick h34 w S _ (hr4.st1 hw hO) hA) rfl ?_
                rintro _ _ ⟨rfl, rfl⟩
                refine SJ.nil ?_
                refine PJ.draw ?_
                refine RJ.step2 7 8 [2, 3, 4] (by kernel_rfl) ⟨by decide, rfl⟩ ?_ ?_
                · refine RO.of (listed' := #[true, true, true, true, true, true, true, true, false, false]) rfl rfl ?_
                  refine SJ.rowCells (k := 1) rfl fun hc35 => ?_
                  refine SJ.q (YldS.yld (y_build (parts := [(0, .tmp 22), (2, .tmp 23), (3, .tmp 25)]) (places := [(0, 1), (1, 1), (2, 1), (3, 1)]) (r := [str e30, str [], v32, .int .i64 r33.1]) pl47 Tryd.zeroValue47 rfl rfl (show _ = [(0, [str e30]), (2, [v32]), (3, [.int .i64 r33.1])] from by simp only [List.map, hc35.1]; try rfl) rfl)) rfl ?_
                  refine SJ.nil ?_
                  refine PJ.draw ?_
                  refine RJ.step1 8 [2, 3, 4] (by kernel_rfl) ⟨by decide, rfl⟩ ?_
                  refine RO.of (listed' := #[true, true, true, true, true, true, true, true, true, false]) rfl rfl ?_
                  refine SJ.alloc (cs := [str [], str [], .slice none 0 0, .int .i64 0]) Tryd.zeroValue47 rfl rfl fun g36 => ?_
                  refine SJ.nil_row 2 fI64 ?_
                  refine SJ.nil ?_
                  refine PJ.draw ?_
                  exact RJ.weak (hD38 (g36, v32)) [0, 1, 2, 3, 4, 5, 6] ⟨rfl, rfl, rfl, rfl, rfl, rfl, rfl, trivial⟩ ⟨by decide, rfl⟩
                · refine RO.of (listed' := #[true, true, true, true, true, true, true, false, true, false]) rfl rfl ?_
                  refine SJ.alloc (cs := [str [], str [], .slice none 0 0, .int .i64 0]) Tryd.zeroValue47 rfl rfl fun g36 => ?_
                  refine SJ.nil_row 2 fI64 ?_
                  refine SJ.nil ?_
                  refine PJ.draw ?_
                  refine RJ.step1 7 [4, 5, 6] (by kernel_rfl) ⟨by decide, rfl⟩ ?_
                  refine RO.of (listed' := #[true, true, true, true, true, true, true, true, true, false]) rfl rfl ?_
                  refine SJ.rowCells (k := 3) rfl fun hc35 => ?_
                  refine SJ.q (YldS.yld (y_build (parts := [(0, .tmp 22), (2, .tmp 23), (3, .tmp 25)]) (places := [(0, 1), (1, 1), (2, 1), (3, 1)]) (r := [str e30, str [], v32, .int .i64 r33.1]) pl47 Tryd.zeroValue47 rfl rfl (show _ = [(0, [str e30]), (2, [v32]), (3, [.int .i64 r33.1])] from by simp only [List.map, hc35.1]; try rfl) rfl)) rfl ?_
                  refine SJ.nil ?_
                  refine PJ.draw ?_
                  exact RJ.weak (hD38 (g36, v32)) [0, 1, 2, 3, 4, 5, 6] ⟨rfl, rfl, rfl, rfl, rfl, rfl, rfl, trivial⟩ ⟨by decide, rfl⟩
              · refine RO.of (listed' := #[true, true, true, true, true, true, false, false, true, false]) rfl rfl ?_
                refine SJ.alloc (cs := [str [], str [], .slice none 0 0, .int .i64 0]) Tryd.zeroValue47 rfl rfl fun g36 => ?_
                refine SJ.nil_row 2 fI64 ?_
                refine SJ.nil ?_
                refine PJ.draw ?_
                refine RJ.step1 6 [4, 5, 6] (by kernel_rfl) ⟨by decide, rfl⟩ ?_
                refine RO.of (listed' := #[true, true, true, true, true, true, true, false, true, false]) rfl rfl ?_
                refine SJ.call1 (k := 3) rfl Tryd.call66 rfl (fun w S hw hA hO => ok_s_l00Src_pick h34 w S _ (hr4.st1 hw hO) hA) rfl ?_
                rintro _ _ ⟨rfl, rfl⟩
                refine SJ.nil ?_
                refine PJ.draw ?_
                refine RJ.step1 7 [4, 5, 6] (by kernel_rfl) ⟨by decide, rfl⟩ ?_
                refine RO.of (listed' := #[true, true, true, true, true, true, true, true, true, false]) rfl rfl ?_
                refine SJ.rowCells (k := 3) rfl fun hc35 => ?_
                refine SJ.q (YldS.yld (y_build (parts := [(0, .tmp 22), (2, .tmp 23), (3, .tmp 25)]) (places := [(0, 1), (1, 1), (2, 1), (3, 1)]) (r := [str e30, str [], v32, .int .i64 r33.1]) pl47 Tryd.zeroValue47 rfl rfl (show _ = [(0, [str e30]), (2, [v32]), (3, [.int .i64 r33.1])] from by simp only [List.map, hc35.1]; try rfl) rfl)) rfl ?_
                refine SJ.nil ?_
                refine PJ.draw ?_
                exact RJ.weak (hD38 (g36, v32)) [1, 2, 0, 3, 4, 5, 6] ⟨rfl, rfl, rfl, rfl, rfl, rfl, rfl, trivial⟩ ⟨by decide, rfl⟩
            · refine RO.of (listed' := #[true, true, true, true, false, true, true, false, false, false]) rfl rfl ?_
              refine SJ.call1 (k := 0) rfl Tryd.call66 rfl (fun w S hw hA hO => ok_s_l00Src_pick h34 w S _ (hr4.st1 hw hO) hA) rfl ?_
              rintro _ _ ⟨rfl, rfl⟩
              refine SJ.nil ?_
              refine PJ.draw ?_
              refine RJ.step2 4 8 [1, 2, 3] (by kernel_rfl) ⟨by decide, rfl⟩ ?_ ?_
              · refine RO.of (listed' := #[true, true, true, true, true, true, true, false, false, false]) rfl rfl ?_
                refine SJ.buildSlice (R := fI64) (os := []) [] Tryd.runUnderlying26 Tryd.sizeOf2 Tryd.zeroValue2 rfl rfl rfl rfl rfl rfl fun v32 => ?_
                refine SJ.nil ?_
                refine PJ.draw ?_
                refine RJ.step2 7 8 [2, 3, 4] (by kernel_rfl) ⟨by decide, rfl⟩ ?_ ?_
                · refine RO.of (listed' := #[true, true, true, true, true, true, true, true, false, false]) rfl rfl ?_
                  refine SJ.rowCells (k := 0) rfl fun hc35 => ?_
                  refine SJ.q (YldS.yld (y_build (parts := [(0, .tmp 22), (2, .tmp 23), (3, .tmp 25)]) (places := [(0, 1), (1, 1), (2, 1), (3, 1)]) (r := [str e30, str [], v32, .int .i64 r33.1]) pl47 Tryd.zeroValue47 rfl rfl (show _ = [(0, [str e30]), (2, [v32]), (3, [.int .i64 r33.1])] from by simp only [List.map, hc35.1]; try rfl) rfl)) rfl ?_
                  refine SJ.nil ?_
                  refine PJ.draw ?_
                  refine RJ.step1 8 [2, 3, 4] (by kernel_rfl) ⟨by decide, rfl⟩ ?_
                  refine RO.of (listed' := #[true, true, true, true, true, true, true, true, true, false]) rfl rfl ?_
                  refine SJ.alloc (cs := [str [], str [], .slice none 0 0, .int .i64 0]) Tryd.zeroValue47 rfl rfl fun g36 => ?_
                  refine SJ.nil_row 2 fI64 ?_
                  refine SJ.nil ?_
                  refine PJ.draw ?_
                  exact RJ.weak (hD38 (g36, v32)) [0, 1, 3, 2, 4, 5, 6] ⟨rfl, rfl, rfl, rfl, rfl, rfl, rfl, trivial⟩ ⟨by decide, rfl⟩
                · refine RO.of (listed' := #[true, true, true, true, true, true, true, false, true, false]) rfl rfl ?_
                  refine SJ.alloc (cs := [str [], str [], .slice none 0 0, .int .i64 0]) Tryd.zeroValue47 rfl rfl fun g36 => ?_
                  refine SJ.nil_row 2 fI64 ?_
                  refine SJ.nil ?_
                  refine PJ.draw ?_
                  refine RJ.step1 7 [4, 5, 6] (by kernel_rfl) ⟨by decide, rfl⟩ ?_
                  refine RO.of (listed' := #[true, true, true, true, true, true, true, true, true, false]) rfl rfl ?_
                  refine SJ.rowCells (k := 2) rfl fun hc35 => ?_
                  refine SJ.q (YldS.yld (y_build (parts := [(0, .tmp 22), (2, .tmp 23), (3, .tmp 25)]) (places := [(0, 1), (1, 1), (2, 1), (3, 1)]) (r := [str e30, str [], v32, .int .i64 r33.1]) pl47 Tryd.zeroValue47 rfl rfl (show _ = [(0, [str e30]), (2, [v32]), (3, [.int .i64 r33.1])] from by simp only [List.map, hc35.1]; try rfl) rfl)) rfl ?_
                  refine SJ.nil ?_
                  refine PJ.draw ?_
                  exact RJ.weak (hD38 (g36, v32)) [0, 1, 3, 2, 4, 5, 6] ⟨rfl, rfl, rfl, rfl, rfl, rfl, rfl, trivial⟩ ⟨by decide, rfl⟩
              · refine RO.of (listed' := #[true, true, true, true, false, true, true, false, true, false]) rfl rfl ?_
                refine SJ.alloc (cs := [str [], str [], .slice none 0 0, .int .i64 0]) Tryd.zeroValue47 rfl rfl fun g36 => ?_
                refine SJ.nil_row 2 fI64 ?_
                refine SJ.nil ?_
                refine PJ.draw ?_
                refine RJ.step1 4 [3, 4, 5] (by kernel_rfl) ⟨by decide, rfl⟩ ?_
                refine RO.of (listed' := #[true, true, true, true, true, true, true, false, true, false]) rfl rfl ?_
                refine SJ.buildSlice (R := fI64) (os := []) [] Tryd.runUnderlying26 Tryd.sizeOf2 Tryd.zeroValue2 rfl rfl rfl rfl rfl rfl fun v32 => ?_
                refine SJ.nil ?_
                refine PJ.draw ?_
                refine RJ.step1 7 [4, 5, 6] (by kernel_rfl) ⟨by decide, rfl⟩ ?_
                refine RO.of (listed' := #[true, true, true, true, true, true, true, true, true, false]) rfl rfl ?_
                refine SJ.rowCells (k := 0) rfl fun hc35 => ?_
                refine SJ.q (YldS.yld (y_build (parts := [(0, .tmp 22), (2, .tmp 23), (3, .tmp 25)]) (places := [(0, 1), (1, 1), (2, 1), (3, 1)]) (r := [str e30, str [], v32, .int .i64 r33.1]) pl47 Tryd.zeroValue47 rfl rfl (show _ = [(0, [str e30]), (2, [v32]), (3, [.int .i64 r33.1])] from by simp only [List.map, hc35.1]; try rfl) rfl)) rfl ?_
                refine SJ.nil ?_
                refine PJ.draw ?_
                exact RJ.weak (hD38 (g36, v32)) [1, 2, 3, 0, 4, 5, 6] ⟨rfl, rfl, rfl, rfl, rfl, rfl, rfl, trivial⟩ ⟨by decide, rfl⟩
            · refine RO.of (listed' := #[true, true, true, true, false, true, false, false, true, false]) rfl rfl ?_
              refine SJ.alloc (cs := [str [], str [], .slice none 0 0, .int .i64 0]) Tryd.zeroValue47 rfl rfl fun g36 => ?_
              refine SJ.nil_row 2 fI64 ?_
              refine SJ.nil ?_
              refine PJ.draw ?_
              refine RJ.hold (X := Value) 2 #[true, true, true, true, true, true, true, false, true, false] (fun (x : Value) => [(0, pt g2 0), (3, v5), (4, v20), (5, .int .i64 r7.1), (6, .int .i64 i21), (7, pt g36 0), (22, str e30), (23, x), (25, .int .i64 r33.1)]) (fun (x : Value) => [box g2 112 [v3, .int .i64 r33.2.at_, .int .u64 r33.2.seed], row x 2 fI64 [], row (.slice none 0 0) 2 fI64 [], box g36 47 [str [], str [], (.slice none 0 0), .int .i64 0], ins shLesson 2 fI64 vs19 l18, row v20 47 fRaw4 vs19, row v5 9 fStr ([[104, 111, 109, 101], [117, 112, 112, 101, 114], [108, 111, 119, 101, 114], [100, 105, 103, 105, 116, 115], [115, 105, 103, 110, 115], [115, 112, 101, 101, 100], [108, 97, 115, 116, 45, 49]] : List Str)]) ?_ ?_
              · rintro v32
                refine RJ.step1 7 [4, 5, 6] (by kernel_rfl) ⟨by decide, rfl⟩ ?_
                refine RO.of (listed' := #[true, true, true, true, true, true, true, true, true, false]) rfl rfl ?_
                refine SJ.rowCells (k := 1) rfl fun hc35 => ?_
                refine SJ.q (YldS.yld (y_build (parts := [(0, .tmp 22), (2, .tmp 23), (3, .tmp 25)]) (places := [(0, 1), (1, 1), (2, 1), (3, 1)]) (r := [str e30, str [], v32, .int .i64 r33.1]) pl47 Tryd.zeroValue47 rfl rfl (show _ = [(0, [str e30]), (2, [v32]), (3, [.int .i64 r33.1])] from by simp only [List.map, hc35.1]; try rfl) rfl)) rfl ?_
                refine SJ.nil ?_
                refine PJ.draw ?_
                exact RJ.weak (hD38 (g36, v32)) [2, 3, 0, 1, 4, 5, 6] ⟨rfl, rfl, rfl, rfl, rfl, rfl, rfl, trivial⟩ ⟨by decide, rfl⟩
              · intro hD117
                refine RJ.step2 4 6 [3, 4, 5] (by kernel_rfl) ⟨by decide, rfl⟩ ?_ ?_
                · refine RO.of (listed' := #[true, true, true, true, true, true, false, false, true, false]) rfl rfl ?_
                  refine SJ.buildSlice (R := fI64) (os := []) [] Tryd.runUnderlying26 Tryd.sizeOf2 Tryd.zeroValue2 rfl rfl rfl rfl rfl rfl fun v32 => ?_
                  refine SJ.nil ?_
                  refine PJ.draw ?_
                  refine RJ.step1 6 [4, 5, 6] (by kernel_rfl) ⟨by decide, rfl⟩ ?_
                  refine RO.of (listed' := #[true, true, true, true, true, true, true, false, true, false]) rfl rfl ?_
                  refine SJ.call1 (k := 3) rfl Tryd.call66 rfl (fun w S hw hA hO => ok_s_l00Src_pick h34 w S _ (hr4.st1 hw hO) hA) rfl ?_
                  rintro _ _ ⟨rfl, rfl⟩
                  refine SJ.nil ?_
                  refine PJ.draw ?_
                  exact RJ.weak (hD117 v32) [0, 1, 2, 3, 4, 5, 6] ⟨rfl, rfl, rfl, rfl, rfl, rfl, rfl, rfl, rfl, trivial⟩ ⟨by decide, rfl⟩
                · refine RO.of (listed' := #[true, true, true, true, false, true, true, false, true, false]) rfl rfl ?_
                  refine SJ.call1 (k := 2) rfl Tryd.call66 rfl (fun w S hw hA hO => ok_s_l00Src_pick h34 w S _ (hr4.st1 hw hO) hA) rfl ?_
                  rintro _ _ ⟨rfl, rfl⟩
                  refine SJ.nil ?_
                  refine PJ.draw ?_
                  refine RJ.step1 4 [3, 4, 5] (by kernel_rfl) ⟨by decide, rfl⟩ ?_
                  refine RO.of (listed' := #[true, true, true, true, true, true, true, false, true, false]) rfl rfl ?_
                  refine SJ.buildSlice (R := fI64) (os := []) [] Tryd.runUnderlying26 Tryd.sizeOf2 Tryd.zeroValue2 rfl rfl rfl rfl rfl rfl fun v32 => ?_
                  refine SJ.nil ?_
                  refine PJ.draw ?_
                  exact RJ.weak (hD117 v32) [1, 0, 2, 3, 4, 5, 6] ⟨rfl, rfl, rfl, rfl, rfl, rfl, rfl, rfl, rfl, trivial⟩ ⟨by decide, rfl⟩
        · rintro ⟨l23, x24, x25, vs26, v27⟩ hm
          subst hk29
          refine WJ.quiet ?_
          refine QJ.step (YldS.yld (y_move rfl)) rfl ?_
          refine QJ.step (YldS.yld (y_bin rfl rfl rfl)) rfl ?_
          refine QJ.step (YldS.yld (y_assign rfl)) rfl ?_
          refine QJ.done ?_
          exact PJ.round (x24, x25, l23, vs26, v27, w64 (i21 + 1)) [1, 0, 2, 3] hm ⟨rfl, rfl, rfl, rfl, rfl, trivial⟩ ⟨by decide, rfl⟩
      · replace hm := ifF hm hb22
        refine WJ.exit ?_
        refine PJ.then_exit (PJ.then_exit (PJ.block_exit ?_))
        exact PJ.joined (x16, x17, l18, vs19, v20) [0, 1, 2] hm ⟨rfl, trivial⟩ ⟨by decide, rfl⟩
  · rintro ⟨x9, x10, l11, vs12, v13⟩ hm
    subst hk15
    refine WJ.seq ?_
    refine WJ.quiet ?_
    refine QJ.step (YldS.yld (y_move rfl)) rfl ?_
    refine QJ.step (YldS.yld (y_assign rfl)) rfl ?_
    refine QJ.done ?_
    refine PJ.next ?_
    refine WJ.ret ?_
    obtain rfl := Option.some.inj hm
    refine PJ.sel (L' := [box g2 112 [v3, .int .i64 x9, .int .u64 x10], row v13 47 fRaw4 vs12, ins shLesson 2 fI64 vs12 l11]) [0, 2, 1] ⟨by decide, rfl⟩ ?_
    exact PJ.retn (vs := [v13]) Tryd.results64 ⟨rfl, trivial⟩ ⟨_, _, rfl, rfl⟩

set_option maxRecDepth 100000 in
set_option maxHeartbeats 1000000 in
theorem ok_s_l00Src_among {s1 : L00Src} {list5 : List Int} {g2 : Nat} {r : Int × L00Src} (hm : s_l00Src_among s1 list5 = some r) (w : World) (S : Nat → Prop) (v3 : Value) (hr4 : RdS w (Cx.Fz ⟨w, S⟩) v3 fByte.rp s1.code) (v6 : Value) (hr7 : RdS w (Cx.Fz ⟨w, S⟩) v6 fI64.rp list5) (hA : (box g2 112 [v3, .int .i64 s1.at_, .int .u64 s1.seed]).holds w S) :
    Calls Tryd.prog 80 #[pt g2 0, v6] w (RetG ⟨w, S⟩ fun u L => (u = .int .i64 r.1 ∧ L = [box g2 112 [v3, .int .i64 r.2.at_, .int .u64 r.2.seed]])) := by
  unfold s_l00Src_among at hm
  refine Calls.enter1 hA [pt g2 0, v6] Tryd.func80 rfl Tryd.ntmps80 rfl ?_
  refine WJ.seq ?_
  refine WJ.quiet ?_
  refine QJ.step (YldS.yld (y_assign rfl)) rfl ?_
  refine QJ.done ?_
  refine PJ.next ?_
  refine WJ.seq ?_
  refine WJ.reg ?_
  refine SJ.q (YldS.yld (y_move rfl)) rfl ?_
  refine SJ.q (YldS.yld (y_move rfl)) rfl ?_
  refine SJ.q (YldS.yld (y_move rfl)) rfl ?_
  refine SJ.q (YldS.yld (y_lenS Tryd.runUnderlying26 hr7 rfl)) rfl ?_
  obtain ⟨r8, h9, hm⟩ := bindS hm
  refine SJ.call1 (k := 0) rfl Tryd.call66 rfl (fun w S hw hA hO => ok_s_l00Src_pick h9 w S _ (hr4.st1 hw hO) hA) rfl ?_
  rintro _ _ ⟨rfl, rfl⟩
  obtain ⟨e10, h11, hm⟩ := bindS hm
  obtain ⟨ad12, _, rfl, ha13, hy14⟩ := hr7.elem h11
  refine SJ.q (YldS.yld (hy14 Tryd.runUnderlying26 Tryd.sizeOf2 rfl rfl)) rfl ?_
  refine SJ.q (YldS.yld (y_load1 (v := .int .i64 e10) Tryd.isAgg2 ha13 St.frozenC rfl)) rfl ?_
  refine SJ.q (YldS.yld (y_assign rfl)) rfl ?_
  refine SJ.nil ?_
  refine PJ.next ?_
  refine WJ.ret ?_
  obtain rfl := Option.some.inj hm
  refine PJ.sel (L' := [box g2 112 [v3, .int .i64 r8.2.at_, .int .u64 r8.2.seed]]) [0] ⟨by decide, rfl⟩ ?_
  exact PJ.retn (vs := [.int .i64 e10]) Tryd.results80 ⟨rfl, trivial⟩ ⟨rfl, rfl⟩

set_option maxRecDepth 100000 in
set_option maxHeartbeats 1000000 in
theorem ok_s_l18Bent {N : Nat} {s1 : L00Src} {g2 : Nat} {r : (List Lesson) × L00Src} (hm : s_l18Bent N s1 = some r) (w : World) (S : Nat → Prop) (v3 : Value) (hr4 : RdS w (Cx.Fz ⟨w, S⟩) v3 fByte.rp s1.code) (hA : (box g2 112 [v3, .int .i64 s1.at_, .int .u64 s1.seed]).holds w S) :
    Calls Tryd.prog 48 #[pt g2 0] w (RetG ⟨w, S⟩ fun u L => ∃ (u1 : Value) (u2 : List (Raw 4)), (u = u1 ∧ L = [box g2 112 [v3, .int .i64 r.2.at_, .int .u64 r.2.seed], row u1 47 fRaw4 u2, ins shLesson 2 fI64 u2 r.1])) := by
  unfold s_l18Bent at hm
  refine Calls.enter1 hA [pt g2 0] Tryd.func48 rfl Tryd.ntmps48 rfl ?_
  refine WJ.seq ?_
  refine WJ.quiet ?_
  refine QJ.step (YldS.yld (y_assign rfl)) rfl ?_
  refine QJ.done ?_
  refine PJ.next ?_
  refine WJ.seq ?_
  refine WJ.reg ?_
  refine SJ.q (YldS.yld (y_move rfl)) rfl ?_
  obtain ⟨r5, h6, hm⟩ := bindS hm
  refine SJ.call1 (k := 0) rfl Tryd.call64 rfl (fun w S hw hA hO => ok_s_l18Draw h6 w S _ (hr4.st1 hw hO) hA) rfl ?_
  rintro v7 _ ⟨_, vs8, rfl, rfl⟩
  refine SJ.q (YldS.yld (y_assign rfl)) rfl ?_
  refine SJ.nil ?_
  refine PJ.next ?_
  obtain ⟨kj14, hk15, hm⟩ := withK_open hm
  refine WJ.join (X := Int × Int × (List Lesson) × (List (Raw 4)) × Value) (fun (x : Int × Int × (List Lesson) × (List (Raw 4)) × Value) => kj14 x.1 x.2.1 x.2.2.1 = some r) (fun (x : Int × Int × (List Lesson) × (List (Raw 4)) × Value) => [(0, pt g2 0), (3, x.2.2.2.2)]) (fun (x : Int × Int × (List Lesson) × (List (Raw 4)) × Value) => [box g2 112 [v3, .int .i64 x.1, .int .u64 x.2.1], ins shLesson 2 fI64 x.2.2.2.1 x.2.2.1, row x.2.2.2.2 47 fRaw4 x.2.2.2.1]) ?_ ?_
  · clear hk15
    refine WJ.seq ?_
    refine WJ.reg ?_
    refine SJ.q (YldS.yld (y_move rfl)) rfl ?_
    obtain ⟨r16, h17, hm⟩ := bindS hm
    refine SJ.call1 (k := 0) rfl Tryd.call67 rfl (fun w S hw hA hO => ok_s_l00Src_one h17 w S _ (hr4.st1 hw hO) hA) rfl ?_
    rintro _ _ ⟨rfl, rfl⟩
    refine SJ.nil ?_
    refine PJ.next ?_
    refine WJ.cond (t := r16.1) rfl (fun hb18 => ?_) (fun hb18 => ?_)
    · replace hm := ifT hm hb18
      refine WJ.seq ?_
      refine WJ.reg ?_
      refine SJ.buildSlice (R := fRaw4) (os := []) ([] : List (Raw 4)) Tryd.runUnderlying24 Tryd.sizeOf47 Tryd.zeroValue47 rfl rfl rfl rfl rfl rfl fun v19 => ?_
      refine SJ.ins_nil shLesson 2 fI64 ?_
      refine SJ.q (YldS.yld (y_assign rfl)) rfl ?_
      refine SJ.erase 3 ?_
      refine SJ.erase 3 ?_
      refine SJ.nil ?_
      refine PJ.next ?_
      refine WJ.seq ?_
      refine WJ.reg ?_
      refine SJ.q (YldS.yld (y_move rfl)) rfl ?_
      obtain ⟨r20, h21, hm⟩ := bindS hm
      refine SJ.call1 (k := 2) rfl Tryd.call66 rfl (fun w S hw hA hO => ok_s_l00Src_pick h21 w S _ (hr4.st1 hw hO) hA) rfl ?_
      rintro _ _ ⟨rfl, rfl⟩
      refine SJ.q (YldS.yld (y_bin rfl rfl rfl)) rfl ?_
      refine SJ.q (YldS.yld (y_assign rfl)) rfl ?_
      refine SJ.nil ?_
      refine PJ.next ?_
      refine WJ.block ?_
      refine WJ.sel (L' := (fun (x : (List Lesson) × (List (Raw 4)) × Value × Int) => [box g2 112 [v3, .int .i64 r20.2.at_, .int .u64 r20.2.seed], ins shLesson 2 fI64 x.2.1 x.1, row x.2.2.1 47 fRaw4 x.2.1]) (([] : List Lesson), ([] : List (Raw 4)), v19, w64 (12 + r20.1))) [0, 1, 2] ⟨by decide, rfl⟩ ?_
      refine WJ.sub (m' := (fun (x : (List Lesson) × (List (Raw 4)) × Value × Int) => [(0, pt g2 0), (3, x.2.2.1), (4, .int .i64 x.2.2.2)]) (([] : List Lesson), ([] : List (Raw 4)), v19, w64 (12 + r20.1))) ⟨rfl, rfl, rfl, trivial⟩ ?_
      refine WJ.loop (X := (List Lesson) × (List (Raw 4)) × Value × Int) (fun N (x : (List Lesson) × (List (Raw 4)) × Value × Int) => s_l18Bent_l1 kj14 r20 N x.1 x.2.2.2 = some r) (fun (x : (List Lesson) × (List (Raw 4)) × Value × Int) => [(0, pt g2 0), (3, x.2.2.1), (4, .int .i64 x.2.2.2)]) (fun (x : (List Lesson) × (List (Raw 4)) × Value × Int) => [box g2 112 [v3, .int .i64 r20.2.at_, .int .u64 r20.2.seed], ins shLesson 2 fI64 x.2.1 x.1, row x.2.2.1 47 fRaw4 x.2.1]) ?_ N (([] : List Lesson), ([] : List (Raw 4)), v19, w64 (12 + r20.1)) hm
      · rintro N ⟨l22, vs23, v24, k25⟩ hI
        have hm := hI; clear hI
        cases N with
        | zero => cases hm
        | succ N =>
        unfold s_l18Bent_l1 at hm
        refine WJ.seq ?_
        refine WJ.seq ?_
        refine WJ.quiet ?_
        refine QJ.step (YldS.yld (y_move rfl)) rfl ?_
        refine QJ.step (YldS.yld (y_bin rfl rfl rfl)) rfl ?_
        refine QJ.done ?_
        refine PJ.next ?_
        refine WJ.cond (t := decide (k25 > 0)) rfl (fun hb26 => ?_) (fun hb26 => ?_)
        · replace hm := ifT hm hb26
          refine WJ.skip ?_
          refine PJ.next ?_
          refine WJ.seq ?_
          refine WJ.block ?_
          refine WJ.reg ?_
          refine SJ.q (YldS.yld (y_move rfl)) rfl ?_
          refine SJ.q (YldS.yld (y_move rfl)) rfl ?_
          refine SJ.q (YldS.yld (y_lenSh (k := 2) (j := 1) rfl rfl Tryd.runUnderlying24 rfl)) rfl ?_
          refine SJ.q (YldS.yld (y_convTo8 Tryd.runUnderlying3 Tryd.runUnderlying5 rfl)) rfl ?_
          refine SJ.q (YldS.yld (y_bin8 (97 : UInt8) (UInt8.ofInt (List.length l22 : Int)) rfl rfl rfl)) rfl ?_
          refine SJ.buildSlice (R := fByte) (os := [.tmp 22]) [(97 : UInt8) + (UInt8.ofInt (List.length l22 : Int))] Tryd.runUnderlying22 Tryd.sizeOf5 Tryd.zeroValue5 rfl rfl rfl rfl rfl rfl fun v27 => ?_
          refine SJ.q (YldS.yld (y_b2s Tryd.underlying22 Tryd.underlying9 Tryd.underlying5 (fun w hw => ⟨_, (hw.row_rd (k := 0) rfl)⟩) rfl)) rfl ?_
          obtain ⟨s28, h29, hm⟩ := bindS hm
          refine SJ.q (YldS.yld (y_cat h29 rfl rfl)) rfl ?_
          refine SJ.q (YldS.yld (y_move rfl)) rfl ?_
          refine SJ.q (YldS.yld (y_build (parts := [(0, .tmp 25), (1, .const (str [97])), (3, .tmp 26)]) (places := [(0, 1), (1, 1), (2, 1), (3, 1)]) (r := [str s28, str [97], .slice none 0 0, .int .i64 k25]) pl47 Tryd.zeroValue47 rfl rfl rfl rfl)) rfl ?_
          refine SJ.nil_row 2 fI64 ?_
          refine SJ.rowCells (k := 0) rfl fun hc30 => ?_
          refine SJ.buildSlice (R := fRaw4) (os := [.tmp 27]) ([mkRaw (n := 4) (shLesson.enc (.slice none 0 0) (Lesson.mk s28 [97] ([] : List Int) k25)) (shLesson.len _ _) (shLesson.one _ _ hc30.2)] : List (Raw 4)) Tryd.runUnderlying24 Tryd.sizeOf47 Tryd.zeroValue47 rfl rfl rfl rfl rfl rfl fun v31 => ?_
          refine SJ.ins_nil shLesson 2 fI64 ?_
          refine SJ.sel (L' := [row (.slice none 0 0) 2 fI64 ([] : List Int), ins shLesson 2 fI64 [] ([] : List Lesson), row v31 47 fRaw4 ([mkRaw (n := 4) (shLesson.enc (.slice none 0 0) (Lesson.mk s28 [97] ([] : List Int) k25)) (shLesson.len _ _) (shLesson.one _ _ hc30.2)] : List (Raw 4)), row v27 5 fByte [(97 : UInt8) + (UInt8.ofInt (List.length l22 : Int))], box g2 112 [v3, .int .i64 r20.2.at_, .int .u64 r20.2.seed], ins shLesson 2 fI64 vs23 l22, row v24 47 fRaw4 vs23]) [2, 0, 1, 3, 4, 5, 6] ⟨by decide, rfl⟩ ?_
          refine SJ.star ?_
          refine SJ.conv0 (fun w S h => ins_push (H := shLesson) (lx := ([] : List Int)) (y := mkRaw (n := 4) (shLesson.enc (.slice none 0 0) (Lesson.mk s28 [97] ([] : List Int) k25)) (shLesson.len _ _) (shLesson.one _ _ hc30.2)) (x := (Lesson.mk s28 [97] ([] : List Int) k25)) rfl rfl h) ?_
          refine SJ.conv0 (B := ins shLesson 2 fI64 ([mkRaw (n := 4) (shLesson.enc (.slice none 0 0) (Lesson.mk s28 [97] ([] : List Int) k25)) (shLesson.len _ _) (shLesson.one _ _ hc30.2)] : List (Raw 4)) ([(Lesson.mk s28 [97] ([] : List Int) k25)] : List Lesson)) (fun w S h => h) ?_
          refine SJ.ins_len 4 rfl fun hl32 => ?_
          refine SJ.ins_len 0 rfl fun hl33 => ?_
          obtain ⟨l34, h35, hm⟩ := bindS hm
          refine SJ.append (k := 5) (R := fRaw4) (app_raw h35 hl32.1 hl33.1) rfl Tryd.underlying24 el47 rfl rfl rfl (fun w hw => (hw.row_rd (k := 1) rfl)) rfl fun v36 => ?_
          refine SJ.sel (L' := [ins shLesson 2 fI64 vs23 l22, ins shLesson 2 fI64 ([mkRaw (n := 4) (shLesson.enc (.slice none 0 0) (Lesson.mk s28 [97] ([] : List Int) k25)) (shLesson.len _ _) (shLesson.one _ _ hc30.2)] : List (Raw 4)) ([(Lesson.mk s28 [97] ([] : List Int) k25)] : List Lesson), row v31 47 fRaw4 ([mkRaw (n := 4) (shLesson.enc (.slice none 0 0) (Lesson.mk s28 [97] ([] : List Int) k25)) (shLesson.len _ _) (shLesson.one _ _ hc30.2)] : List (Raw 4)), row v27 5 fByte [(97 : UInt8) + (UInt8.ofInt (List.length l22 : Int))], box g2 112 [v3, .int .i64 r20.2.at_, .int .u64 r20.2.seed], row v36 47 fRaw4 (vs23 ++ ([mkRaw (n := 4) (shLesson.enc (.slice none 0 0) (Lesson.mk s28 [97] ([] : List Int) k25)) (shLesson.len _ _) (shLesson.one _ _ hc30.2)] : List (Raw 4)))]) [4, 0, 1, 2, 3, 5] ⟨by decide, rfl⟩ ?_
          refine SJ.star ?_
          refine SJ.conv0 (fun w S h => ins_app h35 h) ?_
          refine SJ.q (YldS.yld (y_assign rfl)) rfl ?_
          refine SJ.nil ?_
          refine PJ.block_normal (PJ.next ?_)
          refine WJ.quiet ?_
          refine QJ.step (YldS.yld (y_move rfl)) rfl ?_
          refine QJ.step (YldS.yld (y_bin rfl rfl rfl)) rfl ?_
          refine QJ.step (YldS.yld (y_assign rfl)) rfl ?_
          refine QJ.done ?_
          exact PJ.round (l34, (vs23 ++ ([mkRaw (n := 4) (shLesson.enc (.slice none 0 0) (Lesson.mk s28 [97] ([] : List Int) k25)) (shLesson.len _ _) (shLesson.one _ _ hc30.2)] : List (Raw 4))), v36, w64 (k25 - 1)) [3, 0, 4] hm ⟨rfl, rfl, rfl, trivial⟩ ⟨by decide, rfl⟩
        · replace hm := ifF hm hb26
          refine WJ.exit ?_
          refine PJ.then_exit (PJ.then_exit (PJ.block_exit ?_))
          exact PJ.joined (r20.2.at_, r20.2.seed, l22, vs23, v24) [0, 1, 2] hm ⟨rfl, rfl, trivial⟩ ⟨by decide, rfl⟩
    · replace hm := ifF hm hb18
      refine WJ.skip ?_
      exact PJ.joined (r16.2.at_, r16.2.seed, r5.1, vs8, v7) [0, 2, 1] hm ⟨rfl, rfl, trivial⟩ ⟨by decide, rfl⟩
  · rintro ⟨x9, x10, l11, vs12, v13⟩ hm
    subst hk15
    refine WJ.seq ?_
    refine WJ.seq ?_
    refine WJ.quiet ?_
    refine QJ.step (YldS.yld (y_move rfl)) rfl ?_
    refine QJ.step (YldS.yld (y_lenSh (k := 2) (j := 1) rfl rfl Tryd.runUnderlying24 rfl)) rfl ?_
    refine QJ.step (YldS.yld (y_bin rfl rfl rfl)) rfl ?_
    refine QJ.done ?_
    refine PJ.next ?_
    refine WJ.cond (t := ((List.length l11 : Int) == 0)) rfl (fun hb37 => ?_) (fun hb37 => ?_)
    · replace hm := ifT hm hb37
      refine WJ.seq ?_
      refine WJ.quiet ?_
      refine QJ.step (YldS.yld (y_move rfl)) rfl ?_
      refine QJ.step (YldS.yld (y_assign rfl)) rfl ?_
      refine QJ.done ?_
      refine PJ.next ?_
      refine WJ.ret ?_
      refine PJ.then_ret ?_
      obtain rfl := Option.some.inj hm
      refine PJ.sel (L' := [box g2 112 [v3, .int .i64 x9, .int .u64 x10], row v13 47 fRaw4 vs12, ins shLesson 2 fI64 vs12 l11]) [0, 2, 1] ⟨by decide, rfl⟩ ?_
      exact PJ.retn (vs := [v13]) Tryd.results48 ⟨rfl, trivial⟩ ⟨_, _, rfl, rfl⟩
    · replace hm := ifF hm hb37
      refine WJ.skip ?_
      refine PJ.next ?_
      refine WJ.seq ?_
      refine WJ.ins_len 1 rfl fun hl38 => ?_
      refine WJ.reg ?_
      refine SJ.q (YldS.yld (y_move rfl)) rfl ?_
      refine SJ.q (YldS.yld (y_move rfl)) rfl ?_
      refine SJ.q (YldS.yld (y_move rfl)) rfl ?_
      refine SJ.q (YldS.yld (y_lenSh (k := 2) (j := 1) rfl rfl Tryd.runUnderlying24 rfl)) rfl ?_
      obtain ⟨r39, h40, hm⟩ := bindS hm
      refine SJ.call1 (k := 0) rfl Tryd.call66 rfl (fun w S hw hA hO => ok_s_l00Src_pick h40 w S _ (hr4.st1 hw hO) hA) rfl ?_
      rintro _ _ ⟨rfl, rfl⟩
      obtain ⟨e41, h42, hm⟩ := bindS hm
      obtain ⟨y43, hy44⟩ := inn_idx hl38.1 h42
      obtain hs45 := hl38.2 _ _ _ hy44 h42
      refine SJ.q (YldS.yld (y_ixRow (k := 2) (R := fRaw4) rfl Tryd.runUnderlying24 Tryd.sizeOf47 rfl rfl hy44)) rfl ?_
      refine SJ.q (YldS.yld (y_assign rfl)) rfl ?_
      refine SJ.nil ?_
      refine PJ.next ?_
      obtain ⟨kj50, hk51, hm⟩ := withK_open hm
      refine WJ.join (X := Int × Int × (List Lesson) × (List (Raw 4))) (fun (x : Int × Int × (List Lesson) × (List (Raw 4))) => kj50 x.1 x.2.1 x.2.2.1 = some r) (fun (x : Int × Int × (List Lesson) × (List (Raw 4))) => [(3, v13)]) (fun (x : Int × Int × (List Lesson) × (List (Raw 4))) => [box g2 112 [v3, .int .i64 x.1, .int .u64 x.2.1], ins shLesson 2 fI64 x.2.2.2 x.2.2.1, row v13 47 fRaw4 x.2.2.2]) ?_ ?_
      · clear hk51
        refine WJ.seq ?_
        refine WJ.reg ?_
        refine SJ.q (YldS.yld (y_move rfl)) rfl ?_
        obtain ⟨r52, h53, hm⟩ := bindS hm
        refine SJ.call1 (k := 0) rfl Tryd.call66 rfl (fun w S hw hA hO => ok_s_l00Src_pick h53 w S _ (hr4.st1 hw hO) hA) rfl ?_
        rintro _ _ ⟨rfl, rfl⟩
        refine SJ.nil ?_
        refine PJ.next ?_
        refine WJ.block ?_
        refine WJ.seq ?_
        refine WJ.quiet ?_
        refine QJ.step (YldS.yld (y_bin rfl rfl rfl)) rfl ?_
        refine QJ.step (YldS.yld (y_assign rfl)) rfl ?_
        refine QJ.done ?_
        refine PJ.next ?_
        refine WJ.cond (t := (r52.1 == 0)) rfl (fun hb54 => ?_) (fun hb54 => ?_)
        · replace hm := ifT hm hb54
          refine WJ.reg ?_
          refine SJ.q (YldS.yld (y_move rfl)) rfl ?_
          refine SJ.q (YldS.yld (y_move rfl)) rfl ?_
          refine SJ.buildSlice (R := fStr) (os := [.const (str []), .const (str [72, 111, 109, 101]), .const (str [104, 111, 109, 101])]) ([[], [72, 111, 109, 101], [104, 111, 109, 101]] : List Str) Tryd.runUnderlying86 Tryd.sizeOf9 Tryd.zeroValue9 rfl rfl rfl rfl rfl rfl fun v55 => ?_
          obtain ⟨r56, h57, hm⟩ := bindS hm
          refine SJ.call2 (k := 1) rfl Tryd.call93 rfl (fun w S hw hA hO hB => ok_s_l00Src_text h57 w S _ (hr4.st1 hw hO) _ (hB.row_rd (j := 0) (k := 1) rfl rfl) hA) rfl ?_
          rintro _ _ ⟨rfl, rfl⟩
          refine SJ.q (YldS.yld (y_nil rfl)) rfl ?_
          refine SJ.q (YldS.yld (y_fldR fld47_0 rfl)) rfl ?_
          refine SJ.storeRL (k := 3) (i := (Int.toNat r39.1)) (off := 0) (us := [str r56.1]) (b := (rawPut y43 0 [str r56.1] rfl rfl)) rfl rfl (idx_get hy44) rfl rfl Tryd.sizeOf9 rfl rfl rfl ?_
          refine SJ.insPut 2 (i0 := r39.1) (y' := (rawPut y43 0 [str r56.1] rfl rfl)) (x' := (Lesson.mk r56.1 e41.letters e41.needs e41.hours)) rfl hy44 h42 ((congrArg (fun z => putL z 0 [str r56.1]) hs45).trans rfl) rfl ?_
          refine SJ.nil ?_
          refine PJ.block_normal ?_
          exact PJ.joined (r56.2.at_, r56.2.seed, (List.set l11 (Int.toNat r39.1) (Lesson.mk r56.1 e41.letters e41.needs e41.hours)), (List.set vs12 (Int.toNat r39.1) (rawPut y43 0 [str r56.1] rfl rfl))) [0, 2, 3] hm ⟨rfl, trivial⟩ ⟨by decide, rfl⟩
        · replace hm := ifF hm hb54
          refine WJ.seq ?_
          refine WJ.quiet ?_
          refine QJ.step (YldS.yld (y_bin rfl rfl rfl)) rfl ?_
          refine QJ.step (YldS.yld (y_assign rfl)) rfl ?_
          refine QJ.done ?_
          refine PJ.next ?_
          refine WJ.cond (t := (r52.1 == 1)) rfl (fun hb58 => ?_) (fun hb58 => ?_)
          · replace hm := ifT hm hb58
            refine WJ.reg ?_
            refine SJ.q (YldS.yld (y_move rfl)) rfl ?_
            refine SJ.q (YldS.yld (y_move rfl)) rfl ?_
            refine SJ.buildSlice (R := fStr) (os := [.const (str [98, 97]), .const (str [97, 97]), .const (str [97, 32, 98]), .const (str [127])]) ([[98, 97], [97, 97], [97, 32, 98], [127]] : List Str) Tryd.runUnderlying86 Tryd.sizeOf9 Tryd.zeroValue9 rfl rfl rfl rfl rfl rfl fun v59 => ?_
            obtain ⟨r60, h61, hm⟩ := bindS hm
            refine SJ.call2 (k := 1) rfl Tryd.call93 rfl (fun w S hw hA hO hB => ok_s_l00Src_text h61 w S _ (hr4.st1 hw hO) _ (hB.row_rd (j := 0) (k := 1) rfl rfl) hA) rfl ?_
            rintro _ _ ⟨rfl, rfl⟩
            refine SJ.q (YldS.yld (y_nil rfl)) rfl ?_
            refine SJ.q (YldS.yld (y_fldR fld47_1 rfl)) rfl ?_
            refine SJ.storeRL (k := 3) (i := (Int.toNat r39.1)) (off := 1) (us := [str r60.1]) (b := (rawPut y43 1 [str r60.1] rfl rfl)) rfl rfl (idx_get hy44) rfl rfl Tryd.sizeOf9 rfl rfl rfl ?_
            refine SJ.insPut 2 (i0 := r39.1) (y' := (rawPut y43 1 [str r60.1] rfl rfl)) (x' := (Lesson.mk e41.name r60.1 e41.needs e41.hours)) rfl hy44 h42 ((congrArg (fun z => putL z 1 [str r60.1]) hs45).trans rfl) rfl ?_
            refine SJ.nil ?_
            refine PJ.block_normal ?_
            exact PJ.joined (r60.2.at_, r60.2.seed, (List.set l11 (Int.toNat r39.1) (Lesson.mk e41.name r60.1 e41.needs e41.hours)), (List.set vs12 (Int.toNat r39.1) (rawPut y43 1 [str r60.1] rfl rfl))) [0, 2, 3] hm ⟨rfl, trivial⟩ ⟨by decide, rfl⟩
          · replace hm := ifF hm hb58
            refine WJ.seq ?_
            refine WJ.quiet ?_
            refine QJ.step (YldS.yld (y_bin rfl rfl rfl)) rfl ?_
            refine QJ.step (YldS.yld (y_assign rfl)) rfl ?_
            refine QJ.done ?_
            refine PJ.next ?_
            refine WJ.cond (t := (r52.1 == 2)) rfl (fun hb62 => ?_) (fun hb62 => ?_)
            · replace hm := ifT hm hb62
              refine WJ.insOpen 1 rfl hy44 h42 ?_
              obtain ⟨r64, h65, hm⟩ := bindS hm
              obtain ⟨l67, h68, hm⟩ := bindS hm
              refine WJ.draws (N := 18) (listed0 := #[false, false, false, false, false, false, false, false, false, false, false, false, false, false, false, false, false, false]) [] follows rfl rfl ?_
              refine RJ.first 0 (listed' := #[true, false, false, false, false, false, false, false, false, false, false, false, false, false, false, false, false, false]) [] rfl (by kernel_rfl) rfl ⟨List.nodup_nil, rfl⟩ (y_move rfl) rfl ?_
              refine RJ.first 1 (listed' := #[true, true, false, false, false, false, false, false, false, false, false, false, false, false, false, false, false, false]) [] rfl (by kernel_rfl) rfl ⟨List.nodup_nil, rfl⟩ (y_move rfl) rfl ?_
              refine RJ.first 2 (listed' := #[true, true, true, false, false, false, false, false, false, false, false, false, false, false, false, false, false, false]) [] rfl (by kernel_rfl) rfl ⟨List.nodup_nil, rfl⟩ (y_nil rfl) rfl ?_
              refine RJ.first 3 (listed' := #[true, true, true, true, false, false, false, false, false, false, false, false, false, false, false, false, false, false]) [] rfl (by kernel_rfl) rfl ⟨List.nodup_nil, rfl⟩ (y_fldR fld47_2 rfl) rfl ?_
              refine RJ.first 5 (listed' := #[true, true, true, true, false, true, false, false, false, false, false, false, false, false, false, false, false, false]) [] rfl (by kernel_rfl) rfl ⟨List.nodup_nil, rfl⟩ (y_move rfl) rfl ?_
              refine RJ.first 6 (listed' := #[true, true, true, true, false, true, true, false, false, false, false, false, false, false, false, false, false, false]) [] rfl (by kernel_rfl) rfl ⟨List.nodup_nil, rfl⟩ (y_move rfl) rfl ?_
              refine RJ.first 9 (listed' := #[true, true, true, true, false, true, true, false, false, true, false, false, false, false, false, false, false, false]) [] rfl (by kernel_rfl) rfl ⟨List.nodup_nil, rfl⟩ (y_move rfl) rfl ?_
              refine RJ.hold (X := Value × Value) 4 #[true, true, true, true, true, true, true, true, true, true, true, true, true, true, false, false, false, false] (fun (x : Value × Value) => [(3, v13), (60, rowAt v13 ((Int.toNat r39.1) * fRaw4.size + 0)), (64, (shLesson.sl y43)), (73, x.1)]) (fun (x : Value × Value) => [row x.1 2 fI64 [r64.1], box g2 112 [v3, .int .i64 r64.2.at_, .int .u64 r64.2.seed], row x.2 2 fI64 [(-1), w64 ((List.length l11 : Int) - 1), (List.length l11 : Int)], row (shLesson.sl y43) 2 fI64 e41.needs, inh (Int.toNat r39.1) shLesson 2 fI64 vs12 l11, row v13 47 fRaw4 vs12]) ?_ ?_
              · rintro ⟨v66, v63⟩
                refine RJ.step1 14 [] (by kernel_rfl) ⟨List.nodup_nil, rfl⟩ ?_
                refine RO.of (listed' := #[true, true, true, true, true, true, true, true, true, true, true, true, true, true, true, false, false, false]) rfl rfl ?_
                refine SJ.append (k := 3) (R := fI64) h68 rfl Tryd.underlying26 el2 rfl rfl rfl (fun w hw => (hw.row_rd (k := 0) rfl)) rfl fun v69 => ?_
                refine SJ.nil ?_
                refine PJ.draw ?_
                refine RJ.first 15 (listed' := #[true, true, true, true, true, true, true, true, true, true, true, true, true, true, true, true, false, false]) [] rfl (by kernel_rfl) rfl ⟨List.nodup_nil, rfl⟩ (y_nil rfl) rfl ?_
                refine RJ.first 16 (listed' := #[true, true, true, true, true, true, true, true, true, true, true, true, true, true, true, true, true, false]) [] rfl (by kernel_rfl) rfl ⟨List.nodup_nil, rfl⟩ (y_fldR fld47_2 rfl) rfl ?_
                refine RJ.step1 17 [] (by kernel_rfl) ⟨List.nodup_nil, rfl⟩ ?_
                refine RO.of (listed' := #[true, true, true, true, true, true, true, true, true, true, true, true, true, true, true, true, true, true]) rfl rfl ?_
                refine SJ.rowCells (k := 3) rfl fun hc70 => ?_
                refine SJ.storeRL (k := 5) (i := (Int.toNat r39.1)) (off := 2) (us := [v69]) (b := (rawPut y43 2 [v69] rfl (by simp [hc70.2]))) rfl rfl (idx_get hy44) rfl hc70.1 Tryd.sizeOf26 rfl (by simp [hc70.2]) rfl ?_
                refine SJ.sel (L' := [row v69 2 fI64 l67, inh (Int.toNat r39.1) shLesson 2 fI64 vs12 l11, row v66 2 fI64 [r64.1], box g2 112 [v3, .int .i64 r64.2.at_, .int .u64 r64.2.seed], row v63 2 fI64 [(-1), w64 ((List.length l11 : Int) - 1), (List.length l11 : Int)], row v13 47 fRaw4 (List.set vs12 (Int.toNat r39.1) (rawPut y43 2 [v69] rfl (by simp [hc70.2])))]) [3, 4, 0, 1, 2, 5] ⟨by decide, rfl⟩ ?_
                refine SJ.star ?_
                refine SJ.conv0 (fun w S h => inh_close (H := shLesson) (lx := l67) (i0 := r39.1) (y' := (rawPut y43 2 [v69] rfl (by simp [hc70.2]))) (x' := (Lesson.mk e41.name e41.letters l67 e41.hours)) ((congrArg (fun z => putL z 2 [v69]) hs45).trans rfl) rfl h) ?_
                refine SJ.nil ?_
                refine PJ.draw ?_
                refine RJ.fin [] (by kernel_rfl) ⟨List.nodup_nil, rfl⟩ ?_
                refine PJ.block_normal ?_
                exact PJ.joined (r64.2.at_, r64.2.seed, (List.set l11 (Int.toNat r39.1) (Lesson.mk e41.name e41.letters l67 e41.hours)), (List.set vs12 (Int.toNat r39.1) (rawPut y43 2 [v69] rfl (by simp [hc70.2])))) [2, 0, 4] hm ⟨rfl, trivial⟩ ⟨by decide, rfl⟩
              · intro hD71
                refine RJ.step3 4 7 10 [] (by kernel_rfl) ⟨List.nodup_nil, rfl⟩ ?_ ?_ ?_
                · refine RO.of (listed' := #[true, true, true, true, true, true, true, false, false, true, false, false, false, false, false, false, false, false]) rfl rfl ?_
                  refine SJ.q (YldS.yld (y_loadR (k := 3) (i := (Int.toNat r39.1)) (off := 2) (u := (shLesson.sl y43)) rfl Tryd.isAgg26 rfl (idx_get hy44) (sh_cell hs45 rfl))) rfl ?_
                  refine SJ.nil ?_
                  refine PJ.draw ?_
                  refine RJ.hold (X := Unit) 7 #[true, true, true, true, true, true, true, true, true, true, true, false, false, false, false, false, false, false] (fun (_ : Unit) => [(3, v13), (60, rowAt v13 ((Int.toNat r39.1) * fRaw4.size + 0)), (64, (shLesson.sl y43)), (65, pt g2 0), (68, .int .i64 (w64 ((List.length l11 : Int) - 1))), (70, .int .i64 (List.length l11 : Int))]) (fun (_ : Unit) => [row (shLesson.sl y43) 2 fI64 e41.needs, box g2 112 [v3, .int .i64 r52.2.at_, .int .u64 r52.2.seed], inh (Int.toNat r39.1) shLesson 2 fI64 vs12 l11, row v13 47 fRaw4 vs12]) ?_ ?_
                  · rintro _
                    refine RJ.step1 11 [] (by kernel_rfl) ⟨List.nodup_nil, rfl⟩ ?_
                    refine RO.of (listed' := #[true, true, true, true, true, true, true, true, true, true, true, true, false, false, false, false, false, false]) rfl rfl ?_
                    refine SJ.buildSlice (R := fI64) (os := [.const (.int .i64 (-1)), .tmp 68, .tmp 70]) [(-1), w64 ((List.length l11 : Int) - 1), (List.length l11 : Int)] Tryd.runUnderlying26 Tryd.sizeOf2 Tryd.zeroValue2 rfl rfl rfl rfl rfl rfl fun v63 => ?_
                    refine SJ.nil ?_
                    refine PJ.draw ?_
                    refine RJ.step1 12 [] (by kernel_rfl) ⟨List.nodup_nil, rfl⟩ ?_
                    refine RO.of (listed' := #[true, true, true, true, true, true, true, true, true, true, true, true, true, false, false, false, false, false]) rfl rfl ?_
                    refine SJ.call2 (k := 2) rfl Tryd.call80 rfl (fun w S hw hA hO hB => ok_s_l00Src_among h65 w S _ (hr4.st1 hw hO) _ (hB.row_rd (j := 0) (k := 2) rfl rfl) hA) rfl ?_
                    rintro _ _ ⟨rfl, rfl⟩
                    refine SJ.nil ?_
                    refine PJ.draw ?_
                    refine RJ.step1 13 [] (by kernel_rfl) ⟨List.nodup_nil, rfl⟩ ?_
                    refine RO.of (listed' := #[true, true, true, true, true, true, true, true, true, true, true, true, true, true, false, false, false, false]) rfl rfl ?_
                    refine SJ.buildSlice (R := fI64) (os := [.tmp 72]) [r64.1] Tryd.runUnderlying26 Tryd.sizeOf2 Tryd.zeroValue2 rfl rfl rfl rfl rfl rfl fun v66 => ?_
                    refine SJ.nil ?_
                    refine PJ.draw ?_
                    exact RJ.weak (hD71 (v66, v63)) [0, 1, 2, 3, 4, 5] ⟨rfl, rfl, rfl, rfl, trivial⟩ ⟨by decide, rfl⟩
                  · intro hD72
                    refine RJ.step2 7 10 [] (by kernel_rfl) ⟨List.nodup_nil, rfl⟩ ?_ ?_
                    · refine RO.of (listed' := #[true, true, true, true, true, true, true, true, false, true, false, false, false, false, false, false, false, false]) rfl rfl ?_
                      refine SJ.q (YldS.yld (y_lenSh (k := 3) (j := 2) rfl rfl Tryd.runUnderlying24 rfl)) rfl ?_
                      refine SJ.nil ?_
                      refine PJ.draw ?_
                      refine RJ.first 8 (listed' := #[true, true, true, true, true, true, true, true, true, true, false, false, false, false, false, false, false, false]) [] rfl (by kernel_rfl) rfl ⟨List.nodup_nil, rfl⟩ (y_bin rfl rfl rfl) rfl ?_
                      refine RJ.step1 10 [] (by kernel_rfl) ⟨List.nodup_nil, rfl⟩ ?_
                      refine RO.of (listed' := #[true, true, true, true, true, true, true, true, true, true, true, false, false, false, false, false, false, false]) rfl rfl ?_
                      refine SJ.q (YldS.yld (y_lenSh (k := 3) (j := 2) rfl rfl Tryd.runUnderlying24 rfl)) rfl ?_
                      refine SJ.nil ?_
                      refine PJ.draw ?_
                      exact RJ.weak (hD72 ()) [0, 1, 2, 3] ⟨rfl, rfl, rfl, rfl, rfl, rfl, trivial⟩ ⟨by decide, rfl⟩
                    · refine RO.of (listed' := #[true, true, true, true, true, true, true, false, false, true, true, false, false, false, false, false, false, false]) rfl rfl ?_
                      refine SJ.q (YldS.yld (y_lenSh (k := 3) (j := 2) rfl rfl Tryd.runUnderlying24 rfl)) rfl ?_
                      refine SJ.nil ?_
                      refine PJ.draw ?_
                      refine RJ.step1 7 [] (by kernel_rfl) ⟨List.nodup_nil, rfl⟩ ?_
                      refine RO.of (listed' := #[true, true, true, true, true, true, true, true, false, true, true, false, false, false, false, false, false, false]) rfl rfl ?_
                      refine SJ.q (YldS.yld (y_lenSh (k := 3) (j := 2) rfl rfl Tryd.runUnderlying24 rfl)) rfl ?_
                      refine SJ.nil ?_
                      refine PJ.draw ?_
                      refine RJ.first 8 (listed' := #[true, true, true, true, true, true, true, true, true, true, true, false, false, false, false, false, false, false]) [] rfl (by kernel_rfl) rfl ⟨List.nodup_nil, rfl⟩ (y_bin rfl rfl rfl) rfl ?_
                      exact RJ.weak (hD72 ()) [0, 1, 2, 3] ⟨rfl, rfl, rfl, rfl, rfl, rfl, trivial⟩ ⟨by decide, rfl⟩
                · refine RO.of (listed' := #[true, true, true, true, false, true, true, true, false, true, false, false, false, false, false, false, false, false]) rfl rfl ?_
                  refine SJ.q (YldS.yld (y_lenSh (k := 3) (j := 2) rfl rfl Tryd.runUnderlying24 rfl)) rfl ?_
                  refine SJ.nil ?_
                  refine PJ.draw ?_
                  refine RJ.first 8 (listed' := #[true, true, true, true, false, true, true, true, true, true, false, false, false, false, false, false, false, false]) [] rfl (by kernel_rfl) rfl ⟨List.nodup_nil, rfl⟩ (y_bin rfl rfl rfl) rfl ?_
                  refine RJ.step2 4 10 [] (by kernel_rfl) ⟨List.nodup_nil, rfl⟩ ?_ ?_
                  · refine RO.of (listed' := #[true, true, true, true, true, true, true, true, true, true, false, false, false, false, false, false, false, false]) rfl rfl ?_
                    refine SJ.q (YldS.yld (y_loadR (k := 3) (i := (Int.toNat r39.1)) (off := 2) (u := (shLesson.sl y43)) rfl Tryd.isAgg26 rfl (idx_get hy44) (sh_cell hs45 rfl))) rfl ?_
                    refine SJ.nil ?_
                    refine PJ.draw ?_
                    refine RJ.step1 10 [] (by kernel_rfl) ⟨List.nodup_nil, rfl⟩ ?_
                    refine RO.of (listed' := #[true, true, true, true, true, true, true, true, true, true, true, false, false, false, false, false, false, false]) rfl rfl ?_
                    refine SJ.q (YldS.yld (y_lenSh (k := 3) (j := 2) rfl rfl Tryd.runUnderlying24 rfl)) rfl ?_
                    refine SJ.nil ?_
                    refine PJ.draw ?_
                    refine RJ.step1 11 [] (by kernel_rfl) ⟨List.nodup_nil, rfl⟩ ?_
                    refine RO.of (listed' := #[true, true, true, true, true, true, true, true, true, true, true, true, false, false, false, false, false, false]) rfl rfl ?_
                    refine SJ.buildSlice (R := fI64) (os := [.const (.int .i64 (-1)), .tmp 68, .tmp 70]) [(-1), w64 ((List.length l11 : Int) - 1), (List.length l11 : Int)] Tryd.runUnderlying26 Tryd.sizeOf2 Tryd.zeroValue2 rfl rfl rfl rfl rfl rfl fun v63 => ?_
                    refine SJ.nil ?_
                    refine PJ.draw ?_
                    refine RJ.step1 12 [] (by kernel_rfl) ⟨List.nodup_nil, rfl⟩ ?_
                    refine RO.of (listed' := #[true, true, true, true, true, true, true, true, true, true, true, true, true, false, false, false, false, false]) rfl rfl ?_
                    refine SJ.call2 (k := 2) rfl Tryd.call80 rfl (fun w S hw hA hO hB => ok_s_l00Src_among h65 w S _ (hr4.st1 hw hO) _ (hB.row_rd (j := 0) (k := 2) rfl rfl) hA) rfl ?_
                    rintro _ _ ⟨rfl, rfl⟩
                    refine SJ.nil ?_
                    refine PJ.draw ?_
                    refine RJ.step1 13 [] (by kernel_rfl) ⟨List.nodup_nil, rfl⟩ ?_
                    refine RO.of (listed' := #[true, true, true, true, true, true, true, true, true, true, true, true, true, true, false, false, false, false]) rfl rfl ?_
                    refine SJ.buildSlice (R := fI64) (os := [.tmp 72]) [r64.1] Tryd.runUnderlying26 Tryd.sizeOf2 Tryd.zeroValue2 rfl rfl rfl rfl rfl rfl fun v66 => ?_
                    refine SJ.nil ?_
                    refine PJ.draw ?_
                    exact RJ.weak (hD71 (v66, v63)) [0, 1, 2, 3, 4, 5] ⟨rfl, rfl, rfl, rfl, trivial⟩ ⟨by decide, rfl⟩
                  · refine RO.of (listed' := #[true, true, true, true, false, true, true, true, true, true, true, false, false, false, false, false, false, false]) rfl rfl ?_
                    refine SJ.q (YldS.yld (y_lenSh (k := 3) (j := 2) rfl rfl Tryd.runUnderlying24 rfl)) rfl ?_
                    refine SJ.nil ?_
                    refine PJ.draw ?_
                    refine RJ.step2 4 11 [] (by kernel_rfl) ⟨List.nodup_nil, rfl⟩ ?_ ?_
                    · refine RO.of (listed' := #[true, true, true, true, true, true, true, true, true, true, true, false, false, false, false, false, false, false]) rfl rfl ?_
                      refine SJ.q (YldS.yld (y_loadR (k := 3) (i := (Int.toNat r39.1)) (off := 2) (u := (shLesson.sl y43)) rfl Tryd.isAgg26 rfl (idx_get hy44) (sh_cell hs45 rfl))) rfl ?_
                      refine SJ.nil ?_
                      refine PJ.draw ?_
                      refine RJ.step1 11 [] (by kernel_rfl) ⟨List.nodup_nil, rfl⟩ ?_
                      refine RO.of (listed' := #[true, true, true, true, true, true, true, true, true, true, true, true, false, false, false, false, false, false]) rfl rfl ?_
                      refine SJ.buildSlice (R := fI64) (os := [.const (.int .i64 (-1)), .tmp 68, .tmp 70]) [(-1), w64 ((List.length l11 : Int) - 1), (List.length l11 : Int)] Tryd.runUnderlying26 Tryd.sizeOf2 Tryd.zeroValue2 rfl rfl rfl rfl rfl rfl fun v63 => ?_
                      refine SJ.nil ?_
                      refine PJ.draw ?_
                      refine RJ.step1 12 [] (by kernel_rfl) ⟨List.nodup_nil, rfl⟩ ?_
                      refine RO.of (listed' := #[true, true, true, true, true, true, true, true, true, true, true, true, true, false, false, false, false, false]) rfl rfl ?_
                      refine SJ.call2 (k := 2) rfl Tryd.call80 rfl (fun w S hw hA hO hB => ok_s_l00Src_among h65 w S _ (hr4.st1 hw hO) _ (hB.row_rd (j := 0) (k := 2) rfl rfl) hA) rfl ?_
                      rintro _ _ ⟨rfl, rfl⟩
                      refine SJ.nil ?_
                      refine PJ.draw ?_
                      refine RJ.step1 13 [] (by kernel_rfl) ⟨List.nodup_nil, rfl⟩ ?_
                      refine RO.of (listed' := #[true, true, true, true, true, true, true, true, true, true, true, true, true, true, false, false, false, false]) rfl rfl ?_
                      refine SJ.buildSlice (R := fI64) (os := [.tmp 72]) [r64.1] Tryd.runUnderlying26 Tryd.sizeOf2 Tryd.zeroValue2 rfl rfl rfl rfl rfl rfl fun v66 => ?_
                      refine SJ.nil ?_
                      refine PJ.draw ?_
                      exact RJ.weak (hD71 (v66, v63)) [0, 1, 2, 3, 4, 5] ⟨rfl, rfl, rfl, rfl, trivial⟩ ⟨by decide, rfl⟩
                    · refine RO.of (listed' := #[true, true, true, true, false, true, true, true, true, true, true, true, false, false, false, false, false, false]) rfl rfl ?_
                      refine SJ.buildSlice (R := fI64) (os := [.const (.int .i64 (-1)), .tmp 68, .tmp 70]) [(-1), w64 ((List.length l11 : Int) - 1), (List.length l11 : Int)] Tryd.runUnderlying26 Tryd.sizeOf2 Tryd.zeroValue2 rfl rfl rfl rfl rfl rfl fun v63 => ?_
                      refine SJ.nil ?_
                      refine PJ.draw ?_
                      refine RJ.step2 4 12 [] (by kernel_rfl) ⟨List.nodup_nil, rfl⟩ ?_ ?_
                      · refine RO.of (listed' := #[true, true, true, true, true, true, true, true, true, true, true, true, false, false, false, false, false, false]) rfl rfl ?_
                        refine SJ.q (YldS.yld (y_loadR (k := 4) (i := (Int.toNat r39.1)) (off := 2) (u := (shLesson.sl y43)) rfl Tryd.isAgg26 rfl (idx_get hy44) (sh_cell hs45 rfl))) rfl ?_
                        refine SJ.nil ?_
                        refine PJ.draw ?_
                        refine RJ.step1 12 [] (by kernel_rfl) ⟨List.nodup_nil, rfl⟩ ?_
                        refine RO.of (listed' := #[true, true, true, true, true, true, true, true, true, true, true, true, true, false, false, false, false, false]) rfl rfl ?_
                        refine SJ.call2 (k := 2) rfl Tryd.call80 rfl (fun w S hw hA hO hB => ok_s_l00Src_among h65 w S _ (hr4.st1 hw hO) _ (hB.row_rd (j := 0) (k := 2) rfl rfl) hA) rfl ?_
                        rintro _ _ ⟨rfl, rfl⟩
                        refine SJ.nil ?_
                        refine PJ.draw ?_
                        refine RJ.step1 13 [] (by kernel_rfl) ⟨List.nodup_nil, rfl⟩ ?_
                        refine RO.of (listed' := #[true, true, true, true, true, true, true, true, true, true, true, true, true, true, false, false, false, false]) rfl rfl ?_
                        refine SJ.buildSlice (R := fI64) (os := [.tmp 72]) [r64.1] Tryd.runUnderlying26 Tryd.sizeOf2 Tryd.zeroValue2 rfl rfl rfl rfl rfl rfl fun v66 => ?_
                        refine SJ.nil ?_
                        refine PJ.draw ?_
                        exact RJ.weak (hD71 (v66, v63)) [0, 1, 2, 3, 4, 5] ⟨rfl, rfl, rfl, rfl, trivial⟩ ⟨by decide, rfl⟩
                      · refine RO.of (listed' := #[true, true, true, true, false, true, true, true, true, true, true, true, true, false, false, false, false, false]) rfl rfl ?_
                        refine SJ.call2 (k := 2) rfl Tryd.call80 rfl (fun w S hw hA hO hB => ok_s_l00Src_among h65 w S _ (hr4.st1 hw hO) _ (hB.row_rd (j := 0) (k := 2) rfl rfl) hA) rfl ?_
                        rintro _ _ ⟨rfl, rfl⟩
                        refine SJ.nil ?_
                        refine PJ.draw ?_
                        refine RJ.step2 4 13 [] (by kernel_rfl) ⟨List.nodup_nil, rfl⟩ ?_ ?_
                        · refine RO.of (listed' := #[true, true, true, true, true, true, true, true, true, true, true, true, true, false, false, false, false, false]) rfl rfl ?_
                          refine SJ.q (YldS.yld (y_loadR (k := 4) (i := (Int.toNat r39.1)) (off := 2) (u := (shLesson.sl y43)) rfl Tryd.isAgg26 rfl (idx_get hy44) (sh_cell hs45 rfl))) rfl ?_
                          refine SJ.nil ?_
                          refine PJ.draw ?_
                          refine RJ.step1 13 [] (by kernel_rfl) ⟨List.nodup_nil, rfl⟩ ?_
                          refine RO.of (listed' := #[true, true, true, true, true, true, true, true, true, true, true, true, true, true, false, false, false, false]) rfl rfl ?_
                          refine SJ.buildSlice (R := fI64) (os := [.tmp 72]) [r64.1] Tryd.runUnderlying26 Tryd.sizeOf2 Tryd.zeroValue2 rfl rfl rfl rfl rfl rfl fun v66 => ?_
                          refine SJ.nil ?_
                          refine PJ.draw ?_
                          exact RJ.weak (hD71 (v66, v63)) [0, 1, 2, 3, 4, 5] ⟨rfl, rfl, rfl, rfl, trivial⟩ ⟨by decide, rfl⟩
                        · refine RO.of (listed' := #[true, true, true, true, false, true, true, true, true, true, true, true, true, true, false, false, false, false]) rfl rfl ?_
                          refine SJ.buildSlice (R := fI64) (os := [.tmp 72]) [r64.1] Tryd.runUnderlying26 Tryd.sizeOf2 Tryd.zeroValue2 rfl rfl rfl rfl rfl rfl fun v66 => ?_
                          refine SJ.nil ?_
                          refine PJ.draw ?_
                          refine RJ.step1 4 [] (by kernel_rfl) ⟨List.nodup_nil, rfl⟩ ?_
                          refine RO.of (listed' := #[true, true, true, true, true, true, true, true, true, true, true, true, true, true, false, false, false, false]) rfl rfl ?_
                          refine SJ.q (YldS.yld (y_loadR (k := 5) (i := (Int.toNat r39.1)) (off := 2) (u := (shLesson.sl y43)) rfl Tryd.isAgg26 rfl (idx_get hy44) (sh_cell hs45 rfl))) rfl ?_
                          refine SJ.nil ?_
                          refine PJ.draw ?_
                          exact RJ.weak (hD71 (v66, v63)) [0, 1, 2, 3, 4, 5] ⟨rfl, rfl, rfl, rfl, trivial⟩ ⟨by decide, rfl⟩
                · refine RO.of (listed' := #[true, true, true, true, false, true, true, false, false, true, true, false, false, false, false, false, false, false]) rfl rfl ?_
                  refine SJ.q (YldS.yld (y_lenSh (k := 3) (j := 2) rfl rfl Tryd.runUnderlying24 rfl)) rfl ?_
                  refine SJ.nil ?_
                  refine PJ.draw ?_
                  refine RJ.step2 4 7 [] (by kernel_rfl) ⟨List.nodup_nil, rfl⟩ ?_ ?_
                  · refine RO.of (listed' := #[true, true, true, true, true, true, true, false, false, true, true, false, false, false, false, false, false, false]) rfl rfl ?_
                    refine SJ.q (YldS.yld (y_loadR (k := 3) (i := (Int.toNat r39.1)) (off := 2) (u := (shLesson.sl y43)) rfl Tryd.isAgg26 rfl (idx_get hy44) (sh_cell hs45 rfl))) rfl ?_
                    refine SJ.nil ?_
                    refine PJ.draw ?_
                    refine RJ.step1 7 [] (by kernel_rfl) ⟨List.nodup_nil, rfl⟩ ?_
                    refine RO.of (listed' := #[true, true, true, true, true, true, true, true, false, true, true, false, false, false, false, false, false, false]) rfl rfl ?_
                    refine SJ.q (YldS.yld (y_lenSh (k := 3) (j := 2) rfl rfl Tryd.runUnderlying24 rfl)) rfl ?_
                    refine SJ.nil ?_
                    refine PJ.draw ?_
                    refine RJ.first 8 (listed' := #[true, true, true, true, true, true, true, true, true, true, true, false, false, false, false, false, false, false]) [] rfl (by kernel_rfl) rfl ⟨List.nodup_nil, rfl⟩ (y_bin rfl rfl rfl) rfl ?_
                    refine RJ.step1 11 [] (by kernel_rfl) ⟨List.nodup_nil, rfl⟩ ?_
                    refine RO.of (listed' := #[true, true, true, true, true, true, true, true, true, true, true, true, false, false, false, false, false, false]) rfl rfl ?_
                    refine SJ.buildSlice (R := fI64) (os := [.const (.int .i64 (-1)), .tmp 68, .tmp 70]) [(-1), w64 ((List.length l11 : Int) - 1), (List.length l11 : Int)] Tryd.runUnderlying26 Tryd.sizeOf2 Tryd.zeroValue2 rfl rfl rfl rfl rfl rfl fun v63 => ?_
                    refine SJ.nil ?_
                    refine PJ.draw ?_
                    refine RJ.step1 12 [] (by kernel_rfl) ⟨List.nodup_nil, rfl⟩ ?_
                    refine RO.of (listed' := #[true, true, true, true, true, true, true, true, true, true, true, true, true, false, false, false, false, false]) rfl rfl ?_
                    refine SJ.call2 (k := 2) rfl Tryd.call80 rfl (fun w S hw hA hO hB => ok_s_l00Src_among h65 w S _ (hr4.st1 hw hO) _ (hB.row_rd (j := 0) (k := 2) rfl rfl) hA) rfl ?_
                    rintro _ _ ⟨rfl, rfl⟩
                    refine SJ.nil ?_
                    refine PJ.draw ?_
                    refine RJ.step1 13 [] (by kernel_rfl) ⟨List.nodup_nil, rfl⟩ ?_
                    refine RO.of (listed' := #[true, true, true, true, true, true, true, true, true, true, true, true, true, true, false, false, false, false]) rfl rfl ?_
                    refine SJ.buildSlice (R := fI64) (os := [.tmp 72]) [r64.1] Tryd.runUnderlying26 Tryd.sizeOf2 Tryd.zeroValue2 rfl rfl rfl rfl rfl rfl fun v66 => ?_
                    refine SJ.nil ?_
                    refine PJ.draw ?_
                    exact RJ.weak (hD71 (v66, v63)) [0, 1, 2, 3, 4, 5] ⟨rfl, rfl, rfl, rfl, trivial⟩ ⟨by decide, rfl⟩
                  · refine RO.of (listed' := #[true, true, true, true, false, true, true, true, false, true, true, false, false, false, false, false, false, false]) rfl rfl ?_
                    refine SJ.q (YldS.yld (y_lenSh (k := 3) (j := 2) rfl rfl Tryd.runUnderlying24 rfl)) rfl ?_
                    refine SJ.nil ?_
                    refine PJ.draw ?_
                    refine RJ.first 8 (listed' := #[true, true, true, true, false, true, true, true, true, true, true, false, false, false, false, false, false, false]) [] rfl (by kernel_rfl) rfl ⟨List.nodup_nil, rfl⟩ (y_bin rfl rfl rfl) rfl ?_
                    refine RJ.step2 4 11 [] (by kernel_rfl) ⟨List.nodup_nil, rfl⟩ ?_ ?_
                    · refine RO.of (listed' := #[true, true, true, true, true, true, true, true, true, true, true, false, false, false, false, false, false, false]) rfl rfl ?_
                      refine SJ.q (YldS.yld (y_loadR (k := 3) (i := (Int.toNat r39.1)) (off := 2) (u := (shLesson.sl y43)) rfl Tryd.isAgg26 rfl (idx_get hy44) (sh_cell hs45 rfl))) rfl ?_
                      refine SJ.nil ?_
                      refine PJ.draw ?_
                      refine RJ.step1 11 [] (by kernel_rfl) ⟨List.nodup_nil, rfl⟩ ?_
                      refine RO.of (listed' := #[true, true, true, true, true, true, true, true, true, true, true, true, false, false, false, false, false, false]) rfl rfl ?_
                      refine SJ.buildSlice (R := fI64) (os := [.const (.int .i64 (-1)), .tmp 68, .tmp 70]) [(-1), w64 ((List.length l11 : Int) - 1), (List.length l11 : Int)] Tryd.runUnderlying26 Tryd.sizeOf2 Tryd.zeroValue2 rfl rfl rfl rfl rfl rfl fun v63 => ?_
                      refine SJ.nil ?_
                      refine PJ.draw ?_
                      refine RJ.step1 12 [] (by kernel_rfl) ⟨List.nodup_nil, rfl⟩ ?_
                      refine RO.of (listed' := #[true, true, true, true, true, true, true, true, true, true, true, true, true, false, false, false, false, false]) rfl rfl ?_
                      refine SJ.call2 (k := 2) rfl Tryd.call80 rfl (fun w S hw hA hO hB => ok_s_l00Src_among h65 w S _ (hr4.st1 hw hO) _ (hB.row_rd (j := 0) (k := 2) rfl rfl) hA) rfl ?_
                      rintro _ _ ⟨rfl, rfl⟩
                      refine SJ.nil ?_
                      refine PJ.draw ?_
                      refine RJ.step1 13 [] (by kernel_rfl) ⟨List.nodup_nil, rfl⟩ ?_
                      refine RO.of (listed' := #[true, true, true, true, true, true, true, true, true, true, true, true, true, true, false, false, false, false]) rfl rfl ?_
                      refine SJ.buildSlice (R := fI64) (os := [.tmp 72]) [r64.1] Tryd.runUnderlying26 Tryd.sizeOf2 Tryd.zeroValue2 rfl rfl rfl rfl rfl rfl fun v66 => ?_
                      refine SJ.nil ?_
                      refine PJ.draw ?_
                      exact RJ.weak (hD71 (v66, v63)) [0, 1, 2, 3, 4, 5] ⟨rfl, rfl, rfl, rfl, trivial⟩ ⟨by decide, rfl⟩
                    · refine RO.of (listed' := #[true, true, true, true, false, true, true, true, true, true, true, true, false, false, false, false, false, false]) rfl rfl ?_
                      refine SJ.buildSlice (R := fI64) (os := [.const (.int .i64 (-1)), .tmp 68, .tmp 70]) [(-1), w64 ((List.length l11 : Int) - 1), (List.length l11 : Int)] Tryd.runUnderlying26 Tryd.sizeOf2 Tryd.zeroValue2 rfl rfl rfl rfl rfl rfl fun v63 => ?_
                      refine SJ.nil ?_
                      refine PJ.draw ?_
                      refine RJ.step2 4 12 [] (by kernel_rfl) ⟨List.nodup_nil, rfl⟩ ?_ ?_
                      · refine RO.of (listed' := #[true, true, true, true, true, true, true, true, true, true, true, true, false, false, false, false, false, false]) rfl rfl ?_
                        refine SJ.q (YldS.yld (y_loadR (k := 4) (i := (Int.toNat r39.1)) (off := 2) (u := (shLesson.sl y43)) rfl Tryd.isAgg26 rfl (idx_get hy44) (sh_cell hs45 rfl))) rfl ?_
                        refine SJ.nil ?_
                        refine PJ.draw ?_
                        refine RJ.step1 12 [] (by kernel_rfl) ⟨List.nodup_nil, rfl⟩ ?_
                        refine RO.of (listed' := #[true, true, true, true, true, true, true, true, true, true, true, true, true, false, false, false, false, false]) rfl rfl ?_
                        refine SJ.call2 (k := 2) rfl Tryd.call80 rfl (fun w S hw hA hO hB => ok_s_l00Src_among h65 w S _ (hr4.st1 hw hO) _ (hB.row_rd (j := 0) (k := 2) rfl rfl) hA) rfl ?_
                        rintro _ _ ⟨rfl, rfl⟩
                        refine SJ.nil ?_
                        refine PJ.draw ?_
                        refine RJ.step1 13 [] (by kernel_rfl) ⟨List.nodup_nil, rfl⟩ ?_
                        refine RO.of (listed' := #[true, true, true, true, true, true, true, true, true, true, true, true, true, true, false, false, false, false]) rfl rfl ?_
                        refine SJ.buildSlice (R := fI64) (os := [.tmp 72]) [r64.1] Tryd.runUnderlying26 Tryd.sizeOf2 Tryd.zeroValue2 rfl rfl rfl rfl rfl rfl fun v66 => ?_
                        refine SJ.nil ?_
                        refine PJ.draw ?_
                        exact RJ.weak (hD71 (v66, v63)) [0, 1, 2, 3, 4, 5] ⟨rfl, rfl, rfl, rfl, trivial⟩ ⟨by decide, rfl⟩
                      · refine RO.of (listed' := #[true, true, true, true, false, true, true, true, true, true, true, true, true, false, false, false, false, false]) rfl rfl ?_
                        refine SJ.call2 (k := 2) rfl Tryd.call80 rfl (fun w S hw hA hO hB => ok_s_l00Src_among h65 w S _ (hr4.st1 hw hO) _ (hB.row_rd (j := 0) (k := 2) rfl rfl) hA) rfl ?_
                        rintro _ _ ⟨rfl, rfl⟩
                        refine SJ.nil ?_
                        refine PJ.draw ?_
                        refine RJ.step2 4 13 [] (by kernel_rfl) ⟨List.nodup_nil, rfl⟩ ?_ ?_
                        · refine RO.of (listed' := #[true, true, true, true, true, true, true, true, true, true, true, true, true, false, false, false, false, false]) rfl rfl ?_
                          refine SJ.q (YldS.yld (y_loadR (k := 4) (i := (Int.toNat r39.1)) (off := 2) (u := (shLesson.sl y43)) rfl Tryd.isAgg26 rfl (idx_get hy44) (sh_cell hs45 rfl))) rfl ?_
                          refine SJ.nil ?_
                          refine PJ.draw ?_
                          refine RJ.step1 13 [] (by kernel_rfl) ⟨List.nodup_nil, rfl⟩ ?_
                          refine RO.of (listed' := #[true, true, true, true, true, true, true, true, true, true, true, true, true, true, false, false, false, false]) rfl rfl ?_
                          refine SJ.buildSlice (R := fI64) (os := [.tmp 72]) [r64.1] Tryd.runUnderlying26 Tryd.sizeOf2 Tryd.zeroValue2 rfl rfl rfl rfl rfl rfl fun v66 => ?_
                          refine SJ.nil ?_
                          refine PJ.draw ?_
                          exact RJ.weak (hD71 (v66, v63)) [0, 1, 2, 3, 4, 5] ⟨rfl, rfl, rfl, rfl, trivial⟩ ⟨by decide, rfl⟩
                        · refine RO.of (listed' := #[true, true, true, true, false, true, true, true, true, true, true, true, true, true, false, false, false, false]) rfl rfl ?_
                          refine SJ.buildSlice (R := fI64) (os := [.tmp 72]) [r64.1] Tryd.runUnderlying26 Tryd.sizeOf2 Tryd.zeroValue2 rfl rfl rfl rfl rfl rfl fun v66 => ?_
                          refine SJ.nil ?_
                          refine PJ.draw ?_
                          refine RJ.step1 4 [] (by kernel_rfl) ⟨List.nodup_nil, rfl⟩ ?_
                          refine RO.of (listed' := #[true, true, true, true, true, true, true, true, true, true, true, true, true, true, false, false, false, false]) rfl rfl ?_
                          refine SJ.q (YldS.yld (y_loadR (k := 5) (i := (Int.toNat r39.1)) (off := 2) (u := (shLesson.sl y43)) rfl Tryd.isAgg26 rfl (idx_get hy44) (sh_cell hs45 rfl))) rfl ?_
                          refine SJ.nil ?_
                          refine PJ.draw ?_
                          exact RJ.weak (hD71 (v66, v63)) [0, 1, 2, 3, 4, 5] ⟨rfl, rfl, rfl, rfl, trivial⟩ ⟨by decide, rfl⟩
            · replace hm := ifF hm hb62
              refine WJ.seq ?_
              refine WJ.quiet ?_
              refine QJ.step (YldS.yld (y_bin rfl rfl rfl)) rfl ?_
              refine QJ.step (YldS.yld (y_assign rfl)) rfl ?_
              refine QJ.done ?_
              refine PJ.next ?_
              refine WJ.cond (t := (r52.1 == 3)) rfl (fun hb73 => ?_) (fun hb73 => ?_)
              · replace hm := ifT hm hb73
                refine WJ.reg ?_
                refine SJ.q (YldS.yld (y_move rfl)) rfl ?_
                refine SJ.q (YldS.yld (y_move rfl)) rfl ?_
                refine SJ.buildSlice (R := fI64) (os := [.const (.int .i64 (-1)), .const (.int .i64 0), .const (.int .i64 100), .const (.int .i64 101), .const (.int .i64 (-9223372036854775808))]) [(-1), 0, 100, 101, (-9223372036854775808)] Tryd.runUnderlying26 Tryd.sizeOf2 Tryd.zeroValue2 rfl rfl rfl rfl rfl rfl fun v74 => ?_
                obtain ⟨r75, h76, hm⟩ := bindS hm
                refine SJ.call2 (k := 1) rfl Tryd.call80 rfl (fun w S hw hA hO hB => ok_s_l00Src_among h76 w S _ (hr4.st1 hw hO) _ (hB.row_rd (j := 0) (k := 1) rfl rfl) hA) rfl ?_
                rintro _ _ ⟨rfl, rfl⟩
                refine SJ.q (YldS.yld (y_nil rfl)) rfl ?_
                refine SJ.q (YldS.yld (y_fldR fld47_3 rfl)) rfl ?_
                refine SJ.storeRL (k := 3) (i := (Int.toNat r39.1)) (off := 3) (us := [.int .i64 r75.1]) (b := (rawPut y43 3 [.int .i64 r75.1] rfl rfl)) rfl rfl (idx_get hy44) rfl rfl Tryd.sizeOf2 rfl rfl rfl ?_
                refine SJ.insPut 2 (i0 := r39.1) (y' := (rawPut y43 3 [.int .i64 r75.1] rfl rfl)) (x' := (Lesson.mk e41.name e41.letters e41.needs r75.1)) rfl hy44 h42 ((congrArg (fun z => putL z 3 [.int .i64 r75.1]) hs45).trans rfl) rfl ?_
                refine SJ.nil ?_
                refine PJ.block_normal ?_
                exact PJ.joined (r75.2.at_, r75.2.seed, (List.set l11 (Int.toNat r39.1) (Lesson.mk e41.name e41.letters e41.needs r75.1)), (List.set vs12 (Int.toNat r39.1) (rawPut y43 3 [.int .i64 r75.1] rfl rfl))) [0, 2, 3] hm ⟨rfl, trivial⟩ ⟨by decide, rfl⟩
              · replace hm := ifF hm hb73
                refine WJ.skip ?_
                refine PJ.block_normal ?_
                exact PJ.joined (r52.2.at_, r52.2.seed, l11, vs12) [0, 1, 2] hm ⟨rfl, trivial⟩ ⟨by decide, rfl⟩
      · rintro ⟨x46, x47, l48, vs49⟩ hm
        subst hk51
        refine WJ.seq ?_
        refine WJ.quiet ?_
        refine QJ.step (YldS.yld (y_move rfl)) rfl ?_
        refine QJ.step (YldS.yld (y_assign rfl)) rfl ?_
        refine QJ.done ?_
        refine PJ.next ?_
        refine WJ.ret ?_
        obtain rfl := Option.some.inj hm
        refine PJ.sel (L' := [box g2 112 [v3, .int .i64 x46, .int .u64 x47], row v13 47 fRaw4 vs49, ins shLesson 2 fI64 vs49 l48]) [0, 2, 1] ⟨by decide, rfl⟩ ?_
        exact PJ.retn (vs := [v13]) Tryd.results48 ⟨rfl, trivial⟩ ⟨_, _, rfl, rfl⟩

set_option maxRecDepth 100000 in
set_option maxHeartbeats 1000000 in
theorem ok_s_DrawLessonOrder {N : Nat} {code1 : List UInt8} {r : (List Lesson)} (hm : s_DrawLessonOrder N code1 = some r) (w : World) (v2 : Value) (hr3 : RdS w (cx w).Fz v2 fByte.rp code1) :
    Calls Tryd.prog 6 #[v2] w (RetG (cx w) fun u L => ∃ (u1 : Value) (u2 : List (Raw 4)), (u = u1 ∧ L = [row u1 47 fRaw4 u2, ins shLesson 2 fI64 u2 r])) := by
  unfold s_DrawLessonOrder at hm
  refine Calls.enter [v2] Tryd.func6 rfl Tryd.ntmps6 rfl ?_
  refine WJ.seq ?_
  refine WJ.quiet ?_
  refine QJ.step (YldS.yld (y_assign rfl)) rfl ?_
  refine QJ.done ?_
  refine PJ.next ?_
  refine WJ.seq ?_
  refine WJ.reg ?_
  refine SJ.q (YldS.yld (y_move rfl)) rfl ?_
  obtain ⟨r4, h5, hm⟩ := bindS hm
  refine SJ.call Tryd.call49 rfl (fun w hw => ok_s_l00From h5 w _ (hr3.st hw)) rfl ?_
  rintro _ _ ⟨g6, rfl, rfl⟩
  obtain ⟨r7, h8, hm⟩ := bindS hm
  refine SJ.call1 (k := 0) rfl Tryd.call48 rfl (fun w S hw hA hO => ok_s_l18Bent h8 w S _ (hr3.st1 hw hO) hA) rfl ?_
  rintro v9 _ ⟨_, vs10, rfl, rfl⟩
  refine SJ.q (YldS.yld (y_assign rfl)) rfl ?_
  refine SJ.nil ?_
  refine PJ.next ?_
  refine WJ.ret ?_
  obtain rfl := Option.some.inj hm
  refine PJ.sel (L' := [row v9 47 fRaw4 vs10, ins shLesson 2 fI64 vs10 r7.1]) [1, 2] ⟨by decide, rfl⟩ ?_
  exact PJ.retn (vs := [v9]) Tryd.results6 ⟨rfl, trivial⟩ ⟨_, _, rfl, rfl⟩

set_option maxRecDepth 100000 in
set_option maxHeartbeats 1000000 in
theorem ok_i_isDigit {b1 : UInt8} {r : Bool} (hm : i_isDigit b1 = some r) (w : World)  :
    Calls Tryd.prog 106 #[.int .u8 (UInt8.toNat b1 : Int)] w (Ret (cx w) (.bool r)) := by
  unfold i_isDigit at hm
  refine Calls.enter [.int .u8 (UInt8.toNat b1 : Int)] Tryd.func106 rfl Tryd.ntmps106 rfl ?_
  refine WJ.seq ?_
  refine WJ.quiet ?_
  refine QJ.step (YldS.yld (y_assign rfl)) rfl ?_
  refine QJ.done ?_
  refine PJ.next ?_
  refine WJ.seq ?_
  refine WJ.quiet ?_
  refine QJ.step (YldS.yld (y_move rfl)) rfl ?_
  refine QJ.step (YldS.yld (y_bin8 b1 (48 : UInt8) rfl rfl rfl)) rfl ?_
  refine QJ.step (YldS.yld (y_move rfl)) rfl ?_
  obtain ⟨t2, h3, hm⟩ := bindS hm
  refine QJ.cut 3 [(8, .bool t2)] ?_ ?_
  · rcases Bool.eq_false_or_eq_true (decide (b1 ≥ (48 : UInt8))) with hb4 | hb4
    · replace h3 := andT h3 hb4
      refine QJ.on rfl rfl (cB hb4) (YldS.yld (y_move rfl)) rfl ?_
      refine QJ.on rfl rfl (cB hb4) (YldS.yld (y_bin8 b1 (57 : UInt8) rfl rfl rfl)) rfl ?_
      refine QJ.step (YldS.yld (y_pick_t (cB hb4) rfl)) rfl ?_
      obtain rfl := Option.some.inj h3
      exact QJ.cut_end ⟨rfl, trivial⟩
    · obtain rfl := andF h3 hb4
      refine QJ.off rfl rfl (cB hb4) rfl rfl ?_
      refine QJ.off rfl rfl (cB hb4) rfl rfl ?_
      refine QJ.step (YldS.yld (y_pick_f (cB hb4) rfl)) rfl ?_
      exact QJ.cut_end ⟨rfl, trivial⟩
  refine QJ.step (YldS.yld (y_assign rfl)) rfl ?_
  refine QJ.done ?_
  refine PJ.next ?_
  refine WJ.ret ?_
  obtain rfl := Option.some.inj hm
  refine PJ.sel (L' := []) [] ⟨List.nodup_nil, rfl⟩ ?_
  exact PJ.retn (vs := [.bool t2]) Tryd.results106 ⟨rfl, trivial⟩ ⟨rfl, rfl⟩

set_option maxRecDepth 100000 in
set_option maxHeartbeats 1000000 in
theorem ok_i_IsName {N : Nat} {s1 : Str} {r : Bool} (hm : i_IsName N s1 = some r) (w : World)  :
    Calls Tryd.prog 75 #[str s1] w (Ret (cx w) (.bool r)) := by
  unfold i_IsName at hm
  refine Calls.enter [str s1] Tryd.func75 rfl Tryd.ntmps75 rfl ?_
  refine WJ.seq ?_
  refine WJ.quiet ?_
  refine QJ.step (YldS.yld (y_assign rfl)) rfl ?_
  refine QJ.done ?_
  refine PJ.next ?_
  refine WJ.seq ?_
  refine WJ.seq ?_
  refine WJ.quiet ?_
  refine QJ.step (YldS.yld (y_move rfl)) rfl ?_
  refine QJ.step (YldS.yld (y_lenStr Tryd.runUnderlying9 rfl)) rfl ?_
  refine QJ.step (YldS.yld (y_bin rfl rfl rfl)) rfl ?_
  refine QJ.step (YldS.yld (y_move rfl)) rfl ?_
  obtain ⟨t2, h3, hm⟩ := bindS hm
  refine QJ.cut 4 [(0, str s1), (12, .bool t2)] ?_ ?_
  · rcases Bool.eq_false_or_eq_true ((List.length s1 : Int) == 0) with hb4 | hb4
    · obtain rfl := orT h3 hb4
      refine QJ.off rfl rfl (cB hb4) rfl rfl ?_
      refine QJ.off rfl rfl (cB hb4) rfl rfl ?_
      refine QJ.off rfl rfl (cB hb4) rfl rfl ?_
      refine QJ.step (YldS.yld (y_pick_t (cB hb4) rfl)) rfl ?_
      exact QJ.cut_end ⟨rfl, rfl, trivial⟩
    · replace h3 := orF h3 hb4
      refine QJ.on rfl rfl (cB hb4) (YldS.yld (y_move rfl)) rfl ?_
      refine QJ.on rfl rfl (cB hb4) (YldS.yld (y_lenStr Tryd.runUnderlying9 rfl)) rfl ?_
      refine QJ.on rfl rfl (cB hb4) (YldS.yld (y_bin rfl rfl rfl)) rfl ?_
      refine QJ.step (YldS.yld (y_pick_f (cB hb4) rfl)) rfl ?_
      obtain rfl := Option.some.inj h3
      exact QJ.cut_end ⟨rfl, rfl, trivial⟩
  refine QJ.done ?_
  refine PJ.next ?_
  refine WJ.cond (t := t2) rfl (fun hb5 => ?_) (fun hb5 => ?_)
  · replace hm := ifT hm hb5
    refine WJ.seq ?_
    refine WJ.quiet ?_
    refine QJ.step (YldS.yld (y_assign rfl)) rfl ?_
    refine QJ.done ?_
    refine PJ.next ?_
    refine WJ.ret ?_
    refine PJ.then_ret ?_
    obtain rfl := Option.some.inj hm
    refine PJ.sel (L' := []) [] ⟨List.nodup_nil, rfl⟩ ?_
    exact PJ.retn (vs := [.bool false]) Tryd.results75 ⟨rfl, trivial⟩ ⟨rfl, rfl⟩
  · replace hm := ifF hm hb5
    refine WJ.skip ?_
    refine PJ.next ?_
    obtain ⟨kj6, hk7, hm⟩ := withK_open hm
    refine WJ.join (X := Unit) (fun (_ : Unit) => kj6  = some r) (fun (_ : Unit) => []) (fun (_ : Unit) => []) ?_ ?_
    · clear hk7
      refine WJ.seq ?_
      refine WJ.quiet ?_
      refine QJ.step (YldS.yld (y_move rfl)) rfl ?_
      refine QJ.step (YldS.yld (y_lenStr Tryd.runUnderlying9 rfl)) rfl ?_
      refine QJ.step (YldS.yld (y_move rfl)) rfl ?_
      refine QJ.done ?_
      refine PJ.next ?_
      refine WJ.block ?_
      refine WJ.sel (L' := (fun (x : Int) => []) 0) [] ⟨List.nodup_nil, rfl⟩ ?_
      refine WJ.sub (m' := (fun (x : Int) => [(0, str s1), (14, .int .i64 (List.length s1 : Int)), (15, .int .i64 x)]) 0) ⟨rfl, rfl, rfl, trivial⟩ ?_
      refine WJ.loop (X := Int) (fun N (x : Int) => i_IsName_l1 kj6 s1 N x = some r) (fun (x : Int) => [(0, str s1), (14, .int .i64 (List.length s1 : Int)), (15, .int .i64 x)]) (fun (x : Int) => []) ?_ N 0 hm
      · rintro N x8 hI
        have hm := hI; clear hI
        cases N with
        | zero => cases hm
        | succ N =>
        unfold i_IsName_l1 at hm
        refine WJ.seq ?_
        refine WJ.quiet ?_
        refine QJ.step (YldS.yld (y_bin rfl rfl rfl)) rfl ?_
        refine QJ.done ?_
        refine PJ.next ?_
        refine WJ.seq ?_
        refine WJ.cond (t := decide (x8 < (List.length s1 : Int))) rfl (fun hb9 => ?_) (fun hb9 => ?_)
        · replace hm := ifT hm hb9
          refine WJ.skip ?_
          refine PJ.next ?_
          refine WJ.seq ?_
          refine WJ.block ?_
          refine WJ.seq ?_
          refine WJ.quiet ?_
          refine QJ.step (YldS.yld (y_move rfl)) rfl ?_
          refine QJ.step (YldS.yld (y_assign rfl)) rfl ?_
          refine QJ.done ?_
          refine PJ.next ?_
          refine WJ.seq ?_
          refine WJ.quiet ?_
          refine QJ.step (YldS.yld (y_move rfl)) rfl ?_
          refine QJ.step (YldS.yld (y_move rfl)) rfl ?_
          obtain ⟨c10, h11, hm⟩ := bindS hm
          refine QJ.step (YldS.yld (y_idxStr Tryd.runUnderlying9 rfl rfl h11)) rfl ?_
          refine QJ.step (YldS.yld (y_bin8 c10 (97 : UInt8) rfl rfl rfl)) rfl ?_
          refine QJ.step (YldS.yld (y_move rfl)) rfl ?_
          obtain ⟨t12, h13, hm⟩ := bindS hm
          refine QJ.cut 5 [(0, str s1), (3, .int .i64 x8), (14, .int .i64 (List.length s1 : Int)), (15, .int .i64 x8), (27, .bool t12)] ?_ ?_
          · rcases Bool.eq_false_or_eq_true (decide (c10 ≥ (97 : UInt8))) with hb14 | hb14
            · replace h13 := andT h13 hb14
              refine QJ.on rfl rfl (cB hb14) (YldS.yld (y_move rfl)) rfl ?_
              refine QJ.on rfl rfl (cB hb14) (YldS.yld (y_move rfl)) rfl ?_
              obtain ⟨c15, h16, h13⟩ := bindS h13
              refine QJ.on rfl rfl (cB hb14) (YldS.yld (y_idxStr Tryd.runUnderlying9 rfl rfl h16)) rfl ?_
              refine QJ.on rfl rfl (cB hb14) (YldS.yld (y_bin8 c15 (122 : UInt8) rfl rfl rfl)) rfl ?_
              refine QJ.step (YldS.yld (y_pick_t (cB hb14) rfl)) rfl ?_
              obtain rfl := Option.some.inj h13
              exact QJ.cut_end ⟨rfl, rfl, rfl, rfl, rfl, trivial⟩
            · obtain rfl := andF h13 hb14
              refine QJ.off rfl rfl (cB hb14) rfl rfl ?_
              refine QJ.off rfl rfl (cB hb14) rfl rfl ?_
              refine QJ.off rfl rfl (cB hb14) rfl rfl ?_
              refine QJ.off rfl rfl (cB hb14) rfl rfl ?_
              refine QJ.step (YldS.yld (y_pick_f (cB hb14) rfl)) rfl ?_
              exact QJ.cut_end ⟨rfl, rfl, rfl, rfl, rfl, trivial⟩
          refine QJ.step (YldS.yld (y_assign rfl)) rfl ?_
          refine QJ.done ?_
          refine PJ.next ?_
          refine WJ.seq ?_
          refine WJ.quiet ?_
          refine QJ.step (YldS.yld (y_move rfl)) rfl ?_
          refine QJ.step (YldS.yld (y_not rfl)) rfl ?_
          refine QJ.step (YldS.yld (y_move rfl)) rfl ?_
          obtain ⟨t17, h18, hm⟩ := bindS hm
          refine QJ.cut 16 [(0, str s1), (14, .int .i64 (List.length s1 : Int)), (15, .int .i64 x8), (46, .bool t17)] ?_ ?_
          · rcases Bool.eq_false_or_eq_true (!t12) with hb19 | hb19
            · replace h18 := andT h18 hb19
              refine QJ.on rfl rfl (cB hb19) (YldS.yld (y_move rfl)) rfl ?_
              refine QJ.on rfl rfl (cB hb19) (YldS.yld (y_bin rfl rfl rfl)) rfl ?_
              refine QJ.on rfl rfl (cB hb19) (YldS.yld (y_move rfl)) rfl ?_
              obtain ⟨t20, h21, h18⟩ := bindS h18
              refine QJ.cut 12 [(0, str s1), (14, .int .i64 (List.length s1 : Int)), (15, .int .i64 x8), (30, .bool (!t12)), (45, .bool t20)] ?_ ?_
              · rcases Bool.eq_false_or_eq_true (x8 == 0) with hb22 | hb22
                · obtain rfl := orT h21 hb22
                  refine QJ.off rfl rfl (cB hb22) rfl rfl ?_
                  refine QJ.off rfl rfl (cB hb22) rfl rfl ?_
                  refine QJ.off rfl rfl (cB hb22) rfl rfl ?_
                  refine QJ.off rfl rfl (cB hb22) rfl rfl ?_
                  refine QJ.off rfl rfl (cB hb22) rfl rfl ?_
                  refine QJ.off_undef rfl rfl rfl rfl ?_
                  refine QJ.off_undef rfl rfl rfl rfl ?_
                  refine QJ.off_undef rfl rfl rfl rfl ?_
                  refine QJ.off_undef rfl rfl rfl rfl ?_
                  refine QJ.off_undef rfl rfl rfl rfl ?_
                  refine QJ.off rfl rfl (cB hb22) rfl rfl ?_
                  refine QJ.on rfl rfl (cB hb19) (YldS.yld (y_pick_t (cB hb22) rfl)) rfl ?_
                  exact QJ.cut_end ⟨rfl, rfl, rfl, rfl, rfl, trivial⟩
                · replace h21 := orF h21 hb22
                  refine QJ.on rfl rfl (cB hb22) (YldS.yld (y_move rfl)) rfl ?_
                  refine QJ.on rfl rfl (cB hb22) (YldS.yld (y_move rfl)) rfl ?_
                  obtain ⟨c23, h24, h21⟩ := bindS h21
                  refine QJ.on rfl rfl (cB hb22) (YldS.yld (y_idxStr Tryd.runUnderlying9 rfl rfl h24)) rfl ?_
                  refine QJ.on rfl rfl (cB hb22) (YldS.yld (y_bin8 c23 (45 : UInt8) rfl rfl rfl)) rfl ?_
                  refine QJ.on rfl rfl (cB hb22) (YldS.yld (y_move rfl)) rfl ?_
                  obtain ⟨t25, h26, h21⟩ := bindS h21
                  refine QJ.cut 6 [(0, str s1), (14, .int .i64 (List.length s1 : Int)), (15, .int .i64 x8), (30, .bool (!t12)), (33, .bool (x8 == 0)), (44, .bool t25)] ?_ ?_
                  · rcases Bool.eq_false_or_eq_true (c23 != (45 : UInt8)) with hb27 | hb27
                    · replace h26 := andT h26 hb27
                      refine QJ.on rfl rfl (cB hb27) (YldS.yld (y_move rfl)) rfl ?_
                      refine QJ.on rfl rfl (cB hb27) (YldS.yld (y_move rfl)) rfl ?_
                      obtain ⟨c28, h29, h26⟩ := bindS h26
                      refine QJ.on rfl rfl (cB hb27) (YldS.yld (y_idxStr Tryd.runUnderlying9 rfl rfl h29)) rfl ?_
                      obtain ⟨r30, h31, h26⟩ := bindS h26
                      refine QJ.on rfl rfl (cB hb27) (y_call Tryd.call106 rfl (RetG.quiet fun w hw => ok_i_isDigit h31 w )) rfl ?_
                      refine QJ.on rfl rfl (cB hb27) (YldS.yld (y_not rfl)) rfl ?_
                      refine QJ.on rfl rfl (cB hb22) (YldS.yld (y_pick_t (cB hb27) rfl)) rfl ?_
                      obtain rfl := Option.some.inj h26
                      exact QJ.cut_end ⟨rfl, rfl, rfl, rfl, rfl, rfl, trivial⟩
                    · obtain rfl := andF h26 hb27
                      refine QJ.off rfl rfl (cB hb27) rfl rfl ?_
                      refine QJ.off rfl rfl (cB hb27) rfl rfl ?_
                      refine QJ.off rfl rfl (cB hb27) rfl rfl ?_
                      refine QJ.off rfl rfl (cB hb27) rfl rfl ?_
                      refine QJ.off rfl rfl (cB hb27) rfl rfl ?_
                      refine QJ.on rfl rfl (cB hb22) (YldS.yld (y_pick_f (cB hb27) rfl)) rfl ?_
                      exact QJ.cut_end ⟨rfl, rfl, rfl, rfl, rfl, rfl, trivial⟩
                  refine QJ.on rfl rfl (cB hb19) (YldS.yld (y_pick_f (cB hb22) rfl)) rfl ?_
                  obtain rfl := Option.some.inj h21
                  exact QJ.cut_end ⟨rfl, rfl, rfl, rfl, rfl, trivial⟩
              refine QJ.step (YldS.yld (y_pick_t (cB hb19) rfl)) rfl ?_
              obtain rfl := Option.some.inj h18
              exact QJ.cut_end ⟨rfl, rfl, rfl, rfl, trivial⟩
            · obtain rfl := andF h18 hb19
              refine QJ.off rfl rfl (cB hb19) rfl rfl ?_
              refine QJ.off rfl rfl (cB hb19) rfl rfl ?_
              refine QJ.off rfl rfl (cB hb19) rfl rfl ?_
              refine QJ.off_undef rfl rfl rfl rfl ?_
              refine QJ.off_undef rfl rfl rfl rfl ?_
              refine QJ.off_undef rfl rfl rfl rfl ?_
              refine QJ.off_undef rfl rfl rfl rfl ?_
              refine QJ.off_undef rfl rfl rfl rfl ?_
              refine QJ.off_undef rfl rfl rfl rfl ?_
              refine QJ.off_undef rfl rfl rfl rfl ?_
              refine QJ.off_undef rfl rfl rfl rfl ?_
              refine QJ.off_undef rfl rfl rfl rfl ?_
              refine QJ.off_undef rfl rfl rfl rfl ?_
              refine QJ.off_undef rfl rfl rfl rfl ?_
              refine QJ.off rfl rfl (cB hb19) rfl rfl ?_
              refine QJ.step (YldS.yld (y_pick_f (cB hb19) rfl)) rfl ?_
              exact QJ.cut_end ⟨rfl, rfl, rfl, rfl, trivial⟩
          refine QJ.done ?_
          refine PJ.next ?_
          refine WJ.cond (t := t17) rfl (fun hb32 => ?_) (fun hb32 => ?_)
          · replace hm := ifT hm hb32
            refine WJ.seq ?_
            refine WJ.quiet ?_
            refine QJ.step (YldS.yld (y_assign rfl)) rfl ?_
            refine QJ.done ?_
            refine PJ.next ?_
            refine WJ.ret ?_
            refine PJ.block_ret (PJ.then_ret (PJ.then_ret (PJ.block_ret (PJ.then_ret ?_))))
            obtain rfl := Option.some.inj hm
            refine PJ.sel (L' := []) [] ⟨List.nodup_nil, rfl⟩ ?_
            exact PJ.retn (vs := [.bool false]) Tryd.results75 ⟨rfl, trivial⟩ ⟨rfl, rfl⟩
          · replace hm := ifF hm hb32
            refine WJ.skip ?_
            refine PJ.block_normal (PJ.next ?_)
            refine WJ.quiet ?_
            refine QJ.step (YldS.yld (y_bin rfl rfl rfl)) rfl ?_
            refine QJ.step (YldS.yld (y_move rfl)) rfl ?_
            refine QJ.done ?_
            exact PJ.round (w64 (x8 + 1)) [] hm ⟨rfl, rfl, rfl, trivial⟩ ⟨List.nodup_nil, rfl⟩
        · replace hm := ifF hm hb9
          refine WJ.exit ?_
          refine PJ.then_exit (PJ.then_exit (PJ.block_exit ?_))
          exact PJ.joined () [] hm trivial ⟨List.nodup_nil, rfl⟩
    · rintro _ hm
      subst hk7
      refine WJ.seq ?_
      refine WJ.quiet ?_
      refine QJ.step (YldS.yld (y_assign rfl)) rfl ?_
      refine QJ.done ?_
      refine PJ.next ?_
      refine WJ.ret ?_
      obtain rfl := Option.some.inj hm
      refine PJ.sel (L' := []) [] ⟨List.nodup_nil, rfl⟩ ?_
      exact PJ.retn (vs := [.bool true]) Tryd.results75 ⟨rfl, trivial⟩ ⟨rfl, rfl⟩

set_option maxRecDepth 100000 in
set_option maxHeartbeats 1000000 in
theorem ok_i_isText {N : Nat} {s1 : Str} {low2 : UInt8} {most3 : Int} {r : Bool} (hm : i_isText N s1 low2 most3 = some r) (w : World)  :
    Calls Tryd.prog 76 #[str s1, .int .u8 (UInt8.toNat low2 : Int), .int .i64 most3] w (Ret (cx w) (.bool r)) := by
  unfold i_isText at hm
  refine Calls.enter [str s1, .int .u8 (UInt8.toNat low2 : Int), .int .i64 most3] Tryd.func76 rfl Tryd.ntmps76 rfl ?_
  refine WJ.seq ?_
  refine WJ.quiet ?_
  refine QJ.step (YldS.yld (y_assign rfl)) rfl ?_
  refine QJ.done ?_
  refine PJ.next ?_
  refine WJ.seq ?_
  refine WJ.seq ?_
  refine WJ.quiet ?_
  refine QJ.step (YldS.yld (y_move rfl)) rfl ?_
  refine QJ.step (YldS.yld (y_lenStr Tryd.runUnderlying9 rfl)) rfl ?_
  refine QJ.step (YldS.yld (y_move rfl)) rfl ?_
  refine QJ.step (YldS.yld (y_bin rfl rfl rfl)) rfl ?_
  refine QJ.done ?_
  refine PJ.next ?_
  refine WJ.cond (t := decide ((List.length s1 : Int) > most3)) rfl (fun hb4 => ?_) (fun hb4 => ?_)
  · replace hm := ifT hm hb4
    refine WJ.seq ?_
    refine WJ.quiet ?_
    refine QJ.step (YldS.yld (y_assign rfl)) rfl ?_
    refine QJ.done ?_
    refine PJ.next ?_
    refine WJ.ret ?_
    refine PJ.then_ret ?_
    obtain rfl := Option.some.inj hm
    refine PJ.sel (L' := []) [] ⟨List.nodup_nil, rfl⟩ ?_
    exact PJ.retn (vs := [.bool false]) Tryd.results76 ⟨rfl, trivial⟩ ⟨rfl, rfl⟩
  · replace hm := ifF hm hb4
    refine WJ.skip ?_
    refine PJ.next ?_
    obtain ⟨kj5, hk6, hm⟩ := withK_open hm
    refine WJ.join (X := Unit) (fun (_ : Unit) => kj5  = some r) (fun (_ : Unit) => []) (fun (_ : Unit) => []) ?_ ?_
    · clear hk6
      refine WJ.seq ?_
      refine WJ.quiet ?_
      refine QJ.step (YldS.yld (y_move rfl)) rfl ?_
      refine QJ.step (YldS.yld (y_lenStr Tryd.runUnderlying9 rfl)) rfl ?_
      refine QJ.step (YldS.yld (y_move rfl)) rfl ?_
      refine QJ.done ?_
      refine PJ.next ?_
      refine WJ.block ?_
      refine WJ.sel (L' := (fun (x : Int) => []) 0) [] ⟨List.nodup_nil, rfl⟩ ?_
      refine WJ.sub (m' := (fun (x : Int) => [(0, str s1), (1, .int .u8 (UInt8.toNat low2 : Int)), (13, .int .i64 (List.length s1 : Int)), (14, .int .i64 x)]) 0) ⟨rfl, rfl, rfl, rfl, trivial⟩ ?_
      refine WJ.loop (X := Int) (fun N (x : Int) => i_isText_l1 kj5 s1 low2 N x = some r) (fun (x : Int) => [(0, str s1), (1, .int .u8 (UInt8.toNat low2 : Int)), (13, .int .i64 (List.length s1 : Int)), (14, .int .i64 x)]) (fun (x : Int) => []) ?_ N 0 hm
      · rintro N x7 hI
        have hm := hI; clear hI
        cases N with
        | zero => cases hm
        | succ N =>
        unfold i_isText_l1 at hm
        refine WJ.seq ?_
        refine WJ.quiet ?_
        refine QJ.step (YldS.yld (y_bin rfl rfl rfl)) rfl ?_
        refine QJ.done ?_
        refine PJ.next ?_
        refine WJ.seq ?_
        refine WJ.cond (t := decide (x7 < (List.length s1 : Int))) rfl (fun hb8 => ?_) (fun hb8 => ?_)
        · replace hm := ifT hm hb8
          refine WJ.skip ?_
          refine PJ.next ?_
          refine WJ.seq ?_
          refine WJ.block ?_
          refine WJ.seq ?_
          refine WJ.quiet ?_
          refine QJ.step (YldS.yld (y_move rfl)) rfl ?_
          refine QJ.step (YldS.yld (y_assign rfl)) rfl ?_
          refine QJ.done ?_
          refine PJ.next ?_
          refine WJ.seq ?_
          refine WJ.quiet ?_
          refine QJ.step (YldS.yld (y_move rfl)) rfl ?_
          refine QJ.step (YldS.yld (y_move rfl)) rfl ?_
          obtain ⟨c9, h10, hm⟩ := bindS hm
          refine QJ.step (YldS.yld (y_idxStr Tryd.runUnderlying9 rfl rfl h10)) rfl ?_
          refine QJ.step (YldS.yld (y_move rfl)) rfl ?_
          refine QJ.step (YldS.yld (y_bin8 c9 low2 rfl rfl rfl)) rfl ?_
          refine QJ.step (YldS.yld (y_move rfl)) rfl ?_
          obtain ⟨t11, h12, hm⟩ := bindS hm
          refine QJ.cut 5 [(0, str s1), (1, .int .u8 (UInt8.toNat low2 : Int)), (13, .int .i64 (List.length s1 : Int)), (14, .int .i64 x7), (27, .bool t11)] ?_ ?_
          · rcases Bool.eq_false_or_eq_true (decide (c9 < low2)) with hb13 | hb13
            · obtain rfl := orT h12 hb13
              refine QJ.off rfl rfl (cB hb13) rfl rfl ?_
              refine QJ.off rfl rfl (cB hb13) rfl rfl ?_
              refine QJ.off rfl rfl (cB hb13) rfl rfl ?_
              refine QJ.off rfl rfl (cB hb13) rfl rfl ?_
              refine QJ.step (YldS.yld (y_pick_t (cB hb13) rfl)) rfl ?_
              exact QJ.cut_end ⟨rfl, rfl, rfl, rfl, rfl, trivial⟩
            · replace h12 := orF h12 hb13
              refine QJ.on rfl rfl (cB hb13) (YldS.yld (y_move rfl)) rfl ?_
              refine QJ.on rfl rfl (cB hb13) (YldS.yld (y_move rfl)) rfl ?_
              obtain ⟨c14, h15, h12⟩ := bindS h12
              refine QJ.on rfl rfl (cB hb13) (YldS.yld (y_idxStr Tryd.runUnderlying9 rfl rfl h15)) rfl ?_
              refine QJ.on rfl rfl (cB hb13) (YldS.yld (y_bin8 c14 (126 : UInt8) rfl rfl rfl)) rfl ?_
              refine QJ.step (YldS.yld (y_pick_f (cB hb13) rfl)) rfl ?_
              obtain rfl := Option.some.inj h12
              exact QJ.cut_end ⟨rfl, rfl, rfl, rfl, rfl, trivial⟩
          refine QJ.done ?_
          refine PJ.next ?_
          refine WJ.cond (t := t11) rfl (fun hb16 => ?_) (fun hb16 => ?_)
          · replace hm := ifT hm hb16
            refine WJ.seq ?_
            refine WJ.quiet ?_
            refine QJ.step (YldS.yld (y_assign rfl)) rfl ?_
            refine QJ.done ?_
            refine PJ.next ?_
            refine WJ.ret ?_
            refine PJ.block_ret (PJ.then_ret (PJ.then_ret (PJ.block_ret (PJ.then_ret ?_))))
            obtain rfl := Option.some.inj hm
            refine PJ.sel (L' := []) [] ⟨List.nodup_nil, rfl⟩ ?_
            exact PJ.retn (vs := [.bool false]) Tryd.results76 ⟨rfl, trivial⟩ ⟨rfl, rfl⟩
          · replace hm := ifF hm hb16
            refine WJ.skip ?_
            refine PJ.block_normal (PJ.next ?_)
            refine WJ.quiet ?_
            refine QJ.step (YldS.yld (y_bin rfl rfl rfl)) rfl ?_
            refine QJ.step (YldS.yld (y_move rfl)) rfl ?_
            refine QJ.done ?_
            exact PJ.round (w64 (x7 + 1)) [] hm ⟨rfl, rfl, rfl, rfl, trivial⟩ ⟨List.nodup_nil, rfl⟩
        · replace hm := ifF hm hb8
          refine WJ.exit ?_
          refine PJ.then_exit (PJ.then_exit (PJ.block_exit ?_))
          exact PJ.joined () [] hm trivial ⟨List.nodup_nil, rfl⟩
    · rintro _ hm
      subst hk6
      refine WJ.seq ?_
      refine WJ.quiet ?_
      refine QJ.step (YldS.yld (y_assign rfl)) rfl ?_
      refine QJ.done ?_
      refine PJ.next ?_
      refine WJ.ret ?_
      obtain rfl := Option.some.inj hm
      refine PJ.sel (L' := []) [] ⟨List.nodup_nil, rfl⟩ ?_
      exact PJ.retn (vs := [.bool true]) Tryd.results76 ⟨rfl, trivial⟩ ⟨rfl, rfl⟩

set_option maxRecDepth 100000 in
set_option maxHeartbeats 1000000 in
theorem ok_i_between {n1 : Int} {low2 : Int} {high3 : Int} {r : Bool} (hm : i_between n1 low2 high3 = some r) (w : World)  :
    Calls Tryd.prog 70 #[.int .i64 n1, .int .i64 low2, .int .i64 high3] w (Ret (cx w) (.bool r)) := by
  unfold i_between at hm
  refine Calls.enter [.int .i64 n1, .int .i64 low2, .int .i64 high3] Tryd.func70 rfl Tryd.ntmps70 rfl ?_
  refine WJ.seq ?_
  refine WJ.quiet ?_
  refine QJ.step (YldS.yld (y_assign rfl)) rfl ?_
  refine QJ.done ?_
  refine PJ.next ?_
  refine WJ.seq ?_
  refine WJ.quiet ?_
  refine QJ.step (YldS.yld (y_move rfl)) rfl ?_
  refine QJ.step (YldS.yld (y_move rfl)) rfl ?_
  refine QJ.step (YldS.yld (y_bin rfl rfl rfl)) rfl ?_
  refine QJ.step (YldS.yld (y_move rfl)) rfl ?_
  obtain ⟨t4, h5, hm⟩ := bindS hm
  refine QJ.cut 4 [(14, .bool t4)] ?_ ?_
  · rcases Bool.eq_false_or_eq_true (decide (n1 ≥ low2)) with hb6 | hb6
    · replace h5 := andT h5 hb6
      refine QJ.on rfl rfl (cB hb6) (YldS.yld (y_move rfl)) rfl ?_
      refine QJ.on rfl rfl (cB hb6) (YldS.yld (y_move rfl)) rfl ?_
      refine QJ.on rfl rfl (cB hb6) (YldS.yld (y_bin rfl rfl rfl)) rfl ?_
      refine QJ.step (YldS.yld (y_pick_t (cB hb6) rfl)) rfl ?_
      obtain rfl := Option.some.inj h5
      exact QJ.cut_end ⟨rfl, trivial⟩
    · obtain rfl := andF h5 hb6
      refine QJ.off rfl rfl (cB hb6) rfl rfl ?_
      refine QJ.off rfl rfl (cB hb6) rfl rfl ?_
      refine QJ.off rfl rfl (cB hb6) rfl rfl ?_
      refine QJ.step (YldS.yld (y_pick_f (cB hb6) rfl)) rfl ?_
      exact QJ.cut_end ⟨rfl, trivial⟩
  refine QJ.step (YldS.yld (y_assign rfl)) rfl ?_
  refine QJ.done ?_
  refine PJ.next ?_
  refine WJ.ret ?_
  obtain rfl := Option.some.inj hm
  refine PJ.sel (L' := []) [] ⟨List.nodup_nil, rfl⟩ ?_
  exact PJ.retn (vs := [.bool t4]) Tryd.results70 ⟨rfl, trivial⟩ ⟨rfl, rfl⟩

set_option maxRecDepth 100000 in
set_option maxHeartbeats 1000000 in
theorem ok_i_areIndices {N : Nat} {list1 : List Int} {n4 : Int} {r : Bool} (hm : i_areIndices N list1 n4 = some r) (w : World) (v2 : Value) (hr3 : RdS w (cx w).Fz v2 fI64.rp list1) :
    Calls Tryd.prog 77 #[v2, .int .i64 n4] w (Ret (cx w) (.bool r)) := by
  unfold i_areIndices at hm
  refine Calls.enter [v2, .int .i64 n4] Tryd.func77 rfl Tryd.ntmps77 rfl ?_
  refine WJ.seq ?_
  refine WJ.quiet ?_
  refine QJ.step (YldS.yld (y_assign rfl)) rfl ?_
  refine QJ.done ?_
  refine PJ.next ?_
  obtain ⟨kj5, hk6, hm⟩ := withK_open hm
  refine WJ.join (X := Unit) (fun (_ : Unit) => kj5  = some r) (fun (_ : Unit) => []) (fun (_ : Unit) => []) ?_ ?_
  · clear hk6
    refine WJ.seq ?_
    refine WJ.quiet ?_
    refine QJ.step (YldS.yld (y_move rfl)) rfl ?_
    refine QJ.step (YldS.yld (y_lenS Tryd.runUnderlying26 hr3 rfl)) rfl ?_
    refine QJ.step (YldS.yld (y_move rfl)) rfl ?_
    refine QJ.done ?_
    refine PJ.next ?_
    refine WJ.block ?_
    refine WJ.sel (L' := (fun (x : Int) => []) 0) [] ⟨List.nodup_nil, rfl⟩ ?_
    refine WJ.sub (m' := (fun (x : Int) => [(0, v2), (1, .int .i64 n4), (7, v2), (8, .int .i64 (List.length list1 : Int)), (9, .int .i64 x)]) 0) ⟨rfl, rfl, rfl, rfl, rfl, trivial⟩ ?_
    refine WJ.loop (X := Int) (fun N (x : Int) => i_areIndices_l1 kj5 list1 n4 N x = some r) (fun (x : Int) => [(0, v2), (1, .int .i64 n4), (7, v2), (8, .int .i64 (List.length list1 : Int)), (9, .int .i64 x)]) (fun (x : Int) => []) ?_ N 0 hm
    · rintro N x7 hI
      have hm := hI; clear hI
      cases N with
      | zero => cases hm
      | succ N =>
      unfold i_areIndices_l1 at hm
      refine WJ.seq ?_
      refine WJ.quiet ?_
      refine QJ.step (YldS.yld (y_bin rfl rfl rfl)) rfl ?_
      refine QJ.done ?_
      refine PJ.next ?_
      refine WJ.seq ?_
      refine WJ.cond (t := decide (x7 < (List.length list1 : Int))) rfl (fun hb8 => ?_) (fun hb8 => ?_)
      · replace hm := ifT hm hb8
        refine WJ.skip ?_
        refine PJ.next ?_
        refine WJ.seq ?_
        refine WJ.block ?_
        refine WJ.seq ?_
        refine WJ.quiet ?_
        refine QJ.step (YldS.yld (y_move rfl)) rfl ?_
        obtain ⟨e9, h10, hm⟩ := bindS hm
        obtain ⟨ad11, _, rfl, ha12, hy13⟩ := hr3.elem h10
        refine QJ.step (YldS.yld (hy13 Tryd.runUnderlying26 Tryd.sizeOf2 rfl rfl)) rfl ?_
        refine QJ.step (YldS.yld (y_load1 (v := .int .i64 e9) Tryd.isAgg2 ha12 St.frozenC rfl)) rfl ?_
        refine QJ.step (YldS.yld (y_assign rfl)) rfl ?_
        refine QJ.step (YldS.yld (y_assign rfl)) rfl ?_
        refine QJ.done ?_
        refine PJ.next ?_
        refine WJ.seq ?_
        refine WJ.quiet ?_
        refine QJ.step (YldS.yld (y_move rfl)) rfl ?_
        refine QJ.step (YldS.yld (y_move rfl)) rfl ?_
        refine QJ.step (YldS.yld (y_bin rfl rfl rfl)) rfl ?_
        obtain ⟨r14, h15, hm⟩ := bindS hm
        refine QJ.step (y_call Tryd.call70 rfl (RetG.quiet fun w hw => ok_i_between h15 w )) rfl ?_
        refine QJ.step (YldS.yld (y_not rfl)) rfl ?_
        refine QJ.step (YldS.yld (y_move rfl)) rfl ?_
        obtain ⟨t16, h17, hm⟩ := bindS hm
        refine QJ.cut 12 [(0, v2), (1, .int .i64 n4), (7, v2), (8, .int .i64 (List.length list1 : Int)), (9, .int .i64 x7), (31, .bool t16)] ?_ ?_
        · rcases Bool.eq_false_or_eq_true (!r14) with hb18 | hb18
          · obtain rfl := orT h17 hb18
            refine QJ.off rfl rfl (cB hb18) rfl rfl ?_
            refine QJ.off rfl rfl (cB hb18) rfl rfl ?_
            refine QJ.off rfl rfl (cB hb18) rfl rfl ?_
            refine QJ.off_undef rfl rfl rfl rfl ?_
            refine QJ.off_undef rfl rfl rfl rfl ?_
            refine QJ.off_undef rfl rfl rfl rfl ?_
            refine QJ.off_undef rfl rfl rfl rfl ?_
            refine QJ.off_undef rfl rfl rfl rfl ?_
            refine QJ.off_undef rfl rfl rfl rfl ?_
            refine QJ.off_undef rfl rfl rfl rfl ?_
            refine QJ.off rfl rfl (cB hb18) rfl rfl ?_
            refine QJ.step (YldS.yld (y_pick_t (cB hb18) rfl)) rfl ?_
            exact QJ.cut_end ⟨rfl, rfl, rfl, rfl, rfl, rfl, trivial⟩
          · replace h17 := orF h17 hb18
            refine QJ.on rfl rfl (cB hb18) (YldS.yld (y_move rfl)) rfl ?_
            refine QJ.on rfl rfl (cB hb18) (YldS.yld (y_bin rfl rfl rfl)) rfl ?_
            refine QJ.on rfl rfl (cB hb18) (YldS.yld (y_move rfl)) rfl ?_
            obtain ⟨t19, h20, h17⟩ := bindS h17
            refine QJ.cut 8 [(0, v2), (1, .int .i64 n4), (7, v2), (8, .int .i64 (List.length list1 : Int)), (9, .int .i64 x7), (19, .bool (!r14)), (30, .bool t19)] ?_ ?_
            · rcases Bool.eq_false_or_eq_true (decide (x7 > 0)) with hb21 | hb21
              · replace h20 := andT h20 hb21
                refine QJ.on rfl rfl (cB hb21) (YldS.yld (y_move rfl)) rfl ?_
                refine QJ.on rfl rfl (cB hb21) (YldS.yld (y_move rfl)) rfl ?_
                refine QJ.on rfl rfl (cB hb21) (YldS.yld (y_move rfl)) rfl ?_
                refine QJ.on rfl rfl (cB hb21) (YldS.yld (y_bin rfl rfl rfl)) rfl ?_
                obtain ⟨e22, h23, h20⟩ := bindS h20
                obtain ⟨ad24, _, rfl, ha25, hy26⟩ := hr3.elem h23
                refine QJ.on rfl rfl (cB hb21) (YldS.yld (hy26 Tryd.runUnderlying26 Tryd.sizeOf2 rfl rfl)) rfl ?_
                refine QJ.on rfl rfl (cB hb21) (YldS.yld (y_load1 (v := .int .i64 e22) Tryd.isAgg2 ha25 St.frozenC rfl)) rfl ?_
                refine QJ.on rfl rfl (cB hb21) (YldS.yld (y_bin rfl rfl rfl)) rfl ?_
                refine QJ.on rfl rfl (cB hb18) (YldS.yld (y_pick_t (cB hb21) rfl)) rfl ?_
                obtain rfl := Option.some.inj h20
                exact QJ.cut_end ⟨rfl, rfl, rfl, rfl, rfl, rfl, rfl, trivial⟩
              · obtain rfl := andF h20 hb21
                refine QJ.off rfl rfl (cB hb21) rfl rfl ?_
                refine QJ.off rfl rfl (cB hb21) rfl rfl ?_
                refine QJ.off rfl rfl (cB hb21) rfl rfl ?_
                refine QJ.off rfl rfl (cB hb21) rfl rfl ?_
                refine QJ.off rfl rfl (cB hb21) rfl rfl ?_
                refine QJ.off rfl rfl (cB hb21) rfl rfl ?_
                refine QJ.off rfl rfl (cB hb21) rfl rfl ?_
                refine QJ.on rfl rfl (cB hb18) (YldS.yld (y_pick_f (cB hb21) rfl)) rfl ?_
                exact QJ.cut_end ⟨rfl, rfl, rfl, rfl, rfl, rfl, rfl, trivial⟩
            refine QJ.step (YldS.yld (y_pick_f (cB hb18) rfl)) rfl ?_
            obtain rfl := Option.some.inj h17
            exact QJ.cut_end ⟨rfl, rfl, rfl, rfl, rfl, rfl, trivial⟩
        refine QJ.done ?_
        refine PJ.next ?_
        refine WJ.cond (t := t16) rfl (fun hb27 => ?_) (fun hb27 => ?_)
        · replace hm := ifT hm hb27
          refine WJ.seq ?_
          refine WJ.quiet ?_
          refine QJ.step (YldS.yld (y_assign rfl)) rfl ?_
          refine QJ.done ?_
          refine PJ.next ?_
          refine WJ.ret ?_
          refine PJ.block_ret (PJ.then_ret (PJ.then_ret (PJ.block_ret (PJ.then_ret ?_))))
          obtain rfl := Option.some.inj hm
          refine PJ.sel (L' := []) [] ⟨List.nodup_nil, rfl⟩ ?_
          exact PJ.retn (vs := [.bool false]) Tryd.results77 ⟨rfl, trivial⟩ ⟨rfl, rfl⟩
        · replace hm := ifF hm hb27
          refine WJ.skip ?_
          refine PJ.block_normal (PJ.next ?_)
          refine WJ.quiet ?_
          refine QJ.step (YldS.yld (y_bin rfl rfl rfl)) rfl ?_
          refine QJ.step (YldS.yld (y_move rfl)) rfl ?_
          refine QJ.done ?_
          exact PJ.round (w64 (x7 + 1)) [] hm ⟨rfl, rfl, rfl, rfl, rfl, trivial⟩ ⟨List.nodup_nil, rfl⟩
      · replace hm := ifF hm hb8
        refine WJ.exit ?_
        refine PJ.then_exit (PJ.then_exit (PJ.block_exit ?_))
        exact PJ.joined () [] hm trivial ⟨List.nodup_nil, rfl⟩
  · rintro _ hm
    subst hk6
    refine WJ.seq ?_
    refine WJ.quiet ?_
    refine QJ.step (YldS.yld (y_assign rfl)) rfl ?_
    refine QJ.done ?_
    refine PJ.next ?_
    refine WJ.ret ?_
    obtain rfl := Option.some.inj hm
    refine PJ.sel (L' := []) [] ⟨List.nodup_nil, rfl⟩ ?_
    exact PJ.retn (vs := [.bool true]) Tryd.results77 ⟨rfl, trivial⟩ ⟨rfl, rfl⟩

set_option maxRecDepth 100000 in
set_option maxHeartbeats 1000000 in
theorem ok_i_contains {N : Nat} {list1 : List Int} {n4 : Int} {r : Bool} (hm : i_contains N list1 n4 = some r) (w : World) (v2 : Value) (hr3 : RdS w (cx w).Fz v2 fI64.rp list1) :
    Calls Tryd.prog 78 #[v2, .int .i64 n4] w (Ret (cx w) (.bool r)) := by
  unfold i_contains at hm
  refine Calls.enter [v2, .int .i64 n4] Tryd.func78 rfl Tryd.ntmps78 rfl ?_
  refine WJ.seq ?_
  refine WJ.quiet ?_
  refine QJ.step (YldS.yld (y_assign rfl)) rfl ?_
  refine QJ.done ?_
  refine PJ.next ?_
  obtain ⟨kj5, hk6, hm⟩ := withK_open hm
  refine WJ.join (X := Unit) (fun (_ : Unit) => kj5  = some r) (fun (_ : Unit) => []) (fun (_ : Unit) => []) ?_ ?_
  · clear hk6
    refine WJ.seq ?_
    refine WJ.quiet ?_
    refine QJ.step (YldS.yld (y_move rfl)) rfl ?_
    refine QJ.step (YldS.yld (y_lenS Tryd.runUnderlying26 hr3 rfl)) rfl ?_
    refine QJ.step (YldS.yld (y_move rfl)) rfl ?_
    refine QJ.done ?_
    refine PJ.next ?_
    refine WJ.block ?_
    refine WJ.sel (L' := (fun (x : Int) => []) 0) [] ⟨List.nodup_nil, rfl⟩ ?_
    refine WJ.sub (m' := (fun (x : Int) => [(1, .int .i64 n4), (7, v2), (8, .int .i64 (List.length list1 : Int)), (9, .int .i64 x)]) 0) ⟨rfl, rfl, rfl, rfl, trivial⟩ ?_
    refine WJ.loop (X := Int) (fun N (x : Int) => i_contains_l1 kj5 list1 n4 N x = some r) (fun (x : Int) => [(1, .int .i64 n4), (7, v2), (8, .int .i64 (List.length list1 : Int)), (9, .int .i64 x)]) (fun (x : Int) => []) ?_ N 0 hm
    · rintro N x7 hI
      have hm := hI; clear hI
      cases N with
      | zero => cases hm
      | succ N =>
      unfold i_contains_l1 at hm
      refine WJ.seq ?_
      refine WJ.quiet ?_
      refine QJ.step (YldS.yld (y_bin rfl rfl rfl)) rfl ?_
      refine QJ.done ?_
      refine PJ.next ?_
      refine WJ.seq ?_
      refine WJ.cond (t := decide (x7 < (List.length list1 : Int))) rfl (fun hb8 => ?_) (fun hb8 => ?_)
      · replace hm := ifT hm hb8
        refine WJ.skip ?_
        refine PJ.next ?_
        refine WJ.seq ?_
        refine WJ.block ?_
        refine WJ.seq ?_
        refine WJ.quiet ?_
        obtain ⟨e9, h10, hm⟩ := bindS hm
        obtain ⟨ad11, _, rfl, ha12, hy13⟩ := hr3.elem h10
        refine QJ.step (YldS.yld (hy13 Tryd.runUnderlying26 Tryd.sizeOf2 rfl rfl)) rfl ?_
        refine QJ.step (YldS.yld (y_load1 (v := .int .i64 e9) Tryd.isAgg2 ha12 St.frozenC rfl)) rfl ?_
        refine QJ.step (YldS.yld (y_assign rfl)) rfl ?_
        refine QJ.done ?_
        refine PJ.next ?_
        refine WJ.seq ?_
        refine WJ.quiet ?_
        refine QJ.step (YldS.yld (y_move rfl)) rfl ?_
        refine QJ.step (YldS.yld (y_move rfl)) rfl ?_
        refine QJ.step (YldS.yld (y_bin rfl rfl rfl)) rfl ?_
        refine QJ.done ?_
        refine PJ.next ?_
        refine WJ.cond (t := (e9 == n4)) rfl (fun hb14 => ?_) (fun hb14 => ?_)
        · replace hm := ifT hm hb14
          refine WJ.seq ?_
          refine WJ.quiet ?_
          refine QJ.step (YldS.yld (y_assign rfl)) rfl ?_
          refine QJ.done ?_
          refine PJ.next ?_
          refine WJ.ret ?_
          refine PJ.block_ret (PJ.then_ret (PJ.then_ret (PJ.block_ret (PJ.then_ret ?_))))
          obtain rfl := Option.some.inj hm
          refine PJ.sel (L' := []) [] ⟨List.nodup_nil, rfl⟩ ?_
          exact PJ.retn (vs := [.bool true]) Tryd.results78 ⟨rfl, trivial⟩ ⟨rfl, rfl⟩
        · replace hm := ifF hm hb14
          refine WJ.skip ?_
          refine PJ.block_normal (PJ.next ?_)
          refine WJ.quiet ?_
          refine QJ.step (YldS.yld (y_bin rfl rfl rfl)) rfl ?_
          refine QJ.step (YldS.yld (y_move rfl)) rfl ?_
          refine QJ.done ?_
          exact PJ.round (w64 (x7 + 1)) [] hm ⟨rfl, rfl, rfl, rfl, trivial⟩ ⟨List.nodup_nil, rfl⟩
      · replace hm := ifF hm hb8
        refine WJ.exit ?_
        refine PJ.then_exit (PJ.then_exit (PJ.block_exit ?_))
        exact PJ.joined () [] hm trivial ⟨List.nodup_nil, rfl⟩
  · rintro _ hm
    subst hk6
    refine WJ.seq ?_
    refine WJ.quiet ?_
    refine QJ.step (YldS.yld (y_assign rfl)) rfl ?_
    refine QJ.done ?_
    refine PJ.next ?_
    refine WJ.ret ?_
    obtain rfl := Option.some.inj hm
    refine PJ.sel (L' := []) [] ⟨List.nodup_nil, rfl⟩ ?_
    exact PJ.retn (vs := [.bool false]) Tryd.results78 ⟨rfl, trivial⟩ ⟨rfl, rfl⟩

set_option maxRecDepth 100000 in
set_option maxHeartbeats 1000000 in
theorem ok_i_ValidLessons {N : Nat} {list1 : List Lesson} {r : Bool} (hm : i_ValidLessons N list1 = some r) (w : World) (v2 : Value) (hr3 : RdS w (cx w).Fz v2 (shLesson.rp fI64.rp) list1) :
    Calls Tryd.prog 25 #[v2] w (Ret (cx w) (.bool r)) := by
  unfold i_ValidLessons at hm
  refine Calls.enter [v2] Tryd.func25 rfl Tryd.ntmps25 rfl ?_
  refine WJ.seq ?_
  refine WJ.quiet ?_
  refine QJ.step (YldS.yld (y_assign rfl)) rfl ?_
  refine QJ.done ?_
  refine PJ.next ?_
  refine WJ.seq ?_
  refine WJ.seq ?_
  refine WJ.quiet ?_
  refine QJ.step (YldS.yld (y_move rfl)) rfl ?_
  refine QJ.step (YldS.yld (y_lenS Tryd.runUnderlying24 hr3 rfl)) rfl ?_
  refine QJ.step (YldS.yld (y_bin rfl rfl rfl)) rfl ?_
  refine QJ.done ?_
  refine PJ.next ?_
  refine WJ.cond (t := decide ((List.length list1 : Int) > 12)) rfl (fun hb4 => ?_) (fun hb4 => ?_)
  · replace hm := ifT hm hb4
    refine WJ.seq ?_
    refine WJ.quiet ?_
    refine QJ.step (YldS.yld (y_assign rfl)) rfl ?_
    refine QJ.done ?_
    refine PJ.next ?_
    refine WJ.ret ?_
    refine PJ.then_ret ?_
    obtain rfl := Option.some.inj hm
    refine PJ.sel (L' := []) [] ⟨List.nodup_nil, rfl⟩ ?_
    exact PJ.retn (vs := [.bool false]) Tryd.results25 ⟨rfl, trivial⟩ ⟨rfl, rfl⟩
  · replace hm := ifF hm hb4
    refine WJ.skip ?_
    refine PJ.next ?_
    refine WJ.seq ?_
    refine WJ.reg ?_
    refine SJ.makeMap rfl fun g5 => ?_
    refine SJ.q (YldS.yld (y_assign rfl)) rfl ?_
    refine SJ.nil ?_
    refine PJ.next ?_
    obtain ⟨kj6, hk7, hm⟩ := withK_open hm
    refine WJ.join (X := Unit) (fun (_ : Unit) => kj6  = some r) (fun (_ : Unit) => []) (fun (_ : Unit) => []) ?_ ?_
    · clear hk7
      refine WJ.seq ?_
      refine WJ.quiet ?_
      refine QJ.step (YldS.yld (y_move rfl)) rfl ?_
      refine QJ.step (YldS.yld (y_lenS Tryd.runUnderlying24 hr3 rfl)) rfl ?_
      refine QJ.step (YldS.yld (y_move rfl)) rfl ?_
      refine QJ.done ?_
      refine PJ.next ?_
      refine WJ.block ?_
      refine WJ.sel (L' := (fun (x : (List (Str × Bool)) × Int) => [mp g5 x.1]) ([], 0)) [0] ⟨by decide, rfl⟩ ?_
      refine WJ.sub (m' := (fun (x : (List (Str × Bool)) × Int) => [(0, v2), (3, .map (some g5)), (11, v2), (12, .int .i64 (List.length list1 : Int)), (13, .int .i64 x.2)]) ([], 0)) ⟨rfl, rfl, rfl, rfl, rfl, trivial⟩ ?_
      refine WJ.loop (X := (List (Str × Bool)) × Int) (fun N (x : (List (Str × Bool)) × Int) => i_ValidLessons_l1 kj6 list1 N x.1 x.2 = some r) (fun (x : (List (Str × Bool)) × Int) => [(0, v2), (3, .map (some g5)), (11, v2), (12, .int .i64 (List.length list1 : Int)), (13, .int .i64 x.2)]) (fun (x : (List (Str × Bool)) × Int) => [mp g5 x.1]) ?_ N ([], 0) hm
      · rintro N ⟨mp8, x9⟩ hI
        have hm := hI; clear hI
        cases N with
        | zero => cases hm
        | succ N =>
        unfold i_ValidLessons_l1 at hm
        refine WJ.seq ?_
        refine WJ.quiet ?_
        refine QJ.step (YldS.yld (y_bin rfl rfl rfl)) rfl ?_
        refine QJ.done ?_
        refine PJ.next ?_
        refine WJ.seq ?_
        refine WJ.cond (t := decide (x9 < (List.length list1 : Int))) rfl (fun hb10 => ?_) (fun hb10 => ?_)
        · replace hm := ifT hm hb10
          refine WJ.skip ?_
          refine PJ.next ?_
          obtain ⟨kj12, hk13, hm⟩ := withK_open hm
          refine WJ.join (X := (List (Str × Bool))) (fun (x : (List (Str × Bool))) => kj12 x = some r) (fun (x : (List (Str × Bool))) => [(0, v2), (3, .map (some g5)), (11, v2), (12, .int .i64 (List.length list1 : Int)), (13, .int .i64 x9)]) (fun (x : (List (Str × Bool))) => [mp g5 x]) ?_ ?_
          · clear hk13
            refine WJ.block ?_
            refine WJ.seq ?_
            refine WJ.reg ?_
            refine SJ.q (YldS.yld (y_move rfl)) rfl ?_
            obtain ⟨e14, h15, hm⟩ := bindS hm
            obtain ⟨ad16, _, ⟨v19, rfl, hr20⟩, ha17, hy18⟩ := hr3.elem h15
            refine SJ.q (YldS.yld (hy18 Tryd.runUnderlying24 Tryd.sizeOf47 rfl rfl)) rfl ?_
            refine SJ.q (YldS.yld (y_loadN Tryd.isAgg47 Tryd.sizeOf47 rfl ha17 St.frozenC rfl)) rfl ?_
            refine SJ.alloc (cs := [str [], str [], .slice none 0 0, .int .i64 0]) Tryd.zeroValue47 rfl rfl fun g21 => ?_
            refine SJ.nil_row 2 fI64 ?_
            refine SJ.q (YldS.yld (y_assign rfl)) rfl ?_
            have hc22 := And.intro (RdS.cells1 hr20) (RdS.one1 hr20)
            refine SJ.storeL (k := 1) (off := 0) (us := [str e14.name, str e14.letters, v19, .int .i64 e14.hours]) rfl rfl rfl rfl Tryd.sizeOf47 rfl (by simp only [List.all_cons, hc22.2]; rfl) ?_
            refine SJ.nil ?_
            refine PJ.next ?_
            refine WJ.seq ?_
            refine WJ.seq ?_
            refine WJ.quiet ?_
            refine QJ.step (YldS.yld (y_fldB (o := 0) fld47_0 rfl)) rfl ?_
            refine QJ.step (YldS.yld (y_loadB (k := 1) (off := 0) (v := str e14.name) rfl Tryd.isAgg9 rfl rfl)) rfl ?_
            obtain ⟨r23, h24, hm⟩ := bindS hm
            refine QJ.step (y_call Tryd.call75 rfl (RetG.quiet fun w hw => ok_i_IsName h24 w )) rfl ?_
            refine QJ.step (YldS.yld (y_not rfl)) rfl ?_
            refine QJ.step (YldS.yld (y_move rfl)) rfl ?_
            obtain ⟨t25, h26, hm⟩ := bindS hm
            refine QJ.cut 5 [(0, v2), (3, .map (some g5)), (4, .int .i64 x9), (5, pt g21 0), (11, v2), (12, .int .i64 (List.length list1 : Int)), (13, .int .i64 x9), (27, .bool t25)] ?_ ?_
            · rcases Bool.eq_false_or_eq_true (!r23) with hb27 | hb27
              · obtain rfl := orT h26 hb27
                refine QJ.off rfl rfl (cB hb27) rfl rfl ?_
                refine QJ.off rfl rfl (cB hb27) rfl rfl ?_
                refine QJ.off rfl rfl (cB hb27) rfl rfl ?_
                refine QJ.off rfl rfl (cB hb27) rfl rfl ?_
                refine QJ.step (YldS.yld (y_pick_t (cB hb27) rfl)) rfl ?_
                exact QJ.cut_end ⟨rfl, rfl, rfl, rfl, rfl, rfl, rfl, rfl, trivial⟩
              · replace h26 := orF h26 hb27
                refine QJ.on rfl rfl (cB hb27) (YldS.yld (y_move rfl)) rfl ?_
                refine QJ.on rfl rfl (cB hb27) (YldS.yld (y_fldB (o := 0) fld47_0 rfl)) rfl ?_
                refine QJ.on rfl rfl (cB hb27) (YldS.yld (y_loadB (k := 1) (off := 0) (v := str e14.name) rfl Tryd.isAgg9 rfl rfl)) rfl ?_
                refine QJ.on rfl rfl (cB hb27) (YldS.yld (y_lookupSB (k := 2) rfl Tryd.underlying89 Tryd.underlying9 Tryd.zeroValue4 rfl rfl)) rfl ?_
                refine QJ.step (YldS.yld (y_pick_f (cB hb27) rfl)) rfl ?_
                obtain rfl := Option.some.inj h26
                exact QJ.cut_end ⟨rfl, rfl, rfl, rfl, rfl, rfl, rfl, rfl, trivial⟩
            refine QJ.step (YldS.yld (y_move rfl)) rfl ?_
            obtain ⟨t28, h29, hm⟩ := bindS hm
            refine QJ.cut 5 [(0, v2), (3, .map (some g5)), (4, .int .i64 x9), (5, pt g21 0), (11, v2), (12, .int .i64 (List.length list1 : Int)), (13, .int .i64 x9), (33, .bool t28)] ?_ ?_
            · rcases Bool.eq_false_or_eq_true t25 with hb30 | hb30
              · obtain rfl := orT h29 hb30
                refine QJ.off rfl rfl (cB hb30) rfl rfl ?_
                refine QJ.off rfl rfl (cB hb30) rfl rfl ?_
                refine QJ.off rfl rfl (cB hb30) rfl rfl ?_
                refine QJ.off rfl rfl (cB hb30) rfl rfl ?_
                refine QJ.step (YldS.yld (y_pick_t (cB hb30) rfl)) rfl ?_
                exact QJ.cut_end ⟨rfl, rfl, rfl, rfl, rfl, rfl, rfl, rfl, trivial⟩
              · replace h29 := orF h29 hb30
                refine QJ.on rfl rfl (cB hb30) (YldS.yld (y_fldB (o := 0) fld47_1 rfl)) rfl ?_
                refine QJ.on rfl rfl (cB hb30) (YldS.yld (y_loadB (k := 1) (off := 1) (v := str e14.letters) rfl Tryd.isAgg9 rfl rfl)) rfl ?_
                obtain ⟨r31, h32, h29⟩ := bindS h29
                refine QJ.on rfl rfl (cB hb30) (y_call Tryd.call76 rfl (RetG.quiet fun w hw => ok_i_isText h32 w )) rfl ?_
                refine QJ.on rfl rfl (cB hb30) (YldS.yld (y_not rfl)) rfl ?_
                refine QJ.step (YldS.yld (y_pick_f (cB hb30) rfl)) rfl ?_
                obtain rfl := Option.some.inj h29
                exact QJ.cut_end ⟨rfl, rfl, rfl, rfl, rfl, rfl, rfl, rfl, trivial⟩
            refine QJ.step (YldS.yld (y_move rfl)) rfl ?_
            obtain ⟨t33, h34, hm⟩ := bindS hm
            refine QJ.cut 5 [(0, v2), (3, .map (some g5)), (4, .int .i64 x9), (5, pt g21 0), (11, v2), (12, .int .i64 (List.length list1 : Int)), (13, .int .i64 x9), (39, .bool t33)] ?_ ?_
            · rcases Bool.eq_false_or_eq_true t28 with hb35 | hb35
              · obtain rfl := orT h34 hb35
                refine QJ.off rfl rfl (cB hb35) rfl rfl ?_
                refine QJ.off rfl rfl (cB hb35) rfl rfl ?_
                refine QJ.off rfl rfl (cB hb35) rfl rfl ?_
                refine QJ.off rfl rfl (cB hb35) rfl rfl ?_
                refine QJ.step (YldS.yld (y_pick_t (cB hb35) rfl)) rfl ?_
                exact QJ.cut_end ⟨rfl, rfl, rfl, rfl, rfl, rfl, rfl, rfl, trivial⟩
              · replace h34 := orF h34 hb35
                refine QJ.on rfl rfl (cB hb35) (YldS.yld (y_fldB (o := 0) fld47_3 rfl)) rfl ?_
                refine QJ.on rfl rfl (cB hb35) (YldS.yld (y_loadB (k := 1) (off := 3) (v := .int .i64 e14.hours) rfl Tryd.isAgg2 rfl rfl)) rfl ?_
                obtain ⟨r36, h37, h34⟩ := bindS h34
                refine QJ.on rfl rfl (cB hb35) (y_call Tryd.call70 rfl (RetG.quiet fun w hw => ok_i_between h37 w )) rfl ?_
                refine QJ.on rfl rfl (cB hb35) (YldS.yld (y_not rfl)) rfl ?_
                refine QJ.step (YldS.yld (y_pick_f (cB hb35) rfl)) rfl ?_
                obtain rfl := Option.some.inj h34
                exact QJ.cut_end ⟨rfl, rfl, rfl, rfl, rfl, rfl, rfl, rfl, trivial⟩
            refine QJ.done ?_
            refine PJ.next ?_
            refine WJ.cond (t := t33) rfl (fun hb38 => ?_) (fun hb38 => ?_)
            · replace hm := ifT hm hb38
              refine WJ.seq ?_
              refine WJ.quiet ?_
              refine QJ.step (YldS.yld (y_assign rfl)) rfl ?_
              refine QJ.done ?_
              refine PJ.next ?_
              refine WJ.ret ?_
              refine PJ.then_ret (PJ.block_ret (PJ.then_ret (PJ.then_ret (PJ.block_ret (PJ.then_ret ?_)))))
              obtain rfl := Option.some.inj hm
              refine PJ.sel (L' := []) [] ⟨List.nodup_nil, rfl⟩ ?_
              exact PJ.retn (vs := [.bool false]) Tryd.results25 ⟨rfl, trivial⟩ ⟨rfl, rfl⟩
            · replace hm := ifF hm hb38
              refine WJ.skip ?_
              refine PJ.next ?_
              refine WJ.seq ?_
              refine WJ.reg ?_
              refine SJ.q (YldS.yld (y_move rfl)) rfl ?_
              refine SJ.q (YldS.yld (y_fldB (o := 0) fld47_0 rfl)) rfl ?_
              refine SJ.q (YldS.yld (y_loadB (k := 1) (off := 0) (v := str e14.name) rfl Tryd.isAgg9 rfl rfl)) rfl ?_
              refine SJ.mapUpdateSB (k := 2) Tryd.underlying89 Tryd.underlying9 rfl rfl rfl rfl ?_
              refine SJ.nil ?_
              refine PJ.next ?_
              obtain ⟨kj39, hk40, hm⟩ := withK_open hm
              refine WJ.join (X := Unit) (fun (_ : Unit) => kj39  = some r) (fun (_ : Unit) => [(0, v2), (3, .map (some g5)), (4, .int .i64 x9), (5, pt g21 0), (11, v2), (12, .int .i64 (List.length list1 : Int)), (13, .int .i64 x9)]) (fun (_ : Unit) => [box g21 47 [str e14.name, str e14.letters, v19, .int .i64 e14.hours], mp g5 (mset mp8 e14.name true)]) ?_ ?_
              · clear hk40
                refine WJ.seq ?_
                refine WJ.quiet ?_
                refine QJ.step (YldS.yld (y_assign rfl)) rfl ?_
                refine QJ.done ?_
                refine PJ.next ?_
                refine WJ.block ?_
                refine WJ.sel (L' := (fun (x : Int) => [box g21 47 [str e14.name, str e14.letters, v19, .int .i64 e14.hours], mp g5 (mset mp8 e14.name true)]) 1) [1, 2] ⟨by decide, rfl⟩ ?_
                refine WJ.sub (m' := (fun (x : Int) => [(0, v2), (3, .map (some g5)), (4, .int .i64 x9), (5, pt g21 0), (6, .int .i64 x), (11, v2), (12, .int .i64 (List.length list1 : Int)), (13, .int .i64 x9)]) 1) ⟨rfl, rfl, rfl, rfl, rfl, rfl, rfl, rfl, trivial⟩ ?_
                refine WJ.loop (X := Int) (fun N (x : Int) => i_ValidLessons_l2 kj39 e14 N x = some r) (fun (x : Int) => [(0, v2), (3, .map (some g5)), (4, .int .i64 x9), (5, pt g21 0), (6, .int .i64 x), (11, v2), (12, .int .i64 (List.length list1 : Int)), (13, .int .i64 x9)]) (fun (x : Int) => [box g21 47 [str e14.name, str e14.letters, v19, .int .i64 e14.hours], mp g5 (mset mp8 e14.name true)]) ?_ N 1 hm
                · rintro N k41 hI
                  have hm := hI; clear hI
                  cases N with
                  | zero => cases hm
                  | succ N =>
                  unfold i_ValidLessons_l2 at hm
                  refine WJ.seq ?_
                  refine WJ.seq ?_
                  refine WJ.quiet ?_
                  refine QJ.step (YldS.yld (y_move rfl)) rfl ?_
                  refine QJ.step (YldS.yld (y_fldB (o := 0) fld47_1 rfl)) rfl ?_
                  refine QJ.step (YldS.yld (y_loadB (k := 0) (off := 1) (v := str e14.letters) rfl Tryd.isAgg9 rfl rfl)) rfl ?_
                  refine QJ.step (YldS.yld (y_lenStr Tryd.runUnderlying9 rfl)) rfl ?_
                  refine QJ.step (YldS.yld (y_bin rfl rfl rfl)) rfl ?_
                  refine QJ.done ?_
                  refine PJ.next ?_
                  refine WJ.cond (t := decide (k41 < (List.length e14.letters : Int))) rfl (fun hb42 => ?_) (fun hb42 => ?_)
                  · replace hm := ifT hm hb42
                    refine WJ.skip ?_
                    refine PJ.next ?_
                    refine WJ.seq ?_
                    refine WJ.block ?_
                    refine WJ.seq ?_
                    refine WJ.quiet_draw follows (by kernel_rfl) ?_
                    refine QJ.step (YldS.yld (y_fldB (o := 0) fld47_1 rfl)) rfl ?_
                    refine QJ.step (YldS.yld (y_loadB (k := 0) (off := 1) (v := str e14.letters) rfl Tryd.isAgg9 rfl rfl)) rfl ?_
                    refine QJ.step (YldS.yld (y_move rfl)) rfl ?_
                    obtain ⟨c43, h44, hm⟩ := bindS hm
                    refine QJ.step (YldS.yld (y_idxStr Tryd.runUnderlying9 rfl rfl h44)) rfl ?_
                    refine QJ.step (YldS.yld (y_fldB (o := 0) fld47_1 rfl)) rfl ?_
                    refine QJ.step (YldS.yld (y_loadB (k := 0) (off := 1) (v := str e14.letters) rfl Tryd.isAgg9 rfl rfl)) rfl ?_
                    refine QJ.step (YldS.yld (y_move rfl)) rfl ?_
                    refine QJ.step (YldS.yld (y_bin rfl rfl rfl)) rfl ?_
                    obtain ⟨c45, h46, hm⟩ := bindS hm
                    refine QJ.step (YldS.yld (y_idxStr Tryd.runUnderlying9 rfl rfl h46)) rfl ?_
                    refine QJ.step (YldS.yld (y_bin8 c43 c45 rfl rfl rfl)) rfl ?_
                    refine QJ.done ?_
                    refine PJ.next ?_
                    refine WJ.cond (t := decide (c43 ≤ c45)) rfl (fun hb47 => ?_) (fun hb47 => ?_)
                    · replace hm := ifT hm hb47
                      refine WJ.seq ?_
                      refine WJ.quiet ?_
                      refine QJ.step (YldS.yld (y_assign rfl)) rfl ?_
                      refine QJ.done ?_
                      refine PJ.next ?_
                      refine WJ.ret ?_
                      refine PJ.block_ret (PJ.then_ret (PJ.then_ret (PJ.block_ret (PJ.then_ret (PJ.block_ret (PJ.then_ret (PJ.then_ret (PJ.block_ret (PJ.then_ret ?_)))))))))
                      obtain rfl := Option.some.inj hm
                      refine PJ.sel (L' := []) [] ⟨List.nodup_nil, rfl⟩ ?_
                      exact PJ.retn (vs := [.bool false]) Tryd.results25 ⟨rfl, trivial⟩ ⟨rfl, rfl⟩
                    · replace hm := ifF hm hb47
                      refine WJ.skip ?_
                      refine PJ.block_normal (PJ.next ?_)
                      refine WJ.quiet ?_
                      refine QJ.step (YldS.yld (y_move rfl)) rfl ?_
                      refine QJ.step (YldS.yld (y_bin rfl rfl rfl)) rfl ?_
                      refine QJ.step (YldS.yld (y_assign rfl)) rfl ?_
                      refine QJ.done ?_
                      exact PJ.round (w64 (k41 + 1)) [0, 1] hm ⟨rfl, rfl, rfl, rfl, rfl, rfl, rfl, rfl, trivial⟩ ⟨by decide, rfl⟩
                  · replace hm := ifF hm hb42
                    refine WJ.exit ?_
                    refine PJ.then_exit (PJ.then_exit (PJ.block_exit ?_))
                    exact PJ.joined () [0, 1] hm ⟨rfl, rfl, rfl, rfl, rfl, rfl, rfl, trivial⟩ ⟨by decide, rfl⟩
              · rintro _ hm
                subst hk40
                refine WJ.seq ?_
                refine WJ.quiet ?_
                refine QJ.step (YldS.yld (y_fldB (o := 0) fld47_2 rfl)) rfl ?_
                refine QJ.step (YldS.yld (y_loadB (k := 0) (off := 2) (v := v19) rfl Tryd.isAgg26 rfl rfl)) rfl ?_
                refine QJ.step (YldS.yld (y_move rfl)) rfl ?_
                refine QJ.step (YldS.yld (y_lenS Tryd.runUnderlying24 hr3 rfl)) rfl ?_
                obtain ⟨r48, h49, hm⟩ := bindS hm
                refine QJ.step (y_call Tryd.call77 rfl (RetG.quiet fun w hw => ok_i_areIndices h49 w _ (hr20.st hw))) rfl ?_
                refine QJ.step (YldS.yld (y_not rfl)) rfl ?_
                refine QJ.step (YldS.yld (y_move rfl)) rfl ?_
                obtain ⟨t50, h51, hm⟩ := bindS hm
                refine QJ.cut 5 [(0, v2), (3, .map (some g5)), (11, v2), (12, .int .i64 (List.length list1 : Int)), (13, .int .i64 x9), (71, .bool t50)] ?_ ?_
                · rcases Bool.eq_false_or_eq_true (!r48) with hb52 | hb52
                  · obtain rfl := orT h51 hb52
                    refine QJ.off rfl rfl (cB hb52) rfl rfl ?_
                    refine QJ.off rfl rfl (cB hb52) rfl rfl ?_
                    refine QJ.off rfl rfl (cB hb52) rfl rfl ?_
                    refine QJ.off rfl rfl (cB hb52) rfl rfl ?_
                    refine QJ.step (YldS.yld (y_pick_t (cB hb52) rfl)) rfl ?_
                    exact QJ.cut_end ⟨rfl, rfl, rfl, rfl, rfl, rfl, trivial⟩
                  · replace h51 := orF h51 hb52
                    refine QJ.on rfl rfl (cB hb52) (YldS.yld (y_fldB (o := 0) fld47_2 rfl)) rfl ?_
                    refine QJ.on rfl rfl (cB hb52) (YldS.yld (y_loadB (k := 0) (off := 2) (v := v19) rfl Tryd.isAgg26 rfl rfl)) rfl ?_
                    refine QJ.on rfl rfl (cB hb52) (YldS.yld (y_move rfl)) rfl ?_
                    obtain ⟨r53, h54, h51⟩ := bindS h51
                    refine QJ.on rfl rfl (cB hb52) (y_call Tryd.call78 rfl (RetG.quiet fun w hw => ok_i_contains h54 w _ (hr20.st hw))) rfl ?_
                    refine QJ.step (YldS.yld (y_pick_f (cB hb52) rfl)) rfl ?_
                    obtain rfl := Option.some.inj h51
                    exact QJ.cut_end ⟨rfl, rfl, rfl, rfl, rfl, rfl, trivial⟩
                refine QJ.done ?_
                refine PJ.next ?_
                refine WJ.cond (t := t50) rfl (fun hb55 => ?_) (fun hb55 => ?_)
                · replace hm := ifT hm hb55
                  refine WJ.seq ?_
                  refine WJ.quiet ?_
                  refine QJ.step (YldS.yld (y_assign rfl)) rfl ?_
                  refine QJ.done ?_
                  refine PJ.next ?_
                  refine WJ.ret ?_
                  refine PJ.block_ret (PJ.then_ret (PJ.then_ret (PJ.block_ret (PJ.then_ret ?_))))
                  obtain rfl := Option.some.inj hm
                  refine PJ.sel (L' := []) [] ⟨List.nodup_nil, rfl⟩ ?_
                  exact PJ.retn (vs := [.bool false]) Tryd.results25 ⟨rfl, trivial⟩ ⟨rfl, rfl⟩
                · replace hm := ifF hm hb55
                  refine WJ.skip ?_
                  refine PJ.block_normal ?_
                  exact PJ.joined (mset mp8 e14.name true) [1] hm ⟨rfl, rfl, rfl, rfl, rfl, trivial⟩ ⟨by decide, rfl⟩
          · rintro mp11 hm
            subst hk13
            refine WJ.quiet ?_
            refine QJ.step (YldS.yld (y_bin rfl rfl rfl)) rfl ?_
            refine QJ.step (YldS.yld (y_move rfl)) rfl ?_
            refine QJ.done ?_
            exact PJ.round (mp11, w64 (x9 + 1)) [0] hm ⟨rfl, rfl, rfl, rfl, rfl, trivial⟩ ⟨by decide, rfl⟩
        · replace hm := ifF hm hb10
          refine WJ.exit ?_
          refine PJ.then_exit (PJ.then_exit (PJ.block_exit ?_))
          exact PJ.joined () [] hm trivial ⟨List.nodup_nil, rfl⟩
    · rintro _ hm
      subst hk7
      refine WJ.seq ?_
      refine WJ.quiet ?_
      refine QJ.step (YldS.yld (y_assign rfl)) rfl ?_
      refine QJ.done ?_
      refine PJ.next ?_
      refine WJ.ret ?_
      obtain rfl := Option.some.inj hm
      refine PJ.sel (L' := []) [] ⟨List.nodup_nil, rfl⟩ ?_
      exact PJ.retn (vs := [.bool true]) Tryd.results25 ⟨rfl, trivial⟩ ⟨rfl, rfl⟩

set_option maxRecDepth 100000 in
set_option maxHeartbeats 1000000 in
theorem ok_i_lessonCircle {N : Nat} {list1 : List Lesson} {r : Int} (hm : i_lessonCircle N list1 = some r) (w : World) (v2 : Value) (hr3 : RdS w (cx w).Fz v2 (shLesson.rp fI64.rp) list1) :
    Calls Tryd.prog 50 #[v2] w (Ret (cx w) (.int .i64 r)) := by
  unfold i_lessonCircle at hm
  refine Calls.enter [v2] Tryd.func50 rfl Tryd.ntmps50 rfl ?_
  refine WJ.seq ?_
  refine WJ.quiet ?_
  refine QJ.step (YldS.yld (y_assign rfl)) rfl ?_
  refine QJ.done ?_
  refine PJ.next ?_
  obtain ⟨kj4, hk5, hm⟩ := withK_open hm
  refine WJ.join (X := Unit) (fun (_ : Unit) => kj4  = some r) (fun (_ : Unit) => []) (fun (_ : Unit) => []) ?_ ?_
  · clear hk5
    refine WJ.seq ?_
    refine WJ.quiet ?_
    refine QJ.step (YldS.yld (y_move rfl)) rfl ?_
    refine QJ.step (YldS.yld (y_lenS Tryd.runUnderlying24 hr3 rfl)) rfl ?_
    refine QJ.step (YldS.yld (y_move rfl)) rfl ?_
    refine QJ.done ?_
    refine PJ.next ?_
    refine WJ.block ?_
    refine WJ.sel (L' := (fun (x : Int) => []) 0) [] ⟨List.nodup_nil, rfl⟩ ?_
    refine WJ.sub (m' := (fun (x : Int) => [(0, v2), (8, .int .i64 (List.length list1 : Int)), (9, .int .i64 x)]) 0) ⟨rfl, rfl, rfl, trivial⟩ ?_
    refine WJ.loop (X := Int) (fun N (x : Int) => i_lessonCircle_l1 kj4 list1 N x = some r) (fun (x : Int) => [(0, v2), (8, .int .i64 (List.length list1 : Int)), (9, .int .i64 x)]) (fun (x : Int) => []) ?_ N 0 hm
    · rintro N x6 hI
      have hm := hI; clear hI
      cases N with
      | zero => cases hm
      | succ N =>
      unfold i_lessonCircle_l1 at hm
      refine WJ.seq ?_
      refine WJ.quiet ?_
      refine QJ.step (YldS.yld (y_bin rfl rfl rfl)) rfl ?_
      refine QJ.done ?_
      refine PJ.next ?_
      refine WJ.seq ?_
      refine WJ.cond (t := decide (x6 < (List.length list1 : Int))) rfl (fun hb7 => ?_) (fun hb7 => ?_)
      · replace hm := ifT hm hb7
        refine WJ.skip ?_
        refine PJ.next ?_
        obtain ⟨kj8, hk9, hm⟩ := withK_open hm
        refine WJ.join (X := Unit) (fun (_ : Unit) => kj8  = some r) (fun (_ : Unit) => [(0, v2), (8, .int .i64 (List.length list1 : Int)), (9, .int .i64 x6)]) (fun (_ : Unit) => []) ?_ ?_
        · clear hk9
          refine WJ.block ?_
          refine WJ.seq ?_
          refine WJ.quiet ?_
          refine QJ.step (YldS.yld (y_move rfl)) rfl ?_
          refine QJ.step (YldS.yld (y_assign rfl)) rfl ?_
          refine QJ.done ?_
          refine PJ.next ?_
          refine WJ.seq ?_
          refine WJ.reg ?_
          refine SJ.q (YldS.yld (y_move rfl)) rfl ?_
          refine SJ.q (YldS.yld (y_lenS Tryd.runUnderlying24 hr3 rfl)) rfl ?_
          obtain ⟨l10, h11, hm⟩ := bindS hm
          refine SJ.makeSlice (R := fBool) (z := false) h11 Tryd.underlying72 el4 rfl rfl rfl fun v12 => ?_
          refine SJ.q (YldS.yld (y_assign rfl)) rfl ?_
          refine SJ.nil ?_
          refine PJ.next ?_
          refine WJ.seq ?_
          refine WJ.reg ?_
          refine SJ.buildSlice (R := fI64) (os := []) [] Tryd.runUnderlying26 Tryd.sizeOf2 Tryd.zeroValue2 rfl rfl rfl rfl rfl rfl fun v13 => ?_
          refine SJ.q (YldS.yld (y_move rfl)) rfl ?_
          refine SJ.q (YldS.yld (y_move rfl)) rfl ?_
          obtain ⟨e14, h15, hm⟩ := bindS hm
          obtain ⟨ad16, _, ⟨v19, rfl, hr20⟩, ha17, hy18⟩ := hr3.elem h15
          refine SJ.q (YldS.yld (hy18 Tryd.runUnderlying24 Tryd.sizeOf47 rfl rfl)) rfl ?_
          refine SJ.q (YldS.yld (y_fld (ad := ad16) fld47_2 rfl)) rfl ?_
          refine SJ.q (YldS.yld (y_load1 (v := v19) Tryd.isAgg26 (ha17.sub 2 1) St.frozenC rfl)) rfl ?_
          obtain ⟨l21, h22, hm⟩ := bindS hm
          refine SJ.append (k := 0) (R := fI64) h22 rfl Tryd.underlying26 el2 rfl rfl rfl (fun w hw => (hr20.st hw)) rfl fun v23 => ?_
          refine SJ.q (YldS.yld (y_assign rfl)) rfl ?_
          refine SJ.nil ?_
          refine PJ.next ?_
          obtain ⟨kj25, hk26, hm⟩ := withK_open hm
          refine WJ.join (X := (List Bool)) (fun (x : (List Bool)) => kj25 x = some r) (fun (x : (List Bool)) => [(0, v2), (3, .int .i64 x6), (4, v12), (8, .int .i64 (List.length list1 : Int)), (9, .int .i64 x6)]) (fun (x : (List Bool)) => [row v12 4 fBool x]) ?_ ?_
          · clear hk26
            refine WJ.block ?_
            refine WJ.asO 0 rfl ?_
            refine WJ.sel (L' := (fun (x : (List Int) × Value × (List Bool)) => [rowO x.2.1 2 fI64 x.1, row v12 4 fBool x.2.2]) (l21, v23, l10)) [0, 1] ⟨by decide, rfl⟩ ?_
            refine WJ.sub (m' := (fun (x : (List Int) × Value × (List Bool)) => [(0, v2), (3, .int .i64 x6), (4, v12), (5, x.2.1), (8, .int .i64 (List.length list1 : Int)), (9, .int .i64 x6)]) (l21, v23, l10)) ⟨rfl, rfl, rfl, rfl, rfl, rfl, trivial⟩ ?_
            refine WJ.loop (X := (List Int) × Value × (List Bool)) (fun N (x : (List Int) × Value × (List Bool)) => i_lessonCircle_l2 kj25 list1 N x.1 x.2.2 = some r) (fun (x : (List Int) × Value × (List Bool)) => [(0, v2), (3, .int .i64 x6), (4, v12), (5, x.2.1), (8, .int .i64 (List.length list1 : Int)), (9, .int .i64 x6)]) (fun (x : (List Int) × Value × (List Bool)) => [rowO x.2.1 2 fI64 x.1, row v12 4 fBool x.2.2]) ?_ N (l21, v23, l10) hm
            · rintro N ⟨l27, v28, l29⟩ hI
              have hm := hI; clear hI
              cases N with
              | zero => cases hm
              | succ N =>
              unfold i_lessonCircle_l2 at hm
              refine WJ.seq ?_
              refine WJ.seq ?_
              refine WJ.quiet ?_
              refine QJ.step (YldS.yld (y_move rfl)) rfl ?_
              refine QJ.step (YldS.yld (y_lenRowO (k := 0) rfl Tryd.runUnderlying26 rfl)) rfl ?_
              refine QJ.step (YldS.yld (y_bin rfl rfl rfl)) rfl ?_
              refine QJ.done ?_
              refine PJ.next ?_
              refine WJ.cond (t := decide ((List.length l27 : Int) > 0)) rfl (fun hb30 => ?_) (fun hb30 => ?_)
              · replace hm := ifT hm hb30
                refine WJ.skip ?_
                refine PJ.next ?_
                refine WJ.block ?_
                refine WJ.seq ?_
                refine WJ.quiet ?_
                refine QJ.step (YldS.yld (y_move rfl)) rfl ?_
                obtain ⟨e31, h32, hm⟩ := bindS hm
                refine QJ.step (YldS.yld (y_ixRowO (k := 0) (R := fI64) rfl Tryd.runUnderlying26 Tryd.sizeOf2 rfl rfl h32)) rfl ?_
                refine QJ.step (YldS.yld (y_loadRO (k := 0) (i := (Int.toNat 0)) (off := 0) (u := .int .i64 e31) rfl Tryd.isAgg2 rfl (idx_get h32) rfl)) rfl ?_
                refine QJ.step (YldS.yld (y_assign rfl)) rfl ?_
                refine QJ.done ?_
                refine PJ.next ?_
                refine WJ.seq ?_
                refine WJ.reg ?_
                refine SJ.q (YldS.yld (y_move rfl)) rfl ?_
                obtain ⟨l33, h34, hm⟩ := bindS hm
                refine SJ.sliceO (i := some 1) (j := none) (k := 0) h34 rfl Tryd.runUnderlying26 Tryd.sizeOf2 rfl ⟨_, rfl⟩ trivial rfl fun v35 => ?_
                refine SJ.q (YldS.yld (y_assign rfl)) rfl ?_
                refine SJ.nil ?_
                refine PJ.next ?_
                refine WJ.seq ?_
                refine WJ.seq ?_
                refine WJ.quiet ?_
                refine QJ.step (YldS.yld (y_move rfl)) rfl ?_
                refine QJ.step (YldS.yld (y_move rfl)) rfl ?_
                obtain ⟨e36, h37, hm⟩ := bindS hm
                refine QJ.step (YldS.yld (y_ixRow (k := 1) (R := fBool) rfl Tryd.runUnderlying72 Tryd.sizeOf4 rfl rfl h37)) rfl ?_
                refine QJ.step (YldS.yld (y_loadR (k := 1) (i := (Int.toNat e31)) (off := 0) (u := .bool e36) rfl Tryd.isAgg4 rfl (idx_get h37) rfl)) rfl ?_
                refine QJ.done ?_
                refine PJ.next ?_
                refine WJ.cond (t := e36) rfl (fun hb38 => ?_) (fun hb38 => ?_)
                · replace hm := ifT hm hb38
                  refine WJ.exit ?_
                  refine PJ.then_exit (PJ.block_exit ?_)
                  exact PJ.round (l33, v35, l29) [0, 1] hm ⟨rfl, rfl, rfl, rfl, rfl, rfl, trivial⟩ ⟨by decide, rfl⟩
                · replace hm := ifF hm hb38
                  refine WJ.skip ?_
                  refine PJ.next ?_
                  refine WJ.seq ?_
                  refine WJ.reg ?_
                  refine SJ.q (YldS.yld (y_move rfl)) rfl ?_
                  refine SJ.q (YldS.yld (y_move rfl)) rfl ?_
                  obtain ⟨e39, h40, hm⟩ := bindS hm
                  refine SJ.q (YldS.yld (y_ixRow (k := 1) (R := fBool) rfl Tryd.runUnderlying72 Tryd.sizeOf4 rfl rfl h40)) rfl ?_
                  refine SJ.storeRL (k := 1) (i := (Int.toNat e31)) (off := 0) (us := [.bool true]) (b := true) rfl rfl (idx_get h40) rfl rfl Tryd.sizeOf4 rfl rfl rfl ?_
                  refine SJ.nil ?_
                  refine PJ.next ?_
                  refine WJ.reg ?_
                  refine SJ.q (YldS.yld (y_move rfl)) rfl ?_
                  refine SJ.q (YldS.yld (y_move rfl)) rfl ?_
                  refine SJ.q (YldS.yld (y_move rfl)) rfl ?_
                  obtain ⟨e41, h42, hm⟩ := bindS hm
                  obtain ⟨ad43, _, ⟨v46, rfl, hr47⟩, ha44, hy45⟩ := hr3.elem h42
                  refine SJ.q (YldS.yld (hy45 Tryd.runUnderlying24 Tryd.sizeOf47 rfl rfl)) rfl ?_
                  refine SJ.q (YldS.yld (y_fld (ad := ad43) fld47_2 rfl)) rfl ?_
                  refine SJ.q (YldS.yld (y_load1 (v := v46) Tryd.isAgg26 (ha44.sub 2 1) St.frozenC rfl)) rfl ?_
                  obtain ⟨l48, h49, hm⟩ := bindS hm
                  refine SJ.appendO (k := 0) (R := fI64) h49 rfl Tryd.underlying26 el2 rfl rfl rfl (fun w hw => (hr47.st hw)) rfl fun v50 => ?_
                  refine SJ.q (YldS.yld (y_assign rfl)) rfl ?_
                  refine SJ.nil ?_
                  refine PJ.block_normal ?_
                  exact PJ.round (l48, v50, (List.set l29 (Int.toNat e31) true)) [0, 1] hm ⟨rfl, rfl, rfl, rfl, rfl, rfl, trivial⟩ ⟨by decide, rfl⟩
              · replace hm := ifF hm hb30
                refine WJ.exit ?_
                refine PJ.then_exit (PJ.then_exit (PJ.block_exit ?_))
                exact PJ.joined l29 [1] hm ⟨rfl, rfl, rfl, rfl, rfl, trivial⟩ ⟨by decide, rfl⟩
          · rintro l24 hm
            subst hk26
            refine WJ.seq ?_
            refine WJ.quiet ?_
            refine QJ.step (YldS.yld (y_move rfl)) rfl ?_
            refine QJ.step (YldS.yld (y_move rfl)) rfl ?_
            obtain ⟨e51, h52, hm⟩ := bindS hm
            refine QJ.step (YldS.yld (y_ixRow (k := 0) (R := fBool) rfl Tryd.runUnderlying72 Tryd.sizeOf4 rfl rfl h52)) rfl ?_
            refine QJ.step (YldS.yld (y_loadR (k := 0) (i := (Int.toNat x6)) (off := 0) (u := .bool e51) rfl Tryd.isAgg4 rfl (idx_get h52) rfl)) rfl ?_
            refine QJ.done ?_
            refine PJ.next ?_
            refine WJ.cond (t := e51) rfl (fun hb53 => ?_) (fun hb53 => ?_)
            · replace hm := ifT hm hb53
              refine WJ.seq ?_
              refine WJ.quiet ?_
              refine QJ.step (YldS.yld (y_move rfl)) rfl ?_
              refine QJ.step (YldS.yld (y_assign rfl)) rfl ?_
              refine QJ.done ?_
              refine PJ.next ?_
              refine WJ.ret ?_
              refine PJ.block_ret (PJ.then_ret (PJ.then_ret (PJ.block_ret (PJ.then_ret ?_))))
              obtain rfl := Option.some.inj hm
              refine PJ.sel (L' := []) [] ⟨List.nodup_nil, rfl⟩ ?_
              exact PJ.retn (vs := [.int .i64 x6]) Tryd.results50 ⟨rfl, trivial⟩ ⟨rfl, rfl⟩
            · replace hm := ifF hm hb53
              refine WJ.skip ?_
              refine PJ.block_normal ?_
              exact PJ.joined () [] hm ⟨rfl, rfl, rfl, trivial⟩ ⟨List.nodup_nil, rfl⟩
        · rintro _ hm
          subst hk9
          refine WJ.quiet ?_
          refine QJ.step (YldS.yld (y_bin rfl rfl rfl)) rfl ?_
          refine QJ.step (YldS.yld (y_move rfl)) rfl ?_
          refine QJ.done ?_
          exact PJ.round (w64 (x6 + 1)) [] hm ⟨rfl, rfl, rfl, trivial⟩ ⟨List.nodup_nil, rfl⟩
      · replace hm := ifF hm hb7
        refine WJ.exit ?_
        refine PJ.then_exit (PJ.then_exit (PJ.block_exit ?_))
        exact PJ.joined () [] hm trivial ⟨List.nodup_nil, rfl⟩
  · rintro _ hm
    subst hk5
    refine WJ.seq ?_
    refine WJ.quiet ?_
    refine QJ.step (YldS.yld (y_assign rfl)) rfl ?_
    refine QJ.done ?_
    refine PJ.next ?_
    refine WJ.ret ?_
    obtain rfl := Option.some.inj hm
    refine PJ.sel (L' := []) [] ⟨List.nodup_nil, rfl⟩ ?_
    exact PJ.retn (vs := [.int .i64 (-1)]) Tryd.results50 ⟨rfl, trivial⟩ ⟨rfl, rfl⟩

set_option maxRecDepth 100000 in
set_option maxHeartbeats 1000000 in
theorem ok_i_allIn {N : Nat} {list1 : List Int} {marked4 : List Bool} {r : Bool} (hm : i_allIn N list1 marked4 = some r) (w : World) (v2 : Value) (hr3 : RdS w (cx w).Fz v2 fI64.rp list1) (v5 : Value) (hr6 : RdS w (cx w).Fz v5 fBool.rp marked4) :
    Calls Tryd.prog 51 #[v2, v5] w (Ret (cx w) (.bool r)) := by
  unfold i_allIn at hm
  refine Calls.enter [v2, v5] Tryd.func51 rfl Tryd.ntmps51 rfl ?_
  refine WJ.seq ?_
  refine WJ.quiet ?_
  refine QJ.step (YldS.yld (y_assign rfl)) rfl ?_
  refine QJ.done ?_
  refine PJ.next ?_
  obtain ⟨kj7, hk8, hm⟩ := withK_open hm
  refine WJ.join (X := Unit) (fun (_ : Unit) => kj7  = some r) (fun (_ : Unit) => []) (fun (_ : Unit) => []) ?_ ?_
  · clear hk8
    refine WJ.seq ?_
    refine WJ.quiet ?_
    refine QJ.step (YldS.yld (y_move rfl)) rfl ?_
    refine QJ.step (YldS.yld (y_lenS Tryd.runUnderlying26 hr3 rfl)) rfl ?_
    refine QJ.step (YldS.yld (y_move rfl)) rfl ?_
    refine QJ.done ?_
    refine PJ.next ?_
    refine WJ.block ?_
    refine WJ.sel (L' := (fun (x : Int) => []) 0) [] ⟨List.nodup_nil, rfl⟩ ?_
    refine WJ.sub (m' := (fun (x : Int) => [(1, v5), (7, v2), (8, .int .i64 (List.length list1 : Int)), (9, .int .i64 x)]) 0) ⟨rfl, rfl, rfl, rfl, trivial⟩ ?_
    refine WJ.loop (X := Int) (fun N (x : Int) => i_allIn_l1 kj7 list1 marked4 N x = some r) (fun (x : Int) => [(1, v5), (7, v2), (8, .int .i64 (List.length list1 : Int)), (9, .int .i64 x)]) (fun (x : Int) => []) ?_ N 0 hm
    · rintro N x9 hI
      have hm := hI; clear hI
      cases N with
      | zero => cases hm
      | succ N =>
      unfold i_allIn_l1 at hm
      refine WJ.seq ?_
      refine WJ.quiet ?_
      refine QJ.step (YldS.yld (y_bin rfl rfl rfl)) rfl ?_
      refine QJ.done ?_
      refine PJ.next ?_
      refine WJ.seq ?_
      refine WJ.cond (t := decide (x9 < (List.length list1 : Int))) rfl (fun hb10 => ?_) (fun hb10 => ?_)
      · replace hm := ifT hm hb10
        refine WJ.skip ?_
        refine PJ.next ?_
        refine WJ.seq ?_
        refine WJ.block ?_
        refine WJ.seq ?_
        refine WJ.quiet ?_
        obtain ⟨e11, h12, hm⟩ := bindS hm
        obtain ⟨ad13, _, rfl, ha14, hy15⟩ := hr3.elem h12
        refine QJ.step (YldS.yld (hy15 Tryd.runUnderlying26 Tryd.sizeOf2 rfl rfl)) rfl ?_
        refine QJ.step (YldS.yld (y_load1 (v := .int .i64 e11) Tryd.isAgg2 ha14 St.frozenC rfl)) rfl ?_
        refine QJ.step (YldS.yld (y_assign rfl)) rfl ?_
        refine QJ.done ?_
        refine PJ.next ?_
        refine WJ.seq ?_
        refine WJ.quiet ?_
        refine QJ.step (YldS.yld (y_move rfl)) rfl ?_
        refine QJ.step (YldS.yld (y_move rfl)) rfl ?_
        obtain ⟨e16, h17, hm⟩ := bindS hm
        obtain ⟨ad18, _, rfl, ha19, hy20⟩ := hr6.elem h17
        refine QJ.step (YldS.yld (hy20 Tryd.runUnderlying72 Tryd.sizeOf4 rfl rfl)) rfl ?_
        refine QJ.step (YldS.yld (y_load1 (v := .bool e16) Tryd.isAgg4 ha19 St.frozenC rfl)) rfl ?_
        refine QJ.step (YldS.yld (y_not rfl)) rfl ?_
        refine QJ.done ?_
        refine PJ.next ?_
        refine WJ.cond (t := !e16) rfl (fun hb21 => ?_) (fun hb21 => ?_)
        · replace hm := ifT hm hb21
          refine WJ.seq ?_
          refine WJ.quiet ?_
          refine QJ.step (YldS.yld (y_assign rfl)) rfl ?_
          refine QJ.done ?_
          refine PJ.next ?_
          refine WJ.ret ?_
          refine PJ.block_ret (PJ.then_ret (PJ.then_ret (PJ.block_ret (PJ.then_ret ?_))))
          obtain rfl := Option.some.inj hm
          refine PJ.sel (L' := []) [] ⟨List.nodup_nil, rfl⟩ ?_
          exact PJ.retn (vs := [.bool false]) Tryd.results51 ⟨rfl, trivial⟩ ⟨rfl, rfl⟩
        · replace hm := ifF hm hb21
          refine WJ.skip ?_
          refine PJ.block_normal (PJ.next ?_)
          refine WJ.quiet ?_
          refine QJ.step (YldS.yld (y_bin rfl rfl rfl)) rfl ?_
          refine QJ.step (YldS.yld (y_move rfl)) rfl ?_
          refine QJ.done ?_
          exact PJ.round (w64 (x9 + 1)) [] hm ⟨rfl, rfl, rfl, rfl, trivial⟩ ⟨List.nodup_nil, rfl⟩
      · replace hm := ifF hm hb10
        refine WJ.exit ?_
        refine PJ.then_exit (PJ.then_exit (PJ.block_exit ?_))
        exact PJ.joined () [] hm trivial ⟨List.nodup_nil, rfl⟩
  · rintro _ hm
    subst hk8
    refine WJ.seq ?_
    refine WJ.quiet ?_
    refine QJ.step (YldS.yld (y_assign rfl)) rfl ?_
    refine QJ.done ?_
    refine PJ.next ?_
    refine WJ.ret ?_
    obtain rfl := Option.some.inj hm
    refine PJ.sel (L' := []) [] ⟨List.nodup_nil, rfl⟩ ?_
    exact PJ.retn (vs := [.bool true]) Tryd.results51 ⟨rfl, trivial⟩ ⟨rfl, rfl⟩

set_option maxRecDepth 100000 in
set_option maxHeartbeats 1000000 in
theorem ok_i_LessonOrder {N : Nat} {list1 : List Lesson} {r : (List Int) × Int} (hm : i_LessonOrder N list1 = some r) (w : World) (v2 : Value) (hr3 : RdS w (cx w).Fz v2 (shLesson.rp fI64.rp) list1) :
    Calls Tryd.prog 7 #[v2] w (RetG (cx w) fun u L => ∃ (u1 : Value), (u = tup [u1, .int .i64 r.2] ∧ L = [row u1 2 fI64 r.1])) := by
  unfold i_LessonOrder at hm
  refine Calls.enter [v2] Tryd.func7 rfl Tryd.ntmps7 rfl ?_
  refine WJ.seq ?_
  refine WJ.quiet ?_
  refine QJ.step (YldS.yld (y_assign rfl)) rfl ?_
  refine QJ.step (YldS.yld (y_assign rfl)) rfl ?_
  refine QJ.done ?_
  refine PJ.next ?_
  refine WJ.seq ?_
  refine WJ.seq ?_
  refine WJ.quiet ?_
  refine QJ.step (YldS.yld (y_move rfl)) rfl ?_
  obtain ⟨r4, h5, hm⟩ := bindS hm
  refine QJ.step (y_call Tryd.call25 rfl (RetG.quiet fun w hw => ok_i_ValidLessons h5 w _ (hr3.st hw))) rfl ?_
  refine QJ.step (YldS.yld (y_not rfl)) rfl ?_
  refine QJ.done ?_
  refine PJ.next ?_
  refine WJ.cond (t := !r4) rfl (fun hb6 => ?_) (fun hb6 => ?_)
  · replace hm := ifT hm hb6
    refine WJ.seq ?_
    refine WJ.quiet ?_
    refine QJ.step (YldS.yld (y_assign rfl)) rfl ?_
    refine QJ.step (YldS.yld (y_assign rfl)) rfl ?_
    refine QJ.done ?_
    refine PJ.next ?_
    refine WJ.ret ?_
    refine PJ.then_ret ?_
    refine PJ.nil_row 2 fI64 ?_
    obtain rfl := Option.some.inj hm
    refine PJ.sel (L' := [row (.slice none 0 0) 2 fI64 []]) [0] ⟨by decide, rfl⟩ ?_
    exact PJ.retn (vs := [(.slice none 0 0), .int .i64 1]) Tryd.results7 ⟨rfl, rfl, trivial⟩ ⟨_, rfl, rfl⟩
  · replace hm := ifF hm hb6
    refine WJ.skip ?_
    refine PJ.next ?_
    refine WJ.seq ?_
    refine WJ.seq ?_
    refine WJ.quiet ?_
    refine QJ.step (YldS.yld (y_move rfl)) rfl ?_
    obtain ⟨r7, h8, hm⟩ := bindS hm
    refine QJ.step (y_call Tryd.call50 rfl (RetG.quiet fun w hw => ok_i_lessonCircle h8 w _ (hr3.st hw))) rfl ?_
    refine QJ.step (YldS.yld (y_bin rfl rfl rfl)) rfl ?_
    refine QJ.done ?_
    refine PJ.next ?_
    refine WJ.cond (t := decide (r7 ≥ 0)) rfl (fun hb9 => ?_) (fun hb9 => ?_)
    · replace hm := ifT hm hb9
      refine WJ.seq ?_
      refine WJ.quiet ?_
      refine QJ.step (YldS.yld (y_assign rfl)) rfl ?_
      refine QJ.step (YldS.yld (y_assign rfl)) rfl ?_
      refine QJ.done ?_
      refine PJ.next ?_
      refine WJ.ret ?_
      refine PJ.then_ret ?_
      refine PJ.nil_row 2 fI64 ?_
      obtain rfl := Option.some.inj hm
      refine PJ.sel (L' := [row (.slice none 0 0) 2 fI64 []]) [0] ⟨by decide, rfl⟩ ?_
      exact PJ.retn (vs := [(.slice none 0 0), .int .i64 9]) Tryd.results7 ⟨rfl, rfl, trivial⟩ ⟨_, rfl, rfl⟩
    · replace hm := ifF hm hb9
      refine WJ.skip ?_
      refine PJ.next ?_
      refine WJ.seq ?_
      refine WJ.reg ?_
      refine SJ.q (YldS.yld (y_move rfl)) rfl ?_
      refine SJ.q (YldS.yld (y_lenS Tryd.runUnderlying24 hr3 rfl)) rfl ?_
      obtain ⟨l10, h11, hm⟩ := bindS hm
      refine SJ.makeSlice (R := fBool) (z := false) h11 Tryd.underlying72 el4 rfl rfl rfl fun v12 => ?_
      refine SJ.q (YldS.yld (y_assign rfl)) rfl ?_
      refine SJ.nil ?_
      refine PJ.next ?_
      refine WJ.seq ?_
      refine WJ.reg ?_
      refine SJ.buildSlice (R := fI64) (os := []) [] Tryd.runUnderlying26 Tryd.sizeOf2 Tryd.zeroValue2 rfl rfl rfl rfl rfl rfl fun v13 => ?_
      refine SJ.q (YldS.yld (y_assign rfl)) rfl ?_
      refine SJ.nil ?_
      refine PJ.next ?_
      obtain ⟨kj16, hk17, hm⟩ := withK_open hm
      refine WJ.join (X := (List Int) × Value) (fun (x : (List Int) × Value) => kj16 x.1 = some r) (fun (x : (List Int) × Value) => [(5, x.2)]) (fun (x : (List Int) × Value) => [row x.2 2 fI64 x.1]) ?_ ?_
      · clear hk17
        refine WJ.block ?_
        refine WJ.sel (L' := (fun (x : (List Int) × Value × (List Bool)) => [row x.2.1 2 fI64 x.1, row v12 4 fBool x.2.2]) ([], v13, l10)) [0, 1] ⟨by decide, rfl⟩ ?_
        refine WJ.sub (m' := (fun (x : (List Int) × Value × (List Bool)) => [(0, v2), (4, v12), (5, x.2.1)]) ([], v13, l10)) ⟨rfl, rfl, rfl, trivial⟩ ?_
        refine WJ.loop (X := (List Int) × Value × (List Bool)) (fun N (x : (List Int) × Value × (List Bool)) => i_LessonOrder_l1 kj16 list1 N x.1 x.2.2 = some r) (fun (x : (List Int) × Value × (List Bool)) => [(0, v2), (4, v12), (5, x.2.1)]) (fun (x : (List Int) × Value × (List Bool)) => [row x.2.1 2 fI64 x.1, row v12 4 fBool x.2.2]) ?_ N ([], v13, l10) hm
        · rintro N ⟨l18, v19, l20⟩ hI
          have hm := hI; clear hI
          cases N with
          | zero => cases hm
          | succ N =>
          unfold i_LessonOrder_l1 at hm
          refine WJ.seq ?_
          refine WJ.seq ?_
          refine WJ.quiet ?_
          refine QJ.step (YldS.yld (y_move rfl)) rfl ?_
          refine QJ.step (YldS.yld (y_lenRow (k := 0) rfl Tryd.runUnderlying26 rfl)) rfl ?_
          refine QJ.step (YldS.yld (y_move rfl)) rfl ?_
          refine QJ.step (YldS.yld (y_lenS Tryd.runUnderlying24 hr3 rfl)) rfl ?_
          refine QJ.step (YldS.yld (y_bin rfl rfl rfl)) rfl ?_
          refine QJ.done ?_
          refine PJ.next ?_
          refine WJ.cond (t := decide ((List.length l18 : Int) < (List.length list1 : Int))) rfl (fun hb21 => ?_) (fun hb21 => ?_)
          · replace hm := ifT hm hb21
            refine WJ.skip ?_
            refine PJ.next ?_
            refine WJ.block ?_
            refine WJ.seq ?_
            refine WJ.quiet ?_
            refine QJ.step (YldS.yld (y_assign rfl)) rfl ?_
            refine QJ.done ?_
            refine PJ.next ?_
            obtain ⟨kj23, hk24, hm⟩ := withK_open hm
            refine WJ.join (X := Int) (fun (x : Int) => kj23 x = some r) (fun (x : Int) => [(0, v2), (4, v12), (5, v19), (6, .int .i64 x)]) (fun (x : Int) => [row v19 2 fI64 l18, row v12 4 fBool l20]) ?_ ?_
            · clear hk24
              refine WJ.seq ?_
              refine WJ.quiet ?_
              refine QJ.step (YldS.yld (y_move rfl)) rfl ?_
              refine QJ.step (YldS.yld (y_lenS Tryd.runUnderlying24 hr3 rfl)) rfl ?_
              refine QJ.step (YldS.yld (y_move rfl)) rfl ?_
              refine QJ.done ?_
              refine PJ.next ?_
              refine WJ.block ?_
              refine WJ.sel (L' := (fun (x : Int × Int) => [row v19 2 fI64 l18, row v12 4 fBool l20]) ((-1), 0)) [0, 1] ⟨by decide, rfl⟩ ?_
              refine WJ.sub (m' := (fun (x : Int × Int) => [(0, v2), (4, v12), (5, v19), (6, .int .i64 x.1), (24, v2), (25, .int .i64 (List.length list1 : Int)), (26, .int .i64 x.2)]) ((-1), 0)) ⟨rfl, rfl, rfl, rfl, rfl, rfl, rfl, trivial⟩ ?_
              refine WJ.loop (X := Int × Int) (fun N (x : Int × Int) => i_LessonOrder_l2 kj23 list1 l20 N x.1 x.2 = some r) (fun (x : Int × Int) => [(0, v2), (4, v12), (5, v19), (6, .int .i64 x.1), (24, v2), (25, .int .i64 (List.length list1 : Int)), (26, .int .i64 x.2)]) (fun (x : Int × Int) => [row v19 2 fI64 l18, row v12 4 fBool l20]) ?_ N ((-1), 0) hm
              · rintro N ⟨best25, x26⟩ hI
                have hm := hI; clear hI
                cases N with
                | zero => cases hm
                | succ N =>
                unfold i_LessonOrder_l2 at hm
                refine WJ.seq ?_
                refine WJ.quiet ?_
                refine QJ.step (YldS.yld (y_bin rfl rfl rfl)) rfl ?_
                refine QJ.done ?_
                refine PJ.next ?_
                refine WJ.seq ?_
                refine WJ.cond (t := decide (x26 < (List.length list1 : Int))) rfl (fun hb27 => ?_) (fun hb27 => ?_)
                · replace hm := ifT hm hb27
                  refine WJ.skip ?_
                  refine PJ.next ?_
                  obtain ⟨kj29, hk30, hm⟩ := withK_open hm
                  refine WJ.join (X := Int) (fun (x : Int) => kj29 x = some r) (fun (x : Int) => [(0, v2), (4, v12), (5, v19), (6, .int .i64 x), (24, v2), (25, .int .i64 (List.length list1 : Int)), (26, .int .i64 x26)]) (fun (x : Int) => [row v19 2 fI64 l18, row v12 4 fBool l20]) ?_ ?_
                  · clear hk30
                    refine WJ.block ?_
                    refine WJ.seq ?_
                    refine WJ.reg ?_
                    refine SJ.q (YldS.yld (y_move rfl)) rfl ?_
                    obtain ⟨e31, h32, hm⟩ := bindS hm
                    obtain ⟨ad33, _, ⟨v36, rfl, hr37⟩, ha34, hy35⟩ := hr3.elem h32
                    refine SJ.q (YldS.yld (hy35 Tryd.runUnderlying24 Tryd.sizeOf47 rfl rfl)) rfl ?_
                    refine SJ.q (YldS.yld (y_loadN Tryd.isAgg47 Tryd.sizeOf47 rfl ha34 St.frozenC rfl)) rfl ?_
                    refine SJ.alloc (cs := [str [], str [], .slice none 0 0, .int .i64 0]) Tryd.zeroValue47 rfl rfl fun g38 => ?_
                    refine SJ.nil_row 2 fI64 ?_
                    refine SJ.q (YldS.yld (y_assign rfl)) rfl ?_
                    have hc39 := And.intro (RdS.cells1 hr37) (RdS.one1 hr37)
                    refine SJ.storeL (k := 1) (off := 0) (us := [str e31.name, str e31.letters, v36, .int .i64 e31.hours]) rfl rfl rfl rfl Tryd.sizeOf47 rfl (by simp only [List.all_cons, hc39.2]; rfl) ?_
                    refine SJ.nil ?_
                    refine PJ.next ?_
                    refine WJ.seq ?_
                    refine WJ.quiet_draw follows (by kernel_rfl) ?_
                    refine QJ.step (YldS.yld (y_move rfl)) rfl ?_
                    refine QJ.step (YldS.yld (y_move rfl)) rfl ?_
                    obtain ⟨e40, h41, hm⟩ := bindS hm
                    refine QJ.step (YldS.yld (y_ixRow (k := 3) (R := fBool) rfl Tryd.runUnderlying72 Tryd.sizeOf4 rfl rfl h41)) rfl ?_
                    refine QJ.step (YldS.yld (y_loadR (k := 3) (i := (Int.toNat x26)) (off := 0) (u := .bool e40) rfl Tryd.isAgg4 rfl (idx_get h41) rfl)) rfl ?_
                    refine QJ.step (YldS.yld (y_not rfl)) rfl ?_
                    refine QJ.step (YldS.yld (y_move rfl)) rfl ?_
                    obtain ⟨t42, h43, hm⟩ := bindS hm
                    refine QJ.cut 5 [(0, v2), (4, v12), (5, v19), (6, .int .i64 best25), (7, .int .i64 x26), (8, pt g38 0), (24, v2), (25, .int .i64 (List.length list1 : Int)), (26, .int .i64 x26), (41, .bool t42)] ?_ ?_
                    · rcases Bool.eq_false_or_eq_true (!e40) with hb44 | hb44
                      · replace h43 := andT h43 hb44
                        refine QJ.on rfl rfl (cB hb44) (YldS.yld (y_fldB (o := 0) fld47_2 rfl)) rfl ?_
                        refine QJ.on rfl rfl (cB hb44) (YldS.yld (y_loadB (k := 1) (off := 2) (v := v36) rfl Tryd.isAgg26 rfl rfl)) rfl ?_
                        refine QJ.on rfl rfl (cB hb44) (YldS.yld (y_move rfl)) rfl ?_
                        obtain ⟨r45, h46, h43⟩ := bindS h43
                        refine QJ.on rfl rfl (cB hb44) (y_call Tryd.call51 rfl (RetG.quiet fun w hw => ok_i_allIn h46 w _ (hr37.st hw) _ (hw.row_rd (k := 3) rfl))) rfl ?_
                        refine QJ.step (YldS.yld (y_pick_t (cB hb44) rfl)) rfl ?_
                        obtain rfl := Option.some.inj h43
                        exact QJ.cut_end ⟨rfl, rfl, rfl, rfl, rfl, rfl, rfl, rfl, rfl, rfl, trivial⟩
                      · obtain rfl := andF h43 hb44
                        refine QJ.off rfl rfl (cB hb44) rfl rfl ?_
                        refine QJ.off rfl rfl (cB hb44) rfl rfl ?_
                        refine QJ.off rfl rfl (cB hb44) rfl rfl ?_
                        refine QJ.off rfl rfl (cB hb44) rfl rfl ?_
                        refine QJ.step (YldS.yld (y_pick_f (cB hb44) rfl)) rfl ?_
                        exact QJ.cut_end ⟨rfl, rfl, rfl, rfl, rfl, rfl, rfl, rfl, rfl, rfl, trivial⟩
                    refine QJ.step (YldS.yld (y_move rfl)) rfl ?_
                    obtain ⟨t47, h48, hm⟩ := bindS hm
                    refine QJ.cut 13 [(0, v2), (4, v12), (5, v19), (6, .int .i64 best25), (7, .int .i64 x26), (24, v2), (25, .int .i64 (List.length list1 : Int)), (26, .int .i64 x26), (55, .bool t47)] ?_ ?_
                    · rcases Bool.eq_false_or_eq_true t42 with hb49 | hb49
                      · replace h48 := andT h48 hb49
                        refine QJ.on rfl rfl (cB hb49) (YldS.yld (y_move rfl)) rfl ?_
                        refine QJ.on rfl rfl (cB hb49) (YldS.yld (y_bin rfl rfl rfl)) rfl ?_
                        refine QJ.on rfl rfl (cB hb49) (YldS.yld (y_move rfl)) rfl ?_
                        obtain ⟨t50, h51, h48⟩ := bindS h48
                        refine QJ.cut 9 [(0, v2), (4, v12), (5, v19), (6, .int .i64 best25), (7, .int .i64 x26), (24, v2), (25, .int .i64 (List.length list1 : Int)), (26, .int .i64 x26), (42, .bool t42), (54, .bool t50)] ?_ ?_
                        · rcases Bool.eq_false_or_eq_true (decide (best25 < 0)) with hb52 | hb52
                          · obtain rfl := orT h51 hb52
                            refine QJ.off rfl rfl (cB hb52) rfl rfl ?_
                            refine QJ.off rfl rfl (cB hb52) rfl rfl ?_
                            refine QJ.off rfl rfl (cB hb52) rfl rfl ?_
                            refine QJ.off rfl rfl (cB hb52) rfl rfl ?_
                            refine QJ.off rfl rfl (cB hb52) rfl rfl ?_
                            refine QJ.off rfl rfl (cB hb52) rfl rfl ?_
                            refine QJ.off rfl rfl (cB hb52) rfl rfl ?_
                            refine QJ.off rfl rfl (cB hb52) rfl rfl ?_
                            refine QJ.on rfl rfl (cB hb49) (YldS.yld (y_pick_t (cB hb52) rfl)) rfl ?_
                            exact QJ.cut_end ⟨rfl, rfl, rfl, rfl, rfl, rfl, rfl, rfl, rfl, rfl, trivial⟩
                          · replace h51 := orF h51 hb52
                            refine QJ.on rfl rfl (cB hb52) (YldS.yld (y_fldB (o := 0) fld47_3 rfl)) rfl ?_
                            refine QJ.on rfl rfl (cB hb52) (YldS.yld (y_loadB (k := 1) (off := 3) (v := .int .i64 e31.hours) rfl Tryd.isAgg2 rfl rfl)) rfl ?_
                            refine QJ.on rfl rfl (cB hb52) (YldS.yld (y_move rfl)) rfl ?_
                            refine QJ.on rfl rfl (cB hb52) (YldS.yld (y_move rfl)) rfl ?_
                            obtain ⟨e53, h54, h51⟩ := bindS h51
                            obtain ⟨ad55, _, ⟨v58, rfl, hr59⟩, ha56, hy57⟩ := hr3.elem h54
                            refine QJ.on rfl rfl (cB hb52) (YldS.yld (hy57 Tryd.runUnderlying24 Tryd.sizeOf47 rfl rfl)) rfl ?_
                            refine QJ.on rfl rfl (cB hb52) (YldS.yld (y_fld (ad := ad55) fld47_3 rfl)) rfl ?_
                            refine QJ.on rfl rfl (cB hb52) (YldS.yld (y_load1 (v := .int .i64 e53.hours) Tryd.isAgg2 (ha56.sub 3 1) St.frozenC rfl)) rfl ?_
                            refine QJ.on rfl rfl (cB hb52) (YldS.yld (y_bin rfl rfl rfl)) rfl ?_
                            refine QJ.on rfl rfl (cB hb49) (YldS.yld (y_pick_f (cB hb52) rfl)) rfl ?_
                            obtain rfl := Option.some.inj h51
                            exact QJ.cut_end ⟨rfl, rfl, rfl, rfl, rfl, rfl, rfl, rfl, rfl, rfl, trivial⟩
                        refine QJ.step (YldS.yld (y_pick_t (cB hb49) rfl)) rfl ?_
                        obtain rfl := Option.some.inj h48
                        exact QJ.cut_end ⟨rfl, rfl, rfl, rfl, rfl, rfl, rfl, rfl, rfl, trivial⟩
                      · obtain rfl := andF h48 hb49
                        refine QJ.off rfl rfl (cB hb49) rfl rfl ?_
                        refine QJ.off rfl rfl (cB hb49) rfl rfl ?_
                        refine QJ.off rfl rfl (cB hb49) rfl rfl ?_
                        refine QJ.off_undef rfl rfl rfl rfl ?_
                        refine QJ.off_undef rfl rfl rfl rfl ?_
                        refine QJ.off_undef rfl rfl rfl rfl ?_
                        refine QJ.off_undef rfl rfl rfl rfl ?_
                        refine QJ.off_undef rfl rfl rfl rfl ?_
                        refine QJ.off_undef rfl rfl rfl rfl ?_
                        refine QJ.off_undef rfl rfl rfl rfl ?_
                        refine QJ.off_undef rfl rfl rfl rfl ?_
                        refine QJ.off rfl rfl (cB hb49) rfl rfl ?_
                        refine QJ.step (YldS.yld (y_pick_f (cB hb49) rfl)) rfl ?_
                        exact QJ.cut_end ⟨rfl, rfl, rfl, rfl, rfl, rfl, rfl, rfl, rfl, trivial⟩
                    refine QJ.done ?_
                    refine PJ.next ?_
                    refine WJ.cond (t := t47) rfl (fun hb60 => ?_) (fun hb60 => ?_)
                    · replace hm := ifT hm hb60
                      refine WJ.quiet ?_
                      refine QJ.step (YldS.yld (y_move rfl)) rfl ?_
                      refine QJ.step (YldS.yld (y_assign rfl)) rfl ?_
                      refine QJ.done ?_
                      refine PJ.block_normal ?_
                      exact PJ.joined x26 [2, 3] hm ⟨rfl, rfl, rfl, rfl, rfl, rfl, rfl, trivial⟩ ⟨by decide, rfl⟩
                    · replace hm := ifF hm hb60
                      refine WJ.skip ?_
                      refine PJ.block_normal ?_
                      exact PJ.joined best25 [2, 3] hm ⟨rfl, rfl, rfl, rfl, rfl, rfl, rfl, trivial⟩ ⟨by decide, rfl⟩
                  · rintro best28 hm
                    subst hk30
                    refine WJ.quiet ?_
                    refine QJ.step (YldS.yld (y_bin rfl rfl rfl)) rfl ?_
                    refine QJ.step (YldS.yld (y_move rfl)) rfl ?_
                    refine QJ.done ?_
                    exact PJ.round (best28, w64 (x26 + 1)) [0, 1] hm ⟨rfl, rfl, rfl, rfl, rfl, rfl, rfl, trivial⟩ ⟨by decide, rfl⟩
                · replace hm := ifF hm hb27
                  refine WJ.exit ?_
                  refine PJ.then_exit (PJ.then_exit (PJ.block_exit ?_))
                  exact PJ.joined best25 [0, 1] hm ⟨rfl, rfl, rfl, rfl, trivial⟩ ⟨by decide, rfl⟩
            · rintro best22 hm
              subst hk24
              refine WJ.seq ?_
              refine WJ.reg ?_
              refine SJ.q (YldS.yld (y_move rfl)) rfl ?_
              refine SJ.q (YldS.yld (y_move rfl)) rfl ?_
              obtain ⟨e61, h62, hm⟩ := bindS hm
              refine SJ.q (YldS.yld (y_ixRow (k := 1) (R := fBool) rfl Tryd.runUnderlying72 Tryd.sizeOf4 rfl rfl h62)) rfl ?_
              refine SJ.storeRL (k := 1) (i := (Int.toNat best22)) (off := 0) (us := [.bool true]) (b := true) rfl rfl (idx_get h62) rfl rfl Tryd.sizeOf4 rfl rfl rfl ?_
              refine SJ.nil ?_
              refine PJ.next ?_
              refine WJ.reg ?_
              refine SJ.q (YldS.yld (y_move rfl)) rfl ?_
              refine SJ.q (YldS.yld (y_move rfl)) rfl ?_
              refine SJ.buildSlice (R := fI64) (os := [.tmp 62]) [best22] Tryd.runUnderlying26 Tryd.sizeOf2 Tryd.zeroValue2 rfl rfl rfl rfl rfl rfl fun v63 => ?_
              obtain ⟨l64, h65, hm⟩ := bindS hm
              refine SJ.append (k := 1) (R := fI64) h65 rfl Tryd.underlying26 el2 rfl rfl rfl (fun w hw => (hw.row_rd (k := 0) rfl)) rfl fun v66 => ?_
              refine SJ.q (YldS.yld (y_assign rfl)) rfl ?_
              refine SJ.nil ?_
              refine PJ.block_normal ?_
              exact PJ.round (l64, v66, (List.set l20 (Int.toNat best22) true)) [1, 2] hm ⟨rfl, rfl, rfl, trivial⟩ ⟨by decide, rfl⟩
          · replace hm := ifF hm hb21
            refine WJ.exit ?_
            refine PJ.then_exit (PJ.then_exit (PJ.block_exit ?_))
            exact PJ.joined (l18, v19) [0] hm ⟨rfl, trivial⟩ ⟨by decide, rfl⟩
      · rintro ⟨l14, v15⟩ hm
        subst hk17
        refine WJ.seq ?_
        refine WJ.quiet ?_
        refine QJ.step (YldS.yld (y_move rfl)) rfl ?_
        refine QJ.step (YldS.yld (y_assign rfl)) rfl ?_
        refine QJ.step (YldS.yld (y_assign rfl)) rfl ?_
        refine QJ.done ?_
        refine PJ.next ?_
        refine WJ.ret ?_
        obtain rfl := Option.some.inj hm
        refine PJ.sel (L' := [row v15 2 fI64 l14]) [0] ⟨by decide, rfl⟩ ?_
        exact PJ.retn (vs := [v15, .int .i64 0]) Tryd.results7 ⟨rfl, rfl, trivial⟩ ⟨_, rfl, rfl⟩

set_option maxRecDepth 100000 in
set_option maxHeartbeats 1000000 in
theorem ok_s_l01Small {c1 : UInt8} {r : Bool} (hm : s_l01Small c1 = some r) (w : World)  :
    Calls Tryd.prog 111 #[.int .u8 (UInt8.toNat c1 : Int)] w (Ret (cx w) (.bool r)) := by
  unfold s_l01Small at hm
  refine Calls.enter [.int .u8 (UInt8.toNat c1 : Int)] Tryd.func111 rfl Tryd.ntmps111 rfl ?_
  refine WJ.seq ?_
  refine WJ.quiet ?_
  refine QJ.step (YldS.yld (y_assign rfl)) rfl ?_
  refine QJ.done ?_
  refine PJ.next ?_
  refine WJ.seq ?_
  refine WJ.quiet ?_
  refine QJ.step (YldS.yld (y_move rfl)) rfl ?_
  refine QJ.step (YldS.yld (y_bin8 c1 (97 : UInt8) rfl rfl rfl)) rfl ?_
  refine QJ.step (YldS.yld (y_move rfl)) rfl ?_
  obtain ⟨t2, h3, hm⟩ := bindS hm
  refine QJ.cut 3 [(8, .bool t2)] ?_ ?_
  · rcases Bool.eq_false_or_eq_true (decide (c1 ≥ (97 : UInt8))) with hb4 | hb4
    · replace h3 := andT h3 hb4
      refine QJ.on rfl rfl (cB hb4) (YldS.yld (y_move rfl)) rfl ?_
      refine QJ.on rfl rfl (cB hb4) (YldS.yld (y_bin8 c1 (122 : UInt8) rfl rfl rfl)) rfl ?_
      refine QJ.step (YldS.yld (y_pick_t (cB hb4) rfl)) rfl ?_
      obtain rfl := Option.some.inj h3
      exact QJ.cut_end ⟨rfl, trivial⟩
    · obtain rfl := andF h3 hb4
      refine QJ.off rfl rfl (cB hb4) rfl rfl ?_
      refine QJ.off rfl rfl (cB hb4) rfl rfl ?_
      refine QJ.step (YldS.yld (y_pick_f (cB hb4) rfl)) rfl ?_
      exact QJ.cut_end ⟨rfl, trivial⟩
  refine QJ.step (YldS.yld (y_assign rfl)) rfl ?_
  refine QJ.done ?_
  refine PJ.next ?_
  refine WJ.ret ?_
  obtain rfl := Option.some.inj hm
  refine PJ.sel (L' := []) [] ⟨List.nodup_nil, rfl⟩ ?_
  exact PJ.retn (vs := [.bool t2]) Tryd.results111 ⟨rfl, trivial⟩ ⟨rfl, rfl⟩

set_option maxRecDepth 100000 in
set_option maxHeartbeats 1000000 in
theorem ok_s_l01Digit {c1 : UInt8} {r : Bool} (hm : s_l01Digit c1 = some r) (w : World)  :
    Calls Tryd.prog 112 #[.int .u8 (UInt8.toNat c1 : Int)] w (Ret (cx w) (.bool r)) := by
  unfold s_l01Digit at hm
  refine Calls.enter [.int .u8 (UInt8.toNat c1 : Int)] Tryd.func112 rfl Tryd.ntmps112 rfl ?_
  refine WJ.seq ?_
  refine WJ.quiet ?_
  refine QJ.step (YldS.yld (y_assign rfl)) rfl ?_
  refine QJ.done ?_
  refine PJ.next ?_
  refine WJ.seq ?_
  refine WJ.quiet ?_
  refine QJ.step (YldS.yld (y_move rfl)) rfl ?_
  refine QJ.step (YldS.yld (y_bin8 c1 (48 : UInt8) rfl rfl rfl)) rfl ?_
  refine QJ.step (YldS.yld (y_move rfl)) rfl ?_
  obtain ⟨t2, h3, hm⟩ := bindS hm
  refine QJ.cut 3 [(8, .bool t2)] ?_ ?_
  · rcases Bool.eq_false_or_eq_true (decide (c1 ≥ (48 : UInt8))) with hb4 | hb4
    · replace h3 := andT h3 hb4
      refine QJ.on rfl rfl (cB hb4) (YldS.yld (y_move rfl)) rfl ?_
      refine QJ.on rfl rfl (cB hb4) (YldS.yld (y_bin8 c1 (57 : UInt8) rfl rfl rfl)) rfl ?_
      refine QJ.step (YldS.yld (y_pick_t (cB hb4) rfl)) rfl ?_
      obtain rfl := Option.some.inj h3
      exact QJ.cut_end ⟨rfl, trivial⟩
    · obtain rfl := andF h3 hb4
      refine QJ.off rfl rfl (cB hb4) rfl rfl ?_
      refine QJ.off rfl rfl (cB hb4) rfl rfl ?_
      refine QJ.step (YldS.yld (y_pick_f (cB hb4) rfl)) rfl ?_
      exact QJ.cut_end ⟨rfl, trivial⟩
  refine QJ.step (YldS.yld (y_assign rfl)) rfl ?_
  refine QJ.done ?_
  refine PJ.next ?_
  refine WJ.ret ?_
  obtain rfl := Option.some.inj hm
  refine PJ.sel (L' := []) [] ⟨List.nodup_nil, rfl⟩ ?_
  exact PJ.retn (vs := [.bool t2]) Tryd.results112 ⟨rfl, trivial⟩ ⟨rfl, rfl⟩

set_option maxRecDepth 100000 in
set_option maxHeartbeats 1000000 in
theorem ok_s_IsName {N : Nat} {s1 : Str} {r : Bool} (hm : s_IsName N s1 = some r) (w : World)  :
    Calls Tryd.prog 94 #[str s1] w (Ret (cx w) (.bool r)) := by
  unfold s_IsName at hm
  refine Calls.enter [str s1] Tryd.func94 rfl Tryd.ntmps94 rfl ?_
  refine WJ.seq ?_
  refine WJ.quiet ?_
  refine QJ.step (YldS.yld (y_assign rfl)) rfl ?_
  refine QJ.done ?_
  refine PJ.next ?_
  refine WJ.seq ?_
  refine WJ.seq ?_
  refine WJ.quiet ?_
  refine QJ.step (YldS.yld (y_move rfl)) rfl ?_
  refine QJ.step (YldS.yld (y_binS rfl rfl rfl)) rfl ?_
  refine QJ.step (YldS.yld (y_move rfl)) rfl ?_
  obtain ⟨t2, h3, hm⟩ := bindS hm
  refine QJ.cut 4 [(0, str s1), (10, .bool t2)] ?_ ?_
  · rcases Bool.eq_false_or_eq_true (s1 == []) with hb4 | hb4
    · obtain rfl := orT h3 hb4
      refine QJ.off rfl rfl (cB hb4) rfl rfl ?_
      refine QJ.off rfl rfl (cB hb4) rfl rfl ?_
      refine QJ.off rfl rfl (cB hb4) rfl rfl ?_
      refine QJ.step (YldS.yld (y_pick_t (cB hb4) rfl)) rfl ?_
      exact QJ.cut_end ⟨rfl, rfl, trivial⟩
    · replace h3 := orF h3 hb4
      refine QJ.on rfl rfl (cB hb4) (YldS.yld (y_move rfl)) rfl ?_
      refine QJ.on rfl rfl (cB hb4) (YldS.yld (y_lenStr Tryd.runUnderlying9 rfl)) rfl ?_
      refine QJ.on rfl rfl (cB hb4) (YldS.yld (y_bin rfl rfl rfl)) rfl ?_
      refine QJ.step (YldS.yld (y_pick_f (cB hb4) rfl)) rfl ?_
      obtain rfl := Option.some.inj h3
      exact QJ.cut_end ⟨rfl, rfl, trivial⟩
  refine QJ.step (YldS.yld (y_move rfl)) rfl ?_
  obtain ⟨t5, h6, hm⟩ := bindS hm
  refine QJ.cut 5 [(0, str s1), (16, .bool t5)] ?_ ?_
  · rcases Bool.eq_false_or_eq_true t2 with hb7 | hb7
    · obtain rfl := orT h6 hb7
      refine QJ.off rfl rfl (cB hb7) rfl rfl ?_
      refine QJ.off rfl rfl (cB hb7) rfl rfl ?_
      refine QJ.off rfl rfl (cB hb7) rfl rfl ?_
      refine QJ.off rfl rfl (cB hb7) rfl rfl ?_
      refine QJ.step (YldS.yld (y_pick_t (cB hb7) rfl)) rfl ?_
      exact QJ.cut_end ⟨rfl, rfl, trivial⟩
    · replace h6 := orF h6 hb7
      refine QJ.on rfl rfl (cB hb7) (YldS.yld (y_move rfl)) rfl ?_
      obtain ⟨c8, h9, h6⟩ := bindS h6
      refine QJ.on rfl rfl (cB hb7) (YldS.yld (y_idxStr Tryd.runUnderlying9 rfl rfl h9)) rfl ?_
      obtain ⟨r10, h11, h6⟩ := bindS h6
      refine QJ.on rfl rfl (cB hb7) (y_call Tryd.call111 rfl (RetG.quiet fun w hw => ok_s_l01Small h11 w )) rfl ?_
      refine QJ.on rfl rfl (cB hb7) (YldS.yld (y_not rfl)) rfl ?_
      refine QJ.step (YldS.yld (y_pick_f (cB hb7) rfl)) rfl ?_
      obtain rfl := Option.some.inj h6
      exact QJ.cut_end ⟨rfl, rfl, trivial⟩
  refine QJ.done ?_
  refine PJ.next ?_
  refine WJ.cond (t := t5) rfl (fun hb12 => ?_) (fun hb12 => ?_)
  · replace hm := ifT hm hb12
    refine WJ.seq ?_
    refine WJ.quiet ?_
    refine QJ.step (YldS.yld (y_assign rfl)) rfl ?_
    refine QJ.done ?_
    refine PJ.next ?_
    refine WJ.ret ?_
    refine PJ.then_ret ?_
    obtain rfl := Option.some.inj hm
    refine PJ.sel (L' := []) [] ⟨List.nodup_nil, rfl⟩ ?_
    exact PJ.retn (vs := [.bool false]) Tryd.results94 ⟨rfl, trivial⟩ ⟨rfl, rfl⟩
  · replace hm := ifF hm hb12
    refine WJ.skip ?_
    refine PJ.next ?_
    obtain ⟨kj13, hk14, hm⟩ := withK_open hm
    refine WJ.join (X := Unit) (fun (_ : Unit) => kj13  = some r) (fun (_ : Unit) => []) (fun (_ : Unit) => []) ?_ ?_
    · clear hk14
      refine WJ.seq ?_
      refine WJ.quiet ?_
      refine QJ.step (YldS.yld (y_assign rfl)) rfl ?_
      refine QJ.done ?_
      refine PJ.next ?_
      refine WJ.block ?_
      refine WJ.sel (L' := (fun (x : Int) => []) 0) [] ⟨List.nodup_nil, rfl⟩ ?_
      refine WJ.sub (m' := (fun (x : Int) => [(0, str s1), (3, .int .i64 x)]) 0) ⟨rfl, rfl, trivial⟩ ?_
      refine WJ.loop (X := Int) (fun N (x : Int) => s_IsName_l1 kj13 s1 N x = some r) (fun (x : Int) => [(0, str s1), (3, .int .i64 x)]) (fun (x : Int) => []) ?_ N 0 hm
      · rintro N i15 hI
        have hm := hI; clear hI
        cases N with
        | zero => cases hm
        | succ N =>
        unfold s_IsName_l1 at hm
        refine WJ.seq ?_
        refine WJ.seq ?_
        refine WJ.quiet ?_
        refine QJ.step (YldS.yld (y_move rfl)) rfl ?_
        refine QJ.step (YldS.yld (y_move rfl)) rfl ?_
        refine QJ.step (YldS.yld (y_lenStr Tryd.runUnderlying9 rfl)) rfl ?_
        refine QJ.step (YldS.yld (y_bin rfl rfl rfl)) rfl ?_
        refine QJ.done ?_
        refine PJ.next ?_
        refine WJ.cond (t := decide (i15 < (List.length s1 : Int))) rfl (fun hb16 => ?_) (fun hb16 => ?_)
        · replace hm := ifT hm hb16
          refine WJ.skip ?_
          refine PJ.next ?_
          refine WJ.seq ?_
          refine WJ.block ?_
          refine WJ.seq ?_
          refine WJ.quiet ?_
          refine QJ.step (YldS.yld (y_move rfl)) rfl ?_
          refine QJ.step (YldS.yld (y_move rfl)) rfl ?_
          obtain ⟨c17, h18, hm⟩ := bindS hm
          refine QJ.step (YldS.yld (y_idxStr Tryd.runUnderlying9 rfl rfl h18)) rfl ?_
          obtain ⟨r19, h20, hm⟩ := bindS hm
          refine QJ.step (y_call Tryd.call111 rfl (RetG.quiet fun w hw => ok_s_l01Small h20 w )) rfl ?_
          refine QJ.step (YldS.yld (y_not rfl)) rfl ?_
          refine QJ.step (YldS.yld (y_move rfl)) rfl ?_
          obtain ⟨t21, h22, hm⟩ := bindS hm
          refine QJ.cut 6 [(0, str s1), (3, .int .i64 i15), (34, .bool t21)] ?_ ?_
          · rcases Bool.eq_false_or_eq_true (!r19) with hb23 | hb23
            · replace h22 := andT h22 hb23
              refine QJ.on rfl rfl (cB hb23) (YldS.yld (y_move rfl)) rfl ?_
              refine QJ.on rfl rfl (cB hb23) (YldS.yld (y_move rfl)) rfl ?_
              obtain ⟨c24, h25, h22⟩ := bindS h22
              refine QJ.on rfl rfl (cB hb23) (YldS.yld (y_idxStr Tryd.runUnderlying9 rfl rfl h25)) rfl ?_
              obtain ⟨r26, h27, h22⟩ := bindS h22
              refine QJ.on rfl rfl (cB hb23) (y_call Tryd.call112 rfl (RetG.quiet fun w hw => ok_s_l01Digit h27 w )) rfl ?_
              refine QJ.on rfl rfl (cB hb23) (YldS.yld (y_not rfl)) rfl ?_
              refine QJ.step (YldS.yld (y_pick_t (cB hb23) rfl)) rfl ?_
              obtain rfl := Option.some.inj h22
              exact QJ.cut_end ⟨rfl, rfl, rfl, trivial⟩
            · obtain rfl := andF h22 hb23
              refine QJ.off rfl rfl (cB hb23) rfl rfl ?_
              refine QJ.off rfl rfl (cB hb23) rfl rfl ?_
              refine QJ.off rfl rfl (cB hb23) rfl rfl ?_
              refine QJ.off rfl rfl (cB hb23) rfl rfl ?_
              refine QJ.off rfl rfl (cB hb23) rfl rfl ?_
              refine QJ.step (YldS.yld (y_pick_f (cB hb23) rfl)) rfl ?_
              exact QJ.cut_end ⟨rfl, rfl, rfl, trivial⟩
          refine QJ.step (YldS.yld (y_move rfl)) rfl ?_
          obtain ⟨t28, h29, hm⟩ := bindS hm
          refine QJ.cut 5 [(0, str s1), (3, .int .i64 i15), (40, .bool t28)] ?_ ?_
          · rcases Bool.eq_false_or_eq_true t21 with hb30 | hb30
            · replace h29 := andT h29 hb30
              refine QJ.on rfl rfl (cB hb30) (YldS.yld (y_move rfl)) rfl ?_
              refine QJ.on rfl rfl (cB hb30) (YldS.yld (y_move rfl)) rfl ?_
              obtain ⟨c31, h32, h29⟩ := bindS h29
              refine QJ.on rfl rfl (cB hb30) (YldS.yld (y_idxStr Tryd.runUnderlying9 rfl rfl h32)) rfl ?_
              refine QJ.on rfl rfl (cB hb30) (YldS.yld (y_bin8 c31 (45 : UInt8) rfl rfl rfl)) rfl ?_
              refine QJ.step (YldS.yld (y_pick_t (cB hb30) rfl)) rfl ?_
              obtain rfl := Option.some.inj h29
              exact QJ.cut_end ⟨rfl, rfl, rfl, trivial⟩
            · obtain rfl := andF h29 hb30
              refine QJ.off rfl rfl (cB hb30) rfl rfl ?_
              refine QJ.off rfl rfl (cB hb30) rfl rfl ?_
              refine QJ.off rfl rfl (cB hb30) rfl rfl ?_
              refine QJ.off rfl rfl (cB hb30) rfl rfl ?_
              refine QJ.step (YldS.yld (y_pick_f (cB hb30) rfl)) rfl ?_
              exact QJ.cut_end ⟨rfl, rfl, rfl, trivial⟩
          refine QJ.done ?_
          refine PJ.next ?_
          refine WJ.cond (t := t28) rfl (fun hb33 => ?_) (fun hb33 => ?_)
          · replace hm := ifT hm hb33
            refine WJ.seq ?_
            refine WJ.quiet ?_
            refine QJ.step (YldS.yld (y_assign rfl)) rfl ?_
            refine QJ.done ?_
            refine PJ.next ?_
            refine WJ.ret ?_
            refine PJ.block_ret (PJ.then_ret (PJ.then_ret (PJ.block_ret (PJ.then_ret ?_))))
            obtain rfl := Option.some.inj hm
            refine PJ.sel (L' := []) [] ⟨List.nodup_nil, rfl⟩ ?_
            exact PJ.retn (vs := [.bool false]) Tryd.results94 ⟨rfl, trivial⟩ ⟨rfl, rfl⟩
          · replace hm := ifF hm hb33
            refine WJ.skip ?_
            refine PJ.block_normal (PJ.next ?_)
            refine WJ.quiet ?_
            refine QJ.step (YldS.yld (y_move rfl)) rfl ?_
            refine QJ.step (YldS.yld (y_bin rfl rfl rfl)) rfl ?_
            refine QJ.step (YldS.yld (y_assign rfl)) rfl ?_
            refine QJ.done ?_
            exact PJ.round (w64 (i15 + 1)) [] hm ⟨rfl, rfl, trivial⟩ ⟨List.nodup_nil, rfl⟩
        · replace hm := ifF hm hb16
          refine WJ.exit ?_
          refine PJ.then_exit (PJ.then_exit (PJ.block_exit ?_))
          exact PJ.joined () [] hm trivial ⟨List.nodup_nil, rfl⟩
    · rintro _ hm
      subst hk14
      refine WJ.seq ?_
      refine WJ.quiet ?_
      refine QJ.step (YldS.yld (y_assign rfl)) rfl ?_
      refine QJ.done ?_
      refine PJ.next ?_
      refine WJ.ret ?_
      obtain rfl := Option.some.inj hm
      refine PJ.sel (L' := []) [] ⟨List.nodup_nil, rfl⟩ ?_
      exact PJ.retn (vs := [.bool true]) Tryd.results94 ⟨rfl, trivial⟩ ⟨rfl, rfl⟩

set_option maxRecDepth 100000 in
set_option maxHeartbeats 1000000 in
theorem ok_s_l02Text {N : Nat} {s1 : Str} {r : Bool} (hm : s_l02Text N s1 = some r) (w : World)  :
    Calls Tryd.prog 95 #[str s1] w (Ret (cx w) (.bool r)) := by
  unfold s_l02Text at hm
  refine Calls.enter [str s1] Tryd.func95 rfl Tryd.ntmps95 rfl ?_
  refine WJ.seq ?_
  refine WJ.quiet ?_
  refine QJ.step (YldS.yld (y_assign rfl)) rfl ?_
  refine QJ.done ?_
  refine PJ.next ?_
  obtain ⟨kj2, hk3, hm⟩ := withK_open hm
  refine WJ.join (X := Unit) (fun (_ : Unit) => kj2  = some r) (fun (_ : Unit) => [(0, str s1)]) (fun (_ : Unit) => []) ?_ ?_
  · clear hk3
    refine WJ.seq ?_
    refine WJ.quiet ?_
    refine QJ.step (YldS.yld (y_assign rfl)) rfl ?_
    refine QJ.done ?_
    refine PJ.next ?_
    refine WJ.block ?_
    refine WJ.sel (L' := (fun (x : Int) => []) 0) [] ⟨List.nodup_nil, rfl⟩ ?_
    refine WJ.sub (m' := (fun (x : Int) => [(0, str s1), (3, .int .i64 x)]) 0) ⟨rfl, rfl, trivial⟩ ?_
    refine WJ.loop (X := Int) (fun N (x : Int) => s_l02Text_l1 kj2 s1 N x = some r) (fun (x : Int) => [(0, str s1), (3, .int .i64 x)]) (fun (x : Int) => []) ?_ N 0 hm
    · rintro N i4 hI
      have hm := hI; clear hI
      cases N with
      | zero => cases hm
      | succ N =>
      unfold s_l02Text_l1 at hm
      refine WJ.seq ?_
      refine WJ.seq ?_
      refine WJ.quiet ?_
      refine QJ.step (YldS.yld (y_move rfl)) rfl ?_
      refine QJ.step (YldS.yld (y_move rfl)) rfl ?_
      refine QJ.step (YldS.yld (y_lenStr Tryd.runUnderlying9 rfl)) rfl ?_
      refine QJ.step (YldS.yld (y_bin rfl rfl rfl)) rfl ?_
      refine QJ.done ?_
      refine PJ.next ?_
      refine WJ.cond (t := decide (i4 < (List.length s1 : Int))) rfl (fun hb5 => ?_) (fun hb5 => ?_)
      · replace hm := ifT hm hb5
        refine WJ.skip ?_
        refine PJ.next ?_
        refine WJ.seq ?_
        refine WJ.block ?_
        refine WJ.seq ?_
        refine WJ.quiet ?_
        refine QJ.step (YldS.yld (y_move rfl)) rfl ?_
        refine QJ.step (YldS.yld (y_move rfl)) rfl ?_
        obtain ⟨c6, h7, hm⟩ := bindS hm
        refine QJ.step (YldS.yld (y_idxStr Tryd.runUnderlying9 rfl rfl h7)) rfl ?_
        refine QJ.step (YldS.yld (y_bin8 c6 (33 : UInt8) rfl rfl rfl)) rfl ?_
        refine QJ.step (YldS.yld (y_move rfl)) rfl ?_
        obtain ⟨t8, h9, hm⟩ := bindS hm
        refine QJ.cut 5 [(0, str s1), (3, .int .i64 i4), (19, .bool t8)] ?_ ?_
        · rcases Bool.eq_false_or_eq_true (decide (c6 < (33 : UInt8))) with hb10 | hb10
          · obtain rfl := orT h9 hb10
            refine QJ.off rfl rfl (cB hb10) rfl rfl ?_
            refine QJ.off rfl rfl (cB hb10) rfl rfl ?_
            refine QJ.off rfl rfl (cB hb10) rfl rfl ?_
            refine QJ.off rfl rfl (cB hb10) rfl rfl ?_
            refine QJ.step (YldS.yld (y_pick_t (cB hb10) rfl)) rfl ?_
            exact QJ.cut_end ⟨rfl, rfl, rfl, trivial⟩
          · replace h9 := orF h9 hb10
            refine QJ.on rfl rfl (cB hb10) (YldS.yld (y_move rfl)) rfl ?_
            refine QJ.on rfl rfl (cB hb10) (YldS.yld (y_move rfl)) rfl ?_
            obtain ⟨c11, h12, h9⟩ := bindS h9
            refine QJ.on rfl rfl (cB hb10) (YldS.yld (y_idxStr Tryd.runUnderlying9 rfl rfl h12)) rfl ?_
            refine QJ.on rfl rfl (cB hb10) (YldS.yld (y_bin8 c11 (126 : UInt8) rfl rfl rfl)) rfl ?_
            refine QJ.step (YldS.yld (y_pick_f (cB hb10) rfl)) rfl ?_
            obtain rfl := Option.some.inj h9
            exact QJ.cut_end ⟨rfl, rfl, rfl, trivial⟩
        refine QJ.done ?_
        refine PJ.next ?_
        refine WJ.cond (t := t8) rfl (fun hb13 => ?_) (fun hb13 => ?_)
        · replace hm := ifT hm hb13
          refine WJ.seq ?_
          refine WJ.quiet ?_
          refine QJ.step (YldS.yld (y_assign rfl)) rfl ?_
          refine QJ.done ?_
          refine PJ.next ?_
          refine WJ.ret ?_
          refine PJ.block_ret (PJ.then_ret (PJ.then_ret (PJ.block_ret (PJ.then_ret ?_))))
          obtain rfl := Option.some.inj hm
          refine PJ.sel (L' := []) [] ⟨List.nodup_nil, rfl⟩ ?_
          exact PJ.retn (vs := [.bool false]) Tryd.results95 ⟨rfl, trivial⟩ ⟨rfl, rfl⟩
        · replace hm := ifF hm hb13
          refine WJ.skip ?_
          refine PJ.block_normal (PJ.next ?_)
          refine WJ.quiet ?_
          refine QJ.step (YldS.yld (y_move rfl)) rfl ?_
          refine QJ.step (YldS.yld (y_bin rfl rfl rfl)) rfl ?_
          refine QJ.step (YldS.yld (y_assign rfl)) rfl ?_
          refine QJ.done ?_
          exact PJ.round (w64 (i4 + 1)) [] hm ⟨rfl, rfl, trivial⟩ ⟨List.nodup_nil, rfl⟩
      · replace hm := ifF hm hb5
        refine WJ.exit ?_
        refine PJ.then_exit (PJ.then_exit (PJ.block_exit ?_))
        exact PJ.joined () [] hm ⟨rfl, trivial⟩ ⟨List.nodup_nil, rfl⟩
  · rintro _ hm
    subst hk3
    refine WJ.seq ?_
    refine WJ.quiet ?_
    refine QJ.step (YldS.yld (y_move rfl)) rfl ?_
    refine QJ.step (YldS.yld (y_lenStr Tryd.runUnderlying9 rfl)) rfl ?_
    refine QJ.step (YldS.yld (y_bin rfl rfl rfl)) rfl ?_
    refine QJ.step (YldS.yld (y_assign rfl)) rfl ?_
    refine QJ.done ?_
    refine PJ.next ?_
    refine WJ.ret ?_
    obtain rfl := Option.some.inj hm
    refine PJ.sel (L' := []) [] ⟨List.nodup_nil, rfl⟩ ?_
    exact PJ.retn (vs := [.bool (decide ((List.length s1 : Int) ≤ 100))]) Tryd.results95 ⟨rfl, trivial⟩ ⟨rfl, rfl⟩

set_option maxRecDepth 100000 in
set_option maxHeartbeats 1000000 in
theorem ok_s_l00In {n1 : Int} {low2 : Int} {high3 : Int} {r : Bool} (hm : s_l00In n1 low2 high3 = some r) (w : World)  :
    Calls Tryd.prog 73 #[.int .i64 n1, .int .i64 low2, .int .i64 high3] w (Ret (cx w) (.bool r)) := by
  unfold s_l00In at hm
  refine Calls.enter [.int .i64 n1, .int .i64 low2, .int .i64 high3] Tryd.func73 rfl Tryd.ntmps73 rfl ?_
  refine WJ.seq ?_
  refine WJ.quiet ?_
  refine QJ.step (YldS.yld (y_assign rfl)) rfl ?_
  refine QJ.done ?_
  refine PJ.next ?_
  refine WJ.seq ?_
  refine WJ.quiet ?_
  refine QJ.step (YldS.yld (y_move rfl)) rfl ?_
  refine QJ.step (YldS.yld (y_move rfl)) rfl ?_
  refine QJ.step (YldS.yld (y_bin rfl rfl rfl)) rfl ?_
  refine QJ.step (YldS.yld (y_move rfl)) rfl ?_
  obtain ⟨t4, h5, hm⟩ := bindS hm
  refine QJ.cut 4 [(14, .bool t4)] ?_ ?_
  · rcases Bool.eq_false_or_eq_true (decide (n1 ≥ low2)) with hb6 | hb6
    · replace h5 := andT h5 hb6
      refine QJ.on rfl rfl (cB hb6) (YldS.yld (y_move rfl)) rfl ?_
      refine QJ.on rfl rfl (cB hb6) (YldS.yld (y_move rfl)) rfl ?_
      refine QJ.on rfl rfl (cB hb6) (YldS.yld (y_bin rfl rfl rfl)) rfl ?_
      refine QJ.step (YldS.yld (y_pick_t (cB hb6) rfl)) rfl ?_
      obtain rfl := Option.some.inj h5
      exact QJ.cut_end ⟨rfl, trivial⟩
    · obtain rfl := andF h5 hb6
      refine QJ.off rfl rfl (cB hb6) rfl rfl ?_
      refine QJ.off rfl rfl (cB hb6) rfl rfl ?_
      refine QJ.off rfl rfl (cB hb6) rfl rfl ?_
      refine QJ.step (YldS.yld (y_pick_f (cB hb6) rfl)) rfl ?_
      exact QJ.cut_end ⟨rfl, trivial⟩
  refine QJ.step (YldS.yld (y_assign rfl)) rfl ?_
  refine QJ.done ?_
  refine PJ.next ?_
  refine WJ.ret ?_
  obtain rfl := Option.some.inj hm
  refine PJ.sel (L' := []) [] ⟨List.nodup_nil, rfl⟩ ?_
  exact PJ.retn (vs := [.bool t4]) Tryd.results73 ⟨rfl, trivial⟩ ⟨rfl, rfl⟩

end Go.Proofs.YtbgngihmpdneaaaDoor
