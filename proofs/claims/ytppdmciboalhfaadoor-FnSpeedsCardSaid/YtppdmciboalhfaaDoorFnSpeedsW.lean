/-
  The walks: a call hands back what its plain function computes, where that has a value. No other conditions.
-/
import Derived.Test.YtppdmciboalhfaaDoorFnSpeedsM
import Derived.Test.YtppdmciboalhfaaDoorChecked
import Derived.Test.YtppdmciboalhfaaDoorRows
import Derived.Test.YtppdmciboalhfaaDoorFnSpeedsS
namespace Go.Proofs.YtppdmciboalhfaaDoor
open Go.RowKit Go.Proofs
set_option linter.unusedVariables false
set_option linter.unusedSimpArgs false

def tabNm : String := (Rows.fnSpeedsRow.laid.map (fun x => x.1)).getD 2 default

theorem follows : Tryd.prog.follows .mixedOrders = true := by kernel_rfl

def Trial.enc (x : Trial) : List Value := [.int .i64 x.strokes, .int .i64 x.errors, .int .i64 x.seconds]
def fTrial : FRp Trial := ⟨3, Trial.enc, fun _ => rfl, by decide, fun x u hu => by
  simp only [Trial.enc, List.mem_cons, List.not_mem_nil, or_false] at hu
  rcases hu with rfl | rfl | rfl <;> rfl⟩

def Fraction.enc (x : Fraction) : List Value := [.int .i64 x.num, .int .i64 x.den]
def fFraction : FRp Fraction := ⟨2, Fraction.enc, fun _ => rfl, by decide, fun x u hu => by
  simp only [Fraction.enc, List.mem_cons, List.not_mem_nil, or_false] at hu
  rcases hu with rfl | rfl <;> rfl⟩

theorem pl117 : PlacesOk Tryd.prog 117 [(0, 1), (1, 1), (2, 1)] := ⟨_, Tryd.runUnderlying117, fun w => by simp [Tryd.sizeOf3, Tryd.sizeOf22, Tryd.sizeOf115]⟩
theorem fld117_1 : FieldOk Tryd.prog 117 1 1 3 0 := ⟨_, _, Tryd.runUnderlying117, rfl, rfl, rfl, Tryd.sizeOf3⟩
theorem fld117_0 : FieldOk Tryd.prog 117 0 0 22 0 := ⟨_, _, Tryd.runUnderlying117, rfl, rfl, rfl, Tryd.sizeOf22⟩
theorem fld117_2 : FieldOk Tryd.prog 117 2 2 115 0 := ⟨_, _, Tryd.runUnderlying117, rfl, rfl, rfl, Tryd.sizeOf115⟩
theorem pl49 : PlacesOk Tryd.prog 49 [(0, 1), (1, 1), (2, 1)] := ⟨_, Tryd.runUnderlying49, fun w => by simp [Tryd.sizeOf2]⟩
theorem fld49_1 : FieldOk Tryd.prog 49 1 1 2 0 := ⟨_, _, Tryd.runUnderlying49, rfl, rfl, rfl, Tryd.sizeOf2⟩
theorem fld49_2 : FieldOk Tryd.prog 49 2 2 2 0 := ⟨_, _, Tryd.runUnderlying49, rfl, rfl, rfl, Tryd.sizeOf2⟩
theorem fld49_0 : FieldOk Tryd.prog 49 0 0 2 0 := ⟨_, _, Tryd.runUnderlying49, rfl, rfl, rfl, Tryd.sizeOf2⟩
theorem pl53 : PlacesOk Tryd.prog 53 [(0, 1), (1, 1)] := ⟨_, Tryd.runUnderlying53, fun w => by simp [Tryd.sizeOf2]⟩
set_option maxRecDepth 100000 in
theorem el5 : ElemOk Tryd.prog 5 1 (fByte.enc 0) := ⟨_, _, Tryd.type5, rfl, rfl, rfl, by decide⟩
set_option maxRecDepth 100000 in
theorem el9 : ElemOk Tryd.prog 9 1 (fStr.enc []) := ⟨_, _, Tryd.type9, rfl, rfl, rfl, by decide⟩
theorem eq53 : EqOk Tryd.prog 53 Fraction.enc Fraction.beq := ⟨Tryd.eqGuardType53, fun x y w => by
  have hf : Tryd.prog.fieldsOf 53 = #[{ name := "Num", type := 2, offset := 0, embedded := false, tag := "", pkgPath := "", byteOffset := 0 }, { name := "Den", type := 2, offset := 1, embedded := false, tag := "", pkgPath := "", byteOffset := 8 }] := by kernel_rfl
  have ht : Tryd.prog.underlying 53 = some (.struct (Tryd.prog.fieldsOf 53)) := by rw [hf]; exact Tryd.underlying53
  rw [run_equalIn_struct w 9999 53 _ _ ht Tryd.stoodInHeld53, hf]
  obtain ⟨a0, a1⟩ := x
  obtain ⟨b0, b1⟩ := y
  simp only [Op.eqFields, Fraction.enc, Fraction.beq]
  simp [part, str, Tryd.isAgg2, run_equalIn_int _ _ _ _ _ _ _ Tryd.underlying2, ByteArray.toList_eq]
  (repeat' split) <;> simp_all⟩
theorem eq49 : EqOk Tryd.prog 49 Trial.enc Trial.beq := ⟨Tryd.eqGuardType49, fun x y w => by
  have hf : Tryd.prog.fieldsOf 49 = #[{ name := "Strokes", type := 2, offset := 0, embedded := false, tag := "", pkgPath := "", byteOffset := 0 }, { name := "Errors", type := 2, offset := 1, embedded := false, tag := "", pkgPath := "", byteOffset := 8 }, { name := "Seconds", type := 2, offset := 2, embedded := false, tag := "", pkgPath := "", byteOffset := 16 }] := by kernel_rfl
  have ht : Tryd.prog.underlying 49 = some (.struct (Tryd.prog.fieldsOf 49)) := by rw [hf]; exact Tryd.underlying49
  rw [run_equalIn_struct w 9999 49 _ _ ht Tryd.stoodInHeld49, hf]
  obtain ⟨a0, a1, a2⟩ := x
  obtain ⟨b0, b1, b2⟩ := y
  simp only [Op.eqFields, Trial.enc, Trial.beq]
  simp [part, str, Tryd.isAgg2, run_equalIn_int _ _ _ _ _ _ _ Tryd.underlying2, ByteArray.toList_eq]
  (repeat' split) <;> simp_all⟩
theorem fld53_0 : FieldOk Tryd.prog 53 0 0 2 0 := ⟨_, _, Tryd.runUnderlying53, rfl, rfl, rfl, Tryd.sizeOf2⟩
theorem fld53_1 : FieldOk Tryd.prog 53 1 1 2 0 := ⟨_, _, Tryd.runUnderlying53, rfl, rfl, rfl, Tryd.sizeOf2⟩

set_option maxRecDepth 100000 in
set_option maxHeartbeats 1000000 in
theorem ok_w_f6big {code1 : List UInt8} {r : Bool} (hm : w_f6big code1 = some r) (w : World) (v2 : Value) (hr3 : RdS w (cx w).Fz v2 fByte.rp code1) :
    Calls Tryd.prog 5 #[v2] w (Ret (cx w) (.bool r)) := by
  unfold w_f6big at hm
  refine Calls.enter [v2] Tryd.func5 rfl Tryd.ntmps5 rfl ?_
  refine WJ.seq ?_
  refine WJ.quiet ?_
  refine QJ.step (YldS.yld (y_assign rfl)) rfl ?_
  refine QJ.done ?_
  refine PJ.next ?_
  refine WJ.seq ?_
  refine WJ.quiet ?_
  refine QJ.step (YldS.yld (y_move rfl)) rfl ?_
  refine QJ.step (YldS.yld (y_lenS Tryd.runUnderlying22 hr3 rfl)) rfl ?_
  refine QJ.step (YldS.yld (y_bin rfl rfl rfl)) rfl ?_
  refine QJ.step (YldS.yld (y_assign rfl)) rfl ?_
  refine QJ.done ?_
  refine PJ.next ?_
  refine WJ.ret ?_
  obtain rfl := Option.some.inj hm
  refine PJ.sel (L' := []) [] ⟨List.nodup_nil, rfl⟩ ?_
  exact PJ.retn (vs := [.bool (decide ((List.length code1 : Int) > 4096))]) Tryd.results5 ⟨rfl, trivial⟩ ⟨rfl, rfl⟩

set_option maxRecDepth 100000 in
set_option maxHeartbeats 1000000 in
theorem ok_s_l00From {code1 : List UInt8} {r : L00Src} (hm : s_l00From code1 = some r) (w : World) (v2 : Value) (hr3 : RdS w (cx w).Fz v2 fByte.rp code1) :
    Calls Tryd.prog 51 #[v2] w (RetG (cx w) fun u L => ∃ (u1 : Nat), (u = pt u1 0 ∧ L = [box u1 117 [v2, .int .i64 r.at_, .int .u64 r.seed]])) := by
  unfold s_l00From at hm
  refine Calls.enter [v2] Tryd.func51 rfl Tryd.ntmps51 rfl ?_
  refine WJ.seq ?_
  refine WJ.quiet ?_
  refine QJ.step (YldS.yld (y_assign rfl)) rfl ?_
  refine QJ.done ?_
  refine PJ.next ?_
  refine WJ.seq ?_
  refine WJ.reg ?_
  refine SJ.q (YldS.yld (y_move rfl)) rfl ?_
  refine SJ.q (YldS.yld (y_build (parts := [(0, .tmp 3)]) (places := [(0, 1), (1, 1), (2, 1)]) (r := [v2, .int .i64 0, .int .u64 0]) pl117 Tryd.zeroValue117 rfl rfl (show _ = [(0, [v2])] from by simp only [List.map, RdS.cells1 hr3]) rfl)) rfl ?_
  refine SJ.box (cs := [v2, .int .i64 0, .int .u64 0]) rfl rfl rfl fun g4 => ?_
  refine SJ.q (YldS.yld (y_assign rfl)) rfl ?_
  refine SJ.nil ?_
  refine PJ.next ?_
  refine WJ.ret ?_
  obtain rfl := Option.some.inj hm
  refine PJ.sel (L' := [box g4 117 [v2, .int .i64 0, .int .u64 0]]) [0] ⟨by decide, rfl⟩ ?_
  exact PJ.retn (vs := [pt g4 0]) Tryd.results51 ⟨rfl, trivial⟩ ⟨_, rfl, rfl⟩

set_option maxRecDepth 100000 in
set_option maxHeartbeats 1000000 in
theorem ok_s_l00Src_next {s1 : L00Src} {g2 : Nat} {r : Int × L00Src} (hm : s_l00Src_next s1 = some r) (w : World) (S : Nat → Prop) (v3 : Value) (hr4 : RdS w (Cx.Fz ⟨w, S⟩) v3 fByte.rp s1.code) (hA : (box g2 117 [v3, .int .i64 s1.at_, .int .u64 s1.seed]).holds w S) :
    Calls Tryd.prog 113 #[pt g2 0] w (RetG ⟨w, S⟩ fun u L => (u = .int .i64 r.1 ∧ L = [box g2 117 [v3, .int .i64 r.2.at_, .int .u64 r.2.seed]])) := by
  unfold s_l00Src_next at hm
  refine Calls.enter1 hA [pt g2 0] Tryd.func113 rfl Tryd.ntmps113 rfl ?_
  refine WJ.seq ?_
  refine WJ.quiet ?_
  refine QJ.step (YldS.yld (y_assign rfl)) rfl ?_
  refine QJ.done ?_
  refine PJ.next ?_
  refine WJ.seq ?_
  refine WJ.quiet ?_
  refine QJ.step (YldS.yld (y_assign rfl)) rfl ?_
  refine QJ.done ?_
  refine PJ.next ?_
  obtain ⟨kj6, hk7, hm⟩ := withK_open hm
  refine WJ.join (X := Int) (fun (x : Int) => kj6 x = some r) (fun (x : Int) => [(0, pt g2 0), (3, .int .i64 x)]) (fun (x : Int) => [box g2 117 [v3, .int .i64 s1.at_, .int .u64 s1.seed]]) ?_ ?_
  · clear hk7
    refine WJ.seq ?_
    refine WJ.quiet_draw follows (by kernel_rfl) ?_
    refine QJ.step (YldS.yld (y_move rfl)) rfl ?_
    refine QJ.step (YldS.yld (y_nil rfl)) rfl ?_
    refine QJ.step (YldS.yld (y_fldB (o := 0) fld117_1 rfl)) rfl ?_
    refine QJ.step (YldS.yld (y_loadB (k := 0) (off := 1) (v := .int .i64 s1.at_) rfl Tryd.isAgg3 rfl rfl)) rfl ?_
    refine QJ.step (YldS.yld (y_move rfl)) rfl ?_
    refine QJ.step (YldS.yld (y_nil rfl)) rfl ?_
    refine QJ.step (YldS.yld (y_fldB (o := 0) fld117_0 rfl)) rfl ?_
    refine QJ.step (YldS.yld (y_loadB (k := 0) (off := 0) (v := v3) rfl Tryd.isAgg22 rfl rfl)) rfl ?_
    refine QJ.step (YldS.yld (y_lenS Tryd.runUnderlying22 hr4 rfl)) rfl ?_
    refine QJ.step (YldS.yld (y_bin rfl rfl rfl)) rfl ?_
    refine QJ.done ?_
    refine PJ.next ?_
    refine WJ.cond (t := decide (s1.at_ < (List.length s1.code : Int))) rfl (fun hb8 => ?_) (fun hb8 => ?_)
    · replace hm := ifT hm hb8
      refine WJ.quiet_draw follows (by kernel_rfl) ?_
      refine QJ.step (YldS.yld (y_move rfl)) rfl ?_
      refine QJ.step (YldS.yld (y_nil rfl)) rfl ?_
      refine QJ.step (YldS.yld (y_fldB (o := 0) fld117_0 rfl)) rfl ?_
      refine QJ.step (YldS.yld (y_loadB (k := 0) (off := 0) (v := v3) rfl Tryd.isAgg22 rfl rfl)) rfl ?_
      refine QJ.step (YldS.yld (y_move rfl)) rfl ?_
      refine QJ.step (YldS.yld (y_nil rfl)) rfl ?_
      refine QJ.step (YldS.yld (y_fldB (o := 0) fld117_1 rfl)) rfl ?_
      refine QJ.step (YldS.yld (y_loadB (k := 0) (off := 1) (v := .int .i64 s1.at_) rfl Tryd.isAgg3 rfl rfl)) rfl ?_
      obtain ⟨e9, h10, hm⟩ := bindS hm
      obtain ⟨ad11, _, rfl, ha12, hy13⟩ := hr4.elem h10
      refine QJ.step (YldS.yld (hy13 Tryd.runUnderlying22 Tryd.sizeOf5 rfl rfl)) rfl ?_
      refine QJ.step (YldS.yld (y_load1 (v := .int .u8 (UInt8.toNat e9 : Int)) Tryd.isAgg5 ha12 St.frozenC rfl)) rfl ?_
      refine QJ.step (YldS.yld (y_conv8 Tryd.runUnderlying5 Tryd.runUnderlying3 rfl)) rfl ?_
      refine QJ.step (YldS.yld (y_assign rfl)) rfl ?_
      refine QJ.done ?_
      exact PJ.joined (UInt8.toNat e9 : Int) [0] hm ⟨rfl, rfl, trivial⟩ ⟨by decide, rfl⟩
    · replace hm := ifF hm hb8
      refine WJ.skip ?_
      exact PJ.joined 0 [0] hm ⟨rfl, rfl, trivial⟩ ⟨by decide, rfl⟩
  · rintro b5 hm
    subst hk7
    refine WJ.seq ?_
    refine WJ.reg ?_
    refine SJ.q (YldS.yld (y_move rfl)) rfl ?_
    refine SJ.q (YldS.yld (y_nil rfl)) rfl ?_
    refine SJ.q (YldS.yld (y_fldB (o := 0) fld117_1 rfl)) rfl ?_
    refine SJ.q (YldS.yld (y_loadB (k := 0) (off := 1) (v := .int .i64 s1.at_) rfl Tryd.isAgg3 rfl rfl)) rfl ?_
    refine SJ.q (YldS.yld (y_bin rfl rfl rfl)) rfl ?_
    refine SJ.q (YldS.yld (y_nil rfl)) rfl ?_
    refine SJ.q (YldS.yld (y_fldB (o := 0) fld117_1 rfl)) rfl ?_
    refine SJ.storeL (k := 0) (off := 1) (us := [.int .i64 (w64 (s1.at_ + 1))]) rfl rfl rfl rfl Tryd.sizeOf3 rfl rfl ?_
    refine SJ.nil ?_
    refine PJ.next ?_
    refine WJ.seq ?_
    refine WJ.reg ?_
    refine SJ.q (YldS.yld (y_move rfl)) rfl ?_
    refine SJ.q (YldS.yld (y_move rfl)) rfl ?_
    refine SJ.q (YldS.yld (y_nil rfl)) rfl ?_
    refine SJ.q (YldS.yld (y_fldB (o := 0) fld117_2 rfl)) rfl ?_
    refine SJ.q (YldS.yld (y_loadB (k := 0) (off := 2) (v := .int .u64 s1.seed) rfl Tryd.isAgg115 rfl rfl)) rfl ?_
    refine SJ.q (YldS.yld (y_bin rfl rfl rfl)) rfl ?_
    refine SJ.q (YldS.yld (y_move rfl)) rfl ?_
    refine SJ.q (YldS.yld (y_convI Tryd.runUnderlying3 Tryd.runUnderlying115 rfl)) rfl ?_
    refine SJ.q (YldS.yld (y_bin rfl rfl rfl)) rfl ?_
    refine SJ.q (YldS.yld (y_bin rfl rfl rfl)) rfl ?_
    refine SJ.q (YldS.yld (y_nil rfl)) rfl ?_
    refine SJ.q (YldS.yld (y_fldB (o := 0) fld117_2 rfl)) rfl ?_
    refine SJ.storeL (k := 0) (off := 2) (us := [.int .u64 (IntKind.u64.wrap ((IntKind.u64.wrap ((IntKind.u64.wrap (s1.seed * 6364136223846793005)) + (IntKind.u64.wrap b5))) + 1442695040888963407))]) rfl rfl rfl rfl Tryd.sizeOf115 rfl rfl ?_
    refine SJ.nil ?_
    refine PJ.next ?_
    refine WJ.seq ?_
    refine WJ.seq ?_
    refine WJ.quiet_draw follows (by kernel_rfl) ?_
    refine QJ.step (YldS.yld (y_move rfl)) rfl ?_
    refine QJ.step (YldS.yld (y_nil rfl)) rfl ?_
    refine QJ.step (YldS.yld (y_fldB (o := 0) fld117_1 rfl)) rfl ?_
    refine QJ.step (YldS.yld (y_loadB (k := 0) (off := 1) (v := .int .i64 (w64 (s1.at_ + 1))) rfl Tryd.isAgg3 rfl rfl)) rfl ?_
    refine QJ.step (YldS.yld (y_move rfl)) rfl ?_
    refine QJ.step (YldS.yld (y_nil rfl)) rfl ?_
    refine QJ.step (YldS.yld (y_fldB (o := 0) fld117_0 rfl)) rfl ?_
    refine QJ.step (YldS.yld (y_loadB (k := 0) (off := 0) (v := v3) rfl Tryd.isAgg22 rfl rfl)) rfl ?_
    refine QJ.step (YldS.yld (y_lenS Tryd.runUnderlying22 hr4 rfl)) rfl ?_
    refine QJ.step (YldS.yld (y_bin rfl rfl rfl)) rfl ?_
    refine QJ.done ?_
    refine PJ.next ?_
    refine WJ.cond (t := decide ((w64 (s1.at_ + 1)) ≤ (List.length s1.code : Int))) rfl (fun hb14 => ?_) (fun hb14 => ?_)
    · replace hm := ifT hm hb14
      refine WJ.seq ?_
      refine WJ.quiet ?_
      refine QJ.step (YldS.yld (y_move rfl)) rfl ?_
      refine QJ.step (YldS.yld (y_assign rfl)) rfl ?_
      refine QJ.done ?_
      refine PJ.next ?_
      refine WJ.ret ?_
      refine PJ.then_ret ?_
      obtain rfl := Option.some.inj hm
      refine PJ.sel (L' := [box g2 117 [v3, .int .i64 (w64 (s1.at_ + 1)), .int .u64 (IntKind.u64.wrap ((IntKind.u64.wrap ((IntKind.u64.wrap (s1.seed * 6364136223846793005)) + (IntKind.u64.wrap b5))) + 1442695040888963407))]]) [0] ⟨by decide, rfl⟩ ?_
      exact PJ.retn (vs := [.int .i64 b5]) Tryd.results113 ⟨rfl, trivial⟩ ⟨rfl, rfl⟩
    · replace hm := ifF hm hb14
      refine WJ.skip ?_
      refine PJ.next ?_
      refine WJ.seq ?_
      refine WJ.quiet ?_
      refine QJ.step (YldS.yld (y_move rfl)) rfl ?_
      refine QJ.step (YldS.yld (y_nil rfl)) rfl ?_
      refine QJ.step (YldS.yld (y_fldB (o := 0) fld117_2 rfl)) rfl ?_
      refine QJ.step (YldS.yld (y_loadB (k := 0) (off := 2) (v := .int .u64 (IntKind.u64.wrap ((IntKind.u64.wrap ((IntKind.u64.wrap (s1.seed * 6364136223846793005)) + (IntKind.u64.wrap b5))) + 1442695040888963407))) rfl Tryd.isAgg115 rfl rfl)) rfl ?_
      refine QJ.step (YldS.yld (y_shru rfl rfl rfl)) rfl ?_
      refine QJ.step (YldS.yld (y_andu rfl rfl rfl)) rfl ?_
      refine QJ.step (YldS.yld (y_convI Tryd.runUnderlying115 Tryd.runUnderlying2 rfl)) rfl ?_
      refine QJ.step (YldS.yld (y_assign rfl)) rfl ?_
      refine QJ.done ?_
      refine PJ.next ?_
      refine WJ.ret ?_
      obtain rfl := Option.some.inj hm
      refine PJ.sel (L' := [box g2 117 [v3, .int .i64 (w64 (s1.at_ + 1)), .int .u64 (IntKind.u64.wrap ((IntKind.u64.wrap ((IntKind.u64.wrap (s1.seed * 6364136223846793005)) + (IntKind.u64.wrap b5))) + 1442695040888963407))]]) [0] ⟨by decide, rfl⟩ ?_
      exact PJ.retn (vs := [.int .i64 (w64 (uand (ushr (IntKind.u64.wrap ((IntKind.u64.wrap ((IntKind.u64.wrap (s1.seed * 6364136223846793005)) + (IntKind.u64.wrap b5))) + 1442695040888963407)) 40) 255))]) Tryd.results113 ⟨rfl, trivial⟩ ⟨rfl, rfl⟩

set_option maxRecDepth 100000 in
set_option maxHeartbeats 1000000 in
theorem ok_s_l00Src_pick {s1 : L00Src} {n5 : Int} {g2 : Nat} {r : Int × L00Src} (hm : s_l00Src_pick s1 n5 = some r) (w : World) (S : Nat → Prop) (v3 : Value) (hr4 : RdS w (Cx.Fz ⟨w, S⟩) v3 fByte.rp s1.code) (hA : (box g2 117 [v3, .int .i64 s1.at_, .int .u64 s1.seed]).holds w S) :
    Calls Tryd.prog 68 #[pt g2 0, .int .i64 n5] w (RetG ⟨w, S⟩ fun u L => (u = .int .i64 r.1 ∧ L = [box g2 117 [v3, .int .i64 r.2.at_, .int .u64 r.2.seed]])) := by
  unfold s_l00Src_pick at hm
  refine Calls.enter1 hA [pt g2 0, .int .i64 n5] Tryd.func68 rfl Tryd.ntmps68 rfl ?_
  refine WJ.seq ?_
  refine WJ.quiet ?_
  refine QJ.step (YldS.yld (y_assign rfl)) rfl ?_
  refine QJ.done ?_
  refine PJ.next ?_
  refine WJ.seq ?_
  refine WJ.seq ?_
  refine WJ.quiet ?_
  refine QJ.step (YldS.yld (y_move rfl)) rfl ?_
  refine QJ.step (YldS.yld (y_bin rfl rfl rfl)) rfl ?_
  refine QJ.done ?_
  refine PJ.next ?_
  refine WJ.cond (t := decide (n5 ≤ 1)) rfl (fun hb6 => ?_) (fun hb6 => ?_)
  · replace hm := ifT hm hb6
    refine WJ.seq ?_
    refine WJ.quiet ?_
    refine QJ.step (YldS.yld (y_assign rfl)) rfl ?_
    refine QJ.done ?_
    refine PJ.next ?_
    refine WJ.ret ?_
    refine PJ.then_ret ?_
    obtain rfl := Option.some.inj hm
    refine PJ.sel (L' := [box g2 117 [v3, .int .i64 s1.at_, .int .u64 s1.seed]]) [0] ⟨by decide, rfl⟩ ?_
    exact PJ.retn (vs := [.int .i64 0]) Tryd.results68 ⟨rfl, trivial⟩ ⟨rfl, rfl⟩
  · replace hm := ifF hm hb6
    refine WJ.skip ?_
    refine PJ.next ?_
    refine WJ.seq ?_
    refine WJ.reg ?_
    refine SJ.q (YldS.yld (y_move rfl)) rfl ?_
    obtain ⟨r7, h8, hm⟩ := bindS hm
    refine SJ.call1 (k := 0) rfl Tryd.call113 rfl (fun w S hw hA hO => ok_s_l00Src_next h8 w S _ (hr4.st1 hw hO) hA) rfl ?_
    rintro _ _ ⟨rfl, rfl⟩
    refine SJ.q (YldS.yld (y_assign rfl)) rfl ?_
    refine SJ.nil ?_
    refine PJ.next ?_
    obtain ⟨kj12, hk13, hm⟩ := withK_open hm
    refine WJ.join (X := Int × Int × Int) (fun (x : Int × Int × Int) => kj12 x.1 x.2.1 x.2.2 = some r) (fun (x : Int × Int × Int) => [(1, .int .i64 n5), (5, .int .i64 x.2.2)]) (fun (x : Int × Int × Int) => [box g2 117 [v3, .int .i64 x.1, .int .u64 x.2.1]]) ?_ ?_
    · clear hk13
      refine WJ.seq ?_
      refine WJ.quiet ?_
      refine QJ.step (YldS.yld (y_move rfl)) rfl ?_
      refine QJ.step (YldS.yld (y_bin rfl rfl rfl)) rfl ?_
      refine QJ.done ?_
      refine PJ.next ?_
      refine WJ.cond (t := decide (n5 > 200)) rfl (fun hb14 => ?_) (fun hb14 => ?_)
      · replace hm := ifT hm hb14
        refine WJ.reg ?_
        refine SJ.q (YldS.yld (y_move rfl)) rfl ?_
        refine SJ.q (YldS.yld (y_bin rfl rfl rfl)) rfl ?_
        refine SJ.q (YldS.yld (y_move rfl)) rfl ?_
        obtain ⟨r15, h16, hm⟩ := bindS hm
        refine SJ.call1 (k := 0) rfl Tryd.call113 rfl (fun w S hw hA hO => ok_s_l00Src_next h16 w S _ (hr4.st1 hw hO) hA) rfl ?_
        rintro _ _ ⟨rfl, rfl⟩
        refine SJ.q (YldS.yld (y_bin rfl rfl rfl)) rfl ?_
        refine SJ.q (YldS.yld (y_assign rfl)) rfl ?_
        refine SJ.nil ?_
        exact PJ.joined (r15.2.at_, r15.2.seed, w64 ((w64 (r7.1 * 256)) + r15.1)) [0] hm ⟨rfl, rfl, trivial⟩ ⟨by decide, rfl⟩
      · replace hm := ifF hm hb14
        refine WJ.skip ?_
        exact PJ.joined (r7.2.at_, r7.2.seed, r7.1) [0] hm ⟨rfl, rfl, trivial⟩ ⟨by decide, rfl⟩
    · rintro ⟨x9, x10, x11⟩ hm
      subst hk13
      refine WJ.seq ?_
      refine WJ.quiet ?_
      refine QJ.step (YldS.yld (y_move rfl)) rfl ?_
      refine QJ.step (YldS.yld (y_move rfl)) rfl ?_
      obtain ⟨q17, h18, hm⟩ := bindS hm
      refine QJ.step (YldS.yld (y_rem' h18 rfl rfl)) rfl ?_
      refine QJ.step (YldS.yld (y_assign rfl)) rfl ?_
      refine QJ.done ?_
      refine PJ.next ?_
      refine WJ.ret ?_
      obtain rfl := Option.some.inj hm
      refine PJ.sel (L' := [box g2 117 [v3, .int .i64 x9, .int .u64 x10]]) [0] ⟨by decide, rfl⟩ ?_
      exact PJ.retn (vs := [.int .i64 q17]) Tryd.results68 ⟨rfl, trivial⟩ ⟨rfl, rfl⟩

set_option maxRecDepth 100000 in
set_option maxHeartbeats 1000000 in
theorem ok_s_l20New {s1 : L00Src} {g2 : Nat} {r : Trial × L00Src} (hm : s_l20New s1 = some r) (w : World) (S : Nat → Prop) (v3 : Value) (hr4 : RdS w (Cx.Fz ⟨w, S⟩) v3 fByte.rp s1.code) (hA : (box g2 117 [v3, .int .i64 s1.at_, .int .u64 s1.seed]).holds w S) :
    Calls Tryd.prog 100 #[pt g2 0] w (RetG ⟨w, S⟩ fun u L => (u = .agg (Trial.enc r.1).toArray ∧ L = [box g2 117 [v3, .int .i64 r.2.at_, .int .u64 r.2.seed]])) := by
  unfold s_l20New at hm
  refine Calls.enter1 hA [pt g2 0] Tryd.func100 rfl Tryd.ntmps100 rfl ?_
  refine WJ.seq ?_
  refine WJ.reg ?_
  refine SJ.alloc (cs := [.int .i64 0, .int .i64 0, .int .i64 0]) Tryd.zeroValue49 rfl rfl fun g5 => ?_
  refine SJ.nil ?_
  refine PJ.next ?_
  refine WJ.seq ?_
  refine WJ.reg ?_
  refine SJ.q (YldS.yld (y_move rfl)) rfl ?_
  obtain ⟨r6, h7, hm⟩ := bindS hm
  refine SJ.call1 (k := 1) rfl Tryd.call68 rfl (fun w S hw hA hO => ok_s_l00Src_pick h7 w S _ (hr4.st1 hw hO) hA) rfl ?_
  rintro _ _ ⟨rfl, rfl⟩
  refine SJ.q (YldS.yld (y_bin rfl rfl rfl)) rfl ?_
  refine SJ.q (YldS.yld (y_bin rfl rfl rfl)) rfl ?_
  refine SJ.q (YldS.yld (y_build (parts := [(0, .tmp 7)]) (places := [(0, 1), (1, 1), (2, 1)]) (r := [.int .i64 ((Trial.mk (w64 (100 + (w64 (10 * r6.1)))) 0 0).strokes), .int .i64 ((Trial.mk (w64 (100 + (w64 (10 * r6.1)))) 0 0).errors), .int .i64 ((Trial.mk (w64 (100 + (w64 (10 * r6.1)))) 0 0).seconds)]) pl49 Tryd.zeroValue49 rfl rfl rfl rfl)) rfl ?_
  refine SJ.alloc (cs := [.int .i64 0, .int .i64 0, .int .i64 0]) Tryd.zeroValue49 rfl rfl fun g8 => ?_
  refine SJ.storeL (k := 0) (off := 0) (us := [.int .i64 ((Trial.mk (w64 (100 + (w64 (10 * r6.1)))) 0 0).strokes), .int .i64 ((Trial.mk (w64 (100 + (w64 (10 * r6.1)))) 0 0).errors), .int .i64 ((Trial.mk (w64 (100 + (w64 (10 * r6.1)))) 0 0).seconds)]) rfl rfl rfl rfl Tryd.sizeOf49 rfl rfl ?_
  refine SJ.nil ?_
  refine PJ.next ?_
  refine WJ.seq ?_
  refine WJ.reg ?_
  refine SJ.q (YldS.yld (y_move rfl)) rfl ?_
  obtain ⟨r9, h10, hm⟩ := bindS hm
  refine SJ.call1 (k := 1) rfl Tryd.call68 rfl (fun w S hw hA hO => ok_s_l00Src_pick h10 w S _ (hr4.st1 hw hO) hA) rfl ?_
  rintro _ _ ⟨rfl, rfl⟩
  refine SJ.q (YldS.yld (y_fldB (o := 0) fld49_1 rfl)) rfl ?_
  refine SJ.storeL (k := 1) (off := 1) (us := [.int .i64 r9.1]) rfl rfl rfl rfl Tryd.sizeOf2 rfl rfl ?_
  refine SJ.nil ?_
  refine PJ.next ?_
  refine WJ.seq ?_
  refine WJ.reg ?_
  refine SJ.q (YldS.yld (y_move rfl)) rfl ?_
  obtain ⟨r11, h12, hm⟩ := bindS hm
  refine SJ.call1 (k := 0) rfl Tryd.call68 rfl (fun w S hw hA hO => ok_s_l00Src_pick h12 w S _ (hr4.st1 hw hO) hA) rfl ?_
  rintro _ _ ⟨rfl, rfl⟩
  refine SJ.q (YldS.yld (y_bin rfl rfl rfl)) rfl ?_
  refine SJ.q (YldS.yld (y_bin rfl rfl rfl)) rfl ?_
  refine SJ.q (YldS.yld (y_fldB (o := 0) fld49_2 rfl)) rfl ?_
  refine SJ.storeL (k := 1) (off := 2) (us := [.int .i64 (w64 (30 * (w64 (1 + r11.1))))]) rfl rfl rfl rfl Tryd.sizeOf2 rfl rfl ?_
  refine SJ.nil ?_
  refine PJ.next ?_
  refine WJ.seq ?_
  refine WJ.reg ?_
  refine SJ.q (YldS.yld (y_loadBN (k := 1) (off := 0) (us := [.int .i64 ((Trial.mk (w64 (100 + (w64 (10 * r6.1)))) 0 0).strokes), .int .i64 r9.1, .int .i64 (w64 (30 * (w64 (1 + r11.1))))]) rfl Tryd.isAgg49 Tryd.sizeOf49 rfl rfl)) rfl ?_
  refine SJ.storeL (k := 2) (off := 0) (us := [.int .i64 ((Trial.mk (w64 (100 + (w64 (10 * r6.1)))) 0 0).strokes), .int .i64 r9.1, .int .i64 (w64 (30 * (w64 (1 + r11.1))))]) rfl rfl rfl rfl Tryd.sizeOf49 rfl rfl ?_
  refine SJ.nil ?_
  refine PJ.next ?_
  refine WJ.ret ?_
  obtain rfl := Option.some.inj hm
  exact PJ.retn_sel (vs := [.agg #[.int .i64 ((Trial.mk (w64 (100 + (w64 (10 * r6.1)))) 0 0).strokes), .int .i64 r9.1, .int .i64 (w64 (30 * (w64 (1 + r11.1))))]]) Tryd.results100 ⟨⟨2, g5, 49, [.int .i64 ((Trial.mk (w64 (100 + (w64 (10 * r6.1)))) 0 0).strokes), .int .i64 r9.1, .int .i64 (w64 (30 * (w64 (1 + r11.1))))], rfl, rfl, .inl ⟨Tryd.isAgg49, Tryd.sizeOf49, rfl⟩⟩, trivial⟩ [0] ⟨by decide, rfl⟩ ⟨rfl, rfl⟩

set_option maxRecDepth 100000 in
set_option maxHeartbeats 1000000 in
theorem ok_s_l00Src_one {s1 : L00Src} {n5 : Int} {g2 : Nat} {r : Bool × L00Src} (hm : s_l00Src_one s1 n5 = some r) (w : World) (S : Nat → Prop) (v3 : Value) (hr4 : RdS w (Cx.Fz ⟨w, S⟩) v3 fByte.rp s1.code) (hA : (box g2 117 [v3, .int .i64 s1.at_, .int .u64 s1.seed]).holds w S) :
    Calls Tryd.prog 69 #[pt g2 0, .int .i64 n5] w (RetG ⟨w, S⟩ fun u L => (u = .bool r.1 ∧ L = [box g2 117 [v3, .int .i64 r.2.at_, .int .u64 r.2.seed]])) := by
  unfold s_l00Src_one at hm
  refine Calls.enter1 hA [pt g2 0, .int .i64 n5] Tryd.func69 rfl Tryd.ntmps69 rfl ?_
  refine WJ.seq ?_
  refine WJ.quiet ?_
  refine QJ.step (YldS.yld (y_assign rfl)) rfl ?_
  refine QJ.done ?_
  refine PJ.next ?_
  refine WJ.seq ?_
  refine WJ.reg ?_
  refine SJ.q (YldS.yld (y_move rfl)) rfl ?_
  refine SJ.q (YldS.yld (y_move rfl)) rfl ?_
  obtain ⟨r6, h7, hm⟩ := bindS hm
  refine SJ.call1 (k := 0) rfl Tryd.call68 rfl (fun w S hw hA hO => ok_s_l00Src_pick h7 w S _ (hr4.st1 hw hO) hA) rfl ?_
  rintro _ _ ⟨rfl, rfl⟩
  refine SJ.q (YldS.yld (y_bin rfl rfl rfl)) rfl ?_
  refine SJ.q (YldS.yld (y_assign rfl)) rfl ?_
  refine SJ.nil ?_
  refine PJ.next ?_
  refine WJ.ret ?_
  obtain rfl := Option.some.inj hm
  refine PJ.sel (L' := [box g2 117 [v3, .int .i64 r6.2.at_, .int .u64 r6.2.seed]]) [0] ⟨by decide, rfl⟩ ?_
  exact PJ.retn (vs := [.bool (r6.1 == 0)]) Tryd.results69 ⟨rfl, trivial⟩ ⟨rfl, rfl⟩

set_option maxRecDepth 100000 in
set_option maxHeartbeats 1000000 in
theorem ok_s_l00Src_among {s1 : L00Src} {list5 : List Int} {g2 : Nat} {r : Int × L00Src} (hm : s_l00Src_among s1 list5 = some r) (w : World) (S : Nat → Prop) (v3 : Value) (hr4 : RdS w (Cx.Fz ⟨w, S⟩) v3 fByte.rp s1.code) (v6 : Value) (hr7 : RdS w (Cx.Fz ⟨w, S⟩) v6 fI64.rp list5) (hA : (box g2 117 [v3, .int .i64 s1.at_, .int .u64 s1.seed]).holds w S) :
    Calls Tryd.prog 88 #[pt g2 0, v6] w (RetG ⟨w, S⟩ fun u L => (u = .int .i64 r.1 ∧ L = [box g2 117 [v3, .int .i64 r.2.at_, .int .u64 r.2.seed]])) := by
  unfold s_l00Src_among at hm
  refine Calls.enter1 hA [pt g2 0, v6] Tryd.func88 rfl Tryd.ntmps88 rfl ?_
  refine WJ.seq ?_
  refine WJ.quiet ?_
  refine QJ.step (YldS.yld (y_assign rfl)) rfl ?_
  refine QJ.done ?_
  refine PJ.next ?_
  refine WJ.seq ?_
  refine WJ.reg ?_
  refine SJ.q (YldS.yld (y_move rfl)) rfl ?_
  refine SJ.q (YldS.yld (y_move rfl)) rfl ?_
  refine SJ.q (YldS.yld (y_move rfl)) rfl ?_
  refine SJ.q (YldS.yld (y_lenS Tryd.runUnderlying26 hr7 rfl)) rfl ?_
  obtain ⟨r8, h9, hm⟩ := bindS hm
  refine SJ.call1 (k := 0) rfl Tryd.call68 rfl (fun w S hw hA hO => ok_s_l00Src_pick h9 w S _ (hr4.st1 hw hO) hA) rfl ?_
  rintro _ _ ⟨rfl, rfl⟩
  obtain ⟨e10, h11, hm⟩ := bindS hm
  obtain ⟨ad12, _, rfl, ha13, hy14⟩ := hr7.elem h11
  refine SJ.q (YldS.yld (hy14 Tryd.runUnderlying26 Tryd.sizeOf2 rfl rfl)) rfl ?_
  refine SJ.q (YldS.yld (y_load1 (v := .int .i64 e10) Tryd.isAgg2 ha13 St.frozenC rfl)) rfl ?_
  refine SJ.q (YldS.yld (y_assign rfl)) rfl ?_
  refine SJ.nil ?_
  refine PJ.next ?_
  refine WJ.ret ?_
  obtain rfl := Option.some.inj hm
  refine PJ.sel (L' := [box g2 117 [v3, .int .i64 r8.2.at_, .int .u64 r8.2.seed]]) [0] ⟨by decide, rfl⟩ ?_
  exact PJ.retn (vs := [.int .i64 e10]) Tryd.results88 ⟨rfl, trivial⟩ ⟨rfl, rfl⟩

set_option maxRecDepth 100000 in
set_option maxHeartbeats 1000000 in
theorem ok_s_l20Spoil {s1 : L00Src} {x5 : Trial} {g2 : Nat} {g6 : Nat} {r : L00Src × Trial} (hm : s_l20Spoil s1 x5 = some r) (w : World) (S : Nat → Prop) (v3 : Value) (hr4 : RdS w (Cx.Fz ⟨w, S⟩) v3 fByte.rp s1.code) (hA : (star (box g2 117 [v3, .int .i64 s1.at_, .int .u64 s1.seed]) (box g6 49 [.int .i64 x5.strokes, .int .i64 x5.errors, .int .i64 x5.seconds])).holds w S) :
    Calls Tryd.prog 123 #[pt g2 0, pt g6 0] w (RetG ⟨w, S⟩ fun u L => (u = tup [] ∧ L = [star (box g2 117 [v3, .int .i64 r.1.at_, .int .u64 r.1.seed]) (box g6 49 [.int .i64 r.2.strokes, .int .i64 r.2.errors, .int .i64 r.2.seconds])])) := by
  unfold s_l20Spoil at hm
  refine Calls.enter1 hA [pt g2 0, pt g6 0] Tryd.func123 rfl Tryd.ntmps123 rfl ?_
  refine WJ.unstar ?_
  refine WJ.seq ?_
  refine WJ.reg ?_
  refine SJ.q (YldS.yld (y_move rfl)) rfl ?_
  obtain ⟨r7, h8, hm⟩ := bindS hm
  refine SJ.call1 (k := 0) rfl Tryd.call68 rfl (fun w S hw hA hO => ok_s_l00Src_pick h8 w S _ (hr4.st1 hw hO) hA) rfl ?_
  rintro _ _ ⟨rfl, rfl⟩
  refine SJ.nil ?_
  refine PJ.next ?_
  refine WJ.block ?_
  refine WJ.seq ?_
  refine WJ.quiet ?_
  refine QJ.step (YldS.yld (y_bin rfl rfl rfl)) rfl ?_
  refine QJ.step (YldS.yld (y_assign rfl)) rfl ?_
  refine QJ.done ?_
  refine PJ.next ?_
  refine WJ.cond (t := (r7.1 == 0)) rfl (fun hb9 => ?_) (fun hb9 => ?_)
  · replace hm := ifT hm hb9
    refine WJ.reg ?_
    refine SJ.q (YldS.yld (y_move rfl)) rfl ?_
    refine SJ.q (YldS.yld (y_move rfl)) rfl ?_
    refine SJ.buildSlice (R := fI64) (os := [.const (.int .i64 (-1)), .const (.int .i64 0), .const (.int .i64 100000), .const (.int .i64 100001)]) [(-1), 0, 100000, 100001] Tryd.runUnderlying26 Tryd.sizeOf2 Tryd.zeroValue2 rfl rfl rfl rfl rfl rfl fun v10 => ?_
    obtain ⟨r11, h12, hm⟩ := bindS hm
    refine SJ.call2 (k := 1) rfl Tryd.call88 rfl (fun w S hw hA hO hB => ok_s_l00Src_among h12 w S _ (hr4.st1 hw hO) _ (hB.row_rd (j := 0) (k := 1) rfl rfl) hA) rfl ?_
    rintro _ _ ⟨rfl, rfl⟩
    refine SJ.q (YldS.yld (y_nil rfl)) rfl ?_
    refine SJ.q (YldS.yld (y_fldB (o := 0) fld49_0 rfl)) rfl ?_
    refine SJ.storeL (k := 2) (off := 0) (us := [.int .i64 r11.1]) rfl rfl rfl rfl Tryd.sizeOf2 rfl rfl ?_
    refine SJ.nil ?_
    refine PJ.block_normal (PJ.fin ?_)
    obtain rfl := Option.some.inj hm
    refine PJ.sel (L' := [box g2 117 [v3, .int .i64 r11.2.at_, .int .u64 r11.2.seed], box g6 49 [.int .i64 r11.1, .int .i64 x5.errors, .int .i64 x5.seconds]]) [0, 2] ⟨by decide, rfl⟩ ?_
    refine PJ.star ?_
    exact PJ.retn (vs := []) Tryd.results123 trivial ⟨rfl, rfl⟩
  · replace hm := ifF hm hb9
    refine WJ.seq ?_
    refine WJ.quiet ?_
    refine QJ.step (YldS.yld (y_bin rfl rfl rfl)) rfl ?_
    refine QJ.step (YldS.yld (y_assign rfl)) rfl ?_
    refine QJ.done ?_
    refine PJ.next ?_
    refine WJ.cond (t := (r7.1 == 1)) rfl (fun hb13 => ?_) (fun hb13 => ?_)
    · replace hm := ifT hm hb13
      obtain ⟨r15, h16, hm⟩ := bindS hm
      refine WJ.draws (N := 16) (listed0 := #[false, false, false, false, false, false, false, false, false, false, false, false, false, false, false, false]) [] follows rfl rfl ?_
      refine RJ.first 0 (listed' := #[true, false, false, false, false, false, false, false, false, false, false, false, false, false, false, false]) [] rfl (by kernel_rfl) rfl ⟨List.nodup_nil, rfl⟩ (y_move rfl) rfl ?_
      refine RJ.first 1 (listed' := #[true, true, false, false, false, false, false, false, false, false, false, false, false, false, false, false]) [] rfl (by kernel_rfl) rfl ⟨List.nodup_nil, rfl⟩ (y_move rfl) rfl ?_
      refine RJ.first 2 (listed' := #[true, true, true, false, false, false, false, false, false, false, false, false, false, false, false, false]) [] rfl (by kernel_rfl) rfl ⟨List.nodup_nil, rfl⟩ (y_move rfl) rfl ?_
      refine RJ.first 3 (listed' := #[true, true, true, true, false, false, false, false, false, false, false, false, false, false, false, false]) [] rfl (by kernel_rfl) rfl ⟨List.nodup_nil, rfl⟩ (y_nil rfl) rfl ?_
      refine RJ.first 4 (listed' := #[true, true, true, true, true, false, false, false, false, false, false, false, false, false, false, false]) [] rfl (by kernel_rfl) rfl ⟨List.nodup_nil, rfl⟩ (y_fldB (o := 0) fld49_0 rfl) rfl ?_
      refine RJ.first 6 (listed' := #[true, true, true, true, true, false, true, false, false, false, false, false, false, false, false, false]) [] rfl (by kernel_rfl) rfl ⟨List.nodup_nil, rfl⟩ (y_move rfl) rfl ?_
      refine RJ.first 7 (listed' := #[true, true, true, true, true, false, true, true, false, false, false, false, false, false, false, false]) [] rfl (by kernel_rfl) rfl ⟨List.nodup_nil, rfl⟩ (y_nil rfl) rfl ?_
      refine RJ.first 8 (listed' := #[true, true, true, true, true, false, true, true, true, false, false, false, false, false, false, false]) [] rfl (by kernel_rfl) rfl ⟨List.nodup_nil, rfl⟩ (y_fldB (o := 0) fld49_0 rfl) rfl ?_
      refine RJ.hold (X := Unit) 5 #[true, true, true, true, true, true, true, true, true, true, true, false, false, false, false, false] (fun (_ : Unit) => [(16, pt g6 0), (17, pt g2 0), (21, .int .i64 x5.strokes), (26, .int .i64 (w64 (x5.strokes + 1)))]) (fun (_ : Unit) => [box g2 117 [v3, .int .i64 r7.2.at_, .int .u64 r7.2.seed], box g6 49 [.int .i64 x5.strokes, .int .i64 x5.errors, .int .i64 x5.seconds]]) ?_ ?_
      · rintro _
        refine RJ.step1 11 [] (by kernel_rfl) ⟨List.nodup_nil, rfl⟩ ?_
        refine RO.of (listed' := #[true, true, true, true, true, true, true, true, true, true, true, true, false, false, false, false]) rfl rfl ?_
        refine SJ.buildSlice (R := fI64) (os := [.const (.int .i64 (-1)), .tmp 21, .tmp 26, .const (.int .i64 (-9223372036854775808))]) [(-1), x5.strokes, w64 (x5.strokes + 1), (-9223372036854775808)] Tryd.runUnderlying26 Tryd.sizeOf2 Tryd.zeroValue2 rfl rfl rfl rfl rfl rfl fun v14 => ?_
        refine SJ.nil ?_
        refine PJ.draw ?_
        refine RJ.step1 12 [] (by kernel_rfl) ⟨List.nodup_nil, rfl⟩ ?_
        refine RO.of (listed' := #[true, true, true, true, true, true, true, true, true, true, true, true, true, false, false, false]) rfl rfl ?_
        refine SJ.call2 (k := 1) rfl Tryd.call88 rfl (fun w S hw hA hO hB => ok_s_l00Src_among h16 w S _ (hr4.st1 hw hO) _ (hB.row_rd (j := 0) (k := 1) rfl rfl) hA) rfl ?_
        rintro _ _ ⟨rfl, rfl⟩
        refine SJ.nil ?_
        refine PJ.draw ?_
        refine RJ.first 13 (listed' := #[true, true, true, true, true, true, true, true, true, true, true, true, true, true, false, false]) [] rfl (by kernel_rfl) rfl ⟨List.nodup_nil, rfl⟩ (y_nil rfl) rfl ?_
        refine RJ.first 14 (listed' := #[true, true, true, true, true, true, true, true, true, true, true, true, true, true, true, false]) [] rfl (by kernel_rfl) rfl ⟨List.nodup_nil, rfl⟩ (y_fldB (o := 0) fld49_1 rfl) rfl ?_
        refine RJ.step1 15 [] (by kernel_rfl) ⟨List.nodup_nil, rfl⟩ ?_
        refine RO.of (listed' := #[true, true, true, true, true, true, true, true, true, true, true, true, true, true, true, true]) rfl rfl ?_
        refine SJ.storeL (k := 2) (off := 1) (us := [.int .i64 r15.1]) rfl rfl rfl rfl Tryd.sizeOf2 rfl rfl ?_
        refine SJ.nil ?_
        refine PJ.draw ?_
        refine RJ.fin [] (by kernel_rfl) ⟨List.nodup_nil, rfl⟩ ?_
        refine PJ.block_normal (PJ.fin ?_)
        obtain rfl := Option.some.inj hm
        refine PJ.sel (L' := [box g2 117 [v3, .int .i64 r15.2.at_, .int .u64 r15.2.seed], box g6 49 [.int .i64 x5.strokes, .int .i64 r15.1, .int .i64 x5.seconds]]) [0, 2] ⟨by decide, rfl⟩ ?_
        refine PJ.star ?_
        exact PJ.retn (vs := []) Tryd.results123 trivial ⟨rfl, rfl⟩
      · intro hD17
        refine RJ.step2 5 9 [] (by kernel_rfl) ⟨List.nodup_nil, rfl⟩ ?_ ?_
        · refine RO.of (listed' := #[true, true, true, true, true, true, true, true, true, false, false, false, false, false, false, false]) rfl rfl ?_
          refine SJ.q (YldS.yld (y_loadB (k := 1) (off := 0) (v := .int .i64 x5.strokes) rfl Tryd.isAgg2 rfl rfl)) rfl ?_
          refine SJ.nil ?_
          refine PJ.draw ?_
          refine RJ.step1 9 [] (by kernel_rfl) ⟨List.nodup_nil, rfl⟩ ?_
          refine RO.of (listed' := #[true, true, true, true, true, true, true, true, true, true, false, false, false, false, false, false]) rfl rfl ?_
          refine SJ.q (YldS.yld (y_loadB (k := 1) (off := 0) (v := .int .i64 x5.strokes) rfl Tryd.isAgg2 rfl rfl)) rfl ?_
          refine SJ.nil ?_
          refine PJ.draw ?_
          refine RJ.first 10 (listed' := #[true, true, true, true, true, true, true, true, true, true, true, false, false, false, false, false]) [] rfl (by kernel_rfl) rfl ⟨List.nodup_nil, rfl⟩ (y_bin rfl rfl rfl) rfl ?_
          exact RJ.weak (hD17 ()) [0, 1] ⟨rfl, rfl, rfl, rfl, trivial⟩ ⟨by decide, rfl⟩
        · refine RO.of (listed' := #[true, true, true, true, true, false, true, true, true, true, false, false, false, false, false, false]) rfl rfl ?_
          refine SJ.q (YldS.yld (y_loadB (k := 1) (off := 0) (v := .int .i64 x5.strokes) rfl Tryd.isAgg2 rfl rfl)) rfl ?_
          refine SJ.nil ?_
          refine PJ.draw ?_
          refine RJ.first 10 (listed' := #[true, true, true, true, true, false, true, true, true, true, true, false, false, false, false, false]) [] rfl (by kernel_rfl) rfl ⟨List.nodup_nil, rfl⟩ (y_bin rfl rfl rfl) rfl ?_
          refine RJ.step1 5 [] (by kernel_rfl) ⟨List.nodup_nil, rfl⟩ ?_
          refine RO.of (listed' := #[true, true, true, true, true, true, true, true, true, true, true, false, false, false, false, false]) rfl rfl ?_
          refine SJ.q (YldS.yld (y_loadB (k := 1) (off := 0) (v := .int .i64 x5.strokes) rfl Tryd.isAgg2 rfl rfl)) rfl ?_
          refine SJ.nil ?_
          refine PJ.draw ?_
          exact RJ.weak (hD17 ()) [0, 1] ⟨rfl, rfl, rfl, rfl, trivial⟩ ⟨by decide, rfl⟩
    · replace hm := ifF hm hb13
      refine WJ.seq ?_
      refine WJ.quiet ?_
      refine QJ.step (YldS.yld (y_bin rfl rfl rfl)) rfl ?_
      refine QJ.step (YldS.yld (y_assign rfl)) rfl ?_
      refine QJ.done ?_
      refine PJ.next ?_
      refine WJ.cond (t := (r7.1 == 2)) rfl (fun hb18 => ?_) (fun hb18 => ?_)
      · replace hm := ifT hm hb18
        refine WJ.reg ?_
        refine SJ.q (YldS.yld (y_move rfl)) rfl ?_
        refine SJ.q (YldS.yld (y_move rfl)) rfl ?_
        refine SJ.buildSlice (R := fI64) (os := [.const (.int .i64 0), .const (.int .i64 1), .const (.int .i64 7200), .const (.int .i64 7201)]) [0, 1, 7200, 7201] Tryd.runUnderlying26 Tryd.sizeOf2 Tryd.zeroValue2 rfl rfl rfl rfl rfl rfl fun v19 => ?_
        obtain ⟨r20, h21, hm⟩ := bindS hm
        refine SJ.call2 (k := 1) rfl Tryd.call88 rfl (fun w S hw hA hO hB => ok_s_l00Src_among h21 w S _ (hr4.st1 hw hO) _ (hB.row_rd (j := 0) (k := 1) rfl rfl) hA) rfl ?_
        rintro _ _ ⟨rfl, rfl⟩
        refine SJ.q (YldS.yld (y_nil rfl)) rfl ?_
        refine SJ.q (YldS.yld (y_fldB (o := 0) fld49_2 rfl)) rfl ?_
        refine SJ.storeL (k := 2) (off := 2) (us := [.int .i64 r20.1]) rfl rfl rfl rfl Tryd.sizeOf2 rfl rfl ?_
        refine SJ.nil ?_
        refine PJ.block_normal (PJ.fin ?_)
        obtain rfl := Option.some.inj hm
        refine PJ.sel (L' := [box g2 117 [v3, .int .i64 r20.2.at_, .int .u64 r20.2.seed], box g6 49 [.int .i64 x5.strokes, .int .i64 x5.errors, .int .i64 r20.1]]) [0, 2] ⟨by decide, rfl⟩ ?_
        refine PJ.star ?_
        exact PJ.retn (vs := []) Tryd.results123 trivial ⟨rfl, rfl⟩
      · replace hm := ifF hm hb18
        refine WJ.skip ?_
        refine PJ.block_normal (PJ.fin ?_)
        obtain rfl := Option.some.inj hm
        refine PJ.sel (L' := [box g2 117 [v3, .int .i64 r7.2.at_, .int .u64 r7.2.seed], box g6 49 [.int .i64 x5.strokes, .int .i64 x5.errors, .int .i64 x5.seconds]]) [0, 1] ⟨by decide, rfl⟩ ?_
        refine PJ.star ?_
        exact PJ.retn (vs := []) Tryd.results123 trivial ⟨rfl, rfl⟩

set_option maxRecDepth 100000 in
set_option maxHeartbeats 1000000 in
theorem ok_s_l20Bent {s1 : L00Src} {g2 : Nat} {r : Trial × L00Src} (hm : s_l20Bent s1 = some r) (w : World) (S : Nat → Prop) (v3 : Value) (hr4 : RdS w (Cx.Fz ⟨w, S⟩) v3 fByte.rp s1.code) (hA : (box g2 117 [v3, .int .i64 s1.at_, .int .u64 s1.seed]).holds w S) :
    Calls Tryd.prog 94 #[pt g2 0] w (RetG ⟨w, S⟩ fun u L => (u = .agg (Trial.enc r.1).toArray ∧ L = [box g2 117 [v3, .int .i64 r.2.at_, .int .u64 r.2.seed]])) := by
  unfold s_l20Bent at hm
  refine Calls.enter1 hA [pt g2 0] Tryd.func94 rfl Tryd.ntmps94 rfl ?_
  refine WJ.seq ?_
  refine WJ.reg ?_
  refine SJ.alloc (cs := [.int .i64 0, .int .i64 0, .int .i64 0]) Tryd.zeroValue49 rfl rfl fun g5 => ?_
  refine SJ.nil ?_
  refine PJ.next ?_
  refine WJ.seq ?_
  refine WJ.reg ?_
  refine SJ.q (YldS.yld (y_move rfl)) rfl ?_
  obtain ⟨r6, h7, hm⟩ := bindS hm
  refine SJ.call1 (k := 1) rfl Tryd.call100 rfl (fun w S hw hA hO => ok_s_l20New h7 w S _ (hr4.st1 hw hO) hA) rfl ?_
  rintro _ _ ⟨rfl, rfl⟩
  refine SJ.alloc (cs := [.int .i64 0, .int .i64 0, .int .i64 0]) Tryd.zeroValue49 rfl rfl fun g8 => ?_
  refine SJ.storeL (k := 0) (off := 0) (us := [.int .i64 r6.1.strokes, .int .i64 r6.1.errors, .int .i64 r6.1.seconds]) rfl rfl rfl rfl Tryd.sizeOf49 rfl rfl ?_
  refine SJ.nil ?_
  refine PJ.next ?_
  obtain ⟨kj14, hk15, hm⟩ := withK_open hm
  refine WJ.join (X := Int × Int × Int × Int × Int) (fun (x : Int × Int × Int × Int × Int) => kj14 x.1 x.2.1 x.2.2.1 x.2.2.2.1 x.2.2.2.2 = some r) (fun (x : Int × Int × Int × Int × Int) => [(2, pt g5 0), (3, pt g8 0)]) (fun (x : Int × Int × Int × Int × Int) => [box g2 117 [v3, .int .i64 x.1, .int .u64 x.2.1], box g8 49 [.int .i64 x.2.2.1, .int .i64 x.2.2.2.1, .int .i64 x.2.2.2.2], box g5 49 [.int .i64 0, .int .i64 0, .int .i64 0]]) ?_ ?_
  · clear hk15
    refine WJ.seq ?_
    refine WJ.reg ?_
    refine SJ.q (YldS.yld (y_move rfl)) rfl ?_
    obtain ⟨r16, h17, hm⟩ := bindS hm
    refine SJ.call1 (k := 1) rfl Tryd.call69 rfl (fun w S hw hA hO => ok_s_l00Src_one h17 w S _ (hr4.st1 hw hO) hA) rfl ?_
    rintro _ _ ⟨rfl, rfl⟩
    refine SJ.nil ?_
    refine PJ.next ?_
    refine WJ.cond (t := r16.1) rfl (fun hb18 => ?_) (fun hb18 => ?_)
    · replace hm := ifT hm hb18
      refine WJ.reg ?_
      refine SJ.q (YldS.yld (y_move rfl)) rfl ?_
      refine SJ.sel (L' := [box g2 117 [v3, .int .i64 r16.2.at_, .int .u64 r16.2.seed], box g8 49 [.int .i64 r6.1.strokes, .int .i64 r6.1.errors, .int .i64 r6.1.seconds], box g5 49 [.int .i64 0, .int .i64 0, .int .i64 0]]) [0, 1, 2] ⟨by decide, rfl⟩ ?_
      refine SJ.star ?_
      obtain ⟨r19, h20, hm⟩ := bindS hm
      refine SJ.call1 (k := 0) rfl Tryd.call123 rfl (fun w S hw hA hO => ok_s_l20Spoil h20 w S _ (hr4.st1 hw hO) hA) rfl ?_
      rintro _ _ ⟨rfl, rfl⟩
      refine SJ.unstar ?_
      refine SJ.nil ?_
      exact PJ.joined (r19.1.at_, r19.1.seed, r19.2.strokes, r19.2.errors, r19.2.seconds) [0, 1, 2] hm ⟨rfl, rfl, trivial⟩ ⟨by decide, rfl⟩
    · replace hm := ifF hm hb18
      refine WJ.skip ?_
      exact PJ.joined (r16.2.at_, r16.2.seed, r6.1.strokes, r6.1.errors, r6.1.seconds) [0, 1, 2] hm ⟨rfl, rfl, trivial⟩ ⟨by decide, rfl⟩
  · rintro ⟨x9, x10, x11, x12, x13⟩ hm
    subst hk15
    refine WJ.seq ?_
    refine WJ.reg ?_
    refine SJ.q (YldS.yld (y_loadBN (k := 1) (off := 0) (us := [.int .i64 x11, .int .i64 x12, .int .i64 x13]) rfl Tryd.isAgg49 Tryd.sizeOf49 rfl rfl)) rfl ?_
    refine SJ.storeL (k := 2) (off := 0) (us := [.int .i64 x11, .int .i64 x12, .int .i64 x13]) rfl rfl rfl rfl Tryd.sizeOf49 rfl rfl ?_
    refine SJ.nil ?_
    refine PJ.next ?_
    refine WJ.ret ?_
    obtain rfl := Option.some.inj hm
    exact PJ.retn_sel (vs := [.agg #[.int .i64 x11, .int .i64 x12, .int .i64 x13]]) Tryd.results94 ⟨⟨2, g5, 49, [.int .i64 x11, .int .i64 x12, .int .i64 x13], rfl, rfl, .inl ⟨Tryd.isAgg49, Tryd.sizeOf49, rfl⟩⟩, trivial⟩ [0] ⟨by decide, rfl⟩ ⟨rfl, rfl⟩

set_option maxRecDepth 100000 in
set_option maxHeartbeats 1000000 in
theorem ok_s_l20DrawPenalty {s1 : L00Src} {g2 : Nat} {r : Int × L00Src} (hm : s_l20DrawPenalty s1 = some r) (w : World) (S : Nat → Prop) (v3 : Value) (hr4 : RdS w (Cx.Fz ⟨w, S⟩) v3 fByte.rp s1.code) (hA : (box g2 117 [v3, .int .i64 s1.at_, .int .u64 s1.seed]).holds w S) :
    Calls Tryd.prog 89 #[pt g2 0] w (RetG ⟨w, S⟩ fun u L => (u = .int .i64 r.1 ∧ L = [box g2 117 [v3, .int .i64 r.2.at_, .int .u64 r.2.seed]])) := by
  unfold s_l20DrawPenalty at hm
  refine Calls.enter1 hA [pt g2 0] Tryd.func89 rfl Tryd.ntmps89 rfl ?_
  refine WJ.seq ?_
  refine WJ.quiet ?_
  refine QJ.step (YldS.yld (y_assign rfl)) rfl ?_
  refine QJ.done ?_
  refine PJ.next ?_
  refine WJ.seq ?_
  refine WJ.seq ?_
  refine WJ.reg ?_
  refine SJ.q (YldS.yld (y_move rfl)) rfl ?_
  obtain ⟨r5, h6, hm⟩ := bindS hm
  refine SJ.call1 (k := 0) rfl Tryd.call69 rfl (fun w S hw hA hO => ok_s_l00Src_one h6 w S _ (hr4.st1 hw hO) hA) rfl ?_
  rintro _ _ ⟨rfl, rfl⟩
  refine SJ.nil ?_
  refine PJ.next ?_
  refine WJ.cond (t := r5.1) rfl (fun hb7 => ?_) (fun hb7 => ?_)
  · replace hm := ifT hm hb7
    refine WJ.seq ?_
    refine WJ.reg ?_
    refine SJ.q (YldS.yld (y_move rfl)) rfl ?_
    refine SJ.buildSlice (R := fI64) (os := [.const (.int .i64 (-1)), .const (.int .i64 0), .const (.int .i64 50), .const (.int .i64 51)]) [(-1), 0, 50, 51] Tryd.runUnderlying26 Tryd.sizeOf2 Tryd.zeroValue2 rfl rfl rfl rfl rfl rfl fun v8 => ?_
    obtain ⟨r9, h10, hm⟩ := bindS hm
    refine SJ.call2 (k := 1) rfl Tryd.call88 rfl (fun w S hw hA hO hB => ok_s_l00Src_among h10 w S _ (hr4.st1 hw hO) _ (hB.row_rd (j := 0) (k := 1) rfl rfl) hA) rfl ?_
    rintro _ _ ⟨rfl, rfl⟩
    refine SJ.q (YldS.yld (y_assign rfl)) rfl ?_
    refine SJ.nil ?_
    refine PJ.next ?_
    refine WJ.ret ?_
    refine PJ.then_ret ?_
    obtain rfl := Option.some.inj hm
    refine PJ.sel (L' := [box g2 117 [v3, .int .i64 r9.2.at_, .int .u64 r9.2.seed]]) [0] ⟨by decide, rfl⟩ ?_
    exact PJ.retn (vs := [.int .i64 r9.1]) Tryd.results89 ⟨rfl, trivial⟩ ⟨rfl, rfl⟩
  · replace hm := ifF hm hb7
    refine WJ.skip ?_
    refine PJ.next ?_
    refine WJ.seq ?_
    refine WJ.reg ?_
    refine SJ.q (YldS.yld (y_move rfl)) rfl ?_
    obtain ⟨r11, h12, hm⟩ := bindS hm
    refine SJ.call1 (k := 0) rfl Tryd.call68 rfl (fun w S hw hA hO => ok_s_l00Src_pick h12 w S _ (hr4.st1 hw hO) hA) rfl ?_
    rintro _ _ ⟨rfl, rfl⟩
    refine SJ.q (YldS.yld (y_bin rfl rfl rfl)) rfl ?_
    refine SJ.q (YldS.yld (y_assign rfl)) rfl ?_
    refine SJ.nil ?_
    refine PJ.next ?_
    refine WJ.ret ?_
    obtain rfl := Option.some.inj hm
    refine PJ.sel (L' := [box g2 117 [v3, .int .i64 r11.2.at_, .int .u64 r11.2.seed]]) [0] ⟨by decide, rfl⟩ ?_
    exact PJ.retn (vs := [.int .i64 (w64 (5 * r11.1))]) Tryd.results89 ⟨rfl, trivial⟩ ⟨rfl, rfl⟩

set_option maxRecDepth 100000 in
set_option maxHeartbeats 1000000 in
theorem ok_s_l20Both {code1 : List UInt8} {r : Trial × Int} (hm : s_l20Both code1 = some r) (w : World) (v2 : Value) (hr3 : RdS w (cx w).Fz v2 fByte.rp code1) :
    Calls Tryd.prog 81 #[v2] w (Ret (cx w) (tup [.agg (Trial.enc r.1).toArray, .int .i64 r.2])) := by
  unfold s_l20Both at hm
  refine Calls.enter [v2] Tryd.func81 rfl Tryd.ntmps81 rfl ?_
  refine WJ.seq ?_
  refine WJ.reg ?_
  refine SJ.alloc (cs := [.int .i64 0, .int .i64 0, .int .i64 0]) Tryd.zeroValue49 rfl rfl fun g4 => ?_
  refine SJ.q (YldS.yld (y_assign rfl)) rfl ?_
  refine SJ.nil ?_
  refine PJ.next ?_
  refine WJ.seq ?_
  refine WJ.reg ?_
  refine SJ.q (YldS.yld (y_move rfl)) rfl ?_
  obtain ⟨r5, h6, hm⟩ := bindS hm
  refine SJ.call Tryd.call51 rfl (fun w hw => ok_s_l00From h6 w _ (hr3.st hw)) rfl ?_
  rintro _ _ ⟨g7, rfl, rfl⟩
  refine SJ.q (YldS.yld (y_assign rfl)) rfl ?_
  refine SJ.nil ?_
  refine PJ.next ?_
  refine WJ.seq ?_
  refine WJ.reg ?_
  refine SJ.q (YldS.yld (y_move rfl)) rfl ?_
  obtain ⟨r8, h9, hm⟩ := bindS hm
  refine SJ.call1 (k := 0) rfl Tryd.call94 rfl (fun w S hw hA hO => ok_s_l20Bent h9 w S _ (hr3.st1 hw hO) hA) rfl ?_
  rintro _ _ ⟨rfl, rfl⟩
  refine SJ.alloc (cs := [.int .i64 0, .int .i64 0, .int .i64 0]) Tryd.zeroValue49 rfl rfl fun g10 => ?_
  refine SJ.storeL (k := 0) (off := 0) (us := [.int .i64 r8.1.strokes, .int .i64 r8.1.errors, .int .i64 r8.1.seconds]) rfl rfl rfl rfl Tryd.sizeOf49 rfl rfl ?_
  refine SJ.nil ?_
  refine PJ.next ?_
  refine WJ.seq ?_
  obtain ⟨r11, h12, hm⟩ := bindS hm
  refine WJ.draws (N := 5) (listed0 := #[false, false, false, false, false]) [box g10 49 [.int .i64 r8.1.strokes, .int .i64 r8.1.errors, .int .i64 r8.1.seconds]] follows rfl rfl ?_
  refine RJ.first 0 (listed' := #[true, false, false, false, false]) [0] rfl (by kernel_rfl) rfl ⟨by decide, rfl⟩ (y_loadBN (k := 0) (off := 0) (us := [.int .i64 r8.1.strokes, .int .i64 r8.1.errors, .int .i64 r8.1.seconds]) rfl Tryd.isAgg49 Tryd.sizeOf49 rfl rfl) rfl ?_
  refine RJ.first 1 (listed' := #[true, true, false, false, false]) [0] rfl (by kernel_rfl) rfl ⟨by decide, rfl⟩ (y_move rfl) rfl ?_
  refine RJ.step1 2 [0] (by kernel_rfl) ⟨by decide, rfl⟩ ?_
  refine RO.of (listed' := #[true, true, true, false, false]) rfl rfl ?_
  refine SJ.call1 (k := 1) rfl Tryd.call89 rfl (fun w S hw hA hO => ok_s_l20DrawPenalty h12 w S _ (hr3.st1 hw hO) hA) rfl ?_
  rintro _ _ ⟨rfl, rfl⟩
  refine SJ.nil ?_
  refine PJ.draw ?_
  refine RJ.step1 3 [1] (by kernel_rfl) ⟨by decide, rfl⟩ ?_
  refine RO.of (listed' := #[true, true, true, true, false]) rfl rfl ?_
  refine SJ.storeL (k := 2) (off := 0) (us := [.int .i64 r8.1.strokes, .int .i64 r8.1.errors, .int .i64 r8.1.seconds]) rfl rfl rfl rfl Tryd.sizeOf49 rfl rfl ?_
  refine SJ.nil ?_
  refine PJ.draw ?_
  refine RJ.first 4 (listed' := #[true, true, true, true, true]) [1] rfl (by kernel_rfl) rfl ⟨by decide, rfl⟩ (y_assign rfl) rfl ?_
  refine RJ.fin [1] (by kernel_rfl) ⟨by decide, rfl⟩ ?_
  refine PJ.next ?_
  refine WJ.ret ?_
  obtain rfl := Option.some.inj hm
  exact PJ.retn_sel (vs := [.agg (Trial.enc r8.1).toArray, .int .i64 r11.1]) Tryd.results81 ⟨⟨2, g4, 49, [.int .i64 r8.1.strokes, .int .i64 r8.1.errors, .int .i64 r8.1.seconds], rfl, rfl, .inl ⟨Tryd.isAgg49, Tryd.sizeOf49, rfl⟩⟩, rfl, trivial⟩ [] ⟨List.nodup_nil, rfl⟩ ⟨rfl, rfl⟩

set_option maxRecDepth 100000 in
set_option maxHeartbeats 1000000 in
theorem ok_s_DrawStrokesPerMinute {code1 : List UInt8} {r : Trial × Int} (hm : s_DrawStrokesPerMinute code1 = some r) (w : World) (v2 : Value) (hr3 : RdS w (cx w).Fz v2 fByte.rp code1) :
    Calls Tryd.prog 28 #[v2] w (Ret (cx w) (tup [.agg (Trial.enc r.1).toArray, .int .i64 r.2])) := by
  unfold s_DrawStrokesPerMinute at hm
  refine Calls.enter [v2] Tryd.func28 rfl Tryd.ntmps28 rfl ?_
  refine WJ.seq ?_
  refine WJ.reg ?_
  refine SJ.alloc (cs := [.int .i64 0, .int .i64 0, .int .i64 0]) Tryd.zeroValue49 rfl rfl fun g4 => ?_
  refine SJ.q (YldS.yld (y_assign rfl)) rfl ?_
  refine SJ.nil ?_
  refine PJ.next ?_
  refine WJ.seq ?_
  refine WJ.reg ?_
  refine SJ.q (YldS.yld (y_move rfl)) rfl ?_
  obtain ⟨r5, h6, hm⟩ := bindS hm
  refine SJ.q (y_call Tryd.call81 rfl (RetG.quiet fun w hw => ok_s_l20Both h6 w _ (hr3.st hw))) rfl ?_
  refine SJ.q (YldS.yld (y_extract rfl rfl)) rfl ?_
  refine SJ.q (YldS.yld (y_extract rfl rfl)) rfl ?_
  refine SJ.storeL (k := 0) (off := 0) (us := [.int .i64 r5.1.strokes, .int .i64 r5.1.errors, .int .i64 r5.1.seconds]) rfl rfl rfl rfl Tryd.sizeOf49 rfl rfl ?_
  refine SJ.q (YldS.yld (y_assign rfl)) rfl ?_
  refine SJ.nil ?_
  refine PJ.next ?_
  refine WJ.ret ?_
  obtain rfl := Option.some.inj hm
  exact PJ.retn_sel (vs := [.agg (Trial.enc r5.1).toArray, .int .i64 r5.2]) Tryd.results28 ⟨⟨0, g4, 49, [.int .i64 r5.1.strokes, .int .i64 r5.1.errors, .int .i64 r5.1.seconds], rfl, rfl, .inl ⟨Tryd.isAgg49, Tryd.sizeOf49, rfl⟩⟩, rfl, trivial⟩ [] ⟨List.nodup_nil, rfl⟩ ⟨rfl, rfl⟩

set_option maxRecDepth 100000 in
set_option maxHeartbeats 1000000 in
theorem ok_i_between {n1 : Int} {low2 : Int} {high3 : Int} {r : Bool} (hm : i_between n1 low2 high3 = some r) (w : World)  :
    Calls Tryd.prog 72 #[.int .i64 n1, .int .i64 low2, .int .i64 high3] w (Ret (cx w) (.bool r)) := by
  unfold i_between at hm
  refine Calls.enter [.int .i64 n1, .int .i64 low2, .int .i64 high3] Tryd.func72 rfl Tryd.ntmps72 rfl ?_
  refine WJ.seq ?_
  refine WJ.quiet ?_
  refine QJ.step (YldS.yld (y_assign rfl)) rfl ?_
  refine QJ.done ?_
  refine PJ.next ?_
  refine WJ.seq ?_
  refine WJ.quiet ?_
  refine QJ.step (YldS.yld (y_move rfl)) rfl ?_
  refine QJ.step (YldS.yld (y_move rfl)) rfl ?_
  refine QJ.step (YldS.yld (y_bin rfl rfl rfl)) rfl ?_
  refine QJ.step (YldS.yld (y_move rfl)) rfl ?_
  obtain ⟨t4, h5, hm⟩ := bindS hm
  refine QJ.cut 4 [(14, .bool t4)] ?_ ?_
  · rcases Bool.eq_false_or_eq_true (decide (n1 ≥ low2)) with hb6 | hb6
    · replace h5 := andT h5 hb6
      refine QJ.on rfl rfl (cB hb6) (YldS.yld (y_move rfl)) rfl ?_
      refine QJ.on rfl rfl (cB hb6) (YldS.yld (y_move rfl)) rfl ?_
      refine QJ.on rfl rfl (cB hb6) (YldS.yld (y_bin rfl rfl rfl)) rfl ?_
      refine QJ.step (YldS.yld (y_pick_t (cB hb6) rfl)) rfl ?_
      obtain rfl := Option.some.inj h5
      exact QJ.cut_end ⟨rfl, trivial⟩
    · obtain rfl := andF h5 hb6
      refine QJ.off rfl rfl (cB hb6) rfl rfl ?_
      refine QJ.off rfl rfl (cB hb6) rfl rfl ?_
      refine QJ.off rfl rfl (cB hb6) rfl rfl ?_
      refine QJ.step (YldS.yld (y_pick_f (cB hb6) rfl)) rfl ?_
      exact QJ.cut_end ⟨rfl, trivial⟩
  refine QJ.step (YldS.yld (y_assign rfl)) rfl ?_
  refine QJ.done ?_
  refine PJ.next ?_
  refine WJ.ret ?_
  obtain rfl := Option.some.inj hm
  refine PJ.sel (L' := []) [] ⟨List.nodup_nil, rfl⟩ ?_
  exact PJ.retn (vs := [.bool t4]) Tryd.results72 ⟨rfl, trivial⟩ ⟨rfl, rfl⟩

set_option maxRecDepth 100000 in
set_option maxHeartbeats 1000000 in
theorem ok_i_validTrial {x1 : Trial} {r : Bool} (hm : i_validTrial x1 = some r) (w : World)  :
    Calls Tryd.prog 95 #[.agg (Trial.enc x1).toArray] w (Ret (cx w) (.bool r)) := by
  unfold i_validTrial at hm
  refine Calls.enter [.agg (Trial.enc x1).toArray] Tryd.func95 rfl Tryd.ntmps95 rfl ?_
  refine WJ.seq ?_
  refine WJ.reg ?_
  refine SJ.box (cs := [.int .i64 x1.strokes, .int .i64 x1.errors, .int .i64 x1.seconds]) rfl rfl rfl fun g2 => ?_
  refine SJ.q (YldS.yld (y_assign rfl)) rfl ?_
  refine SJ.nil ?_
  refine PJ.next ?_
  refine WJ.seq ?_
  refine WJ.quiet ?_
  refine QJ.step (YldS.yld (y_fldB (o := 0) fld49_0 rfl)) rfl ?_
  refine QJ.step (YldS.yld (y_loadB (k := 0) (off := 0) (v := .int .i64 x1.strokes) rfl Tryd.isAgg2 rfl rfl)) rfl ?_
  obtain ⟨r3, h4, hm⟩ := bindS hm
  refine QJ.step (y_call Tryd.call72 rfl (RetG.quiet fun w hw => ok_i_between h4 w )) rfl ?_
  refine QJ.step (YldS.yld (y_move rfl)) rfl ?_
  obtain ⟨t5, h6, hm⟩ := bindS hm
  refine QJ.cut 6 [(1, pt g2 0), (12, .bool t5)] ?_ ?_
  · rcases Bool.eq_false_or_eq_true r3 with hb7 | hb7
    · replace h6 := andT h6 hb7
      refine QJ.on rfl rfl (cB hb7) (YldS.yld (y_fldB (o := 0) fld49_1 rfl)) rfl ?_
      refine QJ.on rfl rfl (cB hb7) (YldS.yld (y_loadB (k := 0) (off := 1) (v := .int .i64 x1.errors) rfl Tryd.isAgg2 rfl rfl)) rfl ?_
      refine QJ.on rfl rfl (cB hb7) (YldS.yld (y_fldB (o := 0) fld49_0 rfl)) rfl ?_
      refine QJ.on rfl rfl (cB hb7) (YldS.yld (y_loadB (k := 0) (off := 0) (v := .int .i64 x1.strokes) rfl Tryd.isAgg2 rfl rfl)) rfl ?_
      obtain ⟨r8, h9, h6⟩ := bindS h6
      refine QJ.on rfl rfl (cB hb7) (y_call Tryd.call72 rfl (RetG.quiet fun w hw => ok_i_between h9 w )) rfl ?_
      refine QJ.step (YldS.yld (y_pick_t (cB hb7) rfl)) rfl ?_
      obtain rfl := Option.some.inj h6
      exact QJ.cut_end ⟨rfl, rfl, trivial⟩
    · obtain rfl := andF h6 hb7
      refine QJ.off rfl rfl (cB hb7) rfl rfl ?_
      refine QJ.off rfl rfl (cB hb7) rfl rfl ?_
      refine QJ.off rfl rfl (cB hb7) rfl rfl ?_
      refine QJ.off rfl rfl (cB hb7) rfl rfl ?_
      refine QJ.off rfl rfl (cB hb7) rfl rfl ?_
      refine QJ.step (YldS.yld (y_pick_f (cB hb7) rfl)) rfl ?_
      exact QJ.cut_end ⟨rfl, rfl, trivial⟩
  refine QJ.step (YldS.yld (y_move rfl)) rfl ?_
  obtain ⟨t10, h11, hm⟩ := bindS hm
  refine QJ.cut 4 [(17, .bool t10)] ?_ ?_
  · rcases Bool.eq_false_or_eq_true t5 with hb12 | hb12
    · replace h11 := andT h11 hb12
      refine QJ.on rfl rfl (cB hb12) (YldS.yld (y_fldB (o := 0) fld49_2 rfl)) rfl ?_
      refine QJ.on rfl rfl (cB hb12) (YldS.yld (y_loadB (k := 0) (off := 2) (v := .int .i64 x1.seconds) rfl Tryd.isAgg2 rfl rfl)) rfl ?_
      obtain ⟨r13, h14, h11⟩ := bindS h11
      refine QJ.on rfl rfl (cB hb12) (y_call Tryd.call72 rfl (RetG.quiet fun w hw => ok_i_between h14 w )) rfl ?_
      refine QJ.step (YldS.yld (y_pick_t (cB hb12) rfl)) rfl ?_
      obtain rfl := Option.some.inj h11
      exact QJ.cut_end ⟨rfl, trivial⟩
    · obtain rfl := andF h11 hb12
      refine QJ.off rfl rfl (cB hb12) rfl rfl ?_
      refine QJ.off rfl rfl (cB hb12) rfl rfl ?_
      refine QJ.off rfl rfl (cB hb12) rfl rfl ?_
      refine QJ.step (YldS.yld (y_pick_f (cB hb12) rfl)) rfl ?_
      exact QJ.cut_end ⟨rfl, trivial⟩
  refine QJ.step (YldS.yld (y_assign rfl)) rfl ?_
  refine QJ.done ?_
  refine PJ.next ?_
  refine WJ.ret ?_
  obtain rfl := Option.some.inj hm
  refine PJ.sel (L' := []) [] ⟨List.nodup_nil, rfl⟩ ?_
  exact PJ.retn (vs := [.bool t10]) Tryd.results95 ⟨rfl, trivial⟩ ⟨rfl, rfl⟩

set_option maxRecDepth 100000 in
set_option maxHeartbeats 1000000 in
theorem ok_i_isPenalty {penalty1 : Int} {r : Bool} (hm : i_isPenalty penalty1 = some r) (w : World)  :
    Calls Tryd.prog 90 #[.int .i64 penalty1] w (Ret (cx w) (.bool r)) := by
  unfold i_isPenalty at hm
  refine Calls.enter [.int .i64 penalty1] Tryd.func90 rfl Tryd.ntmps90 rfl ?_
  refine WJ.seq ?_
  refine WJ.quiet ?_
  refine QJ.step (YldS.yld (y_assign rfl)) rfl ?_
  refine QJ.done ?_
  refine PJ.next ?_
  refine WJ.seq ?_
  refine WJ.quiet ?_
  refine QJ.step (YldS.yld (y_move rfl)) rfl ?_
  obtain ⟨r2, h3, hm⟩ := bindS hm
  refine QJ.step (y_call Tryd.call72 rfl (RetG.quiet fun w hw => ok_i_between h3 w )) rfl ?_
  refine QJ.step (YldS.yld (y_assign rfl)) rfl ?_
  refine QJ.done ?_
  refine PJ.next ?_
  refine WJ.ret ?_
  obtain rfl := Option.some.inj hm
  refine PJ.sel (L' := []) [] ⟨List.nodup_nil, rfl⟩ ?_
  exact PJ.retn (vs := [.bool r2]) Tryd.results90 ⟨rfl, trivial⟩ ⟨rfl, rfl⟩

set_option maxRecDepth 100000 in
set_option maxHeartbeats 1000000 in
theorem ok_i_trialCode {x1 : Trial} {penalty2 : Int} {r : Int} (hm : i_trialCode x1 penalty2 = some r) (w : World)  :
    Calls Tryd.prog 82 #[.agg (Trial.enc x1).toArray, .int .i64 penalty2] w (Ret (cx w) (.int .i64 r)) := by
  unfold i_trialCode at hm
  refine Calls.enter [.agg (Trial.enc x1).toArray, .int .i64 penalty2] Tryd.func82 rfl Tryd.ntmps82 rfl ?_
  refine WJ.seq ?_
  refine WJ.reg ?_
  refine SJ.box (cs := [.int .i64 x1.strokes, .int .i64 x1.errors, .int .i64 x1.seconds]) rfl rfl rfl fun g3 => ?_
  refine SJ.q (YldS.yld (y_assign rfl)) rfl ?_
  refine SJ.nil ?_
  refine PJ.next ?_
  refine WJ.seq ?_
  refine WJ.seq ?_
  refine WJ.quiet ?_
  refine QJ.step (YldS.yld (y_loadBN (k := 0) (off := 0) (us := [.int .i64 x1.strokes, .int .i64 x1.errors, .int .i64 x1.seconds]) rfl Tryd.isAgg49 Tryd.sizeOf49 rfl rfl)) rfl ?_
  obtain ⟨r4, h5, hm⟩ := bindS hm
  refine QJ.step (y_call Tryd.call95 rfl (RetG.quiet fun w hw => ok_i_validTrial h5 w )) rfl ?_
  refine QJ.step (YldS.yld (y_not rfl)) rfl ?_
  refine QJ.done ?_
  refine PJ.next ?_
  refine WJ.cond (t := !r4) rfl (fun hb6 => ?_) (fun hb6 => ?_)
  · replace hm := ifT hm hb6
    refine WJ.seq ?_
    refine WJ.quiet ?_
    refine QJ.step (YldS.yld (y_assign rfl)) rfl ?_
    refine QJ.done ?_
    refine PJ.next ?_
    refine WJ.ret ?_
    refine PJ.then_ret ?_
    obtain rfl := Option.some.inj hm
    refine PJ.sel (L' := []) [] ⟨List.nodup_nil, rfl⟩ ?_
    exact PJ.retn (vs := [.int .i64 1]) Tryd.results82 ⟨rfl, trivial⟩ ⟨rfl, rfl⟩
  · replace hm := ifF hm hb6
    refine WJ.skip ?_
    refine PJ.next ?_
    refine WJ.seq ?_
    refine WJ.seq ?_
    refine WJ.quiet ?_
    refine QJ.step (YldS.yld (y_move rfl)) rfl ?_
    obtain ⟨r7, h8, hm⟩ := bindS hm
    refine QJ.step (y_call Tryd.call90 rfl (RetG.quiet fun w hw => ok_i_isPenalty h8 w )) rfl ?_
    refine QJ.step (YldS.yld (y_not rfl)) rfl ?_
    refine QJ.done ?_
    refine PJ.next ?_
    refine WJ.cond (t := !r7) rfl (fun hb9 => ?_) (fun hb9 => ?_)
    · replace hm := ifT hm hb9
      refine WJ.seq ?_
      refine WJ.quiet ?_
      refine QJ.step (YldS.yld (y_assign rfl)) rfl ?_
      refine QJ.done ?_
      refine PJ.next ?_
      refine WJ.ret ?_
      refine PJ.then_ret ?_
      obtain rfl := Option.some.inj hm
      refine PJ.sel (L' := []) [] ⟨List.nodup_nil, rfl⟩ ?_
      exact PJ.retn (vs := [.int .i64 2]) Tryd.results82 ⟨rfl, trivial⟩ ⟨rfl, rfl⟩
    · replace hm := ifF hm hb9
      refine WJ.skip ?_
      refine PJ.next ?_
      refine WJ.seq ?_
      refine WJ.quiet ?_
      refine QJ.step (YldS.yld (y_assign rfl)) rfl ?_
      refine QJ.done ?_
      refine PJ.next ?_
      refine WJ.ret ?_
      obtain rfl := Option.some.inj hm
      refine PJ.sel (L' := []) [] ⟨List.nodup_nil, rfl⟩ ?_
      exact PJ.retn (vs := [.int .i64 0]) Tryd.results82 ⟨rfl, trivial⟩ ⟨rfl, rfl⟩

set_option maxRecDepth 100000 in
set_option maxHeartbeats 1000000 in
theorem ok_i_Trial_net {x1 : Trial} {penalty2 : Int} {r : Int} (hm : i_Trial_net x1 penalty2 = some r) (w : World)  :
    Calls Tryd.prog 84 #[.agg (Trial.enc x1).toArray, .int .i64 penalty2] w (Ret (cx w) (.int .i64 r)) := by
  unfold i_Trial_net at hm
  refine Calls.enter [.agg (Trial.enc x1).toArray, .int .i64 penalty2] Tryd.func84 rfl Tryd.ntmps84 rfl ?_
  refine WJ.seq ?_
  refine WJ.reg ?_
  refine SJ.box (cs := [.int .i64 x1.strokes, .int .i64 x1.errors, .int .i64 x1.seconds]) rfl rfl rfl fun g3 => ?_
  refine SJ.q (YldS.yld (y_assign rfl)) rfl ?_
  refine SJ.nil ?_
  refine PJ.next ?_
  refine WJ.seq ?_
  refine WJ.quiet ?_
  refine QJ.step (YldS.yld (y_fldB (o := 0) fld49_0 rfl)) rfl ?_
  refine QJ.step (YldS.yld (y_loadB (k := 0) (off := 0) (v := .int .i64 x1.strokes) rfl Tryd.isAgg2 rfl rfl)) rfl ?_
  refine QJ.step (YldS.yld (y_move rfl)) rfl ?_
  refine QJ.step (YldS.yld (y_fldB (o := 0) fld49_1 rfl)) rfl ?_
  refine QJ.step (YldS.yld (y_loadB (k := 0) (off := 1) (v := .int .i64 x1.errors) rfl Tryd.isAgg2 rfl rfl)) rfl ?_
  refine QJ.step (YldS.yld (y_bin rfl rfl rfl)) rfl ?_
  refine QJ.step (YldS.yld (y_bin rfl rfl rfl)) rfl ?_
  refine QJ.step (YldS.yld (y_max rfl rfl)) rfl ?_
  refine QJ.step (YldS.yld (y_assign rfl)) rfl ?_
  refine QJ.done ?_
  refine PJ.next ?_
  refine WJ.ret ?_
  obtain rfl := Option.some.inj hm
  refine PJ.sel (L' := []) [] ⟨List.nodup_nil, rfl⟩ ?_
  exact PJ.retn (vs := [.int .i64 (imax (w64 (x1.strokes - (w64 (penalty2 * x1.errors)))) 0)]) Tryd.results84 ⟨rfl, trivial⟩ ⟨rfl, rfl⟩

set_option maxRecDepth 100000 in
set_option maxHeartbeats 1000000 in
theorem ok_i_absolute {n1 : Int} {r : Int} (hm : i_absolute n1 = some r) (w : World)  :
    Calls Tryd.prog 120 #[.int .i64 n1] w (Ret (cx w) (.int .i64 r)) := by
  unfold i_absolute at hm
  refine Calls.enter [.int .i64 n1] Tryd.func120 rfl Tryd.ntmps120 rfl ?_
  refine WJ.seq ?_
  refine WJ.quiet ?_
  refine QJ.step (YldS.yld (y_assign rfl)) rfl ?_
  refine QJ.done ?_
  refine PJ.next ?_
  refine WJ.seq ?_
  refine WJ.seq ?_
  refine WJ.quiet ?_
  refine QJ.step (YldS.yld (y_move rfl)) rfl ?_
  refine QJ.step (YldS.yld (y_bin rfl rfl rfl)) rfl ?_
  refine QJ.done ?_
  refine PJ.next ?_
  refine WJ.cond (t := decide (n1 < 0)) rfl (fun hb2 => ?_) (fun hb2 => ?_)
  · replace hm := ifT hm hb2
    refine WJ.seq ?_
    refine WJ.quiet ?_
    refine QJ.step (YldS.yld (y_move rfl)) rfl ?_
    refine QJ.step (YldS.yld (y_neg rfl)) rfl ?_
    refine QJ.step (YldS.yld (y_assign rfl)) rfl ?_
    refine QJ.done ?_
    refine PJ.next ?_
    refine WJ.ret ?_
    refine PJ.then_ret ?_
    obtain rfl := Option.some.inj hm
    refine PJ.sel (L' := []) [] ⟨List.nodup_nil, rfl⟩ ?_
    exact PJ.retn (vs := [.int .i64 (w64 (0 - n1))]) Tryd.results120 ⟨rfl, trivial⟩ ⟨rfl, rfl⟩
  · replace hm := ifF hm hb2
    refine WJ.skip ?_
    refine PJ.next ?_
    refine WJ.seq ?_
    refine WJ.quiet ?_
    refine QJ.step (YldS.yld (y_move rfl)) rfl ?_
    refine QJ.step (YldS.yld (y_assign rfl)) rfl ?_
    refine QJ.done ?_
    refine PJ.next ?_
    refine WJ.ret ?_
    obtain rfl := Option.some.inj hm
    refine PJ.sel (L' := []) [] ⟨List.nodup_nil, rfl⟩ ?_
    exact PJ.retn (vs := [.int .i64 n1]) Tryd.results120 ⟨rfl, trivial⟩ ⟨rfl, rfl⟩

set_option maxRecDepth 100000 in
set_option maxHeartbeats 1000000 in
theorem ok_i_divisor {N : Nat} {a1 : Int} {b2 : Int} {r : Int} (hm : i_divisor N a1 b2 = some r) (w : World)  :
    Calls Tryd.prog 119 #[.int .i64 a1, .int .i64 b2] w (Ret (cx w) (.int .i64 r)) := by
  unfold i_divisor at hm
  refine Calls.enter [.int .i64 a1, .int .i64 b2] Tryd.func119 rfl Tryd.ntmps119 rfl ?_
  refine WJ.seq ?_
  refine WJ.quiet ?_
  refine QJ.step (YldS.yld (y_assign rfl)) rfl ?_
  refine QJ.done ?_
  refine PJ.next ?_
  obtain ⟨kj4, hk5, hm⟩ := withK_open hm
  refine WJ.join (X := Int) (fun (x : Int) => kj4 x = some r) (fun (x : Int) => [(0, .int .i64 x)]) (fun (x : Int) => []) ?_ ?_
  · clear hk5
    refine WJ.block ?_
    refine WJ.sel (L' := (fun (x : Int × Int) => []) (a1, b2)) [] ⟨List.nodup_nil, rfl⟩ ?_
    refine WJ.sub (m' := (fun (x : Int × Int) => [(0, .int .i64 x.1), (1, .int .i64 x.2)]) (a1, b2)) ⟨rfl, rfl, trivial⟩ ?_
    refine WJ.loop (X := Int × Int) (fun N (x : Int × Int) => i_divisor_l1 kj4 N x.1 x.2 = some r) (fun (x : Int × Int) => [(0, .int .i64 x.1), (1, .int .i64 x.2)]) (fun (x : Int × Int) => []) ?_ N (a1, b2) hm
    · rintro N ⟨a6, b7⟩ hI
      have hm := hI; clear hI
      cases N with
      | zero => cases hm
      | succ N =>
      unfold i_divisor_l1 at hm
      refine WJ.seq ?_
      refine WJ.seq ?_
      refine WJ.quiet ?_
      refine QJ.step (YldS.yld (y_move rfl)) rfl ?_
      refine QJ.step (YldS.yld (y_bin rfl rfl rfl)) rfl ?_
      refine QJ.done ?_
      refine PJ.next ?_
      refine WJ.cond (t := (b7 != 0)) rfl (fun hb8 => ?_) (fun hb8 => ?_)
      · replace hm := ifT hm hb8
        refine WJ.skip ?_
        refine PJ.next ?_
        refine WJ.block ?_
        refine WJ.quiet_draw follows (by kernel_rfl) ?_
        refine QJ.step (YldS.yld (y_move rfl)) rfl ?_
        refine QJ.step (YldS.yld (y_move rfl)) rfl ?_
        refine QJ.step (YldS.yld (y_move rfl)) rfl ?_
        obtain ⟨q9, h10, hm⟩ := bindS hm
        refine QJ.step (YldS.yld (y_rem' h10 rfl rfl)) rfl ?_
        refine QJ.step (YldS.yld (y_assign rfl)) rfl ?_
        refine QJ.step (YldS.yld (y_assign rfl)) rfl ?_
        refine QJ.done ?_
        refine PJ.block_normal ?_
        exact PJ.round (b7, q9) [] hm ⟨rfl, rfl, trivial⟩ ⟨List.nodup_nil, rfl⟩
      · replace hm := ifF hm hb8
        refine WJ.exit ?_
        refine PJ.then_exit (PJ.then_exit (PJ.block_exit ?_))
        exact PJ.joined a6 [] hm ⟨rfl, trivial⟩ ⟨List.nodup_nil, rfl⟩
  · rintro a3 hm
    subst hk5
    refine WJ.seq ?_
    refine WJ.quiet ?_
    refine QJ.step (YldS.yld (y_move rfl)) rfl ?_
    refine QJ.step (YldS.yld (y_assign rfl)) rfl ?_
    refine QJ.done ?_
    refine PJ.next ?_
    refine WJ.ret ?_
    obtain rfl := Option.some.inj hm
    refine PJ.sel (L' := []) [] ⟨List.nodup_nil, rfl⟩ ?_
    exact PJ.retn (vs := [.int .i64 a3]) Tryd.results119 ⟨rfl, trivial⟩ ⟨rfl, rfl⟩

set_option maxRecDepth 100000 in
set_option maxHeartbeats 1000000 in
theorem ok_i_lowest {N : Nat} {num1 : Int} {den2 : Int} {r : Fraction} (hm : i_lowest N num1 den2 = some r) (w : World)  :
    Calls Tryd.prog 83 #[.int .i64 num1, .int .i64 den2] w (Ret (cx w) (.agg (Fraction.enc r).toArray)) := by
  unfold i_lowest at hm
  refine Calls.enter [.int .i64 num1, .int .i64 den2] Tryd.func83 rfl Tryd.ntmps83 rfl ?_
  refine WJ.seq ?_
  refine WJ.reg ?_
  refine SJ.alloc (cs := [.int .i64 0, .int .i64 0]) Tryd.zeroValue53 rfl rfl fun g3 => ?_
  refine SJ.nil ?_
  refine PJ.next ?_
  refine WJ.seq ?_
  refine WJ.quiet ?_
  refine QJ.step (YldS.yld (y_move rfl)) rfl ?_
  obtain ⟨r4, h5, hm⟩ := bindS hm
  refine QJ.step (y_call Tryd.call120 rfl (RetG.quiet fun w hw => ok_i_absolute h5 w )) rfl ?_
  refine QJ.step (YldS.yld (y_move rfl)) rfl ?_
  obtain ⟨r6, h7, hm⟩ := bindS hm
  refine QJ.step (y_call Tryd.call119 rfl (RetG.quiet fun w hw => ok_i_divisor h7 w )) rfl ?_
  refine QJ.step (YldS.yld (y_assign rfl)) rfl ?_
  refine QJ.done ?_
  refine PJ.next ?_
  refine WJ.seq ?_
  obtain ⟨q8, h9, hm⟩ := bindS hm
  obtain ⟨q10, h11, hm⟩ := bindS hm
  refine WJ.draws (N := 8) (listed0 := #[false, false, false, false, false, false, false, false]) [] follows rfl rfl ?_
  refine RJ.first 0 (listed' := #[true, false, false, false, false, false, false, false]) [] rfl (by kernel_rfl) rfl ⟨List.nodup_nil, rfl⟩ (y_move rfl) rfl ?_
  refine RJ.first 1 (listed' := #[true, true, false, false, false, false, false, false]) [] rfl (by kernel_rfl) rfl ⟨List.nodup_nil, rfl⟩ (y_move rfl) rfl ?_
  refine RJ.first 2 (listed' := #[true, true, true, false, false, false, false, false]) [] rfl (by kernel_rfl) rfl ⟨List.nodup_nil, rfl⟩ (y_quo' h9 rfl rfl) rfl ?_
  refine RJ.first 3 (listed' := #[true, true, true, true, false, false, false, false]) [] rfl (by kernel_rfl) rfl ⟨List.nodup_nil, rfl⟩ (y_move rfl) rfl ?_
  refine RJ.first 4 (listed' := #[true, true, true, true, true, false, false, false]) [] rfl (by kernel_rfl) rfl ⟨List.nodup_nil, rfl⟩ (y_move rfl) rfl ?_
  refine RJ.first 5 (listed' := #[true, true, true, true, true, true, false, false]) [] rfl (by kernel_rfl) rfl ⟨List.nodup_nil, rfl⟩ (y_quo' h11 rfl rfl) rfl ?_
  refine RJ.first 6 (listed' := #[true, true, true, true, true, true, true, false]) [] rfl (by kernel_rfl) rfl ⟨List.nodup_nil, rfl⟩ (y_build (parts := [(0, .tmp 12), (1, .tmp 15)]) (places := [(0, 1), (1, 1)]) (r := [.int .i64 ((Fraction.mk q8 q10).num), .int .i64 ((Fraction.mk q8 q10).den)]) pl53 Tryd.zeroValue53 rfl rfl rfl rfl) rfl ?_
  refine RJ.step1 7 [] (by kernel_rfl) ⟨List.nodup_nil, rfl⟩ ?_
  refine RO.of (listed' := #[true, true, true, true, true, true, true, true]) rfl rfl ?_
  refine SJ.storeL (k := 0) (off := 0) (us := [.int .i64 ((Fraction.mk q8 q10).num), .int .i64 ((Fraction.mk q8 q10).den)]) rfl rfl rfl rfl Tryd.sizeOf53 rfl rfl ?_
  refine SJ.nil ?_
  refine PJ.draw ?_
  refine RJ.fin [] (by kernel_rfl) ⟨List.nodup_nil, rfl⟩ ?_
  refine PJ.next ?_
  refine WJ.ret ?_
  obtain rfl := Option.some.inj hm
  exact PJ.retn_sel (vs := [.agg (Fraction.enc (Fraction.mk q8 q10)).toArray]) Tryd.results83 ⟨⟨0, g3, 53, [.int .i64 ((Fraction.mk q8 q10).num), .int .i64 ((Fraction.mk q8 q10).den)], rfl, rfl, .inl ⟨Tryd.isAgg53, Tryd.sizeOf53, rfl⟩⟩, trivial⟩ [] ⟨List.nodup_nil, rfl⟩ ⟨rfl, rfl⟩

set_option maxRecDepth 100000 in
set_option maxHeartbeats 1000000 in
theorem ok_i_StrokesPerMinute {N : Nat} {x1 : Trial} {penalty2 : Int} {r : Fraction × Int} (hm : i_StrokesPerMinute N x1 penalty2 = some r) (w : World)  :
    Calls Tryd.prog 29 #[.agg (Trial.enc x1).toArray, .int .i64 penalty2] w (Ret (cx w) (tup [.agg (Fraction.enc r.1).toArray, .int .i64 r.2])) := by
  unfold i_StrokesPerMinute at hm
  refine Calls.enter [.agg (Trial.enc x1).toArray, .int .i64 penalty2] Tryd.func29 rfl Tryd.ntmps29 rfl ?_
  refine WJ.seq ?_
  refine WJ.reg ?_
  refine SJ.box (cs := [.int .i64 x1.strokes, .int .i64 x1.errors, .int .i64 x1.seconds]) rfl rfl rfl fun g3 => ?_
  refine SJ.alloc (cs := [.int .i64 0, .int .i64 0]) Tryd.zeroValue53 rfl rfl fun g4 => ?_
  refine SJ.q (YldS.yld (y_assign rfl)) rfl ?_
  refine SJ.nil ?_
  refine PJ.next ?_
  refine WJ.seq ?_
  refine WJ.seq ?_
  refine WJ.quiet ?_
  refine QJ.step (YldS.yld (y_loadBN (k := 1) (off := 0) (us := [.int .i64 x1.strokes, .int .i64 x1.errors, .int .i64 x1.seconds]) rfl Tryd.isAgg49 Tryd.sizeOf49 rfl rfl)) rfl ?_
  refine QJ.step (YldS.yld (y_move rfl)) rfl ?_
  obtain ⟨r5, h6, hm⟩ := bindS hm
  refine QJ.step (y_call Tryd.call82 rfl (RetG.quiet fun w hw => ok_i_trialCode h6 w )) rfl ?_
  refine QJ.step (YldS.yld (y_assign rfl)) rfl ?_
  refine QJ.done ?_
  refine PJ.next ?_
  refine WJ.seq ?_
  refine WJ.quiet ?_
  refine QJ.step (YldS.yld (y_move rfl)) rfl ?_
  refine QJ.step (YldS.yld (y_bin rfl rfl rfl)) rfl ?_
  refine QJ.done ?_
  refine PJ.next ?_
  refine WJ.cond (t := (r5 != 0)) rfl (fun hb7 => ?_) (fun hb7 => ?_)
  · replace hm := ifT hm hb7
    refine WJ.seq ?_
    refine WJ.reg ?_
    refine SJ.q (YldS.yld (y_build (parts := []) (places := [(0, 1), (1, 1)]) (r := [.int .i64 ((Fraction.mk 0 0).num), .int .i64 ((Fraction.mk 0 0).den)]) pl53 Tryd.zeroValue53 rfl rfl rfl rfl)) rfl ?_
    refine SJ.q (YldS.yld (y_move rfl)) rfl ?_
    refine SJ.storeL (k := 0) (off := 0) (us := [.int .i64 ((Fraction.mk 0 0).num), .int .i64 ((Fraction.mk 0 0).den)]) rfl rfl rfl rfl Tryd.sizeOf53 rfl rfl ?_
    refine SJ.q (YldS.yld (y_assign rfl)) rfl ?_
    refine SJ.nil ?_
    refine PJ.next ?_
    refine WJ.ret ?_
    refine PJ.then_ret ?_
    obtain rfl := Option.some.inj hm
    exact PJ.retn_sel (vs := [.agg (Fraction.enc (Fraction.mk 0 0)).toArray, .int .i64 r5]) Tryd.results29 ⟨⟨0, g4, 53, [.int .i64 ((Fraction.mk 0 0).num), .int .i64 ((Fraction.mk 0 0).den)], rfl, rfl, .inl ⟨Tryd.isAgg53, Tryd.sizeOf53, rfl⟩⟩, rfl, trivial⟩ [] ⟨List.nodup_nil, rfl⟩ ⟨rfl, rfl⟩
  · replace hm := ifF hm hb7
    refine WJ.skip ?_
    refine PJ.next ?_
    refine WJ.seq ?_
    obtain ⟨r8, h9, hm⟩ := bindS hm
    obtain ⟨r10, h11, hm⟩ := bindS hm
    refine WJ.draws (N := 9) (listed0 := #[false, false, false, false, false, false, false, false, false]) [box g3 49 [.int .i64 x1.strokes, .int .i64 x1.errors, .int .i64 x1.seconds]] follows rfl rfl ?_
    refine RJ.first 0 (listed' := #[true, false, false, false, false, false, false, false, false]) [1] rfl (by kernel_rfl) rfl ⟨by decide, rfl⟩ (y_loadBN (k := 0) (off := 0) (us := [.int .i64 x1.strokes, .int .i64 x1.errors, .int .i64 x1.seconds]) rfl Tryd.isAgg49 Tryd.sizeOf49 rfl rfl) rfl ?_
    refine RJ.first 1 (listed' := #[true, true, false, false, false, false, false, false, false]) [1] rfl (by kernel_rfl) rfl ⟨by decide, rfl⟩ (y_move rfl) rfl ?_
    refine RJ.first 4 (listed' := #[true, true, false, false, true, false, false, false, false]) [1] rfl (by kernel_rfl) rfl ⟨by decide, rfl⟩ (y_fldB (o := 0) fld49_2 rfl) rfl ?_
    refine RJ.first 5 (listed' := #[true, true, false, false, true, true, false, false, false]) [1] rfl (by kernel_rfl) rfl ⟨by decide, rfl⟩ (y_loadB (k := 0) (off := 2) (v := .int .i64 x1.seconds) rfl Tryd.isAgg2 rfl rfl) rfl ?_
    refine RJ.step1 2 [1] (by kernel_rfl) ⟨by decide, rfl⟩ ?_
    refine RO.of (listed' := #[true, true, true, false, true, true, false, false, false]) rfl rfl ?_
    refine SJ.q (y_call Tryd.call84 rfl (RetG.quiet fun w hw => ok_i_Trial_net h9 w )) rfl ?_
    refine SJ.nil ?_
    refine PJ.draw ?_
    refine RJ.first 3 (listed' := #[true, true, true, true, true, true, false, false, false]) [1] rfl (by kernel_rfl) rfl ⟨by decide, rfl⟩ (y_bin rfl rfl rfl) rfl ?_
    refine RJ.step1 6 [1] (by kernel_rfl) ⟨by decide, rfl⟩ ?_
    refine RO.of (listed' := #[true, true, true, true, true, true, true, false, false]) rfl rfl ?_
    refine SJ.q (y_call Tryd.call83 rfl (RetG.quiet fun w hw => ok_i_lowest h11 w )) rfl ?_
    refine SJ.nil ?_
    refine PJ.draw ?_
    refine RJ.step1 7 [1] (by kernel_rfl) ⟨by decide, rfl⟩ ?_
    refine RO.of (listed' := #[true, true, true, true, true, true, true, true, false]) rfl rfl ?_
    refine SJ.storeL (k := 0) (off := 0) (us := [.int .i64 r10.num, .int .i64 r10.den]) rfl rfl rfl rfl Tryd.sizeOf53 rfl rfl ?_
    refine SJ.nil ?_
    refine PJ.draw ?_
    refine RJ.first 8 (listed' := #[true, true, true, true, true, true, true, true, true]) [1] rfl (by kernel_rfl) rfl ⟨by decide, rfl⟩ (y_assign rfl) rfl ?_
    refine RJ.fin [1] (by kernel_rfl) ⟨by decide, rfl⟩ ?_
    refine PJ.next ?_
    refine WJ.ret ?_
    obtain rfl := Option.some.inj hm
    exact PJ.retn_sel (vs := [.agg (Fraction.enc r10).toArray, .int .i64 0]) Tryd.results29 ⟨⟨0, g4, 53, [.int .i64 r10.num, .int .i64 r10.den], rfl, rfl, .inl ⟨Tryd.isAgg53, Tryd.sizeOf53, rfl⟩⟩, rfl, trivial⟩ [] ⟨List.nodup_nil, rfl⟩ ⟨rfl, rfl⟩

set_option maxRecDepth 100000 in
set_option maxHeartbeats 1000000 in
theorem ok_s_l00In {n1 : Int} {low2 : Int} {high3 : Int} {r : Bool} (hm : s_l00In n1 low2 high3 = some r) (w : World)  :
    Calls Tryd.prog 75 #[.int .i64 n1, .int .i64 low2, .int .i64 high3] w (Ret (cx w) (.bool r)) := by
  unfold s_l00In at hm
  refine Calls.enter [.int .i64 n1, .int .i64 low2, .int .i64 high3] Tryd.func75 rfl Tryd.ntmps75 rfl ?_
  refine WJ.seq ?_
  refine WJ.quiet ?_
  refine QJ.step (YldS.yld (y_assign rfl)) rfl ?_
  refine QJ.done ?_
  refine PJ.next ?_
  refine WJ.seq ?_
  refine WJ.quiet ?_
  refine QJ.step (YldS.yld (y_move rfl)) rfl ?_
  refine QJ.step (YldS.yld (y_move rfl)) rfl ?_
  refine QJ.step (YldS.yld (y_bin rfl rfl rfl)) rfl ?_
  refine QJ.step (YldS.yld (y_move rfl)) rfl ?_
  obtain ⟨t4, h5, hm⟩ := bindS hm
  refine QJ.cut 4 [(14, .bool t4)] ?_ ?_
  · rcases Bool.eq_false_or_eq_true (decide (n1 ≥ low2)) with hb6 | hb6
    · replace h5 := andT h5 hb6
      refine QJ.on rfl rfl (cB hb6) (YldS.yld (y_move rfl)) rfl ?_
      refine QJ.on rfl rfl (cB hb6) (YldS.yld (y_move rfl)) rfl ?_
      refine QJ.on rfl rfl (cB hb6) (YldS.yld (y_bin rfl rfl rfl)) rfl ?_
      refine QJ.step (YldS.yld (y_pick_t (cB hb6) rfl)) rfl ?_
      obtain rfl := Option.some.inj h5
      exact QJ.cut_end ⟨rfl, trivial⟩
    · obtain rfl := andF h5 hb6
      refine QJ.off rfl rfl (cB hb6) rfl rfl ?_
      refine QJ.off rfl rfl (cB hb6) rfl rfl ?_
      refine QJ.off rfl rfl (cB hb6) rfl rfl ?_
      refine QJ.step (YldS.yld (y_pick_f (cB hb6) rfl)) rfl ?_
      exact QJ.cut_end ⟨rfl, trivial⟩
  refine QJ.step (YldS.yld (y_assign rfl)) rfl ?_
  refine QJ.done ?_
  refine PJ.next ?_
  refine WJ.ret ?_
  obtain rfl := Option.some.inj hm
  refine PJ.sel (L' := []) [] ⟨List.nodup_nil, rfl⟩ ?_
  exact PJ.retn (vs := [.bool t4]) Tryd.results75 ⟨rfl, trivial⟩ ⟨rfl, rfl⟩

set_option maxRecDepth 100000 in
set_option maxHeartbeats 1000000 in
theorem ok_s_l20One {x1 : Trial} {r : Bool} (hm : s_l20One x1 = some r) (w : World) (ad2 : Addr) (ha3 : At w (cx w).Fz ad2 (fTrial.enc x1)) :
    Calls Tryd.prog 96 #[.pointer (some ad2)] w (Ret (cx w) (.bool r)) := by
  unfold s_l20One at hm
  refine Calls.enter [.pointer (some ad2)] Tryd.func96 rfl Tryd.ntmps96 rfl ?_
  refine WJ.seq ?_
  refine WJ.quiet ?_
  refine QJ.step (YldS.yld (y_assign rfl)) rfl ?_
  refine QJ.done ?_
  refine PJ.next ?_
  refine WJ.seq ?_
  refine WJ.quiet_draw follows (by kernel_rfl) ?_
  refine QJ.step (YldS.yld (y_move rfl)) rfl ?_
  refine QJ.step (YldS.yld (y_nil rfl)) rfl ?_
  refine QJ.step (YldS.yld (y_fld (ad := ad2) fld49_0 rfl)) rfl ?_
  refine QJ.step (YldS.yld (y_load1 (v := .int .i64 x1.strokes) Tryd.isAgg2 (ha3.sub 0 1) St.frozenC rfl)) rfl ?_
  obtain ⟨r4, h5, hm⟩ := bindS hm
  refine QJ.step (y_call Tryd.call75 rfl (RetG.quiet fun w hw => ok_s_l00In h5 w )) rfl ?_
  refine QJ.step (YldS.yld (y_move rfl)) rfl ?_
  obtain ⟨t6, h7, hm⟩ := bindS hm
  refine QJ.cut 10 [(0, .pointer (some ad2)), (18, .bool t6)] ?_ ?_
  · rcases Bool.eq_false_or_eq_true r4 with hb8 | hb8
    · replace h7 := andT h7 hb8
      refine QJ.on rfl rfl (cB hb8) (YldS.yld (y_move rfl)) rfl ?_
      refine QJ.on rfl rfl (cB hb8) (YldS.yld (y_nil rfl)) rfl ?_
      refine QJ.on rfl rfl (cB hb8) (YldS.yld (y_fld (ad := ad2) fld49_1 rfl)) rfl ?_
      refine QJ.on rfl rfl (cB hb8) (YldS.yld (y_load1 (v := .int .i64 x1.errors) Tryd.isAgg2 (ha3.sub 1 1) St.frozenC rfl)) rfl ?_
      refine QJ.on rfl rfl (cB hb8) (YldS.yld (y_move rfl)) rfl ?_
      refine QJ.on rfl rfl (cB hb8) (YldS.yld (y_nil rfl)) rfl ?_
      refine QJ.on rfl rfl (cB hb8) (YldS.yld (y_fld (ad := ad2) fld49_0 rfl)) rfl ?_
      refine QJ.on rfl rfl (cB hb8) (YldS.yld (y_load1 (v := .int .i64 x1.strokes) Tryd.isAgg2 (ha3.sub 0 1) St.frozenC rfl)) rfl ?_
      obtain ⟨r9, h10, h7⟩ := bindS h7
      refine QJ.on rfl rfl (cB hb8) (y_call Tryd.call75 rfl (RetG.quiet fun w hw => ok_s_l00In h10 w )) rfl ?_
      refine QJ.step (YldS.yld (y_pick_t (cB hb8) rfl)) rfl ?_
      obtain rfl := Option.some.inj h7
      exact QJ.cut_end ⟨rfl, rfl, trivial⟩
    · obtain rfl := andF h7 hb8
      refine QJ.off rfl rfl (cB hb8) rfl rfl ?_
      refine QJ.off rfl rfl (cB hb8) rfl rfl ?_
      refine QJ.off rfl rfl (cB hb8) rfl rfl ?_
      refine QJ.off rfl rfl (cB hb8) rfl rfl ?_
      refine QJ.off rfl rfl (cB hb8) rfl rfl ?_
      refine QJ.off rfl rfl (cB hb8) rfl rfl ?_
      refine QJ.off rfl rfl (cB hb8) rfl rfl ?_
      refine QJ.off rfl rfl (cB hb8) rfl rfl ?_
      refine QJ.off rfl rfl (cB hb8) rfl rfl ?_
      refine QJ.step (YldS.yld (y_pick_f (cB hb8) rfl)) rfl ?_
      exact QJ.cut_end ⟨rfl, rfl, trivial⟩
  refine QJ.step (YldS.yld (y_move rfl)) rfl ?_
  obtain ⟨t11, h12, hm⟩ := bindS hm
  refine QJ.cut 6 [(25, .bool t11)] ?_ ?_
  · rcases Bool.eq_false_or_eq_true t6 with hb13 | hb13
    · replace h12 := andT h12 hb13
      refine QJ.on rfl rfl (cB hb13) (YldS.yld (y_move rfl)) rfl ?_
      refine QJ.on rfl rfl (cB hb13) (YldS.yld (y_nil rfl)) rfl ?_
      refine QJ.on rfl rfl (cB hb13) (YldS.yld (y_fld (ad := ad2) fld49_2 rfl)) rfl ?_
      refine QJ.on rfl rfl (cB hb13) (YldS.yld (y_load1 (v := .int .i64 x1.seconds) Tryd.isAgg2 (ha3.sub 2 1) St.frozenC rfl)) rfl ?_
      obtain ⟨r14, h15, h12⟩ := bindS h12
      refine QJ.on rfl rfl (cB hb13) (y_call Tryd.call75 rfl (RetG.quiet fun w hw => ok_s_l00In h15 w )) rfl ?_
      refine QJ.step (YldS.yld (y_pick_t (cB hb13) rfl)) rfl ?_
      obtain rfl := Option.some.inj h12
      exact QJ.cut_end ⟨rfl, trivial⟩
    · obtain rfl := andF h12 hb13
      refine QJ.off rfl rfl (cB hb13) rfl rfl ?_
      refine QJ.off rfl rfl (cB hb13) rfl rfl ?_
      refine QJ.off rfl rfl (cB hb13) rfl rfl ?_
      refine QJ.off rfl rfl (cB hb13) rfl rfl ?_
      refine QJ.off rfl rfl (cB hb13) rfl rfl ?_
      refine QJ.step (YldS.yld (y_pick_f (cB hb13) rfl)) rfl ?_
      exact QJ.cut_end ⟨rfl, trivial⟩
  refine QJ.step (YldS.yld (y_assign rfl)) rfl ?_
  refine QJ.done ?_
  refine PJ.next ?_
  refine WJ.ret ?_
  obtain rfl := Option.some.inj hm
  refine PJ.sel (L' := []) [] ⟨List.nodup_nil, rfl⟩ ?_
  exact PJ.retn (vs := [.bool t11]) Tryd.results96 ⟨rfl, trivial⟩ ⟨rfl, rfl⟩

set_option maxRecDepth 100000 in
set_option maxHeartbeats 1000000 in
theorem ok_s_l20Penalty {n1 : Int} {r : Bool} (hm : s_l20Penalty n1 = some r) (w : World)  :
    Calls Tryd.prog 92 #[.int .i64 n1] w (Ret (cx w) (.bool r)) := by
  unfold s_l20Penalty at hm
  refine Calls.enter [.int .i64 n1] Tryd.func92 rfl Tryd.ntmps92 rfl ?_
  refine WJ.seq ?_
  refine WJ.quiet ?_
  refine QJ.step (YldS.yld (y_assign rfl)) rfl ?_
  refine QJ.done ?_
  refine PJ.next ?_
  refine WJ.seq ?_
  refine WJ.quiet ?_
  refine QJ.step (YldS.yld (y_move rfl)) rfl ?_
  obtain ⟨r2, h3, hm⟩ := bindS hm
  refine QJ.step (y_call Tryd.call75 rfl (RetG.quiet fun w hw => ok_s_l00In h3 w )) rfl ?_
  refine QJ.step (YldS.yld (y_assign rfl)) rfl ?_
  refine QJ.done ?_
  refine PJ.next ?_
  refine WJ.ret ?_
  obtain rfl := Option.some.inj hm
  refine PJ.sel (L' := []) [] ⟨List.nodup_nil, rfl⟩ ?_
  exact PJ.retn (vs := [.bool r2]) Tryd.results92 ⟨rfl, trivial⟩ ⟨rfl, rfl⟩

set_option maxRecDepth 100000 in
set_option maxHeartbeats 1000000 in
theorem ok_s_l20Code {x1 : Trial} {penalty4 : Int} {r : Int} (hm : s_l20Code x1 penalty4 = some r) (w : World) (ad2 : Addr) (ha3 : At w (cx w).Fz ad2 (fTrial.enc x1)) :
    Calls Tryd.prog 85 #[.pointer (some ad2), .int .i64 penalty4] w (Ret (cx w) (.int .i64 r)) := by
  unfold s_l20Code at hm
  refine Calls.enter [.pointer (some ad2), .int .i64 penalty4] Tryd.func85 rfl Tryd.ntmps85 rfl ?_
  refine WJ.seq ?_
  refine WJ.quiet ?_
  refine QJ.step (YldS.yld (y_assign rfl)) rfl ?_
  refine QJ.done ?_
  refine PJ.next ?_
  refine WJ.seq ?_
  refine WJ.seq ?_
  refine WJ.quiet ?_
  refine QJ.step (YldS.yld (y_move rfl)) rfl ?_
  obtain ⟨r5, h6, hm⟩ := bindS hm
  refine QJ.step (y_call Tryd.call96 rfl (RetG.quiet fun w hw => ok_s_l20One h6 w _ (ha3.st hw))) rfl ?_
  refine QJ.step (YldS.yld (y_not rfl)) rfl ?_
  refine QJ.done ?_
  refine PJ.next ?_
  refine WJ.cond (t := !r5) rfl (fun hb7 => ?_) (fun hb7 => ?_)
  · replace hm := ifT hm hb7
    refine WJ.seq ?_
    refine WJ.quiet ?_
    refine QJ.step (YldS.yld (y_assign rfl)) rfl ?_
    refine QJ.done ?_
    refine PJ.next ?_
    refine WJ.ret ?_
    refine PJ.then_ret ?_
    obtain rfl := Option.some.inj hm
    refine PJ.sel (L' := []) [] ⟨List.nodup_nil, rfl⟩ ?_
    exact PJ.retn (vs := [.int .i64 1]) Tryd.results85 ⟨rfl, trivial⟩ ⟨rfl, rfl⟩
  · replace hm := ifF hm hb7
    refine WJ.skip ?_
    refine PJ.next ?_
    refine WJ.seq ?_
    refine WJ.seq ?_
    refine WJ.quiet ?_
    refine QJ.step (YldS.yld (y_move rfl)) rfl ?_
    obtain ⟨r8, h9, hm⟩ := bindS hm
    refine QJ.step (y_call Tryd.call92 rfl (RetG.quiet fun w hw => ok_s_l20Penalty h9 w )) rfl ?_
    refine QJ.step (YldS.yld (y_not rfl)) rfl ?_
    refine QJ.done ?_
    refine PJ.next ?_
    refine WJ.cond (t := !r8) rfl (fun hb10 => ?_) (fun hb10 => ?_)
    · replace hm := ifT hm hb10
      refine WJ.seq ?_
      refine WJ.quiet ?_
      refine QJ.step (YldS.yld (y_assign rfl)) rfl ?_
      refine QJ.done ?_
      refine PJ.next ?_
      refine WJ.ret ?_
      refine PJ.then_ret ?_
      obtain rfl := Option.some.inj hm
      refine PJ.sel (L' := []) [] ⟨List.nodup_nil, rfl⟩ ?_
      exact PJ.retn (vs := [.int .i64 2]) Tryd.results85 ⟨rfl, trivial⟩ ⟨rfl, rfl⟩
    · replace hm := ifF hm hb10
      refine WJ.skip ?_
      refine PJ.next ?_
      refine WJ.seq ?_
      refine WJ.quiet ?_
      refine QJ.step (YldS.yld (y_assign rfl)) rfl ?_
      refine QJ.done ?_
      refine PJ.next ?_
      refine WJ.ret ?_
      obtain rfl := Option.some.inj hm
      refine PJ.sel (L' := []) [] ⟨List.nodup_nil, rfl⟩ ?_
      exact PJ.retn (vs := [.int .i64 0]) Tryd.results85 ⟨rfl, trivial⟩ ⟨rfl, rfl⟩

set_option maxRecDepth 100000 in
set_option maxHeartbeats 1000000 in
theorem ok_s_l00Max {a1 : Int} {b2 : Int} {r : Int} (hm : s_l00Max a1 b2 = some r) (w : World)  :
    Calls Tryd.prog 93 #[.int .i64 a1, .int .i64 b2] w (Ret (cx w) (.int .i64 r)) := by
  unfold s_l00Max at hm
  refine Calls.enter [.int .i64 a1, .int .i64 b2] Tryd.func93 rfl Tryd.ntmps93 rfl ?_
  refine WJ.seq ?_
  refine WJ.quiet ?_
  refine QJ.step (YldS.yld (y_assign rfl)) rfl ?_
  refine QJ.done ?_
  refine PJ.next ?_
  refine WJ.seq ?_
  refine WJ.seq ?_
  refine WJ.quiet ?_
  refine QJ.step (YldS.yld (y_move rfl)) rfl ?_
  refine QJ.step (YldS.yld (y_move rfl)) rfl ?_
  refine QJ.step (YldS.yld (y_bin rfl rfl rfl)) rfl ?_
  refine QJ.done ?_
  refine PJ.next ?_
  refine WJ.cond (t := decide (a1 > b2)) rfl (fun hb3 => ?_) (fun hb3 => ?_)
  · replace hm := ifT hm hb3
    refine WJ.seq ?_
    refine WJ.quiet ?_
    refine QJ.step (YldS.yld (y_move rfl)) rfl ?_
    refine QJ.step (YldS.yld (y_assign rfl)) rfl ?_
    refine QJ.done ?_
    refine PJ.next ?_
    refine WJ.ret ?_
    refine PJ.then_ret ?_
    obtain rfl := Option.some.inj hm
    refine PJ.sel (L' := []) [] ⟨List.nodup_nil, rfl⟩ ?_
    exact PJ.retn (vs := [.int .i64 a1]) Tryd.results93 ⟨rfl, trivial⟩ ⟨rfl, rfl⟩
  · replace hm := ifF hm hb3
    refine WJ.skip ?_
    refine PJ.next ?_
    refine WJ.seq ?_
    refine WJ.quiet ?_
    refine QJ.step (YldS.yld (y_move rfl)) rfl ?_
    refine QJ.step (YldS.yld (y_assign rfl)) rfl ?_
    refine QJ.done ?_
    refine PJ.next ?_
    refine WJ.ret ?_
    obtain rfl := Option.some.inj hm
    refine PJ.sel (L' := []) [] ⟨List.nodup_nil, rfl⟩ ?_
    exact PJ.retn (vs := [.int .i64 b2]) Tryd.results93 ⟨rfl, trivial⟩ ⟨rfl, rfl⟩

set_option maxRecDepth 100000 in
set_option maxHeartbeats 1000000 in
theorem ok_s_l20Net {x1 : Trial} {penalty4 : Int} {r : Int} (hm : s_l20Net x1 penalty4 = some r) (w : World) (ad2 : Addr) (ha3 : At w (cx w).Fz ad2 (fTrial.enc x1)) :
    Calls Tryd.prog 87 #[.pointer (some ad2), .int .i64 penalty4] w (Ret (cx w) (.int .i64 r)) := by
  unfold s_l20Net at hm
  refine Calls.enter [.pointer (some ad2), .int .i64 penalty4] Tryd.func87 rfl Tryd.ntmps87 rfl ?_
  refine WJ.seq ?_
  refine WJ.quiet ?_
  refine QJ.step (YldS.yld (y_assign rfl)) rfl ?_
  refine QJ.done ?_
  refine PJ.next ?_
  refine WJ.seq ?_
  refine WJ.quiet_draw follows (by kernel_rfl) ?_
  refine QJ.step (YldS.yld (y_move rfl)) rfl ?_
  refine QJ.step (YldS.yld (y_nil rfl)) rfl ?_
  refine QJ.step (YldS.yld (y_fld (ad := ad2) fld49_0 rfl)) rfl ?_
  refine QJ.step (YldS.yld (y_load1 (v := .int .i64 x1.strokes) Tryd.isAgg2 (ha3.sub 0 1) St.frozenC rfl)) rfl ?_
  refine QJ.step (YldS.yld (y_move rfl)) rfl ?_
  refine QJ.step (YldS.yld (y_move rfl)) rfl ?_
  refine QJ.step (YldS.yld (y_nil rfl)) rfl ?_
  refine QJ.step (YldS.yld (y_fld (ad := ad2) fld49_1 rfl)) rfl ?_
  refine QJ.step (YldS.yld (y_load1 (v := .int .i64 x1.errors) Tryd.isAgg2 (ha3.sub 1 1) St.frozenC rfl)) rfl ?_
  refine QJ.step (YldS.yld (y_bin rfl rfl rfl)) rfl ?_
  refine QJ.step (YldS.yld (y_bin rfl rfl rfl)) rfl ?_
  obtain ⟨r5, h6, hm⟩ := bindS hm
  refine QJ.step (y_call Tryd.call93 rfl (RetG.quiet fun w hw => ok_s_l00Max h6 w )) rfl ?_
  refine QJ.step (YldS.yld (y_assign rfl)) rfl ?_
  refine QJ.done ?_
  refine PJ.next ?_
  refine WJ.ret ?_
  obtain rfl := Option.some.inj hm
  refine PJ.sel (L' := []) [] ⟨List.nodup_nil, rfl⟩ ?_
  exact PJ.retn (vs := [.int .i64 r5]) Tryd.results87 ⟨rfl, trivial⟩ ⟨rfl, rfl⟩

set_option maxRecDepth 100000 in
set_option maxHeartbeats 1000000 in
theorem ok_s_l00Size {n1 : Int} {r : Int} (hm : s_l00Size n1 = some r) (w : World)  :
    Calls Tryd.prog 122 #[.int .i64 n1] w (Ret (cx w) (.int .i64 r)) := by
  unfold s_l00Size at hm
  refine Calls.enter [.int .i64 n1] Tryd.func122 rfl Tryd.ntmps122 rfl ?_
  refine WJ.seq ?_
  refine WJ.quiet ?_
  refine QJ.step (YldS.yld (y_assign rfl)) rfl ?_
  refine QJ.done ?_
  refine PJ.next ?_
  refine WJ.seq ?_
  refine WJ.seq ?_
  refine WJ.quiet ?_
  refine QJ.step (YldS.yld (y_move rfl)) rfl ?_
  refine QJ.step (YldS.yld (y_bin rfl rfl rfl)) rfl ?_
  refine QJ.done ?_
  refine PJ.next ?_
  refine WJ.cond (t := decide (n1 < 0)) rfl (fun hb2 => ?_) (fun hb2 => ?_)
  · replace hm := ifT hm hb2
    refine WJ.seq ?_
    refine WJ.quiet ?_
    refine QJ.step (YldS.yld (y_move rfl)) rfl ?_
    refine QJ.step (YldS.yld (y_neg rfl)) rfl ?_
    refine QJ.step (YldS.yld (y_assign rfl)) rfl ?_
    refine QJ.done ?_
    refine PJ.next ?_
    refine WJ.ret ?_
    refine PJ.then_ret ?_
    obtain rfl := Option.some.inj hm
    refine PJ.sel (L' := []) [] ⟨List.nodup_nil, rfl⟩ ?_
    exact PJ.retn (vs := [.int .i64 (w64 (0 - n1))]) Tryd.results122 ⟨rfl, trivial⟩ ⟨rfl, rfl⟩
  · replace hm := ifF hm hb2
    refine WJ.skip ?_
    refine PJ.next ?_
    refine WJ.seq ?_
    refine WJ.quiet ?_
    refine QJ.step (YldS.yld (y_move rfl)) rfl ?_
    refine QJ.step (YldS.yld (y_assign rfl)) rfl ?_
    refine QJ.done ?_
    refine PJ.next ?_
    refine WJ.ret ?_
    obtain rfl := Option.some.inj hm
    refine PJ.sel (L' := []) [] ⟨List.nodup_nil, rfl⟩ ?_
    exact PJ.retn (vs := [.int .i64 n1]) Tryd.results122 ⟨rfl, trivial⟩ ⟨rfl, rfl⟩

set_option maxRecDepth 100000 in
set_option maxHeartbeats 1000000 in
theorem ok_s_l00Gcd {N : Nat} {a1 : Int} {b2 : Int} {r : Int} (hm : s_l00Gcd N a1 b2 = some r) (w : World)  :
    Calls Tryd.prog 121 #[.int .i64 a1, .int .i64 b2] w (Ret (cx w) (.int .i64 r)) := by
  unfold s_l00Gcd at hm
  refine Calls.enter [.int .i64 a1, .int .i64 b2] Tryd.func121 rfl Tryd.ntmps121 rfl ?_
  refine WJ.seq ?_
  refine WJ.quiet ?_
  refine QJ.step (YldS.yld (y_assign rfl)) rfl ?_
  refine QJ.done ?_
  refine PJ.next ?_
  obtain ⟨kj4, hk5, hm⟩ := withK_open hm
  refine WJ.join (X := Int) (fun (x : Int) => kj4 x = some r) (fun (x : Int) => [(0, .int .i64 x)]) (fun (x : Int) => []) ?_ ?_
  · clear hk5
    refine WJ.block ?_
    refine WJ.sel (L' := (fun (x : Int × Int) => []) (a1, b2)) [] ⟨List.nodup_nil, rfl⟩ ?_
    refine WJ.sub (m' := (fun (x : Int × Int) => [(0, .int .i64 x.1), (1, .int .i64 x.2)]) (a1, b2)) ⟨rfl, rfl, trivial⟩ ?_
    refine WJ.loop (X := Int × Int) (fun N (x : Int × Int) => s_l00Gcd_l1 kj4 N x.1 x.2 = some r) (fun (x : Int × Int) => [(0, .int .i64 x.1), (1, .int .i64 x.2)]) (fun (x : Int × Int) => []) ?_ N (a1, b2) hm
    · rintro N ⟨a6, b7⟩ hI
      have hm := hI; clear hI
      cases N with
      | zero => cases hm
      | succ N =>
      unfold s_l00Gcd_l1 at hm
      refine WJ.seq ?_
      refine WJ.seq ?_
      refine WJ.quiet ?_
      refine QJ.step (YldS.yld (y_move rfl)) rfl ?_
      refine QJ.step (YldS.yld (y_bin rfl rfl rfl)) rfl ?_
      refine QJ.done ?_
      refine PJ.next ?_
      refine WJ.cond (t := (b7 != 0)) rfl (fun hb8 => ?_) (fun hb8 => ?_)
      · replace hm := ifT hm hb8
        refine WJ.skip ?_
        refine PJ.next ?_
        refine WJ.block ?_
        refine WJ.seq ?_
        refine WJ.quiet ?_
        refine QJ.step (YldS.yld (y_move rfl)) rfl ?_
        refine QJ.step (YldS.yld (y_move rfl)) rfl ?_
        obtain ⟨q9, h10, hm⟩ := bindS hm
        refine QJ.step (YldS.yld (y_rem' h10 rfl rfl)) rfl ?_
        refine QJ.step (YldS.yld (y_assign rfl)) rfl ?_
        refine QJ.done ?_
        refine PJ.next ?_
        refine WJ.seq ?_
        refine WJ.quiet ?_
        refine QJ.step (YldS.yld (y_move rfl)) rfl ?_
        refine QJ.step (YldS.yld (y_assign rfl)) rfl ?_
        refine QJ.done ?_
        refine PJ.next ?_
        refine WJ.quiet ?_
        refine QJ.step (YldS.yld (y_move rfl)) rfl ?_
        refine QJ.step (YldS.yld (y_assign rfl)) rfl ?_
        refine QJ.done ?_
        refine PJ.block_normal ?_
        exact PJ.round (b7, q9) [] hm ⟨rfl, rfl, trivial⟩ ⟨List.nodup_nil, rfl⟩
      · replace hm := ifF hm hb8
        refine WJ.exit ?_
        refine PJ.then_exit (PJ.then_exit (PJ.block_exit ?_))
        exact PJ.joined a6 [] hm ⟨rfl, trivial⟩ ⟨List.nodup_nil, rfl⟩
  · rintro a3 hm
    subst hk5
    refine WJ.seq ?_
    refine WJ.quiet ?_
    refine QJ.step (YldS.yld (y_move rfl)) rfl ?_
    refine QJ.step (YldS.yld (y_assign rfl)) rfl ?_
    refine QJ.done ?_
    refine PJ.next ?_
    refine WJ.ret ?_
    obtain rfl := Option.some.inj hm
    refine PJ.sel (L' := []) [] ⟨List.nodup_nil, rfl⟩ ?_
    exact PJ.retn (vs := [.int .i64 a3]) Tryd.results121 ⟨rfl, trivial⟩ ⟨rfl, rfl⟩

set_option maxRecDepth 100000 in
set_option maxHeartbeats 1000000 in
theorem ok_s_l02Make {N : Nat} {num1 : Int} {den2 : Int} {r : Fraction} (hm : s_l02Make N num1 den2 = some r) (w : World)  :
    Calls Tryd.prog 86 #[.int .i64 num1, .int .i64 den2] w (Ret (cx w) (.agg (Fraction.enc r).toArray)) := by
  unfold s_l02Make at hm
  refine Calls.enter [.int .i64 num1, .int .i64 den2] Tryd.func86 rfl Tryd.ntmps86 rfl ?_
  refine WJ.seq ?_
  refine WJ.reg ?_
  refine SJ.alloc (cs := [.int .i64 0, .int .i64 0]) Tryd.zeroValue53 rfl rfl fun g3 => ?_
  refine SJ.nil ?_
  refine PJ.next ?_
  refine WJ.seq ?_
  refine WJ.quiet ?_
  refine QJ.step (YldS.yld (y_move rfl)) rfl ?_
  obtain ⟨r4, h5, hm⟩ := bindS hm
  refine QJ.step (y_call Tryd.call122 rfl (RetG.quiet fun w hw => ok_s_l00Size h5 w )) rfl ?_
  refine QJ.step (YldS.yld (y_move rfl)) rfl ?_
  obtain ⟨r6, h7, hm⟩ := bindS hm
  refine QJ.step (y_call Tryd.call121 rfl (RetG.quiet fun w hw => ok_s_l00Gcd h7 w )) rfl ?_
  refine QJ.step (YldS.yld (y_assign rfl)) rfl ?_
  refine QJ.done ?_
  refine PJ.next ?_
  refine WJ.seq ?_
  obtain ⟨q8, h9, hm⟩ := bindS hm
  obtain ⟨q10, h11, hm⟩ := bindS hm
  refine WJ.draws (N := 8) (listed0 := #[false, false, false, false, false, false, false, false]) [] follows rfl rfl ?_
  refine RJ.first 0 (listed' := #[true, false, false, false, false, false, false, false]) [] rfl (by kernel_rfl) rfl ⟨List.nodup_nil, rfl⟩ (y_move rfl) rfl ?_
  refine RJ.first 1 (listed' := #[true, true, false, false, false, false, false, false]) [] rfl (by kernel_rfl) rfl ⟨List.nodup_nil, rfl⟩ (y_move rfl) rfl ?_
  refine RJ.first 2 (listed' := #[true, true, true, false, false, false, false, false]) [] rfl (by kernel_rfl) rfl ⟨List.nodup_nil, rfl⟩ (y_quo' h9 rfl rfl) rfl ?_
  refine RJ.first 3 (listed' := #[true, true, true, true, false, false, false, false]) [] rfl (by kernel_rfl) rfl ⟨List.nodup_nil, rfl⟩ (y_move rfl) rfl ?_
  refine RJ.first 4 (listed' := #[true, true, true, true, true, false, false, false]) [] rfl (by kernel_rfl) rfl ⟨List.nodup_nil, rfl⟩ (y_move rfl) rfl ?_
  refine RJ.first 5 (listed' := #[true, true, true, true, true, true, false, false]) [] rfl (by kernel_rfl) rfl ⟨List.nodup_nil, rfl⟩ (y_quo' h11 rfl rfl) rfl ?_
  refine RJ.first 6 (listed' := #[true, true, true, true, true, true, true, false]) [] rfl (by kernel_rfl) rfl ⟨List.nodup_nil, rfl⟩ (y_build (parts := [(0, .tmp 12), (1, .tmp 15)]) (places := [(0, 1), (1, 1)]) (r := [.int .i64 ((Fraction.mk q8 q10).num), .int .i64 ((Fraction.mk q8 q10).den)]) pl53 Tryd.zeroValue53 rfl rfl rfl rfl) rfl ?_
  refine RJ.step1 7 [] (by kernel_rfl) ⟨List.nodup_nil, rfl⟩ ?_
  refine RO.of (listed' := #[true, true, true, true, true, true, true, true]) rfl rfl ?_
  refine SJ.storeL (k := 0) (off := 0) (us := [.int .i64 ((Fraction.mk q8 q10).num), .int .i64 ((Fraction.mk q8 q10).den)]) rfl rfl rfl rfl Tryd.sizeOf53 rfl rfl ?_
  refine SJ.nil ?_
  refine PJ.draw ?_
  refine RJ.fin [] (by kernel_rfl) ⟨List.nodup_nil, rfl⟩ ?_
  refine PJ.next ?_
  refine WJ.ret ?_
  obtain rfl := Option.some.inj hm
  exact PJ.retn_sel (vs := [.agg (Fraction.enc (Fraction.mk q8 q10)).toArray]) Tryd.results86 ⟨⟨0, g3, 53, [.int .i64 ((Fraction.mk q8 q10).num), .int .i64 ((Fraction.mk q8 q10).den)], rfl, rfl, .inl ⟨Tryd.isAgg53, Tryd.sizeOf53, rfl⟩⟩, trivial⟩ [] ⟨List.nodup_nil, rfl⟩ ⟨rfl, rfl⟩

set_option maxRecDepth 100000 in
set_option maxHeartbeats 1000000 in
theorem ok_s_StrokesPerMinute {N : Nat} {x1 : Trial} {penalty2 : Int} {r : Fraction × Int} (hm : s_StrokesPerMinute N x1 penalty2 = some r) (w : World)  :
    Calls Tryd.prog 30 #[.agg (Trial.enc x1).toArray, .int .i64 penalty2] w (Ret (cx w) (tup [.agg (Fraction.enc r.1).toArray, .int .i64 r.2])) := by
  unfold s_StrokesPerMinute at hm
  refine Calls.enter [.agg (Trial.enc x1).toArray, .int .i64 penalty2] Tryd.func30 rfl Tryd.ntmps30 rfl ?_
  refine WJ.seq ?_
  refine WJ.reg ?_
  refine SJ.box (cs := [.int .i64 x1.strokes, .int .i64 x1.errors, .int .i64 x1.seconds]) rfl rfl rfl fun g3 => ?_
  refine SJ.alloc (cs := [.int .i64 0, .int .i64 0]) Tryd.zeroValue53 rfl rfl fun g4 => ?_
  refine SJ.q (YldS.yld (y_assign rfl)) rfl ?_
  refine SJ.nil ?_
  refine PJ.next ?_
  refine WJ.seq ?_
  refine WJ.quiet ?_
  refine QJ.step (YldS.yld (y_move rfl)) rfl ?_
  obtain ⟨r5, h6, hm⟩ := bindS hm
  refine QJ.step (y_call Tryd.call85 rfl (RetG.quiet fun w hw => ok_s_l20Code h6 w _ (hw.box_at (k := 1) rfl))) rfl ?_
  refine QJ.step (YldS.yld (y_assign rfl)) rfl ?_
  refine QJ.done ?_
  refine PJ.next ?_
  refine WJ.seq ?_
  refine WJ.seq ?_
  refine WJ.quiet ?_
  refine QJ.step (YldS.yld (y_move rfl)) rfl ?_
  refine QJ.step (YldS.yld (y_bin rfl rfl rfl)) rfl ?_
  refine QJ.done ?_
  refine PJ.next ?_
  refine WJ.cond (t := (r5 != 0)) rfl (fun hb7 => ?_) (fun hb7 => ?_)
  · replace hm := ifT hm hb7
    refine WJ.seq ?_
    refine WJ.reg ?_
    refine SJ.q (YldS.yld (y_build (parts := []) (places := [(0, 1), (1, 1)]) (r := [.int .i64 ((Fraction.mk 0 0).num), .int .i64 ((Fraction.mk 0 0).den)]) pl53 Tryd.zeroValue53 rfl rfl rfl rfl)) rfl ?_
    refine SJ.q (YldS.yld (y_move rfl)) rfl ?_
    refine SJ.storeL (k := 0) (off := 0) (us := [.int .i64 ((Fraction.mk 0 0).num), .int .i64 ((Fraction.mk 0 0).den)]) rfl rfl rfl rfl Tryd.sizeOf53 rfl rfl ?_
    refine SJ.q (YldS.yld (y_assign rfl)) rfl ?_
    refine SJ.nil ?_
    refine PJ.next ?_
    refine WJ.ret ?_
    refine PJ.then_ret ?_
    obtain rfl := Option.some.inj hm
    exact PJ.retn_sel (vs := [.agg (Fraction.enc (Fraction.mk 0 0)).toArray, .int .i64 r5]) Tryd.results30 ⟨⟨0, g4, 53, [.int .i64 ((Fraction.mk 0 0).num), .int .i64 ((Fraction.mk 0 0).den)], rfl, rfl, .inl ⟨Tryd.isAgg53, Tryd.sizeOf53, rfl⟩⟩, rfl, trivial⟩ [] ⟨List.nodup_nil, rfl⟩ ⟨rfl, rfl⟩
  · replace hm := ifF hm hb7
    refine WJ.skip ?_
    refine PJ.next ?_
    refine WJ.seq ?_
    obtain ⟨r8, h9, hm⟩ := bindS hm
    obtain ⟨r10, h11, hm⟩ := bindS hm
    refine WJ.draws (N := 8) (listed0 := #[false, false, false, false, false, false, false, false]) [box g3 49 [.int .i64 x1.strokes, .int .i64 x1.errors, .int .i64 x1.seconds]] follows rfl rfl ?_
    refine RJ.first 0 (listed' := #[true, false, false, false, false, false, false, false]) [1] rfl (by kernel_rfl) rfl ⟨by decide, rfl⟩ (y_move rfl) rfl ?_
    refine RJ.first 3 (listed' := #[true, false, false, true, false, false, false, false]) [1] rfl (by kernel_rfl) rfl ⟨by decide, rfl⟩ (y_fldB (o := 0) fld49_2 rfl) rfl ?_
    refine RJ.first 4 (listed' := #[true, false, false, true, true, false, false, false]) [1] rfl (by kernel_rfl) rfl ⟨by decide, rfl⟩ (y_loadB (k := 0) (off := 2) (v := .int .i64 x1.seconds) rfl Tryd.isAgg2 rfl rfl) rfl ?_
    refine RJ.step1 1 [1] (by kernel_rfl) ⟨by decide, rfl⟩ ?_
    refine RO.of (listed' := #[true, true, false, true, true, false, false, false]) rfl rfl ?_
    refine SJ.q (y_call Tryd.call87 rfl (RetG.quiet fun w hw => ok_s_l20Net h9 w _ (hw.box_at (k := 1) rfl))) rfl ?_
    refine SJ.nil ?_
    refine PJ.draw ?_
    refine RJ.first 2 (listed' := #[true, true, true, true, true, false, false, false]) [1] rfl (by kernel_rfl) rfl ⟨by decide, rfl⟩ (y_bin rfl rfl rfl) rfl ?_
    refine RJ.step1 5 [1] (by kernel_rfl) ⟨by decide, rfl⟩ ?_
    refine RO.of (listed' := #[true, true, true, true, true, true, false, false]) rfl rfl ?_
    refine SJ.q (y_call Tryd.call86 rfl (RetG.quiet fun w hw => ok_s_l02Make h11 w )) rfl ?_
    refine SJ.nil ?_
    refine PJ.draw ?_
    refine RJ.step1 6 [1] (by kernel_rfl) ⟨by decide, rfl⟩ ?_
    refine RO.of (listed' := #[true, true, true, true, true, true, true, false]) rfl rfl ?_
    refine SJ.storeL (k := 0) (off := 0) (us := [.int .i64 r10.num, .int .i64 r10.den]) rfl rfl rfl rfl Tryd.sizeOf53 rfl rfl ?_
    refine SJ.nil ?_
    refine PJ.draw ?_
    refine RJ.first 7 (listed' := #[true, true, true, true, true, true, true, true]) [1] rfl (by kernel_rfl) rfl ⟨by decide, rfl⟩ (y_assign rfl) rfl ?_
    refine RJ.fin [1] (by kernel_rfl) ⟨by decide, rfl⟩ ?_
    refine PJ.next ?_
    refine WJ.ret ?_
    obtain rfl := Option.some.inj hm
    exact PJ.retn_sel (vs := [.agg (Fraction.enc r10).toArray, .int .i64 0]) Tryd.results30 ⟨⟨0, g4, 53, [.int .i64 r10.num, .int .i64 r10.den], rfl, rfl, .inl ⟨Tryd.isAgg53, Tryd.sizeOf53, rfl⟩⟩, rfl, trivial⟩ [] ⟨List.nodup_nil, rfl⟩ ⟨rfl, rfl⟩

set_option maxRecDepth 100000 in
set_option maxHeartbeats 1000000 in
theorem ok_i_WordsPerMinute {N : Nat} {x1 : Trial} {penalty2 : Int} {r : Fraction × Int} (hm : i_WordsPerMinute N x1 penalty2 = some r) (w : World)  :
    Calls Tryd.prog 31 #[.agg (Trial.enc x1).toArray, .int .i64 penalty2] w (Ret (cx w) (tup [.agg (Fraction.enc r.1).toArray, .int .i64 r.2])) := by
  unfold i_WordsPerMinute at hm
  refine Calls.enter [.agg (Trial.enc x1).toArray, .int .i64 penalty2] Tryd.func31 rfl Tryd.ntmps31 rfl ?_
  refine WJ.seq ?_
  refine WJ.reg ?_
  refine SJ.box (cs := [.int .i64 x1.strokes, .int .i64 x1.errors, .int .i64 x1.seconds]) rfl rfl rfl fun g3 => ?_
  refine SJ.alloc (cs := [.int .i64 0, .int .i64 0]) Tryd.zeroValue53 rfl rfl fun g4 => ?_
  refine SJ.q (YldS.yld (y_assign rfl)) rfl ?_
  refine SJ.nil ?_
  refine PJ.next ?_
  refine WJ.seq ?_
  refine WJ.seq ?_
  refine WJ.quiet ?_
  refine QJ.step (YldS.yld (y_loadBN (k := 1) (off := 0) (us := [.int .i64 x1.strokes, .int .i64 x1.errors, .int .i64 x1.seconds]) rfl Tryd.isAgg49 Tryd.sizeOf49 rfl rfl)) rfl ?_
  refine QJ.step (YldS.yld (y_move rfl)) rfl ?_
  obtain ⟨r5, h6, hm⟩ := bindS hm
  refine QJ.step (y_call Tryd.call82 rfl (RetG.quiet fun w hw => ok_i_trialCode h6 w )) rfl ?_
  refine QJ.step (YldS.yld (y_assign rfl)) rfl ?_
  refine QJ.done ?_
  refine PJ.next ?_
  refine WJ.seq ?_
  refine WJ.quiet ?_
  refine QJ.step (YldS.yld (y_move rfl)) rfl ?_
  refine QJ.step (YldS.yld (y_bin rfl rfl rfl)) rfl ?_
  refine QJ.done ?_
  refine PJ.next ?_
  refine WJ.cond (t := (r5 != 0)) rfl (fun hb7 => ?_) (fun hb7 => ?_)
  · replace hm := ifT hm hb7
    refine WJ.seq ?_
    refine WJ.reg ?_
    refine SJ.q (YldS.yld (y_build (parts := []) (places := [(0, 1), (1, 1)]) (r := [.int .i64 ((Fraction.mk 0 0).num), .int .i64 ((Fraction.mk 0 0).den)]) pl53 Tryd.zeroValue53 rfl rfl rfl rfl)) rfl ?_
    refine SJ.q (YldS.yld (y_move rfl)) rfl ?_
    refine SJ.storeL (k := 0) (off := 0) (us := [.int .i64 ((Fraction.mk 0 0).num), .int .i64 ((Fraction.mk 0 0).den)]) rfl rfl rfl rfl Tryd.sizeOf53 rfl rfl ?_
    refine SJ.q (YldS.yld (y_assign rfl)) rfl ?_
    refine SJ.nil ?_
    refine PJ.next ?_
    refine WJ.ret ?_
    refine PJ.then_ret ?_
    obtain rfl := Option.some.inj hm
    exact PJ.retn_sel (vs := [.agg (Fraction.enc (Fraction.mk 0 0)).toArray, .int .i64 r5]) Tryd.results31 ⟨⟨0, g4, 53, [.int .i64 ((Fraction.mk 0 0).num), .int .i64 ((Fraction.mk 0 0).den)], rfl, rfl, .inl ⟨Tryd.isAgg53, Tryd.sizeOf53, rfl⟩⟩, rfl, trivial⟩ [] ⟨List.nodup_nil, rfl⟩ ⟨rfl, rfl⟩
  · replace hm := ifF hm hb7
    refine WJ.skip ?_
    refine PJ.next ?_
    refine WJ.seq ?_
    obtain ⟨r8, h9, hm⟩ := bindS hm
    obtain ⟨r10, h11, hm⟩ := bindS hm
    refine WJ.draws (N := 9) (listed0 := #[false, false, false, false, false, false, false, false, false]) [box g3 49 [.int .i64 x1.strokes, .int .i64 x1.errors, .int .i64 x1.seconds]] follows rfl rfl ?_
    refine RJ.first 0 (listed' := #[true, false, false, false, false, false, false, false, false]) [1] rfl (by kernel_rfl) rfl ⟨by decide, rfl⟩ (y_loadBN (k := 0) (off := 0) (us := [.int .i64 x1.strokes, .int .i64 x1.errors, .int .i64 x1.seconds]) rfl Tryd.isAgg49 Tryd.sizeOf49 rfl rfl) rfl ?_
    refine RJ.first 1 (listed' := #[true, true, false, false, false, false, false, false, false]) [1] rfl (by kernel_rfl) rfl ⟨by decide, rfl⟩ (y_move rfl) rfl ?_
    refine RJ.first 4 (listed' := #[true, true, false, false, true, false, false, false, false]) [1] rfl (by kernel_rfl) rfl ⟨by decide, rfl⟩ (y_fldB (o := 0) fld49_2 rfl) rfl ?_
    refine RJ.first 5 (listed' := #[true, true, false, false, true, true, false, false, false]) [1] rfl (by kernel_rfl) rfl ⟨by decide, rfl⟩ (y_loadB (k := 0) (off := 2) (v := .int .i64 x1.seconds) rfl Tryd.isAgg2 rfl rfl) rfl ?_
    refine RJ.step1 2 [1] (by kernel_rfl) ⟨by decide, rfl⟩ ?_
    refine RO.of (listed' := #[true, true, true, false, true, true, false, false, false]) rfl rfl ?_
    refine SJ.q (y_call Tryd.call84 rfl (RetG.quiet fun w hw => ok_i_Trial_net h9 w )) rfl ?_
    refine SJ.nil ?_
    refine PJ.draw ?_
    refine RJ.first 3 (listed' := #[true, true, true, true, true, true, false, false, false]) [1] rfl (by kernel_rfl) rfl ⟨by decide, rfl⟩ (y_bin rfl rfl rfl) rfl ?_
    refine RJ.step1 6 [1] (by kernel_rfl) ⟨by decide, rfl⟩ ?_
    refine RO.of (listed' := #[true, true, true, true, true, true, true, false, false]) rfl rfl ?_
    refine SJ.q (y_call Tryd.call83 rfl (RetG.quiet fun w hw => ok_i_lowest h11 w )) rfl ?_
    refine SJ.nil ?_
    refine PJ.draw ?_
    refine RJ.step1 7 [1] (by kernel_rfl) ⟨by decide, rfl⟩ ?_
    refine RO.of (listed' := #[true, true, true, true, true, true, true, true, false]) rfl rfl ?_
    refine SJ.storeL (k := 0) (off := 0) (us := [.int .i64 r10.num, .int .i64 r10.den]) rfl rfl rfl rfl Tryd.sizeOf53 rfl rfl ?_
    refine SJ.nil ?_
    refine PJ.draw ?_
    refine RJ.first 8 (listed' := #[true, true, true, true, true, true, true, true, true]) [1] rfl (by kernel_rfl) rfl ⟨by decide, rfl⟩ (y_assign rfl) rfl ?_
    refine RJ.fin [1] (by kernel_rfl) ⟨by decide, rfl⟩ ?_
    refine PJ.next ?_
    refine WJ.ret ?_
    obtain rfl := Option.some.inj hm
    exact PJ.retn_sel (vs := [.agg (Fraction.enc r10).toArray, .int .i64 0]) Tryd.results31 ⟨⟨0, g4, 53, [.int .i64 r10.num, .int .i64 r10.den], rfl, rfl, .inl ⟨Tryd.isAgg53, Tryd.sizeOf53, rfl⟩⟩, rfl, trivial⟩ [] ⟨List.nodup_nil, rfl⟩ ⟨rfl, rfl⟩

set_option maxRecDepth 100000 in
set_option maxHeartbeats 1000000 in
theorem ok_s_WordsPerMinute {N : Nat} {x1 : Trial} {penalty2 : Int} {r : Fraction × Int} (hm : s_WordsPerMinute N x1 penalty2 = some r) (w : World)  :
    Calls Tryd.prog 32 #[.agg (Trial.enc x1).toArray, .int .i64 penalty2] w (Ret (cx w) (tup [.agg (Fraction.enc r.1).toArray, .int .i64 r.2])) := by
  unfold s_WordsPerMinute at hm
  refine Calls.enter [.agg (Trial.enc x1).toArray, .int .i64 penalty2] Tryd.func32 rfl Tryd.ntmps32 rfl ?_
  refine WJ.seq ?_
  refine WJ.reg ?_
  refine SJ.box (cs := [.int .i64 x1.strokes, .int .i64 x1.errors, .int .i64 x1.seconds]) rfl rfl rfl fun g3 => ?_
  refine SJ.alloc (cs := [.int .i64 0, .int .i64 0]) Tryd.zeroValue53 rfl rfl fun g4 => ?_
  refine SJ.q (YldS.yld (y_assign rfl)) rfl ?_
  refine SJ.nil ?_
  refine PJ.next ?_
  refine WJ.seq ?_
  refine WJ.quiet ?_
  refine QJ.step (YldS.yld (y_move rfl)) rfl ?_
  obtain ⟨r5, h6, hm⟩ := bindS hm
  refine QJ.step (y_call Tryd.call85 rfl (RetG.quiet fun w hw => ok_s_l20Code h6 w _ (hw.box_at (k := 1) rfl))) rfl ?_
  refine QJ.step (YldS.yld (y_assign rfl)) rfl ?_
  refine QJ.done ?_
  refine PJ.next ?_
  refine WJ.seq ?_
  refine WJ.seq ?_
  refine WJ.quiet ?_
  refine QJ.step (YldS.yld (y_move rfl)) rfl ?_
  refine QJ.step (YldS.yld (y_bin rfl rfl rfl)) rfl ?_
  refine QJ.done ?_
  refine PJ.next ?_
  refine WJ.cond (t := (r5 != 0)) rfl (fun hb7 => ?_) (fun hb7 => ?_)
  · replace hm := ifT hm hb7
    refine WJ.seq ?_
    refine WJ.reg ?_
    refine SJ.q (YldS.yld (y_build (parts := []) (places := [(0, 1), (1, 1)]) (r := [.int .i64 ((Fraction.mk 0 0).num), .int .i64 ((Fraction.mk 0 0).den)]) pl53 Tryd.zeroValue53 rfl rfl rfl rfl)) rfl ?_
    refine SJ.q (YldS.yld (y_move rfl)) rfl ?_
    refine SJ.storeL (k := 0) (off := 0) (us := [.int .i64 ((Fraction.mk 0 0).num), .int .i64 ((Fraction.mk 0 0).den)]) rfl rfl rfl rfl Tryd.sizeOf53 rfl rfl ?_
    refine SJ.q (YldS.yld (y_assign rfl)) rfl ?_
    refine SJ.nil ?_
    refine PJ.next ?_
    refine WJ.ret ?_
    refine PJ.then_ret ?_
    obtain rfl := Option.some.inj hm
    exact PJ.retn_sel (vs := [.agg (Fraction.enc (Fraction.mk 0 0)).toArray, .int .i64 r5]) Tryd.results32 ⟨⟨0, g4, 53, [.int .i64 ((Fraction.mk 0 0).num), .int .i64 ((Fraction.mk 0 0).den)], rfl, rfl, .inl ⟨Tryd.isAgg53, Tryd.sizeOf53, rfl⟩⟩, rfl, trivial⟩ [] ⟨List.nodup_nil, rfl⟩ ⟨rfl, rfl⟩
  · replace hm := ifF hm hb7
    refine WJ.skip ?_
    refine PJ.next ?_
    refine WJ.seq ?_
    obtain ⟨r8, h9, hm⟩ := bindS hm
    obtain ⟨r10, h11, hm⟩ := bindS hm
    refine WJ.draws (N := 8) (listed0 := #[false, false, false, false, false, false, false, false]) [box g3 49 [.int .i64 x1.strokes, .int .i64 x1.errors, .int .i64 x1.seconds]] follows rfl rfl ?_
    refine RJ.first 0 (listed' := #[true, false, false, false, false, false, false, false]) [1] rfl (by kernel_rfl) rfl ⟨by decide, rfl⟩ (y_move rfl) rfl ?_
    refine RJ.first 3 (listed' := #[true, false, false, true, false, false, false, false]) [1] rfl (by kernel_rfl) rfl ⟨by decide, rfl⟩ (y_fldB (o := 0) fld49_2 rfl) rfl ?_
    refine RJ.first 4 (listed' := #[true, false, false, true, true, false, false, false]) [1] rfl (by kernel_rfl) rfl ⟨by decide, rfl⟩ (y_loadB (k := 0) (off := 2) (v := .int .i64 x1.seconds) rfl Tryd.isAgg2 rfl rfl) rfl ?_
    refine RJ.step1 1 [1] (by kernel_rfl) ⟨by decide, rfl⟩ ?_
    refine RO.of (listed' := #[true, true, false, true, true, false, false, false]) rfl rfl ?_
    refine SJ.q (y_call Tryd.call87 rfl (RetG.quiet fun w hw => ok_s_l20Net h9 w _ (hw.box_at (k := 1) rfl))) rfl ?_
    refine SJ.nil ?_
    refine PJ.draw ?_
    refine RJ.first 2 (listed' := #[true, true, true, true, true, false, false, false]) [1] rfl (by kernel_rfl) rfl ⟨by decide, rfl⟩ (y_bin rfl rfl rfl) rfl ?_
    refine RJ.step1 5 [1] (by kernel_rfl) ⟨by decide, rfl⟩ ?_
    refine RO.of (listed' := #[true, true, true, true, true, true, false, false]) rfl rfl ?_
    refine SJ.q (y_call Tryd.call86 rfl (RetG.quiet fun w hw => ok_s_l02Make h11 w )) rfl ?_
    refine SJ.nil ?_
    refine PJ.draw ?_
    refine RJ.step1 6 [1] (by kernel_rfl) ⟨by decide, rfl⟩ ?_
    refine RO.of (listed' := #[true, true, true, true, true, true, true, false]) rfl rfl ?_
    refine SJ.storeL (k := 0) (off := 0) (us := [.int .i64 r10.num, .int .i64 r10.den]) rfl rfl rfl rfl Tryd.sizeOf53 rfl rfl ?_
    refine SJ.nil ?_
    refine PJ.draw ?_
    refine RJ.first 7 (listed' := #[true, true, true, true, true, true, true, true]) [1] rfl (by kernel_rfl) rfl ⟨by decide, rfl⟩ (y_assign rfl) rfl ?_
    refine RJ.fin [1] (by kernel_rfl) ⟨by decide, rfl⟩ ?_
    refine PJ.next ?_
    refine WJ.ret ?_
    obtain rfl := Option.some.inj hm
    exact PJ.retn_sel (vs := [.agg (Fraction.enc r10).toArray, .int .i64 0]) Tryd.results32 ⟨⟨0, g4, 53, [.int .i64 r10.num, .int .i64 r10.den], rfl, rfl, .inl ⟨Tryd.isAgg53, Tryd.sizeOf53, rfl⟩⟩, rfl, trivial⟩ [] ⟨List.nodup_nil, rfl⟩ ⟨rfl, rfl⟩

set_option maxRecDepth 100000 in
set_option maxHeartbeats 1000000 in
theorem ok_i_NetStrokes {x1 : Trial} {penalty2 : Int} {r : Int × Int} (hm : i_NetStrokes x1 penalty2 = some r) (w : World)  :
    Calls Tryd.prog 33 #[.agg (Trial.enc x1).toArray, .int .i64 penalty2] w (Ret (cx w) (tup [.int .i64 r.1, .int .i64 r.2])) := by
  unfold i_NetStrokes at hm
  refine Calls.enter [.agg (Trial.enc x1).toArray, .int .i64 penalty2] Tryd.func33 rfl Tryd.ntmps33 rfl ?_
  refine WJ.seq ?_
  refine WJ.reg ?_
  refine SJ.box (cs := [.int .i64 x1.strokes, .int .i64 x1.errors, .int .i64 x1.seconds]) rfl rfl rfl fun g3 => ?_
  refine SJ.q (YldS.yld (y_assign rfl)) rfl ?_
  refine SJ.q (YldS.yld (y_assign rfl)) rfl ?_
  refine SJ.nil ?_
  refine PJ.next ?_
  refine WJ.seq ?_
  refine WJ.seq ?_
  refine WJ.quiet ?_
  refine QJ.step (YldS.yld (y_loadBN (k := 0) (off := 0) (us := [.int .i64 x1.strokes, .int .i64 x1.errors, .int .i64 x1.seconds]) rfl Tryd.isAgg49 Tryd.sizeOf49 rfl rfl)) rfl ?_
  refine QJ.step (YldS.yld (y_move rfl)) rfl ?_
  obtain ⟨r4, h5, hm⟩ := bindS hm
  refine QJ.step (y_call Tryd.call82 rfl (RetG.quiet fun w hw => ok_i_trialCode h5 w )) rfl ?_
  refine QJ.step (YldS.yld (y_assign rfl)) rfl ?_
  refine QJ.done ?_
  refine PJ.next ?_
  refine WJ.seq ?_
  refine WJ.quiet ?_
  refine QJ.step (YldS.yld (y_move rfl)) rfl ?_
  refine QJ.step (YldS.yld (y_bin rfl rfl rfl)) rfl ?_
  refine QJ.done ?_
  refine PJ.next ?_
  refine WJ.cond (t := (r4 != 0)) rfl (fun hb6 => ?_) (fun hb6 => ?_)
  · replace hm := ifT hm hb6
    refine WJ.seq ?_
    refine WJ.quiet ?_
    refine QJ.step (YldS.yld (y_move rfl)) rfl ?_
    refine QJ.step (YldS.yld (y_assign rfl)) rfl ?_
    refine QJ.step (YldS.yld (y_assign rfl)) rfl ?_
    refine QJ.done ?_
    refine PJ.next ?_
    refine WJ.ret ?_
    refine PJ.then_ret ?_
    obtain rfl := Option.some.inj hm
    refine PJ.sel (L' := []) [] ⟨List.nodup_nil, rfl⟩ ?_
    exact PJ.retn (vs := [.int .i64 0, .int .i64 r4]) Tryd.results33 ⟨rfl, rfl, trivial⟩ ⟨rfl, rfl⟩
  · replace hm := ifF hm hb6
    refine WJ.skip ?_
    refine PJ.next ?_
    refine WJ.seq ?_
    refine WJ.quiet ?_
    refine QJ.step (YldS.yld (y_loadBN (k := 0) (off := 0) (us := [.int .i64 x1.strokes, .int .i64 x1.errors, .int .i64 x1.seconds]) rfl Tryd.isAgg49 Tryd.sizeOf49 rfl rfl)) rfl ?_
    refine QJ.step (YldS.yld (y_move rfl)) rfl ?_
    obtain ⟨r7, h8, hm⟩ := bindS hm
    refine QJ.step (y_call Tryd.call84 rfl (RetG.quiet fun w hw => ok_i_Trial_net h8 w )) rfl ?_
    refine QJ.step (YldS.yld (y_assign rfl)) rfl ?_
    refine QJ.step (YldS.yld (y_assign rfl)) rfl ?_
    refine QJ.done ?_
    refine PJ.next ?_
    refine WJ.ret ?_
    obtain rfl := Option.some.inj hm
    refine PJ.sel (L' := []) [] ⟨List.nodup_nil, rfl⟩ ?_
    exact PJ.retn (vs := [.int .i64 r7, .int .i64 0]) Tryd.results33 ⟨rfl, rfl, trivial⟩ ⟨rfl, rfl⟩

set_option maxRecDepth 100000 in
set_option maxHeartbeats 1000000 in
theorem ok_s_NetStrokes {x1 : Trial} {penalty2 : Int} {r : Int × Int} (hm : s_NetStrokes x1 penalty2 = some r) (w : World)  :
    Calls Tryd.prog 34 #[.agg (Trial.enc x1).toArray, .int .i64 penalty2] w (Ret (cx w) (tup [.int .i64 r.1, .int .i64 r.2])) := by
  unfold s_NetStrokes at hm
  refine Calls.enter [.agg (Trial.enc x1).toArray, .int .i64 penalty2] Tryd.func34 rfl Tryd.ntmps34 rfl ?_
  refine WJ.seq ?_
  refine WJ.reg ?_
  refine SJ.box (cs := [.int .i64 x1.strokes, .int .i64 x1.errors, .int .i64 x1.seconds]) rfl rfl rfl fun g3 => ?_
  refine SJ.q (YldS.yld (y_assign rfl)) rfl ?_
  refine SJ.q (YldS.yld (y_assign rfl)) rfl ?_
  refine SJ.nil ?_
  refine PJ.next ?_
  refine WJ.seq ?_
  refine WJ.quiet ?_
  refine QJ.step (YldS.yld (y_move rfl)) rfl ?_
  obtain ⟨r4, h5, hm⟩ := bindS hm
  refine QJ.step (y_call Tryd.call85 rfl (RetG.quiet fun w hw => ok_s_l20Code h5 w _ (hw.box_at (k := 0) rfl))) rfl ?_
  refine QJ.step (YldS.yld (y_assign rfl)) rfl ?_
  refine QJ.done ?_
  refine PJ.next ?_
  refine WJ.seq ?_
  refine WJ.seq ?_
  refine WJ.quiet ?_
  refine QJ.step (YldS.yld (y_move rfl)) rfl ?_
  refine QJ.step (YldS.yld (y_bin rfl rfl rfl)) rfl ?_
  refine QJ.done ?_
  refine PJ.next ?_
  refine WJ.cond (t := (r4 != 0)) rfl (fun hb6 => ?_) (fun hb6 => ?_)
  · replace hm := ifT hm hb6
    refine WJ.seq ?_
    refine WJ.quiet ?_
    refine QJ.step (YldS.yld (y_move rfl)) rfl ?_
    refine QJ.step (YldS.yld (y_assign rfl)) rfl ?_
    refine QJ.step (YldS.yld (y_assign rfl)) rfl ?_
    refine QJ.done ?_
    refine PJ.next ?_
    refine WJ.ret ?_
    refine PJ.then_ret ?_
    obtain rfl := Option.some.inj hm
    refine PJ.sel (L' := []) [] ⟨List.nodup_nil, rfl⟩ ?_
    exact PJ.retn (vs := [.int .i64 0, .int .i64 r4]) Tryd.results34 ⟨rfl, rfl, trivial⟩ ⟨rfl, rfl⟩
  · replace hm := ifF hm hb6
    refine WJ.skip ?_
    refine PJ.next ?_
    refine WJ.seq ?_
    refine WJ.quiet ?_
    refine QJ.step (YldS.yld (y_move rfl)) rfl ?_
    obtain ⟨r7, h8, hm⟩ := bindS hm
    refine QJ.step (y_call Tryd.call87 rfl (RetG.quiet fun w hw => ok_s_l20Net h8 w _ (hw.box_at (k := 0) rfl))) rfl ?_
    refine QJ.step (YldS.yld (y_assign rfl)) rfl ?_
    refine QJ.step (YldS.yld (y_assign rfl)) rfl ?_
    refine QJ.done ?_
    refine PJ.next ?_
    refine WJ.ret ?_
    obtain rfl := Option.some.inj hm
    refine PJ.sel (L' := []) [] ⟨List.nodup_nil, rfl⟩ ?_
    exact PJ.retn (vs := [.int .i64 r7, .int .i64 0]) Tryd.results34 ⟨rfl, rfl, trivial⟩ ⟨rfl, rfl⟩

set_option maxRecDepth 100000 in
set_option maxHeartbeats 1000000 in
theorem ok_s_DrawStrokesNeeded {code1 : List UInt8} {r : Int × Int × Int × Int} (hm : s_DrawStrokesNeeded code1 = some r) (w : World) (v2 : Value) (hr3 : RdS w (cx w).Fz v2 fByte.rp code1) :
    Calls Tryd.prog 35 #[v2] w (Ret (cx w) (tup [.int .i64 r.1, .int .i64 r.2.1, .int .i64 r.2.2.1, .int .i64 r.2.2.2])) := by
  unfold s_DrawStrokesNeeded at hm
  refine Calls.enter [v2] Tryd.func35 rfl Tryd.ntmps35 rfl ?_
  refine WJ.seq ?_
  refine WJ.quiet ?_
  refine QJ.step (YldS.yld (y_assign rfl)) rfl ?_
  refine QJ.step (YldS.yld (y_assign rfl)) rfl ?_
  refine QJ.step (YldS.yld (y_assign rfl)) rfl ?_
  refine QJ.step (YldS.yld (y_assign rfl)) rfl ?_
  refine QJ.done ?_
  refine PJ.next ?_
  refine WJ.seq ?_
  refine WJ.reg ?_
  refine SJ.q (YldS.yld (y_move rfl)) rfl ?_
  obtain ⟨r4, h5, hm⟩ := bindS hm
  refine SJ.call Tryd.call51 rfl (fun w hw => ok_s_l00From h5 w _ (hr3.st hw)) rfl ?_
  rintro _ _ ⟨g6, rfl, rfl⟩
  refine SJ.q (YldS.yld (y_assign rfl)) rfl ?_
  refine SJ.nil ?_
  refine PJ.next ?_
  refine WJ.seq ?_
  refine WJ.reg ?_
  refine SJ.q (YldS.yld (y_move rfl)) rfl ?_
  obtain ⟨r7, h8, hm⟩ := bindS hm
  refine SJ.call1 (k := 0) rfl Tryd.call68 rfl (fun w S hw hA hO => ok_s_l00Src_pick h8 w S _ (hr3.st1 hw hO) hA) rfl ?_
  rintro _ _ ⟨rfl, rfl⟩
  refine SJ.q (YldS.yld (y_assign rfl)) rfl ?_
  refine SJ.nil ?_
  refine PJ.next ?_
  refine WJ.seq ?_
  refine WJ.reg ?_
  refine SJ.q (YldS.yld (y_move rfl)) rfl ?_
  obtain ⟨r9, h10, hm⟩ := bindS hm
  refine SJ.call1 (k := 0) rfl Tryd.call68 rfl (fun w S hw hA hO => ok_s_l00Src_pick h10 w S _ (hr3.st1 hw hO) hA) rfl ?_
  rintro _ _ ⟨rfl, rfl⟩
  refine SJ.q (YldS.yld (y_assign rfl)) rfl ?_
  refine SJ.nil ?_
  refine PJ.next ?_
  refine WJ.seq ?_
  refine WJ.reg ?_
  refine SJ.q (YldS.yld (y_move rfl)) rfl ?_
  obtain ⟨r11, h12, hm⟩ := bindS hm
  refine SJ.call1 (k := 0) rfl Tryd.call68 rfl (fun w S hw hA hO => ok_s_l00Src_pick h12 w S _ (hr3.st1 hw hO) hA) rfl ?_
  rintro _ _ ⟨rfl, rfl⟩
  refine SJ.q (YldS.yld (y_bin rfl rfl rfl)) rfl ?_
  refine SJ.q (YldS.yld (y_bin rfl rfl rfl)) rfl ?_
  refine SJ.q (YldS.yld (y_assign rfl)) rfl ?_
  refine SJ.nil ?_
  refine PJ.next ?_
  obtain ⟨kj18, hk19, hm⟩ := withK_open hm
  refine WJ.join (X := Int × Int × Int × Int × Int) (fun (x : Int × Int × Int × Int × Int) => kj18 x.1 x.2.1 x.2.2.1 x.2.2.2.1 x.2.2.2.2 = some r) (fun (x : Int × Int × Int × Int × Int) => [(6, pt g6 0), (7, .int .i64 x.2.2.1), (8, .int .i64 x.2.2.2.1), (9, .int .i64 x.2.2.2.2)]) (fun (x : Int × Int × Int × Int × Int) => [box g6 117 [v2, .int .i64 x.1, .int .u64 x.2.1]]) ?_ ?_
  · clear hk19
    refine WJ.seq ?_
    refine WJ.reg ?_
    refine SJ.q (YldS.yld (y_move rfl)) rfl ?_
    obtain ⟨r20, h21, hm⟩ := bindS hm
    refine SJ.call1 (k := 0) rfl Tryd.call68 rfl (fun w S hw hA hO => ok_s_l00Src_pick h21 w S _ (hr3.st1 hw hO) hA) rfl ?_
    rintro _ _ ⟨rfl, rfl⟩
    refine SJ.nil ?_
    refine PJ.next ?_
    refine WJ.block ?_
    refine WJ.seq ?_
    refine WJ.quiet ?_
    refine QJ.step (YldS.yld (y_bin rfl rfl rfl)) rfl ?_
    refine QJ.step (YldS.yld (y_assign rfl)) rfl ?_
    refine QJ.done ?_
    refine PJ.next ?_
    refine WJ.cond (t := (r20.1 == 0)) rfl (fun hb22 => ?_) (fun hb22 => ?_)
    · replace hm := ifT hm hb22
      refine WJ.reg ?_
      refine SJ.q (YldS.yld (y_move rfl)) rfl ?_
      refine SJ.buildSlice (R := fI64) (os := [.const (.int .i64 (-1)), .const (.int .i64 0), .const (.int .i64 1000), .const (.int .i64 1001)]) [(-1), 0, 1000, 1001] Tryd.runUnderlying26 Tryd.sizeOf2 Tryd.zeroValue2 rfl rfl rfl rfl rfl rfl fun v23 => ?_
      obtain ⟨r24, h25, hm⟩ := bindS hm
      refine SJ.call2 (k := 1) rfl Tryd.call88 rfl (fun w S hw hA hO hB => ok_s_l00Src_among h25 w S _ (hr3.st1 hw hO) _ (hB.row_rd (j := 0) (k := 1) rfl rfl) hA) rfl ?_
      rintro _ _ ⟨rfl, rfl⟩
      refine SJ.q (YldS.yld (y_assign rfl)) rfl ?_
      refine SJ.nil ?_
      refine PJ.block_normal ?_
      exact PJ.joined (r24.2.at_, r24.2.seed, r24.1, r9.1, w64 (30 * (w64 (1 + r11.1)))) [0] hm ⟨rfl, rfl, rfl, rfl, trivial⟩ ⟨by decide, rfl⟩
    · replace hm := ifF hm hb22
      refine WJ.seq ?_
      refine WJ.quiet ?_
      refine QJ.step (YldS.yld (y_bin rfl rfl rfl)) rfl ?_
      refine QJ.step (YldS.yld (y_assign rfl)) rfl ?_
      refine QJ.done ?_
      refine PJ.next ?_
      refine WJ.cond (t := (r20.1 == 1)) rfl (fun hb26 => ?_) (fun hb26 => ?_)
      · replace hm := ifT hm hb26
        refine WJ.reg ?_
        refine SJ.q (YldS.yld (y_move rfl)) rfl ?_
        refine SJ.buildSlice (R := fI64) (os := [.const (.int .i64 (-1)), .const (.int .i64 0), .const (.int .i64 1000), .const (.int .i64 1001)]) [(-1), 0, 1000, 1001] Tryd.runUnderlying26 Tryd.sizeOf2 Tryd.zeroValue2 rfl rfl rfl rfl rfl rfl fun v27 => ?_
        obtain ⟨r28, h29, hm⟩ := bindS hm
        refine SJ.call2 (k := 1) rfl Tryd.call88 rfl (fun w S hw hA hO hB => ok_s_l00Src_among h29 w S _ (hr3.st1 hw hO) _ (hB.row_rd (j := 0) (k := 1) rfl rfl) hA) rfl ?_
        rintro _ _ ⟨rfl, rfl⟩
        refine SJ.q (YldS.yld (y_assign rfl)) rfl ?_
        refine SJ.nil ?_
        refine PJ.block_normal ?_
        exact PJ.joined (r28.2.at_, r28.2.seed, r7.1, r28.1, w64 (30 * (w64 (1 + r11.1)))) [0] hm ⟨rfl, rfl, rfl, rfl, trivial⟩ ⟨by decide, rfl⟩
      · replace hm := ifF hm hb26
        refine WJ.seq ?_
        refine WJ.quiet ?_
        refine QJ.step (YldS.yld (y_bin rfl rfl rfl)) rfl ?_
        refine QJ.step (YldS.yld (y_assign rfl)) rfl ?_
        refine QJ.done ?_
        refine PJ.next ?_
        refine WJ.cond (t := (r20.1 == 2)) rfl (fun hb30 => ?_) (fun hb30 => ?_)
        · replace hm := ifT hm hb30
          refine WJ.reg ?_
          refine SJ.q (YldS.yld (y_move rfl)) rfl ?_
          refine SJ.buildSlice (R := fI64) (os := [.const (.int .i64 0), .const (.int .i64 1), .const (.int .i64 7200), .const (.int .i64 7201)]) [0, 1, 7200, 7201] Tryd.runUnderlying26 Tryd.sizeOf2 Tryd.zeroValue2 rfl rfl rfl rfl rfl rfl fun v31 => ?_
          obtain ⟨r32, h33, hm⟩ := bindS hm
          refine SJ.call2 (k := 1) rfl Tryd.call88 rfl (fun w S hw hA hO hB => ok_s_l00Src_among h33 w S _ (hr3.st1 hw hO) _ (hB.row_rd (j := 0) (k := 1) rfl rfl) hA) rfl ?_
          rintro _ _ ⟨rfl, rfl⟩
          refine SJ.q (YldS.yld (y_assign rfl)) rfl ?_
          refine SJ.nil ?_
          refine PJ.block_normal ?_
          exact PJ.joined (r32.2.at_, r32.2.seed, r7.1, r9.1, r32.1) [0] hm ⟨rfl, rfl, rfl, rfl, trivial⟩ ⟨by decide, rfl⟩
        · replace hm := ifF hm hb30
          refine WJ.skip ?_
          refine PJ.block_normal ?_
          exact PJ.joined (r20.2.at_, r20.2.seed, r7.1, r9.1, w64 (30 * (w64 (1 + r11.1)))) [0] hm ⟨rfl, rfl, rfl, rfl, trivial⟩ ⟨by decide, rfl⟩
  · rintro ⟨x13, x14, words15, errors16, seconds17⟩ hm
    subst hk19
    refine WJ.seq ?_
    refine WJ.reg ?_
    refine SJ.q (YldS.yld (y_move rfl)) rfl ?_
    refine SJ.q (YldS.yld (y_move rfl)) rfl ?_
    refine SJ.q (YldS.yld (y_move rfl)) rfl ?_
    obtain ⟨r34, h35, hm⟩ := bindS hm
    refine SJ.call1 (k := 0) rfl Tryd.call89 rfl (fun w S hw hA hO => ok_s_l20DrawPenalty h35 w S _ (hr3.st1 hw hO) hA) rfl ?_
    rintro _ _ ⟨rfl, rfl⟩
    refine SJ.q (YldS.yld (y_move rfl)) rfl ?_
    refine SJ.q (YldS.yld (y_assign rfl)) rfl ?_
    refine SJ.q (YldS.yld (y_assign rfl)) rfl ?_
    refine SJ.q (YldS.yld (y_assign rfl)) rfl ?_
    refine SJ.q (YldS.yld (y_assign rfl)) rfl ?_
    refine SJ.nil ?_
    refine PJ.next ?_
    refine WJ.ret ?_
    obtain rfl := Option.some.inj hm
    refine PJ.sel (L' := []) [] ⟨List.nodup_nil, rfl⟩ ?_
    exact PJ.retn (vs := [.int .i64 words15, .int .i64 errors16, .int .i64 r34.1, .int .i64 seconds17]) Tryd.results35 ⟨rfl, rfl, rfl, rfl, trivial⟩ ⟨rfl, rfl⟩

set_option maxRecDepth 100000 in
set_option maxHeartbeats 1000000 in
theorem ok_i_isThousand {n1 : Int} {r : Bool} (hm : i_isThousand n1 = some r) (w : World)  :
    Calls Tryd.prog 91 #[.int .i64 n1] w (Ret (cx w) (.bool r)) := by
  unfold i_isThousand at hm
  refine Calls.enter [.int .i64 n1] Tryd.func91 rfl Tryd.ntmps91 rfl ?_
  refine WJ.seq ?_
  refine WJ.quiet ?_
  refine QJ.step (YldS.yld (y_assign rfl)) rfl ?_
  refine QJ.done ?_
  refine PJ.next ?_
  refine WJ.seq ?_
  refine WJ.quiet ?_
  refine QJ.step (YldS.yld (y_move rfl)) rfl ?_
  obtain ⟨r2, h3, hm⟩ := bindS hm
  refine QJ.step (y_call Tryd.call72 rfl (RetG.quiet fun w hw => ok_i_between h3 w )) rfl ?_
  refine QJ.step (YldS.yld (y_assign rfl)) rfl ?_
  refine QJ.done ?_
  refine PJ.next ?_
  refine WJ.ret ?_
  obtain rfl := Option.some.inj hm
  refine PJ.sel (L' := []) [] ⟨List.nodup_nil, rfl⟩ ?_
  exact PJ.retn (vs := [.bool r2]) Tryd.results91 ⟨rfl, trivial⟩ ⟨rfl, rfl⟩

set_option maxRecDepth 100000 in
set_option maxHeartbeats 1000000 in
theorem ok_i_StrokesNeeded {words1 : Int} {errors2 : Int} {penalty3 : Int} {seconds4 : Int} {r : Int × Int} (hm : i_StrokesNeeded words1 errors2 penalty3 seconds4 = some r) (w : World)  :
    Calls Tryd.prog 36 #[.int .i64 words1, .int .i64 errors2, .int .i64 penalty3, .int .i64 seconds4] w (Ret (cx w) (tup [.int .i64 r.1, .int .i64 r.2])) := by
  unfold i_StrokesNeeded at hm
  refine Calls.enter [.int .i64 words1, .int .i64 errors2, .int .i64 penalty3, .int .i64 seconds4] Tryd.func36 rfl Tryd.ntmps36 rfl ?_
  refine WJ.seq ?_
  refine WJ.quiet ?_
  refine QJ.step (YldS.yld (y_assign rfl)) rfl ?_
  refine QJ.step (YldS.yld (y_assign rfl)) rfl ?_
  refine QJ.done ?_
  refine PJ.next ?_
  refine WJ.seq ?_
  refine WJ.seq ?_
  refine WJ.quiet ?_
  refine QJ.step (YldS.yld (y_move rfl)) rfl ?_
  obtain ⟨r5, h6, hm⟩ := bindS hm
  refine QJ.step (y_call Tryd.call90 rfl (RetG.quiet fun w hw => ok_i_isPenalty h6 w )) rfl ?_
  refine QJ.step (YldS.yld (y_not rfl)) rfl ?_
  refine QJ.step (YldS.yld (y_move rfl)) rfl ?_
  obtain ⟨t7, h8, hm⟩ := bindS hm
  refine QJ.cut 4 [(0, .int .i64 words1), (1, .int .i64 errors2), (2, .int .i64 penalty3), (3, .int .i64 seconds4), (18, .bool t7)] ?_ ?_
  · rcases Bool.eq_false_or_eq_true (!r5) with hb9 | hb9
    · obtain rfl := orT h8 hb9
      refine QJ.off rfl rfl (cB hb9) rfl rfl ?_
      refine QJ.off rfl rfl (cB hb9) rfl rfl ?_
      refine QJ.off rfl rfl (cB hb9) rfl rfl ?_
      refine QJ.step (YldS.yld (y_pick_t (cB hb9) rfl)) rfl ?_
      exact QJ.cut_end ⟨rfl, rfl, rfl, rfl, rfl, trivial⟩
    · replace h8 := orF h8 hb9
      refine QJ.on rfl rfl (cB hb9) (YldS.yld (y_move rfl)) rfl ?_
      obtain ⟨r10, h11, h8⟩ := bindS h8
      refine QJ.on rfl rfl (cB hb9) (y_call Tryd.call91 rfl (RetG.quiet fun w hw => ok_i_isThousand h11 w )) rfl ?_
      refine QJ.on rfl rfl (cB hb9) (YldS.yld (y_not rfl)) rfl ?_
      refine QJ.step (YldS.yld (y_pick_f (cB hb9) rfl)) rfl ?_
      obtain rfl := Option.some.inj h8
      exact QJ.cut_end ⟨rfl, rfl, rfl, rfl, rfl, trivial⟩
  refine QJ.step (YldS.yld (y_move rfl)) rfl ?_
  obtain ⟨t12, h13, hm⟩ := bindS hm
  refine QJ.cut 4 [(0, .int .i64 words1), (1, .int .i64 errors2), (2, .int .i64 penalty3), (3, .int .i64 seconds4), (23, .bool t12)] ?_ ?_
  · rcases Bool.eq_false_or_eq_true t7 with hb14 | hb14
    · obtain rfl := orT h13 hb14
      refine QJ.off rfl rfl (cB hb14) rfl rfl ?_
      refine QJ.off rfl rfl (cB hb14) rfl rfl ?_
      refine QJ.off rfl rfl (cB hb14) rfl rfl ?_
      refine QJ.step (YldS.yld (y_pick_t (cB hb14) rfl)) rfl ?_
      exact QJ.cut_end ⟨rfl, rfl, rfl, rfl, rfl, trivial⟩
    · replace h13 := orF h13 hb14
      refine QJ.on rfl rfl (cB hb14) (YldS.yld (y_move rfl)) rfl ?_
      obtain ⟨r15, h16, h13⟩ := bindS h13
      refine QJ.on rfl rfl (cB hb14) (y_call Tryd.call91 rfl (RetG.quiet fun w hw => ok_i_isThousand h16 w )) rfl ?_
      refine QJ.on rfl rfl (cB hb14) (YldS.yld (y_not rfl)) rfl ?_
      refine QJ.step (YldS.yld (y_pick_f (cB hb14) rfl)) rfl ?_
      obtain rfl := Option.some.inj h13
      exact QJ.cut_end ⟨rfl, rfl, rfl, rfl, rfl, trivial⟩
  refine QJ.step (YldS.yld (y_move rfl)) rfl ?_
  obtain ⟨t17, h18, hm⟩ := bindS hm
  refine QJ.cut 4 [(0, .int .i64 words1), (1, .int .i64 errors2), (2, .int .i64 penalty3), (3, .int .i64 seconds4), (28, .bool t17)] ?_ ?_
  · rcases Bool.eq_false_or_eq_true t12 with hb19 | hb19
    · obtain rfl := orT h18 hb19
      refine QJ.off rfl rfl (cB hb19) rfl rfl ?_
      refine QJ.off rfl rfl (cB hb19) rfl rfl ?_
      refine QJ.off rfl rfl (cB hb19) rfl rfl ?_
      refine QJ.step (YldS.yld (y_pick_t (cB hb19) rfl)) rfl ?_
      exact QJ.cut_end ⟨rfl, rfl, rfl, rfl, rfl, trivial⟩
    · replace h18 := orF h18 hb19
      refine QJ.on rfl rfl (cB hb19) (YldS.yld (y_move rfl)) rfl ?_
      obtain ⟨r20, h21, h18⟩ := bindS h18
      refine QJ.on rfl rfl (cB hb19) (y_call Tryd.call72 rfl (RetG.quiet fun w hw => ok_i_between h21 w )) rfl ?_
      refine QJ.on rfl rfl (cB hb19) (YldS.yld (y_not rfl)) rfl ?_
      refine QJ.step (YldS.yld (y_pick_f (cB hb19) rfl)) rfl ?_
      obtain rfl := Option.some.inj h18
      exact QJ.cut_end ⟨rfl, rfl, rfl, rfl, rfl, trivial⟩
  refine QJ.done ?_
  refine PJ.next ?_
  refine WJ.cond (t := t17) rfl (fun hb22 => ?_) (fun hb22 => ?_)
  · replace hm := ifT hm hb22
    refine WJ.seq ?_
    refine WJ.quiet ?_
    refine QJ.step (YldS.yld (y_assign rfl)) rfl ?_
    refine QJ.step (YldS.yld (y_assign rfl)) rfl ?_
    refine QJ.done ?_
    refine PJ.next ?_
    refine WJ.ret ?_
    refine PJ.then_ret ?_
    obtain rfl := Option.some.inj hm
    refine PJ.sel (L' := []) [] ⟨List.nodup_nil, rfl⟩ ?_
    exact PJ.retn (vs := [.int .i64 0, .int .i64 2]) Tryd.results36 ⟨rfl, rfl, trivial⟩ ⟨rfl, rfl⟩
  · replace hm := ifF hm hb22
    refine WJ.skip ?_
    refine PJ.next ?_
    refine WJ.seq ?_
    refine WJ.quiet ?_
    refine QJ.step (YldS.yld (y_move rfl)) rfl ?_
    refine QJ.step (YldS.yld (y_move rfl)) rfl ?_
    refine QJ.step (YldS.yld (y_move rfl)) rfl ?_
    refine QJ.step (YldS.yld (y_bin rfl rfl rfl)) rfl ?_
    refine QJ.step (YldS.yld (y_move rfl)) rfl ?_
    refine QJ.step (YldS.yld (y_move rfl)) rfl ?_
    refine QJ.step (YldS.yld (y_bin rfl rfl rfl)) rfl ?_
    refine QJ.step (YldS.yld (y_bin rfl rfl rfl)) rfl ?_
    refine QJ.step (YldS.yld (y_quo rfl rfl (by decide))) rfl ?_
    refine QJ.step (YldS.yld (y_bin rfl rfl rfl)) rfl ?_
    refine QJ.step (YldS.yld (y_max rfl rfl)) rfl ?_
    refine QJ.step (YldS.yld (y_assign rfl)) rfl ?_
    refine QJ.done ?_
    refine PJ.next ?_
    refine WJ.seq ?_
    refine WJ.seq ?_
    refine WJ.quiet ?_
    refine QJ.step (YldS.yld (y_move rfl)) rfl ?_
    refine QJ.step (YldS.yld (y_bin rfl rfl rfl)) rfl ?_
    refine QJ.done ?_
    refine PJ.next ?_
    refine WJ.cond (t := decide ((imax errors2 (w64 ((w64 (penalty3 * errors2)) + (w64 (Int.tdiv (w64 ((w64 (words1 * seconds4)) + 11)) 12))))) > 100000)) rfl (fun hb23 => ?_) (fun hb23 => ?_)
    · replace hm := ifT hm hb23
      refine WJ.seq ?_
      refine WJ.quiet ?_
      refine QJ.step (YldS.yld (y_assign rfl)) rfl ?_
      refine QJ.step (YldS.yld (y_assign rfl)) rfl ?_
      refine QJ.done ?_
      refine PJ.next ?_
      refine WJ.ret ?_
      refine PJ.then_ret ?_
      obtain rfl := Option.some.inj hm
      refine PJ.sel (L' := []) [] ⟨List.nodup_nil, rfl⟩ ?_
      exact PJ.retn (vs := [.int .i64 0, .int .i64 5]) Tryd.results36 ⟨rfl, rfl, trivial⟩ ⟨rfl, rfl⟩
    · replace hm := ifF hm hb23
      refine WJ.skip ?_
      refine PJ.next ?_
      refine WJ.seq ?_
      refine WJ.quiet ?_
      refine QJ.step (YldS.yld (y_move rfl)) rfl ?_
      refine QJ.step (YldS.yld (y_assign rfl)) rfl ?_
      refine QJ.step (YldS.yld (y_assign rfl)) rfl ?_
      refine QJ.done ?_
      refine PJ.next ?_
      refine WJ.ret ?_
      obtain rfl := Option.some.inj hm
      refine PJ.sel (L' := []) [] ⟨List.nodup_nil, rfl⟩ ?_
      exact PJ.retn (vs := [.int .i64 (imax errors2 (w64 ((w64 (penalty3 * errors2)) + (w64 (Int.tdiv (w64 ((w64 (words1 * seconds4)) + 11)) 12))))), .int .i64 0]) Tryd.results36 ⟨rfl, rfl, trivial⟩ ⟨rfl, rfl⟩

set_option maxRecDepth 100000 in
set_option maxHeartbeats 1000000 in
theorem ok_s_StrokesNeeded {words1 : Int} {errors2 : Int} {penalty3 : Int} {seconds4 : Int} {r : Int × Int} (hm : s_StrokesNeeded words1 errors2 penalty3 seconds4 = some r) (w : World)  :
    Calls Tryd.prog 37 #[.int .i64 words1, .int .i64 errors2, .int .i64 penalty3, .int .i64 seconds4] w (Ret (cx w) (tup [.int .i64 r.1, .int .i64 r.2])) := by
  unfold s_StrokesNeeded at hm
  refine Calls.enter [.int .i64 words1, .int .i64 errors2, .int .i64 penalty3, .int .i64 seconds4] Tryd.func37 rfl Tryd.ntmps37 rfl ?_
  refine WJ.seq ?_
  refine WJ.quiet ?_
  refine QJ.step (YldS.yld (y_assign rfl)) rfl ?_
  refine QJ.step (YldS.yld (y_assign rfl)) rfl ?_
  refine QJ.done ?_
  refine PJ.next ?_
  refine WJ.seq ?_
  refine WJ.seq ?_
  refine WJ.quiet ?_
  refine QJ.step (YldS.yld (y_move rfl)) rfl ?_
  obtain ⟨r5, h6, hm⟩ := bindS hm
  refine QJ.step (y_call Tryd.call75 rfl (RetG.quiet fun w hw => ok_s_l00In h6 w )) rfl ?_
  refine QJ.step (YldS.yld (y_not rfl)) rfl ?_
  refine QJ.step (YldS.yld (y_move rfl)) rfl ?_
  obtain ⟨t7, h8, hm⟩ := bindS hm
  refine QJ.cut 4 [(0, .int .i64 words1), (1, .int .i64 errors2), (2, .int .i64 penalty3), (3, .int .i64 seconds4), (18, .bool t7)] ?_ ?_
  · rcases Bool.eq_false_or_eq_true (!r5) with hb9 | hb9
    · obtain rfl := orT h8 hb9
      refine QJ.off rfl rfl (cB hb9) rfl rfl ?_
      refine QJ.off rfl rfl (cB hb9) rfl rfl ?_
      refine QJ.off rfl rfl (cB hb9) rfl rfl ?_
      refine QJ.step (YldS.yld (y_pick_t (cB hb9) rfl)) rfl ?_
      exact QJ.cut_end ⟨rfl, rfl, rfl, rfl, rfl, trivial⟩
    · replace h8 := orF h8 hb9
      refine QJ.on rfl rfl (cB hb9) (YldS.yld (y_move rfl)) rfl ?_
      obtain ⟨r10, h11, h8⟩ := bindS h8
      refine QJ.on rfl rfl (cB hb9) (y_call Tryd.call75 rfl (RetG.quiet fun w hw => ok_s_l00In h11 w )) rfl ?_
      refine QJ.on rfl rfl (cB hb9) (YldS.yld (y_not rfl)) rfl ?_
      refine QJ.step (YldS.yld (y_pick_f (cB hb9) rfl)) rfl ?_
      obtain rfl := Option.some.inj h8
      exact QJ.cut_end ⟨rfl, rfl, rfl, rfl, rfl, trivial⟩
  refine QJ.step (YldS.yld (y_move rfl)) rfl ?_
  obtain ⟨t12, h13, hm⟩ := bindS hm
  refine QJ.cut 4 [(0, .int .i64 words1), (1, .int .i64 errors2), (2, .int .i64 penalty3), (3, .int .i64 seconds4), (23, .bool t12)] ?_ ?_
  · rcases Bool.eq_false_or_eq_true t7 with hb14 | hb14
    · obtain rfl := orT h13 hb14
      refine QJ.off rfl rfl (cB hb14) rfl rfl ?_
      refine QJ.off rfl rfl (cB hb14) rfl rfl ?_
      refine QJ.off rfl rfl (cB hb14) rfl rfl ?_
      refine QJ.step (YldS.yld (y_pick_t (cB hb14) rfl)) rfl ?_
      exact QJ.cut_end ⟨rfl, rfl, rfl, rfl, rfl, trivial⟩
    · replace h13 := orF h13 hb14
      refine QJ.on rfl rfl (cB hb14) (YldS.yld (y_move rfl)) rfl ?_
      obtain ⟨r15, h16, h13⟩ := bindS h13
      refine QJ.on rfl rfl (cB hb14) (y_call Tryd.call92 rfl (RetG.quiet fun w hw => ok_s_l20Penalty h16 w )) rfl ?_
      refine QJ.on rfl rfl (cB hb14) (YldS.yld (y_not rfl)) rfl ?_
      refine QJ.step (YldS.yld (y_pick_f (cB hb14) rfl)) rfl ?_
      obtain rfl := Option.some.inj h13
      exact QJ.cut_end ⟨rfl, rfl, rfl, rfl, rfl, trivial⟩
  refine QJ.step (YldS.yld (y_move rfl)) rfl ?_
  obtain ⟨t17, h18, hm⟩ := bindS hm
  refine QJ.cut 4 [(0, .int .i64 words1), (1, .int .i64 errors2), (2, .int .i64 penalty3), (3, .int .i64 seconds4), (28, .bool t17)] ?_ ?_
  · rcases Bool.eq_false_or_eq_true t12 with hb19 | hb19
    · obtain rfl := orT h18 hb19
      refine QJ.off rfl rfl (cB hb19) rfl rfl ?_
      refine QJ.off rfl rfl (cB hb19) rfl rfl ?_
      refine QJ.off rfl rfl (cB hb19) rfl rfl ?_
      refine QJ.step (YldS.yld (y_pick_t (cB hb19) rfl)) rfl ?_
      exact QJ.cut_end ⟨rfl, rfl, rfl, rfl, rfl, trivial⟩
    · replace h18 := orF h18 hb19
      refine QJ.on rfl rfl (cB hb19) (YldS.yld (y_move rfl)) rfl ?_
      obtain ⟨r20, h21, h18⟩ := bindS h18
      refine QJ.on rfl rfl (cB hb19) (y_call Tryd.call75 rfl (RetG.quiet fun w hw => ok_s_l00In h21 w )) rfl ?_
      refine QJ.on rfl rfl (cB hb19) (YldS.yld (y_not rfl)) rfl ?_
      refine QJ.step (YldS.yld (y_pick_f (cB hb19) rfl)) rfl ?_
      obtain rfl := Option.some.inj h18
      exact QJ.cut_end ⟨rfl, rfl, rfl, rfl, rfl, trivial⟩
  refine QJ.done ?_
  refine PJ.next ?_
  refine WJ.cond (t := t17) rfl (fun hb22 => ?_) (fun hb22 => ?_)
  · replace hm := ifT hm hb22
    refine WJ.seq ?_
    refine WJ.quiet ?_
    refine QJ.step (YldS.yld (y_assign rfl)) rfl ?_
    refine QJ.step (YldS.yld (y_assign rfl)) rfl ?_
    refine QJ.done ?_
    refine PJ.next ?_
    refine WJ.ret ?_
    refine PJ.then_ret ?_
    obtain rfl := Option.some.inj hm
    refine PJ.sel (L' := []) [] ⟨List.nodup_nil, rfl⟩ ?_
    exact PJ.retn (vs := [.int .i64 0, .int .i64 2]) Tryd.results37 ⟨rfl, rfl, trivial⟩ ⟨rfl, rfl⟩
  · replace hm := ifF hm hb22
    refine WJ.skip ?_
    refine PJ.next ?_
    refine WJ.seq ?_
    refine WJ.quiet ?_
    refine QJ.step (YldS.yld (y_move rfl)) rfl ?_
    refine QJ.step (YldS.yld (y_move rfl)) rfl ?_
    refine QJ.step (YldS.yld (y_bin rfl rfl rfl)) rfl ?_
    refine QJ.step (YldS.yld (y_bin rfl rfl rfl)) rfl ?_
    refine QJ.step (YldS.yld (y_quo rfl rfl (by decide))) rfl ?_
    refine QJ.step (YldS.yld (y_move rfl)) rfl ?_
    refine QJ.step (YldS.yld (y_move rfl)) rfl ?_
    refine QJ.step (YldS.yld (y_bin rfl rfl rfl)) rfl ?_
    refine QJ.step (YldS.yld (y_bin rfl rfl rfl)) rfl ?_
    refine QJ.step (YldS.yld (y_assign rfl)) rfl ?_
    refine QJ.done ?_
    refine PJ.next ?_
    refine WJ.seq ?_
    refine WJ.quiet ?_
    refine QJ.step (YldS.yld (y_move rfl)) rfl ?_
    refine QJ.step (YldS.yld (y_move rfl)) rfl ?_
    obtain ⟨r23, h24, hm⟩ := bindS hm
    refine QJ.step (y_call Tryd.call93 rfl (RetG.quiet fun w hw => ok_s_l00Max h24 w )) rfl ?_
    refine QJ.step (YldS.yld (y_assign rfl)) rfl ?_
    refine QJ.done ?_
    refine PJ.next ?_
    refine WJ.seq ?_
    refine WJ.seq ?_
    refine WJ.quiet ?_
    refine QJ.step (YldS.yld (y_move rfl)) rfl ?_
    refine QJ.step (YldS.yld (y_bin rfl rfl rfl)) rfl ?_
    refine QJ.done ?_
    refine PJ.next ?_
    refine WJ.cond (t := decide (r23 > 100000)) rfl (fun hb25 => ?_) (fun hb25 => ?_)
    · replace hm := ifT hm hb25
      refine WJ.seq ?_
      refine WJ.quiet ?_
      refine QJ.step (YldS.yld (y_assign rfl)) rfl ?_
      refine QJ.step (YldS.yld (y_assign rfl)) rfl ?_
      refine QJ.done ?_
      refine PJ.next ?_
      refine WJ.ret ?_
      refine PJ.then_ret ?_
      obtain rfl := Option.some.inj hm
      refine PJ.sel (L' := []) [] ⟨List.nodup_nil, rfl⟩ ?_
      exact PJ.retn (vs := [.int .i64 0, .int .i64 5]) Tryd.results37 ⟨rfl, rfl, trivial⟩ ⟨rfl, rfl⟩
    · replace hm := ifF hm hb25
      refine WJ.skip ?_
      refine PJ.next ?_
      refine WJ.seq ?_
      refine WJ.quiet ?_
      refine QJ.step (YldS.yld (y_move rfl)) rfl ?_
      refine QJ.step (YldS.yld (y_assign rfl)) rfl ?_
      refine QJ.step (YldS.yld (y_assign rfl)) rfl ?_
      refine QJ.done ?_
      refine PJ.next ?_
      refine WJ.ret ?_
      obtain rfl := Option.some.inj hm
      refine PJ.sel (L' := []) [] ⟨List.nodup_nil, rfl⟩ ?_
      exact PJ.retn (vs := [.int .i64 r23, .int .i64 0]) Tryd.results37 ⟨rfl, rfl, trivial⟩ ⟨rfl, rfl⟩

set_option maxRecDepth 100000 in
set_option maxHeartbeats 1000000 in
theorem ok_s_DrawPassesTest {code1 : List UInt8} {r : Trial × Int × Int × Int} (hm : s_DrawPassesTest code1 = some r) (w : World) (v2 : Value) (hr3 : RdS w (cx w).Fz v2 fByte.rp code1) :
    Calls Tryd.prog 38 #[v2] w (Ret (cx w) (tup [.agg (Trial.enc r.1).toArray, .int .i64 r.2.1, .int .i64 r.2.2.1, .int .i64 r.2.2.2])) := by
  unfold s_DrawPassesTest at hm
  refine Calls.enter [v2] Tryd.func38 rfl Tryd.ntmps38 rfl ?_
  refine WJ.seq ?_
  refine WJ.reg ?_
  refine SJ.alloc (cs := [.int .i64 0, .int .i64 0, .int .i64 0]) Tryd.zeroValue49 rfl rfl fun g4 => ?_
  refine SJ.q (YldS.yld (y_assign rfl)) rfl ?_
  refine SJ.q (YldS.yld (y_assign rfl)) rfl ?_
  refine SJ.q (YldS.yld (y_assign rfl)) rfl ?_
  refine SJ.nil ?_
  refine PJ.next ?_
  refine WJ.seq ?_
  refine WJ.reg ?_
  refine SJ.q (YldS.yld (y_move rfl)) rfl ?_
  obtain ⟨r5, h6, hm⟩ := bindS hm
  refine SJ.call Tryd.call51 rfl (fun w hw => ok_s_l00From h6 w _ (hr3.st hw)) rfl ?_
  rintro _ _ ⟨g7, rfl, rfl⟩
  refine SJ.q (YldS.yld (y_assign rfl)) rfl ?_
  refine SJ.nil ?_
  refine PJ.next ?_
  refine WJ.seq ?_
  refine WJ.reg ?_
  refine SJ.q (YldS.yld (y_move rfl)) rfl ?_
  obtain ⟨r8, h9, hm⟩ := bindS hm
  refine SJ.call1 (k := 0) rfl Tryd.call94 rfl (fun w S hw hA hO => ok_s_l20Bent h9 w S _ (hr3.st1 hw hO) hA) rfl ?_
  rintro _ _ ⟨rfl, rfl⟩
  refine SJ.alloc (cs := [.int .i64 0, .int .i64 0, .int .i64 0]) Tryd.zeroValue49 rfl rfl fun g10 => ?_
  refine SJ.storeL (k := 0) (off := 0) (us := [.int .i64 r8.1.strokes, .int .i64 r8.1.errors, .int .i64 r8.1.seconds]) rfl rfl rfl rfl Tryd.sizeOf49 rfl rfl ?_
  refine SJ.nil ?_
  refine PJ.next ?_
  refine WJ.seq ?_
  refine WJ.reg ?_
  refine SJ.q (YldS.yld (y_move rfl)) rfl ?_
  obtain ⟨r11, h12, hm⟩ := bindS hm
  refine SJ.call1 (k := 1) rfl Tryd.call89 rfl (fun w S hw hA hO => ok_s_l20DrawPenalty h12 w S _ (hr3.st1 hw hO) hA) rfl ?_
  rintro _ _ ⟨rfl, rfl⟩
  refine SJ.q (YldS.yld (y_assign rfl)) rfl ?_
  refine SJ.nil ?_
  refine PJ.next ?_
  refine WJ.seq ?_
  refine WJ.reg ?_
  refine SJ.q (YldS.yld (y_move rfl)) rfl ?_
  obtain ⟨r13, h14, hm⟩ := bindS hm
  refine SJ.call1 (k := 0) rfl Tryd.call68 rfl (fun w S hw hA hO => ok_s_l00Src_pick h14 w S _ (hr3.st1 hw hO) hA) rfl ?_
  rintro _ _ ⟨rfl, rfl⟩
  refine SJ.q (YldS.yld (y_bin rfl rfl rfl)) rfl ?_
  refine SJ.q (YldS.yld (y_assign rfl)) rfl ?_
  refine SJ.nil ?_
  refine PJ.next ?_
  obtain ⟨kj18, hk19, hm⟩ := withK_open hm
  refine WJ.join (X := Int × Int × Int) (fun (x : Int × Int × Int) => kj18 x.1 x.2.1 x.2.2 = some r) (fun (x : Int × Int × Int) => [(2, pt g4 0), (6, pt g7 0), (7, pt g10 0), (8, .int .i64 r11.1), (9, .int .i64 x.2.2)]) (fun (x : Int × Int × Int) => [box g7 117 [v2, .int .i64 x.1, .int .u64 x.2.1], box g10 49 [.int .i64 r8.1.strokes, .int .i64 r8.1.errors, .int .i64 r8.1.seconds], box g4 49 [.int .i64 0, .int .i64 0, .int .i64 0]]) ?_ ?_
  · clear hk19
    refine WJ.seq ?_
    refine WJ.reg ?_
    refine SJ.q (YldS.yld (y_move rfl)) rfl ?_
    obtain ⟨r20, h21, hm⟩ := bindS hm
    refine SJ.call1 (k := 0) rfl Tryd.call69 rfl (fun w S hw hA hO => ok_s_l00Src_one h21 w S _ (hr3.st1 hw hO) hA) rfl ?_
    rintro _ _ ⟨rfl, rfl⟩
    refine SJ.nil ?_
    refine PJ.next ?_
    refine WJ.cond (t := r20.1) rfl (fun hb22 => ?_) (fun hb22 => ?_)
    · replace hm := ifT hm hb22
      refine WJ.reg ?_
      refine SJ.q (YldS.yld (y_move rfl)) rfl ?_
      refine SJ.buildSlice (R := fI64) (os := [.const (.int .i64 (-1)), .const (.int .i64 0), .const (.int .i64 1000), .const (.int .i64 1001)]) [(-1), 0, 1000, 1001] Tryd.runUnderlying26 Tryd.sizeOf2 Tryd.zeroValue2 rfl rfl rfl rfl rfl rfl fun v23 => ?_
      obtain ⟨r24, h25, hm⟩ := bindS hm
      refine SJ.call2 (k := 1) rfl Tryd.call88 rfl (fun w S hw hA hO hB => ok_s_l00Src_among h25 w S _ (hr3.st1 hw hO) _ (hB.row_rd (j := 0) (k := 1) rfl rfl) hA) rfl ?_
      rintro _ _ ⟨rfl, rfl⟩
      refine SJ.q (YldS.yld (y_assign rfl)) rfl ?_
      refine SJ.nil ?_
      exact PJ.joined (r24.2.at_, r24.2.seed, r24.1) [0, 2, 3] hm ⟨rfl, rfl, rfl, rfl, rfl, trivial⟩ ⟨by decide, rfl⟩
    · replace hm := ifF hm hb22
      refine WJ.skip ?_
      exact PJ.joined (r20.2.at_, r20.2.seed, w64 (5 * r13.1)) [0, 1, 2] hm ⟨rfl, rfl, rfl, rfl, rfl, trivial⟩ ⟨by decide, rfl⟩
  · rintro ⟨x15, x16, words17⟩ hm
    subst hk19
    refine WJ.seq ?_
    refine WJ.seq ?_
    refine WJ.reg ?_
    refine SJ.q (YldS.yld (y_move rfl)) rfl ?_
    obtain ⟨r26, h27, hm⟩ := bindS hm
    refine SJ.call1 (k := 0) rfl Tryd.call69 rfl (fun w S hw hA hO => ok_s_l00Src_one h27 w S _ (hr3.st1 hw hO) hA) rfl ?_
    rintro _ _ ⟨rfl, rfl⟩
    refine SJ.nil ?_
    refine PJ.next ?_
    refine WJ.cond (t := r26.1) rfl (fun hb28 => ?_) (fun hb28 => ?_)
    · replace hm := ifT hm hb28
      refine WJ.seq ?_
      obtain ⟨r30, h31, hm⟩ := bindS hm
      refine WJ.draws (N := 10) (listed0 := #[false, false, false, false, false, false, false, false, false, false]) [box g10 49 [.int .i64 r8.1.strokes, .int .i64 r8.1.errors, .int .i64 r8.1.seconds]] follows rfl rfl ?_
      refine RJ.first 0 (listed' := #[true, false, false, false, false, false, false, false, false, false]) [1] rfl (by kernel_rfl) rfl ⟨by decide, rfl⟩ (y_loadBN (k := 0) (off := 0) (us := [.int .i64 r8.1.strokes, .int .i64 r8.1.errors, .int .i64 r8.1.seconds]) rfl Tryd.isAgg49 Tryd.sizeOf49 rfl rfl) rfl ?_
      refine RJ.first 1 (listed' := #[true, true, false, false, false, false, false, false, false, false]) [1] rfl (by kernel_rfl) rfl ⟨by decide, rfl⟩ (y_move rfl) rfl ?_
      refine RJ.first 2 (listed' := #[true, true, true, false, false, false, false, false, false, false]) [1] rfl (by kernel_rfl) rfl ⟨by decide, rfl⟩ (y_move rfl) rfl ?_
      refine RJ.first 3 (listed' := #[true, true, true, true, false, false, false, false, false, false]) [1] rfl (by kernel_rfl) rfl ⟨by decide, rfl⟩ (y_move rfl) rfl ?_
      refine RJ.step1 4 [1] (by kernel_rfl) ⟨by decide, rfl⟩ ?_
      refine RO.of (listed' := #[true, true, true, true, true, false, false, false, false, false]) rfl rfl ?_
      refine SJ.buildSlice (R := fI64) (os := [.const (.int .i64 (-1)), .const (.int .i64 0), .const (.int .i64 1000), .const (.int .i64 1001)]) [(-1), 0, 1000, 1001] Tryd.runUnderlying26 Tryd.sizeOf2 Tryd.zeroValue2 rfl rfl rfl rfl rfl rfl fun v29 => ?_
      refine SJ.nil ?_
      refine PJ.draw ?_
      refine RJ.step1 5 [2] (by kernel_rfl) ⟨by decide, rfl⟩ ?_
      refine RO.of (listed' := #[true, true, true, true, true, true, false, false, false, false]) rfl rfl ?_
      refine SJ.call2 (k := 1) rfl Tryd.call88 rfl (fun w S hw hA hO hB => ok_s_l00Src_among h31 w S _ (hr3.st1 hw hO) _ (hB.row_rd (j := 0) (k := 1) rfl rfl) hA) rfl ?_
      rintro _ _ ⟨rfl, rfl⟩
      refine SJ.nil ?_
      refine PJ.draw ?_
      refine RJ.step1 6 [2] (by kernel_rfl) ⟨by decide, rfl⟩ ?_
      refine RO.of (listed' := #[true, true, true, true, true, true, true, false, false, false]) rfl rfl ?_
      refine SJ.storeL (k := 3) (off := 0) (us := [.int .i64 r8.1.strokes, .int .i64 r8.1.errors, .int .i64 r8.1.seconds]) rfl rfl rfl rfl Tryd.sizeOf49 rfl rfl ?_
      refine SJ.nil ?_
      refine PJ.draw ?_
      refine RJ.first 7 (listed' := #[true, true, true, true, true, true, true, true, false, false]) [2] rfl (by kernel_rfl) rfl ⟨by decide, rfl⟩ (y_assign rfl) rfl ?_
      refine RJ.first 8 (listed' := #[true, true, true, true, true, true, true, true, true, false]) [2] rfl (by kernel_rfl) rfl ⟨by decide, rfl⟩ (y_assign rfl) rfl ?_
      refine RJ.first 9 (listed' := #[true, true, true, true, true, true, true, true, true, true]) [2] rfl (by kernel_rfl) rfl ⟨by decide, rfl⟩ (y_assign rfl) rfl ?_
      refine RJ.fin [2] (by kernel_rfl) ⟨by decide, rfl⟩ ?_
      refine PJ.next ?_
      refine WJ.ret ?_
      refine PJ.then_ret ?_
      obtain rfl := Option.some.inj hm
      exact PJ.retn_sel (vs := [.agg (Trial.enc r8.1).toArray, .int .i64 r11.1, .int .i64 words17, .int .i64 r30.1]) Tryd.results38 ⟨⟨3, g4, 49, [.int .i64 r8.1.strokes, .int .i64 r8.1.errors, .int .i64 r8.1.seconds], rfl, rfl, .inl ⟨Tryd.isAgg49, Tryd.sizeOf49, rfl⟩⟩, rfl, rfl, rfl, trivial⟩ [] ⟨List.nodup_nil, rfl⟩ ⟨rfl, rfl⟩
    · replace hm := ifF hm hb28
      refine WJ.skip ?_
      refine PJ.next ?_
      refine WJ.seq ?_
      obtain ⟨r32, h33, hm⟩ := bindS hm
      refine WJ.draws (N := 9) (listed0 := #[false, false, false, false, false, false, false, false, false]) [box g10 49 [.int .i64 r8.1.strokes, .int .i64 r8.1.errors, .int .i64 r8.1.seconds]] follows rfl rfl ?_
      refine RJ.first 0 (listed' := #[true, false, false, false, false, false, false, false, false]) [1] rfl (by kernel_rfl) rfl ⟨by decide, rfl⟩ (y_loadBN (k := 0) (off := 0) (us := [.int .i64 r8.1.strokes, .int .i64 r8.1.errors, .int .i64 r8.1.seconds]) rfl Tryd.isAgg49 Tryd.sizeOf49 rfl rfl) rfl ?_
      refine RJ.first 1 (listed' := #[true, true, false, false, false, false, false, false, false]) [1] rfl (by kernel_rfl) rfl ⟨by decide, rfl⟩ (y_move rfl) rfl ?_
      refine RJ.first 2 (listed' := #[true, true, true, false, false, false, false, false, false]) [1] rfl (by kernel_rfl) rfl ⟨by decide, rfl⟩ (y_move rfl) rfl ?_
      refine RJ.first 3 (listed' := #[true, true, true, true, false, false, false, false, false]) [1] rfl (by kernel_rfl) rfl ⟨by decide, rfl⟩ (y_move rfl) rfl ?_
      refine RJ.step1 4 [1] (by kernel_rfl) ⟨by decide, rfl⟩ ?_
      refine RO.of (listed' := #[true, true, true, true, true, false, false, false, false]) rfl rfl ?_
      refine SJ.call1 (k := 0) rfl Tryd.call68 rfl (fun w S hw hA hO => ok_s_l00Src_pick h33 w S _ (hr3.st1 hw hO) hA) rfl ?_
      rintro _ _ ⟨rfl, rfl⟩
      refine SJ.nil ?_
      refine PJ.draw ?_
      refine RJ.step1 5 [1] (by kernel_rfl) ⟨by decide, rfl⟩ ?_
      refine RO.of (listed' := #[true, true, true, true, true, true, false, false, false]) rfl rfl ?_
      refine SJ.storeL (k := 2) (off := 0) (us := [.int .i64 r8.1.strokes, .int .i64 r8.1.errors, .int .i64 r8.1.seconds]) rfl rfl rfl rfl Tryd.sizeOf49 rfl rfl ?_
      refine SJ.nil ?_
      refine PJ.draw ?_
      refine RJ.first 6 (listed' := #[true, true, true, true, true, true, true, false, false]) [1] rfl (by kernel_rfl) rfl ⟨by decide, rfl⟩ (y_assign rfl) rfl ?_
      refine RJ.first 7 (listed' := #[true, true, true, true, true, true, true, true, false]) [1] rfl (by kernel_rfl) rfl ⟨by decide, rfl⟩ (y_assign rfl) rfl ?_
      refine RJ.first 8 (listed' := #[true, true, true, true, true, true, true, true, true]) [1] rfl (by kernel_rfl) rfl ⟨by decide, rfl⟩ (y_assign rfl) rfl ?_
      refine RJ.fin [1] (by kernel_rfl) ⟨by decide, rfl⟩ ?_
      refine PJ.next ?_
      refine WJ.ret ?_
      obtain rfl := Option.some.inj hm
      exact PJ.retn_sel (vs := [.agg (Trial.enc r8.1).toArray, .int .i64 r11.1, .int .i64 words17, .int .i64 r32.1]) Tryd.results38 ⟨⟨2, g4, 49, [.int .i64 r8.1.strokes, .int .i64 r8.1.errors, .int .i64 r8.1.seconds], rfl, rfl, .inl ⟨Tryd.isAgg49, Tryd.sizeOf49, rfl⟩⟩, rfl, rfl, rfl, trivial⟩ [] ⟨List.nodup_nil, rfl⟩ ⟨rfl, rfl⟩

set_option maxRecDepth 100000 in
set_option maxHeartbeats 1000000 in
theorem ok_i_PassesTest {x1 : Trial} {penalty2 : Int} {words3 : Int} {permille4 : Int} {r : Bool × Int} (hm : i_PassesTest x1 penalty2 words3 permille4 = some r) (w : World)  :
    Calls Tryd.prog 39 #[.agg (Trial.enc x1).toArray, .int .i64 penalty2, .int .i64 words3, .int .i64 permille4] w (Ret (cx w) (tup [.bool r.1, .int .i64 r.2])) := by
  unfold i_PassesTest at hm
  refine Calls.enter [.agg (Trial.enc x1).toArray, .int .i64 penalty2, .int .i64 words3, .int .i64 permille4] Tryd.func39 rfl Tryd.ntmps39 rfl ?_
  refine WJ.seq ?_
  refine WJ.reg ?_
  refine SJ.box (cs := [.int .i64 x1.strokes, .int .i64 x1.errors, .int .i64 x1.seconds]) rfl rfl rfl fun g5 => ?_
  refine SJ.q (YldS.yld (y_assign rfl)) rfl ?_
  refine SJ.q (YldS.yld (y_assign rfl)) rfl ?_
  refine SJ.nil ?_
  refine PJ.next ?_
  refine WJ.seq ?_
  refine WJ.seq ?_
  refine WJ.quiet ?_
  refine QJ.step (YldS.yld (y_loadBN (k := 0) (off := 0) (us := [.int .i64 x1.strokes, .int .i64 x1.errors, .int .i64 x1.seconds]) rfl Tryd.isAgg49 Tryd.sizeOf49 rfl rfl)) rfl ?_
  obtain ⟨r6, h7, hm⟩ := bindS hm
  refine QJ.step (y_call Tryd.call95 rfl (RetG.quiet fun w hw => ok_i_validTrial h7 w )) rfl ?_
  refine QJ.step (YldS.yld (y_not rfl)) rfl ?_
  refine QJ.done ?_
  refine PJ.next ?_
  refine WJ.cond (t := !r6) rfl (fun hb8 => ?_) (fun hb8 => ?_)
  · replace hm := ifT hm hb8
    refine WJ.seq ?_
    refine WJ.quiet ?_
    refine QJ.step (YldS.yld (y_assign rfl)) rfl ?_
    refine QJ.step (YldS.yld (y_assign rfl)) rfl ?_
    refine QJ.done ?_
    refine PJ.next ?_
    refine WJ.ret ?_
    refine PJ.then_ret ?_
    obtain rfl := Option.some.inj hm
    refine PJ.sel (L' := []) [] ⟨List.nodup_nil, rfl⟩ ?_
    exact PJ.retn (vs := [.bool false, .int .i64 1]) Tryd.results39 ⟨rfl, rfl, trivial⟩ ⟨rfl, rfl⟩
  · replace hm := ifF hm hb8
    refine WJ.skip ?_
    refine PJ.next ?_
    refine WJ.seq ?_
    refine WJ.seq ?_
    refine WJ.quiet ?_
    refine QJ.step (YldS.yld (y_move rfl)) rfl ?_
    obtain ⟨r9, h10, hm⟩ := bindS hm
    refine QJ.step (y_call Tryd.call90 rfl (RetG.quiet fun w hw => ok_i_isPenalty h10 w )) rfl ?_
    refine QJ.step (YldS.yld (y_not rfl)) rfl ?_
    refine QJ.step (YldS.yld (y_move rfl)) rfl ?_
    obtain ⟨t11, h12, hm⟩ := bindS hm
    refine QJ.cut 4 [(1, .int .i64 penalty2), (2, .int .i64 words3), (3, .int .i64 permille4), (4, pt g5 0), (20, .bool t11)] ?_ ?_
    · rcases Bool.eq_false_or_eq_true (!r9) with hb13 | hb13
      · obtain rfl := orT h12 hb13
        refine QJ.off rfl rfl (cB hb13) rfl rfl ?_
        refine QJ.off rfl rfl (cB hb13) rfl rfl ?_
        refine QJ.off rfl rfl (cB hb13) rfl rfl ?_
        refine QJ.step (YldS.yld (y_pick_t (cB hb13) rfl)) rfl ?_
        exact QJ.cut_end ⟨rfl, rfl, rfl, rfl, rfl, trivial⟩
      · replace h12 := orF h12 hb13
        refine QJ.on rfl rfl (cB hb13) (YldS.yld (y_move rfl)) rfl ?_
        obtain ⟨r14, h15, h12⟩ := bindS h12
        refine QJ.on rfl rfl (cB hb13) (y_call Tryd.call91 rfl (RetG.quiet fun w hw => ok_i_isThousand h15 w )) rfl ?_
        refine QJ.on rfl rfl (cB hb13) (YldS.yld (y_not rfl)) rfl ?_
        refine QJ.step (YldS.yld (y_pick_f (cB hb13) rfl)) rfl ?_
        obtain rfl := Option.some.inj h12
        exact QJ.cut_end ⟨rfl, rfl, rfl, rfl, rfl, trivial⟩
    refine QJ.step (YldS.yld (y_move rfl)) rfl ?_
    obtain ⟨t16, h17, hm⟩ := bindS hm
    refine QJ.cut 4 [(1, .int .i64 penalty2), (2, .int .i64 words3), (3, .int .i64 permille4), (4, pt g5 0), (25, .bool t16)] ?_ ?_
    · rcases Bool.eq_false_or_eq_true t11 with hb18 | hb18
      · obtain rfl := orT h17 hb18
        refine QJ.off rfl rfl (cB hb18) rfl rfl ?_
        refine QJ.off rfl rfl (cB hb18) rfl rfl ?_
        refine QJ.off rfl rfl (cB hb18) rfl rfl ?_
        refine QJ.step (YldS.yld (y_pick_t (cB hb18) rfl)) rfl ?_
        exact QJ.cut_end ⟨rfl, rfl, rfl, rfl, rfl, trivial⟩
      · replace h17 := orF h17 hb18
        refine QJ.on rfl rfl (cB hb18) (YldS.yld (y_move rfl)) rfl ?_
        obtain ⟨r19, h20, h17⟩ := bindS h17
        refine QJ.on rfl rfl (cB hb18) (y_call Tryd.call91 rfl (RetG.quiet fun w hw => ok_i_isThousand h20 w )) rfl ?_
        refine QJ.on rfl rfl (cB hb18) (YldS.yld (y_not rfl)) rfl ?_
        refine QJ.step (YldS.yld (y_pick_f (cB hb18) rfl)) rfl ?_
        obtain rfl := Option.some.inj h17
        exact QJ.cut_end ⟨rfl, rfl, rfl, rfl, rfl, trivial⟩
    refine QJ.done ?_
    refine PJ.next ?_
    refine WJ.cond (t := t16) rfl (fun hb21 => ?_) (fun hb21 => ?_)
    · replace hm := ifT hm hb21
      refine WJ.seq ?_
      refine WJ.quiet ?_
      refine QJ.step (YldS.yld (y_assign rfl)) rfl ?_
      refine QJ.step (YldS.yld (y_assign rfl)) rfl ?_
      refine QJ.done ?_
      refine PJ.next ?_
      refine WJ.ret ?_
      refine PJ.then_ret ?_
      obtain rfl := Option.some.inj hm
      refine PJ.sel (L' := []) [] ⟨List.nodup_nil, rfl⟩ ?_
      exact PJ.retn (vs := [.bool false, .int .i64 2]) Tryd.results39 ⟨rfl, rfl, trivial⟩ ⟨rfl, rfl⟩
    · replace hm := ifF hm hb21
      refine WJ.skip ?_
      refine PJ.next ?_
      refine WJ.seq ?_
      refine WJ.quiet_draw follows (by kernel_rfl) ?_
      refine QJ.step (YldS.yld (y_loadBN (k := 0) (off := 0) (us := [.int .i64 x1.strokes, .int .i64 x1.errors, .int .i64 x1.seconds]) rfl Tryd.isAgg49 Tryd.sizeOf49 rfl rfl)) rfl ?_
      refine QJ.step (YldS.yld (y_move rfl)) rfl ?_
      obtain ⟨r22, h23, hm⟩ := bindS hm
      refine QJ.step (y_call Tryd.call84 rfl (RetG.quiet fun w hw => ok_i_Trial_net h23 w )) rfl ?_
      refine QJ.step (YldS.yld (y_bin rfl rfl rfl)) rfl ?_
      refine QJ.step (YldS.yld (y_move rfl)) rfl ?_
      refine QJ.step (YldS.yld (y_fldB (o := 0) fld49_2 rfl)) rfl ?_
      refine QJ.step (YldS.yld (y_loadB (k := 0) (off := 2) (v := .int .i64 x1.seconds) rfl Tryd.isAgg2 rfl rfl)) rfl ?_
      refine QJ.step (YldS.yld (y_bin rfl rfl rfl)) rfl ?_
      refine QJ.step (YldS.yld (y_bin rfl rfl rfl)) rfl ?_
      refine QJ.step (YldS.yld (y_move rfl)) rfl ?_
      obtain ⟨t24, h25, hm⟩ := bindS hm
      refine QJ.cut 9 [(44, .bool t24)] ?_ ?_
      · rcases Bool.eq_false_or_eq_true (decide ((w64 (12 * r22)) ≥ (w64 (words3 * x1.seconds)))) with hb26 | hb26
        · replace h25 := andT h25 hb26
          refine QJ.on rfl rfl (cB hb26) (YldS.yld (y_fldB (o := 0) fld49_1 rfl)) rfl ?_
          refine QJ.on rfl rfl (cB hb26) (YldS.yld (y_loadB (k := 0) (off := 1) (v := .int .i64 x1.errors) rfl Tryd.isAgg2 rfl rfl)) rfl ?_
          refine QJ.on rfl rfl (cB hb26) (YldS.yld (y_bin rfl rfl rfl)) rfl ?_
          refine QJ.on rfl rfl (cB hb26) (YldS.yld (y_move rfl)) rfl ?_
          refine QJ.on rfl rfl (cB hb26) (YldS.yld (y_fldB (o := 0) fld49_0 rfl)) rfl ?_
          refine QJ.on rfl rfl (cB hb26) (YldS.yld (y_loadB (k := 0) (off := 0) (v := .int .i64 x1.strokes) rfl Tryd.isAgg2 rfl rfl)) rfl ?_
          refine QJ.on rfl rfl (cB hb26) (YldS.yld (y_bin rfl rfl rfl)) rfl ?_
          refine QJ.on rfl rfl (cB hb26) (YldS.yld (y_bin rfl rfl rfl)) rfl ?_
          refine QJ.step (YldS.yld (y_pick_t (cB hb26) rfl)) rfl ?_
          obtain rfl := Option.some.inj h25
          exact QJ.cut_end ⟨rfl, trivial⟩
        · obtain rfl := andF h25 hb26
          refine QJ.off rfl rfl (cB hb26) rfl rfl ?_
          refine QJ.off rfl rfl (cB hb26) rfl rfl ?_
          refine QJ.off rfl rfl (cB hb26) rfl rfl ?_
          refine QJ.off rfl rfl (cB hb26) rfl rfl ?_
          refine QJ.off rfl rfl (cB hb26) rfl rfl ?_
          refine QJ.off rfl rfl (cB hb26) rfl rfl ?_
          refine QJ.off rfl rfl (cB hb26) rfl rfl ?_
          refine QJ.off rfl rfl (cB hb26) rfl rfl ?_
          refine QJ.step (YldS.yld (y_pick_f (cB hb26) rfl)) rfl ?_
          exact QJ.cut_end ⟨rfl, trivial⟩
      refine QJ.step (YldS.yld (y_assign rfl)) rfl ?_
      refine QJ.step (YldS.yld (y_assign rfl)) rfl ?_
      refine QJ.done ?_
      refine PJ.next ?_
      refine WJ.ret ?_
      obtain rfl := Option.some.inj hm
      refine PJ.sel (L' := []) [] ⟨List.nodup_nil, rfl⟩ ?_
      exact PJ.retn (vs := [.bool t24, .int .i64 0]) Tryd.results39 ⟨rfl, rfl, trivial⟩ ⟨rfl, rfl⟩

set_option maxRecDepth 100000 in
set_option maxHeartbeats 1000000 in
theorem ok_s_PassesTest {x1 : Trial} {penalty2 : Int} {words3 : Int} {permille4 : Int} {r : Bool × Int} (hm : s_PassesTest x1 penalty2 words3 permille4 = some r) (w : World)  :
    Calls Tryd.prog 40 #[.agg (Trial.enc x1).toArray, .int .i64 penalty2, .int .i64 words3, .int .i64 permille4] w (Ret (cx w) (tup [.bool r.1, .int .i64 r.2])) := by
  unfold s_PassesTest at hm
  refine Calls.enter [.agg (Trial.enc x1).toArray, .int .i64 penalty2, .int .i64 words3, .int .i64 permille4] Tryd.func40 rfl Tryd.ntmps40 rfl ?_
  refine WJ.seq ?_
  refine WJ.reg ?_
  refine SJ.box (cs := [.int .i64 x1.strokes, .int .i64 x1.errors, .int .i64 x1.seconds]) rfl rfl rfl fun g5 => ?_
  refine SJ.q (YldS.yld (y_assign rfl)) rfl ?_
  refine SJ.q (YldS.yld (y_assign rfl)) rfl ?_
  refine SJ.nil ?_
  refine PJ.next ?_
  refine WJ.seq ?_
  refine WJ.quiet ?_
  refine QJ.step (YldS.yld (y_move rfl)) rfl ?_
  obtain ⟨r6, h7, hm⟩ := bindS hm
  refine QJ.step (y_call Tryd.call85 rfl (RetG.quiet fun w hw => ok_s_l20Code h7 w _ (hw.box_at (k := 0) rfl))) rfl ?_
  refine QJ.step (YldS.yld (y_assign rfl)) rfl ?_
  refine QJ.done ?_
  refine PJ.next ?_
  obtain ⟨kj9, hk10, hm⟩ := withK_open hm
  refine WJ.join (X := Int) (fun (x : Int) => kj9 x = some r) (fun (x : Int) => [(1, .int .i64 penalty2), (2, .int .i64 words3), (3, .int .i64 permille4), (4, pt g5 0), (10, .int .i64 x)]) (fun (x : Int) => [box g5 49 [.int .i64 x1.strokes, .int .i64 x1.errors, .int .i64 x1.seconds]]) ?_ ?_
  · clear hk10
    refine WJ.seq ?_
    refine WJ.quiet ?_
    refine QJ.step (YldS.yld (y_move rfl)) rfl ?_
    refine QJ.step (YldS.yld (y_bin rfl rfl rfl)) rfl ?_
    refine QJ.step (YldS.yld (y_move rfl)) rfl ?_
    obtain ⟨t11, h12, hm⟩ := bindS hm
    refine QJ.cut 9 [(1, .int .i64 penalty2), (2, .int .i64 words3), (3, .int .i64 permille4), (4, pt g5 0), (10, .int .i64 r6), (24, .bool t11)] ?_ ?_
    · rcases Bool.eq_false_or_eq_true (r6 == 0) with hb13 | hb13
      · replace h12 := andT h12 hb13
        refine QJ.on rfl rfl (cB hb13) (YldS.yld (y_move rfl)) rfl ?_
        obtain ⟨r14, h15, h12⟩ := bindS h12
        refine QJ.on rfl rfl (cB hb13) (y_call Tryd.call75 rfl (RetG.quiet fun w hw => ok_s_l00In h15 w )) rfl ?_
        refine QJ.on rfl rfl (cB hb13) (YldS.yld (y_not rfl)) rfl ?_
        refine QJ.on rfl rfl (cB hb13) (YldS.yld (y_move rfl)) rfl ?_
        obtain ⟨t16, h17, h12⟩ := bindS h12
        refine QJ.cut 4 [(1, .int .i64 penalty2), (2, .int .i64 words3), (3, .int .i64 permille4), (4, pt g5 0), (10, .int .i64 r6), (15, .bool (r6 == 0)), (23, .bool t16)] ?_ ?_
        · rcases Bool.eq_false_or_eq_true (!r14) with hb18 | hb18
          · obtain rfl := orT h17 hb18
            refine QJ.off rfl rfl (cB hb18) rfl rfl ?_
            refine QJ.off rfl rfl (cB hb18) rfl rfl ?_
            refine QJ.off rfl rfl (cB hb18) rfl rfl ?_
            refine QJ.on rfl rfl (cB hb13) (YldS.yld (y_pick_t (cB hb18) rfl)) rfl ?_
            exact QJ.cut_end ⟨rfl, rfl, rfl, rfl, rfl, rfl, rfl, trivial⟩
          · replace h17 := orF h17 hb18
            refine QJ.on rfl rfl (cB hb18) (YldS.yld (y_move rfl)) rfl ?_
            obtain ⟨r19, h20, h17⟩ := bindS h17
            refine QJ.on rfl rfl (cB hb18) (y_call Tryd.call75 rfl (RetG.quiet fun w hw => ok_s_l00In h20 w )) rfl ?_
            refine QJ.on rfl rfl (cB hb18) (YldS.yld (y_not rfl)) rfl ?_
            refine QJ.on rfl rfl (cB hb13) (YldS.yld (y_pick_f (cB hb18) rfl)) rfl ?_
            obtain rfl := Option.some.inj h17
            exact QJ.cut_end ⟨rfl, rfl, rfl, rfl, rfl, rfl, rfl, trivial⟩
        refine QJ.step (YldS.yld (y_pick_t (cB hb13) rfl)) rfl ?_
        obtain rfl := Option.some.inj h12
        exact QJ.cut_end ⟨rfl, rfl, rfl, rfl, rfl, rfl, trivial⟩
      · obtain rfl := andF h12 hb13
        refine QJ.off rfl rfl (cB hb13) rfl rfl ?_
        refine QJ.off rfl rfl (cB hb13) rfl rfl ?_
        refine QJ.off rfl rfl (cB hb13) rfl rfl ?_
        refine QJ.off rfl rfl (cB hb13) rfl rfl ?_
        refine QJ.off_undef rfl rfl rfl rfl ?_
        refine QJ.off_undef rfl rfl rfl rfl ?_
        refine QJ.off_undef rfl rfl rfl rfl ?_
        refine QJ.off rfl rfl (cB hb13) rfl rfl ?_
        refine QJ.step (YldS.yld (y_pick_f (cB hb13) rfl)) rfl ?_
        exact QJ.cut_end ⟨rfl, rfl, rfl, rfl, rfl, rfl, trivial⟩
    refine QJ.done ?_
    refine PJ.next ?_
    refine WJ.cond (t := t11) rfl (fun hb21 => ?_) (fun hb21 => ?_)
    · replace hm := ifT hm hb21
      refine WJ.quiet ?_
      refine QJ.step (YldS.yld (y_assign rfl)) rfl ?_
      refine QJ.done ?_
      exact PJ.joined 2 [0] hm ⟨rfl, rfl, rfl, rfl, rfl, trivial⟩ ⟨by decide, rfl⟩
    · replace hm := ifF hm hb21
      refine WJ.skip ?_
      exact PJ.joined r6 [0] hm ⟨rfl, rfl, rfl, rfl, rfl, trivial⟩ ⟨by decide, rfl⟩
  · rintro code8 hm
    subst hk10
    refine WJ.seq ?_
    refine WJ.seq ?_
    refine WJ.quiet ?_
    refine QJ.step (YldS.yld (y_move rfl)) rfl ?_
    refine QJ.step (YldS.yld (y_bin rfl rfl rfl)) rfl ?_
    refine QJ.done ?_
    refine PJ.next ?_
    refine WJ.cond (t := (code8 != 0)) rfl (fun hb22 => ?_) (fun hb22 => ?_)
    · replace hm := ifT hm hb22
      refine WJ.seq ?_
      refine WJ.quiet ?_
      refine QJ.step (YldS.yld (y_move rfl)) rfl ?_
      refine QJ.step (YldS.yld (y_assign rfl)) rfl ?_
      refine QJ.step (YldS.yld (y_assign rfl)) rfl ?_
      refine QJ.done ?_
      refine PJ.next ?_
      refine WJ.ret ?_
      refine PJ.then_ret ?_
      obtain rfl := Option.some.inj hm
      refine PJ.sel (L' := []) [] ⟨List.nodup_nil, rfl⟩ ?_
      exact PJ.retn (vs := [.bool false, .int .i64 code8]) Tryd.results40 ⟨rfl, rfl, trivial⟩ ⟨rfl, rfl⟩
    · replace hm := ifF hm hb22
      refine WJ.skip ?_
      refine PJ.next ?_
      refine WJ.seq ?_
      refine WJ.quiet_draw follows (by kernel_rfl) ?_
      refine QJ.step (YldS.yld (y_move rfl)) rfl ?_
      obtain ⟨r23, h24, hm⟩ := bindS hm
      refine QJ.step (y_call Tryd.call87 rfl (RetG.quiet fun w hw => ok_s_l20Net h24 w _ (hw.box_at (k := 0) rfl))) rfl ?_
      refine QJ.step (YldS.yld (y_bin rfl rfl rfl)) rfl ?_
      refine QJ.step (YldS.yld (y_move rfl)) rfl ?_
      refine QJ.step (YldS.yld (y_fldB (o := 0) fld49_2 rfl)) rfl ?_
      refine QJ.step (YldS.yld (y_loadB (k := 0) (off := 2) (v := .int .i64 x1.seconds) rfl Tryd.isAgg2 rfl rfl)) rfl ?_
      refine QJ.step (YldS.yld (y_bin rfl rfl rfl)) rfl ?_
      refine QJ.step (YldS.yld (y_bin rfl rfl rfl)) rfl ?_
      refine QJ.step (YldS.yld (y_move rfl)) rfl ?_
      obtain ⟨t25, h26, hm⟩ := bindS hm
      refine QJ.cut 9 [(45, .bool t25)] ?_ ?_
      · rcases Bool.eq_false_or_eq_true (decide ((w64 (12 * r23)) ≥ (w64 (words3 * x1.seconds)))) with hb27 | hb27
        · replace h26 := andT h26 hb27
          refine QJ.on rfl rfl (cB hb27) (YldS.yld (y_fldB (o := 0) fld49_1 rfl)) rfl ?_
          refine QJ.on rfl rfl (cB hb27) (YldS.yld (y_loadB (k := 0) (off := 1) (v := .int .i64 x1.errors) rfl Tryd.isAgg2 rfl rfl)) rfl ?_
          refine QJ.on rfl rfl (cB hb27) (YldS.yld (y_bin rfl rfl rfl)) rfl ?_
          refine QJ.on rfl rfl (cB hb27) (YldS.yld (y_move rfl)) rfl ?_
          refine QJ.on rfl rfl (cB hb27) (YldS.yld (y_fldB (o := 0) fld49_0 rfl)) rfl ?_
          refine QJ.on rfl rfl (cB hb27) (YldS.yld (y_loadB (k := 0) (off := 0) (v := .int .i64 x1.strokes) rfl Tryd.isAgg2 rfl rfl)) rfl ?_
          refine QJ.on rfl rfl (cB hb27) (YldS.yld (y_bin rfl rfl rfl)) rfl ?_
          refine QJ.on rfl rfl (cB hb27) (YldS.yld (y_bin rfl rfl rfl)) rfl ?_
          refine QJ.step (YldS.yld (y_pick_t (cB hb27) rfl)) rfl ?_
          obtain rfl := Option.some.inj h26
          exact QJ.cut_end ⟨rfl, trivial⟩
        · obtain rfl := andF h26 hb27
          refine QJ.off rfl rfl (cB hb27) rfl rfl ?_
          refine QJ.off rfl rfl (cB hb27) rfl rfl ?_
          refine QJ.off rfl rfl (cB hb27) rfl rfl ?_
          refine QJ.off rfl rfl (cB hb27) rfl rfl ?_
          refine QJ.off rfl rfl (cB hb27) rfl rfl ?_
          refine QJ.off rfl rfl (cB hb27) rfl rfl ?_
          refine QJ.off rfl rfl (cB hb27) rfl rfl ?_
          refine QJ.off rfl rfl (cB hb27) rfl rfl ?_
          refine QJ.step (YldS.yld (y_pick_f (cB hb27) rfl)) rfl ?_
          exact QJ.cut_end ⟨rfl, trivial⟩
      refine QJ.step (YldS.yld (y_assign rfl)) rfl ?_
      refine QJ.step (YldS.yld (y_assign rfl)) rfl ?_
      refine QJ.done ?_
      refine PJ.next ?_
      refine WJ.ret ?_
      obtain rfl := Option.some.inj hm
      refine PJ.sel (L' := []) [] ⟨List.nodup_nil, rfl⟩ ?_
      exact PJ.retn (vs := [.bool t25, .int .i64 0]) Tryd.results40 ⟨rfl, rfl, trivial⟩ ⟨rfl, rfl⟩

set_option maxRecDepth 100000 in
set_option maxHeartbeats 1000000 in
theorem ok_s_DrawErrorShare {code1 : List UInt8} {r : Trial} (hm : s_DrawErrorShare code1 = some r) (w : World) (v2 : Value) (hr3 : RdS w (cx w).Fz v2 fByte.rp code1) :
    Calls Tryd.prog 41 #[v2] w (Ret (cx w) (.agg (Trial.enc r).toArray)) := by
  unfold s_DrawErrorShare at hm
  refine Calls.enter [v2] Tryd.func41 rfl Tryd.ntmps41 rfl ?_
  refine WJ.seq ?_
  refine WJ.reg ?_
  refine SJ.alloc (cs := [.int .i64 0, .int .i64 0, .int .i64 0]) Tryd.zeroValue49 rfl rfl fun g4 => ?_
  refine SJ.nil ?_
  refine PJ.next ?_
  refine WJ.seq ?_
  refine WJ.reg ?_
  refine SJ.q (YldS.yld (y_move rfl)) rfl ?_
  obtain ⟨r5, h6, hm⟩ := bindS hm
  refine SJ.call Tryd.call51 rfl (fun w hw => ok_s_l00From h6 w _ (hr3.st hw)) rfl ?_
  rintro _ _ ⟨g7, rfl, rfl⟩
  obtain ⟨r8, h9, hm⟩ := bindS hm
  refine SJ.call1 (k := 0) rfl Tryd.call94 rfl (fun w S hw hA hO => ok_s_l20Bent h9 w S _ (hr3.st1 hw hO) hA) rfl ?_
  rintro _ _ ⟨rfl, rfl⟩
  refine SJ.storeL (k := 1) (off := 0) (us := [.int .i64 r8.1.strokes, .int .i64 r8.1.errors, .int .i64 r8.1.seconds]) rfl rfl rfl rfl Tryd.sizeOf49 rfl rfl ?_
  refine SJ.nil ?_
  refine PJ.next ?_
  refine WJ.ret ?_
  obtain rfl := Option.some.inj hm
  exact PJ.retn_sel (vs := [.agg (Trial.enc r8.1).toArray]) Tryd.results41 ⟨⟨1, g4, 49, [.int .i64 r8.1.strokes, .int .i64 r8.1.errors, .int .i64 r8.1.seconds], rfl, rfl, .inl ⟨Tryd.isAgg49, Tryd.sizeOf49, rfl⟩⟩, trivial⟩ [] ⟨List.nodup_nil, rfl⟩ ⟨rfl, rfl⟩

set_option maxRecDepth 100000 in
set_option maxHeartbeats 1000000 in
theorem ok_i_ErrorShare {N : Nat} {x1 : Trial} {r : Fraction × Int} (hm : i_ErrorShare N x1 = some r) (w : World)  :
    Calls Tryd.prog 42 #[.agg (Trial.enc x1).toArray] w (Ret (cx w) (tup [.agg (Fraction.enc r.1).toArray, .int .i64 r.2])) := by
  unfold i_ErrorShare at hm
  refine Calls.enter [.agg (Trial.enc x1).toArray] Tryd.func42 rfl Tryd.ntmps42 rfl ?_
  refine WJ.seq ?_
  refine WJ.reg ?_
  refine SJ.box (cs := [.int .i64 x1.strokes, .int .i64 x1.errors, .int .i64 x1.seconds]) rfl rfl rfl fun g2 => ?_
  refine SJ.alloc (cs := [.int .i64 0, .int .i64 0]) Tryd.zeroValue53 rfl rfl fun g3 => ?_
  refine SJ.q (YldS.yld (y_assign rfl)) rfl ?_
  refine SJ.nil ?_
  refine PJ.next ?_
  refine WJ.seq ?_
  refine WJ.seq ?_
  refine WJ.quiet ?_
  refine QJ.step (YldS.yld (y_loadBN (k := 1) (off := 0) (us := [.int .i64 x1.strokes, .int .i64 x1.errors, .int .i64 x1.seconds]) rfl Tryd.isAgg49 Tryd.sizeOf49 rfl rfl)) rfl ?_
  obtain ⟨r4, h5, hm⟩ := bindS hm
  refine QJ.step (y_call Tryd.call95 rfl (RetG.quiet fun w hw => ok_i_validTrial h5 w )) rfl ?_
  refine QJ.step (YldS.yld (y_not rfl)) rfl ?_
  refine QJ.done ?_
  refine PJ.next ?_
  refine WJ.cond (t := !r4) rfl (fun hb6 => ?_) (fun hb6 => ?_)
  · replace hm := ifT hm hb6
    refine WJ.seq ?_
    refine WJ.reg ?_
    refine SJ.q (YldS.yld (y_build (parts := []) (places := [(0, 1), (1, 1)]) (r := [.int .i64 ((Fraction.mk 0 0).num), .int .i64 ((Fraction.mk 0 0).den)]) pl53 Tryd.zeroValue53 rfl rfl rfl rfl)) rfl ?_
    refine SJ.storeL (k := 0) (off := 0) (us := [.int .i64 ((Fraction.mk 0 0).num), .int .i64 ((Fraction.mk 0 0).den)]) rfl rfl rfl rfl Tryd.sizeOf53 rfl rfl ?_
    refine SJ.q (YldS.yld (y_assign rfl)) rfl ?_
    refine SJ.nil ?_
    refine PJ.next ?_
    refine WJ.ret ?_
    refine PJ.then_ret ?_
    obtain rfl := Option.some.inj hm
    exact PJ.retn_sel (vs := [.agg (Fraction.enc (Fraction.mk 0 0)).toArray, .int .i64 1]) Tryd.results42 ⟨⟨0, g3, 53, [.int .i64 ((Fraction.mk 0 0).num), .int .i64 ((Fraction.mk 0 0).den)], rfl, rfl, .inl ⟨Tryd.isAgg53, Tryd.sizeOf53, rfl⟩⟩, rfl, trivial⟩ [] ⟨List.nodup_nil, rfl⟩ ⟨rfl, rfl⟩
  · replace hm := ifF hm hb6
    refine WJ.skip ?_
    refine PJ.next ?_
    refine WJ.seq ?_
    refine WJ.seq ?_
    refine WJ.quiet ?_
    refine QJ.step (YldS.yld (y_fldB (o := 0) fld49_0 rfl)) rfl ?_
    refine QJ.step (YldS.yld (y_loadB (k := 1) (off := 0) (v := .int .i64 x1.strokes) rfl Tryd.isAgg2 rfl rfl)) rfl ?_
    refine QJ.step (YldS.yld (y_bin rfl rfl rfl)) rfl ?_
    refine QJ.done ?_
    refine PJ.next ?_
    refine WJ.cond (t := (x1.strokes == 0)) rfl (fun hb7 => ?_) (fun hb7 => ?_)
    · replace hm := ifT hm hb7
      refine WJ.seq ?_
      refine WJ.reg ?_
      refine SJ.q (YldS.yld (y_build (parts := []) (places := [(0, 1), (1, 1)]) (r := [.int .i64 ((Fraction.mk 0 0).num), .int .i64 ((Fraction.mk 0 0).den)]) pl53 Tryd.zeroValue53 rfl rfl rfl rfl)) rfl ?_
      refine SJ.storeL (k := 0) (off := 0) (us := [.int .i64 ((Fraction.mk 0 0).num), .int .i64 ((Fraction.mk 0 0).den)]) rfl rfl rfl rfl Tryd.sizeOf53 rfl rfl ?_
      refine SJ.q (YldS.yld (y_assign rfl)) rfl ?_
      refine SJ.nil ?_
      refine PJ.next ?_
      refine WJ.ret ?_
      refine PJ.then_ret ?_
      obtain rfl := Option.some.inj hm
      exact PJ.retn_sel (vs := [.agg (Fraction.enc (Fraction.mk 0 0)).toArray, .int .i64 3]) Tryd.results42 ⟨⟨0, g3, 53, [.int .i64 ((Fraction.mk 0 0).num), .int .i64 ((Fraction.mk 0 0).den)], rfl, rfl, .inl ⟨Tryd.isAgg53, Tryd.sizeOf53, rfl⟩⟩, rfl, trivial⟩ [] ⟨List.nodup_nil, rfl⟩ ⟨rfl, rfl⟩
    · replace hm := ifF hm hb7
      refine WJ.skip ?_
      refine PJ.next ?_
      refine WJ.seq ?_
      refine WJ.reg ?_
      refine SJ.q (YldS.yld (y_fldB (o := 0) fld49_1 rfl)) rfl ?_
      refine SJ.q (YldS.yld (y_loadB (k := 1) (off := 1) (v := .int .i64 x1.errors) rfl Tryd.isAgg2 rfl rfl)) rfl ?_
      refine SJ.q (YldS.yld (y_bin rfl rfl rfl)) rfl ?_
      refine SJ.q (YldS.yld (y_fldB (o := 0) fld49_0 rfl)) rfl ?_
      refine SJ.q (YldS.yld (y_loadB (k := 1) (off := 0) (v := .int .i64 x1.strokes) rfl Tryd.isAgg2 rfl rfl)) rfl ?_
      obtain ⟨r8, h9, hm⟩ := bindS hm
      refine SJ.q (y_call Tryd.call83 rfl (RetG.quiet fun w hw => ok_i_lowest h9 w )) rfl ?_
      refine SJ.storeL (k := 0) (off := 0) (us := [.int .i64 r8.num, .int .i64 r8.den]) rfl rfl rfl rfl Tryd.sizeOf53 rfl rfl ?_
      refine SJ.q (YldS.yld (y_assign rfl)) rfl ?_
      refine SJ.nil ?_
      refine PJ.next ?_
      refine WJ.ret ?_
      obtain rfl := Option.some.inj hm
      exact PJ.retn_sel (vs := [.agg (Fraction.enc r8).toArray, .int .i64 0]) Tryd.results42 ⟨⟨0, g3, 53, [.int .i64 r8.num, .int .i64 r8.den], rfl, rfl, .inl ⟨Tryd.isAgg53, Tryd.sizeOf53, rfl⟩⟩, rfl, trivial⟩ [] ⟨List.nodup_nil, rfl⟩ ⟨rfl, rfl⟩

set_option maxRecDepth 100000 in
set_option maxHeartbeats 1000000 in
theorem ok_s_ErrorShare {N : Nat} {x1 : Trial} {r : Fraction × Int} (hm : s_ErrorShare N x1 = some r) (w : World)  :
    Calls Tryd.prog 43 #[.agg (Trial.enc x1).toArray] w (Ret (cx w) (tup [.agg (Fraction.enc r.1).toArray, .int .i64 r.2])) := by
  unfold s_ErrorShare at hm
  refine Calls.enter [.agg (Trial.enc x1).toArray] Tryd.func43 rfl Tryd.ntmps43 rfl ?_
  refine WJ.seq ?_
  refine WJ.reg ?_
  refine SJ.box (cs := [.int .i64 x1.strokes, .int .i64 x1.errors, .int .i64 x1.seconds]) rfl rfl rfl fun g2 => ?_
  refine SJ.alloc (cs := [.int .i64 0, .int .i64 0]) Tryd.zeroValue53 rfl rfl fun g3 => ?_
  refine SJ.q (YldS.yld (y_assign rfl)) rfl ?_
  refine SJ.nil ?_
  refine PJ.next ?_
  refine WJ.seq ?_
  refine WJ.seq ?_
  refine WJ.quiet ?_
  obtain ⟨r4, h5, hm⟩ := bindS hm
  refine QJ.step (y_call Tryd.call96 rfl (RetG.quiet fun w hw => ok_s_l20One h5 w _ (hw.box_at (k := 1) rfl))) rfl ?_
  refine QJ.step (YldS.yld (y_not rfl)) rfl ?_
  refine QJ.done ?_
  refine PJ.next ?_
  refine WJ.cond (t := !r4) rfl (fun hb6 => ?_) (fun hb6 => ?_)
  · replace hm := ifT hm hb6
    refine WJ.seq ?_
    refine WJ.reg ?_
    refine SJ.q (YldS.yld (y_build (parts := []) (places := [(0, 1), (1, 1)]) (r := [.int .i64 ((Fraction.mk 0 0).num), .int .i64 ((Fraction.mk 0 0).den)]) pl53 Tryd.zeroValue53 rfl rfl rfl rfl)) rfl ?_
    refine SJ.storeL (k := 0) (off := 0) (us := [.int .i64 ((Fraction.mk 0 0).num), .int .i64 ((Fraction.mk 0 0).den)]) rfl rfl rfl rfl Tryd.sizeOf53 rfl rfl ?_
    refine SJ.q (YldS.yld (y_assign rfl)) rfl ?_
    refine SJ.nil ?_
    refine PJ.next ?_
    refine WJ.ret ?_
    refine PJ.then_ret ?_
    obtain rfl := Option.some.inj hm
    exact PJ.retn_sel (vs := [.agg (Fraction.enc (Fraction.mk 0 0)).toArray, .int .i64 1]) Tryd.results43 ⟨⟨0, g3, 53, [.int .i64 ((Fraction.mk 0 0).num), .int .i64 ((Fraction.mk 0 0).den)], rfl, rfl, .inl ⟨Tryd.isAgg53, Tryd.sizeOf53, rfl⟩⟩, rfl, trivial⟩ [] ⟨List.nodup_nil, rfl⟩ ⟨rfl, rfl⟩
  · replace hm := ifF hm hb6
    refine WJ.skip ?_
    refine PJ.next ?_
    refine WJ.seq ?_
    refine WJ.seq ?_
    refine WJ.quiet ?_
    refine QJ.step (YldS.yld (y_fldB (o := 0) fld49_0 rfl)) rfl ?_
    refine QJ.step (YldS.yld (y_loadB (k := 1) (off := 0) (v := .int .i64 x1.strokes) rfl Tryd.isAgg2 rfl rfl)) rfl ?_
    refine QJ.step (YldS.yld (y_bin rfl rfl rfl)) rfl ?_
    refine QJ.done ?_
    refine PJ.next ?_
    refine WJ.cond (t := (x1.strokes == 0)) rfl (fun hb7 => ?_) (fun hb7 => ?_)
    · replace hm := ifT hm hb7
      refine WJ.seq ?_
      refine WJ.reg ?_
      refine SJ.q (YldS.yld (y_build (parts := []) (places := [(0, 1), (1, 1)]) (r := [.int .i64 ((Fraction.mk 0 0).num), .int .i64 ((Fraction.mk 0 0).den)]) pl53 Tryd.zeroValue53 rfl rfl rfl rfl)) rfl ?_
      refine SJ.storeL (k := 0) (off := 0) (us := [.int .i64 ((Fraction.mk 0 0).num), .int .i64 ((Fraction.mk 0 0).den)]) rfl rfl rfl rfl Tryd.sizeOf53 rfl rfl ?_
      refine SJ.q (YldS.yld (y_assign rfl)) rfl ?_
      refine SJ.nil ?_
      refine PJ.next ?_
      refine WJ.ret ?_
      refine PJ.then_ret ?_
      obtain rfl := Option.some.inj hm
      exact PJ.retn_sel (vs := [.agg (Fraction.enc (Fraction.mk 0 0)).toArray, .int .i64 3]) Tryd.results43 ⟨⟨0, g3, 53, [.int .i64 ((Fraction.mk 0 0).num), .int .i64 ((Fraction.mk 0 0).den)], rfl, rfl, .inl ⟨Tryd.isAgg53, Tryd.sizeOf53, rfl⟩⟩, rfl, trivial⟩ [] ⟨List.nodup_nil, rfl⟩ ⟨rfl, rfl⟩
    · replace hm := ifF hm hb7
      refine WJ.skip ?_
      refine PJ.next ?_
      refine WJ.seq ?_
      refine WJ.reg ?_
      refine SJ.q (YldS.yld (y_fldB (o := 0) fld49_1 rfl)) rfl ?_
      refine SJ.q (YldS.yld (y_loadB (k := 1) (off := 1) (v := .int .i64 x1.errors) rfl Tryd.isAgg2 rfl rfl)) rfl ?_
      refine SJ.q (YldS.yld (y_bin rfl rfl rfl)) rfl ?_
      refine SJ.q (YldS.yld (y_fldB (o := 0) fld49_0 rfl)) rfl ?_
      refine SJ.q (YldS.yld (y_loadB (k := 1) (off := 0) (v := .int .i64 x1.strokes) rfl Tryd.isAgg2 rfl rfl)) rfl ?_
      obtain ⟨r8, h9, hm⟩ := bindS hm
      refine SJ.q (y_call Tryd.call86 rfl (RetG.quiet fun w hw => ok_s_l02Make h9 w )) rfl ?_
      refine SJ.storeL (k := 0) (off := 0) (us := [.int .i64 r8.num, .int .i64 r8.den]) rfl rfl rfl rfl Tryd.sizeOf53 rfl rfl ?_
      refine SJ.q (YldS.yld (y_assign rfl)) rfl ?_
      refine SJ.nil ?_
      refine PJ.next ?_
      refine WJ.ret ?_
      obtain rfl := Option.some.inj hm
      exact PJ.retn_sel (vs := [.agg (Fraction.enc r8).toArray, .int .i64 0]) Tryd.results43 ⟨⟨0, g3, 53, [.int .i64 r8.num, .int .i64 r8.den], rfl, rfl, .inl ⟨Tryd.isAgg53, Tryd.sizeOf53, rfl⟩⟩, rfl, trivial⟩ [] ⟨List.nodup_nil, rfl⟩ ⟨rfl, rfl⟩

set_option maxRecDepth 100000 in
set_option maxHeartbeats 1000000 in
theorem ok_s_DrawTrialText {code1 : List UInt8} {r : Trial} (hm : s_DrawTrialText code1 = some r) (w : World) (v2 : Value) (hr3 : RdS w (cx w).Fz v2 fByte.rp code1) :
    Calls Tryd.prog 44 #[v2] w (Ret (cx w) (.agg (Trial.enc r).toArray)) := by
  unfold s_DrawTrialText at hm
  refine Calls.enter [v2] Tryd.func44 rfl Tryd.ntmps44 rfl ?_
  refine WJ.seq ?_
  refine WJ.reg ?_
  refine SJ.alloc (cs := [.int .i64 0, .int .i64 0, .int .i64 0]) Tryd.zeroValue49 rfl rfl fun g4 => ?_
  refine SJ.nil ?_
  refine PJ.next ?_
  refine WJ.seq ?_
  refine WJ.reg ?_
  refine SJ.q (YldS.yld (y_move rfl)) rfl ?_
  obtain ⟨r5, h6, hm⟩ := bindS hm
  refine SJ.call Tryd.call51 rfl (fun w hw => ok_s_l00From h6 w _ (hr3.st hw)) rfl ?_
  rintro _ _ ⟨g7, rfl, rfl⟩
  obtain ⟨r8, h9, hm⟩ := bindS hm
  refine SJ.call1 (k := 0) rfl Tryd.call94 rfl (fun w S hw hA hO => ok_s_l20Bent h9 w S _ (hr3.st1 hw hO) hA) rfl ?_
  rintro _ _ ⟨rfl, rfl⟩
  refine SJ.storeL (k := 1) (off := 0) (us := [.int .i64 r8.1.strokes, .int .i64 r8.1.errors, .int .i64 r8.1.seconds]) rfl rfl rfl rfl Tryd.sizeOf49 rfl rfl ?_
  refine SJ.nil ?_
  refine PJ.next ?_
  refine WJ.ret ?_
  obtain rfl := Option.some.inj hm
  exact PJ.retn_sel (vs := [.agg (Trial.enc r8.1).toArray]) Tryd.results44 ⟨⟨1, g4, 49, [.int .i64 r8.1.strokes, .int .i64 r8.1.errors, .int .i64 r8.1.seconds], rfl, rfl, .inl ⟨Tryd.isAgg49, Tryd.sizeOf49, rfl⟩⟩, trivial⟩ [] ⟨List.nodup_nil, rfl⟩ ⟨rfl, rfl⟩

theorem ok_fmtI {a b : Int} {r : Str} (hm : fmtI a b = some r) (w : World) (hT : Tab Tryd.prog tabNm w (cx w).Fz) :
    Calls Tryd.prog 114 #[.int .i64 a, .int .i64 b] w (Ret (cx w) (str r)) :=
  fmtI_ok (fun n h0 h1 w h => Any.strconv_FormatInt_10 Tryd.laysM173 n h0 h1 w h) hm w hT

set_option maxRecDepth 100000 in
set_option maxHeartbeats 1000000 in
theorem ok_i_Decimal {n1 : Int} {r : Str} (hm : i_Decimal n1 = some r) (w : World) (hT : Tab Tryd.prog tabNm w (cx w).Fz) :
    Calls Tryd.prog 73 #[.int .i64 n1] w (Ret (cx w) (str r)) := by
  unfold i_Decimal at hm
  refine Calls.enter [.int .i64 n1] Tryd.func73 rfl Tryd.ntmps73 rfl ?_
  refine WJ.seq ?_
  refine WJ.quiet ?_
  refine QJ.step (YldS.yld (y_assign rfl)) rfl ?_
  refine QJ.done ?_
  refine PJ.next ?_
  refine WJ.seq ?_
  refine WJ.quiet ?_
  refine QJ.step (YldS.yld (y_move rfl)) rfl ?_
  obtain ⟨r2, h3, hm⟩ := bindS hm
  refine QJ.step (y_call Tryd.call114 rfl (RetG.quiet fun w hw => ok_fmtI h3 w (hT.st hw))) rfl ?_
  refine QJ.step (YldS.yld (y_assign rfl)) rfl ?_
  refine QJ.done ?_
  refine PJ.next ?_
  refine WJ.ret ?_
  obtain rfl := Option.some.inj hm
  refine PJ.sel (L' := []) [] ⟨List.nodup_nil, rfl⟩ ?_
  exact PJ.retn (vs := [str r2]) Tryd.results73 ⟨rfl, trivial⟩ ⟨rfl, rfl⟩

set_option maxRecDepth 100000 in
set_option maxHeartbeats 1000000 in
theorem ok_i_TrialText {x1 : Trial} {r : Str} (hm : i_TrialText x1 = some r) (w : World) (hT : Tab Tryd.prog tabNm w (cx w).Fz) :
    Calls Tryd.prog 45 #[.agg (Trial.enc x1).toArray] w (Ret (cx w) (str r)) := by
  unfold i_TrialText at hm
  refine Calls.enter [.agg (Trial.enc x1).toArray] Tryd.func45 rfl Tryd.ntmps45 rfl ?_
  refine WJ.seq ?_
  refine WJ.reg ?_
  refine SJ.box (cs := [.int .i64 x1.strokes, .int .i64 x1.errors, .int .i64 x1.seconds]) rfl rfl rfl fun g2 => ?_
  refine SJ.q (YldS.yld (y_assign rfl)) rfl ?_
  refine SJ.nil ?_
  refine PJ.next ?_
  refine WJ.seq ?_
  refine WJ.seq ?_
  refine WJ.quiet ?_
  refine QJ.step (YldS.yld (y_loadBN (k := 0) (off := 0) (us := [.int .i64 x1.strokes, .int .i64 x1.errors, .int .i64 x1.seconds]) rfl Tryd.isAgg49 Tryd.sizeOf49 rfl rfl)) rfl ?_
  obtain ⟨r3, h4, hm⟩ := bindS hm
  refine QJ.step (y_call Tryd.call95 rfl (RetG.quiet fun w hw => ok_i_validTrial h4 w )) rfl ?_
  refine QJ.step (YldS.yld (y_not rfl)) rfl ?_
  refine QJ.done ?_
  refine PJ.next ?_
  refine WJ.cond (t := !r3) rfl (fun hb5 => ?_) (fun hb5 => ?_)
  · replace hm := ifT hm hb5
    refine WJ.seq ?_
    refine WJ.quiet ?_
    refine QJ.step (YldS.yld (y_assign rfl)) rfl ?_
    refine QJ.done ?_
    refine PJ.next ?_
    refine WJ.ret ?_
    refine PJ.then_ret ?_
    obtain rfl := Option.some.inj hm
    refine PJ.sel (L' := []) [] ⟨List.nodup_nil, rfl⟩ ?_
    exact PJ.retn (vs := [str []]) Tryd.results45 ⟨rfl, trivial⟩ ⟨rfl, rfl⟩
  · replace hm := ifF hm hb5
    refine WJ.skip ?_
    refine PJ.next ?_
    refine WJ.seq ?_
    refine WJ.quiet_draw follows (by kernel_rfl) ?_
    refine QJ.step (YldS.yld (y_fldB (o := 0) fld49_0 rfl)) rfl ?_
    refine QJ.step (YldS.yld (y_loadB (k := 0) (off := 0) (v := .int .i64 x1.strokes) rfl Tryd.isAgg2 rfl rfl)) rfl ?_
    obtain ⟨r6, h7, hm⟩ := bindS hm
    refine QJ.step (y_call Tryd.call73 rfl (RetG.quiet fun w hw => ok_i_Decimal h7 w (hT.st hw))) rfl ?_
    obtain ⟨s8, h9, hm⟩ := bindS hm
    refine QJ.step (YldS.yld (y_cat h9 rfl rfl)) rfl ?_
    refine QJ.step (YldS.yld (y_fldB (o := 0) fld49_1 rfl)) rfl ?_
    refine QJ.step (YldS.yld (y_loadB (k := 0) (off := 1) (v := .int .i64 x1.errors) rfl Tryd.isAgg2 rfl rfl)) rfl ?_
    obtain ⟨r10, h11, hm⟩ := bindS hm
    refine QJ.step (y_call Tryd.call73 rfl (RetG.quiet fun w hw => ok_i_Decimal h11 w (hT.st hw))) rfl ?_
    obtain ⟨s12, h13, hm⟩ := bindS hm
    refine QJ.step (YldS.yld (y_cat h13 rfl rfl)) rfl ?_
    obtain ⟨s14, h15, hm⟩ := bindS hm
    refine QJ.step (YldS.yld (y_cat h15 rfl rfl)) rfl ?_
    refine QJ.step (YldS.yld (y_fldB (o := 0) fld49_2 rfl)) rfl ?_
    refine QJ.step (YldS.yld (y_loadB (k := 0) (off := 2) (v := .int .i64 x1.seconds) rfl Tryd.isAgg2 rfl rfl)) rfl ?_
    obtain ⟨r16, h17, hm⟩ := bindS hm
    refine QJ.step (y_call Tryd.call73 rfl (RetG.quiet fun w hw => ok_i_Decimal h17 w (hT.st hw))) rfl ?_
    obtain ⟨s18, h19, hm⟩ := bindS hm
    refine QJ.step (YldS.yld (y_cat h19 rfl rfl)) rfl ?_
    obtain ⟨s20, h21, hm⟩ := bindS hm
    refine QJ.step (YldS.yld (y_cat h21 rfl rfl)) rfl ?_
    refine QJ.step (YldS.yld (y_assign rfl)) rfl ?_
    refine QJ.done ?_
    refine PJ.next ?_
    refine WJ.ret ?_
    obtain rfl := Option.some.inj hm
    refine PJ.sel (L' := []) [] ⟨List.nodup_nil, rfl⟩ ?_
    exact PJ.retn (vs := [str s20]) Tryd.results45 ⟨rfl, trivial⟩ ⟨rfl, rfl⟩

set_option maxRecDepth 100000 in
set_option maxHeartbeats 1000000 in
theorem ok_i_cut {N : Nat} {s1 : Str} {separator2 : Str} {r : Str × Str × Bool} (hm : i_cut N s1 separator2 = some r) (w : World)  :
    Calls Tryd.prog 97 #[str s1, str separator2] w (Ret (cx w) (tup [str r.1, str r.2.1, .bool r.2.2])) := by
  unfold i_cut at hm
  refine Calls.enter [str s1, str separator2] Tryd.func97 rfl Tryd.ntmps97 rfl ?_
  refine WJ.seq ?_
  refine WJ.quiet ?_
  refine QJ.step (YldS.yld (y_assign rfl)) rfl ?_
  refine QJ.step (YldS.yld (y_assign rfl)) rfl ?_
  refine QJ.step (YldS.yld (y_assign rfl)) rfl ?_
  refine QJ.done ?_
  refine PJ.next ?_
  obtain ⟨kj3, hk4, hm⟩ := withK_open hm
  refine WJ.join (X := Unit) (fun (_ : Unit) => kj3  = some r) (fun (_ : Unit) => [(0, str s1)]) (fun (_ : Unit) => []) ?_ ?_
  · clear hk4
    refine WJ.seq ?_
    refine WJ.quiet ?_
    refine QJ.step (YldS.yld (y_assign rfl)) rfl ?_
    refine QJ.done ?_
    refine PJ.next ?_
    refine WJ.block ?_
    refine WJ.sel (L' := (fun (x : Int) => []) 0) [] ⟨List.nodup_nil, rfl⟩ ?_
    refine WJ.sub (m' := (fun (x : Int) => [(0, str s1), (1, str separator2), (7, .int .i64 x)]) 0) ⟨rfl, rfl, rfl, trivial⟩ ?_
    refine WJ.loop (X := Int) (fun N (x : Int) => i_cut_l1 kj3 s1 separator2 N x = some r) (fun (x : Int) => [(0, str s1), (1, str separator2), (7, .int .i64 x)]) (fun (x : Int) => []) ?_ N 0 hm
    · rintro N i5 hI
      have hm := hI; clear hI
      cases N with
      | zero => cases hm
      | succ N =>
      unfold i_cut_l1 at hm
      refine WJ.seq ?_
      refine WJ.seq ?_
      refine WJ.quiet ?_
      refine QJ.step (YldS.yld (y_move rfl)) rfl ?_
      refine QJ.step (YldS.yld (y_move rfl)) rfl ?_
      refine QJ.step (YldS.yld (y_lenStr Tryd.runUnderlying9 rfl)) rfl ?_
      refine QJ.step (YldS.yld (y_bin rfl rfl rfl)) rfl ?_
      refine QJ.step (YldS.yld (y_move rfl)) rfl ?_
      refine QJ.step (YldS.yld (y_lenStr Tryd.runUnderlying9 rfl)) rfl ?_
      refine QJ.step (YldS.yld (y_bin rfl rfl rfl)) rfl ?_
      refine QJ.done ?_
      refine PJ.next ?_
      refine WJ.cond (t := decide ((w64 (i5 + (List.length separator2 : Int))) ≤ (List.length s1 : Int))) rfl (fun hb6 => ?_) (fun hb6 => ?_)
      · replace hm := ifT hm hb6
        refine WJ.skip ?_
        refine PJ.next ?_
        refine WJ.seq ?_
        refine WJ.block ?_
        refine WJ.seq ?_
        refine WJ.quiet ?_
        refine QJ.step (YldS.yld (y_move rfl)) rfl ?_
        refine QJ.step (YldS.yld (y_move rfl)) rfl ?_
        refine QJ.step (YldS.yld (y_move rfl)) rfl ?_
        refine QJ.step (YldS.yld (y_move rfl)) rfl ?_
        refine QJ.step (YldS.yld (y_lenStr Tryd.runUnderlying9 rfl)) rfl ?_
        refine QJ.step (YldS.yld (y_bin rfl rfl rfl)) rfl ?_
        obtain ⟨s7, h8, hm⟩ := bindS hm
        refine QJ.step (YldS.yld (y_subStr (i := some i5) (j := some (w64 (i5 + (List.length separator2 : Int)))) h8 Tryd.runUnderlying9 rfl ⟨_, rfl⟩ ⟨_, rfl⟩)) rfl ?_
        refine QJ.step (YldS.yld (y_move rfl)) rfl ?_
        refine QJ.step (YldS.yld (y_binS rfl rfl rfl)) rfl ?_
        refine QJ.done ?_
        refine PJ.next ?_
        refine WJ.cond (t := (s7 == separator2)) rfl (fun hb9 => ?_) (fun hb9 => ?_)
        · replace hm := ifT hm hb9
          refine WJ.seq ?_
          refine WJ.quiet_draw follows (by kernel_rfl) ?_
          refine QJ.step (YldS.yld (y_move rfl)) rfl ?_
          refine QJ.step (YldS.yld (y_move rfl)) rfl ?_
          obtain ⟨s10, h11, hm⟩ := bindS hm
          refine QJ.step (YldS.yld (y_subStr (i := none) (j := some i5) h11 Tryd.runUnderlying9 rfl trivial ⟨_, rfl⟩)) rfl ?_
          refine QJ.step (YldS.yld (y_move rfl)) rfl ?_
          refine QJ.step (YldS.yld (y_move rfl)) rfl ?_
          refine QJ.step (YldS.yld (y_move rfl)) rfl ?_
          refine QJ.step (YldS.yld (y_lenStr Tryd.runUnderlying9 rfl)) rfl ?_
          refine QJ.step (YldS.yld (y_bin rfl rfl rfl)) rfl ?_
          obtain ⟨s12, h13, hm⟩ := bindS hm
          refine QJ.step (YldS.yld (y_subStr (i := some (w64 (i5 + (List.length separator2 : Int)))) (j := none) h13 Tryd.runUnderlying9 rfl ⟨_, rfl⟩ trivial)) rfl ?_
          refine QJ.step (YldS.yld (y_assign rfl)) rfl ?_
          refine QJ.step (YldS.yld (y_assign rfl)) rfl ?_
          refine QJ.step (YldS.yld (y_assign rfl)) rfl ?_
          refine QJ.done ?_
          refine PJ.next ?_
          refine WJ.ret ?_
          refine PJ.block_ret (PJ.then_ret (PJ.then_ret (PJ.block_ret (PJ.then_ret ?_))))
          obtain rfl := Option.some.inj hm
          refine PJ.sel (L' := []) [] ⟨List.nodup_nil, rfl⟩ ?_
          exact PJ.retn (vs := [str s10, str s12, .bool true]) Tryd.results97 ⟨rfl, rfl, rfl, trivial⟩ ⟨rfl, rfl⟩
        · replace hm := ifF hm hb9
          refine WJ.skip ?_
          refine PJ.block_normal (PJ.next ?_)
          refine WJ.quiet ?_
          refine QJ.step (YldS.yld (y_move rfl)) rfl ?_
          refine QJ.step (YldS.yld (y_bin rfl rfl rfl)) rfl ?_
          refine QJ.step (YldS.yld (y_assign rfl)) rfl ?_
          refine QJ.done ?_
          exact PJ.round (w64 (i5 + 1)) [] hm ⟨rfl, rfl, rfl, trivial⟩ ⟨List.nodup_nil, rfl⟩
      · replace hm := ifF hm hb6
        refine WJ.exit ?_
        refine PJ.then_exit (PJ.then_exit (PJ.block_exit ?_))
        exact PJ.joined () [] hm ⟨rfl, trivial⟩ ⟨List.nodup_nil, rfl⟩
  · rintro _ hm
    subst hk4
    refine WJ.seq ?_
    refine WJ.quiet ?_
    refine QJ.step (YldS.yld (y_move rfl)) rfl ?_
    refine QJ.step (YldS.yld (y_assign rfl)) rfl ?_
    refine QJ.step (YldS.yld (y_assign rfl)) rfl ?_
    refine QJ.step (YldS.yld (y_assign rfl)) rfl ?_
    refine QJ.done ?_
    refine PJ.next ?_
    refine WJ.ret ?_
    obtain rfl := Option.some.inj hm
    refine PJ.sel (L' := []) [] ⟨List.nodup_nil, rfl⟩ ?_
    exact PJ.retn (vs := [str s1, str [], .bool false]) Tryd.results97 ⟨rfl, rfl, rfl, trivial⟩ ⟨rfl, rfl⟩

set_option maxRecDepth 100000 in
set_option maxHeartbeats 1000000 in
theorem ok_stringslite_HasSuffix {s1 : Str} {suffix2 : Str} {r : Bool} (hm : stringslite_HasSuffix s1 suffix2 = some r) (w : World)  :
    Calls Tryd.prog 131 #[str s1, str suffix2] w (Ret (cx w) (.bool r)) := by
  unfold stringslite_HasSuffix at hm
  refine Calls.enter [str s1, str suffix2] Tryd.func131 rfl Tryd.ntmps131 rfl ?_
  refine WJ.seq ?_
  refine WJ.quiet ?_
  refine QJ.step (YldS.yld (y_assign rfl)) rfl ?_
  refine QJ.done ?_
  refine PJ.next ?_
  refine WJ.seq ?_
  refine WJ.quiet ?_
  refine QJ.step (YldS.yld (y_move rfl)) rfl ?_
  refine QJ.step (YldS.yld (y_lenStr Tryd.runUnderlying9 rfl)) rfl ?_
  refine QJ.step (YldS.yld (y_move rfl)) rfl ?_
  refine QJ.step (YldS.yld (y_lenStr Tryd.runUnderlying9 rfl)) rfl ?_
  refine QJ.step (YldS.yld (y_bin rfl rfl rfl)) rfl ?_
  refine QJ.step (YldS.yld (y_move rfl)) rfl ?_
  obtain ⟨t3, h4, hm⟩ := bindS hm
  refine QJ.cut 10 [(20, .bool t3)] ?_ ?_
  · rcases Bool.eq_false_or_eq_true (decide ((List.length s1 : Int) ≥ (List.length suffix2 : Int))) with hb5 | hb5
    · replace h4 := andT h4 hb5
      refine QJ.on rfl rfl (cB hb5) (YldS.yld (y_move rfl)) rfl ?_
      refine QJ.on rfl rfl (cB hb5) (YldS.yld (y_move rfl)) rfl ?_
      refine QJ.on rfl rfl (cB hb5) (YldS.yld (y_lenStr Tryd.runUnderlying9 rfl)) rfl ?_
      refine QJ.on rfl rfl (cB hb5) (YldS.yld (y_move rfl)) rfl ?_
      refine QJ.on rfl rfl (cB hb5) (YldS.yld (y_lenStr Tryd.runUnderlying9 rfl)) rfl ?_
      refine QJ.on rfl rfl (cB hb5) (YldS.yld (y_bin rfl rfl rfl)) rfl ?_
      obtain ⟨s6, h7, h4⟩ := bindS h4
      refine QJ.on rfl rfl (cB hb5) (YldS.yld (y_subStr (i := some (w64 ((List.length s1 : Int) - (List.length suffix2 : Int)))) (j := none) h7 Tryd.runUnderlying9 rfl ⟨_, rfl⟩ trivial)) rfl ?_
      refine QJ.on rfl rfl (cB hb5) (YldS.yld (y_move rfl)) rfl ?_
      refine QJ.on rfl rfl (cB hb5) (YldS.yld (y_binS rfl rfl rfl)) rfl ?_
      refine QJ.step (YldS.yld (y_pick_t (cB hb5) rfl)) rfl ?_
      obtain rfl := Option.some.inj h4
      exact QJ.cut_end ⟨rfl, trivial⟩
    · obtain rfl := andF h4 hb5
      refine QJ.off rfl rfl (cB hb5) rfl rfl ?_
      refine QJ.off rfl rfl (cB hb5) rfl rfl ?_
      refine QJ.off rfl rfl (cB hb5) rfl rfl ?_
      refine QJ.off rfl rfl (cB hb5) rfl rfl ?_
      refine QJ.off rfl rfl (cB hb5) rfl rfl ?_
      refine QJ.off rfl rfl (cB hb5) rfl rfl ?_
      refine QJ.off rfl rfl (cB hb5) rfl rfl ?_
      refine QJ.off rfl rfl (cB hb5) rfl rfl ?_
      refine QJ.off rfl rfl (cB hb5) rfl rfl ?_
      refine QJ.step (YldS.yld (y_pick_f (cB hb5) rfl)) rfl ?_
      exact QJ.cut_end ⟨rfl, trivial⟩
  refine QJ.step (YldS.yld (y_assign rfl)) rfl ?_
  refine QJ.done ?_
  refine PJ.next ?_
  refine WJ.ret ?_
  obtain rfl := Option.some.inj hm
  refine PJ.sel (L' := []) [] ⟨List.nodup_nil, rfl⟩ ?_
  exact PJ.retn (vs := [.bool t3]) Tryd.results131 ⟨rfl, trivial⟩ ⟨rfl, rfl⟩

set_option maxRecDepth 100000 in
set_option maxHeartbeats 1000000 in
theorem ok_stringslite_CutSuffix {s1 : Str} {suffix2 : Str} {r : Str × Bool} (hm : stringslite_CutSuffix s1 suffix2 = some r) (w : World)  :
    Calls Tryd.prog 124 #[str s1, str suffix2] w (Ret (cx w) (tup [str r.1, .bool r.2])) := by
  unfold stringslite_CutSuffix at hm
  refine Calls.enter [str s1, str suffix2] Tryd.func124 rfl Tryd.ntmps124 rfl ?_
  refine WJ.seq ?_
  refine WJ.quiet ?_
  refine QJ.step (YldS.yld (y_assign rfl)) rfl ?_
  refine QJ.step (YldS.yld (y_assign rfl)) rfl ?_
  refine QJ.done ?_
  refine PJ.next ?_
  refine WJ.seq ?_
  refine WJ.seq ?_
  refine WJ.quiet ?_
  refine QJ.step (YldS.yld (y_move rfl)) rfl ?_
  refine QJ.step (YldS.yld (y_move rfl)) rfl ?_
  obtain ⟨r3, h4, hm⟩ := bindS hm
  refine QJ.step (y_call Tryd.call131 rfl (RetG.quiet fun w hw => ok_stringslite_HasSuffix h4 w )) rfl ?_
  refine QJ.step (YldS.yld (y_not rfl)) rfl ?_
  refine QJ.done ?_
  refine PJ.next ?_
  refine WJ.cond (t := !r3) rfl (fun hb5 => ?_) (fun hb5 => ?_)
  · replace hm := ifT hm hb5
    refine WJ.seq ?_
    refine WJ.quiet ?_
    refine QJ.step (YldS.yld (y_move rfl)) rfl ?_
    refine QJ.step (YldS.yld (y_assign rfl)) rfl ?_
    refine QJ.step (YldS.yld (y_assign rfl)) rfl ?_
    refine QJ.done ?_
    refine PJ.next ?_
    refine WJ.ret ?_
    refine PJ.then_ret ?_
    obtain rfl := Option.some.inj hm
    refine PJ.sel (L' := []) [] ⟨List.nodup_nil, rfl⟩ ?_
    exact PJ.retn (vs := [str s1, .bool false]) Tryd.results124 ⟨rfl, rfl, trivial⟩ ⟨rfl, rfl⟩
  · replace hm := ifF hm hb5
    refine WJ.skip ?_
    refine PJ.next ?_
    refine WJ.seq ?_
    refine WJ.quiet ?_
    refine QJ.step (YldS.yld (y_move rfl)) rfl ?_
    refine QJ.step (YldS.yld (y_move rfl)) rfl ?_
    refine QJ.step (YldS.yld (y_lenStr Tryd.runUnderlying9 rfl)) rfl ?_
    refine QJ.step (YldS.yld (y_move rfl)) rfl ?_
    refine QJ.step (YldS.yld (y_lenStr Tryd.runUnderlying9 rfl)) rfl ?_
    refine QJ.step (YldS.yld (y_bin rfl rfl rfl)) rfl ?_
    obtain ⟨s6, h7, hm⟩ := bindS hm
    refine QJ.step (YldS.yld (y_subStr (i := none) (j := some (w64 ((List.length s1 : Int) - (List.length suffix2 : Int)))) h7 Tryd.runUnderlying9 rfl trivial ⟨_, rfl⟩)) rfl ?_
    refine QJ.step (YldS.yld (y_assign rfl)) rfl ?_
    refine QJ.step (YldS.yld (y_assign rfl)) rfl ?_
    refine QJ.done ?_
    refine PJ.next ?_
    refine WJ.ret ?_
    obtain rfl := Option.some.inj hm
    refine PJ.sel (L' := []) [] ⟨List.nodup_nil, rfl⟩ ?_
    exact PJ.retn (vs := [str s6, .bool true]) Tryd.results124 ⟨rfl, rfl, trivial⟩ ⟨rfl, rfl⟩

set_option maxRecDepth 100000 in
set_option maxHeartbeats 1000000 in
theorem ok_strings_CutSuffix {s1 : Str} {suffix2 : Str} {r : Str × Bool} (hm : strings_CutSuffix s1 suffix2 = some r) (w : World)  :
    Calls Tryd.prog 98 #[str s1, str suffix2] w (Ret (cx w) (tup [str r.1, .bool r.2])) := by
  unfold strings_CutSuffix at hm
  refine Calls.enter [str s1, str suffix2] Tryd.func98 rfl Tryd.ntmps98 rfl ?_
  refine WJ.seq ?_
  refine WJ.quiet ?_
  refine QJ.step (YldS.yld (y_assign rfl)) rfl ?_
  refine QJ.step (YldS.yld (y_assign rfl)) rfl ?_
  refine QJ.done ?_
  refine PJ.next ?_
  refine WJ.seq ?_
  refine WJ.quiet ?_
  refine QJ.step (YldS.yld (y_move rfl)) rfl ?_
  refine QJ.step (YldS.yld (y_move rfl)) rfl ?_
  obtain ⟨r3, h4, hm⟩ := bindS hm
  refine QJ.step (y_call Tryd.call124 rfl (RetG.quiet fun w hw => ok_stringslite_CutSuffix h4 w )) rfl ?_
  refine QJ.step (YldS.yld (y_extract rfl rfl)) rfl ?_
  refine QJ.step (YldS.yld (y_extract rfl rfl)) rfl ?_
  refine QJ.step (YldS.yld (y_assign rfl)) rfl ?_
  refine QJ.step (YldS.yld (y_assign rfl)) rfl ?_
  refine QJ.done ?_
  refine PJ.next ?_
  refine WJ.ret ?_
  obtain rfl := Option.some.inj hm
  refine PJ.sel (L' := []) [] ⟨List.nodup_nil, rfl⟩ ?_
  exact PJ.retn (vs := [str r3.1, .bool r3.2]) Tryd.results98 ⟨rfl, rfl, trivial⟩ ⟨rfl, rfl⟩

set_option maxRecDepth 100000 in
set_option maxHeartbeats 1000000 in
theorem ok_i_isDigit {b1 : UInt8} {r : Bool} (hm : i_isDigit b1 = some r) (w : World)  :
    Calls Tryd.prog 118 #[.int .u8 (UInt8.toNat b1 : Int)] w (Ret (cx w) (.bool r)) := by
  unfold i_isDigit at hm
  refine Calls.enter [.int .u8 (UInt8.toNat b1 : Int)] Tryd.func118 rfl Tryd.ntmps118 rfl ?_
  refine WJ.seq ?_
  refine WJ.quiet ?_
  refine QJ.step (YldS.yld (y_assign rfl)) rfl ?_
  refine QJ.done ?_
  refine PJ.next ?_
  refine WJ.seq ?_
  refine WJ.quiet ?_
  refine QJ.step (YldS.yld (y_move rfl)) rfl ?_
  refine QJ.step (YldS.yld (y_bin8 b1 (48 : UInt8) rfl rfl rfl)) rfl ?_
  refine QJ.step (YldS.yld (y_move rfl)) rfl ?_
  obtain ⟨t2, h3, hm⟩ := bindS hm
  refine QJ.cut 3 [(8, .bool t2)] ?_ ?_
  · rcases Bool.eq_false_or_eq_true (decide (b1 ≥ (48 : UInt8))) with hb4 | hb4
    · replace h3 := andT h3 hb4
      refine QJ.on rfl rfl (cB hb4) (YldS.yld (y_move rfl)) rfl ?_
      refine QJ.on rfl rfl (cB hb4) (YldS.yld (y_bin8 b1 (57 : UInt8) rfl rfl rfl)) rfl ?_
      refine QJ.step (YldS.yld (y_pick_t (cB hb4) rfl)) rfl ?_
      obtain rfl := Option.some.inj h3
      exact QJ.cut_end ⟨rfl, trivial⟩
    · obtain rfl := andF h3 hb4
      refine QJ.off rfl rfl (cB hb4) rfl rfl ?_
      refine QJ.off rfl rfl (cB hb4) rfl rfl ?_
      refine QJ.step (YldS.yld (y_pick_f (cB hb4) rfl)) rfl ?_
      exact QJ.cut_end ⟨rfl, trivial⟩
  refine QJ.step (YldS.yld (y_assign rfl)) rfl ?_
  refine QJ.done ?_
  refine PJ.next ?_
  refine WJ.ret ?_
  obtain rfl := Option.some.inj hm
  refine PJ.sel (L' := []) [] ⟨List.nodup_nil, rfl⟩ ?_
  exact PJ.retn (vs := [.bool t2]) Tryd.results118 ⟨rfl, trivial⟩ ⟨rfl, rfl⟩

set_option maxRecDepth 100000 in
set_option maxHeartbeats 1000000 in
theorem ok_i_ReadDecimal {N : Nat} {s1 : Str} {r : Int × Bool} (hm : i_ReadDecimal N s1 = some r) (w : World) (hT : Tab Tryd.prog tabNm w (cx w).Fz) :
    Calls Tryd.prog 99 #[str s1] w (Ret (cx w) (tup [.int .i64 r.1, .bool r.2])) := by
  unfold i_ReadDecimal at hm
  refine Calls.enter [str s1] Tryd.func99 rfl Tryd.ntmps99 rfl ?_
  refine WJ.seq ?_
  refine WJ.quiet ?_
  refine QJ.step (YldS.yld (y_assign rfl)) rfl ?_
  refine QJ.step (YldS.yld (y_assign rfl)) rfl ?_
  refine QJ.done ?_
  refine PJ.next ?_
  refine WJ.seq ?_
  refine WJ.quiet ?_
  refine QJ.step (YldS.yld (y_move rfl)) rfl ?_
  refine QJ.step (YldS.yld (y_assign rfl)) rfl ?_
  refine QJ.done ?_
  refine PJ.next ?_
  obtain ⟨kj3, hk4, hm⟩ := withK_open hm
  refine WJ.join (X := Str) (fun (x : Str) => kj3 x = some r) (fun (x : Str) => [(0, str s1), (4, str x)]) (fun (x : Str) => []) ?_ ?_
  · clear hk4
    refine WJ.seq ?_
    refine WJ.quiet ?_
    refine QJ.step (YldS.yld (y_move rfl)) rfl ?_
    refine QJ.step (YldS.yld (y_lenStr Tryd.runUnderlying9 rfl)) rfl ?_
    refine QJ.step (YldS.yld (y_bin rfl rfl rfl)) rfl ?_
    refine QJ.step (YldS.yld (y_move rfl)) rfl ?_
    obtain ⟨t5, h6, hm⟩ := bindS hm
    refine QJ.cut 4 [(0, str s1), (4, str s1), (15, .bool t5)] ?_ ?_
    · rcases Bool.eq_false_or_eq_true (decide ((List.length s1 : Int) > 0)) with hb7 | hb7
      · replace h6 := andT h6 hb7
        refine QJ.on rfl rfl (cB hb7) (YldS.yld (y_move rfl)) rfl ?_
        obtain ⟨c8, h9, h6⟩ := bindS h6
        refine QJ.on rfl rfl (cB hb7) (YldS.yld (y_idxStr Tryd.runUnderlying9 rfl rfl h9)) rfl ?_
        refine QJ.on rfl rfl (cB hb7) (YldS.yld (y_bin8 c8 (45 : UInt8) rfl rfl rfl)) rfl ?_
        refine QJ.step (YldS.yld (y_pick_t (cB hb7) rfl)) rfl ?_
        obtain rfl := Option.some.inj h6
        exact QJ.cut_end ⟨rfl, rfl, rfl, trivial⟩
      · obtain rfl := andF h6 hb7
        refine QJ.off rfl rfl (cB hb7) rfl rfl ?_
        refine QJ.off rfl rfl (cB hb7) rfl rfl ?_
        refine QJ.off rfl rfl (cB hb7) rfl rfl ?_
        refine QJ.step (YldS.yld (y_pick_f (cB hb7) rfl)) rfl ?_
        exact QJ.cut_end ⟨rfl, rfl, rfl, trivial⟩
    refine QJ.done ?_
    refine PJ.next ?_
    refine WJ.cond (t := t5) rfl (fun hb10 => ?_) (fun hb10 => ?_)
    · replace hm := ifT hm hb10
      refine WJ.quiet ?_
      refine QJ.step (YldS.yld (y_move rfl)) rfl ?_
      obtain ⟨s11, h12, hm⟩ := bindS hm
      refine QJ.step (YldS.yld (y_subStr (i := some 1) (j := none) h12 Tryd.runUnderlying9 rfl ⟨_, rfl⟩ trivial)) rfl ?_
      refine QJ.step (YldS.yld (y_assign rfl)) rfl ?_
      refine QJ.done ?_
      exact PJ.joined s11 [] hm ⟨rfl, rfl, trivial⟩ ⟨List.nodup_nil, rfl⟩
    · replace hm := ifF hm hb10
      refine WJ.skip ?_
      exact PJ.joined s1 [] hm ⟨rfl, rfl, trivial⟩ ⟨List.nodup_nil, rfl⟩
  · rintro digits2 hm
    subst hk4
    refine WJ.seq ?_
    refine WJ.seq ?_
    refine WJ.quiet ?_
    refine QJ.step (YldS.yld (y_move rfl)) rfl ?_
    refine QJ.step (YldS.yld (y_lenStr Tryd.runUnderlying9 rfl)) rfl ?_
    refine QJ.step (YldS.yld (y_bin rfl rfl rfl)) rfl ?_
    refine QJ.step (YldS.yld (y_move rfl)) rfl ?_
    obtain ⟨t13, h14, hm⟩ := bindS hm
    refine QJ.cut 4 [(0, str s1), (4, str digits2), (25, .bool t13)] ?_ ?_
    · rcases Bool.eq_false_or_eq_true ((List.length digits2 : Int) == 0) with hb15 | hb15
      · obtain rfl := orT h14 hb15
        refine QJ.off rfl rfl (cB hb15) rfl rfl ?_
        refine QJ.off rfl rfl (cB hb15) rfl rfl ?_
        refine QJ.off rfl rfl (cB hb15) rfl rfl ?_
        refine QJ.step (YldS.yld (y_pick_t (cB hb15) rfl)) rfl ?_
        exact QJ.cut_end ⟨rfl, rfl, rfl, trivial⟩
      · replace h14 := orF h14 hb15
        refine QJ.on rfl rfl (cB hb15) (YldS.yld (y_move rfl)) rfl ?_
        refine QJ.on rfl rfl (cB hb15) (YldS.yld (y_lenStr Tryd.runUnderlying9 rfl)) rfl ?_
        refine QJ.on rfl rfl (cB hb15) (YldS.yld (y_bin rfl rfl rfl)) rfl ?_
        refine QJ.step (YldS.yld (y_pick_f (cB hb15) rfl)) rfl ?_
        obtain rfl := Option.some.inj h14
        exact QJ.cut_end ⟨rfl, rfl, rfl, trivial⟩
    refine QJ.done ?_
    refine PJ.next ?_
    refine WJ.cond (t := t13) rfl (fun hb16 => ?_) (fun hb16 => ?_)
    · replace hm := ifT hm hb16
      refine WJ.seq ?_
      refine WJ.quiet ?_
      refine QJ.step (YldS.yld (y_assign rfl)) rfl ?_
      refine QJ.step (YldS.yld (y_assign rfl)) rfl ?_
      refine QJ.done ?_
      refine PJ.next ?_
      refine WJ.ret ?_
      refine PJ.then_ret ?_
      obtain rfl := Option.some.inj hm
      refine PJ.sel (L' := []) [] ⟨List.nodup_nil, rfl⟩ ?_
      exact PJ.retn (vs := [.int .i64 0, .bool false]) Tryd.results99 ⟨rfl, rfl, trivial⟩ ⟨rfl, rfl⟩
    · replace hm := ifF hm hb16
      refine WJ.skip ?_
      refine PJ.next ?_
      refine WJ.seq ?_
      refine WJ.quiet ?_
      refine QJ.step (YldS.yld (y_assign rfl)) rfl ?_
      refine QJ.done ?_
      refine PJ.next ?_
      obtain ⟨kj18, hk19, hm⟩ := withK_open hm
      refine WJ.join (X := Int) (fun (x : Int) => kj18 x = some r) (fun (x : Int) => [(0, str s1), (4, str digits2), (5, .int .i64 x)]) (fun (x : Int) => []) ?_ ?_
      · clear hk19
        refine WJ.seq ?_
        refine WJ.quiet ?_
        refine QJ.step (YldS.yld (y_move rfl)) rfl ?_
        refine QJ.step (YldS.yld (y_lenStr Tryd.runUnderlying9 rfl)) rfl ?_
        refine QJ.step (YldS.yld (y_move rfl)) rfl ?_
        refine QJ.done ?_
        refine PJ.next ?_
        refine WJ.block ?_
        refine WJ.sel (L' := (fun (x : Int × Int) => []) (0, 0)) [] ⟨List.nodup_nil, rfl⟩ ?_
        refine WJ.sub (m' := (fun (x : Int × Int) => [(0, str s1), (4, str digits2), (5, .int .i64 x.1), (27, .int .i64 (List.length digits2 : Int)), (28, .int .i64 x.2)]) (0, 0)) ⟨rfl, rfl, rfl, rfl, rfl, trivial⟩ ?_
        refine WJ.loop (X := Int × Int) (fun N (x : Int × Int) => i_ReadDecimal_l1 kj18 digits2 N x.1 x.2 = some r) (fun (x : Int × Int) => [(0, str s1), (4, str digits2), (5, .int .i64 x.1), (27, .int .i64 (List.length digits2 : Int)), (28, .int .i64 x.2)]) (fun (x : Int × Int) => []) ?_ N (0, 0) hm
        · rintro N ⟨n20, x21⟩ hI
          have hm := hI; clear hI
          cases N with
          | zero => cases hm
          | succ N =>
          unfold i_ReadDecimal_l1 at hm
          refine WJ.seq ?_
          refine WJ.quiet ?_
          refine QJ.step (YldS.yld (y_bin rfl rfl rfl)) rfl ?_
          refine QJ.done ?_
          refine PJ.next ?_
          refine WJ.seq ?_
          refine WJ.cond (t := decide (x21 < (List.length digits2 : Int))) rfl (fun hb22 => ?_) (fun hb22 => ?_)
          · replace hm := ifT hm hb22
            refine WJ.skip ?_
            refine PJ.next ?_
            refine WJ.seq ?_
            refine WJ.block ?_
            refine WJ.seq ?_
            refine WJ.quiet ?_
            refine QJ.step (YldS.yld (y_move rfl)) rfl ?_
            refine QJ.step (YldS.yld (y_assign rfl)) rfl ?_
            refine QJ.done ?_
            refine PJ.next ?_
            refine WJ.seq ?_
            refine WJ.seq ?_
            refine WJ.quiet ?_
            refine QJ.step (YldS.yld (y_move rfl)) rfl ?_
            refine QJ.step (YldS.yld (y_move rfl)) rfl ?_
            obtain ⟨c23, h24, hm⟩ := bindS hm
            refine QJ.step (YldS.yld (y_idxStr Tryd.runUnderlying9 rfl rfl h24)) rfl ?_
            obtain ⟨r25, h26, hm⟩ := bindS hm
            refine QJ.step (y_call Tryd.call118 rfl (RetG.quiet fun w hw => ok_i_isDigit h26 w )) rfl ?_
            refine QJ.step (YldS.yld (y_not rfl)) rfl ?_
            refine QJ.done ?_
            refine PJ.next ?_
            refine WJ.cond (t := !r25) rfl (fun hb27 => ?_) (fun hb27 => ?_)
            · replace hm := ifT hm hb27
              refine WJ.seq ?_
              refine WJ.quiet ?_
              refine QJ.step (YldS.yld (y_assign rfl)) rfl ?_
              refine QJ.step (YldS.yld (y_assign rfl)) rfl ?_
              refine QJ.done ?_
              refine PJ.next ?_
              refine WJ.ret ?_
              refine PJ.then_ret (PJ.block_ret (PJ.then_ret (PJ.then_ret (PJ.block_ret (PJ.then_ret ?_)))))
              obtain rfl := Option.some.inj hm
              refine PJ.sel (L' := []) [] ⟨List.nodup_nil, rfl⟩ ?_
              exact PJ.retn (vs := [.int .i64 0, .bool false]) Tryd.results99 ⟨rfl, rfl, trivial⟩ ⟨rfl, rfl⟩
            · replace hm := ifF hm hb27
              refine WJ.skip ?_
              refine PJ.next ?_
              refine WJ.quiet ?_
              refine QJ.step (YldS.yld (y_move rfl)) rfl ?_
              refine QJ.step (YldS.yld (y_bin rfl rfl rfl)) rfl ?_
              refine QJ.step (YldS.yld (y_move rfl)) rfl ?_
              refine QJ.step (YldS.yld (y_move rfl)) rfl ?_
              obtain ⟨c28, h29, hm⟩ := bindS hm
              refine QJ.step (YldS.yld (y_idxStr Tryd.runUnderlying9 rfl rfl h29)) rfl ?_
              refine QJ.step (YldS.yld (y_bin8 c28 (48 : UInt8) rfl rfl rfl)) rfl ?_
              refine QJ.step (YldS.yld (y_conv8 Tryd.runUnderlying5 Tryd.runUnderlying2 rfl)) rfl ?_
              refine QJ.step (YldS.yld (y_bin rfl rfl rfl)) rfl ?_
              refine QJ.step (YldS.yld (y_assign rfl)) rfl ?_
              refine QJ.done ?_
              refine PJ.block_normal (PJ.next ?_)
              refine WJ.quiet ?_
              refine QJ.step (YldS.yld (y_bin rfl rfl rfl)) rfl ?_
              refine QJ.step (YldS.yld (y_move rfl)) rfl ?_
              refine QJ.done ?_
              exact PJ.round (w64 ((w64 (10 * n20)) + (UInt8.toNat (c28 - (48 : UInt8)) : Int)), w64 (x21 + 1)) [] hm ⟨rfl, rfl, rfl, rfl, rfl, trivial⟩ ⟨List.nodup_nil, rfl⟩
          · replace hm := ifF hm hb22
            refine WJ.exit ?_
            refine PJ.then_exit (PJ.then_exit (PJ.block_exit ?_))
            exact PJ.joined n20 [] hm ⟨rfl, rfl, rfl, trivial⟩ ⟨List.nodup_nil, rfl⟩
      · rintro n17 hm
        subst hk19
        obtain ⟨kj31, hk32, hm⟩ := withK_open hm
        refine WJ.join (X := Int) (fun (x : Int) => kj31 x = some r) (fun (x : Int) => [(0, str s1), (5, .int .i64 x)]) (fun (x : Int) => []) ?_ ?_
        · clear hk32
          refine WJ.seq ?_
          refine WJ.quiet ?_
          refine QJ.step (YldS.yld (y_move rfl)) rfl ?_
          refine QJ.step (YldS.yld (y_lenStr Tryd.runUnderlying9 rfl)) rfl ?_
          refine QJ.step (YldS.yld (y_move rfl)) rfl ?_
          refine QJ.step (YldS.yld (y_lenStr Tryd.runUnderlying9 rfl)) rfl ?_
          refine QJ.step (YldS.yld (y_bin rfl rfl rfl)) rfl ?_
          refine QJ.done ?_
          refine PJ.next ?_
          refine WJ.cond (t := decide ((List.length digits2 : Int) < (List.length s1 : Int))) rfl (fun hb33 => ?_) (fun hb33 => ?_)
          · replace hm := ifT hm hb33
            refine WJ.quiet ?_
            refine QJ.step (YldS.yld (y_move rfl)) rfl ?_
            refine QJ.step (YldS.yld (y_neg rfl)) rfl ?_
            refine QJ.step (YldS.yld (y_assign rfl)) rfl ?_
            refine QJ.done ?_
            exact PJ.joined (w64 (0 - n17)) [] hm ⟨rfl, rfl, trivial⟩ ⟨List.nodup_nil, rfl⟩
          · replace hm := ifF hm hb33
            refine WJ.skip ?_
            exact PJ.joined n17 [] hm ⟨rfl, rfl, trivial⟩ ⟨List.nodup_nil, rfl⟩
        · rintro n30 hm
          subst hk32
          refine WJ.seq ?_
          refine WJ.seq ?_
          refine WJ.quiet ?_
          refine QJ.step (YldS.yld (y_move rfl)) rfl ?_
          obtain ⟨r34, h35, hm⟩ := bindS hm
          refine QJ.step (y_call Tryd.call73 rfl (RetG.quiet fun w hw => ok_i_Decimal h35 w (hT.st hw))) rfl ?_
          refine QJ.step (YldS.yld (y_move rfl)) rfl ?_
          refine QJ.step (YldS.yld (y_binS rfl rfl rfl)) rfl ?_
          refine QJ.done ?_
          refine PJ.next ?_
          refine WJ.cond (t := (r34 != s1)) rfl (fun hb36 => ?_) (fun hb36 => ?_)
          · replace hm := ifT hm hb36
            refine WJ.seq ?_
            refine WJ.quiet ?_
            refine QJ.step (YldS.yld (y_assign rfl)) rfl ?_
            refine QJ.step (YldS.yld (y_assign rfl)) rfl ?_
            refine QJ.done ?_
            refine PJ.next ?_
            refine WJ.ret ?_
            refine PJ.then_ret ?_
            obtain rfl := Option.some.inj hm
            refine PJ.sel (L' := []) [] ⟨List.nodup_nil, rfl⟩ ?_
            exact PJ.retn (vs := [.int .i64 0, .bool false]) Tryd.results99 ⟨rfl, rfl, trivial⟩ ⟨rfl, rfl⟩
          · replace hm := ifF hm hb36
            refine WJ.skip ?_
            refine PJ.next ?_
            refine WJ.seq ?_
            refine WJ.quiet ?_
            refine QJ.step (YldS.yld (y_move rfl)) rfl ?_
            refine QJ.step (YldS.yld (y_assign rfl)) rfl ?_
            refine QJ.step (YldS.yld (y_assign rfl)) rfl ?_
            refine QJ.done ?_
            refine PJ.next ?_
            refine WJ.ret ?_
            obtain rfl := Option.some.inj hm
            refine PJ.sel (L' := []) [] ⟨List.nodup_nil, rfl⟩ ?_
            exact PJ.retn (vs := [.int .i64 n30, .bool true]) Tryd.results99 ⟨rfl, rfl, trivial⟩ ⟨rfl, rfl⟩

set_option maxRecDepth 100000 in
set_option maxHeartbeats 1000000 in
theorem ok_i_ReadTrial {N : Nat} {s1 : Str} {r : Trial × Bool} (hm : i_ReadTrial N s1 = some r) (w : World) (hT : Tab Tryd.prog tabNm w (cx w).Fz) :
    Calls Tryd.prog 46 #[str s1] w (Ret (cx w) (tup [.agg (Trial.enc r.1).toArray, .bool r.2])) := by
  unfold i_ReadTrial at hm
  refine Calls.enter [str s1] Tryd.func46 rfl Tryd.ntmps46 rfl ?_
  refine WJ.seq ?_
  refine WJ.reg ?_
  refine SJ.alloc (cs := [.int .i64 0, .int .i64 0, .int .i64 0]) Tryd.zeroValue49 rfl rfl fun g2 => ?_
  refine SJ.q (YldS.yld (y_assign rfl)) rfl ?_
  refine SJ.nil ?_
  refine PJ.next ?_
  refine WJ.seq ?_
  refine WJ.quiet ?_
  refine QJ.step (YldS.yld (y_move rfl)) rfl ?_
  obtain ⟨r3, h4, hm⟩ := bindS hm
  refine QJ.step (y_call Tryd.call97 rfl (RetG.quiet fun w hw => ok_i_cut h4 w )) rfl ?_
  refine QJ.step (YldS.yld (y_move rfl)) rfl ?_
  refine QJ.step (YldS.yld (y_extract rfl rfl)) rfl ?_
  refine QJ.step (YldS.yld (y_extract rfl rfl)) rfl ?_
  refine QJ.step (YldS.yld (y_extract rfl rfl)) rfl ?_
  refine QJ.step (YldS.yld (y_assign rfl)) rfl ?_
  refine QJ.step (YldS.yld (y_assign rfl)) rfl ?_
  refine QJ.step (YldS.yld (y_assign rfl)) rfl ?_
  refine QJ.done ?_
  refine PJ.next ?_
  refine WJ.seq ?_
  refine WJ.quiet ?_
  refine QJ.step (YldS.yld (y_move rfl)) rfl ?_
  obtain ⟨r5, h6, hm⟩ := bindS hm
  refine QJ.step (y_call Tryd.call97 rfl (RetG.quiet fun w hw => ok_i_cut h6 w )) rfl ?_
  refine QJ.step (YldS.yld (y_move rfl)) rfl ?_
  refine QJ.step (YldS.yld (y_extract rfl rfl)) rfl ?_
  refine QJ.step (YldS.yld (y_extract rfl rfl)) rfl ?_
  refine QJ.step (YldS.yld (y_extract rfl rfl)) rfl ?_
  refine QJ.step (YldS.yld (y_assign rfl)) rfl ?_
  refine QJ.step (YldS.yld (y_assign rfl)) rfl ?_
  refine QJ.step (YldS.yld (y_assign rfl)) rfl ?_
  refine QJ.done ?_
  refine PJ.next ?_
  refine WJ.seq ?_
  refine WJ.quiet ?_
  refine QJ.step (YldS.yld (y_move rfl)) rfl ?_
  obtain ⟨r7, h8, hm⟩ := bindS hm
  refine QJ.step (y_call Tryd.call98 rfl (RetG.quiet fun w hw => ok_strings_CutSuffix h8 w )) rfl ?_
  refine QJ.step (YldS.yld (y_move rfl)) rfl ?_
  refine QJ.step (YldS.yld (y_extract rfl rfl)) rfl ?_
  refine QJ.step (YldS.yld (y_extract rfl rfl)) rfl ?_
  refine QJ.step (YldS.yld (y_assign rfl)) rfl ?_
  refine QJ.step (YldS.yld (y_assign rfl)) rfl ?_
  refine QJ.done ?_
  refine PJ.next ?_
  refine WJ.seq ?_
  refine WJ.seq ?_
  refine WJ.quiet ?_
  refine QJ.step (YldS.yld (y_move rfl)) rfl ?_
  refine QJ.step (YldS.yld (y_not rfl)) rfl ?_
  refine QJ.step (YldS.yld (y_move rfl)) rfl ?_
  obtain ⟨t9, h10, hm⟩ := bindS hm
  refine QJ.cut 3 [(2, pt g2 0), (4, str r3.1), (7, str r5.1), (8, str r7.1), (10, .bool r7.2), (40, .bool t9)] ?_ ?_
  · rcases Bool.eq_false_or_eq_true (!r3.2.2) with hb11 | hb11
    · obtain rfl := orT h10 hb11
      refine QJ.off rfl rfl (cB hb11) rfl rfl ?_
      refine QJ.off rfl rfl (cB hb11) rfl rfl ?_
      refine QJ.step (YldS.yld (y_pick_t (cB hb11) rfl)) rfl ?_
      exact QJ.cut_end ⟨rfl, rfl, rfl, rfl, rfl, rfl, trivial⟩
    · replace h10 := orF h10 hb11
      refine QJ.on rfl rfl (cB hb11) (YldS.yld (y_move rfl)) rfl ?_
      refine QJ.on rfl rfl (cB hb11) (YldS.yld (y_not rfl)) rfl ?_
      refine QJ.step (YldS.yld (y_pick_f (cB hb11) rfl)) rfl ?_
      obtain rfl := Option.some.inj h10
      exact QJ.cut_end ⟨rfl, rfl, rfl, rfl, rfl, rfl, trivial⟩
  refine QJ.step (YldS.yld (y_move rfl)) rfl ?_
  obtain ⟨t12, h13, hm⟩ := bindS hm
  refine QJ.cut 3 [(2, pt g2 0), (4, str r3.1), (7, str r5.1), (8, str r7.1), (44, .bool t12)] ?_ ?_
  · rcases Bool.eq_false_or_eq_true t9 with hb14 | hb14
    · obtain rfl := orT h13 hb14
      refine QJ.off rfl rfl (cB hb14) rfl rfl ?_
      refine QJ.off rfl rfl (cB hb14) rfl rfl ?_
      refine QJ.step (YldS.yld (y_pick_t (cB hb14) rfl)) rfl ?_
      exact QJ.cut_end ⟨rfl, rfl, rfl, rfl, rfl, trivial⟩
    · replace h13 := orF h13 hb14
      refine QJ.on rfl rfl (cB hb14) (YldS.yld (y_move rfl)) rfl ?_
      refine QJ.on rfl rfl (cB hb14) (YldS.yld (y_not rfl)) rfl ?_
      refine QJ.step (YldS.yld (y_pick_f (cB hb14) rfl)) rfl ?_
      obtain rfl := Option.some.inj h13
      exact QJ.cut_end ⟨rfl, rfl, rfl, rfl, rfl, trivial⟩
  refine QJ.done ?_
  refine PJ.next ?_
  refine WJ.cond (t := t12) rfl (fun hb15 => ?_) (fun hb15 => ?_)
  · replace hm := ifT hm hb15
    refine WJ.seq ?_
    refine WJ.reg ?_
    refine SJ.q (YldS.yld (y_build (parts := []) (places := [(0, 1), (1, 1), (2, 1)]) (r := [.int .i64 ((Trial.mk 0 0 0).strokes), .int .i64 ((Trial.mk 0 0 0).errors), .int .i64 ((Trial.mk 0 0 0).seconds)]) pl49 Tryd.zeroValue49 rfl rfl rfl rfl)) rfl ?_
    refine SJ.storeL (k := 0) (off := 0) (us := [.int .i64 ((Trial.mk 0 0 0).strokes), .int .i64 ((Trial.mk 0 0 0).errors), .int .i64 ((Trial.mk 0 0 0).seconds)]) rfl rfl rfl rfl Tryd.sizeOf49 rfl rfl ?_
    refine SJ.q (YldS.yld (y_assign rfl)) rfl ?_
    refine SJ.nil ?_
    refine PJ.next ?_
    refine WJ.ret ?_
    refine PJ.then_ret ?_
    obtain rfl := Option.some.inj hm
    exact PJ.retn_sel (vs := [.agg (Trial.enc (Trial.mk 0 0 0)).toArray, .bool false]) Tryd.results46 ⟨⟨0, g2, 49, [.int .i64 ((Trial.mk 0 0 0).strokes), .int .i64 ((Trial.mk 0 0 0).errors), .int .i64 ((Trial.mk 0 0 0).seconds)], rfl, rfl, .inl ⟨Tryd.isAgg49, Tryd.sizeOf49, rfl⟩⟩, rfl, trivial⟩ [] ⟨List.nodup_nil, rfl⟩ ⟨rfl, rfl⟩
  · replace hm := ifF hm hb15
    refine WJ.skip ?_
    refine PJ.next ?_
    refine WJ.seq ?_
    refine WJ.quiet ?_
    refine QJ.step (YldS.yld (y_move rfl)) rfl ?_
    obtain ⟨r16, h17, hm⟩ := bindS hm
    refine QJ.step (y_call Tryd.call99 rfl (RetG.quiet fun w hw => ok_i_ReadDecimal h17 w (hT.st hw))) rfl ?_
    refine QJ.step (YldS.yld (y_move rfl)) rfl ?_
    refine QJ.step (YldS.yld (y_extract rfl rfl)) rfl ?_
    refine QJ.step (YldS.yld (y_extract rfl rfl)) rfl ?_
    refine QJ.step (YldS.yld (y_assign rfl)) rfl ?_
    refine QJ.step (YldS.yld (y_assign rfl)) rfl ?_
    refine QJ.done ?_
    refine PJ.next ?_
    refine WJ.seq ?_
    refine WJ.quiet ?_
    refine QJ.step (YldS.yld (y_move rfl)) rfl ?_
    obtain ⟨r18, h19, hm⟩ := bindS hm
    refine QJ.step (y_call Tryd.call99 rfl (RetG.quiet fun w hw => ok_i_ReadDecimal h19 w (hT.st hw))) rfl ?_
    refine QJ.step (YldS.yld (y_move rfl)) rfl ?_
    refine QJ.step (YldS.yld (y_extract rfl rfl)) rfl ?_
    refine QJ.step (YldS.yld (y_extract rfl rfl)) rfl ?_
    refine QJ.step (YldS.yld (y_assign rfl)) rfl ?_
    refine QJ.step (YldS.yld (y_assign rfl)) rfl ?_
    refine QJ.done ?_
    refine PJ.next ?_
    refine WJ.seq ?_
    refine WJ.quiet ?_
    refine QJ.step (YldS.yld (y_move rfl)) rfl ?_
    obtain ⟨r20, h21, hm⟩ := bindS hm
    refine QJ.step (y_call Tryd.call99 rfl (RetG.quiet fun w hw => ok_i_ReadDecimal h21 w (hT.st hw))) rfl ?_
    refine QJ.step (YldS.yld (y_move rfl)) rfl ?_
    refine QJ.step (YldS.yld (y_extract rfl rfl)) rfl ?_
    refine QJ.step (YldS.yld (y_extract rfl rfl)) rfl ?_
    refine QJ.step (YldS.yld (y_assign rfl)) rfl ?_
    refine QJ.step (YldS.yld (y_assign rfl)) rfl ?_
    refine QJ.done ?_
    refine PJ.next ?_
    refine WJ.seq ?_
    refine WJ.reg ?_
    refine SJ.q (YldS.yld (y_move rfl)) rfl ?_
    refine SJ.q (YldS.yld (y_move rfl)) rfl ?_
    refine SJ.q (YldS.yld (y_move rfl)) rfl ?_
    refine SJ.q (YldS.yld (y_build (parts := [(0, .tmp 61), (1, .tmp 62), (2, .tmp 63)]) (places := [(0, 1), (1, 1), (2, 1)]) (r := [.int .i64 ((Trial.mk r16.1 r18.1 r20.1).strokes), .int .i64 ((Trial.mk r16.1 r18.1 r20.1).errors), .int .i64 ((Trial.mk r16.1 r18.1 r20.1).seconds)]) pl49 Tryd.zeroValue49 rfl rfl rfl rfl)) rfl ?_
    refine SJ.alloc (cs := [.int .i64 0, .int .i64 0, .int .i64 0]) Tryd.zeroValue49 rfl rfl fun g22 => ?_
    refine SJ.storeL (k := 0) (off := 0) (us := [.int .i64 ((Trial.mk r16.1 r18.1 r20.1).strokes), .int .i64 ((Trial.mk r16.1 r18.1 r20.1).errors), .int .i64 ((Trial.mk r16.1 r18.1 r20.1).seconds)]) rfl rfl rfl rfl Tryd.sizeOf49 rfl rfl ?_
    refine SJ.nil ?_
    refine PJ.next ?_
    refine WJ.seq ?_
    refine WJ.seq ?_
    refine WJ.quiet ?_
    refine QJ.step (YldS.yld (y_move rfl)) rfl ?_
    refine QJ.step (YldS.yld (y_not rfl)) rfl ?_
    refine QJ.step (YldS.yld (y_move rfl)) rfl ?_
    obtain ⟨t23, h24, hm⟩ := bindS hm
    refine QJ.cut 3 [(2, pt g2 0), (16, .bool r20.2), (17, pt g22 0), (70, .bool t23)] ?_ ?_
    · rcases Bool.eq_false_or_eq_true (!r16.2) with hb25 | hb25
      · obtain rfl := orT h24 hb25
        refine QJ.off rfl rfl (cB hb25) rfl rfl ?_
        refine QJ.off rfl rfl (cB hb25) rfl rfl ?_
        refine QJ.step (YldS.yld (y_pick_t (cB hb25) rfl)) rfl ?_
        exact QJ.cut_end ⟨rfl, rfl, rfl, rfl, trivial⟩
      · replace h24 := orF h24 hb25
        refine QJ.on rfl rfl (cB hb25) (YldS.yld (y_move rfl)) rfl ?_
        refine QJ.on rfl rfl (cB hb25) (YldS.yld (y_not rfl)) rfl ?_
        refine QJ.step (YldS.yld (y_pick_f (cB hb25) rfl)) rfl ?_
        obtain rfl := Option.some.inj h24
        exact QJ.cut_end ⟨rfl, rfl, rfl, rfl, trivial⟩
    refine QJ.step (YldS.yld (y_move rfl)) rfl ?_
    obtain ⟨t26, h27, hm⟩ := bindS hm
    refine QJ.cut 3 [(2, pt g2 0), (17, pt g22 0), (74, .bool t26)] ?_ ?_
    · rcases Bool.eq_false_or_eq_true t23 with hb28 | hb28
      · obtain rfl := orT h27 hb28
        refine QJ.off rfl rfl (cB hb28) rfl rfl ?_
        refine QJ.off rfl rfl (cB hb28) rfl rfl ?_
        refine QJ.step (YldS.yld (y_pick_t (cB hb28) rfl)) rfl ?_
        exact QJ.cut_end ⟨rfl, rfl, rfl, trivial⟩
      · replace h27 := orF h27 hb28
        refine QJ.on rfl rfl (cB hb28) (YldS.yld (y_move rfl)) rfl ?_
        refine QJ.on rfl rfl (cB hb28) (YldS.yld (y_not rfl)) rfl ?_
        refine QJ.step (YldS.yld (y_pick_f (cB hb28) rfl)) rfl ?_
        obtain rfl := Option.some.inj h27
        exact QJ.cut_end ⟨rfl, rfl, rfl, trivial⟩
    refine QJ.step (YldS.yld (y_move rfl)) rfl ?_
    obtain ⟨t29, h30, hm⟩ := bindS hm
    refine QJ.cut 4 [(2, pt g2 0), (17, pt g22 0), (79, .bool t29)] ?_ ?_
    · rcases Bool.eq_false_or_eq_true t26 with hb31 | hb31
      · obtain rfl := orT h30 hb31
        refine QJ.off rfl rfl (cB hb31) rfl rfl ?_
        refine QJ.off rfl rfl (cB hb31) rfl rfl ?_
        refine QJ.off rfl rfl (cB hb31) rfl rfl ?_
        refine QJ.step (YldS.yld (y_pick_t (cB hb31) rfl)) rfl ?_
        exact QJ.cut_end ⟨rfl, rfl, rfl, trivial⟩
      · replace h30 := orF h30 hb31
        refine QJ.on rfl rfl (cB hb31) (YldS.yld (y_loadBN (k := 0) (off := 0) (us := [.int .i64 ((Trial.mk r16.1 r18.1 r20.1).strokes), .int .i64 ((Trial.mk r16.1 r18.1 r20.1).errors), .int .i64 ((Trial.mk r16.1 r18.1 r20.1).seconds)]) rfl Tryd.isAgg49 Tryd.sizeOf49 rfl rfl)) rfl ?_
        obtain ⟨r32, h33, h30⟩ := bindS h30
        refine QJ.on rfl rfl (cB hb31) (y_call Tryd.call95 rfl (RetG.quiet fun w hw => ok_i_validTrial h33 w )) rfl ?_
        refine QJ.on rfl rfl (cB hb31) (YldS.yld (y_not rfl)) rfl ?_
        refine QJ.step (YldS.yld (y_pick_f (cB hb31) rfl)) rfl ?_
        obtain rfl := Option.some.inj h30
        exact QJ.cut_end ⟨rfl, rfl, rfl, trivial⟩
    refine QJ.done ?_
    refine PJ.next ?_
    refine WJ.cond (t := t29) rfl (fun hb34 => ?_) (fun hb34 => ?_)
    · replace hm := ifT hm hb34
      refine WJ.seq ?_
      refine WJ.reg ?_
      refine SJ.q (YldS.yld (y_build (parts := []) (places := [(0, 1), (1, 1), (2, 1)]) (r := [.int .i64 ((Trial.mk 0 0 0).strokes), .int .i64 ((Trial.mk 0 0 0).errors), .int .i64 ((Trial.mk 0 0 0).seconds)]) pl49 Tryd.zeroValue49 rfl rfl rfl rfl)) rfl ?_
      refine SJ.storeL (k := 1) (off := 0) (us := [.int .i64 ((Trial.mk 0 0 0).strokes), .int .i64 ((Trial.mk 0 0 0).errors), .int .i64 ((Trial.mk 0 0 0).seconds)]) rfl rfl rfl rfl Tryd.sizeOf49 rfl rfl ?_
      refine SJ.q (YldS.yld (y_assign rfl)) rfl ?_
      refine SJ.nil ?_
      refine PJ.next ?_
      refine WJ.ret ?_
      refine PJ.then_ret ?_
      obtain rfl := Option.some.inj hm
      exact PJ.retn_sel (vs := [.agg (Trial.enc (Trial.mk 0 0 0)).toArray, .bool false]) Tryd.results46 ⟨⟨1, g2, 49, [.int .i64 ((Trial.mk 0 0 0).strokes), .int .i64 ((Trial.mk 0 0 0).errors), .int .i64 ((Trial.mk 0 0 0).seconds)], rfl, rfl, .inl ⟨Tryd.isAgg49, Tryd.sizeOf49, rfl⟩⟩, rfl, trivial⟩ [] ⟨List.nodup_nil, rfl⟩ ⟨rfl, rfl⟩
    · replace hm := ifF hm hb34
      refine WJ.skip ?_
      refine PJ.next ?_
      refine WJ.seq ?_
      refine WJ.reg ?_
      refine SJ.q (YldS.yld (y_loadBN (k := 0) (off := 0) (us := [.int .i64 ((Trial.mk r16.1 r18.1 r20.1).strokes), .int .i64 ((Trial.mk r16.1 r18.1 r20.1).errors), .int .i64 ((Trial.mk r16.1 r18.1 r20.1).seconds)]) rfl Tryd.isAgg49 Tryd.sizeOf49 rfl rfl)) rfl ?_
      refine SJ.storeL (k := 1) (off := 0) (us := [.int .i64 ((Trial.mk r16.1 r18.1 r20.1).strokes), .int .i64 ((Trial.mk r16.1 r18.1 r20.1).errors), .int .i64 ((Trial.mk r16.1 r18.1 r20.1).seconds)]) rfl rfl rfl rfl Tryd.sizeOf49 rfl rfl ?_
      refine SJ.q (YldS.yld (y_assign rfl)) rfl ?_
      refine SJ.nil ?_
      refine PJ.next ?_
      refine WJ.ret ?_
      obtain rfl := Option.some.inj hm
      exact PJ.retn_sel (vs := [.agg (Trial.enc (Trial.mk r16.1 r18.1 r20.1)).toArray, .bool true]) Tryd.results46 ⟨⟨1, g2, 49, [.int .i64 ((Trial.mk r16.1 r18.1 r20.1).strokes), .int .i64 ((Trial.mk r16.1 r18.1 r20.1).errors), .int .i64 ((Trial.mk r16.1 r18.1 r20.1).seconds)], rfl, rfl, .inl ⟨Tryd.isAgg49, Tryd.sizeOf49, rfl⟩⟩, rfl, trivial⟩ [] ⟨List.nodup_nil, rfl⟩ ⟨rfl, rfl⟩

set_option maxRecDepth 100000 in
set_option maxHeartbeats 1000000 in
theorem ok_s_l01Dec {N : Nat} {n1 : Int} {r : Str} (hm : s_l01Dec N n1 = some r) (w : World)  :
    Calls Tryd.prog 76 #[.int .i64 n1] w (Ret (cx w) (str r)) := by
  unfold s_l01Dec at hm
  refine Calls.enter [.int .i64 n1] Tryd.func76 rfl Tryd.ntmps76 rfl ?_
  refine WJ.seq ?_
  refine WJ.quiet ?_
  refine QJ.step (YldS.yld (y_assign rfl)) rfl ?_
  refine QJ.done ?_
  refine PJ.next ?_
  refine WJ.seq ?_
  refine WJ.reg ?_
  refine SJ.buildSlice (R := fByte) (os := []) [] Tryd.runUnderlying22 Tryd.sizeOf5 Tryd.zeroValue5 rfl rfl rfl rfl rfl rfl fun v2 => ?_
  refine SJ.q (YldS.yld (y_assign rfl)) rfl ?_
  refine SJ.nil ?_
  refine PJ.next ?_
  obtain ⟨kj5, hk6, hm⟩ := withK_open hm
  refine WJ.join (X := (List UInt8) × Value) (fun (x : (List UInt8) × Value) => kj5 x.1 = some r) (fun (x : (List UInt8) × Value) => [(0, .int .i64 n1), (3, x.2)]) (fun (x : (List UInt8) × Value) => [row x.2 5 fByte x.1]) ?_ ?_
  · clear hk6
    refine WJ.seq ?_
    refine WJ.quiet ?_
    refine QJ.step (YldS.yld (y_move rfl)) rfl ?_
    refine QJ.step (YldS.yld (y_assign rfl)) rfl ?_
    refine QJ.done ?_
    refine PJ.next ?_
    refine WJ.block ?_
    refine WJ.sel (L' := (fun (x : (List UInt8) × Value × Int) => [row x.2.1 5 fByte x.1]) ([], v2, n1)) [0] ⟨by decide, rfl⟩ ?_
    refine WJ.sub (m' := (fun (x : (List UInt8) × Value × Int) => [(0, .int .i64 n1), (3, x.2.1), (4, .int .i64 x.2.2)]) ([], v2, n1)) ⟨rfl, rfl, rfl, trivial⟩ ?_
    refine WJ.loop (X := (List UInt8) × Value × Int) (fun N (x : (List UInt8) × Value × Int) => s_l01Dec_l1 kj5 N x.1 x.2.2 = some r) (fun (x : (List UInt8) × Value × Int) => [(0, .int .i64 n1), (3, x.2.1), (4, .int .i64 x.2.2)]) (fun (x : (List UInt8) × Value × Int) => [row x.2.1 5 fByte x.1]) ?_ N ([], v2, n1) hm
    · rintro N ⟨l7, v8, k9⟩ hI
      have hm := hI; clear hI
      cases N with
      | zero => cases hm
      | succ N =>
      unfold s_l01Dec_l1 at hm
      refine WJ.seq ?_
      refine WJ.seq ?_
      refine WJ.quiet ?_
      refine QJ.step (YldS.yld (y_move rfl)) rfl ?_
      refine QJ.step (YldS.yld (y_bin rfl rfl rfl)) rfl ?_
      refine QJ.done ?_
      refine PJ.next ?_
      refine WJ.cond (t := (k9 != 0)) rfl (fun hb10 => ?_) (fun hb10 => ?_)
      · replace hm := ifT hm hb10
        refine WJ.skip ?_
        refine PJ.next ?_
        refine WJ.seq ?_
        refine WJ.block ?_
        refine WJ.seq ?_
        refine WJ.quiet ?_
        refine QJ.step (YldS.yld (y_move rfl)) rfl ?_
        refine QJ.step (YldS.yld (y_rem rfl rfl (by decide))) rfl ?_
        refine QJ.step (YldS.yld (y_assign rfl)) rfl ?_
        refine QJ.done ?_
        refine PJ.next ?_
        obtain ⟨kj12, hk13, hm⟩ := withK_open hm
        refine WJ.join (X := Int) (fun (x : Int) => kj12 x = some r) (fun (x : Int) => [(0, .int .i64 n1), (3, v8), (4, .int .i64 k9), (5, .int .i64 x)]) (fun (x : Int) => [row v8 5 fByte l7]) ?_ ?_
        · clear hk13
          refine WJ.seq ?_
          refine WJ.quiet ?_
          refine QJ.step (YldS.yld (y_move rfl)) rfl ?_
          refine QJ.step (YldS.yld (y_bin rfl rfl rfl)) rfl ?_
          refine QJ.done ?_
          refine PJ.next ?_
          refine WJ.cond (t := decide ((Int.tmod k9 10) < 0)) rfl (fun hb14 => ?_) (fun hb14 => ?_)
          · replace hm := ifT hm hb14
            refine WJ.quiet ?_
            refine QJ.step (YldS.yld (y_move rfl)) rfl ?_
            refine QJ.step (YldS.yld (y_neg rfl)) rfl ?_
            refine QJ.step (YldS.yld (y_assign rfl)) rfl ?_
            refine QJ.done ?_
            exact PJ.joined (w64 (0 - (Int.tmod k9 10))) [0] hm ⟨rfl, rfl, rfl, rfl, trivial⟩ ⟨by decide, rfl⟩
          · replace hm := ifF hm hb14
            refine WJ.skip ?_
            exact PJ.joined (Int.tmod k9 10) [0] hm ⟨rfl, rfl, rfl, rfl, trivial⟩ ⟨by decide, rfl⟩
        · rintro d11 hm
          subst hk13
          refine WJ.reg ?_
          refine SJ.q (YldS.yld (y_move rfl)) rfl ?_
          refine SJ.q (YldS.yld (y_bin rfl rfl rfl)) rfl ?_
          refine SJ.q (YldS.yld (y_convTo8 Tryd.runUnderlying2 Tryd.runUnderlying5 rfl)) rfl ?_
          refine SJ.buildSlice (R := fByte) (os := [.tmp 20]) [UInt8.ofInt (w64 (48 + d11))] Tryd.runUnderlying22 Tryd.sizeOf5 Tryd.zeroValue5 rfl rfl rfl rfl rfl rfl fun v15 => ?_
          refine SJ.q (YldS.yld (y_move rfl)) rfl ?_
          obtain ⟨l16, h17, hm⟩ := bindS hm
          refine SJ.append (k := 0) (R := fByte) h17 rfl Tryd.underlying22 el5 rfl rfl rfl (fun w hw => (hw.row_rd (k := 1) rfl)) rfl fun v18 => ?_
          refine SJ.q (YldS.yld (y_assign rfl)) rfl ?_
          refine SJ.nil ?_
          refine PJ.block_normal (PJ.next ?_)
          refine WJ.quiet ?_
          refine QJ.step (YldS.yld (y_move rfl)) rfl ?_
          refine QJ.step (YldS.yld (y_quo rfl rfl (by decide))) rfl ?_
          refine QJ.step (YldS.yld (y_assign rfl)) rfl ?_
          refine QJ.done ?_
          exact PJ.round (l16, v18, w64 (Int.tdiv k9 10)) [0] hm ⟨rfl, rfl, rfl, trivial⟩ ⟨by decide, rfl⟩
      · replace hm := ifF hm hb10
        refine WJ.exit ?_
        refine PJ.then_exit (PJ.then_exit (PJ.block_exit ?_))
        exact PJ.joined (l7, v8) [0] hm ⟨rfl, rfl, trivial⟩ ⟨by decide, rfl⟩
  · rintro ⟨l3, v4⟩ hm
    subst hk6
    refine WJ.seq ?_
    refine WJ.seq ?_
    refine WJ.quiet ?_
    refine QJ.step (YldS.yld (y_move rfl)) rfl ?_
    refine QJ.step (YldS.yld (y_lenRow (k := 0) rfl Tryd.runUnderlying22 rfl)) rfl ?_
    refine QJ.step (YldS.yld (y_bin rfl rfl rfl)) rfl ?_
    refine QJ.done ?_
    refine PJ.next ?_
    refine WJ.cond (t := ((List.length l3 : Int) == 0)) rfl (fun hb19 => ?_) (fun hb19 => ?_)
    · replace hm := ifT hm hb19
      refine WJ.seq ?_
      refine WJ.quiet ?_
      refine QJ.step (YldS.yld (y_assign rfl)) rfl ?_
      refine QJ.done ?_
      refine PJ.next ?_
      refine WJ.ret ?_
      refine PJ.then_ret ?_
      obtain rfl := Option.some.inj hm
      refine PJ.sel (L' := []) [] ⟨List.nodup_nil, rfl⟩ ?_
      exact PJ.retn (vs := [str [48]]) Tryd.results76 ⟨rfl, trivial⟩ ⟨rfl, rfl⟩
    · replace hm := ifF hm hb19
      refine WJ.skip ?_
      refine PJ.next ?_
      refine WJ.seq ?_
      refine WJ.seq ?_
      refine WJ.quiet ?_
      refine QJ.step (YldS.yld (y_move rfl)) rfl ?_
      refine QJ.step (YldS.yld (y_bin rfl rfl rfl)) rfl ?_
      refine QJ.done ?_
      refine PJ.next ?_
      refine WJ.cond (t := decide (n1 < 0)) rfl (fun hb20 => ?_) (fun hb20 => ?_)
      · replace hm := ifT hm hb20
        refine WJ.seq ?_
        refine WJ.quiet ?_
        refine QJ.step (YldS.yld (y_move rfl)) rfl ?_
        refine QJ.step (YldS.yld (y_b2s Tryd.underlying22 Tryd.underlying9 Tryd.underlying5 (fun w hw => ⟨_, (hw.row_rd (k := 0) rfl)⟩) rfl)) rfl ?_
        obtain ⟨s21, h22, hm⟩ := bindS hm
        refine QJ.step (YldS.yld (y_cat h22 rfl rfl)) rfl ?_
        refine QJ.step (YldS.yld (y_assign rfl)) rfl ?_
        refine QJ.done ?_
        refine PJ.next ?_
        refine WJ.ret ?_
        refine PJ.then_ret ?_
        obtain rfl := Option.some.inj hm
        refine PJ.sel (L' := []) [] ⟨List.nodup_nil, rfl⟩ ?_
        exact PJ.retn (vs := [str s21]) Tryd.results76 ⟨rfl, trivial⟩ ⟨rfl, rfl⟩
      · replace hm := ifF hm hb20
        refine WJ.skip ?_
        refine PJ.next ?_
        refine WJ.seq ?_
        refine WJ.quiet ?_
        refine QJ.step (YldS.yld (y_move rfl)) rfl ?_
        refine QJ.step (YldS.yld (y_b2s Tryd.underlying22 Tryd.underlying9 Tryd.underlying5 (fun w hw => ⟨_, (hw.row_rd (k := 0) rfl)⟩) rfl)) rfl ?_
        refine QJ.step (YldS.yld (y_assign rfl)) rfl ?_
        refine QJ.done ?_
        refine PJ.next ?_
        refine WJ.ret ?_
        obtain rfl := Option.some.inj hm
        refine PJ.sel (L' := []) [] ⟨List.nodup_nil, rfl⟩ ?_
        exact PJ.retn (vs := [str l3]) Tryd.results76 ⟨rfl, trivial⟩ ⟨rfl, rfl⟩

set_option maxRecDepth 100000 in
set_option maxHeartbeats 1000000 in
theorem ok_s_l20Text {N : Nat} {x1 : Trial} {r : Str} (hm : s_l20Text N x1 = some r) (w : World) (ad2 : Addr) (ha3 : At w (cx w).Fz ad2 (fTrial.enc x1)) :
    Calls Tryd.prog 101 #[.pointer (some ad2)] w (Ret (cx w) (str r)) := by
  unfold s_l20Text at hm
  refine Calls.enter [.pointer (some ad2)] Tryd.func101 rfl Tryd.ntmps101 rfl ?_
  refine WJ.seq ?_
  refine WJ.quiet ?_
  refine QJ.step (YldS.yld (y_assign rfl)) rfl ?_
  refine QJ.done ?_
  refine PJ.next ?_
  refine WJ.seq ?_
  refine WJ.quiet_draw follows (by kernel_rfl) ?_
  refine QJ.step (YldS.yld (y_move rfl)) rfl ?_
  refine QJ.step (YldS.yld (y_nil rfl)) rfl ?_
  refine QJ.step (YldS.yld (y_fld (ad := ad2) fld49_0 rfl)) rfl ?_
  refine QJ.step (YldS.yld (y_load1 (v := .int .i64 x1.strokes) Tryd.isAgg2 (ha3.sub 0 1) St.frozenC rfl)) rfl ?_
  obtain ⟨r4, h5, hm⟩ := bindS hm
  refine QJ.step (y_call Tryd.call76 rfl (RetG.quiet fun w hw => ok_s_l01Dec h5 w )) rfl ?_
  obtain ⟨s6, h7, hm⟩ := bindS hm
  refine QJ.step (YldS.yld (y_cat h7 rfl rfl)) rfl ?_
  refine QJ.step (YldS.yld (y_move rfl)) rfl ?_
  refine QJ.step (YldS.yld (y_nil rfl)) rfl ?_
  refine QJ.step (YldS.yld (y_fld (ad := ad2) fld49_1 rfl)) rfl ?_
  refine QJ.step (YldS.yld (y_load1 (v := .int .i64 x1.errors) Tryd.isAgg2 (ha3.sub 1 1) St.frozenC rfl)) rfl ?_
  obtain ⟨r8, h9, hm⟩ := bindS hm
  refine QJ.step (y_call Tryd.call76 rfl (RetG.quiet fun w hw => ok_s_l01Dec h9 w )) rfl ?_
  obtain ⟨s10, h11, hm⟩ := bindS hm
  refine QJ.step (YldS.yld (y_cat h11 rfl rfl)) rfl ?_
  obtain ⟨s12, h13, hm⟩ := bindS hm
  refine QJ.step (YldS.yld (y_cat h13 rfl rfl)) rfl ?_
  refine QJ.step (YldS.yld (y_move rfl)) rfl ?_
  refine QJ.step (YldS.yld (y_nil rfl)) rfl ?_
  refine QJ.step (YldS.yld (y_fld (ad := ad2) fld49_2 rfl)) rfl ?_
  refine QJ.step (YldS.yld (y_load1 (v := .int .i64 x1.seconds) Tryd.isAgg2 (ha3.sub 2 1) St.frozenC rfl)) rfl ?_
  obtain ⟨r14, h15, hm⟩ := bindS hm
  refine QJ.step (y_call Tryd.call76 rfl (RetG.quiet fun w hw => ok_s_l01Dec h15 w )) rfl ?_
  obtain ⟨s16, h17, hm⟩ := bindS hm
  refine QJ.step (YldS.yld (y_cat h17 rfl rfl)) rfl ?_
  obtain ⟨s18, h19, hm⟩ := bindS hm
  refine QJ.step (YldS.yld (y_cat h19 rfl rfl)) rfl ?_
  refine QJ.step (YldS.yld (y_assign rfl)) rfl ?_
  refine QJ.done ?_
  refine PJ.next ?_
  refine WJ.ret ?_
  obtain rfl := Option.some.inj hm
  refine PJ.sel (L' := []) [] ⟨List.nodup_nil, rfl⟩ ?_
  exact PJ.retn (vs := [str s18]) Tryd.results101 ⟨rfl, trivial⟩ ⟨rfl, rfl⟩

set_option maxRecDepth 100000 in
set_option maxHeartbeats 1000000 in
theorem ok_s_l00Src_text {s1 : L00Src} {list5 : List Str} {g2 : Nat} {r : Str × L00Src} (hm : s_l00Src_text s1 list5 = some r) (w : World) (S : Nat → Prop) (v3 : Value) (hr4 : RdS w (Cx.Fz ⟨w, S⟩) v3 fByte.rp s1.code) (v6 : Value) (hr7 : RdS w (Cx.Fz ⟨w, S⟩) v6 fStr.rp list5) (hA : (box g2 117 [v3, .int .i64 s1.at_, .int .u64 s1.seed]).holds w S) :
    Calls Tryd.prog 105 #[pt g2 0, v6] w (RetG ⟨w, S⟩ fun u L => (u = str r.1 ∧ L = [box g2 117 [v3, .int .i64 r.2.at_, .int .u64 r.2.seed]])) := by
  unfold s_l00Src_text at hm
  refine Calls.enter1 hA [pt g2 0, v6] Tryd.func105 rfl Tryd.ntmps105 rfl ?_
  refine WJ.seq ?_
  refine WJ.quiet ?_
  refine QJ.step (YldS.yld (y_assign rfl)) rfl ?_
  refine QJ.done ?_
  refine PJ.next ?_
  refine WJ.seq ?_
  refine WJ.reg ?_
  refine SJ.q (YldS.yld (y_move rfl)) rfl ?_
  refine SJ.q (YldS.yld (y_move rfl)) rfl ?_
  refine SJ.q (YldS.yld (y_move rfl)) rfl ?_
  refine SJ.q (YldS.yld (y_lenS Tryd.runUnderlying88 hr7 rfl)) rfl ?_
  obtain ⟨r8, h9, hm⟩ := bindS hm
  refine SJ.call1 (k := 0) rfl Tryd.call68 rfl (fun w S hw hA hO => ok_s_l00Src_pick h9 w S _ (hr4.st1 hw hO) hA) rfl ?_
  rintro _ _ ⟨rfl, rfl⟩
  obtain ⟨e10, h11, hm⟩ := bindS hm
  obtain ⟨ad12, _, rfl, ha13, hy14⟩ := hr7.elem h11
  refine SJ.q (YldS.yld (hy14 Tryd.runUnderlying88 Tryd.sizeOf9 rfl rfl)) rfl ?_
  refine SJ.q (YldS.yld (y_load1 (v := str e10) Tryd.isAgg9 ha13 St.frozenC rfl)) rfl ?_
  refine SJ.q (YldS.yld (y_assign rfl)) rfl ?_
  refine SJ.nil ?_
  refine PJ.next ?_
  refine WJ.ret ?_
  obtain rfl := Option.some.inj hm
  refine PJ.sel (L' := [box g2 117 [v3, .int .i64 r8.2.at_, .int .u64 r8.2.seed]]) [0] ⟨by decide, rfl⟩ ?_
  exact PJ.retn (vs := [str e10]) Tryd.results105 ⟨rfl, trivial⟩ ⟨rfl, rfl⟩

set_option maxRecDepth 100000 in
set_option maxHeartbeats 1000000 in
theorem ok_s_l01Spoil {s1 : L00Src} {t5 : Str} {g2 : Nat} {r : Str × L00Src} (hm : s_l01Spoil s1 t5 = some r) (w : World) (S : Nat → Prop) (v3 : Value) (hr4 : RdS w (Cx.Fz ⟨w, S⟩) v3 fByte.rp s1.code) (hA : (box g2 117 [v3, .int .i64 s1.at_, .int .u64 s1.seed]).holds w S) :
    Calls Tryd.prog 102 #[pt g2 0, str t5] w (RetG ⟨w, S⟩ fun u L => (u = str r.1 ∧ L = [box g2 117 [v3, .int .i64 r.2.at_, .int .u64 r.2.seed]])) := by
  unfold s_l01Spoil at hm
  refine Calls.enter1 hA [pt g2 0, str t5] Tryd.func102 rfl Tryd.ntmps102 rfl ?_
  refine WJ.seq ?_
  refine WJ.quiet ?_
  refine QJ.step (YldS.yld (y_assign rfl)) rfl ?_
  refine QJ.done ?_
  refine PJ.next ?_
  obtain ⟨kj9, hk10, hm⟩ := withK_open hm
  refine WJ.join (X := Int × Int × Str) (fun (x : Int × Int × Str) => kj9 x.1 x.2.1 x.2.2 = some r) (fun (x : Int × Int × Str) => [(1, str x.2.2)]) (fun (x : Int × Int × Str) => [box g2 117 [v3, .int .i64 x.1, .int .u64 x.2.1]]) ?_ ?_
  · clear hk10
    refine WJ.seq ?_
    refine WJ.reg ?_
    refine SJ.q (YldS.yld (y_move rfl)) rfl ?_
    obtain ⟨r11, h12, hm⟩ := bindS hm
    refine SJ.call1 (k := 0) rfl Tryd.call68 rfl (fun w S hw hA hO => ok_s_l00Src_pick h12 w S _ (hr4.st1 hw hO) hA) rfl ?_
    rintro _ _ ⟨rfl, rfl⟩
    refine SJ.nil ?_
    refine PJ.next ?_
    refine WJ.block ?_
    refine WJ.seq ?_
    refine WJ.quiet ?_
    refine QJ.step (YldS.yld (y_bin rfl rfl rfl)) rfl ?_
    refine QJ.step (YldS.yld (y_assign rfl)) rfl ?_
    refine QJ.done ?_
    refine PJ.next ?_
    refine WJ.cond (t := (r11.1 == 0)) rfl (fun hb13 => ?_) (fun hb13 => ?_)
    · replace hm := ifT hm hb13
      refine WJ.seq ?_
      refine WJ.reg ?_
      refine SJ.q (YldS.yld (y_move rfl)) rfl ?_
      refine SJ.q (YldS.yld (y_move rfl)) rfl ?_
      refine SJ.q (YldS.yld (y_lenStr Tryd.runUnderlying9 rfl)) rfl ?_
      refine SJ.q (YldS.yld (y_bin rfl rfl rfl)) rfl ?_
      obtain ⟨r14, h15, hm⟩ := bindS hm
      refine SJ.call1 (k := 0) rfl Tryd.call68 rfl (fun w S hw hA hO => ok_s_l00Src_pick h15 w S _ (hr4.st1 hw hO) hA) rfl ?_
      rintro _ _ ⟨rfl, rfl⟩
      refine SJ.q (YldS.yld (y_assign rfl)) rfl ?_
      refine SJ.nil ?_
      refine PJ.next ?_
      obtain ⟨s16, h17, hm⟩ := bindS hm
      obtain ⟨r19, h20, hm⟩ := bindS hm
      obtain ⟨s21, h22, hm⟩ := bindS hm
      obtain ⟨s23, h24, hm⟩ := bindS hm
      obtain ⟨s25, h26, hm⟩ := bindS hm
      refine WJ.draws (N := 12) (listed0 := #[false, false, false, false, false, false, false, false, false, false, false, false]) [] follows rfl rfl ?_
      refine RJ.first 0 (listed' := #[true, false, false, false, false, false, false, false, false, false, false, false]) [] rfl (by kernel_rfl) rfl ⟨List.nodup_nil, rfl⟩ (y_move rfl) rfl ?_
      refine RJ.first 1 (listed' := #[true, true, false, false, false, false, false, false, false, false, false, false]) [] rfl (by kernel_rfl) rfl ⟨List.nodup_nil, rfl⟩ (y_move rfl) rfl ?_
      refine RJ.first 2 (listed' := #[true, true, true, false, false, false, false, false, false, false, false, false]) [] rfl (by kernel_rfl) rfl ⟨List.nodup_nil, rfl⟩ (y_subStr (i := none) (j := some r14.1) h17 Tryd.runUnderlying9 rfl trivial ⟨_, rfl⟩) rfl ?_
      refine RJ.first 3 (listed' := #[true, true, true, true, false, false, false, false, false, false, false, false]) [] rfl (by kernel_rfl) rfl ⟨List.nodup_nil, rfl⟩ (y_move rfl) rfl ?_
      refine RJ.first 7 (listed' := #[true, true, true, true, false, false, false, true, false, false, false, false]) [] rfl (by kernel_rfl) rfl ⟨List.nodup_nil, rfl⟩ (y_move rfl) rfl ?_
      refine RJ.first 8 (listed' := #[true, true, true, true, false, false, false, true, true, false, false, false]) [] rfl (by kernel_rfl) rfl ⟨List.nodup_nil, rfl⟩ (y_move rfl) rfl ?_
      refine RJ.first 9 (listed' := #[true, true, true, true, false, false, false, true, true, true, false, false]) [] rfl (by kernel_rfl) rfl ⟨List.nodup_nil, rfl⟩ (y_subStr (i := some r14.1) (j := none) h24 Tryd.runUnderlying9 rfl ⟨_, rfl⟩ trivial) rfl ?_
      refine RJ.step1 4 [] (by kernel_rfl) ⟨List.nodup_nil, rfl⟩ ?_
      refine RO.of (listed' := #[true, true, true, true, true, false, false, true, true, true, false, false]) rfl rfl ?_
      refine SJ.buildSlice (R := fStr) (os := [.const (str [32]), .const (str [48]), .const (str [45]), .const (str [120]), .const (str [49]), .const (str [57]), .const (str [46])]) [[32], [48], [45], [120], [49], [57], [46]] Tryd.runUnderlying88 Tryd.sizeOf9 Tryd.zeroValue9 rfl rfl rfl rfl rfl rfl fun v18 => ?_
      refine SJ.nil ?_
      refine PJ.draw ?_
      refine RJ.step1 5 [] (by kernel_rfl) ⟨List.nodup_nil, rfl⟩ ?_
      refine RO.of (listed' := #[true, true, true, true, true, true, false, true, true, true, false, false]) rfl rfl ?_
      refine SJ.call2 (k := 1) rfl Tryd.call105 rfl (fun w S hw hA hO hB => ok_s_l00Src_text h20 w S _ (hr4.st1 hw hO) _ (hB.row_rd (j := 0) (k := 1) rfl rfl) hA) rfl ?_
      rintro _ _ ⟨rfl, rfl⟩
      refine SJ.nil ?_
      refine PJ.draw ?_
      refine RJ.first 6 (listed' := #[true, true, true, true, true, true, true, true, true, true, false, false]) [] rfl (by kernel_rfl) rfl ⟨List.nodup_nil, rfl⟩ (y_cat h22 rfl rfl) rfl ?_
      refine RJ.first 10 (listed' := #[true, true, true, true, true, true, true, true, true, true, true, false]) [] rfl (by kernel_rfl) rfl ⟨List.nodup_nil, rfl⟩ (y_cat h26 rfl rfl) rfl ?_
      refine RJ.first 11 (listed' := #[true, true, true, true, true, true, true, true, true, true, true, true]) [] rfl (by kernel_rfl) rfl ⟨List.nodup_nil, rfl⟩ (y_assign rfl) rfl ?_
      refine RJ.fin [] (by kernel_rfl) ⟨List.nodup_nil, rfl⟩ ?_
      refine PJ.block_normal ?_
      exact PJ.joined (r19.2.at_, r19.2.seed, s25) [0] hm ⟨rfl, trivial⟩ ⟨by decide, rfl⟩
    · replace hm := ifF hm hb13
      refine WJ.seq ?_
      refine WJ.quiet ?_
      refine QJ.step (YldS.yld (y_bin rfl rfl rfl)) rfl ?_
      refine QJ.step (YldS.yld (y_assign rfl)) rfl ?_
      refine QJ.done ?_
      refine PJ.next ?_
      refine WJ.cond (t := (r11.1 == 1)) rfl (fun hb27 => ?_) (fun hb27 => ?_)
      · replace hm := ifT hm hb27
        refine WJ.seq ?_
        refine WJ.quiet ?_
        refine QJ.step (YldS.yld (y_move rfl)) rfl ?_
        refine QJ.step (YldS.yld (y_binS rfl rfl rfl)) rfl ?_
        refine QJ.done ?_
        refine PJ.next ?_
        refine WJ.cond (t := (t5 != [])) rfl (fun hb28 => ?_) (fun hb28 => ?_)
        · replace hm := ifT hm hb28
          refine WJ.seq ?_
          refine WJ.reg ?_
          refine SJ.q (YldS.yld (y_move rfl)) rfl ?_
          refine SJ.q (YldS.yld (y_move rfl)) rfl ?_
          refine SJ.q (YldS.yld (y_lenStr Tryd.runUnderlying9 rfl)) rfl ?_
          obtain ⟨r29, h30, hm⟩ := bindS hm
          refine SJ.call1 (k := 0) rfl Tryd.call68 rfl (fun w S hw hA hO => ok_s_l00Src_pick h30 w S _ (hr4.st1 hw hO) hA) rfl ?_
          rintro _ _ ⟨rfl, rfl⟩
          refine SJ.q (YldS.yld (y_assign rfl)) rfl ?_
          refine SJ.nil ?_
          refine PJ.next ?_
          refine WJ.quiet_draw follows (by kernel_rfl) ?_
          refine QJ.step (YldS.yld (y_move rfl)) rfl ?_
          refine QJ.step (YldS.yld (y_move rfl)) rfl ?_
          obtain ⟨s31, h32, hm⟩ := bindS hm
          refine QJ.step (YldS.yld (y_subStr (i := none) (j := some r29.1) h32 Tryd.runUnderlying9 rfl trivial ⟨_, rfl⟩)) rfl ?_
          refine QJ.step (YldS.yld (y_move rfl)) rfl ?_
          refine QJ.step (YldS.yld (y_move rfl)) rfl ?_
          refine QJ.step (YldS.yld (y_bin rfl rfl rfl)) rfl ?_
          obtain ⟨s33, h34, hm⟩ := bindS hm
          refine QJ.step (YldS.yld (y_subStr (i := some (w64 (r29.1 + 1))) (j := none) h34 Tryd.runUnderlying9 rfl ⟨_, rfl⟩ trivial)) rfl ?_
          obtain ⟨s35, h36, hm⟩ := bindS hm
          refine QJ.step (YldS.yld (y_cat h36 rfl rfl)) rfl ?_
          refine QJ.step (YldS.yld (y_assign rfl)) rfl ?_
          refine QJ.done ?_
          refine PJ.block_normal ?_
          exact PJ.joined (r29.2.at_, r29.2.seed, s35) [0] hm ⟨rfl, trivial⟩ ⟨by decide, rfl⟩
        · replace hm := ifF hm hb28
          refine WJ.skip ?_
          refine PJ.block_normal ?_
          exact PJ.joined (r11.2.at_, r11.2.seed, t5) [0] hm ⟨rfl, trivial⟩ ⟨by decide, rfl⟩
      · replace hm := ifF hm hb27
        refine WJ.skip ?_
        refine PJ.block_normal ?_
        exact PJ.joined (r11.2.at_, r11.2.seed, t5) [0] hm ⟨rfl, trivial⟩ ⟨by decide, rfl⟩
  · rintro ⟨x6, x7, t8⟩ hm
    subst hk10
    refine WJ.seq ?_
    refine WJ.quiet ?_
    refine QJ.step (YldS.yld (y_move rfl)) rfl ?_
    refine QJ.step (YldS.yld (y_assign rfl)) rfl ?_
    refine QJ.done ?_
    refine PJ.next ?_
    refine WJ.ret ?_
    obtain rfl := Option.some.inj hm
    refine PJ.sel (L' := [box g2 117 [v3, .int .i64 x6, .int .u64 x7]]) [0] ⟨by decide, rfl⟩ ?_
    exact PJ.retn (vs := [str t8]) Tryd.results102 ⟨rfl, trivial⟩ ⟨rfl, rfl⟩

set_option maxRecDepth 100000 in
set_option maxHeartbeats 1000000 in
theorem ok_s_DrawReadTrial {N : Nat} {code1 : List UInt8} {r : Str} (hm : s_DrawReadTrial N code1 = some r) (w : World) (v2 : Value) (hr3 : RdS w (cx w).Fz v2 fByte.rp code1) :
    Calls Tryd.prog 47 #[v2] w (Ret (cx w) (str r)) := by
  unfold s_DrawReadTrial at hm
  refine Calls.enter [v2] Tryd.func47 rfl Tryd.ntmps47 rfl ?_
  refine WJ.seq ?_
  refine WJ.quiet ?_
  refine QJ.step (YldS.yld (y_assign rfl)) rfl ?_
  refine QJ.done ?_
  refine PJ.next ?_
  refine WJ.seq ?_
  refine WJ.reg ?_
  refine SJ.q (YldS.yld (y_move rfl)) rfl ?_
  obtain ⟨r4, h5, hm⟩ := bindS hm
  refine SJ.call Tryd.call51 rfl (fun w hw => ok_s_l00From h5 w _ (hr3.st hw)) rfl ?_
  rintro _ _ ⟨g6, rfl, rfl⟩
  refine SJ.q (YldS.yld (y_assign rfl)) rfl ?_
  refine SJ.nil ?_
  refine PJ.next ?_
  refine WJ.seq ?_
  refine WJ.reg ?_
  refine SJ.q (YldS.yld (y_move rfl)) rfl ?_
  obtain ⟨r7, h8, hm⟩ := bindS hm
  refine SJ.call1 (k := 0) rfl Tryd.call100 rfl (fun w S hw hA hO => ok_s_l20New h8 w S _ (hr3.st1 hw hO) hA) rfl ?_
  rintro _ _ ⟨rfl, rfl⟩
  refine SJ.alloc (cs := [.int .i64 0, .int .i64 0, .int .i64 0]) Tryd.zeroValue49 rfl rfl fun g9 => ?_
  refine SJ.storeL (k := 0) (off := 0) (us := [.int .i64 r7.1.strokes, .int .i64 r7.1.errors, .int .i64 r7.1.seconds]) rfl rfl rfl rfl Tryd.sizeOf49 rfl rfl ?_
  refine SJ.nil ?_
  refine PJ.next ?_
  refine WJ.seq ?_
  refine WJ.quiet ?_
  obtain ⟨r10, h11, hm⟩ := bindS hm
  refine QJ.step (y_call Tryd.call101 rfl (RetG.quiet fun w hw => ok_s_l20Text h11 w _ (hw.box_at (k := 0) rfl))) rfl ?_
  refine QJ.step (YldS.yld (y_assign rfl)) rfl ?_
  refine QJ.done ?_
  refine PJ.next ?_
  refine WJ.seq ?_
  refine WJ.seq ?_
  refine WJ.reg ?_
  refine SJ.q (YldS.yld (y_move rfl)) rfl ?_
  obtain ⟨r12, h13, hm⟩ := bindS hm
  refine SJ.call1 (k := 1) rfl Tryd.call69 rfl (fun w S hw hA hO => ok_s_l00Src_one h13 w S _ (hr3.st1 hw hO) hA) rfl ?_
  rintro _ _ ⟨rfl, rfl⟩
  refine SJ.nil ?_
  refine PJ.next ?_
  refine WJ.cond (t := r12.1) rfl (fun hb14 => ?_) (fun hb14 => ?_)
  · replace hm := ifT hm hb14
    refine WJ.seq ?_
    refine WJ.reg ?_
    refine SJ.q (YldS.yld (y_move rfl)) rfl ?_
    refine SJ.q (YldS.yld (y_move rfl)) rfl ?_
    obtain ⟨r15, h16, hm⟩ := bindS hm
    refine SJ.call1 (k := 0) rfl Tryd.call102 rfl (fun w S hw hA hO => ok_s_l01Spoil h16 w S _ (hr3.st1 hw hO) hA) rfl ?_
    rintro _ _ ⟨rfl, rfl⟩
    refine SJ.q (YldS.yld (y_assign rfl)) rfl ?_
    refine SJ.nil ?_
    refine PJ.next ?_
    refine WJ.ret ?_
    refine PJ.then_ret ?_
    obtain rfl := Option.some.inj hm
    refine PJ.sel (L' := []) [] ⟨List.nodup_nil, rfl⟩ ?_
    exact PJ.retn (vs := [str r15.1]) Tryd.results47 ⟨rfl, trivial⟩ ⟨rfl, rfl⟩
  · replace hm := ifF hm hb14
    refine WJ.skip ?_
    refine PJ.next ?_
    refine WJ.seq ?_
    refine WJ.quiet ?_
    refine QJ.step (YldS.yld (y_move rfl)) rfl ?_
    refine QJ.step (YldS.yld (y_assign rfl)) rfl ?_
    refine QJ.done ?_
    refine PJ.next ?_
    refine WJ.ret ?_
    obtain rfl := Option.some.inj hm
    refine PJ.sel (L' := []) [] ⟨List.nodup_nil, rfl⟩ ?_
    exact PJ.retn (vs := [str r10]) Tryd.results47 ⟨rfl, trivial⟩ ⟨rfl, rfl⟩

end Go.Proofs.YtppdmciboalhfaaDoor
