/-
  The walks: a call hands back what its plain function computes, where that has a value. No other conditions.
-/
import Derived.Test.YtoojddajhalimaaDoorFnDrillLinesM
import Derived.Test.YtoojddajhalimaaDoorChecked
import Derived.Test.YtoojddajhalimaaDoorRows
import Derived.Test.YtoojddajhalimaaDoorFnDrillLinesS
namespace Go.Proofs.YtoojddajhalimaaDoor
open Go.RowKit Go.Proofs
set_option linter.unusedVariables false
set_option linter.unusedSimpArgs false

def tabNm : String := (Rows.fnDrillLinesRow.laid.map (fun x => x.1)).getD 2 default

theorem follows : Tryd.prog.follows .mixedOrders = true := by kernel_rfl

def Drill.enc (x : Drill) : List Value := [str x.name, str x.letters, .int .i64 x.minutes]
def fDrill : FRp Drill := ⟨3, Drill.enc, fun _ => rfl, by decide, fun x u hu => by
  simp only [Drill.enc, List.mem_cons, List.not_mem_nil, or_false] at hu
  rcases hu with rfl | rfl | rfl <;> rfl⟩

theorem pl75 : PlacesOk Tryd.prog 75 [(0, 1), (1, 1), (2, 1)] := ⟨_, Tryd.runUnderlying75, fun w => by simp [Tryd.sizeOf3, Tryd.sizeOf22, Tryd.sizeOf73]⟩
theorem fld75_1 : FieldOk Tryd.prog 75 1 1 3 0 := ⟨_, _, Tryd.runUnderlying75, rfl, rfl, rfl, Tryd.sizeOf3⟩
theorem fld75_0 : FieldOk Tryd.prog 75 0 0 22 0 := ⟨_, _, Tryd.runUnderlying75, rfl, rfl, rfl, Tryd.sizeOf22⟩
theorem fld75_2 : FieldOk Tryd.prog 75 2 2 73 0 := ⟨_, _, Tryd.runUnderlying75, rfl, rfl, rfl, Tryd.sizeOf73⟩
theorem pl42 : PlacesOk Tryd.prog 42 [(0, 1), (1, 1), (2, 1)] := ⟨_, Tryd.runUnderlying42, fun w => by simp [Tryd.sizeOf2, Tryd.sizeOf9]⟩
theorem fld42_1 : FieldOk Tryd.prog 42 1 1 9 0 := ⟨_, _, Tryd.runUnderlying42, rfl, rfl, rfl, Tryd.sizeOf9⟩
theorem fld42_2 : FieldOk Tryd.prog 42 2 2 2 0 := ⟨_, _, Tryd.runUnderlying42, rfl, rfl, rfl, Tryd.sizeOf2⟩
set_option maxRecDepth 100000 in
theorem el42 : ElemOk Tryd.prog 42 3 (fDrill.enc (Drill.mk [] [] 0)) := ⟨_, _, Tryd.type42, rfl, rfl, rfl, by decide⟩
theorem fld42_0 : FieldOk Tryd.prog 42 0 0 9 0 := ⟨_, _, Tryd.runUnderlying42, rfl, rfl, rfl, Tryd.sizeOf9⟩
set_option maxRecDepth 100000 in
theorem zv79 : ∀ w, (zeroValue 79).run Tryd.prog w = .ok (.agg (List.toArray (encs fBool (List.replicate 256 false)))) w := fun w => by
  rw [Tryd.zeroValue79]
  refine congrArg (fun z => Result.ok (Value.agg z) w) ?_
  kernel_rfl
set_option maxRecDepth 100000 in
theorem el9 : ElemOk Tryd.prog 9 1 (fStr.enc []) := ⟨_, _, Tryd.type9, rfl, rfl, rfl, by decide⟩
set_option maxRecDepth 100000 in
theorem el8_5 : Elem8 Tryd.prog 5 := ⟨_, Tryd.type5, rfl, rfl, rfl⟩
theorem eq42 : EqOk Tryd.prog 42 Drill.enc Drill.beq := ⟨Tryd.eqGuardType42, fun x y w => by
  have hf : Tryd.prog.fieldsOf 42 = #[{ name := "Name", type := 9, offset := 0, embedded := false, tag := "", pkgPath := "", byteOffset := 0 }, { name := "Letters", type := 9, offset := 1, embedded := false, tag := "", pkgPath := "", byteOffset := 16 }, { name := "Minutes", type := 2, offset := 2, embedded := false, tag := "", pkgPath := "", byteOffset := 32 }] := by kernel_rfl
  have ht : Tryd.prog.underlying 42 = some (.struct (Tryd.prog.fieldsOf 42)) := by rw [hf]; exact Tryd.underlying42
  rw [run_equalIn_struct w 9999 42 _ _ ht Tryd.stoodInHeld42, hf]
  obtain ⟨a0, a1, a2⟩ := x
  obtain ⟨b0, b1, b2⟩ := y
  simp only [Op.eqFields, Drill.enc, Drill.beq]
  simp [part, str, Tryd.isAgg2, Tryd.isAgg9, run_equalIn_int _ _ _ _ _ _ _ Tryd.underlying2, run_equalIn_string _ _ _ _ _ Tryd.underlying9, ByteArray.toList_eq]
  (repeat' split) <;> simp_all⟩

set_option maxRecDepth 100000 in
set_option maxHeartbeats 1000000 in
theorem ok_w_a2Long {code1 : List UInt8} {more4 : List UInt8} {r : Bool} (hm : w_a2Long code1 more4 = some r) (w : World) (v2 : Value) (hr3 : RdS w (cx w).Fz v2 fByte.rp code1) (v5 : Value) (hr6 : RdS w (cx w).Fz v5 fByte.rp more4) :
    Calls Tryd.prog 21 #[v2, v5] w (Ret (cx w) (.bool r)) := by
  unfold w_a2Long at hm
  refine Calls.enter [v2, v5] Tryd.func21 rfl Tryd.ntmps21 rfl ?_
  refine WJ.seq ?_
  refine WJ.quiet ?_
  refine QJ.step (YldS.yld (y_assign rfl)) rfl ?_
  refine QJ.done ?_
  refine PJ.next ?_
  refine WJ.seq ?_
  refine WJ.quiet ?_
  refine QJ.step (YldS.yld (y_move rfl)) rfl ?_
  refine QJ.step (YldS.yld (y_lenS Tryd.runUnderlying22 hr3 rfl)) rfl ?_
  refine QJ.step (YldS.yld (y_bin rfl rfl rfl)) rfl ?_
  refine QJ.step (YldS.yld (y_move rfl)) rfl ?_
  obtain ⟨t7, h8, hm⟩ := bindS hm
  refine QJ.cut 4 [(12, .bool t7)] ?_ ?_
  · rcases Bool.eq_false_or_eq_true (decide ((List.length code1 : Int) > 3000)) with hb9 | hb9
    · obtain rfl := orT h8 hb9
      refine QJ.off rfl rfl (cB hb9) rfl rfl ?_
      refine QJ.off rfl rfl (cB hb9) rfl rfl ?_
      refine QJ.off rfl rfl (cB hb9) rfl rfl ?_
      refine QJ.step (YldS.yld (y_pick_t (cB hb9) rfl)) rfl ?_
      exact QJ.cut_end ⟨rfl, trivial⟩
    · replace h8 := orF h8 hb9
      refine QJ.on rfl rfl (cB hb9) (YldS.yld (y_move rfl)) rfl ?_
      refine QJ.on rfl rfl (cB hb9) (YldS.yld (y_lenS Tryd.runUnderlying22 hr6 rfl)) rfl ?_
      refine QJ.on rfl rfl (cB hb9) (YldS.yld (y_bin rfl rfl rfl)) rfl ?_
      refine QJ.step (YldS.yld (y_pick_f (cB hb9) rfl)) rfl ?_
      obtain rfl := Option.some.inj h8
      exact QJ.cut_end ⟨rfl, trivial⟩
  refine QJ.step (YldS.yld (y_assign rfl)) rfl ?_
  refine QJ.done ?_
  refine PJ.next ?_
  refine WJ.ret ?_
  obtain rfl := Option.some.inj hm
  refine PJ.sel (L' := []) [] ⟨List.nodup_nil, rfl⟩ ?_
  exact PJ.retn (vs := [.bool t7]) Tryd.results21 ⟨rfl, trivial⟩ ⟨rfl, rfl⟩

set_option maxRecDepth 100000 in
set_option maxHeartbeats 1000000 in
theorem ok_s_l00From {code1 : List UInt8} {r : L00Src} (hm : s_l00From code1 = some r) (w : World) (v2 : Value) (hr3 : RdS w (cx w).Fz v2 fByte.rp code1) :
    Calls Tryd.prog 43 #[v2] w (RetG (cx w) fun u L => ∃ (u1 : Nat), (u = pt u1 0 ∧ L = [box u1 75 [v2, .int .i64 r.at_, .int .u64 r.seed]])) := by
  unfold s_l00From at hm
  refine Calls.enter [v2] Tryd.func43 rfl Tryd.ntmps43 rfl ?_
  refine WJ.seq ?_
  refine WJ.quiet ?_
  refine QJ.step (YldS.yld (y_assign rfl)) rfl ?_
  refine QJ.done ?_
  refine PJ.next ?_
  refine WJ.seq ?_
  refine WJ.reg ?_
  refine SJ.q (YldS.yld (y_move rfl)) rfl ?_
  refine SJ.q (YldS.yld (y_build (parts := [(0, .tmp 3)]) (places := [(0, 1), (1, 1), (2, 1)]) (r := [v2, .int .i64 0, .int .u64 0]) pl75 Tryd.zeroValue75 rfl rfl (show _ = [(0, [v2])] from by simp only [List.map, RdS.cells1 hr3]) rfl)) rfl ?_
  refine SJ.box (cs := [v2, .int .i64 0, .int .u64 0]) rfl rfl rfl fun g4 => ?_
  refine SJ.q (YldS.yld (y_assign rfl)) rfl ?_
  refine SJ.nil ?_
  refine PJ.next ?_
  refine WJ.ret ?_
  obtain rfl := Option.some.inj hm
  refine PJ.sel (L' := [box g4 75 [v2, .int .i64 0, .int .u64 0]]) [0] ⟨by decide, rfl⟩ ?_
  exact PJ.retn (vs := [pt g4 0]) Tryd.results43 ⟨rfl, trivial⟩ ⟨_, rfl, rfl⟩

set_option maxRecDepth 100000 in
set_option maxHeartbeats 1000000 in
theorem ok_s_l00Src_next {s1 : L00Src} {g2 : Nat} {r : Int × L00Src} (hm : s_l00Src_next s1 = some r) (w : World) (S : Nat → Prop) (v3 : Value) (hr4 : RdS w (Cx.Fz ⟨w, S⟩) v3 fByte.rp s1.code) (hA : (box g2 75 [v3, .int .i64 s1.at_, .int .u64 s1.seed]).holds w S) :
    Calls Tryd.prog 65 #[pt g2 0] w (RetG ⟨w, S⟩ fun u L => (u = .int .i64 r.1 ∧ L = [box g2 75 [v3, .int .i64 r.2.at_, .int .u64 r.2.seed]])) := by
  unfold s_l00Src_next at hm
  refine Calls.enter1 hA [pt g2 0] Tryd.func65 rfl Tryd.ntmps65 rfl ?_
  refine WJ.seq ?_
  refine WJ.quiet ?_
  refine QJ.step (YldS.yld (y_assign rfl)) rfl ?_
  refine QJ.done ?_
  refine PJ.next ?_
  refine WJ.seq ?_
  refine WJ.quiet ?_
  refine QJ.step (YldS.yld (y_assign rfl)) rfl ?_
  refine QJ.done ?_
  refine PJ.next ?_
  obtain ⟨kj6, hk7, hm⟩ := withK_open hm
  refine WJ.join (X := Int) (fun (x : Int) => kj6 x = some r) (fun (x : Int) => [(0, pt g2 0), (3, .int .i64 x)]) (fun (x : Int) => [box g2 75 [v3, .int .i64 s1.at_, .int .u64 s1.seed]]) ?_ ?_
  · clear hk7
    refine WJ.seq ?_
    refine WJ.quiet_draw follows (by kernel_rfl) ?_
    refine QJ.step (YldS.yld (y_move rfl)) rfl ?_
    refine QJ.step (YldS.yld (y_nil rfl)) rfl ?_
    refine QJ.step (YldS.yld (y_fldB (o := 0) fld75_1 rfl)) rfl ?_
    refine QJ.step (YldS.yld (y_loadB (k := 0) (off := 1) (v := .int .i64 s1.at_) rfl Tryd.isAgg3 rfl rfl)) rfl ?_
    refine QJ.step (YldS.yld (y_move rfl)) rfl ?_
    refine QJ.step (YldS.yld (y_nil rfl)) rfl ?_
    refine QJ.step (YldS.yld (y_fldB (o := 0) fld75_0 rfl)) rfl ?_
    refine QJ.step (YldS.yld (y_loadB (k := 0) (off := 0) (v := v3) rfl Tryd.isAgg22 rfl rfl)) rfl ?_
    refine QJ.step (YldS.yld (y_lenS Tryd.runUnderlying22 hr4 rfl)) rfl ?_
    refine QJ.step (YldS.yld (y_bin rfl rfl rfl)) rfl ?_
    refine QJ.done ?_
    refine PJ.next ?_
    refine WJ.cond (t := decide (s1.at_ < (List.length s1.code : Int))) rfl (fun hb8 => ?_) (fun hb8 => ?_)
    · replace hm := ifT hm hb8
      refine WJ.quiet_draw follows (by kernel_rfl) ?_
      refine QJ.step (YldS.yld (y_move rfl)) rfl ?_
      refine QJ.step (YldS.yld (y_nil rfl)) rfl ?_
      refine QJ.step (YldS.yld (y_fldB (o := 0) fld75_0 rfl)) rfl ?_
      refine QJ.step (YldS.yld (y_loadB (k := 0) (off := 0) (v := v3) rfl Tryd.isAgg22 rfl rfl)) rfl ?_
      refine QJ.step (YldS.yld (y_move rfl)) rfl ?_
      refine QJ.step (YldS.yld (y_nil rfl)) rfl ?_
      refine QJ.step (YldS.yld (y_fldB (o := 0) fld75_1 rfl)) rfl ?_
      refine QJ.step (YldS.yld (y_loadB (k := 0) (off := 1) (v := .int .i64 s1.at_) rfl Tryd.isAgg3 rfl rfl)) rfl ?_
      obtain ⟨e9, h10, hm⟩ := bindS hm
      obtain ⟨ad11, _, rfl, ha12, hy13⟩ := hr4.elem h10
      refine QJ.step (YldS.yld (hy13 Tryd.runUnderlying22 Tryd.sizeOf5 rfl rfl)) rfl ?_
      refine QJ.step (YldS.yld (y_load1 (v := .int .u8 (UInt8.toNat e9 : Int)) Tryd.isAgg5 ha12 St.frozenC rfl)) rfl ?_
      refine QJ.step (YldS.yld (y_conv8 Tryd.runUnderlying5 Tryd.runUnderlying3 rfl)) rfl ?_
      refine QJ.step (YldS.yld (y_assign rfl)) rfl ?_
      refine QJ.done ?_
      exact PJ.joined (UInt8.toNat e9 : Int) [0] hm ⟨rfl, rfl, trivial⟩ ⟨by decide, rfl⟩
    · replace hm := ifF hm hb8
      refine WJ.skip ?_
      exact PJ.joined 0 [0] hm ⟨rfl, rfl, trivial⟩ ⟨by decide, rfl⟩
  · rintro b5 hm
    subst hk7
    refine WJ.seq ?_
    refine WJ.reg ?_
    refine SJ.q (YldS.yld (y_move rfl)) rfl ?_
    refine SJ.q (YldS.yld (y_nil rfl)) rfl ?_
    refine SJ.q (YldS.yld (y_fldB (o := 0) fld75_1 rfl)) rfl ?_
    refine SJ.q (YldS.yld (y_loadB (k := 0) (off := 1) (v := .int .i64 s1.at_) rfl Tryd.isAgg3 rfl rfl)) rfl ?_
    refine SJ.q (YldS.yld (y_bin rfl rfl rfl)) rfl ?_
    refine SJ.q (YldS.yld (y_nil rfl)) rfl ?_
    refine SJ.q (YldS.yld (y_fldB (o := 0) fld75_1 rfl)) rfl ?_
    refine SJ.storeL (k := 0) (off := 1) (us := [.int .i64 (w64 (s1.at_ + 1))]) rfl rfl rfl rfl Tryd.sizeOf3 rfl rfl ?_
    refine SJ.nil ?_
    refine PJ.next ?_
    refine WJ.seq ?_
    refine WJ.reg ?_
    refine SJ.q (YldS.yld (y_move rfl)) rfl ?_
    refine SJ.q (YldS.yld (y_move rfl)) rfl ?_
    refine SJ.q (YldS.yld (y_nil rfl)) rfl ?_
    refine SJ.q (YldS.yld (y_fldB (o := 0) fld75_2 rfl)) rfl ?_
    refine SJ.q (YldS.yld (y_loadB (k := 0) (off := 2) (v := .int .u64 s1.seed) rfl Tryd.isAgg73 rfl rfl)) rfl ?_
    refine SJ.q (YldS.yld (y_bin rfl rfl rfl)) rfl ?_
    refine SJ.q (YldS.yld (y_move rfl)) rfl ?_
    refine SJ.q (YldS.yld (y_convI Tryd.runUnderlying3 Tryd.runUnderlying73 rfl)) rfl ?_
    refine SJ.q (YldS.yld (y_bin rfl rfl rfl)) rfl ?_
    refine SJ.q (YldS.yld (y_bin rfl rfl rfl)) rfl ?_
    refine SJ.q (YldS.yld (y_nil rfl)) rfl ?_
    refine SJ.q (YldS.yld (y_fldB (o := 0) fld75_2 rfl)) rfl ?_
    refine SJ.storeL (k := 0) (off := 2) (us := [.int .u64 (IntKind.u64.wrap ((IntKind.u64.wrap ((IntKind.u64.wrap (s1.seed * 6364136223846793005)) + (IntKind.u64.wrap b5))) + 1442695040888963407))]) rfl rfl rfl rfl Tryd.sizeOf73 rfl rfl ?_
    refine SJ.nil ?_
    refine PJ.next ?_
    refine WJ.seq ?_
    refine WJ.seq ?_
    refine WJ.quiet_draw follows (by kernel_rfl) ?_
    refine QJ.step (YldS.yld (y_move rfl)) rfl ?_
    refine QJ.step (YldS.yld (y_nil rfl)) rfl ?_
    refine QJ.step (YldS.yld (y_fldB (o := 0) fld75_1 rfl)) rfl ?_
    refine QJ.step (YldS.yld (y_loadB (k := 0) (off := 1) (v := .int .i64 (w64 (s1.at_ + 1))) rfl Tryd.isAgg3 rfl rfl)) rfl ?_
    refine QJ.step (YldS.yld (y_move rfl)) rfl ?_
    refine QJ.step (YldS.yld (y_nil rfl)) rfl ?_
    refine QJ.step (YldS.yld (y_fldB (o := 0) fld75_0 rfl)) rfl ?_
    refine QJ.step (YldS.yld (y_loadB (k := 0) (off := 0) (v := v3) rfl Tryd.isAgg22 rfl rfl)) rfl ?_
    refine QJ.step (YldS.yld (y_lenS Tryd.runUnderlying22 hr4 rfl)) rfl ?_
    refine QJ.step (YldS.yld (y_bin rfl rfl rfl)) rfl ?_
    refine QJ.done ?_
    refine PJ.next ?_
    refine WJ.cond (t := decide ((w64 (s1.at_ + 1)) ≤ (List.length s1.code : Int))) rfl (fun hb14 => ?_) (fun hb14 => ?_)
    · replace hm := ifT hm hb14
      refine WJ.seq ?_
      refine WJ.quiet ?_
      refine QJ.step (YldS.yld (y_move rfl)) rfl ?_
      refine QJ.step (YldS.yld (y_assign rfl)) rfl ?_
      refine QJ.done ?_
      refine PJ.next ?_
      refine WJ.ret ?_
      refine PJ.then_ret ?_
      obtain rfl := Option.some.inj hm
      refine PJ.sel (L' := [box g2 75 [v3, .int .i64 (w64 (s1.at_ + 1)), .int .u64 (IntKind.u64.wrap ((IntKind.u64.wrap ((IntKind.u64.wrap (s1.seed * 6364136223846793005)) + (IntKind.u64.wrap b5))) + 1442695040888963407))]]) [0] ⟨by decide, rfl⟩ ?_
      exact PJ.retn (vs := [.int .i64 b5]) Tryd.results65 ⟨rfl, trivial⟩ ⟨rfl, rfl⟩
    · replace hm := ifF hm hb14
      refine WJ.skip ?_
      refine PJ.next ?_
      refine WJ.seq ?_
      refine WJ.quiet ?_
      refine QJ.step (YldS.yld (y_move rfl)) rfl ?_
      refine QJ.step (YldS.yld (y_nil rfl)) rfl ?_
      refine QJ.step (YldS.yld (y_fldB (o := 0) fld75_2 rfl)) rfl ?_
      refine QJ.step (YldS.yld (y_loadB (k := 0) (off := 2) (v := .int .u64 (IntKind.u64.wrap ((IntKind.u64.wrap ((IntKind.u64.wrap (s1.seed * 6364136223846793005)) + (IntKind.u64.wrap b5))) + 1442695040888963407))) rfl Tryd.isAgg73 rfl rfl)) rfl ?_
      refine QJ.step (YldS.yld (y_shru rfl rfl rfl)) rfl ?_
      refine QJ.step (YldS.yld (y_andu rfl rfl rfl)) rfl ?_
      refine QJ.step (YldS.yld (y_convI Tryd.runUnderlying73 Tryd.runUnderlying2 rfl)) rfl ?_
      refine QJ.step (YldS.yld (y_assign rfl)) rfl ?_
      refine QJ.done ?_
      refine PJ.next ?_
      refine WJ.ret ?_
      obtain rfl := Option.some.inj hm
      refine PJ.sel (L' := [box g2 75 [v3, .int .i64 (w64 (s1.at_ + 1)), .int .u64 (IntKind.u64.wrap ((IntKind.u64.wrap ((IntKind.u64.wrap (s1.seed * 6364136223846793005)) + (IntKind.u64.wrap b5))) + 1442695040888963407))]]) [0] ⟨by decide, rfl⟩ ?_
      exact PJ.retn (vs := [.int .i64 (w64 (uand (ushr (IntKind.u64.wrap ((IntKind.u64.wrap ((IntKind.u64.wrap (s1.seed * 6364136223846793005)) + (IntKind.u64.wrap b5))) + 1442695040888963407)) 40) 255))]) Tryd.results65 ⟨rfl, trivial⟩ ⟨rfl, rfl⟩

set_option maxRecDepth 100000 in
set_option maxHeartbeats 1000000 in
theorem ok_s_l00Src_pick {s1 : L00Src} {n5 : Int} {g2 : Nat} {r : Int × L00Src} (hm : s_l00Src_pick s1 n5 = some r) (w : World) (S : Nat → Prop) (v3 : Value) (hr4 : RdS w (Cx.Fz ⟨w, S⟩) v3 fByte.rp s1.code) (hA : (box g2 75 [v3, .int .i64 s1.at_, .int .u64 s1.seed]).holds w S) :
    Calls Tryd.prog 56 #[pt g2 0, .int .i64 n5] w (RetG ⟨w, S⟩ fun u L => (u = .int .i64 r.1 ∧ L = [box g2 75 [v3, .int .i64 r.2.at_, .int .u64 r.2.seed]])) := by
  unfold s_l00Src_pick at hm
  refine Calls.enter1 hA [pt g2 0, .int .i64 n5] Tryd.func56 rfl Tryd.ntmps56 rfl ?_
  refine WJ.seq ?_
  refine WJ.quiet ?_
  refine QJ.step (YldS.yld (y_assign rfl)) rfl ?_
  refine QJ.done ?_
  refine PJ.next ?_
  refine WJ.seq ?_
  refine WJ.seq ?_
  refine WJ.quiet ?_
  refine QJ.step (YldS.yld (y_move rfl)) rfl ?_
  refine QJ.step (YldS.yld (y_bin rfl rfl rfl)) rfl ?_
  refine QJ.done ?_
  refine PJ.next ?_
  refine WJ.cond (t := decide (n5 ≤ 1)) rfl (fun hb6 => ?_) (fun hb6 => ?_)
  · replace hm := ifT hm hb6
    refine WJ.seq ?_
    refine WJ.quiet ?_
    refine QJ.step (YldS.yld (y_assign rfl)) rfl ?_
    refine QJ.done ?_
    refine PJ.next ?_
    refine WJ.ret ?_
    refine PJ.then_ret ?_
    obtain rfl := Option.some.inj hm
    refine PJ.sel (L' := [box g2 75 [v3, .int .i64 s1.at_, .int .u64 s1.seed]]) [0] ⟨by decide, rfl⟩ ?_
    exact PJ.retn (vs := [.int .i64 0]) Tryd.results56 ⟨rfl, trivial⟩ ⟨rfl, rfl⟩
  · replace hm := ifF hm hb6
    refine WJ.skip ?_
    refine PJ.next ?_
    refine WJ.seq ?_
    refine WJ.reg ?_
    refine SJ.q (YldS.yld (y_move rfl)) rfl ?_
    obtain ⟨r7, h8, hm⟩ := bindS hm
    refine SJ.call1 (k := 0) rfl Tryd.call65 rfl (fun w S hw hA hO => ok_s_l00Src_next h8 w S _ (hr4.st1 hw hO) hA) rfl ?_
    rintro _ _ ⟨rfl, rfl⟩
    refine SJ.q (YldS.yld (y_assign rfl)) rfl ?_
    refine SJ.nil ?_
    refine PJ.next ?_
    obtain ⟨kj12, hk13, hm⟩ := withK_open hm
    refine WJ.join (X := Int × Int × Int) (fun (x : Int × Int × Int) => kj12 x.1 x.2.1 x.2.2 = some r) (fun (x : Int × Int × Int) => [(1, .int .i64 n5), (5, .int .i64 x.2.2)]) (fun (x : Int × Int × Int) => [box g2 75 [v3, .int .i64 x.1, .int .u64 x.2.1]]) ?_ ?_
    · clear hk13
      refine WJ.seq ?_
      refine WJ.quiet ?_
      refine QJ.step (YldS.yld (y_move rfl)) rfl ?_
      refine QJ.step (YldS.yld (y_bin rfl rfl rfl)) rfl ?_
      refine QJ.done ?_
      refine PJ.next ?_
      refine WJ.cond (t := decide (n5 > 200)) rfl (fun hb14 => ?_) (fun hb14 => ?_)
      · replace hm := ifT hm hb14
        refine WJ.reg ?_
        refine SJ.q (YldS.yld (y_move rfl)) rfl ?_
        refine SJ.q (YldS.yld (y_bin rfl rfl rfl)) rfl ?_
        refine SJ.q (YldS.yld (y_move rfl)) rfl ?_
        obtain ⟨r15, h16, hm⟩ := bindS hm
        refine SJ.call1 (k := 0) rfl Tryd.call65 rfl (fun w S hw hA hO => ok_s_l00Src_next h16 w S _ (hr4.st1 hw hO) hA) rfl ?_
        rintro _ _ ⟨rfl, rfl⟩
        refine SJ.q (YldS.yld (y_bin rfl rfl rfl)) rfl ?_
        refine SJ.q (YldS.yld (y_assign rfl)) rfl ?_
        refine SJ.nil ?_
        exact PJ.joined (r15.2.at_, r15.2.seed, w64 ((w64 (r7.1 * 256)) + r15.1)) [0] hm ⟨rfl, rfl, trivial⟩ ⟨by decide, rfl⟩
      · replace hm := ifF hm hb14
        refine WJ.skip ?_
        exact PJ.joined (r7.2.at_, r7.2.seed, r7.1) [0] hm ⟨rfl, rfl, trivial⟩ ⟨by decide, rfl⟩
    · rintro ⟨x9, x10, x11⟩ hm
      subst hk13
      refine WJ.seq ?_
      refine WJ.quiet ?_
      refine QJ.step (YldS.yld (y_move rfl)) rfl ?_
      refine QJ.step (YldS.yld (y_move rfl)) rfl ?_
      obtain ⟨q17, h18, hm⟩ := bindS hm
      refine QJ.step (YldS.yld (y_rem' h18 rfl rfl)) rfl ?_
      refine QJ.step (YldS.yld (y_assign rfl)) rfl ?_
      refine QJ.done ?_
      refine PJ.next ?_
      refine WJ.ret ?_
      obtain rfl := Option.some.inj hm
      refine PJ.sel (L' := [box g2 75 [v3, .int .i64 x9, .int .u64 x10]]) [0] ⟨by decide, rfl⟩ ?_
      exact PJ.retn (vs := [.int .i64 q17]) Tryd.results56 ⟨rfl, trivial⟩ ⟨rfl, rfl⟩

set_option maxRecDepth 100000 in
set_option maxHeartbeats 1000000 in
theorem ok_s_l00Src_text {s1 : L00Src} {list5 : List Str} {g2 : Nat} {r : Str × L00Src} (hm : s_l00Src_text s1 list5 = some r) (w : World) (S : Nat → Prop) (v3 : Value) (hr4 : RdS w (Cx.Fz ⟨w, S⟩) v3 fByte.rp s1.code) (v6 : Value) (hr7 : RdS w (Cx.Fz ⟨w, S⟩) v6 fStr.rp list5) (hA : (box g2 75 [v3, .int .i64 s1.at_, .int .u64 s1.seed]).holds w S) :
    Calls Tryd.prog 66 #[pt g2 0, v6] w (RetG ⟨w, S⟩ fun u L => (u = str r.1 ∧ L = [box g2 75 [v3, .int .i64 r.2.at_, .int .u64 r.2.seed]])) := by
  unfold s_l00Src_text at hm
  refine Calls.enter1 hA [pt g2 0, v6] Tryd.func66 rfl Tryd.ntmps66 rfl ?_
  refine WJ.seq ?_
  refine WJ.quiet ?_
  refine QJ.step (YldS.yld (y_assign rfl)) rfl ?_
  refine QJ.done ?_
  refine PJ.next ?_
  refine WJ.seq ?_
  refine WJ.reg ?_
  refine SJ.q (YldS.yld (y_move rfl)) rfl ?_
  refine SJ.q (YldS.yld (y_move rfl)) rfl ?_
  refine SJ.q (YldS.yld (y_move rfl)) rfl ?_
  refine SJ.q (YldS.yld (y_lenS Tryd.runUnderlying60 hr7 rfl)) rfl ?_
  obtain ⟨r8, h9, hm⟩ := bindS hm
  refine SJ.call1 (k := 0) rfl Tryd.call56 rfl (fun w S hw hA hO => ok_s_l00Src_pick h9 w S _ (hr4.st1 hw hO) hA) rfl ?_
  rintro _ _ ⟨rfl, rfl⟩
  obtain ⟨e10, h11, hm⟩ := bindS hm
  obtain ⟨ad12, _, rfl, ha13, hy14⟩ := hr7.elem h11
  refine SJ.q (YldS.yld (hy14 Tryd.runUnderlying60 Tryd.sizeOf9 rfl rfl)) rfl ?_
  refine SJ.q (YldS.yld (y_load1 (v := str e10) Tryd.isAgg9 ha13 St.frozenC rfl)) rfl ?_
  refine SJ.q (YldS.yld (y_assign rfl)) rfl ?_
  refine SJ.nil ?_
  refine PJ.next ?_
  refine WJ.ret ?_
  obtain rfl := Option.some.inj hm
  refine PJ.sel (L' := [box g2 75 [v3, .int .i64 r8.2.at_, .int .u64 r8.2.seed]]) [0] ⟨by decide, rfl⟩ ?_
  exact PJ.retn (vs := [str e10]) Tryd.results66 ⟨rfl, trivial⟩ ⟨rfl, rfl⟩

set_option maxRecDepth 100000 in
set_option maxHeartbeats 1000000 in
theorem ok_s_l21New {s1 : L00Src} {name5 : Str} {g2 : Nat} {r : Drill × L00Src} (hm : s_l21New s1 name5 = some r) (w : World) (S : Nat → Prop) (v3 : Value) (hr4 : RdS w (Cx.Fz ⟨w, S⟩) v3 fByte.rp s1.code) (hA : (box g2 75 [v3, .int .i64 s1.at_, .int .u64 s1.seed]).holds w S) :
    Calls Tryd.prog 57 #[pt g2 0, str name5] w (RetG ⟨w, S⟩ fun u L => (u = .agg (Drill.enc r.1).toArray ∧ L = [box g2 75 [v3, .int .i64 r.2.at_, .int .u64 r.2.seed]])) := by
  unfold s_l21New at hm
  refine Calls.enter1 hA [pt g2 0, str name5] Tryd.func57 rfl Tryd.ntmps57 rfl ?_
  refine WJ.seq ?_
  refine WJ.reg ?_
  refine SJ.alloc (cs := [str [], str [], .int .i64 0]) Tryd.zeroValue42 rfl rfl fun g6 => ?_
  refine SJ.nil ?_
  refine PJ.next ?_
  refine WJ.seq ?_
  refine WJ.reg ?_
  refine SJ.q (YldS.yld (y_move rfl)) rfl ?_
  refine SJ.q (YldS.yld (y_build (parts := [(0, .tmp 6)]) (places := [(0, 1), (1, 1), (2, 1)]) (r := [str ((Drill.mk name5 [] 0).name), str ((Drill.mk name5 [] 0).letters), .int .i64 ((Drill.mk name5 [] 0).minutes)]) pl42 Tryd.zeroValue42 rfl rfl rfl rfl)) rfl ?_
  refine SJ.alloc (cs := [str [], str [], .int .i64 0]) Tryd.zeroValue42 rfl rfl fun g7 => ?_
  refine SJ.storeL (k := 0) (off := 0) (us := [str ((Drill.mk name5 [] 0).name), str ((Drill.mk name5 [] 0).letters), .int .i64 ((Drill.mk name5 [] 0).minutes)]) rfl rfl rfl rfl Tryd.sizeOf42 rfl rfl ?_
  refine SJ.nil ?_
  refine PJ.next ?_
  refine WJ.seq ?_
  refine WJ.reg ?_
  refine SJ.q (YldS.yld (y_move rfl)) rfl ?_
  refine SJ.buildSlice (R := fStr) (os := [.const (str [102, 106]), .const (str [97, 115, 100, 102]), .const (str [101, 105]), .const (str [114, 116, 121, 117]), .const (str [122, 120, 99]), .const (str [110, 109, 44, 46]), .const (str [126, 33]), .const (str [103, 104, 97, 101, 105])]) [[102, 106], [97, 115, 100, 102], [101, 105], [114, 116, 121, 117], [122, 120, 99], [110, 109, 44, 46], [126, 33], [103, 104, 97, 101, 105]] Tryd.runUnderlying60 Tryd.sizeOf9 Tryd.zeroValue9 rfl rfl rfl rfl rfl rfl fun v8 => ?_
  obtain ⟨r9, h10, hm⟩ := bindS hm
  refine SJ.call2 (k := 3) rfl Tryd.call66 rfl (fun w S hw hA hO hB => ok_s_l00Src_text h10 w S _ (hr4.st1 hw hO) _ (hB.row_rd (j := 0) (k := 3) rfl rfl) hA) rfl ?_
  rintro _ _ ⟨rfl, rfl⟩
  refine SJ.q (YldS.yld (y_fldB (o := 0) fld42_1 rfl)) rfl ?_
  refine SJ.storeL (k := 2) (off := 1) (us := [str r9.1]) rfl rfl rfl rfl Tryd.sizeOf9 rfl rfl ?_
  refine SJ.nil ?_
  refine PJ.next ?_
  refine WJ.seq ?_
  refine WJ.reg ?_
  refine SJ.q (YldS.yld (y_move rfl)) rfl ?_
  obtain ⟨r11, h12, hm⟩ := bindS hm
  refine SJ.call1 (k := 0) rfl Tryd.call56 rfl (fun w S hw hA hO => ok_s_l00Src_pick h12 w S _ (hr4.st1 hw hO) hA) rfl ?_
  rintro _ _ ⟨rfl, rfl⟩
  refine SJ.q (YldS.yld (y_bin rfl rfl rfl)) rfl ?_
  refine SJ.q (YldS.yld (y_fldB (o := 0) fld42_2 rfl)) rfl ?_
  refine SJ.storeL (k := 2) (off := 2) (us := [.int .i64 (w64 (1 + r11.1))]) rfl rfl rfl rfl Tryd.sizeOf2 rfl rfl ?_
  refine SJ.nil ?_
  refine PJ.next ?_
  refine WJ.seq ?_
  refine WJ.reg ?_
  refine SJ.q (YldS.yld (y_loadBN (k := 2) (off := 0) (us := [str ((Drill.mk name5 [] 0).name), str r9.1, .int .i64 (w64 (1 + r11.1))]) rfl Tryd.isAgg42 Tryd.sizeOf42 rfl rfl)) rfl ?_
  refine SJ.storeL (k := 3) (off := 0) (us := [str ((Drill.mk name5 [] 0).name), str r9.1, .int .i64 (w64 (1 + r11.1))]) rfl rfl rfl rfl Tryd.sizeOf42 rfl rfl ?_
  refine SJ.nil ?_
  refine PJ.next ?_
  refine WJ.ret ?_
  obtain rfl := Option.some.inj hm
  exact PJ.retn_sel (vs := [.agg #[str ((Drill.mk name5 [] 0).name), str r9.1, .int .i64 (w64 (1 + r11.1))]]) Tryd.results57 ⟨⟨3, g6, 42, [str ((Drill.mk name5 [] 0).name), str r9.1, .int .i64 (w64 (1 + r11.1))], rfl, rfl, .inl ⟨Tryd.isAgg42, Tryd.sizeOf42, rfl⟩⟩, trivial⟩ [0] ⟨by decide, rfl⟩ ⟨rfl, rfl⟩

set_option maxRecDepth 100000 in
set_option maxHeartbeats 1000000 in
theorem ok_s_l21Draw {N : Nat} {s1 : L00Src} {g2 : Nat} {r : (List Drill) × L00Src} (hm : s_l21Draw N s1 = some r) (w : World) (S : Nat → Prop) (v3 : Value) (hr4 : RdS w (Cx.Fz ⟨w, S⟩) v3 fByte.rp s1.code) (hA : (box g2 75 [v3, .int .i64 s1.at_, .int .u64 s1.seed]).holds w S) :
    Calls Tryd.prog 42 #[pt g2 0] w (RetG ⟨w, S⟩ fun u L => ∃ (u1 : Value), (u = u1 ∧ L = [box g2 75 [v3, .int .i64 r.2.at_, .int .u64 r.2.seed], row u1 42 fDrill r.1])) := by
  unfold s_l21Draw at hm
  refine Calls.enter1 hA [pt g2 0] Tryd.func42 rfl Tryd.ntmps42 rfl ?_
  refine WJ.seq ?_
  refine WJ.quiet ?_
  refine QJ.step (YldS.yld (y_assign rfl)) rfl ?_
  refine QJ.done ?_
  refine PJ.next ?_
  refine WJ.seq ?_
  refine WJ.reg ?_
  refine SJ.buildSlice (R := fStr) (os := [.const (str [104, 111, 109, 101]), .const (str [116, 111, 112]), .const (str [108, 111, 119]), .const (str [116, 104, 117, 109, 98]), .const (str [109, 105, 120, 45, 49]), .const (str [109, 105, 120, 45, 50])]) [[104, 111, 109, 101], [116, 111, 112], [108, 111, 119], [116, 104, 117, 109, 98], [109, 105, 120, 45, 49], [109, 105, 120, 45, 50]] Tryd.runUnderlying60 Tryd.sizeOf9 Tryd.zeroValue9 rfl rfl rfl rfl rfl rfl fun v5 => ?_
  refine SJ.q (YldS.yld (y_assign rfl)) rfl ?_
  refine SJ.nil ?_
  refine PJ.next ?_
  refine WJ.seq ?_
  refine WJ.reg ?_
  refine SJ.buildSlice (R := fDrill) (os := []) [] Tryd.runUnderlying38 Tryd.sizeOf42 Tryd.zeroValue42 rfl rfl rfl rfl rfl rfl fun v6 => ?_
  refine SJ.q (YldS.yld (y_assign rfl)) rfl ?_
  refine SJ.nil ?_
  refine PJ.next ?_
  obtain ⟨kj11, hk12, hm⟩ := withK_open hm
  refine WJ.join (X := Int × Int × (List Drill) × Value) (fun (x : Int × Int × (List Drill) × Value) => kj11 x.1 x.2.1 x.2.2.1 = some r) (fun (x : Int × Int × (List Drill) × Value) => [(4, x.2.2.2)]) (fun (x : Int × Int × (List Drill) × Value) => [box g2 75 [v3, .int .i64 x.1, .int .u64 x.2.1], row x.2.2.2 42 fDrill x.2.2.1]) ?_ ?_
  · clear hk12
    refine WJ.seq ?_
    refine WJ.reg ?_
    refine SJ.q (YldS.yld (y_move rfl)) rfl ?_
    obtain ⟨r13, h14, hm⟩ := bindS hm
    refine SJ.call1 (k := 2) rfl Tryd.call56 rfl (fun w S hw hA hO => ok_s_l00Src_pick h14 w S _ (hr4.st1 hw hO) hA) rfl ?_
    rintro _ _ ⟨rfl, rfl⟩
    refine SJ.q (YldS.yld (y_assign rfl)) rfl ?_
    refine SJ.nil ?_
    refine PJ.next ?_
    refine WJ.block ?_
    refine WJ.sel (L' := (fun (x : Int × Int × (List Drill) × Value × Int) => [box g2 75 [v3, .int .i64 x.1, .int .u64 x.2.1], row x.2.2.2.1 42 fDrill x.2.2.1, row v5 9 fStr [[104, 111, 109, 101], [116, 111, 112], [108, 111, 119], [116, 104, 117, 109, 98], [109, 105, 120, 45, 49], [109, 105, 120, 45, 50]]]) (r13.2.at_, r13.2.seed, [], v6, r13.1)) [0, 1, 2] ⟨by decide, rfl⟩ ?_
    refine WJ.sub (m' := (fun (x : Int × Int × (List Drill) × Value × Int) => [(0, pt g2 0), (3, v5), (4, x.2.2.2.1), (5, .int .i64 x.2.2.2.2)]) (r13.2.at_, r13.2.seed, [], v6, r13.1)) ⟨rfl, rfl, rfl, rfl, trivial⟩ ?_
    refine WJ.loop (X := Int × Int × (List Drill) × Value × Int) (fun N (x : Int × Int × (List Drill) × Value × Int) => s_l21Draw_l1 kj11 s1 N x.1 x.2.1 x.2.2.1 x.2.2.2.2 = some r) (fun (x : Int × Int × (List Drill) × Value × Int) => [(0, pt g2 0), (3, v5), (4, x.2.2.2.1), (5, .int .i64 x.2.2.2.2)]) (fun (x : Int × Int × (List Drill) × Value × Int) => [box g2 75 [v3, .int .i64 x.1, .int .u64 x.2.1], row x.2.2.2.1 42 fDrill x.2.2.1, row v5 9 fStr [[104, 111, 109, 101], [116, 111, 112], [108, 111, 119], [116, 104, 117, 109, 98], [109, 105, 120, 45, 49], [109, 105, 120, 45, 50]]]) ?_ N (r13.2.at_, r13.2.seed, [], v6, r13.1) hm
    · rintro N ⟨x15, x16, l17, v18, k19⟩ hI
      have hm := hI; clear hI
      cases N with
      | zero => cases hm
      | succ N =>
      unfold s_l21Draw_l1 at hm
      refine WJ.seq ?_
      refine WJ.seq ?_
      refine WJ.quiet ?_
      refine QJ.step (YldS.yld (y_move rfl)) rfl ?_
      refine QJ.step (YldS.yld (y_bin rfl rfl rfl)) rfl ?_
      refine QJ.done ?_
      refine PJ.next ?_
      refine WJ.cond (t := decide (k19 > 0)) rfl (fun hb20 => ?_) (fun hb20 => ?_)
      · replace hm := ifT hm hb20
        refine WJ.skip ?_
        refine PJ.next ?_
        refine WJ.seq ?_
        refine WJ.block ?_
        refine WJ.reg ?_
        refine SJ.q (YldS.yld (y_move rfl)) rfl ?_
        refine SJ.q (YldS.yld (y_move rfl)) rfl ?_
        refine SJ.q (YldS.yld (y_move rfl)) rfl ?_
        refine SJ.q (YldS.yld (y_move rfl)) rfl ?_
        refine SJ.q (YldS.yld (y_lenRow (k := 1) rfl Tryd.runUnderlying38 rfl)) rfl ?_
        obtain ⟨e21, h22, hm⟩ := bindS hm
        refine SJ.q (YldS.yld (y_ixRow (k := 2) (R := fStr) rfl Tryd.runUnderlying60 Tryd.sizeOf9 rfl rfl h22)) rfl ?_
        refine SJ.q (YldS.yld (y_loadR (k := 2) (i := (Int.toNat (List.length l17 : Int))) (off := 0) (u := str e21) rfl Tryd.isAgg9 rfl (idx_get h22) rfl)) rfl ?_
        obtain ⟨r23, h24, hm⟩ := bindS hm
        refine SJ.call1 (k := 0) rfl Tryd.call57 rfl (fun w S hw hA hO => ok_s_l21New h24 w S _ (hr4.st1 hw hO) hA) rfl ?_
        rintro _ _ ⟨rfl, rfl⟩
        refine SJ.buildSlice (R := fDrill) (os := [.tmp 21]) [r23.1] Tryd.runUnderlying38 Tryd.sizeOf42 Tryd.zeroValue42 rfl rfl rfl rfl rfl rfl fun v25 => ?_
        obtain ⟨l26, h27, hm⟩ := bindS hm
        refine SJ.append (k := 2) (R := fDrill) h27 rfl Tryd.underlying38 el42 rfl rfl rfl (fun w hw => (hw.row_rd (k := 0) rfl)) rfl fun v28 => ?_
        refine SJ.q (YldS.yld (y_assign rfl)) rfl ?_
        refine SJ.nil ?_
        refine PJ.block_normal (PJ.next ?_)
        refine WJ.quiet ?_
        refine QJ.step (YldS.yld (y_move rfl)) rfl ?_
        refine QJ.step (YldS.yld (y_bin rfl rfl rfl)) rfl ?_
        refine QJ.step (YldS.yld (y_assign rfl)) rfl ?_
        refine QJ.done ?_
        exact PJ.round (r23.2.at_, r23.2.seed, l26, v28, w64 (k19 - 1)) [1, 2, 3] hm ⟨rfl, rfl, rfl, rfl, trivial⟩ ⟨by decide, rfl⟩
      · replace hm := ifF hm hb20
        refine WJ.exit ?_
        refine PJ.then_exit (PJ.then_exit (PJ.block_exit ?_))
        exact PJ.joined (x15, x16, l17, v18) [0, 1] hm ⟨rfl, trivial⟩ ⟨by decide, rfl⟩
  · rintro ⟨x7, x8, l9, v10⟩ hm
    subst hk12
    refine WJ.seq ?_
    refine WJ.quiet ?_
    refine QJ.step (YldS.yld (y_move rfl)) rfl ?_
    refine QJ.step (YldS.yld (y_assign rfl)) rfl ?_
    refine QJ.done ?_
    refine PJ.next ?_
    refine WJ.ret ?_
    obtain rfl := Option.some.inj hm
    refine PJ.sel (L' := [box g2 75 [v3, .int .i64 x7, .int .u64 x8], row v10 42 fDrill l9]) [0, 1] ⟨by decide, rfl⟩ ?_
    exact PJ.retn (vs := [v10]) Tryd.results42 ⟨rfl, trivial⟩ ⟨_, rfl, rfl⟩

set_option maxRecDepth 100000 in
set_option maxHeartbeats 1000000 in
theorem ok_s_A2Drills {N : Nat} {code1 : List UInt8} {r : (List Drill)} (hm : s_A2Drills N code1 = some r) (w : World) (v2 : Value) (hr3 : RdS w (cx w).Fz v2 fByte.rp code1) :
    Calls Tryd.prog 22 #[v2] w (RetG (cx w) fun u L => ∃ (u1 : Value), (u = u1 ∧ L = [row u1 42 fDrill r])) := by
  unfold s_A2Drills at hm
  refine Calls.enter [v2] Tryd.func22 rfl Tryd.ntmps22 rfl ?_
  refine WJ.seq ?_
  refine WJ.quiet ?_
  refine QJ.step (YldS.yld (y_assign rfl)) rfl ?_
  refine QJ.done ?_
  refine PJ.next ?_
  refine WJ.seq ?_
  refine WJ.reg ?_
  refine SJ.q (YldS.yld (y_move rfl)) rfl ?_
  obtain ⟨r4, h5, hm⟩ := bindS hm
  refine SJ.call Tryd.call43 rfl (fun w hw => ok_s_l00From h5 w _ (hr3.st hw)) rfl ?_
  rintro _ _ ⟨g6, rfl, rfl⟩
  obtain ⟨r7, h8, hm⟩ := bindS hm
  refine SJ.call1 (k := 0) rfl Tryd.call42 rfl (fun w S hw hA hO => ok_s_l21Draw h8 w S _ (hr3.st1 hw hO) hA) rfl ?_
  rintro v9 _ ⟨_, rfl, rfl⟩
  refine SJ.q (YldS.yld (y_assign rfl)) rfl ?_
  refine SJ.nil ?_
  refine PJ.next ?_
  refine WJ.ret ?_
  obtain rfl := Option.some.inj hm
  refine PJ.sel (L' := [row v9 42 fDrill r7.1]) [1] ⟨by decide, rfl⟩ ?_
  exact PJ.retn (vs := [v9]) Tryd.results22 ⟨rfl, trivial⟩ ⟨_, rfl, rfl⟩

set_option maxRecDepth 100000 in
set_option maxHeartbeats 1000000 in
theorem ok_w_a2At {code1 : List UInt8} {at4 : Int} {n5 : Int} {r : Int} (hm : w_a2At code1 at4 n5 = some r) (w : World) (v2 : Value) (hr3 : RdS w (cx w).Fz v2 fByte.rp code1) :
    Calls Tryd.prog 23 #[v2, .int .i64 at4, .int .i64 n5] w (Ret (cx w) (.int .i64 r)) := by
  unfold w_a2At at hm
  refine Calls.enter [v2, .int .i64 at4, .int .i64 n5] Tryd.func23 rfl Tryd.ntmps23 rfl ?_
  refine WJ.seq ?_
  refine WJ.quiet ?_
  refine QJ.step (YldS.yld (y_assign rfl)) rfl ?_
  refine QJ.done ?_
  refine PJ.next ?_
  refine WJ.seq ?_
  refine WJ.seq ?_
  refine WJ.quiet ?_
  refine QJ.step (YldS.yld (y_move rfl)) rfl ?_
  refine QJ.step (YldS.yld (y_move rfl)) rfl ?_
  refine QJ.step (YldS.yld (y_lenS Tryd.runUnderlying22 hr3 rfl)) rfl ?_
  refine QJ.step (YldS.yld (y_bin rfl rfl rfl)) rfl ?_
  refine QJ.step (YldS.yld (y_move rfl)) rfl ?_
  obtain ⟨t6, h7, hm⟩ := bindS hm
  refine QJ.cut 3 [(0, v2), (1, .int .i64 at4), (2, .int .i64 n5), (14, .bool t6)] ?_ ?_
  · rcases Bool.eq_false_or_eq_true (decide (at4 ≥ (List.length code1 : Int))) with hb8 | hb8
    · obtain rfl := orT h7 hb8
      refine QJ.off rfl rfl (cB hb8) rfl rfl ?_
      refine QJ.off rfl rfl (cB hb8) rfl rfl ?_
      refine QJ.step (YldS.yld (y_pick_t (cB hb8) rfl)) rfl ?_
      exact QJ.cut_end ⟨rfl, rfl, rfl, rfl, trivial⟩
    · replace h7 := orF h7 hb8
      refine QJ.on rfl rfl (cB hb8) (YldS.yld (y_move rfl)) rfl ?_
      refine QJ.on rfl rfl (cB hb8) (YldS.yld (y_bin rfl rfl rfl)) rfl ?_
      refine QJ.step (YldS.yld (y_pick_f (cB hb8) rfl)) rfl ?_
      obtain rfl := Option.some.inj h7
      exact QJ.cut_end ⟨rfl, rfl, rfl, rfl, trivial⟩
  refine QJ.done ?_
  refine PJ.next ?_
  refine WJ.cond (t := t6) rfl (fun hb9 => ?_) (fun hb9 => ?_)
  · replace hm := ifT hm hb9
    refine WJ.seq ?_
    refine WJ.quiet ?_
    refine QJ.step (YldS.yld (y_assign rfl)) rfl ?_
    refine QJ.done ?_
    refine PJ.next ?_
    refine WJ.ret ?_
    refine PJ.then_ret ?_
    obtain rfl := Option.some.inj hm
    refine PJ.sel (L' := []) [] ⟨List.nodup_nil, rfl⟩ ?_
    exact PJ.retn (vs := [.int .i64 0]) Tryd.results23 ⟨rfl, trivial⟩ ⟨rfl, rfl⟩
  · replace hm := ifF hm hb9
    refine WJ.skip ?_
    refine PJ.next ?_
    refine WJ.seq ?_
    refine WJ.quiet ?_
    refine QJ.step (YldS.yld (y_move rfl)) rfl ?_
    refine QJ.step (YldS.yld (y_move rfl)) rfl ?_
    obtain ⟨e10, h11, hm⟩ := bindS hm
    obtain ⟨ad12, _, rfl, ha13, hy14⟩ := hr3.elem h11
    refine QJ.step (YldS.yld (hy14 Tryd.runUnderlying22 Tryd.sizeOf5 rfl rfl)) rfl ?_
    refine QJ.step (YldS.yld (y_load1 (v := .int .u8 (UInt8.toNat e10 : Int)) Tryd.isAgg5 ha13 St.frozenC rfl)) rfl ?_
    refine QJ.step (YldS.yld (y_conv8 Tryd.runUnderlying5 Tryd.runUnderlying2 rfl)) rfl ?_
    refine QJ.step (YldS.yld (y_move rfl)) rfl ?_
    obtain ⟨q15, h16, hm⟩ := bindS hm
    refine QJ.step (YldS.yld (y_rem' h16 rfl rfl)) rfl ?_
    refine QJ.step (YldS.yld (y_assign rfl)) rfl ?_
    refine QJ.done ?_
    refine PJ.next ?_
    refine WJ.ret ?_
    obtain rfl := Option.some.inj hm
    refine PJ.sel (L' := []) [] ⟨List.nodup_nil, rfl⟩ ?_
    exact PJ.retn (vs := [.int .i64 q15]) Tryd.results23 ⟨rfl, trivial⟩ ⟨rfl, rfl⟩

set_option maxRecDepth 100000 in
set_option maxHeartbeats 1000000 in
theorem ok_i_isDigit {b1 : UInt8} {r : Bool} (hm : i_isDigit b1 = some r) (w : World)  :
    Calls Tryd.prog 58 #[.int .u8 (UInt8.toNat b1 : Int)] w (Ret (cx w) (.bool r)) := by
  unfold i_isDigit at hm
  refine Calls.enter [.int .u8 (UInt8.toNat b1 : Int)] Tryd.func58 rfl Tryd.ntmps58 rfl ?_
  refine WJ.seq ?_
  refine WJ.quiet ?_
  refine QJ.step (YldS.yld (y_assign rfl)) rfl ?_
  refine QJ.done ?_
  refine PJ.next ?_
  refine WJ.seq ?_
  refine WJ.quiet ?_
  refine QJ.step (YldS.yld (y_move rfl)) rfl ?_
  refine QJ.step (YldS.yld (y_bin8 b1 (48 : UInt8) rfl rfl rfl)) rfl ?_
  refine QJ.step (YldS.yld (y_move rfl)) rfl ?_
  obtain ⟨t2, h3, hm⟩ := bindS hm
  refine QJ.cut 3 [(8, .bool t2)] ?_ ?_
  · rcases Bool.eq_false_or_eq_true (decide (b1 ≥ (48 : UInt8))) with hb4 | hb4
    · replace h3 := andT h3 hb4
      refine QJ.on rfl rfl (cB hb4) (YldS.yld (y_move rfl)) rfl ?_
      refine QJ.on rfl rfl (cB hb4) (YldS.yld (y_bin8 b1 (57 : UInt8) rfl rfl rfl)) rfl ?_
      refine QJ.step (YldS.yld (y_pick_t (cB hb4) rfl)) rfl ?_
      obtain rfl := Option.some.inj h3
      exact QJ.cut_end ⟨rfl, trivial⟩
    · obtain rfl := andF h3 hb4
      refine QJ.off rfl rfl (cB hb4) rfl rfl ?_
      refine QJ.off rfl rfl (cB hb4) rfl rfl ?_
      refine QJ.step (YldS.yld (y_pick_f (cB hb4) rfl)) rfl ?_
      exact QJ.cut_end ⟨rfl, trivial⟩
  refine QJ.step (YldS.yld (y_assign rfl)) rfl ?_
  refine QJ.done ?_
  refine PJ.next ?_
  refine WJ.ret ?_
  obtain rfl := Option.some.inj hm
  refine PJ.sel (L' := []) [] ⟨List.nodup_nil, rfl⟩ ?_
  exact PJ.retn (vs := [.bool t2]) Tryd.results58 ⟨rfl, trivial⟩ ⟨rfl, rfl⟩

set_option maxRecDepth 100000 in
set_option maxHeartbeats 1000000 in
theorem ok_i_IsName {N : Nat} {s1 : Str} {r : Bool} (hm : i_IsName N s1 = some r) (w : World)  :
    Calls Tryd.prog 59 #[str s1] w (Ret (cx w) (.bool r)) := by
  unfold i_IsName at hm
  refine Calls.enter [str s1] Tryd.func59 rfl Tryd.ntmps59 rfl ?_
  refine WJ.seq ?_
  refine WJ.quiet ?_
  refine QJ.step (YldS.yld (y_assign rfl)) rfl ?_
  refine QJ.done ?_
  refine PJ.next ?_
  refine WJ.seq ?_
  refine WJ.seq ?_
  refine WJ.quiet ?_
  refine QJ.step (YldS.yld (y_move rfl)) rfl ?_
  refine QJ.step (YldS.yld (y_lenStr Tryd.runUnderlying9 rfl)) rfl ?_
  refine QJ.step (YldS.yld (y_bin rfl rfl rfl)) rfl ?_
  refine QJ.step (YldS.yld (y_move rfl)) rfl ?_
  obtain ⟨t2, h3, hm⟩ := bindS hm
  refine QJ.cut 4 [(0, str s1), (12, .bool t2)] ?_ ?_
  · rcases Bool.eq_false_or_eq_true ((List.length s1 : Int) == 0) with hb4 | hb4
    · obtain rfl := orT h3 hb4
      refine QJ.off rfl rfl (cB hb4) rfl rfl ?_
      refine QJ.off rfl rfl (cB hb4) rfl rfl ?_
      refine QJ.off rfl rfl (cB hb4) rfl rfl ?_
      refine QJ.step (YldS.yld (y_pick_t (cB hb4) rfl)) rfl ?_
      exact QJ.cut_end ⟨rfl, rfl, trivial⟩
    · replace h3 := orF h3 hb4
      refine QJ.on rfl rfl (cB hb4) (YldS.yld (y_move rfl)) rfl ?_
      refine QJ.on rfl rfl (cB hb4) (YldS.yld (y_lenStr Tryd.runUnderlying9 rfl)) rfl ?_
      refine QJ.on rfl rfl (cB hb4) (YldS.yld (y_bin rfl rfl rfl)) rfl ?_
      refine QJ.step (YldS.yld (y_pick_f (cB hb4) rfl)) rfl ?_
      obtain rfl := Option.some.inj h3
      exact QJ.cut_end ⟨rfl, rfl, trivial⟩
  refine QJ.done ?_
  refine PJ.next ?_
  refine WJ.cond (t := t2) rfl (fun hb5 => ?_) (fun hb5 => ?_)
  · replace hm := ifT hm hb5
    refine WJ.seq ?_
    refine WJ.quiet ?_
    refine QJ.step (YldS.yld (y_assign rfl)) rfl ?_
    refine QJ.done ?_
    refine PJ.next ?_
    refine WJ.ret ?_
    refine PJ.then_ret ?_
    obtain rfl := Option.some.inj hm
    refine PJ.sel (L' := []) [] ⟨List.nodup_nil, rfl⟩ ?_
    exact PJ.retn (vs := [.bool false]) Tryd.results59 ⟨rfl, trivial⟩ ⟨rfl, rfl⟩
  · replace hm := ifF hm hb5
    refine WJ.skip ?_
    refine PJ.next ?_
    obtain ⟨kj6, hk7, hm⟩ := withK_open hm
    refine WJ.join (X := Unit) (fun (_ : Unit) => kj6  = some r) (fun (_ : Unit) => []) (fun (_ : Unit) => []) ?_ ?_
    · clear hk7
      refine WJ.seq ?_
      refine WJ.quiet ?_
      refine QJ.step (YldS.yld (y_move rfl)) rfl ?_
      refine QJ.step (YldS.yld (y_lenStr Tryd.runUnderlying9 rfl)) rfl ?_
      refine QJ.step (YldS.yld (y_move rfl)) rfl ?_
      refine QJ.done ?_
      refine PJ.next ?_
      refine WJ.block ?_
      refine WJ.sel (L' := (fun (x : Int) => []) 0) [] ⟨List.nodup_nil, rfl⟩ ?_
      refine WJ.sub (m' := (fun (x : Int) => [(0, str s1), (14, .int .i64 (List.length s1 : Int)), (15, .int .i64 x)]) 0) ⟨rfl, rfl, rfl, trivial⟩ ?_
      refine WJ.loop (X := Int) (fun N (x : Int) => i_IsName_l1 kj6 s1 N x = some r) (fun (x : Int) => [(0, str s1), (14, .int .i64 (List.length s1 : Int)), (15, .int .i64 x)]) (fun (x : Int) => []) ?_ N 0 hm
      · rintro N x8 hI
        have hm := hI; clear hI
        cases N with
        | zero => cases hm
        | succ N =>
        unfold i_IsName_l1 at hm
        refine WJ.seq ?_
        refine WJ.quiet ?_
        refine QJ.step (YldS.yld (y_bin rfl rfl rfl)) rfl ?_
        refine QJ.done ?_
        refine PJ.next ?_
        refine WJ.seq ?_
        refine WJ.cond (t := decide (x8 < (List.length s1 : Int))) rfl (fun hb9 => ?_) (fun hb9 => ?_)
        · replace hm := ifT hm hb9
          refine WJ.skip ?_
          refine PJ.next ?_
          refine WJ.seq ?_
          refine WJ.block ?_
          refine WJ.seq ?_
          refine WJ.quiet ?_
          refine QJ.step (YldS.yld (y_move rfl)) rfl ?_
          refine QJ.step (YldS.yld (y_assign rfl)) rfl ?_
          refine QJ.done ?_
          refine PJ.next ?_
          refine WJ.seq ?_
          refine WJ.quiet ?_
          refine QJ.step (YldS.yld (y_move rfl)) rfl ?_
          refine QJ.step (YldS.yld (y_move rfl)) rfl ?_
          obtain ⟨c10, h11, hm⟩ := bindS hm
          refine QJ.step (YldS.yld (y_idxStr Tryd.runUnderlying9 rfl rfl h11)) rfl ?_
          refine QJ.step (YldS.yld (y_bin8 c10 (97 : UInt8) rfl rfl rfl)) rfl ?_
          refine QJ.step (YldS.yld (y_move rfl)) rfl ?_
          obtain ⟨t12, h13, hm⟩ := bindS hm
          refine QJ.cut 5 [(0, str s1), (3, .int .i64 x8), (14, .int .i64 (List.length s1 : Int)), (15, .int .i64 x8), (27, .bool t12)] ?_ ?_
          · rcases Bool.eq_false_or_eq_true (decide (c10 ≥ (97 : UInt8))) with hb14 | hb14
            · replace h13 := andT h13 hb14
              refine QJ.on rfl rfl (cB hb14) (YldS.yld (y_move rfl)) rfl ?_
              refine QJ.on rfl rfl (cB hb14) (YldS.yld (y_move rfl)) rfl ?_
              obtain ⟨c15, h16, h13⟩ := bindS h13
              refine QJ.on rfl rfl (cB hb14) (YldS.yld (y_idxStr Tryd.runUnderlying9 rfl rfl h16)) rfl ?_
              refine QJ.on rfl rfl (cB hb14) (YldS.yld (y_bin8 c15 (122 : UInt8) rfl rfl rfl)) rfl ?_
              refine QJ.step (YldS.yld (y_pick_t (cB hb14) rfl)) rfl ?_
              obtain rfl := Option.some.inj h13
              exact QJ.cut_end ⟨rfl, rfl, rfl, rfl, rfl, trivial⟩
            · obtain rfl := andF h13 hb14
              refine QJ.off rfl rfl (cB hb14) rfl rfl ?_
              refine QJ.off rfl rfl (cB hb14) rfl rfl ?_
              refine QJ.off rfl rfl (cB hb14) rfl rfl ?_
              refine QJ.off rfl rfl (cB hb14) rfl rfl ?_
              refine QJ.step (YldS.yld (y_pick_f (cB hb14) rfl)) rfl ?_
              exact QJ.cut_end ⟨rfl, rfl, rfl, rfl, rfl, trivial⟩
          refine QJ.step (YldS.yld (y_assign rfl)) rfl ?_
          refine QJ.done ?_
          refine PJ.next ?_
          refine WJ.seq ?_
          refine WJ.quiet ?_
          refine QJ.step (YldS.yld (y_move rfl)) rfl ?_
          refine QJ.step (YldS.yld (y_not rfl)) rfl ?_
          refine QJ.step (YldS.yld (y_move rfl)) rfl ?_
          obtain ⟨t17, h18, hm⟩ := bindS hm
          refine QJ.cut 16 [(0, str s1), (14, .int .i64 (List.length s1 : Int)), (15, .int .i64 x8), (46, .bool t17)] ?_ ?_
          · rcases Bool.eq_false_or_eq_true (!t12) with hb19 | hb19
            · replace h18 := andT h18 hb19
              refine QJ.on rfl rfl (cB hb19) (YldS.yld (y_move rfl)) rfl ?_
              refine QJ.on rfl rfl (cB hb19) (YldS.yld (y_bin rfl rfl rfl)) rfl ?_
              refine QJ.on rfl rfl (cB hb19) (YldS.yld (y_move rfl)) rfl ?_
              obtain ⟨t20, h21, h18⟩ := bindS h18
              refine QJ.cut 12 [(0, str s1), (14, .int .i64 (List.length s1 : Int)), (15, .int .i64 x8), (30, .bool (!t12)), (31, .int .i64 x8), (32, .bool (x8 == 0)), (33, .bool (x8 == 0)), (45, .bool t20)] ?_ ?_
              · rcases Bool.eq_false_or_eq_true (x8 == 0) with hb22 | hb22
                · obtain rfl := orT h21 hb22
                  refine QJ.off rfl rfl (cB hb22) rfl rfl ?_
                  refine QJ.off rfl rfl (cB hb22) rfl rfl ?_
                  refine QJ.off rfl rfl (cB hb22) rfl rfl ?_
                  refine QJ.off rfl rfl (cB hb22) rfl rfl ?_
                  refine QJ.off rfl rfl (cB hb22) rfl rfl ?_
                  refine QJ.off_undef rfl rfl rfl rfl ?_
                  refine QJ.off_undef rfl rfl rfl rfl ?_
                  refine QJ.off_undef rfl rfl rfl rfl ?_
                  refine QJ.off_undef rfl rfl rfl rfl ?_
                  refine QJ.off_undef rfl rfl rfl rfl ?_
                  refine QJ.off rfl rfl (cB hb22) rfl rfl ?_
                  refine QJ.on rfl rfl (cB hb19) (YldS.yld (y_pick_t (cB hb22) rfl)) rfl ?_
                  exact QJ.cut_end ⟨rfl, rfl, rfl, rfl, rfl, rfl, rfl, rfl, trivial⟩
                · replace h21 := orF h21 hb22
                  refine QJ.on rfl rfl (cB hb22) (YldS.yld (y_move rfl)) rfl ?_
                  refine QJ.on rfl rfl (cB hb22) (YldS.yld (y_move rfl)) rfl ?_
                  obtain ⟨c23, h24, h21⟩ := bindS h21
                  refine QJ.on rfl rfl (cB hb22) (YldS.yld (y_idxStr Tryd.runUnderlying9 rfl rfl h24)) rfl ?_
                  refine QJ.on rfl rfl (cB hb22) (YldS.yld (y_bin8 c23 (45 : UInt8) rfl rfl rfl)) rfl ?_
                  refine QJ.on rfl rfl (cB hb22) (YldS.yld (y_move rfl)) rfl ?_
                  obtain ⟨t25, h26, h21⟩ := bindS h21
                  refine QJ.cut 6 [(0, str s1), (14, .int .i64 (List.length s1 : Int)), (15, .int .i64 x8), (30, .bool (!t12)), (31, .int .i64 x8), (32, .bool (x8 == 0)), (33, .bool (x8 == 0)), (34, str s1), (35, .int .i64 x8), (36, .int .u8 (UInt8.toNat c23 : Int)), (37, .bool (c23 != (45 : UInt8))), (38, .bool (c23 != (45 : UInt8))), (44, .bool t25)] ?_ ?_
                  · rcases Bool.eq_false_or_eq_true (c23 != (45 : UInt8)) with hb27 | hb27
                    · replace h26 := andT h26 hb27
                      refine QJ.on rfl rfl (cB hb27) (YldS.yld (y_move rfl)) rfl ?_
                      refine QJ.on rfl rfl (cB hb27) (YldS.yld (y_move rfl)) rfl ?_
                      obtain ⟨c28, h29, h26⟩ := bindS h26
                      refine QJ.on rfl rfl (cB hb27) (YldS.yld (y_idxStr Tryd.runUnderlying9 rfl rfl h29)) rfl ?_
                      obtain ⟨r30, h31, h26⟩ := bindS h26
                      refine QJ.on rfl rfl (cB hb27) (y_call Tryd.call58 rfl (RetG.quiet fun w hw => ok_i_isDigit h31 w )) rfl ?_
                      refine QJ.on rfl rfl (cB hb27) (YldS.yld (y_not rfl)) rfl ?_
                      refine QJ.on rfl rfl (cB hb22) (YldS.yld (y_pick_t (cB hb27) rfl)) rfl ?_
                      obtain rfl := Option.some.inj h26
                      exact QJ.cut_end ⟨rfl, rfl, rfl, rfl, rfl, rfl, rfl, rfl, rfl, rfl, rfl, rfl, rfl, trivial⟩
                    · obtain rfl := andF h26 hb27
                      refine QJ.off rfl rfl (cB hb27) rfl rfl ?_
                      refine QJ.off rfl rfl (cB hb27) rfl rfl ?_
                      refine QJ.off rfl rfl (cB hb27) rfl rfl ?_
                      refine QJ.off rfl rfl (cB hb27) rfl rfl ?_
                      refine QJ.off rfl rfl (cB hb27) rfl rfl ?_
                      refine QJ.on rfl rfl (cB hb22) (YldS.yld (y_pick_f (cB hb27) rfl)) rfl ?_
                      exact QJ.cut_end ⟨rfl, rfl, rfl, rfl, rfl, rfl, rfl, rfl, rfl, rfl, rfl, rfl, rfl, trivial⟩
                  refine QJ.on rfl rfl (cB hb19) (YldS.yld (y_pick_f (cB hb22) rfl)) rfl ?_
                  obtain rfl := Option.some.inj h21
                  exact QJ.cut_end ⟨rfl, rfl, rfl, rfl, rfl, rfl, rfl, rfl, trivial⟩
              refine QJ.step (YldS.yld (y_pick_t (cB hb19) rfl)) rfl ?_
              obtain rfl := Option.some.inj h18
              exact QJ.cut_end ⟨rfl, rfl, rfl, rfl, trivial⟩
            · obtain rfl := andF h18 hb19
              refine QJ.off rfl rfl (cB hb19) rfl rfl ?_
              refine QJ.off rfl rfl (cB hb19) rfl rfl ?_
              refine QJ.off rfl rfl (cB hb19) rfl rfl ?_
              refine QJ.off_undef rfl rfl rfl rfl ?_
              refine QJ.off_undef rfl rfl rfl rfl ?_
              refine QJ.off_undef rfl rfl rfl rfl ?_
              refine QJ.off_undef rfl rfl rfl rfl ?_
              refine QJ.off_undef rfl rfl rfl rfl ?_
              refine QJ.off_undef rfl rfl rfl rfl ?_
              refine QJ.off_undef rfl rfl rfl rfl ?_
              refine QJ.off_undef rfl rfl rfl rfl ?_
              refine QJ.off_undef rfl rfl rfl rfl ?_
              refine QJ.off_undef rfl rfl rfl rfl ?_
              refine QJ.off_undef rfl rfl rfl rfl ?_
              refine QJ.off rfl rfl (cB hb19) rfl rfl ?_
              refine QJ.step (YldS.yld (y_pick_f (cB hb19) rfl)) rfl ?_
              exact QJ.cut_end ⟨rfl, rfl, rfl, rfl, trivial⟩
          refine QJ.done ?_
          refine PJ.next ?_
          refine WJ.cond (t := t17) rfl (fun hb32 => ?_) (fun hb32 => ?_)
          · replace hm := ifT hm hb32
            refine WJ.seq ?_
            refine WJ.quiet ?_
            refine QJ.step (YldS.yld (y_assign rfl)) rfl ?_
            refine QJ.done ?_
            refine PJ.next ?_
            refine WJ.ret ?_
            refine PJ.block_ret (PJ.then_ret (PJ.then_ret (PJ.block_ret (PJ.then_ret ?_))))
            obtain rfl := Option.some.inj hm
            refine PJ.sel (L' := []) [] ⟨List.nodup_nil, rfl⟩ ?_
            exact PJ.retn (vs := [.bool false]) Tryd.results59 ⟨rfl, trivial⟩ ⟨rfl, rfl⟩
          · replace hm := ifF hm hb32
            refine WJ.skip ?_
            refine PJ.block_normal (PJ.next ?_)
            refine WJ.quiet ?_
            refine QJ.step (YldS.yld (y_bin rfl rfl rfl)) rfl ?_
            refine QJ.step (YldS.yld (y_move rfl)) rfl ?_
            refine QJ.done ?_
            exact PJ.round (w64 (x8 + 1)) [] hm ⟨rfl, rfl, rfl, trivial⟩ ⟨List.nodup_nil, rfl⟩
        · replace hm := ifF hm hb9
          refine WJ.exit ?_
          refine PJ.then_exit (PJ.then_exit (PJ.block_exit ?_))
          exact PJ.joined () [] hm trivial ⟨List.nodup_nil, rfl⟩
    · rintro _ hm
      subst hk7
      refine WJ.seq ?_
      refine WJ.quiet ?_
      refine QJ.step (YldS.yld (y_assign rfl)) rfl ?_
      refine QJ.done ?_
      refine PJ.next ?_
      refine WJ.ret ?_
      obtain rfl := Option.some.inj hm
      refine PJ.sel (L' := []) [] ⟨List.nodup_nil, rfl⟩ ?_
      exact PJ.retn (vs := [.bool true]) Tryd.results59 ⟨rfl, trivial⟩ ⟨rfl, rfl⟩

set_option maxRecDepth 100000 in
set_option maxHeartbeats 1000000 in
theorem ok_i_isText {N : Nat} {s1 : Str} {low2 : UInt8} {most3 : Int} {r : Bool} (hm : i_isText N s1 low2 most3 = some r) (w : World)  :
    Calls Tryd.prog 60 #[str s1, .int .u8 (UInt8.toNat low2 : Int), .int .i64 most3] w (Ret (cx w) (.bool r)) := by
  unfold i_isText at hm
  refine Calls.enter [str s1, .int .u8 (UInt8.toNat low2 : Int), .int .i64 most3] Tryd.func60 rfl Tryd.ntmps60 rfl ?_
  refine WJ.seq ?_
  refine WJ.quiet ?_
  refine QJ.step (YldS.yld (y_assign rfl)) rfl ?_
  refine QJ.done ?_
  refine PJ.next ?_
  refine WJ.seq ?_
  refine WJ.seq ?_
  refine WJ.quiet ?_
  refine QJ.step (YldS.yld (y_move rfl)) rfl ?_
  refine QJ.step (YldS.yld (y_lenStr Tryd.runUnderlying9 rfl)) rfl ?_
  refine QJ.step (YldS.yld (y_move rfl)) rfl ?_
  refine QJ.step (YldS.yld (y_bin rfl rfl rfl)) rfl ?_
  refine QJ.done ?_
  refine PJ.next ?_
  refine WJ.cond (t := decide ((List.length s1 : Int) > most3)) rfl (fun hb4 => ?_) (fun hb4 => ?_)
  · replace hm := ifT hm hb4
    refine WJ.seq ?_
    refine WJ.quiet ?_
    refine QJ.step (YldS.yld (y_assign rfl)) rfl ?_
    refine QJ.done ?_
    refine PJ.next ?_
    refine WJ.ret ?_
    refine PJ.then_ret ?_
    obtain rfl := Option.some.inj hm
    refine PJ.sel (L' := []) [] ⟨List.nodup_nil, rfl⟩ ?_
    exact PJ.retn (vs := [.bool false]) Tryd.results60 ⟨rfl, trivial⟩ ⟨rfl, rfl⟩
  · replace hm := ifF hm hb4
    refine WJ.skip ?_
    refine PJ.next ?_
    obtain ⟨kj5, hk6, hm⟩ := withK_open hm
    refine WJ.join (X := Unit) (fun (_ : Unit) => kj5  = some r) (fun (_ : Unit) => []) (fun (_ : Unit) => []) ?_ ?_
    · clear hk6
      refine WJ.seq ?_
      refine WJ.quiet ?_
      refine QJ.step (YldS.yld (y_move rfl)) rfl ?_
      refine QJ.step (YldS.yld (y_lenStr Tryd.runUnderlying9 rfl)) rfl ?_
      refine QJ.step (YldS.yld (y_move rfl)) rfl ?_
      refine QJ.done ?_
      refine PJ.next ?_
      refine WJ.block ?_
      refine WJ.sel (L' := (fun (x : Int) => []) 0) [] ⟨List.nodup_nil, rfl⟩ ?_
      refine WJ.sub (m' := (fun (x : Int) => [(0, str s1), (1, .int .u8 (UInt8.toNat low2 : Int)), (13, .int .i64 (List.length s1 : Int)), (14, .int .i64 x)]) 0) ⟨rfl, rfl, rfl, rfl, trivial⟩ ?_
      refine WJ.loop (X := Int) (fun N (x : Int) => i_isText_l1 kj5 s1 low2 N x = some r) (fun (x : Int) => [(0, str s1), (1, .int .u8 (UInt8.toNat low2 : Int)), (13, .int .i64 (List.length s1 : Int)), (14, .int .i64 x)]) (fun (x : Int) => []) ?_ N 0 hm
      · rintro N x7 hI
        have hm := hI; clear hI
        cases N with
        | zero => cases hm
        | succ N =>
        unfold i_isText_l1 at hm
        refine WJ.seq ?_
        refine WJ.quiet ?_
        refine QJ.step (YldS.yld (y_bin rfl rfl rfl)) rfl ?_
        refine QJ.done ?_
        refine PJ.next ?_
        refine WJ.seq ?_
        refine WJ.cond (t := decide (x7 < (List.length s1 : Int))) rfl (fun hb8 => ?_) (fun hb8 => ?_)
        · replace hm := ifT hm hb8
          refine WJ.skip ?_
          refine PJ.next ?_
          refine WJ.seq ?_
          refine WJ.block ?_
          refine WJ.seq ?_
          refine WJ.quiet ?_
          refine QJ.step (YldS.yld (y_move rfl)) rfl ?_
          refine QJ.step (YldS.yld (y_assign rfl)) rfl ?_
          refine QJ.done ?_
          refine PJ.next ?_
          refine WJ.seq ?_
          refine WJ.quiet ?_
          refine QJ.step (YldS.yld (y_move rfl)) rfl ?_
          refine QJ.step (YldS.yld (y_move rfl)) rfl ?_
          obtain ⟨c9, h10, hm⟩ := bindS hm
          refine QJ.step (YldS.yld (y_idxStr Tryd.runUnderlying9 rfl rfl h10)) rfl ?_
          refine QJ.step (YldS.yld (y_move rfl)) rfl ?_
          refine QJ.step (YldS.yld (y_bin8 c9 low2 rfl rfl rfl)) rfl ?_
          refine QJ.step (YldS.yld (y_move rfl)) rfl ?_
          obtain ⟨t11, h12, hm⟩ := bindS hm
          refine QJ.cut 5 [(0, str s1), (1, .int .u8 (UInt8.toNat low2 : Int)), (13, .int .i64 (List.length s1 : Int)), (14, .int .i64 x7), (27, .bool t11)] ?_ ?_
          · rcases Bool.eq_false_or_eq_true (decide (c9 < low2)) with hb13 | hb13
            · obtain rfl := orT h12 hb13
              refine QJ.off rfl rfl (cB hb13) rfl rfl ?_
              refine QJ.off rfl rfl (cB hb13) rfl rfl ?_
              refine QJ.off rfl rfl (cB hb13) rfl rfl ?_
              refine QJ.off rfl rfl (cB hb13) rfl rfl ?_
              refine QJ.step (YldS.yld (y_pick_t (cB hb13) rfl)) rfl ?_
              exact QJ.cut_end ⟨rfl, rfl, rfl, rfl, rfl, trivial⟩
            · replace h12 := orF h12 hb13
              refine QJ.on rfl rfl (cB hb13) (YldS.yld (y_move rfl)) rfl ?_
              refine QJ.on rfl rfl (cB hb13) (YldS.yld (y_move rfl)) rfl ?_
              obtain ⟨c14, h15, h12⟩ := bindS h12
              refine QJ.on rfl rfl (cB hb13) (YldS.yld (y_idxStr Tryd.runUnderlying9 rfl rfl h15)) rfl ?_
              refine QJ.on rfl rfl (cB hb13) (YldS.yld (y_bin8 c14 (126 : UInt8) rfl rfl rfl)) rfl ?_
              refine QJ.step (YldS.yld (y_pick_f (cB hb13) rfl)) rfl ?_
              obtain rfl := Option.some.inj h12
              exact QJ.cut_end ⟨rfl, rfl, rfl, rfl, rfl, trivial⟩
          refine QJ.done ?_
          refine PJ.next ?_
          refine WJ.cond (t := t11) rfl (fun hb16 => ?_) (fun hb16 => ?_)
          · replace hm := ifT hm hb16
            refine WJ.seq ?_
            refine WJ.quiet ?_
            refine QJ.step (YldS.yld (y_assign rfl)) rfl ?_
            refine QJ.done ?_
            refine PJ.next ?_
            refine WJ.ret ?_
            refine PJ.block_ret (PJ.then_ret (PJ.then_ret (PJ.block_ret (PJ.then_ret ?_))))
            obtain rfl := Option.some.inj hm
            refine PJ.sel (L' := []) [] ⟨List.nodup_nil, rfl⟩ ?_
            exact PJ.retn (vs := [.bool false]) Tryd.results60 ⟨rfl, trivial⟩ ⟨rfl, rfl⟩
          · replace hm := ifF hm hb16
            refine WJ.skip ?_
            refine PJ.block_normal (PJ.next ?_)
            refine WJ.quiet ?_
            refine QJ.step (YldS.yld (y_bin rfl rfl rfl)) rfl ?_
            refine QJ.step (YldS.yld (y_move rfl)) rfl ?_
            refine QJ.done ?_
            exact PJ.round (w64 (x7 + 1)) [] hm ⟨rfl, rfl, rfl, rfl, trivial⟩ ⟨List.nodup_nil, rfl⟩
        · replace hm := ifF hm hb8
          refine WJ.exit ?_
          refine PJ.then_exit (PJ.then_exit (PJ.block_exit ?_))
          exact PJ.joined () [] hm trivial ⟨List.nodup_nil, rfl⟩
    · rintro _ hm
      subst hk6
      refine WJ.seq ?_
      refine WJ.quiet ?_
      refine QJ.step (YldS.yld (y_assign rfl)) rfl ?_
      refine QJ.done ?_
      refine PJ.next ?_
      refine WJ.ret ?_
      obtain rfl := Option.some.inj hm
      refine PJ.sel (L' := []) [] ⟨List.nodup_nil, rfl⟩ ?_
      exact PJ.retn (vs := [.bool true]) Tryd.results60 ⟨rfl, trivial⟩ ⟨rfl, rfl⟩

set_option maxRecDepth 100000 in
set_option maxHeartbeats 1000000 in
theorem ok_i_between {n1 : Int} {low2 : Int} {high3 : Int} {r : Bool} (hm : i_between n1 low2 high3 = some r) (w : World)  :
    Calls Tryd.prog 41 #[.int .i64 n1, .int .i64 low2, .int .i64 high3] w (Ret (cx w) (.bool r)) := by
  unfold i_between at hm
  refine Calls.enter [.int .i64 n1, .int .i64 low2, .int .i64 high3] Tryd.func41 rfl Tryd.ntmps41 rfl ?_
  refine WJ.seq ?_
  refine WJ.quiet ?_
  refine QJ.step (YldS.yld (y_assign rfl)) rfl ?_
  refine QJ.done ?_
  refine PJ.next ?_
  refine WJ.seq ?_
  refine WJ.quiet ?_
  refine QJ.step (YldS.yld (y_move rfl)) rfl ?_
  refine QJ.step (YldS.yld (y_move rfl)) rfl ?_
  refine QJ.step (YldS.yld (y_bin rfl rfl rfl)) rfl ?_
  refine QJ.step (YldS.yld (y_move rfl)) rfl ?_
  obtain ⟨t4, h5, hm⟩ := bindS hm
  refine QJ.cut 4 [(14, .bool t4)] ?_ ?_
  · rcases Bool.eq_false_or_eq_true (decide (n1 ≥ low2)) with hb6 | hb6
    · replace h5 := andT h5 hb6
      refine QJ.on rfl rfl (cB hb6) (YldS.yld (y_move rfl)) rfl ?_
      refine QJ.on rfl rfl (cB hb6) (YldS.yld (y_move rfl)) rfl ?_
      refine QJ.on rfl rfl (cB hb6) (YldS.yld (y_bin rfl rfl rfl)) rfl ?_
      refine QJ.step (YldS.yld (y_pick_t (cB hb6) rfl)) rfl ?_
      obtain rfl := Option.some.inj h5
      exact QJ.cut_end ⟨rfl, trivial⟩
    · obtain rfl := andF h5 hb6
      refine QJ.off rfl rfl (cB hb6) rfl rfl ?_
      refine QJ.off rfl rfl (cB hb6) rfl rfl ?_
      refine QJ.off rfl rfl (cB hb6) rfl rfl ?_
      refine QJ.step (YldS.yld (y_pick_f (cB hb6) rfl)) rfl ?_
      exact QJ.cut_end ⟨rfl, trivial⟩
  refine QJ.step (YldS.yld (y_assign rfl)) rfl ?_
  refine QJ.done ?_
  refine PJ.next ?_
  refine WJ.ret ?_
  obtain rfl := Option.some.inj hm
  refine PJ.sel (L' := []) [] ⟨List.nodup_nil, rfl⟩ ?_
  exact PJ.retn (vs := [.bool t4]) Tryd.results41 ⟨rfl, trivial⟩ ⟨rfl, rfl⟩

set_option maxRecDepth 100000 in
set_option maxHeartbeats 1000000 in
theorem ok_i_validDrill {N : Nat} {d1 : Drill} {r : Bool} (hm : i_validDrill N d1 = some r) (w : World)  :
    Calls Tryd.prog 46 #[.agg (Drill.enc d1).toArray] w (Ret (cx w) (.bool r)) := by
  unfold i_validDrill at hm
  refine Calls.enter [.agg (Drill.enc d1).toArray] Tryd.func46 rfl Tryd.ntmps46 rfl ?_
  refine WJ.seq ?_
  refine WJ.reg ?_
  refine SJ.box (cs := [str d1.name, str d1.letters, .int .i64 d1.minutes]) rfl rfl rfl fun g2 => ?_
  refine SJ.q (YldS.yld (y_assign rfl)) rfl ?_
  refine SJ.nil ?_
  refine PJ.next ?_
  refine WJ.seq ?_
  refine WJ.seq ?_
  refine WJ.quiet ?_
  refine QJ.step (YldS.yld (y_fldB (o := 0) fld42_0 rfl)) rfl ?_
  refine QJ.step (YldS.yld (y_loadB (k := 0) (off := 0) (v := str d1.name) rfl Tryd.isAgg9 rfl rfl)) rfl ?_
  obtain ⟨r3, h4, hm⟩ := bindS hm
  refine QJ.step (y_call Tryd.call59 rfl (RetG.quiet fun w hw => ok_i_IsName h4 w )) rfl ?_
  refine QJ.step (YldS.yld (y_not rfl)) rfl ?_
  refine QJ.step (YldS.yld (y_move rfl)) rfl ?_
  obtain ⟨t5, h6, hm⟩ := bindS hm
  refine QJ.cut 4 [(1, pt g2 0), (13, .bool t5)] ?_ ?_
  · rcases Bool.eq_false_or_eq_true (!r3) with hb7 | hb7
    · obtain rfl := orT h6 hb7
      refine QJ.off rfl rfl (cB hb7) rfl rfl ?_
      refine QJ.off rfl rfl (cB hb7) rfl rfl ?_
      refine QJ.off rfl rfl (cB hb7) rfl rfl ?_
      refine QJ.step (YldS.yld (y_pick_t (cB hb7) rfl)) rfl ?_
      exact QJ.cut_end ⟨rfl, rfl, trivial⟩
    · replace h6 := orF h6 hb7
      refine QJ.on rfl rfl (cB hb7) (YldS.yld (y_fldB (o := 0) fld42_1 rfl)) rfl ?_
      refine QJ.on rfl rfl (cB hb7) (YldS.yld (y_loadB (k := 0) (off := 1) (v := str d1.letters) rfl Tryd.isAgg9 rfl rfl)) rfl ?_
      refine QJ.on rfl rfl (cB hb7) (YldS.yld (y_binS rfl rfl rfl)) rfl ?_
      refine QJ.step (YldS.yld (y_pick_f (cB hb7) rfl)) rfl ?_
      obtain rfl := Option.some.inj h6
      exact QJ.cut_end ⟨rfl, rfl, trivial⟩
  refine QJ.step (YldS.yld (y_move rfl)) rfl ?_
  obtain ⟨t8, h9, hm⟩ := bindS hm
  refine QJ.cut 5 [(1, pt g2 0), (19, .bool t8)] ?_ ?_
  · rcases Bool.eq_false_or_eq_true t5 with hb10 | hb10
    · obtain rfl := orT h9 hb10
      refine QJ.off rfl rfl (cB hb10) rfl rfl ?_
      refine QJ.off rfl rfl (cB hb10) rfl rfl ?_
      refine QJ.off rfl rfl (cB hb10) rfl rfl ?_
      refine QJ.off rfl rfl (cB hb10) rfl rfl ?_
      refine QJ.step (YldS.yld (y_pick_t (cB hb10) rfl)) rfl ?_
      exact QJ.cut_end ⟨rfl, rfl, trivial⟩
    · replace h9 := orF h9 hb10
      refine QJ.on rfl rfl (cB hb10) (YldS.yld (y_fldB (o := 0) fld42_1 rfl)) rfl ?_
      refine QJ.on rfl rfl (cB hb10) (YldS.yld (y_loadB (k := 0) (off := 1) (v := str d1.letters) rfl Tryd.isAgg9 rfl rfl)) rfl ?_
      obtain ⟨r11, h12, h9⟩ := bindS h9
      refine QJ.on rfl rfl (cB hb10) (y_call Tryd.call60 rfl (RetG.quiet fun w hw => ok_i_isText h12 w )) rfl ?_
      refine QJ.on rfl rfl (cB hb10) (YldS.yld (y_not rfl)) rfl ?_
      refine QJ.step (YldS.yld (y_pick_f (cB hb10) rfl)) rfl ?_
      obtain rfl := Option.some.inj h9
      exact QJ.cut_end ⟨rfl, rfl, trivial⟩
  refine QJ.step (YldS.yld (y_move rfl)) rfl ?_
  obtain ⟨t13, h14, hm⟩ := bindS hm
  refine QJ.cut 5 [(1, pt g2 0), (25, .bool t13)] ?_ ?_
  · rcases Bool.eq_false_or_eq_true t8 with hb15 | hb15
    · obtain rfl := orT h14 hb15
      refine QJ.off rfl rfl (cB hb15) rfl rfl ?_
      refine QJ.off rfl rfl (cB hb15) rfl rfl ?_
      refine QJ.off rfl rfl (cB hb15) rfl rfl ?_
      refine QJ.off rfl rfl (cB hb15) rfl rfl ?_
      refine QJ.step (YldS.yld (y_pick_t (cB hb15) rfl)) rfl ?_
      exact QJ.cut_end ⟨rfl, rfl, trivial⟩
    · replace h14 := orF h14 hb15
      refine QJ.on rfl rfl (cB hb15) (YldS.yld (y_fldB (o := 0) fld42_2 rfl)) rfl ?_
      refine QJ.on rfl rfl (cB hb15) (YldS.yld (y_loadB (k := 0) (off := 2) (v := .int .i64 d1.minutes) rfl Tryd.isAgg2 rfl rfl)) rfl ?_
      obtain ⟨r16, h17, h14⟩ := bindS h14
      refine QJ.on rfl rfl (cB hb15) (y_call Tryd.call41 rfl (RetG.quiet fun w hw => ok_i_between h17 w )) rfl ?_
      refine QJ.on rfl rfl (cB hb15) (YldS.yld (y_not rfl)) rfl ?_
      refine QJ.step (YldS.yld (y_pick_f (cB hb15) rfl)) rfl ?_
      obtain rfl := Option.some.inj h14
      exact QJ.cut_end ⟨rfl, rfl, trivial⟩
  refine QJ.done ?_
  refine PJ.next ?_
  refine WJ.cond (t := t13) rfl (fun hb18 => ?_) (fun hb18 => ?_)
  · replace hm := ifT hm hb18
    refine WJ.seq ?_
    refine WJ.quiet ?_
    refine QJ.step (YldS.yld (y_assign rfl)) rfl ?_
    refine QJ.done ?_
    refine PJ.next ?_
    refine WJ.ret ?_
    refine PJ.then_ret ?_
    obtain rfl := Option.some.inj hm
    refine PJ.sel (L' := []) [] ⟨List.nodup_nil, rfl⟩ ?_
    exact PJ.retn (vs := [.bool false]) Tryd.results46 ⟨rfl, trivial⟩ ⟨rfl, rfl⟩
  · replace hm := ifF hm hb18
    refine WJ.skip ?_
    refine PJ.next ?_
    refine WJ.seq ?_
    refine WJ.reg ?_
    refine SJ.q (YldS.yld (y_build0 Tryd.runUnderlying79 zv79 Tryd.sizeOf4)) rfl ?_
    refine SJ.allocA (R := fBool) (xs := List.replicate 256 false) 256 zv79 rfl rfl rfl rfl fun g19 => ?_
    refine SJ.storeA (k := 0) (ys := (List.replicate 256 false)) rfl rfl rfl rfl (by simp) Tryd.sizeOf79 (by simp [length_encs, fBool]) ?_
    refine SJ.nil ?_
    refine PJ.next ?_
    obtain ⟨kj20, hk21, hm⟩ := withK_open hm
    refine WJ.join (X := Unit) (fun (_ : Unit) => kj20  = some r) (fun (_ : Unit) => []) (fun (_ : Unit) => []) ?_ ?_
    · clear hk21
      refine WJ.seq ?_
      refine WJ.quiet ?_
      refine QJ.step (YldS.yld (y_fldB (o := 0) fld42_1 rfl)) rfl ?_
      refine QJ.step (YldS.yld (y_loadB (k := 1) (off := 1) (v := str d1.letters) rfl Tryd.isAgg9 rfl rfl)) rfl ?_
      refine QJ.step (YldS.yld (y_lenStr Tryd.runUnderlying9 rfl)) rfl ?_
      refine QJ.step (YldS.yld (y_move rfl)) rfl ?_
      refine QJ.done ?_
      refine PJ.next ?_
      refine WJ.block ?_
      refine WJ.sel (L' := (fun (x : (List Bool) × Int) => [row (av g19 256) 79 fBool x.1, box g2 42 [str d1.name, str d1.letters, .int .i64 d1.minutes]]) ((List.replicate 256 false), 0)) [0, 1] ⟨by decide, rfl⟩ ?_
      refine WJ.sub (m' := (fun (x : (List Bool) × Int) => [(1, pt g2 0), (3, pt g19 0), (29, .int .i64 (List.length d1.letters : Int)), (30, .int .i64 x.2)]) ((List.replicate 256 false), 0)) ⟨rfl, rfl, rfl, rfl, trivial⟩ ?_
      refine WJ.loop (X := (List Bool) × Int) (fun N (x : (List Bool) × Int) => i_validDrill_l1 kj20 d1 N x.1 x.2 = some r) (fun (x : (List Bool) × Int) => [(1, pt g2 0), (3, pt g19 0), (29, .int .i64 (List.length d1.letters : Int)), (30, .int .i64 x.2)]) (fun (x : (List Bool) × Int) => [row (av g19 256) 79 fBool x.1, box g2 42 [str d1.name, str d1.letters, .int .i64 d1.minutes]]) ?_ N ((List.replicate 256 false), 0) hm
      · rintro N ⟨l22, x23⟩ hI
        have hm := hI; clear hI
        cases N with
        | zero => cases hm
        | succ N =>
        unfold i_validDrill_l1 at hm
        refine WJ.seq ?_
        refine WJ.quiet ?_
        refine QJ.step (YldS.yld (y_bin rfl rfl rfl)) rfl ?_
        refine QJ.done ?_
        refine PJ.next ?_
        refine WJ.seq ?_
        refine WJ.cond (t := decide (x23 < (List.length d1.letters : Int))) rfl (fun hb24 => ?_) (fun hb24 => ?_)
        · replace hm := ifT hm hb24
          refine WJ.skip ?_
          refine PJ.next ?_
          refine WJ.seq ?_
          refine WJ.block ?_
          refine WJ.seq ?_
          refine WJ.quiet ?_
          refine QJ.step (YldS.yld (y_move rfl)) rfl ?_
          refine QJ.step (YldS.yld (y_assign rfl)) rfl ?_
          refine QJ.done ?_
          refine PJ.next ?_
          refine WJ.seq ?_
          refine WJ.seq ?_
          refine WJ.quiet ?_
          refine QJ.step (YldS.yld (y_fldB (o := 0) fld42_1 rfl)) rfl ?_
          refine QJ.step (YldS.yld (y_loadB (k := 1) (off := 1) (v := str d1.letters) rfl Tryd.isAgg9 rfl rfl)) rfl ?_
          refine QJ.step (YldS.yld (y_move rfl)) rfl ?_
          obtain ⟨c25, h26, hm⟩ := bindS hm
          refine QJ.step (YldS.yld (y_idxStr Tryd.runUnderlying9 rfl rfl h26)) rfl ?_
          obtain ⟨e27, h28, hm⟩ := bindS hm
          refine QJ.step (YldS.yld (y_ixArr (k := 0) (R := fBool) rfl Tryd.runUnderlying79 Tryd.sizeOf4 rfl rfl h28)) rfl ?_
          refine QJ.step (YldS.yld (y_loadR (k := 0) (i := (Int.toNat (UInt8.toNat c25 : Int))) (off := 0) (u := .bool e27) rfl Tryd.isAgg4 rfl (idx_get h28) rfl)) rfl ?_
          refine QJ.done ?_
          refine PJ.next ?_
          refine WJ.cond (t := e27) rfl (fun hb29 => ?_) (fun hb29 => ?_)
          · replace hm := ifT hm hb29
            refine WJ.seq ?_
            refine WJ.quiet ?_
            refine QJ.step (YldS.yld (y_assign rfl)) rfl ?_
            refine QJ.done ?_
            refine PJ.next ?_
            refine WJ.ret ?_
            refine PJ.then_ret (PJ.block_ret (PJ.then_ret (PJ.then_ret (PJ.block_ret (PJ.then_ret ?_)))))
            obtain rfl := Option.some.inj hm
            refine PJ.sel (L' := []) [] ⟨List.nodup_nil, rfl⟩ ?_
            exact PJ.retn (vs := [.bool false]) Tryd.results46 ⟨rfl, trivial⟩ ⟨rfl, rfl⟩
          · replace hm := ifF hm hb29
            refine WJ.skip ?_
            refine PJ.next ?_
            refine WJ.reg ?_
            refine SJ.q (YldS.yld (y_fldB (o := 0) fld42_1 rfl)) rfl ?_
            refine SJ.q (YldS.yld (y_loadB (k := 1) (off := 1) (v := str d1.letters) rfl Tryd.isAgg9 rfl rfl)) rfl ?_
            refine SJ.q (YldS.yld (y_move rfl)) rfl ?_
            obtain ⟨c30, h31, hm⟩ := bindS hm
            refine SJ.q (YldS.yld (y_idxStr Tryd.runUnderlying9 rfl rfl h31)) rfl ?_
            obtain ⟨e32, h33, hm⟩ := bindS hm
            refine SJ.q (YldS.yld (y_ixArr (k := 0) (R := fBool) rfl Tryd.runUnderlying79 Tryd.sizeOf4 rfl rfl h33)) rfl ?_
            refine SJ.storeRL (k := 0) (i := (Int.toNat (UInt8.toNat c30 : Int))) (off := 0) (us := [.bool true]) (b := true) rfl rfl (idx_get h33) rfl rfl Tryd.sizeOf4 rfl rfl rfl ?_
            refine SJ.nil ?_
            refine PJ.block_normal (PJ.next ?_)
            refine WJ.quiet ?_
            refine QJ.step (YldS.yld (y_bin rfl rfl rfl)) rfl ?_
            refine QJ.step (YldS.yld (y_move rfl)) rfl ?_
            refine QJ.done ?_
            exact PJ.round ((List.set l22 (Int.toNat (UInt8.toNat c30 : Int)) true), w64 (x23 + 1)) [0, 1] hm ⟨rfl, rfl, rfl, rfl, trivial⟩ ⟨by decide, rfl⟩
        · replace hm := ifF hm hb24
          refine WJ.exit ?_
          refine PJ.then_exit (PJ.then_exit (PJ.block_exit ?_))
          exact PJ.joined () [] hm trivial ⟨List.nodup_nil, rfl⟩
    · rintro _ hm
      subst hk21
      refine WJ.seq ?_
      refine WJ.quiet ?_
      refine QJ.step (YldS.yld (y_assign rfl)) rfl ?_
      refine QJ.done ?_
      refine PJ.next ?_
      refine WJ.ret ?_
      obtain rfl := Option.some.inj hm
      refine PJ.sel (L' := []) [] ⟨List.nodup_nil, rfl⟩ ?_
      exact PJ.retn (vs := [.bool true]) Tryd.results46 ⟨rfl, trivial⟩ ⟨rfl, rfl⟩

theorem ok_fmtI {a b : Int} {r : Str} (hm : fmtI a b = some r) (w : World) (hT : Tab Tryd.prog tabNm w (cx w).Fz) :
    Calls Tryd.prog 55 #[.int .i64 a, .int .i64 b] w (Ret (cx w) (str r)) :=
  fmtI_ok (fun n h0 h1 w h => Any.strconv_FormatInt_10 Tryd.laysM173 n h0 h1 w h) hm w hT

set_option maxRecDepth 100000 in
set_option maxHeartbeats 1000000 in
theorem ok_i_Decimal {n1 : Int} {r : Str} (hm : i_Decimal n1 = some r) (w : World) (hT : Tab Tryd.prog tabNm w (cx w).Fz) :
    Calls Tryd.prog 38 #[.int .i64 n1] w (Ret (cx w) (str r)) := by
  unfold i_Decimal at hm
  refine Calls.enter [.int .i64 n1] Tryd.func38 rfl Tryd.ntmps38 rfl ?_
  refine WJ.seq ?_
  refine WJ.quiet ?_
  refine QJ.step (YldS.yld (y_assign rfl)) rfl ?_
  refine QJ.done ?_
  refine PJ.next ?_
  refine WJ.seq ?_
  refine WJ.quiet ?_
  refine QJ.step (YldS.yld (y_move rfl)) rfl ?_
  obtain ⟨r2, h3, hm⟩ := bindS hm
  refine QJ.step (y_call Tryd.call55 rfl (RetG.quiet fun w hw => ok_fmtI h3 w (hT.st hw))) rfl ?_
  refine QJ.step (YldS.yld (y_assign rfl)) rfl ?_
  refine QJ.done ?_
  refine PJ.next ?_
  refine WJ.ret ?_
  obtain rfl := Option.some.inj hm
  refine PJ.sel (L' := []) [] ⟨List.nodup_nil, rfl⟩ ?_
  exact PJ.retn (vs := [str r2]) Tryd.results38 ⟨rfl, trivial⟩ ⟨rfl, rfl⟩

set_option maxRecDepth 100000 in
set_option maxHeartbeats 1000000 in
theorem ok_i_DrillText {N : Nat} {d1 : Drill} {r : Str} (hm : i_DrillText N d1 = some r) (w : World) (hT : Tab Tryd.prog tabNm w (cx w).Fz) :
    Calls Tryd.prog 25 #[.agg (Drill.enc d1).toArray] w (Ret (cx w) (str r)) := by
  unfold i_DrillText at hm
  refine Calls.enter [.agg (Drill.enc d1).toArray] Tryd.func25 rfl Tryd.ntmps25 rfl ?_
  refine WJ.seq ?_
  refine WJ.reg ?_
  refine SJ.box (cs := [str d1.name, str d1.letters, .int .i64 d1.minutes]) rfl rfl rfl fun g2 => ?_
  refine SJ.q (YldS.yld (y_assign rfl)) rfl ?_
  refine SJ.nil ?_
  refine PJ.next ?_
  refine WJ.seq ?_
  refine WJ.seq ?_
  refine WJ.quiet ?_
  refine QJ.step (YldS.yld (y_loadBN (k := 0) (off := 0) (us := [str d1.name, str d1.letters, .int .i64 d1.minutes]) rfl Tryd.isAgg42 Tryd.sizeOf42 rfl rfl)) rfl ?_
  obtain ⟨r3, h4, hm⟩ := bindS hm
  refine QJ.step (y_call Tryd.call46 rfl (RetG.quiet fun w hw => ok_i_validDrill h4 w )) rfl ?_
  refine QJ.step (YldS.yld (y_not rfl)) rfl ?_
  refine QJ.done ?_
  refine PJ.next ?_
  refine WJ.cond (t := !r3) rfl (fun hb5 => ?_) (fun hb5 => ?_)
  · replace hm := ifT hm hb5
    refine WJ.seq ?_
    refine WJ.quiet ?_
    refine QJ.step (YldS.yld (y_assign rfl)) rfl ?_
    refine QJ.done ?_
    refine PJ.next ?_
    refine WJ.ret ?_
    refine PJ.then_ret ?_
    obtain rfl := Option.some.inj hm
    refine PJ.sel (L' := []) [] ⟨List.nodup_nil, rfl⟩ ?_
    exact PJ.retn (vs := [str []]) Tryd.results25 ⟨rfl, trivial⟩ ⟨rfl, rfl⟩
  · replace hm := ifF hm hb5
    refine WJ.skip ?_
    refine PJ.next ?_
    refine WJ.seq ?_
    refine WJ.quiet_draw follows (by kernel_rfl) ?_
    refine QJ.step (YldS.yld (y_fldB (o := 0) fld42_0 rfl)) rfl ?_
    refine QJ.step (YldS.yld (y_loadB (k := 0) (off := 0) (v := str d1.name) rfl Tryd.isAgg9 rfl rfl)) rfl ?_
    obtain ⟨s6, h7, hm⟩ := bindS hm
    refine QJ.step (YldS.yld (y_cat h7 rfl rfl)) rfl ?_
    refine QJ.step (YldS.yld (y_fldB (o := 0) fld42_1 rfl)) rfl ?_
    refine QJ.step (YldS.yld (y_loadB (k := 0) (off := 1) (v := str d1.letters) rfl Tryd.isAgg9 rfl rfl)) rfl ?_
    obtain ⟨s8, h9, hm⟩ := bindS hm
    refine QJ.step (YldS.yld (y_cat h9 rfl rfl)) rfl ?_
    obtain ⟨s10, h11, hm⟩ := bindS hm
    refine QJ.step (YldS.yld (y_cat h11 rfl rfl)) rfl ?_
    refine QJ.step (YldS.yld (y_fldB (o := 0) fld42_2 rfl)) rfl ?_
    refine QJ.step (YldS.yld (y_loadB (k := 0) (off := 2) (v := .int .i64 d1.minutes) rfl Tryd.isAgg2 rfl rfl)) rfl ?_
    obtain ⟨r12, h13, hm⟩ := bindS hm
    refine QJ.step (y_call Tryd.call38 rfl (RetG.quiet fun w hw => ok_i_Decimal h13 w (hT.st hw))) rfl ?_
    obtain ⟨s14, h15, hm⟩ := bindS hm
    refine QJ.step (YldS.yld (y_cat h15 rfl rfl)) rfl ?_
    refine QJ.step (YldS.yld (y_assign rfl)) rfl ?_
    refine QJ.done ?_
    refine PJ.next ?_
    refine WJ.ret ?_
    obtain rfl := Option.some.inj hm
    refine PJ.sel (L' := []) [] ⟨List.nodup_nil, rfl⟩ ?_
    exact PJ.retn (vs := [str s14]) Tryd.results25 ⟨rfl, trivial⟩ ⟨rfl, rfl⟩

set_option maxRecDepth 100000 in
set_option maxHeartbeats 1000000 in
theorem ok_i_SplitWords {N : Nat} {s1 : Str} {r : (List Str)} (hm : i_SplitWords N s1 = some r) (w : World)  :
    Calls Tryd.prog 44 #[str s1] w (RetG (cx w) fun u L => ∃ (u1 : Value), (u = u1 ∧ L = [row u1 9 fStr r])) := by
  unfold i_SplitWords at hm
  refine Calls.enter [str s1] Tryd.func44 rfl Tryd.ntmps44 rfl ?_
  refine WJ.seq ?_
  refine WJ.quiet ?_
  refine QJ.step (YldS.yld (y_assign rfl)) rfl ?_
  refine QJ.done ?_
  refine PJ.next ?_
  refine WJ.seq ?_
  refine WJ.reg ?_
  refine SJ.buildSlice (R := fStr) (os := []) [] Tryd.runUnderlying60 Tryd.sizeOf9 Tryd.zeroValue9 rfl rfl rfl rfl rfl rfl fun v2 => ?_
  refine SJ.q (YldS.yld (y_assign rfl)) rfl ?_
  refine SJ.nil ?_
  refine PJ.next ?_
  refine WJ.seq ?_
  refine WJ.quiet ?_
  refine QJ.step (YldS.yld (y_assign rfl)) rfl ?_
  refine QJ.done ?_
  refine PJ.next ?_
  obtain ⟨kj6, hk7, hm⟩ := withK_open hm
  refine WJ.join (X := (List Str) × Value × Int) (fun (x : (List Str) × Value × Int) => kj6 x.1 x.2.2 = some r) (fun (x : (List Str) × Value × Int) => [(0, str s1), (3, x.2.1), (4, .int .i64 x.2.2)]) (fun (x : (List Str) × Value × Int) => [row x.2.1 9 fStr x.1]) ?_ ?_
  · clear hk7
    refine WJ.seq ?_
    refine WJ.quiet ?_
    refine QJ.step (YldS.yld (y_move rfl)) rfl ?_
    refine QJ.step (YldS.yld (y_lenStr Tryd.runUnderlying9 rfl)) rfl ?_
    refine QJ.step (YldS.yld (y_move rfl)) rfl ?_
    refine QJ.done ?_
    refine PJ.next ?_
    refine WJ.block ?_
    refine WJ.sel (L' := (fun (x : (List Str) × Value × Int × Int) => [row x.2.1 9 fStr x.1]) ([], v2, (-1), 0)) [0] ⟨by decide, rfl⟩ ?_
    refine WJ.sub (m' := (fun (x : (List Str) × Value × Int × Int) => [(0, str s1), (3, x.2.1), (4, .int .i64 x.2.2.1), (8, .int .i64 (List.length s1 : Int)), (9, .int .i64 x.2.2.2)]) ([], v2, (-1), 0)) ⟨rfl, rfl, rfl, rfl, rfl, trivial⟩ ?_
    refine WJ.loop (X := (List Str) × Value × Int × Int) (fun N (x : (List Str) × Value × Int × Int) => i_SplitWords_l1 kj6 s1 N x.1 x.2.2.1 x.2.2.2 = some r) (fun (x : (List Str) × Value × Int × Int) => [(0, str s1), (3, x.2.1), (4, .int .i64 x.2.2.1), (8, .int .i64 (List.length s1 : Int)), (9, .int .i64 x.2.2.2)]) (fun (x : (List Str) × Value × Int × Int) => [row x.2.1 9 fStr x.1]) ?_ N ([], v2, (-1), 0) hm
    · rintro N ⟨l8, v9, start10, x11⟩ hI
      have hm := hI; clear hI
      cases N with
      | zero => cases hm
      | succ N =>
      unfold i_SplitWords_l1 at hm
      refine WJ.seq ?_
      refine WJ.quiet ?_
      refine QJ.step (YldS.yld (y_bin rfl rfl rfl)) rfl ?_
      refine QJ.done ?_
      refine PJ.next ?_
      refine WJ.seq ?_
      refine WJ.cond (t := decide (x11 < (List.length s1 : Int))) rfl (fun hb12 => ?_) (fun hb12 => ?_)
      · replace hm := ifT hm hb12
        refine WJ.skip ?_
        refine PJ.next ?_
        obtain ⟨kj16, hk17, hm⟩ := withK_open hm
        refine WJ.join (X := (List Str) × Value × Int) (fun (x : (List Str) × Value × Int) => kj16 x.1 x.2.2 = some r) (fun (x : (List Str) × Value × Int) => [(0, str s1), (3, x.2.1), (4, .int .i64 x.2.2), (8, .int .i64 (List.length s1 : Int)), (9, .int .i64 x11)]) (fun (x : (List Str) × Value × Int) => [row x.2.1 9 fStr x.1]) ?_ ?_
        · clear hk17
          refine WJ.block ?_
          refine WJ.seq ?_
          refine WJ.quiet ?_
          refine QJ.step (YldS.yld (y_move rfl)) rfl ?_
          refine QJ.step (YldS.yld (y_assign rfl)) rfl ?_
          refine QJ.done ?_
          refine PJ.next ?_
          refine WJ.block ?_
          refine WJ.seq ?_
          refine WJ.quiet ?_
          refine QJ.step (YldS.yld (y_move rfl)) rfl ?_
          refine QJ.step (YldS.yld (y_move rfl)) rfl ?_
          obtain ⟨c18, h19, hm⟩ := bindS hm
          refine QJ.step (YldS.yld (y_idxStr Tryd.runUnderlying9 rfl rfl h19)) rfl ?_
          refine QJ.step (YldS.yld (y_bin8 c18 (32 : UInt8) rfl rfl rfl)) rfl ?_
          refine QJ.step (YldS.yld (y_move rfl)) rfl ?_
          obtain ⟨t20, h21, hm⟩ := bindS hm
          refine QJ.cut 3 [(0, str s1), (3, v9), (4, .int .i64 start10), (5, .int .i64 x11), (8, .int .i64 (List.length s1 : Int)), (9, .int .i64 x11), (20, .bool t20)] ?_ ?_
          · rcases Bool.eq_false_or_eq_true (c18 == (32 : UInt8)) with hb22 | hb22
            · replace h21 := andT h21 hb22
              refine QJ.on rfl rfl (cB hb22) (YldS.yld (y_move rfl)) rfl ?_
              refine QJ.on rfl rfl (cB hb22) (YldS.yld (y_bin rfl rfl rfl)) rfl ?_
              refine QJ.step (YldS.yld (y_pick_t (cB hb22) rfl)) rfl ?_
              obtain rfl := Option.some.inj h21
              exact QJ.cut_end ⟨rfl, rfl, rfl, rfl, rfl, rfl, rfl, trivial⟩
            · obtain rfl := andF h21 hb22
              refine QJ.off rfl rfl (cB hb22) rfl rfl ?_
              refine QJ.off rfl rfl (cB hb22) rfl rfl ?_
              refine QJ.step (YldS.yld (y_pick_f (cB hb22) rfl)) rfl ?_
              exact QJ.cut_end ⟨rfl, rfl, rfl, rfl, rfl, rfl, rfl, trivial⟩
          refine QJ.step (YldS.yld (y_assign rfl)) rfl ?_
          refine QJ.done ?_
          refine PJ.next ?_
          refine WJ.cond (t := t20) rfl (fun hb23 => ?_) (fun hb23 => ?_)
          · replace hm := ifT hm hb23
            refine WJ.seq ?_
            refine WJ.reg ?_
            refine SJ.q (YldS.yld (y_move rfl)) rfl ?_
            refine SJ.q (YldS.yld (y_move rfl)) rfl ?_
            refine SJ.q (YldS.yld (y_move rfl)) rfl ?_
            refine SJ.q (YldS.yld (y_move rfl)) rfl ?_
            obtain ⟨s24, h25, hm⟩ := bindS hm
            refine SJ.q (YldS.yld (y_subStr (i := some start10) (j := some x11) h25 Tryd.runUnderlying9 rfl ⟨_, rfl⟩ ⟨_, rfl⟩)) rfl ?_
            refine SJ.buildSlice (R := fStr) (os := [.tmp 25]) [s24] Tryd.runUnderlying60 Tryd.sizeOf9 Tryd.zeroValue9 rfl rfl rfl rfl rfl rfl fun v26 => ?_
            obtain ⟨l27, h28, hm⟩ := bindS hm
            refine SJ.append (k := 1) (R := fStr) h28 rfl Tryd.underlying60 el9 rfl rfl rfl (fun w hw => (hw.row_rd (k := 0) rfl)) rfl fun v29 => ?_
            refine SJ.q (YldS.yld (y_assign rfl)) rfl ?_
            refine SJ.nil ?_
            refine PJ.next ?_
            refine WJ.quiet ?_
            refine QJ.step (YldS.yld (y_assign rfl)) rfl ?_
            refine QJ.done ?_
            refine PJ.block_normal (PJ.block_normal ?_)
            exact PJ.joined (l27, v29, (-1)) [1] hm ⟨rfl, rfl, rfl, rfl, rfl, trivial⟩ ⟨by decide, rfl⟩
          · replace hm := ifF hm hb23
            refine WJ.seq ?_
            refine WJ.quiet ?_
            refine QJ.step (YldS.yld (y_move rfl)) rfl ?_
            refine QJ.step (YldS.yld (y_move rfl)) rfl ?_
            obtain ⟨c30, h31, hm⟩ := bindS hm
            refine QJ.step (YldS.yld (y_idxStr Tryd.runUnderlying9 rfl rfl h31)) rfl ?_
            refine QJ.step (YldS.yld (y_bin8 c30 (32 : UInt8) rfl rfl rfl)) rfl ?_
            refine QJ.step (YldS.yld (y_move rfl)) rfl ?_
            obtain ⟨t32, h33, hm⟩ := bindS hm
            refine QJ.cut 3 [(0, str s1), (3, v9), (4, .int .i64 start10), (5, .int .i64 x11), (8, .int .i64 (List.length s1 : Int)), (9, .int .i64 x11), (36, .bool t32)] ?_ ?_
            · rcases Bool.eq_false_or_eq_true (c30 != (32 : UInt8)) with hb34 | hb34
              · replace h33 := andT h33 hb34
                refine QJ.on rfl rfl (cB hb34) (YldS.yld (y_move rfl)) rfl ?_
                refine QJ.on rfl rfl (cB hb34) (YldS.yld (y_bin rfl rfl rfl)) rfl ?_
                refine QJ.step (YldS.yld (y_pick_t (cB hb34) rfl)) rfl ?_
                obtain rfl := Option.some.inj h33
                exact QJ.cut_end ⟨rfl, rfl, rfl, rfl, rfl, rfl, rfl, trivial⟩
              · obtain rfl := andF h33 hb34
                refine QJ.off rfl rfl (cB hb34) rfl rfl ?_
                refine QJ.off rfl rfl (cB hb34) rfl rfl ?_
                refine QJ.step (YldS.yld (y_pick_f (cB hb34) rfl)) rfl ?_
                exact QJ.cut_end ⟨rfl, rfl, rfl, rfl, rfl, rfl, rfl, trivial⟩
            refine QJ.step (YldS.yld (y_assign rfl)) rfl ?_
            refine QJ.done ?_
            refine PJ.next ?_
            refine WJ.cond (t := t32) rfl (fun hb35 => ?_) (fun hb35 => ?_)
            · replace hm := ifT hm hb35
              refine WJ.quiet ?_
              refine QJ.step (YldS.yld (y_move rfl)) rfl ?_
              refine QJ.step (YldS.yld (y_assign rfl)) rfl ?_
              refine QJ.done ?_
              refine PJ.block_normal (PJ.block_normal ?_)
              exact PJ.joined (l8, v9, x11) [0] hm ⟨rfl, rfl, rfl, rfl, rfl, trivial⟩ ⟨by decide, rfl⟩
            · replace hm := ifF hm hb35
              refine WJ.skip ?_
              refine PJ.block_normal (PJ.block_normal ?_)
              exact PJ.joined (l8, v9, start10) [0] hm ⟨rfl, rfl, rfl, rfl, rfl, trivial⟩ ⟨by decide, rfl⟩
        · rintro ⟨l13, v14, start15⟩ hm
          subst hk17
          refine WJ.quiet ?_
          refine QJ.step (YldS.yld (y_bin rfl rfl rfl)) rfl ?_
          refine QJ.step (YldS.yld (y_move rfl)) rfl ?_
          refine QJ.done ?_
          exact PJ.round (l13, v14, start15, w64 (x11 + 1)) [0] hm ⟨rfl, rfl, rfl, rfl, rfl, trivial⟩ ⟨by decide, rfl⟩
      · replace hm := ifF hm hb12
        refine WJ.exit ?_
        refine PJ.then_exit (PJ.then_exit (PJ.block_exit ?_))
        exact PJ.joined (l8, v9, start10) [0] hm ⟨rfl, rfl, rfl, trivial⟩ ⟨by decide, rfl⟩
  · rintro ⟨l3, v4, start5⟩ hm
    subst hk7
    obtain ⟨kj38, hk39, hm⟩ := withK_open hm
    refine WJ.join (X := (List Str) × Value) (fun (x : (List Str) × Value) => kj38 x.1 = some r) (fun (x : (List Str) × Value) => [(3, x.2)]) (fun (x : (List Str) × Value) => [row x.2 9 fStr x.1]) ?_ ?_
    · clear hk39
      refine WJ.seq ?_
      refine WJ.quiet ?_
      refine QJ.step (YldS.yld (y_move rfl)) rfl ?_
      refine QJ.step (YldS.yld (y_bin rfl rfl rfl)) rfl ?_
      refine QJ.done ?_
      refine PJ.next ?_
      refine WJ.cond (t := decide (start5 ≥ 0)) rfl (fun hb40 => ?_) (fun hb40 => ?_)
      · replace hm := ifT hm hb40
        refine WJ.reg ?_
        refine SJ.q (YldS.yld (y_move rfl)) rfl ?_
        refine SJ.q (YldS.yld (y_move rfl)) rfl ?_
        refine SJ.q (YldS.yld (y_move rfl)) rfl ?_
        obtain ⟨s41, h42, hm⟩ := bindS hm
        refine SJ.q (YldS.yld (y_subStr (i := some start5) (j := none) h42 Tryd.runUnderlying9 rfl ⟨_, rfl⟩ trivial)) rfl ?_
        refine SJ.buildSlice (R := fStr) (os := [.tmp 44]) [s41] Tryd.runUnderlying60 Tryd.sizeOf9 Tryd.zeroValue9 rfl rfl rfl rfl rfl rfl fun v43 => ?_
        obtain ⟨l44, h45, hm⟩ := bindS hm
        refine SJ.append (k := 1) (R := fStr) h45 rfl Tryd.underlying60 el9 rfl rfl rfl (fun w hw => (hw.row_rd (k := 0) rfl)) rfl fun v46 => ?_
        refine SJ.q (YldS.yld (y_assign rfl)) rfl ?_
        refine SJ.nil ?_
        exact PJ.joined (l44, v46) [1] hm ⟨rfl, trivial⟩ ⟨by decide, rfl⟩
      · replace hm := ifF hm hb40
        refine WJ.skip ?_
        exact PJ.joined (l3, v4) [0] hm ⟨rfl, trivial⟩ ⟨by decide, rfl⟩
    · rintro ⟨l36, v37⟩ hm
      subst hk39
      refine WJ.seq ?_
      refine WJ.quiet ?_
      refine QJ.step (YldS.yld (y_move rfl)) rfl ?_
      refine QJ.step (YldS.yld (y_assign rfl)) rfl ?_
      refine QJ.done ?_
      refine PJ.next ?_
      refine WJ.ret ?_
      obtain rfl := Option.some.inj hm
      refine PJ.sel (L' := [row v37 9 fStr l36]) [0] ⟨by decide, rfl⟩ ?_
      exact PJ.retn (vs := [v37]) Tryd.results44 ⟨rfl, trivial⟩ ⟨_, rfl, rfl⟩

set_option maxRecDepth 100000 in
set_option maxHeartbeats 1000000 in
theorem ok_i_ReadDecimal {N : Nat} {s1 : Str} {r : Int × Bool} (hm : i_ReadDecimal N s1 = some r) (w : World) (hT : Tab Tryd.prog tabNm w (cx w).Fz) :
    Calls Tryd.prog 45 #[str s1] w (Ret (cx w) (tup [.int .i64 r.1, .bool r.2])) := by
  unfold i_ReadDecimal at hm
  refine Calls.enter [str s1] Tryd.func45 rfl Tryd.ntmps45 rfl ?_
  refine WJ.seq ?_
  refine WJ.quiet ?_
  refine QJ.step (YldS.yld (y_assign rfl)) rfl ?_
  refine QJ.step (YldS.yld (y_assign rfl)) rfl ?_
  refine QJ.done ?_
  refine PJ.next ?_
  refine WJ.seq ?_
  refine WJ.quiet ?_
  refine QJ.step (YldS.yld (y_move rfl)) rfl ?_
  refine QJ.step (YldS.yld (y_assign rfl)) rfl ?_
  refine QJ.done ?_
  refine PJ.next ?_
  obtain ⟨kj3, hk4, hm⟩ := withK_open hm
  refine WJ.join (X := Str) (fun (x : Str) => kj3 x = some r) (fun (x : Str) => [(0, str s1), (4, str x)]) (fun (x : Str) => []) ?_ ?_
  · clear hk4
    refine WJ.seq ?_
    refine WJ.quiet ?_
    refine QJ.step (YldS.yld (y_move rfl)) rfl ?_
    refine QJ.step (YldS.yld (y_lenStr Tryd.runUnderlying9 rfl)) rfl ?_
    refine QJ.step (YldS.yld (y_bin rfl rfl rfl)) rfl ?_
    refine QJ.step (YldS.yld (y_move rfl)) rfl ?_
    obtain ⟨t5, h6, hm⟩ := bindS hm
    refine QJ.cut 4 [(0, str s1), (4, str s1), (15, .bool t5)] ?_ ?_
    · rcases Bool.eq_false_or_eq_true (decide ((List.length s1 : Int) > 0)) with hb7 | hb7
      · replace h6 := andT h6 hb7
        refine QJ.on rfl rfl (cB hb7) (YldS.yld (y_move rfl)) rfl ?_
        obtain ⟨c8, h9, h6⟩ := bindS h6
        refine QJ.on rfl rfl (cB hb7) (YldS.yld (y_idxStr Tryd.runUnderlying9 rfl rfl h9)) rfl ?_
        refine QJ.on rfl rfl (cB hb7) (YldS.yld (y_bin8 c8 (45 : UInt8) rfl rfl rfl)) rfl ?_
        refine QJ.step (YldS.yld (y_pick_t (cB hb7) rfl)) rfl ?_
        obtain rfl := Option.some.inj h6
        exact QJ.cut_end ⟨rfl, rfl, rfl, trivial⟩
      · obtain rfl := andF h6 hb7
        refine QJ.off rfl rfl (cB hb7) rfl rfl ?_
        refine QJ.off rfl rfl (cB hb7) rfl rfl ?_
        refine QJ.off rfl rfl (cB hb7) rfl rfl ?_
        refine QJ.step (YldS.yld (y_pick_f (cB hb7) rfl)) rfl ?_
        exact QJ.cut_end ⟨rfl, rfl, rfl, trivial⟩
    refine QJ.done ?_
    refine PJ.next ?_
    refine WJ.cond (t := t5) rfl (fun hb10 => ?_) (fun hb10 => ?_)
    · replace hm := ifT hm hb10
      refine WJ.quiet ?_
      refine QJ.step (YldS.yld (y_move rfl)) rfl ?_
      obtain ⟨s11, h12, hm⟩ := bindS hm
      refine QJ.step (YldS.yld (y_subStr (i := some 1) (j := none) h12 Tryd.runUnderlying9 rfl ⟨_, rfl⟩ trivial)) rfl ?_
      refine QJ.step (YldS.yld (y_assign rfl)) rfl ?_
      refine QJ.done ?_
      exact PJ.joined s11 [] hm ⟨rfl, rfl, trivial⟩ ⟨List.nodup_nil, rfl⟩
    · replace hm := ifF hm hb10
      refine WJ.skip ?_
      exact PJ.joined s1 [] hm ⟨rfl, rfl, trivial⟩ ⟨List.nodup_nil, rfl⟩
  · rintro digits2 hm
    subst hk4
    refine WJ.seq ?_
    refine WJ.seq ?_
    refine WJ.quiet ?_
    refine QJ.step (YldS.yld (y_move rfl)) rfl ?_
    refine QJ.step (YldS.yld (y_lenStr Tryd.runUnderlying9 rfl)) rfl ?_
    refine QJ.step (YldS.yld (y_bin rfl rfl rfl)) rfl ?_
    refine QJ.step (YldS.yld (y_move rfl)) rfl ?_
    obtain ⟨t13, h14, hm⟩ := bindS hm
    refine QJ.cut 4 [(0, str s1), (4, str digits2), (25, .bool t13)] ?_ ?_
    · rcases Bool.eq_false_or_eq_true ((List.length digits2 : Int) == 0) with hb15 | hb15
      · obtain rfl := orT h14 hb15
        refine QJ.off rfl rfl (cB hb15) rfl rfl ?_
        refine QJ.off rfl rfl (cB hb15) rfl rfl ?_
        refine QJ.off rfl rfl (cB hb15) rfl rfl ?_
        refine QJ.step (YldS.yld (y_pick_t (cB hb15) rfl)) rfl ?_
        exact QJ.cut_end ⟨rfl, rfl, rfl, trivial⟩
      · replace h14 := orF h14 hb15
        refine QJ.on rfl rfl (cB hb15) (YldS.yld (y_move rfl)) rfl ?_
        refine QJ.on rfl rfl (cB hb15) (YldS.yld (y_lenStr Tryd.runUnderlying9 rfl)) rfl ?_
        refine QJ.on rfl rfl (cB hb15) (YldS.yld (y_bin rfl rfl rfl)) rfl ?_
        refine QJ.step (YldS.yld (y_pick_f (cB hb15) rfl)) rfl ?_
        obtain rfl := Option.some.inj h14
        exact QJ.cut_end ⟨rfl, rfl, rfl, trivial⟩
    refine QJ.done ?_
    refine PJ.next ?_
    refine WJ.cond (t := t13) rfl (fun hb16 => ?_) (fun hb16 => ?_)
    · replace hm := ifT hm hb16
      refine WJ.seq ?_
      refine WJ.quiet ?_
      refine QJ.step (YldS.yld (y_assign rfl)) rfl ?_
      refine QJ.step (YldS.yld (y_assign rfl)) rfl ?_
      refine QJ.done ?_
      refine PJ.next ?_
      refine WJ.ret ?_
      refine PJ.then_ret ?_
      obtain rfl := Option.some.inj hm
      refine PJ.sel (L' := []) [] ⟨List.nodup_nil, rfl⟩ ?_
      exact PJ.retn (vs := [.int .i64 0, .bool false]) Tryd.results45 ⟨rfl, rfl, trivial⟩ ⟨rfl, rfl⟩
    · replace hm := ifF hm hb16
      refine WJ.skip ?_
      refine PJ.next ?_
      refine WJ.seq ?_
      refine WJ.quiet ?_
      refine QJ.step (YldS.yld (y_assign rfl)) rfl ?_
      refine QJ.done ?_
      refine PJ.next ?_
      obtain ⟨kj18, hk19, hm⟩ := withK_open hm
      refine WJ.join (X := Int) (fun (x : Int) => kj18 x = some r) (fun (x : Int) => [(0, str s1), (4, str digits2), (5, .int .i64 x)]) (fun (x : Int) => []) ?_ ?_
      · clear hk19
        refine WJ.seq ?_
        refine WJ.quiet ?_
        refine QJ.step (YldS.yld (y_move rfl)) rfl ?_
        refine QJ.step (YldS.yld (y_lenStr Tryd.runUnderlying9 rfl)) rfl ?_
        refine QJ.step (YldS.yld (y_move rfl)) rfl ?_
        refine QJ.done ?_
        refine PJ.next ?_
        refine WJ.block ?_
        refine WJ.sel (L' := (fun (x : Int × Int) => []) (0, 0)) [] ⟨List.nodup_nil, rfl⟩ ?_
        refine WJ.sub (m' := (fun (x : Int × Int) => [(0, str s1), (4, str digits2), (5, .int .i64 x.1), (27, .int .i64 (List.length digits2 : Int)), (28, .int .i64 x.2)]) (0, 0)) ⟨rfl, rfl, rfl, rfl, rfl, trivial⟩ ?_
        refine WJ.loop (X := Int × Int) (fun N (x : Int × Int) => i_ReadDecimal_l1 kj18 digits2 N x.1 x.2 = some r) (fun (x : Int × Int) => [(0, str s1), (4, str digits2), (5, .int .i64 x.1), (27, .int .i64 (List.length digits2 : Int)), (28, .int .i64 x.2)]) (fun (x : Int × Int) => []) ?_ N (0, 0) hm
        · rintro N ⟨n20, x21⟩ hI
          have hm := hI; clear hI
          cases N with
          | zero => cases hm
          | succ N =>
          unfold i_ReadDecimal_l1 at hm
          refine WJ.seq ?_
          refine WJ.quiet ?_
          refine QJ.step (YldS.yld (y_bin rfl rfl rfl)) rfl ?_
          refine QJ.done ?_
          refine PJ.next ?_
          refine WJ.seq ?_
          refine WJ.cond (t := decide (x21 < (List.length digits2 : Int))) rfl (fun hb22 => ?_) (fun hb22 => ?_)
          · replace hm := ifT hm hb22
            refine WJ.skip ?_
            refine PJ.next ?_
            refine WJ.seq ?_
            refine WJ.block ?_
            refine WJ.seq ?_
            refine WJ.quiet ?_
            refine QJ.step (YldS.yld (y_move rfl)) rfl ?_
            refine QJ.step (YldS.yld (y_assign rfl)) rfl ?_
            refine QJ.done ?_
            refine PJ.next ?_
            refine WJ.seq ?_
            refine WJ.seq ?_
            refine WJ.quiet ?_
            refine QJ.step (YldS.yld (y_move rfl)) rfl ?_
            refine QJ.step (YldS.yld (y_move rfl)) rfl ?_
            obtain ⟨c23, h24, hm⟩ := bindS hm
            refine QJ.step (YldS.yld (y_idxStr Tryd.runUnderlying9 rfl rfl h24)) rfl ?_
            obtain ⟨r25, h26, hm⟩ := bindS hm
            refine QJ.step (y_call Tryd.call58 rfl (RetG.quiet fun w hw => ok_i_isDigit h26 w )) rfl ?_
            refine QJ.step (YldS.yld (y_not rfl)) rfl ?_
            refine QJ.done ?_
            refine PJ.next ?_
            refine WJ.cond (t := !r25) rfl (fun hb27 => ?_) (fun hb27 => ?_)
            · replace hm := ifT hm hb27
              refine WJ.seq ?_
              refine WJ.quiet ?_
              refine QJ.step (YldS.yld (y_assign rfl)) rfl ?_
              refine QJ.step (YldS.yld (y_assign rfl)) rfl ?_
              refine QJ.done ?_
              refine PJ.next ?_
              refine WJ.ret ?_
              refine PJ.then_ret (PJ.block_ret (PJ.then_ret (PJ.then_ret (PJ.block_ret (PJ.then_ret ?_)))))
              obtain rfl := Option.some.inj hm
              refine PJ.sel (L' := []) [] ⟨List.nodup_nil, rfl⟩ ?_
              exact PJ.retn (vs := [.int .i64 0, .bool false]) Tryd.results45 ⟨rfl, rfl, trivial⟩ ⟨rfl, rfl⟩
            · replace hm := ifF hm hb27
              refine WJ.skip ?_
              refine PJ.next ?_
              refine WJ.quiet ?_
              refine QJ.step (YldS.yld (y_move rfl)) rfl ?_
              refine QJ.step (YldS.yld (y_bin rfl rfl rfl)) rfl ?_
              refine QJ.step (YldS.yld (y_move rfl)) rfl ?_
              refine QJ.step (YldS.yld (y_move rfl)) rfl ?_
              obtain ⟨c28, h29, hm⟩ := bindS hm
              refine QJ.step (YldS.yld (y_idxStr Tryd.runUnderlying9 rfl rfl h29)) rfl ?_
              refine QJ.step (YldS.yld (y_bin8 c28 (48 : UInt8) rfl rfl rfl)) rfl ?_
              refine QJ.step (YldS.yld (y_conv8 Tryd.runUnderlying5 Tryd.runUnderlying2 rfl)) rfl ?_
              refine QJ.step (YldS.yld (y_bin rfl rfl rfl)) rfl ?_
              refine QJ.step (YldS.yld (y_assign rfl)) rfl ?_
              refine QJ.done ?_
              refine PJ.block_normal (PJ.next ?_)
              refine WJ.quiet ?_
              refine QJ.step (YldS.yld (y_bin rfl rfl rfl)) rfl ?_
              refine QJ.step (YldS.yld (y_move rfl)) rfl ?_
              refine QJ.done ?_
              exact PJ.round (w64 ((w64 (10 * n20)) + (UInt8.toNat (c28 - (48 : UInt8)) : Int)), w64 (x21 + 1)) [] hm ⟨rfl, rfl, rfl, rfl, rfl, trivial⟩ ⟨List.nodup_nil, rfl⟩
          · replace hm := ifF hm hb22
            refine WJ.exit ?_
            refine PJ.then_exit (PJ.then_exit (PJ.block_exit ?_))
            exact PJ.joined n20 [] hm ⟨rfl, rfl, rfl, trivial⟩ ⟨List.nodup_nil, rfl⟩
      · rintro n17 hm
        subst hk19
        obtain ⟨kj31, hk32, hm⟩ := withK_open hm
        refine WJ.join (X := Int) (fun (x : Int) => kj31 x = some r) (fun (x : Int) => [(0, str s1), (5, .int .i64 x)]) (fun (x : Int) => []) ?_ ?_
        · clear hk32
          refine WJ.seq ?_
          refine WJ.quiet ?_
          refine QJ.step (YldS.yld (y_move rfl)) rfl ?_
          refine QJ.step (YldS.yld (y_lenStr Tryd.runUnderlying9 rfl)) rfl ?_
          refine QJ.step (YldS.yld (y_move rfl)) rfl ?_
          refine QJ.step (YldS.yld (y_lenStr Tryd.runUnderlying9 rfl)) rfl ?_
          refine QJ.step (YldS.yld (y_bin rfl rfl rfl)) rfl ?_
          refine QJ.done ?_
          refine PJ.next ?_
          refine WJ.cond (t := decide ((List.length digits2 : Int) < (List.length s1 : Int))) rfl (fun hb33 => ?_) (fun hb33 => ?_)
          · replace hm := ifT hm hb33
            refine WJ.quiet ?_
            refine QJ.step (YldS.yld (y_move rfl)) rfl ?_
            refine QJ.step (YldS.yld (y_neg rfl)) rfl ?_
            refine QJ.step (YldS.yld (y_assign rfl)) rfl ?_
            refine QJ.done ?_
            exact PJ.joined (w64 (0 - n17)) [] hm ⟨rfl, rfl, trivial⟩ ⟨List.nodup_nil, rfl⟩
          · replace hm := ifF hm hb33
            refine WJ.skip ?_
            exact PJ.joined n17 [] hm ⟨rfl, rfl, trivial⟩ ⟨List.nodup_nil, rfl⟩
        · rintro n30 hm
          subst hk32
          refine WJ.seq ?_
          refine WJ.seq ?_
          refine WJ.quiet ?_
          refine QJ.step (YldS.yld (y_move rfl)) rfl ?_
          obtain ⟨r34, h35, hm⟩ := bindS hm
          refine QJ.step (y_call Tryd.call38 rfl (RetG.quiet fun w hw => ok_i_Decimal h35 w (hT.st hw))) rfl ?_
          refine QJ.step (YldS.yld (y_move rfl)) rfl ?_
          refine QJ.step (YldS.yld (y_binS rfl rfl rfl)) rfl ?_
          refine QJ.done ?_
          refine PJ.next ?_
          refine WJ.cond (t := (r34 != s1)) rfl (fun hb36 => ?_) (fun hb36 => ?_)
          · replace hm := ifT hm hb36
            refine WJ.seq ?_
            refine WJ.quiet ?_
            refine QJ.step (YldS.yld (y_assign rfl)) rfl ?_
            refine QJ.step (YldS.yld (y_assign rfl)) rfl ?_
            refine QJ.done ?_
            refine PJ.next ?_
            refine WJ.ret ?_
            refine PJ.then_ret ?_
            obtain rfl := Option.some.inj hm
            refine PJ.sel (L' := []) [] ⟨List.nodup_nil, rfl⟩ ?_
            exact PJ.retn (vs := [.int .i64 0, .bool false]) Tryd.results45 ⟨rfl, rfl, trivial⟩ ⟨rfl, rfl⟩
          · replace hm := ifF hm hb36
            refine WJ.skip ?_
            refine PJ.next ?_
            refine WJ.seq ?_
            refine WJ.quiet ?_
            refine QJ.step (YldS.yld (y_move rfl)) rfl ?_
            refine QJ.step (YldS.yld (y_assign rfl)) rfl ?_
            refine QJ.step (YldS.yld (y_assign rfl)) rfl ?_
            refine QJ.done ?_
            refine PJ.next ?_
            refine WJ.ret ?_
            obtain rfl := Option.some.inj hm
            refine PJ.sel (L' := []) [] ⟨List.nodup_nil, rfl⟩ ?_
            exact PJ.retn (vs := [.int .i64 n30, .bool true]) Tryd.results45 ⟨rfl, rfl, trivial⟩ ⟨rfl, rfl⟩

set_option maxRecDepth 100000 in
set_option maxHeartbeats 1000000 in
theorem ok_i_ReadDrill {N : Nat} {s1 : Str} {r : Drill × Bool} (hm : i_ReadDrill N s1 = some r) (w : World) (hT : Tab Tryd.prog tabNm w (cx w).Fz) :
    Calls Tryd.prog 24 #[str s1] w (Ret (cx w) (tup [.agg (Drill.enc r.1).toArray, .bool r.2])) := by
  unfold i_ReadDrill at hm
  refine Calls.enter [str s1] Tryd.func24 rfl Tryd.ntmps24 rfl ?_
  refine WJ.seq ?_
  refine WJ.reg ?_
  refine SJ.alloc (cs := [str [], str [], .int .i64 0]) Tryd.zeroValue42 rfl rfl fun g2 => ?_
  refine SJ.q (YldS.yld (y_assign rfl)) rfl ?_
  refine SJ.nil ?_
  refine PJ.next ?_
  refine WJ.seq ?_
  refine WJ.reg ?_
  refine SJ.q (YldS.yld (y_move rfl)) rfl ?_
  obtain ⟨r3, h4, hm⟩ := bindS hm
  refine SJ.call Tryd.call44 rfl (fun w hw => ok_i_SplitWords h4 w ) rfl ?_
  rintro v5 _ ⟨_, rfl, rfl⟩
  refine SJ.q (YldS.yld (y_assign rfl)) rfl ?_
  refine SJ.nil ?_
  refine PJ.next ?_
  refine WJ.seq ?_
  refine WJ.seq ?_
  refine WJ.quiet ?_
  refine QJ.step (YldS.yld (y_move rfl)) rfl ?_
  refine QJ.step (YldS.yld (y_lenRow (k := 0) rfl Tryd.runUnderlying60 rfl)) rfl ?_
  refine QJ.step (YldS.yld (y_bin rfl rfl rfl)) rfl ?_
  refine QJ.done ?_
  refine PJ.next ?_
  refine WJ.cond (t := ((List.length r3 : Int) != 3)) rfl (fun hb6 => ?_) (fun hb6 => ?_)
  · replace hm := ifT hm hb6
    refine WJ.seq ?_
    refine WJ.reg ?_
    refine SJ.q (YldS.yld (y_build (parts := []) (places := [(0, 1), (1, 1), (2, 1)]) (r := [str ((Drill.mk [] [] 0).name), str ((Drill.mk [] [] 0).letters), .int .i64 ((Drill.mk [] [] 0).minutes)]) pl42 Tryd.zeroValue42 rfl rfl rfl rfl)) rfl ?_
    refine SJ.storeL (k := 1) (off := 0) (us := [str ((Drill.mk [] [] 0).name), str ((Drill.mk [] [] 0).letters), .int .i64 ((Drill.mk [] [] 0).minutes)]) rfl rfl rfl rfl Tryd.sizeOf42 rfl rfl ?_
    refine SJ.q (YldS.yld (y_assign rfl)) rfl ?_
    refine SJ.nil ?_
    refine PJ.next ?_
    refine WJ.ret ?_
    refine PJ.then_ret ?_
    obtain rfl := Option.some.inj hm
    exact PJ.retn_sel (vs := [.agg (Drill.enc (Drill.mk [] [] 0)).toArray, .bool false]) Tryd.results24 ⟨⟨1, g2, 42, [str ((Drill.mk [] [] 0).name), str ((Drill.mk [] [] 0).letters), .int .i64 ((Drill.mk [] [] 0).minutes)], rfl, rfl, .inl ⟨Tryd.isAgg42, Tryd.sizeOf42, rfl⟩⟩, rfl, trivial⟩ [] ⟨List.nodup_nil, rfl⟩ ⟨rfl, rfl⟩
  · replace hm := ifF hm hb6
    refine WJ.skip ?_
    refine PJ.next ?_
    refine WJ.seq ?_
    refine WJ.quiet ?_
    refine QJ.step (YldS.yld (y_move rfl)) rfl ?_
    obtain ⟨e7, h8, hm⟩ := bindS hm
    refine QJ.step (YldS.yld (y_ixRow (k := 0) (R := fStr) rfl Tryd.runUnderlying60 Tryd.sizeOf9 rfl rfl h8)) rfl ?_
    refine QJ.step (YldS.yld (y_loadR (k := 0) (i := (Int.toNat 2)) (off := 0) (u := str e7) rfl Tryd.isAgg9 rfl (idx_get h8) rfl)) rfl ?_
    obtain ⟨r9, h10, hm⟩ := bindS hm
    refine QJ.step (y_call Tryd.call45 rfl (RetG.quiet fun w hw => ok_i_ReadDecimal h10 w (hT.st hw))) rfl ?_
    refine QJ.step (YldS.yld (y_move rfl)) rfl ?_
    refine QJ.step (YldS.yld (y_extract rfl rfl)) rfl ?_
    refine QJ.step (YldS.yld (y_extract rfl rfl)) rfl ?_
    refine QJ.step (YldS.yld (y_assign rfl)) rfl ?_
    refine QJ.step (YldS.yld (y_assign rfl)) rfl ?_
    refine QJ.done ?_
    refine PJ.next ?_
    refine WJ.seq ?_
    obtain ⟨e11, h12, hm⟩ := bindS hm
    obtain ⟨e13, h14, hm⟩ := bindS hm
    refine WJ.draws (N := 10) (listed0 := #[false, false, false, false, false, false, false, false, false, false]) [row v5 9 fStr r3, box g2 42 [str [], str [], .int .i64 0]] follows rfl rfl ?_
    refine RJ.first 0 (listed' := #[true, false, false, false, false, false, false, false, false, false]) [0, 1] rfl (by kernel_rfl) rfl ⟨by decide, rfl⟩ (y_move rfl) rfl ?_
    refine RJ.first 1 (listed' := #[true, true, false, false, false, false, false, false, false, false]) [0, 1] rfl (by kernel_rfl) rfl ⟨by decide, rfl⟩ (y_ixRow (k := 0) (R := fStr) rfl Tryd.runUnderlying60 Tryd.sizeOf9 rfl rfl h12) rfl ?_
    refine RJ.first 2 (listed' := #[true, true, true, false, false, false, false, false, false, false]) [0, 1] rfl (by kernel_rfl) rfl ⟨by decide, rfl⟩ (y_loadR (k := 0) (i := (Int.toNat 0)) (off := 0) (u := str e11) rfl Tryd.isAgg9 rfl (idx_get h12) rfl) rfl ?_
    refine RJ.first 3 (listed' := #[true, true, true, true, false, false, false, false, false, false]) [0, 1] rfl (by kernel_rfl) rfl ⟨by decide, rfl⟩ (y_move rfl) rfl ?_
    refine RJ.first 4 (listed' := #[true, true, true, true, true, false, false, false, false, false]) [0, 1] rfl (by kernel_rfl) rfl ⟨by decide, rfl⟩ (y_ixRow (k := 0) (R := fStr) rfl Tryd.runUnderlying60 Tryd.sizeOf9 rfl rfl h14) rfl ?_
    refine RJ.first 5 (listed' := #[true, true, true, true, true, true, false, false, false, false]) [0, 1] rfl (by kernel_rfl) rfl ⟨by decide, rfl⟩ (y_loadR (k := 0) (i := (Int.toNat 1)) (off := 0) (u := str e13) rfl Tryd.isAgg9 rfl (idx_get h14) rfl) rfl ?_
    refine RJ.first 6 (listed' := #[true, true, true, true, true, true, true, false, false, false]) [0, 1] rfl (by kernel_rfl) rfl ⟨by decide, rfl⟩ (y_move rfl) rfl ?_
    refine RJ.first 7 (listed' := #[true, true, true, true, true, true, true, true, false, false]) [0, 1] rfl (by kernel_rfl) rfl ⟨by decide, rfl⟩ (y_build (parts := [(0, .tmp 23), (1, .tmp 26), (2, .tmp 27)]) (places := [(0, 1), (1, 1), (2, 1)]) (r := [str ((Drill.mk e11 e13 r9.1).name), str ((Drill.mk e11 e13 r9.1).letters), .int .i64 ((Drill.mk e11 e13 r9.1).minutes)]) pl42 Tryd.zeroValue42 rfl rfl rfl rfl) rfl ?_
    refine RJ.step1 8 [0, 1] (by kernel_rfl) ⟨by decide, rfl⟩ ?_
    refine RO.of (listed' := #[true, true, true, true, true, true, true, true, true, false]) rfl rfl ?_
    refine SJ.alloc (cs := [str [], str [], .int .i64 0]) Tryd.zeroValue42 rfl rfl fun g15 => ?_
    refine SJ.nil ?_
    refine PJ.draw ?_
    refine RJ.step1 9 [1, 2] (by kernel_rfl) ⟨by decide, rfl⟩ ?_
    refine RO.of (listed' := #[true, true, true, true, true, true, true, true, true, true]) rfl rfl ?_
    refine SJ.storeL (k := 0) (off := 0) (us := [str ((Drill.mk e11 e13 r9.1).name), str ((Drill.mk e11 e13 r9.1).letters), .int .i64 ((Drill.mk e11 e13 r9.1).minutes)]) rfl rfl rfl rfl Tryd.sizeOf42 rfl rfl ?_
    refine SJ.nil ?_
    refine PJ.draw ?_
    refine RJ.fin [1, 2] (by kernel_rfl) ⟨by decide, rfl⟩ ?_
    refine PJ.next ?_
    refine WJ.seq ?_
    refine WJ.seq ?_
    refine WJ.quiet ?_
    refine QJ.step (YldS.yld (y_move rfl)) rfl ?_
    refine QJ.step (YldS.yld (y_not rfl)) rfl ?_
    refine QJ.step (YldS.yld (y_move rfl)) rfl ?_
    obtain ⟨t16, h17, hm⟩ := bindS hm
    refine QJ.cut 5 [(0, str s1), (2, pt g2 0), (7, pt g15 0), (36, .bool t16)] ?_ ?_
    · rcases Bool.eq_false_or_eq_true (!r9.2) with hb18 | hb18
      · obtain rfl := orT h17 hb18
        refine QJ.off rfl rfl (cB hb18) rfl rfl ?_
        refine QJ.off rfl rfl (cB hb18) rfl rfl ?_
        refine QJ.off rfl rfl (cB hb18) rfl rfl ?_
        refine QJ.off rfl rfl (cB hb18) rfl rfl ?_
        refine QJ.step (YldS.yld (y_pick_t (cB hb18) rfl)) rfl ?_
        exact QJ.cut_end ⟨rfl, rfl, rfl, rfl, trivial⟩
      · replace h17 := orF h17 hb18
        refine QJ.on rfl rfl (cB hb18) (YldS.yld (y_loadBN (k := 0) (off := 0) (us := [str ((Drill.mk e11 e13 r9.1).name), str ((Drill.mk e11 e13 r9.1).letters), .int .i64 ((Drill.mk e11 e13 r9.1).minutes)]) rfl Tryd.isAgg42 Tryd.sizeOf42 rfl rfl)) rfl ?_
        obtain ⟨r19, h20, h17⟩ := bindS h17
        refine QJ.on rfl rfl (cB hb18) (y_call Tryd.call25 rfl (RetG.quiet fun w hw => ok_i_DrillText h20 w (hT.st hw))) rfl ?_
        refine QJ.on rfl rfl (cB hb18) (YldS.yld (y_move rfl)) rfl ?_
        refine QJ.on rfl rfl (cB hb18) (YldS.yld (y_binS rfl rfl rfl)) rfl ?_
        refine QJ.step (YldS.yld (y_pick_f (cB hb18) rfl)) rfl ?_
        obtain rfl := Option.some.inj h17
        exact QJ.cut_end ⟨rfl, rfl, rfl, rfl, trivial⟩
    refine QJ.step (YldS.yld (y_move rfl)) rfl ?_
    obtain ⟨t21, h22, hm⟩ := bindS hm
    refine QJ.cut 3 [(2, pt g2 0), (7, pt g15 0), (40, .bool t21)] ?_ ?_
    · rcases Bool.eq_false_or_eq_true t16 with hb23 | hb23
      · obtain rfl := orT h22 hb23
        refine QJ.off rfl rfl (cB hb23) rfl rfl ?_
        refine QJ.off rfl rfl (cB hb23) rfl rfl ?_
        refine QJ.step (YldS.yld (y_pick_t (cB hb23) rfl)) rfl ?_
        exact QJ.cut_end ⟨rfl, rfl, rfl, trivial⟩
      · replace h22 := orF h22 hb23
        refine QJ.on rfl rfl (cB hb23) (YldS.yld (y_move rfl)) rfl ?_
        refine QJ.on rfl rfl (cB hb23) (YldS.yld (y_binS rfl rfl rfl)) rfl ?_
        refine QJ.step (YldS.yld (y_pick_f (cB hb23) rfl)) rfl ?_
        obtain rfl := Option.some.inj h22
        exact QJ.cut_end ⟨rfl, rfl, rfl, trivial⟩
    refine QJ.done ?_
    refine PJ.next ?_
    refine WJ.cond (t := t21) rfl (fun hb24 => ?_) (fun hb24 => ?_)
    · replace hm := ifT hm hb24
      refine WJ.seq ?_
      refine WJ.reg ?_
      refine SJ.q (YldS.yld (y_build (parts := []) (places := [(0, 1), (1, 1), (2, 1)]) (r := [str ((Drill.mk [] [] 0).name), str ((Drill.mk [] [] 0).letters), .int .i64 ((Drill.mk [] [] 0).minutes)]) pl42 Tryd.zeroValue42 rfl rfl rfl rfl)) rfl ?_
      refine SJ.storeL (k := 2) (off := 0) (us := [str ((Drill.mk [] [] 0).name), str ((Drill.mk [] [] 0).letters), .int .i64 ((Drill.mk [] [] 0).minutes)]) rfl rfl rfl rfl Tryd.sizeOf42 rfl rfl ?_
      refine SJ.q (YldS.yld (y_assign rfl)) rfl ?_
      refine SJ.nil ?_
      refine PJ.next ?_
      refine WJ.ret ?_
      refine PJ.then_ret ?_
      obtain rfl := Option.some.inj hm
      exact PJ.retn_sel (vs := [.agg (Drill.enc (Drill.mk [] [] 0)).toArray, .bool false]) Tryd.results24 ⟨⟨2, g2, 42, [str ((Drill.mk [] [] 0).name), str ((Drill.mk [] [] 0).letters), .int .i64 ((Drill.mk [] [] 0).minutes)], rfl, rfl, .inl ⟨Tryd.isAgg42, Tryd.sizeOf42, rfl⟩⟩, rfl, trivial⟩ [] ⟨List.nodup_nil, rfl⟩ ⟨rfl, rfl⟩
    · replace hm := ifF hm hb24
      refine WJ.skip ?_
      refine PJ.next ?_
      refine WJ.seq ?_
      refine WJ.reg ?_
      refine SJ.q (YldS.yld (y_loadBN (k := 0) (off := 0) (us := [str ((Drill.mk e11 e13 r9.1).name), str ((Drill.mk e11 e13 r9.1).letters), .int .i64 ((Drill.mk e11 e13 r9.1).minutes)]) rfl Tryd.isAgg42 Tryd.sizeOf42 rfl rfl)) rfl ?_
      refine SJ.storeL (k := 2) (off := 0) (us := [str ((Drill.mk e11 e13 r9.1).name), str ((Drill.mk e11 e13 r9.1).letters), .int .i64 ((Drill.mk e11 e13 r9.1).minutes)]) rfl rfl rfl rfl Tryd.sizeOf42 rfl rfl ?_
      refine SJ.q (YldS.yld (y_assign rfl)) rfl ?_
      refine SJ.nil ?_
      refine PJ.next ?_
      refine WJ.ret ?_
      obtain rfl := Option.some.inj hm
      exact PJ.retn_sel (vs := [.agg (Drill.enc (Drill.mk e11 e13 r9.1)).toArray, .bool true]) Tryd.results24 ⟨⟨2, g2, 42, [str ((Drill.mk e11 e13 r9.1).name), str ((Drill.mk e11 e13 r9.1).letters), .int .i64 ((Drill.mk e11 e13 r9.1).minutes)], rfl, rfl, .inl ⟨Tryd.isAgg42, Tryd.sizeOf42, rfl⟩⟩, rfl, trivial⟩ [] ⟨List.nodup_nil, rfl⟩ ⟨rfl, rfl⟩

set_option maxRecDepth 100000 in
set_option maxHeartbeats 1000000 in
theorem ok_i_repeat {N : Nat} {s1 : Str} {n2 : Int} {r : Str} (hm : i_repeat N s1 n2 = some r) (w : World)  :
    Calls Tryd.prog 47 #[str s1, .int .i64 n2] w (Ret (cx w) (str r)) := by
  unfold i_repeat at hm
  refine Calls.enter [str s1, .int .i64 n2] Tryd.func47 rfl Tryd.ntmps47 rfl ?_
  refine WJ.seq ?_
  refine WJ.quiet ?_
  refine QJ.step (YldS.yld (y_assign rfl)) rfl ?_
  refine QJ.done ?_
  refine PJ.next ?_
  refine WJ.seq ?_
  refine WJ.reg ?_
  refine SJ.buildSlice (R := fByte) (os := []) [] Tryd.runUnderlying22 Tryd.sizeOf5 Tryd.zeroValue5 rfl rfl rfl rfl rfl rfl fun v3 => ?_
  refine SJ.q (YldS.yld (y_assign rfl)) rfl ?_
  refine SJ.nil ?_
  refine PJ.next ?_
  obtain ⟨kj6, hk7, hm⟩ := withK_open hm
  refine WJ.join (X := (List UInt8) × Value) (fun (x : (List UInt8) × Value) => kj6 x.1 = some r) (fun (x : (List UInt8) × Value) => [(5, x.2)]) (fun (x : (List UInt8) × Value) => [row x.2 5 fByte x.1]) ?_ ?_
  · clear hk7
    refine WJ.seq ?_
    refine WJ.quiet ?_
    refine QJ.step (YldS.yld (y_move rfl)) rfl ?_
    refine QJ.step (YldS.yld (y_max rfl rfl)) rfl ?_
    refine QJ.step (YldS.yld (y_move rfl)) rfl ?_
    refine QJ.done ?_
    refine PJ.next ?_
    refine WJ.block ?_
    refine WJ.sel (L' := (fun (x : (List UInt8) × Value × Int) => [row x.2.1 5 fByte x.1]) ([], v3, 0)) [0] ⟨by decide, rfl⟩ ?_
    refine WJ.sub (m' := (fun (x : (List UInt8) × Value × Int) => [(0, str s1), (5, x.2.1), (8, .int .i64 (imax n2 0)), (9, .int .i64 x.2.2)]) ([], v3, 0)) ⟨rfl, rfl, rfl, rfl, trivial⟩ ?_
    refine WJ.loop (X := (List UInt8) × Value × Int) (fun N (x : (List UInt8) × Value × Int) => i_repeat_l1 kj6 s1 n2 N x.1 x.2.2 = some r) (fun (x : (List UInt8) × Value × Int) => [(0, str s1), (5, x.2.1), (8, .int .i64 (imax n2 0)), (9, .int .i64 x.2.2)]) (fun (x : (List UInt8) × Value × Int) => [row x.2.1 5 fByte x.1]) ?_ N ([], v3, 0) hm
    · rintro N ⟨l8, v9, x10⟩ hI
      have hm := hI; clear hI
      cases N with
      | zero => cases hm
      | succ N =>
      unfold i_repeat_l1 at hm
      refine WJ.seq ?_
      refine WJ.quiet ?_
      refine QJ.step (YldS.yld (y_bin rfl rfl rfl)) rfl ?_
      refine QJ.done ?_
      refine PJ.next ?_
      refine WJ.seq ?_
      refine WJ.cond (t := decide (x10 < (imax n2 0))) rfl (fun hb11 => ?_) (fun hb11 => ?_)
      · replace hm := ifT hm hb11
        refine WJ.skip ?_
        refine PJ.next ?_
        refine WJ.seq ?_
        refine WJ.block ?_
        refine WJ.reg ?_
        refine SJ.q (YldS.yld (y_move rfl)) rfl ?_
        refine SJ.q (YldS.yld (y_move rfl)) rfl ?_
        obtain ⟨l12, h13, hm⟩ := bindS hm
        refine SJ.appendStr (k := 0) h13 rfl Tryd.underlying22 Tryd.underlying9 el8_5 rfl rfl rfl fun v14 => ?_
        refine SJ.q (YldS.yld (y_assign rfl)) rfl ?_
        refine SJ.nil ?_
        refine PJ.block_normal (PJ.next ?_)
        refine WJ.quiet ?_
        refine QJ.step (YldS.yld (y_bin rfl rfl rfl)) rfl ?_
        refine QJ.step (YldS.yld (y_move rfl)) rfl ?_
        refine QJ.done ?_
        exact PJ.round (l12, v14, w64 (x10 + 1)) [0] hm ⟨rfl, rfl, rfl, rfl, trivial⟩ ⟨by decide, rfl⟩
      · replace hm := ifF hm hb11
        refine WJ.exit ?_
        refine PJ.then_exit (PJ.then_exit (PJ.block_exit ?_))
        exact PJ.joined (l8, v9) [0] hm ⟨rfl, trivial⟩ ⟨by decide, rfl⟩
  · rintro ⟨l4, v5⟩ hm
    subst hk7
    refine WJ.seq ?_
    refine WJ.quiet ?_
    refine QJ.step (YldS.yld (y_move rfl)) rfl ?_
    refine QJ.step (YldS.yld (y_b2s Tryd.underlying22 Tryd.underlying9 Tryd.underlying5 (fun w hw => ⟨_, (hw.row_rd (k := 0) rfl)⟩) rfl)) rfl ?_
    refine QJ.step (YldS.yld (y_assign rfl)) rfl ?_
    refine QJ.done ?_
    refine PJ.next ?_
    refine WJ.ret ?_
    obtain rfl := Option.some.inj hm
    refine PJ.sel (L' := []) [] ⟨List.nodup_nil, rfl⟩ ?_
    exact PJ.retn (vs := [str l4]) Tryd.results47 ⟨rfl, trivial⟩ ⟨rfl, rfl⟩

set_option maxRecDepth 100000 in
set_option maxHeartbeats 1000000 in
theorem ok_i_trimRight {N : Nat} {s1 : Str} {r : Str} (hm : i_trimRight N s1 = some r) (w : World)  :
    Calls Tryd.prog 48 #[str s1] w (Ret (cx w) (str r)) := by
  unfold i_trimRight at hm
  refine Calls.enter [str s1] Tryd.func48 rfl Tryd.ntmps48 rfl ?_
  refine WJ.seq ?_
  refine WJ.quiet ?_
  refine QJ.step (YldS.yld (y_assign rfl)) rfl ?_
  refine QJ.done ?_
  refine PJ.next ?_
  refine WJ.seq ?_
  refine WJ.quiet ?_
  refine QJ.step (YldS.yld (y_move rfl)) rfl ?_
  refine QJ.step (YldS.yld (y_lenStr Tryd.runUnderlying9 rfl)) rfl ?_
  refine QJ.step (YldS.yld (y_assign rfl)) rfl ?_
  refine QJ.done ?_
  refine PJ.next ?_
  obtain ⟨kj3, hk4, hm⟩ := withK_open hm
  refine WJ.join (X := Int) (fun (x : Int) => kj3 x = some r) (fun (x : Int) => [(0, str s1), (3, .int .i64 x)]) (fun (x : Int) => []) ?_ ?_
  · clear hk4
    refine WJ.block ?_
    refine WJ.sel (L' := (fun (x : Int) => []) (List.length s1 : Int)) [] ⟨List.nodup_nil, rfl⟩ ?_
    refine WJ.sub (m' := (fun (x : Int) => [(0, str s1), (3, .int .i64 x)]) (List.length s1 : Int)) ⟨rfl, rfl, trivial⟩ ?_
    refine WJ.loop (X := Int) (fun N (x : Int) => i_trimRight_l1 kj3 s1 N x = some r) (fun (x : Int) => [(0, str s1), (3, .int .i64 x)]) (fun (x : Int) => []) ?_ N (List.length s1 : Int) hm
    · rintro N end5 hI
      have hm := hI; clear hI
      cases N with
      | zero => cases hm
      | succ N =>
      unfold i_trimRight_l1 at hm
      refine WJ.seq ?_
      refine WJ.seq ?_
      refine WJ.quiet ?_
      refine QJ.step (YldS.yld (y_move rfl)) rfl ?_
      refine QJ.step (YldS.yld (y_bin rfl rfl rfl)) rfl ?_
      refine QJ.step (YldS.yld (y_move rfl)) rfl ?_
      obtain ⟨t6, h7, hm⟩ := bindS hm
      refine QJ.cut 6 [(0, str s1), (3, .int .i64 end5), (14, .bool t6)] ?_ ?_
      · rcases Bool.eq_false_or_eq_true (decide (end5 > 0)) with hb8 | hb8
        · replace h7 := andT h7 hb8
          refine QJ.on rfl rfl (cB hb8) (YldS.yld (y_move rfl)) rfl ?_
          refine QJ.on rfl rfl (cB hb8) (YldS.yld (y_move rfl)) rfl ?_
          refine QJ.on rfl rfl (cB hb8) (YldS.yld (y_bin rfl rfl rfl)) rfl ?_
          obtain ⟨c9, h10, h7⟩ := bindS h7
          refine QJ.on rfl rfl (cB hb8) (YldS.yld (y_idxStr Tryd.runUnderlying9 rfl rfl h10)) rfl ?_
          refine QJ.on rfl rfl (cB hb8) (YldS.yld (y_bin8 c9 (32 : UInt8) rfl rfl rfl)) rfl ?_
          refine QJ.step (YldS.yld (y_pick_t (cB hb8) rfl)) rfl ?_
          obtain rfl := Option.some.inj h7
          exact QJ.cut_end ⟨rfl, rfl, rfl, trivial⟩
        · obtain rfl := andF h7 hb8
          refine QJ.off rfl rfl (cB hb8) rfl rfl ?_
          refine QJ.off rfl rfl (cB hb8) rfl rfl ?_
          refine QJ.off rfl rfl (cB hb8) rfl rfl ?_
          refine QJ.off rfl rfl (cB hb8) rfl rfl ?_
          refine QJ.off rfl rfl (cB hb8) rfl rfl ?_
          refine QJ.step (YldS.yld (y_pick_f (cB hb8) rfl)) rfl ?_
          exact QJ.cut_end ⟨rfl, rfl, rfl, trivial⟩
      refine QJ.done ?_
      refine PJ.next ?_
      refine WJ.cond (t := t6) rfl (fun hb11 => ?_) (fun hb11 => ?_)
      · replace hm := ifT hm hb11
        refine WJ.skip ?_
        refine PJ.next ?_
        refine WJ.block ?_
        refine WJ.quiet ?_
        refine QJ.step (YldS.yld (y_move rfl)) rfl ?_
        refine QJ.step (YldS.yld (y_bin rfl rfl rfl)) rfl ?_
        refine QJ.step (YldS.yld (y_assign rfl)) rfl ?_
        refine QJ.done ?_
        refine PJ.block_normal ?_
        exact PJ.round (w64 (end5 - 1)) [] hm ⟨rfl, rfl, trivial⟩ ⟨List.nodup_nil, rfl⟩
      · replace hm := ifF hm hb11
        refine WJ.exit ?_
        refine PJ.then_exit (PJ.then_exit (PJ.block_exit ?_))
        exact PJ.joined end5 [] hm ⟨rfl, rfl, trivial⟩ ⟨List.nodup_nil, rfl⟩
  · rintro end2 hm
    subst hk4
    refine WJ.seq ?_
    refine WJ.quiet ?_
    refine QJ.step (YldS.yld (y_move rfl)) rfl ?_
    refine QJ.step (YldS.yld (y_move rfl)) rfl ?_
    obtain ⟨s12, h13, hm⟩ := bindS hm
    refine QJ.step (YldS.yld (y_subStr (i := none) (j := some end2) h13 Tryd.runUnderlying9 rfl trivial ⟨_, rfl⟩)) rfl ?_
    refine QJ.step (YldS.yld (y_assign rfl)) rfl ?_
    refine QJ.done ?_
    refine PJ.next ?_
    refine WJ.ret ?_
    obtain rfl := Option.some.inj hm
    refine PJ.sel (L' := []) [] ⟨List.nodup_nil, rfl⟩ ?_
    exact PJ.retn (vs := [str s12]) Tryd.results48 ⟨rfl, trivial⟩ ⟨rfl, rfl⟩

set_option maxRecDepth 100000 in
set_option maxHeartbeats 1000000 in
theorem ok_i_DrillLine {N : Nat} {d1 : Drill} {length2 : Int} {r : Str × Int} (hm : i_DrillLine N d1 length2 = some r) (w : World)  :
    Calls Tryd.prog 26 #[.agg (Drill.enc d1).toArray, .int .i64 length2] w (Ret (cx w) (tup [str r.1, .int .i64 r.2])) := by
  unfold i_DrillLine at hm
  refine Calls.enter [.agg (Drill.enc d1).toArray, .int .i64 length2] Tryd.func26 rfl Tryd.ntmps26 rfl ?_
  refine WJ.seq ?_
  refine WJ.reg ?_
  refine SJ.box (cs := [str d1.name, str d1.letters, .int .i64 d1.minutes]) rfl rfl rfl fun g3 => ?_
  refine SJ.q (YldS.yld (y_assign rfl)) rfl ?_
  refine SJ.q (YldS.yld (y_assign rfl)) rfl ?_
  refine SJ.nil ?_
  refine PJ.next ?_
  refine WJ.seq ?_
  refine WJ.seq ?_
  refine WJ.quiet ?_
  refine QJ.step (YldS.yld (y_loadBN (k := 0) (off := 0) (us := [str d1.name, str d1.letters, .int .i64 d1.minutes]) rfl Tryd.isAgg42 Tryd.sizeOf42 rfl rfl)) rfl ?_
  obtain ⟨r4, h5, hm⟩ := bindS hm
  refine QJ.step (y_call Tryd.call46 rfl (RetG.quiet fun w hw => ok_i_validDrill h5 w )) rfl ?_
  refine QJ.step (YldS.yld (y_not rfl)) rfl ?_
  refine QJ.done ?_
  refine PJ.next ?_
  refine WJ.cond (t := !r4) rfl (fun hb6 => ?_) (fun hb6 => ?_)
  · replace hm := ifT hm hb6
    refine WJ.seq ?_
    refine WJ.quiet ?_
    refine QJ.step (YldS.yld (y_assign rfl)) rfl ?_
    refine QJ.step (YldS.yld (y_assign rfl)) rfl ?_
    refine QJ.done ?_
    refine PJ.next ?_
    refine WJ.ret ?_
    refine PJ.then_ret ?_
    obtain rfl := Option.some.inj hm
    refine PJ.sel (L' := []) [] ⟨List.nodup_nil, rfl⟩ ?_
    exact PJ.retn (vs := [str [], .int .i64 1]) Tryd.results26 ⟨rfl, rfl, trivial⟩ ⟨rfl, rfl⟩
  · replace hm := ifF hm hb6
    refine WJ.skip ?_
    refine PJ.next ?_
    refine WJ.seq ?_
    refine WJ.seq ?_
    refine WJ.quiet ?_
    refine QJ.step (YldS.yld (y_move rfl)) rfl ?_
    obtain ⟨r7, h8, hm⟩ := bindS hm
    refine QJ.step (y_call Tryd.call41 rfl (RetG.quiet fun w hw => ok_i_between h8 w )) rfl ?_
    refine QJ.step (YldS.yld (y_not rfl)) rfl ?_
    refine QJ.done ?_
    refine PJ.next ?_
    refine WJ.cond (t := !r7) rfl (fun hb9 => ?_) (fun hb9 => ?_)
    · replace hm := ifT hm hb9
      refine WJ.seq ?_
      refine WJ.quiet ?_
      refine QJ.step (YldS.yld (y_assign rfl)) rfl ?_
      refine QJ.step (YldS.yld (y_assign rfl)) rfl ?_
      refine QJ.done ?_
      refine PJ.next ?_
      refine WJ.ret ?_
      refine PJ.then_ret ?_
      obtain rfl := Option.some.inj hm
      refine PJ.sel (L' := []) [] ⟨List.nodup_nil, rfl⟩ ?_
      exact PJ.retn (vs := [str [], .int .i64 2]) Tryd.results26 ⟨rfl, rfl, trivial⟩ ⟨rfl, rfl⟩
    · replace hm := ifF hm hb9
      refine WJ.skip ?_
      refine PJ.next ?_
      refine WJ.seq ?_
      refine WJ.quiet ?_
      refine QJ.step (YldS.yld (y_assign rfl)) rfl ?_
      refine QJ.done ?_
      refine PJ.next ?_
      obtain ⟨kj11, hk12, hm⟩ := withK_open hm
      refine WJ.join (X := Str) (fun (x : Str) => kj11 x = some r) (fun (x : Str) => [(1, .int .i64 length2), (6, str x)]) (fun (x : Str) => []) ?_ ?_
      · clear hk12
        refine WJ.seq ?_
        refine WJ.quiet ?_
        refine QJ.step (YldS.yld (y_assign rfl)) rfl ?_
        refine QJ.done ?_
        refine PJ.next ?_
        refine WJ.block ?_
        refine WJ.sel (L' := (fun (x : Str × Int) => [box g3 42 [str d1.name, str d1.letters, .int .i64 d1.minutes]]) ([], 0)) [0] ⟨by decide, rfl⟩ ?_
        refine WJ.sub (m' := (fun (x : Str × Int) => [(1, .int .i64 length2), (2, pt g3 0), (6, str x.1), (7, .int .i64 x.2)]) ([], 0)) ⟨rfl, rfl, rfl, rfl, trivial⟩ ?_
        refine WJ.loop (X := Str × Int) (fun N (x : Str × Int) => i_DrillLine_l1 kj11 d1 length2 N x.1 x.2 = some r) (fun (x : Str × Int) => [(1, .int .i64 length2), (2, pt g3 0), (6, str x.1), (7, .int .i64 x.2)]) (fun (x : Str × Int) => [box g3 42 [str d1.name, str d1.letters, .int .i64 d1.minutes]]) ?_ N ([], 0) hm
        · rintro N ⟨line13, k14⟩ hI
          have hm := hI; clear hI
          cases N with
          | zero => cases hm
          | succ N =>
          unfold i_DrillLine_l1 at hm
          refine WJ.seq ?_
          refine WJ.seq ?_
          refine WJ.quiet ?_
          refine QJ.step (YldS.yld (y_move rfl)) rfl ?_
          refine QJ.step (YldS.yld (y_lenStr Tryd.runUnderlying9 rfl)) rfl ?_
          refine QJ.step (YldS.yld (y_move rfl)) rfl ?_
          refine QJ.step (YldS.yld (y_bin rfl rfl rfl)) rfl ?_
          refine QJ.done ?_
          refine PJ.next ?_
          refine WJ.cond (t := decide ((List.length line13 : Int) < length2)) rfl (fun hb15 => ?_) (fun hb15 => ?_)
          · replace hm := ifT hm hb15
            refine WJ.skip ?_
            refine PJ.next ?_
            refine WJ.seq ?_
            refine WJ.block ?_
            refine WJ.seq ?_
            refine WJ.quiet ?_
            refine QJ.step (YldS.yld (y_move rfl)) rfl ?_
            refine QJ.step (YldS.yld (y_fldB (o := 0) fld42_1 rfl)) rfl ?_
            refine QJ.step (YldS.yld (y_loadB (k := 0) (off := 1) (v := str d1.letters) rfl Tryd.isAgg9 rfl rfl)) rfl ?_
            refine QJ.step (YldS.yld (y_lenStr Tryd.runUnderlying9 rfl)) rfl ?_
            obtain ⟨q16, h17, hm⟩ := bindS hm
            refine QJ.step (YldS.yld (y_rem' h17 rfl rfl)) rfl ?_
            refine QJ.step (YldS.yld (y_assign rfl)) rfl ?_
            refine QJ.done ?_
            refine PJ.next ?_
            refine WJ.quiet ?_
            refine QJ.step (YldS.yld (y_move rfl)) rfl ?_
            refine QJ.step (YldS.yld (y_fldB (o := 0) fld42_1 rfl)) rfl ?_
            refine QJ.step (YldS.yld (y_loadB (k := 0) (off := 1) (v := str d1.letters) rfl Tryd.isAgg9 rfl rfl)) rfl ?_
            refine QJ.step (YldS.yld (y_move rfl)) rfl ?_
            refine QJ.step (YldS.yld (y_move rfl)) rfl ?_
            refine QJ.step (YldS.yld (y_bin rfl rfl rfl)) rfl ?_
            obtain ⟨s18, h19, hm⟩ := bindS hm
            refine QJ.step (YldS.yld (y_subStr (i := some q16) (j := some (w64 (q16 + 1))) h19 Tryd.runUnderlying9 rfl ⟨_, rfl⟩ ⟨_, rfl⟩)) rfl ?_
            obtain ⟨r20, h21, hm⟩ := bindS hm
            refine QJ.step (y_call Tryd.call47 rfl (RetG.quiet fun w hw => ok_i_repeat h21 w )) rfl ?_
            obtain ⟨s22, h23, hm⟩ := bindS hm
            refine QJ.step (YldS.yld (y_cat h23 rfl rfl)) rfl ?_
            obtain ⟨s24, h25, hm⟩ := bindS hm
            refine QJ.step (YldS.yld (y_cat h25 rfl rfl)) rfl ?_
            refine QJ.step (YldS.yld (y_assign rfl)) rfl ?_
            refine QJ.done ?_
            refine PJ.block_normal (PJ.next ?_)
            refine WJ.quiet ?_
            refine QJ.step (YldS.yld (y_move rfl)) rfl ?_
            refine QJ.step (YldS.yld (y_bin rfl rfl rfl)) rfl ?_
            refine QJ.step (YldS.yld (y_assign rfl)) rfl ?_
            refine QJ.done ?_
            exact PJ.round (s24, w64 (k14 + 1)) [0] hm ⟨rfl, rfl, rfl, rfl, trivial⟩ ⟨by decide, rfl⟩
          · replace hm := ifF hm hb15
            refine WJ.exit ?_
            refine PJ.then_exit (PJ.then_exit (PJ.block_exit ?_))
            exact PJ.joined line13 [] hm ⟨rfl, rfl, trivial⟩ ⟨List.nodup_nil, rfl⟩
      · rintro line10 hm
        subst hk12
        refine WJ.seq ?_
        refine WJ.quiet ?_
        refine QJ.step (YldS.yld (y_move rfl)) rfl ?_
        refine QJ.step (YldS.yld (y_move rfl)) rfl ?_
        obtain ⟨s26, h27, hm⟩ := bindS hm
        refine QJ.step (YldS.yld (y_subStr (i := none) (j := some length2) h27 Tryd.runUnderlying9 rfl trivial ⟨_, rfl⟩)) rfl ?_
        obtain ⟨r28, h29, hm⟩ := bindS hm
        refine QJ.step (y_call Tryd.call48 rfl (RetG.quiet fun w hw => ok_i_trimRight h29 w )) rfl ?_
        refine QJ.step (YldS.yld (y_assign rfl)) rfl ?_
        refine QJ.step (YldS.yld (y_assign rfl)) rfl ?_
        refine QJ.done ?_
        refine PJ.next ?_
        refine WJ.ret ?_
        obtain rfl := Option.some.inj hm
        refine PJ.sel (L' := []) [] ⟨List.nodup_nil, rfl⟩ ?_
        exact PJ.retn (vs := [str r28, .int .i64 0]) Tryd.results26 ⟨rfl, rfl, trivial⟩ ⟨rfl, rfl⟩

set_option maxRecDepth 100000 in
set_option maxHeartbeats 1000000 in
theorem ok_i_ValidDrills {N : Nat} {list1 : List Drill} {r : Bool} (hm : i_ValidDrills N list1 = some r) (w : World) (v2 : Value) (hr3 : RdS w (cx w).Fz v2 fDrill.rp list1) :
    Calls Tryd.prog 49 #[v2] w (Ret (cx w) (.bool r)) := by
  unfold i_ValidDrills at hm
  refine Calls.enter [v2] Tryd.func49 rfl Tryd.ntmps49 rfl ?_
  refine WJ.seq ?_
  refine WJ.quiet ?_
  refine QJ.step (YldS.yld (y_assign rfl)) rfl ?_
  refine QJ.done ?_
  refine PJ.next ?_
  refine WJ.seq ?_
  refine WJ.reg ?_
  refine SJ.makeMap rfl fun g4 => ?_
  refine SJ.q (YldS.yld (y_assign rfl)) rfl ?_
  refine SJ.nil ?_
  refine PJ.next ?_
  obtain ⟨kj5, hk6, hm⟩ := withK_open hm
  refine WJ.join (X := Unit) (fun (_ : Unit) => kj5  = some r) (fun (_ : Unit) => [(0, v2)]) (fun (_ : Unit) => []) ?_ ?_
  · clear hk6
    refine WJ.seq ?_
    refine WJ.quiet ?_
    refine QJ.step (YldS.yld (y_move rfl)) rfl ?_
    refine QJ.step (YldS.yld (y_lenS Tryd.runUnderlying38 hr3 rfl)) rfl ?_
    refine QJ.step (YldS.yld (y_move rfl)) rfl ?_
    refine QJ.done ?_
    refine PJ.next ?_
    refine WJ.block ?_
    refine WJ.sel (L' := (fun (x : (List (Str × Bool)) × Int) => [mp g4 x.1]) ([], 0)) [0] ⟨by decide, rfl⟩ ?_
    refine WJ.sub (m' := (fun (x : (List (Str × Bool)) × Int) => [(0, v2), (3, .map (some g4)), (7, v2), (8, .int .i64 (List.length list1 : Int)), (9, .int .i64 x.2)]) ([], 0)) ⟨rfl, rfl, rfl, rfl, rfl, trivial⟩ ?_
    refine WJ.loop (X := (List (Str × Bool)) × Int) (fun N (x : (List (Str × Bool)) × Int) => i_ValidDrills_l1 kj5 list1 N x.1 x.2 = some r) (fun (x : (List (Str × Bool)) × Int) => [(0, v2), (3, .map (some g4)), (7, v2), (8, .int .i64 (List.length list1 : Int)), (9, .int .i64 x.2)]) (fun (x : (List (Str × Bool)) × Int) => [mp g4 x.1]) ?_ N ([], 0) hm
    · rintro N ⟨mp7, x8⟩ hI
      have hm := hI; clear hI
      cases N with
      | zero => cases hm
      | succ N =>
      unfold i_ValidDrills_l1 at hm
      refine WJ.seq ?_
      refine WJ.quiet ?_
      refine QJ.step (YldS.yld (y_bin rfl rfl rfl)) rfl ?_
      refine QJ.done ?_
      refine PJ.next ?_
      refine WJ.seq ?_
      refine WJ.cond (t := decide (x8 < (List.length list1 : Int))) rfl (fun hb9 => ?_) (fun hb9 => ?_)
      · replace hm := ifT hm hb9
        refine WJ.skip ?_
        refine PJ.next ?_
        refine WJ.seq ?_
        refine WJ.block ?_
        refine WJ.seq ?_
        refine WJ.reg ?_
        obtain ⟨e10, h11, hm⟩ := bindS hm
        obtain ⟨ad12, _, rfl, ha13, hy14⟩ := hr3.elem h11
        refine SJ.q (YldS.yld (hy14 Tryd.runUnderlying38 Tryd.sizeOf42 rfl rfl)) rfl ?_
        refine SJ.q (YldS.yld (y_loadN Tryd.isAgg42 Tryd.sizeOf42 rfl ha13 St.frozenC rfl)) rfl ?_
        refine SJ.alloc (cs := [str [], str [], .int .i64 0]) Tryd.zeroValue42 rfl rfl fun g15 => ?_
        refine SJ.storeL (k := 0) (off := 0) (us := [str e10.name, str e10.letters, .int .i64 e10.minutes]) rfl rfl rfl rfl Tryd.sizeOf42 rfl rfl ?_
        refine SJ.nil ?_
        refine PJ.next ?_
        refine WJ.seq ?_
        refine WJ.seq ?_
        refine WJ.quiet ?_
        refine QJ.step (YldS.yld (y_loadBN (k := 0) (off := 0) (us := [str e10.name, str e10.letters, .int .i64 e10.minutes]) rfl Tryd.isAgg42 Tryd.sizeOf42 rfl rfl)) rfl ?_
        obtain ⟨r16, h17, hm⟩ := bindS hm
        refine QJ.step (y_call Tryd.call46 rfl (RetG.quiet fun w hw => ok_i_validDrill h17 w )) rfl ?_
        refine QJ.step (YldS.yld (y_not rfl)) rfl ?_
        refine QJ.step (YldS.yld (y_move rfl)) rfl ?_
        obtain ⟨t18, h19, hm⟩ := bindS hm
        refine QJ.cut 5 [(0, v2), (3, .map (some g4)), (5, pt g15 0), (7, v2), (8, .int .i64 (List.length list1 : Int)), (9, .int .i64 x8), (21, .bool t18)] ?_ ?_
        · rcases Bool.eq_false_or_eq_true (!r16) with hb20 | hb20
          · obtain rfl := orT h19 hb20
            refine QJ.off rfl rfl (cB hb20) rfl rfl ?_
            refine QJ.off rfl rfl (cB hb20) rfl rfl ?_
            refine QJ.off rfl rfl (cB hb20) rfl rfl ?_
            refine QJ.off rfl rfl (cB hb20) rfl rfl ?_
            refine QJ.step (YldS.yld (y_pick_t (cB hb20) rfl)) rfl ?_
            exact QJ.cut_end ⟨rfl, rfl, rfl, rfl, rfl, rfl, rfl, trivial⟩
          · replace h19 := orF h19 hb20
            refine QJ.on rfl rfl (cB hb20) (YldS.yld (y_move rfl)) rfl ?_
            refine QJ.on rfl rfl (cB hb20) (YldS.yld (y_fldB (o := 0) fld42_0 rfl)) rfl ?_
            refine QJ.on rfl rfl (cB hb20) (YldS.yld (y_loadB (k := 0) (off := 0) (v := str e10.name) rfl Tryd.isAgg9 rfl rfl)) rfl ?_
            refine QJ.on rfl rfl (cB hb20) (YldS.yld (y_lookupSB (k := 1) rfl Tryd.underlying80 Tryd.underlying9 Tryd.zeroValue4 rfl rfl)) rfl ?_
            refine QJ.step (YldS.yld (y_pick_f (cB hb20) rfl)) rfl ?_
            obtain rfl := Option.some.inj h19
            exact QJ.cut_end ⟨rfl, rfl, rfl, rfl, rfl, rfl, rfl, trivial⟩
        refine QJ.done ?_
        refine PJ.next ?_
        refine WJ.cond (t := t18) rfl (fun hb21 => ?_) (fun hb21 => ?_)
        · replace hm := ifT hm hb21
          refine WJ.seq ?_
          refine WJ.quiet ?_
          refine QJ.step (YldS.yld (y_assign rfl)) rfl ?_
          refine QJ.done ?_
          refine PJ.next ?_
          refine WJ.ret ?_
          refine PJ.then_ret (PJ.block_ret (PJ.then_ret (PJ.then_ret (PJ.block_ret (PJ.then_ret ?_)))))
          obtain rfl := Option.some.inj hm
          refine PJ.sel (L' := []) [] ⟨List.nodup_nil, rfl⟩ ?_
          exact PJ.retn (vs := [.bool false]) Tryd.results49 ⟨rfl, trivial⟩ ⟨rfl, rfl⟩
        · replace hm := ifF hm hb21
          refine WJ.skip ?_
          refine PJ.next ?_
          refine WJ.reg ?_
          refine SJ.q (YldS.yld (y_move rfl)) rfl ?_
          refine SJ.q (YldS.yld (y_fldB (o := 0) fld42_0 rfl)) rfl ?_
          refine SJ.q (YldS.yld (y_loadB (k := 0) (off := 0) (v := str e10.name) rfl Tryd.isAgg9 rfl rfl)) rfl ?_
          refine SJ.mapUpdateSB (k := 1) Tryd.underlying80 Tryd.underlying9 rfl rfl rfl rfl ?_
          refine SJ.nil ?_
          refine PJ.block_normal (PJ.next ?_)
          refine WJ.quiet ?_
          refine QJ.step (YldS.yld (y_bin rfl rfl rfl)) rfl ?_
          refine QJ.step (YldS.yld (y_move rfl)) rfl ?_
          refine QJ.done ?_
          exact PJ.round (mset mp7 e10.name true, w64 (x8 + 1)) [1] hm ⟨rfl, rfl, rfl, rfl, rfl, trivial⟩ ⟨by decide, rfl⟩
      · replace hm := ifF hm hb9
        refine WJ.exit ?_
        refine PJ.then_exit (PJ.then_exit (PJ.block_exit ?_))
        exact PJ.joined () [] hm ⟨rfl, trivial⟩ ⟨List.nodup_nil, rfl⟩
  · rintro _ hm
    subst hk6
    refine WJ.seq ?_
    refine WJ.quiet ?_
    refine QJ.step (YldS.yld (y_move rfl)) rfl ?_
    refine QJ.step (YldS.yld (y_lenS Tryd.runUnderlying38 hr3 rfl)) rfl ?_
    refine QJ.step (YldS.yld (y_bin rfl rfl rfl)) rfl ?_
    refine QJ.step (YldS.yld (y_assign rfl)) rfl ?_
    refine QJ.done ?_
    refine PJ.next ?_
    refine WJ.ret ?_
    obtain rfl := Option.some.inj hm
    refine PJ.sel (L' := []) [] ⟨List.nodup_nil, rfl⟩ ?_
    exact PJ.retn (vs := [.bool (decide ((List.length list1 : Int) ≤ 10))]) Tryd.results49 ⟨rfl, trivial⟩ ⟨rfl, rfl⟩

set_option maxRecDepth 100000 in
set_option maxHeartbeats 1000000 in
theorem ok_i_AddDrill {N : Nat} {list1 : List Drill} {d4 : Drill} {r : (List Drill) × Int} (hm : i_AddDrill N list1 d4 = some r) (w : World) (v2 : Value) (hr3 : RdS w (cx w).Fz v2 fDrill.rp list1) :
    Calls Tryd.prog 27 #[v2, .agg (Drill.enc d4).toArray] w (RetG (cx w) fun u L => ∃ (u1 : Value), (u = tup [u1, .int .i64 r.2] ∧ L = [row u1 42 fDrill r.1])) := by
  unfold i_AddDrill at hm
  refine Calls.enter [v2, .agg (Drill.enc d4).toArray] Tryd.func27 rfl Tryd.ntmps27 rfl ?_
  refine WJ.seq ?_
  refine WJ.reg ?_
  refine SJ.box (cs := [str d4.name, str d4.letters, .int .i64 d4.minutes]) rfl rfl rfl fun g5 => ?_
  refine SJ.q (YldS.yld (y_assign rfl)) rfl ?_
  refine SJ.q (YldS.yld (y_assign rfl)) rfl ?_
  refine SJ.nil ?_
  refine PJ.next ?_
  refine WJ.seq ?_
  refine WJ.seq ?_
  refine WJ.quiet ?_
  refine QJ.step (YldS.yld (y_move rfl)) rfl ?_
  obtain ⟨r6, h7, hm⟩ := bindS hm
  refine QJ.step (y_call Tryd.call49 rfl (RetG.quiet fun w hw => ok_i_ValidDrills h7 w _ (hr3.st hw))) rfl ?_
  refine QJ.step (YldS.yld (y_not rfl)) rfl ?_
  refine QJ.done ?_
  refine PJ.next ?_
  refine WJ.cond (t := !r6) rfl (fun hb8 => ?_) (fun hb8 => ?_)
  · replace hm := ifT hm hb8
    refine WJ.seq ?_
    refine WJ.quiet ?_
    refine QJ.step (YldS.yld (y_assign rfl)) rfl ?_
    refine QJ.step (YldS.yld (y_assign rfl)) rfl ?_
    refine QJ.done ?_
    refine PJ.next ?_
    refine WJ.ret ?_
    refine PJ.then_ret ?_
    refine PJ.nil_row 42 fDrill ?_
    obtain rfl := Option.some.inj hm
    refine PJ.sel (L' := [row (.slice none 0 0) 42 fDrill []]) [0] ⟨by decide, rfl⟩ ?_
    exact PJ.retn (vs := [(.slice none 0 0), .int .i64 1]) Tryd.results27 ⟨rfl, rfl, trivial⟩ ⟨_, rfl, rfl⟩
  · replace hm := ifF hm hb8
    refine WJ.skip ?_
    refine PJ.next ?_
    refine WJ.seq ?_
    refine WJ.seq ?_
    refine WJ.quiet ?_
    refine QJ.step (YldS.yld (y_loadBN (k := 0) (off := 0) (us := [str d4.name, str d4.letters, .int .i64 d4.minutes]) rfl Tryd.isAgg42 Tryd.sizeOf42 rfl rfl)) rfl ?_
    obtain ⟨r9, h10, hm⟩ := bindS hm
    refine QJ.step (y_call Tryd.call46 rfl (RetG.quiet fun w hw => ok_i_validDrill h10 w )) rfl ?_
    refine QJ.step (YldS.yld (y_not rfl)) rfl ?_
    refine QJ.done ?_
    refine PJ.next ?_
    refine WJ.cond (t := !r9) rfl (fun hb11 => ?_) (fun hb11 => ?_)
    · replace hm := ifT hm hb11
      refine WJ.seq ?_
      refine WJ.quiet ?_
      refine QJ.step (YldS.yld (y_assign rfl)) rfl ?_
      refine QJ.step (YldS.yld (y_assign rfl)) rfl ?_
      refine QJ.done ?_
      refine PJ.next ?_
      refine WJ.ret ?_
      refine PJ.then_ret ?_
      refine PJ.nil_row 42 fDrill ?_
      obtain rfl := Option.some.inj hm
      refine PJ.sel (L' := [row (.slice none 0 0) 42 fDrill []]) [0] ⟨by decide, rfl⟩ ?_
      exact PJ.retn (vs := [(.slice none 0 0), .int .i64 2]) Tryd.results27 ⟨rfl, rfl, trivial⟩ ⟨_, rfl, rfl⟩
    · replace hm := ifF hm hb11
      refine WJ.skip ?_
      refine PJ.next ?_
      obtain ⟨kj12, hk13, hm⟩ := withK_open hm
      refine WJ.join (X := Unit) (fun (_ : Unit) => kj12  = some r) (fun (_ : Unit) => [(0, v2), (3, pt g5 0)]) (fun (_ : Unit) => [box g5 42 [str d4.name, str d4.letters, .int .i64 d4.minutes]]) ?_ ?_
      · clear hk13
        refine WJ.seq ?_
        refine WJ.quiet ?_
        refine QJ.step (YldS.yld (y_move rfl)) rfl ?_
        refine QJ.step (YldS.yld (y_lenS Tryd.runUnderlying38 hr3 rfl)) rfl ?_
        refine QJ.step (YldS.yld (y_move rfl)) rfl ?_
        refine QJ.done ?_
        refine PJ.next ?_
        refine WJ.block ?_
        refine WJ.sel (L' := (fun (x : Int) => [box g5 42 [str d4.name, str d4.letters, .int .i64 d4.minutes]]) 0) [0] ⟨by decide, rfl⟩ ?_
        refine WJ.sub (m' := (fun (x : Int) => [(0, v2), (3, pt g5 0), (14, v2), (15, .int .i64 (List.length list1 : Int)), (16, .int .i64 x)]) 0) ⟨rfl, rfl, rfl, rfl, rfl, trivial⟩ ?_
        refine WJ.loop (X := Int) (fun N (x : Int) => i_AddDrill_l1 kj12 list1 d4 N x = some r) (fun (x : Int) => [(0, v2), (3, pt g5 0), (14, v2), (15, .int .i64 (List.length list1 : Int)), (16, .int .i64 x)]) (fun (x : Int) => [box g5 42 [str d4.name, str d4.letters, .int .i64 d4.minutes]]) ?_ N 0 hm
        · rintro N x14 hI
          have hm := hI; clear hI
          cases N with
          | zero => cases hm
          | succ N =>
          unfold i_AddDrill_l1 at hm
          refine WJ.seq ?_
          refine WJ.quiet ?_
          refine QJ.step (YldS.yld (y_bin rfl rfl rfl)) rfl ?_
          refine QJ.done ?_
          refine PJ.next ?_
          refine WJ.seq ?_
          refine WJ.cond (t := decide (x14 < (List.length list1 : Int))) rfl (fun hb15 => ?_) (fun hb15 => ?_)
          · replace hm := ifT hm hb15
            refine WJ.skip ?_
            refine PJ.next ?_
            refine WJ.seq ?_
            refine WJ.block ?_
            refine WJ.seq ?_
            refine WJ.reg ?_
            obtain ⟨e16, h17, hm⟩ := bindS hm
            obtain ⟨ad18, _, rfl, ha19, hy20⟩ := hr3.elem h17
            refine SJ.q (YldS.yld (hy20 Tryd.runUnderlying38 Tryd.sizeOf42 rfl rfl)) rfl ?_
            refine SJ.q (YldS.yld (y_loadN Tryd.isAgg42 Tryd.sizeOf42 rfl ha19 St.frozenC rfl)) rfl ?_
            refine SJ.alloc (cs := [str [], str [], .int .i64 0]) Tryd.zeroValue42 rfl rfl fun g21 => ?_
            refine SJ.storeL (k := 0) (off := 0) (us := [str e16.name, str e16.letters, .int .i64 e16.minutes]) rfl rfl rfl rfl Tryd.sizeOf42 rfl rfl ?_
            refine SJ.nil ?_
            refine PJ.next ?_
            refine WJ.seq ?_
            refine WJ.quiet ?_
            refine QJ.step (YldS.yld (y_fldB (o := 0) fld42_0 rfl)) rfl ?_
            refine QJ.step (YldS.yld (y_loadB (k := 0) (off := 0) (v := str e16.name) rfl Tryd.isAgg9 rfl rfl)) rfl ?_
            refine QJ.step (YldS.yld (y_fldB (o := 0) fld42_0 rfl)) rfl ?_
            refine QJ.step (YldS.yld (y_loadB (k := 1) (off := 0) (v := str d4.name) rfl Tryd.isAgg9 rfl rfl)) rfl ?_
            refine QJ.step (YldS.yld (y_binS rfl rfl rfl)) rfl ?_
            refine QJ.done ?_
            refine PJ.next ?_
            refine WJ.cond (t := (e16.name == d4.name)) rfl (fun hb22 => ?_) (fun hb22 => ?_)
            · replace hm := ifT hm hb22
              refine WJ.seq ?_
              refine WJ.quiet ?_
              refine QJ.step (YldS.yld (y_assign rfl)) rfl ?_
              refine QJ.step (YldS.yld (y_assign rfl)) rfl ?_
              refine QJ.done ?_
              refine PJ.next ?_
              refine WJ.ret ?_
              refine PJ.block_ret (PJ.then_ret (PJ.then_ret (PJ.block_ret (PJ.then_ret ?_))))
              refine PJ.nil_row 42 fDrill ?_
              obtain rfl := Option.some.inj hm
              refine PJ.sel (L' := [row (.slice none 0 0) 42 fDrill []]) [0] ⟨by decide, rfl⟩ ?_
              exact PJ.retn (vs := [(.slice none 0 0), .int .i64 4]) Tryd.results27 ⟨rfl, rfl, trivial⟩ ⟨_, rfl, rfl⟩
            · replace hm := ifF hm hb22
              refine WJ.skip ?_
              refine PJ.block_normal (PJ.next ?_)
              refine WJ.quiet ?_
              refine QJ.step (YldS.yld (y_bin rfl rfl rfl)) rfl ?_
              refine QJ.step (YldS.yld (y_move rfl)) rfl ?_
              refine QJ.done ?_
              exact PJ.round (w64 (x14 + 1)) [1] hm ⟨rfl, rfl, rfl, rfl, rfl, trivial⟩ ⟨by decide, rfl⟩
          · replace hm := ifF hm hb15
            refine WJ.exit ?_
            refine PJ.then_exit (PJ.then_exit (PJ.block_exit ?_))
            exact PJ.joined () [0] hm ⟨rfl, rfl, trivial⟩ ⟨by decide, rfl⟩
      · rintro _ hm
        subst hk13
        refine WJ.seq ?_
        refine WJ.seq ?_
        refine WJ.quiet ?_
        refine QJ.step (YldS.yld (y_move rfl)) rfl ?_
        refine QJ.step (YldS.yld (y_lenS Tryd.runUnderlying38 hr3 rfl)) rfl ?_
        refine QJ.step (YldS.yld (y_bin rfl rfl rfl)) rfl ?_
        refine QJ.done ?_
        refine PJ.next ?_
        refine WJ.cond (t := ((List.length list1 : Int) == 10)) rfl (fun hb23 => ?_) (fun hb23 => ?_)
        · replace hm := ifT hm hb23
          refine WJ.seq ?_
          refine WJ.quiet ?_
          refine QJ.step (YldS.yld (y_assign rfl)) rfl ?_
          refine QJ.step (YldS.yld (y_assign rfl)) rfl ?_
          refine QJ.done ?_
          refine PJ.next ?_
          refine WJ.ret ?_
          refine PJ.then_ret ?_
          refine PJ.nil_row 42 fDrill ?_
          obtain rfl := Option.some.inj hm
          refine PJ.sel (L' := [row (.slice none 0 0) 42 fDrill []]) [0] ⟨by decide, rfl⟩ ?_
          exact PJ.retn (vs := [(.slice none 0 0), .int .i64 5]) Tryd.results27 ⟨rfl, rfl, trivial⟩ ⟨_, rfl, rfl⟩
        · replace hm := ifF hm hb23
          refine WJ.skip ?_
          refine PJ.next ?_
          refine WJ.seq ?_
          obtain ⟨l25, h26, hm⟩ := bindS hm
          obtain ⟨l29, h30, hm⟩ := bindS hm
          refine WJ.draws (N := 8) (listed0 := #[false, false, false, false, false, false, false, false]) [box g5 42 [str d4.name, str d4.letters, .int .i64 d4.minutes]] follows rfl rfl ?_
          refine RJ.first 1 (listed' := #[false, true, false, false, false, false, false, false]) [0] rfl (by kernel_rfl) rfl ⟨by decide, rfl⟩ (y_move rfl) rfl ?_
          refine RJ.first 3 (listed' := #[false, true, false, true, false, false, false, false]) [0] rfl (by kernel_rfl) rfl ⟨by decide, rfl⟩ (y_loadBN (k := 0) (off := 0) (us := [str d4.name, str d4.letters, .int .i64 d4.minutes]) rfl Tryd.isAgg42 Tryd.sizeOf42 rfl rfl) rfl ?_
          refine RJ.hold (X := Value × Value) 3 #[true, true, true, true, true, false, false, false] (fun (x : Value × Value) => [(31, x.2), (33, x.1)]) (fun (x : Value × Value) => [row x.1 42 fDrill [d4], row x.2 42 fDrill l25, box g5 42 [str d4.name, str d4.letters, .int .i64 d4.minutes]]) ?_ ?_
          · rintro ⟨v28, v27⟩
            refine RJ.step1 5 [2] (by kernel_rfl) ⟨by decide, rfl⟩ ?_
            refine RO.of (listed' := #[true, true, true, true, true, true, false, false]) rfl rfl ?_
            refine SJ.append (k := 1) (R := fDrill) h30 rfl Tryd.underlying38 el42 rfl rfl rfl (fun w hw => (hw.row_rd (k := 0) rfl)) rfl fun v31 => ?_
            refine SJ.nil ?_
            refine PJ.draw ?_
            refine RJ.first 6 (listed' := #[true, true, true, true, true, true, true, false]) [2] rfl (by kernel_rfl) rfl ⟨by decide, rfl⟩ (y_assign rfl) rfl ?_
            refine RJ.first 7 (listed' := #[true, true, true, true, true, true, true, true]) [2] rfl (by kernel_rfl) rfl ⟨by decide, rfl⟩ (y_assign rfl) rfl ?_
            refine RJ.fin [2] (by kernel_rfl) ⟨by decide, rfl⟩ ?_
            refine PJ.next ?_
            refine WJ.ret ?_
            obtain rfl := Option.some.inj hm
            refine PJ.sel (L' := [row v31 42 fDrill l29]) [1] ⟨by decide, rfl⟩ ?_
            exact PJ.retn (vs := [v31, .int .i64 0]) Tryd.results27 ⟨rfl, rfl, trivial⟩ ⟨_, rfl, rfl⟩
          · intro hD32
            refine RJ.step2 0 4 [0] (by kernel_rfl) ⟨by decide, rfl⟩ ?_ ?_
            · refine RO.of (listed' := #[true, true, false, true, false, false, false, false]) rfl rfl ?_
              refine SJ.buildSlice (R := fDrill) (os := []) [] Tryd.runUnderlying38 Tryd.sizeOf42 Tryd.zeroValue42 rfl rfl rfl rfl rfl rfl fun v24 => ?_
              refine SJ.nil ?_
              refine PJ.draw ?_
              refine RJ.step2 2 4 [1] (by kernel_rfl) ⟨by decide, rfl⟩ ?_ ?_
              · refine RO.of (listed' := #[true, true, true, true, false, false, false, false]) rfl rfl ?_
                refine SJ.append (k := 0) (R := fDrill) h26 rfl Tryd.underlying38 el42 rfl rfl rfl (fun w hw => (hr3.st hw)) rfl fun v27 => ?_
                refine SJ.nil ?_
                refine PJ.draw ?_
                refine RJ.step1 4 [1] (by kernel_rfl) ⟨by decide, rfl⟩ ?_
                refine RO.of (listed' := #[true, true, true, true, true, false, false, false]) rfl rfl ?_
                refine SJ.buildSlice (R := fDrill) (os := [.tmp 32]) [d4] Tryd.runUnderlying38 Tryd.sizeOf42 Tryd.zeroValue42 rfl rfl rfl rfl rfl rfl fun v28 => ?_
                refine SJ.nil ?_
                refine PJ.draw ?_
                exact RJ.weak (hD32 (v28, v27)) [0, 1, 2] ⟨rfl, rfl, trivial⟩ ⟨by decide, rfl⟩
              · refine RO.of (listed' := #[true, true, false, true, true, false, false, false]) rfl rfl ?_
                refine SJ.buildSlice (R := fDrill) (os := [.tmp 32]) [d4] Tryd.runUnderlying38 Tryd.sizeOf42 Tryd.zeroValue42 rfl rfl rfl rfl rfl rfl fun v28 => ?_
                refine SJ.nil ?_
                refine PJ.draw ?_
                refine RJ.step1 2 [2] (by kernel_rfl) ⟨by decide, rfl⟩ ?_
                refine RO.of (listed' := #[true, true, true, true, true, false, false, false]) rfl rfl ?_
                refine SJ.append (k := 1) (R := fDrill) h26 rfl Tryd.underlying38 el42 rfl rfl rfl (fun w hw => (hr3.st hw)) rfl fun v27 => ?_
                refine SJ.nil ?_
                refine PJ.draw ?_
                exact RJ.weak (hD32 (v28, v27)) [0, 1, 2] ⟨rfl, rfl, trivial⟩ ⟨by decide, rfl⟩
            · refine RO.of (listed' := #[false, true, false, true, true, false, false, false]) rfl rfl ?_
              refine SJ.buildSlice (R := fDrill) (os := [.tmp 32]) [d4] Tryd.runUnderlying38 Tryd.sizeOf42 Tryd.zeroValue42 rfl rfl rfl rfl rfl rfl fun v28 => ?_
              refine SJ.nil ?_
              refine PJ.draw ?_
              refine RJ.step1 0 [1] (by kernel_rfl) ⟨by decide, rfl⟩ ?_
              refine RO.of (listed' := #[true, true, false, true, true, false, false, false]) rfl rfl ?_
              refine SJ.buildSlice (R := fDrill) (os := []) [] Tryd.runUnderlying38 Tryd.sizeOf42 Tryd.zeroValue42 rfl rfl rfl rfl rfl rfl fun v24 => ?_
              refine SJ.nil ?_
              refine PJ.draw ?_
              refine RJ.step1 2 [2] (by kernel_rfl) ⟨by decide, rfl⟩ ?_
              refine RO.of (listed' := #[true, true, true, true, true, false, false, false]) rfl rfl ?_
              refine SJ.append (k := 0) (R := fDrill) h26 rfl Tryd.underlying38 el42 rfl rfl rfl (fun w hw => (hr3.st hw)) rfl fun v27 => ?_
              refine SJ.nil ?_
              refine PJ.draw ?_
              exact RJ.weak (hD32 (v28, v27)) [1, 0, 2] ⟨rfl, rfl, trivial⟩ ⟨by decide, rfl⟩

set_option maxRecDepth 100000 in
set_option maxHeartbeats 1000000 in
theorem ok_w_FnDrillLines {N : Nat} {code1 : List UInt8} {more4 : List UInt8} {r : Bool} (hm : w_FnDrillLines N code1 more4 = some r) (w : World) (hT : Tab Tryd.prog tabNm w (cx w).Fz) (v2 : Value) (hr3 : RdS w (cx w).Fz v2 fByte.rp code1) (v5 : Value) (hr6 : RdS w (cx w).Fz v5 fByte.rp more4) :
    Calls Tryd.prog 4 #[v2, v5] w (Ret (cx w) (.bool r)) := by
  unfold w_FnDrillLines at hm
  refine Calls.enter [v2, v5] Tryd.func4 rfl Tryd.ntmps4 rfl ?_
  refine WJ.seq ?_
  refine WJ.quiet ?_
  refine QJ.step (YldS.yld (y_assign rfl)) rfl ?_
  refine QJ.done ?_
  refine PJ.next ?_
  refine WJ.seq ?_
  refine WJ.seq ?_
  refine WJ.quiet ?_
  refine QJ.step (YldS.yld (y_move rfl)) rfl ?_
  refine QJ.step (YldS.yld (y_move rfl)) rfl ?_
  obtain ⟨r7, h8, hm⟩ := bindS hm
  refine QJ.step (y_call Tryd.call21 rfl (RetG.quiet fun w hw => ok_w_a2Long h8 w _ (hr3.st hw) _ (hr6.st hw))) rfl ?_
  refine QJ.done ?_
  refine PJ.next ?_
  refine WJ.cond (t := r7) rfl (fun hb9 => ?_) (fun hb9 => ?_)
  · replace hm := ifT hm hb9
    refine WJ.seq ?_
    refine WJ.quiet ?_
    refine QJ.step (YldS.yld (y_assign rfl)) rfl ?_
    refine QJ.done ?_
    refine PJ.next ?_
    refine WJ.ret ?_
    refine PJ.then_ret ?_
    obtain rfl := Option.some.inj hm
    refine PJ.sel (L' := []) [] ⟨List.nodup_nil, rfl⟩ ?_
    exact PJ.retn (vs := [.bool true]) Tryd.results4 ⟨rfl, trivial⟩ ⟨rfl, rfl⟩
  · replace hm := ifF hm hb9
    refine WJ.skip ?_
    refine PJ.next ?_
    refine WJ.seq ?_
    refine WJ.reg ?_
    refine SJ.q (YldS.yld (y_move rfl)) rfl ?_
    obtain ⟨r10, h11, hm⟩ := bindS hm
    refine SJ.call Tryd.call22 rfl (fun w hw => ok_s_A2Drills h11 w _ (hr3.st hw)) rfl ?_
    rintro v12 _ ⟨_, rfl, rfl⟩
    refine SJ.q (YldS.yld (y_assign rfl)) rfl ?_
    refine SJ.nil ?_
    refine PJ.next ?_
    refine WJ.seq ?_
    refine WJ.quiet ?_
    refine QJ.step (YldS.yld (y_move rfl)) rfl ?_
    obtain ⟨r13, h14, hm⟩ := bindS hm
    refine QJ.step (y_call Tryd.call23 rfl (RetG.quiet fun w hw => ok_w_a2At h14 w _ (hr6.st hw))) rfl ?_
    refine QJ.step (YldS.yld (y_bin rfl rfl rfl)) rfl ?_
    refine QJ.step (YldS.yld (y_assign rfl)) rfl ?_
    refine QJ.done ?_
    refine PJ.next ?_
    refine WJ.seq ?_
    refine WJ.reg ?_
    refine SJ.buildSlice (R := fDrill) (os := []) [] Tryd.runUnderlying38 Tryd.sizeOf42 Tryd.zeroValue42 rfl rfl rfl rfl rfl rfl fun v15 => ?_
    refine SJ.q (YldS.yld (y_assign rfl)) rfl ?_
    refine SJ.nil ?_
    refine PJ.next ?_
    obtain ⟨kj16, hk17, hm⟩ := withK_open hm
    refine WJ.join (X := Unit) (fun (_ : Unit) => kj16  = some r) (fun (_ : Unit) => []) (fun (_ : Unit) => []) ?_ ?_
    · clear hk17
      refine WJ.seq ?_
      refine WJ.quiet ?_
      refine QJ.step (YldS.yld (y_assign rfl)) rfl ?_
      refine QJ.done ?_
      refine PJ.next ?_
      refine WJ.block ?_
      refine WJ.sel (L' := (fun (x : (List Drill) × Value × Int) => [row x.2.1 42 fDrill x.1, row v12 42 fDrill r10]) ([], v15, 0)) [0, 1] ⟨by decide, rfl⟩ ?_
      refine WJ.sub (m' := (fun (x : (List Drill) × Value × Int) => [(5, v12), (6, .int .i64 (w64 (1 + r13))), (7, x.2.1), (8, .int .i64 x.2.2)]) ([], v15, 0)) ⟨rfl, rfl, rfl, rfl, trivial⟩ ?_
      refine WJ.loop (X := (List Drill) × Value × Int) (fun N (x : (List Drill) × Value × Int) => w_FnDrillLines_l1 kj16 r10 r13 N x.1 x.2.2 = some r) (fun (x : (List Drill) × Value × Int) => [(5, v12), (6, .int .i64 (w64 (1 + r13))), (7, x.2.1), (8, .int .i64 x.2.2)]) (fun (x : (List Drill) × Value × Int) => [row x.2.1 42 fDrill x.1, row v12 42 fDrill r10]) ?_ N ([], v15, 0) hm
      · rintro N ⟨l18, v19, i20⟩ hI
        have hm := hI; clear hI
        cases N with
        | zero => cases hm
        | succ N =>
        unfold w_FnDrillLines_l1 at hm
        refine WJ.seq ?_
        refine WJ.seq ?_
        refine WJ.quiet ?_
        refine QJ.step (YldS.yld (y_move rfl)) rfl ?_
        refine QJ.step (YldS.yld (y_move rfl)) rfl ?_
        refine QJ.step (YldS.yld (y_lenRow (k := 1) rfl Tryd.runUnderlying38 rfl)) rfl ?_
        refine QJ.step (YldS.yld (y_bin rfl rfl rfl)) rfl ?_
        refine QJ.done ?_
        refine PJ.next ?_
        refine WJ.cond (t := decide (i20 < (List.length r10 : Int))) rfl (fun hb21 => ?_) (fun hb21 => ?_)
        · replace hm := ifT hm hb21
          refine WJ.skip ?_
          refine PJ.next ?_
          obtain ⟨kj24, hk25, hm⟩ := withK_open hm
          refine WJ.join (X := (List Drill) × Value) (fun (x : (List Drill) × Value) => kj24 x.1 = some r) (fun (x : (List Drill) × Value) => [(5, v12), (6, .int .i64 (w64 (1 + r13))), (7, x.2), (8, .int .i64 i20)]) (fun (x : (List Drill) × Value) => [row x.2 42 fDrill x.1, row v12 42 fDrill r10]) ?_ ?_
          · clear hk25
            refine WJ.block ?_
            refine WJ.seq ?_
            refine WJ.reg ?_
            refine SJ.q (YldS.yld (y_move rfl)) rfl ?_
            refine SJ.q (YldS.yld (y_move rfl)) rfl ?_
            obtain ⟨e26, h27, hm⟩ := bindS hm
            refine SJ.q (YldS.yld (y_ixRow (k := 1) (R := fDrill) rfl Tryd.runUnderlying38 Tryd.sizeOf42 rfl rfl h27)) rfl ?_
            refine SJ.q (YldS.yld (y_loadRN (k := 1) (i := (Int.toNat i20)) (off := 0) (us := [str e26.name, str e26.letters, .int .i64 e26.minutes]) rfl Tryd.isAgg42 Tryd.sizeOf42 rfl (idx_get h27) rfl)) rfl ?_
            refine SJ.alloc (cs := [str [], str [], .int .i64 0]) Tryd.zeroValue42 rfl rfl fun g28 => ?_
            refine SJ.storeL (k := 0) (off := 0) (us := [str e26.name, str e26.letters, .int .i64 e26.minutes]) rfl rfl rfl rfl Tryd.sizeOf42 rfl rfl ?_
            refine SJ.nil ?_
            refine PJ.next ?_
            refine WJ.seq ?_
            refine WJ.reg ?_
            refine SJ.q (YldS.yld (y_loadBN (k := 0) (off := 0) (us := [str e26.name, str e26.letters, .int .i64 e26.minutes]) rfl Tryd.isAgg42 Tryd.sizeOf42 rfl rfl)) rfl ?_
            obtain ⟨r29, h30, hm⟩ := bindS hm
            refine SJ.q (y_call Tryd.call25 rfl (RetG.quiet fun w hw => ok_i_DrillText h30 w (hT.st hw))) rfl ?_
            obtain ⟨r31, h32, hm⟩ := bindS hm
            refine SJ.q (y_call Tryd.call24 rfl (RetG.quiet fun w hw => ok_i_ReadDrill h32 w (hT.st hw))) rfl ?_
            refine SJ.q (YldS.yld (y_move rfl)) rfl ?_
            refine SJ.q (YldS.yld (y_extract rfl rfl)) rfl ?_
            refine SJ.q (YldS.yld (y_extract rfl rfl)) rfl ?_
            refine SJ.alloc (cs := [str [], str [], .int .i64 0]) Tryd.zeroValue42 rfl rfl fun g33 => ?_
            refine SJ.storeL (k := 0) (off := 0) (us := [str r31.1.name, str r31.1.letters, .int .i64 r31.1.minutes]) rfl rfl rfl rfl Tryd.sizeOf42 rfl rfl ?_
            refine SJ.q (YldS.yld (y_assign rfl)) rfl ?_
            refine SJ.nil ?_
            refine PJ.next ?_
            refine WJ.seq ?_
            refine WJ.quiet ?_
            refine QJ.step (YldS.yld (y_loadBN (k := 1) (off := 0) (us := [str e26.name, str e26.letters, .int .i64 e26.minutes]) rfl Tryd.isAgg42 Tryd.sizeOf42 rfl rfl)) rfl ?_
            refine QJ.step (YldS.yld (y_move rfl)) rfl ?_
            obtain ⟨r34, h35, hm⟩ := bindS hm
            refine QJ.step (y_call Tryd.call26 rfl (RetG.quiet fun w hw => ok_i_DrillLine h35 w )) rfl ?_
            refine QJ.step (YldS.yld (y_move rfl)) rfl ?_
            refine QJ.step (YldS.yld (y_extract rfl rfl)) rfl ?_
            refine QJ.step (YldS.yld (y_extract rfl rfl)) rfl ?_
            refine QJ.step (YldS.yld (y_assign rfl)) rfl ?_
            refine QJ.step (YldS.yld (y_assign rfl)) rfl ?_
            refine QJ.done ?_
            refine PJ.next ?_
            refine WJ.seq ?_
            refine WJ.quiet ?_
            refine QJ.step (YldS.yld (y_loadBN (k := 1) (off := 0) (us := [str e26.name, str e26.letters, .int .i64 e26.minutes]) rfl Tryd.isAgg42 Tryd.sizeOf42 rfl rfl)) rfl ?_
            refine QJ.step (YldS.yld (y_move rfl)) rfl ?_
            refine QJ.step (YldS.yld (y_bin rfl rfl rfl)) rfl ?_
            obtain ⟨r36, h37, hm⟩ := bindS hm
            refine QJ.step (y_call Tryd.call26 rfl (RetG.quiet fun w hw => ok_i_DrillLine h37 w )) rfl ?_
            refine QJ.step (YldS.yld (y_move rfl)) rfl ?_
            refine QJ.step (YldS.yld (y_extract rfl rfl)) rfl ?_
            refine QJ.step (YldS.yld (y_extract rfl rfl)) rfl ?_
            refine QJ.step (YldS.yld (y_assign rfl)) rfl ?_
            refine QJ.step (YldS.yld (y_assign rfl)) rfl ?_
            refine QJ.done ?_
            refine PJ.next ?_
            refine WJ.seq ?_
            refine WJ.seq ?_
            refine WJ.quiet ?_
            refine QJ.step (YldS.yld (y_move rfl)) rfl ?_
            refine QJ.step (YldS.yld (y_not rfl)) rfl ?_
            refine QJ.step (YldS.yld (y_move rfl)) rfl ?_
            obtain ⟨t38, h39, hm⟩ := bindS hm
            refine QJ.cut 4 [(5, v12), (6, .int .i64 (w64 (1 + r13))), (7, v19), (8, .int .i64 i20), (9, pt g28 0), (12, str r34.1), (13, .int .i64 r34.2), (14, str r36.1), (15, .int .i64 r36.2), (65, .bool t38)] ?_ ?_
            · rcases Bool.eq_false_or_eq_true (!r31.2) with hb40 | hb40
              · obtain rfl := orT h39 hb40
                refine QJ.off rfl rfl (cB hb40) rfl rfl ?_
                refine QJ.off rfl rfl (cB hb40) rfl rfl ?_
                refine QJ.off rfl rfl (cB hb40) rfl rfl ?_
                refine QJ.step (YldS.yld (y_pick_t (cB hb40) rfl)) rfl ?_
                exact QJ.cut_end ⟨rfl, rfl, rfl, rfl, rfl, rfl, rfl, rfl, rfl, rfl, trivial⟩
              · replace h39 := orF h39 hb40
                refine QJ.on rfl rfl (cB hb40) (YldS.yld (y_loadBN (k := 0) (off := 0) (us := [str r31.1.name, str r31.1.letters, .int .i64 r31.1.minutes]) rfl Tryd.isAgg42 Tryd.sizeOf42 rfl rfl)) rfl ?_
                refine QJ.on rfl rfl (cB hb40) (YldS.yld (y_loadBN (k := 1) (off := 0) (us := [str e26.name, str e26.letters, .int .i64 e26.minutes]) rfl Tryd.isAgg42 Tryd.sizeOf42 rfl rfl)) rfl ?_
                refine QJ.on rfl rfl (cB hb40) (YldS.yld (y_neT r31.1 e26 eq42 rfl rfl)) rfl ?_
                refine QJ.step (YldS.yld (y_pick_f (cB hb40) rfl)) rfl ?_
                obtain rfl := Option.some.inj h39
                exact QJ.cut_end ⟨rfl, rfl, rfl, rfl, rfl, rfl, rfl, rfl, rfl, rfl, trivial⟩
            refine QJ.step (YldS.yld (y_move rfl)) rfl ?_
            obtain ⟨t41, h42, hm⟩ := bindS hm
            refine QJ.cut 3 [(5, v12), (6, .int .i64 (w64 (1 + r13))), (7, v19), (8, .int .i64 i20), (9, pt g28 0), (12, str r34.1), (14, str r36.1), (15, .int .i64 r36.2), (69, .bool t41)] ?_ ?_
            · rcases Bool.eq_false_or_eq_true t38 with hb43 | hb43
              · obtain rfl := orT h42 hb43
                refine QJ.off rfl rfl (cB hb43) rfl rfl ?_
                refine QJ.off rfl rfl (cB hb43) rfl rfl ?_
                refine QJ.step (YldS.yld (y_pick_t (cB hb43) rfl)) rfl ?_
                exact QJ.cut_end ⟨rfl, rfl, rfl, rfl, rfl, rfl, rfl, rfl, rfl, trivial⟩
              · replace h42 := orF h42 hb43
                refine QJ.on rfl rfl (cB hb43) (YldS.yld (y_move rfl)) rfl ?_
                refine QJ.on rfl rfl (cB hb43) (YldS.yld (y_bin rfl rfl rfl)) rfl ?_
                refine QJ.step (YldS.yld (y_pick_f (cB hb43) rfl)) rfl ?_
                obtain rfl := Option.some.inj h42
                exact QJ.cut_end ⟨rfl, rfl, rfl, rfl, rfl, rfl, rfl, rfl, rfl, trivial⟩
            refine QJ.step (YldS.yld (y_move rfl)) rfl ?_
            obtain ⟨t44, h45, hm⟩ := bindS hm
            refine QJ.cut 3 [(5, v12), (6, .int .i64 (w64 (1 + r13))), (7, v19), (8, .int .i64 i20), (9, pt g28 0), (12, str r34.1), (14, str r36.1), (73, .bool t44)] ?_ ?_
            · rcases Bool.eq_false_or_eq_true t41 with hb46 | hb46
              · obtain rfl := orT h45 hb46
                refine QJ.off rfl rfl (cB hb46) rfl rfl ?_
                refine QJ.off rfl rfl (cB hb46) rfl rfl ?_
                refine QJ.step (YldS.yld (y_pick_t (cB hb46) rfl)) rfl ?_
                exact QJ.cut_end ⟨rfl, rfl, rfl, rfl, rfl, rfl, rfl, rfl, trivial⟩
              · replace h45 := orF h45 hb46
                refine QJ.on rfl rfl (cB hb46) (YldS.yld (y_move rfl)) rfl ?_
                refine QJ.on rfl rfl (cB hb46) (YldS.yld (y_bin rfl rfl rfl)) rfl ?_
                refine QJ.step (YldS.yld (y_pick_f (cB hb46) rfl)) rfl ?_
                obtain rfl := Option.some.inj h45
                exact QJ.cut_end ⟨rfl, rfl, rfl, rfl, rfl, rfl, rfl, rfl, trivial⟩
            refine QJ.step (YldS.yld (y_move rfl)) rfl ?_
            obtain ⟨t47, h48, hm⟩ := bindS hm
            refine QJ.cut 6 [(5, v12), (6, .int .i64 (w64 (1 + r13))), (7, v19), (8, .int .i64 i20), (9, pt g28 0), (12, str r34.1), (14, str r36.1), (80, .bool t47)] ?_ ?_
            · rcases Bool.eq_false_or_eq_true t44 with hb49 | hb49
              · obtain rfl := orT h48 hb49
                refine QJ.off rfl rfl (cB hb49) rfl rfl ?_
                refine QJ.off rfl rfl (cB hb49) rfl rfl ?_
                refine QJ.off rfl rfl (cB hb49) rfl rfl ?_
                refine QJ.off rfl rfl (cB hb49) rfl rfl ?_
                refine QJ.off rfl rfl (cB hb49) rfl rfl ?_
                refine QJ.step (YldS.yld (y_pick_t (cB hb49) rfl)) rfl ?_
                exact QJ.cut_end ⟨rfl, rfl, rfl, rfl, rfl, rfl, rfl, rfl, trivial⟩
              · replace h48 := orF h48 hb49
                refine QJ.on rfl rfl (cB hb49) (YldS.yld (y_move rfl)) rfl ?_
                refine QJ.on rfl rfl (cB hb49) (YldS.yld (y_lenStr Tryd.runUnderlying9 rfl)) rfl ?_
                refine QJ.on rfl rfl (cB hb49) (YldS.yld (y_move rfl)) rfl ?_
                refine QJ.on rfl rfl (cB hb49) (YldS.yld (y_bin rfl rfl rfl)) rfl ?_
                refine QJ.on rfl rfl (cB hb49) (YldS.yld (y_bin rfl rfl rfl)) rfl ?_
                refine QJ.step (YldS.yld (y_pick_f (cB hb49) rfl)) rfl ?_
                obtain rfl := Option.some.inj h48
                exact QJ.cut_end ⟨rfl, rfl, rfl, rfl, rfl, rfl, rfl, rfl, trivial⟩
            refine QJ.step (YldS.yld (y_move rfl)) rfl ?_
            obtain ⟨t50, h51, hm⟩ := bindS hm
            refine QJ.cut 5 [(5, v12), (6, .int .i64 (w64 (1 + r13))), (7, v19), (8, .int .i64 i20), (9, pt g28 0), (12, str r34.1), (14, str r36.1), (86, .bool t50)] ?_ ?_
            · rcases Bool.eq_false_or_eq_true t47 with hb52 | hb52
              · obtain rfl := orT h51 hb52
                refine QJ.off rfl rfl (cB hb52) rfl rfl ?_
                refine QJ.off rfl rfl (cB hb52) rfl rfl ?_
                refine QJ.off rfl rfl (cB hb52) rfl rfl ?_
                refine QJ.off rfl rfl (cB hb52) rfl rfl ?_
                refine QJ.step (YldS.yld (y_pick_t (cB hb52) rfl)) rfl ?_
                exact QJ.cut_end ⟨rfl, rfl, rfl, rfl, rfl, rfl, rfl, rfl, trivial⟩
              · replace h51 := orF h51 hb52
                refine QJ.on rfl rfl (cB hb52) (YldS.yld (y_move rfl)) rfl ?_
                refine QJ.on rfl rfl (cB hb52) (YldS.yld (y_lenStr Tryd.runUnderlying9 rfl)) rfl ?_
                refine QJ.on rfl rfl (cB hb52) (YldS.yld (y_move rfl)) rfl ?_
                refine QJ.on rfl rfl (cB hb52) (YldS.yld (y_bin rfl rfl rfl)) rfl ?_
                refine QJ.step (YldS.yld (y_pick_f (cB hb52) rfl)) rfl ?_
                obtain rfl := Option.some.inj h51
                exact QJ.cut_end ⟨rfl, rfl, rfl, rfl, rfl, rfl, rfl, rfl, trivial⟩
            refine QJ.step (YldS.yld (y_move rfl)) rfl ?_
            obtain ⟨t53, h54, hm⟩ := bindS hm
            refine QJ.cut 6 [(5, v12), (6, .int .i64 (w64 (1 + r13))), (7, v19), (8, .int .i64 i20), (9, pt g28 0), (12, str r34.1), (14, str r36.1), (93, .bool t53)] ?_ ?_
            · rcases Bool.eq_false_or_eq_true t50 with hb55 | hb55
              · obtain rfl := orT h54 hb55
                refine QJ.off rfl rfl (cB hb55) rfl rfl ?_
                refine QJ.off rfl rfl (cB hb55) rfl rfl ?_
                refine QJ.off rfl rfl (cB hb55) rfl rfl ?_
                refine QJ.off rfl rfl (cB hb55) rfl rfl ?_
                refine QJ.off rfl rfl (cB hb55) rfl rfl ?_
                refine QJ.step (YldS.yld (y_pick_t (cB hb55) rfl)) rfl ?_
                exact QJ.cut_end ⟨rfl, rfl, rfl, rfl, rfl, rfl, rfl, rfl, trivial⟩
              · replace h54 := orF h54 hb55
                refine QJ.on rfl rfl (cB hb55) (YldS.yld (y_move rfl)) rfl ?_
                refine QJ.on rfl rfl (cB hb55) (YldS.yld (y_lenStr Tryd.runUnderlying9 rfl)) rfl ?_
                refine QJ.on rfl rfl (cB hb55) (YldS.yld (y_move rfl)) rfl ?_
                refine QJ.on rfl rfl (cB hb55) (YldS.yld (y_lenStr Tryd.runUnderlying9 rfl)) rfl ?_
                refine QJ.on rfl rfl (cB hb55) (YldS.yld (y_bin rfl rfl rfl)) rfl ?_
                refine QJ.step (YldS.yld (y_pick_f (cB hb55) rfl)) rfl ?_
                obtain rfl := Option.some.inj h54
                exact QJ.cut_end ⟨rfl, rfl, rfl, rfl, rfl, rfl, rfl, rfl, trivial⟩
            refine QJ.step (YldS.yld (y_move rfl)) rfl ?_
            obtain ⟨t56, h57, hm⟩ := bindS hm
            refine QJ.cut 7 [(5, v12), (6, .int .i64 (w64 (1 + r13))), (7, v19), (8, .int .i64 i20), (9, pt g28 0), (12, str r34.1), (101, .bool t56)] ?_ ?_
            · rcases Bool.eq_false_or_eq_true t53 with hb58 | hb58
              · obtain rfl := orT h57 hb58
                refine QJ.off rfl rfl (cB hb58) rfl rfl ?_
                refine QJ.off rfl rfl (cB hb58) rfl rfl ?_
                refine QJ.off rfl rfl (cB hb58) rfl rfl ?_
                refine QJ.off rfl rfl (cB hb58) rfl rfl ?_
                refine QJ.off rfl rfl (cB hb58) rfl rfl ?_
                refine QJ.off rfl rfl (cB hb58) rfl rfl ?_
                refine QJ.step (YldS.yld (y_pick_t (cB hb58) rfl)) rfl ?_
                exact QJ.cut_end ⟨rfl, rfl, rfl, rfl, rfl, rfl, rfl, trivial⟩
              · replace h57 := orF h57 hb58
                refine QJ.on rfl rfl (cB hb58) (YldS.yld (y_move rfl)) rfl ?_
                refine QJ.on rfl rfl (cB hb58) (YldS.yld (y_move rfl)) rfl ?_
                refine QJ.on rfl rfl (cB hb58) (YldS.yld (y_lenStr Tryd.runUnderlying9 rfl)) rfl ?_
                obtain ⟨s59, h60, h57⟩ := bindS h57
                refine QJ.on rfl rfl (cB hb58) (YldS.yld (y_subStr (i := none) (j := some (List.length r34.1 : Int)) h60 Tryd.runUnderlying9 rfl trivial ⟨_, rfl⟩)) rfl ?_
                refine QJ.on rfl rfl (cB hb58) (YldS.yld (y_move rfl)) rfl ?_
                refine QJ.on rfl rfl (cB hb58) (YldS.yld (y_binS rfl rfl rfl)) rfl ?_
                refine QJ.step (YldS.yld (y_pick_f (cB hb58) rfl)) rfl ?_
                obtain rfl := Option.some.inj h57
                exact QJ.cut_end ⟨rfl, rfl, rfl, rfl, rfl, rfl, rfl, trivial⟩
            refine QJ.done ?_
            refine PJ.next ?_
            refine WJ.cond (t := t56) rfl (fun hb61 => ?_) (fun hb61 => ?_)
            · replace hm := ifT hm hb61
              refine WJ.seq ?_
              refine WJ.quiet ?_
              refine QJ.step (YldS.yld (y_assign rfl)) rfl ?_
              refine QJ.done ?_
              refine PJ.next ?_
              refine WJ.ret ?_
              refine PJ.then_ret (PJ.block_ret (PJ.then_ret (PJ.then_ret (PJ.block_ret (PJ.then_ret ?_)))))
              obtain rfl := Option.some.inj hm
              refine PJ.sel (L' := []) [] ⟨List.nodup_nil, rfl⟩ ?_
              exact PJ.retn (vs := [.bool false]) Tryd.results4 ⟨rfl, trivial⟩ ⟨rfl, rfl⟩
            · replace hm := ifF hm hb61
              refine WJ.skip ?_
              refine PJ.next ?_
              obtain ⟨kj62, hk63, hm⟩ := withK_open hm
              refine WJ.join (X := Unit) (fun (_ : Unit) => kj62  = some r) (fun (_ : Unit) => [(5, v12), (6, .int .i64 (w64 (1 + r13))), (7, v19), (8, .int .i64 i20), (9, pt g28 0)]) (fun (_ : Unit) => [box g28 42 [str e26.name, str e26.letters, .int .i64 e26.minutes], row v19 42 fDrill l18, row v12 42 fDrill r10]) ?_ ?_
              · clear hk63
                refine WJ.seq ?_
                refine WJ.quiet ?_
                refine QJ.step (YldS.yld (y_assign rfl)) rfl ?_
                refine QJ.done ?_
                refine PJ.next ?_
                refine WJ.block ?_
                refine WJ.sel (L' := (fun (x : Int) => [box g28 42 [str e26.name, str e26.letters, .int .i64 e26.minutes], row v19 42 fDrill l18, row v12 42 fDrill r10]) 0) [1, 2, 3] ⟨by decide, rfl⟩ ?_
                refine WJ.sub (m' := (fun (x : Int) => [(5, v12), (6, .int .i64 (w64 (1 + r13))), (7, v19), (8, .int .i64 i20), (9, pt g28 0), (12, str r34.1), (16, .int .i64 x)]) 0) ⟨rfl, rfl, rfl, rfl, rfl, rfl, rfl, trivial⟩ ?_
                refine WJ.loop (X := Int) (fun N (x : Int) => w_FnDrillLines_l2 kj62 e26 r34 N x = some r) (fun (x : Int) => [(5, v12), (6, .int .i64 (w64 (1 + r13))), (7, v19), (8, .int .i64 i20), (9, pt g28 0), (12, str r34.1), (16, .int .i64 x)]) (fun (x : Int) => [box g28 42 [str e26.name, str e26.letters, .int .i64 e26.minutes], row v19 42 fDrill l18, row v12 42 fDrill r10]) ?_ N 0 hm
                · rintro N k64 hI
                  have hm := hI; clear hI
                  cases N with
                  | zero => cases hm
                  | succ N =>
                  unfold w_FnDrillLines_l2 at hm
                  refine WJ.seq ?_
                  refine WJ.seq ?_
                  refine WJ.quiet ?_
                  refine QJ.step (YldS.yld (y_move rfl)) rfl ?_
                  refine QJ.step (YldS.yld (y_move rfl)) rfl ?_
                  refine QJ.step (YldS.yld (y_lenStr Tryd.runUnderlying9 rfl)) rfl ?_
                  refine QJ.step (YldS.yld (y_bin rfl rfl rfl)) rfl ?_
                  refine QJ.done ?_
                  refine PJ.next ?_
                  refine WJ.cond (t := decide (k64 < (List.length r34.1 : Int))) rfl (fun hb65 => ?_) (fun hb65 => ?_)
                  · replace hm := ifT hm hb65
                    refine WJ.skip ?_
                    refine PJ.next ?_
                    obtain ⟨kj66, hk67, hm⟩ := withK_open hm
                    refine WJ.join (X := Unit) (fun (_ : Unit) => kj66  = some r) (fun (_ : Unit) => [(5, v12), (6, .int .i64 (w64 (1 + r13))), (7, v19), (8, .int .i64 i20), (9, pt g28 0), (12, str r34.1), (16, .int .i64 k64)]) (fun (_ : Unit) => [box g28 42 [str e26.name, str e26.letters, .int .i64 e26.minutes], row v19 42 fDrill l18, row v12 42 fDrill r10]) ?_ ?_
                    · clear hk67
                      refine WJ.block ?_
                      refine WJ.seq ?_
                      refine WJ.seq ?_
                      refine WJ.quiet ?_
                      refine QJ.step (YldS.yld (y_move rfl)) rfl ?_
                      refine QJ.step (YldS.yld (y_rem rfl rfl (by decide))) rfl ?_
                      refine QJ.step (YldS.yld (y_bin rfl rfl rfl)) rfl ?_
                      refine QJ.done ?_
                      refine PJ.next ?_
                      refine WJ.cond (t := ((Int.tmod k64 4) == 3)) rfl (fun hb68 => ?_) (fun hb68 => ?_)
                      · replace hm := ifT hm hb68
                        refine WJ.seq ?_
                        refine WJ.seq ?_
                        refine WJ.quiet ?_
                        refine QJ.step (YldS.yld (y_move rfl)) rfl ?_
                        refine QJ.step (YldS.yld (y_move rfl)) rfl ?_
                        obtain ⟨c69, h70, hm⟩ := bindS hm
                        refine QJ.step (YldS.yld (y_idxStr Tryd.runUnderlying9 rfl rfl h70)) rfl ?_
                        refine QJ.step (YldS.yld (y_bin8 c69 (32 : UInt8) rfl rfl rfl)) rfl ?_
                        refine QJ.done ?_
                        refine PJ.next ?_
                        refine WJ.cond (t := (c69 != (32 : UInt8))) rfl (fun hb71 => ?_) (fun hb71 => ?_)
                        · replace hm := ifT hm hb71
                          refine WJ.seq ?_
                          refine WJ.quiet ?_
                          refine QJ.step (YldS.yld (y_assign rfl)) rfl ?_
                          refine QJ.done ?_
                          refine PJ.next ?_
                          refine WJ.ret ?_
                          refine PJ.then_ret (PJ.then_ret (PJ.block_ret (PJ.then_ret (PJ.then_ret (PJ.block_ret (PJ.then_ret (PJ.block_ret (PJ.then_ret (PJ.then_ret (PJ.block_ret (PJ.then_ret ?_)))))))))))
                          obtain rfl := Option.some.inj hm
                          refine PJ.sel (L' := []) [] ⟨List.nodup_nil, rfl⟩ ?_
                          exact PJ.retn (vs := [.bool false]) Tryd.results4 ⟨rfl, trivial⟩ ⟨rfl, rfl⟩
                        · replace hm := ifF hm hb71
                          refine WJ.skip ?_
                          refine PJ.next ?_
                          refine WJ.exit ?_
                          refine PJ.then_exit (PJ.block_exit ?_)
                          exact PJ.joined () [0, 1, 2] hm ⟨rfl, rfl, rfl, rfl, rfl, rfl, rfl, trivial⟩ ⟨by decide, rfl⟩
                      · replace hm := ifF hm hb68
                        refine WJ.skip ?_
                        refine PJ.next ?_
                        refine WJ.seq ?_
                        refine WJ.quiet_draw follows (by kernel_rfl) ?_
                        refine QJ.step (YldS.yld (y_move rfl)) rfl ?_
                        refine QJ.step (YldS.yld (y_move rfl)) rfl ?_
                        obtain ⟨c72, h73, hm⟩ := bindS hm
                        refine QJ.step (YldS.yld (y_idxStr Tryd.runUnderlying9 rfl rfl h73)) rfl ?_
                        refine QJ.step (YldS.yld (y_fldB (o := 0) fld42_1 rfl)) rfl ?_
                        refine QJ.step (YldS.yld (y_loadB (k := 0) (off := 1) (v := str e26.letters) rfl Tryd.isAgg9 rfl rfl)) rfl ?_
                        refine QJ.step (YldS.yld (y_move rfl)) rfl ?_
                        refine QJ.step (YldS.yld (y_quo rfl rfl (by decide))) rfl ?_
                        refine QJ.step (YldS.yld (y_fldB (o := 0) fld42_1 rfl)) rfl ?_
                        refine QJ.step (YldS.yld (y_loadB (k := 0) (off := 1) (v := str e26.letters) rfl Tryd.isAgg9 rfl rfl)) rfl ?_
                        refine QJ.step (YldS.yld (y_lenStr Tryd.runUnderlying9 rfl)) rfl ?_
                        obtain ⟨q74, h75, hm⟩ := bindS hm
                        refine QJ.step (YldS.yld (y_rem' h75 rfl rfl)) rfl ?_
                        obtain ⟨c76, h77, hm⟩ := bindS hm
                        refine QJ.step (YldS.yld (y_idxStr Tryd.runUnderlying9 rfl rfl h77)) rfl ?_
                        refine QJ.step (YldS.yld (y_bin8 c72 c76 rfl rfl rfl)) rfl ?_
                        refine QJ.done ?_
                        refine PJ.next ?_
                        refine WJ.cond (t := (c72 != c76)) rfl (fun hb78 => ?_) (fun hb78 => ?_)
                        · replace hm := ifT hm hb78
                          refine WJ.seq ?_
                          refine WJ.quiet ?_
                          refine QJ.step (YldS.yld (y_assign rfl)) rfl ?_
                          refine QJ.done ?_
                          refine PJ.next ?_
                          refine WJ.ret ?_
                          refine PJ.block_ret (PJ.then_ret (PJ.then_ret (PJ.block_ret (PJ.then_ret (PJ.block_ret (PJ.then_ret (PJ.then_ret (PJ.block_ret (PJ.then_ret ?_)))))))))
                          obtain rfl := Option.some.inj hm
                          refine PJ.sel (L' := []) [] ⟨List.nodup_nil, rfl⟩ ?_
                          exact PJ.retn (vs := [.bool false]) Tryd.results4 ⟨rfl, trivial⟩ ⟨rfl, rfl⟩
                        · replace hm := ifF hm hb78
                          refine WJ.skip ?_
                          refine PJ.block_normal ?_
                          exact PJ.joined () [0, 1, 2] hm ⟨rfl, rfl, rfl, rfl, rfl, rfl, rfl, trivial⟩ ⟨by decide, rfl⟩
                    · rintro _ hm
                      subst hk67
                      refine WJ.quiet ?_
                      refine QJ.step (YldS.yld (y_move rfl)) rfl ?_
                      refine QJ.step (YldS.yld (y_bin rfl rfl rfl)) rfl ?_
                      refine QJ.step (YldS.yld (y_assign rfl)) rfl ?_
                      refine QJ.done ?_
                      exact PJ.round (w64 (k64 + 1)) [0, 1, 2] hm ⟨rfl, rfl, rfl, rfl, rfl, rfl, rfl, trivial⟩ ⟨by decide, rfl⟩
                  · replace hm := ifF hm hb65
                    refine WJ.exit ?_
                    refine PJ.then_exit (PJ.then_exit (PJ.block_exit ?_))
                    exact PJ.joined () [0, 1, 2] hm ⟨rfl, rfl, rfl, rfl, rfl, trivial⟩ ⟨by decide, rfl⟩
              · rintro _ hm
                subst hk63
                refine WJ.seq ?_
                refine WJ.reg ?_
                refine SJ.q (YldS.yld (y_move rfl)) rfl ?_
                refine SJ.q (YldS.yld (y_loadBN (k := 0) (off := 0) (us := [str e26.name, str e26.letters, .int .i64 e26.minutes]) rfl Tryd.isAgg42 Tryd.sizeOf42 rfl rfl)) rfl ?_
                obtain ⟨r79, h80, hm⟩ := bindS hm
                refine SJ.call Tryd.call27 rfl (fun w hw => ok_i_AddDrill h80 w _ (hw.row_rd (k := 1) rfl)) rfl ?_
                rintro _ _ ⟨v81, rfl, rfl⟩
                refine SJ.q (YldS.yld (y_move rfl)) rfl ?_
                refine SJ.q (YldS.yld (y_extract rfl rfl)) rfl ?_
                refine SJ.q (YldS.yld (y_extract rfl rfl)) rfl ?_
                refine SJ.q (YldS.yld (y_assign rfl)) rfl ?_
                refine SJ.q (YldS.yld (y_assign rfl)) rfl ?_
                refine SJ.nil ?_
                refine PJ.next ?_
                refine WJ.seq ?_
                refine WJ.reg ?_
                refine SJ.q (YldS.yld (y_move rfl)) rfl ?_
                refine SJ.q (YldS.yld (y_loadBN (k := 1) (off := 0) (us := [str e26.name, str e26.letters, .int .i64 e26.minutes]) rfl Tryd.isAgg42 Tryd.sizeOf42 rfl rfl)) rfl ?_
                obtain ⟨r82, h83, hm⟩ := bindS hm
                refine SJ.call Tryd.call27 rfl (fun w hw => ok_i_AddDrill h83 w _ (hw.row_rd (k := 3) rfl)) rfl ?_
                rintro _ _ ⟨v84, rfl, rfl⟩
                refine SJ.q (YldS.yld (y_move rfl)) rfl ?_
                refine SJ.q (YldS.yld (y_extract rfl rfl)) rfl ?_
                refine SJ.q (YldS.yld (y_extract rfl rfl)) rfl ?_
                refine SJ.q (YldS.yld (y_assign rfl)) rfl ?_
                refine SJ.q (YldS.yld (y_assign rfl)) rfl ?_
                refine SJ.nil ?_
                refine PJ.next ?_
                refine WJ.seq ?_
                refine WJ.seq ?_
                refine WJ.quiet_draw follows (by kernel_rfl) ?_
                refine QJ.step (YldS.yld (y_move rfl)) rfl ?_
                refine QJ.step (YldS.yld (y_bin rfl rfl rfl)) rfl ?_
                refine QJ.step (YldS.yld (y_move rfl)) rfl ?_
                obtain ⟨t85, h86, hm⟩ := bindS hm
                refine QJ.cut 6 [(5, v12), (6, .int .i64 (w64 (1 + r13))), (8, .int .i64 i20), (9, pt g28 0), (17, v81), (20, .int .i64 r82.2), (148, .bool t85)] ?_ ?_
                · rcases Bool.eq_false_or_eq_true (r79.2 != 0) with hb87 | hb87
                  · obtain rfl := orT h86 hb87
                    refine QJ.off rfl rfl (cB hb87) rfl rfl ?_
                    refine QJ.off rfl rfl (cB hb87) rfl rfl ?_
                    refine QJ.off rfl rfl (cB hb87) rfl rfl ?_
                    refine QJ.off rfl rfl (cB hb87) rfl rfl ?_
                    refine QJ.off rfl rfl (cB hb87) rfl rfl ?_
                    refine QJ.step (YldS.yld (y_pick_t (cB hb87) rfl)) rfl ?_
                    exact QJ.cut_end ⟨rfl, rfl, rfl, rfl, rfl, rfl, rfl, trivial⟩
                  · replace h86 := orF h86 hb87
                    refine QJ.on rfl rfl (cB hb87) (YldS.yld (y_move rfl)) rfl ?_
                    refine QJ.on rfl rfl (cB hb87) (YldS.yld (y_lenRow (k := 1) rfl Tryd.runUnderlying38 rfl)) rfl ?_
                    refine QJ.on rfl rfl (cB hb87) (YldS.yld (y_move rfl)) rfl ?_
                    refine QJ.on rfl rfl (cB hb87) (YldS.yld (y_bin rfl rfl rfl)) rfl ?_
                    refine QJ.on rfl rfl (cB hb87) (YldS.yld (y_bin rfl rfl rfl)) rfl ?_
                    refine QJ.step (YldS.yld (y_pick_f (cB hb87) rfl)) rfl ?_
                    obtain rfl := Option.some.inj h86
                    exact QJ.cut_end ⟨rfl, rfl, rfl, rfl, rfl, rfl, rfl, trivial⟩
                refine QJ.step (YldS.yld (y_move rfl)) rfl ?_
                obtain ⟨t88, h89, hm⟩ := bindS hm
                refine QJ.cut 7 [(5, v12), (6, .int .i64 (w64 (1 + r13))), (8, .int .i64 i20), (17, v81), (20, .int .i64 r82.2), (156, .bool t88)] ?_ ?_
                · rcases Bool.eq_false_or_eq_true t85 with hb90 | hb90
                  · obtain rfl := orT h89 hb90
                    refine QJ.off rfl rfl (cB hb90) rfl rfl ?_
                    refine QJ.off rfl rfl (cB hb90) rfl rfl ?_
                    refine QJ.off rfl rfl (cB hb90) rfl rfl ?_
                    refine QJ.off rfl rfl (cB hb90) rfl rfl ?_
                    refine QJ.off rfl rfl (cB hb90) rfl rfl ?_
                    refine QJ.off rfl rfl (cB hb90) rfl rfl ?_
                    refine QJ.step (YldS.yld (y_pick_t (cB hb90) rfl)) rfl ?_
                    exact QJ.cut_end ⟨rfl, rfl, rfl, rfl, rfl, rfl, trivial⟩
                  · replace h89 := orF h89 hb90
                    refine QJ.on rfl rfl (cB hb90) (YldS.yld (y_move rfl)) rfl ?_
                    refine QJ.on rfl rfl (cB hb90) (YldS.yld (y_move rfl)) rfl ?_
                    obtain ⟨e91, h92, h89⟩ := bindS h89
                    refine QJ.on rfl rfl (cB hb90) (YldS.yld (y_ixRow (k := 1) (R := fDrill) rfl Tryd.runUnderlying38 Tryd.sizeOf42 rfl rfl h92)) rfl ?_
                    refine QJ.on rfl rfl (cB hb90) (YldS.yld (y_loadRN (k := 1) (i := (Int.toNat i20)) (off := 0) (us := [str e91.name, str e91.letters, .int .i64 e91.minutes]) rfl Tryd.isAgg42 Tryd.sizeOf42 rfl (idx_get h92) rfl)) rfl ?_
                    refine QJ.on rfl rfl (cB hb90) (YldS.yld (y_loadBN (k := 2) (off := 0) (us := [str e26.name, str e26.letters, .int .i64 e26.minutes]) rfl Tryd.isAgg42 Tryd.sizeOf42 rfl rfl)) rfl ?_
                    refine QJ.on rfl rfl (cB hb90) (YldS.yld (y_neT e91 e26 eq42 rfl rfl)) rfl ?_
                    refine QJ.step (YldS.yld (y_pick_f (cB hb90) rfl)) rfl ?_
                    obtain rfl := Option.some.inj h89
                    exact QJ.cut_end ⟨rfl, rfl, rfl, rfl, rfl, rfl, trivial⟩
                refine QJ.step (YldS.yld (y_move rfl)) rfl ?_
                obtain ⟨t93, h94, hm⟩ := bindS hm
                refine QJ.cut 3 [(5, v12), (6, .int .i64 (w64 (1 + r13))), (8, .int .i64 i20), (17, v81), (160, .bool t93)] ?_ ?_
                · rcases Bool.eq_false_or_eq_true t88 with hb95 | hb95
                  · obtain rfl := orT h94 hb95
                    refine QJ.off rfl rfl (cB hb95) rfl rfl ?_
                    refine QJ.off rfl rfl (cB hb95) rfl rfl ?_
                    refine QJ.step (YldS.yld (y_pick_t (cB hb95) rfl)) rfl ?_
                    exact QJ.cut_end ⟨rfl, rfl, rfl, rfl, rfl, trivial⟩
                  · replace h94 := orF h94 hb95
                    refine QJ.on rfl rfl (cB hb95) (YldS.yld (y_move rfl)) rfl ?_
                    refine QJ.on rfl rfl (cB hb95) (YldS.yld (y_bin rfl rfl rfl)) rfl ?_
                    refine QJ.step (YldS.yld (y_pick_f (cB hb95) rfl)) rfl ?_
                    obtain rfl := Option.some.inj h94
                    exact QJ.cut_end ⟨rfl, rfl, rfl, rfl, rfl, trivial⟩
                refine QJ.done ?_
                refine PJ.next ?_
                refine WJ.cond (t := t93) rfl (fun hb96 => ?_) (fun hb96 => ?_)
                · replace hm := ifT hm hb96
                  refine WJ.seq ?_
                  refine WJ.quiet ?_
                  refine QJ.step (YldS.yld (y_assign rfl)) rfl ?_
                  refine QJ.done ?_
                  refine PJ.next ?_
                  refine WJ.ret ?_
                  refine PJ.then_ret (PJ.block_ret (PJ.then_ret (PJ.then_ret (PJ.block_ret (PJ.then_ret ?_)))))
                  obtain rfl := Option.some.inj hm
                  refine PJ.sel (L' := []) [] ⟨List.nodup_nil, rfl⟩ ?_
                  exact PJ.retn (vs := [.bool false]) Tryd.results4 ⟨rfl, trivial⟩ ⟨rfl, rfl⟩
                · replace hm := ifF hm hb96
                  refine WJ.skip ?_
                  refine PJ.next ?_
                  refine WJ.quiet ?_
                  refine QJ.step (YldS.yld (y_move rfl)) rfl ?_
                  refine QJ.step (YldS.yld (y_assign rfl)) rfl ?_
                  refine QJ.done ?_
                  refine PJ.block_normal ?_
                  exact PJ.joined (r79.1, v81) [1, 4] hm ⟨rfl, rfl, rfl, rfl, trivial⟩ ⟨by decide, rfl⟩
          · rintro ⟨l22, v23⟩ hm
            subst hk25
            refine WJ.quiet ?_
            refine QJ.step (YldS.yld (y_move rfl)) rfl ?_
            refine QJ.step (YldS.yld (y_bin rfl rfl rfl)) rfl ?_
            refine QJ.step (YldS.yld (y_assign rfl)) rfl ?_
            refine QJ.done ?_
            exact PJ.round (l22, v23, w64 (i20 + 1)) [0, 1] hm ⟨rfl, rfl, rfl, rfl, trivial⟩ ⟨by decide, rfl⟩
        · replace hm := ifF hm hb21
          refine WJ.exit ?_
          refine PJ.then_exit (PJ.then_exit (PJ.block_exit ?_))
          exact PJ.joined () [] hm trivial ⟨List.nodup_nil, rfl⟩
    · rintro _ hm
      subst hk17
      refine WJ.seq ?_
      refine WJ.quiet ?_
      refine QJ.step (YldS.yld (y_assign rfl)) rfl ?_
      refine QJ.done ?_
      refine PJ.next ?_
      refine WJ.ret ?_
      obtain rfl := Option.some.inj hm
      refine PJ.sel (L' := []) [] ⟨List.nodup_nil, rfl⟩ ?_
      exact PJ.retn (vs := [.bool true]) Tryd.results4 ⟨rfl, trivial⟩ ⟨rfl, rfl⟩

end Go.Proofs.YtoojddajhalimaaDoor
