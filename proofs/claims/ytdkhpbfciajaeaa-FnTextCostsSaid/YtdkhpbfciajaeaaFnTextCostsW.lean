/-
  The walks: a call hands back what its plain function computes, where that has a value. No other conditions.
-/
import Derived.Test.YtdkhpbfciajaeaaFnTextCostsM
import Derived.Test.YtdkhpbfciajaeaaChecked
import Derived.Test.YtdkhpbfciajaeaaFnTextCostsS
namespace Go.Proofs.Ytdkhpbfciajaeaa
open Go.RowKit Go.Proofs
set_option linter.unusedVariables false
set_option linter.unusedSimpArgs false

theorem follows : Try.prog.follows .mixedOrders = true := by kernel_rfl

def Place.enc (x : Place) : List Value := [.int .i64 x.finger, .int .i64 x.row, .int .i64 x.effort]
def fPlace : FRp Place := ⟨3, Place.enc, fun _ => rfl, by decide, fun x u hu => by
  simp only [Place.enc, List.mem_cons, List.not_mem_nil, or_false] at hu
  rcases hu with rfl | rfl | rfl <;> rfl⟩

theorem pl127 : PlacesOk Try.prog 127 [(0, 1), (1, 1), (2, 1)] := ⟨_, Try.runUnderlying127, fun w => by simp [Try.sizeOf3, Try.sizeOf22, Try.sizeOf125]⟩
theorem fld127_1 : FieldOk Try.prog 127 1 1 3 0 := ⟨_, _, Try.runUnderlying127, rfl, rfl, rfl, Try.sizeOf3⟩
theorem fld127_0 : FieldOk Try.prog 127 0 0 22 0 := ⟨_, _, Try.runUnderlying127, rfl, rfl, rfl, Try.sizeOf22⟩
theorem fld127_2 : FieldOk Try.prog 127 2 2 125 0 := ⟨_, _, Try.runUnderlying127, rfl, rfl, rfl, Try.sizeOf125⟩
theorem pl55 : PlacesOk Try.prog 55 [(0, 1), (1, 1), (2, 1)] := ⟨_, Try.runUnderlying55, fun w => by simp [Try.sizeOf2]⟩
theorem fld55_1 : FieldOk Try.prog 55 1 1 2 0 := ⟨_, _, Try.runUnderlying55, rfl, rfl, rfl, Try.sizeOf2⟩
theorem fld55_2 : FieldOk Try.prog 55 2 2 2 0 := ⟨_, _, Try.runUnderlying55, rfl, rfl, rfl, Try.sizeOf2⟩
set_option maxRecDepth 100000 in
theorem el55 : ElemOk Try.prog 55 3 (fPlace.enc (Place.mk 0 0 0)) := ⟨_, _, Try.type55, rfl, rfl, rfl, by decide⟩
set_option maxRecDepth 100000 in
theorem el5 : ElemOk Try.prog 5 1 (fByte.enc 0) := ⟨_, _, Try.type5, rfl, rfl, rfl, by decide⟩
theorem fld55_0 : FieldOk Try.prog 55 0 0 2 0 := ⟨_, _, Try.runUnderlying55, rfl, rfl, rfl, Try.sizeOf2⟩
set_option maxRecDepth 100000 in
theorem zv113 : ∀ w, (zeroValue 113).run Try.prog w = .ok (.agg (List.toArray (encs fBool (List.replicate 256 false)))) w := fun w => by
  rw [Try.zeroValue113]
  refine congrArg (fun z => Result.ok (Value.agg z) w) ?_
  kernel_rfl
set_option maxRecDepth 100000 in
theorem el2 : ElemOk Try.prog 2 1 (fI64.enc 0) := ⟨_, _, Try.type2, rfl, rfl, rfl, by decide⟩
set_option maxRecDepth 100000 in
open Go.RowKit Go.Lib Go.Sort Go.Proofs in
theorem sortC50_27 : SortC Try.prog 50 27 := by
  refine ⟨fun p n c lf la lb w hn => ?_, fun α _ enc lt g lb blk off c d w h1 heg h2 h12 hless hH hblk => ?_⟩
  · have h := fun f hf => Any.sort_Slice_tiny Try.laysGg6 27 2 _ _ Try.type27 rfl (by kernel_rfl) Try.type2 6 (fun _ => by kernel_rfl) p n c hn f hf lf la lb w
    match n, hn with
    | 0, _ => exact h 96 (by kernel_rfl)
    | 1, _ => exact h 97 (by kernel_rfl)
  · have hk : ∀ ie : TypeInfo, ie.hasPointers = false → ie.bytes = 8 → Lib.swapperK d.size ie 6 = 5 := fun ie a b => by
      have c1 : (d.size == 0) = false := by rw [beq_eq_false_iff_ne]; omega
      have c2 : (d.size == 1) = false := by rw [beq_eq_false_iff_ne]; omega
      simp [Lib.swapperK, a, b, c1, c2]
    exact Any.sort_Slice_small Try.laysGg6 27 2 _ _ Try.type27 rfl (by kernel_rfl) Try.type2 6 (fun _ => by kernel_rfl) rfl Try.isAgg2 enc h1 lt g lb heg blk off c d h2 h12 100 (by rw [hk _ rfl rfl]; kernel_rfl) true
      (fun args W => run_callFunc_extern Try.func100 (by kernel_rfl) (by kernel_rfl) (by kernel_rfl) (e := Extern.ReflectliteSwapper.swap true) (by kernel_rfl) args W) w hless hH hblk


set_option maxRecDepth 100000 in
set_option maxHeartbeats 1000000 in
theorem ok_w_a2Long {code1 : List UInt8} {more4 : List UInt8} {r : Bool} (hm : w_a2Long code1 more4 = some r) (w : World) (v2 : Value) (hr3 : RdS w (cx w).Fz v2 fByte.rp code1) (v5 : Value) (hr6 : RdS w (cx w).Fz v5 fByte.rp more4) :
    Calls Try.prog 7 #[v2, v5] w (Ret (cx w) (.bool r)) := by
  unfold w_a2Long at hm
  refine Calls.enter [v2, v5] Try.func7 rfl Try.ntmps7 rfl ?_
  refine WJ.seq ?_
  refine WJ.quiet ?_
  refine QJ.step (YldS.yld (y_assign rfl)) rfl ?_
  refine QJ.done ?_
  refine PJ.next ?_
  refine WJ.seq ?_
  refine WJ.quiet ?_
  refine QJ.step (YldS.yld (y_move rfl)) rfl ?_
  refine QJ.step (YldS.yld (y_lenS Try.runUnderlying22 hr3 rfl)) rfl ?_
  refine QJ.step (YldS.yld (y_bin rfl rfl rfl)) rfl ?_
  refine QJ.step (YldS.yld (y_move rfl)) rfl ?_
  obtain ⟨t7, h8, hm⟩ := bindS hm
  refine QJ.cut 4 [(12, .bool t7)] ?_ ?_
  · rcases Bool.eq_false_or_eq_true (decide ((List.length code1 : Int) > 3000)) with hb9 | hb9
    · obtain rfl := orT h8 hb9
      refine QJ.off rfl rfl (cB hb9) rfl rfl ?_
      refine QJ.off rfl rfl (cB hb9) rfl rfl ?_
      refine QJ.off rfl rfl (cB hb9) rfl rfl ?_
      refine QJ.step (YldS.yld (y_pick_t (cB hb9) rfl)) rfl ?_
      exact QJ.cut_end ⟨rfl, trivial⟩
    · replace h8 := orF h8 hb9
      refine QJ.on rfl rfl (cB hb9) (YldS.yld (y_move rfl)) rfl ?_
      refine QJ.on rfl rfl (cB hb9) (YldS.yld (y_lenS Try.runUnderlying22 hr6 rfl)) rfl ?_
      refine QJ.on rfl rfl (cB hb9) (YldS.yld (y_bin rfl rfl rfl)) rfl ?_
      refine QJ.step (YldS.yld (y_pick_f (cB hb9) rfl)) rfl ?_
      obtain rfl := Option.some.inj h8
      exact QJ.cut_end ⟨rfl, trivial⟩
  refine QJ.step (YldS.yld (y_assign rfl)) rfl ?_
  refine QJ.done ?_
  refine PJ.next ?_
  refine WJ.ret ?_
  obtain rfl := Option.some.inj hm
  refine PJ.sel (L' := []) [] ⟨List.nodup_nil, rfl⟩ ?_
  exact PJ.retn (vs := [.bool t7]) Try.results7 ⟨rfl, trivial⟩ ⟨rfl, rfl⟩

set_option maxRecDepth 100000 in
set_option maxHeartbeats 1000000 in
theorem ok_s_l00From {code1 : List UInt8} {r : L00Src} (hm : s_l00From code1 = some r) (w : World) (v2 : Value) (hr3 : RdS w (cx w).Fz v2 fByte.rp code1) :
    Calls Try.prog 41 #[v2] w (RetG (cx w) fun u L => ∃ (u1 : Nat), (u = pt u1 0 ∧ L = [box u1 127 [v2, .int .i64 r.at_, .int .u64 r.seed]])) := by
  unfold s_l00From at hm
  refine Calls.enter [v2] Try.func41 rfl Try.ntmps41 rfl ?_
  refine WJ.seq ?_
  refine WJ.quiet ?_
  refine QJ.step (YldS.yld (y_assign rfl)) rfl ?_
  refine QJ.done ?_
  refine PJ.next ?_
  refine WJ.seq ?_
  refine WJ.reg ?_
  refine SJ.q (YldS.yld (y_move rfl)) rfl ?_
  refine SJ.q (YldS.yld (y_build (parts := [(0, .tmp 3)]) (places := [(0, 1), (1, 1), (2, 1)]) (r := [v2, .int .i64 0, .int .u64 0]) pl127 Try.zeroValue127 rfl rfl (show _ = [(0, [v2])] from by simp only [List.map, RdS.cells1 hr3]) rfl)) rfl ?_
  refine SJ.box (cs := [v2, .int .i64 0, .int .u64 0]) rfl rfl rfl fun g4 => ?_
  refine SJ.q (YldS.yld (y_assign rfl)) rfl ?_
  refine SJ.nil ?_
  refine PJ.next ?_
  refine WJ.ret ?_
  obtain rfl := Option.some.inj hm
  refine PJ.sel (L' := [box g4 127 [v2, .int .i64 0, .int .u64 0]]) [0] ⟨by decide, rfl⟩ ?_
  exact PJ.retn (vs := [pt g4 0]) Try.results41 ⟨rfl, trivial⟩ ⟨_, rfl, rfl⟩

set_option maxRecDepth 100000 in
set_option maxHeartbeats 1000000 in
theorem ok_s_l00Src_next {s1 : L00Src} {g2 : Nat} {r : Int × L00Src} (hm : s_l00Src_next s1 = some r) (w : World) (S : Nat → Prop) (v3 : Value) (hr4 : RdS w (Cx.Fz ⟨w, S⟩) v3 fByte.rp s1.code) (hA : (box g2 127 [v3, .int .i64 s1.at_, .int .u64 s1.seed]).holds w S) :
    Calls Try.prog 81 #[pt g2 0] w (RetG ⟨w, S⟩ fun u L => (u = .int .i64 r.1 ∧ L = [box g2 127 [v3, .int .i64 r.2.at_, .int .u64 r.2.seed]])) := by
  unfold s_l00Src_next at hm
  refine Calls.enter1 hA [pt g2 0] Try.func81 rfl Try.ntmps81 rfl ?_
  refine WJ.seq ?_
  refine WJ.quiet ?_
  refine QJ.step (YldS.yld (y_assign rfl)) rfl ?_
  refine QJ.done ?_
  refine PJ.next ?_
  refine WJ.seq ?_
  refine WJ.quiet ?_
  refine QJ.step (YldS.yld (y_assign rfl)) rfl ?_
  refine QJ.done ?_
  refine PJ.next ?_
  obtain ⟨kj6, hk7, hm⟩ := withK_open hm
  refine WJ.join (X := Int) (fun (x : Int) => kj6 x = some r) (fun (x : Int) => [(0, pt g2 0), (3, .int .i64 x)]) (fun (x : Int) => [box g2 127 [v3, .int .i64 s1.at_, .int .u64 s1.seed]]) ?_ ?_
  · clear hk7
    refine WJ.seq ?_
    refine WJ.quiet_draw follows (by kernel_rfl) ?_
    refine QJ.step (YldS.yld (y_move rfl)) rfl ?_
    refine QJ.step (YldS.yld (y_nil rfl)) rfl ?_
    refine QJ.step (YldS.yld (y_fldB (o := 0) fld127_1 rfl)) rfl ?_
    refine QJ.step (YldS.yld (y_loadB (k := 0) (off := 1) (v := .int .i64 s1.at_) rfl Try.isAgg3 rfl rfl)) rfl ?_
    refine QJ.step (YldS.yld (y_move rfl)) rfl ?_
    refine QJ.step (YldS.yld (y_nil rfl)) rfl ?_
    refine QJ.step (YldS.yld (y_fldB (o := 0) fld127_0 rfl)) rfl ?_
    refine QJ.step (YldS.yld (y_loadB (k := 0) (off := 0) (v := v3) rfl Try.isAgg22 rfl rfl)) rfl ?_
    refine QJ.step (YldS.yld (y_lenS Try.runUnderlying22 hr4 rfl)) rfl ?_
    refine QJ.step (YldS.yld (y_bin rfl rfl rfl)) rfl ?_
    refine QJ.done ?_
    refine PJ.next ?_
    refine WJ.cond (t := decide (s1.at_ < (List.length s1.code : Int))) rfl (fun hb8 => ?_) (fun hb8 => ?_)
    · replace hm := ifT hm hb8
      refine WJ.quiet_draw follows (by kernel_rfl) ?_
      refine QJ.step (YldS.yld (y_move rfl)) rfl ?_
      refine QJ.step (YldS.yld (y_nil rfl)) rfl ?_
      refine QJ.step (YldS.yld (y_fldB (o := 0) fld127_0 rfl)) rfl ?_
      refine QJ.step (YldS.yld (y_loadB (k := 0) (off := 0) (v := v3) rfl Try.isAgg22 rfl rfl)) rfl ?_
      refine QJ.step (YldS.yld (y_move rfl)) rfl ?_
      refine QJ.step (YldS.yld (y_nil rfl)) rfl ?_
      refine QJ.step (YldS.yld (y_fldB (o := 0) fld127_1 rfl)) rfl ?_
      refine QJ.step (YldS.yld (y_loadB (k := 0) (off := 1) (v := .int .i64 s1.at_) rfl Try.isAgg3 rfl rfl)) rfl ?_
      obtain ⟨e9, h10, hm⟩ := bindS hm
      obtain ⟨ad11, _, rfl, ha12, hy13⟩ := hr4.elem h10
      refine QJ.step (YldS.yld (hy13 Try.runUnderlying22 Try.sizeOf5 rfl rfl)) rfl ?_
      refine QJ.step (YldS.yld (y_load1 (v := .int .u8 (UInt8.toNat e9 : Int)) Try.isAgg5 ha12 St.frozenC rfl)) rfl ?_
      refine QJ.step (YldS.yld (y_conv8 Try.runUnderlying5 Try.runUnderlying3 rfl)) rfl ?_
      refine QJ.step (YldS.yld (y_assign rfl)) rfl ?_
      refine QJ.done ?_
      exact PJ.joined (UInt8.toNat e9 : Int) [0] hm ⟨rfl, rfl, trivial⟩ ⟨by decide, rfl⟩
    · replace hm := ifF hm hb8
      refine WJ.skip ?_
      exact PJ.joined 0 [0] hm ⟨rfl, rfl, trivial⟩ ⟨by decide, rfl⟩
  · rintro b5 hm
    subst hk7
    refine WJ.seq ?_
    refine WJ.reg ?_
    refine SJ.q (YldS.yld (y_move rfl)) rfl ?_
    refine SJ.q (YldS.yld (y_nil rfl)) rfl ?_
    refine SJ.q (YldS.yld (y_fldB (o := 0) fld127_1 rfl)) rfl ?_
    refine SJ.q (YldS.yld (y_loadB (k := 0) (off := 1) (v := .int .i64 s1.at_) rfl Try.isAgg3 rfl rfl)) rfl ?_
    refine SJ.q (YldS.yld (y_bin rfl rfl rfl)) rfl ?_
    refine SJ.q (YldS.yld (y_nil rfl)) rfl ?_
    refine SJ.q (YldS.yld (y_fldB (o := 0) fld127_1 rfl)) rfl ?_
    refine SJ.storeL (k := 0) (off := 1) (us := [.int .i64 (w64 (s1.at_ + 1))]) rfl rfl rfl rfl Try.sizeOf3 rfl rfl ?_
    refine SJ.nil ?_
    refine PJ.next ?_
    refine WJ.seq ?_
    refine WJ.reg ?_
    refine SJ.q (YldS.yld (y_move rfl)) rfl ?_
    refine SJ.q (YldS.yld (y_move rfl)) rfl ?_
    refine SJ.q (YldS.yld (y_nil rfl)) rfl ?_
    refine SJ.q (YldS.yld (y_fldB (o := 0) fld127_2 rfl)) rfl ?_
    refine SJ.q (YldS.yld (y_loadB (k := 0) (off := 2) (v := .int .u64 s1.seed) rfl Try.isAgg125 rfl rfl)) rfl ?_
    refine SJ.q (YldS.yld (y_bin rfl rfl rfl)) rfl ?_
    refine SJ.q (YldS.yld (y_move rfl)) rfl ?_
    refine SJ.q (YldS.yld (y_convI Try.runUnderlying3 Try.runUnderlying125 rfl)) rfl ?_
    refine SJ.q (YldS.yld (y_bin rfl rfl rfl)) rfl ?_
    refine SJ.q (YldS.yld (y_bin rfl rfl rfl)) rfl ?_
    refine SJ.q (YldS.yld (y_nil rfl)) rfl ?_
    refine SJ.q (YldS.yld (y_fldB (o := 0) fld127_2 rfl)) rfl ?_
    refine SJ.storeL (k := 0) (off := 2) (us := [.int .u64 (IntKind.u64.wrap ((IntKind.u64.wrap ((IntKind.u64.wrap (s1.seed * 6364136223846793005)) + (IntKind.u64.wrap b5))) + 1442695040888963407))]) rfl rfl rfl rfl Try.sizeOf125 rfl rfl ?_
    refine SJ.nil ?_
    refine PJ.next ?_
    refine WJ.seq ?_
    refine WJ.seq ?_
    refine WJ.quiet_draw follows (by kernel_rfl) ?_
    refine QJ.step (YldS.yld (y_move rfl)) rfl ?_
    refine QJ.step (YldS.yld (y_nil rfl)) rfl ?_
    refine QJ.step (YldS.yld (y_fldB (o := 0) fld127_1 rfl)) rfl ?_
    refine QJ.step (YldS.yld (y_loadB (k := 0) (off := 1) (v := .int .i64 (w64 (s1.at_ + 1))) rfl Try.isAgg3 rfl rfl)) rfl ?_
    refine QJ.step (YldS.yld (y_move rfl)) rfl ?_
    refine QJ.step (YldS.yld (y_nil rfl)) rfl ?_
    refine QJ.step (YldS.yld (y_fldB (o := 0) fld127_0 rfl)) rfl ?_
    refine QJ.step (YldS.yld (y_loadB (k := 0) (off := 0) (v := v3) rfl Try.isAgg22 rfl rfl)) rfl ?_
    refine QJ.step (YldS.yld (y_lenS Try.runUnderlying22 hr4 rfl)) rfl ?_
    refine QJ.step (YldS.yld (y_bin rfl rfl rfl)) rfl ?_
    refine QJ.done ?_
    refine PJ.next ?_
    refine WJ.cond (t := decide ((w64 (s1.at_ + 1)) ≤ (List.length s1.code : Int))) rfl (fun hb14 => ?_) (fun hb14 => ?_)
    · replace hm := ifT hm hb14
      refine WJ.seq ?_
      refine WJ.quiet ?_
      refine QJ.step (YldS.yld (y_move rfl)) rfl ?_
      refine QJ.step (YldS.yld (y_assign rfl)) rfl ?_
      refine QJ.done ?_
      refine PJ.next ?_
      refine WJ.ret ?_
      refine PJ.then_ret ?_
      obtain rfl := Option.some.inj hm
      refine PJ.sel (L' := [box g2 127 [v3, .int .i64 (w64 (s1.at_ + 1)), .int .u64 (IntKind.u64.wrap ((IntKind.u64.wrap ((IntKind.u64.wrap (s1.seed * 6364136223846793005)) + (IntKind.u64.wrap b5))) + 1442695040888963407))]]) [0] ⟨by decide, rfl⟩ ?_
      exact PJ.retn (vs := [.int .i64 b5]) Try.results81 ⟨rfl, trivial⟩ ⟨rfl, rfl⟩
    · replace hm := ifF hm hb14
      refine WJ.skip ?_
      refine PJ.next ?_
      refine WJ.seq ?_
      refine WJ.quiet ?_
      refine QJ.step (YldS.yld (y_move rfl)) rfl ?_
      refine QJ.step (YldS.yld (y_nil rfl)) rfl ?_
      refine QJ.step (YldS.yld (y_fldB (o := 0) fld127_2 rfl)) rfl ?_
      refine QJ.step (YldS.yld (y_loadB (k := 0) (off := 2) (v := .int .u64 (IntKind.u64.wrap ((IntKind.u64.wrap ((IntKind.u64.wrap (s1.seed * 6364136223846793005)) + (IntKind.u64.wrap b5))) + 1442695040888963407))) rfl Try.isAgg125 rfl rfl)) rfl ?_
      refine QJ.step (YldS.yld (y_shru rfl rfl rfl)) rfl ?_
      refine QJ.step (YldS.yld (y_andu rfl rfl rfl)) rfl ?_
      refine QJ.step (YldS.yld (y_convI Try.runUnderlying125 Try.runUnderlying2 rfl)) rfl ?_
      refine QJ.step (YldS.yld (y_assign rfl)) rfl ?_
      refine QJ.done ?_
      refine PJ.next ?_
      refine WJ.ret ?_
      obtain rfl := Option.some.inj hm
      refine PJ.sel (L' := [box g2 127 [v3, .int .i64 (w64 (s1.at_ + 1)), .int .u64 (IntKind.u64.wrap ((IntKind.u64.wrap ((IntKind.u64.wrap (s1.seed * 6364136223846793005)) + (IntKind.u64.wrap b5))) + 1442695040888963407))]]) [0] ⟨by decide, rfl⟩ ?_
      exact PJ.retn (vs := [.int .i64 (w64 (uand (ushr (IntKind.u64.wrap ((IntKind.u64.wrap ((IntKind.u64.wrap (s1.seed * 6364136223846793005)) + (IntKind.u64.wrap b5))) + 1442695040888963407)) 40) 255))]) Try.results81 ⟨rfl, trivial⟩ ⟨rfl, rfl⟩

set_option maxRecDepth 100000 in
set_option maxHeartbeats 1000000 in
theorem ok_s_l00Src_pick {s1 : L00Src} {n5 : Int} {g2 : Nat} {r : Int × L00Src} (hm : s_l00Src_pick s1 n5 = some r) (w : World) (S : Nat → Prop) (v3 : Value) (hr4 : RdS w (Cx.Fz ⟨w, S⟩) v3 fByte.rp s1.code) (hA : (box g2 127 [v3, .int .i64 s1.at_, .int .u64 s1.seed]).holds w S) :
    Calls Try.prog 42 #[pt g2 0, .int .i64 n5] w (RetG ⟨w, S⟩ fun u L => (u = .int .i64 r.1 ∧ L = [box g2 127 [v3, .int .i64 r.2.at_, .int .u64 r.2.seed]])) := by
  unfold s_l00Src_pick at hm
  refine Calls.enter1 hA [pt g2 0, .int .i64 n5] Try.func42 rfl Try.ntmps42 rfl ?_
  refine WJ.seq ?_
  refine WJ.quiet ?_
  refine QJ.step (YldS.yld (y_assign rfl)) rfl ?_
  refine QJ.done ?_
  refine PJ.next ?_
  refine WJ.seq ?_
  refine WJ.seq ?_
  refine WJ.quiet ?_
  refine QJ.step (YldS.yld (y_move rfl)) rfl ?_
  refine QJ.step (YldS.yld (y_bin rfl rfl rfl)) rfl ?_
  refine QJ.done ?_
  refine PJ.next ?_
  refine WJ.cond (t := decide (n5 ≤ 1)) rfl (fun hb6 => ?_) (fun hb6 => ?_)
  · replace hm := ifT hm hb6
    refine WJ.seq ?_
    refine WJ.quiet ?_
    refine QJ.step (YldS.yld (y_assign rfl)) rfl ?_
    refine QJ.done ?_
    refine PJ.next ?_
    refine WJ.ret ?_
    refine PJ.then_ret ?_
    obtain rfl := Option.some.inj hm
    refine PJ.sel (L' := [box g2 127 [v3, .int .i64 s1.at_, .int .u64 s1.seed]]) [0] ⟨by decide, rfl⟩ ?_
    exact PJ.retn (vs := [.int .i64 0]) Try.results42 ⟨rfl, trivial⟩ ⟨rfl, rfl⟩
  · replace hm := ifF hm hb6
    refine WJ.skip ?_
    refine PJ.next ?_
    refine WJ.seq ?_
    refine WJ.reg ?_
    refine SJ.q (YldS.yld (y_move rfl)) rfl ?_
    obtain ⟨r7, h8, hm⟩ := bindS hm
    refine SJ.call1 (k := 0) rfl Try.call81 rfl (fun w S hw hA hO => ok_s_l00Src_next h8 w S _ (hr4.st1 hw hO) hA) rfl ?_
    rintro _ _ ⟨rfl, rfl⟩
    refine SJ.q (YldS.yld (y_assign rfl)) rfl ?_
    refine SJ.nil ?_
    refine PJ.next ?_
    obtain ⟨kj12, hk13, hm⟩ := withK_open hm
    refine WJ.join (X := Int × Int × Int) (fun (x : Int × Int × Int) => kj12 x.1 x.2.1 x.2.2 = some r) (fun (x : Int × Int × Int) => [(1, .int .i64 n5), (5, .int .i64 x.2.2)]) (fun (x : Int × Int × Int) => [box g2 127 [v3, .int .i64 x.1, .int .u64 x.2.1]]) ?_ ?_
    · clear hk13
      refine WJ.seq ?_
      refine WJ.quiet ?_
      refine QJ.step (YldS.yld (y_move rfl)) rfl ?_
      refine QJ.step (YldS.yld (y_bin rfl rfl rfl)) rfl ?_
      refine QJ.done ?_
      refine PJ.next ?_
      refine WJ.cond (t := decide (n5 > 200)) rfl (fun hb14 => ?_) (fun hb14 => ?_)
      · replace hm := ifT hm hb14
        refine WJ.reg ?_
        refine SJ.q (YldS.yld (y_move rfl)) rfl ?_
        refine SJ.q (YldS.yld (y_bin rfl rfl rfl)) rfl ?_
        refine SJ.q (YldS.yld (y_move rfl)) rfl ?_
        obtain ⟨r15, h16, hm⟩ := bindS hm
        refine SJ.call1 (k := 0) rfl Try.call81 rfl (fun w S hw hA hO => ok_s_l00Src_next h16 w S _ (hr4.st1 hw hO) hA) rfl ?_
        rintro _ _ ⟨rfl, rfl⟩
        refine SJ.q (YldS.yld (y_bin rfl rfl rfl)) rfl ?_
        refine SJ.q (YldS.yld (y_assign rfl)) rfl ?_
        refine SJ.nil ?_
        exact PJ.joined (r15.2.at_, r15.2.seed, w64 ((w64 (r7.1 * 256)) + r15.1)) [0] hm ⟨rfl, rfl, trivial⟩ ⟨by decide, rfl⟩
      · replace hm := ifF hm hb14
        refine WJ.skip ?_
        exact PJ.joined (r7.2.at_, r7.2.seed, r7.1) [0] hm ⟨rfl, rfl, trivial⟩ ⟨by decide, rfl⟩
    · rintro ⟨x9, x10, x11⟩ hm
      subst hk13
      refine WJ.seq ?_
      refine WJ.quiet ?_
      refine QJ.step (YldS.yld (y_move rfl)) rfl ?_
      refine QJ.step (YldS.yld (y_move rfl)) rfl ?_
      obtain ⟨q17, h18, hm⟩ := bindS hm
      refine QJ.step (YldS.yld (y_rem' h18 rfl rfl)) rfl ?_
      refine QJ.step (YldS.yld (y_assign rfl)) rfl ?_
      refine QJ.done ?_
      refine PJ.next ?_
      refine WJ.ret ?_
      obtain rfl := Option.some.inj hm
      refine PJ.sel (L' := [box g2 127 [v3, .int .i64 x9, .int .u64 x10]]) [0] ⟨by decide, rfl⟩ ?_
      exact PJ.retn (vs := [.int .i64 q17]) Try.results42 ⟨rfl, trivial⟩ ⟨rfl, rfl⟩

set_option maxRecDepth 100000 in
set_option maxHeartbeats 1000000 in
theorem ok_s_l07Draw {N : Nat} {s1 : L00Src} {g2 : Nat} {r : (List Place) × L00Src} (hm : s_l07Draw N s1 = some r) (w : World) (S : Nat → Prop) (v3 : Value) (hr4 : RdS w (Cx.Fz ⟨w, S⟩) v3 fByte.rp s1.code) (hA : (box g2 127 [v3, .int .i64 s1.at_, .int .u64 s1.seed]).holds w S) :
    Calls Try.prog 56 #[pt g2 0] w (RetG ⟨w, S⟩ fun u L => ∃ (u1 : Value), (u = u1 ∧ L = [box g2 127 [v3, .int .i64 r.2.at_, .int .u64 r.2.seed], row u1 55 fPlace r.1])) := by
  unfold s_l07Draw at hm
  refine Calls.enter1 hA [pt g2 0] Try.func56 rfl Try.ntmps56 rfl ?_
  refine WJ.seq ?_
  refine WJ.quiet ?_
  refine QJ.step (YldS.yld (y_assign rfl)) rfl ?_
  refine QJ.done ?_
  refine PJ.next ?_
  refine WJ.seq ?_
  refine WJ.reg ?_
  refine SJ.buildSlice (R := fPlace) (os := []) [] Try.runUnderlying42 Try.sizeOf55 Try.zeroValue55 rfl rfl rfl rfl rfl rfl fun v5 => ?_
  refine SJ.q (YldS.yld (y_assign rfl)) rfl ?_
  refine SJ.nil ?_
  refine PJ.next ?_
  obtain ⟨kj10, hk11, hm⟩ := withK_open hm
  refine WJ.join (X := Int × Int × (List Place) × Value) (fun (x : Int × Int × (List Place) × Value) => kj10 x.1 x.2.1 x.2.2.1 = some r) (fun (x : Int × Int × (List Place) × Value) => [(3, x.2.2.2)]) (fun (x : Int × Int × (List Place) × Value) => [box g2 127 [v3, .int .i64 x.1, .int .u64 x.2.1], row x.2.2.2 55 fPlace x.2.2.1]) ?_ ?_
  · clear hk11
    refine WJ.seq ?_
    refine WJ.reg ?_
    refine SJ.q (YldS.yld (y_move rfl)) rfl ?_
    obtain ⟨r12, h13, hm⟩ := bindS hm
    refine SJ.call1 (k := 1) rfl Try.call42 rfl (fun w S hw hA hO => ok_s_l00Src_pick h13 w S _ (hr4.st1 hw hO) hA) rfl ?_
    rintro _ _ ⟨rfl, rfl⟩
    refine SJ.q (YldS.yld (y_bin rfl rfl rfl)) rfl ?_
    refine SJ.q (YldS.yld (y_assign rfl)) rfl ?_
    refine SJ.nil ?_
    refine PJ.next ?_
    refine WJ.block ?_
    refine WJ.sel (L' := (fun (x : Int × Int × (List Place) × Value × Int) => [box g2 127 [v3, .int .i64 x.1, .int .u64 x.2.1], row x.2.2.2.1 55 fPlace x.2.2.1]) (r12.2.at_, r12.2.seed, [], v5, w64 (1 + r12.1))) [0, 1] ⟨by decide, rfl⟩ ?_
    refine WJ.sub (m' := (fun (x : Int × Int × (List Place) × Value × Int) => [(0, pt g2 0), (3, x.2.2.2.1), (4, .int .i64 x.2.2.2.2)]) (r12.2.at_, r12.2.seed, [], v5, w64 (1 + r12.1))) ⟨rfl, rfl, rfl, trivial⟩ ?_
    refine WJ.loop (X := Int × Int × (List Place) × Value × Int) (fun N (x : Int × Int × (List Place) × Value × Int) => s_l07Draw_l1 kj10 s1 N x.1 x.2.1 x.2.2.1 x.2.2.2.2 = some r) (fun (x : Int × Int × (List Place) × Value × Int) => [(0, pt g2 0), (3, x.2.2.2.1), (4, .int .i64 x.2.2.2.2)]) (fun (x : Int × Int × (List Place) × Value × Int) => [box g2 127 [v3, .int .i64 x.1, .int .u64 x.2.1], row x.2.2.2.1 55 fPlace x.2.2.1]) ?_ N (r12.2.at_, r12.2.seed, [], v5, w64 (1 + r12.1)) hm
    · rintro N ⟨x14, x15, l16, v17, k18⟩ hI
      have hm := hI; clear hI
      cases N with
      | zero => cases hm
      | succ N =>
      unfold s_l07Draw_l1 at hm
      refine WJ.seq ?_
      refine WJ.seq ?_
      refine WJ.quiet ?_
      refine QJ.step (YldS.yld (y_move rfl)) rfl ?_
      refine QJ.step (YldS.yld (y_bin rfl rfl rfl)) rfl ?_
      refine QJ.done ?_
      refine PJ.next ?_
      refine WJ.cond (t := decide (k18 > 0)) rfl (fun hb19 => ?_) (fun hb19 => ?_)
      · replace hm := ifT hm hb19
        refine WJ.skip ?_
        refine PJ.next ?_
        refine WJ.seq ?_
        refine WJ.block ?_
        refine WJ.seq ?_
        refine WJ.reg ?_
        refine SJ.q (YldS.yld (y_move rfl)) rfl ?_
        obtain ⟨r20, h21, hm⟩ := bindS hm
        refine SJ.call1 (k := 0) rfl Try.call42 rfl (fun w S hw hA hO => ok_s_l00Src_pick h21 w S _ (hr4.st1 hw hO) hA) rfl ?_
        rintro _ _ ⟨rfl, rfl⟩
        refine SJ.q (YldS.yld (y_build (parts := [(0, .tmp 15)]) (places := [(0, 1), (1, 1), (2, 1)]) (r := [.int .i64 ((Place.mk r20.1 0 0).finger), .int .i64 ((Place.mk r20.1 0 0).row), .int .i64 ((Place.mk r20.1 0 0).effort)]) pl55 Try.zeroValue55 rfl rfl rfl rfl)) rfl ?_
        refine SJ.alloc (cs := [.int .i64 0, .int .i64 0, .int .i64 0]) Try.zeroValue55 rfl rfl fun g22 => ?_
        refine SJ.storeL (k := 0) (off := 0) (us := [.int .i64 ((Place.mk r20.1 0 0).finger), .int .i64 ((Place.mk r20.1 0 0).row), .int .i64 ((Place.mk r20.1 0 0).effort)]) rfl rfl rfl rfl Try.sizeOf55 rfl rfl ?_
        refine SJ.nil ?_
        refine PJ.next ?_
        refine WJ.seq ?_
        refine WJ.reg ?_
        refine SJ.q (YldS.yld (y_move rfl)) rfl ?_
        obtain ⟨r23, h24, hm⟩ := bindS hm
        refine SJ.call1 (k := 1) rfl Try.call42 rfl (fun w S hw hA hO => ok_s_l00Src_pick h24 w S _ (hr4.st1 hw hO) hA) rfl ?_
        rintro _ _ ⟨rfl, rfl⟩
        refine SJ.q (YldS.yld (y_fldB (o := 0) fld55_1 rfl)) rfl ?_
        refine SJ.storeL (k := 1) (off := 1) (us := [.int .i64 r23.1]) rfl rfl rfl rfl Try.sizeOf2 rfl rfl ?_
        refine SJ.nil ?_
        refine PJ.next ?_
        refine WJ.seq ?_
        refine WJ.reg ?_
        refine SJ.q (YldS.yld (y_move rfl)) rfl ?_
        obtain ⟨r25, h26, hm⟩ := bindS hm
        refine SJ.call1 (k := 0) rfl Try.call42 rfl (fun w S hw hA hO => ok_s_l00Src_pick h26 w S _ (hr4.st1 hw hO) hA) rfl ?_
        rintro _ _ ⟨rfl, rfl⟩
        refine SJ.q (YldS.yld (y_bin rfl rfl rfl)) rfl ?_
        refine SJ.q (YldS.yld (y_fldB (o := 0) fld55_2 rfl)) rfl ?_
        refine SJ.storeL (k := 1) (off := 2) (us := [.int .i64 (w64 (1 + r25.1))]) rfl rfl rfl rfl Try.sizeOf2 rfl rfl ?_
        refine SJ.nil ?_
        refine PJ.next ?_
        refine WJ.reg ?_
        refine SJ.q (YldS.yld (y_move rfl)) rfl ?_
        refine SJ.q (YldS.yld (y_loadBN (k := 1) (off := 0) (us := [.int .i64 ((Place.mk r20.1 0 0).finger), .int .i64 r23.1, .int .i64 (w64 (1 + r25.1))]) rfl Try.isAgg55 Try.sizeOf55 rfl rfl)) rfl ?_
        refine SJ.buildSlice (R := fPlace) (os := [.tmp 25]) [(Place.mk ((Place.mk r20.1 0 0).finger) r23.1 (w64 (1 + r25.1)))] Try.runUnderlying42 Try.sizeOf55 Try.zeroValue55 rfl rfl rfl rfl rfl rfl fun v27 => ?_
        obtain ⟨l28, h29, hm⟩ := bindS hm
        refine SJ.append (k := 3) (R := fPlace) h29 rfl Try.underlying42 el55 rfl rfl rfl (fun w hw => (hw.row_rd (k := 0) rfl)) rfl fun v30 => ?_
        refine SJ.q (YldS.yld (y_assign rfl)) rfl ?_
        refine SJ.nil ?_
        refine PJ.block_normal (PJ.next ?_)
        refine WJ.quiet ?_
        refine QJ.step (YldS.yld (y_move rfl)) rfl ?_
        refine QJ.step (YldS.yld (y_bin rfl rfl rfl)) rfl ?_
        refine QJ.step (YldS.yld (y_assign rfl)) rfl ?_
        refine QJ.done ?_
        exact PJ.round (r25.2.at_, r25.2.seed, l28, v30, w64 (k18 - 1)) [1, 3] hm ⟨rfl, rfl, rfl, trivial⟩ ⟨by decide, rfl⟩
      · replace hm := ifF hm hb19
        refine WJ.exit ?_
        refine PJ.then_exit (PJ.then_exit (PJ.block_exit ?_))
        exact PJ.joined (x14, x15, l16, v17) [0, 1] hm ⟨rfl, trivial⟩ ⟨by decide, rfl⟩
  · rintro ⟨x6, x7, l8, v9⟩ hm
    subst hk11
    refine WJ.seq ?_
    refine WJ.quiet ?_
    refine QJ.step (YldS.yld (y_move rfl)) rfl ?_
    refine QJ.step (YldS.yld (y_assign rfl)) rfl ?_
    refine QJ.done ?_
    refine PJ.next ?_
    refine WJ.ret ?_
    obtain rfl := Option.some.inj hm
    refine PJ.sel (L' := [box g2 127 [v3, .int .i64 x6, .int .u64 x7], row v9 55 fPlace l8]) [0, 1] ⟨by decide, rfl⟩ ?_
    exact PJ.retn (vs := [v9]) Try.results56 ⟨rfl, trivial⟩ ⟨_, rfl, rfl⟩

set_option maxRecDepth 100000 in
set_option maxHeartbeats 1000000 in
theorem ok_s_A2Board {N : Nat} {code1 : List UInt8} {r : (List Place)} (hm : s_A2Board N code1 = some r) (w : World) (v2 : Value) (hr3 : RdS w (cx w).Fz v2 fByte.rp code1) :
    Calls Try.prog 18 #[v2] w (RetG (cx w) fun u L => ∃ (u1 : Value), (u = u1 ∧ L = [row u1 55 fPlace r])) := by
  unfold s_A2Board at hm
  refine Calls.enter [v2] Try.func18 rfl Try.ntmps18 rfl ?_
  refine WJ.seq ?_
  refine WJ.quiet ?_
  refine QJ.step (YldS.yld (y_assign rfl)) rfl ?_
  refine QJ.done ?_
  refine PJ.next ?_
  refine WJ.seq ?_
  refine WJ.reg ?_
  refine SJ.q (YldS.yld (y_move rfl)) rfl ?_
  obtain ⟨r4, h5, hm⟩ := bindS hm
  refine SJ.call Try.call41 rfl (fun w hw => ok_s_l00From h5 w _ (hr3.st hw)) rfl ?_
  rintro _ _ ⟨g6, rfl, rfl⟩
  obtain ⟨r7, h8, hm⟩ := bindS hm
  refine SJ.call1 (k := 0) rfl Try.call56 rfl (fun w S hw hA hO => ok_s_l07Draw h8 w S _ (hr3.st1 hw hO) hA) rfl ?_
  rintro v9 _ ⟨_, rfl, rfl⟩
  refine SJ.q (YldS.yld (y_assign rfl)) rfl ?_
  refine SJ.nil ?_
  refine PJ.next ?_
  refine WJ.ret ?_
  obtain rfl := Option.some.inj hm
  refine PJ.sel (L' := [row v9 55 fPlace r7.1]) [1] ⟨by decide, rfl⟩ ?_
  exact PJ.retn (vs := [v9]) Try.results18 ⟨rfl, trivial⟩ ⟨_, rfl, rfl⟩

set_option maxRecDepth 100000 in
set_option maxHeartbeats 1000000 in
theorem ok_s_l00Src_text {s1 : L00Src} {list5 : List Str} {g2 : Nat} {r : Str × L00Src} (hm : s_l00Src_text s1 list5 = some r) (w : World) (S : Nat → Prop) (v3 : Value) (hr4 : RdS w (Cx.Fz ⟨w, S⟩) v3 fByte.rp s1.code) (v6 : Value) (hr7 : RdS w (Cx.Fz ⟨w, S⟩) v6 fStr.rp list5) (hA : (box g2 127 [v3, .int .i64 s1.at_, .int .u64 s1.seed]).holds w S) :
    Calls Try.prog 67 #[pt g2 0, v6] w (RetG ⟨w, S⟩ fun u L => (u = str r.1 ∧ L = [box g2 127 [v3, .int .i64 r.2.at_, .int .u64 r.2.seed]])) := by
  unfold s_l00Src_text at hm
  refine Calls.enter1 hA [pt g2 0, v6] Try.func67 rfl Try.ntmps67 rfl ?_
  refine WJ.seq ?_
  refine WJ.quiet ?_
  refine QJ.step (YldS.yld (y_assign rfl)) rfl ?_
  refine QJ.done ?_
  refine PJ.next ?_
  refine WJ.seq ?_
  refine WJ.reg ?_
  refine SJ.q (YldS.yld (y_move rfl)) rfl ?_
  refine SJ.q (YldS.yld (y_move rfl)) rfl ?_
  refine SJ.q (YldS.yld (y_move rfl)) rfl ?_
  refine SJ.q (YldS.yld (y_lenS Try.runUnderlying69 hr7 rfl)) rfl ?_
  obtain ⟨r8, h9, hm⟩ := bindS hm
  refine SJ.call1 (k := 0) rfl Try.call42 rfl (fun w S hw hA hO => ok_s_l00Src_pick h9 w S _ (hr4.st1 hw hO) hA) rfl ?_
  rintro _ _ ⟨rfl, rfl⟩
  obtain ⟨e10, h11, hm⟩ := bindS hm
  obtain ⟨ad12, _, rfl, ha13, hy14⟩ := hr7.elem h11
  refine SJ.q (YldS.yld (hy14 Try.runUnderlying69 Try.sizeOf9 rfl rfl)) rfl ?_
  refine SJ.q (YldS.yld (y_load1 (v := str e10) Try.isAgg9 ha13 St.frozenC rfl)) rfl ?_
  refine SJ.q (YldS.yld (y_assign rfl)) rfl ?_
  refine SJ.nil ?_
  refine PJ.next ?_
  refine WJ.ret ?_
  obtain rfl := Option.some.inj hm
  refine PJ.sel (L' := [box g2 127 [v3, .int .i64 r8.2.at_, .int .u64 r8.2.seed]]) [0] ⟨by decide, rfl⟩ ?_
  exact PJ.retn (vs := [str e10]) Try.results67 ⟨rfl, trivial⟩ ⟨rfl, rfl⟩

set_option maxRecDepth 100000 in
set_option maxHeartbeats 1000000 in
theorem ok_s_l00Min {a1 : Int} {b2 : Int} {r : Int} (hm : s_l00Min a1 b2 = some r) (w : World)  :
    Calls Try.prog 92 #[.int .i64 a1, .int .i64 b2] w (Ret (cx w) (.int .i64 r)) := by
  unfold s_l00Min at hm
  refine Calls.enter [.int .i64 a1, .int .i64 b2] Try.func92 rfl Try.ntmps92 rfl ?_
  refine WJ.seq ?_
  refine WJ.quiet ?_
  refine QJ.step (YldS.yld (y_assign rfl)) rfl ?_
  refine QJ.done ?_
  refine PJ.next ?_
  refine WJ.seq ?_
  refine WJ.seq ?_
  refine WJ.quiet ?_
  refine QJ.step (YldS.yld (y_move rfl)) rfl ?_
  refine QJ.step (YldS.yld (y_move rfl)) rfl ?_
  refine QJ.step (YldS.yld (y_bin rfl rfl rfl)) rfl ?_
  refine QJ.done ?_
  refine PJ.next ?_
  refine WJ.cond (t := decide (a1 < b2)) rfl (fun hb3 => ?_) (fun hb3 => ?_)
  · replace hm := ifT hm hb3
    refine WJ.seq ?_
    refine WJ.quiet ?_
    refine QJ.step (YldS.yld (y_move rfl)) rfl ?_
    refine QJ.step (YldS.yld (y_assign rfl)) rfl ?_
    refine QJ.done ?_
    refine PJ.next ?_
    refine WJ.ret ?_
    refine PJ.then_ret ?_
    obtain rfl := Option.some.inj hm
    refine PJ.sel (L' := []) [] ⟨List.nodup_nil, rfl⟩ ?_
    exact PJ.retn (vs := [.int .i64 a1]) Try.results92 ⟨rfl, trivial⟩ ⟨rfl, rfl⟩
  · replace hm := ifF hm hb3
    refine WJ.skip ?_
    refine PJ.next ?_
    refine WJ.seq ?_
    refine WJ.quiet ?_
    refine QJ.step (YldS.yld (y_move rfl)) rfl ?_
    refine QJ.step (YldS.yld (y_assign rfl)) rfl ?_
    refine QJ.done ?_
    refine PJ.next ?_
    refine WJ.ret ?_
    obtain rfl := Option.some.inj hm
    refine PJ.sel (L' := []) [] ⟨List.nodup_nil, rfl⟩ ?_
    exact PJ.retn (vs := [.int .i64 b2]) Try.results92 ⟨rfl, trivial⟩ ⟨rfl, rfl⟩

set_option maxRecDepth 100000 in
set_option maxHeartbeats 1000000 in
theorem ok_s_l07Letters {N : Nat} {s1 : L00Src} {n5 : Int} {g2 : Nat} {r : Str × Str × L00Src} (hm : s_l07Letters N s1 n5 = some r) (w : World) (S : Nat → Prop) (v3 : Value) (hr4 : RdS w (Cx.Fz ⟨w, S⟩) v3 fByte.rp s1.code) (hA : (box g2 127 [v3, .int .i64 s1.at_, .int .u64 s1.seed]).holds w S) :
    Calls Try.prog 57 #[pt g2 0, .int .i64 n5] w (RetG ⟨w, S⟩ fun u L => (u = tup [str r.1, str r.2.1] ∧ L = [box g2 127 [v3, .int .i64 r.2.2.at_, .int .u64 r.2.2.seed]])) := by
  unfold s_l07Letters at hm
  refine Calls.enter1 hA [pt g2 0, .int .i64 n5] Try.func57 rfl Try.ntmps57 rfl ?_
  refine WJ.seq ?_
  refine WJ.quiet ?_
  refine QJ.step (YldS.yld (y_assign rfl)) rfl ?_
  refine QJ.step (YldS.yld (y_assign rfl)) rfl ?_
  refine QJ.done ?_
  refine PJ.next ?_
  refine WJ.seq ?_
  refine WJ.reg ?_
  refine SJ.q (YldS.yld (y_move rfl)) rfl ?_
  refine SJ.buildSlice (R := fStr) (os := [.const (str [97, 98, 99, 100, 101, 102]), .const (str [102, 101, 100, 99, 98, 97]), .const (str [101, 97, 116, 32, 115, 110]), .const (str [122, 121, 120, 119, 118, 117])]) [[97, 98, 99, 100, 101, 102], [102, 101, 100, 99, 98, 97], [101, 97, 116, 32, 115, 110], [122, 121, 120, 119, 118, 117]] Try.runUnderlying69 Try.sizeOf9 Try.zeroValue9 rfl rfl rfl rfl rfl rfl fun v6 => ?_
  obtain ⟨r7, h8, hm⟩ := bindS hm
  refine SJ.call2 (k := 1) rfl Try.call67 rfl (fun w S hw hA hO hB => ok_s_l00Src_text h8 w S _ (hr4.st1 hw hO) _ (hB.row_rd (j := 0) (k := 1) rfl rfl) hA) rfl ?_
  rintro _ _ ⟨rfl, rfl⟩
  refine SJ.q (YldS.yld (y_assign rfl)) rfl ?_
  refine SJ.nil ?_
  refine PJ.next ?_
  refine WJ.seq ?_
  refine WJ.quiet ?_
  refine QJ.step (YldS.yld (y_move rfl)) rfl ?_
  refine QJ.step (YldS.yld (y_move rfl)) rfl ?_
  obtain ⟨r9, h10, hm⟩ := bindS hm
  refine QJ.step (y_call Try.call92 rfl (RetG.quiet fun w hw => ok_s_l00Min h10 w )) rfl ?_
  obtain ⟨s11, h12, hm⟩ := bindS hm
  refine QJ.step (YldS.yld (y_subStr (i := none) (j := some r9) h12 Try.runUnderlying9 rfl trivial ⟨_, rfl⟩)) rfl ?_
  refine QJ.step (YldS.yld (y_assign rfl)) rfl ?_
  refine QJ.done ?_
  refine PJ.next ?_
  refine WJ.seq ?_
  refine WJ.reg ?_
  refine SJ.buildSlice (R := fByte) (os := []) [] Try.runUnderlying22 Try.sizeOf5 Try.zeroValue5 rfl rfl rfl rfl rfl rfl fun v13 => ?_
  refine SJ.q (YldS.yld (y_assign rfl)) rfl ?_
  refine SJ.nil ?_
  refine PJ.next ?_
  obtain ⟨kj18, hk19, hm⟩ := withK_open hm
  refine WJ.join (X := Int × Int × (List UInt8) × Value) (fun (x : Int × Int × (List UInt8) × Value) => kj18 x.1 x.2.1 x.2.2.1 = some r) (fun (x : Int × Int × (List UInt8) × Value) => [(7, str s11), (8, x.2.2.2)]) (fun (x : Int × Int × (List UInt8) × Value) => [box g2 127 [v3, .int .i64 x.1, .int .u64 x.2.1], row x.2.2.2 5 fByte x.2.2.1]) ?_ ?_
  · clear hk19
    refine WJ.seq ?_
    refine WJ.reg ?_
    refine SJ.q (YldS.yld (y_move rfl)) rfl ?_
    obtain ⟨r20, h21, hm⟩ := bindS hm
    refine SJ.call1 (k := 1) rfl Try.call42 rfl (fun w S hw hA hO => ok_s_l00Src_pick h21 w S _ (hr4.st1 hw hO) hA) rfl ?_
    rintro _ _ ⟨rfl, rfl⟩
    refine SJ.q (YldS.yld (y_assign rfl)) rfl ?_
    refine SJ.nil ?_
    refine PJ.next ?_
    refine WJ.block ?_
    refine WJ.sel (L' := (fun (x : Int × Int × (List UInt8) × Value × Int) => [box g2 127 [v3, .int .i64 x.1, .int .u64 x.2.1], row x.2.2.2.1 5 fByte x.2.2.1]) (r20.2.at_, r20.2.seed, [], v13, r20.1)) [0, 1] ⟨by decide, rfl⟩ ?_
    refine WJ.sub (m' := (fun (x : Int × Int × (List UInt8) × Value × Int) => [(0, pt g2 0), (7, str s11), (8, x.2.2.2.1), (9, .int .i64 x.2.2.2.2)]) (r20.2.at_, r20.2.seed, [], v13, r20.1)) ⟨rfl, rfl, rfl, rfl, trivial⟩ ?_
    refine WJ.loop (X := Int × Int × (List UInt8) × Value × Int) (fun N (x : Int × Int × (List UInt8) × Value × Int) => s_l07Letters_l1 kj18 s1 s11 N x.1 x.2.1 x.2.2.1 x.2.2.2.2 = some r) (fun (x : Int × Int × (List UInt8) × Value × Int) => [(0, pt g2 0), (7, str s11), (8, x.2.2.2.1), (9, .int .i64 x.2.2.2.2)]) (fun (x : Int × Int × (List UInt8) × Value × Int) => [box g2 127 [v3, .int .i64 x.1, .int .u64 x.2.1], row x.2.2.2.1 5 fByte x.2.2.1]) ?_ N (r20.2.at_, r20.2.seed, [], v13, r20.1) hm
    · rintro N ⟨x22, x23, l24, v25, k26⟩ hI
      have hm := hI; clear hI
      cases N with
      | zero => cases hm
      | succ N =>
      unfold s_l07Letters_l1 at hm
      refine WJ.seq ?_
      refine WJ.seq ?_
      refine WJ.quiet ?_
      refine QJ.step (YldS.yld (y_move rfl)) rfl ?_
      refine QJ.step (YldS.yld (y_bin rfl rfl rfl)) rfl ?_
      refine QJ.step (YldS.yld (y_move rfl)) rfl ?_
      obtain ⟨t27, h28, hm⟩ := bindS hm
      refine QJ.cut 4 [(0, pt g2 0), (7, str s11), (8, v25), (9, .int .i64 k26), (26, .bool t27)] ?_ ?_
      · rcases Bool.eq_false_or_eq_true (decide (k26 > 0)) with hb29 | hb29
        · replace h28 := andT h28 hb29
          refine QJ.on rfl rfl (cB hb29) (YldS.yld (y_move rfl)) rfl ?_
          refine QJ.on rfl rfl (cB hb29) (YldS.yld (y_lenStr Try.runUnderlying9 rfl)) rfl ?_
          refine QJ.on rfl rfl (cB hb29) (YldS.yld (y_bin rfl rfl rfl)) rfl ?_
          refine QJ.step (YldS.yld (y_pick_t (cB hb29) rfl)) rfl ?_
          obtain rfl := Option.some.inj h28
          exact QJ.cut_end ⟨rfl, rfl, rfl, rfl, rfl, trivial⟩
        · obtain rfl := andF h28 hb29
          refine QJ.off rfl rfl (cB hb29) rfl rfl ?_
          refine QJ.off rfl rfl (cB hb29) rfl rfl ?_
          refine QJ.off rfl rfl (cB hb29) rfl rfl ?_
          refine QJ.step (YldS.yld (y_pick_f (cB hb29) rfl)) rfl ?_
          exact QJ.cut_end ⟨rfl, rfl, rfl, rfl, rfl, trivial⟩
      refine QJ.done ?_
      refine PJ.next ?_
      refine WJ.cond (t := t27) rfl (fun hb30 => ?_) (fun hb30 => ?_)
      · replace hm := ifT hm hb30
        refine WJ.skip ?_
        refine PJ.next ?_
        refine WJ.seq ?_
        refine WJ.block ?_
        refine WJ.reg ?_
        refine SJ.q (YldS.yld (y_move rfl)) rfl ?_
        refine SJ.q (YldS.yld (y_move rfl)) rfl ?_
        refine SJ.q (YldS.yld (y_move rfl)) rfl ?_
        refine SJ.q (YldS.yld (y_move rfl)) rfl ?_
        refine SJ.q (YldS.yld (y_lenStr Try.runUnderlying9 rfl)) rfl ?_
        obtain ⟨r31, h32, hm⟩ := bindS hm
        refine SJ.call1 (k := 0) rfl Try.call42 rfl (fun w S hw hA hO => ok_s_l00Src_pick h32 w S _ (hr4.st1 hw hO) hA) rfl ?_
        rintro _ _ ⟨rfl, rfl⟩
        obtain ⟨c33, h34, hm⟩ := bindS hm
        refine SJ.q (YldS.yld (y_idxStr Try.runUnderlying9 rfl rfl h34)) rfl ?_
        refine SJ.buildSlice (R := fByte) (os := [.tmp 35]) [c33] Try.runUnderlying22 Try.sizeOf5 Try.zeroValue5 rfl rfl rfl rfl rfl rfl fun v35 => ?_
        obtain ⟨l36, h37, hm⟩ := bindS hm
        refine SJ.append (k := 2) (R := fByte) h37 rfl Try.underlying22 el5 rfl rfl rfl (fun w hw => (hw.row_rd (k := 0) rfl)) rfl fun v38 => ?_
        refine SJ.q (YldS.yld (y_assign rfl)) rfl ?_
        refine SJ.nil ?_
        refine PJ.block_normal (PJ.next ?_)
        refine WJ.quiet ?_
        refine QJ.step (YldS.yld (y_move rfl)) rfl ?_
        refine QJ.step (YldS.yld (y_bin rfl rfl rfl)) rfl ?_
        refine QJ.step (YldS.yld (y_assign rfl)) rfl ?_
        refine QJ.done ?_
        exact PJ.round (r31.2.at_, r31.2.seed, l36, v38, w64 (k26 - 1)) [1, 2] hm ⟨rfl, rfl, rfl, rfl, trivial⟩ ⟨by decide, rfl⟩
      · replace hm := ifF hm hb30
        refine WJ.exit ?_
        refine PJ.then_exit (PJ.then_exit (PJ.block_exit ?_))
        exact PJ.joined (x22, x23, l24, v25) [0, 1] hm ⟨rfl, rfl, trivial⟩ ⟨by decide, rfl⟩
  · rintro ⟨x14, x15, l16, v17⟩ hm
    subst hk19
    refine WJ.seq ?_
    refine WJ.quiet_draw follows (by kernel_rfl) ?_
    refine QJ.step (YldS.yld (y_move rfl)) rfl ?_
    refine QJ.step (YldS.yld (y_move rfl)) rfl ?_
    refine QJ.step (YldS.yld (y_b2s Try.underlying22 Try.underlying9 Try.underlying5 (fun w hw => ⟨_, (hw.row_rd (k := 1) rfl)⟩) rfl)) rfl ?_
    refine QJ.step (YldS.yld (y_assign rfl)) rfl ?_
    refine QJ.step (YldS.yld (y_assign rfl)) rfl ?_
    refine QJ.done ?_
    refine PJ.next ?_
    refine WJ.ret ?_
    obtain rfl := Option.some.inj hm
    refine PJ.sel (L' := [box g2 127 [v3, .int .i64 x14, .int .u64 x15]]) [0] ⟨by decide, rfl⟩ ?_
    exact PJ.retn (vs := [str s11, str l16]) Try.results57 ⟨rfl, rfl, trivial⟩ ⟨rfl, rfl⟩

set_option maxRecDepth 100000 in
set_option maxHeartbeats 1000000 in
theorem ok_s_A2Layout {N : Nat} {code1 : List UInt8} {n4 : Int} {r : Str × Str} (hm : s_A2Layout N code1 n4 = some r) (w : World) (v2 : Value) (hr3 : RdS w (cx w).Fz v2 fByte.rp code1) :
    Calls Try.prog 19 #[v2, .int .i64 n4] w (Ret (cx w) (tup [str r.1, str r.2])) := by
  unfold s_A2Layout at hm
  refine Calls.enter [v2, .int .i64 n4] Try.func19 rfl Try.ntmps19 rfl ?_
  refine WJ.seq ?_
  refine WJ.quiet ?_
  refine QJ.step (YldS.yld (y_assign rfl)) rfl ?_
  refine QJ.step (YldS.yld (y_assign rfl)) rfl ?_
  refine QJ.done ?_
  refine PJ.next ?_
  refine WJ.seq ?_
  refine WJ.reg ?_
  refine SJ.q (YldS.yld (y_move rfl)) rfl ?_
  obtain ⟨r5, h6, hm⟩ := bindS hm
  refine SJ.call Try.call41 rfl (fun w hw => ok_s_l00From h6 w _ (hr3.st hw)) rfl ?_
  rintro _ _ ⟨g7, rfl, rfl⟩
  refine SJ.q (YldS.yld (y_move rfl)) rfl ?_
  obtain ⟨r8, h9, hm⟩ := bindS hm
  refine SJ.call1 (k := 0) rfl Try.call57 rfl (fun w S hw hA hO => ok_s_l07Letters h9 w S _ (hr3.st1 hw hO) hA) rfl ?_
  rintro _ _ ⟨rfl, rfl⟩
  refine SJ.q (YldS.yld (y_move rfl)) rfl ?_
  refine SJ.q (YldS.yld (y_extract rfl rfl)) rfl ?_
  refine SJ.q (YldS.yld (y_extract rfl rfl)) rfl ?_
  refine SJ.q (YldS.yld (y_assign rfl)) rfl ?_
  refine SJ.q (YldS.yld (y_assign rfl)) rfl ?_
  refine SJ.nil ?_
  refine PJ.next ?_
  refine WJ.seq ?_
  refine WJ.quiet ?_
  refine QJ.step (YldS.yld (y_move rfl)) rfl ?_
  refine QJ.step (YldS.yld (y_move rfl)) rfl ?_
  refine QJ.step (YldS.yld (y_assign rfl)) rfl ?_
  refine QJ.step (YldS.yld (y_assign rfl)) rfl ?_
  refine QJ.done ?_
  refine PJ.next ?_
  refine WJ.ret ?_
  obtain rfl := Option.some.inj hm
  refine PJ.sel (L' := []) [] ⟨List.nodup_nil, rfl⟩ ?_
  exact PJ.retn (vs := [str r8.1, str r8.2.1]) Try.results19 ⟨rfl, rfl, trivial⟩ ⟨rfl, rfl⟩

set_option maxRecDepth 100000 in
set_option maxHeartbeats 1000000 in
theorem ok_i_between {n1 : Int} {low2 : Int} {high3 : Int} {r : Bool} (hm : i_between n1 low2 high3 = some r) (w : World)  :
    Calls Try.prog 49 #[.int .i64 n1, .int .i64 low2, .int .i64 high3] w (Ret (cx w) (.bool r)) := by
  unfold i_between at hm
  refine Calls.enter [.int .i64 n1, .int .i64 low2, .int .i64 high3] Try.func49 rfl Try.ntmps49 rfl ?_
  refine WJ.seq ?_
  refine WJ.quiet ?_
  refine QJ.step (YldS.yld (y_assign rfl)) rfl ?_
  refine QJ.done ?_
  refine PJ.next ?_
  refine WJ.seq ?_
  refine WJ.quiet ?_
  refine QJ.step (YldS.yld (y_move rfl)) rfl ?_
  refine QJ.step (YldS.yld (y_move rfl)) rfl ?_
  refine QJ.step (YldS.yld (y_bin rfl rfl rfl)) rfl ?_
  refine QJ.step (YldS.yld (y_move rfl)) rfl ?_
  obtain ⟨t4, h5, hm⟩ := bindS hm
  refine QJ.cut 4 [(14, .bool t4)] ?_ ?_
  · rcases Bool.eq_false_or_eq_true (decide (n1 ≥ low2)) with hb6 | hb6
    · replace h5 := andT h5 hb6
      refine QJ.on rfl rfl (cB hb6) (YldS.yld (y_move rfl)) rfl ?_
      refine QJ.on rfl rfl (cB hb6) (YldS.yld (y_move rfl)) rfl ?_
      refine QJ.on rfl rfl (cB hb6) (YldS.yld (y_bin rfl rfl rfl)) rfl ?_
      refine QJ.step (YldS.yld (y_pick_t (cB hb6) rfl)) rfl ?_
      obtain rfl := Option.some.inj h5
      exact QJ.cut_end ⟨rfl, trivial⟩
    · obtain rfl := andF h5 hb6
      refine QJ.off rfl rfl (cB hb6) rfl rfl ?_
      refine QJ.off rfl rfl (cB hb6) rfl rfl ?_
      refine QJ.off rfl rfl (cB hb6) rfl rfl ?_
      refine QJ.step (YldS.yld (y_pick_f (cB hb6) rfl)) rfl ?_
      exact QJ.cut_end ⟨rfl, trivial⟩
  refine QJ.step (YldS.yld (y_assign rfl)) rfl ?_
  refine QJ.done ?_
  refine PJ.next ?_
  refine WJ.ret ?_
  obtain rfl := Option.some.inj hm
  refine PJ.sel (L' := []) [] ⟨List.nodup_nil, rfl⟩ ?_
  exact PJ.retn (vs := [.bool t4]) Try.results49 ⟨rfl, trivial⟩ ⟨rfl, rfl⟩

set_option maxRecDepth 100000 in
set_option maxHeartbeats 1000000 in
theorem ok_i_ValidBoard {N : Nat} {list1 : List Place} {r : Bool} (hm : i_ValidBoard N list1 = some r) (w : World) (v2 : Value) (hr3 : RdS w (cx w).Fz v2 fPlace.rp list1) :
    Calls Try.prog 64 #[v2] w (Ret (cx w) (.bool r)) := by
  unfold i_ValidBoard at hm
  refine Calls.enter [v2] Try.func64 rfl Try.ntmps64 rfl ?_
  refine WJ.seq ?_
  refine WJ.quiet ?_
  refine QJ.step (YldS.yld (y_assign rfl)) rfl ?_
  refine QJ.done ?_
  refine PJ.next ?_
  refine WJ.seq ?_
  refine WJ.seq ?_
  refine WJ.quiet ?_
  refine QJ.step (YldS.yld (y_move rfl)) rfl ?_
  refine QJ.step (YldS.yld (y_lenS Try.runUnderlying42 hr3 rfl)) rfl ?_
  obtain ⟨r4, h5, hm⟩ := bindS hm
  refine QJ.step (y_call Try.call49 rfl (RetG.quiet fun w hw => ok_i_between h5 w )) rfl ?_
  refine QJ.step (YldS.yld (y_not rfl)) rfl ?_
  refine QJ.done ?_
  refine PJ.next ?_
  refine WJ.cond (t := !r4) rfl (fun hb6 => ?_) (fun hb6 => ?_)
  · replace hm := ifT hm hb6
    refine WJ.seq ?_
    refine WJ.quiet ?_
    refine QJ.step (YldS.yld (y_assign rfl)) rfl ?_
    refine QJ.done ?_
    refine PJ.next ?_
    refine WJ.ret ?_
    refine PJ.then_ret ?_
    obtain rfl := Option.some.inj hm
    refine PJ.sel (L' := []) [] ⟨List.nodup_nil, rfl⟩ ?_
    exact PJ.retn (vs := [.bool false]) Try.results64 ⟨rfl, trivial⟩ ⟨rfl, rfl⟩
  · replace hm := ifF hm hb6
    refine WJ.skip ?_
    refine PJ.next ?_
    obtain ⟨kj7, hk8, hm⟩ := withK_open hm
    refine WJ.join (X := Unit) (fun (_ : Unit) => kj7  = some r) (fun (_ : Unit) => []) (fun (_ : Unit) => []) ?_ ?_
    · clear hk8
      refine WJ.seq ?_
      refine WJ.quiet ?_
      refine QJ.step (YldS.yld (y_move rfl)) rfl ?_
      refine QJ.step (YldS.yld (y_lenS Try.runUnderlying42 hr3 rfl)) rfl ?_
      refine QJ.step (YldS.yld (y_move rfl)) rfl ?_
      refine QJ.done ?_
      refine PJ.next ?_
      refine WJ.block ?_
      refine WJ.sel (L' := (fun (x : Int) => []) 0) [] ⟨List.nodup_nil, rfl⟩ ?_
      refine WJ.sub (m' := (fun (x : Int) => [(9, v2), (10, .int .i64 (List.length list1 : Int)), (11, .int .i64 x)]) 0) ⟨rfl, rfl, rfl, trivial⟩ ?_
      refine WJ.loop (X := Int) (fun N (x : Int) => i_ValidBoard_l1 kj7 list1 N x = some r) (fun (x : Int) => [(9, v2), (10, .int .i64 (List.length list1 : Int)), (11, .int .i64 x)]) (fun (x : Int) => []) ?_ N 0 hm
      · rintro N x9 hI
        have hm := hI; clear hI
        cases N with
        | zero => cases hm
        | succ N =>
        unfold i_ValidBoard_l1 at hm
        refine WJ.seq ?_
        refine WJ.quiet ?_
        refine QJ.step (YldS.yld (y_bin rfl rfl rfl)) rfl ?_
        refine QJ.done ?_
        refine PJ.next ?_
        refine WJ.seq ?_
        refine WJ.cond (t := decide (x9 < (List.length list1 : Int))) rfl (fun hb10 => ?_) (fun hb10 => ?_)
        · replace hm := ifT hm hb10
          refine WJ.skip ?_
          refine PJ.next ?_
          refine WJ.seq ?_
          refine WJ.block ?_
          refine WJ.seq ?_
          refine WJ.reg ?_
          obtain ⟨e11, h12, hm⟩ := bindS hm
          obtain ⟨ad13, _, rfl, ha14, hy15⟩ := hr3.elem h12
          refine SJ.q (YldS.yld (hy15 Try.runUnderlying42 Try.sizeOf55 rfl rfl)) rfl ?_
          refine SJ.q (YldS.yld (y_loadN Try.isAgg55 Try.sizeOf55 rfl ha14 St.frozenC rfl)) rfl ?_
          refine SJ.alloc (cs := [.int .i64 0, .int .i64 0, .int .i64 0]) Try.zeroValue55 rfl rfl fun g16 => ?_
          refine SJ.storeL (k := 0) (off := 0) (us := [.int .i64 e11.finger, .int .i64 e11.row, .int .i64 e11.effort]) rfl rfl rfl rfl Try.sizeOf55 rfl rfl ?_
          refine SJ.nil ?_
          refine PJ.next ?_
          refine WJ.seq ?_
          refine WJ.quiet ?_
          refine QJ.step (YldS.yld (y_fldB (o := 0) fld55_0 rfl)) rfl ?_
          refine QJ.step (YldS.yld (y_loadB (k := 0) (off := 0) (v := .int .i64 e11.finger) rfl Try.isAgg2 rfl rfl)) rfl ?_
          obtain ⟨r17, h18, hm⟩ := bindS hm
          refine QJ.step (y_call Try.call49 rfl (RetG.quiet fun w hw => ok_i_between h18 w )) rfl ?_
          refine QJ.step (YldS.yld (y_not rfl)) rfl ?_
          refine QJ.step (YldS.yld (y_move rfl)) rfl ?_
          obtain ⟨t19, h20, hm⟩ := bindS hm
          refine QJ.cut 5 [(4, pt g16 0), (9, v2), (10, .int .i64 (List.length list1 : Int)), (11, .int .i64 x9), (24, .bool t19)] ?_ ?_
          · rcases Bool.eq_false_or_eq_true (!r17) with hb21 | hb21
            · obtain rfl := orT h20 hb21
              refine QJ.off rfl rfl (cB hb21) rfl rfl ?_
              refine QJ.off rfl rfl (cB hb21) rfl rfl ?_
              refine QJ.off rfl rfl (cB hb21) rfl rfl ?_
              refine QJ.off rfl rfl (cB hb21) rfl rfl ?_
              refine QJ.step (YldS.yld (y_pick_t (cB hb21) rfl)) rfl ?_
              exact QJ.cut_end ⟨rfl, rfl, rfl, rfl, rfl, trivial⟩
            · replace h20 := orF h20 hb21
              refine QJ.on rfl rfl (cB hb21) (YldS.yld (y_fldB (o := 0) fld55_1 rfl)) rfl ?_
              refine QJ.on rfl rfl (cB hb21) (YldS.yld (y_loadB (k := 0) (off := 1) (v := .int .i64 e11.row) rfl Try.isAgg2 rfl rfl)) rfl ?_
              obtain ⟨r22, h23, h20⟩ := bindS h20
              refine QJ.on rfl rfl (cB hb21) (y_call Try.call49 rfl (RetG.quiet fun w hw => ok_i_between h23 w )) rfl ?_
              refine QJ.on rfl rfl (cB hb21) (YldS.yld (y_not rfl)) rfl ?_
              refine QJ.step (YldS.yld (y_pick_f (cB hb21) rfl)) rfl ?_
              obtain rfl := Option.some.inj h20
              exact QJ.cut_end ⟨rfl, rfl, rfl, rfl, rfl, trivial⟩
          refine QJ.step (YldS.yld (y_move rfl)) rfl ?_
          obtain ⟨t24, h25, hm⟩ := bindS hm
          refine QJ.cut 5 [(9, v2), (10, .int .i64 (List.length list1 : Int)), (11, .int .i64 x9), (30, .bool t24)] ?_ ?_
          · rcases Bool.eq_false_or_eq_true t19 with hb26 | hb26
            · obtain rfl := orT h25 hb26
              refine QJ.off rfl rfl (cB hb26) rfl rfl ?_
              refine QJ.off rfl rfl (cB hb26) rfl rfl ?_
              refine QJ.off rfl rfl (cB hb26) rfl rfl ?_
              refine QJ.off rfl rfl (cB hb26) rfl rfl ?_
              refine QJ.step (YldS.yld (y_pick_t (cB hb26) rfl)) rfl ?_
              exact QJ.cut_end ⟨rfl, rfl, rfl, rfl, trivial⟩
            · replace h25 := orF h25 hb26
              refine QJ.on rfl rfl (cB hb26) (YldS.yld (y_fldB (o := 0) fld55_2 rfl)) rfl ?_
              refine QJ.on rfl rfl (cB hb26) (YldS.yld (y_loadB (k := 0) (off := 2) (v := .int .i64 e11.effort) rfl Try.isAgg2 rfl rfl)) rfl ?_
              obtain ⟨r27, h28, h25⟩ := bindS h25
              refine QJ.on rfl rfl (cB hb26) (y_call Try.call49 rfl (RetG.quiet fun w hw => ok_i_between h28 w )) rfl ?_
              refine QJ.on rfl rfl (cB hb26) (YldS.yld (y_not rfl)) rfl ?_
              refine QJ.step (YldS.yld (y_pick_f (cB hb26) rfl)) rfl ?_
              obtain rfl := Option.some.inj h25
              exact QJ.cut_end ⟨rfl, rfl, rfl, rfl, trivial⟩
          refine QJ.done ?_
          refine PJ.next ?_
          refine WJ.cond (t := t24) rfl (fun hb29 => ?_) (fun hb29 => ?_)
          · replace hm := ifT hm hb29
            refine WJ.seq ?_
            refine WJ.quiet ?_
            refine QJ.step (YldS.yld (y_assign rfl)) rfl ?_
            refine QJ.done ?_
            refine PJ.next ?_
            refine WJ.ret ?_
            refine PJ.block_ret (PJ.then_ret (PJ.then_ret (PJ.block_ret (PJ.then_ret ?_))))
            obtain rfl := Option.some.inj hm
            refine PJ.sel (L' := []) [] ⟨List.nodup_nil, rfl⟩ ?_
            exact PJ.retn (vs := [.bool false]) Try.results64 ⟨rfl, trivial⟩ ⟨rfl, rfl⟩
          · replace hm := ifF hm hb29
            refine WJ.skip ?_
            refine PJ.block_normal (PJ.next ?_)
            refine WJ.quiet ?_
            refine QJ.step (YldS.yld (y_bin rfl rfl rfl)) rfl ?_
            refine QJ.step (YldS.yld (y_move rfl)) rfl ?_
            refine QJ.done ?_
            exact PJ.round (w64 (x9 + 1)) [] hm ⟨rfl, rfl, rfl, trivial⟩ ⟨List.nodup_nil, rfl⟩
        · replace hm := ifF hm hb10
          refine WJ.exit ?_
          refine PJ.then_exit (PJ.then_exit (PJ.block_exit ?_))
          exact PJ.joined () [] hm trivial ⟨List.nodup_nil, rfl⟩
    · rintro _ hm
      subst hk8
      refine WJ.seq ?_
      refine WJ.quiet ?_
      refine QJ.step (YldS.yld (y_assign rfl)) rfl ?_
      refine QJ.done ?_
      refine PJ.next ?_
      refine WJ.ret ?_
      obtain rfl := Option.some.inj hm
      refine PJ.sel (L' := []) [] ⟨List.nodup_nil, rfl⟩ ?_
      exact PJ.retn (vs := [.bool true]) Try.results64 ⟨rfl, trivial⟩ ⟨rfl, rfl⟩

set_option maxRecDepth 100000 in
set_option maxHeartbeats 1000000 in
theorem ok_i_isText {N : Nat} {s1 : Str} {low2 : UInt8} {most3 : Int} {r : Bool} (hm : i_isText N s1 low2 most3 = some r) (w : World)  :
    Calls Try.prog 72 #[str s1, .int .u8 (UInt8.toNat low2 : Int), .int .i64 most3] w (Ret (cx w) (.bool r)) := by
  unfold i_isText at hm
  refine Calls.enter [str s1, .int .u8 (UInt8.toNat low2 : Int), .int .i64 most3] Try.func72 rfl Try.ntmps72 rfl ?_
  refine WJ.seq ?_
  refine WJ.quiet ?_
  refine QJ.step (YldS.yld (y_assign rfl)) rfl ?_
  refine QJ.done ?_
  refine PJ.next ?_
  refine WJ.seq ?_
  refine WJ.seq ?_
  refine WJ.quiet ?_
  refine QJ.step (YldS.yld (y_move rfl)) rfl ?_
  refine QJ.step (YldS.yld (y_lenStr Try.runUnderlying9 rfl)) rfl ?_
  refine QJ.step (YldS.yld (y_move rfl)) rfl ?_
  refine QJ.step (YldS.yld (y_bin rfl rfl rfl)) rfl ?_
  refine QJ.done ?_
  refine PJ.next ?_
  refine WJ.cond (t := decide ((List.length s1 : Int) > most3)) rfl (fun hb4 => ?_) (fun hb4 => ?_)
  · replace hm := ifT hm hb4
    refine WJ.seq ?_
    refine WJ.quiet ?_
    refine QJ.step (YldS.yld (y_assign rfl)) rfl ?_
    refine QJ.done ?_
    refine PJ.next ?_
    refine WJ.ret ?_
    refine PJ.then_ret ?_
    obtain rfl := Option.some.inj hm
    refine PJ.sel (L' := []) [] ⟨List.nodup_nil, rfl⟩ ?_
    exact PJ.retn (vs := [.bool false]) Try.results72 ⟨rfl, trivial⟩ ⟨rfl, rfl⟩
  · replace hm := ifF hm hb4
    refine WJ.skip ?_
    refine PJ.next ?_
    obtain ⟨kj5, hk6, hm⟩ := withK_open hm
    refine WJ.join (X := Unit) (fun (_ : Unit) => kj5  = some r) (fun (_ : Unit) => []) (fun (_ : Unit) => []) ?_ ?_
    · clear hk6
      refine WJ.seq ?_
      refine WJ.quiet ?_
      refine QJ.step (YldS.yld (y_move rfl)) rfl ?_
      refine QJ.step (YldS.yld (y_lenStr Try.runUnderlying9 rfl)) rfl ?_
      refine QJ.step (YldS.yld (y_move rfl)) rfl ?_
      refine QJ.done ?_
      refine PJ.next ?_
      refine WJ.block ?_
      refine WJ.sel (L' := (fun (x : Int) => []) 0) [] ⟨List.nodup_nil, rfl⟩ ?_
      refine WJ.sub (m' := (fun (x : Int) => [(0, str s1), (1, .int .u8 (UInt8.toNat low2 : Int)), (13, .int .i64 (List.length s1 : Int)), (14, .int .i64 x)]) 0) ⟨rfl, rfl, rfl, rfl, trivial⟩ ?_
      refine WJ.loop (X := Int) (fun N (x : Int) => i_isText_l1 kj5 s1 low2 N x = some r) (fun (x : Int) => [(0, str s1), (1, .int .u8 (UInt8.toNat low2 : Int)), (13, .int .i64 (List.length s1 : Int)), (14, .int .i64 x)]) (fun (x : Int) => []) ?_ N 0 hm
      · rintro N x7 hI
        have hm := hI; clear hI
        cases N with
        | zero => cases hm
        | succ N =>
        unfold i_isText_l1 at hm
        refine WJ.seq ?_
        refine WJ.quiet ?_
        refine QJ.step (YldS.yld (y_bin rfl rfl rfl)) rfl ?_
        refine QJ.done ?_
        refine PJ.next ?_
        refine WJ.seq ?_
        refine WJ.cond (t := decide (x7 < (List.length s1 : Int))) rfl (fun hb8 => ?_) (fun hb8 => ?_)
        · replace hm := ifT hm hb8
          refine WJ.skip ?_
          refine PJ.next ?_
          refine WJ.seq ?_
          refine WJ.block ?_
          refine WJ.seq ?_
          refine WJ.quiet ?_
          refine QJ.step (YldS.yld (y_move rfl)) rfl ?_
          refine QJ.step (YldS.yld (y_assign rfl)) rfl ?_
          refine QJ.done ?_
          refine PJ.next ?_
          refine WJ.seq ?_
          refine WJ.quiet ?_
          refine QJ.step (YldS.yld (y_move rfl)) rfl ?_
          refine QJ.step (YldS.yld (y_move rfl)) rfl ?_
          obtain ⟨c9, h10, hm⟩ := bindS hm
          refine QJ.step (YldS.yld (y_idxStr Try.runUnderlying9 rfl rfl h10)) rfl ?_
          refine QJ.step (YldS.yld (y_move rfl)) rfl ?_
          refine QJ.step (YldS.yld (y_bin8 c9 low2 rfl rfl rfl)) rfl ?_
          refine QJ.step (YldS.yld (y_move rfl)) rfl ?_
          obtain ⟨t11, h12, hm⟩ := bindS hm
          refine QJ.cut 5 [(0, str s1), (1, .int .u8 (UInt8.toNat low2 : Int)), (13, .int .i64 (List.length s1 : Int)), (14, .int .i64 x7), (27, .bool t11)] ?_ ?_
          · rcases Bool.eq_false_or_eq_true (decide (c9 < low2)) with hb13 | hb13
            · obtain rfl := orT h12 hb13
              refine QJ.off rfl rfl (cB hb13) rfl rfl ?_
              refine QJ.off rfl rfl (cB hb13) rfl rfl ?_
              refine QJ.off rfl rfl (cB hb13) rfl rfl ?_
              refine QJ.off rfl rfl (cB hb13) rfl rfl ?_
              refine QJ.step (YldS.yld (y_pick_t (cB hb13) rfl)) rfl ?_
              exact QJ.cut_end ⟨rfl, rfl, rfl, rfl, rfl, trivial⟩
            · replace h12 := orF h12 hb13
              refine QJ.on rfl rfl (cB hb13) (YldS.yld (y_move rfl)) rfl ?_
              refine QJ.on rfl rfl (cB hb13) (YldS.yld (y_move rfl)) rfl ?_
              obtain ⟨c14, h15, h12⟩ := bindS h12
              refine QJ.on rfl rfl (cB hb13) (YldS.yld (y_idxStr Try.runUnderlying9 rfl rfl h15)) rfl ?_
              refine QJ.on rfl rfl (cB hb13) (YldS.yld (y_bin8 c14 (126 : UInt8) rfl rfl rfl)) rfl ?_
              refine QJ.step (YldS.yld (y_pick_f (cB hb13) rfl)) rfl ?_
              obtain rfl := Option.some.inj h12
              exact QJ.cut_end ⟨rfl, rfl, rfl, rfl, rfl, trivial⟩
          refine QJ.done ?_
          refine PJ.next ?_
          refine WJ.cond (t := t11) rfl (fun hb16 => ?_) (fun hb16 => ?_)
          · replace hm := ifT hm hb16
            refine WJ.seq ?_
            refine WJ.quiet ?_
            refine QJ.step (YldS.yld (y_assign rfl)) rfl ?_
            refine QJ.done ?_
            refine PJ.next ?_
            refine WJ.ret ?_
            refine PJ.block_ret (PJ.then_ret (PJ.then_ret (PJ.block_ret (PJ.then_ret ?_))))
            obtain rfl := Option.some.inj hm
            refine PJ.sel (L' := []) [] ⟨List.nodup_nil, rfl⟩ ?_
            exact PJ.retn (vs := [.bool false]) Try.results72 ⟨rfl, trivial⟩ ⟨rfl, rfl⟩
          · replace hm := ifF hm hb16
            refine WJ.skip ?_
            refine PJ.block_normal (PJ.next ?_)
            refine WJ.quiet ?_
            refine QJ.step (YldS.yld (y_bin rfl rfl rfl)) rfl ?_
            refine QJ.step (YldS.yld (y_move rfl)) rfl ?_
            refine QJ.done ?_
            exact PJ.round (w64 (x7 + 1)) [] hm ⟨rfl, rfl, rfl, rfl, trivial⟩ ⟨List.nodup_nil, rfl⟩
        · replace hm := ifF hm hb8
          refine WJ.exit ?_
          refine PJ.then_exit (PJ.then_exit (PJ.block_exit ?_))
          exact PJ.joined () [] hm trivial ⟨List.nodup_nil, rfl⟩
    · rintro _ hm
      subst hk6
      refine WJ.seq ?_
      refine WJ.quiet ?_
      refine QJ.step (YldS.yld (y_assign rfl)) rfl ?_
      refine QJ.done ?_
      refine PJ.next ?_
      refine WJ.ret ?_
      obtain rfl := Option.some.inj hm
      refine PJ.sel (L' := []) [] ⟨List.nodup_nil, rfl⟩ ?_
      exact PJ.retn (vs := [.bool true]) Try.results72 ⟨rfl, trivial⟩ ⟨rfl, rfl⟩

set_option maxRecDepth 100000 in
set_option maxHeartbeats 1000000 in
theorem ok_i_isBoardLayout {N : Nat} {list1 : List Place} {layout4 : Str} {r : Bool} (hm : i_isBoardLayout N list1 layout4 = some r) (w : World) (v2 : Value) (hr3 : RdS w (cx w).Fz v2 fPlace.rp list1) :
    Calls Try.prog 93 #[v2, str layout4] w (Ret (cx w) (.bool r)) := by
  unfold i_isBoardLayout at hm
  refine Calls.enter [v2, str layout4] Try.func93 rfl Try.ntmps93 rfl ?_
  refine WJ.seq ?_
  refine WJ.quiet ?_
  refine QJ.step (YldS.yld (y_assign rfl)) rfl ?_
  refine QJ.done ?_
  refine PJ.next ?_
  refine WJ.seq ?_
  refine WJ.seq ?_
  refine WJ.quiet ?_
  refine QJ.step (YldS.yld (y_move rfl)) rfl ?_
  refine QJ.step (YldS.yld (y_lenStr Try.runUnderlying9 rfl)) rfl ?_
  refine QJ.step (YldS.yld (y_move rfl)) rfl ?_
  refine QJ.step (YldS.yld (y_lenS Try.runUnderlying42 hr3 rfl)) rfl ?_
  refine QJ.step (YldS.yld (y_bin rfl rfl rfl)) rfl ?_
  refine QJ.step (YldS.yld (y_move rfl)) rfl ?_
  obtain ⟨t5, h6, hm⟩ := bindS hm
  refine QJ.cut 4 [(1, str layout4), (16, .bool t5)] ?_ ?_
  · rcases Bool.eq_false_or_eq_true ((List.length layout4 : Int) != (List.length list1 : Int)) with hb7 | hb7
    · obtain rfl := orT h6 hb7
      refine QJ.off rfl rfl (cB hb7) rfl rfl ?_
      refine QJ.off rfl rfl (cB hb7) rfl rfl ?_
      refine QJ.off rfl rfl (cB hb7) rfl rfl ?_
      refine QJ.step (YldS.yld (y_pick_t (cB hb7) rfl)) rfl ?_
      exact QJ.cut_end ⟨rfl, rfl, trivial⟩
    · replace h6 := orF h6 hb7
      refine QJ.on rfl rfl (cB hb7) (YldS.yld (y_move rfl)) rfl ?_
      obtain ⟨r8, h9, h6⟩ := bindS h6
      refine QJ.on rfl rfl (cB hb7) (y_call Try.call72 rfl (RetG.quiet fun w hw => ok_i_isText h9 w )) rfl ?_
      refine QJ.on rfl rfl (cB hb7) (YldS.yld (y_not rfl)) rfl ?_
      refine QJ.step (YldS.yld (y_pick_f (cB hb7) rfl)) rfl ?_
      obtain rfl := Option.some.inj h6
      exact QJ.cut_end ⟨rfl, rfl, trivial⟩
  refine QJ.done ?_
  refine PJ.next ?_
  refine WJ.cond (t := t5) rfl (fun hb10 => ?_) (fun hb10 => ?_)
  · replace hm := ifT hm hb10
    refine WJ.seq ?_
    refine WJ.quiet ?_
    refine QJ.step (YldS.yld (y_assign rfl)) rfl ?_
    refine QJ.done ?_
    refine PJ.next ?_
    refine WJ.ret ?_
    refine PJ.then_ret ?_
    obtain rfl := Option.some.inj hm
    refine PJ.sel (L' := []) [] ⟨List.nodup_nil, rfl⟩ ?_
    exact PJ.retn (vs := [.bool false]) Try.results93 ⟨rfl, trivial⟩ ⟨rfl, rfl⟩
  · replace hm := ifF hm hb10
    refine WJ.skip ?_
    refine PJ.next ?_
    refine WJ.seq ?_
    refine WJ.reg ?_
    refine SJ.q (YldS.yld (y_build0 Try.runUnderlying113 zv113 Try.sizeOf4)) rfl ?_
    refine SJ.allocA (R := fBool) (xs := List.replicate 256 false) 256 zv113 rfl rfl rfl rfl fun g11 => ?_
    refine SJ.storeA (k := 0) (ys := (List.replicate 256 false)) rfl rfl rfl rfl (by simp) Try.sizeOf113 (by simp [length_encs, fBool]) ?_
    refine SJ.nil ?_
    refine PJ.next ?_
    obtain ⟨kj12, hk13, hm⟩ := withK_open hm
    refine WJ.join (X := Unit) (fun (_ : Unit) => kj12  = some r) (fun (_ : Unit) => []) (fun (_ : Unit) => []) ?_ ?_
    · clear hk13
      refine WJ.seq ?_
      refine WJ.quiet ?_
      refine QJ.step (YldS.yld (y_move rfl)) rfl ?_
      refine QJ.step (YldS.yld (y_lenStr Try.runUnderlying9 rfl)) rfl ?_
      refine QJ.step (YldS.yld (y_move rfl)) rfl ?_
      refine QJ.done ?_
      refine PJ.next ?_
      refine WJ.block ?_
      refine WJ.sel (L' := (fun (x : (List Bool) × Int) => [row (av g11 256) 113 fBool x.1]) ((List.replicate 256 false), 0)) [0] ⟨by decide, rfl⟩ ?_
      refine WJ.sub (m' := (fun (x : (List Bool) × Int) => [(1, str layout4), (5, pt g11 0), (19, .int .i64 (List.length layout4 : Int)), (20, .int .i64 x.2)]) ((List.replicate 256 false), 0)) ⟨rfl, rfl, rfl, rfl, trivial⟩ ?_
      refine WJ.loop (X := (List Bool) × Int) (fun N (x : (List Bool) × Int) => i_isBoardLayout_l1 kj12 layout4 N x.1 x.2 = some r) (fun (x : (List Bool) × Int) => [(1, str layout4), (5, pt g11 0), (19, .int .i64 (List.length layout4 : Int)), (20, .int .i64 x.2)]) (fun (x : (List Bool) × Int) => [row (av g11 256) 113 fBool x.1]) ?_ N ((List.replicate 256 false), 0) hm
      · rintro N ⟨l14, x15⟩ hI
        have hm := hI; clear hI
        cases N with
        | zero => cases hm
        | succ N =>
        unfold i_isBoardLayout_l1 at hm
        refine WJ.seq ?_
        refine WJ.quiet ?_
        refine QJ.step (YldS.yld (y_bin rfl rfl rfl)) rfl ?_
        refine QJ.done ?_
        refine PJ.next ?_
        refine WJ.seq ?_
        refine WJ.cond (t := decide (x15 < (List.length layout4 : Int))) rfl (fun hb16 => ?_) (fun hb16 => ?_)
        · replace hm := ifT hm hb16
          refine WJ.skip ?_
          refine PJ.next ?_
          refine WJ.seq ?_
          refine WJ.block ?_
          refine WJ.seq ?_
          refine WJ.quiet ?_
          refine QJ.step (YldS.yld (y_move rfl)) rfl ?_
          refine QJ.step (YldS.yld (y_assign rfl)) rfl ?_
          refine QJ.done ?_
          refine PJ.next ?_
          refine WJ.seq ?_
          refine WJ.seq ?_
          refine WJ.quiet ?_
          refine QJ.step (YldS.yld (y_move rfl)) rfl ?_
          refine QJ.step (YldS.yld (y_move rfl)) rfl ?_
          obtain ⟨c17, h18, hm⟩ := bindS hm
          refine QJ.step (YldS.yld (y_idxStr Try.runUnderlying9 rfl rfl h18)) rfl ?_
          obtain ⟨e19, h20, hm⟩ := bindS hm
          refine QJ.step (YldS.yld (y_ixArr (k := 0) (R := fBool) rfl Try.runUnderlying113 Try.sizeOf4 rfl rfl h20)) rfl ?_
          refine QJ.step (YldS.yld (y_loadR (k := 0) (i := (Int.toNat (UInt8.toNat c17 : Int))) (off := 0) (u := .bool e19) rfl Try.isAgg4 rfl (idx_get h20) rfl)) rfl ?_
          refine QJ.done ?_
          refine PJ.next ?_
          refine WJ.cond (t := e19) rfl (fun hb21 => ?_) (fun hb21 => ?_)
          · replace hm := ifT hm hb21
            refine WJ.seq ?_
            refine WJ.quiet ?_
            refine QJ.step (YldS.yld (y_assign rfl)) rfl ?_
            refine QJ.done ?_
            refine PJ.next ?_
            refine WJ.ret ?_
            refine PJ.then_ret (PJ.block_ret (PJ.then_ret (PJ.then_ret (PJ.block_ret (PJ.then_ret ?_)))))
            obtain rfl := Option.some.inj hm
            refine PJ.sel (L' := []) [] ⟨List.nodup_nil, rfl⟩ ?_
            exact PJ.retn (vs := [.bool false]) Try.results93 ⟨rfl, trivial⟩ ⟨rfl, rfl⟩
          · replace hm := ifF hm hb21
            refine WJ.skip ?_
            refine PJ.next ?_
            refine WJ.reg ?_
            refine SJ.q (YldS.yld (y_move rfl)) rfl ?_
            refine SJ.q (YldS.yld (y_move rfl)) rfl ?_
            obtain ⟨c22, h23, hm⟩ := bindS hm
            refine SJ.q (YldS.yld (y_idxStr Try.runUnderlying9 rfl rfl h23)) rfl ?_
            obtain ⟨e24, h25, hm⟩ := bindS hm
            refine SJ.q (YldS.yld (y_ixArr (k := 0) (R := fBool) rfl Try.runUnderlying113 Try.sizeOf4 rfl rfl h25)) rfl ?_
            refine SJ.storeRL (k := 0) (i := (Int.toNat (UInt8.toNat c22 : Int))) (off := 0) (us := [.bool true]) (b := true) rfl rfl (idx_get h25) rfl rfl Try.sizeOf4 rfl rfl rfl ?_
            refine SJ.nil ?_
            refine PJ.block_normal (PJ.next ?_)
            refine WJ.quiet ?_
            refine QJ.step (YldS.yld (y_bin rfl rfl rfl)) rfl ?_
            refine QJ.step (YldS.yld (y_move rfl)) rfl ?_
            refine QJ.done ?_
            exact PJ.round ((List.set l14 (Int.toNat (UInt8.toNat c22 : Int)) true), w64 (x15 + 1)) [0] hm ⟨rfl, rfl, rfl, rfl, trivial⟩ ⟨by decide, rfl⟩
        · replace hm := ifF hm hb16
          refine WJ.exit ?_
          refine PJ.then_exit (PJ.then_exit (PJ.block_exit ?_))
          exact PJ.joined () [] hm trivial ⟨List.nodup_nil, rfl⟩
    · rintro _ hm
      subst hk13
      refine WJ.seq ?_
      refine WJ.quiet ?_
      refine QJ.step (YldS.yld (y_assign rfl)) rfl ?_
      refine QJ.done ?_
      refine PJ.next ?_
      refine WJ.ret ?_
      obtain rfl := Option.some.inj hm
      refine PJ.sel (L' := []) [] ⟨List.nodup_nil, rfl⟩ ?_
      exact PJ.retn (vs := [.bool true]) Try.results93 ⟨rfl, trivial⟩ ⟨rfl, rfl⟩

set_option maxRecDepth 100000 in
set_option maxHeartbeats 1000000 in
theorem ok_i_placesOf {N : Nat} {layout1 : Str} {text2 : Str} {r : (List Int) × Bool} (hm : i_placesOf N layout1 text2 = some r) (w : World)  :
    Calls Try.prog 61 #[str layout1, str text2] w (RetG (cx w) fun u L => ∃ (u1 : Value), (u = tup [u1, .bool r.2] ∧ L = [row u1 2 fI64 r.1])) := by
  unfold i_placesOf at hm
  refine Calls.enter [str layout1, str text2] Try.func61 rfl Try.ntmps61 rfl ?_
  refine WJ.seq ?_
  refine WJ.quiet ?_
  refine QJ.step (YldS.yld (y_assign rfl)) rfl ?_
  refine QJ.step (YldS.yld (y_assign rfl)) rfl ?_
  refine QJ.done ?_
  refine PJ.next ?_
  refine WJ.seq ?_
  refine WJ.reg ?_
  refine SJ.buildSlice (R := fI64) (os := []) [] Try.runUnderlying27 Try.sizeOf2 Try.zeroValue2 rfl rfl rfl rfl rfl rfl fun v3 => ?_
  refine SJ.q (YldS.yld (y_assign rfl)) rfl ?_
  refine SJ.nil ?_
  refine PJ.next ?_
  obtain ⟨kj6, hk7, hm⟩ := withK_open hm
  refine WJ.join (X := (List Int) × Value) (fun (x : (List Int) × Value) => kj6 x.1 = some r) (fun (x : (List Int) × Value) => [(1, str text2), (6, x.2)]) (fun (x : (List Int) × Value) => [row x.2 2 fI64 x.1]) ?_ ?_
  · clear hk7
    refine WJ.seq ?_
    refine WJ.quiet ?_
    refine QJ.step (YldS.yld (y_move rfl)) rfl ?_
    refine QJ.step (YldS.yld (y_lenStr Try.runUnderlying9 rfl)) rfl ?_
    refine QJ.step (YldS.yld (y_move rfl)) rfl ?_
    refine QJ.done ?_
    refine PJ.next ?_
    refine WJ.block ?_
    refine WJ.sel (L' := (fun (x : (List Int) × Value × Int) => [row x.2.1 2 fI64 x.1]) ([], v3, 0)) [0] ⟨by decide, rfl⟩ ?_
    refine WJ.sub (m' := (fun (x : (List Int) × Value × Int) => [(0, str layout1), (1, str text2), (6, x.2.1), (12, .int .i64 (List.length text2 : Int)), (13, .int .i64 x.2.2)]) ([], v3, 0)) ⟨rfl, rfl, rfl, rfl, rfl, trivial⟩ ?_
    refine WJ.loop (X := (List Int) × Value × Int) (fun N (x : (List Int) × Value × Int) => i_placesOf_l1 kj6 layout1 text2 N x.1 x.2.2 = some r) (fun (x : (List Int) × Value × Int) => [(0, str layout1), (1, str text2), (6, x.2.1), (12, .int .i64 (List.length text2 : Int)), (13, .int .i64 x.2.2)]) (fun (x : (List Int) × Value × Int) => [row x.2.1 2 fI64 x.1]) ?_ N ([], v3, 0) hm
    · rintro N ⟨l8, v9, x10⟩ hI
      have hm := hI; clear hI
      cases N with
      | zero => cases hm
      | succ N =>
      unfold i_placesOf_l1 at hm
      refine WJ.seq ?_
      refine WJ.quiet ?_
      refine QJ.step (YldS.yld (y_bin rfl rfl rfl)) rfl ?_
      refine QJ.done ?_
      refine PJ.next ?_
      refine WJ.seq ?_
      refine WJ.cond (t := decide (x10 < (List.length text2 : Int))) rfl (fun hb11 => ?_) (fun hb11 => ?_)
      · replace hm := ifT hm hb11
        refine WJ.skip ?_
        refine PJ.next ?_
        obtain ⟨kj14, hk15, hm⟩ := withK_open hm
        refine WJ.join (X := (List Int) × Value) (fun (x : (List Int) × Value) => kj14 x.1 = some r) (fun (x : (List Int) × Value) => [(0, str layout1), (1, str text2), (6, x.2), (12, .int .i64 (List.length text2 : Int)), (13, .int .i64 x10)]) (fun (x : (List Int) × Value) => [row x.2 2 fI64 x.1]) ?_ ?_
        · clear hk15
          refine WJ.block ?_
          refine WJ.seq ?_
          refine WJ.quiet ?_
          refine QJ.step (YldS.yld (y_move rfl)) rfl ?_
          refine QJ.step (YldS.yld (y_assign rfl)) rfl ?_
          refine QJ.done ?_
          refine PJ.next ?_
          refine WJ.seq ?_
          refine WJ.quiet ?_
          refine QJ.step (YldS.yld (y_assign rfl)) rfl ?_
          refine QJ.done ?_
          refine PJ.next ?_
          obtain ⟨kj17, hk18, hm⟩ := withK_open hm
          refine WJ.join (X := Int) (fun (x : Int) => kj17 x = some r) (fun (x : Int) => [(0, str layout1), (1, str text2), (6, v9), (8, .int .i64 x), (12, .int .i64 (List.length text2 : Int)), (13, .int .i64 x10)]) (fun (x : Int) => [row v9 2 fI64 l8]) ?_ ?_
          · clear hk18
            refine WJ.seq ?_
            refine WJ.quiet ?_
            refine QJ.step (YldS.yld (y_move rfl)) rfl ?_
            refine QJ.step (YldS.yld (y_lenStr Try.runUnderlying9 rfl)) rfl ?_
            refine QJ.step (YldS.yld (y_move rfl)) rfl ?_
            refine QJ.done ?_
            refine PJ.next ?_
            refine WJ.block ?_
            refine WJ.sel (L' := (fun (x : Int × Int) => [row v9 2 fI64 l8]) ((-1), 0)) [0] ⟨by decide, rfl⟩ ?_
            refine WJ.sub (m' := (fun (x : Int × Int) => [(0, str layout1), (1, str text2), (6, v9), (7, .int .i64 x10), (8, .int .i64 x.1), (12, .int .i64 (List.length text2 : Int)), (13, .int .i64 x10), (17, .int .i64 (List.length layout1 : Int)), (18, .int .i64 x.2)]) ((-1), 0)) ⟨rfl, rfl, rfl, rfl, rfl, rfl, rfl, rfl, rfl, trivial⟩ ?_
            refine WJ.loop (X := Int × Int) (fun N (x : Int × Int) => i_placesOf_l2 kj17 layout1 text2 x10 N x.1 x.2 = some r) (fun (x : Int × Int) => [(0, str layout1), (1, str text2), (6, v9), (7, .int .i64 x10), (8, .int .i64 x.1), (12, .int .i64 (List.length text2 : Int)), (13, .int .i64 x10), (17, .int .i64 (List.length layout1 : Int)), (18, .int .i64 x.2)]) (fun (x : Int × Int) => [row v9 2 fI64 l8]) ?_ N ((-1), 0) hm
            · rintro N ⟨at19, x20⟩ hI
              have hm := hI; clear hI
              cases N with
              | zero => cases hm
              | succ N =>
              unfold i_placesOf_l2 at hm
              refine WJ.seq ?_
              refine WJ.quiet ?_
              refine QJ.step (YldS.yld (y_bin rfl rfl rfl)) rfl ?_
              refine QJ.done ?_
              refine PJ.next ?_
              refine WJ.seq ?_
              refine WJ.cond (t := decide (x20 < (List.length layout1 : Int))) rfl (fun hb21 => ?_) (fun hb21 => ?_)
              · replace hm := ifT hm hb21
                refine WJ.skip ?_
                refine PJ.next ?_
                obtain ⟨kj23, hk24, hm⟩ := withK_open hm
                refine WJ.join (X := Int) (fun (x : Int) => kj23 x = some r) (fun (x : Int) => [(0, str layout1), (1, str text2), (6, v9), (7, .int .i64 x10), (8, .int .i64 x), (12, .int .i64 (List.length text2 : Int)), (13, .int .i64 x10), (17, .int .i64 (List.length layout1 : Int)), (18, .int .i64 x20)]) (fun (x : Int) => [row v9 2 fI64 l8]) ?_ ?_
                · clear hk24
                  refine WJ.block ?_
                  refine WJ.seq ?_
                  refine WJ.quiet ?_
                  refine QJ.step (YldS.yld (y_move rfl)) rfl ?_
                  refine QJ.step (YldS.yld (y_assign rfl)) rfl ?_
                  refine QJ.done ?_
                  refine PJ.next ?_
                  refine WJ.seq ?_
                  refine WJ.quiet_draw follows (by kernel_rfl) ?_
                  refine QJ.step (YldS.yld (y_move rfl)) rfl ?_
                  refine QJ.step (YldS.yld (y_move rfl)) rfl ?_
                  obtain ⟨c25, h26, hm⟩ := bindS hm
                  refine QJ.step (YldS.yld (y_idxStr Try.runUnderlying9 rfl rfl h26)) rfl ?_
                  refine QJ.step (YldS.yld (y_move rfl)) rfl ?_
                  refine QJ.step (YldS.yld (y_move rfl)) rfl ?_
                  obtain ⟨c27, h28, hm⟩ := bindS hm
                  refine QJ.step (YldS.yld (y_idxStr Try.runUnderlying9 rfl rfl h28)) rfl ?_
                  refine QJ.step (YldS.yld (y_bin8 c25 c27 rfl rfl rfl)) rfl ?_
                  refine QJ.done ?_
                  refine PJ.next ?_
                  refine WJ.cond (t := (c25 == c27)) rfl (fun hb29 => ?_) (fun hb29 => ?_)
                  · replace hm := ifT hm hb29
                    refine WJ.quiet ?_
                    refine QJ.step (YldS.yld (y_move rfl)) rfl ?_
                    refine QJ.step (YldS.yld (y_assign rfl)) rfl ?_
                    refine QJ.done ?_
                    refine PJ.block_normal ?_
                    exact PJ.joined x20 [0] hm ⟨rfl, rfl, rfl, rfl, rfl, rfl, rfl, rfl, rfl, trivial⟩ ⟨by decide, rfl⟩
                  · replace hm := ifF hm hb29
                    refine WJ.skip ?_
                    refine PJ.block_normal ?_
                    exact PJ.joined at19 [0] hm ⟨rfl, rfl, rfl, rfl, rfl, rfl, rfl, rfl, rfl, trivial⟩ ⟨by decide, rfl⟩
                · rintro at22 hm
                  subst hk24
                  refine WJ.quiet ?_
                  refine QJ.step (YldS.yld (y_bin rfl rfl rfl)) rfl ?_
                  refine QJ.step (YldS.yld (y_move rfl)) rfl ?_
                  refine QJ.done ?_
                  exact PJ.round (at22, w64 (x20 + 1)) [0] hm ⟨rfl, rfl, rfl, rfl, rfl, rfl, rfl, rfl, rfl, trivial⟩ ⟨by decide, rfl⟩
              · replace hm := ifF hm hb21
                refine WJ.exit ?_
                refine PJ.then_exit (PJ.then_exit (PJ.block_exit ?_))
                exact PJ.joined at19 [0] hm ⟨rfl, rfl, rfl, rfl, rfl, rfl, trivial⟩ ⟨by decide, rfl⟩
          · rintro at16 hm
            subst hk18
            refine WJ.seq ?_
            refine WJ.seq ?_
            refine WJ.quiet ?_
            refine QJ.step (YldS.yld (y_move rfl)) rfl ?_
            refine QJ.step (YldS.yld (y_bin rfl rfl rfl)) rfl ?_
            refine QJ.done ?_
            refine PJ.next ?_
            refine WJ.cond (t := decide (at16 < 0)) rfl (fun hb30 => ?_) (fun hb30 => ?_)
            · replace hm := ifT hm hb30
              refine WJ.seq ?_
              refine WJ.quiet ?_
              refine QJ.step (YldS.yld (y_assign rfl)) rfl ?_
              refine QJ.step (YldS.yld (y_assign rfl)) rfl ?_
              refine QJ.done ?_
              refine PJ.next ?_
              refine WJ.ret ?_
              refine PJ.then_ret (PJ.block_ret (PJ.then_ret (PJ.then_ret (PJ.block_ret (PJ.then_ret ?_)))))
              refine PJ.nil_row 2 fI64 ?_
              obtain rfl := Option.some.inj hm
              refine PJ.sel (L' := [row (.slice none 0 0) 2 fI64 []]) [0] ⟨by decide, rfl⟩ ?_
              exact PJ.retn (vs := [(.slice none 0 0), .bool false]) Try.results61 ⟨rfl, rfl, trivial⟩ ⟨_, rfl, rfl⟩
            · replace hm := ifF hm hb30
              refine WJ.skip ?_
              refine PJ.next ?_
              refine WJ.reg ?_
              refine SJ.q (YldS.yld (y_move rfl)) rfl ?_
              refine SJ.q (YldS.yld (y_move rfl)) rfl ?_
              refine SJ.buildSlice (R := fI64) (os := [.tmp 33]) [at16] Try.runUnderlying27 Try.sizeOf2 Try.zeroValue2 rfl rfl rfl rfl rfl rfl fun v31 => ?_
              obtain ⟨l32, h33, hm⟩ := bindS hm
              refine SJ.append (k := 1) (R := fI64) h33 rfl Try.underlying27 el2 rfl rfl rfl (fun w hw => (hw.row_rd (k := 0) rfl)) rfl fun v34 => ?_
              refine SJ.q (YldS.yld (y_assign rfl)) rfl ?_
              refine SJ.nil ?_
              refine PJ.block_normal ?_
              exact PJ.joined (l32, v34) [1] hm ⟨rfl, rfl, rfl, rfl, rfl, trivial⟩ ⟨by decide, rfl⟩
        · rintro ⟨l12, v13⟩ hm
          subst hk15
          refine WJ.quiet ?_
          refine QJ.step (YldS.yld (y_bin rfl rfl rfl)) rfl ?_
          refine QJ.step (YldS.yld (y_move rfl)) rfl ?_
          refine QJ.done ?_
          exact PJ.round (l12, v13, w64 (x10 + 1)) [0] hm ⟨rfl, rfl, rfl, rfl, rfl, trivial⟩ ⟨by decide, rfl⟩
      · replace hm := ifF hm hb11
        refine WJ.exit ?_
        refine PJ.then_exit (PJ.then_exit (PJ.block_exit ?_))
        exact PJ.joined (l8, v9) [0] hm ⟨rfl, rfl, trivial⟩ ⟨by decide, rfl⟩
  · rintro ⟨l4, v5⟩ hm
    subst hk7
    refine WJ.seq ?_
    refine WJ.quiet ?_
    refine QJ.step (YldS.yld (y_move rfl)) rfl ?_
    refine QJ.step (YldS.yld (y_move rfl)) rfl ?_
    refine QJ.step (YldS.yld (y_lenStr Try.runUnderlying9 rfl)) rfl ?_
    refine QJ.step (YldS.yld (y_bin rfl rfl rfl)) rfl ?_
    refine QJ.step (YldS.yld (y_assign rfl)) rfl ?_
    refine QJ.step (YldS.yld (y_assign rfl)) rfl ?_
    refine QJ.done ?_
    refine PJ.next ?_
    refine WJ.ret ?_
    obtain rfl := Option.some.inj hm
    refine PJ.sel (L' := [row v5 2 fI64 l4]) [0] ⟨by decide, rfl⟩ ?_
    exact PJ.retn (vs := [v5, .bool (decide ((List.length text2 : Int) ≤ 400))]) Try.results61 ⟨rfl, rfl, trivial⟩ ⟨_, rfl, rfl⟩

set_option maxRecDepth 100000 in
set_option maxHeartbeats 1000000 in
theorem ok_i_strokesOf {N : Nat} {list1 : List Place} {layout4 : Str} {text5 : Str} {r : (List Int) × Int} (hm : i_strokesOf N list1 layout4 text5 = some r) (w : World) (v2 : Value) (hr3 : RdS w (cx w).Fz v2 fPlace.rp list1) :
    Calls Try.prog 58 #[v2, str layout4, str text5] w (RetG (cx w) fun u L => ∃ (u1 : Value), (u = tup [u1, .int .i64 r.2] ∧ L = [row u1 2 fI64 r.1])) := by
  unfold i_strokesOf at hm
  refine Calls.enter [v2, str layout4, str text5] Try.func58 rfl Try.ntmps58 rfl ?_
  refine WJ.seq ?_
  refine WJ.quiet ?_
  refine QJ.step (YldS.yld (y_assign rfl)) rfl ?_
  refine QJ.step (YldS.yld (y_assign rfl)) rfl ?_
  refine QJ.done ?_
  refine PJ.next ?_
  refine WJ.seq ?_
  refine WJ.seq ?_
  refine WJ.quiet ?_
  refine QJ.step (YldS.yld (y_move rfl)) rfl ?_
  obtain ⟨r6, h7, hm⟩ := bindS hm
  refine QJ.step (y_call Try.call64 rfl (RetG.quiet fun w hw => ok_i_ValidBoard h7 w _ (hr3.st hw))) rfl ?_
  refine QJ.step (YldS.yld (y_not rfl)) rfl ?_
  refine QJ.done ?_
  refine PJ.next ?_
  refine WJ.cond (t := !r6) rfl (fun hb8 => ?_) (fun hb8 => ?_)
  · replace hm := ifT hm hb8
    refine WJ.seq ?_
    refine WJ.quiet ?_
    refine QJ.step (YldS.yld (y_assign rfl)) rfl ?_
    refine QJ.step (YldS.yld (y_assign rfl)) rfl ?_
    refine QJ.done ?_
    refine PJ.next ?_
    refine WJ.ret ?_
    refine PJ.then_ret ?_
    refine PJ.nil_row 2 fI64 ?_
    obtain rfl := Option.some.inj hm
    refine PJ.sel (L' := [row (.slice none 0 0) 2 fI64 []]) [0] ⟨by decide, rfl⟩ ?_
    exact PJ.retn (vs := [(.slice none 0 0), .int .i64 1]) Try.results58 ⟨rfl, rfl, trivial⟩ ⟨_, rfl, rfl⟩
  · replace hm := ifF hm hb8
    refine WJ.skip ?_
    refine PJ.next ?_
    refine WJ.seq ?_
    refine WJ.seq ?_
    refine WJ.quiet ?_
    refine QJ.step (YldS.yld (y_move rfl)) rfl ?_
    refine QJ.step (YldS.yld (y_move rfl)) rfl ?_
    obtain ⟨r9, h10, hm⟩ := bindS hm
    refine QJ.step (y_call Try.call93 rfl (RetG.quiet fun w hw => ok_i_isBoardLayout h10 w _ (hr3.st hw))) rfl ?_
    refine QJ.step (YldS.yld (y_not rfl)) rfl ?_
    refine QJ.done ?_
    refine PJ.next ?_
    refine WJ.cond (t := !r9) rfl (fun hb11 => ?_) (fun hb11 => ?_)
    · replace hm := ifT hm hb11
      refine WJ.seq ?_
      refine WJ.quiet ?_
      refine QJ.step (YldS.yld (y_assign rfl)) rfl ?_
      refine QJ.step (YldS.yld (y_assign rfl)) rfl ?_
      refine QJ.done ?_
      refine PJ.next ?_
      refine WJ.ret ?_
      refine PJ.then_ret ?_
      refine PJ.nil_row 2 fI64 ?_
      obtain rfl := Option.some.inj hm
      refine PJ.sel (L' := [row (.slice none 0 0) 2 fI64 []]) [0] ⟨by decide, rfl⟩ ?_
      exact PJ.retn (vs := [(.slice none 0 0), .int .i64 2]) Try.results58 ⟨rfl, rfl, trivial⟩ ⟨_, rfl, rfl⟩
    · replace hm := ifF hm hb11
      refine WJ.skip ?_
      refine PJ.next ?_
      refine WJ.seq ?_
      refine WJ.reg ?_
      refine SJ.q (YldS.yld (y_move rfl)) rfl ?_
      refine SJ.q (YldS.yld (y_move rfl)) rfl ?_
      obtain ⟨r12, h13, hm⟩ := bindS hm
      refine SJ.call Try.call61 rfl (fun w hw => ok_i_placesOf h13 w ) rfl ?_
      rintro _ _ ⟨v14, rfl, rfl⟩
      refine SJ.q (YldS.yld (y_move rfl)) rfl ?_
      refine SJ.q (YldS.yld (y_extract rfl rfl)) rfl ?_
      refine SJ.q (YldS.yld (y_extract rfl rfl)) rfl ?_
      refine SJ.q (YldS.yld (y_assign rfl)) rfl ?_
      refine SJ.q (YldS.yld (y_assign rfl)) rfl ?_
      refine SJ.nil ?_
      refine PJ.next ?_
      refine WJ.seq ?_
      refine WJ.seq ?_
      refine WJ.quiet ?_
      refine QJ.step (YldS.yld (y_move rfl)) rfl ?_
      refine QJ.step (YldS.yld (y_not rfl)) rfl ?_
      refine QJ.done ?_
      refine PJ.next ?_
      refine WJ.cond (t := !r12.2) rfl (fun hb15 => ?_) (fun hb15 => ?_)
      · replace hm := ifT hm hb15
        refine WJ.seq ?_
        refine WJ.quiet ?_
        refine QJ.step (YldS.yld (y_assign rfl)) rfl ?_
        refine QJ.step (YldS.yld (y_assign rfl)) rfl ?_
        refine QJ.done ?_
        refine PJ.next ?_
        refine WJ.ret ?_
        refine PJ.then_ret ?_
        refine PJ.nil_row 2 fI64 ?_
        obtain rfl := Option.some.inj hm
        refine PJ.sel (L' := [row (.slice none 0 0) 2 fI64 []]) [0] ⟨by decide, rfl⟩ ?_
        exact PJ.retn (vs := [(.slice none 0 0), .int .i64 2]) Try.results58 ⟨rfl, rfl, trivial⟩ ⟨_, rfl, rfl⟩
      · replace hm := ifF hm hb15
        refine WJ.skip ?_
        refine PJ.next ?_
        refine WJ.seq ?_
        refine WJ.quiet ?_
        refine QJ.step (YldS.yld (y_move rfl)) rfl ?_
        refine QJ.step (YldS.yld (y_assign rfl)) rfl ?_
        refine QJ.step (YldS.yld (y_assign rfl)) rfl ?_
        refine QJ.done ?_
        refine PJ.next ?_
        refine WJ.ret ?_
        obtain rfl := Option.some.inj hm
        refine PJ.sel (L' := [row v14 2 fI64 r12.1]) [0] ⟨by decide, rfl⟩ ?_
        exact PJ.retn (vs := [v14, .int .i64 0]) Try.results58 ⟨rfl, rfl, trivial⟩ ⟨_, rfl, rfl⟩

set_option maxRecDepth 100000 in
set_option maxHeartbeats 1000000 in
theorem ok_i_absolute {n1 : Int} {r : Int} (hm : i_absolute n1 = some r) (w : World)  :
    Calls Try.prog 84 #[.int .i64 n1] w (Ret (cx w) (.int .i64 r)) := by
  unfold i_absolute at hm
  refine Calls.enter [.int .i64 n1] Try.func84 rfl Try.ntmps84 rfl ?_
  refine WJ.seq ?_
  refine WJ.quiet ?_
  refine QJ.step (YldS.yld (y_assign rfl)) rfl ?_
  refine QJ.done ?_
  refine PJ.next ?_
  refine WJ.seq ?_
  refine WJ.seq ?_
  refine WJ.quiet ?_
  refine QJ.step (YldS.yld (y_move rfl)) rfl ?_
  refine QJ.step (YldS.yld (y_bin rfl rfl rfl)) rfl ?_
  refine QJ.done ?_
  refine PJ.next ?_
  refine WJ.cond (t := decide (n1 < 0)) rfl (fun hb2 => ?_) (fun hb2 => ?_)
  · replace hm := ifT hm hb2
    refine WJ.seq ?_
    refine WJ.quiet ?_
    refine QJ.step (YldS.yld (y_move rfl)) rfl ?_
    refine QJ.step (YldS.yld (y_neg rfl)) rfl ?_
    refine QJ.step (YldS.yld (y_assign rfl)) rfl ?_
    refine QJ.done ?_
    refine PJ.next ?_
    refine WJ.ret ?_
    refine PJ.then_ret ?_
    obtain rfl := Option.some.inj hm
    refine PJ.sel (L' := []) [] ⟨List.nodup_nil, rfl⟩ ?_
    exact PJ.retn (vs := [.int .i64 (w64 (0 - n1))]) Try.results84 ⟨rfl, trivial⟩ ⟨rfl, rfl⟩
  · replace hm := ifF hm hb2
    refine WJ.skip ?_
    refine PJ.next ?_
    refine WJ.seq ?_
    refine WJ.quiet ?_
    refine QJ.step (YldS.yld (y_move rfl)) rfl ?_
    refine QJ.step (YldS.yld (y_assign rfl)) rfl ?_
    refine QJ.done ?_
    refine PJ.next ?_
    refine WJ.ret ?_
    obtain rfl := Option.some.inj hm
    refine PJ.sel (L' := []) [] ⟨List.nodup_nil, rfl⟩ ?_
    exact PJ.retn (vs := [.int .i64 n1]) Try.results84 ⟨rfl, trivial⟩ ⟨rfl, rfl⟩

set_option maxRecDepth 100000 in
set_option maxHeartbeats 1000000 in
theorem ok_i_Place_isLeft {p1 : Place} {r : Bool} (hm : i_Place_isLeft p1 = some r) (w : World)  :
    Calls Try.prog 63 #[.agg (Place.enc p1).toArray] w (Ret (cx w) (.bool r)) := by
  unfold i_Place_isLeft at hm
  refine Calls.enter [.agg (Place.enc p1).toArray] Try.func63 rfl Try.ntmps63 rfl ?_
  refine WJ.seq ?_
  refine WJ.reg ?_
  refine SJ.box (cs := [.int .i64 p1.finger, .int .i64 p1.row, .int .i64 p1.effort]) rfl rfl rfl fun g2 => ?_
  refine SJ.q (YldS.yld (y_assign rfl)) rfl ?_
  refine SJ.nil ?_
  refine PJ.next ?_
  refine WJ.seq ?_
  refine WJ.quiet ?_
  refine QJ.step (YldS.yld (y_fldB (o := 0) fld55_0 rfl)) rfl ?_
  refine QJ.step (YldS.yld (y_loadB (k := 0) (off := 0) (v := .int .i64 p1.finger) rfl Try.isAgg2 rfl rfl)) rfl ?_
  refine QJ.step (YldS.yld (y_bin rfl rfl rfl)) rfl ?_
  refine QJ.step (YldS.yld (y_assign rfl)) rfl ?_
  refine QJ.done ?_
  refine PJ.next ?_
  refine WJ.ret ?_
  obtain rfl := Option.some.inj hm
  refine PJ.sel (L' := []) [] ⟨List.nodup_nil, rfl⟩ ?_
  exact PJ.retn (vs := [.bool (decide (p1.finger ≤ 3))]) Try.results63 ⟨rfl, trivial⟩ ⟨rfl, rfl⟩

set_option maxRecDepth 100000 in
set_option maxHeartbeats 1000000 in
theorem ok_i_strokeCost {list1 : List Place} {before4 : Int} {now5 : Int} {r : Int} (hm : i_strokeCost list1 before4 now5 = some r) (w : World) (v2 : Value) (hr3 : RdS w (cx w).Fz v2 fPlace.rp list1) :
    Calls Try.prog 65 #[v2, .int .i64 before4, .int .i64 now5] w (Ret (cx w) (.int .i64 r)) := by
  unfold i_strokeCost at hm
  refine Calls.enter [v2, .int .i64 before4, .int .i64 now5] Try.func65 rfl Try.ntmps65 rfl ?_
  refine WJ.seq ?_
  refine WJ.quiet ?_
  refine QJ.step (YldS.yld (y_assign rfl)) rfl ?_
  refine QJ.done ?_
  refine PJ.next ?_
  refine WJ.seq ?_
  obtain ⟨e6, h7, hm⟩ := bindS hm
  obtain ⟨ad8, _, rfl, ha9, hy10⟩ := hr3.elem h7
  obtain ⟨e11, h12, hm⟩ := bindS hm
  obtain ⟨ad13, _, rfl, ha14, hy15⟩ := hr3.elem h12
  refine WJ.draws (N := 12) (listed0 := #[false, false, false, false, false, false, false, false, false, false, false, false]) [] follows rfl rfl ?_
  refine RJ.first 0 (listed' := #[true, false, false, false, false, false, false, false, false, false, false, false]) [] rfl (by kernel_rfl) rfl ⟨List.nodup_nil, rfl⟩ (y_move rfl) rfl ?_
  refine RJ.first 1 (listed' := #[true, true, false, false, false, false, false, false, false, false, false, false]) [] rfl (by kernel_rfl) rfl ⟨List.nodup_nil, rfl⟩ (y_move rfl) rfl ?_
  refine RJ.first 2 (listed' := #[true, true, true, false, false, false, false, false, false, false, false, false]) [] rfl (by kernel_rfl) rfl ⟨List.nodup_nil, rfl⟩ (hy10 Try.runUnderlying42 Try.sizeOf55 rfl rfl) rfl ?_
  refine RJ.first 3 (listed' := #[true, true, true, true, false, false, false, false, false, false, false, false]) [] rfl (by kernel_rfl) rfl ⟨List.nodup_nil, rfl⟩ (y_loadN Try.isAgg55 Try.sizeOf55 rfl ha9 St.frozenC rfl) rfl ?_
  refine RJ.first 4 (listed' := #[true, true, true, true, true, false, false, false, false, false, false, false]) [] rfl (by kernel_rfl) rfl ⟨List.nodup_nil, rfl⟩ (y_move rfl) rfl ?_
  refine RJ.first 5 (listed' := #[true, true, true, true, true, true, false, false, false, false, false, false]) [] rfl (by kernel_rfl) rfl ⟨List.nodup_nil, rfl⟩ (y_move rfl) rfl ?_
  refine RJ.first 6 (listed' := #[true, true, true, true, true, true, true, false, false, false, false, false]) [] rfl (by kernel_rfl) rfl ⟨List.nodup_nil, rfl⟩ (hy15 Try.runUnderlying42 Try.sizeOf55 rfl rfl) rfl ?_
  refine RJ.first 7 (listed' := #[true, true, true, true, true, true, true, true, false, false, false, false]) [] rfl (by kernel_rfl) rfl ⟨List.nodup_nil, rfl⟩ (y_loadN Try.isAgg55 Try.sizeOf55 rfl ha14 St.frozenC rfl) rfl ?_
  refine RJ.hold (X := Nat × Nat) 2 #[true, true, true, true, true, true, true, true, true, true, false, false] (fun (x : Nat × Nat) => [(1, .int .i64 before4), (2, .int .i64 now5), (7, pt x.2 0), (8, pt x.1 0), (12, .agg (Place.enc e6).toArray), (16, .agg (Place.enc e11).toArray)]) (fun (x : Nat × Nat) => [box x.1 55 [.int .i64 0, .int .i64 0, .int .i64 0], box x.2 55 [.int .i64 0, .int .i64 0, .int .i64 0]]) ?_ ?_
  · rintro ⟨g17, g16⟩
    refine RJ.step1 10 [] (by kernel_rfl) ⟨List.nodup_nil, rfl⟩ ?_
    refine RO.of (listed' := #[true, true, true, true, true, true, true, true, true, true, true, false]) rfl rfl ?_
    refine SJ.storeL (k := 1) (off := 0) (us := [.int .i64 e6.finger, .int .i64 e6.row, .int .i64 e6.effort]) rfl rfl rfl rfl Try.sizeOf55 rfl rfl ?_
    refine SJ.nil ?_
    refine PJ.draw ?_
    refine RJ.step1 11 [] (by kernel_rfl) ⟨List.nodup_nil, rfl⟩ ?_
    refine RO.of (listed' := #[true, true, true, true, true, true, true, true, true, true, true, true]) rfl rfl ?_
    refine SJ.storeL (k := 0) (off := 0) (us := [.int .i64 e11.finger, .int .i64 e11.row, .int .i64 e11.effort]) rfl rfl rfl rfl Try.sizeOf55 rfl rfl ?_
    refine SJ.nil ?_
    refine PJ.draw ?_
    refine RJ.fin [] (by kernel_rfl) ⟨List.nodup_nil, rfl⟩ ?_
    refine PJ.next ?_
    refine WJ.seq ?_
    refine WJ.block ?_
    refine WJ.seq ?_
    refine WJ.quiet ?_
    refine QJ.step (YldS.yld (y_move rfl)) rfl ?_
    refine QJ.step (YldS.yld (y_move rfl)) rfl ?_
    refine QJ.step (YldS.yld (y_bin rfl rfl rfl)) rfl ?_
    refine QJ.step (YldS.yld (y_assign rfl)) rfl ?_
    refine QJ.done ?_
    refine PJ.next ?_
    refine WJ.cond (t := (before4 == now5)) rfl (fun hb19 => ?_) (fun hb19 => ?_)
    · replace hm := ifT hm hb19
      refine WJ.seq ?_
      refine WJ.quiet ?_
      refine QJ.step (YldS.yld (y_fldB (o := 0) fld55_2 rfl)) rfl ?_
      refine QJ.step (YldS.yld (y_loadB (k := 0) (off := 2) (v := .int .i64 e11.effort) rfl Try.isAgg2 rfl rfl)) rfl ?_
      refine QJ.step (YldS.yld (y_assign rfl)) rfl ?_
      refine QJ.done ?_
      refine PJ.next ?_
      refine WJ.ret ?_
      refine PJ.block_ret (PJ.then_ret ?_)
      obtain rfl := Option.some.inj hm
      refine PJ.sel (L' := []) [] ⟨List.nodup_nil, rfl⟩ ?_
      exact PJ.retn (vs := [.int .i64 e11.effort]) Try.results65 ⟨rfl, trivial⟩ ⟨rfl, rfl⟩
    · replace hm := ifF hm hb19
      refine WJ.seq ?_
      refine WJ.quiet ?_
      refine QJ.step (YldS.yld (y_fldB (o := 0) fld55_0 rfl)) rfl ?_
      refine QJ.step (YldS.yld (y_loadB (k := 1) (off := 0) (v := .int .i64 e6.finger) rfl Try.isAgg2 rfl rfl)) rfl ?_
      refine QJ.step (YldS.yld (y_fldB (o := 0) fld55_0 rfl)) rfl ?_
      refine QJ.step (YldS.yld (y_loadB (k := 0) (off := 0) (v := .int .i64 e11.finger) rfl Try.isAgg2 rfl rfl)) rfl ?_
      refine QJ.step (YldS.yld (y_bin rfl rfl rfl)) rfl ?_
      refine QJ.step (YldS.yld (y_assign rfl)) rfl ?_
      refine QJ.done ?_
      refine PJ.next ?_
      refine WJ.cond (t := (e6.finger == e11.finger)) rfl (fun hb20 => ?_) (fun hb20 => ?_)
      · replace hm := ifT hm hb20
        refine WJ.seq ?_
        refine WJ.quiet_draw follows (by kernel_rfl) ?_
        refine QJ.step (YldS.yld (y_fldB (o := 0) fld55_2 rfl)) rfl ?_
        refine QJ.step (YldS.yld (y_loadB (k := 0) (off := 2) (v := .int .i64 e11.effort) rfl Try.isAgg2 rfl rfl)) rfl ?_
        refine QJ.step (YldS.yld (y_bin rfl rfl rfl)) rfl ?_
        refine QJ.step (YldS.yld (y_fldB (o := 0) fld55_1 rfl)) rfl ?_
        refine QJ.step (YldS.yld (y_loadB (k := 1) (off := 1) (v := .int .i64 e6.row) rfl Try.isAgg2 rfl rfl)) rfl ?_
        refine QJ.step (YldS.yld (y_fldB (o := 0) fld55_1 rfl)) rfl ?_
        refine QJ.step (YldS.yld (y_loadB (k := 0) (off := 1) (v := .int .i64 e11.row) rfl Try.isAgg2 rfl rfl)) rfl ?_
        refine QJ.step (YldS.yld (y_bin rfl rfl rfl)) rfl ?_
        obtain ⟨r21, h22, hm⟩ := bindS hm
        refine QJ.step (y_call Try.call84 rfl (RetG.quiet fun w hw => ok_i_absolute h22 w )) rfl ?_
        refine QJ.step (YldS.yld (y_bin rfl rfl rfl)) rfl ?_
        refine QJ.step (YldS.yld (y_bin rfl rfl rfl)) rfl ?_
        refine QJ.step (YldS.yld (y_assign rfl)) rfl ?_
        refine QJ.done ?_
        refine PJ.next ?_
        refine WJ.ret ?_
        refine PJ.block_ret (PJ.then_ret ?_)
        obtain rfl := Option.some.inj hm
        refine PJ.sel (L' := []) [] ⟨List.nodup_nil, rfl⟩ ?_
        exact PJ.retn (vs := [.int .i64 (w64 ((w64 (e11.effort + 10)) + (w64 (5 * r21))))]) Try.results65 ⟨rfl, trivial⟩ ⟨rfl, rfl⟩
      · replace hm := ifF hm hb20
        refine WJ.seq ?_
        refine WJ.quiet_draw follows (by kernel_rfl) ?_
        refine QJ.step (YldS.yld (y_loadBN (k := 1) (off := 0) (us := [.int .i64 e6.finger, .int .i64 e6.row, .int .i64 e6.effort]) rfl Try.isAgg55 Try.sizeOf55 rfl rfl)) rfl ?_
        obtain ⟨r23, h24, hm⟩ := bindS hm
        refine QJ.step (y_call Try.call63 rfl (RetG.quiet fun w hw => ok_i_Place_isLeft h24 w )) rfl ?_
        refine QJ.step (YldS.yld (y_loadBN (k := 0) (off := 0) (us := [.int .i64 e11.finger, .int .i64 e11.row, .int .i64 e11.effort]) rfl Try.isAgg55 Try.sizeOf55 rfl rfl)) rfl ?_
        obtain ⟨r25, h26, hm⟩ := bindS hm
        refine QJ.step (y_call Try.call63 rfl (RetG.quiet fun w hw => ok_i_Place_isLeft h26 w )) rfl ?_
        refine QJ.step (YldS.yld (y_eqB Try.underlying4 rfl rfl rfl)) rfl ?_
        refine QJ.step (YldS.yld (y_assign rfl)) rfl ?_
        refine QJ.done ?_
        refine PJ.next ?_
        refine WJ.cond (t := (r23 == r25)) rfl (fun hb27 => ?_) (fun hb27 => ?_)
        · replace hm := ifT hm hb27
          refine WJ.seq ?_
          refine WJ.quiet ?_
          refine QJ.step (YldS.yld (y_fldB (o := 0) fld55_2 rfl)) rfl ?_
          refine QJ.step (YldS.yld (y_loadB (k := 0) (off := 2) (v := .int .i64 e11.effort) rfl Try.isAgg2 rfl rfl)) rfl ?_
          refine QJ.step (YldS.yld (y_bin rfl rfl rfl)) rfl ?_
          refine QJ.step (YldS.yld (y_assign rfl)) rfl ?_
          refine QJ.done ?_
          refine PJ.next ?_
          refine WJ.ret ?_
          refine PJ.block_ret (PJ.then_ret ?_)
          obtain rfl := Option.some.inj hm
          refine PJ.sel (L' := []) [] ⟨List.nodup_nil, rfl⟩ ?_
          exact PJ.retn (vs := [.int .i64 (w64 (e11.effort + 2))]) Try.results65 ⟨rfl, trivial⟩ ⟨rfl, rfl⟩
        · replace hm := ifF hm hb27
          refine WJ.skip ?_
          refine PJ.block_normal (PJ.next ?_)
          refine WJ.seq ?_
          refine WJ.quiet ?_
          refine QJ.step (YldS.yld (y_fldB (o := 0) fld55_2 rfl)) rfl ?_
          refine QJ.step (YldS.yld (y_loadB (k := 0) (off := 2) (v := .int .i64 e11.effort) rfl Try.isAgg2 rfl rfl)) rfl ?_
          refine QJ.step (YldS.yld (y_assign rfl)) rfl ?_
          refine QJ.done ?_
          refine PJ.next ?_
          refine WJ.ret ?_
          obtain rfl := Option.some.inj hm
          refine PJ.sel (L' := []) [] ⟨List.nodup_nil, rfl⟩ ?_
          exact PJ.retn (vs := [.int .i64 e11.effort]) Try.results65 ⟨rfl, trivial⟩ ⟨rfl, rfl⟩
  · intro hD18
    refine RJ.step2 8 9 [] (by kernel_rfl) ⟨List.nodup_nil, rfl⟩ ?_ ?_
    · refine RO.of (listed' := #[true, true, true, true, true, true, true, true, true, false, false, false]) rfl rfl ?_
      refine SJ.alloc (cs := [.int .i64 0, .int .i64 0, .int .i64 0]) Try.zeroValue55 rfl rfl fun g16 => ?_
      refine SJ.nil ?_
      refine PJ.draw ?_
      refine RJ.step1 9 [] (by kernel_rfl) ⟨List.nodup_nil, rfl⟩ ?_
      refine RO.of (listed' := #[true, true, true, true, true, true, true, true, true, true, false, false]) rfl rfl ?_
      refine SJ.alloc (cs := [.int .i64 0, .int .i64 0, .int .i64 0]) Try.zeroValue55 rfl rfl fun g17 => ?_
      refine SJ.nil ?_
      refine PJ.draw ?_
      exact RJ.weak (hD18 (g17, g16)) [0, 1] ⟨rfl, rfl, rfl, rfl, rfl, rfl, trivial⟩ ⟨by decide, rfl⟩
    · refine RO.of (listed' := #[true, true, true, true, true, true, true, true, false, true, false, false]) rfl rfl ?_
      refine SJ.alloc (cs := [.int .i64 0, .int .i64 0, .int .i64 0]) Try.zeroValue55 rfl rfl fun g17 => ?_
      refine SJ.nil ?_
      refine PJ.draw ?_
      refine RJ.step1 8 [] (by kernel_rfl) ⟨List.nodup_nil, rfl⟩ ?_
      refine RO.of (listed' := #[true, true, true, true, true, true, true, true, true, true, false, false]) rfl rfl ?_
      refine SJ.alloc (cs := [.int .i64 0, .int .i64 0, .int .i64 0]) Try.zeroValue55 rfl rfl fun g16 => ?_
      refine SJ.nil ?_
      refine PJ.draw ?_
      exact RJ.weak (hD18 (g17, g16)) [1, 0] ⟨rfl, rfl, rfl, rfl, rfl, rfl, trivial⟩ ⟨by decide, rfl⟩

set_option maxRecDepth 100000 in
set_option maxHeartbeats 1000000 in
theorem ok_i_placesCost {N : Nat} {list1 : List Place} {places4 : List Int} {r : Int} (hm : i_placesCost N list1 places4 = some r) (w : World) (v2 : Value) (hr3 : RdS w (cx w).Fz v2 fPlace.rp list1) (v5 : Value) (hr6 : RdS w (cx w).Fz v5 fI64.rp places4) :
    Calls Try.prog 59 #[v2, v5] w (Ret (cx w) (.int .i64 r)) := by
  unfold i_placesCost at hm
  refine Calls.enter [v2, v5] Try.func59 rfl Try.ntmps59 rfl ?_
  refine WJ.seq ?_
  refine WJ.quiet ?_
  refine QJ.step (YldS.yld (y_assign rfl)) rfl ?_
  refine QJ.done ?_
  refine PJ.next ?_
  refine WJ.seq ?_
  refine WJ.quiet ?_
  refine QJ.step (YldS.yld (y_assign rfl)) rfl ?_
  refine QJ.done ?_
  refine PJ.next ?_
  obtain ⟨kj8, hk9, hm⟩ := withK_open hm
  refine WJ.join (X := Int) (fun (x : Int) => kj8 x = some r) (fun (x : Int) => [(5, .int .i64 x)]) (fun (x : Int) => []) ?_ ?_
  · clear hk9
    refine WJ.seq ?_
    refine WJ.quiet ?_
    refine QJ.step (YldS.yld (y_move rfl)) rfl ?_
    refine QJ.step (YldS.yld (y_lenS Try.runUnderlying27 hr6 rfl)) rfl ?_
    refine QJ.step (YldS.yld (y_move rfl)) rfl ?_
    refine QJ.done ?_
    refine PJ.next ?_
    refine WJ.block ?_
    refine WJ.sel (L' := (fun (x : Int × Int) => []) (0, 0)) [] ⟨List.nodup_nil, rfl⟩ ?_
    refine WJ.sub (m' := (fun (x : Int × Int) => [(0, v2), (1, v5), (5, .int .i64 x.1), (8, v5), (9, .int .i64 (List.length places4 : Int)), (10, .int .i64 x.2)]) (0, 0)) ⟨rfl, rfl, rfl, rfl, rfl, rfl, trivial⟩ ?_
    refine WJ.loop (X := Int × Int) (fun N (x : Int × Int) => i_placesCost_l1 kj8 list1 places4 N x.1 x.2 = some r) (fun (x : Int × Int) => [(0, v2), (1, v5), (5, .int .i64 x.1), (8, v5), (9, .int .i64 (List.length places4 : Int)), (10, .int .i64 x.2)]) (fun (x : Int × Int) => []) ?_ N (0, 0) hm
    · rintro N ⟨sum10, x11⟩ hI
      have hm := hI; clear hI
      cases N with
      | zero => cases hm
      | succ N =>
      unfold i_placesCost_l1 at hm
      refine WJ.seq ?_
      refine WJ.quiet ?_
      refine QJ.step (YldS.yld (y_bin rfl rfl rfl)) rfl ?_
      refine QJ.done ?_
      refine PJ.next ?_
      refine WJ.seq ?_
      refine WJ.cond (t := decide (x11 < (List.length places4 : Int))) rfl (fun hb12 => ?_) (fun hb12 => ?_)
      · replace hm := ifT hm hb12
        refine WJ.skip ?_
        refine PJ.next ?_
        obtain ⟨kj14, hk15, hm⟩ := withK_open hm
        refine WJ.join (X := Int) (fun (x : Int) => kj14 x = some r) (fun (x : Int) => [(0, v2), (1, v5), (5, .int .i64 x), (8, v5), (9, .int .i64 (List.length places4 : Int)), (10, .int .i64 x11)]) (fun (x : Int) => []) ?_ ?_
        · clear hk15
          refine WJ.block ?_
          refine WJ.seq ?_
          refine WJ.quiet ?_
          refine QJ.step (YldS.yld (y_move rfl)) rfl ?_
          obtain ⟨e16, h17, hm⟩ := bindS hm
          obtain ⟨ad18, _, rfl, ha19, hy20⟩ := hr6.elem h17
          refine QJ.step (YldS.yld (hy20 Try.runUnderlying27 Try.sizeOf2 rfl rfl)) rfl ?_
          refine QJ.step (YldS.yld (y_load1 (v := .int .i64 e16) Try.isAgg2 ha19 St.frozenC rfl)) rfl ?_
          refine QJ.step (YldS.yld (y_assign rfl)) rfl ?_
          refine QJ.step (YldS.yld (y_assign rfl)) rfl ?_
          refine QJ.done ?_
          refine PJ.next ?_
          refine WJ.seq ?_
          refine WJ.quiet ?_
          refine QJ.step (YldS.yld (y_move rfl)) rfl ?_
          refine QJ.step (YldS.yld (y_bin rfl rfl rfl)) rfl ?_
          refine QJ.done ?_
          refine PJ.next ?_
          refine WJ.cond (t := (x11 == 0)) rfl (fun hb21 => ?_) (fun hb21 => ?_)
          · replace hm := ifT hm hb21
            refine WJ.quiet ?_
            refine QJ.step (YldS.yld (y_move rfl)) rfl ?_
            refine QJ.step (YldS.yld (y_move rfl)) rfl ?_
            refine QJ.step (YldS.yld (y_move rfl)) rfl ?_
            obtain ⟨e22, h23, hm⟩ := bindS hm
            obtain ⟨ad24, _, rfl, ha25, hy26⟩ := hr3.elem h23
            refine QJ.step (YldS.yld (hy26 Try.runUnderlying42 Try.sizeOf55 rfl rfl)) rfl ?_
            refine QJ.step (YldS.yld (y_fld (ad := ad24) fld55_2 rfl)) rfl ?_
            refine QJ.step (YldS.yld (y_load1 (v := .int .i64 e22.effort) Try.isAgg2 (ha25.sub 2 1) St.frozenC rfl)) rfl ?_
            refine QJ.step (YldS.yld (y_bin rfl rfl rfl)) rfl ?_
            refine QJ.step (YldS.yld (y_assign rfl)) rfl ?_
            refine QJ.done ?_
            refine PJ.block_normal ?_
            exact PJ.joined (w64 (sum10 + e22.effort)) [] hm ⟨rfl, rfl, rfl, rfl, rfl, rfl, trivial⟩ ⟨List.nodup_nil, rfl⟩
          · replace hm := ifF hm hb21
            refine WJ.quiet ?_
            refine QJ.step (YldS.yld (y_move rfl)) rfl ?_
            refine QJ.step (YldS.yld (y_move rfl)) rfl ?_
            refine QJ.step (YldS.yld (y_move rfl)) rfl ?_
            refine QJ.step (YldS.yld (y_move rfl)) rfl ?_
            refine QJ.step (YldS.yld (y_bin rfl rfl rfl)) rfl ?_
            obtain ⟨e27, h28, hm⟩ := bindS hm
            obtain ⟨ad29, _, rfl, ha30, hy31⟩ := hr6.elem h28
            refine QJ.step (YldS.yld (hy31 Try.runUnderlying27 Try.sizeOf2 rfl rfl)) rfl ?_
            refine QJ.step (YldS.yld (y_load1 (v := .int .i64 e27) Try.isAgg2 ha30 St.frozenC rfl)) rfl ?_
            refine QJ.step (YldS.yld (y_move rfl)) rfl ?_
            obtain ⟨r32, h33, hm⟩ := bindS hm
            refine QJ.step (y_call Try.call65 rfl (RetG.quiet fun w hw => ok_i_strokeCost h33 w _ (hr3.st hw))) rfl ?_
            refine QJ.step (YldS.yld (y_bin rfl rfl rfl)) rfl ?_
            refine QJ.step (YldS.yld (y_assign rfl)) rfl ?_
            refine QJ.done ?_
            refine PJ.block_normal ?_
            exact PJ.joined (w64 (sum10 + r32)) [] hm ⟨rfl, rfl, rfl, rfl, rfl, rfl, trivial⟩ ⟨List.nodup_nil, rfl⟩
        · rintro sum13 hm
          subst hk15
          refine WJ.quiet ?_
          refine QJ.step (YldS.yld (y_bin rfl rfl rfl)) rfl ?_
          refine QJ.step (YldS.yld (y_move rfl)) rfl ?_
          refine QJ.done ?_
          exact PJ.round (sum13, w64 (x11 + 1)) [] hm ⟨rfl, rfl, rfl, rfl, rfl, rfl, trivial⟩ ⟨List.nodup_nil, rfl⟩
      · replace hm := ifF hm hb12
        refine WJ.exit ?_
        refine PJ.then_exit (PJ.then_exit (PJ.block_exit ?_))
        exact PJ.joined sum10 [] hm ⟨rfl, trivial⟩ ⟨List.nodup_nil, rfl⟩
  · rintro sum7 hm
    subst hk9
    refine WJ.seq ?_
    refine WJ.quiet ?_
    refine QJ.step (YldS.yld (y_move rfl)) rfl ?_
    refine QJ.step (YldS.yld (y_assign rfl)) rfl ?_
    refine QJ.done ?_
    refine PJ.next ?_
    refine WJ.ret ?_
    obtain rfl := Option.some.inj hm
    refine PJ.sel (L' := []) [] ⟨List.nodup_nil, rfl⟩ ?_
    exact PJ.retn (vs := [.int .i64 sum7]) Try.results59 ⟨rfl, trivial⟩ ⟨rfl, rfl⟩

set_option maxRecDepth 100000 in
set_option maxHeartbeats 1000000 in
theorem ok_i_TextCost {N : Nat} {list1 : List Place} {layout4 : Str} {text5 : Str} {r : Int × Int} (hm : i_TextCost N list1 layout4 text5 = some r) (w : World) (v2 : Value) (hr3 : RdS w (cx w).Fz v2 fPlace.rp list1) :
    Calls Try.prog 20 #[v2, str layout4, str text5] w (Ret (cx w) (tup [.int .i64 r.1, .int .i64 r.2])) := by
  unfold i_TextCost at hm
  refine Calls.enter [v2, str layout4, str text5] Try.func20 rfl Try.ntmps20 rfl ?_
  refine WJ.seq ?_
  refine WJ.quiet ?_
  refine QJ.step (YldS.yld (y_assign rfl)) rfl ?_
  refine QJ.step (YldS.yld (y_assign rfl)) rfl ?_
  refine QJ.done ?_
  refine PJ.next ?_
  refine WJ.seq ?_
  refine WJ.reg ?_
  refine SJ.q (YldS.yld (y_move rfl)) rfl ?_
  refine SJ.q (YldS.yld (y_move rfl)) rfl ?_
  refine SJ.q (YldS.yld (y_move rfl)) rfl ?_
  obtain ⟨r6, h7, hm⟩ := bindS hm
  refine SJ.call Try.call58 rfl (fun w hw => ok_i_strokesOf h7 w _ (hr3.st hw)) rfl ?_
  rintro _ _ ⟨v8, rfl, rfl⟩
  refine SJ.q (YldS.yld (y_move rfl)) rfl ?_
  refine SJ.q (YldS.yld (y_extract rfl rfl)) rfl ?_
  refine SJ.q (YldS.yld (y_extract rfl rfl)) rfl ?_
  refine SJ.q (YldS.yld (y_assign rfl)) rfl ?_
  refine SJ.q (YldS.yld (y_assign rfl)) rfl ?_
  refine SJ.nil ?_
  refine PJ.next ?_
  refine WJ.seq ?_
  refine WJ.seq ?_
  refine WJ.quiet ?_
  refine QJ.step (YldS.yld (y_move rfl)) rfl ?_
  refine QJ.step (YldS.yld (y_bin rfl rfl rfl)) rfl ?_
  refine QJ.done ?_
  refine PJ.next ?_
  refine WJ.cond (t := (r6.2 != 0)) rfl (fun hb9 => ?_) (fun hb9 => ?_)
  · replace hm := ifT hm hb9
    refine WJ.seq ?_
    refine WJ.quiet ?_
    refine QJ.step (YldS.yld (y_move rfl)) rfl ?_
    refine QJ.step (YldS.yld (y_assign rfl)) rfl ?_
    refine QJ.step (YldS.yld (y_assign rfl)) rfl ?_
    refine QJ.done ?_
    refine PJ.next ?_
    refine WJ.ret ?_
    refine PJ.then_ret ?_
    obtain rfl := Option.some.inj hm
    refine PJ.sel (L' := []) [] ⟨List.nodup_nil, rfl⟩ ?_
    exact PJ.retn (vs := [.int .i64 0, .int .i64 r6.2]) Try.results20 ⟨rfl, rfl, trivial⟩ ⟨rfl, rfl⟩
  · replace hm := ifF hm hb9
    refine WJ.skip ?_
    refine PJ.next ?_
    refine WJ.seq ?_
    refine WJ.quiet ?_
    refine QJ.step (YldS.yld (y_move rfl)) rfl ?_
    refine QJ.step (YldS.yld (y_move rfl)) rfl ?_
    obtain ⟨r10, h11, hm⟩ := bindS hm
    refine QJ.step (y_call Try.call59 rfl (RetG.quiet fun w hw => ok_i_placesCost h11 w _ (hr3.st hw) _ (hw.row_rd (k := 0) rfl))) rfl ?_
    refine QJ.step (YldS.yld (y_assign rfl)) rfl ?_
    refine QJ.step (YldS.yld (y_assign rfl)) rfl ?_
    refine QJ.done ?_
    refine PJ.next ?_
    refine WJ.ret ?_
    obtain rfl := Option.some.inj hm
    refine PJ.sel (L' := []) [] ⟨List.nodup_nil, rfl⟩ ?_
    exact PJ.retn (vs := [.int .i64 r10, .int .i64 0]) Try.results20 ⟨rfl, rfl, trivial⟩ ⟨rfl, rfl⟩

set_option maxRecDepth 100000 in
set_option maxHeartbeats 1000000 in
theorem okx_i_BestLayout_c1 {i1 : Int} {k2 : Int} {x3 : List Int} {r : Bool} (hm : i_BestLayout_c1 i1 k2 x3 = some r) (w : World) (ad4 : Addr) (v6 : Value) (ha5 : At w (cx w).Fz ad4 [v6]) (hr7 : RdS w (cx w).Fz v6 fI64.rp x3) :
    Calls Try.prog 60 #[.int .i64 i1, .int .i64 k2, .pointer (some ad4)] w (RetD w (.bool r)) := by
  unfold i_BestLayout_c1 at hm
  refine Calls.enterX [.int .i64 i1, .int .i64 k2, .pointer (some ad4)] Try.func60 rfl Try.ntmps60 rfl ?_
  refine WX.seq ?_
  refine WX.quiet ?_
  refine QJ.step (YldS.yld (YldS.still (y_assign rfl))) rfl ?_
  refine QJ.doneX ?_
  refine PX.next ?_
  refine WX.seq ?_
  refine WX.quiet_draw follows (by kernel_rfl) ?_
  refine QJ.step (YldS.yld (YldS.still (y_load1 (v := v6) Try.isAgg27 ha5 St.frozenC rfl))) rfl ?_
  refine QJ.step (YldS.yld (YldS.still (y_move rfl))) rfl ?_
  obtain ⟨e8, h9, hm⟩ := bindS hm
  obtain ⟨ad10, _, rfl, ha11, hy12⟩ := hr7.elem h9
  refine QJ.step (YldS.yld (YldS.still (hy12 Try.runUnderlying27 Try.sizeOf2 rfl rfl))) rfl ?_
  refine QJ.step (YldS.yld (YldS.still (y_load1 (v := .int .i64 e8) Try.isAgg2 ha11 St.frozenC rfl))) rfl ?_
  refine QJ.step (YldS.yld (YldS.still (y_load1 (v := v6) Try.isAgg27 ha5 St.frozenC rfl))) rfl ?_
  refine QJ.step (YldS.yld (YldS.still (y_move rfl))) rfl ?_
  obtain ⟨e13, h14, hm⟩ := bindS hm
  obtain ⟨ad15, _, rfl, ha16, hy17⟩ := hr7.elem h14
  refine QJ.step (YldS.yld (YldS.still (hy17 Try.runUnderlying27 Try.sizeOf2 rfl rfl))) rfl ?_
  refine QJ.step (YldS.yld (YldS.still (y_load1 (v := .int .i64 e13) Try.isAgg2 ha16 St.frozenC rfl))) rfl ?_
  refine QJ.step (YldS.yld (YldS.still (y_bin rfl rfl rfl))) rfl ?_
  refine QJ.step (YldS.yld (YldS.still (y_assign rfl))) rfl ?_
  refine QJ.doneX ?_
  refine PX.next ?_
  refine WX.ret ?_
  obtain rfl := Option.some.inj hm
  exact PX.retn (vs := [.bool (decide (e8 < e13))]) Try.results60 ⟨rfl, trivial⟩

set_option maxRecDepth 100000 in
set_option maxHeartbeats 1000000 in
theorem ok_i_nextPermutation {N : Nat} {list1 : List Int} {v2 : Value} {r : Bool × (List Int)} (hm : i_nextPermutation N list1 = some r) (w : World) (S : Nat → Prop)  (hA : (row v2 2 fI64 list1).holds w S) :
    Calls Try.prog 62 #[v2] w (RetG ⟨w, S⟩ fun u L => (u = .bool r.1 ∧ L = [row v2 2 fI64 r.2])) := by
  unfold i_nextPermutation at hm
  refine Calls.enter1 hA [v2] Try.func62 rfl Try.ntmps62 rfl ?_
  refine WJ.seq ?_
  refine WJ.quiet ?_
  refine QJ.step (YldS.yld (y_assign rfl)) rfl ?_
  refine QJ.done ?_
  refine PJ.next ?_
  refine WJ.seq ?_
  refine WJ.quiet ?_
  refine QJ.step (YldS.yld (y_move rfl)) rfl ?_
  refine QJ.step (YldS.yld (y_lenRow (k := 0) rfl Try.runUnderlying27 rfl)) rfl ?_
  refine QJ.step (YldS.yld (y_bin rfl rfl rfl)) rfl ?_
  refine QJ.step (YldS.yld (y_assign rfl)) rfl ?_
  refine QJ.done ?_
  refine PJ.next ?_
  obtain ⟨kj4, hk5, hm⟩ := withK_open hm
  refine WJ.join (X := Int) (fun (x : Int) => kj4 x = some r) (fun (x : Int) => [(0, v2), (3, .int .i64 x)]) (fun (x : Int) => [row v2 2 fI64 list1]) ?_ ?_
  · clear hk5
    refine WJ.block ?_
    refine WJ.sel (L' := (fun (x : Int) => [row v2 2 fI64 list1]) (w64 ((List.length list1 : Int) - 2))) [0] ⟨by decide, rfl⟩ ?_
    refine WJ.sub (m' := (fun (x : Int) => [(0, v2), (3, .int .i64 x)]) (w64 ((List.length list1 : Int) - 2))) ⟨rfl, rfl, trivial⟩ ?_
    refine WJ.loop (X := Int) (fun N (x : Int) => i_nextPermutation_l1 kj4 list1 N x = some r) (fun (x : Int) => [(0, v2), (3, .int .i64 x)]) (fun (x : Int) => [row v2 2 fI64 list1]) ?_ N (w64 ((List.length list1 : Int) - 2)) hm
    · rintro N i6 hI
      have hm := hI; clear hI
      cases N with
      | zero => cases hm
      | succ N =>
      unfold i_nextPermutation_l1 at hm
      refine WJ.seq ?_
      refine WJ.seq ?_
      refine WJ.quiet_draw follows (by kernel_rfl) ?_
      refine QJ.step (YldS.yld (y_move rfl)) rfl ?_
      refine QJ.step (YldS.yld (y_bin rfl rfl rfl)) rfl ?_
      refine QJ.step (YldS.yld (y_move rfl)) rfl ?_
      obtain ⟨t7, h8, hm⟩ := bindS hm
      refine QJ.cut 11 [(0, v2), (3, .int .i64 i6), (23, .bool t7)] ?_ ?_
      · rcases Bool.eq_false_or_eq_true (decide (i6 ≥ 0)) with hb9 | hb9
        · replace h8 := andT h8 hb9
          refine QJ.on rfl rfl (cB hb9) (YldS.yld (y_move rfl)) rfl ?_
          refine QJ.on rfl rfl (cB hb9) (YldS.yld (y_move rfl)) rfl ?_
          obtain ⟨e10, h11, h8⟩ := bindS h8
          refine QJ.on rfl rfl (cB hb9) (YldS.yld (y_ixRow (k := 0) (R := fI64) rfl Try.runUnderlying27 Try.sizeOf2 rfl rfl h11)) rfl ?_
          refine QJ.on rfl rfl (cB hb9) (YldS.yld (y_loadR (k := 0) (i := (Int.toNat i6)) (off := 0) (u := .int .i64 e10) rfl Try.isAgg2 rfl (idx_get h11) rfl)) rfl ?_
          refine QJ.on rfl rfl (cB hb9) (YldS.yld (y_move rfl)) rfl ?_
          refine QJ.on rfl rfl (cB hb9) (YldS.yld (y_move rfl)) rfl ?_
          refine QJ.on rfl rfl (cB hb9) (YldS.yld (y_bin rfl rfl rfl)) rfl ?_
          obtain ⟨e12, h13, h8⟩ := bindS h8
          refine QJ.on rfl rfl (cB hb9) (YldS.yld (y_ixRow (k := 0) (R := fI64) rfl Try.runUnderlying27 Try.sizeOf2 rfl rfl h13)) rfl ?_
          refine QJ.on rfl rfl (cB hb9) (YldS.yld (y_loadR (k := 0) (i := (Int.toNat (w64 (i6 + 1)))) (off := 0) (u := .int .i64 e12) rfl Try.isAgg2 rfl (idx_get h13) rfl)) rfl ?_
          refine QJ.on rfl rfl (cB hb9) (YldS.yld (y_bin rfl rfl rfl)) rfl ?_
          refine QJ.step (YldS.yld (y_pick_t (cB hb9) rfl)) rfl ?_
          obtain rfl := Option.some.inj h8
          exact QJ.cut_end ⟨rfl, rfl, rfl, trivial⟩
        · obtain rfl := andF h8 hb9
          refine QJ.off rfl rfl (cB hb9) rfl rfl ?_
          refine QJ.off rfl rfl (cB hb9) rfl rfl ?_
          refine QJ.off rfl rfl (cB hb9) rfl rfl ?_
          refine QJ.off rfl rfl (cB hb9) rfl rfl ?_
          refine QJ.off rfl rfl (cB hb9) rfl rfl ?_
          refine QJ.off rfl rfl (cB hb9) rfl rfl ?_
          refine QJ.off rfl rfl (cB hb9) rfl rfl ?_
          refine QJ.off rfl rfl (cB hb9) rfl rfl ?_
          refine QJ.off rfl rfl (cB hb9) rfl rfl ?_
          refine QJ.off rfl rfl (cB hb9) rfl rfl ?_
          refine QJ.step (YldS.yld (y_pick_f (cB hb9) rfl)) rfl ?_
          exact QJ.cut_end ⟨rfl, rfl, rfl, trivial⟩
      refine QJ.done ?_
      refine PJ.next ?_
      refine WJ.cond (t := t7) rfl (fun hb14 => ?_) (fun hb14 => ?_)
      · replace hm := ifT hm hb14
        refine WJ.skip ?_
        refine PJ.next ?_
        refine WJ.block ?_
        refine WJ.quiet ?_
        refine QJ.step (YldS.yld (y_move rfl)) rfl ?_
        refine QJ.step (YldS.yld (y_bin rfl rfl rfl)) rfl ?_
        refine QJ.step (YldS.yld (y_assign rfl)) rfl ?_
        refine QJ.done ?_
        refine PJ.block_normal ?_
        exact PJ.round (w64 (i6 - 1)) [0] hm ⟨rfl, rfl, trivial⟩ ⟨by decide, rfl⟩
      · replace hm := ifF hm hb14
        refine WJ.exit ?_
        refine PJ.then_exit (PJ.then_exit (PJ.block_exit ?_))
        exact PJ.joined i6 [0] hm ⟨rfl, rfl, trivial⟩ ⟨by decide, rfl⟩
  · rintro i3 hm
    subst hk5
    refine WJ.seq ?_
    refine WJ.seq ?_
    refine WJ.quiet ?_
    refine QJ.step (YldS.yld (y_move rfl)) rfl ?_
    refine QJ.step (YldS.yld (y_bin rfl rfl rfl)) rfl ?_
    refine QJ.done ?_
    refine PJ.next ?_
    refine WJ.cond (t := decide (i3 < 0)) rfl (fun hb15 => ?_) (fun hb15 => ?_)
    · replace hm := ifT hm hb15
      refine WJ.seq ?_
      refine WJ.quiet ?_
      refine QJ.step (YldS.yld (y_assign rfl)) rfl ?_
      refine QJ.done ?_
      refine PJ.next ?_
      refine WJ.ret ?_
      refine PJ.then_ret ?_
      obtain rfl := Option.some.inj hm
      refine PJ.sel (L' := [row v2 2 fI64 list1]) [0] ⟨by decide, rfl⟩ ?_
      exact PJ.retn (vs := [.bool false]) Try.results62 ⟨rfl, trivial⟩ ⟨rfl, rfl⟩
    · replace hm := ifF hm hb15
      refine WJ.skip ?_
      refine PJ.next ?_
      refine WJ.seq ?_
      refine WJ.quiet ?_
      refine QJ.step (YldS.yld (y_move rfl)) rfl ?_
      refine QJ.step (YldS.yld (y_lenRow (k := 0) rfl Try.runUnderlying27 rfl)) rfl ?_
      refine QJ.step (YldS.yld (y_bin rfl rfl rfl)) rfl ?_
      refine QJ.step (YldS.yld (y_assign rfl)) rfl ?_
      refine QJ.done ?_
      refine PJ.next ?_
      obtain ⟨kj17, hk18, hm⟩ := withK_open hm
      refine WJ.join (X := Int) (fun (x : Int) => kj17 x = some r) (fun (x : Int) => [(0, v2), (3, .int .i64 i3), (4, .int .i64 x)]) (fun (x : Int) => [row v2 2 fI64 list1]) ?_ ?_
      · clear hk18
        refine WJ.block ?_
        refine WJ.sel (L' := (fun (x : Int) => [row v2 2 fI64 list1]) (w64 ((List.length list1 : Int) - 1))) [0] ⟨by decide, rfl⟩ ?_
        refine WJ.sub (m' := (fun (x : Int) => [(0, v2), (3, .int .i64 i3), (4, .int .i64 x)]) (w64 ((List.length list1 : Int) - 1))) ⟨rfl, rfl, rfl, trivial⟩ ?_
        refine WJ.loop (X := Int) (fun N (x : Int) => i_nextPermutation_l2 kj17 list1 i3 N x = some r) (fun (x : Int) => [(0, v2), (3, .int .i64 i3), (4, .int .i64 x)]) (fun (x : Int) => [row v2 2 fI64 list1]) ?_ N (w64 ((List.length list1 : Int) - 1)) hm
        · rintro N k19 hI
          have hm := hI; clear hI
          cases N with
          | zero => cases hm
          | succ N =>
          unfold i_nextPermutation_l2 at hm
          refine WJ.seq ?_
          refine WJ.seq ?_
          refine WJ.quiet_draw follows (by kernel_rfl) ?_
          refine QJ.step (YldS.yld (y_move rfl)) rfl ?_
          refine QJ.step (YldS.yld (y_move rfl)) rfl ?_
          obtain ⟨e20, h21, hm⟩ := bindS hm
          refine QJ.step (YldS.yld (y_ixRow (k := 0) (R := fI64) rfl Try.runUnderlying27 Try.sizeOf2 rfl rfl h21)) rfl ?_
          refine QJ.step (YldS.yld (y_loadR (k := 0) (i := (Int.toNat k19)) (off := 0) (u := .int .i64 e20) rfl Try.isAgg2 rfl (idx_get h21) rfl)) rfl ?_
          refine QJ.step (YldS.yld (y_move rfl)) rfl ?_
          refine QJ.step (YldS.yld (y_move rfl)) rfl ?_
          obtain ⟨e22, h23, hm⟩ := bindS hm
          refine QJ.step (YldS.yld (y_ixRow (k := 0) (R := fI64) rfl Try.runUnderlying27 Try.sizeOf2 rfl rfl h23)) rfl ?_
          refine QJ.step (YldS.yld (y_loadR (k := 0) (i := (Int.toNat i3)) (off := 0) (u := .int .i64 e22) rfl Try.isAgg2 rfl (idx_get h23) rfl)) rfl ?_
          refine QJ.step (YldS.yld (y_bin rfl rfl rfl)) rfl ?_
          refine QJ.done ?_
          refine PJ.next ?_
          refine WJ.cond (t := decide (e20 ≤ e22)) rfl (fun hb24 => ?_) (fun hb24 => ?_)
          · replace hm := ifT hm hb24
            refine WJ.skip ?_
            refine PJ.next ?_
            refine WJ.block ?_
            refine WJ.quiet ?_
            refine QJ.step (YldS.yld (y_move rfl)) rfl ?_
            refine QJ.step (YldS.yld (y_bin rfl rfl rfl)) rfl ?_
            refine QJ.step (YldS.yld (y_assign rfl)) rfl ?_
            refine QJ.done ?_
            refine PJ.block_normal ?_
            exact PJ.round (w64 (k19 - 1)) [0] hm ⟨rfl, rfl, rfl, trivial⟩ ⟨by decide, rfl⟩
          · replace hm := ifF hm hb24
            refine WJ.exit ?_
            refine PJ.then_exit (PJ.then_exit (PJ.block_exit ?_))
            exact PJ.joined k19 [0] hm ⟨rfl, rfl, rfl, trivial⟩ ⟨by decide, rfl⟩
      · rintro k16 hm
        subst hk18
        refine WJ.seq ?_
        obtain ⟨e25, h26, hm⟩ := bindS hm
        obtain ⟨e27, h28, hm⟩ := bindS hm
        obtain ⟨e29, h30, hm⟩ := bindS hm
        obtain ⟨e31, h32, hm⟩ := bindS hm
        refine WJ.draws (N := 16) (listed0 := #[false, false, false, false, false, false, false, false, false, false, false, false, false, false, false, false]) [] follows rfl rfl ?_
        refine RJ.first 0 (listed' := #[true, false, false, false, false, false, false, false, false, false, false, false, false, false, false, false]) [] rfl (by kernel_rfl) rfl ⟨List.nodup_nil, rfl⟩ (y_move rfl) rfl ?_
        refine RJ.first 1 (listed' := #[true, true, false, false, false, false, false, false, false, false, false, false, false, false, false, false]) [] rfl (by kernel_rfl) rfl ⟨List.nodup_nil, rfl⟩ (y_move rfl) rfl ?_
        refine RJ.first 2 (listed' := #[true, true, true, false, false, false, false, false, false, false, false, false, false, false, false, false]) [] rfl (by kernel_rfl) rfl ⟨List.nodup_nil, rfl⟩ (y_move rfl) rfl ?_
        refine RJ.first 3 (listed' := #[true, true, true, true, false, false, false, false, false, false, false, false, false, false, false, false]) [] rfl (by kernel_rfl) rfl ⟨List.nodup_nil, rfl⟩ (y_move rfl) rfl ?_
        refine RJ.first 4 (listed' := #[true, true, true, true, true, false, false, false, false, false, false, false, false, false, false, false]) [] rfl (by kernel_rfl) rfl ⟨List.nodup_nil, rfl⟩ (y_move rfl) rfl ?_
        refine RJ.first 5 (listed' := #[true, true, true, true, true, true, false, false, false, false, false, false, false, false, false, false]) [] rfl (by kernel_rfl) rfl ⟨List.nodup_nil, rfl⟩ (y_move rfl) rfl ?_
        refine RJ.first 8 (listed' := #[true, true, true, true, true, true, false, false, true, false, false, false, false, false, false, false]) [] rfl (by kernel_rfl) rfl ⟨List.nodup_nil, rfl⟩ (y_move rfl) rfl ?_
        refine RJ.first 9 (listed' := #[true, true, true, true, true, true, false, false, true, true, false, false, false, false, false, false]) [] rfl (by kernel_rfl) rfl ⟨List.nodup_nil, rfl⟩ (y_move rfl) rfl ?_
        refine RJ.hold (X := Unit) 4 #[true, true, true, true, true, true, true, true, true, true, true, true, false, false, false, false] (fun (_ : Unit) => [(0, v2), (3, .int .i64 i3), (42, v2), (43, .int .i64 i3), (44, v2), (45, .int .i64 k16), (49, .int .i64 e25), (53, .int .i64 e27)]) (fun (_ : Unit) => [row v2 2 fI64 list1]) ?_ ?_
        · rintro _
          refine RJ.step1 12 [] (by kernel_rfl) ⟨List.nodup_nil, rfl⟩ ?_
          refine RO.of (listed' := #[true, true, true, true, true, true, true, true, true, true, true, true, true, false, false, false]) rfl rfl ?_
          refine SJ.q (YldS.yld (y_ixRow (k := 0) (R := fI64) rfl Try.runUnderlying27 Try.sizeOf2 rfl rfl h30)) rfl ?_
          refine SJ.nil ?_
          refine PJ.draw ?_
          refine RJ.step1 13 [] (by kernel_rfl) ⟨List.nodup_nil, rfl⟩ ?_
          refine RO.of (listed' := #[true, true, true, true, true, true, true, true, true, true, true, true, true, true, false, false]) rfl rfl ?_
          refine SJ.storeRL (k := 0) (i := (Int.toNat i3)) (off := 0) (us := [.int .i64 e25]) (b := e25) rfl rfl (idx_get h30) rfl rfl Try.sizeOf2 rfl rfl rfl ?_
          refine SJ.nil ?_
          refine PJ.draw ?_
          refine RJ.step1 14 [] (by kernel_rfl) ⟨List.nodup_nil, rfl⟩ ?_
          refine RO.of (listed' := #[true, true, true, true, true, true, true, true, true, true, true, true, true, true, true, false]) rfl rfl ?_
          refine SJ.q (YldS.yld (y_ixRow (k := 0) (R := fI64) rfl Try.runUnderlying27 Try.sizeOf2 rfl rfl h32)) rfl ?_
          refine SJ.nil ?_
          refine PJ.draw ?_
          refine RJ.step1 15 [] (by kernel_rfl) ⟨List.nodup_nil, rfl⟩ ?_
          refine RO.of (listed' := #[true, true, true, true, true, true, true, true, true, true, true, true, true, true, true, true]) rfl rfl ?_
          refine SJ.storeRL (k := 0) (i := (Int.toNat k16)) (off := 0) (us := [.int .i64 e27]) (b := e27) rfl rfl (idx_get h32) rfl rfl Try.sizeOf2 rfl rfl rfl ?_
          refine SJ.nil ?_
          refine PJ.draw ?_
          refine RJ.fin [] (by kernel_rfl) ⟨List.nodup_nil, rfl⟩ ?_
          refine PJ.next ?_
          obtain ⟨kj35, hk36, hm⟩ := withK_open hm
          refine WJ.join (X := (List Int)) (fun (x : (List Int)) => kj35 x = some r) (fun (x : (List Int)) => []) (fun (x : (List Int)) => [row v2 2 fI64 x]) ?_ ?_
          · clear hk36
            refine WJ.seq ?_
            refine WJ.quiet ?_
            refine QJ.step (YldS.yld (y_move rfl)) rfl ?_
            refine QJ.step (YldS.yld (y_bin rfl rfl rfl)) rfl ?_
            refine QJ.step (YldS.yld (y_move rfl)) rfl ?_
            refine QJ.step (YldS.yld (y_lenRow (k := 0) rfl Try.runUnderlying27 rfl)) rfl ?_
            refine QJ.step (YldS.yld (y_bin rfl rfl rfl)) rfl ?_
            refine QJ.step (YldS.yld (y_assign rfl)) rfl ?_
            refine QJ.step (YldS.yld (y_assign rfl)) rfl ?_
            refine QJ.done ?_
            refine PJ.next ?_
            refine WJ.block ?_
            refine WJ.sel (L' := (fun (x : (List Int) × Int × Int) => [row v2 2 fI64 x.1]) ((List.set (List.set list1 (Int.toNat i3) e25) (Int.toNat k16) e27), w64 (i3 + 1), w64 ((List.length (List.set (List.set list1 (Int.toNat i3) e25) (Int.toNat k16) e27) : Int) - 1))) [0] ⟨by decide, rfl⟩ ?_
            refine WJ.sub (m' := (fun (x : (List Int) × Int × Int) => [(0, v2), (5, .int .i64 x.2.1), (6, .int .i64 x.2.2)]) ((List.set (List.set list1 (Int.toNat i3) e25) (Int.toNat k16) e27), w64 (i3 + 1), w64 ((List.length (List.set (List.set list1 (Int.toNat i3) e25) (Int.toNat k16) e27) : Int) - 1))) ⟨rfl, rfl, rfl, trivial⟩ ?_
            refine WJ.loop (X := (List Int) × Int × Int) (fun N (x : (List Int) × Int × Int) => i_nextPermutation_l3 kj35 N x.1 x.2.1 x.2.2 = some r) (fun (x : (List Int) × Int × Int) => [(0, v2), (5, .int .i64 x.2.1), (6, .int .i64 x.2.2)]) (fun (x : (List Int) × Int × Int) => [row v2 2 fI64 x.1]) ?_ N ((List.set (List.set list1 (Int.toNat i3) e25) (Int.toNat k16) e27), w64 (i3 + 1), w64 ((List.length (List.set (List.set list1 (Int.toNat i3) e25) (Int.toNat k16) e27) : Int) - 1)) hm
            · rintro N ⟨l37, a38, b39⟩ hI
              have hm := hI; clear hI
              cases N with
              | zero => cases hm
              | succ N =>
              unfold i_nextPermutation_l3 at hm
              refine WJ.seq ?_
              refine WJ.seq ?_
              refine WJ.quiet ?_
              refine QJ.step (YldS.yld (y_move rfl)) rfl ?_
              refine QJ.step (YldS.yld (y_move rfl)) rfl ?_
              refine QJ.step (YldS.yld (y_bin rfl rfl rfl)) rfl ?_
              refine QJ.done ?_
              refine PJ.next ?_
              refine WJ.cond (t := decide (a38 < b39)) rfl (fun hb40 => ?_) (fun hb40 => ?_)
              · replace hm := ifT hm hb40
                refine WJ.skip ?_
                refine PJ.next ?_
                refine WJ.seq ?_
                refine WJ.block ?_
                obtain ⟨e41, h42, hm⟩ := bindS hm
                obtain ⟨e43, h44, hm⟩ := bindS hm
                obtain ⟨e45, h46, hm⟩ := bindS hm
                obtain ⟨e47, h48, hm⟩ := bindS hm
                refine WJ.draws (N := 16) (listed0 := #[false, false, false, false, false, false, false, false, false, false, false, false, false, false, false, false]) [] follows rfl rfl ?_
                refine RJ.first 0 (listed' := #[true, false, false, false, false, false, false, false, false, false, false, false, false, false, false, false]) [] rfl (by kernel_rfl) rfl ⟨List.nodup_nil, rfl⟩ (y_move rfl) rfl ?_
                refine RJ.first 1 (listed' := #[true, true, false, false, false, false, false, false, false, false, false, false, false, false, false, false]) [] rfl (by kernel_rfl) rfl ⟨List.nodup_nil, rfl⟩ (y_move rfl) rfl ?_
                refine RJ.first 2 (listed' := #[true, true, true, false, false, false, false, false, false, false, false, false, false, false, false, false]) [] rfl (by kernel_rfl) rfl ⟨List.nodup_nil, rfl⟩ (y_move rfl) rfl ?_
                refine RJ.first 3 (listed' := #[true, true, true, true, false, false, false, false, false, false, false, false, false, false, false, false]) [] rfl (by kernel_rfl) rfl ⟨List.nodup_nil, rfl⟩ (y_move rfl) rfl ?_
                refine RJ.first 4 (listed' := #[true, true, true, true, true, false, false, false, false, false, false, false, false, false, false, false]) [] rfl (by kernel_rfl) rfl ⟨List.nodup_nil, rfl⟩ (y_move rfl) rfl ?_
                refine RJ.first 5 (listed' := #[true, true, true, true, true, true, false, false, false, false, false, false, false, false, false, false]) [] rfl (by kernel_rfl) rfl ⟨List.nodup_nil, rfl⟩ (y_move rfl) rfl ?_
                refine RJ.first 8 (listed' := #[true, true, true, true, true, true, false, false, true, false, false, false, false, false, false, false]) [] rfl (by kernel_rfl) rfl ⟨List.nodup_nil, rfl⟩ (y_move rfl) rfl ?_
                refine RJ.first 9 (listed' := #[true, true, true, true, true, true, false, false, true, true, false, false, false, false, false, false]) [] rfl (by kernel_rfl) rfl ⟨List.nodup_nil, rfl⟩ (y_move rfl) rfl ?_
                refine RJ.hold (X := Unit) 4 #[true, true, true, true, true, true, true, true, true, true, true, true, false, false, false, false] (fun (_ : Unit) => [(0, v2), (5, .int .i64 a38), (6, .int .i64 b39), (68, v2), (69, .int .i64 a38), (70, v2), (71, .int .i64 b39), (75, .int .i64 e41), (79, .int .i64 e43)]) (fun (_ : Unit) => [row v2 2 fI64 l37]) ?_ ?_
                · rintro _
                  refine RJ.step1 12 [] (by kernel_rfl) ⟨List.nodup_nil, rfl⟩ ?_
                  refine RO.of (listed' := #[true, true, true, true, true, true, true, true, true, true, true, true, true, false, false, false]) rfl rfl ?_
                  refine SJ.q (YldS.yld (y_ixRow (k := 0) (R := fI64) rfl Try.runUnderlying27 Try.sizeOf2 rfl rfl h46)) rfl ?_
                  refine SJ.nil ?_
                  refine PJ.draw ?_
                  refine RJ.step1 13 [] (by kernel_rfl) ⟨List.nodup_nil, rfl⟩ ?_
                  refine RO.of (listed' := #[true, true, true, true, true, true, true, true, true, true, true, true, true, true, false, false]) rfl rfl ?_
                  refine SJ.storeRL (k := 0) (i := (Int.toNat a38)) (off := 0) (us := [.int .i64 e41]) (b := e41) rfl rfl (idx_get h46) rfl rfl Try.sizeOf2 rfl rfl rfl ?_
                  refine SJ.nil ?_
                  refine PJ.draw ?_
                  refine RJ.step1 14 [] (by kernel_rfl) ⟨List.nodup_nil, rfl⟩ ?_
                  refine RO.of (listed' := #[true, true, true, true, true, true, true, true, true, true, true, true, true, true, true, false]) rfl rfl ?_
                  refine SJ.q (YldS.yld (y_ixRow (k := 0) (R := fI64) rfl Try.runUnderlying27 Try.sizeOf2 rfl rfl h48)) rfl ?_
                  refine SJ.nil ?_
                  refine PJ.draw ?_
                  refine RJ.step1 15 [] (by kernel_rfl) ⟨List.nodup_nil, rfl⟩ ?_
                  refine RO.of (listed' := #[true, true, true, true, true, true, true, true, true, true, true, true, true, true, true, true]) rfl rfl ?_
                  refine SJ.storeRL (k := 0) (i := (Int.toNat b39)) (off := 0) (us := [.int .i64 e43]) (b := e43) rfl rfl (idx_get h48) rfl rfl Try.sizeOf2 rfl rfl rfl ?_
                  refine SJ.nil ?_
                  refine PJ.draw ?_
                  refine RJ.fin [] (by kernel_rfl) ⟨List.nodup_nil, rfl⟩ ?_
                  refine PJ.block_normal (PJ.next ?_)
                  refine WJ.quiet ?_
                  refine QJ.step (YldS.yld (y_move rfl)) rfl ?_
                  refine QJ.step (YldS.yld (y_bin rfl rfl rfl)) rfl ?_
                  refine QJ.step (YldS.yld (y_move rfl)) rfl ?_
                  refine QJ.step (YldS.yld (y_bin rfl rfl rfl)) rfl ?_
                  refine QJ.step (YldS.yld (y_assign rfl)) rfl ?_
                  refine QJ.step (YldS.yld (y_assign rfl)) rfl ?_
                  refine QJ.done ?_
                  exact PJ.round ((List.set (List.set l37 (Int.toNat a38) e41) (Int.toNat b39) e43), w64 (a38 + 1), w64 (b39 - 1)) [0] hm ⟨rfl, rfl, rfl, trivial⟩ ⟨by decide, rfl⟩
                · intro hD49
                  refine RJ.step2 6 10 [] (by kernel_rfl) ⟨List.nodup_nil, rfl⟩ ?_ ?_
                  · refine RO.of (listed' := #[true, true, true, true, true, true, true, false, true, true, false, false, false, false, false, false]) rfl rfl ?_
                    refine SJ.q (YldS.yld (y_ixRow (k := 0) (R := fI64) rfl Try.runUnderlying27 Try.sizeOf2 rfl rfl h42)) rfl ?_
                    refine SJ.nil ?_
                    refine PJ.draw ?_
                    refine RJ.step2 7 10 [] (by kernel_rfl) ⟨List.nodup_nil, rfl⟩ ?_ ?_
                    · refine RO.of (listed' := #[true, true, true, true, true, true, true, true, true, true, false, false, false, false, false, false]) rfl rfl ?_
                      refine SJ.q (YldS.yld (y_loadR (k := 0) (i := (Int.toNat b39)) (off := 0) (u := .int .i64 e41) rfl Try.isAgg2 rfl (idx_get h42) rfl)) rfl ?_
                      refine SJ.nil ?_
                      refine PJ.draw ?_
                      refine RJ.step1 10 [] (by kernel_rfl) ⟨List.nodup_nil, rfl⟩ ?_
                      refine RO.of (listed' := #[true, true, true, true, true, true, true, true, true, true, true, false, false, false, false, false]) rfl rfl ?_
                      refine SJ.q (YldS.yld (y_ixRow (k := 0) (R := fI64) rfl Try.runUnderlying27 Try.sizeOf2 rfl rfl h44)) rfl ?_
                      refine SJ.nil ?_
                      refine PJ.draw ?_
                      refine RJ.step1 11 [] (by kernel_rfl) ⟨List.nodup_nil, rfl⟩ ?_
                      refine RO.of (listed' := #[true, true, true, true, true, true, true, true, true, true, true, true, false, false, false, false]) rfl rfl ?_
                      refine SJ.q (YldS.yld (y_loadR (k := 0) (i := (Int.toNat a38)) (off := 0) (u := .int .i64 e43) rfl Try.isAgg2 rfl (idx_get h44) rfl)) rfl ?_
                      refine SJ.nil ?_
                      refine PJ.draw ?_
                      exact RJ.weak (hD49 ()) [0] ⟨rfl, rfl, rfl, rfl, rfl, rfl, rfl, rfl, rfl, trivial⟩ ⟨by decide, rfl⟩
                    · refine RO.of (listed' := #[true, true, true, true, true, true, true, false, true, true, true, false, false, false, false, false]) rfl rfl ?_
                      refine SJ.q (YldS.yld (y_ixRow (k := 0) (R := fI64) rfl Try.runUnderlying27 Try.sizeOf2 rfl rfl h44)) rfl ?_
                      refine SJ.nil ?_
                      refine PJ.draw ?_
                      refine RJ.step2 7 11 [] (by kernel_rfl) ⟨List.nodup_nil, rfl⟩ ?_ ?_
                      · refine RO.of (listed' := #[true, true, true, true, true, true, true, true, true, true, true, false, false, false, false, false]) rfl rfl ?_
                        refine SJ.q (YldS.yld (y_loadR (k := 0) (i := (Int.toNat b39)) (off := 0) (u := .int .i64 e41) rfl Try.isAgg2 rfl (idx_get h42) rfl)) rfl ?_
                        refine SJ.nil ?_
                        refine PJ.draw ?_
                        refine RJ.step1 11 [] (by kernel_rfl) ⟨List.nodup_nil, rfl⟩ ?_
                        refine RO.of (listed' := #[true, true, true, true, true, true, true, true, true, true, true, true, false, false, false, false]) rfl rfl ?_
                        refine SJ.q (YldS.yld (y_loadR (k := 0) (i := (Int.toNat a38)) (off := 0) (u := .int .i64 e43) rfl Try.isAgg2 rfl (idx_get h44) rfl)) rfl ?_
                        refine SJ.nil ?_
                        refine PJ.draw ?_
                        exact RJ.weak (hD49 ()) [0] ⟨rfl, rfl, rfl, rfl, rfl, rfl, rfl, rfl, rfl, trivial⟩ ⟨by decide, rfl⟩
                      · refine RO.of (listed' := #[true, true, true, true, true, true, true, false, true, true, true, true, false, false, false, false]) rfl rfl ?_
                        refine SJ.q (YldS.yld (y_loadR (k := 0) (i := (Int.toNat a38)) (off := 0) (u := .int .i64 e43) rfl Try.isAgg2 rfl (idx_get h44) rfl)) rfl ?_
                        refine SJ.nil ?_
                        refine PJ.draw ?_
                        refine RJ.step1 7 [] (by kernel_rfl) ⟨List.nodup_nil, rfl⟩ ?_
                        refine RO.of (listed' := #[true, true, true, true, true, true, true, true, true, true, true, true, false, false, false, false]) rfl rfl ?_
                        refine SJ.q (YldS.yld (y_loadR (k := 0) (i := (Int.toNat b39)) (off := 0) (u := .int .i64 e41) rfl Try.isAgg2 rfl (idx_get h42) rfl)) rfl ?_
                        refine SJ.nil ?_
                        refine PJ.draw ?_
                        exact RJ.weak (hD49 ()) [0] ⟨rfl, rfl, rfl, rfl, rfl, rfl, rfl, rfl, rfl, trivial⟩ ⟨by decide, rfl⟩
                  · refine RO.of (listed' := #[true, true, true, true, true, true, false, false, true, true, true, false, false, false, false, false]) rfl rfl ?_
                    refine SJ.q (YldS.yld (y_ixRow (k := 0) (R := fI64) rfl Try.runUnderlying27 Try.sizeOf2 rfl rfl h44)) rfl ?_
                    refine SJ.nil ?_
                    refine PJ.draw ?_
                    refine RJ.step2 6 11 [] (by kernel_rfl) ⟨List.nodup_nil, rfl⟩ ?_ ?_
                    · refine RO.of (listed' := #[true, true, true, true, true, true, true, false, true, true, true, false, false, false, false, false]) rfl rfl ?_
                      refine SJ.q (YldS.yld (y_ixRow (k := 0) (R := fI64) rfl Try.runUnderlying27 Try.sizeOf2 rfl rfl h42)) rfl ?_
                      refine SJ.nil ?_
                      refine PJ.draw ?_
                      refine RJ.step2 7 11 [] (by kernel_rfl) ⟨List.nodup_nil, rfl⟩ ?_ ?_
                      · refine RO.of (listed' := #[true, true, true, true, true, true, true, true, true, true, true, false, false, false, false, false]) rfl rfl ?_
                        refine SJ.q (YldS.yld (y_loadR (k := 0) (i := (Int.toNat b39)) (off := 0) (u := .int .i64 e41) rfl Try.isAgg2 rfl (idx_get h42) rfl)) rfl ?_
                        refine SJ.nil ?_
                        refine PJ.draw ?_
                        refine RJ.step1 11 [] (by kernel_rfl) ⟨List.nodup_nil, rfl⟩ ?_
                        refine RO.of (listed' := #[true, true, true, true, true, true, true, true, true, true, true, true, false, false, false, false]) rfl rfl ?_
                        refine SJ.q (YldS.yld (y_loadR (k := 0) (i := (Int.toNat a38)) (off := 0) (u := .int .i64 e43) rfl Try.isAgg2 rfl (idx_get h44) rfl)) rfl ?_
                        refine SJ.nil ?_
                        refine PJ.draw ?_
                        exact RJ.weak (hD49 ()) [0] ⟨rfl, rfl, rfl, rfl, rfl, rfl, rfl, rfl, rfl, trivial⟩ ⟨by decide, rfl⟩
                      · refine RO.of (listed' := #[true, true, true, true, true, true, true, false, true, true, true, true, false, false, false, false]) rfl rfl ?_
                        refine SJ.q (YldS.yld (y_loadR (k := 0) (i := (Int.toNat a38)) (off := 0) (u := .int .i64 e43) rfl Try.isAgg2 rfl (idx_get h44) rfl)) rfl ?_
                        refine SJ.nil ?_
                        refine PJ.draw ?_
                        refine RJ.step1 7 [] (by kernel_rfl) ⟨List.nodup_nil, rfl⟩ ?_
                        refine RO.of (listed' := #[true, true, true, true, true, true, true, true, true, true, true, true, false, false, false, false]) rfl rfl ?_
                        refine SJ.q (YldS.yld (y_loadR (k := 0) (i := (Int.toNat b39)) (off := 0) (u := .int .i64 e41) rfl Try.isAgg2 rfl (idx_get h42) rfl)) rfl ?_
                        refine SJ.nil ?_
                        refine PJ.draw ?_
                        exact RJ.weak (hD49 ()) [0] ⟨rfl, rfl, rfl, rfl, rfl, rfl, rfl, rfl, rfl, trivial⟩ ⟨by decide, rfl⟩
                    · refine RO.of (listed' := #[true, true, true, true, true, true, false, false, true, true, true, true, false, false, false, false]) rfl rfl ?_
                      refine SJ.q (YldS.yld (y_loadR (k := 0) (i := (Int.toNat a38)) (off := 0) (u := .int .i64 e43) rfl Try.isAgg2 rfl (idx_get h44) rfl)) rfl ?_
                      refine SJ.nil ?_
                      refine PJ.draw ?_
                      refine RJ.step1 6 [] (by kernel_rfl) ⟨List.nodup_nil, rfl⟩ ?_
                      refine RO.of (listed' := #[true, true, true, true, true, true, true, false, true, true, true, true, false, false, false, false]) rfl rfl ?_
                      refine SJ.q (YldS.yld (y_ixRow (k := 0) (R := fI64) rfl Try.runUnderlying27 Try.sizeOf2 rfl rfl h42)) rfl ?_
                      refine SJ.nil ?_
                      refine PJ.draw ?_
                      refine RJ.step1 7 [] (by kernel_rfl) ⟨List.nodup_nil, rfl⟩ ?_
                      refine RO.of (listed' := #[true, true, true, true, true, true, true, true, true, true, true, true, false, false, false, false]) rfl rfl ?_
                      refine SJ.q (YldS.yld (y_loadR (k := 0) (i := (Int.toNat b39)) (off := 0) (u := .int .i64 e41) rfl Try.isAgg2 rfl (idx_get h42) rfl)) rfl ?_
                      refine SJ.nil ?_
                      refine PJ.draw ?_
                      exact RJ.weak (hD49 ()) [0] ⟨rfl, rfl, rfl, rfl, rfl, rfl, rfl, rfl, rfl, trivial⟩ ⟨by decide, rfl⟩
              · replace hm := ifF hm hb40
                refine WJ.exit ?_
                refine PJ.then_exit (PJ.then_exit (PJ.block_exit ?_))
                exact PJ.joined l37 [0] hm trivial ⟨by decide, rfl⟩
          · rintro l34 hm
            subst hk36
            refine WJ.seq ?_
            refine WJ.quiet ?_
            refine QJ.step (YldS.yld (y_assign rfl)) rfl ?_
            refine QJ.done ?_
            refine PJ.next ?_
            refine WJ.ret ?_
            obtain rfl := Option.some.inj hm
            refine PJ.sel (L' := [row v2 2 fI64 l34]) [0] ⟨by decide, rfl⟩ ?_
            exact PJ.retn (vs := [.bool true]) Try.results62 ⟨rfl, trivial⟩ ⟨rfl, rfl⟩
        · intro hD33
          refine RJ.step2 6 10 [] (by kernel_rfl) ⟨List.nodup_nil, rfl⟩ ?_ ?_
          · refine RO.of (listed' := #[true, true, true, true, true, true, true, false, true, true, false, false, false, false, false, false]) rfl rfl ?_
            refine SJ.q (YldS.yld (y_ixRow (k := 0) (R := fI64) rfl Try.runUnderlying27 Try.sizeOf2 rfl rfl h26)) rfl ?_
            refine SJ.nil ?_
            refine PJ.draw ?_
            refine RJ.step2 7 10 [] (by kernel_rfl) ⟨List.nodup_nil, rfl⟩ ?_ ?_
            · refine RO.of (listed' := #[true, true, true, true, true, true, true, true, true, true, false, false, false, false, false, false]) rfl rfl ?_
              refine SJ.q (YldS.yld (y_loadR (k := 0) (i := (Int.toNat k16)) (off := 0) (u := .int .i64 e25) rfl Try.isAgg2 rfl (idx_get h26) rfl)) rfl ?_
              refine SJ.nil ?_
              refine PJ.draw ?_
              refine RJ.step1 10 [] (by kernel_rfl) ⟨List.nodup_nil, rfl⟩ ?_
              refine RO.of (listed' := #[true, true, true, true, true, true, true, true, true, true, true, false, false, false, false, false]) rfl rfl ?_
              refine SJ.q (YldS.yld (y_ixRow (k := 0) (R := fI64) rfl Try.runUnderlying27 Try.sizeOf2 rfl rfl h28)) rfl ?_
              refine SJ.nil ?_
              refine PJ.draw ?_
              refine RJ.step1 11 [] (by kernel_rfl) ⟨List.nodup_nil, rfl⟩ ?_
              refine RO.of (listed' := #[true, true, true, true, true, true, true, true, true, true, true, true, false, false, false, false]) rfl rfl ?_
              refine SJ.q (YldS.yld (y_loadR (k := 0) (i := (Int.toNat i3)) (off := 0) (u := .int .i64 e27) rfl Try.isAgg2 rfl (idx_get h28) rfl)) rfl ?_
              refine SJ.nil ?_
              refine PJ.draw ?_
              exact RJ.weak (hD33 ()) [0] ⟨rfl, rfl, rfl, rfl, rfl, rfl, rfl, rfl, trivial⟩ ⟨by decide, rfl⟩
            · refine RO.of (listed' := #[true, true, true, true, true, true, true, false, true, true, true, false, false, false, false, false]) rfl rfl ?_
              refine SJ.q (YldS.yld (y_ixRow (k := 0) (R := fI64) rfl Try.runUnderlying27 Try.sizeOf2 rfl rfl h28)) rfl ?_
              refine SJ.nil ?_
              refine PJ.draw ?_
              refine RJ.step2 7 11 [] (by kernel_rfl) ⟨List.nodup_nil, rfl⟩ ?_ ?_
              · refine RO.of (listed' := #[true, true, true, true, true, true, true, true, true, true, true, false, false, false, false, false]) rfl rfl ?_
                refine SJ.q (YldS.yld (y_loadR (k := 0) (i := (Int.toNat k16)) (off := 0) (u := .int .i64 e25) rfl Try.isAgg2 rfl (idx_get h26) rfl)) rfl ?_
                refine SJ.nil ?_
                refine PJ.draw ?_
                refine RJ.step1 11 [] (by kernel_rfl) ⟨List.nodup_nil, rfl⟩ ?_
                refine RO.of (listed' := #[true, true, true, true, true, true, true, true, true, true, true, true, false, false, false, false]) rfl rfl ?_
                refine SJ.q (YldS.yld (y_loadR (k := 0) (i := (Int.toNat i3)) (off := 0) (u := .int .i64 e27) rfl Try.isAgg2 rfl (idx_get h28) rfl)) rfl ?_
                refine SJ.nil ?_
                refine PJ.draw ?_
                exact RJ.weak (hD33 ()) [0] ⟨rfl, rfl, rfl, rfl, rfl, rfl, rfl, rfl, trivial⟩ ⟨by decide, rfl⟩
              · refine RO.of (listed' := #[true, true, true, true, true, true, true, false, true, true, true, true, false, false, false, false]) rfl rfl ?_
                refine SJ.q (YldS.yld (y_loadR (k := 0) (i := (Int.toNat i3)) (off := 0) (u := .int .i64 e27) rfl Try.isAgg2 rfl (idx_get h28) rfl)) rfl ?_
                refine SJ.nil ?_
                refine PJ.draw ?_
                refine RJ.step1 7 [] (by kernel_rfl) ⟨List.nodup_nil, rfl⟩ ?_
                refine RO.of (listed' := #[true, true, true, true, true, true, true, true, true, true, true, true, false, false, false, false]) rfl rfl ?_
                refine SJ.q (YldS.yld (y_loadR (k := 0) (i := (Int.toNat k16)) (off := 0) (u := .int .i64 e25) rfl Try.isAgg2 rfl (idx_get h26) rfl)) rfl ?_
                refine SJ.nil ?_
                refine PJ.draw ?_
                exact RJ.weak (hD33 ()) [0] ⟨rfl, rfl, rfl, rfl, rfl, rfl, rfl, rfl, trivial⟩ ⟨by decide, rfl⟩
          · refine RO.of (listed' := #[true, true, true, true, true, true, false, false, true, true, true, false, false, false, false, false]) rfl rfl ?_
            refine SJ.q (YldS.yld (y_ixRow (k := 0) (R := fI64) rfl Try.runUnderlying27 Try.sizeOf2 rfl rfl h28)) rfl ?_
            refine SJ.nil ?_
            refine PJ.draw ?_
            refine RJ.step2 6 11 [] (by kernel_rfl) ⟨List.nodup_nil, rfl⟩ ?_ ?_
            · refine RO.of (listed' := #[true, true, true, true, true, true, true, false, true, true, true, false, false, false, false, false]) rfl rfl ?_
              refine SJ.q (YldS.yld (y_ixRow (k := 0) (R := fI64) rfl Try.runUnderlying27 Try.sizeOf2 rfl rfl h26)) rfl ?_
              refine SJ.nil ?_
              refine PJ.draw ?_
              refine RJ.step2 7 11 [] (by kernel_rfl) ⟨List.nodup_nil, rfl⟩ ?_ ?_
              · refine RO.of (listed' := #[true, true, true, true, true, true, true, true, true, true, true, false, false, false, false, false]) rfl rfl ?_
                refine SJ.q (YldS.yld (y_loadR (k := 0) (i := (Int.toNat k16)) (off := 0) (u := .int .i64 e25) rfl Try.isAgg2 rfl (idx_get h26) rfl)) rfl ?_
                refine SJ.nil ?_
                refine PJ.draw ?_
                refine RJ.step1 11 [] (by kernel_rfl) ⟨List.nodup_nil, rfl⟩ ?_
                refine RO.of (listed' := #[true, true, true, true, true, true, true, true, true, true, true, true, false, false, false, false]) rfl rfl ?_
                refine SJ.q (YldS.yld (y_loadR (k := 0) (i := (Int.toNat i3)) (off := 0) (u := .int .i64 e27) rfl Try.isAgg2 rfl (idx_get h28) rfl)) rfl ?_
                refine SJ.nil ?_
                refine PJ.draw ?_
                exact RJ.weak (hD33 ()) [0] ⟨rfl, rfl, rfl, rfl, rfl, rfl, rfl, rfl, trivial⟩ ⟨by decide, rfl⟩
              · refine RO.of (listed' := #[true, true, true, true, true, true, true, false, true, true, true, true, false, false, false, false]) rfl rfl ?_
                refine SJ.q (YldS.yld (y_loadR (k := 0) (i := (Int.toNat i3)) (off := 0) (u := .int .i64 e27) rfl Try.isAgg2 rfl (idx_get h28) rfl)) rfl ?_
                refine SJ.nil ?_
                refine PJ.draw ?_
                refine RJ.step1 7 [] (by kernel_rfl) ⟨List.nodup_nil, rfl⟩ ?_
                refine RO.of (listed' := #[true, true, true, true, true, true, true, true, true, true, true, true, false, false, false, false]) rfl rfl ?_
                refine SJ.q (YldS.yld (y_loadR (k := 0) (i := (Int.toNat k16)) (off := 0) (u := .int .i64 e25) rfl Try.isAgg2 rfl (idx_get h26) rfl)) rfl ?_
                refine SJ.nil ?_
                refine PJ.draw ?_
                exact RJ.weak (hD33 ()) [0] ⟨rfl, rfl, rfl, rfl, rfl, rfl, rfl, rfl, trivial⟩ ⟨by decide, rfl⟩
            · refine RO.of (listed' := #[true, true, true, true, true, true, false, false, true, true, true, true, false, false, false, false]) rfl rfl ?_
              refine SJ.q (YldS.yld (y_loadR (k := 0) (i := (Int.toNat i3)) (off := 0) (u := .int .i64 e27) rfl Try.isAgg2 rfl (idx_get h28) rfl)) rfl ?_
              refine SJ.nil ?_
              refine PJ.draw ?_
              refine RJ.step1 6 [] (by kernel_rfl) ⟨List.nodup_nil, rfl⟩ ?_
              refine RO.of (listed' := #[true, true, true, true, true, true, true, false, true, true, true, true, false, false, false, false]) rfl rfl ?_
              refine SJ.q (YldS.yld (y_ixRow (k := 0) (R := fI64) rfl Try.runUnderlying27 Try.sizeOf2 rfl rfl h26)) rfl ?_
              refine SJ.nil ?_
              refine PJ.draw ?_
              refine RJ.step1 7 [] (by kernel_rfl) ⟨List.nodup_nil, rfl⟩ ?_
              refine RO.of (listed' := #[true, true, true, true, true, true, true, true, true, true, true, true, false, false, false, false]) rfl rfl ?_
              refine SJ.q (YldS.yld (y_loadR (k := 0) (i := (Int.toNat k16)) (off := 0) (u := .int .i64 e25) rfl Try.isAgg2 rfl (idx_get h26) rfl)) rfl ?_
              refine SJ.nil ?_
              refine PJ.draw ?_
              exact RJ.weak (hD33 ()) [0] ⟨rfl, rfl, rfl, rfl, rfl, rfl, rfl, rfl, trivial⟩ ⟨by decide, rfl⟩

set_option maxRecDepth 100000 in
set_option maxHeartbeats 1000000 in
theorem ok_i_BestLayout {N : Nat} {list1 : List Place} {letters4 : Str} {text5 : Str} {r : Str × Int × Int} (hm : i_BestLayout N list1 letters4 text5 = some r) (w : World) (v2 : Value) (hr3 : RdS w (cx w).Fz v2 fPlace.rp list1) :
    Calls Try.prog 21 #[v2, str letters4, str text5] w (Ret (cx w) (tup [str r.1, .int .i64 r.2.1, .int .i64 r.2.2])) := by
  unfold i_BestLayout at hm
  refine Calls.enter [v2, str letters4, str text5] Try.func21 rfl Try.ntmps21 rfl ?_
  refine WJ.seq ?_
  refine WJ.quiet ?_
  refine QJ.step (YldS.yld (y_assign rfl)) rfl ?_
  refine QJ.step (YldS.yld (y_assign rfl)) rfl ?_
  refine QJ.step (YldS.yld (y_assign rfl)) rfl ?_
  refine QJ.done ?_
  refine PJ.next ?_
  refine WJ.seq ?_
  refine WJ.seq ?_
  refine WJ.reg ?_
  refine SJ.q (YldS.yld (y_move rfl)) rfl ?_
  refine SJ.q (YldS.yld (y_move rfl)) rfl ?_
  refine SJ.q (YldS.yld (y_move rfl)) rfl ?_
  obtain ⟨r6, h7, hm⟩ := bindS hm
  refine SJ.call Try.call58 rfl (fun w hw => ok_i_strokesOf h7 w _ (hr3.st hw)) rfl ?_
  rintro _ _ ⟨v8, rfl, rfl⟩
  refine SJ.q (YldS.yld (y_move rfl)) rfl ?_
  refine SJ.q (YldS.yld (y_extract rfl rfl)) rfl ?_
  refine SJ.q (YldS.yld (y_extract rfl rfl)) rfl ?_
  refine SJ.q (YldS.yld (y_assign rfl)) rfl ?_
  refine SJ.q (YldS.yld (y_assign rfl)) rfl ?_
  refine SJ.nil ?_
  refine PJ.next ?_
  refine WJ.seq ?_
  refine WJ.quiet ?_
  refine QJ.step (YldS.yld (y_move rfl)) rfl ?_
  refine QJ.step (YldS.yld (y_bin rfl rfl rfl)) rfl ?_
  refine QJ.done ?_
  refine PJ.next ?_
  refine WJ.cond (t := (r6.2 != 0)) rfl (fun hb9 => ?_) (fun hb9 => ?_)
  · replace hm := ifT hm hb9
    refine WJ.seq ?_
    refine WJ.quiet ?_
    refine QJ.step (YldS.yld (y_move rfl)) rfl ?_
    refine QJ.step (YldS.yld (y_assign rfl)) rfl ?_
    refine QJ.step (YldS.yld (y_assign rfl)) rfl ?_
    refine QJ.step (YldS.yld (y_assign rfl)) rfl ?_
    refine QJ.done ?_
    refine PJ.next ?_
    refine WJ.ret ?_
    refine PJ.then_ret ?_
    obtain rfl := Option.some.inj hm
    refine PJ.sel (L' := []) [] ⟨List.nodup_nil, rfl⟩ ?_
    exact PJ.retn (vs := [str [], .int .i64 0, .int .i64 r6.2]) Try.results21 ⟨rfl, rfl, rfl, trivial⟩ ⟨rfl, rfl⟩
  · replace hm := ifF hm hb9
    refine WJ.skip ?_
    refine PJ.next ?_
    refine WJ.seq ?_
    refine WJ.reg ?_
    refine SJ.buildSlice (R := fI64) (os := []) [] Try.runUnderlying27 Try.sizeOf2 Try.zeroValue2 rfl rfl rfl rfl rfl rfl fun v10 => ?_
    refine SJ.alloc (cs := [.slice none 0 0]) Try.zeroValue27 rfl rfl fun g11 => ?_
    refine SJ.rowCells (k := 1) rfl fun hc12 => ?_
    refine SJ.storeL (k := 0) (off := 0) (us := [v10]) rfl rfl rfl hc12.1 Try.sizeOf27 rfl (by simp [hc12.2]) ?_
    refine SJ.nil ?_
    refine PJ.next ?_
    obtain ⟨kj15, hk16, hm⟩ := withK_open hm
    refine WJ.join (X := (List Int) × Value) (fun (x : (List Int) × Value) => kj15 x.1 = some r) (fun (x : (List Int) × Value) => [(0, v2), (2, str text5), (11, pt g11 0)]) (fun (x : (List Int) × Value) => [box g11 27 [x.2], row x.2 2 fI64 x.1]) ?_ ?_
    · clear hk16
      refine WJ.seq ?_
      refine WJ.quiet ?_
      refine QJ.step (YldS.yld (y_move rfl)) rfl ?_
      refine QJ.step (YldS.yld (y_lenStr Try.runUnderlying9 rfl)) rfl ?_
      refine QJ.step (YldS.yld (y_move rfl)) rfl ?_
      refine QJ.done ?_
      refine PJ.next ?_
      refine WJ.block ?_
      refine WJ.sel (L' := (fun (x : (List Int) × Value × Int) => [box g11 27 [x.2.1], row x.2.1 2 fI64 x.1]) ([], v10, 0)) [0, 1] ⟨by decide, rfl⟩ ?_
      refine WJ.sub (m' := (fun (x : (List Int) × Value × Int) => [(0, v2), (1, str letters4), (2, str text5), (11, pt g11 0), (33, .int .i64 (List.length letters4 : Int)), (34, .int .i64 x.2.2)]) ([], v10, 0)) ⟨rfl, rfl, rfl, rfl, rfl, rfl, trivial⟩ ?_
      refine WJ.loop (X := (List Int) × Value × Int) (fun N (x : (List Int) × Value × Int) => i_BestLayout_l1 kj15 letters4 N x.1 x.2.2 = some r) (fun (x : (List Int) × Value × Int) => [(0, v2), (1, str letters4), (2, str text5), (11, pt g11 0), (33, .int .i64 (List.length letters4 : Int)), (34, .int .i64 x.2.2)]) (fun (x : (List Int) × Value × Int) => [box g11 27 [x.2.1], row x.2.1 2 fI64 x.1]) ?_ N ([], v10, 0) hm
      · rintro N ⟨l17, v18, x19⟩ hI
        have hm := hI; clear hI
        cases N with
        | zero => cases hm
        | succ N =>
        unfold i_BestLayout_l1 at hm
        refine WJ.seq ?_
        refine WJ.quiet ?_
        refine QJ.step (YldS.yld (y_bin rfl rfl rfl)) rfl ?_
        refine QJ.done ?_
        refine PJ.next ?_
        refine WJ.seq ?_
        refine WJ.cond (t := decide (x19 < (List.length letters4 : Int))) rfl (fun hb20 => ?_) (fun hb20 => ?_)
        · replace hm := ifT hm hb20
          refine WJ.skip ?_
          refine PJ.next ?_
          refine WJ.seq ?_
          refine WJ.block ?_
          refine WJ.seq ?_
          refine WJ.quiet ?_
          refine QJ.step (YldS.yld (y_move rfl)) rfl ?_
          refine QJ.step (YldS.yld (y_assign rfl)) rfl ?_
          refine QJ.done ?_
          refine PJ.next ?_
          obtain ⟨c21, h22, hm⟩ := bindS hm
          obtain ⟨l24, h25, hm⟩ := bindS hm
          refine WJ.draws (N := 8) (listed0 := #[false, false, false, false, false, false, false, false]) [] follows rfl rfl ?_
          refine RJ.first 1 (listed' := #[false, true, false, false, false, false, false, false]) [] rfl (by kernel_rfl) rfl ⟨List.nodup_nil, rfl⟩ (y_move rfl) rfl ?_
          refine RJ.first 2 (listed' := #[false, true, true, false, false, false, false, false]) [] rfl (by kernel_rfl) rfl ⟨List.nodup_nil, rfl⟩ (y_move rfl) rfl ?_
          refine RJ.first 3 (listed' := #[false, true, true, true, false, false, false, false]) [] rfl (by kernel_rfl) rfl ⟨List.nodup_nil, rfl⟩ (y_idxStr Try.runUnderlying9 rfl rfl h22) rfl ?_
          refine RJ.first 4 (listed' := #[false, true, true, true, true, false, false, false]) [] rfl (by kernel_rfl) rfl ⟨List.nodup_nil, rfl⟩ (y_conv8 Try.runUnderlying5 Try.runUnderlying2 rfl) rfl ?_
          refine RJ.hold (X := Value) 2 #[true, true, true, true, true, true, false, false] (fun (x : Value) => [(0, v2), (1, str letters4), (2, str text5), (11, pt g11 0), (33, .int .i64 (List.length letters4 : Int)), (34, .int .i64 x19), (37, v18), (42, x)]) (fun (x : Value) => [row x 2 fI64 [(UInt8.toNat c21 : Int)], box g11 27 [v18], row v18 2 fI64 l17]) ?_ ?_
          · rintro v23
            refine RJ.step1 6 [] (by kernel_rfl) ⟨List.nodup_nil, rfl⟩ ?_
            refine RO.of (listed' := #[true, true, true, true, true, true, true, false]) rfl rfl ?_
            refine SJ.append (k := 2) (R := fI64) h25 rfl Try.underlying27 el2 rfl rfl rfl (fun w hw => (hw.row_rd (k := 0) rfl)) rfl fun v26 => ?_
            refine SJ.nil ?_
            refine PJ.draw ?_
            refine RJ.step1 7 [] (by kernel_rfl) ⟨List.nodup_nil, rfl⟩ ?_
            refine RO.of (listed' := #[true, true, true, true, true, true, true, true]) rfl rfl ?_
            refine SJ.rowCells (k := 2) rfl fun hc27 => ?_
            refine SJ.storeL (k := 1) (off := 0) (us := [v26]) rfl rfl rfl hc27.1 Try.sizeOf27 rfl (by simp [hc27.2]) ?_
            refine SJ.nil ?_
            refine PJ.draw ?_
            refine RJ.fin [] (by kernel_rfl) ⟨List.nodup_nil, rfl⟩ ?_
            refine PJ.block_normal (PJ.next ?_)
            refine WJ.quiet ?_
            refine QJ.step (YldS.yld (y_bin rfl rfl rfl)) rfl ?_
            refine QJ.step (YldS.yld (y_move rfl)) rfl ?_
            refine QJ.done ?_
            exact PJ.round (l24, v26, w64 (x19 + 1)) [1, 2] hm ⟨rfl, rfl, rfl, rfl, rfl, rfl, trivial⟩ ⟨by decide, rfl⟩
          · intro hD28
            refine RJ.step2 0 5 [] (by kernel_rfl) ⟨List.nodup_nil, rfl⟩ ?_ ?_
            · refine RO.of (listed' := #[true, true, true, true, true, false, false, false]) rfl rfl ?_
              refine SJ.q (YldS.yld (y_loadB (k := 0) (off := 0) (v := v18) rfl Try.isAgg27 rfl rfl)) rfl ?_
              refine SJ.nil ?_
              refine PJ.draw ?_
              refine RJ.step1 5 [] (by kernel_rfl) ⟨List.nodup_nil, rfl⟩ ?_
              refine RO.of (listed' := #[true, true, true, true, true, true, false, false]) rfl rfl ?_
              refine SJ.buildSlice (R := fI64) (os := [.tmp 41]) [(UInt8.toNat c21 : Int)] Try.runUnderlying27 Try.sizeOf2 Try.zeroValue2 rfl rfl rfl rfl rfl rfl fun v23 => ?_
              refine SJ.nil ?_
              refine PJ.draw ?_
              exact RJ.weak (hD28 v23) [0, 1, 2] ⟨rfl, rfl, rfl, rfl, rfl, rfl, rfl, rfl, trivial⟩ ⟨by decide, rfl⟩
            · refine RO.of (listed' := #[false, true, true, true, true, true, false, false]) rfl rfl ?_
              refine SJ.buildSlice (R := fI64) (os := [.tmp 41]) [(UInt8.toNat c21 : Int)] Try.runUnderlying27 Try.sizeOf2 Try.zeroValue2 rfl rfl rfl rfl rfl rfl fun v23 => ?_
              refine SJ.nil ?_
              refine PJ.draw ?_
              refine RJ.step1 0 [] (by kernel_rfl) ⟨List.nodup_nil, rfl⟩ ?_
              refine RO.of (listed' := #[true, true, true, true, true, true, false, false]) rfl rfl ?_
              refine SJ.q (YldS.yld (y_loadB (k := 1) (off := 0) (v := v18) rfl Try.isAgg27 rfl rfl)) rfl ?_
              refine SJ.nil ?_
              refine PJ.draw ?_
              exact RJ.weak (hD28 v23) [0, 1, 2] ⟨rfl, rfl, rfl, rfl, rfl, rfl, rfl, rfl, trivial⟩ ⟨by decide, rfl⟩
        · replace hm := ifF hm hb20
          refine WJ.exit ?_
          refine PJ.then_exit (PJ.then_exit (PJ.block_exit ?_))
          exact PJ.joined (l17, v18) [0, 1] hm ⟨rfl, rfl, rfl, trivial⟩ ⟨by decide, rfl⟩
    · rintro ⟨l13, v14⟩ hm
      subst hk16
      refine WJ.seq ?_
      refine WJ.reg ?_
      refine SJ.q (YldS.yld (y_loadB (k := 0) (off := 0) (v := v14) rfl Try.isAgg27 rfl rfl)) rfl ?_
      refine SJ.q (YldS.yld (y_iface Try.runUnderlying27 rfl)) rfl ?_
      refine SJ.q (YldS.yld (y_func (bs := [.tmp 11]) rfl)) rfl ?_
      obtain ⟨l29, h30, hm⟩ := bindS hm
      refine SJ.sort (k := 1) (less := fun i j dk => i_BestLayout_c1 i j dk) (lb := [pt g11 0]) sortC50_27 Try.call50 Try.call60 h30 (fun dk i j x y hx hy => by simp only [i_BestLayout_c1, hx, hy, idx2_0, idx2_1]) rfl rfl (fun w dk hw i j b hm => okx_i_BestLayout_c1 hm w _ _ (hw.box_at (k := 0) rfl) (hw.row_rd (k := 1) rfl)) rfl ?_
      refine SJ.nil ?_
      refine PJ.next ?_
      refine WJ.seq ?_
      refine WJ.quiet ?_
      refine QJ.step (YldS.yld (y_assign rfl)) rfl ?_
      refine QJ.step (YldS.yld (y_assign rfl)) rfl ?_
      refine QJ.done ?_
      refine PJ.next ?_
      refine WJ.block ?_
      refine WJ.sel (L' := (fun (x : (List Int) × Str × Int) => [box g11 27 [v14], row v14 2 fI64 x.1]) (l29, [], (-1))) [0, 1] ⟨by decide, rfl⟩ ?_
      refine WJ.sub (m' := (fun (x : (List Int) × Str × Int) => [(0, v2), (2, str text5), (11, pt g11 0), (13, str x.2.1), (14, .int .i64 x.2.2)]) (l29, [], (-1))) ⟨rfl, rfl, rfl, rfl, rfl, trivial⟩ ?_
      refine WJ.loop (X := (List Int) × Str × Int) (fun N (x : (List Int) × Str × Int) => i_BestLayout_l2 list1 text5 N x.1 x.2.1 x.2.2 = some r) (fun (x : (List Int) × Str × Int) => [(0, v2), (2, str text5), (11, pt g11 0), (13, str x.2.1), (14, .int .i64 x.2.2)]) (fun (x : (List Int) × Str × Int) => [box g11 27 [v14], row v14 2 fI64 x.1]) ?_ N (l29, [], (-1)) hm
      · rintro N ⟨l31, best32, least33⟩ hI
        have hm := hI; clear hI
        cases N with
        | zero => cases hm
        | succ N =>
        unfold i_BestLayout_l2 at hm
        refine WJ.block ?_
        refine WJ.seq ?_
        refine WJ.reg ?_
        refine SJ.buildSlice (R := fByte) (os := []) [] Try.runUnderlying22 Try.sizeOf5 Try.zeroValue5 rfl rfl rfl rfl rfl rfl fun v34 => ?_
        refine SJ.q (YldS.yld (y_assign rfl)) rfl ?_
        refine SJ.nil ?_
        refine PJ.next ?_
        obtain ⟨kj37, hk38, hm⟩ := withK_open hm
        refine WJ.join (X := (List UInt8) × Value) (fun (x : (List UInt8) × Value) => kj37 x.1 = some r) (fun (x : (List UInt8) × Value) => [(0, v2), (2, str text5), (11, pt g11 0), (13, str best32), (14, .int .i64 least33), (15, x.2)]) (fun (x : (List UInt8) × Value) => [row x.2 5 fByte x.1, box g11 27 [v14], row v14 2 fI64 l31]) ?_ ?_
        · clear hk38
          refine WJ.seq ?_
          refine WJ.quiet ?_
          refine QJ.step (YldS.yld (y_loadB (k := 1) (off := 0) (v := v14) rfl Try.isAgg27 rfl rfl)) rfl ?_
          refine QJ.step (YldS.yld (y_lenRow (k := 2) rfl Try.runUnderlying27 rfl)) rfl ?_
          refine QJ.step (YldS.yld (y_move rfl)) rfl ?_
          refine QJ.done ?_
          refine PJ.next ?_
          refine WJ.block ?_
          refine WJ.sel (L' := (fun (x : (List UInt8) × Value × Int) => [row x.2.1 5 fByte x.1, box g11 27 [v14], row v14 2 fI64 l31]) ([], v34, 0)) [0, 1, 2] ⟨by decide, rfl⟩ ?_
          refine WJ.sub (m' := (fun (x : (List UInt8) × Value × Int) => [(0, v2), (2, str text5), (11, pt g11 0), (13, str best32), (14, .int .i64 least33), (15, x.2.1), (50, v14), (51, .int .i64 (List.length l31 : Int)), (52, .int .i64 x.2.2)]) ([], v34, 0)) ⟨rfl, rfl, rfl, rfl, rfl, rfl, rfl, rfl, rfl, trivial⟩ ?_
          refine WJ.loop (X := (List UInt8) × Value × Int) (fun N (x : (List UInt8) × Value × Int) => i_BestLayout_l3 kj37 l31 N x.1 x.2.2 = some r) (fun (x : (List UInt8) × Value × Int) => [(0, v2), (2, str text5), (11, pt g11 0), (13, str best32), (14, .int .i64 least33), (15, x.2.1), (50, v14), (51, .int .i64 (List.length l31 : Int)), (52, .int .i64 x.2.2)]) (fun (x : (List UInt8) × Value × Int) => [row x.2.1 5 fByte x.1, box g11 27 [v14], row v14 2 fI64 l31]) ?_ N ([], v34, 0) hm
          · rintro N ⟨l39, v40, x41⟩ hI
            have hm := hI; clear hI
            cases N with
            | zero => cases hm
            | succ N =>
            unfold i_BestLayout_l3 at hm
            refine WJ.seq ?_
            refine WJ.quiet ?_
            refine QJ.step (YldS.yld (y_bin rfl rfl rfl)) rfl ?_
            refine QJ.done ?_
            refine PJ.next ?_
            refine WJ.seq ?_
            refine WJ.cond (t := decide (x41 < (List.length l31 : Int))) rfl (fun hb42 => ?_) (fun hb42 => ?_)
            · replace hm := ifT hm hb42
              refine WJ.skip ?_
              refine PJ.next ?_
              refine WJ.seq ?_
              refine WJ.block ?_
              refine WJ.seq ?_
              refine WJ.quiet ?_
              obtain ⟨e43, h44, hm⟩ := bindS hm
              refine QJ.step (YldS.yld (y_ixRow (k := 2) (R := fI64) rfl Try.runUnderlying27 Try.sizeOf2 rfl rfl h44)) rfl ?_
              refine QJ.step (YldS.yld (y_loadR (k := 2) (i := (Int.toNat x41)) (off := 0) (u := .int .i64 e43) rfl Try.isAgg2 rfl (idx_get h44) rfl)) rfl ?_
              refine QJ.step (YldS.yld (y_assign rfl)) rfl ?_
              refine QJ.done ?_
              refine PJ.next ?_
              refine WJ.reg ?_
              refine SJ.q (YldS.yld (y_move rfl)) rfl ?_
              refine SJ.q (YldS.yld (y_move rfl)) rfl ?_
              refine SJ.q (YldS.yld (y_convTo8 Try.runUnderlying2 Try.runUnderlying5 rfl)) rfl ?_
              refine SJ.buildSlice (R := fByte) (os := [.tmp 58]) [UInt8.ofInt e43] Try.runUnderlying22 Try.sizeOf5 Try.zeroValue5 rfl rfl rfl rfl rfl rfl fun v45 => ?_
              obtain ⟨l46, h47, hm⟩ := bindS hm
              refine SJ.append (k := 1) (R := fByte) h47 rfl Try.underlying22 el5 rfl rfl rfl (fun w hw => (hw.row_rd (k := 0) rfl)) rfl fun v48 => ?_
              refine SJ.q (YldS.yld (y_assign rfl)) rfl ?_
              refine SJ.nil ?_
              refine PJ.block_normal (PJ.next ?_)
              refine WJ.quiet ?_
              refine QJ.step (YldS.yld (y_bin rfl rfl rfl)) rfl ?_
              refine QJ.step (YldS.yld (y_move rfl)) rfl ?_
              refine QJ.done ?_
              exact PJ.round (l46, v48, w64 (x41 + 1)) [1, 2, 3] hm ⟨rfl, rfl, rfl, rfl, rfl, rfl, rfl, rfl, rfl, trivial⟩ ⟨by decide, rfl⟩
            · replace hm := ifF hm hb42
              refine WJ.exit ?_
              refine PJ.then_exit (PJ.then_exit (PJ.block_exit ?_))
              exact PJ.joined (l39, v40) [0, 1, 2] hm ⟨rfl, rfl, rfl, rfl, rfl, rfl, trivial⟩ ⟨by decide, rfl⟩
        · rintro ⟨l35, v36⟩ hm
          subst hk38
          refine WJ.seq ?_
          refine WJ.reg ?_
          refine SJ.q (YldS.yld (y_move rfl)) rfl ?_
          refine SJ.q (YldS.yld (y_b2s Try.underlying22 Try.underlying9 Try.underlying5 (fun w hw => ⟨_, (hw.row_rd (k := 0) rfl)⟩) rfl)) rfl ?_
          refine SJ.q (YldS.yld (y_move rfl)) rfl ?_
          obtain ⟨r49, h50, hm⟩ := bindS hm
          refine SJ.call Try.call61 rfl (fun w hw => ok_i_placesOf h50 w ) rfl ?_
          rintro _ _ ⟨v51, rfl, rfl⟩
          refine SJ.q (YldS.yld (y_move rfl)) rfl ?_
          refine SJ.q (YldS.yld (y_extract rfl rfl)) rfl ?_
          refine SJ.q (YldS.yld (y_extract rfl rfl)) rfl ?_
          refine SJ.q (YldS.yld (y_assign rfl)) rfl ?_
          refine SJ.q (YldS.yld (y_assign rfl)) rfl ?_
          refine SJ.nil ?_
          refine PJ.next ?_
          obtain ⟨kj54, hk55, hm⟩ := withK_open hm
          refine WJ.join (X := Str × Int) (fun (x : Str × Int) => kj54 x.1 x.2 = some r) (fun (x : Str × Int) => [(0, v2), (2, str text5), (11, pt g11 0), (13, str x.1), (14, .int .i64 x.2)]) (fun (x : Str × Int) => [box g11 27 [v14], row v14 2 fI64 l31]) ?_ ?_
          · clear hk55
            refine WJ.seq ?_
            refine WJ.quiet ?_
            refine QJ.step (YldS.yld (y_move rfl)) rfl ?_
            refine QJ.step (YldS.yld (y_move rfl)) rfl ?_
            obtain ⟨r56, h57, hm⟩ := bindS hm
            refine QJ.step (y_call Try.call59 rfl (RetG.quiet fun w hw => ok_i_placesCost h57 w _ (hr3.st hw) _ (hw.row_rd (k := 0) rfl))) rfl ?_
            refine QJ.step (YldS.yld (y_assign rfl)) rfl ?_
            refine QJ.done ?_
            refine PJ.next ?_
            refine WJ.seq ?_
            refine WJ.quiet ?_
            refine QJ.step (YldS.yld (y_move rfl)) rfl ?_
            refine QJ.step (YldS.yld (y_bin rfl rfl rfl)) rfl ?_
            refine QJ.step (YldS.yld (y_move rfl)) rfl ?_
            obtain ⟨t58, h59, hm⟩ := bindS hm
            refine QJ.cut 4 [(0, v2), (2, str text5), (11, pt g11 0), (13, str best32), (14, .int .i64 least33), (15, v36), (20, .int .i64 r56), (78, .bool t58)] ?_ ?_
            · rcases Bool.eq_false_or_eq_true (decide (least33 < 0)) with hb60 | hb60
              · obtain rfl := orT h59 hb60
                refine QJ.off rfl rfl (cB hb60) rfl rfl ?_
                refine QJ.off rfl rfl (cB hb60) rfl rfl ?_
                refine QJ.off rfl rfl (cB hb60) rfl rfl ?_
                refine QJ.step (YldS.yld (y_pick_t (cB hb60) rfl)) rfl ?_
                exact QJ.cut_end ⟨rfl, rfl, rfl, rfl, rfl, rfl, rfl, rfl, trivial⟩
              · replace h59 := orF h59 hb60
                refine QJ.on rfl rfl (cB hb60) (YldS.yld (y_move rfl)) rfl ?_
                refine QJ.on rfl rfl (cB hb60) (YldS.yld (y_move rfl)) rfl ?_
                refine QJ.on rfl rfl (cB hb60) (YldS.yld (y_bin rfl rfl rfl)) rfl ?_
                refine QJ.step (YldS.yld (y_pick_f (cB hb60) rfl)) rfl ?_
                obtain rfl := Option.some.inj h59
                exact QJ.cut_end ⟨rfl, rfl, rfl, rfl, rfl, rfl, rfl, rfl, trivial⟩
            refine QJ.done ?_
            refine PJ.next ?_
            refine WJ.cond (t := t58) rfl (fun hb61 => ?_) (fun hb61 => ?_)
            · replace hm := ifT hm hb61
              refine WJ.quiet ?_
              refine QJ.step (YldS.yld (y_move rfl)) rfl ?_
              refine QJ.step (YldS.yld (y_b2s Try.underlying22 Try.underlying9 Try.underlying5 (fun w hw => ⟨_, (hw.row_rd (k := 1) rfl)⟩) rfl)) rfl ?_
              refine QJ.step (YldS.yld (y_move rfl)) rfl ?_
              refine QJ.step (YldS.yld (y_assign rfl)) rfl ?_
              refine QJ.step (YldS.yld (y_assign rfl)) rfl ?_
              refine QJ.done ?_
              exact PJ.joined (l35, r56) [2, 3] hm ⟨rfl, rfl, rfl, rfl, rfl, trivial⟩ ⟨by decide, rfl⟩
            · replace hm := ifF hm hb61
              refine WJ.skip ?_
              exact PJ.joined (best32, least33) [2, 3] hm ⟨rfl, rfl, rfl, rfl, rfl, trivial⟩ ⟨by decide, rfl⟩
          · rintro ⟨best52, least53⟩ hm
            subst hk55
            refine WJ.seq ?_
            refine WJ.reg ?_
            refine SJ.q (YldS.yld (y_loadB (k := 0) (off := 0) (v := v14) rfl Try.isAgg27 rfl rfl)) rfl ?_
            obtain ⟨r62, h63, hm⟩ := bindS hm
            refine SJ.call1 (k := 1) rfl Try.call62 rfl (fun w S hw hA hO => ok_i_nextPermutation h63 w S  hA) rfl ?_
            rintro _ _ ⟨rfl, rfl⟩
            refine SJ.q (YldS.yld (y_not rfl)) rfl ?_
            refine SJ.nil ?_
            refine PJ.next ?_
            refine WJ.cond (t := !r62.1) rfl (fun hb64 => ?_) (fun hb64 => ?_)
            · replace hm := ifT hm hb64
              refine WJ.seq ?_
              refine WJ.quiet ?_
              refine QJ.step (YldS.yld (y_move rfl)) rfl ?_
              refine QJ.step (YldS.yld (y_move rfl)) rfl ?_
              refine QJ.step (YldS.yld (y_assign rfl)) rfl ?_
              refine QJ.step (YldS.yld (y_assign rfl)) rfl ?_
              refine QJ.step (YldS.yld (y_assign rfl)) rfl ?_
              refine QJ.done ?_
              refine PJ.next ?_
              refine WJ.ret ?_
              refine PJ.block_ret (PJ.then_ret (PJ.block_ret ?_))
              obtain rfl := Option.some.inj hm
              refine PJ.sel (L' := []) [] ⟨List.nodup_nil, rfl⟩ ?_
              exact PJ.retn (vs := [str best52, .int .i64 least53, .int .i64 0]) Try.results21 ⟨rfl, rfl, rfl, trivial⟩ ⟨rfl, rfl⟩
            · replace hm := ifF hm hb64
              refine WJ.skip ?_
              refine PJ.block_normal ?_
              exact PJ.round (r62.2, best52, least53) [1, 0] hm ⟨rfl, rfl, rfl, rfl, rfl, trivial⟩ ⟨by decide, rfl⟩

set_option maxRecDepth 100000 in
set_option maxHeartbeats 1000000 in
theorem ok_i_HandsOf {N : Nat} {list1 : List Place} {layout4 : Str} {text5 : Str} {r : Int × Int × Int} (hm : i_HandsOf N list1 layout4 text5 = some r) (w : World) (v2 : Value) (hr3 : RdS w (cx w).Fz v2 fPlace.rp list1) :
    Calls Try.prog 22 #[v2, str layout4, str text5] w (Ret (cx w) (tup [.int .i64 r.1, .int .i64 r.2.1, .int .i64 r.2.2])) := by
  unfold i_HandsOf at hm
  refine Calls.enter [v2, str layout4, str text5] Try.func22 rfl Try.ntmps22 rfl ?_
  refine WJ.seq ?_
  refine WJ.quiet ?_
  refine QJ.step (YldS.yld (y_assign rfl)) rfl ?_
  refine QJ.step (YldS.yld (y_assign rfl)) rfl ?_
  refine QJ.step (YldS.yld (y_assign rfl)) rfl ?_
  refine QJ.done ?_
  refine PJ.next ?_
  refine WJ.seq ?_
  refine WJ.reg ?_
  refine SJ.q (YldS.yld (y_move rfl)) rfl ?_
  refine SJ.q (YldS.yld (y_move rfl)) rfl ?_
  refine SJ.q (YldS.yld (y_move rfl)) rfl ?_
  obtain ⟨r6, h7, hm⟩ := bindS hm
  refine SJ.call Try.call58 rfl (fun w hw => ok_i_strokesOf h7 w _ (hr3.st hw)) rfl ?_
  rintro _ _ ⟨v8, rfl, rfl⟩
  refine SJ.q (YldS.yld (y_move rfl)) rfl ?_
  refine SJ.q (YldS.yld (y_extract rfl rfl)) rfl ?_
  refine SJ.q (YldS.yld (y_extract rfl rfl)) rfl ?_
  refine SJ.q (YldS.yld (y_assign rfl)) rfl ?_
  refine SJ.q (YldS.yld (y_assign rfl)) rfl ?_
  refine SJ.nil ?_
  refine PJ.next ?_
  refine WJ.seq ?_
  refine WJ.seq ?_
  refine WJ.quiet ?_
  refine QJ.step (YldS.yld (y_move rfl)) rfl ?_
  refine QJ.step (YldS.yld (y_bin rfl rfl rfl)) rfl ?_
  refine QJ.done ?_
  refine PJ.next ?_
  refine WJ.cond (t := (r6.2 != 0)) rfl (fun hb9 => ?_) (fun hb9 => ?_)
  · replace hm := ifT hm hb9
    refine WJ.seq ?_
    refine WJ.quiet ?_
    refine QJ.step (YldS.yld (y_move rfl)) rfl ?_
    refine QJ.step (YldS.yld (y_assign rfl)) rfl ?_
    refine QJ.step (YldS.yld (y_assign rfl)) rfl ?_
    refine QJ.step (YldS.yld (y_assign rfl)) rfl ?_
    refine QJ.done ?_
    refine PJ.next ?_
    refine WJ.ret ?_
    refine PJ.then_ret ?_
    obtain rfl := Option.some.inj hm
    refine PJ.sel (L' := []) [] ⟨List.nodup_nil, rfl⟩ ?_
    exact PJ.retn (vs := [.int .i64 0, .int .i64 0, .int .i64 r6.2]) Try.results22 ⟨rfl, rfl, rfl, trivial⟩ ⟨rfl, rfl⟩
  · replace hm := ifF hm hb9
    refine WJ.skip ?_
    refine PJ.next ?_
    refine WJ.seq ?_
    refine WJ.quiet ?_
    refine QJ.step (YldS.yld (y_assign rfl)) rfl ?_
    refine QJ.done ?_
    refine PJ.next ?_
    obtain ⟨kj11, hk12, hm⟩ := withK_open hm
    refine WJ.join (X := Int) (fun (x : Int) => kj11 x = some r) (fun (x : Int) => [(9, v8), (11, .int .i64 x)]) (fun (x : Int) => [row v8 2 fI64 r6.1]) ?_ ?_
    · clear hk12
      refine WJ.seq ?_
      refine WJ.quiet ?_
      refine QJ.step (YldS.yld (y_move rfl)) rfl ?_
      refine QJ.step (YldS.yld (y_lenRow (k := 0) rfl Try.runUnderlying27 rfl)) rfl ?_
      refine QJ.step (YldS.yld (y_move rfl)) rfl ?_
      refine QJ.done ?_
      refine PJ.next ?_
      refine WJ.block ?_
      refine WJ.sel (L' := (fun (x : Int × Int) => [row v8 2 fI64 r6.1]) (0, 0)) [0] ⟨by decide, rfl⟩ ?_
      refine WJ.sub (m' := (fun (x : Int × Int) => [(0, v2), (9, v8), (11, .int .i64 x.1), (24, v8), (25, .int .i64 (List.length r6.1 : Int)), (26, .int .i64 x.2)]) (0, 0)) ⟨rfl, rfl, rfl, rfl, rfl, rfl, trivial⟩ ?_
      refine WJ.loop (X := Int × Int) (fun N (x : Int × Int) => i_HandsOf_l1 kj11 list1 r6 N x.1 x.2 = some r) (fun (x : Int × Int) => [(0, v2), (9, v8), (11, .int .i64 x.1), (24, v8), (25, .int .i64 (List.length r6.1 : Int)), (26, .int .i64 x.2)]) (fun (x : Int × Int) => [row v8 2 fI64 r6.1]) ?_ N (0, 0) hm
      · rintro N ⟨left13, x14⟩ hI
        have hm := hI; clear hI
        cases N with
        | zero => cases hm
        | succ N =>
        unfold i_HandsOf_l1 at hm
        refine WJ.seq ?_
        refine WJ.quiet ?_
        refine QJ.step (YldS.yld (y_bin rfl rfl rfl)) rfl ?_
        refine QJ.done ?_
        refine PJ.next ?_
        refine WJ.seq ?_
        refine WJ.cond (t := decide (x14 < (List.length r6.1 : Int))) rfl (fun hb15 => ?_) (fun hb15 => ?_)
        · replace hm := ifT hm hb15
          refine WJ.skip ?_
          refine PJ.next ?_
          obtain ⟨kj17, hk18, hm⟩ := withK_open hm
          refine WJ.join (X := Int) (fun (x : Int) => kj17 x = some r) (fun (x : Int) => [(0, v2), (9, v8), (11, .int .i64 x), (24, v8), (25, .int .i64 (List.length r6.1 : Int)), (26, .int .i64 x14)]) (fun (x : Int) => [row v8 2 fI64 r6.1]) ?_ ?_
          · clear hk18
            refine WJ.block ?_
            refine WJ.seq ?_
            refine WJ.quiet ?_
            obtain ⟨e19, h20, hm⟩ := bindS hm
            refine QJ.step (YldS.yld (y_ixRow (k := 0) (R := fI64) rfl Try.runUnderlying27 Try.sizeOf2 rfl rfl h20)) rfl ?_
            refine QJ.step (YldS.yld (y_loadR (k := 0) (i := (Int.toNat x14)) (off := 0) (u := .int .i64 e19) rfl Try.isAgg2 rfl (idx_get h20) rfl)) rfl ?_
            refine QJ.step (YldS.yld (y_assign rfl)) rfl ?_
            refine QJ.done ?_
            refine PJ.next ?_
            refine WJ.seq ?_
            refine WJ.quiet ?_
            refine QJ.step (YldS.yld (y_move rfl)) rfl ?_
            refine QJ.step (YldS.yld (y_move rfl)) rfl ?_
            obtain ⟨e21, h22, hm⟩ := bindS hm
            obtain ⟨ad23, _, rfl, ha24, hy25⟩ := hr3.elem h22
            refine QJ.step (YldS.yld (hy25 Try.runUnderlying42 Try.sizeOf55 rfl rfl)) rfl ?_
            refine QJ.step (YldS.yld (y_loadN Try.isAgg55 Try.sizeOf55 rfl ha24 St.frozenC rfl)) rfl ?_
            obtain ⟨r26, h27, hm⟩ := bindS hm
            refine QJ.step (y_call Try.call63 rfl (RetG.quiet fun w hw => ok_i_Place_isLeft h27 w )) rfl ?_
            refine QJ.done ?_
            refine PJ.next ?_
            refine WJ.cond (t := r26) rfl (fun hb28 => ?_) (fun hb28 => ?_)
            · replace hm := ifT hm hb28
              refine WJ.quiet ?_
              refine QJ.step (YldS.yld (y_move rfl)) rfl ?_
              refine QJ.step (YldS.yld (y_bin rfl rfl rfl)) rfl ?_
              refine QJ.step (YldS.yld (y_assign rfl)) rfl ?_
              refine QJ.done ?_
              refine PJ.block_normal ?_
              exact PJ.joined (w64 (left13 + 1)) [0] hm ⟨rfl, rfl, rfl, rfl, rfl, rfl, trivial⟩ ⟨by decide, rfl⟩
            · replace hm := ifF hm hb28
              refine WJ.skip ?_
              refine PJ.block_normal ?_
              exact PJ.joined left13 [0] hm ⟨rfl, rfl, rfl, rfl, rfl, rfl, trivial⟩ ⟨by decide, rfl⟩
          · rintro left16 hm
            subst hk18
            refine WJ.quiet ?_
            refine QJ.step (YldS.yld (y_bin rfl rfl rfl)) rfl ?_
            refine QJ.step (YldS.yld (y_move rfl)) rfl ?_
            refine QJ.done ?_
            exact PJ.round (left16, w64 (x14 + 1)) [0] hm ⟨rfl, rfl, rfl, rfl, rfl, rfl, trivial⟩ ⟨by decide, rfl⟩
        · replace hm := ifF hm hb15
          refine WJ.exit ?_
          refine PJ.then_exit (PJ.then_exit (PJ.block_exit ?_))
          exact PJ.joined left13 [0] hm ⟨rfl, rfl, trivial⟩ ⟨by decide, rfl⟩
    · rintro left10 hm
      subst hk12
      refine WJ.seq ?_
      refine WJ.quiet ?_
      refine QJ.step (YldS.yld (y_move rfl)) rfl ?_
      refine QJ.step (YldS.yld (y_move rfl)) rfl ?_
      refine QJ.step (YldS.yld (y_lenRow (k := 0) rfl Try.runUnderlying27 rfl)) rfl ?_
      refine QJ.step (YldS.yld (y_move rfl)) rfl ?_
      refine QJ.step (YldS.yld (y_bin rfl rfl rfl)) rfl ?_
      refine QJ.step (YldS.yld (y_assign rfl)) rfl ?_
      refine QJ.step (YldS.yld (y_assign rfl)) rfl ?_
      refine QJ.step (YldS.yld (y_assign rfl)) rfl ?_
      refine QJ.done ?_
      refine PJ.next ?_
      refine WJ.ret ?_
      obtain rfl := Option.some.inj hm
      refine PJ.sel (L' := []) [] ⟨List.nodup_nil, rfl⟩ ?_
      exact PJ.retn (vs := [.int .i64 left10, .int .i64 (w64 ((List.length r6.1 : Int) - left10)), .int .i64 0]) Try.results22 ⟨rfl, rfl, rfl, trivial⟩ ⟨rfl, rfl⟩

set_option maxRecDepth 100000 in
set_option maxHeartbeats 1000000 in
theorem ok_i_FingersOf {N : Nat} {list1 : List Place} {layout4 : Str} {text5 : Str} {r : (List Int) × Int} (hm : i_FingersOf N list1 layout4 text5 = some r) (w : World) (v2 : Value) (hr3 : RdS w (cx w).Fz v2 fPlace.rp list1) :
    Calls Try.prog 23 #[v2, str layout4, str text5] w (RetG (cx w) fun u L => ∃ (u1 : Value), (u = tup [u1, .int .i64 r.2] ∧ L = [row u1 2 fI64 r.1])) := by
  unfold i_FingersOf at hm
  refine Calls.enter [v2, str layout4, str text5] Try.func23 rfl Try.ntmps23 rfl ?_
  refine WJ.seq ?_
  refine WJ.quiet ?_
  refine QJ.step (YldS.yld (y_assign rfl)) rfl ?_
  refine QJ.step (YldS.yld (y_assign rfl)) rfl ?_
  refine QJ.done ?_
  refine PJ.next ?_
  refine WJ.seq ?_
  refine WJ.reg ?_
  refine SJ.q (YldS.yld (y_move rfl)) rfl ?_
  refine SJ.q (YldS.yld (y_move rfl)) rfl ?_
  refine SJ.q (YldS.yld (y_move rfl)) rfl ?_
  obtain ⟨r6, h7, hm⟩ := bindS hm
  refine SJ.call Try.call58 rfl (fun w hw => ok_i_strokesOf h7 w _ (hr3.st hw)) rfl ?_
  rintro _ _ ⟨v8, rfl, rfl⟩
  refine SJ.q (YldS.yld (y_move rfl)) rfl ?_
  refine SJ.q (YldS.yld (y_extract rfl rfl)) rfl ?_
  refine SJ.q (YldS.yld (y_extract rfl rfl)) rfl ?_
  refine SJ.q (YldS.yld (y_assign rfl)) rfl ?_
  refine SJ.q (YldS.yld (y_assign rfl)) rfl ?_
  refine SJ.nil ?_
  refine PJ.next ?_
  refine WJ.seq ?_
  refine WJ.seq ?_
  refine WJ.quiet ?_
  refine QJ.step (YldS.yld (y_move rfl)) rfl ?_
  refine QJ.step (YldS.yld (y_bin rfl rfl rfl)) rfl ?_
  refine QJ.done ?_
  refine PJ.next ?_
  refine WJ.cond (t := (r6.2 != 0)) rfl (fun hb9 => ?_) (fun hb9 => ?_)
  · replace hm := ifT hm hb9
    refine WJ.seq ?_
    refine WJ.quiet ?_
    refine QJ.step (YldS.yld (y_move rfl)) rfl ?_
    refine QJ.step (YldS.yld (y_assign rfl)) rfl ?_
    refine QJ.step (YldS.yld (y_assign rfl)) rfl ?_
    refine QJ.done ?_
    refine PJ.next ?_
    refine WJ.ret ?_
    refine PJ.then_ret ?_
    refine PJ.nil_row 2 fI64 ?_
    obtain rfl := Option.some.inj hm
    refine PJ.sel (L' := [row (.slice none 0 0) 2 fI64 []]) [0] ⟨by decide, rfl⟩ ?_
    exact PJ.retn (vs := [(.slice none 0 0), .int .i64 r6.2]) Try.results23 ⟨rfl, rfl, trivial⟩ ⟨_, rfl, rfl⟩
  · replace hm := ifF hm hb9
    refine WJ.skip ?_
    refine PJ.next ?_
    refine WJ.seq ?_
    refine WJ.reg ?_
    obtain ⟨l10, h11, hm⟩ := bindS hm
    refine SJ.makeSlice (R := fI64) (z := 0) h11 Try.underlying27 el2 rfl rfl rfl fun v12 => ?_
    refine SJ.q (YldS.yld (y_assign rfl)) rfl ?_
    refine SJ.nil ?_
    refine PJ.next ?_
    obtain ⟨kj14, hk15, hm⟩ := withK_open hm
    refine WJ.join (X := (List Int)) (fun (x : (List Int)) => kj14 x = some r) (fun (x : (List Int)) => [(10, v12)]) (fun (x : (List Int)) => [row v12 2 fI64 x]) ?_ ?_
    · clear hk15
      refine WJ.seq ?_
      refine WJ.quiet ?_
      refine QJ.step (YldS.yld (y_move rfl)) rfl ?_
      refine QJ.step (YldS.yld (y_lenRow (k := 1) rfl Try.runUnderlying27 rfl)) rfl ?_
      refine QJ.step (YldS.yld (y_move rfl)) rfl ?_
      refine QJ.done ?_
      refine PJ.next ?_
      refine WJ.block ?_
      refine WJ.sel (L' := (fun (x : (List Int) × Int) => [row v12 2 fI64 x.1, row v8 2 fI64 r6.1]) (l10, 0)) [0, 1] ⟨by decide, rfl⟩ ?_
      refine WJ.sub (m' := (fun (x : (List Int) × Int) => [(0, v2), (10, v12), (24, v8), (25, .int .i64 (List.length r6.1 : Int)), (26, .int .i64 x.2)]) (l10, 0)) ⟨rfl, rfl, rfl, rfl, rfl, trivial⟩ ?_
      refine WJ.loop (X := (List Int) × Int) (fun N (x : (List Int) × Int) => i_FingersOf_l1 kj14 list1 r6 N x.1 x.2 = some r) (fun (x : (List Int) × Int) => [(0, v2), (10, v12), (24, v8), (25, .int .i64 (List.length r6.1 : Int)), (26, .int .i64 x.2)]) (fun (x : (List Int) × Int) => [row v12 2 fI64 x.1, row v8 2 fI64 r6.1]) ?_ N (l10, 0) hm
      · rintro N ⟨l16, x17⟩ hI
        have hm := hI; clear hI
        cases N with
        | zero => cases hm
        | succ N =>
        unfold i_FingersOf_l1 at hm
        refine WJ.seq ?_
        refine WJ.quiet ?_
        refine QJ.step (YldS.yld (y_bin rfl rfl rfl)) rfl ?_
        refine QJ.done ?_
        refine PJ.next ?_
        refine WJ.seq ?_
        refine WJ.cond (t := decide (x17 < (List.length r6.1 : Int))) rfl (fun hb18 => ?_) (fun hb18 => ?_)
        · replace hm := ifT hm hb18
          refine WJ.skip ?_
          refine PJ.next ?_
          refine WJ.seq ?_
          refine WJ.block ?_
          refine WJ.seq ?_
          refine WJ.quiet ?_
          obtain ⟨e19, h20, hm⟩ := bindS hm
          refine QJ.step (YldS.yld (y_ixRow (k := 1) (R := fI64) rfl Try.runUnderlying27 Try.sizeOf2 rfl rfl h20)) rfl ?_
          refine QJ.step (YldS.yld (y_loadR (k := 1) (i := (Int.toNat x17)) (off := 0) (u := .int .i64 e19) rfl Try.isAgg2 rfl (idx_get h20) rfl)) rfl ?_
          refine QJ.step (YldS.yld (y_assign rfl)) rfl ?_
          refine QJ.done ?_
          refine PJ.next ?_
          refine WJ.reg ?_
          refine SJ.q (YldS.yld (y_move rfl)) rfl ?_
          refine SJ.q (YldS.yld (y_move rfl)) rfl ?_
          refine SJ.q (YldS.yld (y_move rfl)) rfl ?_
          obtain ⟨e21, h22, hm⟩ := bindS hm
          obtain ⟨ad23, _, rfl, ha24, hy25⟩ := hr3.elem h22
          refine SJ.q (YldS.yld (hy25 Try.runUnderlying42 Try.sizeOf55 rfl rfl)) rfl ?_
          refine SJ.q (YldS.yld (y_fld (ad := ad23) fld55_0 rfl)) rfl ?_
          refine SJ.q (YldS.yld (y_load1 (v := .int .i64 e21.finger) Try.isAgg2 (ha24.sub 0 1) St.frozenC rfl)) rfl ?_
          obtain ⟨e26, h27, hm⟩ := bindS hm
          refine SJ.q (YldS.yld (y_ixRow (k := 0) (R := fI64) rfl Try.runUnderlying27 Try.sizeOf2 rfl rfl h27)) rfl ?_
          refine SJ.q (YldS.yld (y_loadR (k := 0) (i := (Int.toNat e21.finger)) (off := 0) (u := .int .i64 e26) rfl Try.isAgg2 rfl (idx_get h27) rfl)) rfl ?_
          refine SJ.q (YldS.yld (y_bin rfl rfl rfl)) rfl ?_
          obtain ⟨e28, h29, hm⟩ := bindS hm
          refine SJ.q (YldS.yld (y_ixRow (k := 0) (R := fI64) rfl Try.runUnderlying27 Try.sizeOf2 rfl rfl h29)) rfl ?_
          refine SJ.storeRL (k := 0) (i := (Int.toNat e21.finger)) (off := 0) (us := [.int .i64 (w64 (e26 + 1))]) (b := w64 (e26 + 1)) rfl rfl (idx_get h29) rfl rfl Try.sizeOf2 rfl rfl rfl ?_
          refine SJ.nil ?_
          refine PJ.block_normal (PJ.next ?_)
          refine WJ.quiet ?_
          refine QJ.step (YldS.yld (y_bin rfl rfl rfl)) rfl ?_
          refine QJ.step (YldS.yld (y_move rfl)) rfl ?_
          refine QJ.done ?_
          exact PJ.round ((List.set l16 (Int.toNat e21.finger) (w64 (e26 + 1))), w64 (x17 + 1)) [0, 1] hm ⟨rfl, rfl, rfl, rfl, rfl, trivial⟩ ⟨by decide, rfl⟩
        · replace hm := ifF hm hb18
          refine WJ.exit ?_
          refine PJ.then_exit (PJ.then_exit (PJ.block_exit ?_))
          exact PJ.joined l16 [0] hm ⟨rfl, trivial⟩ ⟨by decide, rfl⟩
    · rintro l13 hm
      subst hk15
      refine WJ.seq ?_
      refine WJ.quiet ?_
      refine QJ.step (YldS.yld (y_move rfl)) rfl ?_
      refine QJ.step (YldS.yld (y_assign rfl)) rfl ?_
      refine QJ.step (YldS.yld (y_assign rfl)) rfl ?_
      refine QJ.done ?_
      refine PJ.next ?_
      refine WJ.ret ?_
      obtain rfl := Option.some.inj hm
      refine PJ.sel (L' := [row v12 2 fI64 l13]) [0] ⟨by decide, rfl⟩ ?_
      exact PJ.retn (vs := [v12, .int .i64 0]) Try.results23 ⟨rfl, rfl, trivial⟩ ⟨_, rfl, rfl⟩

set_option maxRecDepth 100000 in
set_option maxHeartbeats 1000000 in
theorem ok_i_AlternationsOf {N : Nat} {list1 : List Place} {layout4 : Str} {text5 : Str} {r : Int × Int} (hm : i_AlternationsOf N list1 layout4 text5 = some r) (w : World) (v2 : Value) (hr3 : RdS w (cx w).Fz v2 fPlace.rp list1) :
    Calls Try.prog 24 #[v2, str layout4, str text5] w (Ret (cx w) (tup [.int .i64 r.1, .int .i64 r.2])) := by
  unfold i_AlternationsOf at hm
  refine Calls.enter [v2, str layout4, str text5] Try.func24 rfl Try.ntmps24 rfl ?_
  refine WJ.seq ?_
  refine WJ.quiet ?_
  refine QJ.step (YldS.yld (y_assign rfl)) rfl ?_
  refine QJ.step (YldS.yld (y_assign rfl)) rfl ?_
  refine QJ.done ?_
  refine PJ.next ?_
  refine WJ.seq ?_
  refine WJ.reg ?_
  refine SJ.q (YldS.yld (y_move rfl)) rfl ?_
  refine SJ.q (YldS.yld (y_move rfl)) rfl ?_
  refine SJ.q (YldS.yld (y_move rfl)) rfl ?_
  obtain ⟨r6, h7, hm⟩ := bindS hm
  refine SJ.call Try.call58 rfl (fun w hw => ok_i_strokesOf h7 w _ (hr3.st hw)) rfl ?_
  rintro _ _ ⟨v8, rfl, rfl⟩
  refine SJ.q (YldS.yld (y_move rfl)) rfl ?_
  refine SJ.q (YldS.yld (y_extract rfl rfl)) rfl ?_
  refine SJ.q (YldS.yld (y_extract rfl rfl)) rfl ?_
  refine SJ.q (YldS.yld (y_assign rfl)) rfl ?_
  refine SJ.q (YldS.yld (y_assign rfl)) rfl ?_
  refine SJ.nil ?_
  refine PJ.next ?_
  refine WJ.seq ?_
  refine WJ.seq ?_
  refine WJ.quiet ?_
  refine QJ.step (YldS.yld (y_move rfl)) rfl ?_
  refine QJ.step (YldS.yld (y_bin rfl rfl rfl)) rfl ?_
  refine QJ.done ?_
  refine PJ.next ?_
  refine WJ.cond (t := (r6.2 != 0)) rfl (fun hb9 => ?_) (fun hb9 => ?_)
  · replace hm := ifT hm hb9
    refine WJ.seq ?_
    refine WJ.quiet ?_
    refine QJ.step (YldS.yld (y_move rfl)) rfl ?_
    refine QJ.step (YldS.yld (y_assign rfl)) rfl ?_
    refine QJ.step (YldS.yld (y_assign rfl)) rfl ?_
    refine QJ.done ?_
    refine PJ.next ?_
    refine WJ.ret ?_
    refine PJ.then_ret ?_
    obtain rfl := Option.some.inj hm
    refine PJ.sel (L' := []) [] ⟨List.nodup_nil, rfl⟩ ?_
    exact PJ.retn (vs := [.int .i64 0, .int .i64 r6.2]) Try.results24 ⟨rfl, rfl, trivial⟩ ⟨rfl, rfl⟩
  · replace hm := ifF hm hb9
    refine WJ.skip ?_
    refine PJ.next ?_
    refine WJ.seq ?_
    refine WJ.quiet ?_
    refine QJ.step (YldS.yld (y_assign rfl)) rfl ?_
    refine QJ.done ?_
    refine PJ.next ?_
    obtain ⟨kj11, hk12, hm⟩ := withK_open hm
    refine WJ.join (X := Int) (fun (x : Int) => kj11 x = some r) (fun (x : Int) => [(10, .int .i64 x)]) (fun (x : Int) => []) ?_ ?_
    · clear hk12
      refine WJ.seq ?_
      refine WJ.quiet ?_
      refine QJ.step (YldS.yld (y_assign rfl)) rfl ?_
      refine QJ.done ?_
      refine PJ.next ?_
      refine WJ.block ?_
      refine WJ.sel (L' := (fun (x : Int × Int) => [row v8 2 fI64 r6.1]) (0, 1)) [0] ⟨by decide, rfl⟩ ?_
      refine WJ.sub (m' := (fun (x : Int × Int) => [(0, v2), (8, v8), (10, .int .i64 x.1), (11, .int .i64 x.2)]) (0, 1)) ⟨rfl, rfl, rfl, rfl, trivial⟩ ?_
      refine WJ.loop (X := Int × Int) (fun N (x : Int × Int) => i_AlternationsOf_l1 kj11 list1 r6 N x.1 x.2 = some r) (fun (x : Int × Int) => [(0, v2), (8, v8), (10, .int .i64 x.1), (11, .int .i64 x.2)]) (fun (x : Int × Int) => [row v8 2 fI64 r6.1]) ?_ N (0, 1) hm
      · rintro N ⟨n13, i14⟩ hI
        have hm := hI; clear hI
        cases N with
        | zero => cases hm
        | succ N =>
        unfold i_AlternationsOf_l1 at hm
        refine WJ.seq ?_
        refine WJ.seq ?_
        refine WJ.quiet ?_
        refine QJ.step (YldS.yld (y_move rfl)) rfl ?_
        refine QJ.step (YldS.yld (y_move rfl)) rfl ?_
        refine QJ.step (YldS.yld (y_lenRow (k := 0) rfl Try.runUnderlying27 rfl)) rfl ?_
        refine QJ.step (YldS.yld (y_bin rfl rfl rfl)) rfl ?_
        refine QJ.done ?_
        refine PJ.next ?_
        refine WJ.cond (t := decide (i14 < (List.length r6.1 : Int))) rfl (fun hb15 => ?_) (fun hb15 => ?_)
        · replace hm := ifT hm hb15
          refine WJ.skip ?_
          refine PJ.next ?_
          obtain ⟨kj17, hk18, hm⟩ := withK_open hm
          refine WJ.join (X := Int) (fun (x : Int) => kj17 x = some r) (fun (x : Int) => [(0, v2), (8, v8), (10, .int .i64 x), (11, .int .i64 i14)]) (fun (x : Int) => [row v8 2 fI64 r6.1]) ?_ ?_
          · clear hk18
            refine WJ.block ?_
            refine WJ.seq ?_
            refine WJ.quiet_draw follows (by kernel_rfl) ?_
            refine QJ.step (YldS.yld (y_move rfl)) rfl ?_
            refine QJ.step (YldS.yld (y_move rfl)) rfl ?_
            refine QJ.step (YldS.yld (y_move rfl)) rfl ?_
            refine QJ.step (YldS.yld (y_bin rfl rfl rfl)) rfl ?_
            obtain ⟨e19, h20, hm⟩ := bindS hm
            refine QJ.step (YldS.yld (y_ixRow (k := 0) (R := fI64) rfl Try.runUnderlying27 Try.sizeOf2 rfl rfl h20)) rfl ?_
            refine QJ.step (YldS.yld (y_loadR (k := 0) (i := (Int.toNat (w64 (i14 - 1)))) (off := 0) (u := .int .i64 e19) rfl Try.isAgg2 rfl (idx_get h20) rfl)) rfl ?_
            obtain ⟨e21, h22, hm⟩ := bindS hm
            obtain ⟨ad23, _, rfl, ha24, hy25⟩ := hr3.elem h22
            refine QJ.step (YldS.yld (hy25 Try.runUnderlying42 Try.sizeOf55 rfl rfl)) rfl ?_
            refine QJ.step (YldS.yld (y_loadN Try.isAgg55 Try.sizeOf55 rfl ha24 St.frozenC rfl)) rfl ?_
            obtain ⟨r26, h27, hm⟩ := bindS hm
            refine QJ.step (y_call Try.call63 rfl (RetG.quiet fun w hw => ok_i_Place_isLeft h27 w )) rfl ?_
            refine QJ.step (YldS.yld (y_move rfl)) rfl ?_
            refine QJ.step (YldS.yld (y_move rfl)) rfl ?_
            refine QJ.step (YldS.yld (y_move rfl)) rfl ?_
            obtain ⟨e28, h29, hm⟩ := bindS hm
            refine QJ.step (YldS.yld (y_ixRow (k := 0) (R := fI64) rfl Try.runUnderlying27 Try.sizeOf2 rfl rfl h29)) rfl ?_
            refine QJ.step (YldS.yld (y_loadR (k := 0) (i := (Int.toNat i14)) (off := 0) (u := .int .i64 e28) rfl Try.isAgg2 rfl (idx_get h29) rfl)) rfl ?_
            obtain ⟨e30, h31, hm⟩ := bindS hm
            obtain ⟨ad32, _, rfl, ha33, hy34⟩ := hr3.elem h31
            refine QJ.step (YldS.yld (hy34 Try.runUnderlying42 Try.sizeOf55 rfl rfl)) rfl ?_
            refine QJ.step (YldS.yld (y_loadN Try.isAgg55 Try.sizeOf55 rfl ha33 St.frozenC rfl)) rfl ?_
            obtain ⟨r35, h36, hm⟩ := bindS hm
            refine QJ.step (y_call Try.call63 rfl (RetG.quiet fun w hw => ok_i_Place_isLeft h36 w )) rfl ?_
            refine QJ.step (YldS.yld (y_neB Try.underlying4 rfl rfl rfl)) rfl ?_
            refine QJ.done ?_
            refine PJ.next ?_
            refine WJ.cond (t := (r26 != r35)) rfl (fun hb37 => ?_) (fun hb37 => ?_)
            · replace hm := ifT hm hb37
              refine WJ.quiet ?_
              refine QJ.step (YldS.yld (y_move rfl)) rfl ?_
              refine QJ.step (YldS.yld (y_bin rfl rfl rfl)) rfl ?_
              refine QJ.step (YldS.yld (y_assign rfl)) rfl ?_
              refine QJ.done ?_
              refine PJ.block_normal ?_
              exact PJ.joined (w64 (n13 + 1)) [0] hm ⟨rfl, rfl, rfl, rfl, trivial⟩ ⟨by decide, rfl⟩
            · replace hm := ifF hm hb37
              refine WJ.skip ?_
              refine PJ.block_normal ?_
              exact PJ.joined n13 [0] hm ⟨rfl, rfl, rfl, rfl, trivial⟩ ⟨by decide, rfl⟩
          · rintro n16 hm
            subst hk18
            refine WJ.quiet ?_
            refine QJ.step (YldS.yld (y_move rfl)) rfl ?_
            refine QJ.step (YldS.yld (y_bin rfl rfl rfl)) rfl ?_
            refine QJ.step (YldS.yld (y_assign rfl)) rfl ?_
            refine QJ.done ?_
            exact PJ.round (n16, w64 (i14 + 1)) [0] hm ⟨rfl, rfl, rfl, rfl, trivial⟩ ⟨by decide, rfl⟩
        · replace hm := ifF hm hb15
          refine WJ.exit ?_
          refine PJ.then_exit (PJ.then_exit (PJ.block_exit ?_))
          exact PJ.joined n13 [] hm ⟨rfl, trivial⟩ ⟨List.nodup_nil, rfl⟩
    · rintro n10 hm
      subst hk12
      refine WJ.seq ?_
      refine WJ.quiet ?_
      refine QJ.step (YldS.yld (y_move rfl)) rfl ?_
      refine QJ.step (YldS.yld (y_assign rfl)) rfl ?_
      refine QJ.step (YldS.yld (y_assign rfl)) rfl ?_
      refine QJ.done ?_
      refine PJ.next ?_
      refine WJ.ret ?_
      obtain rfl := Option.some.inj hm
      refine PJ.sel (L' := []) [] ⟨List.nodup_nil, rfl⟩ ?_
      exact PJ.retn (vs := [.int .i64 n10, .int .i64 0]) Try.results24 ⟨rfl, rfl, trivial⟩ ⟨rfl, rfl⟩

set_option maxRecDepth 100000 in
set_option maxHeartbeats 1000000 in
theorem ok_w_a2Sum {N : Nat} {list1 : List Int} {r : Int} (hm : w_a2Sum N list1 = some r) (w : World) (v2 : Value) (hr3 : RdS w (cx w).Fz v2 fI64.rp list1) :
    Calls Try.prog 25 #[v2] w (Ret (cx w) (.int .i64 r)) := by
  unfold w_a2Sum at hm
  refine Calls.enter [v2] Try.func25 rfl Try.ntmps25 rfl ?_
  refine WJ.seq ?_
  refine WJ.quiet ?_
  refine QJ.step (YldS.yld (y_assign rfl)) rfl ?_
  refine QJ.done ?_
  refine PJ.next ?_
  refine WJ.seq ?_
  refine WJ.quiet ?_
  refine QJ.step (YldS.yld (y_assign rfl)) rfl ?_
  refine QJ.done ?_
  refine PJ.next ?_
  obtain ⟨kj5, hk6, hm⟩ := withK_open hm
  refine WJ.join (X := Int) (fun (x : Int) => kj5 x = some r) (fun (x : Int) => [(3, .int .i64 x)]) (fun (x : Int) => []) ?_ ?_
  · clear hk6
    refine WJ.seq ?_
    refine WJ.quiet ?_
    refine QJ.step (YldS.yld (y_assign rfl)) rfl ?_
    refine QJ.done ?_
    refine PJ.next ?_
    refine WJ.block ?_
    refine WJ.sel (L' := (fun (x : Int × Int) => []) (0, 0)) [] ⟨List.nodup_nil, rfl⟩ ?_
    refine WJ.sub (m' := (fun (x : Int × Int) => [(0, v2), (3, .int .i64 x.1), (4, .int .i64 x.2)]) (0, 0)) ⟨rfl, rfl, rfl, trivial⟩ ?_
    refine WJ.loop (X := Int × Int) (fun N (x : Int × Int) => w_a2Sum_l1 kj5 list1 N x.1 x.2 = some r) (fun (x : Int × Int) => [(0, v2), (3, .int .i64 x.1), (4, .int .i64 x.2)]) (fun (x : Int × Int) => []) ?_ N (0, 0) hm
    · rintro N ⟨sum7, i8⟩ hI
      have hm := hI; clear hI
      cases N with
      | zero => cases hm
      | succ N =>
      unfold w_a2Sum_l1 at hm
      refine WJ.seq ?_
      refine WJ.seq ?_
      refine WJ.quiet ?_
      refine QJ.step (YldS.yld (y_move rfl)) rfl ?_
      refine QJ.step (YldS.yld (y_move rfl)) rfl ?_
      refine QJ.step (YldS.yld (y_lenS Try.runUnderlying27 hr3 rfl)) rfl ?_
      refine QJ.step (YldS.yld (y_bin rfl rfl rfl)) rfl ?_
      refine QJ.done ?_
      refine PJ.next ?_
      refine WJ.cond (t := decide (i8 < (List.length list1 : Int))) rfl (fun hb9 => ?_) (fun hb9 => ?_)
      · replace hm := ifT hm hb9
        refine WJ.skip ?_
        refine PJ.next ?_
        refine WJ.seq ?_
        refine WJ.block ?_
        refine WJ.quiet ?_
        refine QJ.step (YldS.yld (y_move rfl)) rfl ?_
        refine QJ.step (YldS.yld (y_move rfl)) rfl ?_
        refine QJ.step (YldS.yld (y_move rfl)) rfl ?_
        obtain ⟨e10, h11, hm⟩ := bindS hm
        obtain ⟨ad12, _, rfl, ha13, hy14⟩ := hr3.elem h11
        refine QJ.step (YldS.yld (hy14 Try.runUnderlying27 Try.sizeOf2 rfl rfl)) rfl ?_
        refine QJ.step (YldS.yld (y_load1 (v := .int .i64 e10) Try.isAgg2 ha13 St.frozenC rfl)) rfl ?_
        refine QJ.step (YldS.yld (y_bin rfl rfl rfl)) rfl ?_
        refine QJ.step (YldS.yld (y_assign rfl)) rfl ?_
        refine QJ.done ?_
        refine PJ.block_normal (PJ.next ?_)
        refine WJ.quiet ?_
        refine QJ.step (YldS.yld (y_move rfl)) rfl ?_
        refine QJ.step (YldS.yld (y_bin rfl rfl rfl)) rfl ?_
        refine QJ.step (YldS.yld (y_assign rfl)) rfl ?_
        refine QJ.done ?_
        exact PJ.round (w64 (sum7 + e10), w64 (i8 + 1)) [] hm ⟨rfl, rfl, rfl, trivial⟩ ⟨List.nodup_nil, rfl⟩
      · replace hm := ifF hm hb9
        refine WJ.exit ?_
        refine PJ.then_exit (PJ.then_exit (PJ.block_exit ?_))
        exact PJ.joined sum7 [] hm ⟨rfl, trivial⟩ ⟨List.nodup_nil, rfl⟩
  · rintro sum4 hm
    subst hk6
    refine WJ.seq ?_
    refine WJ.quiet ?_
    refine QJ.step (YldS.yld (y_move rfl)) rfl ?_
    refine QJ.step (YldS.yld (y_assign rfl)) rfl ?_
    refine QJ.done ?_
    refine PJ.next ?_
    refine WJ.ret ?_
    obtain rfl := Option.some.inj hm
    refine PJ.sel (L' := []) [] ⟨List.nodup_nil, rfl⟩ ?_
    exact PJ.retn (vs := [.int .i64 sum4]) Try.results25 ⟨rfl, trivial⟩ ⟨rfl, rfl⟩

set_option maxRecDepth 100000 in
set_option maxHeartbeats 1000000 in
theorem ok_w_a2Index {N : Nat} {s1 : Str} {c2 : UInt8} {r : Int} (hm : w_a2Index N s1 c2 = some r) (w : World)  :
    Calls Try.prog 26 #[str s1, .int .u8 (UInt8.toNat c2 : Int)] w (Ret (cx w) (.int .i64 r)) := by
  unfold w_a2Index at hm
  refine Calls.enter [str s1, .int .u8 (UInt8.toNat c2 : Int)] Try.func26 rfl Try.ntmps26 rfl ?_
  refine WJ.seq ?_
  refine WJ.quiet ?_
  refine QJ.step (YldS.yld (y_assign rfl)) rfl ?_
  refine QJ.done ?_
  refine PJ.next ?_
  obtain ⟨kj3, hk4, hm⟩ := withK_open hm
  refine WJ.join (X := Unit) (fun (_ : Unit) => kj3  = some r) (fun (_ : Unit) => []) (fun (_ : Unit) => []) ?_ ?_
  · clear hk4
    refine WJ.seq ?_
    refine WJ.quiet ?_
    refine QJ.step (YldS.yld (y_assign rfl)) rfl ?_
    refine QJ.done ?_
    refine PJ.next ?_
    refine WJ.block ?_
    refine WJ.sel (L' := (fun (x : Int) => []) 0) [] ⟨List.nodup_nil, rfl⟩ ?_
    refine WJ.sub (m' := (fun (x : Int) => [(0, str s1), (1, .int .u8 (UInt8.toNat c2 : Int)), (5, .int .i64 x)]) 0) ⟨rfl, rfl, rfl, trivial⟩ ?_
    refine WJ.loop (X := Int) (fun N (x : Int) => w_a2Index_l1 kj3 s1 c2 N x = some r) (fun (x : Int) => [(0, str s1), (1, .int .u8 (UInt8.toNat c2 : Int)), (5, .int .i64 x)]) (fun (x : Int) => []) ?_ N 0 hm
    · rintro N i5 hI
      have hm := hI; clear hI
      cases N with
      | zero => cases hm
      | succ N =>
      unfold w_a2Index_l1 at hm
      refine WJ.seq ?_
      refine WJ.seq ?_
      refine WJ.quiet ?_
      refine QJ.step (YldS.yld (y_move rfl)) rfl ?_
      refine QJ.step (YldS.yld (y_move rfl)) rfl ?_
      refine QJ.step (YldS.yld (y_lenStr Try.runUnderlying9 rfl)) rfl ?_
      refine QJ.step (YldS.yld (y_bin rfl rfl rfl)) rfl ?_
      refine QJ.done ?_
      refine PJ.next ?_
      refine WJ.cond (t := decide (i5 < (List.length s1 : Int))) rfl (fun hb6 => ?_) (fun hb6 => ?_)
      · replace hm := ifT hm hb6
        refine WJ.skip ?_
        refine PJ.next ?_
        refine WJ.seq ?_
        refine WJ.block ?_
        refine WJ.seq ?_
        refine WJ.quiet ?_
        refine QJ.step (YldS.yld (y_move rfl)) rfl ?_
        refine QJ.step (YldS.yld (y_move rfl)) rfl ?_
        obtain ⟨c7, h8, hm⟩ := bindS hm
        refine QJ.step (YldS.yld (y_idxStr Try.runUnderlying9 rfl rfl h8)) rfl ?_
        refine QJ.step (YldS.yld (y_move rfl)) rfl ?_
        refine QJ.step (YldS.yld (y_bin8 c7 c2 rfl rfl rfl)) rfl ?_
        refine QJ.done ?_
        refine PJ.next ?_
        refine WJ.cond (t := (c7 == c2)) rfl (fun hb9 => ?_) (fun hb9 => ?_)
        · replace hm := ifT hm hb9
          refine WJ.seq ?_
          refine WJ.quiet ?_
          refine QJ.step (YldS.yld (y_move rfl)) rfl ?_
          refine QJ.step (YldS.yld (y_assign rfl)) rfl ?_
          refine QJ.done ?_
          refine PJ.next ?_
          refine WJ.ret ?_
          refine PJ.block_ret (PJ.then_ret (PJ.then_ret (PJ.block_ret (PJ.then_ret ?_))))
          obtain rfl := Option.some.inj hm
          refine PJ.sel (L' := []) [] ⟨List.nodup_nil, rfl⟩ ?_
          exact PJ.retn (vs := [.int .i64 i5]) Try.results26 ⟨rfl, trivial⟩ ⟨rfl, rfl⟩
        · replace hm := ifF hm hb9
          refine WJ.skip ?_
          refine PJ.block_normal (PJ.next ?_)
          refine WJ.quiet ?_
          refine QJ.step (YldS.yld (y_move rfl)) rfl ?_
          refine QJ.step (YldS.yld (y_bin rfl rfl rfl)) rfl ?_
          refine QJ.step (YldS.yld (y_assign rfl)) rfl ?_
          refine QJ.done ?_
          exact PJ.round (w64 (i5 + 1)) [] hm ⟨rfl, rfl, rfl, trivial⟩ ⟨List.nodup_nil, rfl⟩
      · replace hm := ifF hm hb6
        refine WJ.exit ?_
        refine PJ.then_exit (PJ.then_exit (PJ.block_exit ?_))
        exact PJ.joined () [] hm trivial ⟨List.nodup_nil, rfl⟩
  · rintro _ hm
    subst hk4
    refine WJ.seq ?_
    refine WJ.quiet ?_
    refine QJ.step (YldS.yld (y_assign rfl)) rfl ?_
    refine QJ.done ?_
    refine PJ.next ?_
    refine WJ.ret ?_
    obtain rfl := Option.some.inj hm
    refine PJ.sel (L' := []) [] ⟨List.nodup_nil, rfl⟩ ?_
    exact PJ.retn (vs := [.int .i64 0]) Try.results26 ⟨rfl, trivial⟩ ⟨rfl, rfl⟩

set_option maxRecDepth 100000 in
set_option maxHeartbeats 1000000 in
theorem ok_i_StrokeCost {N : Nat} {list1 : List Place} {before4 : Int} {now5 : Int} {r : Int × Int} (hm : i_StrokeCost N list1 before4 now5 = some r) (w : World) (v2 : Value) (hr3 : RdS w (cx w).Fz v2 fPlace.rp list1) :
    Calls Try.prog 27 #[v2, .int .i64 before4, .int .i64 now5] w (Ret (cx w) (tup [.int .i64 r.1, .int .i64 r.2])) := by
  unfold i_StrokeCost at hm
  refine Calls.enter [v2, .int .i64 before4, .int .i64 now5] Try.func27 rfl Try.ntmps27 rfl ?_
  refine WJ.seq ?_
  refine WJ.quiet ?_
  refine QJ.step (YldS.yld (y_assign rfl)) rfl ?_
  refine QJ.step (YldS.yld (y_assign rfl)) rfl ?_
  refine QJ.done ?_
  refine PJ.next ?_
  refine WJ.seq ?_
  refine WJ.seq ?_
  refine WJ.quiet ?_
  refine QJ.step (YldS.yld (y_move rfl)) rfl ?_
  obtain ⟨r6, h7, hm⟩ := bindS hm
  refine QJ.step (y_call Try.call64 rfl (RetG.quiet fun w hw => ok_i_ValidBoard h7 w _ (hr3.st hw))) rfl ?_
  refine QJ.step (YldS.yld (y_not rfl)) rfl ?_
  refine QJ.done ?_
  refine PJ.next ?_
  refine WJ.cond (t := !r6) rfl (fun hb8 => ?_) (fun hb8 => ?_)
  · replace hm := ifT hm hb8
    refine WJ.seq ?_
    refine WJ.quiet ?_
    refine QJ.step (YldS.yld (y_assign rfl)) rfl ?_
    refine QJ.step (YldS.yld (y_assign rfl)) rfl ?_
    refine QJ.done ?_
    refine PJ.next ?_
    refine WJ.ret ?_
    refine PJ.then_ret ?_
    obtain rfl := Option.some.inj hm
    refine PJ.sel (L' := []) [] ⟨List.nodup_nil, rfl⟩ ?_
    exact PJ.retn (vs := [.int .i64 0, .int .i64 1]) Try.results27 ⟨rfl, rfl, trivial⟩ ⟨rfl, rfl⟩
  · replace hm := ifF hm hb8
    refine WJ.skip ?_
    refine PJ.next ?_
    refine WJ.seq ?_
    refine WJ.quiet ?_
    refine QJ.step (YldS.yld (y_move rfl)) rfl ?_
    refine QJ.step (YldS.yld (y_lenS Try.runUnderlying42 hr3 rfl)) rfl ?_
    refine QJ.step (YldS.yld (y_bin rfl rfl rfl)) rfl ?_
    refine QJ.step (YldS.yld (y_assign rfl)) rfl ?_
    refine QJ.done ?_
    refine PJ.next ?_
    refine WJ.seq ?_
    refine WJ.seq ?_
    refine WJ.quiet ?_
    refine QJ.step (YldS.yld (y_move rfl)) rfl ?_
    refine QJ.step (YldS.yld (y_move rfl)) rfl ?_
    obtain ⟨r9, h10, hm⟩ := bindS hm
    refine QJ.step (y_call Try.call49 rfl (RetG.quiet fun w hw => ok_i_between h10 w )) rfl ?_
    refine QJ.step (YldS.yld (y_not rfl)) rfl ?_
    refine QJ.step (YldS.yld (y_move rfl)) rfl ?_
    obtain ⟨t11, h12, hm⟩ := bindS hm
    refine QJ.cut 5 [(0, v2), (1, .int .i64 before4), (2, .int .i64 now5), (24, .bool t11)] ?_ ?_
    · rcases Bool.eq_false_or_eq_true (!r9) with hb13 | hb13
      · obtain rfl := orT h12 hb13
        refine QJ.off rfl rfl (cB hb13) rfl rfl ?_
        refine QJ.off rfl rfl (cB hb13) rfl rfl ?_
        refine QJ.off rfl rfl (cB hb13) rfl rfl ?_
        refine QJ.off rfl rfl (cB hb13) rfl rfl ?_
        refine QJ.step (YldS.yld (y_pick_t (cB hb13) rfl)) rfl ?_
        exact QJ.cut_end ⟨rfl, rfl, rfl, rfl, trivial⟩
      · replace h12 := orF h12 hb13
        refine QJ.on rfl rfl (cB hb13) (YldS.yld (y_move rfl)) rfl ?_
        refine QJ.on rfl rfl (cB hb13) (YldS.yld (y_move rfl)) rfl ?_
        obtain ⟨r14, h15, h12⟩ := bindS h12
        refine QJ.on rfl rfl (cB hb13) (y_call Try.call49 rfl (RetG.quiet fun w hw => ok_i_between h15 w )) rfl ?_
        refine QJ.on rfl rfl (cB hb13) (YldS.yld (y_not rfl)) rfl ?_
        refine QJ.step (YldS.yld (y_pick_f (cB hb13) rfl)) rfl ?_
        obtain rfl := Option.some.inj h12
        exact QJ.cut_end ⟨rfl, rfl, rfl, rfl, trivial⟩
    refine QJ.done ?_
    refine PJ.next ?_
    refine WJ.cond (t := t11) rfl (fun hb16 => ?_) (fun hb16 => ?_)
    · replace hm := ifT hm hb16
      refine WJ.seq ?_
      refine WJ.quiet ?_
      refine QJ.step (YldS.yld (y_assign rfl)) rfl ?_
      refine QJ.step (YldS.yld (y_assign rfl)) rfl ?_
      refine QJ.done ?_
      refine PJ.next ?_
      refine WJ.ret ?_
      refine PJ.then_ret ?_
      obtain rfl := Option.some.inj hm
      refine PJ.sel (L' := []) [] ⟨List.nodup_nil, rfl⟩ ?_
      exact PJ.retn (vs := [.int .i64 0, .int .i64 2]) Try.results27 ⟨rfl, rfl, trivial⟩ ⟨rfl, rfl⟩
    · replace hm := ifF hm hb16
      refine WJ.skip ?_
      refine PJ.next ?_
      refine WJ.seq ?_
      refine WJ.quiet ?_
      refine QJ.step (YldS.yld (y_move rfl)) rfl ?_
      refine QJ.step (YldS.yld (y_move rfl)) rfl ?_
      refine QJ.step (YldS.yld (y_move rfl)) rfl ?_
      obtain ⟨r17, h18, hm⟩ := bindS hm
      refine QJ.step (y_call Try.call65 rfl (RetG.quiet fun w hw => ok_i_strokeCost h18 w _ (hr3.st hw))) rfl ?_
      refine QJ.step (YldS.yld (y_assign rfl)) rfl ?_
      refine QJ.step (YldS.yld (y_assign rfl)) rfl ?_
      refine QJ.done ?_
      refine PJ.next ?_
      refine WJ.ret ?_
      obtain rfl := Option.some.inj hm
      refine PJ.sel (L' := []) [] ⟨List.nodup_nil, rfl⟩ ?_
      exact PJ.retn (vs := [.int .i64 r17, .int .i64 0]) Try.results27 ⟨rfl, rfl, trivial⟩ ⟨rfl, rfl⟩

set_option maxRecDepth 100000 in
set_option maxHeartbeats 1000000 in
theorem ok_w_FnTextCosts {N : Nat} {code1 : List UInt8} {more4 : List UInt8} {r : Bool} (hm : w_FnTextCosts N code1 more4 = some r) (w : World) (v2 : Value) (hr3 : RdS w (cx w).Fz v2 fByte.rp code1) (v5 : Value) (hr6 : RdS w (cx w).Fz v5 fByte.rp more4) :
    Calls Try.prog 4 #[v2, v5] w (Ret (cx w) (.bool r)) := by
  unfold w_FnTextCosts at hm
  refine Calls.enter [v2, v5] Try.func4 rfl Try.ntmps4 rfl ?_
  refine WJ.seq ?_
  refine WJ.quiet ?_
  refine QJ.step (YldS.yld (y_assign rfl)) rfl ?_
  refine QJ.done ?_
  refine PJ.next ?_
  refine WJ.seq ?_
  refine WJ.seq ?_
  refine WJ.quiet ?_
  refine QJ.step (YldS.yld (y_move rfl)) rfl ?_
  refine QJ.step (YldS.yld (y_move rfl)) rfl ?_
  obtain ⟨r7, h8, hm⟩ := bindS hm
  refine QJ.step (y_call Try.call7 rfl (RetG.quiet fun w hw => ok_w_a2Long h8 w _ (hr3.st hw) _ (hr6.st hw))) rfl ?_
  refine QJ.done ?_
  refine PJ.next ?_
  refine WJ.cond (t := r7) rfl (fun hb9 => ?_) (fun hb9 => ?_)
  · replace hm := ifT hm hb9
    refine WJ.seq ?_
    refine WJ.quiet ?_
    refine QJ.step (YldS.yld (y_assign rfl)) rfl ?_
    refine QJ.done ?_
    refine PJ.next ?_
    refine WJ.ret ?_
    refine PJ.then_ret ?_
    obtain rfl := Option.some.inj hm
    refine PJ.sel (L' := []) [] ⟨List.nodup_nil, rfl⟩ ?_
    exact PJ.retn (vs := [.bool true]) Try.results4 ⟨rfl, trivial⟩ ⟨rfl, rfl⟩
  · replace hm := ifF hm hb9
    refine WJ.skip ?_
    refine PJ.next ?_
    refine WJ.seq ?_
    refine WJ.reg ?_
    refine SJ.q (YldS.yld (y_move rfl)) rfl ?_
    obtain ⟨r10, h11, hm⟩ := bindS hm
    refine SJ.call Try.call18 rfl (fun w hw => ok_s_A2Board h11 w _ (hr3.st hw)) rfl ?_
    rintro v12 _ ⟨_, rfl, rfl⟩
    refine SJ.q (YldS.yld (y_assign rfl)) rfl ?_
    refine SJ.nil ?_
    refine PJ.next ?_
    refine WJ.seq ?_
    refine WJ.quiet ?_
    refine QJ.step (YldS.yld (y_move rfl)) rfl ?_
    refine QJ.step (YldS.yld (y_move rfl)) rfl ?_
    refine QJ.step (YldS.yld (y_lenRow (k := 0) rfl Try.runUnderlying42 rfl)) rfl ?_
    obtain ⟨r13, h14, hm⟩ := bindS hm
    refine QJ.step (y_call Try.call19 rfl (RetG.quiet fun w hw => ok_s_A2Layout h14 w _ (hr6.st hw))) rfl ?_
    refine QJ.step (YldS.yld (y_move rfl)) rfl ?_
    refine QJ.step (YldS.yld (y_extract rfl rfl)) rfl ?_
    refine QJ.step (YldS.yld (y_extract rfl rfl)) rfl ?_
    refine QJ.step (YldS.yld (y_assign rfl)) rfl ?_
    refine QJ.step (YldS.yld (y_assign rfl)) rfl ?_
    refine QJ.done ?_
    refine PJ.next ?_
    refine WJ.seq ?_
    refine WJ.quiet ?_
    refine QJ.step (YldS.yld (y_move rfl)) rfl ?_
    refine QJ.step (YldS.yld (y_move rfl)) rfl ?_
    refine QJ.step (YldS.yld (y_move rfl)) rfl ?_
    obtain ⟨r15, h16, hm⟩ := bindS hm
    refine QJ.step (y_call Try.call20 rfl (RetG.quiet fun w hw => ok_i_TextCost h16 w _ (hw.row_rd (k := 0) rfl))) rfl ?_
    refine QJ.step (YldS.yld (y_move rfl)) rfl ?_
    refine QJ.step (YldS.yld (y_extract rfl rfl)) rfl ?_
    refine QJ.step (YldS.yld (y_extract rfl rfl)) rfl ?_
    refine QJ.step (YldS.yld (y_assign rfl)) rfl ?_
    refine QJ.step (YldS.yld (y_assign rfl)) rfl ?_
    refine QJ.done ?_
    refine PJ.next ?_
    refine WJ.seq ?_
    refine WJ.quiet ?_
    refine QJ.step (YldS.yld (y_move rfl)) rfl ?_
    refine QJ.step (YldS.yld (y_move rfl)) rfl ?_
    refine QJ.step (YldS.yld (y_move rfl)) rfl ?_
    obtain ⟨r17, h18, hm⟩ := bindS hm
    refine QJ.step (y_call Try.call21 rfl (RetG.quiet fun w hw => ok_i_BestLayout h18 w _ (hw.row_rd (k := 0) rfl))) rfl ?_
    refine QJ.step (YldS.yld (y_move rfl)) rfl ?_
    refine QJ.step (YldS.yld (y_extract rfl rfl)) rfl ?_
    refine QJ.step (YldS.yld (y_extract rfl rfl)) rfl ?_
    refine QJ.step (YldS.yld (y_extract rfl rfl)) rfl ?_
    refine QJ.step (YldS.yld (y_assign rfl)) rfl ?_
    refine QJ.step (YldS.yld (y_assign rfl)) rfl ?_
    refine QJ.step (YldS.yld (y_assign rfl)) rfl ?_
    refine QJ.done ?_
    refine PJ.next ?_
    refine WJ.seq ?_
    refine WJ.quiet ?_
    refine QJ.step (YldS.yld (y_move rfl)) rfl ?_
    refine QJ.step (YldS.yld (y_move rfl)) rfl ?_
    refine QJ.step (YldS.yld (y_move rfl)) rfl ?_
    obtain ⟨r19, h20, hm⟩ := bindS hm
    refine QJ.step (y_call Try.call20 rfl (RetG.quiet fun w hw => ok_i_TextCost h20 w _ (hw.row_rd (k := 0) rfl))) rfl ?_
    refine QJ.step (YldS.yld (y_move rfl)) rfl ?_
    refine QJ.step (YldS.yld (y_extract rfl rfl)) rfl ?_
    refine QJ.step (YldS.yld (y_extract rfl rfl)) rfl ?_
    refine QJ.step (YldS.yld (y_assign rfl)) rfl ?_
    refine QJ.step (YldS.yld (y_assign rfl)) rfl ?_
    refine QJ.done ?_
    refine PJ.next ?_
    refine WJ.seq ?_
    refine WJ.quiet ?_
    refine QJ.step (YldS.yld (y_move rfl)) rfl ?_
    refine QJ.step (YldS.yld (y_move rfl)) rfl ?_
    refine QJ.step (YldS.yld (y_move rfl)) rfl ?_
    obtain ⟨r21, h22, hm⟩ := bindS hm
    refine QJ.step (y_call Try.call22 rfl (RetG.quiet fun w hw => ok_i_HandsOf h22 w _ (hw.row_rd (k := 0) rfl))) rfl ?_
    refine QJ.step (YldS.yld (y_move rfl)) rfl ?_
    refine QJ.step (YldS.yld (y_extract rfl rfl)) rfl ?_
    refine QJ.step (YldS.yld (y_extract rfl rfl)) rfl ?_
    refine QJ.step (YldS.yld (y_extract rfl rfl)) rfl ?_
    refine QJ.step (YldS.yld (y_assign rfl)) rfl ?_
    refine QJ.step (YldS.yld (y_assign rfl)) rfl ?_
    refine QJ.step (YldS.yld (y_assign rfl)) rfl ?_
    refine QJ.done ?_
    refine PJ.next ?_
    refine WJ.seq ?_
    refine WJ.reg ?_
    refine SJ.q (YldS.yld (y_move rfl)) rfl ?_
    refine SJ.q (YldS.yld (y_move rfl)) rfl ?_
    refine SJ.q (YldS.yld (y_move rfl)) rfl ?_
    obtain ⟨r23, h24, hm⟩ := bindS hm
    refine SJ.call Try.call23 rfl (fun w hw => ok_i_FingersOf h24 w _ (hw.row_rd (k := 0) rfl)) rfl ?_
    rintro _ _ ⟨v25, rfl, rfl⟩
    refine SJ.q (YldS.yld (y_move rfl)) rfl ?_
    refine SJ.q (YldS.yld (y_extract rfl rfl)) rfl ?_
    refine SJ.q (YldS.yld (y_extract rfl rfl)) rfl ?_
    refine SJ.q (YldS.yld (y_assign rfl)) rfl ?_
    refine SJ.q (YldS.yld (y_assign rfl)) rfl ?_
    refine SJ.nil ?_
    refine PJ.next ?_
    refine WJ.seq ?_
    refine WJ.quiet ?_
    refine QJ.step (YldS.yld (y_move rfl)) rfl ?_
    refine QJ.step (YldS.yld (y_move rfl)) rfl ?_
    refine QJ.step (YldS.yld (y_move rfl)) rfl ?_
    obtain ⟨r26, h27, hm⟩ := bindS hm
    refine QJ.step (y_call Try.call24 rfl (RetG.quiet fun w hw => ok_i_AlternationsOf h27 w _ (hw.row_rd (k := 1) rfl))) rfl ?_
    refine QJ.step (YldS.yld (y_move rfl)) rfl ?_
    refine QJ.step (YldS.yld (y_extract rfl rfl)) rfl ?_
    refine QJ.step (YldS.yld (y_extract rfl rfl)) rfl ?_
    refine QJ.step (YldS.yld (y_assign rfl)) rfl ?_
    refine QJ.step (YldS.yld (y_assign rfl)) rfl ?_
    refine QJ.done ?_
    refine PJ.next ?_
    refine WJ.seq ?_
    refine WJ.seq ?_
    refine WJ.quiet ?_
    refine QJ.step (YldS.yld (y_move rfl)) rfl ?_
    refine QJ.step (YldS.yld (y_bin rfl rfl rfl)) rfl ?_
    refine QJ.step (YldS.yld (y_move rfl)) rfl ?_
    obtain ⟨t28, h29, hm⟩ := bindS hm
    refine QJ.cut 3 [(5, v12), (6, str r13.1), (7, str r13.2), (8, .int .i64 r15.1), (11, .int .i64 r17.2.1), (13, .int .i64 r19.1), (14, .int .i64 r19.2), (15, .int .i64 r21.1), (16, .int .i64 r21.2.1), (17, .int .i64 r21.2.2), (18, v25), (19, .int .i64 r23.2), (20, .int .i64 r26.1), (21, .int .i64 r26.2), (90, .bool t28)] ?_ ?_
    · rcases Bool.eq_false_or_eq_true (r15.2 != 0) with hb30 | hb30
      · obtain rfl := orT h29 hb30
        refine QJ.off rfl rfl (cB hb30) rfl rfl ?_
        refine QJ.off rfl rfl (cB hb30) rfl rfl ?_
        refine QJ.step (YldS.yld (y_pick_t (cB hb30) rfl)) rfl ?_
        exact QJ.cut_end ⟨rfl, rfl, rfl, rfl, rfl, rfl, rfl, rfl, rfl, rfl, rfl, rfl, rfl, rfl, rfl, trivial⟩
      · replace h29 := orF h29 hb30
        refine QJ.on rfl rfl (cB hb30) (YldS.yld (y_move rfl)) rfl ?_
        refine QJ.on rfl rfl (cB hb30) (YldS.yld (y_bin rfl rfl rfl)) rfl ?_
        refine QJ.step (YldS.yld (y_pick_f (cB hb30) rfl)) rfl ?_
        obtain rfl := Option.some.inj h29
        exact QJ.cut_end ⟨rfl, rfl, rfl, rfl, rfl, rfl, rfl, rfl, rfl, rfl, rfl, rfl, rfl, rfl, rfl, trivial⟩
    refine QJ.step (YldS.yld (y_move rfl)) rfl ?_
    obtain ⟨t31, h32, hm⟩ := bindS hm
    refine QJ.cut 4 [(5, v12), (6, str r13.1), (7, str r13.2), (8, .int .i64 r15.1), (11, .int .i64 r17.2.1), (13, .int .i64 r19.1), (14, .int .i64 r19.2), (15, .int .i64 r21.1), (16, .int .i64 r21.2.1), (17, .int .i64 r21.2.2), (18, v25), (19, .int .i64 r23.2), (20, .int .i64 r26.1), (21, .int .i64 r26.2), (95, .bool t31)] ?_ ?_
    · rcases Bool.eq_false_or_eq_true t28 with hb33 | hb33
      · obtain rfl := orT h32 hb33
        refine QJ.off rfl rfl (cB hb33) rfl rfl ?_
        refine QJ.off rfl rfl (cB hb33) rfl rfl ?_
        refine QJ.off rfl rfl (cB hb33) rfl rfl ?_
        refine QJ.step (YldS.yld (y_pick_t (cB hb33) rfl)) rfl ?_
        exact QJ.cut_end ⟨rfl, rfl, rfl, rfl, rfl, rfl, rfl, rfl, rfl, rfl, rfl, rfl, rfl, rfl, rfl, trivial⟩
      · replace h32 := orF h32 hb33
        refine QJ.on rfl rfl (cB hb33) (YldS.yld (y_move rfl)) rfl ?_
        refine QJ.on rfl rfl (cB hb33) (YldS.yld (y_move rfl)) rfl ?_
        refine QJ.on rfl rfl (cB hb33) (YldS.yld (y_bin rfl rfl rfl)) rfl ?_
        refine QJ.step (YldS.yld (y_pick_f (cB hb33) rfl)) rfl ?_
        obtain rfl := Option.some.inj h32
        exact QJ.cut_end ⟨rfl, rfl, rfl, rfl, rfl, rfl, rfl, rfl, rfl, rfl, rfl, rfl, rfl, rfl, rfl, trivial⟩
    refine QJ.step (YldS.yld (y_move rfl)) rfl ?_
    obtain ⟨t34, h35, hm⟩ := bindS hm
    refine QJ.cut 3 [(5, v12), (6, str r13.1), (7, str r13.2), (8, .int .i64 r15.1), (11, .int .i64 r17.2.1), (13, .int .i64 r19.1), (15, .int .i64 r21.1), (16, .int .i64 r21.2.1), (17, .int .i64 r21.2.2), (18, v25), (19, .int .i64 r23.2), (20, .int .i64 r26.1), (21, .int .i64 r26.2), (99, .bool t34)] ?_ ?_
    · rcases Bool.eq_false_or_eq_true t31 with hb36 | hb36
      · obtain rfl := orT h35 hb36
        refine QJ.off rfl rfl (cB hb36) rfl rfl ?_
        refine QJ.off rfl rfl (cB hb36) rfl rfl ?_
        refine QJ.step (YldS.yld (y_pick_t (cB hb36) rfl)) rfl ?_
        exact QJ.cut_end ⟨rfl, rfl, rfl, rfl, rfl, rfl, rfl, rfl, rfl, rfl, rfl, rfl, rfl, rfl, trivial⟩
      · replace h35 := orF h35 hb36
        refine QJ.on rfl rfl (cB hb36) (YldS.yld (y_move rfl)) rfl ?_
        refine QJ.on rfl rfl (cB hb36) (YldS.yld (y_bin rfl rfl rfl)) rfl ?_
        refine QJ.step (YldS.yld (y_pick_f (cB hb36) rfl)) rfl ?_
        obtain rfl := Option.some.inj h35
        exact QJ.cut_end ⟨rfl, rfl, rfl, rfl, rfl, rfl, rfl, rfl, rfl, rfl, rfl, rfl, rfl, rfl, trivial⟩
    refine QJ.step (YldS.yld (y_move rfl)) rfl ?_
    obtain ⟨t37, h38, hm⟩ := bindS hm
    refine QJ.cut 4 [(5, v12), (6, str r13.1), (7, str r13.2), (8, .int .i64 r15.1), (15, .int .i64 r21.1), (16, .int .i64 r21.2.1), (17, .int .i64 r21.2.2), (18, v25), (19, .int .i64 r23.2), (20, .int .i64 r26.1), (21, .int .i64 r26.2), (104, .bool t37)] ?_ ?_
    · rcases Bool.eq_false_or_eq_true t34 with hb39 | hb39
      · obtain rfl := orT h38 hb39
        refine QJ.off rfl rfl (cB hb39) rfl rfl ?_
        refine QJ.off rfl rfl (cB hb39) rfl rfl ?_
        refine QJ.off rfl rfl (cB hb39) rfl rfl ?_
        refine QJ.step (YldS.yld (y_pick_t (cB hb39) rfl)) rfl ?_
        exact QJ.cut_end ⟨rfl, rfl, rfl, rfl, rfl, rfl, rfl, rfl, rfl, rfl, rfl, rfl, trivial⟩
      · replace h38 := orF h38 hb39
        refine QJ.on rfl rfl (cB hb39) (YldS.yld (y_move rfl)) rfl ?_
        refine QJ.on rfl rfl (cB hb39) (YldS.yld (y_move rfl)) rfl ?_
        refine QJ.on rfl rfl (cB hb39) (YldS.yld (y_bin rfl rfl rfl)) rfl ?_
        refine QJ.step (YldS.yld (y_pick_f (cB hb39) rfl)) rfl ?_
        obtain rfl := Option.some.inj h38
        exact QJ.cut_end ⟨rfl, rfl, rfl, rfl, rfl, rfl, rfl, rfl, rfl, rfl, rfl, rfl, trivial⟩
    refine QJ.step (YldS.yld (y_move rfl)) rfl ?_
    obtain ⟨t40, h41, hm⟩ := bindS hm
    refine QJ.cut 3 [(5, v12), (6, str r13.1), (7, str r13.2), (8, .int .i64 r15.1), (15, .int .i64 r21.1), (16, .int .i64 r21.2.1), (18, v25), (19, .int .i64 r23.2), (20, .int .i64 r26.1), (21, .int .i64 r26.2), (108, .bool t40)] ?_ ?_
    · rcases Bool.eq_false_or_eq_true t37 with hb42 | hb42
      · obtain rfl := orT h41 hb42
        refine QJ.off rfl rfl (cB hb42) rfl rfl ?_
        refine QJ.off rfl rfl (cB hb42) rfl rfl ?_
        refine QJ.step (YldS.yld (y_pick_t (cB hb42) rfl)) rfl ?_
        exact QJ.cut_end ⟨rfl, rfl, rfl, rfl, rfl, rfl, rfl, rfl, rfl, rfl, rfl, trivial⟩
      · replace h41 := orF h41 hb42
        refine QJ.on rfl rfl (cB hb42) (YldS.yld (y_move rfl)) rfl ?_
        refine QJ.on rfl rfl (cB hb42) (YldS.yld (y_bin rfl rfl rfl)) rfl ?_
        refine QJ.step (YldS.yld (y_pick_f (cB hb42) rfl)) rfl ?_
        obtain rfl := Option.some.inj h41
        exact QJ.cut_end ⟨rfl, rfl, rfl, rfl, rfl, rfl, rfl, rfl, rfl, rfl, rfl, trivial⟩
    refine QJ.step (YldS.yld (y_move rfl)) rfl ?_
    obtain ⟨t43, h44, hm⟩ := bindS hm
    refine QJ.cut 7 [(5, v12), (6, str r13.1), (7, str r13.2), (8, .int .i64 r15.1), (15, .int .i64 r21.1), (18, v25), (19, .int .i64 r23.2), (20, .int .i64 r26.1), (21, .int .i64 r26.2), (116, .bool t43)] ?_ ?_
    · rcases Bool.eq_false_or_eq_true t40 with hb45 | hb45
      · obtain rfl := orT h44 hb45
        refine QJ.off rfl rfl (cB hb45) rfl rfl ?_
        refine QJ.off rfl rfl (cB hb45) rfl rfl ?_
        refine QJ.off rfl rfl (cB hb45) rfl rfl ?_
        refine QJ.off rfl rfl (cB hb45) rfl rfl ?_
        refine QJ.off rfl rfl (cB hb45) rfl rfl ?_
        refine QJ.off rfl rfl (cB hb45) rfl rfl ?_
        refine QJ.step (YldS.yld (y_pick_t (cB hb45) rfl)) rfl ?_
        exact QJ.cut_end ⟨rfl, rfl, rfl, rfl, rfl, rfl, rfl, rfl, rfl, rfl, trivial⟩
      · replace h44 := orF h44 hb45
        refine QJ.on rfl rfl (cB hb45) (YldS.yld (y_move rfl)) rfl ?_
        refine QJ.on rfl rfl (cB hb45) (YldS.yld (y_move rfl)) rfl ?_
        refine QJ.on rfl rfl (cB hb45) (YldS.yld (y_bin rfl rfl rfl)) rfl ?_
        refine QJ.on rfl rfl (cB hb45) (YldS.yld (y_move rfl)) rfl ?_
        refine QJ.on rfl rfl (cB hb45) (YldS.yld (y_lenStr Try.runUnderlying9 rfl)) rfl ?_
        refine QJ.on rfl rfl (cB hb45) (YldS.yld (y_bin rfl rfl rfl)) rfl ?_
        refine QJ.step (YldS.yld (y_pick_f (cB hb45) rfl)) rfl ?_
        obtain rfl := Option.some.inj h44
        exact QJ.cut_end ⟨rfl, rfl, rfl, rfl, rfl, rfl, rfl, rfl, rfl, rfl, trivial⟩
    refine QJ.step (YldS.yld (y_move rfl)) rfl ?_
    obtain ⟨t46, h47, hm⟩ := bindS hm
    refine QJ.cut 3 [(5, v12), (6, str r13.1), (7, str r13.2), (8, .int .i64 r15.1), (15, .int .i64 r21.1), (18, v25), (20, .int .i64 r26.1), (21, .int .i64 r26.2), (120, .bool t46)] ?_ ?_
    · rcases Bool.eq_false_or_eq_true t43 with hb48 | hb48
      · obtain rfl := orT h47 hb48
        refine QJ.off rfl rfl (cB hb48) rfl rfl ?_
        refine QJ.off rfl rfl (cB hb48) rfl rfl ?_
        refine QJ.step (YldS.yld (y_pick_t (cB hb48) rfl)) rfl ?_
        exact QJ.cut_end ⟨rfl, rfl, rfl, rfl, rfl, rfl, rfl, rfl, rfl, trivial⟩
      · replace h47 := orF h47 hb48
        refine QJ.on rfl rfl (cB hb48) (YldS.yld (y_move rfl)) rfl ?_
        refine QJ.on rfl rfl (cB hb48) (YldS.yld (y_bin rfl rfl rfl)) rfl ?_
        refine QJ.step (YldS.yld (y_pick_f (cB hb48) rfl)) rfl ?_
        obtain rfl := Option.some.inj h47
        exact QJ.cut_end ⟨rfl, rfl, rfl, rfl, rfl, rfl, rfl, rfl, rfl, trivial⟩
    refine QJ.step (YldS.yld (y_move rfl)) rfl ?_
    obtain ⟨t49, h50, hm⟩ := bindS hm
    refine QJ.cut 4 [(5, v12), (6, str r13.1), (7, str r13.2), (8, .int .i64 r15.1), (15, .int .i64 r21.1), (18, v25), (20, .int .i64 r26.1), (21, .int .i64 r26.2), (125, .bool t49)] ?_ ?_
    · rcases Bool.eq_false_or_eq_true t46 with hb51 | hb51
      · obtain rfl := orT h50 hb51
        refine QJ.off rfl rfl (cB hb51) rfl rfl ?_
        refine QJ.off rfl rfl (cB hb51) rfl rfl ?_
        refine QJ.off rfl rfl (cB hb51) rfl rfl ?_
        refine QJ.step (YldS.yld (y_pick_t (cB hb51) rfl)) rfl ?_
        exact QJ.cut_end ⟨rfl, rfl, rfl, rfl, rfl, rfl, rfl, rfl, rfl, trivial⟩
      · replace h50 := orF h50 hb51
        refine QJ.on rfl rfl (cB hb51) (YldS.yld (y_move rfl)) rfl ?_
        refine QJ.on rfl rfl (cB hb51) (YldS.yld (y_lenRow (k := 0) rfl Try.runUnderlying27 rfl)) rfl ?_
        refine QJ.on rfl rfl (cB hb51) (YldS.yld (y_bin rfl rfl rfl)) rfl ?_
        refine QJ.step (YldS.yld (y_pick_f (cB hb51) rfl)) rfl ?_
        obtain rfl := Option.some.inj h50
        exact QJ.cut_end ⟨rfl, rfl, rfl, rfl, rfl, rfl, rfl, rfl, rfl, trivial⟩
    refine QJ.step (YldS.yld (y_move rfl)) rfl ?_
    obtain ⟨t52, h53, hm⟩ := bindS hm
    refine QJ.cut 6 [(5, v12), (6, str r13.1), (7, str r13.2), (8, .int .i64 r15.1), (15, .int .i64 r21.1), (18, v25), (20, .int .i64 r26.1), (21, .int .i64 r26.2), (132, .bool t52)] ?_ ?_
    · rcases Bool.eq_false_or_eq_true t49 with hb54 | hb54
      · obtain rfl := orT h53 hb54
        refine QJ.off rfl rfl (cB hb54) rfl rfl ?_
        refine QJ.off rfl rfl (cB hb54) rfl rfl ?_
        refine QJ.off rfl rfl (cB hb54) rfl rfl ?_
        refine QJ.off rfl rfl (cB hb54) rfl rfl ?_
        refine QJ.off rfl rfl (cB hb54) rfl rfl ?_
        refine QJ.step (YldS.yld (y_pick_t (cB hb54) rfl)) rfl ?_
        exact QJ.cut_end ⟨rfl, rfl, rfl, rfl, rfl, rfl, rfl, rfl, rfl, trivial⟩
      · replace h53 := orF h53 hb54
        refine QJ.on rfl rfl (cB hb54) (YldS.yld (y_move rfl)) rfl ?_
        obtain ⟨r55, h56, h53⟩ := bindS h53
        refine QJ.on rfl rfl (cB hb54) (y_call Try.call25 rfl (RetG.quiet fun w hw => ok_w_a2Sum h56 w _ (hw.row_rd (k := 0) rfl))) rfl ?_
        refine QJ.on rfl rfl (cB hb54) (YldS.yld (y_move rfl)) rfl ?_
        refine QJ.on rfl rfl (cB hb54) (YldS.yld (y_lenStr Try.runUnderlying9 rfl)) rfl ?_
        refine QJ.on rfl rfl (cB hb54) (YldS.yld (y_bin rfl rfl rfl)) rfl ?_
        refine QJ.step (YldS.yld (y_pick_f (cB hb54) rfl)) rfl ?_
        obtain rfl := Option.some.inj h53
        exact QJ.cut_end ⟨rfl, rfl, rfl, rfl, rfl, rfl, rfl, rfl, rfl, trivial⟩
    refine QJ.step (YldS.yld (y_move rfl)) rfl ?_
    obtain ⟨t57, h58, hm⟩ := bindS hm
    refine QJ.cut 6 [(5, v12), (6, str r13.1), (7, str r13.2), (8, .int .i64 r15.1), (20, .int .i64 r26.1), (21, .int .i64 r26.2), (139, .bool t57)] ?_ ?_
    · rcases Bool.eq_false_or_eq_true t52 with hb59 | hb59
      · obtain rfl := orT h58 hb59
        refine QJ.off rfl rfl (cB hb59) rfl rfl ?_
        refine QJ.off rfl rfl (cB hb59) rfl rfl ?_
        refine QJ.off rfl rfl (cB hb59) rfl rfl ?_
        refine QJ.off rfl rfl (cB hb59) rfl rfl ?_
        refine QJ.off rfl rfl (cB hb59) rfl rfl ?_
        refine QJ.step (YldS.yld (y_pick_t (cB hb59) rfl)) rfl ?_
        exact QJ.cut_end ⟨rfl, rfl, rfl, rfl, rfl, rfl, rfl, trivial⟩
      · replace h58 := orF h58 hb59
        refine QJ.on rfl rfl (cB hb59) (YldS.yld (y_move rfl)) rfl ?_
        obtain ⟨l60, h61, h58⟩ := bindS h58
        refine QJ.on rfl rfl (cB hb59) (YldS.yld (y_slcRow (i := none) (j := some 4) (k := 0) h61 rfl Try.runUnderlying27 Try.sizeOf2 rfl trivial ⟨_, rfl⟩)) rfl ?_
        obtain ⟨r62, h63, h58⟩ := bindS h58
        refine QJ.on rfl rfl (cB hb59) (y_call Try.call25 rfl (RetG.quiet fun w hw => ok_w_a2Sum h63 w _ (hw.slc_rd (k := 0) (i := none) (j := some 4) rfl h61))) rfl ?_
        refine QJ.on rfl rfl (cB hb59) (YldS.yld (y_move rfl)) rfl ?_
        refine QJ.on rfl rfl (cB hb59) (YldS.yld (y_bin rfl rfl rfl)) rfl ?_
        refine QJ.step (YldS.yld (y_pick_f (cB hb59) rfl)) rfl ?_
        obtain rfl := Option.some.inj h58
        exact QJ.cut_end ⟨rfl, rfl, rfl, rfl, rfl, rfl, rfl, trivial⟩
    refine QJ.step (YldS.yld (y_move rfl)) rfl ?_
    obtain ⟨t64, h65, hm⟩ := bindS hm
    refine QJ.cut 3 [(5, v12), (6, str r13.1), (7, str r13.2), (8, .int .i64 r15.1), (20, .int .i64 r26.1), (143, .bool t64)] ?_ ?_
    · rcases Bool.eq_false_or_eq_true t57 with hb66 | hb66
      · obtain rfl := orT h65 hb66
        refine QJ.off rfl rfl (cB hb66) rfl rfl ?_
        refine QJ.off rfl rfl (cB hb66) rfl rfl ?_
        refine QJ.step (YldS.yld (y_pick_t (cB hb66) rfl)) rfl ?_
        exact QJ.cut_end ⟨rfl, rfl, rfl, rfl, rfl, rfl, trivial⟩
      · replace h65 := orF h65 hb66
        refine QJ.on rfl rfl (cB hb66) (YldS.yld (y_move rfl)) rfl ?_
        refine QJ.on rfl rfl (cB hb66) (YldS.yld (y_bin rfl rfl rfl)) rfl ?_
        refine QJ.step (YldS.yld (y_pick_f (cB hb66) rfl)) rfl ?_
        obtain rfl := Option.some.inj h65
        exact QJ.cut_end ⟨rfl, rfl, rfl, rfl, rfl, rfl, trivial⟩
    refine QJ.done ?_
    refine PJ.next ?_
    refine WJ.cond (t := t64) rfl (fun hb67 => ?_) (fun hb67 => ?_)
    · replace hm := ifT hm hb67
      refine WJ.seq ?_
      refine WJ.quiet ?_
      refine QJ.step (YldS.yld (y_assign rfl)) rfl ?_
      refine QJ.done ?_
      refine PJ.next ?_
      refine WJ.ret ?_
      refine PJ.then_ret ?_
      obtain rfl := Option.some.inj hm
      refine PJ.sel (L' := []) [] ⟨List.nodup_nil, rfl⟩ ?_
      exact PJ.retn (vs := [.bool false]) Try.results4 ⟨rfl, trivial⟩ ⟨rfl, rfl⟩
    · replace hm := ifF hm hb67
      refine WJ.skip ?_
      refine PJ.next ?_
      refine WJ.seq ?_
      refine WJ.quiet ?_
      refine QJ.step (YldS.yld (y_assign rfl)) rfl ?_
      refine QJ.done ?_
      refine PJ.next ?_
      refine WJ.seq ?_
      refine WJ.quiet ?_
      refine QJ.step (YldS.yld (y_assign rfl)) rfl ?_
      refine QJ.done ?_
      refine PJ.next ?_
      obtain ⟨kj70, hk71, hm⟩ := withK_open hm
      refine WJ.join (X := Int × Int) (fun (x : Int × Int) => kj70 x.1 x.2 = some r) (fun (x : Int × Int) => [(8, .int .i64 r15.1), (20, .int .i64 r26.1), (22, .int .i64 x.1), (23, .int .i64 x.2)]) (fun (x : Int × Int) => []) ?_ ?_
      · clear hk71
        refine WJ.seq ?_
        refine WJ.quiet ?_
        refine QJ.step (YldS.yld (y_assign rfl)) rfl ?_
        refine QJ.done ?_
        refine PJ.next ?_
        refine WJ.block ?_
        refine WJ.sel (L' := (fun (x : Int × Int × Int) => [row v12 55 fPlace r10]) (0, 0, 0)) [1] ⟨by decide, rfl⟩ ?_
        refine WJ.sub (m' := (fun (x : Int × Int × Int) => [(5, v12), (6, str r13.1), (7, str r13.2), (8, .int .i64 r15.1), (20, .int .i64 r26.1), (22, .int .i64 x.1), (23, .int .i64 x.2.1), (24, .int .i64 x.2.2)]) (0, 0, 0)) ⟨rfl, rfl, rfl, rfl, rfl, rfl, rfl, rfl, trivial⟩ ?_
        refine WJ.loop (X := Int × Int × Int) (fun N (x : Int × Int × Int) => w_FnTextCosts_l1 kj70 r10 r13 N x.1 x.2.1 x.2.2 = some r) (fun (x : Int × Int × Int) => [(5, v12), (6, str r13.1), (7, str r13.2), (8, .int .i64 r15.1), (20, .int .i64 r26.1), (22, .int .i64 x.1), (23, .int .i64 x.2.1), (24, .int .i64 x.2.2)]) (fun (x : Int × Int × Int) => [row v12 55 fPlace r10]) ?_ N (0, 0, 0) hm
        · rintro N ⟨sum72, changes73, i74⟩ hI
          have hm := hI; clear hI
          cases N with
          | zero => cases hm
          | succ N =>
          unfold w_FnTextCosts_l1 at hm
          refine WJ.seq ?_
          refine WJ.seq ?_
          refine WJ.quiet ?_
          refine QJ.step (YldS.yld (y_move rfl)) rfl ?_
          refine QJ.step (YldS.yld (y_move rfl)) rfl ?_
          refine QJ.step (YldS.yld (y_lenStr Try.runUnderlying9 rfl)) rfl ?_
          refine QJ.step (YldS.yld (y_bin rfl rfl rfl)) rfl ?_
          refine QJ.done ?_
          refine PJ.next ?_
          refine WJ.cond (t := decide (i74 < (List.length r13.2 : Int))) rfl (fun hb75 => ?_) (fun hb75 => ?_)
          · replace hm := ifT hm hb75
            refine WJ.skip ?_
            refine PJ.next ?_
            obtain ⟨kj78, hk79, hm⟩ := withK_open hm
            refine WJ.join (X := Int × Int) (fun (x : Int × Int) => kj78 x.1 x.2 = some r) (fun (x : Int × Int) => [(5, v12), (6, str r13.1), (7, str r13.2), (8, .int .i64 r15.1), (20, .int .i64 r26.1), (22, .int .i64 x.1), (23, .int .i64 x.2), (24, .int .i64 i74)]) (fun (x : Int × Int) => [row v12 55 fPlace r10]) ?_ ?_
            · clear hk79
              refine WJ.block ?_
              refine WJ.seq ?_
              refine WJ.quiet ?_
              refine QJ.step (YldS.yld (y_move rfl)) rfl ?_
              refine QJ.step (YldS.yld (y_move rfl)) rfl ?_
              refine QJ.step (YldS.yld (y_move rfl)) rfl ?_
              obtain ⟨c80, h81, hm⟩ := bindS hm
              refine QJ.step (YldS.yld (y_idxStr Try.runUnderlying9 rfl rfl h81)) rfl ?_
              obtain ⟨r82, h83, hm⟩ := bindS hm
              refine QJ.step (y_call Try.call26 rfl (RetG.quiet fun w hw => ok_w_a2Index h83 w )) rfl ?_
              refine QJ.step (YldS.yld (y_assign rfl)) rfl ?_
              refine QJ.done ?_
              refine PJ.next ?_
              refine WJ.seq ?_
              refine WJ.seq ?_
              refine WJ.quiet ?_
              refine QJ.step (YldS.yld (y_move rfl)) rfl ?_
              refine QJ.step (YldS.yld (y_bin rfl rfl rfl)) rfl ?_
              refine QJ.done ?_
              refine PJ.next ?_
              refine WJ.cond (t := (i74 == 0)) rfl (fun hb84 => ?_) (fun hb84 => ?_)
              · replace hm := ifT hm hb84
                refine WJ.seq ?_
                refine WJ.quiet ?_
                refine QJ.step (YldS.yld (y_move rfl)) rfl ?_
                refine QJ.step (YldS.yld (y_move rfl)) rfl ?_
                obtain ⟨e85, h86, hm⟩ := bindS hm
                refine QJ.step (YldS.yld (y_ixRow (k := 0) (R := fPlace) rfl Try.runUnderlying42 Try.sizeOf55 rfl rfl h86)) rfl ?_
                refine QJ.step (YldS.yld (y_fldR fld55_2 rfl)) rfl ?_
                refine QJ.step (YldS.yld (y_loadR (k := 0) (i := (Int.toNat r82)) (off := 2) (u := .int .i64 e85.effort) rfl Try.isAgg2 rfl (idx_get h86) rfl)) rfl ?_
                refine QJ.step (YldS.yld (y_assign rfl)) rfl ?_
                refine QJ.done ?_
                refine PJ.next ?_
                refine WJ.exit ?_
                refine PJ.then_exit (PJ.block_exit ?_)
                exact PJ.joined (e85.effort, changes73) [0] hm ⟨rfl, rfl, rfl, rfl, rfl, rfl, rfl, rfl, trivial⟩ ⟨by decide, rfl⟩
              · replace hm := ifF hm hb84
                refine WJ.skip ?_
                refine PJ.next ?_
                refine WJ.seq ?_
                refine WJ.quiet ?_
                refine QJ.step (YldS.yld (y_move rfl)) rfl ?_
                refine QJ.step (YldS.yld (y_move rfl)) rfl ?_
                refine QJ.step (YldS.yld (y_move rfl)) rfl ?_
                refine QJ.step (YldS.yld (y_bin rfl rfl rfl)) rfl ?_
                obtain ⟨c87, h88, hm⟩ := bindS hm
                refine QJ.step (YldS.yld (y_idxStr Try.runUnderlying9 rfl rfl h88)) rfl ?_
                obtain ⟨r89, h90, hm⟩ := bindS hm
                refine QJ.step (y_call Try.call26 rfl (RetG.quiet fun w hw => ok_w_a2Index h90 w )) rfl ?_
                refine QJ.step (YldS.yld (y_assign rfl)) rfl ?_
                refine QJ.done ?_
                refine PJ.next ?_
                refine WJ.seq ?_
                refine WJ.quiet ?_
                refine QJ.step (YldS.yld (y_move rfl)) rfl ?_
                refine QJ.step (YldS.yld (y_move rfl)) rfl ?_
                refine QJ.step (YldS.yld (y_move rfl)) rfl ?_
                obtain ⟨r91, h92, hm⟩ := bindS hm
                refine QJ.step (y_call Try.call27 rfl (RetG.quiet fun w hw => ok_i_StrokeCost h92 w _ (hw.row_rd (k := 0) rfl))) rfl ?_
                refine QJ.step (YldS.yld (y_move rfl)) rfl ?_
                refine QJ.step (YldS.yld (y_extract rfl rfl)) rfl ?_
                refine QJ.step (YldS.yld (y_extract rfl rfl)) rfl ?_
                refine QJ.step (YldS.yld (y_assign rfl)) rfl ?_
                refine QJ.step (YldS.yld (y_assign rfl)) rfl ?_
                refine QJ.done ?_
                refine PJ.next ?_
                refine WJ.seq ?_
                refine WJ.seq ?_
                refine WJ.quiet ?_
                refine QJ.step (YldS.yld (y_move rfl)) rfl ?_
                refine QJ.step (YldS.yld (y_bin rfl rfl rfl)) rfl ?_
                refine QJ.done ?_
                refine PJ.next ?_
                refine WJ.cond (t := (r91.2 != 0)) rfl (fun hb93 => ?_) (fun hb93 => ?_)
                · replace hm := ifT hm hb93
                  refine WJ.seq ?_
                  refine WJ.quiet ?_
                  refine QJ.step (YldS.yld (y_assign rfl)) rfl ?_
                  refine QJ.done ?_
                  refine PJ.next ?_
                  refine WJ.ret ?_
                  refine PJ.then_ret (PJ.block_ret (PJ.then_ret (PJ.then_ret (PJ.block_ret (PJ.then_ret ?_)))))
                  obtain rfl := Option.some.inj hm
                  refine PJ.sel (L' := []) [] ⟨List.nodup_nil, rfl⟩ ?_
                  exact PJ.retn (vs := [.bool false]) Try.results4 ⟨rfl, trivial⟩ ⟨rfl, rfl⟩
                · replace hm := ifF hm hb93
                  refine WJ.skip ?_
                  refine PJ.next ?_
                  refine WJ.seq ?_
                  refine WJ.quiet ?_
                  refine QJ.step (YldS.yld (y_move rfl)) rfl ?_
                  refine QJ.step (YldS.yld (y_move rfl)) rfl ?_
                  refine QJ.step (YldS.yld (y_bin rfl rfl rfl)) rfl ?_
                  refine QJ.step (YldS.yld (y_assign rfl)) rfl ?_
                  refine QJ.done ?_
                  refine PJ.next ?_
                  refine WJ.seq ?_
                  refine WJ.quiet_draw follows (by kernel_rfl) ?_
                  refine QJ.step (YldS.yld (y_move rfl)) rfl ?_
                  refine QJ.step (YldS.yld (y_move rfl)) rfl ?_
                  obtain ⟨e94, h95, hm⟩ := bindS hm
                  refine QJ.step (YldS.yld (y_ixRow (k := 0) (R := fPlace) rfl Try.runUnderlying42 Try.sizeOf55 rfl rfl h95)) rfl ?_
                  refine QJ.step (YldS.yld (y_fldR fld55_0 rfl)) rfl ?_
                  refine QJ.step (YldS.yld (y_loadR (k := 0) (i := (Int.toNat r89)) (off := 0) (u := .int .i64 e94.finger) rfl Try.isAgg2 rfl (idx_get h95) rfl)) rfl ?_
                  refine QJ.step (YldS.yld (y_bin rfl rfl rfl)) rfl ?_
                  refine QJ.step (YldS.yld (y_move rfl)) rfl ?_
                  refine QJ.step (YldS.yld (y_move rfl)) rfl ?_
                  obtain ⟨e96, h97, hm⟩ := bindS hm
                  refine QJ.step (YldS.yld (y_ixRow (k := 0) (R := fPlace) rfl Try.runUnderlying42 Try.sizeOf55 rfl rfl h97)) rfl ?_
                  refine QJ.step (YldS.yld (y_fldR fld55_0 rfl)) rfl ?_
                  refine QJ.step (YldS.yld (y_loadR (k := 0) (i := (Int.toNat r82)) (off := 0) (u := .int .i64 e96.finger) rfl Try.isAgg2 rfl (idx_get h97) rfl)) rfl ?_
                  refine QJ.step (YldS.yld (y_bin rfl rfl rfl)) rfl ?_
                  refine QJ.step (YldS.yld (y_neB Try.underlying4 rfl rfl rfl)) rfl ?_
                  refine QJ.done ?_
                  refine PJ.next ?_
                  refine WJ.cond (t := ((decide (e94.finger ≤ 3)) != (decide (e96.finger ≤ 3)))) rfl (fun hb98 => ?_) (fun hb98 => ?_)
                  · replace hm := ifT hm hb98
                    refine WJ.quiet ?_
                    refine QJ.step (YldS.yld (y_move rfl)) rfl ?_
                    refine QJ.step (YldS.yld (y_bin rfl rfl rfl)) rfl ?_
                    refine QJ.step (YldS.yld (y_assign rfl)) rfl ?_
                    refine QJ.done ?_
                    refine PJ.block_normal ?_
                    exact PJ.joined (w64 (sum72 + r91.1), w64 (changes73 + 1)) [0] hm ⟨rfl, rfl, rfl, rfl, rfl, rfl, rfl, rfl, trivial⟩ ⟨by decide, rfl⟩
                  · replace hm := ifF hm hb98
                    refine WJ.skip ?_
                    refine PJ.block_normal ?_
                    exact PJ.joined (w64 (sum72 + r91.1), changes73) [0] hm ⟨rfl, rfl, rfl, rfl, rfl, rfl, rfl, rfl, trivial⟩ ⟨by decide, rfl⟩
            · rintro ⟨sum76, changes77⟩ hm
              subst hk79
              refine WJ.quiet ?_
              refine QJ.step (YldS.yld (y_move rfl)) rfl ?_
              refine QJ.step (YldS.yld (y_bin rfl rfl rfl)) rfl ?_
              refine QJ.step (YldS.yld (y_assign rfl)) rfl ?_
              refine QJ.done ?_
              exact PJ.round (sum76, changes77, w64 (i74 + 1)) [0] hm ⟨rfl, rfl, rfl, rfl, rfl, rfl, rfl, rfl, trivial⟩ ⟨by decide, rfl⟩
          · replace hm := ifF hm hb75
            refine WJ.exit ?_
            refine PJ.then_exit (PJ.then_exit (PJ.block_exit ?_))
            exact PJ.joined (sum72, changes73) [] hm ⟨rfl, rfl, rfl, rfl, trivial⟩ ⟨List.nodup_nil, rfl⟩
      · rintro ⟨sum68, changes69⟩ hm
        subst hk71
        refine WJ.seq ?_
        refine WJ.quiet ?_
        refine QJ.step (YldS.yld (y_move rfl)) rfl ?_
        refine QJ.step (YldS.yld (y_move rfl)) rfl ?_
        refine QJ.step (YldS.yld (y_bin rfl rfl rfl)) rfl ?_
        refine QJ.step (YldS.yld (y_move rfl)) rfl ?_
        obtain ⟨t99, h100, hm⟩ := bindS hm
        refine QJ.cut 4 [(202, .bool t99)] ?_ ?_
        · rcases Bool.eq_false_or_eq_true (sum68 == r15.1) with hb101 | hb101
          · replace h100 := andT h100 hb101
            refine QJ.on rfl rfl (cB hb101) (YldS.yld (y_move rfl)) rfl ?_
            refine QJ.on rfl rfl (cB hb101) (YldS.yld (y_move rfl)) rfl ?_
            refine QJ.on rfl rfl (cB hb101) (YldS.yld (y_bin rfl rfl rfl)) rfl ?_
            refine QJ.step (YldS.yld (y_pick_t (cB hb101) rfl)) rfl ?_
            obtain rfl := Option.some.inj h100
            exact QJ.cut_end ⟨rfl, trivial⟩
          · obtain rfl := andF h100 hb101
            refine QJ.off rfl rfl (cB hb101) rfl rfl ?_
            refine QJ.off rfl rfl (cB hb101) rfl rfl ?_
            refine QJ.off rfl rfl (cB hb101) rfl rfl ?_
            refine QJ.step (YldS.yld (y_pick_f (cB hb101) rfl)) rfl ?_
            exact QJ.cut_end ⟨rfl, trivial⟩
        refine QJ.step (YldS.yld (y_assign rfl)) rfl ?_
        refine QJ.done ?_
        refine PJ.next ?_
        refine WJ.ret ?_
        obtain rfl := Option.some.inj hm
        refine PJ.sel (L' := []) [] ⟨List.nodup_nil, rfl⟩ ?_
        exact PJ.retn (vs := [.bool t99]) Try.results4 ⟨rfl, trivial⟩ ⟨rfl, rfl⟩

end Go.Proofs.Ytdkhpbfciajaeaa
