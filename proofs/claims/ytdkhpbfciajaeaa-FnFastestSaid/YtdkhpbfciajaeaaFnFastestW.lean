/-
  The walks: a call hands back what its plain function computes, where that has a value. No other conditions.
-/
import Derived.Test.YtdkhpbfciajaeaaFnFastestM
import Derived.Test.YtdkhpbfciajaeaaChecked
import Derived.Test.YtdkhpbfciajaeaaFnFastestS
namespace Go.Proofs.Ytdkhpbfciajaeaa
open Go.RowKit Go.Proofs
set_option linter.unusedVariables false
set_option linter.unusedSimpArgs false

theorem follows : Try.prog.follows .mixedOrders = true := by kernel_rfl

def Basket.enc (x : Basket) : List Value := [.int .i64 x.bars, .int .i64 x.rise, .int .i64 x.fall, .int .i64 x.clear, .int .i64 x.near]
def fBasket : FRp Basket := ⟨5, Basket.enc, fun _ => rfl, by decide, fun x u hu => by
  simp only [Basket.enc, List.mem_cons, List.not_mem_nil, or_false] at hu
  rcases hu with rfl | rfl | rfl | rfl | rfl <;> rfl⟩

def Stroke.enc (x : Stroke) : List Value := [.int .i64 x.bar, .int .i64 x.tick]
def fStroke : FRp Stroke := ⟨2, Stroke.enc, fun _ => rfl, by decide, fun x u hu => by
  simp only [Stroke.enc, List.mem_cons, List.not_mem_nil, or_false] at hu
  rcases hu with rfl | rfl <;> rfl⟩

theorem pl127 : PlacesOk Try.prog 127 [(0, 1), (1, 1), (2, 1)] := ⟨_, Try.runUnderlying127, fun w => by simp [Try.sizeOf3, Try.sizeOf22, Try.sizeOf125]⟩
theorem fld127_1 : FieldOk Try.prog 127 1 1 3 0 := ⟨_, _, Try.runUnderlying127, rfl, rfl, rfl, Try.sizeOf3⟩
theorem fld127_0 : FieldOk Try.prog 127 0 0 22 0 := ⟨_, _, Try.runUnderlying127, rfl, rfl, rfl, Try.sizeOf22⟩
theorem fld127_2 : FieldOk Try.prog 127 2 2 125 0 := ⟨_, _, Try.runUnderlying127, rfl, rfl, rfl, Try.sizeOf125⟩
theorem pl25 : PlacesOk Try.prog 25 [(0, 1), (1, 1), (2, 1), (3, 1), (4, 1)] := ⟨_, Try.runUnderlying25, fun w => by simp [Try.sizeOf2]⟩
theorem fld25_1 : FieldOk Try.prog 25 1 1 2 0 := ⟨_, _, Try.runUnderlying25, rfl, rfl, rfl, Try.sizeOf2⟩
theorem fld25_2 : FieldOk Try.prog 25 2 2 2 0 := ⟨_, _, Try.runUnderlying25, rfl, rfl, rfl, Try.sizeOf2⟩
theorem fld25_3 : FieldOk Try.prog 25 3 3 2 0 := ⟨_, _, Try.runUnderlying25, rfl, rfl, rfl, Try.sizeOf2⟩
theorem fld25_4 : FieldOk Try.prog 25 4 4 2 0 := ⟨_, _, Try.runUnderlying25, rfl, rfl, rfl, Try.sizeOf2⟩
theorem fld25_0 : FieldOk Try.prog 25 0 0 2 0 := ⟨_, _, Try.runUnderlying25, rfl, rfl, rfl, Try.sizeOf2⟩
set_option maxRecDepth 100000 in
theorem el2 : ElemOk Try.prog 2 1 (fI64.enc 0) := ⟨_, _, Try.type2, rfl, rfl, rfl, by decide⟩
theorem fld37_1 : FieldOk Try.prog 37 1 1 2 0 := ⟨_, _, Try.runUnderlying37, rfl, rfl, rfl, Try.sizeOf2⟩
theorem fld37_0 : FieldOk Try.prog 37 0 0 2 0 := ⟨_, _, Try.runUnderlying37, rfl, rfl, rfl, Try.sizeOf2⟩
theorem pl37 : PlacesOk Try.prog 37 [(0, 1), (1, 1)] := ⟨_, Try.runUnderlying37, fun w => by simp [Try.sizeOf2]⟩
set_option maxRecDepth 100000 in
theorem el37 : ElemOk Try.prog 37 2 (fStroke.enc (Stroke.mk 0 0)) := ⟨_, _, Try.type37, rfl, rfl, rfl, by decide⟩
set_option maxRecDepth 100000 in
theorem zv89 : ∀ w, (zeroValue 89).run Try.prog w = .ok (.agg (List.toArray (encs fBool (List.replicate 60 false)))) w := fun w => by
  rw [Try.zeroValue89]
  refine congrArg (fun z => Result.ok (Value.agg z) w) ?_
  kernel_rfl
set_option maxRecDepth 100000 in
open Go.RowKit Go.Lib Go.Sort Go.Proofs in
theorem sortC50_27 : SortC Try.prog 50 27 := by
  refine ⟨fun p n c lf la lb w hn => ?_, fun α _ enc lt g lb blk off c d w h1 heg h2 h12 hless hH hblk => ?_⟩
  · have h := fun f hf => Any.sort_Slice_tiny Try.laysGg6 27 2 _ _ Try.type27 rfl (by kernel_rfl) Try.type2 6 (fun _ => by kernel_rfl) p n c hn f hf lf la lb w
    match n, hn with
    | 0, _ => exact h 96 (by kernel_rfl)
    | 1, _ => exact h 97 (by kernel_rfl)
  · have hk : ∀ ie : TypeInfo, ie.hasPointers = false → ie.bytes = 8 → Lib.swapperK d.size ie 6 = 5 := fun ie a b => by
      have c1 : (d.size == 0) = false := by rw [beq_eq_false_iff_ne]; omega
      have c2 : (d.size == 1) = false := by rw [beq_eq_false_iff_ne]; omega
      simp [Lib.swapperK, a, b, c1, c2]
    exact Any.sort_Slice_small Try.laysGg6 27 2 _ _ Try.type27 rfl (by kernel_rfl) Try.type2 6 (fun _ => by kernel_rfl) rfl Try.isAgg2 enc h1 lt g lb heg blk off c d h2 h12 100 (by rw [hk _ rfl rfl]; kernel_rfl) true
      (fun args W => run_callFunc_extern Try.func100 (by kernel_rfl) (by kernel_rfl) (by kernel_rfl) (e := Extern.ReflectliteSwapper.swap true) (by kernel_rfl) args W) w hless hH hblk


set_option maxRecDepth 100000 in
set_option maxHeartbeats 1000000 in
theorem ok_w_a2Long {code1 : List UInt8} {more4 : List UInt8} {r : Bool} (hm : w_a2Long code1 more4 = some r) (w : World) (v2 : Value) (hr3 : RdS w (cx w).Fz v2 fByte.rp code1) (v5 : Value) (hr6 : RdS w (cx w).Fz v5 fByte.rp more4) :
    Calls Try.prog 7 #[v2, v5] w (Ret (cx w) (.bool r)) := by
  unfold w_a2Long at hm
  refine Calls.enter [v2, v5] Try.func7 rfl Try.ntmps7 rfl ?_
  refine WJ.seq ?_
  refine WJ.quiet ?_
  refine QJ.step (YldS.yld (y_assign rfl)) rfl ?_
  refine QJ.done ?_
  refine PJ.next ?_
  refine WJ.seq ?_
  refine WJ.quiet ?_
  refine QJ.step (YldS.yld (y_move rfl)) rfl ?_
  refine QJ.step (YldS.yld (y_lenS Try.runUnderlying22 hr3 rfl)) rfl ?_
  refine QJ.step (YldS.yld (y_bin rfl rfl rfl)) rfl ?_
  refine QJ.step (YldS.yld (y_move rfl)) rfl ?_
  obtain ⟨t7, h8, hm⟩ := bindS hm
  refine QJ.cut 4 [(12, .bool t7)] ?_ ?_
  · rcases Bool.eq_false_or_eq_true (decide ((List.length code1 : Int) > 3000)) with hb9 | hb9
    · obtain rfl := orT h8 hb9
      refine QJ.off rfl rfl (cB hb9) rfl rfl ?_
      refine QJ.off rfl rfl (cB hb9) rfl rfl ?_
      refine QJ.off rfl rfl (cB hb9) rfl rfl ?_
      refine QJ.step (YldS.yld (y_pick_t (cB hb9) rfl)) rfl ?_
      exact QJ.cut_end ⟨rfl, trivial⟩
    · replace h8 := orF h8 hb9
      refine QJ.on rfl rfl (cB hb9) (YldS.yld (y_move rfl)) rfl ?_
      refine QJ.on rfl rfl (cB hb9) (YldS.yld (y_lenS Try.runUnderlying22 hr6 rfl)) rfl ?_
      refine QJ.on rfl rfl (cB hb9) (YldS.yld (y_bin rfl rfl rfl)) rfl ?_
      refine QJ.step (YldS.yld (y_pick_f (cB hb9) rfl)) rfl ?_
      obtain rfl := Option.some.inj h8
      exact QJ.cut_end ⟨rfl, trivial⟩
  refine QJ.step (YldS.yld (y_assign rfl)) rfl ?_
  refine QJ.done ?_
  refine PJ.next ?_
  refine WJ.ret ?_
  obtain rfl := Option.some.inj hm
  refine PJ.sel (L' := []) [] ⟨List.nodup_nil, rfl⟩ ?_
  exact PJ.retn (vs := [.bool t7]) Try.results7 ⟨rfl, trivial⟩ ⟨rfl, rfl⟩

set_option maxRecDepth 100000 in
set_option maxHeartbeats 1000000 in
theorem ok_s_l00From {code1 : List UInt8} {r : L00Src} (hm : s_l00From code1 = some r) (w : World) (v2 : Value) (hr3 : RdS w (cx w).Fz v2 fByte.rp code1) :
    Calls Try.prog 41 #[v2] w (RetG (cx w) fun u L => ∃ (u1 : Nat), (u = pt u1 0 ∧ L = [box u1 127 [v2, .int .i64 r.at_, .int .u64 r.seed]])) := by
  unfold s_l00From at hm
  refine Calls.enter [v2] Try.func41 rfl Try.ntmps41 rfl ?_
  refine WJ.seq ?_
  refine WJ.quiet ?_
  refine QJ.step (YldS.yld (y_assign rfl)) rfl ?_
  refine QJ.done ?_
  refine PJ.next ?_
  refine WJ.seq ?_
  refine WJ.reg ?_
  refine SJ.q (YldS.yld (y_move rfl)) rfl ?_
  refine SJ.q (YldS.yld (y_build (parts := [(0, .tmp 3)]) (places := [(0, 1), (1, 1), (2, 1)]) (r := [v2, .int .i64 0, .int .u64 0]) pl127 Try.zeroValue127 rfl rfl (show _ = [(0, [v2])] from by simp only [List.map, RdS.cells1 hr3]) rfl)) rfl ?_
  refine SJ.box (cs := [v2, .int .i64 0, .int .u64 0]) rfl rfl rfl fun g4 => ?_
  refine SJ.q (YldS.yld (y_assign rfl)) rfl ?_
  refine SJ.nil ?_
  refine PJ.next ?_
  refine WJ.ret ?_
  obtain rfl := Option.some.inj hm
  refine PJ.sel (L' := [box g4 127 [v2, .int .i64 0, .int .u64 0]]) [0] ⟨by decide, rfl⟩ ?_
  exact PJ.retn (vs := [pt g4 0]) Try.results41 ⟨rfl, trivial⟩ ⟨_, rfl, rfl⟩

set_option maxRecDepth 100000 in
set_option maxHeartbeats 1000000 in
theorem ok_s_l00Src_next {s1 : L00Src} {g2 : Nat} {r : Int × L00Src} (hm : s_l00Src_next s1 = some r) (w : World) (S : Nat → Prop) (v3 : Value) (hr4 : RdS w (Cx.Fz ⟨w, S⟩) v3 fByte.rp s1.code) (hA : (box g2 127 [v3, .int .i64 s1.at_, .int .u64 s1.seed]).holds w S) :
    Calls Try.prog 81 #[pt g2 0] w (RetG ⟨w, S⟩ fun u L => (u = .int .i64 r.1 ∧ L = [box g2 127 [v3, .int .i64 r.2.at_, .int .u64 r.2.seed]])) := by
  unfold s_l00Src_next at hm
  refine Calls.enter1 hA [pt g2 0] Try.func81 rfl Try.ntmps81 rfl ?_
  refine WJ.seq ?_
  refine WJ.quiet ?_
  refine QJ.step (YldS.yld (y_assign rfl)) rfl ?_
  refine QJ.done ?_
  refine PJ.next ?_
  refine WJ.seq ?_
  refine WJ.quiet ?_
  refine QJ.step (YldS.yld (y_assign rfl)) rfl ?_
  refine QJ.done ?_
  refine PJ.next ?_
  obtain ⟨kj6, hk7, hm⟩ := withK_open hm
  refine WJ.join (X := Int) (fun (x : Int) => kj6 x = some r) (fun (x : Int) => [(0, pt g2 0), (3, .int .i64 x)]) (fun (x : Int) => [box g2 127 [v3, .int .i64 s1.at_, .int .u64 s1.seed]]) ?_ ?_
  · clear hk7
    refine WJ.seq ?_
    refine WJ.quiet_draw follows (by kernel_rfl) ?_
    refine QJ.step (YldS.yld (y_move rfl)) rfl ?_
    refine QJ.step (YldS.yld (y_nil rfl)) rfl ?_
    refine QJ.step (YldS.yld (y_fldB (o := 0) fld127_1 rfl)) rfl ?_
    refine QJ.step (YldS.yld (y_loadB (k := 0) (off := 1) (v := .int .i64 s1.at_) rfl Try.isAgg3 rfl rfl)) rfl ?_
    refine QJ.step (YldS.yld (y_move rfl)) rfl ?_
    refine QJ.step (YldS.yld (y_nil rfl)) rfl ?_
    refine QJ.step (YldS.yld (y_fldB (o := 0) fld127_0 rfl)) rfl ?_
    refine QJ.step (YldS.yld (y_loadB (k := 0) (off := 0) (v := v3) rfl Try.isAgg22 rfl rfl)) rfl ?_
    refine QJ.step (YldS.yld (y_lenS Try.runUnderlying22 hr4 rfl)) rfl ?_
    refine QJ.step (YldS.yld (y_bin rfl rfl rfl)) rfl ?_
    refine QJ.done ?_
    refine PJ.next ?_
    refine WJ.cond (t := decide (s1.at_ < (List.length s1.code : Int))) rfl (fun hb8 => ?_) (fun hb8 => ?_)
    · replace hm := ifT hm hb8
      refine WJ.quiet_draw follows (by kernel_rfl) ?_
      refine QJ.step (YldS.yld (y_move rfl)) rfl ?_
      refine QJ.step (YldS.yld (y_nil rfl)) rfl ?_
      refine QJ.step (YldS.yld (y_fldB (o := 0) fld127_0 rfl)) rfl ?_
      refine QJ.step (YldS.yld (y_loadB (k := 0) (off := 0) (v := v3) rfl Try.isAgg22 rfl rfl)) rfl ?_
      refine QJ.step (YldS.yld (y_move rfl)) rfl ?_
      refine QJ.step (YldS.yld (y_nil rfl)) rfl ?_
      refine QJ.step (YldS.yld (y_fldB (o := 0) fld127_1 rfl)) rfl ?_
      refine QJ.step (YldS.yld (y_loadB (k := 0) (off := 1) (v := .int .i64 s1.at_) rfl Try.isAgg3 rfl rfl)) rfl ?_
      obtain ⟨e9, h10, hm⟩ := bindS hm
      obtain ⟨ad11, _, rfl, ha12, hy13⟩ := hr4.elem h10
      refine QJ.step (YldS.yld (hy13 Try.runUnderlying22 Try.sizeOf5 rfl rfl)) rfl ?_
      refine QJ.step (YldS.yld (y_load1 (v := .int .u8 (UInt8.toNat e9 : Int)) Try.isAgg5 ha12 St.frozenC rfl)) rfl ?_
      refine QJ.step (YldS.yld (y_conv8 Try.runUnderlying5 Try.runUnderlying3 rfl)) rfl ?_
      refine QJ.step (YldS.yld (y_assign rfl)) rfl ?_
      refine QJ.done ?_
      exact PJ.joined (UInt8.toNat e9 : Int) [0] hm ⟨rfl, rfl, trivial⟩ ⟨by decide, rfl⟩
    · replace hm := ifF hm hb8
      refine WJ.skip ?_
      exact PJ.joined 0 [0] hm ⟨rfl, rfl, trivial⟩ ⟨by decide, rfl⟩
  · rintro b5 hm
    subst hk7
    refine WJ.seq ?_
    refine WJ.reg ?_
    refine SJ.q (YldS.yld (y_move rfl)) rfl ?_
    refine SJ.q (YldS.yld (y_nil rfl)) rfl ?_
    refine SJ.q (YldS.yld (y_fldB (o := 0) fld127_1 rfl)) rfl ?_
    refine SJ.q (YldS.yld (y_loadB (k := 0) (off := 1) (v := .int .i64 s1.at_) rfl Try.isAgg3 rfl rfl)) rfl ?_
    refine SJ.q (YldS.yld (y_bin rfl rfl rfl)) rfl ?_
    refine SJ.q (YldS.yld (y_nil rfl)) rfl ?_
    refine SJ.q (YldS.yld (y_fldB (o := 0) fld127_1 rfl)) rfl ?_
    refine SJ.storeL (k := 0) (off := 1) (us := [.int .i64 (w64 (s1.at_ + 1))]) rfl rfl rfl rfl Try.sizeOf3 rfl rfl ?_
    refine SJ.nil ?_
    refine PJ.next ?_
    refine WJ.seq ?_
    refine WJ.reg ?_
    refine SJ.q (YldS.yld (y_move rfl)) rfl ?_
    refine SJ.q (YldS.yld (y_move rfl)) rfl ?_
    refine SJ.q (YldS.yld (y_nil rfl)) rfl ?_
    refine SJ.q (YldS.yld (y_fldB (o := 0) fld127_2 rfl)) rfl ?_
    refine SJ.q (YldS.yld (y_loadB (k := 0) (off := 2) (v := .int .u64 s1.seed) rfl Try.isAgg125 rfl rfl)) rfl ?_
    refine SJ.q (YldS.yld (y_bin rfl rfl rfl)) rfl ?_
    refine SJ.q (YldS.yld (y_move rfl)) rfl ?_
    refine SJ.q (YldS.yld (y_convI Try.runUnderlying3 Try.runUnderlying125 rfl)) rfl ?_
    refine SJ.q (YldS.yld (y_bin rfl rfl rfl)) rfl ?_
    refine SJ.q (YldS.yld (y_bin rfl rfl rfl)) rfl ?_
    refine SJ.q (YldS.yld (y_nil rfl)) rfl ?_
    refine SJ.q (YldS.yld (y_fldB (o := 0) fld127_2 rfl)) rfl ?_
    refine SJ.storeL (k := 0) (off := 2) (us := [.int .u64 (IntKind.u64.wrap ((IntKind.u64.wrap ((IntKind.u64.wrap (s1.seed * 6364136223846793005)) + (IntKind.u64.wrap b5))) + 1442695040888963407))]) rfl rfl rfl rfl Try.sizeOf125 rfl rfl ?_
    refine SJ.nil ?_
    refine PJ.next ?_
    refine WJ.seq ?_
    refine WJ.seq ?_
    refine WJ.quiet_draw follows (by kernel_rfl) ?_
    refine QJ.step (YldS.yld (y_move rfl)) rfl ?_
    refine QJ.step (YldS.yld (y_nil rfl)) rfl ?_
    refine QJ.step (YldS.yld (y_fldB (o := 0) fld127_1 rfl)) rfl ?_
    refine QJ.step (YldS.yld (y_loadB (k := 0) (off := 1) (v := .int .i64 (w64 (s1.at_ + 1))) rfl Try.isAgg3 rfl rfl)) rfl ?_
    refine QJ.step (YldS.yld (y_move rfl)) rfl ?_
    refine QJ.step (YldS.yld (y_nil rfl)) rfl ?_
    refine QJ.step (YldS.yld (y_fldB (o := 0) fld127_0 rfl)) rfl ?_
    refine QJ.step (YldS.yld (y_loadB (k := 0) (off := 0) (v := v3) rfl Try.isAgg22 rfl rfl)) rfl ?_
    refine QJ.step (YldS.yld (y_lenS Try.runUnderlying22 hr4 rfl)) rfl ?_
    refine QJ.step (YldS.yld (y_bin rfl rfl rfl)) rfl ?_
    refine QJ.done ?_
    refine PJ.next ?_
    refine WJ.cond (t := decide ((w64 (s1.at_ + 1)) ≤ (List.length s1.code : Int))) rfl (fun hb14 => ?_) (fun hb14 => ?_)
    · replace hm := ifT hm hb14
      refine WJ.seq ?_
      refine WJ.quiet ?_
      refine QJ.step (YldS.yld (y_move rfl)) rfl ?_
      refine QJ.step (YldS.yld (y_assign rfl)) rfl ?_
      refine QJ.done ?_
      refine PJ.next ?_
      refine WJ.ret ?_
      refine PJ.then_ret ?_
      obtain rfl := Option.some.inj hm
      refine PJ.sel (L' := [box g2 127 [v3, .int .i64 (w64 (s1.at_ + 1)), .int .u64 (IntKind.u64.wrap ((IntKind.u64.wrap ((IntKind.u64.wrap (s1.seed * 6364136223846793005)) + (IntKind.u64.wrap b5))) + 1442695040888963407))]]) [0] ⟨by decide, rfl⟩ ?_
      exact PJ.retn (vs := [.int .i64 b5]) Try.results81 ⟨rfl, trivial⟩ ⟨rfl, rfl⟩
    · replace hm := ifF hm hb14
      refine WJ.skip ?_
      refine PJ.next ?_
      refine WJ.seq ?_
      refine WJ.quiet ?_
      refine QJ.step (YldS.yld (y_move rfl)) rfl ?_
      refine QJ.step (YldS.yld (y_nil rfl)) rfl ?_
      refine QJ.step (YldS.yld (y_fldB (o := 0) fld127_2 rfl)) rfl ?_
      refine QJ.step (YldS.yld (y_loadB (k := 0) (off := 2) (v := .int .u64 (IntKind.u64.wrap ((IntKind.u64.wrap ((IntKind.u64.wrap (s1.seed * 6364136223846793005)) + (IntKind.u64.wrap b5))) + 1442695040888963407))) rfl Try.isAgg125 rfl rfl)) rfl ?_
      refine QJ.step (YldS.yld (y_shru rfl rfl rfl)) rfl ?_
      refine QJ.step (YldS.yld (y_andu rfl rfl rfl)) rfl ?_
      refine QJ.step (YldS.yld (y_convI Try.runUnderlying125 Try.runUnderlying2 rfl)) rfl ?_
      refine QJ.step (YldS.yld (y_assign rfl)) rfl ?_
      refine QJ.done ?_
      refine PJ.next ?_
      refine WJ.ret ?_
      obtain rfl := Option.some.inj hm
      refine PJ.sel (L' := [box g2 127 [v3, .int .i64 (w64 (s1.at_ + 1)), .int .u64 (IntKind.u64.wrap ((IntKind.u64.wrap ((IntKind.u64.wrap (s1.seed * 6364136223846793005)) + (IntKind.u64.wrap b5))) + 1442695040888963407))]]) [0] ⟨by decide, rfl⟩ ?_
      exact PJ.retn (vs := [.int .i64 (w64 (uand (ushr (IntKind.u64.wrap ((IntKind.u64.wrap ((IntKind.u64.wrap (s1.seed * 6364136223846793005)) + (IntKind.u64.wrap b5))) + 1442695040888963407)) 40) 255))]) Try.results81 ⟨rfl, trivial⟩ ⟨rfl, rfl⟩

set_option maxRecDepth 100000 in
set_option maxHeartbeats 1000000 in
theorem ok_s_l00Src_pick {s1 : L00Src} {n5 : Int} {g2 : Nat} {r : Int × L00Src} (hm : s_l00Src_pick s1 n5 = some r) (w : World) (S : Nat → Prop) (v3 : Value) (hr4 : RdS w (Cx.Fz ⟨w, S⟩) v3 fByte.rp s1.code) (hA : (box g2 127 [v3, .int .i64 s1.at_, .int .u64 s1.seed]).holds w S) :
    Calls Try.prog 42 #[pt g2 0, .int .i64 n5] w (RetG ⟨w, S⟩ fun u L => (u = .int .i64 r.1 ∧ L = [box g2 127 [v3, .int .i64 r.2.at_, .int .u64 r.2.seed]])) := by
  unfold s_l00Src_pick at hm
  refine Calls.enter1 hA [pt g2 0, .int .i64 n5] Try.func42 rfl Try.ntmps42 rfl ?_
  refine WJ.seq ?_
  refine WJ.quiet ?_
  refine QJ.step (YldS.yld (y_assign rfl)) rfl ?_
  refine QJ.done ?_
  refine PJ.next ?_
  refine WJ.seq ?_
  refine WJ.seq ?_
  refine WJ.quiet ?_
  refine QJ.step (YldS.yld (y_move rfl)) rfl ?_
  refine QJ.step (YldS.yld (y_bin rfl rfl rfl)) rfl ?_
  refine QJ.done ?_
  refine PJ.next ?_
  refine WJ.cond (t := decide (n5 ≤ 1)) rfl (fun hb6 => ?_) (fun hb6 => ?_)
  · replace hm := ifT hm hb6
    refine WJ.seq ?_
    refine WJ.quiet ?_
    refine QJ.step (YldS.yld (y_assign rfl)) rfl ?_
    refine QJ.done ?_
    refine PJ.next ?_
    refine WJ.ret ?_
    refine PJ.then_ret ?_
    obtain rfl := Option.some.inj hm
    refine PJ.sel (L' := [box g2 127 [v3, .int .i64 s1.at_, .int .u64 s1.seed]]) [0] ⟨by decide, rfl⟩ ?_
    exact PJ.retn (vs := [.int .i64 0]) Try.results42 ⟨rfl, trivial⟩ ⟨rfl, rfl⟩
  · replace hm := ifF hm hb6
    refine WJ.skip ?_
    refine PJ.next ?_
    refine WJ.seq ?_
    refine WJ.reg ?_
    refine SJ.q (YldS.yld (y_move rfl)) rfl ?_
    obtain ⟨r7, h8, hm⟩ := bindS hm
    refine SJ.call1 (k := 0) rfl Try.call81 rfl (fun w S hw hA hO => ok_s_l00Src_next h8 w S _ (hr4.st1 hw hO) hA) rfl ?_
    rintro _ _ ⟨rfl, rfl⟩
    refine SJ.q (YldS.yld (y_assign rfl)) rfl ?_
    refine SJ.nil ?_
    refine PJ.next ?_
    obtain ⟨kj12, hk13, hm⟩ := withK_open hm
    refine WJ.join (X := Int × Int × Int) (fun (x : Int × Int × Int) => kj12 x.1 x.2.1 x.2.2 = some r) (fun (x : Int × Int × Int) => [(1, .int .i64 n5), (5, .int .i64 x.2.2)]) (fun (x : Int × Int × Int) => [box g2 127 [v3, .int .i64 x.1, .int .u64 x.2.1]]) ?_ ?_
    · clear hk13
      refine WJ.seq ?_
      refine WJ.quiet ?_
      refine QJ.step (YldS.yld (y_move rfl)) rfl ?_
      refine QJ.step (YldS.yld (y_bin rfl rfl rfl)) rfl ?_
      refine QJ.done ?_
      refine PJ.next ?_
      refine WJ.cond (t := decide (n5 > 200)) rfl (fun hb14 => ?_) (fun hb14 => ?_)
      · replace hm := ifT hm hb14
        refine WJ.reg ?_
        refine SJ.q (YldS.yld (y_move rfl)) rfl ?_
        refine SJ.q (YldS.yld (y_bin rfl rfl rfl)) rfl ?_
        refine SJ.q (YldS.yld (y_move rfl)) rfl ?_
        obtain ⟨r15, h16, hm⟩ := bindS hm
        refine SJ.call1 (k := 0) rfl Try.call81 rfl (fun w S hw hA hO => ok_s_l00Src_next h16 w S _ (hr4.st1 hw hO) hA) rfl ?_
        rintro _ _ ⟨rfl, rfl⟩
        refine SJ.q (YldS.yld (y_bin rfl rfl rfl)) rfl ?_
        refine SJ.q (YldS.yld (y_assign rfl)) rfl ?_
        refine SJ.nil ?_
        exact PJ.joined (r15.2.at_, r15.2.seed, w64 ((w64 (r7.1 * 256)) + r15.1)) [0] hm ⟨rfl, rfl, trivial⟩ ⟨by decide, rfl⟩
      · replace hm := ifF hm hb14
        refine WJ.skip ?_
        exact PJ.joined (r7.2.at_, r7.2.seed, r7.1) [0] hm ⟨rfl, rfl, trivial⟩ ⟨by decide, rfl⟩
    · rintro ⟨x9, x10, x11⟩ hm
      subst hk13
      refine WJ.seq ?_
      refine WJ.quiet ?_
      refine QJ.step (YldS.yld (y_move rfl)) rfl ?_
      refine QJ.step (YldS.yld (y_move rfl)) rfl ?_
      obtain ⟨q17, h18, hm⟩ := bindS hm
      refine QJ.step (YldS.yld (y_rem' h18 rfl rfl)) rfl ?_
      refine QJ.step (YldS.yld (y_assign rfl)) rfl ?_
      refine QJ.done ?_
      refine PJ.next ?_
      refine WJ.ret ?_
      obtain rfl := Option.some.inj hm
      refine PJ.sel (L' := [box g2 127 [v3, .int .i64 x9, .int .u64 x10]]) [0] ⟨by decide, rfl⟩ ?_
      exact PJ.retn (vs := [.int .i64 q17]) Try.results42 ⟨rfl, trivial⟩ ⟨rfl, rfl⟩

set_option maxRecDepth 100000 in
set_option maxHeartbeats 1000000 in
theorem ok_s_l03Draw {s1 : L00Src} {g2 : Nat} {r : Basket × L00Src} (hm : s_l03Draw s1 = some r) (w : World) (S : Nat → Prop) (v3 : Value) (hr4 : RdS w (Cx.Fz ⟨w, S⟩) v3 fByte.rp s1.code) (hA : (box g2 127 [v3, .int .i64 s1.at_, .int .u64 s1.seed]).holds w S) :
    Calls Try.prog 40 #[pt g2 0] w (RetG ⟨w, S⟩ fun u L => (u = .agg (Basket.enc r.1).toArray ∧ L = [box g2 127 [v3, .int .i64 r.2.at_, .int .u64 r.2.seed]])) := by
  unfold s_l03Draw at hm
  refine Calls.enter1 hA [pt g2 0] Try.func40 rfl Try.ntmps40 rfl ?_
  refine WJ.seq ?_
  refine WJ.reg ?_
  refine SJ.alloc (cs := [.int .i64 0, .int .i64 0, .int .i64 0, .int .i64 0, .int .i64 0]) Try.zeroValue25 rfl rfl fun g5 => ?_
  refine SJ.nil ?_
  refine PJ.next ?_
  refine WJ.seq ?_
  refine WJ.reg ?_
  refine SJ.q (YldS.yld (y_move rfl)) rfl ?_
  obtain ⟨r6, h7, hm⟩ := bindS hm
  refine SJ.call1 (k := 1) rfl Try.call42 rfl (fun w S hw hA hO => ok_s_l00Src_pick h7 w S _ (hr4.st1 hw hO) hA) rfl ?_
  rintro _ _ ⟨rfl, rfl⟩
  refine SJ.q (YldS.yld (y_bin rfl rfl rfl)) rfl ?_
  refine SJ.q (YldS.yld (y_build (parts := [(0, .tmp 6)]) (places := [(0, 1), (1, 1), (2, 1), (3, 1), (4, 1)]) (r := [.int .i64 ((Basket.mk (w64 (2 + r6.1)) 0 0 0 0).bars), .int .i64 ((Basket.mk (w64 (2 + r6.1)) 0 0 0 0).rise), .int .i64 ((Basket.mk (w64 (2 + r6.1)) 0 0 0 0).fall), .int .i64 ((Basket.mk (w64 (2 + r6.1)) 0 0 0 0).clear), .int .i64 ((Basket.mk (w64 (2 + r6.1)) 0 0 0 0).near)]) pl25 Try.zeroValue25 rfl rfl rfl rfl)) rfl ?_
  refine SJ.alloc (cs := [.int .i64 0, .int .i64 0, .int .i64 0, .int .i64 0, .int .i64 0]) Try.zeroValue25 rfl rfl fun g8 => ?_
  refine SJ.storeL (k := 0) (off := 0) (us := [.int .i64 ((Basket.mk (w64 (2 + r6.1)) 0 0 0 0).bars), .int .i64 ((Basket.mk (w64 (2 + r6.1)) 0 0 0 0).rise), .int .i64 ((Basket.mk (w64 (2 + r6.1)) 0 0 0 0).fall), .int .i64 ((Basket.mk (w64 (2 + r6.1)) 0 0 0 0).clear), .int .i64 ((Basket.mk (w64 (2 + r6.1)) 0 0 0 0).near)]) rfl rfl rfl rfl Try.sizeOf25 rfl rfl ?_
  refine SJ.nil ?_
  refine PJ.next ?_
  refine WJ.seq ?_
  refine WJ.reg ?_
  refine SJ.q (YldS.yld (y_move rfl)) rfl ?_
  obtain ⟨r9, h10, hm⟩ := bindS hm
  refine SJ.call1 (k := 1) rfl Try.call42 rfl (fun w S hw hA hO => ok_s_l00Src_pick h10 w S _ (hr4.st1 hw hO) hA) rfl ?_
  rintro _ _ ⟨rfl, rfl⟩
  refine SJ.q (YldS.yld (y_bin rfl rfl rfl)) rfl ?_
  refine SJ.q (YldS.yld (y_fldB (o := 0) fld25_1 rfl)) rfl ?_
  refine SJ.storeL (k := 1) (off := 1) (us := [.int .i64 (w64 (1 + r9.1))]) rfl rfl rfl rfl Try.sizeOf2 rfl rfl ?_
  refine SJ.nil ?_
  refine PJ.next ?_
  refine WJ.seq ?_
  refine WJ.reg ?_
  refine SJ.q (YldS.yld (y_move rfl)) rfl ?_
  obtain ⟨r11, h12, hm⟩ := bindS hm
  refine SJ.call1 (k := 0) rfl Try.call42 rfl (fun w S hw hA hO => ok_s_l00Src_pick h12 w S _ (hr4.st1 hw hO) hA) rfl ?_
  rintro _ _ ⟨rfl, rfl⟩
  refine SJ.q (YldS.yld (y_bin rfl rfl rfl)) rfl ?_
  refine SJ.q (YldS.yld (y_fldB (o := 0) fld25_2 rfl)) rfl ?_
  refine SJ.storeL (k := 1) (off := 2) (us := [.int .i64 (w64 (1 + r11.1))]) rfl rfl rfl rfl Try.sizeOf2 rfl rfl ?_
  refine SJ.nil ?_
  refine PJ.next ?_
  refine WJ.seq ?_
  refine WJ.reg ?_
  refine SJ.q (YldS.yld (y_move rfl)) rfl ?_
  obtain ⟨r13, h14, hm⟩ := bindS hm
  refine SJ.call1 (k := 0) rfl Try.call42 rfl (fun w S hw hA hO => ok_s_l00Src_pick h14 w S _ (hr4.st1 hw hO) hA) rfl ?_
  rintro _ _ ⟨rfl, rfl⟩
  refine SJ.q (YldS.yld (y_bin rfl rfl rfl)) rfl ?_
  refine SJ.q (YldS.yld (y_fldB (o := 0) fld25_3 rfl)) rfl ?_
  refine SJ.storeL (k := 1) (off := 3) (us := [.int .i64 (w64 (1 + r13.1))]) rfl rfl rfl rfl Try.sizeOf2 rfl rfl ?_
  refine SJ.nil ?_
  refine PJ.next ?_
  refine WJ.seq ?_
  refine WJ.reg ?_
  refine SJ.q (YldS.yld (y_move rfl)) rfl ?_
  obtain ⟨r15, h16, hm⟩ := bindS hm
  refine SJ.call1 (k := 0) rfl Try.call42 rfl (fun w S hw hA hO => ok_s_l00Src_pick h16 w S _ (hr4.st1 hw hO) hA) rfl ?_
  rintro _ _ ⟨rfl, rfl⟩
  refine SJ.q (YldS.yld (y_fldB (o := 0) fld25_4 rfl)) rfl ?_
  refine SJ.storeL (k := 1) (off := 4) (us := [.int .i64 r15.1]) rfl rfl rfl rfl Try.sizeOf2 rfl rfl ?_
  refine SJ.nil ?_
  refine PJ.next ?_
  refine WJ.seq ?_
  refine WJ.reg ?_
  refine SJ.q (YldS.yld (y_loadBN (k := 1) (off := 0) (us := [.int .i64 ((Basket.mk (w64 (2 + r6.1)) 0 0 0 0).bars), .int .i64 (w64 (1 + r9.1)), .int .i64 (w64 (1 + r11.1)), .int .i64 (w64 (1 + r13.1)), .int .i64 r15.1]) rfl Try.isAgg25 Try.sizeOf25 rfl rfl)) rfl ?_
  refine SJ.storeL (k := 2) (off := 0) (us := [.int .i64 ((Basket.mk (w64 (2 + r6.1)) 0 0 0 0).bars), .int .i64 (w64 (1 + r9.1)), .int .i64 (w64 (1 + r11.1)), .int .i64 (w64 (1 + r13.1)), .int .i64 r15.1]) rfl rfl rfl rfl Try.sizeOf25 rfl rfl ?_
  refine SJ.nil ?_
  refine PJ.next ?_
  refine WJ.ret ?_
  obtain rfl := Option.some.inj hm
  exact PJ.retn_sel (vs := [.agg #[.int .i64 ((Basket.mk (w64 (2 + r6.1)) 0 0 0 0).bars), .int .i64 (w64 (1 + r9.1)), .int .i64 (w64 (1 + r11.1)), .int .i64 (w64 (1 + r13.1)), .int .i64 r15.1]]) Try.results40 ⟨⟨2, g5, 25, [.int .i64 ((Basket.mk (w64 (2 + r6.1)) 0 0 0 0).bars), .int .i64 (w64 (1 + r9.1)), .int .i64 (w64 (1 + r11.1)), .int .i64 (w64 (1 + r13.1)), .int .i64 r15.1], rfl, rfl, .inl ⟨Try.isAgg25, Try.sizeOf25, rfl⟩⟩, trivial⟩ [0] ⟨by decide, rfl⟩ ⟨rfl, rfl⟩

set_option maxRecDepth 100000 in
set_option maxHeartbeats 1000000 in
theorem ok_s_A2Basket {code1 : List UInt8} {r : Basket} (hm : s_A2Basket code1 = some r) (w : World) (v2 : Value) (hr3 : RdS w (cx w).Fz v2 fByte.rp code1) :
    Calls Try.prog 8 #[v2] w (Ret (cx w) (.agg (Basket.enc r).toArray)) := by
  unfold s_A2Basket at hm
  refine Calls.enter [v2] Try.func8 rfl Try.ntmps8 rfl ?_
  refine WJ.seq ?_
  refine WJ.reg ?_
  refine SJ.alloc (cs := [.int .i64 0, .int .i64 0, .int .i64 0, .int .i64 0, .int .i64 0]) Try.zeroValue25 rfl rfl fun g4 => ?_
  refine SJ.nil ?_
  refine PJ.next ?_
  refine WJ.seq ?_
  refine WJ.reg ?_
  refine SJ.q (YldS.yld (y_move rfl)) rfl ?_
  obtain ⟨r5, h6, hm⟩ := bindS hm
  refine SJ.call Try.call41 rfl (fun w hw => ok_s_l00From h6 w _ (hr3.st hw)) rfl ?_
  rintro _ _ ⟨g7, rfl, rfl⟩
  obtain ⟨r8, h9, hm⟩ := bindS hm
  refine SJ.call1 (k := 0) rfl Try.call40 rfl (fun w S hw hA hO => ok_s_l03Draw h9 w S _ (hr3.st1 hw hO) hA) rfl ?_
  rintro _ _ ⟨rfl, rfl⟩
  refine SJ.alloc (cs := [.int .i64 0, .int .i64 0, .int .i64 0, .int .i64 0, .int .i64 0]) Try.zeroValue25 rfl rfl fun g10 => ?_
  refine SJ.storeL (k := 0) (off := 0) (us := [.int .i64 r8.1.bars, .int .i64 r8.1.rise, .int .i64 r8.1.fall, .int .i64 r8.1.clear, .int .i64 r8.1.near]) rfl rfl rfl rfl Try.sizeOf25 rfl rfl ?_
  refine SJ.nil ?_
  refine PJ.next ?_
  refine WJ.seq ?_
  refine WJ.reg ?_
  refine SJ.q (YldS.yld (y_fldB (o := 0) fld25_0 rfl)) rfl ?_
  refine SJ.q (YldS.yld (y_loadB (k := 0) (off := 0) (v := .int .i64 r8.1.bars) rfl Try.isAgg2 rfl rfl)) rfl ?_
  refine SJ.q (YldS.yld (y_bin rfl rfl rfl)) rfl ?_
  refine SJ.q (YldS.yld (y_fldB (o := 0) fld25_0 rfl)) rfl ?_
  refine SJ.storeL (k := 0) (off := 0) (us := [.int .i64 (w64 (r8.1.bars + 5))]) rfl rfl rfl rfl Try.sizeOf2 rfl rfl ?_
  refine SJ.nil ?_
  refine PJ.next ?_
  refine WJ.seq ?_
  refine WJ.reg ?_
  refine SJ.q (YldS.yld (y_loadBN (k := 0) (off := 0) (us := [.int .i64 (w64 (r8.1.bars + 5)), .int .i64 r8.1.rise, .int .i64 r8.1.fall, .int .i64 r8.1.clear, .int .i64 r8.1.near]) rfl Try.isAgg25 Try.sizeOf25 rfl rfl)) rfl ?_
  refine SJ.storeL (k := 2) (off := 0) (us := [.int .i64 (w64 (r8.1.bars + 5)), .int .i64 r8.1.rise, .int .i64 r8.1.fall, .int .i64 r8.1.clear, .int .i64 r8.1.near]) rfl rfl rfl rfl Try.sizeOf25 rfl rfl ?_
  refine SJ.nil ?_
  refine PJ.next ?_
  refine WJ.ret ?_
  obtain rfl := Option.some.inj hm
  exact PJ.retn_sel (vs := [.agg #[.int .i64 (w64 (r8.1.bars + 5)), .int .i64 r8.1.rise, .int .i64 r8.1.fall, .int .i64 r8.1.clear, .int .i64 r8.1.near]]) Try.results8 ⟨⟨2, g4, 25, [.int .i64 (w64 (r8.1.bars + 5)), .int .i64 r8.1.rise, .int .i64 r8.1.fall, .int .i64 r8.1.clear, .int .i64 r8.1.near], rfl, rfl, .inl ⟨Try.isAgg25, Try.sizeOf25, rfl⟩⟩, trivial⟩ [] ⟨List.nodup_nil, rfl⟩ ⟨rfl, rfl⟩

set_option maxRecDepth 100000 in
set_option maxHeartbeats 1000000 in
theorem ok_s_A2Bars {N : Nat} {code1 : List UInt8} {b4 : Basket} {r : (List Int)} (hm : s_A2Bars N code1 b4 = some r) (w : World) (v2 : Value) (hr3 : RdS w (cx w).Fz v2 fByte.rp code1) :
    Calls Try.prog 9 #[v2, .agg (Basket.enc b4).toArray] w (RetG (cx w) fun u L => ∃ (u1 : Value), (u = u1 ∧ L = [row u1 2 fI64 r])) := by
  unfold s_A2Bars at hm
  refine Calls.enter [v2, .agg (Basket.enc b4).toArray] Try.func9 rfl Try.ntmps9 rfl ?_
  refine WJ.seq ?_
  refine WJ.reg ?_
  refine SJ.box (cs := [.int .i64 b4.bars, .int .i64 b4.rise, .int .i64 b4.fall, .int .i64 b4.clear, .int .i64 b4.near]) rfl rfl rfl fun g5 => ?_
  refine SJ.q (YldS.yld (y_assign rfl)) rfl ?_
  refine SJ.nil ?_
  refine PJ.next ?_
  refine WJ.seq ?_
  refine WJ.reg ?_
  refine SJ.q (YldS.yld (y_move rfl)) rfl ?_
  obtain ⟨r6, h7, hm⟩ := bindS hm
  refine SJ.call Try.call41 rfl (fun w hw => ok_s_l00From h7 w _ (hr3.st hw)) rfl ?_
  rintro _ _ ⟨g8, rfl, rfl⟩
  refine SJ.q (YldS.yld (y_assign rfl)) rfl ?_
  refine SJ.nil ?_
  refine PJ.next ?_
  refine WJ.seq ?_
  refine WJ.reg ?_
  refine SJ.buildSlice (R := fI64) (os := []) [] Try.runUnderlying27 Try.sizeOf2 Try.zeroValue2 rfl rfl rfl rfl rfl rfl fun v9 => ?_
  refine SJ.q (YldS.yld (y_assign rfl)) rfl ?_
  refine SJ.nil ?_
  refine PJ.next ?_
  obtain ⟨kj12, hk13, hm⟩ := withK_open hm
  refine WJ.join (X := (List Int) × Value) (fun (x : (List Int) × Value) => kj12 x.1 = some r) (fun (x : (List Int) × Value) => [(6, x.2)]) (fun (x : (List Int) × Value) => [row x.2 2 fI64 x.1]) ?_ ?_
  · clear hk13
    refine WJ.seq ?_
    refine WJ.reg ?_
    refine SJ.q (YldS.yld (y_move rfl)) rfl ?_
    obtain ⟨r14, h15, hm⟩ := bindS hm
    refine SJ.call1 (k := 1) rfl Try.call42 rfl (fun w S hw hA hO => ok_s_l00Src_pick h15 w S _ (hr3.st1 hw hO) hA) rfl ?_
    rintro _ _ ⟨rfl, rfl⟩
    refine SJ.q (YldS.yld (y_assign rfl)) rfl ?_
    refine SJ.nil ?_
    refine PJ.next ?_
    refine WJ.block ?_
    refine WJ.sel (L' := (fun (x : Int × Int × (List Int) × Value × Int) => [box g8 127 [v2, .int .i64 x.1, .int .u64 x.2.1], row x.2.2.2.1 2 fI64 x.2.2.1, box g5 25 [.int .i64 b4.bars, .int .i64 b4.rise, .int .i64 b4.fall, .int .i64 b4.clear, .int .i64 b4.near]]) (r14.2.at_, r14.2.seed, [], v9, r14.1)) [0, 1, 2] ⟨by decide, rfl⟩ ?_
    refine WJ.sub (m' := (fun (x : Int × Int × (List Int) × Value × Int) => [(3, pt g5 0), (5, pt g8 0), (6, x.2.2.2.1), (7, .int .i64 x.2.2.2.2)]) (r14.2.at_, r14.2.seed, [], v9, r14.1)) ⟨rfl, rfl, rfl, rfl, trivial⟩ ?_
    refine WJ.loop (X := Int × Int × (List Int) × Value × Int) (fun N (x : Int × Int × (List Int) × Value × Int) => s_A2Bars_l1 kj12 code1 b4 N x.1 x.2.1 x.2.2.1 x.2.2.2.2 = some r) (fun (x : Int × Int × (List Int) × Value × Int) => [(3, pt g5 0), (5, pt g8 0), (6, x.2.2.2.1), (7, .int .i64 x.2.2.2.2)]) (fun (x : Int × Int × (List Int) × Value × Int) => [box g8 127 [v2, .int .i64 x.1, .int .u64 x.2.1], row x.2.2.2.1 2 fI64 x.2.2.1, box g5 25 [.int .i64 b4.bars, .int .i64 b4.rise, .int .i64 b4.fall, .int .i64 b4.clear, .int .i64 b4.near]]) ?_ N (r14.2.at_, r14.2.seed, [], v9, r14.1) hm
    · rintro N ⟨x16, x17, l18, v19, k20⟩ hI
      have hm := hI; clear hI
      cases N with
      | zero => cases hm
      | succ N =>
      unfold s_A2Bars_l1 at hm
      refine WJ.seq ?_
      refine WJ.seq ?_
      refine WJ.quiet ?_
      refine QJ.step (YldS.yld (y_move rfl)) rfl ?_
      refine QJ.step (YldS.yld (y_bin rfl rfl rfl)) rfl ?_
      refine QJ.done ?_
      refine PJ.next ?_
      refine WJ.cond (t := decide (k20 > 0)) rfl (fun hb21 => ?_) (fun hb21 => ?_)
      · replace hm := ifT hm hb21
        refine WJ.skip ?_
        refine PJ.next ?_
        refine WJ.seq ?_
        refine WJ.block ?_
        refine WJ.reg ?_
        refine SJ.q (YldS.yld (y_move rfl)) rfl ?_
        refine SJ.q (YldS.yld (y_move rfl)) rfl ?_
        refine SJ.q (YldS.yld (y_fldB (o := 0) fld25_0 rfl)) rfl ?_
        refine SJ.q (YldS.yld (y_loadB (k := 2) (off := 0) (v := .int .i64 b4.bars) rfl Try.isAgg2 rfl rfl)) rfl ?_
        obtain ⟨r22, h23, hm⟩ := bindS hm
        refine SJ.call1 (k := 0) rfl Try.call42 rfl (fun w S hw hA hO => ok_s_l00Src_pick h23 w S _ (hr3.st1 hw hO) hA) rfl ?_
        rintro _ _ ⟨rfl, rfl⟩
        refine SJ.buildSlice (R := fI64) (os := [.tmp 21]) [r22.1] Try.runUnderlying27 Try.sizeOf2 Try.zeroValue2 rfl rfl rfl rfl rfl rfl fun v24 => ?_
        obtain ⟨l25, h26, hm⟩ := bindS hm
        refine SJ.append (k := 2) (R := fI64) h26 rfl Try.underlying27 el2 rfl rfl rfl (fun w hw => (hw.row_rd (k := 0) rfl)) rfl fun v27 => ?_
        refine SJ.q (YldS.yld (y_assign rfl)) rfl ?_
        refine SJ.nil ?_
        refine PJ.block_normal (PJ.next ?_)
        refine WJ.quiet ?_
        refine QJ.step (YldS.yld (y_move rfl)) rfl ?_
        refine QJ.step (YldS.yld (y_bin rfl rfl rfl)) rfl ?_
        refine QJ.step (YldS.yld (y_assign rfl)) rfl ?_
        refine QJ.done ?_
        exact PJ.round (r22.2.at_, r22.2.seed, l25, v27, w64 (k20 - 1)) [1, 2, 3] hm ⟨rfl, rfl, rfl, rfl, trivial⟩ ⟨by decide, rfl⟩
      · replace hm := ifF hm hb21
        refine WJ.exit ?_
        refine PJ.then_exit (PJ.then_exit (PJ.block_exit ?_))
        exact PJ.joined (l18, v19) [1] hm ⟨rfl, trivial⟩ ⟨by decide, rfl⟩
  · rintro ⟨l10, v11⟩ hm
    subst hk13
    refine WJ.seq ?_
    refine WJ.quiet ?_
    refine QJ.step (YldS.yld (y_move rfl)) rfl ?_
    refine QJ.step (YldS.yld (y_assign rfl)) rfl ?_
    refine QJ.done ?_
    refine PJ.next ?_
    refine WJ.ret ?_
    obtain rfl := Option.some.inj hm
    refine PJ.sel (L' := [row v11 2 fI64 l10]) [0] ⟨by decide, rfl⟩ ?_
    exact PJ.retn (vs := [v11]) Try.results9 ⟨rfl, trivial⟩ ⟨_, rfl, rfl⟩

set_option maxRecDepth 100000 in
set_option maxHeartbeats 1000000 in
theorem ok_i_between {n1 : Int} {low2 : Int} {high3 : Int} {r : Bool} (hm : i_between n1 low2 high3 = some r) (w : World)  :
    Calls Try.prog 49 #[.int .i64 n1, .int .i64 low2, .int .i64 high3] w (Ret (cx w) (.bool r)) := by
  unfold i_between at hm
  refine Calls.enter [.int .i64 n1, .int .i64 low2, .int .i64 high3] Try.func49 rfl Try.ntmps49 rfl ?_
  refine WJ.seq ?_
  refine WJ.quiet ?_
  refine QJ.step (YldS.yld (y_assign rfl)) rfl ?_
  refine QJ.done ?_
  refine PJ.next ?_
  refine WJ.seq ?_
  refine WJ.quiet ?_
  refine QJ.step (YldS.yld (y_move rfl)) rfl ?_
  refine QJ.step (YldS.yld (y_move rfl)) rfl ?_
  refine QJ.step (YldS.yld (y_bin rfl rfl rfl)) rfl ?_
  refine QJ.step (YldS.yld (y_move rfl)) rfl ?_
  obtain ⟨t4, h5, hm⟩ := bindS hm
  refine QJ.cut 4 [(14, .bool t4)] ?_ ?_
  · rcases Bool.eq_false_or_eq_true (decide (n1 ≥ low2)) with hb6 | hb6
    · replace h5 := andT h5 hb6
      refine QJ.on rfl rfl (cB hb6) (YldS.yld (y_move rfl)) rfl ?_
      refine QJ.on rfl rfl (cB hb6) (YldS.yld (y_move rfl)) rfl ?_
      refine QJ.on rfl rfl (cB hb6) (YldS.yld (y_bin rfl rfl rfl)) rfl ?_
      refine QJ.step (YldS.yld (y_pick_t (cB hb6) rfl)) rfl ?_
      obtain rfl := Option.some.inj h5
      exact QJ.cut_end ⟨rfl, trivial⟩
    · obtain rfl := andF h5 hb6
      refine QJ.off rfl rfl (cB hb6) rfl rfl ?_
      refine QJ.off rfl rfl (cB hb6) rfl rfl ?_
      refine QJ.off rfl rfl (cB hb6) rfl rfl ?_
      refine QJ.step (YldS.yld (y_pick_f (cB hb6) rfl)) rfl ?_
      exact QJ.cut_end ⟨rfl, trivial⟩
  refine QJ.step (YldS.yld (y_assign rfl)) rfl ?_
  refine QJ.done ?_
  refine PJ.next ?_
  refine WJ.ret ?_
  obtain rfl := Option.some.inj hm
  refine PJ.sel (L' := []) [] ⟨List.nodup_nil, rfl⟩ ?_
  exact PJ.retn (vs := [.bool t4]) Try.results49 ⟨rfl, trivial⟩ ⟨rfl, rfl⟩

set_option maxRecDepth 100000 in
set_option maxHeartbeats 1000000 in
theorem ok_i_ValidBasket {b1 : Basket} {r : Bool} (hm : i_ValidBasket b1 = some r) (w : World)  :
    Calls Try.prog 43 #[.agg (Basket.enc b1).toArray] w (Ret (cx w) (.bool r)) := by
  unfold i_ValidBasket at hm
  refine Calls.enter [.agg (Basket.enc b1).toArray] Try.func43 rfl Try.ntmps43 rfl ?_
  refine WJ.seq ?_
  refine WJ.reg ?_
  refine SJ.box (cs := [.int .i64 b1.bars, .int .i64 b1.rise, .int .i64 b1.fall, .int .i64 b1.clear, .int .i64 b1.near]) rfl rfl rfl fun g2 => ?_
  refine SJ.q (YldS.yld (y_assign rfl)) rfl ?_
  refine SJ.nil ?_
  refine PJ.next ?_
  refine WJ.seq ?_
  refine WJ.quiet ?_
  refine QJ.step (YldS.yld (y_fldB (o := 0) fld25_0 rfl)) rfl ?_
  refine QJ.step (YldS.yld (y_loadB (k := 0) (off := 0) (v := .int .i64 b1.bars) rfl Try.isAgg2 rfl rfl)) rfl ?_
  obtain ⟨r3, h4, hm⟩ := bindS hm
  refine QJ.step (y_call Try.call49 rfl (RetG.quiet fun w hw => ok_i_between h4 w )) rfl ?_
  refine QJ.step (YldS.yld (y_move rfl)) rfl ?_
  obtain ⟨t5, h6, hm⟩ := bindS hm
  refine QJ.cut 4 [(1, pt g2 0), (10, .bool t5)] ?_ ?_
  · rcases Bool.eq_false_or_eq_true r3 with hb7 | hb7
    · replace h6 := andT h6 hb7
      refine QJ.on rfl rfl (cB hb7) (YldS.yld (y_fldB (o := 0) fld25_1 rfl)) rfl ?_
      refine QJ.on rfl rfl (cB hb7) (YldS.yld (y_loadB (k := 0) (off := 1) (v := .int .i64 b1.rise) rfl Try.isAgg2 rfl rfl)) rfl ?_
      obtain ⟨r8, h9, h6⟩ := bindS h6
      refine QJ.on rfl rfl (cB hb7) (y_call Try.call49 rfl (RetG.quiet fun w hw => ok_i_between h9 w )) rfl ?_
      refine QJ.step (YldS.yld (y_pick_t (cB hb7) rfl)) rfl ?_
      obtain rfl := Option.some.inj h6
      exact QJ.cut_end ⟨rfl, rfl, trivial⟩
    · obtain rfl := andF h6 hb7
      refine QJ.off rfl rfl (cB hb7) rfl rfl ?_
      refine QJ.off rfl rfl (cB hb7) rfl rfl ?_
      refine QJ.off rfl rfl (cB hb7) rfl rfl ?_
      refine QJ.step (YldS.yld (y_pick_f (cB hb7) rfl)) rfl ?_
      exact QJ.cut_end ⟨rfl, rfl, trivial⟩
  refine QJ.step (YldS.yld (y_move rfl)) rfl ?_
  obtain ⟨t10, h11, hm⟩ := bindS hm
  refine QJ.cut 4 [(1, pt g2 0), (15, .bool t10)] ?_ ?_
  · rcases Bool.eq_false_or_eq_true t5 with hb12 | hb12
    · replace h11 := andT h11 hb12
      refine QJ.on rfl rfl (cB hb12) (YldS.yld (y_fldB (o := 0) fld25_2 rfl)) rfl ?_
      refine QJ.on rfl rfl (cB hb12) (YldS.yld (y_loadB (k := 0) (off := 2) (v := .int .i64 b1.fall) rfl Try.isAgg2 rfl rfl)) rfl ?_
      obtain ⟨r13, h14, h11⟩ := bindS h11
      refine QJ.on rfl rfl (cB hb12) (y_call Try.call49 rfl (RetG.quiet fun w hw => ok_i_between h14 w )) rfl ?_
      refine QJ.step (YldS.yld (y_pick_t (cB hb12) rfl)) rfl ?_
      obtain rfl := Option.some.inj h11
      exact QJ.cut_end ⟨rfl, rfl, trivial⟩
    · obtain rfl := andF h11 hb12
      refine QJ.off rfl rfl (cB hb12) rfl rfl ?_
      refine QJ.off rfl rfl (cB hb12) rfl rfl ?_
      refine QJ.off rfl rfl (cB hb12) rfl rfl ?_
      refine QJ.step (YldS.yld (y_pick_f (cB hb12) rfl)) rfl ?_
      exact QJ.cut_end ⟨rfl, rfl, trivial⟩
  refine QJ.step (YldS.yld (y_move rfl)) rfl ?_
  obtain ⟨t15, h16, hm⟩ := bindS hm
  refine QJ.cut 4 [(1, pt g2 0), (20, .bool t15)] ?_ ?_
  · rcases Bool.eq_false_or_eq_true t10 with hb17 | hb17
    · replace h16 := andT h16 hb17
      refine QJ.on rfl rfl (cB hb17) (YldS.yld (y_fldB (o := 0) fld25_3 rfl)) rfl ?_
      refine QJ.on rfl rfl (cB hb17) (YldS.yld (y_loadB (k := 0) (off := 3) (v := .int .i64 b1.clear) rfl Try.isAgg2 rfl rfl)) rfl ?_
      obtain ⟨r18, h19, h16⟩ := bindS h16
      refine QJ.on rfl rfl (cB hb17) (y_call Try.call49 rfl (RetG.quiet fun w hw => ok_i_between h19 w )) rfl ?_
      refine QJ.step (YldS.yld (y_pick_t (cB hb17) rfl)) rfl ?_
      obtain rfl := Option.some.inj h16
      exact QJ.cut_end ⟨rfl, rfl, trivial⟩
    · obtain rfl := andF h16 hb17
      refine QJ.off rfl rfl (cB hb17) rfl rfl ?_
      refine QJ.off rfl rfl (cB hb17) rfl rfl ?_
      refine QJ.off rfl rfl (cB hb17) rfl rfl ?_
      refine QJ.step (YldS.yld (y_pick_f (cB hb17) rfl)) rfl ?_
      exact QJ.cut_end ⟨rfl, rfl, trivial⟩
  refine QJ.step (YldS.yld (y_move rfl)) rfl ?_
  obtain ⟨t20, h21, hm⟩ := bindS hm
  refine QJ.cut 4 [(25, .bool t20)] ?_ ?_
  · rcases Bool.eq_false_or_eq_true t15 with hb22 | hb22
    · replace h21 := andT h21 hb22
      refine QJ.on rfl rfl (cB hb22) (YldS.yld (y_fldB (o := 0) fld25_4 rfl)) rfl ?_
      refine QJ.on rfl rfl (cB hb22) (YldS.yld (y_loadB (k := 0) (off := 4) (v := .int .i64 b1.near) rfl Try.isAgg2 rfl rfl)) rfl ?_
      obtain ⟨r23, h24, h21⟩ := bindS h21
      refine QJ.on rfl rfl (cB hb22) (y_call Try.call49 rfl (RetG.quiet fun w hw => ok_i_between h24 w )) rfl ?_
      refine QJ.step (YldS.yld (y_pick_t (cB hb22) rfl)) rfl ?_
      obtain rfl := Option.some.inj h21
      exact QJ.cut_end ⟨rfl, trivial⟩
    · obtain rfl := andF h21 hb22
      refine QJ.off rfl rfl (cB hb22) rfl rfl ?_
      refine QJ.off rfl rfl (cB hb22) rfl rfl ?_
      refine QJ.off rfl rfl (cB hb22) rfl rfl ?_
      refine QJ.step (YldS.yld (y_pick_f (cB hb22) rfl)) rfl ?_
      exact QJ.cut_end ⟨rfl, trivial⟩
  refine QJ.step (YldS.yld (y_assign rfl)) rfl ?_
  refine QJ.done ?_
  refine PJ.next ?_
  refine WJ.ret ?_
  obtain rfl := Option.some.inj hm
  refine PJ.sel (L' := []) [] ⟨List.nodup_nil, rfl⟩ ?_
  exact PJ.retn (vs := [.bool t20]) Try.results43 ⟨rfl, trivial⟩ ⟨rfl, rfl⟩

set_option maxRecDepth 100000 in
set_option maxHeartbeats 1000000 in
theorem ok_i_Basket_hasBar {b1 : Basket} {bar2 : Int} {r : Bool} (hm : i_Basket_hasBar b1 bar2 = some r) (w : World)  :
    Calls Try.prog 82 #[.agg (Basket.enc b1).toArray, .int .i64 bar2] w (Ret (cx w) (.bool r)) := by
  unfold i_Basket_hasBar at hm
  refine Calls.enter [.agg (Basket.enc b1).toArray, .int .i64 bar2] Try.func82 rfl Try.ntmps82 rfl ?_
  refine WJ.seq ?_
  refine WJ.reg ?_
  refine SJ.box (cs := [.int .i64 b1.bars, .int .i64 b1.rise, .int .i64 b1.fall, .int .i64 b1.clear, .int .i64 b1.near]) rfl rfl rfl fun g3 => ?_
  refine SJ.q (YldS.yld (y_assign rfl)) rfl ?_
  refine SJ.nil ?_
  refine PJ.next ?_
  refine WJ.seq ?_
  refine WJ.quiet ?_
  refine QJ.step (YldS.yld (y_move rfl)) rfl ?_
  refine QJ.step (YldS.yld (y_fldB (o := 0) fld25_0 rfl)) rfl ?_
  refine QJ.step (YldS.yld (y_loadB (k := 0) (off := 0) (v := .int .i64 b1.bars) rfl Try.isAgg2 rfl rfl)) rfl ?_
  refine QJ.step (YldS.yld (y_bin rfl rfl rfl)) rfl ?_
  obtain ⟨r4, h5, hm⟩ := bindS hm
  refine QJ.step (y_call Try.call49 rfl (RetG.quiet fun w hw => ok_i_between h5 w )) rfl ?_
  refine QJ.step (YldS.yld (y_assign rfl)) rfl ?_
  refine QJ.done ?_
  refine PJ.next ?_
  refine WJ.ret ?_
  obtain rfl := Option.some.inj hm
  refine PJ.sel (L' := []) [] ⟨List.nodup_nil, rfl⟩ ?_
  exact PJ.retn (vs := [.bool r4]) Try.results82 ⟨rfl, trivial⟩ ⟨rfl, rfl⟩

set_option maxRecDepth 100000 in
set_option maxHeartbeats 1000000 in
theorem ok_i_Basket_areBars {N : Nat} {b1 : Basket} {bars2 : List Int} {r : Bool} (hm : i_Basket_areBars N b1 bars2 = some r) (w : World) (v3 : Value) (hr4 : RdS w (cx w).Fz v3 fI64.rp bars2) :
    Calls Try.prog 44 #[.agg (Basket.enc b1).toArray, v3] w (Ret (cx w) (.bool r)) := by
  unfold i_Basket_areBars at hm
  refine Calls.enter [.agg (Basket.enc b1).toArray, v3] Try.func44 rfl Try.ntmps44 rfl ?_
  refine WJ.seq ?_
  refine WJ.reg ?_
  refine SJ.box (cs := [.int .i64 b1.bars, .int .i64 b1.rise, .int .i64 b1.fall, .int .i64 b1.clear, .int .i64 b1.near]) rfl rfl rfl fun g5 => ?_
  refine SJ.q (YldS.yld (y_assign rfl)) rfl ?_
  refine SJ.nil ?_
  refine PJ.next ?_
  obtain ⟨kj6, hk7, hm⟩ := withK_open hm
  refine WJ.join (X := Unit) (fun (_ : Unit) => kj6  = some r) (fun (_ : Unit) => [(1, v3)]) (fun (_ : Unit) => []) ?_ ?_
  · clear hk7
    refine WJ.seq ?_
    refine WJ.quiet ?_
    refine QJ.step (YldS.yld (y_move rfl)) rfl ?_
    refine QJ.step (YldS.yld (y_lenS Try.runUnderlying27 hr4 rfl)) rfl ?_
    refine QJ.step (YldS.yld (y_move rfl)) rfl ?_
    refine QJ.done ?_
    refine PJ.next ?_
    refine WJ.block ?_
    refine WJ.sel (L' := (fun (x : Int) => [box g5 25 [.int .i64 b1.bars, .int .i64 b1.rise, .int .i64 b1.fall, .int .i64 b1.clear, .int .i64 b1.near]]) 0) [0] ⟨by decide, rfl⟩ ?_
    refine WJ.sub (m' := (fun (x : Int) => [(1, v3), (2, pt g5 0), (7, v3), (8, .int .i64 (List.length bars2 : Int)), (9, .int .i64 x)]) 0) ⟨rfl, rfl, rfl, rfl, rfl, trivial⟩ ?_
    refine WJ.loop (X := Int) (fun N (x : Int) => i_Basket_areBars_l1 kj6 b1 bars2 N x = some r) (fun (x : Int) => [(1, v3), (2, pt g5 0), (7, v3), (8, .int .i64 (List.length bars2 : Int)), (9, .int .i64 x)]) (fun (x : Int) => [box g5 25 [.int .i64 b1.bars, .int .i64 b1.rise, .int .i64 b1.fall, .int .i64 b1.clear, .int .i64 b1.near]]) ?_ N 0 hm
    · rintro N x8 hI
      have hm := hI; clear hI
      cases N with
      | zero => cases hm
      | succ N =>
      unfold i_Basket_areBars_l1 at hm
      refine WJ.seq ?_
      refine WJ.quiet ?_
      refine QJ.step (YldS.yld (y_bin rfl rfl rfl)) rfl ?_
      refine QJ.done ?_
      refine PJ.next ?_
      refine WJ.seq ?_
      refine WJ.cond (t := decide (x8 < (List.length bars2 : Int))) rfl (fun hb9 => ?_) (fun hb9 => ?_)
      · replace hm := ifT hm hb9
        refine WJ.skip ?_
        refine PJ.next ?_
        refine WJ.seq ?_
        refine WJ.block ?_
        refine WJ.seq ?_
        refine WJ.quiet ?_
        obtain ⟨e10, h11, hm⟩ := bindS hm
        obtain ⟨ad12, _, rfl, ha13, hy14⟩ := hr4.elem h11
        refine QJ.step (YldS.yld (hy14 Try.runUnderlying27 Try.sizeOf2 rfl rfl)) rfl ?_
        refine QJ.step (YldS.yld (y_load1 (v := .int .i64 e10) Try.isAgg2 ha13 St.frozenC rfl)) rfl ?_
        refine QJ.step (YldS.yld (y_assign rfl)) rfl ?_
        refine QJ.done ?_
        refine PJ.next ?_
        refine WJ.seq ?_
        refine WJ.quiet ?_
        refine QJ.step (YldS.yld (y_loadBN (k := 0) (off := 0) (us := [.int .i64 b1.bars, .int .i64 b1.rise, .int .i64 b1.fall, .int .i64 b1.clear, .int .i64 b1.near]) rfl Try.isAgg25 Try.sizeOf25 rfl rfl)) rfl ?_
        refine QJ.step (YldS.yld (y_move rfl)) rfl ?_
        obtain ⟨r15, h16, hm⟩ := bindS hm
        refine QJ.step (y_call Try.call82 rfl (RetG.quiet fun w hw => ok_i_Basket_hasBar h16 w )) rfl ?_
        refine QJ.step (YldS.yld (y_not rfl)) rfl ?_
        refine QJ.done ?_
        refine PJ.next ?_
        refine WJ.cond (t := !r15) rfl (fun hb17 => ?_) (fun hb17 => ?_)
        · replace hm := ifT hm hb17
          refine WJ.seq ?_
          refine WJ.quiet ?_
          refine QJ.step (YldS.yld (y_assign rfl)) rfl ?_
          refine QJ.done ?_
          refine PJ.next ?_
          refine WJ.ret ?_
          refine PJ.block_ret (PJ.then_ret (PJ.then_ret (PJ.block_ret (PJ.then_ret ?_))))
          obtain rfl := Option.some.inj hm
          refine PJ.sel (L' := []) [] ⟨List.nodup_nil, rfl⟩ ?_
          exact PJ.retn (vs := [.bool false]) Try.results44 ⟨rfl, trivial⟩ ⟨rfl, rfl⟩
        · replace hm := ifF hm hb17
          refine WJ.skip ?_
          refine PJ.block_normal (PJ.next ?_)
          refine WJ.quiet ?_
          refine QJ.step (YldS.yld (y_bin rfl rfl rfl)) rfl ?_
          refine QJ.step (YldS.yld (y_move rfl)) rfl ?_
          refine QJ.done ?_
          exact PJ.round (w64 (x8 + 1)) [0] hm ⟨rfl, rfl, rfl, rfl, rfl, trivial⟩ ⟨by decide, rfl⟩
      · replace hm := ifF hm hb9
        refine WJ.exit ?_
        refine PJ.then_exit (PJ.then_exit (PJ.block_exit ?_))
        exact PJ.joined () [] hm ⟨rfl, trivial⟩ ⟨List.nodup_nil, rfl⟩
  · rintro _ hm
    subst hk7
    refine WJ.seq ?_
    refine WJ.quiet ?_
    refine QJ.step (YldS.yld (y_move rfl)) rfl ?_
    refine QJ.step (YldS.yld (y_lenS Try.runUnderlying27 hr4 rfl)) rfl ?_
    refine QJ.step (YldS.yld (y_bin rfl rfl rfl)) rfl ?_
    refine QJ.step (YldS.yld (y_assign rfl)) rfl ?_
    refine QJ.done ?_
    refine PJ.next ?_
    refine WJ.ret ?_
    obtain rfl := Option.some.inj hm
    refine PJ.sel (L' := []) [] ⟨List.nodup_nil, rfl⟩ ?_
    exact PJ.retn (vs := [.bool (decide ((List.length bars2 : Int) ≤ 60))]) Try.results44 ⟨rfl, trivial⟩ ⟨rfl, rfl⟩

set_option maxRecDepth 100000 in
set_option maxHeartbeats 1000000 in
theorem ok_i_absolute {n1 : Int} {r : Int} (hm : i_absolute n1 = some r) (w : World)  :
    Calls Try.prog 84 #[.int .i64 n1] w (Ret (cx w) (.int .i64 r)) := by
  unfold i_absolute at hm
  refine Calls.enter [.int .i64 n1] Try.func84 rfl Try.ntmps84 rfl ?_
  refine WJ.seq ?_
  refine WJ.quiet ?_
  refine QJ.step (YldS.yld (y_assign rfl)) rfl ?_
  refine QJ.done ?_
  refine PJ.next ?_
  refine WJ.seq ?_
  refine WJ.seq ?_
  refine WJ.quiet ?_
  refine QJ.step (YldS.yld (y_move rfl)) rfl ?_
  refine QJ.step (YldS.yld (y_bin rfl rfl rfl)) rfl ?_
  refine QJ.done ?_
  refine PJ.next ?_
  refine WJ.cond (t := decide (n1 < 0)) rfl (fun hb2 => ?_) (fun hb2 => ?_)
  · replace hm := ifT hm hb2
    refine WJ.seq ?_
    refine WJ.quiet ?_
    refine QJ.step (YldS.yld (y_move rfl)) rfl ?_
    refine QJ.step (YldS.yld (y_neg rfl)) rfl ?_
    refine QJ.step (YldS.yld (y_assign rfl)) rfl ?_
    refine QJ.done ?_
    refine PJ.next ?_
    refine WJ.ret ?_
    refine PJ.then_ret ?_
    obtain rfl := Option.some.inj hm
    refine PJ.sel (L' := []) [] ⟨List.nodup_nil, rfl⟩ ?_
    exact PJ.retn (vs := [.int .i64 (w64 (0 - n1))]) Try.results84 ⟨rfl, trivial⟩ ⟨rfl, rfl⟩
  · replace hm := ifF hm hb2
    refine WJ.skip ?_
    refine PJ.next ?_
    refine WJ.seq ?_
    refine WJ.quiet ?_
    refine QJ.step (YldS.yld (y_move rfl)) rfl ?_
    refine QJ.step (YldS.yld (y_assign rfl)) rfl ?_
    refine QJ.done ?_
    refine PJ.next ?_
    refine WJ.ret ?_
    obtain rfl := Option.some.inj hm
    refine PJ.sel (L' := []) [] ⟨List.nodup_nil, rfl⟩ ?_
    exact PJ.retn (vs := [.int .i64 n1]) Try.results84 ⟨rfl, trivial⟩ ⟨rfl, rfl⟩

set_option maxRecDepth 100000 in
set_option maxHeartbeats 1000000 in
theorem ok_i_Basket_waits {b1 : Basket} {first2 : Int} {second3 : Int} {r : Int} (hm : i_Basket_waits b1 first2 second3 = some r) (w : World)  :
    Calls Try.prog 52 #[.agg (Basket.enc b1).toArray, .int .i64 first2, .int .i64 second3] w (Ret (cx w) (.int .i64 r)) := by
  unfold i_Basket_waits at hm
  refine Calls.enter [.agg (Basket.enc b1).toArray, .int .i64 first2, .int .i64 second3] Try.func52 rfl Try.ntmps52 rfl ?_
  refine WJ.seq ?_
  refine WJ.reg ?_
  refine SJ.box (cs := [.int .i64 b1.bars, .int .i64 b1.rise, .int .i64 b1.fall, .int .i64 b1.clear, .int .i64 b1.near]) rfl rfl rfl fun g4 => ?_
  refine SJ.q (YldS.yld (y_assign rfl)) rfl ?_
  refine SJ.nil ?_
  refine PJ.next ?_
  refine WJ.seq ?_
  refine WJ.seq ?_
  refine WJ.quiet ?_
  refine QJ.step (YldS.yld (y_move rfl)) rfl ?_
  refine QJ.step (YldS.yld (y_move rfl)) rfl ?_
  refine QJ.step (YldS.yld (y_bin rfl rfl rfl)) rfl ?_
  refine QJ.done ?_
  refine PJ.next ?_
  refine WJ.cond (t := (first2 == second3)) rfl (fun hb5 => ?_) (fun hb5 => ?_)
  · replace hm := ifT hm hb5
    refine WJ.seq ?_
    refine WJ.quiet ?_
    refine QJ.step (YldS.yld (y_fldB (o := 0) fld25_1 rfl)) rfl ?_
    refine QJ.step (YldS.yld (y_loadB (k := 0) (off := 1) (v := .int .i64 b1.rise) rfl Try.isAgg2 rfl rfl)) rfl ?_
    refine QJ.step (YldS.yld (y_fldB (o := 0) fld25_2 rfl)) rfl ?_
    refine QJ.step (YldS.yld (y_loadB (k := 0) (off := 2) (v := .int .i64 b1.fall) rfl Try.isAgg2 rfl rfl)) rfl ?_
    refine QJ.step (YldS.yld (y_bin rfl rfl rfl)) rfl ?_
    refine QJ.step (YldS.yld (y_assign rfl)) rfl ?_
    refine QJ.done ?_
    refine PJ.next ?_
    refine WJ.ret ?_
    refine PJ.then_ret ?_
    obtain rfl := Option.some.inj hm
    refine PJ.sel (L' := []) [] ⟨List.nodup_nil, rfl⟩ ?_
    exact PJ.retn (vs := [.int .i64 (w64 (b1.rise + b1.fall))]) Try.results52 ⟨rfl, trivial⟩ ⟨rfl, rfl⟩
  · replace hm := ifF hm hb5
    refine WJ.skip ?_
    refine PJ.next ?_
    refine WJ.seq ?_
    refine WJ.quiet_draw follows (by kernel_rfl) ?_
    refine QJ.step (YldS.yld (y_fldB (o := 0) fld25_3 rfl)) rfl ?_
    refine QJ.step (YldS.yld (y_loadB (k := 0) (off := 3) (v := .int .i64 b1.clear) rfl Try.isAgg2 rfl rfl)) rfl ?_
    refine QJ.step (YldS.yld (y_fldB (o := 0) fld25_4 rfl)) rfl ?_
    refine QJ.step (YldS.yld (y_loadB (k := 0) (off := 4) (v := .int .i64 b1.near) rfl Try.isAgg2 rfl rfl)) rfl ?_
    refine QJ.step (YldS.yld (y_move rfl)) rfl ?_
    refine QJ.step (YldS.yld (y_move rfl)) rfl ?_
    refine QJ.step (YldS.yld (y_bin rfl rfl rfl)) rfl ?_
    obtain ⟨r6, h7, hm⟩ := bindS hm
    refine QJ.step (y_call Try.call84 rfl (RetG.quiet fun w hw => ok_i_absolute h7 w )) rfl ?_
    refine QJ.step (YldS.yld (y_bin rfl rfl rfl)) rfl ?_
    refine QJ.step (YldS.yld (y_max rfl rfl)) rfl ?_
    refine QJ.step (YldS.yld (y_bin rfl rfl rfl)) rfl ?_
    refine QJ.step (YldS.yld (y_assign rfl)) rfl ?_
    refine QJ.done ?_
    refine PJ.next ?_
    refine WJ.ret ?_
    obtain rfl := Option.some.inj hm
    refine PJ.sel (L' := []) [] ⟨List.nodup_nil, rfl⟩ ?_
    exact PJ.retn (vs := [.int .i64 (w64 (b1.clear + (imax (w64 (b1.near - r6)) 0)))]) Try.results52 ⟨rfl, trivial⟩ ⟨rfl, rfl⟩

set_option maxRecDepth 100000 in
set_option maxHeartbeats 1000000 in
theorem ok_i_Basket_fastest {N : Nat} {b1 : Basket} {bars2 : List Int} {r : (List Stroke)} (hm : i_Basket_fastest N b1 bars2 = some r) (w : World) (v3 : Value) (hr4 : RdS w (cx w).Fz v3 fI64.rp bars2) :
    Calls Try.prog 45 #[.agg (Basket.enc b1).toArray, v3] w (RetG (cx w) fun u L => ∃ (u1 : Value), (u = u1 ∧ L = [row u1 37 fStroke r])) := by
  unfold i_Basket_fastest at hm
  refine Calls.enter [.agg (Basket.enc b1).toArray, v3] Try.func45 rfl Try.ntmps45 rfl ?_
  refine WJ.seq ?_
  refine WJ.reg ?_
  refine SJ.box (cs := [.int .i64 b1.bars, .int .i64 b1.rise, .int .i64 b1.fall, .int .i64 b1.clear, .int .i64 b1.near]) rfl rfl rfl fun g5 => ?_
  refine SJ.q (YldS.yld (y_assign rfl)) rfl ?_
  refine SJ.nil ?_
  refine PJ.next ?_
  refine WJ.seq ?_
  refine WJ.reg ?_
  refine SJ.buildSlice (R := fStroke) (os := []) [] Try.runUnderlying29 Try.sizeOf37 Try.zeroValue37 rfl rfl rfl rfl rfl rfl fun v6 => ?_
  refine SJ.q (YldS.yld (y_assign rfl)) rfl ?_
  refine SJ.nil ?_
  refine PJ.next ?_
  refine WJ.seq ?_
  refine WJ.quiet ?_
  refine QJ.step (YldS.yld (y_assign rfl)) rfl ?_
  refine QJ.done ?_
  refine PJ.next ?_
  obtain ⟨kj9, hk10, hm⟩ := withK_open hm
  refine WJ.join (X := (List Stroke) × Value) (fun (x : (List Stroke) × Value) => kj9 x.1 = some r) (fun (x : (List Stroke) × Value) => [(5, x.2)]) (fun (x : (List Stroke) × Value) => [row x.2 37 fStroke x.1]) ?_ ?_
  · clear hk10
    refine WJ.seq ?_
    refine WJ.quiet ?_
    refine QJ.step (YldS.yld (y_move rfl)) rfl ?_
    refine QJ.step (YldS.yld (y_lenS Try.runUnderlying27 hr4 rfl)) rfl ?_
    refine QJ.step (YldS.yld (y_move rfl)) rfl ?_
    refine QJ.done ?_
    refine PJ.next ?_
    refine WJ.block ?_
    refine WJ.sel (L' := (fun (x : (List Stroke) × Value × Int × Int) => [row x.2.1 37 fStroke x.1, box g5 25 [.int .i64 b1.bars, .int .i64 b1.rise, .int .i64 b1.fall, .int .i64 b1.clear, .int .i64 b1.near]]) ([], v6, 0, 0)) [0, 1] ⟨by decide, rfl⟩ ?_
    refine WJ.sub (m' := (fun (x : (List Stroke) × Value × Int × Int) => [(2, pt g5 0), (5, x.2.1), (6, .int .i64 x.2.2.1), (12, v3), (13, .int .i64 (List.length bars2 : Int)), (14, .int .i64 x.2.2.2)]) ([], v6, 0, 0)) ⟨rfl, rfl, rfl, rfl, rfl, rfl, trivial⟩ ?_
    refine WJ.loop (X := (List Stroke) × Value × Int × Int) (fun N (x : (List Stroke) × Value × Int × Int) => i_Basket_fastest_l1 kj9 b1 bars2 N x.1 x.2.2.1 x.2.2.2 = some r) (fun (x : (List Stroke) × Value × Int × Int) => [(2, pt g5 0), (5, x.2.1), (6, .int .i64 x.2.2.1), (12, v3), (13, .int .i64 (List.length bars2 : Int)), (14, .int .i64 x.2.2.2)]) (fun (x : (List Stroke) × Value × Int × Int) => [row x.2.1 37 fStroke x.1, box g5 25 [.int .i64 b1.bars, .int .i64 b1.rise, .int .i64 b1.fall, .int .i64 b1.clear, .int .i64 b1.near]]) ?_ N ([], v6, 0, 0) hm
    · rintro N ⟨l11, v12, tick13, x14⟩ hI
      have hm := hI; clear hI
      cases N with
      | zero => cases hm
      | succ N =>
      unfold i_Basket_fastest_l1 at hm
      refine WJ.seq ?_
      refine WJ.quiet ?_
      refine QJ.step (YldS.yld (y_bin rfl rfl rfl)) rfl ?_
      refine QJ.done ?_
      refine PJ.next ?_
      refine WJ.seq ?_
      refine WJ.cond (t := decide (x14 < (List.length bars2 : Int))) rfl (fun hb15 => ?_) (fun hb15 => ?_)
      · replace hm := ifT hm hb15
        refine WJ.skip ?_
        refine PJ.next ?_
        obtain ⟨kj19, hk20, hm⟩ := withK_open hm
        refine WJ.join (X := (List Stroke) × Value × Int) (fun (x : (List Stroke) × Value × Int) => kj19 x.1 x.2.2 = some r) (fun (x : (List Stroke) × Value × Int) => [(2, pt g5 0), (5, x.2.1), (6, .int .i64 x.2.2), (12, v3), (13, .int .i64 (List.length bars2 : Int)), (14, .int .i64 x14)]) (fun (x : (List Stroke) × Value × Int) => [row x.2.1 37 fStroke x.1, box g5 25 [.int .i64 b1.bars, .int .i64 b1.rise, .int .i64 b1.fall, .int .i64 b1.clear, .int .i64 b1.near]]) ?_ ?_
        · clear hk20
          refine WJ.block ?_
          refine WJ.seq ?_
          refine WJ.quiet ?_
          obtain ⟨e21, h22, hm⟩ := bindS hm
          obtain ⟨ad23, _, rfl, ha24, hy25⟩ := hr4.elem h22
          refine QJ.step (YldS.yld (hy25 Try.runUnderlying27 Try.sizeOf2 rfl rfl)) rfl ?_
          refine QJ.step (YldS.yld (y_load1 (v := .int .i64 e21) Try.isAgg2 ha24 St.frozenC rfl)) rfl ?_
          refine QJ.step (YldS.yld (y_assign rfl)) rfl ?_
          refine QJ.done ?_
          refine PJ.next ?_
          obtain ⟨kj27, hk28, hm⟩ := withK_open hm
          refine WJ.join (X := Int) (fun (x : Int) => kj27 x = some r) (fun (x : Int) => [(2, pt g5 0), (5, v12), (6, .int .i64 x), (8, .int .i64 e21), (12, v3), (13, .int .i64 (List.length bars2 : Int)), (14, .int .i64 x14)]) (fun (x : Int) => [row v12 37 fStroke l11, box g5 25 [.int .i64 b1.bars, .int .i64 b1.rise, .int .i64 b1.fall, .int .i64 b1.clear, .int .i64 b1.near]]) ?_ ?_
          · clear hk28
            refine WJ.seq ?_
            refine WJ.quiet ?_
            refine QJ.step (YldS.yld (y_move rfl)) rfl ?_
            refine QJ.step (YldS.yld (y_lenRow (k := 0) rfl Try.runUnderlying29 rfl)) rfl ?_
            refine QJ.step (YldS.yld (y_move rfl)) rfl ?_
            refine QJ.done ?_
            refine PJ.next ?_
            refine WJ.block ?_
            refine WJ.sel (L' := (fun (x : Int × Int) => [row v12 37 fStroke l11, box g5 25 [.int .i64 b1.bars, .int .i64 b1.rise, .int .i64 b1.fall, .int .i64 b1.clear, .int .i64 b1.near]]) (tick13, 0)) [0, 1] ⟨by decide, rfl⟩ ?_
            refine WJ.sub (m' := (fun (x : Int × Int) => [(2, pt g5 0), (5, v12), (6, .int .i64 x.1), (8, .int .i64 e21), (12, v3), (13, .int .i64 (List.length bars2 : Int)), (14, .int .i64 x14), (18, v12), (19, .int .i64 (List.length l11 : Int)), (20, .int .i64 x.2)]) (tick13, 0)) ⟨rfl, rfl, rfl, rfl, rfl, rfl, rfl, rfl, rfl, rfl, trivial⟩ ?_
            refine WJ.loop (X := Int × Int) (fun N (x : Int × Int) => i_Basket_fastest_l2 kj27 b1 l11 e21 N x.1 x.2 = some r) (fun (x : Int × Int) => [(2, pt g5 0), (5, v12), (6, .int .i64 x.1), (8, .int .i64 e21), (12, v3), (13, .int .i64 (List.length bars2 : Int)), (14, .int .i64 x14), (18, v12), (19, .int .i64 (List.length l11 : Int)), (20, .int .i64 x.2)]) (fun (x : Int × Int) => [row v12 37 fStroke l11, box g5 25 [.int .i64 b1.bars, .int .i64 b1.rise, .int .i64 b1.fall, .int .i64 b1.clear, .int .i64 b1.near]]) ?_ N (tick13, 0) hm
            · rintro N ⟨tick29, x30⟩ hI
              have hm := hI; clear hI
              cases N with
              | zero => cases hm
              | succ N =>
              unfold i_Basket_fastest_l2 at hm
              refine WJ.seq ?_
              refine WJ.quiet ?_
              refine QJ.step (YldS.yld (y_bin rfl rfl rfl)) rfl ?_
              refine QJ.done ?_
              refine PJ.next ?_
              refine WJ.seq ?_
              refine WJ.cond (t := decide (x30 < (List.length l11 : Int))) rfl (fun hb31 => ?_) (fun hb31 => ?_)
              · replace hm := ifT hm hb31
                refine WJ.skip ?_
                refine PJ.next ?_
                refine WJ.seq ?_
                refine WJ.block ?_
                refine WJ.seq ?_
                refine WJ.reg ?_
                obtain ⟨e32, h33, hm⟩ := bindS hm
                refine SJ.q (YldS.yld (y_ixRow (k := 0) (R := fStroke) rfl Try.runUnderlying29 Try.sizeOf37 rfl rfl h33)) rfl ?_
                refine SJ.q (YldS.yld (y_loadRN (k := 0) (i := (Int.toNat x30)) (off := 0) (us := [.int .i64 e32.bar, .int .i64 e32.tick]) rfl Try.isAgg37 Try.sizeOf37 rfl (idx_get h33) rfl)) rfl ?_
                refine SJ.alloc (cs := [.int .i64 0, .int .i64 0]) Try.zeroValue37 rfl rfl fun g34 => ?_
                refine SJ.storeL (k := 0) (off := 0) (us := [.int .i64 e32.bar, .int .i64 e32.tick]) rfl rfl rfl rfl Try.sizeOf37 rfl rfl ?_
                refine SJ.nil ?_
                refine PJ.next ?_
                refine WJ.quiet_draw follows (by kernel_rfl) ?_
                refine QJ.step (YldS.yld (y_move rfl)) rfl ?_
                refine QJ.step (YldS.yld (y_fldB (o := 0) fld37_1 rfl)) rfl ?_
                refine QJ.step (YldS.yld (y_loadB (k := 0) (off := 1) (v := .int .i64 e32.tick) rfl Try.isAgg2 rfl rfl)) rfl ?_
                refine QJ.step (YldS.yld (y_loadBN (k := 2) (off := 0) (us := [.int .i64 b1.bars, .int .i64 b1.rise, .int .i64 b1.fall, .int .i64 b1.clear, .int .i64 b1.near]) rfl Try.isAgg25 Try.sizeOf25 rfl rfl)) rfl ?_
                refine QJ.step (YldS.yld (y_fldB (o := 0) fld37_0 rfl)) rfl ?_
                refine QJ.step (YldS.yld (y_loadB (k := 0) (off := 0) (v := .int .i64 e32.bar) rfl Try.isAgg2 rfl rfl)) rfl ?_
                refine QJ.step (YldS.yld (y_move rfl)) rfl ?_
                obtain ⟨r35, h36, hm⟩ := bindS hm
                refine QJ.step (y_call Try.call52 rfl (RetG.quiet fun w hw => ok_i_Basket_waits h36 w )) rfl ?_
                refine QJ.step (YldS.yld (y_bin rfl rfl rfl)) rfl ?_
                refine QJ.step (YldS.yld (y_max rfl rfl)) rfl ?_
                refine QJ.step (YldS.yld (y_assign rfl)) rfl ?_
                refine QJ.done ?_
                refine PJ.block_normal (PJ.next ?_)
                refine WJ.quiet ?_
                refine QJ.step (YldS.yld (y_bin rfl rfl rfl)) rfl ?_
                refine QJ.step (YldS.yld (y_move rfl)) rfl ?_
                refine QJ.done ?_
                exact PJ.round (imax tick29 (w64 (e32.tick + r35)), w64 (x30 + 1)) [1, 2] hm ⟨rfl, rfl, rfl, rfl, rfl, rfl, rfl, rfl, rfl, rfl, trivial⟩ ⟨by decide, rfl⟩
              · replace hm := ifF hm hb31
                refine WJ.exit ?_
                refine PJ.then_exit (PJ.then_exit (PJ.block_exit ?_))
                exact PJ.joined tick29 [0, 1] hm ⟨rfl, rfl, rfl, rfl, rfl, rfl, rfl, trivial⟩ ⟨by decide, rfl⟩
          · rintro tick26 hm
            subst hk28
            refine WJ.reg ?_
            refine SJ.q (YldS.yld (y_move rfl)) rfl ?_
            refine SJ.q (YldS.yld (y_move rfl)) rfl ?_
            refine SJ.q (YldS.yld (y_move rfl)) rfl ?_
            refine SJ.q (YldS.yld (y_build (parts := [(0, .tmp 36), (1, .tmp 37)]) (places := [(0, 1), (1, 1)]) (r := [.int .i64 ((Stroke.mk e21 tick26).bar), .int .i64 ((Stroke.mk e21 tick26).tick)]) pl37 Try.zeroValue37 rfl rfl rfl rfl)) rfl ?_
            refine SJ.buildSlice (R := fStroke) (os := [.tmp 38]) [(Stroke.mk e21 tick26)] Try.runUnderlying29 Try.sizeOf37 Try.zeroValue37 rfl rfl rfl rfl rfl rfl fun v37 => ?_
            obtain ⟨l38, h39, hm⟩ := bindS hm
            refine SJ.append (k := 1) (R := fStroke) h39 rfl Try.underlying29 el37 rfl rfl rfl (fun w hw => (hw.row_rd (k := 0) rfl)) rfl fun v40 => ?_
            refine SJ.q (YldS.yld (y_assign rfl)) rfl ?_
            refine SJ.nil ?_
            refine PJ.block_normal ?_
            exact PJ.joined (l38, v40, tick26) [1, 2] hm ⟨rfl, rfl, rfl, rfl, rfl, rfl, trivial⟩ ⟨by decide, rfl⟩
        · rintro ⟨l16, v17, tick18⟩ hm
          subst hk20
          refine WJ.quiet ?_
          refine QJ.step (YldS.yld (y_bin rfl rfl rfl)) rfl ?_
          refine QJ.step (YldS.yld (y_move rfl)) rfl ?_
          refine QJ.done ?_
          exact PJ.round (l16, v17, tick18, w64 (x14 + 1)) [0, 1] hm ⟨rfl, rfl, rfl, rfl, rfl, rfl, trivial⟩ ⟨by decide, rfl⟩
      · replace hm := ifF hm hb15
        refine WJ.exit ?_
        refine PJ.then_exit (PJ.then_exit (PJ.block_exit ?_))
        exact PJ.joined (l11, v12) [0] hm ⟨rfl, trivial⟩ ⟨by decide, rfl⟩
  · rintro ⟨l7, v8⟩ hm
    subst hk10
    refine WJ.seq ?_
    refine WJ.quiet ?_
    refine QJ.step (YldS.yld (y_move rfl)) rfl ?_
    refine QJ.step (YldS.yld (y_assign rfl)) rfl ?_
    refine QJ.done ?_
    refine PJ.next ?_
    refine WJ.ret ?_
    obtain rfl := Option.some.inj hm
    refine PJ.sel (L' := [row v8 37 fStroke l7]) [0] ⟨by decide, rfl⟩ ?_
    exact PJ.retn (vs := [v8]) Try.results45 ⟨rfl, trivial⟩ ⟨_, rfl, rfl⟩

set_option maxRecDepth 100000 in
set_option maxHeartbeats 1000000 in
theorem ok_i_FastestStrokes {N : Nat} {b1 : Basket} {bars2 : List Int} {r : (List Stroke) × Int} (hm : i_FastestStrokes N b1 bars2 = some r) (w : World) (v3 : Value) (hr4 : RdS w (cx w).Fz v3 fI64.rp bars2) :
    Calls Try.prog 10 #[.agg (Basket.enc b1).toArray, v3] w (RetG (cx w) fun u L => ∃ (u1 : Value), (u = tup [u1, .int .i64 r.2] ∧ L = [row u1 37 fStroke r.1])) := by
  unfold i_FastestStrokes at hm
  refine Calls.enter [.agg (Basket.enc b1).toArray, v3] Try.func10 rfl Try.ntmps10 rfl ?_
  refine WJ.seq ?_
  refine WJ.reg ?_
  refine SJ.box (cs := [.int .i64 b1.bars, .int .i64 b1.rise, .int .i64 b1.fall, .int .i64 b1.clear, .int .i64 b1.near]) rfl rfl rfl fun g5 => ?_
  refine SJ.q (YldS.yld (y_assign rfl)) rfl ?_
  refine SJ.q (YldS.yld (y_assign rfl)) rfl ?_
  refine SJ.nil ?_
  refine PJ.next ?_
  refine WJ.seq ?_
  refine WJ.seq ?_
  refine WJ.quiet ?_
  refine QJ.step (YldS.yld (y_loadBN (k := 0) (off := 0) (us := [.int .i64 b1.bars, .int .i64 b1.rise, .int .i64 b1.fall, .int .i64 b1.clear, .int .i64 b1.near]) rfl Try.isAgg25 Try.sizeOf25 rfl rfl)) rfl ?_
  obtain ⟨r6, h7, hm⟩ := bindS hm
  refine QJ.step (y_call Try.call43 rfl (RetG.quiet fun w hw => ok_i_ValidBasket h7 w )) rfl ?_
  refine QJ.step (YldS.yld (y_not rfl)) rfl ?_
  refine QJ.done ?_
  refine PJ.next ?_
  refine WJ.cond (t := !r6) rfl (fun hb8 => ?_) (fun hb8 => ?_)
  · replace hm := ifT hm hb8
    refine WJ.seq ?_
    refine WJ.quiet ?_
    refine QJ.step (YldS.yld (y_assign rfl)) rfl ?_
    refine QJ.step (YldS.yld (y_assign rfl)) rfl ?_
    refine QJ.done ?_
    refine PJ.next ?_
    refine WJ.ret ?_
    refine PJ.then_ret ?_
    refine PJ.nil_row 37 fStroke ?_
    obtain rfl := Option.some.inj hm
    refine PJ.sel (L' := [row (.slice none 0 0) 37 fStroke []]) [0] ⟨by decide, rfl⟩ ?_
    exact PJ.retn (vs := [(.slice none 0 0), .int .i64 1]) Try.results10 ⟨rfl, rfl, trivial⟩ ⟨_, rfl, rfl⟩
  · replace hm := ifF hm hb8
    refine WJ.skip ?_
    refine PJ.next ?_
    refine WJ.seq ?_
    refine WJ.seq ?_
    refine WJ.quiet ?_
    refine QJ.step (YldS.yld (y_loadBN (k := 0) (off := 0) (us := [.int .i64 b1.bars, .int .i64 b1.rise, .int .i64 b1.fall, .int .i64 b1.clear, .int .i64 b1.near]) rfl Try.isAgg25 Try.sizeOf25 rfl rfl)) rfl ?_
    refine QJ.step (YldS.yld (y_move rfl)) rfl ?_
    obtain ⟨r9, h10, hm⟩ := bindS hm
    refine QJ.step (y_call Try.call44 rfl (RetG.quiet fun w hw => ok_i_Basket_areBars h10 w _ (hr4.st hw))) rfl ?_
    refine QJ.step (YldS.yld (y_not rfl)) rfl ?_
    refine QJ.done ?_
    refine PJ.next ?_
    refine WJ.cond (t := !r9) rfl (fun hb11 => ?_) (fun hb11 => ?_)
    · replace hm := ifT hm hb11
      refine WJ.seq ?_
      refine WJ.quiet ?_
      refine QJ.step (YldS.yld (y_assign rfl)) rfl ?_
      refine QJ.step (YldS.yld (y_assign rfl)) rfl ?_
      refine QJ.done ?_
      refine PJ.next ?_
      refine WJ.ret ?_
      refine PJ.then_ret ?_
      refine PJ.nil_row 37 fStroke ?_
      obtain rfl := Option.some.inj hm
      refine PJ.sel (L' := [row (.slice none 0 0) 37 fStroke []]) [0] ⟨by decide, rfl⟩ ?_
      exact PJ.retn (vs := [(.slice none 0 0), .int .i64 2]) Try.results10 ⟨rfl, rfl, trivial⟩ ⟨_, rfl, rfl⟩
    · replace hm := ifF hm hb11
      refine WJ.skip ?_
      refine PJ.next ?_
      refine WJ.seq ?_
      refine WJ.reg ?_
      refine SJ.q (YldS.yld (y_loadBN (k := 0) (off := 0) (us := [.int .i64 b1.bars, .int .i64 b1.rise, .int .i64 b1.fall, .int .i64 b1.clear, .int .i64 b1.near]) rfl Try.isAgg25 Try.sizeOf25 rfl rfl)) rfl ?_
      refine SJ.q (YldS.yld (y_move rfl)) rfl ?_
      obtain ⟨r12, h13, hm⟩ := bindS hm
      refine SJ.call Try.call45 rfl (fun w hw => ok_i_Basket_fastest h13 w _ (hr4.st hw)) rfl ?_
      rintro v14 _ ⟨_, rfl, rfl⟩
      refine SJ.q (YldS.yld (y_assign rfl)) rfl ?_
      refine SJ.q (YldS.yld (y_assign rfl)) rfl ?_
      refine SJ.nil ?_
      refine PJ.next ?_
      refine WJ.ret ?_
      obtain rfl := Option.some.inj hm
      refine PJ.sel (L' := [row v14 37 fStroke r12]) [0] ⟨by decide, rfl⟩ ?_
      exact PJ.retn (vs := [v14, .int .i64 0]) Try.results10 ⟨rfl, rfl, trivial⟩ ⟨_, rfl, rfl⟩

set_option maxRecDepth 100000 in
set_option maxHeartbeats 1000000 in
theorem ok_i_TicksFor {N : Nat} {b1 : Basket} {bars2 : List Int} {r : Int × Int} (hm : i_TicksFor N b1 bars2 = some r) (w : World) (v3 : Value) (hr4 : RdS w (cx w).Fz v3 fI64.rp bars2) :
    Calls Try.prog 11 #[.agg (Basket.enc b1).toArray, v3] w (Ret (cx w) (tup [.int .i64 r.1, .int .i64 r.2])) := by
  unfold i_TicksFor at hm
  refine Calls.enter [.agg (Basket.enc b1).toArray, v3] Try.func11 rfl Try.ntmps11 rfl ?_
  refine WJ.seq ?_
  refine WJ.reg ?_
  refine SJ.box (cs := [.int .i64 b1.bars, .int .i64 b1.rise, .int .i64 b1.fall, .int .i64 b1.clear, .int .i64 b1.near]) rfl rfl rfl fun g5 => ?_
  refine SJ.q (YldS.yld (y_assign rfl)) rfl ?_
  refine SJ.q (YldS.yld (y_assign rfl)) rfl ?_
  refine SJ.nil ?_
  refine PJ.next ?_
  refine WJ.seq ?_
  refine WJ.seq ?_
  refine WJ.quiet ?_
  refine QJ.step (YldS.yld (y_loadBN (k := 0) (off := 0) (us := [.int .i64 b1.bars, .int .i64 b1.rise, .int .i64 b1.fall, .int .i64 b1.clear, .int .i64 b1.near]) rfl Try.isAgg25 Try.sizeOf25 rfl rfl)) rfl ?_
  obtain ⟨r6, h7, hm⟩ := bindS hm
  refine QJ.step (y_call Try.call43 rfl (RetG.quiet fun w hw => ok_i_ValidBasket h7 w )) rfl ?_
  refine QJ.step (YldS.yld (y_not rfl)) rfl ?_
  refine QJ.done ?_
  refine PJ.next ?_
  refine WJ.cond (t := !r6) rfl (fun hb8 => ?_) (fun hb8 => ?_)
  · replace hm := ifT hm hb8
    refine WJ.seq ?_
    refine WJ.quiet ?_
    refine QJ.step (YldS.yld (y_assign rfl)) rfl ?_
    refine QJ.step (YldS.yld (y_assign rfl)) rfl ?_
    refine QJ.done ?_
    refine PJ.next ?_
    refine WJ.ret ?_
    refine PJ.then_ret ?_
    obtain rfl := Option.some.inj hm
    refine PJ.sel (L' := []) [] ⟨List.nodup_nil, rfl⟩ ?_
    exact PJ.retn (vs := [.int .i64 0, .int .i64 1]) Try.results11 ⟨rfl, rfl, trivial⟩ ⟨rfl, rfl⟩
  · replace hm := ifF hm hb8
    refine WJ.skip ?_
    refine PJ.next ?_
    refine WJ.seq ?_
    refine WJ.seq ?_
    refine WJ.quiet ?_
    refine QJ.step (YldS.yld (y_loadBN (k := 0) (off := 0) (us := [.int .i64 b1.bars, .int .i64 b1.rise, .int .i64 b1.fall, .int .i64 b1.clear, .int .i64 b1.near]) rfl Try.isAgg25 Try.sizeOf25 rfl rfl)) rfl ?_
    refine QJ.step (YldS.yld (y_move rfl)) rfl ?_
    obtain ⟨r9, h10, hm⟩ := bindS hm
    refine QJ.step (y_call Try.call44 rfl (RetG.quiet fun w hw => ok_i_Basket_areBars h10 w _ (hr4.st hw))) rfl ?_
    refine QJ.step (YldS.yld (y_not rfl)) rfl ?_
    refine QJ.done ?_
    refine PJ.next ?_
    refine WJ.cond (t := !r9) rfl (fun hb11 => ?_) (fun hb11 => ?_)
    · replace hm := ifT hm hb11
      refine WJ.seq ?_
      refine WJ.quiet ?_
      refine QJ.step (YldS.yld (y_assign rfl)) rfl ?_
      refine QJ.step (YldS.yld (y_assign rfl)) rfl ?_
      refine QJ.done ?_
      refine PJ.next ?_
      refine WJ.ret ?_
      refine PJ.then_ret ?_
      obtain rfl := Option.some.inj hm
      refine PJ.sel (L' := []) [] ⟨List.nodup_nil, rfl⟩ ?_
      exact PJ.retn (vs := [.int .i64 0, .int .i64 2]) Try.results11 ⟨rfl, rfl, trivial⟩ ⟨rfl, rfl⟩
    · replace hm := ifF hm hb11
      refine WJ.skip ?_
      refine PJ.next ?_
      refine WJ.seq ?_
      refine WJ.seq ?_
      refine WJ.quiet ?_
      refine QJ.step (YldS.yld (y_move rfl)) rfl ?_
      refine QJ.step (YldS.yld (y_lenS Try.runUnderlying27 hr4 rfl)) rfl ?_
      refine QJ.step (YldS.yld (y_bin rfl rfl rfl)) rfl ?_
      refine QJ.done ?_
      refine PJ.next ?_
      refine WJ.cond (t := ((List.length bars2 : Int) == 0)) rfl (fun hb12 => ?_) (fun hb12 => ?_)
      · replace hm := ifT hm hb12
        refine WJ.seq ?_
        refine WJ.quiet ?_
        refine QJ.step (YldS.yld (y_assign rfl)) rfl ?_
        refine QJ.step (YldS.yld (y_assign rfl)) rfl ?_
        refine QJ.done ?_
        refine PJ.next ?_
        refine WJ.ret ?_
        refine PJ.then_ret ?_
        obtain rfl := Option.some.inj hm
        refine PJ.sel (L' := []) [] ⟨List.nodup_nil, rfl⟩ ?_
        exact PJ.retn (vs := [.int .i64 0, .int .i64 0]) Try.results11 ⟨rfl, rfl, trivial⟩ ⟨rfl, rfl⟩
      · replace hm := ifF hm hb12
        refine WJ.skip ?_
        refine PJ.next ?_
        refine WJ.seq ?_
        refine WJ.reg ?_
        refine SJ.q (YldS.yld (y_loadBN (k := 0) (off := 0) (us := [.int .i64 b1.bars, .int .i64 b1.rise, .int .i64 b1.fall, .int .i64 b1.clear, .int .i64 b1.near]) rfl Try.isAgg25 Try.sizeOf25 rfl rfl)) rfl ?_
        refine SJ.q (YldS.yld (y_move rfl)) rfl ?_
        obtain ⟨r13, h14, hm⟩ := bindS hm
        refine SJ.call Try.call45 rfl (fun w hw => ok_i_Basket_fastest h14 w _ (hr4.st hw)) rfl ?_
        rintro v15 _ ⟨_, rfl, rfl⟩
        refine SJ.q (YldS.yld (y_assign rfl)) rfl ?_
        refine SJ.nil ?_
        refine PJ.next ?_
        refine WJ.seq ?_
        refine WJ.quiet_draw follows (by kernel_rfl) ?_
        refine QJ.step (YldS.yld (y_move rfl)) rfl ?_
        refine QJ.step (YldS.yld (y_move rfl)) rfl ?_
        refine QJ.step (YldS.yld (y_lenRow (k := 0) rfl Try.runUnderlying29 rfl)) rfl ?_
        refine QJ.step (YldS.yld (y_bin rfl rfl rfl)) rfl ?_
        obtain ⟨e16, h17, hm⟩ := bindS hm
        refine QJ.step (YldS.yld (y_ixRow (k := 0) (R := fStroke) rfl Try.runUnderlying29 Try.sizeOf37 rfl rfl h17)) rfl ?_
        refine QJ.step (YldS.yld (y_fldR fld37_1 rfl)) rfl ?_
        refine QJ.step (YldS.yld (y_loadR (k := 0) (i := (Int.toNat (w64 ((List.length r13 : Int) - 1)))) (off := 1) (u := .int .i64 e16.tick) rfl Try.isAgg2 rfl (idx_get h17) rfl)) rfl ?_
        refine QJ.step (YldS.yld (y_fldB (o := 0) fld25_1 rfl)) rfl ?_
        refine QJ.step (YldS.yld (y_loadB (k := 1) (off := 1) (v := .int .i64 b1.rise) rfl Try.isAgg2 rfl rfl)) rfl ?_
        refine QJ.step (YldS.yld (y_bin rfl rfl rfl)) rfl ?_
        refine QJ.step (YldS.yld (y_fldB (o := 0) fld25_2 rfl)) rfl ?_
        refine QJ.step (YldS.yld (y_loadB (k := 1) (off := 2) (v := .int .i64 b1.fall) rfl Try.isAgg2 rfl rfl)) rfl ?_
        refine QJ.step (YldS.yld (y_bin rfl rfl rfl)) rfl ?_
        refine QJ.step (YldS.yld (y_assign rfl)) rfl ?_
        refine QJ.step (YldS.yld (y_assign rfl)) rfl ?_
        refine QJ.done ?_
        refine PJ.next ?_
        refine WJ.ret ?_
        obtain rfl := Option.some.inj hm
        refine PJ.sel (L' := []) [] ⟨List.nodup_nil, rfl⟩ ?_
        exact PJ.retn (vs := [.int .i64 (w64 ((w64 (e16.tick + b1.rise)) + b1.fall)), .int .i64 0]) Try.results11 ⟨rfl, rfl, trivial⟩ ⟨rfl, rfl⟩

set_option maxRecDepth 100000 in
set_option maxHeartbeats 1000000 in
theorem ok_s_l00In {n1 : Int} {low2 : Int} {high3 : Int} {r : Bool} (hm : s_l00In n1 low2 high3 = some r) (w : World)  :
    Calls Try.prog 83 #[.int .i64 n1, .int .i64 low2, .int .i64 high3] w (Ret (cx w) (.bool r)) := by
  unfold s_l00In at hm
  refine Calls.enter [.int .i64 n1, .int .i64 low2, .int .i64 high3] Try.func83 rfl Try.ntmps83 rfl ?_
  refine WJ.seq ?_
  refine WJ.quiet ?_
  refine QJ.step (YldS.yld (y_assign rfl)) rfl ?_
  refine QJ.done ?_
  refine PJ.next ?_
  refine WJ.seq ?_
  refine WJ.quiet ?_
  refine QJ.step (YldS.yld (y_move rfl)) rfl ?_
  refine QJ.step (YldS.yld (y_move rfl)) rfl ?_
  refine QJ.step (YldS.yld (y_bin rfl rfl rfl)) rfl ?_
  refine QJ.step (YldS.yld (y_move rfl)) rfl ?_
  obtain ⟨t4, h5, hm⟩ := bindS hm
  refine QJ.cut 4 [(14, .bool t4)] ?_ ?_
  · rcases Bool.eq_false_or_eq_true (decide (n1 ≥ low2)) with hb6 | hb6
    · replace h5 := andT h5 hb6
      refine QJ.on rfl rfl (cB hb6) (YldS.yld (y_move rfl)) rfl ?_
      refine QJ.on rfl rfl (cB hb6) (YldS.yld (y_move rfl)) rfl ?_
      refine QJ.on rfl rfl (cB hb6) (YldS.yld (y_bin rfl rfl rfl)) rfl ?_
      refine QJ.step (YldS.yld (y_pick_t (cB hb6) rfl)) rfl ?_
      obtain rfl := Option.some.inj h5
      exact QJ.cut_end ⟨rfl, trivial⟩
    · obtain rfl := andF h5 hb6
      refine QJ.off rfl rfl (cB hb6) rfl rfl ?_
      refine QJ.off rfl rfl (cB hb6) rfl rfl ?_
      refine QJ.off rfl rfl (cB hb6) rfl rfl ?_
      refine QJ.step (YldS.yld (y_pick_f (cB hb6) rfl)) rfl ?_
      exact QJ.cut_end ⟨rfl, trivial⟩
  refine QJ.step (YldS.yld (y_assign rfl)) rfl ?_
  refine QJ.done ?_
  refine PJ.next ?_
  refine WJ.ret ?_
  obtain rfl := Option.some.inj hm
  refine PJ.sel (L' := []) [] ⟨List.nodup_nil, rfl⟩ ?_
  exact PJ.retn (vs := [.bool t4]) Try.results83 ⟨rfl, trivial⟩ ⟨rfl, rfl⟩

set_option maxRecDepth 100000 in
set_option maxHeartbeats 1000000 in
theorem ok_s_l03Bar {b1 : Basket} {n2 : Int} {r : Bool} (hm : s_l03Bar b1 n2 = some r) (w : World)  :
    Calls Try.prog 54 #[.agg (Basket.enc b1).toArray, .int .i64 n2] w (Ret (cx w) (.bool r)) := by
  unfold s_l03Bar at hm
  refine Calls.enter [.agg (Basket.enc b1).toArray, .int .i64 n2] Try.func54 rfl Try.ntmps54 rfl ?_
  refine WJ.seq ?_
  refine WJ.reg ?_
  refine SJ.box (cs := [.int .i64 b1.bars, .int .i64 b1.rise, .int .i64 b1.fall, .int .i64 b1.clear, .int .i64 b1.near]) rfl rfl rfl fun g3 => ?_
  refine SJ.q (YldS.yld (y_assign rfl)) rfl ?_
  refine SJ.nil ?_
  refine PJ.next ?_
  refine WJ.seq ?_
  refine WJ.quiet ?_
  refine QJ.step (YldS.yld (y_move rfl)) rfl ?_
  refine QJ.step (YldS.yld (y_fldB (o := 0) fld25_0 rfl)) rfl ?_
  refine QJ.step (YldS.yld (y_loadB (k := 0) (off := 0) (v := .int .i64 b1.bars) rfl Try.isAgg2 rfl rfl)) rfl ?_
  refine QJ.step (YldS.yld (y_bin rfl rfl rfl)) rfl ?_
  obtain ⟨r4, h5, hm⟩ := bindS hm
  refine QJ.step (y_call Try.call83 rfl (RetG.quiet fun w hw => ok_s_l00In h5 w )) rfl ?_
  refine QJ.step (YldS.yld (y_assign rfl)) rfl ?_
  refine QJ.done ?_
  refine PJ.next ?_
  refine WJ.ret ?_
  obtain rfl := Option.some.inj hm
  refine PJ.sel (L' := []) [] ⟨List.nodup_nil, rfl⟩ ?_
  exact PJ.retn (vs := [.bool r4]) Try.results54 ⟨rfl, trivial⟩ ⟨rfl, rfl⟩

set_option maxRecDepth 100000 in
set_option maxHeartbeats 1000000 in
theorem ok_s_l03Ok {b1 : Basket} {r : Bool} (hm : s_l03Ok b1 = some r) (w : World)  :
    Calls Try.prog 53 #[.agg (Basket.enc b1).toArray] w (Ret (cx w) (.bool r)) := by
  unfold s_l03Ok at hm
  refine Calls.enter [.agg (Basket.enc b1).toArray] Try.func53 rfl Try.ntmps53 rfl ?_
  refine WJ.seq ?_
  refine WJ.reg ?_
  refine SJ.box (cs := [.int .i64 b1.bars, .int .i64 b1.rise, .int .i64 b1.fall, .int .i64 b1.clear, .int .i64 b1.near]) rfl rfl rfl fun g2 => ?_
  refine SJ.q (YldS.yld (y_assign rfl)) rfl ?_
  refine SJ.nil ?_
  refine PJ.next ?_
  refine WJ.seq ?_
  refine WJ.quiet ?_
  refine QJ.step (YldS.yld (y_fldB (o := 0) fld25_0 rfl)) rfl ?_
  refine QJ.step (YldS.yld (y_loadB (k := 0) (off := 0) (v := .int .i64 b1.bars) rfl Try.isAgg2 rfl rfl)) rfl ?_
  obtain ⟨r3, h4, hm⟩ := bindS hm
  refine QJ.step (y_call Try.call83 rfl (RetG.quiet fun w hw => ok_s_l00In h4 w )) rfl ?_
  refine QJ.step (YldS.yld (y_move rfl)) rfl ?_
  obtain ⟨t5, h6, hm⟩ := bindS hm
  refine QJ.cut 4 [(1, pt g2 0), (10, .bool t5)] ?_ ?_
  · rcases Bool.eq_false_or_eq_true r3 with hb7 | hb7
    · replace h6 := andT h6 hb7
      refine QJ.on rfl rfl (cB hb7) (YldS.yld (y_fldB (o := 0) fld25_1 rfl)) rfl ?_
      refine QJ.on rfl rfl (cB hb7) (YldS.yld (y_loadB (k := 0) (off := 1) (v := .int .i64 b1.rise) rfl Try.isAgg2 rfl rfl)) rfl ?_
      obtain ⟨r8, h9, h6⟩ := bindS h6
      refine QJ.on rfl rfl (cB hb7) (y_call Try.call83 rfl (RetG.quiet fun w hw => ok_s_l00In h9 w )) rfl ?_
      refine QJ.step (YldS.yld (y_pick_t (cB hb7) rfl)) rfl ?_
      obtain rfl := Option.some.inj h6
      exact QJ.cut_end ⟨rfl, rfl, trivial⟩
    · obtain rfl := andF h6 hb7
      refine QJ.off rfl rfl (cB hb7) rfl rfl ?_
      refine QJ.off rfl rfl (cB hb7) rfl rfl ?_
      refine QJ.off rfl rfl (cB hb7) rfl rfl ?_
      refine QJ.step (YldS.yld (y_pick_f (cB hb7) rfl)) rfl ?_
      exact QJ.cut_end ⟨rfl, rfl, trivial⟩
  refine QJ.step (YldS.yld (y_move rfl)) rfl ?_
  obtain ⟨t10, h11, hm⟩ := bindS hm
  refine QJ.cut 4 [(1, pt g2 0), (15, .bool t10)] ?_ ?_
  · rcases Bool.eq_false_or_eq_true t5 with hb12 | hb12
    · replace h11 := andT h11 hb12
      refine QJ.on rfl rfl (cB hb12) (YldS.yld (y_fldB (o := 0) fld25_2 rfl)) rfl ?_
      refine QJ.on rfl rfl (cB hb12) (YldS.yld (y_loadB (k := 0) (off := 2) (v := .int .i64 b1.fall) rfl Try.isAgg2 rfl rfl)) rfl ?_
      obtain ⟨r13, h14, h11⟩ := bindS h11
      refine QJ.on rfl rfl (cB hb12) (y_call Try.call83 rfl (RetG.quiet fun w hw => ok_s_l00In h14 w )) rfl ?_
      refine QJ.step (YldS.yld (y_pick_t (cB hb12) rfl)) rfl ?_
      obtain rfl := Option.some.inj h11
      exact QJ.cut_end ⟨rfl, rfl, trivial⟩
    · obtain rfl := andF h11 hb12
      refine QJ.off rfl rfl (cB hb12) rfl rfl ?_
      refine QJ.off rfl rfl (cB hb12) rfl rfl ?_
      refine QJ.off rfl rfl (cB hb12) rfl rfl ?_
      refine QJ.step (YldS.yld (y_pick_f (cB hb12) rfl)) rfl ?_
      exact QJ.cut_end ⟨rfl, rfl, trivial⟩
  refine QJ.step (YldS.yld (y_move rfl)) rfl ?_
  obtain ⟨t15, h16, hm⟩ := bindS hm
  refine QJ.cut 4 [(1, pt g2 0), (20, .bool t15)] ?_ ?_
  · rcases Bool.eq_false_or_eq_true t10 with hb17 | hb17
    · replace h16 := andT h16 hb17
      refine QJ.on rfl rfl (cB hb17) (YldS.yld (y_fldB (o := 0) fld25_3 rfl)) rfl ?_
      refine QJ.on rfl rfl (cB hb17) (YldS.yld (y_loadB (k := 0) (off := 3) (v := .int .i64 b1.clear) rfl Try.isAgg2 rfl rfl)) rfl ?_
      obtain ⟨r18, h19, h16⟩ := bindS h16
      refine QJ.on rfl rfl (cB hb17) (y_call Try.call83 rfl (RetG.quiet fun w hw => ok_s_l00In h19 w )) rfl ?_
      refine QJ.step (YldS.yld (y_pick_t (cB hb17) rfl)) rfl ?_
      obtain rfl := Option.some.inj h16
      exact QJ.cut_end ⟨rfl, rfl, trivial⟩
    · obtain rfl := andF h16 hb17
      refine QJ.off rfl rfl (cB hb17) rfl rfl ?_
      refine QJ.off rfl rfl (cB hb17) rfl rfl ?_
      refine QJ.off rfl rfl (cB hb17) rfl rfl ?_
      refine QJ.step (YldS.yld (y_pick_f (cB hb17) rfl)) rfl ?_
      exact QJ.cut_end ⟨rfl, rfl, trivial⟩
  refine QJ.step (YldS.yld (y_move rfl)) rfl ?_
  obtain ⟨t20, h21, hm⟩ := bindS hm
  refine QJ.cut 4 [(25, .bool t20)] ?_ ?_
  · rcases Bool.eq_false_or_eq_true t15 with hb22 | hb22
    · replace h21 := andT h21 hb22
      refine QJ.on rfl rfl (cB hb22) (YldS.yld (y_fldB (o := 0) fld25_4 rfl)) rfl ?_
      refine QJ.on rfl rfl (cB hb22) (YldS.yld (y_loadB (k := 0) (off := 4) (v := .int .i64 b1.near) rfl Try.isAgg2 rfl rfl)) rfl ?_
      obtain ⟨r23, h24, h21⟩ := bindS h21
      refine QJ.on rfl rfl (cB hb22) (y_call Try.call83 rfl (RetG.quiet fun w hw => ok_s_l00In h24 w )) rfl ?_
      refine QJ.step (YldS.yld (y_pick_t (cB hb22) rfl)) rfl ?_
      obtain rfl := Option.some.inj h21
      exact QJ.cut_end ⟨rfl, trivial⟩
    · obtain rfl := andF h21 hb22
      refine QJ.off rfl rfl (cB hb22) rfl rfl ?_
      refine QJ.off rfl rfl (cB hb22) rfl rfl ?_
      refine QJ.off rfl rfl (cB hb22) rfl rfl ?_
      refine QJ.step (YldS.yld (y_pick_f (cB hb22) rfl)) rfl ?_
      exact QJ.cut_end ⟨rfl, trivial⟩
  refine QJ.step (YldS.yld (y_assign rfl)) rfl ?_
  refine QJ.done ?_
  refine PJ.next ?_
  refine WJ.ret ?_
  obtain rfl := Option.some.inj hm
  refine PJ.sel (L' := []) [] ⟨List.nodup_nil, rfl⟩ ?_
  exact PJ.retn (vs := [.bool t20]) Try.results53 ⟨rfl, trivial⟩ ⟨rfl, rfl⟩

set_option maxRecDepth 100000 in
set_option maxHeartbeats 1000000 in
theorem ok_s_l03Strokes {N : Nat} {b1 : Basket} {list2 : List Stroke} {r : Bool} (hm : s_l03Strokes N b1 list2 = some r) (w : World) (v3 : Value) (hr4 : RdS w (cx w).Fz v3 fStroke.rp list2) :
    Calls Try.prog 46 #[.agg (Basket.enc b1).toArray, v3] w (Ret (cx w) (.bool r)) := by
  unfold s_l03Strokes at hm
  refine Calls.enter [.agg (Basket.enc b1).toArray, v3] Try.func46 rfl Try.ntmps46 rfl ?_
  refine WJ.seq ?_
  refine WJ.reg ?_
  refine SJ.box (cs := [.int .i64 b1.bars, .int .i64 b1.rise, .int .i64 b1.fall, .int .i64 b1.clear, .int .i64 b1.near]) rfl rfl rfl fun g5 => ?_
  refine SJ.q (YldS.yld (y_assign rfl)) rfl ?_
  refine SJ.nil ?_
  refine PJ.next ?_
  obtain ⟨kj6, hk7, hm⟩ := withK_open hm
  refine WJ.join (X := Unit) (fun (_ : Unit) => kj6  = some r) (fun (_ : Unit) => [(1, v3), (2, pt g5 0)]) (fun (_ : Unit) => [box g5 25 [.int .i64 b1.bars, .int .i64 b1.rise, .int .i64 b1.fall, .int .i64 b1.clear, .int .i64 b1.near]]) ?_ ?_
  · clear hk7
    refine WJ.seq ?_
    refine WJ.quiet ?_
    refine QJ.step (YldS.yld (y_assign rfl)) rfl ?_
    refine QJ.done ?_
    refine PJ.next ?_
    refine WJ.block ?_
    refine WJ.sel (L' := (fun (x : Int) => [box g5 25 [.int .i64 b1.bars, .int .i64 b1.rise, .int .i64 b1.fall, .int .i64 b1.clear, .int .i64 b1.near]]) 0) [0] ⟨by decide, rfl⟩ ?_
    refine WJ.sub (m' := (fun (x : Int) => [(1, v3), (2, pt g5 0), (5, .int .i64 x)]) 0) ⟨rfl, rfl, rfl, trivial⟩ ?_
    refine WJ.loop (X := Int) (fun N (x : Int) => s_l03Strokes_l1 kj6 b1 list2 N x = some r) (fun (x : Int) => [(1, v3), (2, pt g5 0), (5, .int .i64 x)]) (fun (x : Int) => [box g5 25 [.int .i64 b1.bars, .int .i64 b1.rise, .int .i64 b1.fall, .int .i64 b1.clear, .int .i64 b1.near]]) ?_ N 0 hm
    · rintro N i8 hI
      have hm := hI; clear hI
      cases N with
      | zero => cases hm
      | succ N =>
      unfold s_l03Strokes_l1 at hm
      refine WJ.seq ?_
      refine WJ.seq ?_
      refine WJ.quiet ?_
      refine QJ.step (YldS.yld (y_move rfl)) rfl ?_
      refine QJ.step (YldS.yld (y_move rfl)) rfl ?_
      refine QJ.step (YldS.yld (y_lenS Try.runUnderlying29 hr4 rfl)) rfl ?_
      refine QJ.step (YldS.yld (y_bin rfl rfl rfl)) rfl ?_
      refine QJ.done ?_
      refine PJ.next ?_
      refine WJ.cond (t := decide (i8 < (List.length list2 : Int))) rfl (fun hb9 => ?_) (fun hb9 => ?_)
      · replace hm := ifT hm hb9
        refine WJ.skip ?_
        refine PJ.next ?_
        refine WJ.seq ?_
        refine WJ.block ?_
        refine WJ.seq ?_
        refine WJ.quiet_draw follows (by kernel_rfl) ?_
        refine QJ.step (YldS.yld (y_loadBN (k := 0) (off := 0) (us := [.int .i64 b1.bars, .int .i64 b1.rise, .int .i64 b1.fall, .int .i64 b1.clear, .int .i64 b1.near]) rfl Try.isAgg25 Try.sizeOf25 rfl rfl)) rfl ?_
        refine QJ.step (YldS.yld (y_move rfl)) rfl ?_
        refine QJ.step (YldS.yld (y_move rfl)) rfl ?_
        obtain ⟨e10, h11, hm⟩ := bindS hm
        obtain ⟨ad12, _, rfl, ha13, hy14⟩ := hr4.elem h11
        refine QJ.step (YldS.yld (hy14 Try.runUnderlying29 Try.sizeOf37 rfl rfl)) rfl ?_
        refine QJ.step (YldS.yld (y_fld (ad := ad12) fld37_0 rfl)) rfl ?_
        refine QJ.step (YldS.yld (y_load1 (v := .int .i64 e10.bar) Try.isAgg2 (ha13.sub 0 1) St.frozenC rfl)) rfl ?_
        obtain ⟨r15, h16, hm⟩ := bindS hm
        refine QJ.step (y_call Try.call54 rfl (RetG.quiet fun w hw => ok_s_l03Bar h16 w )) rfl ?_
        refine QJ.step (YldS.yld (y_not rfl)) rfl ?_
        refine QJ.step (YldS.yld (y_move rfl)) rfl ?_
        obtain ⟨t17, h18, hm⟩ := bindS hm
        refine QJ.cut 8 [(1, v3), (2, pt g5 0), (5, .int .i64 i8), (28, .bool t17)] ?_ ?_
        · rcases Bool.eq_false_or_eq_true (!r15) with hb19 | hb19
          · obtain rfl := orT h18 hb19
            refine QJ.off rfl rfl (cB hb19) rfl rfl ?_
            refine QJ.off rfl rfl (cB hb19) rfl rfl ?_
            refine QJ.off rfl rfl (cB hb19) rfl rfl ?_
            refine QJ.off rfl rfl (cB hb19) rfl rfl ?_
            refine QJ.off rfl rfl (cB hb19) rfl rfl ?_
            refine QJ.off rfl rfl (cB hb19) rfl rfl ?_
            refine QJ.off rfl rfl (cB hb19) rfl rfl ?_
            refine QJ.step (YldS.yld (y_pick_t (cB hb19) rfl)) rfl ?_
            exact QJ.cut_end ⟨rfl, rfl, rfl, rfl, trivial⟩
          · replace h18 := orF h18 hb19
            refine QJ.on rfl rfl (cB hb19) (YldS.yld (y_move rfl)) rfl ?_
            refine QJ.on rfl rfl (cB hb19) (YldS.yld (y_move rfl)) rfl ?_
            obtain ⟨e20, h21, h18⟩ := bindS h18
            obtain ⟨ad22, _, rfl, ha23, hy24⟩ := hr4.elem h21
            refine QJ.on rfl rfl (cB hb19) (YldS.yld (hy24 Try.runUnderlying29 Try.sizeOf37 rfl rfl)) rfl ?_
            refine QJ.on rfl rfl (cB hb19) (YldS.yld (y_fld (ad := ad22) fld37_1 rfl)) rfl ?_
            refine QJ.on rfl rfl (cB hb19) (YldS.yld (y_load1 (v := .int .i64 e20.tick) Try.isAgg2 (ha23.sub 1 1) St.frozenC rfl)) rfl ?_
            obtain ⟨r25, h26, h18⟩ := bindS h18
            refine QJ.on rfl rfl (cB hb19) (y_call Try.call83 rfl (RetG.quiet fun w hw => ok_s_l00In h26 w )) rfl ?_
            refine QJ.on rfl rfl (cB hb19) (YldS.yld (y_not rfl)) rfl ?_
            refine QJ.step (YldS.yld (y_pick_f (cB hb19) rfl)) rfl ?_
            obtain rfl := Option.some.inj h18
            exact QJ.cut_end ⟨rfl, rfl, rfl, rfl, trivial⟩
        refine QJ.step (YldS.yld (y_move rfl)) rfl ?_
        obtain ⟨t27, h28, hm⟩ := bindS hm
        refine QJ.cut 17 [(1, v3), (2, pt g5 0), (5, .int .i64 i8), (46, .bool t27)] ?_ ?_
        · rcases Bool.eq_false_or_eq_true t17 with hb29 | hb29
          · obtain rfl := orT h28 hb29
            refine QJ.off rfl rfl (cB hb29) rfl rfl ?_
            refine QJ.off rfl rfl (cB hb29) rfl rfl ?_
            refine QJ.off rfl rfl (cB hb29) rfl rfl ?_
            refine QJ.off_undef rfl rfl rfl rfl ?_
            refine QJ.off_undef rfl rfl rfl rfl ?_
            refine QJ.off_undef rfl rfl rfl rfl ?_
            refine QJ.off_undef rfl rfl rfl rfl ?_
            refine QJ.off_undef rfl rfl rfl rfl ?_
            refine QJ.off_undef rfl rfl rfl rfl ?_
            refine QJ.off_undef rfl rfl rfl rfl ?_
            refine QJ.off_undef rfl rfl rfl rfl ?_
            refine QJ.off_undef rfl rfl rfl rfl ?_
            refine QJ.off_undef rfl rfl rfl rfl ?_
            refine QJ.off_undef rfl rfl rfl rfl ?_
            refine QJ.off_undef rfl rfl rfl rfl ?_
            refine QJ.off rfl rfl (cB hb29) rfl rfl ?_
            refine QJ.step (YldS.yld (y_pick_t (cB hb29) rfl)) rfl ?_
            exact QJ.cut_end ⟨rfl, rfl, rfl, rfl, trivial⟩
          · replace h28 := orF h28 hb29
            refine QJ.on rfl rfl (cB hb29) (YldS.yld (y_move rfl)) rfl ?_
            refine QJ.on rfl rfl (cB hb29) (YldS.yld (y_bin rfl rfl rfl)) rfl ?_
            refine QJ.on rfl rfl (cB hb29) (YldS.yld (y_move rfl)) rfl ?_
            obtain ⟨t30, h31, h28⟩ := bindS h28
            refine QJ.cut 13 [(1, v3), (2, pt g5 0), (5, .int .i64 i8), (29, .bool t17), (45, .bool t30)] ?_ ?_
            · rcases Bool.eq_false_or_eq_true (decide (i8 > 0)) with hb32 | hb32
              · replace h31 := andT h31 hb32
                refine QJ.on rfl rfl (cB hb32) (YldS.yld (y_move rfl)) rfl ?_
                refine QJ.on rfl rfl (cB hb32) (YldS.yld (y_move rfl)) rfl ?_
                refine QJ.on rfl rfl (cB hb32) (YldS.yld (y_bin rfl rfl rfl)) rfl ?_
                obtain ⟨e33, h34, h31⟩ := bindS h31
                obtain ⟨ad35, _, rfl, ha36, hy37⟩ := hr4.elem h34
                refine QJ.on rfl rfl (cB hb32) (YldS.yld (hy37 Try.runUnderlying29 Try.sizeOf37 rfl rfl)) rfl ?_
                refine QJ.on rfl rfl (cB hb32) (YldS.yld (y_fld (ad := ad35) fld37_1 rfl)) rfl ?_
                refine QJ.on rfl rfl (cB hb32) (YldS.yld (y_load1 (v := .int .i64 e33.tick) Try.isAgg2 (ha36.sub 1 1) St.frozenC rfl)) rfl ?_
                refine QJ.on rfl rfl (cB hb32) (YldS.yld (y_move rfl)) rfl ?_
                refine QJ.on rfl rfl (cB hb32) (YldS.yld (y_move rfl)) rfl ?_
                obtain ⟨e38, h39, h31⟩ := bindS h31
                obtain ⟨ad40, _, rfl, ha41, hy42⟩ := hr4.elem h39
                refine QJ.on rfl rfl (cB hb32) (YldS.yld (hy42 Try.runUnderlying29 Try.sizeOf37 rfl rfl)) rfl ?_
                refine QJ.on rfl rfl (cB hb32) (YldS.yld (y_fld (ad := ad40) fld37_1 rfl)) rfl ?_
                refine QJ.on rfl rfl (cB hb32) (YldS.yld (y_load1 (v := .int .i64 e38.tick) Try.isAgg2 (ha41.sub 1 1) St.frozenC rfl)) rfl ?_
                refine QJ.on rfl rfl (cB hb32) (YldS.yld (y_bin rfl rfl rfl)) rfl ?_
                refine QJ.on rfl rfl (cB hb29) (YldS.yld (y_pick_t (cB hb32) rfl)) rfl ?_
                obtain rfl := Option.some.inj h31
                exact QJ.cut_end ⟨rfl, rfl, rfl, rfl, rfl, trivial⟩
              · obtain rfl := andF h31 hb32
                refine QJ.off rfl rfl (cB hb32) rfl rfl ?_
                refine QJ.off rfl rfl (cB hb32) rfl rfl ?_
                refine QJ.off rfl rfl (cB hb32) rfl rfl ?_
                refine QJ.off rfl rfl (cB hb32) rfl rfl ?_
                refine QJ.off rfl rfl (cB hb32) rfl rfl ?_
                refine QJ.off rfl rfl (cB hb32) rfl rfl ?_
                refine QJ.off rfl rfl (cB hb32) rfl rfl ?_
                refine QJ.off rfl rfl (cB hb32) rfl rfl ?_
                refine QJ.off rfl rfl (cB hb32) rfl rfl ?_
                refine QJ.off rfl rfl (cB hb32) rfl rfl ?_
                refine QJ.off rfl rfl (cB hb32) rfl rfl ?_
                refine QJ.off rfl rfl (cB hb32) rfl rfl ?_
                refine QJ.on rfl rfl (cB hb29) (YldS.yld (y_pick_f (cB hb32) rfl)) rfl ?_
                exact QJ.cut_end ⟨rfl, rfl, rfl, rfl, rfl, trivial⟩
            refine QJ.step (YldS.yld (y_pick_f (cB hb29) rfl)) rfl ?_
            obtain rfl := Option.some.inj h28
            exact QJ.cut_end ⟨rfl, rfl, rfl, rfl, trivial⟩
        refine QJ.done ?_
        refine PJ.next ?_
        refine WJ.cond (t := t27) rfl (fun hb43 => ?_) (fun hb43 => ?_)
        · replace hm := ifT hm hb43
          refine WJ.seq ?_
          refine WJ.quiet ?_
          refine QJ.step (YldS.yld (y_assign rfl)) rfl ?_
          refine QJ.done ?_
          refine PJ.next ?_
          refine WJ.ret ?_
          refine PJ.block_ret (PJ.then_ret (PJ.then_ret (PJ.block_ret (PJ.then_ret ?_))))
          obtain rfl := Option.some.inj hm
          refine PJ.sel (L' := []) [] ⟨List.nodup_nil, rfl⟩ ?_
          exact PJ.retn (vs := [.bool false]) Try.results46 ⟨rfl, trivial⟩ ⟨rfl, rfl⟩
        · replace hm := ifF hm hb43
          refine WJ.skip ?_
          refine PJ.block_normal (PJ.next ?_)
          refine WJ.quiet ?_
          refine QJ.step (YldS.yld (y_move rfl)) rfl ?_
          refine QJ.step (YldS.yld (y_bin rfl rfl rfl)) rfl ?_
          refine QJ.step (YldS.yld (y_assign rfl)) rfl ?_
          refine QJ.done ?_
          exact PJ.round (w64 (i8 + 1)) [0] hm ⟨rfl, rfl, rfl, trivial⟩ ⟨by decide, rfl⟩
      · replace hm := ifF hm hb9
        refine WJ.exit ?_
        refine PJ.then_exit (PJ.then_exit (PJ.block_exit ?_))
        exact PJ.joined () [0] hm ⟨rfl, rfl, trivial⟩ ⟨by decide, rfl⟩
  · rintro _ hm
    subst hk7
    refine WJ.seq ?_
    refine WJ.quiet ?_
    refine QJ.step (YldS.yld (y_loadBN (k := 0) (off := 0) (us := [.int .i64 b1.bars, .int .i64 b1.rise, .int .i64 b1.fall, .int .i64 b1.clear, .int .i64 b1.near]) rfl Try.isAgg25 Try.sizeOf25 rfl rfl)) rfl ?_
    obtain ⟨r44, h45, hm⟩ := bindS hm
    refine QJ.step (y_call Try.call53 rfl (RetG.quiet fun w hw => ok_s_l03Ok h45 w )) rfl ?_
    refine QJ.step (YldS.yld (y_move rfl)) rfl ?_
    obtain ⟨t46, h47, hm⟩ := bindS hm
    refine QJ.cut 4 [(53, .bool t46)] ?_ ?_
    · rcases Bool.eq_false_or_eq_true r44 with hb48 | hb48
      · replace h47 := andT h47 hb48
        refine QJ.on rfl rfl (cB hb48) (YldS.yld (y_move rfl)) rfl ?_
        refine QJ.on rfl rfl (cB hb48) (YldS.yld (y_lenS Try.runUnderlying29 hr4 rfl)) rfl ?_
        refine QJ.on rfl rfl (cB hb48) (YldS.yld (y_bin rfl rfl rfl)) rfl ?_
        refine QJ.step (YldS.yld (y_pick_t (cB hb48) rfl)) rfl ?_
        obtain rfl := Option.some.inj h47
        exact QJ.cut_end ⟨rfl, trivial⟩
      · obtain rfl := andF h47 hb48
        refine QJ.off rfl rfl (cB hb48) rfl rfl ?_
        refine QJ.off rfl rfl (cB hb48) rfl rfl ?_
        refine QJ.off rfl rfl (cB hb48) rfl rfl ?_
        refine QJ.step (YldS.yld (y_pick_f (cB hb48) rfl)) rfl ?_
        exact QJ.cut_end ⟨rfl, trivial⟩
    refine QJ.step (YldS.yld (y_assign rfl)) rfl ?_
    refine QJ.done ?_
    refine PJ.next ?_
    refine WJ.ret ?_
    obtain rfl := Option.some.inj hm
    refine PJ.sel (L' := []) [] ⟨List.nodup_nil, rfl⟩ ?_
    exact PJ.retn (vs := [.bool t46]) Try.results46 ⟨rfl, trivial⟩ ⟨rfl, rfl⟩

set_option maxRecDepth 100000 in
set_option maxHeartbeats 1000000 in
theorem ok_s_ValidStrokes {N : Nat} {b1 : Basket} {list2 : List Stroke} {r : Bool} (hm : s_ValidStrokes N b1 list2 = some r) (w : World) (v3 : Value) (hr4 : RdS w (cx w).Fz v3 fStroke.rp list2) :
    Calls Try.prog 12 #[.agg (Basket.enc b1).toArray, v3] w (Ret (cx w) (.bool r)) := by
  unfold s_ValidStrokes at hm
  refine Calls.enter [.agg (Basket.enc b1).toArray, v3] Try.func12 rfl Try.ntmps12 rfl ?_
  refine WJ.seq ?_
  refine WJ.reg ?_
  refine SJ.box (cs := [.int .i64 b1.bars, .int .i64 b1.rise, .int .i64 b1.fall, .int .i64 b1.clear, .int .i64 b1.near]) rfl rfl rfl fun g5 => ?_
  refine SJ.q (YldS.yld (y_assign rfl)) rfl ?_
  refine SJ.nil ?_
  refine PJ.next ?_
  refine WJ.seq ?_
  refine WJ.quiet ?_
  refine QJ.step (YldS.yld (y_loadBN (k := 0) (off := 0) (us := [.int .i64 b1.bars, .int .i64 b1.rise, .int .i64 b1.fall, .int .i64 b1.clear, .int .i64 b1.near]) rfl Try.isAgg25 Try.sizeOf25 rfl rfl)) rfl ?_
  refine QJ.step (YldS.yld (y_move rfl)) rfl ?_
  obtain ⟨r6, h7, hm⟩ := bindS hm
  refine QJ.step (y_call Try.call46 rfl (RetG.quiet fun w hw => ok_s_l03Strokes h7 w _ (hr4.st hw))) rfl ?_
  refine QJ.step (YldS.yld (y_assign rfl)) rfl ?_
  refine QJ.done ?_
  refine PJ.next ?_
  refine WJ.ret ?_
  obtain rfl := Option.some.inj hm
  refine PJ.sel (L' := []) [] ⟨List.nodup_nil, rfl⟩ ?_
  exact PJ.retn (vs := [.bool r6]) Try.results12 ⟨rfl, trivial⟩ ⟨rfl, rfl⟩

set_option maxRecDepth 100000 in
set_option maxHeartbeats 1000000 in
theorem ok_i_ValidStrokes {N : Nat} {b1 : Basket} {list2 : List Stroke} {r : Bool} (hm : i_ValidStrokes N b1 list2 = some r) (w : World) (v3 : Value) (hr4 : RdS w (cx w).Fz v3 fStroke.rp list2) :
    Calls Try.prog 47 #[.agg (Basket.enc b1).toArray, v3] w (Ret (cx w) (.bool r)) := by
  unfold i_ValidStrokes at hm
  refine Calls.enter [.agg (Basket.enc b1).toArray, v3] Try.func47 rfl Try.ntmps47 rfl ?_
  refine WJ.seq ?_
  refine WJ.reg ?_
  refine SJ.box (cs := [.int .i64 b1.bars, .int .i64 b1.rise, .int .i64 b1.fall, .int .i64 b1.clear, .int .i64 b1.near]) rfl rfl rfl fun g5 => ?_
  refine SJ.q (YldS.yld (y_assign rfl)) rfl ?_
  refine SJ.nil ?_
  refine PJ.next ?_
  refine WJ.seq ?_
  refine WJ.seq ?_
  refine WJ.quiet ?_
  refine QJ.step (YldS.yld (y_loadBN (k := 0) (off := 0) (us := [.int .i64 b1.bars, .int .i64 b1.rise, .int .i64 b1.fall, .int .i64 b1.clear, .int .i64 b1.near]) rfl Try.isAgg25 Try.sizeOf25 rfl rfl)) rfl ?_
  obtain ⟨r6, h7, hm⟩ := bindS hm
  refine QJ.step (y_call Try.call43 rfl (RetG.quiet fun w hw => ok_i_ValidBasket h7 w )) rfl ?_
  refine QJ.step (YldS.yld (y_not rfl)) rfl ?_
  refine QJ.step (YldS.yld (y_move rfl)) rfl ?_
  obtain ⟨t8, h9, hm⟩ := bindS hm
  refine QJ.cut 4 [(1, v3), (2, pt g5 0), (15, .bool t8)] ?_ ?_
  · rcases Bool.eq_false_or_eq_true (!r6) with hb10 | hb10
    · obtain rfl := orT h9 hb10
      refine QJ.off rfl rfl (cB hb10) rfl rfl ?_
      refine QJ.off rfl rfl (cB hb10) rfl rfl ?_
      refine QJ.off rfl rfl (cB hb10) rfl rfl ?_
      refine QJ.step (YldS.yld (y_pick_t (cB hb10) rfl)) rfl ?_
      exact QJ.cut_end ⟨rfl, rfl, rfl, trivial⟩
    · replace h9 := orF h9 hb10
      refine QJ.on rfl rfl (cB hb10) (YldS.yld (y_move rfl)) rfl ?_
      refine QJ.on rfl rfl (cB hb10) (YldS.yld (y_lenS Try.runUnderlying29 hr4 rfl)) rfl ?_
      refine QJ.on rfl rfl (cB hb10) (YldS.yld (y_bin rfl rfl rfl)) rfl ?_
      refine QJ.step (YldS.yld (y_pick_f (cB hb10) rfl)) rfl ?_
      obtain rfl := Option.some.inj h9
      exact QJ.cut_end ⟨rfl, rfl, rfl, trivial⟩
  refine QJ.done ?_
  refine PJ.next ?_
  refine WJ.cond (t := t8) rfl (fun hb11 => ?_) (fun hb11 => ?_)
  · replace hm := ifT hm hb11
    refine WJ.seq ?_
    refine WJ.quiet ?_
    refine QJ.step (YldS.yld (y_assign rfl)) rfl ?_
    refine QJ.done ?_
    refine PJ.next ?_
    refine WJ.ret ?_
    refine PJ.then_ret ?_
    obtain rfl := Option.some.inj hm
    refine PJ.sel (L' := []) [] ⟨List.nodup_nil, rfl⟩ ?_
    exact PJ.retn (vs := [.bool false]) Try.results47 ⟨rfl, trivial⟩ ⟨rfl, rfl⟩
  · replace hm := ifF hm hb11
    refine WJ.skip ?_
    refine PJ.next ?_
    refine WJ.seq ?_
    refine WJ.quiet ?_
    refine QJ.step (YldS.yld (y_assign rfl)) rfl ?_
    refine QJ.done ?_
    refine PJ.next ?_
    obtain ⟨kj12, hk13, hm⟩ := withK_open hm
    refine WJ.join (X := Unit) (fun (_ : Unit) => kj12  = some r) (fun (_ : Unit) => []) (fun (_ : Unit) => []) ?_ ?_
    · clear hk13
      refine WJ.seq ?_
      refine WJ.quiet ?_
      refine QJ.step (YldS.yld (y_move rfl)) rfl ?_
      refine QJ.step (YldS.yld (y_lenS Try.runUnderlying29 hr4 rfl)) rfl ?_
      refine QJ.step (YldS.yld (y_move rfl)) rfl ?_
      refine QJ.done ?_
      refine PJ.next ?_
      refine WJ.block ?_
      refine WJ.sel (L' := (fun (x : Int × Int) => [box g5 25 [.int .i64 b1.bars, .int .i64 b1.rise, .int .i64 b1.fall, .int .i64 b1.clear, .int .i64 b1.near]]) (0, 0)) [0] ⟨by decide, rfl⟩ ?_
      refine WJ.sub (m' := (fun (x : Int × Int) => [(2, pt g5 0), (5, .int .i64 x.1), (16, v3), (17, .int .i64 (List.length list2 : Int)), (18, .int .i64 x.2)]) (0, 0)) ⟨rfl, rfl, rfl, rfl, rfl, trivial⟩ ?_
      refine WJ.loop (X := Int × Int) (fun N (x : Int × Int) => i_ValidStrokes_l1 kj12 b1 list2 N x.1 x.2 = some r) (fun (x : Int × Int) => [(2, pt g5 0), (5, .int .i64 x.1), (16, v3), (17, .int .i64 (List.length list2 : Int)), (18, .int .i64 x.2)]) (fun (x : Int × Int) => [box g5 25 [.int .i64 b1.bars, .int .i64 b1.rise, .int .i64 b1.fall, .int .i64 b1.clear, .int .i64 b1.near]]) ?_ N (0, 0) hm
      · rintro N ⟨last14, x15⟩ hI
        have hm := hI; clear hI
        cases N with
        | zero => cases hm
        | succ N =>
        unfold i_ValidStrokes_l1 at hm
        refine WJ.seq ?_
        refine WJ.quiet ?_
        refine QJ.step (YldS.yld (y_bin rfl rfl rfl)) rfl ?_
        refine QJ.done ?_
        refine PJ.next ?_
        refine WJ.seq ?_
        refine WJ.cond (t := decide (x15 < (List.length list2 : Int))) rfl (fun hb16 => ?_) (fun hb16 => ?_)
        · replace hm := ifT hm hb16
          refine WJ.skip ?_
          refine PJ.next ?_
          refine WJ.seq ?_
          refine WJ.block ?_
          refine WJ.seq ?_
          refine WJ.reg ?_
          obtain ⟨e17, h18, hm⟩ := bindS hm
          obtain ⟨ad19, _, rfl, ha20, hy21⟩ := hr4.elem h18
          refine SJ.q (YldS.yld (hy21 Try.runUnderlying29 Try.sizeOf37 rfl rfl)) rfl ?_
          refine SJ.q (YldS.yld (y_loadN Try.isAgg37 Try.sizeOf37 rfl ha20 St.frozenC rfl)) rfl ?_
          refine SJ.alloc (cs := [.int .i64 0, .int .i64 0]) Try.zeroValue37 rfl rfl fun g22 => ?_
          refine SJ.storeL (k := 0) (off := 0) (us := [.int .i64 e17.bar, .int .i64 e17.tick]) rfl rfl rfl rfl Try.sizeOf37 rfl rfl ?_
          refine SJ.nil ?_
          refine PJ.next ?_
          refine WJ.seq ?_
          refine WJ.seq ?_
          refine WJ.quiet ?_
          refine QJ.step (YldS.yld (y_loadBN (k := 1) (off := 0) (us := [.int .i64 b1.bars, .int .i64 b1.rise, .int .i64 b1.fall, .int .i64 b1.clear, .int .i64 b1.near]) rfl Try.isAgg25 Try.sizeOf25 rfl rfl)) rfl ?_
          refine QJ.step (YldS.yld (y_fldB (o := 0) fld37_0 rfl)) rfl ?_
          refine QJ.step (YldS.yld (y_loadB (k := 0) (off := 0) (v := .int .i64 e17.bar) rfl Try.isAgg2 rfl rfl)) rfl ?_
          obtain ⟨r23, h24, hm⟩ := bindS hm
          refine QJ.step (y_call Try.call82 rfl (RetG.quiet fun w hw => ok_i_Basket_hasBar h24 w )) rfl ?_
          refine QJ.step (YldS.yld (y_not rfl)) rfl ?_
          refine QJ.step (YldS.yld (y_move rfl)) rfl ?_
          obtain ⟨t25, h26, hm⟩ := bindS hm
          refine QJ.cut 6 [(2, pt g5 0), (7, pt g22 0), (16, v3), (17, .int .i64 (List.length list2 : Int)), (18, .int .i64 x15), (33, .bool t25)] ?_ ?_
          · rcases Bool.eq_false_or_eq_true (!r23) with hb27 | hb27
            · obtain rfl := orT h26 hb27
              refine QJ.off rfl rfl (cB hb27) rfl rfl ?_
              refine QJ.off rfl rfl (cB hb27) rfl rfl ?_
              refine QJ.off rfl rfl (cB hb27) rfl rfl ?_
              refine QJ.off rfl rfl (cB hb27) rfl rfl ?_
              refine QJ.off rfl rfl (cB hb27) rfl rfl ?_
              refine QJ.step (YldS.yld (y_pick_t (cB hb27) rfl)) rfl ?_
              exact QJ.cut_end ⟨rfl, rfl, rfl, rfl, rfl, rfl, trivial⟩
            · replace h26 := orF h26 hb27
              refine QJ.on rfl rfl (cB hb27) (YldS.yld (y_fldB (o := 0) fld37_1 rfl)) rfl ?_
              refine QJ.on rfl rfl (cB hb27) (YldS.yld (y_loadB (k := 0) (off := 1) (v := .int .i64 e17.tick) rfl Try.isAgg2 rfl rfl)) rfl ?_
              refine QJ.on rfl rfl (cB hb27) (YldS.yld (y_move rfl)) rfl ?_
              obtain ⟨r28, h29, h26⟩ := bindS h26
              refine QJ.on rfl rfl (cB hb27) (y_call Try.call49 rfl (RetG.quiet fun w hw => ok_i_between h29 w )) rfl ?_
              refine QJ.on rfl rfl (cB hb27) (YldS.yld (y_not rfl)) rfl ?_
              refine QJ.step (YldS.yld (y_pick_f (cB hb27) rfl)) rfl ?_
              obtain rfl := Option.some.inj h26
              exact QJ.cut_end ⟨rfl, rfl, rfl, rfl, rfl, rfl, trivial⟩
          refine QJ.done ?_
          refine PJ.next ?_
          refine WJ.cond (t := t25) rfl (fun hb30 => ?_) (fun hb30 => ?_)
          · replace hm := ifT hm hb30
            refine WJ.seq ?_
            refine WJ.quiet ?_
            refine QJ.step (YldS.yld (y_assign rfl)) rfl ?_
            refine QJ.done ?_
            refine PJ.next ?_
            refine WJ.ret ?_
            refine PJ.then_ret (PJ.block_ret (PJ.then_ret (PJ.then_ret (PJ.block_ret (PJ.then_ret ?_)))))
            obtain rfl := Option.some.inj hm
            refine PJ.sel (L' := []) [] ⟨List.nodup_nil, rfl⟩ ?_
            exact PJ.retn (vs := [.bool false]) Try.results47 ⟨rfl, trivial⟩ ⟨rfl, rfl⟩
          · replace hm := ifF hm hb30
            refine WJ.skip ?_
            refine PJ.next ?_
            refine WJ.quiet ?_
            refine QJ.step (YldS.yld (y_fldB (o := 0) fld37_1 rfl)) rfl ?_
            refine QJ.step (YldS.yld (y_loadB (k := 0) (off := 1) (v := .int .i64 e17.tick) rfl Try.isAgg2 rfl rfl)) rfl ?_
            refine QJ.step (YldS.yld (y_assign rfl)) rfl ?_
            refine QJ.done ?_
            refine PJ.block_normal (PJ.next ?_)
            refine WJ.quiet ?_
            refine QJ.step (YldS.yld (y_bin rfl rfl rfl)) rfl ?_
            refine QJ.step (YldS.yld (y_move rfl)) rfl ?_
            refine QJ.done ?_
            exact PJ.round (e17.tick, w64 (x15 + 1)) [1] hm ⟨rfl, rfl, rfl, rfl, rfl, trivial⟩ ⟨by decide, rfl⟩
        · replace hm := ifF hm hb16
          refine WJ.exit ?_
          refine PJ.then_exit (PJ.then_exit (PJ.block_exit ?_))
          exact PJ.joined () [] hm trivial ⟨List.nodup_nil, rfl⟩
    · rintro _ hm
      subst hk13
      refine WJ.seq ?_
      refine WJ.quiet ?_
      refine QJ.step (YldS.yld (y_assign rfl)) rfl ?_
      refine QJ.done ?_
      refine PJ.next ?_
      refine WJ.ret ?_
      obtain rfl := Option.some.inj hm
      refine PJ.sel (L' := []) [] ⟨List.nodup_nil, rfl⟩ ?_
      exact PJ.retn (vs := [.bool true]) Try.results47 ⟨rfl, trivial⟩ ⟨rfl, rfl⟩

set_option maxRecDepth 100000 in
set_option maxHeartbeats 1000000 in
theorem ok_i_Basket_jams {b1 : Basket} {one2 : Stroke} {two3 : Stroke} {r : Bool} (hm : i_Basket_jams b1 one2 two3 = some r) (w : World)  :
    Calls Try.prog 48 #[.agg (Basket.enc b1).toArray, .agg (Stroke.enc one2).toArray, .agg (Stroke.enc two3).toArray] w (Ret (cx w) (.bool r)) := by
  unfold i_Basket_jams at hm
  refine Calls.enter [.agg (Basket.enc b1).toArray, .agg (Stroke.enc one2).toArray, .agg (Stroke.enc two3).toArray] Try.func48 rfl Try.ntmps48 rfl ?_
  refine WJ.seq ?_
  refine WJ.reg ?_
  refine SJ.box (cs := [.int .i64 b1.bars, .int .i64 b1.rise, .int .i64 b1.fall, .int .i64 b1.clear, .int .i64 b1.near]) rfl rfl rfl fun g4 => ?_
  refine SJ.box (cs := [.int .i64 one2.bar, .int .i64 one2.tick]) rfl rfl rfl fun g5 => ?_
  refine SJ.box (cs := [.int .i64 two3.bar, .int .i64 two3.tick]) rfl rfl rfl fun g6 => ?_
  refine SJ.q (YldS.yld (y_assign rfl)) rfl ?_
  refine SJ.nil ?_
  refine PJ.next ?_
  refine WJ.seq ?_
  refine WJ.quiet_draw follows (by kernel_rfl) ?_
  refine QJ.step (YldS.yld (y_fldB (o := 0) fld37_1 rfl)) rfl ?_
  refine QJ.step (YldS.yld (y_loadB (k := 1) (off := 1) (v := .int .i64 one2.tick) rfl Try.isAgg2 rfl rfl)) rfl ?_
  refine QJ.step (YldS.yld (y_fldB (o := 0) fld37_1 rfl)) rfl ?_
  refine QJ.step (YldS.yld (y_loadB (k := 0) (off := 1) (v := .int .i64 two3.tick) rfl Try.isAgg2 rfl rfl)) rfl ?_
  refine QJ.step (YldS.yld (y_bin rfl rfl rfl)) rfl ?_
  obtain ⟨r7, h8, hm⟩ := bindS hm
  refine QJ.step (y_call Try.call84 rfl (RetG.quiet fun w hw => ok_i_absolute h8 w )) rfl ?_
  refine QJ.step (YldS.yld (y_loadBN (k := 2) (off := 0) (us := [.int .i64 b1.bars, .int .i64 b1.rise, .int .i64 b1.fall, .int .i64 b1.clear, .int .i64 b1.near]) rfl Try.isAgg25 Try.sizeOf25 rfl rfl)) rfl ?_
  refine QJ.step (YldS.yld (y_fldB (o := 0) fld37_0 rfl)) rfl ?_
  refine QJ.step (YldS.yld (y_loadB (k := 1) (off := 0) (v := .int .i64 one2.bar) rfl Try.isAgg2 rfl rfl)) rfl ?_
  refine QJ.step (YldS.yld (y_fldB (o := 0) fld37_0 rfl)) rfl ?_
  refine QJ.step (YldS.yld (y_loadB (k := 0) (off := 0) (v := .int .i64 two3.bar) rfl Try.isAgg2 rfl rfl)) rfl ?_
  obtain ⟨r9, h10, hm⟩ := bindS hm
  refine QJ.step (y_call Try.call52 rfl (RetG.quiet fun w hw => ok_i_Basket_waits h10 w )) rfl ?_
  refine QJ.step (YldS.yld (y_bin rfl rfl rfl)) rfl ?_
  refine QJ.step (YldS.yld (y_assign rfl)) rfl ?_
  refine QJ.done ?_
  refine PJ.next ?_
  refine WJ.ret ?_
  obtain rfl := Option.some.inj hm
  refine PJ.sel (L' := []) [] ⟨List.nodup_nil, rfl⟩ ?_
  exact PJ.retn (vs := [.bool (decide (r7 < r9))]) Try.results48 ⟨rfl, trivial⟩ ⟨rfl, rfl⟩

set_option maxRecDepth 100000 in
set_option maxHeartbeats 1000000 in
theorem ok_i_CountJams {N : Nat} {b1 : Basket} {list2 : List Stroke} {r : Int × Int} (hm : i_CountJams N b1 list2 = some r) (w : World) (v3 : Value) (hr4 : RdS w (cx w).Fz v3 fStroke.rp list2) :
    Calls Try.prog 13 #[.agg (Basket.enc b1).toArray, v3] w (Ret (cx w) (tup [.int .i64 r.1, .int .i64 r.2])) := by
  unfold i_CountJams at hm
  refine Calls.enter [.agg (Basket.enc b1).toArray, v3] Try.func13 rfl Try.ntmps13 rfl ?_
  refine WJ.seq ?_
  refine WJ.reg ?_
  refine SJ.box (cs := [.int .i64 b1.bars, .int .i64 b1.rise, .int .i64 b1.fall, .int .i64 b1.clear, .int .i64 b1.near]) rfl rfl rfl fun g5 => ?_
  refine SJ.q (YldS.yld (y_assign rfl)) rfl ?_
  refine SJ.q (YldS.yld (y_assign rfl)) rfl ?_
  refine SJ.nil ?_
  refine PJ.next ?_
  refine WJ.seq ?_
  refine WJ.seq ?_
  refine WJ.quiet ?_
  refine QJ.step (YldS.yld (y_loadBN (k := 0) (off := 0) (us := [.int .i64 b1.bars, .int .i64 b1.rise, .int .i64 b1.fall, .int .i64 b1.clear, .int .i64 b1.near]) rfl Try.isAgg25 Try.sizeOf25 rfl rfl)) rfl ?_
  refine QJ.step (YldS.yld (y_move rfl)) rfl ?_
  obtain ⟨r6, h7, hm⟩ := bindS hm
  refine QJ.step (y_call Try.call47 rfl (RetG.quiet fun w hw => ok_i_ValidStrokes h7 w _ (hr4.st hw))) rfl ?_
  refine QJ.step (YldS.yld (y_not rfl)) rfl ?_
  refine QJ.done ?_
  refine PJ.next ?_
  refine WJ.cond (t := !r6) rfl (fun hb8 => ?_) (fun hb8 => ?_)
  · replace hm := ifT hm hb8
    refine WJ.seq ?_
    refine WJ.quiet ?_
    refine QJ.step (YldS.yld (y_assign rfl)) rfl ?_
    refine QJ.step (YldS.yld (y_assign rfl)) rfl ?_
    refine QJ.done ?_
    refine PJ.next ?_
    refine WJ.ret ?_
    refine PJ.then_ret ?_
    obtain rfl := Option.some.inj hm
    refine PJ.sel (L' := []) [] ⟨List.nodup_nil, rfl⟩ ?_
    exact PJ.retn (vs := [.int .i64 0, .int .i64 1]) Try.results13 ⟨rfl, rfl, trivial⟩ ⟨rfl, rfl⟩
  · replace hm := ifF hm hb8
    refine WJ.skip ?_
    refine PJ.next ?_
    refine WJ.seq ?_
    refine WJ.quiet ?_
    refine QJ.step (YldS.yld (y_assign rfl)) rfl ?_
    refine QJ.done ?_
    refine PJ.next ?_
    obtain ⟨kj10, hk11, hm⟩ := withK_open hm
    refine WJ.join (X := Int) (fun (x : Int) => kj10 x = some r) (fun (x : Int) => [(6, .int .i64 x)]) (fun (x : Int) => []) ?_ ?_
    · clear hk11
      refine WJ.seq ?_
      refine WJ.quiet ?_
      refine QJ.step (YldS.yld (y_move rfl)) rfl ?_
      refine QJ.step (YldS.yld (y_lenS Try.runUnderlying29 hr4 rfl)) rfl ?_
      refine QJ.step (YldS.yld (y_move rfl)) rfl ?_
      refine QJ.done ?_
      refine PJ.next ?_
      refine WJ.block ?_
      refine WJ.sel (L' := (fun (x : Int × Int) => [box g5 25 [.int .i64 b1.bars, .int .i64 b1.rise, .int .i64 b1.fall, .int .i64 b1.clear, .int .i64 b1.near]]) (0, 0)) [0] ⟨by decide, rfl⟩ ?_
      refine WJ.sub (m' := (fun (x : Int × Int) => [(1, v3), (2, pt g5 0), (6, .int .i64 x.1), (14, .int .i64 (List.length list2 : Int)), (15, .int .i64 x.2)]) (0, 0)) ⟨rfl, rfl, rfl, rfl, rfl, trivial⟩ ?_
      refine WJ.loop (X := Int × Int) (fun N (x : Int × Int) => i_CountJams_l1 kj10 b1 list2 N x.1 x.2 = some r) (fun (x : Int × Int) => [(1, v3), (2, pt g5 0), (6, .int .i64 x.1), (14, .int .i64 (List.length list2 : Int)), (15, .int .i64 x.2)]) (fun (x : Int × Int) => [box g5 25 [.int .i64 b1.bars, .int .i64 b1.rise, .int .i64 b1.fall, .int .i64 b1.clear, .int .i64 b1.near]]) ?_ N (0, 0) hm
      · rintro N ⟨jams12, x13⟩ hI
        have hm := hI; clear hI
        cases N with
        | zero => cases hm
        | succ N =>
        unfold i_CountJams_l1 at hm
        refine WJ.seq ?_
        refine WJ.quiet ?_
        refine QJ.step (YldS.yld (y_bin rfl rfl rfl)) rfl ?_
        refine QJ.done ?_
        refine PJ.next ?_
        refine WJ.seq ?_
        refine WJ.cond (t := decide (x13 < (List.length list2 : Int))) rfl (fun hb14 => ?_) (fun hb14 => ?_)
        · replace hm := ifT hm hb14
          refine WJ.skip ?_
          refine PJ.next ?_
          obtain ⟨kj16, hk17, hm⟩ := withK_open hm
          refine WJ.join (X := Int) (fun (x : Int) => kj16 x = some r) (fun (x : Int) => [(1, v3), (2, pt g5 0), (6, .int .i64 x), (14, .int .i64 (List.length list2 : Int)), (15, .int .i64 x13)]) (fun (x : Int) => [box g5 25 [.int .i64 b1.bars, .int .i64 b1.rise, .int .i64 b1.fall, .int .i64 b1.clear, .int .i64 b1.near]]) ?_ ?_
          · clear hk17
            refine WJ.block ?_
            refine WJ.seq ?_
            refine WJ.quiet ?_
            refine QJ.step (YldS.yld (y_move rfl)) rfl ?_
            refine QJ.step (YldS.yld (y_assign rfl)) rfl ?_
            refine QJ.done ?_
            refine PJ.next ?_
            refine WJ.seq ?_
            refine WJ.quiet ?_
            refine QJ.step (YldS.yld (y_move rfl)) rfl ?_
            refine QJ.step (YldS.yld (y_move rfl)) rfl ?_
            refine QJ.done ?_
            refine PJ.next ?_
            refine WJ.block ?_
            refine WJ.sel (L' := (fun (x : Int × Int) => [box g5 25 [.int .i64 b1.bars, .int .i64 b1.rise, .int .i64 b1.fall, .int .i64 b1.clear, .int .i64 b1.near]]) (jams12, 0)) [0] ⟨by decide, rfl⟩ ?_
            refine WJ.sub (m' := (fun (x : Int × Int) => [(1, v3), (2, pt g5 0), (6, .int .i64 x.1), (7, .int .i64 x13), (14, .int .i64 (List.length list2 : Int)), (15, .int .i64 x13), (18, .int .i64 x13), (19, .int .i64 x.2)]) (jams12, 0)) ⟨rfl, rfl, rfl, rfl, rfl, rfl, rfl, rfl, trivial⟩ ?_
            refine WJ.loop (X := Int × Int) (fun N (x : Int × Int) => i_CountJams_l2 kj16 b1 list2 x13 N x.1 x.2 = some r) (fun (x : Int × Int) => [(1, v3), (2, pt g5 0), (6, .int .i64 x.1), (7, .int .i64 x13), (14, .int .i64 (List.length list2 : Int)), (15, .int .i64 x13), (18, .int .i64 x13), (19, .int .i64 x.2)]) (fun (x : Int × Int) => [box g5 25 [.int .i64 b1.bars, .int .i64 b1.rise, .int .i64 b1.fall, .int .i64 b1.clear, .int .i64 b1.near]]) ?_ N (jams12, 0) hm
            · rintro N ⟨jams18, x19⟩ hI
              have hm := hI; clear hI
              cases N with
              | zero => cases hm
              | succ N =>
              unfold i_CountJams_l2 at hm
              refine WJ.seq ?_
              refine WJ.quiet ?_
              refine QJ.step (YldS.yld (y_bin rfl rfl rfl)) rfl ?_
              refine QJ.done ?_
              refine PJ.next ?_
              refine WJ.seq ?_
              refine WJ.cond (t := decide (x19 < x13)) rfl (fun hb20 => ?_) (fun hb20 => ?_)
              · replace hm := ifT hm hb20
                refine WJ.skip ?_
                refine PJ.next ?_
                obtain ⟨kj22, hk23, hm⟩ := withK_open hm
                refine WJ.join (X := Int) (fun (x : Int) => kj22 x = some r) (fun (x : Int) => [(1, v3), (2, pt g5 0), (6, .int .i64 x), (7, .int .i64 x13), (14, .int .i64 (List.length list2 : Int)), (15, .int .i64 x13), (18, .int .i64 x13), (19, .int .i64 x19)]) (fun (x : Int) => [box g5 25 [.int .i64 b1.bars, .int .i64 b1.rise, .int .i64 b1.fall, .int .i64 b1.clear, .int .i64 b1.near]]) ?_ ?_
                · clear hk23
                  refine WJ.block ?_
                  refine WJ.seq ?_
                  refine WJ.quiet ?_
                  refine QJ.step (YldS.yld (y_move rfl)) rfl ?_
                  refine QJ.step (YldS.yld (y_assign rfl)) rfl ?_
                  refine QJ.done ?_
                  refine PJ.next ?_
                  refine WJ.seq ?_
                  refine WJ.quiet_draw follows (by kernel_rfl) ?_
                  refine QJ.step (YldS.yld (y_loadBN (k := 0) (off := 0) (us := [.int .i64 b1.bars, .int .i64 b1.rise, .int .i64 b1.fall, .int .i64 b1.clear, .int .i64 b1.near]) rfl Try.isAgg25 Try.sizeOf25 rfl rfl)) rfl ?_
                  refine QJ.step (YldS.yld (y_move rfl)) rfl ?_
                  refine QJ.step (YldS.yld (y_move rfl)) rfl ?_
                  obtain ⟨e24, h25, hm⟩ := bindS hm
                  obtain ⟨ad26, _, rfl, ha27, hy28⟩ := hr4.elem h25
                  refine QJ.step (YldS.yld (hy28 Try.runUnderlying29 Try.sizeOf37 rfl rfl)) rfl ?_
                  refine QJ.step (YldS.yld (y_loadN Try.isAgg37 Try.sizeOf37 rfl ha27 St.frozenC rfl)) rfl ?_
                  refine QJ.step (YldS.yld (y_move rfl)) rfl ?_
                  refine QJ.step (YldS.yld (y_move rfl)) rfl ?_
                  obtain ⟨e29, h30, hm⟩ := bindS hm
                  obtain ⟨ad31, _, rfl, ha32, hy33⟩ := hr4.elem h30
                  refine QJ.step (YldS.yld (hy33 Try.runUnderlying29 Try.sizeOf37 rfl rfl)) rfl ?_
                  refine QJ.step (YldS.yld (y_loadN Try.isAgg37 Try.sizeOf37 rfl ha32 St.frozenC rfl)) rfl ?_
                  obtain ⟨r34, h35, hm⟩ := bindS hm
                  refine QJ.step (y_call Try.call48 rfl (RetG.quiet fun w hw => ok_i_Basket_jams h35 w )) rfl ?_
                  refine QJ.done ?_
                  refine PJ.next ?_
                  refine WJ.cond (t := r34) rfl (fun hb36 => ?_) (fun hb36 => ?_)
                  · replace hm := ifT hm hb36
                    refine WJ.quiet ?_
                    refine QJ.step (YldS.yld (y_move rfl)) rfl ?_
                    refine QJ.step (YldS.yld (y_bin rfl rfl rfl)) rfl ?_
                    refine QJ.step (YldS.yld (y_assign rfl)) rfl ?_
                    refine QJ.done ?_
                    refine PJ.block_normal ?_
                    exact PJ.joined (w64 (jams18 + 1)) [0] hm ⟨rfl, rfl, rfl, rfl, rfl, rfl, rfl, rfl, trivial⟩ ⟨by decide, rfl⟩
                  · replace hm := ifF hm hb36
                    refine WJ.skip ?_
                    refine PJ.block_normal ?_
                    exact PJ.joined jams18 [0] hm ⟨rfl, rfl, rfl, rfl, rfl, rfl, rfl, rfl, trivial⟩ ⟨by decide, rfl⟩
                · rintro jams21 hm
                  subst hk23
                  refine WJ.quiet ?_
                  refine QJ.step (YldS.yld (y_bin rfl rfl rfl)) rfl ?_
                  refine QJ.step (YldS.yld (y_move rfl)) rfl ?_
                  refine QJ.done ?_
                  exact PJ.round (jams21, w64 (x19 + 1)) [0] hm ⟨rfl, rfl, rfl, rfl, rfl, rfl, rfl, rfl, trivial⟩ ⟨by decide, rfl⟩
              · replace hm := ifF hm hb20
                refine WJ.exit ?_
                refine PJ.then_exit (PJ.then_exit (PJ.block_exit (PJ.block_normal ?_)))
                exact PJ.joined jams18 [0] hm ⟨rfl, rfl, rfl, rfl, rfl, trivial⟩ ⟨by decide, rfl⟩
          · rintro jams15 hm
            subst hk17
            refine WJ.quiet ?_
            refine QJ.step (YldS.yld (y_bin rfl rfl rfl)) rfl ?_
            refine QJ.step (YldS.yld (y_move rfl)) rfl ?_
            refine QJ.done ?_
            exact PJ.round (jams15, w64 (x13 + 1)) [0] hm ⟨rfl, rfl, rfl, rfl, rfl, trivial⟩ ⟨by decide, rfl⟩
        · replace hm := ifF hm hb14
          refine WJ.exit ?_
          refine PJ.then_exit (PJ.then_exit (PJ.block_exit ?_))
          exact PJ.joined jams12 [] hm ⟨rfl, trivial⟩ ⟨List.nodup_nil, rfl⟩
    · rintro jams9 hm
      subst hk11
      refine WJ.seq ?_
      refine WJ.quiet ?_
      refine QJ.step (YldS.yld (y_move rfl)) rfl ?_
      refine QJ.step (YldS.yld (y_assign rfl)) rfl ?_
      refine QJ.step (YldS.yld (y_assign rfl)) rfl ?_
      refine QJ.done ?_
      refine PJ.next ?_
      refine WJ.ret ?_
      obtain rfl := Option.some.inj hm
      refine PJ.sel (L' := []) [] ⟨List.nodup_nil, rfl⟩ ?_
      exact PJ.retn (vs := [.int .i64 jams9, .int .i64 0]) Try.results13 ⟨rfl, rfl, trivial⟩ ⟨rfl, rfl⟩

set_option maxRecDepth 100000 in
set_option maxHeartbeats 1000000 in
theorem okx_i_InTheAir_c1 {i1 : Int} {k2 : Int} {x3 : List Int} {r : Bool} (hm : i_InTheAir_c1 i1 k2 x3 = some r) (w : World) (ad4 : Addr) (v6 : Value) (ha5 : At w (cx w).Fz ad4 [v6]) (hr7 : RdS w (cx w).Fz v6 fI64.rp x3) :
    Calls Try.prog 51 #[.int .i64 i1, .int .i64 k2, .pointer (some ad4)] w (RetD w (.bool r)) := by
  unfold i_InTheAir_c1 at hm
  refine Calls.enterX [.int .i64 i1, .int .i64 k2, .pointer (some ad4)] Try.func51 rfl Try.ntmps51 rfl ?_
  refine WX.seq ?_
  refine WX.quiet ?_
  refine QJ.step (YldS.yld (YldS.still (y_assign rfl))) rfl ?_
  refine QJ.doneX ?_
  refine PX.next ?_
  refine WX.seq ?_
  refine WX.quiet_draw follows (by kernel_rfl) ?_
  refine QJ.step (YldS.yld (YldS.still (y_load1 (v := v6) Try.isAgg27 ha5 St.frozenC rfl))) rfl ?_
  refine QJ.step (YldS.yld (YldS.still (y_move rfl))) rfl ?_
  obtain ⟨e8, h9, hm⟩ := bindS hm
  obtain ⟨ad10, _, rfl, ha11, hy12⟩ := hr7.elem h9
  refine QJ.step (YldS.yld (YldS.still (hy12 Try.runUnderlying27 Try.sizeOf2 rfl rfl))) rfl ?_
  refine QJ.step (YldS.yld (YldS.still (y_load1 (v := .int .i64 e8) Try.isAgg2 ha11 St.frozenC rfl))) rfl ?_
  refine QJ.step (YldS.yld (YldS.still (y_load1 (v := v6) Try.isAgg27 ha5 St.frozenC rfl))) rfl ?_
  refine QJ.step (YldS.yld (YldS.still (y_move rfl))) rfl ?_
  obtain ⟨e13, h14, hm⟩ := bindS hm
  obtain ⟨ad15, _, rfl, ha16, hy17⟩ := hr7.elem h14
  refine QJ.step (YldS.yld (YldS.still (hy17 Try.runUnderlying27 Try.sizeOf2 rfl rfl))) rfl ?_
  refine QJ.step (YldS.yld (YldS.still (y_load1 (v := .int .i64 e13) Try.isAgg2 ha16 St.frozenC rfl))) rfl ?_
  refine QJ.step (YldS.yld (YldS.still (y_bin rfl rfl rfl))) rfl ?_
  refine QJ.step (YldS.yld (YldS.still (y_assign rfl))) rfl ?_
  refine QJ.doneX ?_
  refine PX.next ?_
  refine WX.ret ?_
  obtain rfl := Option.some.inj hm
  exact PX.retn (vs := [.bool (decide (e8 < e13))]) Try.results51 ⟨rfl, trivial⟩

set_option maxRecDepth 100000 in
set_option maxHeartbeats 1000000 in
theorem ok_i_InTheAir {N : Nat} {b1 : Basket} {list2 : List Stroke} {tick5 : Int} {r : (List Int) × Int} (hm : i_InTheAir N b1 list2 tick5 = some r) (w : World) (v3 : Value) (hr4 : RdS w (cx w).Fz v3 fStroke.rp list2) :
    Calls Try.prog 14 #[.agg (Basket.enc b1).toArray, v3, .int .i64 tick5] w (RetG (cx w) fun u L => ∃ (u1 : Value), (u = tup [u1, .int .i64 r.2] ∧ L = [row u1 2 fI64 r.1])) := by
  unfold i_InTheAir at hm
  refine Calls.enter [.agg (Basket.enc b1).toArray, v3, .int .i64 tick5] Try.func14 rfl Try.ntmps14 rfl ?_
  refine WJ.seq ?_
  refine WJ.reg ?_
  refine SJ.box (cs := [.int .i64 b1.bars, .int .i64 b1.rise, .int .i64 b1.fall, .int .i64 b1.clear, .int .i64 b1.near]) rfl rfl rfl fun g6 => ?_
  refine SJ.q (YldS.yld (y_assign rfl)) rfl ?_
  refine SJ.q (YldS.yld (y_assign rfl)) rfl ?_
  refine SJ.nil ?_
  refine PJ.next ?_
  refine WJ.seq ?_
  refine WJ.seq ?_
  refine WJ.quiet ?_
  refine QJ.step (YldS.yld (y_loadBN (k := 0) (off := 0) (us := [.int .i64 b1.bars, .int .i64 b1.rise, .int .i64 b1.fall, .int .i64 b1.clear, .int .i64 b1.near]) rfl Try.isAgg25 Try.sizeOf25 rfl rfl)) rfl ?_
  refine QJ.step (YldS.yld (y_move rfl)) rfl ?_
  obtain ⟨r7, h8, hm⟩ := bindS hm
  refine QJ.step (y_call Try.call47 rfl (RetG.quiet fun w hw => ok_i_ValidStrokes h8 w _ (hr4.st hw))) rfl ?_
  refine QJ.step (YldS.yld (y_not rfl)) rfl ?_
  refine QJ.done ?_
  refine PJ.next ?_
  refine WJ.cond (t := !r7) rfl (fun hb9 => ?_) (fun hb9 => ?_)
  · replace hm := ifT hm hb9
    refine WJ.seq ?_
    refine WJ.quiet ?_
    refine QJ.step (YldS.yld (y_assign rfl)) rfl ?_
    refine QJ.step (YldS.yld (y_assign rfl)) rfl ?_
    refine QJ.done ?_
    refine PJ.next ?_
    refine WJ.ret ?_
    refine PJ.then_ret ?_
    refine PJ.nil_row 2 fI64 ?_
    obtain rfl := Option.some.inj hm
    refine PJ.sel (L' := [row (.slice none 0 0) 2 fI64 []]) [0] ⟨by decide, rfl⟩ ?_
    exact PJ.retn (vs := [(.slice none 0 0), .int .i64 1]) Try.results14 ⟨rfl, rfl, trivial⟩ ⟨_, rfl, rfl⟩
  · replace hm := ifF hm hb9
    refine WJ.skip ?_
    refine PJ.next ?_
    refine WJ.seq ?_
    refine WJ.seq ?_
    refine WJ.quiet ?_
    refine QJ.step (YldS.yld (y_move rfl)) rfl ?_
    obtain ⟨r10, h11, hm⟩ := bindS hm
    refine QJ.step (y_call Try.call49 rfl (RetG.quiet fun w hw => ok_i_between h11 w )) rfl ?_
    refine QJ.step (YldS.yld (y_not rfl)) rfl ?_
    refine QJ.done ?_
    refine PJ.next ?_
    refine WJ.cond (t := !r10) rfl (fun hb12 => ?_) (fun hb12 => ?_)
    · replace hm := ifT hm hb12
      refine WJ.seq ?_
      refine WJ.quiet ?_
      refine QJ.step (YldS.yld (y_assign rfl)) rfl ?_
      refine QJ.step (YldS.yld (y_assign rfl)) rfl ?_
      refine QJ.done ?_
      refine PJ.next ?_
      refine WJ.ret ?_
      refine PJ.then_ret ?_
      refine PJ.nil_row 2 fI64 ?_
      obtain rfl := Option.some.inj hm
      refine PJ.sel (L' := [row (.slice none 0 0) 2 fI64 []]) [0] ⟨by decide, rfl⟩ ?_
      exact PJ.retn (vs := [(.slice none 0 0), .int .i64 2]) Try.results14 ⟨rfl, rfl, trivial⟩ ⟨_, rfl, rfl⟩
    · replace hm := ifF hm hb12
      refine WJ.skip ?_
      refine PJ.next ?_
      refine WJ.seq ?_
      refine WJ.reg ?_
      refine SJ.q (YldS.yld (y_build0 Try.runUnderlying89 zv89 Try.sizeOf4)) rfl ?_
      refine SJ.allocA (R := fBool) (xs := List.replicate 60 false) 60 zv89 rfl rfl rfl rfl fun g13 => ?_
      refine SJ.storeA (k := 0) (ys := (List.replicate 60 false)) rfl rfl rfl rfl (by simp) Try.sizeOf89 (by simp [length_encs, fBool]) ?_
      refine SJ.nil ?_
      refine PJ.next ?_
      obtain ⟨kj15, hk16, hm⟩ := withK_open hm
      refine WJ.join (X := (List Bool)) (fun (x : (List Bool)) => kj15 x = some r) (fun (x : (List Bool)) => [(8, pt g13 0)]) (fun (x : (List Bool)) => [row (av g13 60) 89 fBool x]) ?_ ?_
      · clear hk16
        refine WJ.seq ?_
        refine WJ.quiet ?_
        refine QJ.step (YldS.yld (y_move rfl)) rfl ?_
        refine QJ.step (YldS.yld (y_lenS Try.runUnderlying29 hr4 rfl)) rfl ?_
        refine QJ.step (YldS.yld (y_move rfl)) rfl ?_
        refine QJ.done ?_
        refine PJ.next ?_
        refine WJ.block ?_
        refine WJ.sel (L' := (fun (x : (List Bool) × Int) => [row (av g13 60) 89 fBool x.1, box g6 25 [.int .i64 b1.bars, .int .i64 b1.rise, .int .i64 b1.fall, .int .i64 b1.clear, .int .i64 b1.near]]) ((List.replicate 60 false), 0)) [0, 1] ⟨by decide, rfl⟩ ?_
        refine WJ.sub (m' := (fun (x : (List Bool) × Int) => [(2, .int .i64 tick5), (3, pt g6 0), (8, pt g13 0), (22, v3), (23, .int .i64 (List.length list2 : Int)), (24, .int .i64 x.2)]) ((List.replicate 60 false), 0)) ⟨rfl, rfl, rfl, rfl, rfl, rfl, trivial⟩ ?_
        refine WJ.loop (X := (List Bool) × Int) (fun N (x : (List Bool) × Int) => i_InTheAir_l1 kj15 b1 list2 tick5 N x.1 x.2 = some r) (fun (x : (List Bool) × Int) => [(2, .int .i64 tick5), (3, pt g6 0), (8, pt g13 0), (22, v3), (23, .int .i64 (List.length list2 : Int)), (24, .int .i64 x.2)]) (fun (x : (List Bool) × Int) => [row (av g13 60) 89 fBool x.1, box g6 25 [.int .i64 b1.bars, .int .i64 b1.rise, .int .i64 b1.fall, .int .i64 b1.clear, .int .i64 b1.near]]) ?_ N ((List.replicate 60 false), 0) hm
        · rintro N ⟨l17, x18⟩ hI
          have hm := hI; clear hI
          cases N with
          | zero => cases hm
          | succ N =>
          unfold i_InTheAir_l1 at hm
          refine WJ.seq ?_
          refine WJ.quiet ?_
          refine QJ.step (YldS.yld (y_bin rfl rfl rfl)) rfl ?_
          refine QJ.done ?_
          refine PJ.next ?_
          refine WJ.seq ?_
          refine WJ.cond (t := decide (x18 < (List.length list2 : Int))) rfl (fun hb19 => ?_) (fun hb19 => ?_)
          · replace hm := ifT hm hb19
            refine WJ.skip ?_
            refine PJ.next ?_
            obtain ⟨kj21, hk22, hm⟩ := withK_open hm
            refine WJ.join (X := (List Bool)) (fun (x : (List Bool)) => kj21 x = some r) (fun (x : (List Bool)) => [(2, .int .i64 tick5), (3, pt g6 0), (8, pt g13 0), (22, v3), (23, .int .i64 (List.length list2 : Int)), (24, .int .i64 x18)]) (fun (x : (List Bool)) => [row (av g13 60) 89 fBool x, box g6 25 [.int .i64 b1.bars, .int .i64 b1.rise, .int .i64 b1.fall, .int .i64 b1.clear, .int .i64 b1.near]]) ?_ ?_
            · clear hk22
              refine WJ.block ?_
              refine WJ.seq ?_
              refine WJ.reg ?_
              obtain ⟨e23, h24, hm⟩ := bindS hm
              obtain ⟨ad25, _, rfl, ha26, hy27⟩ := hr4.elem h24
              refine SJ.q (YldS.yld (hy27 Try.runUnderlying29 Try.sizeOf37 rfl rfl)) rfl ?_
              refine SJ.q (YldS.yld (y_loadN Try.isAgg37 Try.sizeOf37 rfl ha26 St.frozenC rfl)) rfl ?_
              refine SJ.alloc (cs := [.int .i64 0, .int .i64 0]) Try.zeroValue37 rfl rfl fun g28 => ?_
              refine SJ.storeL (k := 0) (off := 0) (us := [.int .i64 e23.bar, .int .i64 e23.tick]) rfl rfl rfl rfl Try.sizeOf37 rfl rfl ?_
              refine SJ.nil ?_
              refine PJ.next ?_
              refine WJ.seq ?_
              refine WJ.quiet ?_
              refine QJ.step (YldS.yld (y_fldB (o := 0) fld37_1 rfl)) rfl ?_
              refine QJ.step (YldS.yld (y_loadB (k := 0) (off := 1) (v := .int .i64 e23.tick) rfl Try.isAgg2 rfl rfl)) rfl ?_
              refine QJ.step (YldS.yld (y_move rfl)) rfl ?_
              refine QJ.step (YldS.yld (y_bin rfl rfl rfl)) rfl ?_
              refine QJ.step (YldS.yld (y_move rfl)) rfl ?_
              obtain ⟨t29, h30, hm⟩ := bindS hm
              refine QJ.cut 11 [(2, .int .i64 tick5), (3, pt g6 0), (8, pt g13 0), (10, pt g28 0), (22, v3), (23, .int .i64 (List.length list2 : Int)), (24, .int .i64 x18), (43, .bool t29)] ?_ ?_
              · rcases Bool.eq_false_or_eq_true (decide (e23.tick ≤ tick5)) with hb31 | hb31
                · replace h30 := andT h30 hb31
                  refine QJ.on rfl rfl (cB hb31) (YldS.yld (y_move rfl)) rfl ?_
                  refine QJ.on rfl rfl (cB hb31) (YldS.yld (y_fldB (o := 0) fld37_1 rfl)) rfl ?_
                  refine QJ.on rfl rfl (cB hb31) (YldS.yld (y_loadB (k := 0) (off := 1) (v := .int .i64 e23.tick) rfl Try.isAgg2 rfl rfl)) rfl ?_
                  refine QJ.on rfl rfl (cB hb31) (YldS.yld (y_fldB (o := 0) fld25_1 rfl)) rfl ?_
                  refine QJ.on rfl rfl (cB hb31) (YldS.yld (y_loadB (k := 2) (off := 1) (v := .int .i64 b1.rise) rfl Try.isAgg2 rfl rfl)) rfl ?_
                  refine QJ.on rfl rfl (cB hb31) (YldS.yld (y_bin rfl rfl rfl)) rfl ?_
                  refine QJ.on rfl rfl (cB hb31) (YldS.yld (y_fldB (o := 0) fld25_2 rfl)) rfl ?_
                  refine QJ.on rfl rfl (cB hb31) (YldS.yld (y_loadB (k := 2) (off := 2) (v := .int .i64 b1.fall) rfl Try.isAgg2 rfl rfl)) rfl ?_
                  refine QJ.on rfl rfl (cB hb31) (YldS.yld (y_bin rfl rfl rfl)) rfl ?_
                  refine QJ.on rfl rfl (cB hb31) (YldS.yld (y_bin rfl rfl rfl)) rfl ?_
                  refine QJ.step (YldS.yld (y_pick_t (cB hb31) rfl)) rfl ?_
                  obtain rfl := Option.some.inj h30
                  exact QJ.cut_end ⟨rfl, rfl, rfl, rfl, rfl, rfl, rfl, rfl, trivial⟩
                · obtain rfl := andF h30 hb31
                  refine QJ.off rfl rfl (cB hb31) rfl rfl ?_
                  refine QJ.off rfl rfl (cB hb31) rfl rfl ?_
                  refine QJ.off rfl rfl (cB hb31) rfl rfl ?_
                  refine QJ.off rfl rfl (cB hb31) rfl rfl ?_
                  refine QJ.off rfl rfl (cB hb31) rfl rfl ?_
                  refine QJ.off rfl rfl (cB hb31) rfl rfl ?_
                  refine QJ.off rfl rfl (cB hb31) rfl rfl ?_
                  refine QJ.off rfl rfl (cB hb31) rfl rfl ?_
                  refine QJ.off rfl rfl (cB hb31) rfl rfl ?_
                  refine QJ.off rfl rfl (cB hb31) rfl rfl ?_
                  refine QJ.step (YldS.yld (y_pick_f (cB hb31) rfl)) rfl ?_
                  exact QJ.cut_end ⟨rfl, rfl, rfl, rfl, rfl, rfl, rfl, rfl, trivial⟩
              refine QJ.done ?_
              refine PJ.next ?_
              refine WJ.cond (t := t29) rfl (fun hb32 => ?_) (fun hb32 => ?_)
              · replace hm := ifT hm hb32
                refine WJ.reg ?_
                refine SJ.q (YldS.yld (y_fldB (o := 0) fld37_0 rfl)) rfl ?_
                refine SJ.q (YldS.yld (y_loadB (k := 0) (off := 0) (v := .int .i64 e23.bar) rfl Try.isAgg2 rfl rfl)) rfl ?_
                obtain ⟨e33, h34, hm⟩ := bindS hm
                refine SJ.q (YldS.yld (y_ixArr (k := 1) (R := fBool) rfl Try.runUnderlying89 Try.sizeOf4 rfl rfl h34)) rfl ?_
                refine SJ.storeRL (k := 1) (i := (Int.toNat e23.bar)) (off := 0) (us := [.bool true]) (b := true) rfl rfl (idx_get h34) rfl rfl Try.sizeOf4 rfl rfl rfl ?_
                refine SJ.nil ?_
                refine PJ.block_normal ?_
                exact PJ.joined (List.set l17 (Int.toNat e23.bar) true) [1, 2] hm ⟨rfl, rfl, rfl, rfl, rfl, rfl, trivial⟩ ⟨by decide, rfl⟩
              · replace hm := ifF hm hb32
                refine WJ.skip ?_
                refine PJ.block_normal ?_
                exact PJ.joined l17 [1, 2] hm ⟨rfl, rfl, rfl, rfl, rfl, rfl, trivial⟩ ⟨by decide, rfl⟩
            · rintro l20 hm
              subst hk22
              refine WJ.quiet ?_
              refine QJ.step (YldS.yld (y_bin rfl rfl rfl)) rfl ?_
              refine QJ.step (YldS.yld (y_move rfl)) rfl ?_
              refine QJ.done ?_
              exact PJ.round (l20, w64 (x18 + 1)) [0, 1] hm ⟨rfl, rfl, rfl, rfl, rfl, rfl, trivial⟩ ⟨by decide, rfl⟩
          · replace hm := ifF hm hb19
            refine WJ.exit ?_
            refine PJ.then_exit (PJ.then_exit (PJ.block_exit ?_))
            exact PJ.joined l17 [0] hm ⟨rfl, trivial⟩ ⟨by decide, rfl⟩
      · rintro l14 hm
        subst hk16
        refine WJ.seq ?_
        refine WJ.reg ?_
        refine SJ.buildSlice (R := fI64) (os := []) [] Try.runUnderlying27 Try.sizeOf2 Try.zeroValue2 rfl rfl rfl rfl rfl rfl fun v35 => ?_
        refine SJ.alloc (cs := [.slice none 0 0]) Try.zeroValue27 rfl rfl fun g36 => ?_
        refine SJ.rowCells (k := 1) rfl fun hc37 => ?_
        refine SJ.storeL (k := 0) (off := 0) (us := [v35]) rfl rfl rfl hc37.1 Try.sizeOf27 rfl (by simp [hc37.2]) ?_
        refine SJ.nil ?_
        refine PJ.next ?_
        obtain ⟨kj40, hk41, hm⟩ := withK_open hm
        refine WJ.join (X := (List Int) × Value) (fun (x : (List Int) × Value) => kj40 x.1 = some r) (fun (x : (List Int) × Value) => [(11, pt g36 0)]) (fun (x : (List Int) × Value) => [box g36 27 [x.2], row x.2 2 fI64 x.1]) ?_ ?_
        · clear hk41
          refine WJ.seq ?_
          refine WJ.quiet ?_
          refine QJ.step (YldS.yld (y_loadA (k := 2) (R := fBool) rfl Try.isAgg89 Try.sizeOf89 rfl rfl)) rfl ?_
          refine QJ.step (YldS.yld (y_move rfl)) rfl ?_
          refine QJ.done ?_
          refine PJ.next ?_
          refine WJ.block ?_
          refine WJ.sel (L' := (fun (x : (List Int) × Value × Int) => [box g36 27 [x.2.1], row x.2.1 2 fI64 x.1]) ([], v35, 0)) [0, 1] ⟨by decide, rfl⟩ ?_
          refine WJ.sub (m' := (fun (x : (List Int) × Value × Int) => [(11, pt g36 0), (49, .agg (List.toArray (encs fBool l14))), (50, .int .i64 x.2.2)]) ([], v35, 0)) ⟨rfl, rfl, rfl, trivial⟩ ?_
          refine WJ.loop (X := (List Int) × Value × Int) (fun N (x : (List Int) × Value × Int) => i_InTheAir_l2 kj40 l14 N x.1 x.2.2 = some r) (fun (x : (List Int) × Value × Int) => [(11, pt g36 0), (49, .agg (List.toArray (encs fBool l14))), (50, .int .i64 x.2.2)]) (fun (x : (List Int) × Value × Int) => [box g36 27 [x.2.1], row x.2.1 2 fI64 x.1]) ?_ N ([], v35, 0) hm
          · rintro N ⟨l42, v43, x44⟩ hI
            have hm := hI; clear hI
            cases N with
            | zero => cases hm
            | succ N =>
            unfold i_InTheAir_l2 at hm
            refine WJ.seq ?_
            refine WJ.quiet ?_
            refine QJ.step (YldS.yld (y_bin rfl rfl rfl)) rfl ?_
            refine QJ.done ?_
            refine PJ.next ?_
            refine WJ.seq ?_
            refine WJ.cond (t := decide (x44 < 60)) rfl (fun hb45 => ?_) (fun hb45 => ?_)
            · replace hm := ifT hm hb45
              refine WJ.skip ?_
              refine PJ.next ?_
              obtain ⟨kj48, hk49, hm⟩ := withK_open hm
              refine WJ.join (X := (List Int) × Value) (fun (x : (List Int) × Value) => kj48 x.1 = some r) (fun (x : (List Int) × Value) => [(11, pt g36 0), (49, .agg (List.toArray (encs fBool l14))), (50, .int .i64 x44)]) (fun (x : (List Int) × Value) => [box g36 27 [x.2], row x.2 2 fI64 x.1]) ?_ ?_
              · clear hk49
                refine WJ.block ?_
                refine WJ.seq ?_
                refine WJ.quiet ?_
                refine QJ.step (YldS.yld (y_move rfl)) rfl ?_
                obtain ⟨e50, h51, hm⟩ := bindS hm
                refine QJ.step (YldS.yld (y_ixAgg (R := fBool) (y := e50) Try.runUnderlying89 Try.sizeOf4 Try.isAgg4 rfl rfl rfl h51 rfl)) rfl ?_
                refine QJ.step (YldS.yld (y_assign rfl)) rfl ?_
                refine QJ.step (YldS.yld (y_assign rfl)) rfl ?_
                refine QJ.done ?_
                refine PJ.next ?_
                refine WJ.seq ?_
                refine WJ.quiet ?_
                refine QJ.step (YldS.yld (y_move rfl)) rfl ?_
                refine QJ.done ?_
                refine PJ.next ?_
                refine WJ.cond (t := e50) rfl (fun hb52 => ?_) (fun hb52 => ?_)
                · replace hm := ifT hm hb52
                  refine WJ.reg ?_
                  refine SJ.q (YldS.yld (y_loadB (k := 0) (off := 0) (v := v43) rfl Try.isAgg27 rfl rfl)) rfl ?_
                  refine SJ.q (YldS.yld (y_move rfl)) rfl ?_
                  refine SJ.buildSlice (R := fI64) (os := [.tmp 56]) [x44] Try.runUnderlying27 Try.sizeOf2 Try.zeroValue2 rfl rfl rfl rfl rfl rfl fun v53 => ?_
                  obtain ⟨l54, h55, hm⟩ := bindS hm
                  refine SJ.append (k := 2) (R := fI64) h55 rfl Try.underlying27 el2 rfl rfl rfl (fun w hw => (hw.row_rd (k := 0) rfl)) rfl fun v56 => ?_
                  refine SJ.rowCells (k := 2) rfl fun hc57 => ?_
                  refine SJ.storeL (k := 1) (off := 0) (us := [v56]) rfl rfl rfl hc57.1 Try.sizeOf27 rfl (by simp [hc57.2]) ?_
                  refine SJ.nil ?_
                  refine PJ.block_normal ?_
                  exact PJ.joined (l54, v56) [1, 2] hm ⟨rfl, rfl, rfl, trivial⟩ ⟨by decide, rfl⟩
                · replace hm := ifF hm hb52
                  refine WJ.skip ?_
                  refine PJ.block_normal ?_
                  exact PJ.joined (l42, v43) [0, 1] hm ⟨rfl, rfl, rfl, trivial⟩ ⟨by decide, rfl⟩
              · rintro ⟨l46, v47⟩ hm
                subst hk49
                refine WJ.quiet ?_
                refine QJ.step (YldS.yld (y_bin rfl rfl rfl)) rfl ?_
                refine QJ.step (YldS.yld (y_move rfl)) rfl ?_
                refine QJ.done ?_
                exact PJ.round (l46, v47, w64 (x44 + 1)) [0, 1] hm ⟨rfl, rfl, rfl, trivial⟩ ⟨by decide, rfl⟩
            · replace hm := ifF hm hb45
              refine WJ.exit ?_
              refine PJ.then_exit (PJ.then_exit (PJ.block_exit ?_))
              exact PJ.joined (l42, v43) [0, 1] hm ⟨rfl, trivial⟩ ⟨by decide, rfl⟩
        · rintro ⟨l38, v39⟩ hm
          subst hk41
          refine WJ.seq ?_
          refine WJ.reg ?_
          refine SJ.q (YldS.yld (y_loadB (k := 0) (off := 0) (v := v39) rfl Try.isAgg27 rfl rfl)) rfl ?_
          refine SJ.q (YldS.yld (y_iface Try.runUnderlying27 rfl)) rfl ?_
          refine SJ.q (YldS.yld (y_func (bs := [.tmp 11]) rfl)) rfl ?_
          obtain ⟨l58, h59, hm⟩ := bindS hm
          refine SJ.sort (k := 1) (less := fun i j dk => i_InTheAir_c1 i j dk) (lb := [pt g36 0]) sortC50_27 Try.call50 Try.call51 h59 (fun dk i j x y hx hy => by simp only [i_InTheAir_c1, hx, hy, idx2_0, idx2_1]) rfl rfl (fun w dk hw i j b hm => okx_i_InTheAir_c1 hm w _ _ (hw.box_at (k := 0) rfl) (hw.row_rd (k := 1) rfl)) rfl ?_
          refine SJ.nil ?_
          refine PJ.next ?_
          refine WJ.seq ?_
          refine WJ.quiet ?_
          refine QJ.step (YldS.yld (y_loadB (k := 0) (off := 0) (v := v39) rfl Try.isAgg27 rfl rfl)) rfl ?_
          refine QJ.step (YldS.yld (y_assign rfl)) rfl ?_
          refine QJ.step (YldS.yld (y_assign rfl)) rfl ?_
          refine QJ.done ?_
          refine PJ.next ?_
          refine WJ.ret ?_
          obtain rfl := Option.some.inj hm
          refine PJ.sel (L' := [row v39 2 fI64 l58]) [1] ⟨by decide, rfl⟩ ?_
          exact PJ.retn (vs := [v39, .int .i64 0]) Try.results14 ⟨rfl, rfl, trivial⟩ ⟨_, rfl, rfl⟩

set_option maxRecDepth 100000 in
set_option maxHeartbeats 1000000 in
theorem ok_w_a2Has {N : Nat} {list1 : List Int} {n4 : Int} {r : Bool} (hm : w_a2Has N list1 n4 = some r) (w : World) (v2 : Value) (hr3 : RdS w (cx w).Fz v2 fI64.rp list1) :
    Calls Try.prog 15 #[v2, .int .i64 n4] w (Ret (cx w) (.bool r)) := by
  unfold w_a2Has at hm
  refine Calls.enter [v2, .int .i64 n4] Try.func15 rfl Try.ntmps15 rfl ?_
  refine WJ.seq ?_
  refine WJ.quiet ?_
  refine QJ.step (YldS.yld (y_assign rfl)) rfl ?_
  refine QJ.done ?_
  refine PJ.next ?_
  obtain ⟨kj5, hk6, hm⟩ := withK_open hm
  refine WJ.join (X := Unit) (fun (_ : Unit) => kj5  = some r) (fun (_ : Unit) => []) (fun (_ : Unit) => []) ?_ ?_
  · clear hk6
    refine WJ.seq ?_
    refine WJ.quiet ?_
    refine QJ.step (YldS.yld (y_assign rfl)) rfl ?_
    refine QJ.done ?_
    refine PJ.next ?_
    refine WJ.block ?_
    refine WJ.sel (L' := (fun (x : Int) => []) 0) [] ⟨List.nodup_nil, rfl⟩ ?_
    refine WJ.sub (m' := (fun (x : Int) => [(0, v2), (1, .int .i64 n4), (5, .int .i64 x)]) 0) ⟨rfl, rfl, rfl, trivial⟩ ?_
    refine WJ.loop (X := Int) (fun N (x : Int) => w_a2Has_l1 kj5 list1 n4 N x = some r) (fun (x : Int) => [(0, v2), (1, .int .i64 n4), (5, .int .i64 x)]) (fun (x : Int) => []) ?_ N 0 hm
    · rintro N i7 hI
      have hm := hI; clear hI
      cases N with
      | zero => cases hm
      | succ N =>
      unfold w_a2Has_l1 at hm
      refine WJ.seq ?_
      refine WJ.seq ?_
      refine WJ.quiet ?_
      refine QJ.step (YldS.yld (y_move rfl)) rfl ?_
      refine QJ.step (YldS.yld (y_move rfl)) rfl ?_
      refine QJ.step (YldS.yld (y_lenS Try.runUnderlying27 hr3 rfl)) rfl ?_
      refine QJ.step (YldS.yld (y_bin rfl rfl rfl)) rfl ?_
      refine QJ.done ?_
      refine PJ.next ?_
      refine WJ.cond (t := decide (i7 < (List.length list1 : Int))) rfl (fun hb8 => ?_) (fun hb8 => ?_)
      · replace hm := ifT hm hb8
        refine WJ.skip ?_
        refine PJ.next ?_
        refine WJ.seq ?_
        refine WJ.block ?_
        refine WJ.seq ?_
        refine WJ.quiet ?_
        refine QJ.step (YldS.yld (y_move rfl)) rfl ?_
        refine QJ.step (YldS.yld (y_move rfl)) rfl ?_
        obtain ⟨e9, h10, hm⟩ := bindS hm
        obtain ⟨ad11, _, rfl, ha12, hy13⟩ := hr3.elem h10
        refine QJ.step (YldS.yld (hy13 Try.runUnderlying27 Try.sizeOf2 rfl rfl)) rfl ?_
        refine QJ.step (YldS.yld (y_load1 (v := .int .i64 e9) Try.isAgg2 ha12 St.frozenC rfl)) rfl ?_
        refine QJ.step (YldS.yld (y_move rfl)) rfl ?_
        refine QJ.step (YldS.yld (y_bin rfl rfl rfl)) rfl ?_
        refine QJ.done ?_
        refine PJ.next ?_
        refine WJ.cond (t := (e9 == n4)) rfl (fun hb14 => ?_) (fun hb14 => ?_)
        · replace hm := ifT hm hb14
          refine WJ.seq ?_
          refine WJ.quiet ?_
          refine QJ.step (YldS.yld (y_assign rfl)) rfl ?_
          refine QJ.done ?_
          refine PJ.next ?_
          refine WJ.ret ?_
          refine PJ.block_ret (PJ.then_ret (PJ.then_ret (PJ.block_ret (PJ.then_ret ?_))))
          obtain rfl := Option.some.inj hm
          refine PJ.sel (L' := []) [] ⟨List.nodup_nil, rfl⟩ ?_
          exact PJ.retn (vs := [.bool true]) Try.results15 ⟨rfl, trivial⟩ ⟨rfl, rfl⟩
        · replace hm := ifF hm hb14
          refine WJ.skip ?_
          refine PJ.block_normal (PJ.next ?_)
          refine WJ.quiet ?_
          refine QJ.step (YldS.yld (y_move rfl)) rfl ?_
          refine QJ.step (YldS.yld (y_bin rfl rfl rfl)) rfl ?_
          refine QJ.step (YldS.yld (y_assign rfl)) rfl ?_
          refine QJ.done ?_
          exact PJ.round (w64 (i7 + 1)) [] hm ⟨rfl, rfl, rfl, trivial⟩ ⟨List.nodup_nil, rfl⟩
      · replace hm := ifF hm hb8
        refine WJ.exit ?_
        refine PJ.then_exit (PJ.then_exit (PJ.block_exit ?_))
        exact PJ.joined () [] hm trivial ⟨List.nodup_nil, rfl⟩
  · rintro _ hm
    subst hk6
    refine WJ.seq ?_
    refine WJ.quiet ?_
    refine QJ.step (YldS.yld (y_assign rfl)) rfl ?_
    refine QJ.done ?_
    refine PJ.next ?_
    refine WJ.ret ?_
    obtain rfl := Option.some.inj hm
    refine PJ.sel (L' := []) [] ⟨List.nodup_nil, rfl⟩ ?_
    exact PJ.retn (vs := [.bool false]) Try.results15 ⟨rfl, trivial⟩ ⟨rfl, rfl⟩

set_option maxRecDepth 100000 in
set_option maxHeartbeats 1000000 in
theorem ok_i_SlowestPair {N : Nat} {b1 : Basket} {bars2 : List Int} {r : Int × Int} (hm : i_SlowestPair N b1 bars2 = some r) (w : World) (v3 : Value) (hr4 : RdS w (cx w).Fz v3 fI64.rp bars2) :
    Calls Try.prog 16 #[.agg (Basket.enc b1).toArray, v3] w (Ret (cx w) (tup [.int .i64 r.1, .int .i64 r.2])) := by
  unfold i_SlowestPair at hm
  refine Calls.enter [.agg (Basket.enc b1).toArray, v3] Try.func16 rfl Try.ntmps16 rfl ?_
  refine WJ.seq ?_
  refine WJ.reg ?_
  refine SJ.box (cs := [.int .i64 b1.bars, .int .i64 b1.rise, .int .i64 b1.fall, .int .i64 b1.clear, .int .i64 b1.near]) rfl rfl rfl fun g5 => ?_
  refine SJ.q (YldS.yld (y_assign rfl)) rfl ?_
  refine SJ.q (YldS.yld (y_assign rfl)) rfl ?_
  refine SJ.nil ?_
  refine PJ.next ?_
  refine WJ.seq ?_
  refine WJ.seq ?_
  refine WJ.quiet ?_
  refine QJ.step (YldS.yld (y_loadBN (k := 0) (off := 0) (us := [.int .i64 b1.bars, .int .i64 b1.rise, .int .i64 b1.fall, .int .i64 b1.clear, .int .i64 b1.near]) rfl Try.isAgg25 Try.sizeOf25 rfl rfl)) rfl ?_
  obtain ⟨r6, h7, hm⟩ := bindS hm
  refine QJ.step (y_call Try.call43 rfl (RetG.quiet fun w hw => ok_i_ValidBasket h7 w )) rfl ?_
  refine QJ.step (YldS.yld (y_not rfl)) rfl ?_
  refine QJ.done ?_
  refine PJ.next ?_
  refine WJ.cond (t := !r6) rfl (fun hb8 => ?_) (fun hb8 => ?_)
  · replace hm := ifT hm hb8
    refine WJ.seq ?_
    refine WJ.quiet ?_
    refine QJ.step (YldS.yld (y_assign rfl)) rfl ?_
    refine QJ.step (YldS.yld (y_assign rfl)) rfl ?_
    refine QJ.done ?_
    refine PJ.next ?_
    refine WJ.ret ?_
    refine PJ.then_ret ?_
    obtain rfl := Option.some.inj hm
    refine PJ.sel (L' := []) [] ⟨List.nodup_nil, rfl⟩ ?_
    exact PJ.retn (vs := [.int .i64 0, .int .i64 1]) Try.results16 ⟨rfl, rfl, trivial⟩ ⟨rfl, rfl⟩
  · replace hm := ifF hm hb8
    refine WJ.skip ?_
    refine PJ.next ?_
    refine WJ.seq ?_
    refine WJ.seq ?_
    refine WJ.quiet ?_
    refine QJ.step (YldS.yld (y_loadBN (k := 0) (off := 0) (us := [.int .i64 b1.bars, .int .i64 b1.rise, .int .i64 b1.fall, .int .i64 b1.clear, .int .i64 b1.near]) rfl Try.isAgg25 Try.sizeOf25 rfl rfl)) rfl ?_
    refine QJ.step (YldS.yld (y_move rfl)) rfl ?_
    obtain ⟨r9, h10, hm⟩ := bindS hm
    refine QJ.step (y_call Try.call44 rfl (RetG.quiet fun w hw => ok_i_Basket_areBars h10 w _ (hr4.st hw))) rfl ?_
    refine QJ.step (YldS.yld (y_not rfl)) rfl ?_
    refine QJ.done ?_
    refine PJ.next ?_
    refine WJ.cond (t := !r9) rfl (fun hb11 => ?_) (fun hb11 => ?_)
    · replace hm := ifT hm hb11
      refine WJ.seq ?_
      refine WJ.quiet ?_
      refine QJ.step (YldS.yld (y_assign rfl)) rfl ?_
      refine QJ.step (YldS.yld (y_assign rfl)) rfl ?_
      refine QJ.done ?_
      refine PJ.next ?_
      refine WJ.ret ?_
      refine PJ.then_ret ?_
      obtain rfl := Option.some.inj hm
      refine PJ.sel (L' := []) [] ⟨List.nodup_nil, rfl⟩ ?_
      exact PJ.retn (vs := [.int .i64 0, .int .i64 2]) Try.results16 ⟨rfl, rfl, trivial⟩ ⟨rfl, rfl⟩
    · replace hm := ifF hm hb11
      refine WJ.skip ?_
      refine PJ.next ?_
      refine WJ.seq ?_
      refine WJ.seq ?_
      refine WJ.quiet ?_
      refine QJ.step (YldS.yld (y_move rfl)) rfl ?_
      refine QJ.step (YldS.yld (y_lenS Try.runUnderlying27 hr4 rfl)) rfl ?_
      refine QJ.step (YldS.yld (y_bin rfl rfl rfl)) rfl ?_
      refine QJ.done ?_
      refine PJ.next ?_
      refine WJ.cond (t := decide ((List.length bars2 : Int) < 2)) rfl (fun hb12 => ?_) (fun hb12 => ?_)
      · replace hm := ifT hm hb12
        refine WJ.seq ?_
        refine WJ.quiet ?_
        refine QJ.step (YldS.yld (y_assign rfl)) rfl ?_
        refine QJ.step (YldS.yld (y_assign rfl)) rfl ?_
        refine QJ.done ?_
        refine PJ.next ?_
        refine WJ.ret ?_
        refine PJ.then_ret ?_
        obtain rfl := Option.some.inj hm
        refine PJ.sel (L' := []) [] ⟨List.nodup_nil, rfl⟩ ?_
        exact PJ.retn (vs := [.int .i64 0, .int .i64 3]) Try.results16 ⟨rfl, rfl, trivial⟩ ⟨rfl, rfl⟩
      · replace hm := ifF hm hb12
        refine WJ.skip ?_
        refine PJ.next ?_
        refine WJ.seq ?_
        refine WJ.quiet ?_
        refine QJ.step (YldS.yld (y_assign rfl)) rfl ?_
        refine QJ.step (YldS.yld (y_assign rfl)) rfl ?_
        refine QJ.done ?_
        refine PJ.next ?_
        obtain ⟨kj14, hk15, hm⟩ := withK_open hm
        refine WJ.join (X := Int) (fun (x : Int) => kj14 x = some r) (fun (x : Int) => [(6, .int .i64 x)]) (fun (x : Int) => []) ?_ ?_
        · clear hk15
          refine WJ.seq ?_
          refine WJ.quiet ?_
          refine QJ.step (YldS.yld (y_assign rfl)) rfl ?_
          refine QJ.done ?_
          refine PJ.next ?_
          refine WJ.block ?_
          refine WJ.sel (L' := (fun (x : Int × Int × Int) => [box g5 25 [.int .i64 b1.bars, .int .i64 b1.rise, .int .i64 b1.fall, .int .i64 b1.clear, .int .i64 b1.near]]) (1, 0, 1)) [0] ⟨by decide, rfl⟩ ?_
          refine WJ.sub (m' := (fun (x : Int × Int × Int) => [(1, v3), (2, pt g5 0), (6, .int .i64 x.1), (7, .int .i64 x.2.1), (8, .int .i64 x.2.2)]) (1, 0, 1)) ⟨rfl, rfl, rfl, rfl, rfl, trivial⟩ ?_
          refine WJ.loop (X := Int × Int × Int) (fun N (x : Int × Int × Int) => i_SlowestPair_l1 kj14 b1 bars2 N x.1 x.2.1 x.2.2 = some r) (fun (x : Int × Int × Int) => [(1, v3), (2, pt g5 0), (6, .int .i64 x.1), (7, .int .i64 x.2.1), (8, .int .i64 x.2.2)]) (fun (x : Int × Int × Int) => [box g5 25 [.int .i64 b1.bars, .int .i64 b1.rise, .int .i64 b1.fall, .int .i64 b1.clear, .int .i64 b1.near]]) ?_ N (1, 0, 1) hm
          · rintro N ⟨best16, most17, i18⟩ hI
            have hm := hI; clear hI
            cases N with
            | zero => cases hm
            | succ N =>
            unfold i_SlowestPair_l1 at hm
            refine WJ.seq ?_
            refine WJ.seq ?_
            refine WJ.quiet ?_
            refine QJ.step (YldS.yld (y_move rfl)) rfl ?_
            refine QJ.step (YldS.yld (y_move rfl)) rfl ?_
            refine QJ.step (YldS.yld (y_lenS Try.runUnderlying27 hr4 rfl)) rfl ?_
            refine QJ.step (YldS.yld (y_bin rfl rfl rfl)) rfl ?_
            refine QJ.done ?_
            refine PJ.next ?_
            refine WJ.cond (t := decide (i18 < (List.length bars2 : Int))) rfl (fun hb19 => ?_) (fun hb19 => ?_)
            · replace hm := ifT hm hb19
              refine WJ.skip ?_
              refine PJ.next ?_
              obtain ⟨kj22, hk23, hm⟩ := withK_open hm
              refine WJ.join (X := Int × Int) (fun (x : Int × Int) => kj22 x.1 x.2 = some r) (fun (x : Int × Int) => [(1, v3), (2, pt g5 0), (6, .int .i64 x.1), (7, .int .i64 x.2), (8, .int .i64 i18)]) (fun (x : Int × Int) => [box g5 25 [.int .i64 b1.bars, .int .i64 b1.rise, .int .i64 b1.fall, .int .i64 b1.clear, .int .i64 b1.near]]) ?_ ?_
              · clear hk23
                refine WJ.block ?_
                refine WJ.seq ?_
                refine WJ.quiet_draw follows (by kernel_rfl) ?_
                refine QJ.step (YldS.yld (y_loadBN (k := 0) (off := 0) (us := [.int .i64 b1.bars, .int .i64 b1.rise, .int .i64 b1.fall, .int .i64 b1.clear, .int .i64 b1.near]) rfl Try.isAgg25 Try.sizeOf25 rfl rfl)) rfl ?_
                refine QJ.step (YldS.yld (y_move rfl)) rfl ?_
                refine QJ.step (YldS.yld (y_move rfl)) rfl ?_
                refine QJ.step (YldS.yld (y_bin rfl rfl rfl)) rfl ?_
                obtain ⟨e24, h25, hm⟩ := bindS hm
                obtain ⟨ad26, _, rfl, ha27, hy28⟩ := hr4.elem h25
                refine QJ.step (YldS.yld (hy28 Try.runUnderlying27 Try.sizeOf2 rfl rfl)) rfl ?_
                refine QJ.step (YldS.yld (y_load1 (v := .int .i64 e24) Try.isAgg2 ha27 St.frozenC rfl)) rfl ?_
                refine QJ.step (YldS.yld (y_move rfl)) rfl ?_
                refine QJ.step (YldS.yld (y_move rfl)) rfl ?_
                obtain ⟨e29, h30, hm⟩ := bindS hm
                obtain ⟨ad31, _, rfl, ha32, hy33⟩ := hr4.elem h30
                refine QJ.step (YldS.yld (hy33 Try.runUnderlying27 Try.sizeOf2 rfl rfl)) rfl ?_
                refine QJ.step (YldS.yld (y_load1 (v := .int .i64 e29) Try.isAgg2 ha32 St.frozenC rfl)) rfl ?_
                obtain ⟨r34, h35, hm⟩ := bindS hm
                refine QJ.step (y_call Try.call52 rfl (RetG.quiet fun w hw => ok_i_Basket_waits h35 w )) rfl ?_
                refine QJ.step (YldS.yld (y_assign rfl)) rfl ?_
                refine QJ.done ?_
                refine PJ.next ?_
                refine WJ.seq ?_
                refine WJ.quiet ?_
                refine QJ.step (YldS.yld (y_move rfl)) rfl ?_
                refine QJ.step (YldS.yld (y_move rfl)) rfl ?_
                refine QJ.step (YldS.yld (y_bin rfl rfl rfl)) rfl ?_
                refine QJ.done ?_
                refine PJ.next ?_
                refine WJ.cond (t := decide (r34 > most17)) rfl (fun hb36 => ?_) (fun hb36 => ?_)
                · replace hm := ifT hm hb36
                  refine WJ.quiet ?_
                  refine QJ.step (YldS.yld (y_move rfl)) rfl ?_
                  refine QJ.step (YldS.yld (y_move rfl)) rfl ?_
                  refine QJ.step (YldS.yld (y_assign rfl)) rfl ?_
                  refine QJ.step (YldS.yld (y_assign rfl)) rfl ?_
                  refine QJ.done ?_
                  refine PJ.block_normal ?_
                  exact PJ.joined (i18, r34) [0] hm ⟨rfl, rfl, rfl, rfl, rfl, trivial⟩ ⟨by decide, rfl⟩
                · replace hm := ifF hm hb36
                  refine WJ.skip ?_
                  refine PJ.block_normal ?_
                  exact PJ.joined (best16, most17) [0] hm ⟨rfl, rfl, rfl, rfl, rfl, trivial⟩ ⟨by decide, rfl⟩
              · rintro ⟨best20, most21⟩ hm
                subst hk23
                refine WJ.quiet ?_
                refine QJ.step (YldS.yld (y_move rfl)) rfl ?_
                refine QJ.step (YldS.yld (y_bin rfl rfl rfl)) rfl ?_
                refine QJ.step (YldS.yld (y_assign rfl)) rfl ?_
                refine QJ.done ?_
                exact PJ.round (best20, most21, w64 (i18 + 1)) [0] hm ⟨rfl, rfl, rfl, rfl, rfl, trivial⟩ ⟨by decide, rfl⟩
            · replace hm := ifF hm hb19
              refine WJ.exit ?_
              refine PJ.then_exit (PJ.then_exit (PJ.block_exit ?_))
              exact PJ.joined best16 [] hm ⟨rfl, trivial⟩ ⟨List.nodup_nil, rfl⟩
        · rintro best13 hm
          subst hk15
          refine WJ.seq ?_
          refine WJ.quiet ?_
          refine QJ.step (YldS.yld (y_move rfl)) rfl ?_
          refine QJ.step (YldS.yld (y_assign rfl)) rfl ?_
          refine QJ.step (YldS.yld (y_assign rfl)) rfl ?_
          refine QJ.done ?_
          refine PJ.next ?_
          refine WJ.ret ?_
          obtain rfl := Option.some.inj hm
          refine PJ.sel (L' := []) [] ⟨List.nodup_nil, rfl⟩ ?_
          exact PJ.retn (vs := [.int .i64 best13, .int .i64 0]) Try.results16 ⟨rfl, rfl, trivial⟩ ⟨rfl, rfl⟩

set_option maxRecDepth 100000 in
set_option maxHeartbeats 1000000 in
theorem ok_s_l00Size {n1 : Int} {r : Int} (hm : s_l00Size n1 = some r) (w : World)  :
    Calls Try.prog 91 #[.int .i64 n1] w (Ret (cx w) (.int .i64 r)) := by
  unfold s_l00Size at hm
  refine Calls.enter [.int .i64 n1] Try.func91 rfl Try.ntmps91 rfl ?_
  refine WJ.seq ?_
  refine WJ.quiet ?_
  refine QJ.step (YldS.yld (y_assign rfl)) rfl ?_
  refine QJ.done ?_
  refine PJ.next ?_
  refine WJ.seq ?_
  refine WJ.seq ?_
  refine WJ.quiet ?_
  refine QJ.step (YldS.yld (y_move rfl)) rfl ?_
  refine QJ.step (YldS.yld (y_bin rfl rfl rfl)) rfl ?_
  refine QJ.done ?_
  refine PJ.next ?_
  refine WJ.cond (t := decide (n1 < 0)) rfl (fun hb2 => ?_) (fun hb2 => ?_)
  · replace hm := ifT hm hb2
    refine WJ.seq ?_
    refine WJ.quiet ?_
    refine QJ.step (YldS.yld (y_move rfl)) rfl ?_
    refine QJ.step (YldS.yld (y_neg rfl)) rfl ?_
    refine QJ.step (YldS.yld (y_assign rfl)) rfl ?_
    refine QJ.done ?_
    refine PJ.next ?_
    refine WJ.ret ?_
    refine PJ.then_ret ?_
    obtain rfl := Option.some.inj hm
    refine PJ.sel (L' := []) [] ⟨List.nodup_nil, rfl⟩ ?_
    exact PJ.retn (vs := [.int .i64 (w64 (0 - n1))]) Try.results91 ⟨rfl, trivial⟩ ⟨rfl, rfl⟩
  · replace hm := ifF hm hb2
    refine WJ.skip ?_
    refine PJ.next ?_
    refine WJ.seq ?_
    refine WJ.quiet ?_
    refine QJ.step (YldS.yld (y_move rfl)) rfl ?_
    refine QJ.step (YldS.yld (y_assign rfl)) rfl ?_
    refine QJ.done ?_
    refine PJ.next ?_
    refine WJ.ret ?_
    obtain rfl := Option.some.inj hm
    refine PJ.sel (L' := []) [] ⟨List.nodup_nil, rfl⟩ ?_
    exact PJ.retn (vs := [.int .i64 n1]) Try.results91 ⟨rfl, trivial⟩ ⟨rfl, rfl⟩

set_option maxRecDepth 100000 in
set_option maxHeartbeats 1000000 in
theorem ok_s_l00Max {a1 : Int} {b2 : Int} {r : Int} (hm : s_l00Max a1 b2 = some r) (w : World)  :
    Calls Try.prog 90 #[.int .i64 a1, .int .i64 b2] w (Ret (cx w) (.int .i64 r)) := by
  unfold s_l00Max at hm
  refine Calls.enter [.int .i64 a1, .int .i64 b2] Try.func90 rfl Try.ntmps90 rfl ?_
  refine WJ.seq ?_
  refine WJ.quiet ?_
  refine QJ.step (YldS.yld (y_assign rfl)) rfl ?_
  refine QJ.done ?_
  refine PJ.next ?_
  refine WJ.seq ?_
  refine WJ.seq ?_
  refine WJ.quiet ?_
  refine QJ.step (YldS.yld (y_move rfl)) rfl ?_
  refine QJ.step (YldS.yld (y_move rfl)) rfl ?_
  refine QJ.step (YldS.yld (y_bin rfl rfl rfl)) rfl ?_
  refine QJ.done ?_
  refine PJ.next ?_
  refine WJ.cond (t := decide (a1 > b2)) rfl (fun hb3 => ?_) (fun hb3 => ?_)
  · replace hm := ifT hm hb3
    refine WJ.seq ?_
    refine WJ.quiet ?_
    refine QJ.step (YldS.yld (y_move rfl)) rfl ?_
    refine QJ.step (YldS.yld (y_assign rfl)) rfl ?_
    refine QJ.done ?_
    refine PJ.next ?_
    refine WJ.ret ?_
    refine PJ.then_ret ?_
    obtain rfl := Option.some.inj hm
    refine PJ.sel (L' := []) [] ⟨List.nodup_nil, rfl⟩ ?_
    exact PJ.retn (vs := [.int .i64 a1]) Try.results90 ⟨rfl, trivial⟩ ⟨rfl, rfl⟩
  · replace hm := ifF hm hb3
    refine WJ.skip ?_
    refine PJ.next ?_
    refine WJ.seq ?_
    refine WJ.quiet ?_
    refine QJ.step (YldS.yld (y_move rfl)) rfl ?_
    refine QJ.step (YldS.yld (y_assign rfl)) rfl ?_
    refine QJ.done ?_
    refine PJ.next ?_
    refine WJ.ret ?_
    obtain rfl := Option.some.inj hm
    refine PJ.sel (L' := []) [] ⟨List.nodup_nil, rfl⟩ ?_
    exact PJ.retn (vs := [.int .i64 b2]) Try.results90 ⟨rfl, trivial⟩ ⟨rfl, rfl⟩

set_option maxRecDepth 100000 in
set_option maxHeartbeats 1000000 in
theorem ok_s_l03Wait {b1 : Basket} {a2 : Int} {c3 : Int} {r : Int} (hm : s_l03Wait b1 a2 c3 = some r) (w : World)  :
    Calls Try.prog 55 #[.agg (Basket.enc b1).toArray, .int .i64 a2, .int .i64 c3] w (Ret (cx w) (.int .i64 r)) := by
  unfold s_l03Wait at hm
  refine Calls.enter [.agg (Basket.enc b1).toArray, .int .i64 a2, .int .i64 c3] Try.func55 rfl Try.ntmps55 rfl ?_
  refine WJ.seq ?_
  refine WJ.reg ?_
  refine SJ.box (cs := [.int .i64 b1.bars, .int .i64 b1.rise, .int .i64 b1.fall, .int .i64 b1.clear, .int .i64 b1.near]) rfl rfl rfl fun g4 => ?_
  refine SJ.q (YldS.yld (y_assign rfl)) rfl ?_
  refine SJ.nil ?_
  refine PJ.next ?_
  refine WJ.seq ?_
  refine WJ.seq ?_
  refine WJ.quiet ?_
  refine QJ.step (YldS.yld (y_move rfl)) rfl ?_
  refine QJ.step (YldS.yld (y_move rfl)) rfl ?_
  refine QJ.step (YldS.yld (y_bin rfl rfl rfl)) rfl ?_
  refine QJ.done ?_
  refine PJ.next ?_
  refine WJ.cond (t := (a2 == c3)) rfl (fun hb5 => ?_) (fun hb5 => ?_)
  · replace hm := ifT hm hb5
    refine WJ.seq ?_
    refine WJ.quiet ?_
    refine QJ.step (YldS.yld (y_fldB (o := 0) fld25_1 rfl)) rfl ?_
    refine QJ.step (YldS.yld (y_loadB (k := 0) (off := 1) (v := .int .i64 b1.rise) rfl Try.isAgg2 rfl rfl)) rfl ?_
    refine QJ.step (YldS.yld (y_fldB (o := 0) fld25_2 rfl)) rfl ?_
    refine QJ.step (YldS.yld (y_loadB (k := 0) (off := 2) (v := .int .i64 b1.fall) rfl Try.isAgg2 rfl rfl)) rfl ?_
    refine QJ.step (YldS.yld (y_bin rfl rfl rfl)) rfl ?_
    refine QJ.step (YldS.yld (y_assign rfl)) rfl ?_
    refine QJ.done ?_
    refine PJ.next ?_
    refine WJ.ret ?_
    refine PJ.then_ret ?_
    obtain rfl := Option.some.inj hm
    refine PJ.sel (L' := []) [] ⟨List.nodup_nil, rfl⟩ ?_
    exact PJ.retn (vs := [.int .i64 (w64 (b1.rise + b1.fall))]) Try.results55 ⟨rfl, trivial⟩ ⟨rfl, rfl⟩
  · replace hm := ifF hm hb5
    refine WJ.skip ?_
    refine PJ.next ?_
    refine WJ.seq ?_
    refine WJ.quiet_draw follows (by kernel_rfl) ?_
    refine QJ.step (YldS.yld (y_fldB (o := 0) fld25_3 rfl)) rfl ?_
    refine QJ.step (YldS.yld (y_loadB (k := 0) (off := 3) (v := .int .i64 b1.clear) rfl Try.isAgg2 rfl rfl)) rfl ?_
    refine QJ.step (YldS.yld (y_fldB (o := 0) fld25_4 rfl)) rfl ?_
    refine QJ.step (YldS.yld (y_loadB (k := 0) (off := 4) (v := .int .i64 b1.near) rfl Try.isAgg2 rfl rfl)) rfl ?_
    refine QJ.step (YldS.yld (y_move rfl)) rfl ?_
    refine QJ.step (YldS.yld (y_move rfl)) rfl ?_
    refine QJ.step (YldS.yld (y_bin rfl rfl rfl)) rfl ?_
    obtain ⟨r6, h7, hm⟩ := bindS hm
    refine QJ.step (y_call Try.call91 rfl (RetG.quiet fun w hw => ok_s_l00Size h7 w )) rfl ?_
    refine QJ.step (YldS.yld (y_bin rfl rfl rfl)) rfl ?_
    obtain ⟨r8, h9, hm⟩ := bindS hm
    refine QJ.step (y_call Try.call90 rfl (RetG.quiet fun w hw => ok_s_l00Max h9 w )) rfl ?_
    refine QJ.step (YldS.yld (y_bin rfl rfl rfl)) rfl ?_
    refine QJ.step (YldS.yld (y_assign rfl)) rfl ?_
    refine QJ.done ?_
    refine PJ.next ?_
    refine WJ.ret ?_
    obtain rfl := Option.some.inj hm
    refine PJ.sel (L' := []) [] ⟨List.nodup_nil, rfl⟩ ?_
    exact PJ.retn (vs := [.int .i64 (w64 (b1.clear + r8))]) Try.results55 ⟨rfl, trivial⟩ ⟨rfl, rfl⟩

set_option maxRecDepth 100000 in
set_option maxHeartbeats 1000000 in
theorem ok_s_MustWait {b1 : Basket} {first2 : Int} {second3 : Int} {r : Int × Int} (hm : s_MustWait b1 first2 second3 = some r) (w : World)  :
    Calls Try.prog 17 #[.agg (Basket.enc b1).toArray, .int .i64 first2, .int .i64 second3] w (Ret (cx w) (tup [.int .i64 r.1, .int .i64 r.2])) := by
  unfold s_MustWait at hm
  refine Calls.enter [.agg (Basket.enc b1).toArray, .int .i64 first2, .int .i64 second3] Try.func17 rfl Try.ntmps17 rfl ?_
  refine WJ.seq ?_
  refine WJ.reg ?_
  refine SJ.box (cs := [.int .i64 b1.bars, .int .i64 b1.rise, .int .i64 b1.fall, .int .i64 b1.clear, .int .i64 b1.near]) rfl rfl rfl fun g4 => ?_
  refine SJ.q (YldS.yld (y_assign rfl)) rfl ?_
  refine SJ.q (YldS.yld (y_assign rfl)) rfl ?_
  refine SJ.nil ?_
  refine PJ.next ?_
  refine WJ.seq ?_
  refine WJ.seq ?_
  refine WJ.quiet ?_
  refine QJ.step (YldS.yld (y_loadBN (k := 0) (off := 0) (us := [.int .i64 b1.bars, .int .i64 b1.rise, .int .i64 b1.fall, .int .i64 b1.clear, .int .i64 b1.near]) rfl Try.isAgg25 Try.sizeOf25 rfl rfl)) rfl ?_
  obtain ⟨r5, h6, hm⟩ := bindS hm
  refine QJ.step (y_call Try.call53 rfl (RetG.quiet fun w hw => ok_s_l03Ok h6 w )) rfl ?_
  refine QJ.step (YldS.yld (y_not rfl)) rfl ?_
  refine QJ.done ?_
  refine PJ.next ?_
  refine WJ.cond (t := !r5) rfl (fun hb7 => ?_) (fun hb7 => ?_)
  · replace hm := ifT hm hb7
    refine WJ.seq ?_
    refine WJ.quiet ?_
    refine QJ.step (YldS.yld (y_assign rfl)) rfl ?_
    refine QJ.step (YldS.yld (y_assign rfl)) rfl ?_
    refine QJ.done ?_
    refine PJ.next ?_
    refine WJ.ret ?_
    refine PJ.then_ret ?_
    obtain rfl := Option.some.inj hm
    refine PJ.sel (L' := []) [] ⟨List.nodup_nil, rfl⟩ ?_
    exact PJ.retn (vs := [.int .i64 0, .int .i64 1]) Try.results17 ⟨rfl, rfl, trivial⟩ ⟨rfl, rfl⟩
  · replace hm := ifF hm hb7
    refine WJ.skip ?_
    refine PJ.next ?_
    refine WJ.seq ?_
    refine WJ.seq ?_
    refine WJ.quiet ?_
    refine QJ.step (YldS.yld (y_loadBN (k := 0) (off := 0) (us := [.int .i64 b1.bars, .int .i64 b1.rise, .int .i64 b1.fall, .int .i64 b1.clear, .int .i64 b1.near]) rfl Try.isAgg25 Try.sizeOf25 rfl rfl)) rfl ?_
    refine QJ.step (YldS.yld (y_move rfl)) rfl ?_
    obtain ⟨r8, h9, hm⟩ := bindS hm
    refine QJ.step (y_call Try.call54 rfl (RetG.quiet fun w hw => ok_s_l03Bar h9 w )) rfl ?_
    refine QJ.step (YldS.yld (y_not rfl)) rfl ?_
    refine QJ.step (YldS.yld (y_move rfl)) rfl ?_
    obtain ⟨t10, h11, hm⟩ := bindS hm
    refine QJ.cut 5 [(1, .int .i64 first2), (2, .int .i64 second3), (3, pt g4 0), (20, .bool t10)] ?_ ?_
    · rcases Bool.eq_false_or_eq_true (!r8) with hb12 | hb12
      · obtain rfl := orT h11 hb12
        refine QJ.off rfl rfl (cB hb12) rfl rfl ?_
        refine QJ.off rfl rfl (cB hb12) rfl rfl ?_
        refine QJ.off rfl rfl (cB hb12) rfl rfl ?_
        refine QJ.off rfl rfl (cB hb12) rfl rfl ?_
        refine QJ.step (YldS.yld (y_pick_t (cB hb12) rfl)) rfl ?_
        exact QJ.cut_end ⟨rfl, rfl, rfl, rfl, trivial⟩
      · replace h11 := orF h11 hb12
        refine QJ.on rfl rfl (cB hb12) (YldS.yld (y_loadBN (k := 0) (off := 0) (us := [.int .i64 b1.bars, .int .i64 b1.rise, .int .i64 b1.fall, .int .i64 b1.clear, .int .i64 b1.near]) rfl Try.isAgg25 Try.sizeOf25 rfl rfl)) rfl ?_
        refine QJ.on rfl rfl (cB hb12) (YldS.yld (y_move rfl)) rfl ?_
        obtain ⟨r13, h14, h11⟩ := bindS h11
        refine QJ.on rfl rfl (cB hb12) (y_call Try.call54 rfl (RetG.quiet fun w hw => ok_s_l03Bar h14 w )) rfl ?_
        refine QJ.on rfl rfl (cB hb12) (YldS.yld (y_not rfl)) rfl ?_
        refine QJ.step (YldS.yld (y_pick_f (cB hb12) rfl)) rfl ?_
        obtain rfl := Option.some.inj h11
        exact QJ.cut_end ⟨rfl, rfl, rfl, rfl, trivial⟩
    refine QJ.done ?_
    refine PJ.next ?_
    refine WJ.cond (t := t10) rfl (fun hb15 => ?_) (fun hb15 => ?_)
    · replace hm := ifT hm hb15
      refine WJ.seq ?_
      refine WJ.quiet ?_
      refine QJ.step (YldS.yld (y_assign rfl)) rfl ?_
      refine QJ.step (YldS.yld (y_assign rfl)) rfl ?_
      refine QJ.done ?_
      refine PJ.next ?_
      refine WJ.ret ?_
      refine PJ.then_ret ?_
      obtain rfl := Option.some.inj hm
      refine PJ.sel (L' := []) [] ⟨List.nodup_nil, rfl⟩ ?_
      exact PJ.retn (vs := [.int .i64 0, .int .i64 2]) Try.results17 ⟨rfl, rfl, trivial⟩ ⟨rfl, rfl⟩
    · replace hm := ifF hm hb15
      refine WJ.skip ?_
      refine PJ.next ?_
      refine WJ.seq ?_
      refine WJ.quiet ?_
      refine QJ.step (YldS.yld (y_loadBN (k := 0) (off := 0) (us := [.int .i64 b1.bars, .int .i64 b1.rise, .int .i64 b1.fall, .int .i64 b1.clear, .int .i64 b1.near]) rfl Try.isAgg25 Try.sizeOf25 rfl rfl)) rfl ?_
      refine QJ.step (YldS.yld (y_move rfl)) rfl ?_
      refine QJ.step (YldS.yld (y_move rfl)) rfl ?_
      obtain ⟨r16, h17, hm⟩ := bindS hm
      refine QJ.step (y_call Try.call55 rfl (RetG.quiet fun w hw => ok_s_l03Wait h17 w )) rfl ?_
      refine QJ.step (YldS.yld (y_assign rfl)) rfl ?_
      refine QJ.step (YldS.yld (y_assign rfl)) rfl ?_
      refine QJ.done ?_
      refine PJ.next ?_
      refine WJ.ret ?_
      obtain rfl := Option.some.inj hm
      refine PJ.sel (L' := []) [] ⟨List.nodup_nil, rfl⟩ ?_
      exact PJ.retn (vs := [.int .i64 r16, .int .i64 0]) Try.results17 ⟨rfl, rfl, trivial⟩ ⟨rfl, rfl⟩

set_option maxRecDepth 100000 in
set_option maxHeartbeats 1000000 in
theorem ok_w_FnFastest {N : Nat} {code1 : List UInt8} {more4 : List UInt8} {r : Bool} (hm : w_FnFastest N code1 more4 = some r) (w : World) (v2 : Value) (hr3 : RdS w (cx w).Fz v2 fByte.rp code1) (v5 : Value) (hr6 : RdS w (cx w).Fz v5 fByte.rp more4) :
    Calls Try.prog 3 #[v2, v5] w (Ret (cx w) (.bool r)) := by
  unfold w_FnFastest at hm
  refine Calls.enter [v2, v5] Try.func3 rfl Try.ntmps3 rfl ?_
  refine WJ.seq ?_
  refine WJ.quiet ?_
  refine QJ.step (YldS.yld (y_assign rfl)) rfl ?_
  refine QJ.done ?_
  refine PJ.next ?_
  refine WJ.seq ?_
  refine WJ.seq ?_
  refine WJ.quiet ?_
  refine QJ.step (YldS.yld (y_move rfl)) rfl ?_
  refine QJ.step (YldS.yld (y_move rfl)) rfl ?_
  obtain ⟨r7, h8, hm⟩ := bindS hm
  refine QJ.step (y_call Try.call7 rfl (RetG.quiet fun w hw => ok_w_a2Long h8 w _ (hr3.st hw) _ (hr6.st hw))) rfl ?_
  refine QJ.done ?_
  refine PJ.next ?_
  refine WJ.cond (t := r7) rfl (fun hb9 => ?_) (fun hb9 => ?_)
  · replace hm := ifT hm hb9
    refine WJ.seq ?_
    refine WJ.quiet ?_
    refine QJ.step (YldS.yld (y_assign rfl)) rfl ?_
    refine QJ.done ?_
    refine PJ.next ?_
    refine WJ.ret ?_
    refine PJ.then_ret ?_
    obtain rfl := Option.some.inj hm
    refine PJ.sel (L' := []) [] ⟨List.nodup_nil, rfl⟩ ?_
    exact PJ.retn (vs := [.bool true]) Try.results3 ⟨rfl, trivial⟩ ⟨rfl, rfl⟩
  · replace hm := ifF hm hb9
    refine WJ.skip ?_
    refine PJ.next ?_
    refine WJ.seq ?_
    refine WJ.reg ?_
    refine SJ.q (YldS.yld (y_move rfl)) rfl ?_
    obtain ⟨r10, h11, hm⟩ := bindS hm
    refine SJ.q (y_call Try.call8 rfl (RetG.quiet fun w hw => ok_s_A2Basket h11 w _ (hr3.st hw))) rfl ?_
    refine SJ.alloc (cs := [.int .i64 0, .int .i64 0, .int .i64 0, .int .i64 0, .int .i64 0]) Try.zeroValue25 rfl rfl fun g12 => ?_
    refine SJ.storeL (k := 0) (off := 0) (us := [.int .i64 r10.bars, .int .i64 r10.rise, .int .i64 r10.fall, .int .i64 r10.clear, .int .i64 r10.near]) rfl rfl rfl rfl Try.sizeOf25 rfl rfl ?_
    refine SJ.nil ?_
    refine PJ.next ?_
    refine WJ.seq ?_
    refine WJ.reg ?_
    refine SJ.q (YldS.yld (y_move rfl)) rfl ?_
    refine SJ.q (YldS.yld (y_loadBN (k := 0) (off := 0) (us := [.int .i64 r10.bars, .int .i64 r10.rise, .int .i64 r10.fall, .int .i64 r10.clear, .int .i64 r10.near]) rfl Try.isAgg25 Try.sizeOf25 rfl rfl)) rfl ?_
    obtain ⟨r13, h14, hm⟩ := bindS hm
    refine SJ.call Try.call9 rfl (fun w hw => ok_s_A2Bars h14 w _ (hr6.st hw)) rfl ?_
    rintro v15 _ ⟨_, rfl, rfl⟩
    refine SJ.q (YldS.yld (y_assign rfl)) rfl ?_
    refine SJ.nil ?_
    refine PJ.next ?_
    refine WJ.seq ?_
    refine WJ.reg ?_
    refine SJ.q (YldS.yld (y_loadBN (k := 1) (off := 0) (us := [.int .i64 r10.bars, .int .i64 r10.rise, .int .i64 r10.fall, .int .i64 r10.clear, .int .i64 r10.near]) rfl Try.isAgg25 Try.sizeOf25 rfl rfl)) rfl ?_
    refine SJ.q (YldS.yld (y_move rfl)) rfl ?_
    obtain ⟨r16, h17, hm⟩ := bindS hm
    refine SJ.call Try.call10 rfl (fun w hw => ok_i_FastestStrokes h17 w _ (hw.row_rd (k := 0) rfl)) rfl ?_
    rintro _ _ ⟨v18, rfl, rfl⟩
    refine SJ.q (YldS.yld (y_move rfl)) rfl ?_
    refine SJ.q (YldS.yld (y_extract rfl rfl)) rfl ?_
    refine SJ.q (YldS.yld (y_extract rfl rfl)) rfl ?_
    refine SJ.q (YldS.yld (y_assign rfl)) rfl ?_
    refine SJ.q (YldS.yld (y_assign rfl)) rfl ?_
    refine SJ.nil ?_
    refine PJ.next ?_
    refine WJ.seq ?_
    refine WJ.quiet ?_
    refine QJ.step (YldS.yld (y_loadBN (k := 2) (off := 0) (us := [.int .i64 r10.bars, .int .i64 r10.rise, .int .i64 r10.fall, .int .i64 r10.clear, .int .i64 r10.near]) rfl Try.isAgg25 Try.sizeOf25 rfl rfl)) rfl ?_
    refine QJ.step (YldS.yld (y_move rfl)) rfl ?_
    obtain ⟨r19, h20, hm⟩ := bindS hm
    refine QJ.step (y_call Try.call11 rfl (RetG.quiet fun w hw => ok_i_TicksFor h20 w _ (hw.row_rd (k := 1) rfl))) rfl ?_
    refine QJ.step (YldS.yld (y_move rfl)) rfl ?_
    refine QJ.step (YldS.yld (y_extract rfl rfl)) rfl ?_
    refine QJ.step (YldS.yld (y_extract rfl rfl)) rfl ?_
    refine QJ.step (YldS.yld (y_assign rfl)) rfl ?_
    refine QJ.step (YldS.yld (y_assign rfl)) rfl ?_
    refine QJ.done ?_
    refine PJ.next ?_
    refine WJ.seq ?_
    refine WJ.seq ?_
    refine WJ.quiet ?_
    refine QJ.step (YldS.yld (y_move rfl)) rfl ?_
    refine QJ.step (YldS.yld (y_bin rfl rfl rfl)) rfl ?_
    refine QJ.step (YldS.yld (y_move rfl)) rfl ?_
    obtain ⟨t21, h22, hm⟩ := bindS hm
    refine QJ.cut 6 [(5, pt g12 0), (6, v15), (7, v18), (9, .int .i64 r19.1), (10, .int .i64 r19.2), (56, .bool t21)] ?_ ?_
    · rcases Bool.eq_false_or_eq_true (r16.2 != 0) with hb23 | hb23
      · obtain rfl := orT h22 hb23
        refine QJ.off rfl rfl (cB hb23) rfl rfl ?_
        refine QJ.off rfl rfl (cB hb23) rfl rfl ?_
        refine QJ.off rfl rfl (cB hb23) rfl rfl ?_
        refine QJ.off rfl rfl (cB hb23) rfl rfl ?_
        refine QJ.off rfl rfl (cB hb23) rfl rfl ?_
        refine QJ.step (YldS.yld (y_pick_t (cB hb23) rfl)) rfl ?_
        exact QJ.cut_end ⟨rfl, rfl, rfl, rfl, rfl, rfl, trivial⟩
      · replace h22 := orF h22 hb23
        refine QJ.on rfl rfl (cB hb23) (YldS.yld (y_move rfl)) rfl ?_
        refine QJ.on rfl rfl (cB hb23) (YldS.yld (y_lenRow (k := 0) rfl Try.runUnderlying29 rfl)) rfl ?_
        refine QJ.on rfl rfl (cB hb23) (YldS.yld (y_move rfl)) rfl ?_
        refine QJ.on rfl rfl (cB hb23) (YldS.yld (y_lenRow (k := 1) rfl Try.runUnderlying27 rfl)) rfl ?_
        refine QJ.on rfl rfl (cB hb23) (YldS.yld (y_bin rfl rfl rfl)) rfl ?_
        refine QJ.step (YldS.yld (y_pick_f (cB hb23) rfl)) rfl ?_
        obtain rfl := Option.some.inj h22
        exact QJ.cut_end ⟨rfl, rfl, rfl, rfl, rfl, rfl, trivial⟩
    refine QJ.step (YldS.yld (y_move rfl)) rfl ?_
    obtain ⟨t24, h25, hm⟩ := bindS hm
    refine QJ.cut 3 [(5, pt g12 0), (6, v15), (7, v18), (9, .int .i64 r19.1), (60, .bool t24)] ?_ ?_
    · rcases Bool.eq_false_or_eq_true t21 with hb26 | hb26
      · obtain rfl := orT h25 hb26
        refine QJ.off rfl rfl (cB hb26) rfl rfl ?_
        refine QJ.off rfl rfl (cB hb26) rfl rfl ?_
        refine QJ.step (YldS.yld (y_pick_t (cB hb26) rfl)) rfl ?_
        exact QJ.cut_end ⟨rfl, rfl, rfl, rfl, rfl, trivial⟩
      · replace h25 := orF h25 hb26
        refine QJ.on rfl rfl (cB hb26) (YldS.yld (y_move rfl)) rfl ?_
        refine QJ.on rfl rfl (cB hb26) (YldS.yld (y_bin rfl rfl rfl)) rfl ?_
        refine QJ.step (YldS.yld (y_pick_f (cB hb26) rfl)) rfl ?_
        obtain rfl := Option.some.inj h25
        exact QJ.cut_end ⟨rfl, rfl, rfl, rfl, rfl, trivial⟩
    refine QJ.step (YldS.yld (y_move rfl)) rfl ?_
    obtain ⟨t27, h28, hm⟩ := bindS hm
    refine QJ.cut 5 [(5, pt g12 0), (6, v15), (7, v18), (9, .int .i64 r19.1), (66, .bool t27)] ?_ ?_
    · rcases Bool.eq_false_or_eq_true t24 with hb29 | hb29
      · obtain rfl := orT h28 hb29
        refine QJ.off rfl rfl (cB hb29) rfl rfl ?_
        refine QJ.off rfl rfl (cB hb29) rfl rfl ?_
        refine QJ.off rfl rfl (cB hb29) rfl rfl ?_
        refine QJ.off rfl rfl (cB hb29) rfl rfl ?_
        refine QJ.step (YldS.yld (y_pick_t (cB hb29) rfl)) rfl ?_
        exact QJ.cut_end ⟨rfl, rfl, rfl, rfl, rfl, trivial⟩
      · replace h28 := orF h28 hb29
        refine QJ.on rfl rfl (cB hb29) (YldS.yld (y_loadBN (k := 2) (off := 0) (us := [.int .i64 r10.bars, .int .i64 r10.rise, .int .i64 r10.fall, .int .i64 r10.clear, .int .i64 r10.near]) rfl Try.isAgg25 Try.sizeOf25 rfl rfl)) rfl ?_
        refine QJ.on rfl rfl (cB hb29) (YldS.yld (y_move rfl)) rfl ?_
        obtain ⟨r30, h31, h28⟩ := bindS h28
        refine QJ.on rfl rfl (cB hb29) (y_call Try.call12 rfl (RetG.quiet fun w hw => ok_s_ValidStrokes h31 w _ (hw.row_rd (k := 0) rfl))) rfl ?_
        refine QJ.on rfl rfl (cB hb29) (YldS.yld (y_not rfl)) rfl ?_
        refine QJ.step (YldS.yld (y_pick_f (cB hb29) rfl)) rfl ?_
        obtain rfl := Option.some.inj h28
        exact QJ.cut_end ⟨rfl, rfl, rfl, rfl, rfl, trivial⟩
    refine QJ.done ?_
    refine PJ.next ?_
    refine WJ.cond (t := t27) rfl (fun hb32 => ?_) (fun hb32 => ?_)
    · replace hm := ifT hm hb32
      refine WJ.seq ?_
      refine WJ.quiet ?_
      refine QJ.step (YldS.yld (y_assign rfl)) rfl ?_
      refine QJ.done ?_
      refine PJ.next ?_
      refine WJ.ret ?_
      refine PJ.then_ret ?_
      obtain rfl := Option.some.inj hm
      refine PJ.sel (L' := []) [] ⟨List.nodup_nil, rfl⟩ ?_
      exact PJ.retn (vs := [.bool false]) Try.results3 ⟨rfl, trivial⟩ ⟨rfl, rfl⟩
    · replace hm := ifF hm hb32
      refine WJ.skip ?_
      refine PJ.next ?_
      refine WJ.seq ?_
      refine WJ.quiet ?_
      refine QJ.step (YldS.yld (y_loadBN (k := 2) (off := 0) (us := [.int .i64 r10.bars, .int .i64 r10.rise, .int .i64 r10.fall, .int .i64 r10.clear, .int .i64 r10.near]) rfl Try.isAgg25 Try.sizeOf25 rfl rfl)) rfl ?_
      refine QJ.step (YldS.yld (y_move rfl)) rfl ?_
      obtain ⟨r33, h34, hm⟩ := bindS hm
      refine QJ.step (y_call Try.call13 rfl (RetG.quiet fun w hw => ok_i_CountJams h34 w _ (hw.row_rd (k := 0) rfl))) rfl ?_
      refine QJ.step (YldS.yld (y_move rfl)) rfl ?_
      refine QJ.step (YldS.yld (y_extract rfl rfl)) rfl ?_
      refine QJ.step (YldS.yld (y_extract rfl rfl)) rfl ?_
      refine QJ.step (YldS.yld (y_assign rfl)) rfl ?_
      refine QJ.step (YldS.yld (y_assign rfl)) rfl ?_
      refine QJ.done ?_
      refine PJ.next ?_
      refine WJ.seq ?_
      refine WJ.seq ?_
      refine WJ.quiet ?_
      refine QJ.step (YldS.yld (y_move rfl)) rfl ?_
      refine QJ.step (YldS.yld (y_bin rfl rfl rfl)) rfl ?_
      refine QJ.step (YldS.yld (y_move rfl)) rfl ?_
      obtain ⟨t35, h36, hm⟩ := bindS hm
      refine QJ.cut 3 [(5, pt g12 0), (6, v15), (7, v18), (9, .int .i64 r19.1), (78, .bool t35)] ?_ ?_
      · rcases Bool.eq_false_or_eq_true (r33.2 != 0) with hb37 | hb37
        · obtain rfl := orT h36 hb37
          refine QJ.off rfl rfl (cB hb37) rfl rfl ?_
          refine QJ.off rfl rfl (cB hb37) rfl rfl ?_
          refine QJ.step (YldS.yld (y_pick_t (cB hb37) rfl)) rfl ?_
          exact QJ.cut_end ⟨rfl, rfl, rfl, rfl, rfl, trivial⟩
        · replace h36 := orF h36 hb37
          refine QJ.on rfl rfl (cB hb37) (YldS.yld (y_move rfl)) rfl ?_
          refine QJ.on rfl rfl (cB hb37) (YldS.yld (y_bin rfl rfl rfl)) rfl ?_
          refine QJ.step (YldS.yld (y_pick_f (cB hb37) rfl)) rfl ?_
          obtain rfl := Option.some.inj h36
          exact QJ.cut_end ⟨rfl, rfl, rfl, rfl, rfl, trivial⟩
      refine QJ.step (YldS.yld (y_move rfl)) rfl ?_
      obtain ⟨t38, h39, hm⟩ := bindS hm
      refine QJ.cut 11 [(5, pt g12 0), (6, v15), (7, v18), (9, .int .i64 r19.1), (90, .bool t38)] ?_ ?_
      · rcases Bool.eq_false_or_eq_true t35 with hb40 | hb40
        · obtain rfl := orT h39 hb40
          refine QJ.off rfl rfl (cB hb40) rfl rfl ?_
          refine QJ.off rfl rfl (cB hb40) rfl rfl ?_
          refine QJ.off rfl rfl (cB hb40) rfl rfl ?_
          refine QJ.off rfl rfl (cB hb40) rfl rfl ?_
          refine QJ.off_undef rfl rfl rfl rfl ?_
          refine QJ.off_undef rfl rfl rfl rfl ?_
          refine QJ.off_undef rfl rfl rfl rfl ?_
          refine QJ.off_undef rfl rfl rfl rfl ?_
          refine QJ.off_undef rfl rfl rfl rfl ?_
          refine QJ.off rfl rfl (cB hb40) rfl rfl ?_
          refine QJ.step (YldS.yld (y_pick_t (cB hb40) rfl)) rfl ?_
          exact QJ.cut_end ⟨rfl, rfl, rfl, rfl, rfl, trivial⟩
        · replace h39 := orF h39 hb40
          refine QJ.on rfl rfl (cB hb40) (YldS.yld (y_move rfl)) rfl ?_
          refine QJ.on rfl rfl (cB hb40) (YldS.yld (y_lenRow (k := 0) rfl Try.runUnderlying29 rfl)) rfl ?_
          refine QJ.on rfl rfl (cB hb40) (YldS.yld (y_bin rfl rfl rfl)) rfl ?_
          refine QJ.on rfl rfl (cB hb40) (YldS.yld (y_move rfl)) rfl ?_
          obtain ⟨t41, h42, h39⟩ := bindS h39
          refine QJ.cut 6 [(5, pt g12 0), (6, v15), (7, v18), (9, .int .i64 r19.1), (79, .bool t35), (89, .bool t41)] ?_ ?_
          · rcases Bool.eq_false_or_eq_true (decide ((List.length r16.1 : Int) > 0)) with hb43 | hb43
            · replace h42 := andT h42 hb43
              refine QJ.on rfl rfl (cB hb43) (YldS.yld (y_move rfl)) rfl ?_
              obtain ⟨e44, h45, h42⟩ := bindS h42
              refine QJ.on rfl rfl (cB hb43) (YldS.yld (y_ixRow (k := 0) (R := fStroke) rfl Try.runUnderlying29 Try.sizeOf37 rfl rfl h45)) rfl ?_
              refine QJ.on rfl rfl (cB hb43) (YldS.yld (y_fldR fld37_1 rfl)) rfl ?_
              refine QJ.on rfl rfl (cB hb43) (YldS.yld (y_loadR (k := 0) (i := (Int.toNat 0)) (off := 1) (u := .int .i64 e44.tick) rfl Try.isAgg2 rfl (idx_get h45) rfl)) rfl ?_
              refine QJ.on rfl rfl (cB hb43) (YldS.yld (y_bin rfl rfl rfl)) rfl ?_
              refine QJ.on rfl rfl (cB hb40) (YldS.yld (y_pick_t (cB hb43) rfl)) rfl ?_
              obtain rfl := Option.some.inj h42
              exact QJ.cut_end ⟨rfl, rfl, rfl, rfl, rfl, rfl, trivial⟩
            · obtain rfl := andF h42 hb43
              refine QJ.off rfl rfl (cB hb43) rfl rfl ?_
              refine QJ.off rfl rfl (cB hb43) rfl rfl ?_
              refine QJ.off rfl rfl (cB hb43) rfl rfl ?_
              refine QJ.off rfl rfl (cB hb43) rfl rfl ?_
              refine QJ.off rfl rfl (cB hb43) rfl rfl ?_
              refine QJ.on rfl rfl (cB hb40) (YldS.yld (y_pick_f (cB hb43) rfl)) rfl ?_
              exact QJ.cut_end ⟨rfl, rfl, rfl, rfl, rfl, rfl, trivial⟩
          refine QJ.step (YldS.yld (y_pick_f (cB hb40) rfl)) rfl ?_
          obtain rfl := Option.some.inj h39
          exact QJ.cut_end ⟨rfl, rfl, rfl, rfl, rfl, trivial⟩
      refine QJ.done ?_
      refine PJ.next ?_
      refine WJ.cond (t := t38) rfl (fun hb46 => ?_) (fun hb46 => ?_)
      · replace hm := ifT hm hb46
        refine WJ.seq ?_
        refine WJ.quiet ?_
        refine QJ.step (YldS.yld (y_assign rfl)) rfl ?_
        refine QJ.done ?_
        refine PJ.next ?_
        refine WJ.ret ?_
        refine PJ.then_ret ?_
        obtain rfl := Option.some.inj hm
        refine PJ.sel (L' := []) [] ⟨List.nodup_nil, rfl⟩ ?_
        exact PJ.retn (vs := [.bool false]) Try.results3 ⟨rfl, trivial⟩ ⟨rfl, rfl⟩
      · replace hm := ifF hm hb46
        refine WJ.skip ?_
        refine PJ.next ?_
        obtain ⟨kj47, hk48, hm⟩ := withK_open hm
        refine WJ.join (X := Unit) (fun (_ : Unit) => kj47  = some r) (fun (_ : Unit) => [(5, pt g12 0), (6, v15), (7, v18), (9, .int .i64 r19.1)]) (fun (_ : Unit) => [row v18 37 fStroke r16.1, row v15 2 fI64 r13, box g12 25 [.int .i64 r10.bars, .int .i64 r10.rise, .int .i64 r10.fall, .int .i64 r10.clear, .int .i64 r10.near]]) ?_ ?_
        · clear hk48
          refine WJ.seq ?_
          refine WJ.quiet ?_
          refine QJ.step (YldS.yld (y_assign rfl)) rfl ?_
          refine QJ.done ?_
          refine PJ.next ?_
          refine WJ.block ?_
          refine WJ.sel (L' := (fun (x : Int) => [row v18 37 fStroke r16.1, row v15 2 fI64 r13, box g12 25 [.int .i64 r10.bars, .int .i64 r10.rise, .int .i64 r10.fall, .int .i64 r10.clear, .int .i64 r10.near]]) 0) [0, 1, 2] ⟨by decide, rfl⟩ ?_
          refine WJ.sub (m' := (fun (x : Int) => [(5, pt g12 0), (6, v15), (7, v18), (9, .int .i64 r19.1), (13, .int .i64 x)]) 0) ⟨rfl, rfl, rfl, rfl, rfl, trivial⟩ ?_
          refine WJ.loop (X := Int) (fun N (x : Int) => w_FnFastest_l1 kj47 r10 r13 r16 N x = some r) (fun (x : Int) => [(5, pt g12 0), (6, v15), (7, v18), (9, .int .i64 r19.1), (13, .int .i64 x)]) (fun (x : Int) => [row v18 37 fStroke r16.1, row v15 2 fI64 r13, box g12 25 [.int .i64 r10.bars, .int .i64 r10.rise, .int .i64 r10.fall, .int .i64 r10.clear, .int .i64 r10.near]]) ?_ N 0 hm
          · rintro N i49 hI
            have hm := hI; clear hI
            cases N with
            | zero => cases hm
            | succ N =>
            unfold w_FnFastest_l1 at hm
            refine WJ.seq ?_
            refine WJ.seq ?_
            refine WJ.quiet ?_
            refine QJ.step (YldS.yld (y_move rfl)) rfl ?_
            refine QJ.step (YldS.yld (y_move rfl)) rfl ?_
            refine QJ.step (YldS.yld (y_lenRow (k := 0) rfl Try.runUnderlying29 rfl)) rfl ?_
            refine QJ.step (YldS.yld (y_bin rfl rfl rfl)) rfl ?_
            refine QJ.done ?_
            refine PJ.next ?_
            refine WJ.cond (t := decide (i49 < (List.length r16.1 : Int))) rfl (fun hb50 => ?_) (fun hb50 => ?_)
            · replace hm := ifT hm hb50
              refine WJ.skip ?_
              refine PJ.next ?_
              obtain ⟨kj51, hk52, hm⟩ := withK_open hm
              refine WJ.join (X := Unit) (fun (_ : Unit) => kj51  = some r) (fun (_ : Unit) => [(5, pt g12 0), (6, v15), (7, v18), (9, .int .i64 r19.1), (13, .int .i64 i49)]) (fun (_ : Unit) => [row v18 37 fStroke r16.1, row v15 2 fI64 r13, box g12 25 [.int .i64 r10.bars, .int .i64 r10.rise, .int .i64 r10.fall, .int .i64 r10.clear, .int .i64 r10.near]]) ?_ ?_
              · clear hk52
                refine WJ.block ?_
                refine WJ.seq ?_
                refine WJ.seq ?_
                refine WJ.quiet_draw follows (by kernel_rfl) ?_
                refine QJ.step (YldS.yld (y_move rfl)) rfl ?_
                refine QJ.step (YldS.yld (y_move rfl)) rfl ?_
                obtain ⟨e53, h54, hm⟩ := bindS hm
                refine QJ.step (YldS.yld (y_ixRow (k := 0) (R := fStroke) rfl Try.runUnderlying29 Try.sizeOf37 rfl rfl h54)) rfl ?_
                refine QJ.step (YldS.yld (y_fldR fld37_0 rfl)) rfl ?_
                refine QJ.step (YldS.yld (y_loadR (k := 0) (i := (Int.toNat i49)) (off := 0) (u := .int .i64 e53.bar) rfl Try.isAgg2 rfl (idx_get h54) rfl)) rfl ?_
                refine QJ.step (YldS.yld (y_move rfl)) rfl ?_
                refine QJ.step (YldS.yld (y_move rfl)) rfl ?_
                obtain ⟨e55, h56, hm⟩ := bindS hm
                refine QJ.step (YldS.yld (y_ixRow (k := 1) (R := fI64) rfl Try.runUnderlying27 Try.sizeOf2 rfl rfl h56)) rfl ?_
                refine QJ.step (YldS.yld (y_loadR (k := 1) (i := (Int.toNat i49)) (off := 0) (u := .int .i64 e55) rfl Try.isAgg2 rfl (idx_get h56) rfl)) rfl ?_
                refine QJ.step (YldS.yld (y_bin rfl rfl rfl)) rfl ?_
                refine QJ.done ?_
                refine PJ.next ?_
                refine WJ.cond (t := (e53.bar != e55)) rfl (fun hb57 => ?_) (fun hb57 => ?_)
                · replace hm := ifT hm hb57
                  refine WJ.seq ?_
                  refine WJ.quiet ?_
                  refine QJ.step (YldS.yld (y_assign rfl)) rfl ?_
                  refine QJ.done ?_
                  refine PJ.next ?_
                  refine WJ.ret ?_
                  refine PJ.then_ret (PJ.block_ret (PJ.then_ret (PJ.then_ret (PJ.block_ret (PJ.then_ret ?_)))))
                  obtain rfl := Option.some.inj hm
                  refine PJ.sel (L' := []) [] ⟨List.nodup_nil, rfl⟩ ?_
                  exact PJ.retn (vs := [.bool false]) Try.results3 ⟨rfl, trivial⟩ ⟨rfl, rfl⟩
                · replace hm := ifF hm hb57
                  refine WJ.skip ?_
                  refine PJ.next ?_
                  refine WJ.seq ?_
                  refine WJ.seq ?_
                  refine WJ.quiet_draw follows (by kernel_rfl) ?_
                  refine QJ.step (YldS.yld (y_move rfl)) rfl ?_
                  refine QJ.step (YldS.yld (y_bin rfl rfl rfl)) rfl ?_
                  refine QJ.step (YldS.yld (y_move rfl)) rfl ?_
                  obtain ⟨t58, h59, hm⟩ := bindS hm
                  refine QJ.cut 13 [(5, pt g12 0), (6, v15), (7, v18), (9, .int .i64 r19.1), (13, .int .i64 i49), (122, .bool t58)] ?_ ?_
                  · rcases Bool.eq_false_or_eq_true (i49 == 0) with hb60 | hb60
                    · obtain rfl := orT h59 hb60
                      refine QJ.off rfl rfl (cB hb60) rfl rfl ?_
                      refine QJ.off rfl rfl (cB hb60) rfl rfl ?_
                      refine QJ.off rfl rfl (cB hb60) rfl rfl ?_
                      refine QJ.off rfl rfl (cB hb60) rfl rfl ?_
                      refine QJ.off rfl rfl (cB hb60) rfl rfl ?_
                      refine QJ.off rfl rfl (cB hb60) rfl rfl ?_
                      refine QJ.off rfl rfl (cB hb60) rfl rfl ?_
                      refine QJ.off rfl rfl (cB hb60) rfl rfl ?_
                      refine QJ.off rfl rfl (cB hb60) rfl rfl ?_
                      refine QJ.off rfl rfl (cB hb60) rfl rfl ?_
                      refine QJ.off rfl rfl (cB hb60) rfl rfl ?_
                      refine QJ.off rfl rfl (cB hb60) rfl rfl ?_
                      refine QJ.step (YldS.yld (y_pick_t (cB hb60) rfl)) rfl ?_
                      exact QJ.cut_end ⟨rfl, rfl, rfl, rfl, rfl, rfl, trivial⟩
                    · replace h59 := orF h59 hb60
                      refine QJ.on rfl rfl (cB hb60) (YldS.yld (y_move rfl)) rfl ?_
                      refine QJ.on rfl rfl (cB hb60) (YldS.yld (y_move rfl)) rfl ?_
                      obtain ⟨e61, h62, h59⟩ := bindS h59
                      refine QJ.on rfl rfl (cB hb60) (YldS.yld (y_ixRow (k := 0) (R := fStroke) rfl Try.runUnderlying29 Try.sizeOf37 rfl rfl h62)) rfl ?_
                      refine QJ.on rfl rfl (cB hb60) (YldS.yld (y_fldR fld37_1 rfl)) rfl ?_
                      refine QJ.on rfl rfl (cB hb60) (YldS.yld (y_loadR (k := 0) (i := (Int.toNat i49)) (off := 1) (u := .int .i64 e61.tick) rfl Try.isAgg2 rfl (idx_get h62) rfl)) rfl ?_
                      refine QJ.on rfl rfl (cB hb60) (YldS.yld (y_move rfl)) rfl ?_
                      refine QJ.on rfl rfl (cB hb60) (YldS.yld (y_move rfl)) rfl ?_
                      refine QJ.on rfl rfl (cB hb60) (YldS.yld (y_bin rfl rfl rfl)) rfl ?_
                      obtain ⟨e63, h64, h59⟩ := bindS h59
                      refine QJ.on rfl rfl (cB hb60) (YldS.yld (y_ixRow (k := 0) (R := fStroke) rfl Try.runUnderlying29 Try.sizeOf37 rfl rfl h64)) rfl ?_
                      refine QJ.on rfl rfl (cB hb60) (YldS.yld (y_fldR fld37_1 rfl)) rfl ?_
                      refine QJ.on rfl rfl (cB hb60) (YldS.yld (y_loadR (k := 0) (i := (Int.toNat (w64 (i49 - 1)))) (off := 1) (u := .int .i64 e63.tick) rfl Try.isAgg2 rfl (idx_get h64) rfl)) rfl ?_
                      refine QJ.on rfl rfl (cB hb60) (YldS.yld (y_bin rfl rfl rfl)) rfl ?_
                      refine QJ.step (YldS.yld (y_pick_f (cB hb60) rfl)) rfl ?_
                      obtain rfl := Option.some.inj h59
                      exact QJ.cut_end ⟨rfl, rfl, rfl, rfl, rfl, rfl, trivial⟩
                  refine QJ.done ?_
                  refine PJ.next ?_
                  refine WJ.cond (t := t58) rfl (fun hb65 => ?_) (fun hb65 => ?_)
                  · replace hm := ifT hm hb65
                    refine WJ.exit ?_
                    refine PJ.then_exit (PJ.block_exit ?_)
                    exact PJ.joined () [0, 1, 2] hm ⟨rfl, rfl, rfl, rfl, rfl, trivial⟩ ⟨by decide, rfl⟩
                  · replace hm := ifF hm hb65
                    refine WJ.skip ?_
                    refine PJ.next ?_
                    refine WJ.seq ?_
                    refine WJ.reg ?_
                    refine SJ.buildSlice (R := fStroke) (os := []) [] Try.runUnderlying29 Try.sizeOf37 Try.zeroValue37 rfl rfl rfl rfl rfl rfl fun v66 => ?_
                    refine SJ.q (YldS.yld (y_move rfl)) rfl ?_
                    refine SJ.q (YldS.yld (y_move rfl)) rfl ?_
                    obtain ⟨l67, h68, hm⟩ := bindS hm
                    refine SJ.q (YldS.yld (y_slcRow (i := none) (j := some i49) (k := 1) h68 rfl Try.runUnderlying29 Try.sizeOf37 rfl trivial ⟨_, rfl⟩)) rfl ?_
                    obtain ⟨l69, h70, hm⟩ := bindS hm
                    refine SJ.append (k := 0) (R := fStroke) h70 rfl Try.underlying29 el37 rfl rfl rfl (fun w hw => (hw.slc_rd (k := 1) (i := none) (j := some i49) rfl h68)) rfl fun v71 => ?_
                    refine SJ.q (YldS.yld (y_assign rfl)) rfl ?_
                    refine SJ.nil ?_
                    refine PJ.next ?_
                    refine WJ.seq ?_
                    obtain ⟨e72, h73, hm⟩ := bindS hm
                    obtain ⟨e74, h75, hm⟩ := bindS hm
                    obtain ⟨l77, h78, hm⟩ := bindS hm
                    refine WJ.draws (N := 15) (listed0 := #[false, false, false, false, false, false, false, false, false, false, false, false, false, false, false]) [row v18 37 fStroke r16.1, row v15 2 fI64 r13, box g12 25 [.int .i64 r10.bars, .int .i64 r10.rise, .int .i64 r10.fall, .int .i64 r10.clear, .int .i64 r10.near]] follows rfl rfl ?_
                    refine RJ.first 0 (listed' := #[true, false, false, false, false, false, false, false, false, false, false, false, false, false, false]) [1, 2, 3] rfl (by kernel_rfl) rfl ⟨by decide, rfl⟩ (y_move rfl) rfl ?_
                    refine RJ.first 1 (listed' := #[true, true, false, false, false, false, false, false, false, false, false, false, false, false, false]) [1, 2, 3] rfl (by kernel_rfl) rfl ⟨by decide, rfl⟩ (y_move rfl) rfl ?_
                    refine RJ.first 2 (listed' := #[true, true, true, false, false, false, false, false, false, false, false, false, false, false, false]) [1, 2, 3] rfl (by kernel_rfl) rfl ⟨by decide, rfl⟩ (y_move rfl) rfl ?_
                    refine RJ.first 3 (listed' := #[true, true, true, true, false, false, false, false, false, false, false, false, false, false, false]) [1, 2, 3] rfl (by kernel_rfl) rfl ⟨by decide, rfl⟩ (y_ixRow (k := 1) (R := fI64) rfl Try.runUnderlying27 Try.sizeOf2 rfl rfl h73) rfl ?_
                    refine RJ.first 4 (listed' := #[true, true, true, true, true, false, false, false, false, false, false, false, false, false, false]) [1, 2, 3] rfl (by kernel_rfl) rfl ⟨by decide, rfl⟩ (y_loadR (k := 1) (i := (Int.toNat i49)) (off := 0) (u := .int .i64 e72) rfl Try.isAgg2 rfl (idx_get h73) rfl) rfl ?_
                    refine RJ.first 5 (listed' := #[true, true, true, true, true, true, false, false, false, false, false, false, false, false, false]) [1, 2, 3] rfl (by kernel_rfl) rfl ⟨by decide, rfl⟩ (y_move rfl) rfl ?_
                    refine RJ.first 6 (listed' := #[true, true, true, true, true, true, true, false, false, false, false, false, false, false, false]) [1, 2, 3] rfl (by kernel_rfl) rfl ⟨by decide, rfl⟩ (y_move rfl) rfl ?_
                    refine RJ.first 7 (listed' := #[true, true, true, true, true, true, true, true, false, false, false, false, false, false, false]) [1, 2, 3] rfl (by kernel_rfl) rfl ⟨by decide, rfl⟩ (y_ixRow (k := 0) (R := fStroke) rfl Try.runUnderlying29 Try.sizeOf37 rfl rfl h75) rfl ?_
                    refine RJ.first 8 (listed' := #[true, true, true, true, true, true, true, true, true, false, false, false, false, false, false]) [1, 2, 3] rfl (by kernel_rfl) rfl ⟨by decide, rfl⟩ (y_fldR fld37_1 rfl) rfl ?_
                    refine RJ.first 9 (listed' := #[true, true, true, true, true, true, true, true, true, true, false, false, false, false, false]) [1, 2, 3] rfl (by kernel_rfl) rfl ⟨by decide, rfl⟩ (y_loadR (k := 0) (i := (Int.toNat i49)) (off := 1) (u := .int .i64 e74.tick) rfl Try.isAgg2 rfl (idx_get h75) rfl) rfl ?_
                    refine RJ.first 10 (listed' := #[true, true, true, true, true, true, true, true, true, true, true, false, false, false, false]) [1, 2, 3] rfl (by kernel_rfl) rfl ⟨by decide, rfl⟩ (y_bin rfl rfl rfl) rfl ?_
                    refine RJ.first 11 (listed' := #[true, true, true, true, true, true, true, true, true, true, true, true, false, false, false]) [1, 2, 3] rfl (by kernel_rfl) rfl ⟨by decide, rfl⟩ (y_build (parts := [(0, .tmp 132), (1, .tmp 138)]) (places := [(0, 1), (1, 1)]) (r := [.int .i64 ((Stroke.mk e72 (w64 (e74.tick - 1))).bar), .int .i64 ((Stroke.mk e72 (w64 (e74.tick - 1))).tick)]) pl37 Try.zeroValue37 rfl rfl rfl rfl) rfl ?_
                    refine RJ.step1 12 [1, 2, 3] (by kernel_rfl) ⟨by decide, rfl⟩ ?_
                    refine RO.of (listed' := #[true, true, true, true, true, true, true, true, true, true, true, true, true, false, false]) rfl rfl ?_
                    refine SJ.buildSlice (R := fStroke) (os := [.tmp 139]) [(Stroke.mk e72 (w64 (e74.tick - 1)))] Try.runUnderlying29 Try.sizeOf37 Try.zeroValue37 rfl rfl rfl rfl rfl rfl fun v76 => ?_
                    refine SJ.nil ?_
                    refine PJ.draw ?_
                    refine RJ.step1 13 [2, 3, 4] (by kernel_rfl) ⟨by decide, rfl⟩ ?_
                    refine RO.of (listed' := #[true, true, true, true, true, true, true, true, true, true, true, true, true, true, false]) rfl rfl ?_
                    refine SJ.append (k := 1) (R := fStroke) h78 rfl Try.underlying29 el37 rfl rfl rfl (fun w hw => (hw.row_rd (k := 0) rfl)) rfl fun v79 => ?_
                    refine SJ.nil ?_
                    refine PJ.draw ?_
                    refine RJ.first 14 (listed' := #[true, true, true, true, true, true, true, true, true, true, true, true, true, true, true]) [2, 3, 4] rfl (by kernel_rfl) rfl ⟨by decide, rfl⟩ (y_assign rfl) rfl ?_
                    refine RJ.fin [2, 3, 4] (by kernel_rfl) ⟨by decide, rfl⟩ ?_
                    refine PJ.next ?_
                    refine WJ.seq ?_
                    refine WJ.quiet ?_
                    refine QJ.step (YldS.yld (y_loadBN (k := 4) (off := 0) (us := [.int .i64 r10.bars, .int .i64 r10.rise, .int .i64 r10.fall, .int .i64 r10.clear, .int .i64 r10.near]) rfl Try.isAgg25 Try.sizeOf25 rfl rfl)) rfl ?_
                    refine QJ.step (YldS.yld (y_move rfl)) rfl ?_
                    obtain ⟨r80, h81, hm⟩ := bindS hm
                    refine QJ.step (y_call Try.call13 rfl (RetG.quiet fun w hw => ok_i_CountJams h81 w _ (hw.row_rd (k := 1) rfl))) rfl ?_
                    refine QJ.step (YldS.yld (y_move rfl)) rfl ?_
                    refine QJ.step (YldS.yld (y_extract rfl rfl)) rfl ?_
                    refine QJ.step (YldS.yld (y_extract rfl rfl)) rfl ?_
                    refine QJ.step (YldS.yld (y_assign rfl)) rfl ?_
                    refine QJ.step (YldS.yld (y_assign rfl)) rfl ?_
                    refine QJ.done ?_
                    refine PJ.next ?_
                    refine WJ.seq ?_
                    refine WJ.quiet ?_
                    refine QJ.step (YldS.yld (y_move rfl)) rfl ?_
                    refine QJ.step (YldS.yld (y_bin rfl rfl rfl)) rfl ?_
                    refine QJ.step (YldS.yld (y_move rfl)) rfl ?_
                    obtain ⟨t82, h83, hm⟩ := bindS hm
                    refine QJ.cut 3 [(5, pt g12 0), (6, v15), (7, v18), (9, .int .i64 r19.1), (13, .int .i64 i49), (153, .bool t82)] ?_ ?_
                    · rcases Bool.eq_false_or_eq_true (r80.2 != 0) with hb84 | hb84
                      · obtain rfl := orT h83 hb84
                        refine QJ.off rfl rfl (cB hb84) rfl rfl ?_
                        refine QJ.off rfl rfl (cB hb84) rfl rfl ?_
                        refine QJ.step (YldS.yld (y_pick_t (cB hb84) rfl)) rfl ?_
                        exact QJ.cut_end ⟨rfl, rfl, rfl, rfl, rfl, rfl, trivial⟩
                      · replace h83 := orF h83 hb84
                        refine QJ.on rfl rfl (cB hb84) (YldS.yld (y_move rfl)) rfl ?_
                        refine QJ.on rfl rfl (cB hb84) (YldS.yld (y_bin rfl rfl rfl)) rfl ?_
                        refine QJ.step (YldS.yld (y_pick_f (cB hb84) rfl)) rfl ?_
                        obtain rfl := Option.some.inj h83
                        exact QJ.cut_end ⟨rfl, rfl, rfl, rfl, rfl, rfl, trivial⟩
                    refine QJ.done ?_
                    refine PJ.next ?_
                    refine WJ.cond (t := t82) rfl (fun hb85 => ?_) (fun hb85 => ?_)
                    · replace hm := ifT hm hb85
                      refine WJ.seq ?_
                      refine WJ.quiet ?_
                      refine QJ.step (YldS.yld (y_assign rfl)) rfl ?_
                      refine QJ.done ?_
                      refine PJ.next ?_
                      refine WJ.ret ?_
                      refine PJ.block_ret (PJ.then_ret (PJ.then_ret (PJ.block_ret (PJ.then_ret ?_))))
                      obtain rfl := Option.some.inj hm
                      refine PJ.sel (L' := []) [] ⟨List.nodup_nil, rfl⟩ ?_
                      exact PJ.retn (vs := [.bool false]) Try.results3 ⟨rfl, trivial⟩ ⟨rfl, rfl⟩
                    · replace hm := ifF hm hb85
                      refine WJ.skip ?_
                      refine PJ.block_normal ?_
                      exact PJ.joined () [2, 3, 4] hm ⟨rfl, rfl, rfl, rfl, rfl, trivial⟩ ⟨by decide, rfl⟩
              · rintro _ hm
                subst hk52
                refine WJ.quiet ?_
                refine QJ.step (YldS.yld (y_move rfl)) rfl ?_
                refine QJ.step (YldS.yld (y_bin rfl rfl rfl)) rfl ?_
                refine QJ.step (YldS.yld (y_assign rfl)) rfl ?_
                refine QJ.done ?_
                exact PJ.round (w64 (i49 + 1)) [0, 1, 2] hm ⟨rfl, rfl, rfl, rfl, rfl, trivial⟩ ⟨by decide, rfl⟩
            · replace hm := ifF hm hb50
              refine WJ.exit ?_
              refine PJ.then_exit (PJ.then_exit (PJ.block_exit ?_))
              exact PJ.joined () [0, 1, 2] hm ⟨rfl, rfl, rfl, rfl, trivial⟩ ⟨by decide, rfl⟩
        · rintro _ hm
          subst hk48
          refine WJ.seq ?_
          refine WJ.seq ?_
          refine WJ.quiet ?_
          refine QJ.step (YldS.yld (y_move rfl)) rfl ?_
          refine QJ.step (YldS.yld (y_lenRow (k := 0) rfl Try.runUnderlying29 rfl)) rfl ?_
          refine QJ.step (YldS.yld (y_bin rfl rfl rfl)) rfl ?_
          refine QJ.done ?_
          refine PJ.next ?_
          refine WJ.cond (t := ((List.length r16.1 : Int) == 0)) rfl (fun hb86 => ?_) (fun hb86 => ?_)
          · replace hm := ifT hm hb86
            refine WJ.seq ?_
            refine WJ.quiet ?_
            refine QJ.step (YldS.yld (y_move rfl)) rfl ?_
            refine QJ.step (YldS.yld (y_bin rfl rfl rfl)) rfl ?_
            refine QJ.step (YldS.yld (y_assign rfl)) rfl ?_
            refine QJ.done ?_
            refine PJ.next ?_
            refine WJ.ret ?_
            refine PJ.then_ret ?_
            obtain rfl := Option.some.inj hm
            refine PJ.sel (L' := []) [] ⟨List.nodup_nil, rfl⟩ ?_
            exact PJ.retn (vs := [.bool (r19.1 == 0)]) Try.results3 ⟨rfl, trivial⟩ ⟨rfl, rfl⟩
          · replace hm := ifF hm hb86
            refine WJ.skip ?_
            refine PJ.next ?_
            refine WJ.seq ?_
            refine WJ.seq ?_
            refine WJ.quiet ?_
            refine QJ.step (YldS.yld (y_move rfl)) rfl ?_
            refine QJ.step (YldS.yld (y_bin rfl rfl rfl)) rfl ?_
            refine QJ.step (YldS.yld (y_move rfl)) rfl ?_
            obtain ⟨t87, h88, hm⟩ := bindS hm
            refine QJ.cut 3 [(5, pt g12 0), (6, v15), (7, v18), (9, .int .i64 r19.1), (164, .bool t87)] ?_ ?_
            · rcases Bool.eq_false_or_eq_true (decide (r19.1 < 1)) with hb89 | hb89
              · obtain rfl := orT h88 hb89
                refine QJ.off rfl rfl (cB hb89) rfl rfl ?_
                refine QJ.off rfl rfl (cB hb89) rfl rfl ?_
                refine QJ.step (YldS.yld (y_pick_t (cB hb89) rfl)) rfl ?_
                exact QJ.cut_end ⟨rfl, rfl, rfl, rfl, rfl, trivial⟩
              · replace h88 := orF h88 hb89
                refine QJ.on rfl rfl (cB hb89) (YldS.yld (y_move rfl)) rfl ?_
                refine QJ.on rfl rfl (cB hb89) (YldS.yld (y_bin rfl rfl rfl)) rfl ?_
                refine QJ.step (YldS.yld (y_pick_f (cB hb89) rfl)) rfl ?_
                obtain rfl := Option.some.inj h88
                exact QJ.cut_end ⟨rfl, rfl, rfl, rfl, rfl, trivial⟩
            refine QJ.done ?_
            refine PJ.next ?_
            refine WJ.cond (t := t87) rfl (fun hb90 => ?_) (fun hb90 => ?_)
            · replace hm := ifT hm hb90
              refine WJ.seq ?_
              refine WJ.quiet ?_
              refine QJ.step (YldS.yld (y_assign rfl)) rfl ?_
              refine QJ.done ?_
              refine PJ.next ?_
              refine WJ.ret ?_
              refine PJ.then_ret ?_
              obtain rfl := Option.some.inj hm
              refine PJ.sel (L' := []) [] ⟨List.nodup_nil, rfl⟩ ?_
              exact PJ.retn (vs := [.bool false]) Try.results3 ⟨rfl, trivial⟩ ⟨rfl, rfl⟩
            · replace hm := ifF hm hb90
              refine WJ.skip ?_
              refine PJ.next ?_
              refine WJ.seq ?_
              refine WJ.reg ?_
              refine SJ.q (YldS.yld (y_loadBN (k := 2) (off := 0) (us := [.int .i64 r10.bars, .int .i64 r10.rise, .int .i64 r10.fall, .int .i64 r10.clear, .int .i64 r10.near]) rfl Try.isAgg25 Try.sizeOf25 rfl rfl)) rfl ?_
              refine SJ.q (YldS.yld (y_move rfl)) rfl ?_
              refine SJ.q (YldS.yld (y_move rfl)) rfl ?_
              obtain ⟨r91, h92, hm⟩ := bindS hm
              refine SJ.call Try.call14 rfl (fun w hw => ok_i_InTheAir h92 w _ (hw.row_rd (k := 0) rfl)) rfl ?_
              rintro _ _ ⟨v93, rfl, rfl⟩
              refine SJ.q (YldS.yld (y_move rfl)) rfl ?_
              refine SJ.q (YldS.yld (y_extract rfl rfl)) rfl ?_
              refine SJ.q (YldS.yld (y_extract rfl rfl)) rfl ?_
              refine SJ.q (YldS.yld (y_assign rfl)) rfl ?_
              refine SJ.q (YldS.yld (y_assign rfl)) rfl ?_
              refine SJ.nil ?_
              refine PJ.next ?_
              refine WJ.seq ?_
              refine WJ.reg ?_
              refine SJ.q (YldS.yld (y_loadBN (k := 3) (off := 0) (us := [.int .i64 r10.bars, .int .i64 r10.rise, .int .i64 r10.fall, .int .i64 r10.clear, .int .i64 r10.near]) rfl Try.isAgg25 Try.sizeOf25 rfl rfl)) rfl ?_
              refine SJ.q (YldS.yld (y_move rfl)) rfl ?_
              refine SJ.q (YldS.yld (y_move rfl)) rfl ?_
              refine SJ.q (YldS.yld (y_bin rfl rfl rfl)) rfl ?_
              obtain ⟨r94, h95, hm⟩ := bindS hm
              refine SJ.call Try.call14 rfl (fun w hw => ok_i_InTheAir h95 w _ (hw.row_rd (k := 1) rfl)) rfl ?_
              rintro _ _ ⟨v96, rfl, rfl⟩
              refine SJ.q (YldS.yld (y_move rfl)) rfl ?_
              refine SJ.q (YldS.yld (y_extract rfl rfl)) rfl ?_
              refine SJ.q (YldS.yld (y_extract rfl rfl)) rfl ?_
              refine SJ.q (YldS.yld (y_assign rfl)) rfl ?_
              refine SJ.q (YldS.yld (y_assign rfl)) rfl ?_
              refine SJ.nil ?_
              refine PJ.next ?_
              refine WJ.seq ?_
              refine WJ.seq ?_
              refine WJ.quiet ?_
              refine QJ.step (YldS.yld (y_move rfl)) rfl ?_
              refine QJ.step (YldS.yld (y_bin rfl rfl rfl)) rfl ?_
              refine QJ.step (YldS.yld (y_move rfl)) rfl ?_
              obtain ⟨t97, h98, hm⟩ := bindS hm
              refine QJ.cut 4 [(5, pt g12 0), (6, v15), (19, v96), (20, .int .i64 r94.2), (186, .bool t97)] ?_ ?_
              · rcases Bool.eq_false_or_eq_true (r91.2 != 0) with hb99 | hb99
                · obtain rfl := orT h98 hb99
                  refine QJ.off rfl rfl (cB hb99) rfl rfl ?_
                  refine QJ.off rfl rfl (cB hb99) rfl rfl ?_
                  refine QJ.off rfl rfl (cB hb99) rfl rfl ?_
                  refine QJ.step (YldS.yld (y_pick_t (cB hb99) rfl)) rfl ?_
                  exact QJ.cut_end ⟨rfl, rfl, rfl, rfl, rfl, trivial⟩
                · replace h98 := orF h98 hb99
                  refine QJ.on rfl rfl (cB hb99) (YldS.yld (y_move rfl)) rfl ?_
                  refine QJ.on rfl rfl (cB hb99) (YldS.yld (y_lenRow (k := 1) rfl Try.runUnderlying27 rfl)) rfl ?_
                  refine QJ.on rfl rfl (cB hb99) (YldS.yld (y_bin rfl rfl rfl)) rfl ?_
                  refine QJ.step (YldS.yld (y_pick_f (cB hb99) rfl)) rfl ?_
                  obtain rfl := Option.some.inj h98
                  exact QJ.cut_end ⟨rfl, rfl, rfl, rfl, rfl, trivial⟩
              refine QJ.step (YldS.yld (y_move rfl)) rfl ?_
              obtain ⟨t100, h101, hm⟩ := bindS hm
              refine QJ.cut 3 [(5, pt g12 0), (6, v15), (19, v96), (190, .bool t100)] ?_ ?_
              · rcases Bool.eq_false_or_eq_true t97 with hb102 | hb102
                · obtain rfl := orT h101 hb102
                  refine QJ.off rfl rfl (cB hb102) rfl rfl ?_
                  refine QJ.off rfl rfl (cB hb102) rfl rfl ?_
                  refine QJ.step (YldS.yld (y_pick_t (cB hb102) rfl)) rfl ?_
                  exact QJ.cut_end ⟨rfl, rfl, rfl, rfl, trivial⟩
                · replace h101 := orF h101 hb102
                  refine QJ.on rfl rfl (cB hb102) (YldS.yld (y_move rfl)) rfl ?_
                  refine QJ.on rfl rfl (cB hb102) (YldS.yld (y_bin rfl rfl rfl)) rfl ?_
                  refine QJ.step (YldS.yld (y_pick_f (cB hb102) rfl)) rfl ?_
                  obtain rfl := Option.some.inj h101
                  exact QJ.cut_end ⟨rfl, rfl, rfl, rfl, trivial⟩
              refine QJ.step (YldS.yld (y_move rfl)) rfl ?_
              obtain ⟨t103, h104, hm⟩ := bindS hm
              refine QJ.cut 10 [(5, pt g12 0), (6, v15), (201, .bool t103)] ?_ ?_
              · rcases Bool.eq_false_or_eq_true t100 with hb105 | hb105
                · obtain rfl := orT h104 hb105
                  refine QJ.off rfl rfl (cB hb105) rfl rfl ?_
                  refine QJ.off rfl rfl (cB hb105) rfl rfl ?_
                  refine QJ.off rfl rfl (cB hb105) rfl rfl ?_
                  refine QJ.off rfl rfl (cB hb105) rfl rfl ?_
                  refine QJ.off rfl rfl (cB hb105) rfl rfl ?_
                  refine QJ.off rfl rfl (cB hb105) rfl rfl ?_
                  refine QJ.off rfl rfl (cB hb105) rfl rfl ?_
                  refine QJ.off rfl rfl (cB hb105) rfl rfl ?_
                  refine QJ.off rfl rfl (cB hb105) rfl rfl ?_
                  refine QJ.step (YldS.yld (y_pick_t (cB hb105) rfl)) rfl ?_
                  exact QJ.cut_end ⟨rfl, rfl, rfl, trivial⟩
                · replace h104 := orF h104 hb105
                  refine QJ.on rfl rfl (cB hb105) (YldS.yld (y_move rfl)) rfl ?_
                  refine QJ.on rfl rfl (cB hb105) (YldS.yld (y_move rfl)) rfl ?_
                  refine QJ.on rfl rfl (cB hb105) (YldS.yld (y_move rfl)) rfl ?_
                  refine QJ.on rfl rfl (cB hb105) (YldS.yld (y_lenRow (k := 3) rfl Try.runUnderlying27 rfl)) rfl ?_
                  refine QJ.on rfl rfl (cB hb105) (YldS.yld (y_bin rfl rfl rfl)) rfl ?_
                  obtain ⟨e106, h107, h104⟩ := bindS h104
                  refine QJ.on rfl rfl (cB hb105) (YldS.yld (y_ixRow (k := 3) (R := fI64) rfl Try.runUnderlying27 Try.sizeOf2 rfl rfl h107)) rfl ?_
                  refine QJ.on rfl rfl (cB hb105) (YldS.yld (y_loadR (k := 3) (i := (Int.toNat (w64 ((List.length r13 : Int) - 1)))) (off := 0) (u := .int .i64 e106) rfl Try.isAgg2 rfl (idx_get h107) rfl)) rfl ?_
                  obtain ⟨r108, h109, h104⟩ := bindS h104
                  refine QJ.on rfl rfl (cB hb105) (y_call Try.call15 rfl (RetG.quiet fun w hw => ok_w_a2Has h109 w _ (hw.row_rd (k := 0) rfl))) rfl ?_
                  refine QJ.on rfl rfl (cB hb105) (YldS.yld (y_not rfl)) rfl ?_
                  refine QJ.step (YldS.yld (y_pick_f (cB hb105) rfl)) rfl ?_
                  obtain rfl := Option.some.inj h104
                  exact QJ.cut_end ⟨rfl, rfl, rfl, trivial⟩
              refine QJ.done ?_
              refine PJ.next ?_
              refine WJ.cond (t := t103) rfl (fun hb110 => ?_) (fun hb110 => ?_)
              · replace hm := ifT hm hb110
                refine WJ.seq ?_
                refine WJ.quiet ?_
                refine QJ.step (YldS.yld (y_assign rfl)) rfl ?_
                refine QJ.done ?_
                refine PJ.next ?_
                refine WJ.ret ?_
                refine PJ.then_ret ?_
                obtain rfl := Option.some.inj hm
                refine PJ.sel (L' := []) [] ⟨List.nodup_nil, rfl⟩ ?_
                exact PJ.retn (vs := [.bool false]) Try.results3 ⟨rfl, trivial⟩ ⟨rfl, rfl⟩
              · replace hm := ifF hm hb110
                refine WJ.skip ?_
                refine PJ.next ?_
                refine WJ.seq ?_
                refine WJ.quiet ?_
                refine QJ.step (YldS.yld (y_loadBN (k := 4) (off := 0) (us := [.int .i64 r10.bars, .int .i64 r10.rise, .int .i64 r10.fall, .int .i64 r10.clear, .int .i64 r10.near]) rfl Try.isAgg25 Try.sizeOf25 rfl rfl)) rfl ?_
                refine QJ.step (YldS.yld (y_move rfl)) rfl ?_
                obtain ⟨r111, h112, hm⟩ := bindS hm
                refine QJ.step (y_call Try.call16 rfl (RetG.quiet fun w hw => ok_i_SlowestPair h112 w _ (hw.row_rd (k := 3) rfl))) rfl ?_
                refine QJ.step (YldS.yld (y_move rfl)) rfl ?_
                refine QJ.step (YldS.yld (y_extract rfl rfl)) rfl ?_
                refine QJ.step (YldS.yld (y_extract rfl rfl)) rfl ?_
                refine QJ.step (YldS.yld (y_assign rfl)) rfl ?_
                refine QJ.step (YldS.yld (y_assign rfl)) rfl ?_
                refine QJ.done ?_
                refine PJ.next ?_
                refine WJ.seq ?_
                refine WJ.seq ?_
                refine WJ.quiet ?_
                refine QJ.step (YldS.yld (y_move rfl)) rfl ?_
                refine QJ.step (YldS.yld (y_lenRow (k := 3) rfl Try.runUnderlying27 rfl)) rfl ?_
                refine QJ.step (YldS.yld (y_bin rfl rfl rfl)) rfl ?_
                refine QJ.done ?_
                refine PJ.next ?_
                refine WJ.cond (t := decide ((List.length r13 : Int) < 2)) rfl (fun hb113 => ?_) (fun hb113 => ?_)
                · replace hm := ifT hm hb113
                  refine WJ.seq ?_
                  refine WJ.quiet ?_
                  refine QJ.step (YldS.yld (y_move rfl)) rfl ?_
                  refine QJ.step (YldS.yld (y_bin rfl rfl rfl)) rfl ?_
                  refine QJ.step (YldS.yld (y_assign rfl)) rfl ?_
                  refine QJ.done ?_
                  refine PJ.next ?_
                  refine WJ.ret ?_
                  refine PJ.then_ret ?_
                  obtain rfl := Option.some.inj hm
                  refine PJ.sel (L' := []) [] ⟨List.nodup_nil, rfl⟩ ?_
                  exact PJ.retn (vs := [.bool (r111.2 == 3)]) Try.results3 ⟨rfl, trivial⟩ ⟨rfl, rfl⟩
                · replace hm := ifF hm hb113
                  refine WJ.skip ?_
                  refine PJ.next ?_
                  refine WJ.seq ?_
                  refine WJ.seq ?_
                  refine WJ.quiet ?_
                  refine QJ.step (YldS.yld (y_move rfl)) rfl ?_
                  refine QJ.step (YldS.yld (y_bin rfl rfl rfl)) rfl ?_
                  refine QJ.step (YldS.yld (y_move rfl)) rfl ?_
                  obtain ⟨t114, h115, hm⟩ := bindS hm
                  refine QJ.cut 3 [(5, pt g12 0), (6, v15), (21, .int .i64 r111.1), (218, .bool t114)] ?_ ?_
                  · rcases Bool.eq_false_or_eq_true (r111.2 != 0) with hb116 | hb116
                    · obtain rfl := orT h115 hb116
                      refine QJ.off rfl rfl (cB hb116) rfl rfl ?_
                      refine QJ.off rfl rfl (cB hb116) rfl rfl ?_
                      refine QJ.step (YldS.yld (y_pick_t (cB hb116) rfl)) rfl ?_
                      exact QJ.cut_end ⟨rfl, rfl, rfl, rfl, trivial⟩
                    · replace h115 := orF h115 hb116
                      refine QJ.on rfl rfl (cB hb116) (YldS.yld (y_move rfl)) rfl ?_
                      refine QJ.on rfl rfl (cB hb116) (YldS.yld (y_bin rfl rfl rfl)) rfl ?_
                      refine QJ.step (YldS.yld (y_pick_f (cB hb116) rfl)) rfl ?_
                      obtain rfl := Option.some.inj h115
                      exact QJ.cut_end ⟨rfl, rfl, rfl, rfl, trivial⟩
                  refine QJ.step (YldS.yld (y_move rfl)) rfl ?_
                  obtain ⟨t117, h118, hm⟩ := bindS hm
                  refine QJ.cut 5 [(5, pt g12 0), (6, v15), (21, .int .i64 r111.1), (224, .bool t117)] ?_ ?_
                  · rcases Bool.eq_false_or_eq_true t114 with hb119 | hb119
                    · obtain rfl := orT h118 hb119
                      refine QJ.off rfl rfl (cB hb119) rfl rfl ?_
                      refine QJ.off rfl rfl (cB hb119) rfl rfl ?_
                      refine QJ.off rfl rfl (cB hb119) rfl rfl ?_
                      refine QJ.off rfl rfl (cB hb119) rfl rfl ?_
                      refine QJ.step (YldS.yld (y_pick_t (cB hb119) rfl)) rfl ?_
                      exact QJ.cut_end ⟨rfl, rfl, rfl, rfl, trivial⟩
                    · replace h118 := orF h118 hb119
                      refine QJ.on rfl rfl (cB hb119) (YldS.yld (y_move rfl)) rfl ?_
                      refine QJ.on rfl rfl (cB hb119) (YldS.yld (y_move rfl)) rfl ?_
                      refine QJ.on rfl rfl (cB hb119) (YldS.yld (y_lenRow (k := 3) rfl Try.runUnderlying27 rfl)) rfl ?_
                      refine QJ.on rfl rfl (cB hb119) (YldS.yld (y_bin rfl rfl rfl)) rfl ?_
                      refine QJ.step (YldS.yld (y_pick_f (cB hb119) rfl)) rfl ?_
                      obtain rfl := Option.some.inj h118
                      exact QJ.cut_end ⟨rfl, rfl, rfl, rfl, trivial⟩
                  refine QJ.done ?_
                  refine PJ.next ?_
                  refine WJ.cond (t := t117) rfl (fun hb120 => ?_) (fun hb120 => ?_)
                  · replace hm := ifT hm hb120
                    refine WJ.seq ?_
                    refine WJ.quiet ?_
                    refine QJ.step (YldS.yld (y_assign rfl)) rfl ?_
                    refine QJ.done ?_
                    refine PJ.next ?_
                    refine WJ.ret ?_
                    refine PJ.then_ret ?_
                    obtain rfl := Option.some.inj hm
                    refine PJ.sel (L' := []) [] ⟨List.nodup_nil, rfl⟩ ?_
                    exact PJ.retn (vs := [.bool false]) Try.results3 ⟨rfl, trivial⟩ ⟨rfl, rfl⟩
                  · replace hm := ifF hm hb120
                    refine WJ.skip ?_
                    refine PJ.next ?_
                    refine WJ.seq ?_
                    refine WJ.quiet_draw follows (by kernel_rfl) ?_
                    refine QJ.step (YldS.yld (y_loadBN (k := 4) (off := 0) (us := [.int .i64 r10.bars, .int .i64 r10.rise, .int .i64 r10.fall, .int .i64 r10.clear, .int .i64 r10.near]) rfl Try.isAgg25 Try.sizeOf25 rfl rfl)) rfl ?_
                    refine QJ.step (YldS.yld (y_move rfl)) rfl ?_
                    refine QJ.step (YldS.yld (y_move rfl)) rfl ?_
                    refine QJ.step (YldS.yld (y_bin rfl rfl rfl)) rfl ?_
                    obtain ⟨e121, h122, hm⟩ := bindS hm
                    refine QJ.step (YldS.yld (y_ixRow (k := 3) (R := fI64) rfl Try.runUnderlying27 Try.sizeOf2 rfl rfl h122)) rfl ?_
                    refine QJ.step (YldS.yld (y_loadR (k := 3) (i := (Int.toNat (w64 (r111.1 - 1)))) (off := 0) (u := .int .i64 e121) rfl Try.isAgg2 rfl (idx_get h122) rfl)) rfl ?_
                    refine QJ.step (YldS.yld (y_move rfl)) rfl ?_
                    refine QJ.step (YldS.yld (y_move rfl)) rfl ?_
                    obtain ⟨e123, h124, hm⟩ := bindS hm
                    refine QJ.step (YldS.yld (y_ixRow (k := 3) (R := fI64) rfl Try.runUnderlying27 Try.sizeOf2 rfl rfl h124)) rfl ?_
                    refine QJ.step (YldS.yld (y_loadR (k := 3) (i := (Int.toNat r111.1)) (off := 0) (u := .int .i64 e123) rfl Try.isAgg2 rfl (idx_get h124) rfl)) rfl ?_
                    obtain ⟨r125, h126, hm⟩ := bindS hm
                    refine QJ.step (y_call Try.call17 rfl (RetG.quiet fun w hw => ok_s_MustWait h126 w )) rfl ?_
                    refine QJ.step (YldS.yld (y_move rfl)) rfl ?_
                    refine QJ.step (YldS.yld (y_extract rfl rfl)) rfl ?_
                    refine QJ.step (YldS.yld (y_extract rfl rfl)) rfl ?_
                    refine QJ.step (YldS.yld (y_assign rfl)) rfl ?_
                    refine QJ.step (YldS.yld (y_assign rfl)) rfl ?_
                    refine QJ.done ?_
                    refine PJ.next ?_
                    obtain ⟨kj127, hk128, hm⟩ := withK_open hm
                    refine WJ.join (X := Unit) (fun (_ : Unit) => kj127  = some r) (fun (_ : Unit) => [(24, .int .i64 r125.2)]) (fun (_ : Unit) => []) ?_ ?_
                    · clear hk128
                      refine WJ.seq ?_
                      refine WJ.quiet ?_
                      refine QJ.step (YldS.yld (y_assign rfl)) rfl ?_
                      refine QJ.done ?_
                      refine PJ.next ?_
                      refine WJ.block ?_
                      refine WJ.sel (L' := (fun (x : Int) => [row v15 2 fI64 r13, box g12 25 [.int .i64 r10.bars, .int .i64 r10.rise, .int .i64 r10.fall, .int .i64 r10.clear, .int .i64 r10.near]]) 1) [3, 4] ⟨by decide, rfl⟩ ?_
                      refine WJ.sub (m' := (fun (x : Int) => [(5, pt g12 0), (6, v15), (21, .int .i64 r111.1), (23, .int .i64 r125.1), (24, .int .i64 r125.2), (25, .int .i64 x)]) 1) ⟨rfl, rfl, rfl, rfl, rfl, rfl, trivial⟩ ?_
                      refine WJ.loop (X := Int) (fun N (x : Int) => w_FnFastest_l2 kj127 r10 r13 r111 r125 N x = some r) (fun (x : Int) => [(5, pt g12 0), (6, v15), (21, .int .i64 r111.1), (23, .int .i64 r125.1), (24, .int .i64 r125.2), (25, .int .i64 x)]) (fun (x : Int) => [row v15 2 fI64 r13, box g12 25 [.int .i64 r10.bars, .int .i64 r10.rise, .int .i64 r10.fall, .int .i64 r10.clear, .int .i64 r10.near]]) ?_ N 1 hm
                      · rintro N i129 hI
                        have hm := hI; clear hI
                        cases N with
                        | zero => cases hm
                        | succ N =>
                        unfold w_FnFastest_l2 at hm
                        refine WJ.seq ?_
                        refine WJ.seq ?_
                        refine WJ.quiet ?_
                        refine QJ.step (YldS.yld (y_move rfl)) rfl ?_
                        refine QJ.step (YldS.yld (y_move rfl)) rfl ?_
                        refine QJ.step (YldS.yld (y_lenRow (k := 0) rfl Try.runUnderlying27 rfl)) rfl ?_
                        refine QJ.step (YldS.yld (y_bin rfl rfl rfl)) rfl ?_
                        refine QJ.done ?_
                        refine PJ.next ?_
                        refine WJ.cond (t := decide (i129 < (List.length r13 : Int))) rfl (fun hb130 => ?_) (fun hb130 => ?_)
                        · replace hm := ifT hm hb130
                          refine WJ.skip ?_
                          refine PJ.next ?_
                          refine WJ.seq ?_
                          refine WJ.block ?_
                          refine WJ.seq ?_
                          refine WJ.quiet_draw follows (by kernel_rfl) ?_
                          refine QJ.step (YldS.yld (y_loadBN (k := 1) (off := 0) (us := [.int .i64 r10.bars, .int .i64 r10.rise, .int .i64 r10.fall, .int .i64 r10.clear, .int .i64 r10.near]) rfl Try.isAgg25 Try.sizeOf25 rfl rfl)) rfl ?_
                          refine QJ.step (YldS.yld (y_move rfl)) rfl ?_
                          refine QJ.step (YldS.yld (y_move rfl)) rfl ?_
                          refine QJ.step (YldS.yld (y_bin rfl rfl rfl)) rfl ?_
                          obtain ⟨e131, h132, hm⟩ := bindS hm
                          refine QJ.step (YldS.yld (y_ixRow (k := 0) (R := fI64) rfl Try.runUnderlying27 Try.sizeOf2 rfl rfl h132)) rfl ?_
                          refine QJ.step (YldS.yld (y_loadR (k := 0) (i := (Int.toNat (w64 (i129 - 1)))) (off := 0) (u := .int .i64 e131) rfl Try.isAgg2 rfl (idx_get h132) rfl)) rfl ?_
                          refine QJ.step (YldS.yld (y_move rfl)) rfl ?_
                          refine QJ.step (YldS.yld (y_move rfl)) rfl ?_
                          obtain ⟨e133, h134, hm⟩ := bindS hm
                          refine QJ.step (YldS.yld (y_ixRow (k := 0) (R := fI64) rfl Try.runUnderlying27 Try.sizeOf2 rfl rfl h134)) rfl ?_
                          refine QJ.step (YldS.yld (y_loadR (k := 0) (i := (Int.toNat i129)) (off := 0) (u := .int .i64 e133) rfl Try.isAgg2 rfl (idx_get h134) rfl)) rfl ?_
                          obtain ⟨r135, h136, hm⟩ := bindS hm
                          refine QJ.step (y_call Try.call17 rfl (RetG.quiet fun w hw => ok_s_MustWait h136 w )) rfl ?_
                          refine QJ.step (YldS.yld (y_move rfl)) rfl ?_
                          refine QJ.step (YldS.yld (y_extract rfl rfl)) rfl ?_
                          refine QJ.step (YldS.yld (y_extract rfl rfl)) rfl ?_
                          refine QJ.step (YldS.yld (y_assign rfl)) rfl ?_
                          refine QJ.step (YldS.yld (y_assign rfl)) rfl ?_
                          refine QJ.done ?_
                          refine PJ.next ?_
                          refine WJ.seq ?_
                          refine WJ.quiet ?_
                          refine QJ.step (YldS.yld (y_move rfl)) rfl ?_
                          refine QJ.step (YldS.yld (y_bin rfl rfl rfl)) rfl ?_
                          refine QJ.step (YldS.yld (y_move rfl)) rfl ?_
                          obtain ⟨t137, h138, hm⟩ := bindS hm
                          refine QJ.cut 4 [(5, pt g12 0), (6, v15), (21, .int .i64 r111.1), (23, .int .i64 r125.1), (24, .int .i64 r125.2), (25, .int .i64 i129), (26, .int .i64 r135.1), (265, .bool t137)] ?_ ?_
                          · rcases Bool.eq_false_or_eq_true (r135.2 != 0) with hb139 | hb139
                            · obtain rfl := orT h138 hb139
                              refine QJ.off rfl rfl (cB hb139) rfl rfl ?_
                              refine QJ.off rfl rfl (cB hb139) rfl rfl ?_
                              refine QJ.off rfl rfl (cB hb139) rfl rfl ?_
                              refine QJ.step (YldS.yld (y_pick_t (cB hb139) rfl)) rfl ?_
                              exact QJ.cut_end ⟨rfl, rfl, rfl, rfl, rfl, rfl, rfl, rfl, trivial⟩
                            · replace h138 := orF h138 hb139
                              refine QJ.on rfl rfl (cB hb139) (YldS.yld (y_move rfl)) rfl ?_
                              refine QJ.on rfl rfl (cB hb139) (YldS.yld (y_move rfl)) rfl ?_
                              refine QJ.on rfl rfl (cB hb139) (YldS.yld (y_bin rfl rfl rfl)) rfl ?_
                              refine QJ.step (YldS.yld (y_pick_f (cB hb139) rfl)) rfl ?_
                              obtain rfl := Option.some.inj h138
                              exact QJ.cut_end ⟨rfl, rfl, rfl, rfl, rfl, rfl, rfl, rfl, trivial⟩
                          refine QJ.step (YldS.yld (y_move rfl)) rfl ?_
                          obtain ⟨t140, h141, hm⟩ := bindS hm
                          refine QJ.cut 9 [(5, pt g12 0), (6, v15), (21, .int .i64 r111.1), (23, .int .i64 r125.1), (24, .int .i64 r125.2), (25, .int .i64 i129), (275, .bool t140)] ?_ ?_
                          · rcases Bool.eq_false_or_eq_true t137 with hb142 | hb142
                            · obtain rfl := orT h141 hb142
                              refine QJ.off rfl rfl (cB hb142) rfl rfl ?_
                              refine QJ.off rfl rfl (cB hb142) rfl rfl ?_
                              refine QJ.off rfl rfl (cB hb142) rfl rfl ?_
                              refine QJ.off rfl rfl (cB hb142) rfl rfl ?_
                              refine QJ.off_undef rfl rfl rfl rfl ?_
                              refine QJ.off_undef rfl rfl rfl rfl ?_
                              refine QJ.off_undef rfl rfl rfl rfl ?_
                              refine QJ.off rfl rfl (cB hb142) rfl rfl ?_
                              refine QJ.step (YldS.yld (y_pick_t (cB hb142) rfl)) rfl ?_
                              exact QJ.cut_end ⟨rfl, rfl, rfl, rfl, rfl, rfl, rfl, trivial⟩
                            · replace h141 := orF h141 hb142
                              refine QJ.on rfl rfl (cB hb142) (YldS.yld (y_move rfl)) rfl ?_
                              refine QJ.on rfl rfl (cB hb142) (YldS.yld (y_move rfl)) rfl ?_
                              refine QJ.on rfl rfl (cB hb142) (YldS.yld (y_bin rfl rfl rfl)) rfl ?_
                              refine QJ.on rfl rfl (cB hb142) (YldS.yld (y_move rfl)) rfl ?_
                              obtain ⟨t143, h144, h141⟩ := bindS h141
                              refine QJ.cut 4 [(5, pt g12 0), (6, v15), (21, .int .i64 r111.1), (23, .int .i64 r125.1), (24, .int .i64 r125.2), (25, .int .i64 i129), (266, .bool t137), (274, .bool t143)] ?_ ?_
                              · rcases Bool.eq_false_or_eq_true (decide (i129 < r111.1)) with hb145 | hb145
                                · replace h144 := andT h144 hb145
                                  refine QJ.on rfl rfl (cB hb145) (YldS.yld (y_move rfl)) rfl ?_
                                  refine QJ.on rfl rfl (cB hb145) (YldS.yld (y_move rfl)) rfl ?_
                                  refine QJ.on rfl rfl (cB hb145) (YldS.yld (y_bin rfl rfl rfl)) rfl ?_
                                  refine QJ.on rfl rfl (cB hb142) (YldS.yld (y_pick_t (cB hb145) rfl)) rfl ?_
                                  obtain rfl := Option.some.inj h144
                                  exact QJ.cut_end ⟨rfl, rfl, rfl, rfl, rfl, rfl, rfl, rfl, trivial⟩
                                · obtain rfl := andF h144 hb145
                                  refine QJ.off rfl rfl (cB hb145) rfl rfl ?_
                                  refine QJ.off rfl rfl (cB hb145) rfl rfl ?_
                                  refine QJ.off rfl rfl (cB hb145) rfl rfl ?_
                                  refine QJ.on rfl rfl (cB hb142) (YldS.yld (y_pick_f (cB hb145) rfl)) rfl ?_
                                  exact QJ.cut_end ⟨rfl, rfl, rfl, rfl, rfl, rfl, rfl, rfl, trivial⟩
                              refine QJ.step (YldS.yld (y_pick_f (cB hb142) rfl)) rfl ?_
                              obtain rfl := Option.some.inj h141
                              exact QJ.cut_end ⟨rfl, rfl, rfl, rfl, rfl, rfl, rfl, trivial⟩
                          refine QJ.done ?_
                          refine PJ.next ?_
                          refine WJ.cond (t := t140) rfl (fun hb146 => ?_) (fun hb146 => ?_)
                          · replace hm := ifT hm hb146
                            refine WJ.seq ?_
                            refine WJ.quiet ?_
                            refine QJ.step (YldS.yld (y_assign rfl)) rfl ?_
                            refine QJ.done ?_
                            refine PJ.next ?_
                            refine WJ.ret ?_
                            refine PJ.block_ret (PJ.then_ret (PJ.then_ret (PJ.block_ret (PJ.then_ret ?_))))
                            obtain rfl := Option.some.inj hm
                            refine PJ.sel (L' := []) [] ⟨List.nodup_nil, rfl⟩ ?_
                            exact PJ.retn (vs := [.bool false]) Try.results3 ⟨rfl, trivial⟩ ⟨rfl, rfl⟩
                          · replace hm := ifF hm hb146
                            refine WJ.skip ?_
                            refine PJ.block_normal (PJ.next ?_)
                            refine WJ.quiet ?_
                            refine QJ.step (YldS.yld (y_move rfl)) rfl ?_
                            refine QJ.step (YldS.yld (y_bin rfl rfl rfl)) rfl ?_
                            refine QJ.step (YldS.yld (y_assign rfl)) rfl ?_
                            refine QJ.done ?_
                            exact PJ.round (w64 (i129 + 1)) [0, 1] hm ⟨rfl, rfl, rfl, rfl, rfl, rfl, trivial⟩ ⟨by decide, rfl⟩
                        · replace hm := ifF hm hb130
                          refine WJ.exit ?_
                          refine PJ.then_exit (PJ.then_exit (PJ.block_exit ?_))
                          exact PJ.joined () [] hm ⟨rfl, trivial⟩ ⟨List.nodup_nil, rfl⟩
                    · rintro _ hm
                      subst hk128
                      refine WJ.seq ?_
                      refine WJ.quiet ?_
                      refine QJ.step (YldS.yld (y_move rfl)) rfl ?_
                      refine QJ.step (YldS.yld (y_bin rfl rfl rfl)) rfl ?_
                      refine QJ.step (YldS.yld (y_assign rfl)) rfl ?_
                      refine QJ.done ?_
                      refine PJ.next ?_
                      refine WJ.ret ?_
                      obtain rfl := Option.some.inj hm
                      refine PJ.sel (L' := []) [] ⟨List.nodup_nil, rfl⟩ ?_
                      exact PJ.retn (vs := [.bool (r125.2 == 0)]) Try.results3 ⟨rfl, trivial⟩ ⟨rfl, rfl⟩

end Go.Proofs.Ytdkhpbfciajaeaa
