/-
  The walks: a call hands back what its plain function computes, where that has a value. No other conditions.
-/
import Derived.Test.YtcegcmoeimjioaaFnSheetsM
import Derived.Test.YtcegcmoeimjioaaChecked
import Derived.Test.YtcegcmoeimjioaaFnSheetsS
namespace Go.Proofs.Ytcegcmoeimjioaa
open Go.RowKit Go.Proofs
set_option linter.unusedVariables false
set_option linter.unusedSimpArgs false

theorem follows : Try.prog.follows .mixedOrders = true := by kernel_rfl

theorem pl96 : PlacesOk Try.prog 96 [(0, 1), (1, 1), (2, 1)] := ⟨_, Try.runUnderlying96, fun w => by simp [Try.sizeOf3, Try.sizeOf22, Try.sizeOf94]⟩
theorem fld96_1 : FieldOk Try.prog 96 1 1 3 0 := ⟨_, _, Try.runUnderlying96, rfl, rfl, rfl, Try.sizeOf3⟩
theorem fld96_0 : FieldOk Try.prog 96 0 0 22 0 := ⟨_, _, Try.runUnderlying96, rfl, rfl, rfl, Try.sizeOf22⟩
theorem fld96_2 : FieldOk Try.prog 96 2 2 94 0 := ⟨_, _, Try.runUnderlying96, rfl, rfl, rfl, Try.sizeOf94⟩
set_option maxRecDepth 100000 in
theorem el2 : ElemOk Try.prog 2 1 (fI64.enc 0) := ⟨_, _, Try.type2, rfl, rfl, rfl, by decide⟩
set_option maxRecDepth 100000 in
open Go.RowKit Go.Lib Go.Sort Go.Proofs in
theorem sortC64_24 : SortC Try.prog 64 24 := by
  refine ⟨fun p n c lf la lb w hn => ?_, fun α _ enc lt g lb blk off c d w h1 heg h2 h12 hless hH hblk => ?_⟩
  · have h := fun f hf => Any.sort_SliceStable_tiny Try.laysGt8 24 2 _ _ Try.type24 rfl (by kernel_rfl) Try.type2 6 (fun _ => by kernel_rfl) p n c hn f hf lf la lb w
    match n, hn with
    | 0, _ => exact h 98 (by kernel_rfl)
    | 1, _ => exact h 99 (by kernel_rfl)
  · have hk : ∀ ie : TypeInfo, ie.hasPointers = false → ie.bytes = 8 → Lib.swapperK d.size ie 6 = 5 := fun ie a b => by
      have c1 : (d.size == 0) = false := by rw [beq_eq_false_iff_ne]; omega
      have c2 : (d.size == 1) = false := by rw [beq_eq_false_iff_ne]; omega
      simp [Lib.swapperK, a, b, c1, c2]
    exact Any.sort_SliceStable_small Try.laysGt8 24 2 _ _ Try.type24 rfl (by kernel_rfl) Try.type2 6 (fun _ => by kernel_rfl) rfl Try.isAgg2 enc h1 lt g lb heg blk off c d h2 (by omega) 102 (by rw [hk _ rfl rfl]; kernel_rfl) true
      (fun args W => run_callFunc_extern Try.func102 (by kernel_rfl) (by kernel_rfl) (by kernel_rfl) (e := Extern.ReflectliteSwapper.swap true) (by kernel_rfl) args W) w hless hH hblk


set_option maxRecDepth 100000 in
set_option maxHeartbeats 1000000 in
theorem ok_w_a2Long {code1 : List UInt8} {more4 : List UInt8} {r : Bool} (hm : w_a2Long code1 more4 = some r) (w : World) (v2 : Value) (hr3 : RdS w (cx w).Fz v2 fByte.rp code1) (v5 : Value) (hr6 : RdS w (cx w).Fz v5 fByte.rp more4) :
    Calls Try.prog 7 #[v2, v5] w (Ret (cx w) (.bool r)) := by
  unfold w_a2Long at hm
  refine Calls.enter [v2, v5] Try.func7 rfl Try.ntmps7 rfl ?_
  refine WJ.seq ?_
  refine WJ.quiet ?_
  refine QJ.step (YldS.yld (y_assign rfl)) rfl ?_
  refine QJ.done ?_
  refine PJ.next ?_
  refine WJ.seq ?_
  refine WJ.quiet ?_
  refine QJ.step (YldS.yld (y_move rfl)) rfl ?_
  refine QJ.step (YldS.yld (y_lenS Try.runUnderlying22 hr3 rfl)) rfl ?_
  refine QJ.step (YldS.yld (y_bin rfl rfl rfl)) rfl ?_
  refine QJ.step (YldS.yld (y_move rfl)) rfl ?_
  obtain ⟨t7, h8, hm⟩ := bindS hm
  refine QJ.cut 4 [(12, .bool t7)] ?_ ?_
  · rcases Bool.eq_false_or_eq_true (decide ((List.length code1 : Int) > 3000)) with hb9 | hb9
    · obtain rfl := orT h8 hb9
      refine QJ.off rfl rfl (cB hb9) rfl rfl ?_
      refine QJ.off rfl rfl (cB hb9) rfl rfl ?_
      refine QJ.off rfl rfl (cB hb9) rfl rfl ?_
      refine QJ.step (YldS.yld (y_pick_t (cB hb9) rfl)) rfl ?_
      exact QJ.cut_end ⟨rfl, trivial⟩
    · replace h8 := orF h8 hb9
      refine QJ.on rfl rfl (cB hb9) (YldS.yld (y_move rfl)) rfl ?_
      refine QJ.on rfl rfl (cB hb9) (YldS.yld (y_lenS Try.runUnderlying22 hr6 rfl)) rfl ?_
      refine QJ.on rfl rfl (cB hb9) (YldS.yld (y_bin rfl rfl rfl)) rfl ?_
      refine QJ.step (YldS.yld (y_pick_f (cB hb9) rfl)) rfl ?_
      obtain rfl := Option.some.inj h8
      exact QJ.cut_end ⟨rfl, trivial⟩
  refine QJ.step (YldS.yld (y_assign rfl)) rfl ?_
  refine QJ.done ?_
  refine PJ.next ?_
  refine WJ.ret ?_
  obtain rfl := Option.some.inj hm
  refine PJ.sel (L' := []) [] ⟨List.nodup_nil, rfl⟩ ?_
  exact PJ.retn (vs := [.bool t7]) Try.results7 ⟨rfl, trivial⟩ ⟨rfl, rfl⟩

set_option maxRecDepth 100000 in
set_option maxHeartbeats 1000000 in
theorem ok_s_l00From {code1 : List UInt8} {r : L00Src} (hm : s_l00From code1 = some r) (w : World) (v2 : Value) (hr3 : RdS w (cx w).Fz v2 fByte.rp code1) :
    Calls Try.prog 42 #[v2] w (RetG (cx w) fun u L => ∃ (u1 : Nat), (u = pt u1 0 ∧ L = [box u1 96 [v2, .int .i64 r.at_, .int .u64 r.seed]])) := by
  unfold s_l00From at hm
  refine Calls.enter [v2] Try.func42 rfl Try.ntmps42 rfl ?_
  refine WJ.seq ?_
  refine WJ.quiet ?_
  refine QJ.step (YldS.yld (y_assign rfl)) rfl ?_
  refine QJ.done ?_
  refine PJ.next ?_
  refine WJ.seq ?_
  refine WJ.reg ?_
  refine SJ.q (YldS.yld (y_move rfl)) rfl ?_
  refine SJ.q (YldS.yld (y_build (parts := [(0, .tmp 3)]) (places := [(0, 1), (1, 1), (2, 1)]) (r := [v2, .int .i64 0, .int .u64 0]) pl96 Try.zeroValue96 rfl rfl (show _ = [(0, [v2])] from by simp only [List.map, RdS.cells1 hr3]) rfl)) rfl ?_
  refine SJ.box (cs := [v2, .int .i64 0, .int .u64 0]) rfl rfl rfl fun g4 => ?_
  refine SJ.q (YldS.yld (y_assign rfl)) rfl ?_
  refine SJ.nil ?_
  refine PJ.next ?_
  refine WJ.ret ?_
  obtain rfl := Option.some.inj hm
  refine PJ.sel (L' := [box g4 96 [v2, .int .i64 0, .int .u64 0]]) [0] ⟨by decide, rfl⟩ ?_
  exact PJ.retn (vs := [pt g4 0]) Try.results42 ⟨rfl, trivial⟩ ⟨_, rfl, rfl⟩

set_option maxRecDepth 100000 in
set_option maxHeartbeats 1000000 in
theorem ok_s_l00Src_next {s1 : L00Src} {g2 : Nat} {r : Int × L00Src} (hm : s_l00Src_next s1 = some r) (w : World) (S : Nat → Prop) (v3 : Value) (hr4 : RdS w (Cx.Fz ⟨w, S⟩) v3 fByte.rp s1.code) (hA : (box g2 96 [v3, .int .i64 s1.at_, .int .u64 s1.seed]).holds w S) :
    Calls Try.prog 72 #[pt g2 0] w (RetG ⟨w, S⟩ fun u L => (u = .int .i64 r.1 ∧ L = [box g2 96 [v3, .int .i64 r.2.at_, .int .u64 r.2.seed]])) := by
  unfold s_l00Src_next at hm
  refine Calls.enter1 hA [pt g2 0] Try.func72 rfl Try.ntmps72 rfl ?_
  refine WJ.seq ?_
  refine WJ.quiet ?_
  refine QJ.step (YldS.yld (y_assign rfl)) rfl ?_
  refine QJ.done ?_
  refine PJ.next ?_
  refine WJ.seq ?_
  refine WJ.quiet ?_
  refine QJ.step (YldS.yld (y_assign rfl)) rfl ?_
  refine QJ.done ?_
  refine PJ.next ?_
  obtain ⟨kj6, hk7, hm⟩ := withK_open hm
  refine WJ.join (X := Int) (fun (x : Int) => kj6 x = some r) (fun (x : Int) => [(0, pt g2 0), (3, .int .i64 x)]) (fun (x : Int) => [box g2 96 [v3, .int .i64 s1.at_, .int .u64 s1.seed]]) ?_ ?_
  · clear hk7
    refine WJ.seq ?_
    refine WJ.quiet_draw follows (by kernel_rfl) ?_
    refine QJ.step (YldS.yld (y_move rfl)) rfl ?_
    refine QJ.step (YldS.yld (y_nil rfl)) rfl ?_
    refine QJ.step (YldS.yld (y_fldB (o := 0) fld96_1 rfl)) rfl ?_
    refine QJ.step (YldS.yld (y_loadB (k := 0) (off := 1) (v := .int .i64 s1.at_) rfl Try.isAgg3 rfl rfl)) rfl ?_
    refine QJ.step (YldS.yld (y_move rfl)) rfl ?_
    refine QJ.step (YldS.yld (y_nil rfl)) rfl ?_
    refine QJ.step (YldS.yld (y_fldB (o := 0) fld96_0 rfl)) rfl ?_
    refine QJ.step (YldS.yld (y_loadB (k := 0) (off := 0) (v := v3) rfl Try.isAgg22 rfl rfl)) rfl ?_
    refine QJ.step (YldS.yld (y_lenS Try.runUnderlying22 hr4 rfl)) rfl ?_
    refine QJ.step (YldS.yld (y_bin rfl rfl rfl)) rfl ?_
    refine QJ.done ?_
    refine PJ.next ?_
    refine WJ.cond (t := decide (s1.at_ < (List.length s1.code : Int))) rfl (fun hb8 => ?_) (fun hb8 => ?_)
    · replace hm := ifT hm hb8
      refine WJ.quiet_draw follows (by kernel_rfl) ?_
      refine QJ.step (YldS.yld (y_move rfl)) rfl ?_
      refine QJ.step (YldS.yld (y_nil rfl)) rfl ?_
      refine QJ.step (YldS.yld (y_fldB (o := 0) fld96_0 rfl)) rfl ?_
      refine QJ.step (YldS.yld (y_loadB (k := 0) (off := 0) (v := v3) rfl Try.isAgg22 rfl rfl)) rfl ?_
      refine QJ.step (YldS.yld (y_move rfl)) rfl ?_
      refine QJ.step (YldS.yld (y_nil rfl)) rfl ?_
      refine QJ.step (YldS.yld (y_fldB (o := 0) fld96_1 rfl)) rfl ?_
      refine QJ.step (YldS.yld (y_loadB (k := 0) (off := 1) (v := .int .i64 s1.at_) rfl Try.isAgg3 rfl rfl)) rfl ?_
      obtain ⟨e9, h10, hm⟩ := bindS hm
      obtain ⟨ad11, _, rfl, ha12, hy13⟩ := hr4.elem h10
      refine QJ.step (YldS.yld (hy13 Try.runUnderlying22 Try.sizeOf5 rfl rfl)) rfl ?_
      refine QJ.step (YldS.yld (y_load1 (v := .int .u8 (UInt8.toNat e9 : Int)) Try.isAgg5 ha12 St.frozenC rfl)) rfl ?_
      refine QJ.step (YldS.yld (y_conv8 Try.runUnderlying5 Try.runUnderlying3 rfl)) rfl ?_
      refine QJ.step (YldS.yld (y_assign rfl)) rfl ?_
      refine QJ.done ?_
      exact PJ.joined (UInt8.toNat e9 : Int) [0] hm ⟨rfl, rfl, trivial⟩ ⟨by decide, rfl⟩
    · replace hm := ifF hm hb8
      refine WJ.skip ?_
      exact PJ.joined 0 [0] hm ⟨rfl, rfl, trivial⟩ ⟨by decide, rfl⟩
  · rintro b5 hm
    subst hk7
    refine WJ.seq ?_
    refine WJ.reg ?_
    refine SJ.q (YldS.yld (y_move rfl)) rfl ?_
    refine SJ.q (YldS.yld (y_nil rfl)) rfl ?_
    refine SJ.q (YldS.yld (y_fldB (o := 0) fld96_1 rfl)) rfl ?_
    refine SJ.q (YldS.yld (y_loadB (k := 0) (off := 1) (v := .int .i64 s1.at_) rfl Try.isAgg3 rfl rfl)) rfl ?_
    refine SJ.q (YldS.yld (y_bin rfl rfl rfl)) rfl ?_
    refine SJ.q (YldS.yld (y_nil rfl)) rfl ?_
    refine SJ.q (YldS.yld (y_fldB (o := 0) fld96_1 rfl)) rfl ?_
    refine SJ.storeL (k := 0) (off := 1) (us := [.int .i64 (w64 (s1.at_ + 1))]) rfl rfl rfl rfl Try.sizeOf3 rfl rfl ?_
    refine SJ.nil ?_
    refine PJ.next ?_
    refine WJ.seq ?_
    refine WJ.reg ?_
    refine SJ.q (YldS.yld (y_move rfl)) rfl ?_
    refine SJ.q (YldS.yld (y_move rfl)) rfl ?_
    refine SJ.q (YldS.yld (y_nil rfl)) rfl ?_
    refine SJ.q (YldS.yld (y_fldB (o := 0) fld96_2 rfl)) rfl ?_
    refine SJ.q (YldS.yld (y_loadB (k := 0) (off := 2) (v := .int .u64 s1.seed) rfl Try.isAgg94 rfl rfl)) rfl ?_
    refine SJ.q (YldS.yld (y_bin rfl rfl rfl)) rfl ?_
    refine SJ.q (YldS.yld (y_move rfl)) rfl ?_
    refine SJ.q (YldS.yld (y_convI Try.runUnderlying3 Try.runUnderlying94 rfl)) rfl ?_
    refine SJ.q (YldS.yld (y_bin rfl rfl rfl)) rfl ?_
    refine SJ.q (YldS.yld (y_bin rfl rfl rfl)) rfl ?_
    refine SJ.q (YldS.yld (y_nil rfl)) rfl ?_
    refine SJ.q (YldS.yld (y_fldB (o := 0) fld96_2 rfl)) rfl ?_
    refine SJ.storeL (k := 0) (off := 2) (us := [.int .u64 (IntKind.u64.wrap ((IntKind.u64.wrap ((IntKind.u64.wrap (s1.seed * 6364136223846793005)) + (IntKind.u64.wrap b5))) + 1442695040888963407))]) rfl rfl rfl rfl Try.sizeOf94 rfl rfl ?_
    refine SJ.nil ?_
    refine PJ.next ?_
    refine WJ.seq ?_
    refine WJ.seq ?_
    refine WJ.quiet_draw follows (by kernel_rfl) ?_
    refine QJ.step (YldS.yld (y_move rfl)) rfl ?_
    refine QJ.step (YldS.yld (y_nil rfl)) rfl ?_
    refine QJ.step (YldS.yld (y_fldB (o := 0) fld96_1 rfl)) rfl ?_
    refine QJ.step (YldS.yld (y_loadB (k := 0) (off := 1) (v := .int .i64 (w64 (s1.at_ + 1))) rfl Try.isAgg3 rfl rfl)) rfl ?_
    refine QJ.step (YldS.yld (y_move rfl)) rfl ?_
    refine QJ.step (YldS.yld (y_nil rfl)) rfl ?_
    refine QJ.step (YldS.yld (y_fldB (o := 0) fld96_0 rfl)) rfl ?_
    refine QJ.step (YldS.yld (y_loadB (k := 0) (off := 0) (v := v3) rfl Try.isAgg22 rfl rfl)) rfl ?_
    refine QJ.step (YldS.yld (y_lenS Try.runUnderlying22 hr4 rfl)) rfl ?_
    refine QJ.step (YldS.yld (y_bin rfl rfl rfl)) rfl ?_
    refine QJ.done ?_
    refine PJ.next ?_
    refine WJ.cond (t := decide ((w64 (s1.at_ + 1)) ≤ (List.length s1.code : Int))) rfl (fun hb14 => ?_) (fun hb14 => ?_)
    · replace hm := ifT hm hb14
      refine WJ.seq ?_
      refine WJ.quiet ?_
      refine QJ.step (YldS.yld (y_move rfl)) rfl ?_
      refine QJ.step (YldS.yld (y_assign rfl)) rfl ?_
      refine QJ.done ?_
      refine PJ.next ?_
      refine WJ.ret ?_
      refine PJ.then_ret ?_
      obtain rfl := Option.some.inj hm
      refine PJ.sel (L' := [box g2 96 [v3, .int .i64 (w64 (s1.at_ + 1)), .int .u64 (IntKind.u64.wrap ((IntKind.u64.wrap ((IntKind.u64.wrap (s1.seed * 6364136223846793005)) + (IntKind.u64.wrap b5))) + 1442695040888963407))]]) [0] ⟨by decide, rfl⟩ ?_
      exact PJ.retn (vs := [.int .i64 b5]) Try.results72 ⟨rfl, trivial⟩ ⟨rfl, rfl⟩
    · replace hm := ifF hm hb14
      refine WJ.skip ?_
      refine PJ.next ?_
      refine WJ.seq ?_
      refine WJ.quiet ?_
      refine QJ.step (YldS.yld (y_move rfl)) rfl ?_
      refine QJ.step (YldS.yld (y_nil rfl)) rfl ?_
      refine QJ.step (YldS.yld (y_fldB (o := 0) fld96_2 rfl)) rfl ?_
      refine QJ.step (YldS.yld (y_loadB (k := 0) (off := 2) (v := .int .u64 (IntKind.u64.wrap ((IntKind.u64.wrap ((IntKind.u64.wrap (s1.seed * 6364136223846793005)) + (IntKind.u64.wrap b5))) + 1442695040888963407))) rfl Try.isAgg94 rfl rfl)) rfl ?_
      refine QJ.step (YldS.yld (y_shru rfl rfl rfl)) rfl ?_
      refine QJ.step (YldS.yld (y_andu rfl rfl rfl)) rfl ?_
      refine QJ.step (YldS.yld (y_convI Try.runUnderlying94 Try.runUnderlying2 rfl)) rfl ?_
      refine QJ.step (YldS.yld (y_assign rfl)) rfl ?_
      refine QJ.done ?_
      refine PJ.next ?_
      refine WJ.ret ?_
      obtain rfl := Option.some.inj hm
      refine PJ.sel (L' := [box g2 96 [v3, .int .i64 (w64 (s1.at_ + 1)), .int .u64 (IntKind.u64.wrap ((IntKind.u64.wrap ((IntKind.u64.wrap (s1.seed * 6364136223846793005)) + (IntKind.u64.wrap b5))) + 1442695040888963407))]]) [0] ⟨by decide, rfl⟩ ?_
      exact PJ.retn (vs := [.int .i64 (w64 (uand (ushr (IntKind.u64.wrap ((IntKind.u64.wrap ((IntKind.u64.wrap (s1.seed * 6364136223846793005)) + (IntKind.u64.wrap b5))) + 1442695040888963407)) 40) 255))]) Try.results72 ⟨rfl, trivial⟩ ⟨rfl, rfl⟩

set_option maxRecDepth 100000 in
set_option maxHeartbeats 1000000 in
theorem ok_s_l00Src_pick {s1 : L00Src} {n5 : Int} {g2 : Nat} {r : Int × L00Src} (hm : s_l00Src_pick s1 n5 = some r) (w : World) (S : Nat → Prop) (v3 : Value) (hr4 : RdS w (Cx.Fz ⟨w, S⟩) v3 fByte.rp s1.code) (hA : (box g2 96 [v3, .int .i64 s1.at_, .int .u64 s1.seed]).holds w S) :
    Calls Try.prog 43 #[pt g2 0, .int .i64 n5] w (RetG ⟨w, S⟩ fun u L => (u = .int .i64 r.1 ∧ L = [box g2 96 [v3, .int .i64 r.2.at_, .int .u64 r.2.seed]])) := by
  unfold s_l00Src_pick at hm
  refine Calls.enter1 hA [pt g2 0, .int .i64 n5] Try.func43 rfl Try.ntmps43 rfl ?_
  refine WJ.seq ?_
  refine WJ.quiet ?_
  refine QJ.step (YldS.yld (y_assign rfl)) rfl ?_
  refine QJ.done ?_
  refine PJ.next ?_
  refine WJ.seq ?_
  refine WJ.seq ?_
  refine WJ.quiet ?_
  refine QJ.step (YldS.yld (y_move rfl)) rfl ?_
  refine QJ.step (YldS.yld (y_bin rfl rfl rfl)) rfl ?_
  refine QJ.done ?_
  refine PJ.next ?_
  refine WJ.cond (t := decide (n5 ≤ 1)) rfl (fun hb6 => ?_) (fun hb6 => ?_)
  · replace hm := ifT hm hb6
    refine WJ.seq ?_
    refine WJ.quiet ?_
    refine QJ.step (YldS.yld (y_assign rfl)) rfl ?_
    refine QJ.done ?_
    refine PJ.next ?_
    refine WJ.ret ?_
    refine PJ.then_ret ?_
    obtain rfl := Option.some.inj hm
    refine PJ.sel (L' := [box g2 96 [v3, .int .i64 s1.at_, .int .u64 s1.seed]]) [0] ⟨by decide, rfl⟩ ?_
    exact PJ.retn (vs := [.int .i64 0]) Try.results43 ⟨rfl, trivial⟩ ⟨rfl, rfl⟩
  · replace hm := ifF hm hb6
    refine WJ.skip ?_
    refine PJ.next ?_
    refine WJ.seq ?_
    refine WJ.reg ?_
    refine SJ.q (YldS.yld (y_move rfl)) rfl ?_
    obtain ⟨r7, h8, hm⟩ := bindS hm
    refine SJ.call1 (k := 0) rfl Try.call72 rfl (fun w S hw hA hO => ok_s_l00Src_next h8 w S _ (hr4.st1 hw hO) hA) rfl ?_
    rintro _ _ ⟨rfl, rfl⟩
    refine SJ.q (YldS.yld (y_assign rfl)) rfl ?_
    refine SJ.nil ?_
    refine PJ.next ?_
    obtain ⟨kj12, hk13, hm⟩ := withK_open hm
    refine WJ.join (X := Int × Int × Int) (fun (x : Int × Int × Int) => kj12 x.1 x.2.1 x.2.2 = some r) (fun (x : Int × Int × Int) => [(1, .int .i64 n5), (5, .int .i64 x.2.2)]) (fun (x : Int × Int × Int) => [box g2 96 [v3, .int .i64 x.1, .int .u64 x.2.1]]) ?_ ?_
    · clear hk13
      refine WJ.seq ?_
      refine WJ.quiet ?_
      refine QJ.step (YldS.yld (y_move rfl)) rfl ?_
      refine QJ.step (YldS.yld (y_bin rfl rfl rfl)) rfl ?_
      refine QJ.done ?_
      refine PJ.next ?_
      refine WJ.cond (t := decide (n5 > 200)) rfl (fun hb14 => ?_) (fun hb14 => ?_)
      · replace hm := ifT hm hb14
        refine WJ.reg ?_
        refine SJ.q (YldS.yld (y_move rfl)) rfl ?_
        refine SJ.q (YldS.yld (y_bin rfl rfl rfl)) rfl ?_
        refine SJ.q (YldS.yld (y_move rfl)) rfl ?_
        obtain ⟨r15, h16, hm⟩ := bindS hm
        refine SJ.call1 (k := 0) rfl Try.call72 rfl (fun w S hw hA hO => ok_s_l00Src_next h16 w S _ (hr4.st1 hw hO) hA) rfl ?_
        rintro _ _ ⟨rfl, rfl⟩
        refine SJ.q (YldS.yld (y_bin rfl rfl rfl)) rfl ?_
        refine SJ.q (YldS.yld (y_assign rfl)) rfl ?_
        refine SJ.nil ?_
        exact PJ.joined (r15.2.at_, r15.2.seed, w64 ((w64 (r7.1 * 256)) + r15.1)) [0] hm ⟨rfl, rfl, trivial⟩ ⟨by decide, rfl⟩
      · replace hm := ifF hm hb14
        refine WJ.skip ?_
        exact PJ.joined (r7.2.at_, r7.2.seed, r7.1) [0] hm ⟨rfl, rfl, trivial⟩ ⟨by decide, rfl⟩
    · rintro ⟨x9, x10, x11⟩ hm
      subst hk13
      refine WJ.seq ?_
      refine WJ.quiet ?_
      refine QJ.step (YldS.yld (y_move rfl)) rfl ?_
      refine QJ.step (YldS.yld (y_move rfl)) rfl ?_
      obtain ⟨q17, h18, hm⟩ := bindS hm
      refine QJ.step (YldS.yld (y_rem' h18 rfl rfl)) rfl ?_
      refine QJ.step (YldS.yld (y_assign rfl)) rfl ?_
      refine QJ.done ?_
      refine PJ.next ?_
      refine WJ.ret ?_
      obtain rfl := Option.some.inj hm
      refine PJ.sel (L' := [box g2 96 [v3, .int .i64 x9, .int .u64 x10]]) [0] ⟨by decide, rfl⟩ ?_
      exact PJ.retn (vs := [.int .i64 q17]) Try.results43 ⟨rfl, trivial⟩ ⟨rfl, rfl⟩

set_option maxRecDepth 100000 in
set_option maxHeartbeats 1000000 in
theorem ok_s_A2Worn {N : Nat} {code1 : List UInt8} {r : (List Int)} (hm : s_A2Worn N code1 = some r) (w : World) (v2 : Value) (hr3 : RdS w (cx w).Fz v2 fByte.rp code1) :
    Calls Try.prog 8 #[v2] w (RetG (cx w) fun u L => ∃ (u1 : Value), (u = u1 ∧ L = [row u1 2 fI64 r])) := by
  unfold s_A2Worn at hm
  refine Calls.enter [v2] Try.func8 rfl Try.ntmps8 rfl ?_
  refine WJ.seq ?_
  refine WJ.quiet ?_
  refine QJ.step (YldS.yld (y_assign rfl)) rfl ?_
  refine QJ.done ?_
  refine PJ.next ?_
  refine WJ.seq ?_
  refine WJ.reg ?_
  refine SJ.q (YldS.yld (y_move rfl)) rfl ?_
  obtain ⟨r4, h5, hm⟩ := bindS hm
  refine SJ.call Try.call42 rfl (fun w hw => ok_s_l00From h5 w _ (hr3.st hw)) rfl ?_
  rintro _ _ ⟨g6, rfl, rfl⟩
  refine SJ.q (YldS.yld (y_assign rfl)) rfl ?_
  refine SJ.nil ?_
  refine PJ.next ?_
  refine WJ.seq ?_
  refine WJ.reg ?_
  refine SJ.buildSlice (R := fI64) (os := []) [] Try.runUnderlying24 Try.sizeOf2 Try.zeroValue2 rfl rfl rfl rfl rfl rfl fun v7 => ?_
  refine SJ.q (YldS.yld (y_assign rfl)) rfl ?_
  refine SJ.nil ?_
  refine PJ.next ?_
  obtain ⟨kj10, hk11, hm⟩ := withK_open hm
  refine WJ.join (X := (List Int) × Value) (fun (x : (List Int) × Value) => kj10 x.1 = some r) (fun (x : (List Int) × Value) => [(4, x.2)]) (fun (x : (List Int) × Value) => [row x.2 2 fI64 x.1]) ?_ ?_
  · clear hk11
    refine WJ.seq ?_
    refine WJ.reg ?_
    refine SJ.q (YldS.yld (y_move rfl)) rfl ?_
    obtain ⟨r12, h13, hm⟩ := bindS hm
    refine SJ.call1 (k := 1) rfl Try.call43 rfl (fun w S hw hA hO => ok_s_l00Src_pick h13 w S _ (hr3.st1 hw hO) hA) rfl ?_
    rintro _ _ ⟨rfl, rfl⟩
    refine SJ.q (YldS.yld (y_assign rfl)) rfl ?_
    refine SJ.nil ?_
    refine PJ.next ?_
    refine WJ.block ?_
    refine WJ.sel (L' := (fun (x : Int × Int × (List Int) × Value × Int) => [box g6 96 [v2, .int .i64 x.1, .int .u64 x.2.1], row x.2.2.2.1 2 fI64 x.2.2.1]) (r12.2.at_, r12.2.seed, [], v7, r12.1)) [0, 1] ⟨by decide, rfl⟩ ?_
    refine WJ.sub (m' := (fun (x : Int × Int × (List Int) × Value × Int) => [(3, pt g6 0), (4, x.2.2.2.1), (5, .int .i64 x.2.2.2.2)]) (r12.2.at_, r12.2.seed, [], v7, r12.1)) ⟨rfl, rfl, rfl, trivial⟩ ?_
    refine WJ.loop (X := Int × Int × (List Int) × Value × Int) (fun N (x : Int × Int × (List Int) × Value × Int) => s_A2Worn_l1 kj10 code1 N x.1 x.2.1 x.2.2.1 x.2.2.2.2 = some r) (fun (x : Int × Int × (List Int) × Value × Int) => [(3, pt g6 0), (4, x.2.2.2.1), (5, .int .i64 x.2.2.2.2)]) (fun (x : Int × Int × (List Int) × Value × Int) => [box g6 96 [v2, .int .i64 x.1, .int .u64 x.2.1], row x.2.2.2.1 2 fI64 x.2.2.1]) ?_ N (r12.2.at_, r12.2.seed, [], v7, r12.1) hm
    · rintro N ⟨x14, x15, l16, v17, k18⟩ hI
      have hm := hI; clear hI
      cases N with
      | zero => cases hm
      | succ N =>
      unfold s_A2Worn_l1 at hm
      refine WJ.seq ?_
      refine WJ.seq ?_
      refine WJ.quiet ?_
      refine QJ.step (YldS.yld (y_move rfl)) rfl ?_
      refine QJ.step (YldS.yld (y_bin rfl rfl rfl)) rfl ?_
      refine QJ.done ?_
      refine PJ.next ?_
      refine WJ.cond (t := decide (k18 > 0)) rfl (fun hb19 => ?_) (fun hb19 => ?_)
      · replace hm := ifT hm hb19
        refine WJ.skip ?_
        refine PJ.next ?_
        refine WJ.seq ?_
        refine WJ.block ?_
        refine WJ.reg ?_
        refine SJ.q (YldS.yld (y_move rfl)) rfl ?_
        refine SJ.q (YldS.yld (y_move rfl)) rfl ?_
        obtain ⟨r20, h21, hm⟩ := bindS hm
        refine SJ.call1 (k := 0) rfl Try.call43 rfl (fun w S hw hA hO => ok_s_l00Src_pick h21 w S _ (hr3.st1 hw hO) hA) rfl ?_
        rintro _ _ ⟨rfl, rfl⟩
        refine SJ.buildSlice (R := fI64) (os := [.tmp 17]) [r20.1] Try.runUnderlying24 Try.sizeOf2 Try.zeroValue2 rfl rfl rfl rfl rfl rfl fun v22 => ?_
        obtain ⟨l23, h24, hm⟩ := bindS hm
        refine SJ.append (k := 2) (R := fI64) h24 rfl Try.underlying24 el2 rfl rfl rfl (fun w hw => (hw.row_rd (k := 0) rfl)) rfl fun v25 => ?_
        refine SJ.q (YldS.yld (y_assign rfl)) rfl ?_
        refine SJ.nil ?_
        refine PJ.block_normal (PJ.next ?_)
        refine WJ.quiet ?_
        refine QJ.step (YldS.yld (y_move rfl)) rfl ?_
        refine QJ.step (YldS.yld (y_bin rfl rfl rfl)) rfl ?_
        refine QJ.step (YldS.yld (y_assign rfl)) rfl ?_
        refine QJ.done ?_
        exact PJ.round (r20.2.at_, r20.2.seed, l23, v25, w64 (k18 - 1)) [1, 2] hm ⟨rfl, rfl, rfl, trivial⟩ ⟨by decide, rfl⟩
      · replace hm := ifF hm hb19
        refine WJ.exit ?_
        refine PJ.then_exit (PJ.then_exit (PJ.block_exit ?_))
        exact PJ.joined (l16, v17) [1] hm ⟨rfl, trivial⟩ ⟨by decide, rfl⟩
  · rintro ⟨l8, v9⟩ hm
    subst hk11
    refine WJ.seq ?_
    refine WJ.quiet ?_
    refine QJ.step (YldS.yld (y_move rfl)) rfl ?_
    refine QJ.step (YldS.yld (y_assign rfl)) rfl ?_
    refine QJ.done ?_
    refine PJ.next ?_
    refine WJ.ret ?_
    obtain rfl := Option.some.inj hm
    refine PJ.sel (L' := [row v9 2 fI64 l8]) [0] ⟨by decide, rfl⟩ ?_
    exact PJ.retn (vs := [v9]) Try.results8 ⟨rfl, trivial⟩ ⟨_, rfl, rfl⟩

set_option maxRecDepth 100000 in
set_option maxHeartbeats 1000000 in
theorem ok_w_a2At {code1 : List UInt8} {at4 : Int} {n5 : Int} {r : Int} (hm : w_a2At code1 at4 n5 = some r) (w : World) (v2 : Value) (hr3 : RdS w (cx w).Fz v2 fByte.rp code1) :
    Calls Try.prog 9 #[v2, .int .i64 at4, .int .i64 n5] w (Ret (cx w) (.int .i64 r)) := by
  unfold w_a2At at hm
  refine Calls.enter [v2, .int .i64 at4, .int .i64 n5] Try.func9 rfl Try.ntmps9 rfl ?_
  refine WJ.seq ?_
  refine WJ.quiet ?_
  refine QJ.step (YldS.yld (y_assign rfl)) rfl ?_
  refine QJ.done ?_
  refine PJ.next ?_
  refine WJ.seq ?_
  refine WJ.seq ?_
  refine WJ.quiet ?_
  refine QJ.step (YldS.yld (y_move rfl)) rfl ?_
  refine QJ.step (YldS.yld (y_move rfl)) rfl ?_
  refine QJ.step (YldS.yld (y_lenS Try.runUnderlying22 hr3 rfl)) rfl ?_
  refine QJ.step (YldS.yld (y_bin rfl rfl rfl)) rfl ?_
  refine QJ.step (YldS.yld (y_move rfl)) rfl ?_
  obtain ⟨t6, h7, hm⟩ := bindS hm
  refine QJ.cut 3 [(0, v2), (1, .int .i64 at4), (2, .int .i64 n5), (14, .bool t6)] ?_ ?_
  · rcases Bool.eq_false_or_eq_true (decide (at4 ≥ (List.length code1 : Int))) with hb8 | hb8
    · obtain rfl := orT h7 hb8
      refine QJ.off rfl rfl (cB hb8) rfl rfl ?_
      refine QJ.off rfl rfl (cB hb8) rfl rfl ?_
      refine QJ.step (YldS.yld (y_pick_t (cB hb8) rfl)) rfl ?_
      exact QJ.cut_end ⟨rfl, rfl, rfl, rfl, trivial⟩
    · replace h7 := orF h7 hb8
      refine QJ.on rfl rfl (cB hb8) (YldS.yld (y_move rfl)) rfl ?_
      refine QJ.on rfl rfl (cB hb8) (YldS.yld (y_bin rfl rfl rfl)) rfl ?_
      refine QJ.step (YldS.yld (y_pick_f (cB hb8) rfl)) rfl ?_
      obtain rfl := Option.some.inj h7
      exact QJ.cut_end ⟨rfl, rfl, rfl, rfl, trivial⟩
  refine QJ.done ?_
  refine PJ.next ?_
  refine WJ.cond (t := t6) rfl (fun hb9 => ?_) (fun hb9 => ?_)
  · replace hm := ifT hm hb9
    refine WJ.seq ?_
    refine WJ.quiet ?_
    refine QJ.step (YldS.yld (y_assign rfl)) rfl ?_
    refine QJ.done ?_
    refine PJ.next ?_
    refine WJ.ret ?_
    refine PJ.then_ret ?_
    obtain rfl := Option.some.inj hm
    refine PJ.sel (L' := []) [] ⟨List.nodup_nil, rfl⟩ ?_
    exact PJ.retn (vs := [.int .i64 0]) Try.results9 ⟨rfl, trivial⟩ ⟨rfl, rfl⟩
  · replace hm := ifF hm hb9
    refine WJ.skip ?_
    refine PJ.next ?_
    refine WJ.seq ?_
    refine WJ.quiet ?_
    refine QJ.step (YldS.yld (y_move rfl)) rfl ?_
    refine QJ.step (YldS.yld (y_move rfl)) rfl ?_
    obtain ⟨e10, h11, hm⟩ := bindS hm
    obtain ⟨ad12, _, rfl, ha13, hy14⟩ := hr3.elem h11
    refine QJ.step (YldS.yld (hy14 Try.runUnderlying22 Try.sizeOf5 rfl rfl)) rfl ?_
    refine QJ.step (YldS.yld (y_load1 (v := .int .u8 (UInt8.toNat e10 : Int)) Try.isAgg5 ha13 St.frozenC rfl)) rfl ?_
    refine QJ.step (YldS.yld (y_conv8 Try.runUnderlying5 Try.runUnderlying2 rfl)) rfl ?_
    refine QJ.step (YldS.yld (y_move rfl)) rfl ?_
    obtain ⟨q15, h16, hm⟩ := bindS hm
    refine QJ.step (YldS.yld (y_rem' h16 rfl rfl)) rfl ?_
    refine QJ.step (YldS.yld (y_assign rfl)) rfl ?_
    refine QJ.done ?_
    refine PJ.next ?_
    refine WJ.ret ?_
    obtain rfl := Option.some.inj hm
    refine PJ.sel (L' := []) [] ⟨List.nodup_nil, rfl⟩ ?_
    exact PJ.retn (vs := [.int .i64 q15]) Try.results9 ⟨rfl, trivial⟩ ⟨rfl, rfl⟩

set_option maxRecDepth 100000 in
set_option maxHeartbeats 1000000 in
theorem ok_i_between {n1 : Int} {low2 : Int} {high3 : Int} {r : Bool} (hm : i_between n1 low2 high3 = some r) (w : World)  :
    Calls Try.prog 45 #[.int .i64 n1, .int .i64 low2, .int .i64 high3] w (Ret (cx w) (.bool r)) := by
  unfold i_between at hm
  refine Calls.enter [.int .i64 n1, .int .i64 low2, .int .i64 high3] Try.func45 rfl Try.ntmps45 rfl ?_
  refine WJ.seq ?_
  refine WJ.quiet ?_
  refine QJ.step (YldS.yld (y_assign rfl)) rfl ?_
  refine QJ.done ?_
  refine PJ.next ?_
  refine WJ.seq ?_
  refine WJ.quiet ?_
  refine QJ.step (YldS.yld (y_move rfl)) rfl ?_
  refine QJ.step (YldS.yld (y_move rfl)) rfl ?_
  refine QJ.step (YldS.yld (y_bin rfl rfl rfl)) rfl ?_
  refine QJ.step (YldS.yld (y_move rfl)) rfl ?_
  obtain ⟨t4, h5, hm⟩ := bindS hm
  refine QJ.cut 4 [(14, .bool t4)] ?_ ?_
  · rcases Bool.eq_false_or_eq_true (decide (n1 ≥ low2)) with hb6 | hb6
    · replace h5 := andT h5 hb6
      refine QJ.on rfl rfl (cB hb6) (YldS.yld (y_move rfl)) rfl ?_
      refine QJ.on rfl rfl (cB hb6) (YldS.yld (y_move rfl)) rfl ?_
      refine QJ.on rfl rfl (cB hb6) (YldS.yld (y_bin rfl rfl rfl)) rfl ?_
      refine QJ.step (YldS.yld (y_pick_t (cB hb6) rfl)) rfl ?_
      obtain rfl := Option.some.inj h5
      exact QJ.cut_end ⟨rfl, trivial⟩
    · obtain rfl := andF h5 hb6
      refine QJ.off rfl rfl (cB hb6) rfl rfl ?_
      refine QJ.off rfl rfl (cB hb6) rfl rfl ?_
      refine QJ.off rfl rfl (cB hb6) rfl rfl ?_
      refine QJ.step (YldS.yld (y_pick_f (cB hb6) rfl)) rfl ?_
      exact QJ.cut_end ⟨rfl, trivial⟩
  refine QJ.step (YldS.yld (y_assign rfl)) rfl ?_
  refine QJ.done ?_
  refine PJ.next ?_
  refine WJ.ret ?_
  obtain rfl := Option.some.inj hm
  refine PJ.sel (L' := []) [] ⟨List.nodup_nil, rfl⟩ ?_
  exact PJ.retn (vs := [.bool t4]) Try.results45 ⟨rfl, trivial⟩ ⟨rfl, rfl⟩

set_option maxRecDepth 100000 in
set_option maxHeartbeats 1000000 in
theorem ok_i_areWorn {N : Nat} {worn1 : List Int} {r : Bool} (hm : i_areWorn N worn1 = some r) (w : World) (v2 : Value) (hr3 : RdS w (cx w).Fz v2 fI64.rp worn1) :
    Calls Try.prog 44 #[v2] w (Ret (cx w) (.bool r)) := by
  unfold i_areWorn at hm
  refine Calls.enter [v2] Try.func44 rfl Try.ntmps44 rfl ?_
  refine WJ.seq ?_
  refine WJ.quiet ?_
  refine QJ.step (YldS.yld (y_assign rfl)) rfl ?_
  refine QJ.done ?_
  refine PJ.next ?_
  obtain ⟨kj4, hk5, hm⟩ := withK_open hm
  refine WJ.join (X := Unit) (fun (_ : Unit) => kj4  = some r) (fun (_ : Unit) => [(0, v2)]) (fun (_ : Unit) => []) ?_ ?_
  · clear hk5
    refine WJ.seq ?_
    refine WJ.quiet ?_
    refine QJ.step (YldS.yld (y_move rfl)) rfl ?_
    refine QJ.step (YldS.yld (y_lenS Try.runUnderlying24 hr3 rfl)) rfl ?_
    refine QJ.step (YldS.yld (y_move rfl)) rfl ?_
    refine QJ.done ?_
    refine PJ.next ?_
    refine WJ.block ?_
    refine WJ.sel (L' := (fun (x : Int) => []) 0) [] ⟨List.nodup_nil, rfl⟩ ?_
    refine WJ.sub (m' := (fun (x : Int) => [(0, v2), (5, v2), (6, .int .i64 (List.length worn1 : Int)), (7, .int .i64 x)]) 0) ⟨rfl, rfl, rfl, rfl, trivial⟩ ?_
    refine WJ.loop (X := Int) (fun N (x : Int) => i_areWorn_l1 kj4 worn1 N x = some r) (fun (x : Int) => [(0, v2), (5, v2), (6, .int .i64 (List.length worn1 : Int)), (7, .int .i64 x)]) (fun (x : Int) => []) ?_ N 0 hm
    · rintro N x6 hI
      have hm := hI; clear hI
      cases N with
      | zero => cases hm
      | succ N =>
      unfold i_areWorn_l1 at hm
      refine WJ.seq ?_
      refine WJ.quiet ?_
      refine QJ.step (YldS.yld (y_bin rfl rfl rfl)) rfl ?_
      refine QJ.done ?_
      refine PJ.next ?_
      refine WJ.seq ?_
      refine WJ.cond (t := decide (x6 < (List.length worn1 : Int))) rfl (fun hb7 => ?_) (fun hb7 => ?_)
      · replace hm := ifT hm hb7
        refine WJ.skip ?_
        refine PJ.next ?_
        refine WJ.seq ?_
        refine WJ.block ?_
        refine WJ.seq ?_
        refine WJ.quiet ?_
        obtain ⟨e8, h9, hm⟩ := bindS hm
        obtain ⟨ad10, _, rfl, ha11, hy12⟩ := hr3.elem h9
        refine QJ.step (YldS.yld (hy12 Try.runUnderlying24 Try.sizeOf2 rfl rfl)) rfl ?_
        refine QJ.step (YldS.yld (y_load1 (v := .int .i64 e8) Try.isAgg2 ha11 St.frozenC rfl)) rfl ?_
        refine QJ.step (YldS.yld (y_assign rfl)) rfl ?_
        refine QJ.done ?_
        refine PJ.next ?_
        refine WJ.seq ?_
        refine WJ.quiet ?_
        refine QJ.step (YldS.yld (y_move rfl)) rfl ?_
        obtain ⟨r13, h14, hm⟩ := bindS hm
        refine QJ.step (y_call Try.call45 rfl (RetG.quiet fun w hw => ok_i_between h14 w )) rfl ?_
        refine QJ.step (YldS.yld (y_not rfl)) rfl ?_
        refine QJ.done ?_
        refine PJ.next ?_
        refine WJ.cond (t := !r13) rfl (fun hb15 => ?_) (fun hb15 => ?_)
        · replace hm := ifT hm hb15
          refine WJ.seq ?_
          refine WJ.quiet ?_
          refine QJ.step (YldS.yld (y_assign rfl)) rfl ?_
          refine QJ.done ?_
          refine PJ.next ?_
          refine WJ.ret ?_
          refine PJ.block_ret (PJ.then_ret (PJ.then_ret (PJ.block_ret (PJ.then_ret ?_))))
          obtain rfl := Option.some.inj hm
          refine PJ.sel (L' := []) [] ⟨List.nodup_nil, rfl⟩ ?_
          exact PJ.retn (vs := [.bool false]) Try.results44 ⟨rfl, trivial⟩ ⟨rfl, rfl⟩
        · replace hm := ifF hm hb15
          refine WJ.skip ?_
          refine PJ.block_normal (PJ.next ?_)
          refine WJ.quiet ?_
          refine QJ.step (YldS.yld (y_bin rfl rfl rfl)) rfl ?_
          refine QJ.step (YldS.yld (y_move rfl)) rfl ?_
          refine QJ.done ?_
          exact PJ.round (w64 (x6 + 1)) [] hm ⟨rfl, rfl, rfl, rfl, trivial⟩ ⟨List.nodup_nil, rfl⟩
      · replace hm := ifF hm hb7
        refine WJ.exit ?_
        refine PJ.then_exit (PJ.then_exit (PJ.block_exit ?_))
        exact PJ.joined () [] hm ⟨rfl, trivial⟩ ⟨List.nodup_nil, rfl⟩
  · rintro _ hm
    subst hk5
    refine WJ.seq ?_
    refine WJ.quiet ?_
    refine QJ.step (YldS.yld (y_move rfl)) rfl ?_
    refine QJ.step (YldS.yld (y_lenS Try.runUnderlying24 hr3 rfl)) rfl ?_
    refine QJ.step (YldS.yld (y_bin rfl rfl rfl)) rfl ?_
    refine QJ.step (YldS.yld (y_assign rfl)) rfl ?_
    refine QJ.done ?_
    refine PJ.next ?_
    refine WJ.ret ?_
    obtain rfl := Option.some.inj hm
    refine PJ.sel (L' := []) [] ⟨List.nodup_nil, rfl⟩ ?_
    exact PJ.retn (vs := [.bool (decide ((List.length worn1 : Int) ≤ 12))]) Try.results44 ⟨rfl, trivial⟩ ⟨rfl, rfl⟩

set_option maxRecDepth 100000 in
set_option maxHeartbeats 1000000 in
theorem okx_i_evenly_c1 {i1 : Int} {k2 : Int} {x3 : List Int} {x8 : List Int} {r : Bool} (hm : i_evenly_c1 i1 k2 x3 x8 = some r) (w : World) (ad4 : Addr) (v6 : Value) (ha5 : At w (cx w).Fz ad4 [v6]) (hr7 : RdS w (cx w).Fz v6 fI64.rp x3) (ad9 : Addr) (v11 : Value) (ha10 : At w (cx w).Fz ad9 [v11]) (hr12 : RdS w (cx w).Fz v11 fI64.rp x8) :
    Calls Try.prog 73 #[.int .i64 i1, .int .i64 k2, .pointer (some ad4), .pointer (some ad9)] w (RetD w (.bool r)) := by
  unfold i_evenly_c1 at hm
  refine Calls.enterX [.int .i64 i1, .int .i64 k2, .pointer (some ad4), .pointer (some ad9)] Try.func73 rfl Try.ntmps73 rfl ?_
  refine WX.seq ?_
  refine WX.quiet ?_
  refine QJ.step (YldS.yld (YldS.still (y_assign rfl))) rfl ?_
  refine QJ.doneX ?_
  refine PX.next ?_
  refine WX.seq ?_
  refine WX.quiet_draw follows (by kernel_rfl) ?_
  refine QJ.step (YldS.yld (YldS.still (y_load1 (v := v6) Try.isAgg24 ha5 St.frozenC rfl))) rfl ?_
  refine QJ.step (YldS.yld (YldS.still (y_load1 (v := v11) Try.isAgg24 ha10 St.frozenC rfl))) rfl ?_
  refine QJ.step (YldS.yld (YldS.still (y_move rfl))) rfl ?_
  obtain ⟨e13, h14, hm⟩ := bindS hm
  obtain ⟨ad15, _, rfl, ha16, hy17⟩ := hr12.elem h14
  refine QJ.step (YldS.yld (YldS.still (hy17 Try.runUnderlying24 Try.sizeOf2 rfl rfl))) rfl ?_
  refine QJ.step (YldS.yld (YldS.still (y_load1 (v := .int .i64 e13) Try.isAgg2 ha16 St.frozenC rfl))) rfl ?_
  obtain ⟨e18, h19, hm⟩ := bindS hm
  obtain ⟨ad20, _, rfl, ha21, hy22⟩ := hr7.elem h19
  refine QJ.step (YldS.yld (YldS.still (hy22 Try.runUnderlying24 Try.sizeOf2 rfl rfl))) rfl ?_
  refine QJ.step (YldS.yld (YldS.still (y_load1 (v := .int .i64 e18) Try.isAgg2 ha21 St.frozenC rfl))) rfl ?_
  refine QJ.step (YldS.yld (YldS.still (y_load1 (v := v6) Try.isAgg24 ha5 St.frozenC rfl))) rfl ?_
  refine QJ.step (YldS.yld (YldS.still (y_load1 (v := v11) Try.isAgg24 ha10 St.frozenC rfl))) rfl ?_
  refine QJ.step (YldS.yld (YldS.still (y_move rfl))) rfl ?_
  obtain ⟨e23, h24, hm⟩ := bindS hm
  obtain ⟨ad25, _, rfl, ha26, hy27⟩ := hr12.elem h24
  refine QJ.step (YldS.yld (YldS.still (hy27 Try.runUnderlying24 Try.sizeOf2 rfl rfl))) rfl ?_
  refine QJ.step (YldS.yld (YldS.still (y_load1 (v := .int .i64 e23) Try.isAgg2 ha26 St.frozenC rfl))) rfl ?_
  obtain ⟨e28, h29, hm⟩ := bindS hm
  obtain ⟨ad30, _, rfl, ha31, hy32⟩ := hr7.elem h29
  refine QJ.step (YldS.yld (YldS.still (hy32 Try.runUnderlying24 Try.sizeOf2 rfl rfl))) rfl ?_
  refine QJ.step (YldS.yld (YldS.still (y_load1 (v := .int .i64 e28) Try.isAgg2 ha31 St.frozenC rfl))) rfl ?_
  refine QJ.step (YldS.yld (YldS.still (y_bin rfl rfl rfl))) rfl ?_
  refine QJ.step (YldS.yld (YldS.still (y_assign rfl))) rfl ?_
  refine QJ.doneX ?_
  refine PX.next ?_
  refine WX.ret ?_
  obtain rfl := Option.some.inj hm
  exact PX.retn (vs := [.bool (decide (e18 < e28))]) Try.results73 ⟨rfl, trivial⟩

set_option maxRecDepth 100000 in
set_option maxHeartbeats 1000000 in
theorem ok_i_evenly {N : Nat} {worn1 : List Int} {r : (List Int)} (hm : i_evenly N worn1 = some r) (w : World) (v2 : Value) (hr3 : RdS w (cx w).Fz v2 fI64.rp worn1) :
    Calls Try.prog 46 #[v2] w (RetG (cx w) fun u L => ∃ (u1 : Value), (u = u1 ∧ L = [row u1 2 fI64 r])) := by
  unfold i_evenly at hm
  refine Calls.enter [v2] Try.func46 rfl Try.ntmps46 rfl ?_
  refine WJ.seq ?_
  refine WJ.reg ?_
  refine SJ.box (cs := [v2]) rfl (RdS.cells1 hr3) rfl fun g4 => ?_
  refine SJ.q (YldS.yld (y_assign rfl)) rfl ?_
  refine SJ.nil ?_
  refine PJ.next ?_
  refine WJ.seq ?_
  refine WJ.reg ?_
  refine SJ.buildSlice (R := fI64) (os := []) [] Try.runUnderlying24 Try.sizeOf2 Try.zeroValue2 rfl rfl rfl rfl rfl rfl fun v5 => ?_
  refine SJ.alloc (cs := [.slice none 0 0]) Try.zeroValue24 rfl rfl fun g6 => ?_
  refine SJ.rowCells (k := 1) rfl fun hc7 => ?_
  refine SJ.storeL (k := 0) (off := 0) (us := [v5]) rfl rfl rfl hc7.1 Try.sizeOf24 rfl (by simp [hc7.2]) ?_
  refine SJ.nil ?_
  refine PJ.next ?_
  obtain ⟨kj10, hk11, hm⟩ := withK_open hm
  refine WJ.join (X := (List Int) × Value) (fun (x : (List Int) × Value) => kj10 x.1 = some r) (fun (x : (List Int) × Value) => [(1, pt g4 0), (3, pt g6 0)]) (fun (x : (List Int) × Value) => [box g6 24 [x.2], row x.2 2 fI64 x.1, box g4 24 [v2]]) ?_ ?_
  · clear hk11
    refine WJ.seq ?_
    refine WJ.quiet ?_
    refine QJ.step (YldS.yld (y_loadB (k := 2) (off := 0) (v := v2) rfl Try.isAgg24 rfl rfl)) rfl ?_
    refine QJ.step (YldS.yld (y_lenS Try.runUnderlying24 hr3 rfl)) rfl ?_
    refine QJ.step (YldS.yld (y_move rfl)) rfl ?_
    refine QJ.done ?_
    refine PJ.next ?_
    refine WJ.block ?_
    refine WJ.sel (L' := (fun (x : (List Int) × Value × Int) => [box g6 24 [x.2.1], row x.2.1 2 fI64 x.1, box g4 24 [v2]]) ([], v5, 0)) [0, 1, 2] ⟨by decide, rfl⟩ ?_
    refine WJ.sub (m' := (fun (x : (List Int) × Value × Int) => [(1, pt g4 0), (3, pt g6 0), (7, .int .i64 (List.length worn1 : Int)), (8, .int .i64 x.2.2)]) ([], v5, 0)) ⟨rfl, rfl, rfl, rfl, trivial⟩ ?_
    refine WJ.loop (X := (List Int) × Value × Int) (fun N (x : (List Int) × Value × Int) => i_evenly_l1 kj10 worn1 N x.1 x.2.2 = some r) (fun (x : (List Int) × Value × Int) => [(1, pt g4 0), (3, pt g6 0), (7, .int .i64 (List.length worn1 : Int)), (8, .int .i64 x.2.2)]) (fun (x : (List Int) × Value × Int) => [box g6 24 [x.2.1], row x.2.1 2 fI64 x.1, box g4 24 [v2]]) ?_ N ([], v5, 0) hm
    · rintro N ⟨l12, v13, x14⟩ hI
      have hm := hI; clear hI
      cases N with
      | zero => cases hm
      | succ N =>
      unfold i_evenly_l1 at hm
      refine WJ.seq ?_
      refine WJ.quiet ?_
      refine QJ.step (YldS.yld (y_bin rfl rfl rfl)) rfl ?_
      refine QJ.done ?_
      refine PJ.next ?_
      refine WJ.seq ?_
      refine WJ.cond (t := decide (x14 < (List.length worn1 : Int))) rfl (fun hb15 => ?_) (fun hb15 => ?_)
      · replace hm := ifT hm hb15
        refine WJ.skip ?_
        refine PJ.next ?_
        refine WJ.seq ?_
        refine WJ.block ?_
        refine WJ.seq ?_
        refine WJ.quiet ?_
        refine QJ.step (YldS.yld (y_move rfl)) rfl ?_
        refine QJ.step (YldS.yld (y_assign rfl)) rfl ?_
        refine QJ.done ?_
        refine PJ.next ?_
        refine WJ.reg ?_
        refine SJ.q (YldS.yld (y_loadB (k := 0) (off := 0) (v := v13) rfl Try.isAgg24 rfl rfl)) rfl ?_
        refine SJ.q (YldS.yld (y_move rfl)) rfl ?_
        refine SJ.buildSlice (R := fI64) (os := [.tmp 12]) [x14] Try.runUnderlying24 Try.sizeOf2 Try.zeroValue2 rfl rfl rfl rfl rfl rfl fun v16 => ?_
        obtain ⟨l17, h18, hm⟩ := bindS hm
        refine SJ.append (k := 2) (R := fI64) h18 rfl Try.underlying24 el2 rfl rfl rfl (fun w hw => (hw.row_rd (k := 0) rfl)) rfl fun v19 => ?_
        refine SJ.rowCells (k := 2) rfl fun hc20 => ?_
        refine SJ.storeL (k := 1) (off := 0) (us := [v19]) rfl rfl rfl hc20.1 Try.sizeOf24 rfl (by simp [hc20.2]) ?_
        refine SJ.nil ?_
        refine PJ.block_normal (PJ.next ?_)
        refine WJ.quiet ?_
        refine QJ.step (YldS.yld (y_bin rfl rfl rfl)) rfl ?_
        refine QJ.step (YldS.yld (y_move rfl)) rfl ?_
        refine QJ.done ?_
        exact PJ.round (l17, v19, w64 (x14 + 1)) [1, 2, 3] hm ⟨rfl, rfl, rfl, rfl, trivial⟩ ⟨by decide, rfl⟩
      · replace hm := ifF hm hb15
        refine WJ.exit ?_
        refine PJ.then_exit (PJ.then_exit (PJ.block_exit ?_))
        exact PJ.joined (l12, v13) [0, 1, 2] hm ⟨rfl, rfl, trivial⟩ ⟨by decide, rfl⟩
  · rintro ⟨l8, v9⟩ hm
    subst hk11
    refine WJ.seq ?_
    refine WJ.reg ?_
    refine SJ.q (YldS.yld (y_loadB (k := 0) (off := 0) (v := v9) rfl Try.isAgg24 rfl rfl)) rfl ?_
    refine SJ.q (YldS.yld (y_iface Try.runUnderlying24 rfl)) rfl ?_
    refine SJ.q (YldS.yld (y_func (bs := [.tmp 1, .tmp 3]) rfl)) rfl ?_
    obtain ⟨l21, h22, hm⟩ := bindS hm
    refine SJ.sort (k := 1) (less := fun i j dk => i_evenly_c1 i j worn1 dk) (lb := [pt g4 0, pt g6 0]) sortC64_24 Try.call64 Try.call73 h22 (fun dk i j x y hx hy => by simp only [i_evenly_c1, hx, hy, idx2_0, idx2_1]) rfl rfl (fun w dk hw i j b hm => okx_i_evenly_c1 hm w _ _ (hw.box_at (k := 2) rfl) (hr3.st hw) _ _ (hw.box_at (k := 0) rfl) (hw.row_rd (k := 1) rfl)) rfl ?_
    refine SJ.nil ?_
    refine PJ.next ?_
    refine WJ.seq ?_
    refine WJ.quiet ?_
    refine QJ.step (YldS.yld (y_loadB (k := 0) (off := 0) (v := v9) rfl Try.isAgg24 rfl rfl)) rfl ?_
    refine QJ.step (YldS.yld (y_assign rfl)) rfl ?_
    refine QJ.done ?_
    refine PJ.next ?_
    refine WJ.ret ?_
    obtain rfl := Option.some.inj hm
    refine PJ.sel (L' := [row v9 2 fI64 l21]) [1] ⟨by decide, rfl⟩ ?_
    exact PJ.retn (vs := [v9]) Try.results46 ⟨rfl, trivial⟩ ⟨_, rfl, rfl⟩

set_option maxRecDepth 100000 in
set_option maxHeartbeats 1000000 in
theorem ok_i_WearSheets {N : Nat} {worn1 : List Int} {typings4 : Int} {r : (List Int) × Int} (hm : i_WearSheets N worn1 typings4 = some r) (w : World) (v2 : Value) (hr3 : RdS w (cx w).Fz v2 fI64.rp worn1) :
    Calls Try.prog 10 #[v2, .int .i64 typings4] w (RetG (cx w) fun u L => ∃ (u1 : Value), (u = tup [u1, .int .i64 r.2] ∧ L = [row u1 2 fI64 r.1])) := by
  unfold i_WearSheets at hm
  refine Calls.enter [v2, .int .i64 typings4] Try.func10 rfl Try.ntmps10 rfl ?_
  refine WJ.seq ?_
  refine WJ.quiet ?_
  refine QJ.step (YldS.yld (y_assign rfl)) rfl ?_
  refine QJ.step (YldS.yld (y_assign rfl)) rfl ?_
  refine QJ.done ?_
  refine PJ.next ?_
  refine WJ.seq ?_
  refine WJ.seq ?_
  refine WJ.quiet ?_
  refine QJ.step (YldS.yld (y_move rfl)) rfl ?_
  obtain ⟨r5, h6, hm⟩ := bindS hm
  refine QJ.step (y_call Try.call44 rfl (RetG.quiet fun w hw => ok_i_areWorn h6 w _ (hr3.st hw))) rfl ?_
  refine QJ.step (YldS.yld (y_not rfl)) rfl ?_
  refine QJ.step (YldS.yld (y_move rfl)) rfl ?_
  obtain ⟨t7, h8, hm⟩ := bindS hm
  refine QJ.cut 4 [(0, v2), (1, .int .i64 typings4), (16, .bool t7)] ?_ ?_
  · rcases Bool.eq_false_or_eq_true (!r5) with hb9 | hb9
    · obtain rfl := orT h8 hb9
      refine QJ.off rfl rfl (cB hb9) rfl rfl ?_
      refine QJ.off rfl rfl (cB hb9) rfl rfl ?_
      refine QJ.off rfl rfl (cB hb9) rfl rfl ?_
      refine QJ.step (YldS.yld (y_pick_t (cB hb9) rfl)) rfl ?_
      exact QJ.cut_end ⟨rfl, rfl, rfl, trivial⟩
    · replace h8 := orF h8 hb9
      refine QJ.on rfl rfl (cB hb9) (YldS.yld (y_move rfl)) rfl ?_
      obtain ⟨r10, h11, h8⟩ := bindS h8
      refine QJ.on rfl rfl (cB hb9) (y_call Try.call45 rfl (RetG.quiet fun w hw => ok_i_between h11 w )) rfl ?_
      refine QJ.on rfl rfl (cB hb9) (YldS.yld (y_not rfl)) rfl ?_
      refine QJ.step (YldS.yld (y_pick_f (cB hb9) rfl)) rfl ?_
      obtain rfl := Option.some.inj h8
      exact QJ.cut_end ⟨rfl, rfl, rfl, trivial⟩
  refine QJ.done ?_
  refine PJ.next ?_
  refine WJ.cond (t := t7) rfl (fun hb12 => ?_) (fun hb12 => ?_)
  · replace hm := ifT hm hb12
    refine WJ.seq ?_
    refine WJ.quiet ?_
    refine QJ.step (YldS.yld (y_assign rfl)) rfl ?_
    refine QJ.step (YldS.yld (y_assign rfl)) rfl ?_
    refine QJ.done ?_
    refine PJ.next ?_
    refine WJ.ret ?_
    refine PJ.then_ret ?_
    refine PJ.nil_row 2 fI64 ?_
    obtain rfl := Option.some.inj hm
    refine PJ.sel (L' := [row (.slice none 0 0) 2 fI64 []]) [0] ⟨by decide, rfl⟩ ?_
    exact PJ.retn (vs := [(.slice none 0 0), .int .i64 2]) Try.results10 ⟨rfl, rfl, trivial⟩ ⟨_, rfl, rfl⟩
  · replace hm := ifF hm hb12
    refine WJ.skip ?_
    refine PJ.next ?_
    refine WJ.seq ?_
    refine WJ.reg ?_
    refine SJ.buildSlice (R := fI64) (os := []) [] Try.runUnderlying24 Try.sizeOf2 Try.zeroValue2 rfl rfl rfl rfl rfl rfl fun v13 => ?_
    refine SJ.q (YldS.yld (y_move rfl)) rfl ?_
    obtain ⟨l14, h15, hm⟩ := bindS hm
    refine SJ.append (k := 0) (R := fI64) h15 rfl Try.underlying24 el2 rfl rfl rfl (fun w hw => (hr3.st hw)) rfl fun v16 => ?_
    refine SJ.q (YldS.yld (y_assign rfl)) rfl ?_
    refine SJ.nil ?_
    refine PJ.next ?_
    obtain ⟨kj18, hk19, hm⟩ := withK_open hm
    refine WJ.join (X := (List Int)) (fun (x : (List Int)) => kj18 x = some r) (fun (x : (List Int)) => [(6, v16)]) (fun (x : (List Int)) => [row v16 2 fI64 x]) ?_ ?_
    · clear hk19
      refine WJ.seq ?_
      refine WJ.quiet ?_
      refine QJ.step (YldS.yld (y_move rfl)) rfl ?_
      refine QJ.step (YldS.yld (y_move rfl)) rfl ?_
      refine QJ.done ?_
      refine PJ.next ?_
      refine WJ.block ?_
      refine WJ.sel (L' := (fun (x : (List Int) × Int) => [row v16 2 fI64 x.1]) (l14, 0)) [0] ⟨by decide, rfl⟩ ?_
      refine WJ.sub (m' := (fun (x : (List Int) × Int) => [(6, v16), (20, .int .i64 typings4), (21, .int .i64 x.2)]) (l14, 0)) ⟨rfl, rfl, rfl, trivial⟩ ?_
      refine WJ.loop (X := (List Int) × Int) (fun N (x : (List Int) × Int) => i_WearSheets_l1 kj18 typings4 N x.1 x.2 = some r) (fun (x : (List Int) × Int) => [(6, v16), (20, .int .i64 typings4), (21, .int .i64 x.2)]) (fun (x : (List Int) × Int) => [row v16 2 fI64 x.1]) ?_ N (l14, 0) hm
      · rintro N ⟨l20, x21⟩ hI
        have hm := hI; clear hI
        cases N with
        | zero => cases hm
        | succ N =>
        unfold i_WearSheets_l1 at hm
        refine WJ.seq ?_
        refine WJ.quiet ?_
        refine QJ.step (YldS.yld (y_bin rfl rfl rfl)) rfl ?_
        refine QJ.done ?_
        refine PJ.next ?_
        refine WJ.seq ?_
        refine WJ.cond (t := decide (x21 < typings4)) rfl (fun hb22 => ?_) (fun hb22 => ?_)
        · replace hm := ifT hm hb22
          refine WJ.skip ?_
          refine PJ.next ?_
          obtain ⟨kj24, hk25, hm⟩ := withK_open hm
          refine WJ.join (X := (List Int)) (fun (x : (List Int)) => kj24 x = some r) (fun (x : (List Int)) => [(6, v16), (20, .int .i64 typings4), (21, .int .i64 x21)]) (fun (x : (List Int)) => [row v16 2 fI64 x]) ?_ ?_
          · clear hk25
            refine WJ.block ?_
            refine WJ.seq ?_
            refine WJ.reg ?_
            refine SJ.q (YldS.yld (y_move rfl)) rfl ?_
            obtain ⟨r26, h27, hm⟩ := bindS hm
            refine SJ.call Try.call46 rfl (fun w hw => ok_i_evenly h27 w _ (hw.row_rd (k := 0) rfl)) rfl ?_
            rintro v28 _ ⟨_, rfl, rfl⟩
            refine SJ.q (YldS.yld (y_lenRow (k := 0) rfl Try.runUnderlying24 rfl)) rfl ?_
            refine SJ.q (YldS.yld (y_move rfl)) rfl ?_
            refine SJ.nil ?_
            refine PJ.next ?_
            refine WJ.block ?_
            refine WJ.sel (L' := (fun (x : (List Int) × Int) => [row v28 2 fI64 r26, row v16 2 fI64 x.1]) (l20, 0)) [0, 1] ⟨by decide, rfl⟩ ?_
            refine WJ.sub (m' := (fun (x : (List Int) × Int) => [(6, v16), (20, .int .i64 typings4), (21, .int .i64 x21), (24, v28), (25, .int .i64 (List.length r26 : Int)), (26, .int .i64 x.2)]) (l20, 0)) ⟨rfl, rfl, rfl, rfl, rfl, rfl, trivial⟩ ?_
            refine WJ.loop (X := (List Int) × Int) (fun N (x : (List Int) × Int) => i_WearSheets_l2 kj24 r26 N x.1 x.2 = some r) (fun (x : (List Int) × Int) => [(6, v16), (20, .int .i64 typings4), (21, .int .i64 x21), (24, v28), (25, .int .i64 (List.length r26 : Int)), (26, .int .i64 x.2)]) (fun (x : (List Int) × Int) => [row v28 2 fI64 r26, row v16 2 fI64 x.1]) ?_ N (l20, 0) hm
            · rintro N ⟨l29, x30⟩ hI
              have hm := hI; clear hI
              cases N with
              | zero => cases hm
              | succ N =>
              unfold i_WearSheets_l2 at hm
              refine WJ.seq ?_
              refine WJ.quiet ?_
              refine QJ.step (YldS.yld (y_bin rfl rfl rfl)) rfl ?_
              refine QJ.done ?_
              refine PJ.next ?_
              refine WJ.seq ?_
              refine WJ.cond (t := decide (x30 < (List.length r26 : Int))) rfl (fun hb31 => ?_) (fun hb31 => ?_)
              · replace hm := ifT hm hb31
                refine WJ.skip ?_
                refine PJ.next ?_
                refine WJ.seq ?_
                refine WJ.block ?_
                refine WJ.seq ?_
                refine WJ.quiet ?_
                refine QJ.step (YldS.yld (y_move rfl)) rfl ?_
                obtain ⟨e32, h33, hm⟩ := bindS hm
                refine QJ.step (YldS.yld (y_ixRow (k := 0) (R := fI64) rfl Try.runUnderlying24 Try.sizeOf2 rfl rfl h33)) rfl ?_
                refine QJ.step (YldS.yld (y_loadR (k := 0) (i := (Int.toNat x30)) (off := 0) (u := .int .i64 e32) rfl Try.isAgg2 rfl (idx_get h33) rfl)) rfl ?_
                refine QJ.step (YldS.yld (y_assign rfl)) rfl ?_
                refine QJ.step (YldS.yld (y_assign rfl)) rfl ?_
                refine QJ.done ?_
                refine PJ.next ?_
                refine WJ.reg ?_
                refine SJ.q (YldS.yld (y_move rfl)) rfl ?_
                refine SJ.q (YldS.yld (y_move rfl)) rfl ?_
                obtain ⟨e34, h35, hm⟩ := bindS hm
                refine SJ.q (YldS.yld (y_ixRow (k := 1) (R := fI64) rfl Try.runUnderlying24 Try.sizeOf2 rfl rfl h35)) rfl ?_
                refine SJ.q (YldS.yld (y_loadR (k := 1) (i := (Int.toNat e32)) (off := 0) (u := .int .i64 e34) rfl Try.isAgg2 rfl (idx_get h35) rfl)) rfl ?_
                refine SJ.q (YldS.yld (y_move rfl)) rfl ?_
                refine SJ.q (YldS.yld (y_lenRow (k := 1) rfl Try.runUnderlying24 rfl)) rfl ?_
                refine SJ.q (YldS.yld (y_move rfl)) rfl ?_
                refine SJ.q (YldS.yld (y_bin rfl rfl rfl)) rfl ?_
                refine SJ.q (YldS.yld (y_bin rfl rfl rfl)) rfl ?_
                obtain ⟨e36, h37, hm⟩ := bindS hm
                refine SJ.q (YldS.yld (y_ixRow (k := 1) (R := fI64) rfl Try.runUnderlying24 Try.sizeOf2 rfl rfl h37)) rfl ?_
                refine SJ.storeRL (k := 1) (i := (Int.toNat e32)) (off := 0) (us := [.int .i64 (w64 (e34 + (w64 ((List.length l29 : Int) - x30))))]) (b := w64 (e34 + (w64 ((List.length l29 : Int) - x30)))) rfl rfl (idx_get h37) rfl rfl Try.sizeOf2 rfl rfl rfl ?_
                refine SJ.nil ?_
                refine PJ.block_normal (PJ.next ?_)
                refine WJ.quiet ?_
                refine QJ.step (YldS.yld (y_bin rfl rfl rfl)) rfl ?_
                refine QJ.step (YldS.yld (y_move rfl)) rfl ?_
                refine QJ.done ?_
                exact PJ.round ((List.set l29 (Int.toNat e32) (w64 (e34 + (w64 ((List.length l29 : Int) - x30))))), w64 (x30 + 1)) [0, 1] hm ⟨rfl, rfl, rfl, rfl, rfl, rfl, trivial⟩ ⟨by decide, rfl⟩
              · replace hm := ifF hm hb31
                refine WJ.exit ?_
                refine PJ.then_exit (PJ.then_exit (PJ.block_exit (PJ.block_normal ?_)))
                exact PJ.joined l29 [1] hm ⟨rfl, rfl, rfl, trivial⟩ ⟨by decide, rfl⟩
          · rintro l23 hm
            subst hk25
            refine WJ.quiet ?_
            refine QJ.step (YldS.yld (y_bin rfl rfl rfl)) rfl ?_
            refine QJ.step (YldS.yld (y_move rfl)) rfl ?_
            refine QJ.done ?_
            exact PJ.round (l23, w64 (x21 + 1)) [0] hm ⟨rfl, rfl, rfl, trivial⟩ ⟨by decide, rfl⟩
        · replace hm := ifF hm hb22
          refine WJ.exit ?_
          refine PJ.then_exit (PJ.then_exit (PJ.block_exit ?_))
          exact PJ.joined l20 [0] hm ⟨rfl, trivial⟩ ⟨by decide, rfl⟩
    · rintro l17 hm
      subst hk19
      refine WJ.seq ?_
      refine WJ.quiet ?_
      refine QJ.step (YldS.yld (y_move rfl)) rfl ?_
      refine QJ.step (YldS.yld (y_assign rfl)) rfl ?_
      refine QJ.step (YldS.yld (y_assign rfl)) rfl ?_
      refine QJ.done ?_
      refine PJ.next ?_
      refine WJ.ret ?_
      obtain rfl := Option.some.inj hm
      refine PJ.sel (L' := [row v16 2 fI64 l17]) [0] ⟨by decide, rfl⟩ ?_
      exact PJ.retn (vs := [v16, .int .i64 0]) Try.results10 ⟨rfl, rfl, trivial⟩ ⟨_, rfl, rfl⟩

set_option maxRecDepth 100000 in
set_option maxHeartbeats 1000000 in
theorem ok_i_EvenSheets {N : Nat} {worn1 : List Int} {r : (List Int) × Int} (hm : i_EvenSheets N worn1 = some r) (w : World) (v2 : Value) (hr3 : RdS w (cx w).Fz v2 fI64.rp worn1) :
    Calls Try.prog 11 #[v2] w (RetG (cx w) fun u L => ∃ (u1 : Value), (u = tup [u1, .int .i64 r.2] ∧ L = [row u1 2 fI64 r.1])) := by
  unfold i_EvenSheets at hm
  refine Calls.enter [v2] Try.func11 rfl Try.ntmps11 rfl ?_
  refine WJ.seq ?_
  refine WJ.quiet ?_
  refine QJ.step (YldS.yld (y_assign rfl)) rfl ?_
  refine QJ.step (YldS.yld (y_assign rfl)) rfl ?_
  refine QJ.done ?_
  refine PJ.next ?_
  refine WJ.seq ?_
  refine WJ.seq ?_
  refine WJ.quiet ?_
  refine QJ.step (YldS.yld (y_move rfl)) rfl ?_
  obtain ⟨r4, h5, hm⟩ := bindS hm
  refine QJ.step (y_call Try.call44 rfl (RetG.quiet fun w hw => ok_i_areWorn h5 w _ (hr3.st hw))) rfl ?_
  refine QJ.step (YldS.yld (y_not rfl)) rfl ?_
  refine QJ.done ?_
  refine PJ.next ?_
  refine WJ.cond (t := !r4) rfl (fun hb6 => ?_) (fun hb6 => ?_)
  · replace hm := ifT hm hb6
    refine WJ.seq ?_
    refine WJ.quiet ?_
    refine QJ.step (YldS.yld (y_assign rfl)) rfl ?_
    refine QJ.step (YldS.yld (y_assign rfl)) rfl ?_
    refine QJ.done ?_
    refine PJ.next ?_
    refine WJ.ret ?_
    refine PJ.then_ret ?_
    refine PJ.nil_row 2 fI64 ?_
    obtain rfl := Option.some.inj hm
    refine PJ.sel (L' := [row (.slice none 0 0) 2 fI64 []]) [0] ⟨by decide, rfl⟩ ?_
    exact PJ.retn (vs := [(.slice none 0 0), .int .i64 2]) Try.results11 ⟨rfl, rfl, trivial⟩ ⟨_, rfl, rfl⟩
  · replace hm := ifF hm hb6
    refine WJ.skip ?_
    refine PJ.next ?_
    refine WJ.seq ?_
    refine WJ.reg ?_
    refine SJ.q (YldS.yld (y_move rfl)) rfl ?_
    obtain ⟨r7, h8, hm⟩ := bindS hm
    refine SJ.call Try.call46 rfl (fun w hw => ok_i_evenly h8 w _ (hr3.st hw)) rfl ?_
    rintro v9 _ ⟨_, rfl, rfl⟩
    refine SJ.q (YldS.yld (y_assign rfl)) rfl ?_
    refine SJ.q (YldS.yld (y_assign rfl)) rfl ?_
    refine SJ.nil ?_
    refine PJ.next ?_
    refine WJ.ret ?_
    obtain rfl := Option.some.inj hm
    refine PJ.sel (L' := [row v9 2 fI64 r7]) [0] ⟨by decide, rfl⟩ ?_
    exact PJ.retn (vs := [v9, .int .i64 0]) Try.results11 ⟨rfl, rfl, trivial⟩ ⟨_, rfl, rfl⟩

set_option maxRecDepth 100000 in
set_option maxHeartbeats 1000000 in
theorem ok_w_a2Sum {N : Nat} {list1 : List Int} {r : Int} (hm : w_a2Sum N list1 = some r) (w : World) (v2 : Value) (hr3 : RdS w (cx w).Fz v2 fI64.rp list1) :
    Calls Try.prog 12 #[v2] w (Ret (cx w) (.int .i64 r)) := by
  unfold w_a2Sum at hm
  refine Calls.enter [v2] Try.func12 rfl Try.ntmps12 rfl ?_
  refine WJ.seq ?_
  refine WJ.quiet ?_
  refine QJ.step (YldS.yld (y_assign rfl)) rfl ?_
  refine QJ.done ?_
  refine PJ.next ?_
  refine WJ.seq ?_
  refine WJ.quiet ?_
  refine QJ.step (YldS.yld (y_assign rfl)) rfl ?_
  refine QJ.done ?_
  refine PJ.next ?_
  obtain ⟨kj5, hk6, hm⟩ := withK_open hm
  refine WJ.join (X := Int) (fun (x : Int) => kj5 x = some r) (fun (x : Int) => [(3, .int .i64 x)]) (fun (x : Int) => []) ?_ ?_
  · clear hk6
    refine WJ.seq ?_
    refine WJ.quiet ?_
    refine QJ.step (YldS.yld (y_assign rfl)) rfl ?_
    refine QJ.done ?_
    refine PJ.next ?_
    refine WJ.block ?_
    refine WJ.sel (L' := (fun (x : Int × Int) => []) (0, 0)) [] ⟨List.nodup_nil, rfl⟩ ?_
    refine WJ.sub (m' := (fun (x : Int × Int) => [(0, v2), (3, .int .i64 x.1), (4, .int .i64 x.2)]) (0, 0)) ⟨rfl, rfl, rfl, trivial⟩ ?_
    refine WJ.loop (X := Int × Int) (fun N (x : Int × Int) => w_a2Sum_l1 kj5 list1 N x.1 x.2 = some r) (fun (x : Int × Int) => [(0, v2), (3, .int .i64 x.1), (4, .int .i64 x.2)]) (fun (x : Int × Int) => []) ?_ N (0, 0) hm
    · rintro N ⟨sum7, i8⟩ hI
      have hm := hI; clear hI
      cases N with
      | zero => cases hm
      | succ N =>
      unfold w_a2Sum_l1 at hm
      refine WJ.seq ?_
      refine WJ.seq ?_
      refine WJ.quiet ?_
      refine QJ.step (YldS.yld (y_move rfl)) rfl ?_
      refine QJ.step (YldS.yld (y_move rfl)) rfl ?_
      refine QJ.step (YldS.yld (y_lenS Try.runUnderlying24 hr3 rfl)) rfl ?_
      refine QJ.step (YldS.yld (y_bin rfl rfl rfl)) rfl ?_
      refine QJ.done ?_
      refine PJ.next ?_
      refine WJ.cond (t := decide (i8 < (List.length list1 : Int))) rfl (fun hb9 => ?_) (fun hb9 => ?_)
      · replace hm := ifT hm hb9
        refine WJ.skip ?_
        refine PJ.next ?_
        refine WJ.seq ?_
        refine WJ.block ?_
        refine WJ.quiet ?_
        refine QJ.step (YldS.yld (y_move rfl)) rfl ?_
        refine QJ.step (YldS.yld (y_move rfl)) rfl ?_
        refine QJ.step (YldS.yld (y_move rfl)) rfl ?_
        obtain ⟨e10, h11, hm⟩ := bindS hm
        obtain ⟨ad12, _, rfl, ha13, hy14⟩ := hr3.elem h11
        refine QJ.step (YldS.yld (hy14 Try.runUnderlying24 Try.sizeOf2 rfl rfl)) rfl ?_
        refine QJ.step (YldS.yld (y_load1 (v := .int .i64 e10) Try.isAgg2 ha13 St.frozenC rfl)) rfl ?_
        refine QJ.step (YldS.yld (y_bin rfl rfl rfl)) rfl ?_
        refine QJ.step (YldS.yld (y_assign rfl)) rfl ?_
        refine QJ.done ?_
        refine PJ.block_normal (PJ.next ?_)
        refine WJ.quiet ?_
        refine QJ.step (YldS.yld (y_move rfl)) rfl ?_
        refine QJ.step (YldS.yld (y_bin rfl rfl rfl)) rfl ?_
        refine QJ.step (YldS.yld (y_assign rfl)) rfl ?_
        refine QJ.done ?_
        exact PJ.round (w64 (sum7 + e10), w64 (i8 + 1)) [] hm ⟨rfl, rfl, rfl, trivial⟩ ⟨List.nodup_nil, rfl⟩
      · replace hm := ifF hm hb9
        refine WJ.exit ?_
        refine PJ.then_exit (PJ.then_exit (PJ.block_exit ?_))
        exact PJ.joined sum7 [] hm ⟨rfl, trivial⟩ ⟨List.nodup_nil, rfl⟩
  · rintro sum4 hm
    subst hk6
    refine WJ.seq ?_
    refine WJ.quiet ?_
    refine QJ.step (YldS.yld (y_move rfl)) rfl ?_
    refine QJ.step (YldS.yld (y_assign rfl)) rfl ?_
    refine QJ.done ?_
    refine PJ.next ?_
    refine WJ.ret ?_
    obtain rfl := Option.some.inj hm
    refine PJ.sel (L' := []) [] ⟨List.nodup_nil, rfl⟩ ?_
    exact PJ.retn (vs := [.int .i64 sum4]) Try.results12 ⟨rfl, trivial⟩ ⟨rfl, rfl⟩

set_option maxRecDepth 100000 in
set_option maxHeartbeats 1000000 in
theorem ok_w_a2Has {N : Nat} {list1 : List Int} {n4 : Int} {r : Bool} (hm : w_a2Has N list1 n4 = some r) (w : World) (v2 : Value) (hr3 : RdS w (cx w).Fz v2 fI64.rp list1) :
    Calls Try.prog 13 #[v2, .int .i64 n4] w (Ret (cx w) (.bool r)) := by
  unfold w_a2Has at hm
  refine Calls.enter [v2, .int .i64 n4] Try.func13 rfl Try.ntmps13 rfl ?_
  refine WJ.seq ?_
  refine WJ.quiet ?_
  refine QJ.step (YldS.yld (y_assign rfl)) rfl ?_
  refine QJ.done ?_
  refine PJ.next ?_
  obtain ⟨kj5, hk6, hm⟩ := withK_open hm
  refine WJ.join (X := Unit) (fun (_ : Unit) => kj5  = some r) (fun (_ : Unit) => []) (fun (_ : Unit) => []) ?_ ?_
  · clear hk6
    refine WJ.seq ?_
    refine WJ.quiet ?_
    refine QJ.step (YldS.yld (y_assign rfl)) rfl ?_
    refine QJ.done ?_
    refine PJ.next ?_
    refine WJ.block ?_
    refine WJ.sel (L' := (fun (x : Int) => []) 0) [] ⟨List.nodup_nil, rfl⟩ ?_
    refine WJ.sub (m' := (fun (x : Int) => [(0, v2), (1, .int .i64 n4), (5, .int .i64 x)]) 0) ⟨rfl, rfl, rfl, trivial⟩ ?_
    refine WJ.loop (X := Int) (fun N (x : Int) => w_a2Has_l1 kj5 list1 n4 N x = some r) (fun (x : Int) => [(0, v2), (1, .int .i64 n4), (5, .int .i64 x)]) (fun (x : Int) => []) ?_ N 0 hm
    · rintro N i7 hI
      have hm := hI; clear hI
      cases N with
      | zero => cases hm
      | succ N =>
      unfold w_a2Has_l1 at hm
      refine WJ.seq ?_
      refine WJ.seq ?_
      refine WJ.quiet ?_
      refine QJ.step (YldS.yld (y_move rfl)) rfl ?_
      refine QJ.step (YldS.yld (y_move rfl)) rfl ?_
      refine QJ.step (YldS.yld (y_lenS Try.runUnderlying24 hr3 rfl)) rfl ?_
      refine QJ.step (YldS.yld (y_bin rfl rfl rfl)) rfl ?_
      refine QJ.done ?_
      refine PJ.next ?_
      refine WJ.cond (t := decide (i7 < (List.length list1 : Int))) rfl (fun hb8 => ?_) (fun hb8 => ?_)
      · replace hm := ifT hm hb8
        refine WJ.skip ?_
        refine PJ.next ?_
        refine WJ.seq ?_
        refine WJ.block ?_
        refine WJ.seq ?_
        refine WJ.quiet ?_
        refine QJ.step (YldS.yld (y_move rfl)) rfl ?_
        refine QJ.step (YldS.yld (y_move rfl)) rfl ?_
        obtain ⟨e9, h10, hm⟩ := bindS hm
        obtain ⟨ad11, _, rfl, ha12, hy13⟩ := hr3.elem h10
        refine QJ.step (YldS.yld (hy13 Try.runUnderlying24 Try.sizeOf2 rfl rfl)) rfl ?_
        refine QJ.step (YldS.yld (y_load1 (v := .int .i64 e9) Try.isAgg2 ha12 St.frozenC rfl)) rfl ?_
        refine QJ.step (YldS.yld (y_move rfl)) rfl ?_
        refine QJ.step (YldS.yld (y_bin rfl rfl rfl)) rfl ?_
        refine QJ.done ?_
        refine PJ.next ?_
        refine WJ.cond (t := (e9 == n4)) rfl (fun hb14 => ?_) (fun hb14 => ?_)
        · replace hm := ifT hm hb14
          refine WJ.seq ?_
          refine WJ.quiet ?_
          refine QJ.step (YldS.yld (y_assign rfl)) rfl ?_
          refine QJ.done ?_
          refine PJ.next ?_
          refine WJ.ret ?_
          refine PJ.block_ret (PJ.then_ret (PJ.then_ret (PJ.block_ret (PJ.then_ret ?_))))
          obtain rfl := Option.some.inj hm
          refine PJ.sel (L' := []) [] ⟨List.nodup_nil, rfl⟩ ?_
          exact PJ.retn (vs := [.bool true]) Try.results13 ⟨rfl, trivial⟩ ⟨rfl, rfl⟩
        · replace hm := ifF hm hb14
          refine WJ.skip ?_
          refine PJ.block_normal (PJ.next ?_)
          refine WJ.quiet ?_
          refine QJ.step (YldS.yld (y_move rfl)) rfl ?_
          refine QJ.step (YldS.yld (y_bin rfl rfl rfl)) rfl ?_
          refine QJ.step (YldS.yld (y_assign rfl)) rfl ?_
          refine QJ.done ?_
          exact PJ.round (w64 (i7 + 1)) [] hm ⟨rfl, rfl, rfl, trivial⟩ ⟨List.nodup_nil, rfl⟩
      · replace hm := ifF hm hb8
        refine WJ.exit ?_
        refine PJ.then_exit (PJ.then_exit (PJ.block_exit ?_))
        exact PJ.joined () [] hm trivial ⟨List.nodup_nil, rfl⟩
  · rintro _ hm
    subst hk6
    refine WJ.seq ?_
    refine WJ.quiet ?_
    refine QJ.step (YldS.yld (y_assign rfl)) rfl ?_
    refine QJ.done ?_
    refine PJ.next ?_
    refine WJ.ret ?_
    obtain rfl := Option.some.inj hm
    refine PJ.sel (L' := []) [] ⟨List.nodup_nil, rfl⟩ ?_
    exact PJ.retn (vs := [.bool false]) Try.results13 ⟨rfl, trivial⟩ ⟨rfl, rfl⟩

set_option maxRecDepth 100000 in
set_option maxHeartbeats 1000000 in
theorem ok_w_a2Same {N : Nat} {a1 : List Int} {b4 : List Int} {r : Bool} (hm : w_a2Same N a1 b4 = some r) (w : World) (v2 : Value) (hr3 : RdS w (cx w).Fz v2 fI64.rp a1) (v5 : Value) (hr6 : RdS w (cx w).Fz v5 fI64.rp b4) :
    Calls Try.prog 14 #[v2, v5] w (Ret (cx w) (.bool r)) := by
  unfold w_a2Same at hm
  refine Calls.enter [v2, v5] Try.func14 rfl Try.ntmps14 rfl ?_
  refine WJ.seq ?_
  refine WJ.quiet ?_
  refine QJ.step (YldS.yld (y_assign rfl)) rfl ?_
  refine QJ.done ?_
  refine PJ.next ?_
  refine WJ.seq ?_
  refine WJ.seq ?_
  refine WJ.quiet ?_
  refine QJ.step (YldS.yld (y_move rfl)) rfl ?_
  refine QJ.step (YldS.yld (y_lenS Try.runUnderlying24 hr3 rfl)) rfl ?_
  refine QJ.step (YldS.yld (y_move rfl)) rfl ?_
  refine QJ.step (YldS.yld (y_lenS Try.runUnderlying24 hr6 rfl)) rfl ?_
  refine QJ.step (YldS.yld (y_bin rfl rfl rfl)) rfl ?_
  refine QJ.done ?_
  refine PJ.next ?_
  refine WJ.cond (t := ((List.length a1 : Int) != (List.length b4 : Int))) rfl (fun hb7 => ?_) (fun hb7 => ?_)
  · replace hm := ifT hm hb7
    refine WJ.seq ?_
    refine WJ.quiet ?_
    refine QJ.step (YldS.yld (y_assign rfl)) rfl ?_
    refine QJ.done ?_
    refine PJ.next ?_
    refine WJ.ret ?_
    refine PJ.then_ret ?_
    obtain rfl := Option.some.inj hm
    refine PJ.sel (L' := []) [] ⟨List.nodup_nil, rfl⟩ ?_
    exact PJ.retn (vs := [.bool false]) Try.results14 ⟨rfl, trivial⟩ ⟨rfl, rfl⟩
  · replace hm := ifF hm hb7
    refine WJ.skip ?_
    refine PJ.next ?_
    obtain ⟨kj8, hk9, hm⟩ := withK_open hm
    refine WJ.join (X := Unit) (fun (_ : Unit) => kj8  = some r) (fun (_ : Unit) => []) (fun (_ : Unit) => []) ?_ ?_
    · clear hk9
      refine WJ.seq ?_
      refine WJ.quiet ?_
      refine QJ.step (YldS.yld (y_assign rfl)) rfl ?_
      refine QJ.done ?_
      refine PJ.next ?_
      refine WJ.block ?_
      refine WJ.sel (L' := (fun (x : Int) => []) 0) [] ⟨List.nodup_nil, rfl⟩ ?_
      refine WJ.sub (m' := (fun (x : Int) => [(0, v2), (1, v5), (5, .int .i64 x)]) 0) ⟨rfl, rfl, rfl, trivial⟩ ?_
      refine WJ.loop (X := Int) (fun N (x : Int) => w_a2Same_l1 kj8 a1 b4 N x = some r) (fun (x : Int) => [(0, v2), (1, v5), (5, .int .i64 x)]) (fun (x : Int) => []) ?_ N 0 hm
      · rintro N i10 hI
        have hm := hI; clear hI
        cases N with
        | zero => cases hm
        | succ N =>
        unfold w_a2Same_l1 at hm
        refine WJ.seq ?_
        refine WJ.seq ?_
        refine WJ.quiet ?_
        refine QJ.step (YldS.yld (y_move rfl)) rfl ?_
        refine QJ.step (YldS.yld (y_move rfl)) rfl ?_
        refine QJ.step (YldS.yld (y_lenS Try.runUnderlying24 hr3 rfl)) rfl ?_
        refine QJ.step (YldS.yld (y_bin rfl rfl rfl)) rfl ?_
        refine QJ.done ?_
        refine PJ.next ?_
        refine WJ.cond (t := decide (i10 < (List.length a1 : Int))) rfl (fun hb11 => ?_) (fun hb11 => ?_)
        · replace hm := ifT hm hb11
          refine WJ.skip ?_
          refine PJ.next ?_
          refine WJ.seq ?_
          refine WJ.block ?_
          refine WJ.seq ?_
          refine WJ.quiet_draw follows (by kernel_rfl) ?_
          refine QJ.step (YldS.yld (y_move rfl)) rfl ?_
          refine QJ.step (YldS.yld (y_move rfl)) rfl ?_
          obtain ⟨e12, h13, hm⟩ := bindS hm
          obtain ⟨ad14, _, rfl, ha15, hy16⟩ := hr3.elem h13
          refine QJ.step (YldS.yld (hy16 Try.runUnderlying24 Try.sizeOf2 rfl rfl)) rfl ?_
          refine QJ.step (YldS.yld (y_load1 (v := .int .i64 e12) Try.isAgg2 ha15 St.frozenC rfl)) rfl ?_
          refine QJ.step (YldS.yld (y_move rfl)) rfl ?_
          refine QJ.step (YldS.yld (y_move rfl)) rfl ?_
          obtain ⟨e17, h18, hm⟩ := bindS hm
          obtain ⟨ad19, _, rfl, ha20, hy21⟩ := hr6.elem h18
          refine QJ.step (YldS.yld (hy21 Try.runUnderlying24 Try.sizeOf2 rfl rfl)) rfl ?_
          refine QJ.step (YldS.yld (y_load1 (v := .int .i64 e17) Try.isAgg2 ha20 St.frozenC rfl)) rfl ?_
          refine QJ.step (YldS.yld (y_bin rfl rfl rfl)) rfl ?_
          refine QJ.done ?_
          refine PJ.next ?_
          refine WJ.cond (t := (e12 != e17)) rfl (fun hb22 => ?_) (fun hb22 => ?_)
          · replace hm := ifT hm hb22
            refine WJ.seq ?_
            refine WJ.quiet ?_
            refine QJ.step (YldS.yld (y_assign rfl)) rfl ?_
            refine QJ.done ?_
            refine PJ.next ?_
            refine WJ.ret ?_
            refine PJ.block_ret (PJ.then_ret (PJ.then_ret (PJ.block_ret (PJ.then_ret ?_))))
            obtain rfl := Option.some.inj hm
            refine PJ.sel (L' := []) [] ⟨List.nodup_nil, rfl⟩ ?_
            exact PJ.retn (vs := [.bool false]) Try.results14 ⟨rfl, trivial⟩ ⟨rfl, rfl⟩
          · replace hm := ifF hm hb22
            refine WJ.skip ?_
            refine PJ.block_normal (PJ.next ?_)
            refine WJ.quiet ?_
            refine QJ.step (YldS.yld (y_move rfl)) rfl ?_
            refine QJ.step (YldS.yld (y_bin rfl rfl rfl)) rfl ?_
            refine QJ.step (YldS.yld (y_assign rfl)) rfl ?_
            refine QJ.done ?_
            exact PJ.round (w64 (i10 + 1)) [] hm ⟨rfl, rfl, rfl, trivial⟩ ⟨List.nodup_nil, rfl⟩
        · replace hm := ifF hm hb11
          refine WJ.exit ?_
          refine PJ.then_exit (PJ.then_exit (PJ.block_exit ?_))
          exact PJ.joined () [] hm trivial ⟨List.nodup_nil, rfl⟩
    · rintro _ hm
      subst hk9
      refine WJ.seq ?_
      refine WJ.quiet ?_
      refine QJ.step (YldS.yld (y_assign rfl)) rfl ?_
      refine QJ.done ?_
      refine PJ.next ?_
      refine WJ.ret ?_
      obtain rfl := Option.some.inj hm
      refine PJ.sel (L' := []) [] ⟨List.nodup_nil, rfl⟩ ?_
      exact PJ.retn (vs := [.bool true]) Try.results14 ⟨rfl, trivial⟩ ⟨rfl, rfl⟩

set_option maxRecDepth 100000 in
set_option maxHeartbeats 1000000 in
theorem ok_w_FnSheets {N : Nat} {code1 : List UInt8} {more4 : List UInt8} {r : Bool} (hm : w_FnSheets N code1 more4 = some r) (w : World) (v2 : Value) (hr3 : RdS w (cx w).Fz v2 fByte.rp code1) (v5 : Value) (hr6 : RdS w (cx w).Fz v5 fByte.rp more4) :
    Calls Try.prog 3 #[v2, v5] w (Ret (cx w) (.bool r)) := by
  unfold w_FnSheets at hm
  refine Calls.enter [v2, v5] Try.func3 rfl Try.ntmps3 rfl ?_
  refine WJ.seq ?_
  refine WJ.quiet ?_
  refine QJ.step (YldS.yld (y_assign rfl)) rfl ?_
  refine QJ.done ?_
  refine PJ.next ?_
  refine WJ.seq ?_
  refine WJ.seq ?_
  refine WJ.quiet ?_
  refine QJ.step (YldS.yld (y_move rfl)) rfl ?_
  refine QJ.step (YldS.yld (y_move rfl)) rfl ?_
  obtain ⟨r7, h8, hm⟩ := bindS hm
  refine QJ.step (y_call Try.call7 rfl (RetG.quiet fun w hw => ok_w_a2Long h8 w _ (hr3.st hw) _ (hr6.st hw))) rfl ?_
  refine QJ.done ?_
  refine PJ.next ?_
  refine WJ.cond (t := r7) rfl (fun hb9 => ?_) (fun hb9 => ?_)
  · replace hm := ifT hm hb9
    refine WJ.seq ?_
    refine WJ.quiet ?_
    refine QJ.step (YldS.yld (y_assign rfl)) rfl ?_
    refine QJ.done ?_
    refine PJ.next ?_
    refine WJ.ret ?_
    refine PJ.then_ret ?_
    obtain rfl := Option.some.inj hm
    refine PJ.sel (L' := []) [] ⟨List.nodup_nil, rfl⟩ ?_
    exact PJ.retn (vs := [.bool true]) Try.results3 ⟨rfl, trivial⟩ ⟨rfl, rfl⟩
  · replace hm := ifF hm hb9
    refine WJ.skip ?_
    refine PJ.next ?_
    refine WJ.seq ?_
    refine WJ.reg ?_
    refine SJ.q (YldS.yld (y_move rfl)) rfl ?_
    obtain ⟨r10, h11, hm⟩ := bindS hm
    refine SJ.call Try.call8 rfl (fun w hw => ok_s_A2Worn h11 w _ (hr3.st hw)) rfl ?_
    rintro v12 _ ⟨_, rfl, rfl⟩
    refine SJ.q (YldS.yld (y_assign rfl)) rfl ?_
    refine SJ.nil ?_
    refine PJ.next ?_
    refine WJ.seq ?_
    refine WJ.quiet ?_
    refine QJ.step (YldS.yld (y_move rfl)) rfl ?_
    refine QJ.step (YldS.yld (y_lenRow (k := 0) rfl Try.runUnderlying24 rfl)) rfl ?_
    refine QJ.step (YldS.yld (y_assign rfl)) rfl ?_
    refine QJ.done ?_
    refine PJ.next ?_
    refine WJ.seq ?_
    refine WJ.quiet ?_
    refine QJ.step (YldS.yld (y_move rfl)) rfl ?_
    obtain ⟨r13, h14, hm⟩ := bindS hm
    refine QJ.step (y_call Try.call9 rfl (RetG.quiet fun w hw => ok_w_a2At h14 w _ (hr6.st hw))) rfl ?_
    refine QJ.step (YldS.yld (y_assign rfl)) rfl ?_
    refine QJ.done ?_
    refine PJ.next ?_
    refine WJ.seq ?_
    refine WJ.reg ?_
    refine SJ.q (YldS.yld (y_move rfl)) rfl ?_
    refine SJ.q (YldS.yld (y_move rfl)) rfl ?_
    obtain ⟨r15, h16, hm⟩ := bindS hm
    refine SJ.call Try.call10 rfl (fun w hw => ok_i_WearSheets h16 w _ (hw.row_rd (k := 0) rfl)) rfl ?_
    rintro _ _ ⟨v17, rfl, rfl⟩
    refine SJ.q (YldS.yld (y_move rfl)) rfl ?_
    refine SJ.q (YldS.yld (y_extract rfl rfl)) rfl ?_
    refine SJ.q (YldS.yld (y_extract rfl rfl)) rfl ?_
    refine SJ.q (YldS.yld (y_assign rfl)) rfl ?_
    refine SJ.q (YldS.yld (y_assign rfl)) rfl ?_
    refine SJ.nil ?_
    refine PJ.next ?_
    refine WJ.seq ?_
    refine WJ.reg ?_
    refine SJ.q (YldS.yld (y_move rfl)) rfl ?_
    obtain ⟨r18, h19, hm⟩ := bindS hm
    refine SJ.call Try.call11 rfl (fun w hw => ok_i_EvenSheets h19 w _ (hw.row_rd (k := 1) rfl)) rfl ?_
    rintro _ _ ⟨v20, rfl, rfl⟩
    refine SJ.q (YldS.yld (y_move rfl)) rfl ?_
    refine SJ.q (YldS.yld (y_extract rfl rfl)) rfl ?_
    refine SJ.q (YldS.yld (y_extract rfl rfl)) rfl ?_
    refine SJ.q (YldS.yld (y_assign rfl)) rfl ?_
    refine SJ.q (YldS.yld (y_assign rfl)) rfl ?_
    refine SJ.nil ?_
    refine PJ.next ?_
    refine WJ.seq ?_
    refine WJ.seq ?_
    refine WJ.quiet ?_
    refine QJ.step (YldS.yld (y_move rfl)) rfl ?_
    refine QJ.step (YldS.yld (y_bin rfl rfl rfl)) rfl ?_
    refine QJ.step (YldS.yld (y_move rfl)) rfl ?_
    obtain ⟨t21, h22, hm⟩ := bindS hm
    refine QJ.cut 6 [(5, v12), (6, .int .i64 (List.length r10 : Int)), (7, .int .i64 r13), (8, v17), (10, v20), (11, .int .i64 r18.2), (45, .bool t21)] ?_ ?_
    · rcases Bool.eq_false_or_eq_true (r15.2 != 0) with hb23 | hb23
      · obtain rfl := orT h22 hb23
        refine QJ.off rfl rfl (cB hb23) rfl rfl ?_
        refine QJ.off rfl rfl (cB hb23) rfl rfl ?_
        refine QJ.off rfl rfl (cB hb23) rfl rfl ?_
        refine QJ.off rfl rfl (cB hb23) rfl rfl ?_
        refine QJ.off rfl rfl (cB hb23) rfl rfl ?_
        refine QJ.step (YldS.yld (y_pick_t (cB hb23) rfl)) rfl ?_
        exact QJ.cut_end ⟨rfl, rfl, rfl, rfl, rfl, rfl, rfl, trivial⟩
      · replace h22 := orF h22 hb23
        refine QJ.on rfl rfl (cB hb23) (YldS.yld (y_move rfl)) rfl ?_
        refine QJ.on rfl rfl (cB hb23) (YldS.yld (y_lenRow (k := 1) rfl Try.runUnderlying24 rfl)) rfl ?_
        refine QJ.on rfl rfl (cB hb23) (YldS.yld (y_move rfl)) rfl ?_
        refine QJ.on rfl rfl (cB hb23) (YldS.yld (y_lenRow (k := 2) rfl Try.runUnderlying24 rfl)) rfl ?_
        refine QJ.on rfl rfl (cB hb23) (YldS.yld (y_bin rfl rfl rfl)) rfl ?_
        refine QJ.step (YldS.yld (y_pick_f (cB hb23) rfl)) rfl ?_
        obtain rfl := Option.some.inj h22
        exact QJ.cut_end ⟨rfl, rfl, rfl, rfl, rfl, rfl, rfl, trivial⟩
    refine QJ.step (YldS.yld (y_move rfl)) rfl ?_
    obtain ⟨t24, h25, hm⟩ := bindS hm
    refine QJ.cut 14 [(5, v12), (6, .int .i64 (List.length r10 : Int)), (7, .int .i64 r13), (8, v17), (10, v20), (11, .int .i64 r18.2), (60, .bool t24)] ?_ ?_
    · rcases Bool.eq_false_or_eq_true t21 with hb26 | hb26
      · obtain rfl := orT h25 hb26
        refine QJ.off rfl rfl (cB hb26) rfl rfl ?_
        refine QJ.off rfl rfl (cB hb26) rfl rfl ?_
        refine QJ.off rfl rfl (cB hb26) rfl rfl ?_
        refine QJ.off rfl rfl (cB hb26) rfl rfl ?_
        refine QJ.off rfl rfl (cB hb26) rfl rfl ?_
        refine QJ.off rfl rfl (cB hb26) rfl rfl ?_
        refine QJ.off rfl rfl (cB hb26) rfl rfl ?_
        refine QJ.off rfl rfl (cB hb26) rfl rfl ?_
        refine QJ.off rfl rfl (cB hb26) rfl rfl ?_
        refine QJ.off rfl rfl (cB hb26) rfl rfl ?_
        refine QJ.off rfl rfl (cB hb26) rfl rfl ?_
        refine QJ.off rfl rfl (cB hb26) rfl rfl ?_
        refine QJ.off rfl rfl (cB hb26) rfl rfl ?_
        refine QJ.step (YldS.yld (y_pick_t (cB hb26) rfl)) rfl ?_
        exact QJ.cut_end ⟨rfl, rfl, rfl, rfl, rfl, rfl, rfl, trivial⟩
      · replace h25 := orF h25 hb26
        refine QJ.on rfl rfl (cB hb26) (YldS.yld (y_move rfl)) rfl ?_
        obtain ⟨r27, h28, h25⟩ := bindS h25
        refine QJ.on rfl rfl (cB hb26) (y_call Try.call12 rfl (RetG.quiet fun w hw => ok_w_a2Sum h28 w _ (hw.row_rd (k := 1) rfl))) rfl ?_
        refine QJ.on rfl rfl (cB hb26) (YldS.yld (y_move rfl)) rfl ?_
        obtain ⟨r29, h30, h25⟩ := bindS h25
        refine QJ.on rfl rfl (cB hb26) (y_call Try.call12 rfl (RetG.quiet fun w hw => ok_w_a2Sum h30 w _ (hw.row_rd (k := 2) rfl))) rfl ?_
        refine QJ.on rfl rfl (cB hb26) (YldS.yld (y_move rfl)) rfl ?_
        refine QJ.on rfl rfl (cB hb26) (YldS.yld (y_move rfl)) rfl ?_
        refine QJ.on rfl rfl (cB hb26) (YldS.yld (y_bin rfl rfl rfl)) rfl ?_
        refine QJ.on rfl rfl (cB hb26) (YldS.yld (y_move rfl)) rfl ?_
        refine QJ.on rfl rfl (cB hb26) (YldS.yld (y_bin rfl rfl rfl)) rfl ?_
        refine QJ.on rfl rfl (cB hb26) (YldS.yld (y_bin rfl rfl rfl)) rfl ?_
        refine QJ.on rfl rfl (cB hb26) (YldS.yld (y_quo rfl rfl (by decide))) rfl ?_
        refine QJ.on rfl rfl (cB hb26) (YldS.yld (y_bin rfl rfl rfl)) rfl ?_
        refine QJ.on rfl rfl (cB hb26) (YldS.yld (y_bin rfl rfl rfl)) rfl ?_
        refine QJ.step (YldS.yld (y_pick_f (cB hb26) rfl)) rfl ?_
        obtain rfl := Option.some.inj h25
        exact QJ.cut_end ⟨rfl, rfl, rfl, rfl, rfl, rfl, rfl, trivial⟩
    refine QJ.step (YldS.yld (y_move rfl)) rfl ?_
    obtain ⟨t31, h32, hm⟩ := bindS hm
    refine QJ.cut 3 [(5, v12), (6, .int .i64 (List.length r10 : Int)), (7, .int .i64 r13), (8, v17), (10, v20), (64, .bool t31)] ?_ ?_
    · rcases Bool.eq_false_or_eq_true t24 with hb33 | hb33
      · obtain rfl := orT h32 hb33
        refine QJ.off rfl rfl (cB hb33) rfl rfl ?_
        refine QJ.off rfl rfl (cB hb33) rfl rfl ?_
        refine QJ.step (YldS.yld (y_pick_t (cB hb33) rfl)) rfl ?_
        exact QJ.cut_end ⟨rfl, rfl, rfl, rfl, rfl, rfl, trivial⟩
      · replace h32 := orF h32 hb33
        refine QJ.on rfl rfl (cB hb33) (YldS.yld (y_move rfl)) rfl ?_
        refine QJ.on rfl rfl (cB hb33) (YldS.yld (y_bin rfl rfl rfl)) rfl ?_
        refine QJ.step (YldS.yld (y_pick_f (cB hb33) rfl)) rfl ?_
        obtain rfl := Option.some.inj h32
        exact QJ.cut_end ⟨rfl, rfl, rfl, rfl, rfl, rfl, trivial⟩
    refine QJ.step (YldS.yld (y_move rfl)) rfl ?_
    obtain ⟨t34, h35, hm⟩ := bindS hm
    refine QJ.cut 5 [(5, v12), (6, .int .i64 (List.length r10 : Int)), (7, .int .i64 r13), (8, v17), (10, v20), (70, .bool t34)] ?_ ?_
    · rcases Bool.eq_false_or_eq_true t31 with hb36 | hb36
      · obtain rfl := orT h35 hb36
        refine QJ.off rfl rfl (cB hb36) rfl rfl ?_
        refine QJ.off rfl rfl (cB hb36) rfl rfl ?_
        refine QJ.off rfl rfl (cB hb36) rfl rfl ?_
        refine QJ.off rfl rfl (cB hb36) rfl rfl ?_
        refine QJ.step (YldS.yld (y_pick_t (cB hb36) rfl)) rfl ?_
        exact QJ.cut_end ⟨rfl, rfl, rfl, rfl, rfl, rfl, trivial⟩
      · replace h35 := orF h35 hb36
        refine QJ.on rfl rfl (cB hb36) (YldS.yld (y_move rfl)) rfl ?_
        refine QJ.on rfl rfl (cB hb36) (YldS.yld (y_lenRow (k := 0) rfl Try.runUnderlying24 rfl)) rfl ?_
        refine QJ.on rfl rfl (cB hb36) (YldS.yld (y_move rfl)) rfl ?_
        refine QJ.on rfl rfl (cB hb36) (YldS.yld (y_bin rfl rfl rfl)) rfl ?_
        refine QJ.step (YldS.yld (y_pick_f (cB hb36) rfl)) rfl ?_
        obtain rfl := Option.some.inj h35
        exact QJ.cut_end ⟨rfl, rfl, rfl, rfl, rfl, rfl, trivial⟩
    refine QJ.done ?_
    refine PJ.next ?_
    refine WJ.cond (t := t34) rfl (fun hb37 => ?_) (fun hb37 => ?_)
    · replace hm := ifT hm hb37
      refine WJ.seq ?_
      refine WJ.quiet ?_
      refine QJ.step (YldS.yld (y_assign rfl)) rfl ?_
      refine QJ.done ?_
      refine PJ.next ?_
      refine WJ.ret ?_
      refine PJ.then_ret ?_
      obtain rfl := Option.some.inj hm
      refine PJ.sel (L' := []) [] ⟨List.nodup_nil, rfl⟩ ?_
      exact PJ.retn (vs := [.bool false]) Try.results3 ⟨rfl, trivial⟩ ⟨rfl, rfl⟩
    · replace hm := ifF hm hb37
      refine WJ.skip ?_
      refine PJ.next ?_
      obtain ⟨kj38, hk39, hm⟩ := withK_open hm
      refine WJ.join (X := Unit) (fun (_ : Unit) => kj38  = some r) (fun (_ : Unit) => [(5, v12), (7, .int .i64 r13), (8, v17)]) (fun (_ : Unit) => [row v17 2 fI64 r15.1, row v12 2 fI64 r10]) ?_ ?_
      · clear hk39
        refine WJ.seq ?_
        refine WJ.quiet ?_
        refine QJ.step (YldS.yld (y_assign rfl)) rfl ?_
        refine QJ.done ?_
        refine PJ.next ?_
        refine WJ.block ?_
        refine WJ.sel (L' := (fun (x : Int) => [row v20 2 fI64 r18.1, row v17 2 fI64 r15.1, row v12 2 fI64 r10]) 0) [0, 1, 2] ⟨by decide, rfl⟩ ?_
        refine WJ.sub (m' := (fun (x : Int) => [(5, v12), (6, .int .i64 (List.length r10 : Int)), (7, .int .i64 r13), (8, v17), (10, v20), (12, .int .i64 x)]) 0) ⟨rfl, rfl, rfl, rfl, rfl, rfl, trivial⟩ ?_
        refine WJ.loop (X := Int) (fun N (x : Int) => w_FnSheets_l1 kj38 r10 r13 r15 r18 N x = some r) (fun (x : Int) => [(5, v12), (6, .int .i64 (List.length r10 : Int)), (7, .int .i64 r13), (8, v17), (10, v20), (12, .int .i64 x)]) (fun (x : Int) => [row v20 2 fI64 r18.1, row v17 2 fI64 r15.1, row v12 2 fI64 r10]) ?_ N 0 hm
        · rintro N i40 hI
          have hm := hI; clear hI
          cases N with
          | zero => cases hm
          | succ N =>
          unfold w_FnSheets_l1 at hm
          refine WJ.seq ?_
          refine WJ.seq ?_
          refine WJ.quiet ?_
          refine QJ.step (YldS.yld (y_move rfl)) rfl ?_
          refine QJ.step (YldS.yld (y_move rfl)) rfl ?_
          refine QJ.step (YldS.yld (y_lenRow (k := 0) rfl Try.runUnderlying24 rfl)) rfl ?_
          refine QJ.step (YldS.yld (y_bin rfl rfl rfl)) rfl ?_
          refine QJ.done ?_
          refine PJ.next ?_
          refine WJ.cond (t := decide (i40 < (List.length r18.1 : Int))) rfl (fun hb41 => ?_) (fun hb41 => ?_)
          · replace hm := ifT hm hb41
            refine WJ.skip ?_
            refine PJ.next ?_
            refine WJ.seq ?_
            refine WJ.block ?_
            refine WJ.seq ?_
            refine WJ.seq ?_
            refine WJ.quiet_draw follows (by kernel_rfl) ?_
            refine QJ.step (YldS.yld (y_move rfl)) rfl ?_
            refine QJ.step (YldS.yld (y_move rfl)) rfl ?_
            obtain ⟨e42, h43, hm⟩ := bindS hm
            refine QJ.step (YldS.yld (y_ixRow (k := 0) (R := fI64) rfl Try.runUnderlying24 Try.sizeOf2 rfl rfl h43)) rfl ?_
            refine QJ.step (YldS.yld (y_loadR (k := 0) (i := (Int.toNat i40)) (off := 0) (u := .int .i64 e42) rfl Try.isAgg2 rfl (idx_get h43) rfl)) rfl ?_
            refine QJ.step (YldS.yld (y_bin rfl rfl rfl)) rfl ?_
            refine QJ.step (YldS.yld (y_move rfl)) rfl ?_
            obtain ⟨t44, h45, hm⟩ := bindS hm
            refine QJ.cut 7 [(5, v12), (6, .int .i64 (List.length r10 : Int)), (7, .int .i64 r13), (8, v17), (10, v20), (12, .int .i64 i40), (89, .bool t44)] ?_ ?_
            · rcases Bool.eq_false_or_eq_true (decide (e42 < 0)) with hb46 | hb46
              · obtain rfl := orT h45 hb46
                refine QJ.off rfl rfl (cB hb46) rfl rfl ?_
                refine QJ.off rfl rfl (cB hb46) rfl rfl ?_
                refine QJ.off rfl rfl (cB hb46) rfl rfl ?_
                refine QJ.off rfl rfl (cB hb46) rfl rfl ?_
                refine QJ.off rfl rfl (cB hb46) rfl rfl ?_
                refine QJ.off rfl rfl (cB hb46) rfl rfl ?_
                refine QJ.step (YldS.yld (y_pick_t (cB hb46) rfl)) rfl ?_
                exact QJ.cut_end ⟨rfl, rfl, rfl, rfl, rfl, rfl, rfl, trivial⟩
              · replace h45 := orF h45 hb46
                refine QJ.on rfl rfl (cB hb46) (YldS.yld (y_move rfl)) rfl ?_
                refine QJ.on rfl rfl (cB hb46) (YldS.yld (y_move rfl)) rfl ?_
                obtain ⟨e47, h48, h45⟩ := bindS h45
                refine QJ.on rfl rfl (cB hb46) (YldS.yld (y_ixRow (k := 0) (R := fI64) rfl Try.runUnderlying24 Try.sizeOf2 rfl rfl h48)) rfl ?_
                refine QJ.on rfl rfl (cB hb46) (YldS.yld (y_loadR (k := 0) (i := (Int.toNat i40)) (off := 0) (u := .int .i64 e47) rfl Try.isAgg2 rfl (idx_get h48) rfl)) rfl ?_
                refine QJ.on rfl rfl (cB hb46) (YldS.yld (y_move rfl)) rfl ?_
                refine QJ.on rfl rfl (cB hb46) (YldS.yld (y_bin rfl rfl rfl)) rfl ?_
                refine QJ.step (YldS.yld (y_pick_f (cB hb46) rfl)) rfl ?_
                obtain rfl := Option.some.inj h45
                exact QJ.cut_end ⟨rfl, rfl, rfl, rfl, rfl, rfl, rfl, trivial⟩
            refine QJ.step (YldS.yld (y_move rfl)) rfl ?_
            obtain ⟨t49, h50, hm⟩ := bindS hm
            refine QJ.cut 9 [(5, v12), (6, .int .i64 (List.length r10 : Int)), (7, .int .i64 r13), (8, v17), (10, v20), (12, .int .i64 i40), (99, .bool t49)] ?_ ?_
            · rcases Bool.eq_false_or_eq_true t44 with hb51 | hb51
              · obtain rfl := orT h50 hb51
                refine QJ.off rfl rfl (cB hb51) rfl rfl ?_
                refine QJ.off rfl rfl (cB hb51) rfl rfl ?_
                refine QJ.off rfl rfl (cB hb51) rfl rfl ?_
                refine QJ.off rfl rfl (cB hb51) rfl rfl ?_
                refine QJ.off rfl rfl (cB hb51) rfl rfl ?_
                refine QJ.off rfl rfl (cB hb51) rfl rfl ?_
                refine QJ.off rfl rfl (cB hb51) rfl rfl ?_
                refine QJ.off rfl rfl (cB hb51) rfl rfl ?_
                refine QJ.step (YldS.yld (y_pick_t (cB hb51) rfl)) rfl ?_
                exact QJ.cut_end ⟨rfl, rfl, rfl, rfl, rfl, rfl, rfl, trivial⟩
              · replace h50 := orF h50 hb51
                refine QJ.on rfl rfl (cB hb51) (YldS.yld (y_move rfl)) rfl ?_
                refine QJ.on rfl rfl (cB hb51) (YldS.yld (y_move rfl)) rfl ?_
                obtain ⟨l52, h53, h50⟩ := bindS h50
                refine QJ.on rfl rfl (cB hb51) (YldS.yld (y_slcRow (i := none) (j := some i40) (k := 0) h53 rfl Try.runUnderlying24 Try.sizeOf2 rfl trivial ⟨_, rfl⟩)) rfl ?_
                refine QJ.on rfl rfl (cB hb51) (YldS.yld (y_move rfl)) rfl ?_
                refine QJ.on rfl rfl (cB hb51) (YldS.yld (y_move rfl)) rfl ?_
                obtain ⟨e54, h55, h50⟩ := bindS h50
                refine QJ.on rfl rfl (cB hb51) (YldS.yld (y_ixRow (k := 0) (R := fI64) rfl Try.runUnderlying24 Try.sizeOf2 rfl rfl h55)) rfl ?_
                refine QJ.on rfl rfl (cB hb51) (YldS.yld (y_loadR (k := 0) (i := (Int.toNat i40)) (off := 0) (u := .int .i64 e54) rfl Try.isAgg2 rfl (idx_get h55) rfl)) rfl ?_
                obtain ⟨r56, h57, h50⟩ := bindS h50
                refine QJ.on rfl rfl (cB hb51) (y_call Try.call13 rfl (RetG.quiet fun w hw => ok_w_a2Has h57 w _ (hw.slc_rd (k := 0) (i := none) (j := some i40) rfl h53))) rfl ?_
                refine QJ.step (YldS.yld (y_pick_f (cB hb51) rfl)) rfl ?_
                obtain rfl := Option.some.inj h50
                exact QJ.cut_end ⟨rfl, rfl, rfl, rfl, rfl, rfl, rfl, trivial⟩
            refine QJ.step (YldS.yld (y_move rfl)) rfl ?_
            obtain ⟨t58, h59, hm⟩ := bindS hm
            refine QJ.cut 12 [(5, v12), (6, .int .i64 (List.length r10 : Int)), (7, .int .i64 r13), (8, v17), (10, v20), (12, .int .i64 i40), (112, .bool t58)] ?_ ?_
            · rcases Bool.eq_false_or_eq_true t49 with hb60 | hb60
              · obtain rfl := orT h59 hb60
                refine QJ.off rfl rfl (cB hb60) rfl rfl ?_
                refine QJ.off rfl rfl (cB hb60) rfl rfl ?_
                refine QJ.off rfl rfl (cB hb60) rfl rfl ?_
                refine QJ.off rfl rfl (cB hb60) rfl rfl ?_
                refine QJ.off rfl rfl (cB hb60) rfl rfl ?_
                refine QJ.off rfl rfl (cB hb60) rfl rfl ?_
                refine QJ.off rfl rfl (cB hb60) rfl rfl ?_
                refine QJ.off rfl rfl (cB hb60) rfl rfl ?_
                refine QJ.off rfl rfl (cB hb60) rfl rfl ?_
                refine QJ.off rfl rfl (cB hb60) rfl rfl ?_
                refine QJ.off rfl rfl (cB hb60) rfl rfl ?_
                refine QJ.step (YldS.yld (y_pick_t (cB hb60) rfl)) rfl ?_
                exact QJ.cut_end ⟨rfl, rfl, rfl, rfl, rfl, rfl, rfl, trivial⟩
              · replace h59 := orF h59 hb60
                refine QJ.on rfl rfl (cB hb60) (YldS.yld (y_move rfl)) rfl ?_
                refine QJ.on rfl rfl (cB hb60) (YldS.yld (y_move rfl)) rfl ?_
                obtain ⟨e61, h62, h59⟩ := bindS h59
                refine QJ.on rfl rfl (cB hb60) (YldS.yld (y_ixRow (k := 1) (R := fI64) rfl Try.runUnderlying24 Try.sizeOf2 rfl rfl h62)) rfl ?_
                refine QJ.on rfl rfl (cB hb60) (YldS.yld (y_loadR (k := 1) (i := (Int.toNat i40)) (off := 0) (u := .int .i64 e61) rfl Try.isAgg2 rfl (idx_get h62) rfl)) rfl ?_
                refine QJ.on rfl rfl (cB hb60) (YldS.yld (y_move rfl)) rfl ?_
                refine QJ.on rfl rfl (cB hb60) (YldS.yld (y_move rfl)) rfl ?_
                obtain ⟨e63, h64, h59⟩ := bindS h59
                refine QJ.on rfl rfl (cB hb60) (YldS.yld (y_ixRow (k := 2) (R := fI64) rfl Try.runUnderlying24 Try.sizeOf2 rfl rfl h64)) rfl ?_
                refine QJ.on rfl rfl (cB hb60) (YldS.yld (y_loadR (k := 2) (i := (Int.toNat i40)) (off := 0) (u := .int .i64 e63) rfl Try.isAgg2 rfl (idx_get h64) rfl)) rfl ?_
                refine QJ.on rfl rfl (cB hb60) (YldS.yld (y_move rfl)) rfl ?_
                refine QJ.on rfl rfl (cB hb60) (YldS.yld (y_bin rfl rfl rfl)) rfl ?_
                refine QJ.on rfl rfl (cB hb60) (YldS.yld (y_bin rfl rfl rfl)) rfl ?_
                refine QJ.step (YldS.yld (y_pick_f (cB hb60) rfl)) rfl ?_
                obtain rfl := Option.some.inj h59
                exact QJ.cut_end ⟨rfl, rfl, rfl, rfl, rfl, rfl, rfl, trivial⟩
            refine QJ.done ?_
            refine PJ.next ?_
            refine WJ.cond (t := t58) rfl (fun hb65 => ?_) (fun hb65 => ?_)
            · replace hm := ifT hm hb65
              refine WJ.seq ?_
              refine WJ.quiet ?_
              refine QJ.step (YldS.yld (y_assign rfl)) rfl ?_
              refine QJ.done ?_
              refine PJ.next ?_
              refine WJ.ret ?_
              refine PJ.then_ret (PJ.block_ret (PJ.then_ret (PJ.then_ret (PJ.block_ret (PJ.then_ret ?_)))))
              obtain rfl := Option.some.inj hm
              refine PJ.sel (L' := []) [] ⟨List.nodup_nil, rfl⟩ ?_
              exact PJ.retn (vs := [.bool false]) Try.results3 ⟨rfl, trivial⟩ ⟨rfl, rfl⟩
            · replace hm := ifF hm hb65
              refine WJ.skip ?_
              refine PJ.next ?_
              refine WJ.seq ?_
              refine WJ.quiet_draw follows (by kernel_rfl) ?_
              refine QJ.step (YldS.yld (y_move rfl)) rfl ?_
              refine QJ.step (YldS.yld (y_bin rfl rfl rfl)) rfl ?_
              refine QJ.step (YldS.yld (y_move rfl)) rfl ?_
              obtain ⟨t66, h67, hm⟩ := bindS hm
              refine QJ.cut 47 [(5, v12), (6, .int .i64 (List.length r10 : Int)), (7, .int .i64 r13), (8, v17), (10, v20), (12, .int .i64 i40), (162, .bool t66)] ?_ ?_
              · rcases Bool.eq_false_or_eq_true (decide (i40 > 0)) with hb68 | hb68
                · replace h67 := andT h67 hb68
                  refine QJ.on rfl rfl (cB hb68) (YldS.yld (y_move rfl)) rfl ?_
                  refine QJ.on rfl rfl (cB hb68) (YldS.yld (y_move rfl)) rfl ?_
                  refine QJ.on rfl rfl (cB hb68) (YldS.yld (y_move rfl)) rfl ?_
                  refine QJ.on rfl rfl (cB hb68) (YldS.yld (y_bin rfl rfl rfl)) rfl ?_
                  obtain ⟨e69, h70, h67⟩ := bindS h67
                  refine QJ.on rfl rfl (cB hb68) (YldS.yld (y_ixRow (k := 0) (R := fI64) rfl Try.runUnderlying24 Try.sizeOf2 rfl rfl h70)) rfl ?_
                  refine QJ.on rfl rfl (cB hb68) (YldS.yld (y_loadR (k := 0) (i := (Int.toNat (w64 (i40 - 1)))) (off := 0) (u := .int .i64 e69) rfl Try.isAgg2 rfl (idx_get h70) rfl)) rfl ?_
                  obtain ⟨e71, h72, h67⟩ := bindS h67
                  refine QJ.on rfl rfl (cB hb68) (YldS.yld (y_ixRow (k := 2) (R := fI64) rfl Try.runUnderlying24 Try.sizeOf2 rfl rfl h72)) rfl ?_
                  refine QJ.on rfl rfl (cB hb68) (YldS.yld (y_loadR (k := 2) (i := (Int.toNat e69)) (off := 0) (u := .int .i64 e71) rfl Try.isAgg2 rfl (idx_get h72) rfl)) rfl ?_
                  refine QJ.on rfl rfl (cB hb68) (YldS.yld (y_move rfl)) rfl ?_
                  refine QJ.on rfl rfl (cB hb68) (YldS.yld (y_move rfl)) rfl ?_
                  refine QJ.on rfl rfl (cB hb68) (YldS.yld (y_move rfl)) rfl ?_
                  obtain ⟨e73, h74, h67⟩ := bindS h67
                  refine QJ.on rfl rfl (cB hb68) (YldS.yld (y_ixRow (k := 0) (R := fI64) rfl Try.runUnderlying24 Try.sizeOf2 rfl rfl h74)) rfl ?_
                  refine QJ.on rfl rfl (cB hb68) (YldS.yld (y_loadR (k := 0) (i := (Int.toNat i40)) (off := 0) (u := .int .i64 e73) rfl Try.isAgg2 rfl (idx_get h74) rfl)) rfl ?_
                  obtain ⟨e75, h76, h67⟩ := bindS h67
                  refine QJ.on rfl rfl (cB hb68) (YldS.yld (y_ixRow (k := 2) (R := fI64) rfl Try.runUnderlying24 Try.sizeOf2 rfl rfl h76)) rfl ?_
                  refine QJ.on rfl rfl (cB hb68) (YldS.yld (y_loadR (k := 2) (i := (Int.toNat e73)) (off := 0) (u := .int .i64 e75) rfl Try.isAgg2 rfl (idx_get h76) rfl)) rfl ?_
                  refine QJ.on rfl rfl (cB hb68) (YldS.yld (y_bin rfl rfl rfl)) rfl ?_
                  refine QJ.on rfl rfl (cB hb68) (YldS.yld (y_move rfl)) rfl ?_
                  obtain ⟨t77, h78, h67⟩ := bindS h67
                  refine QJ.cut 29 [(5, v12), (6, .int .i64 (List.length r10 : Int)), (7, .int .i64 r13), (8, v17), (10, v20), (12, .int .i64 i40), (115, .bool (decide (i40 > 0))), (161, .bool t77)] ?_ ?_
                  · rcases Bool.eq_false_or_eq_true (decide (e71 > e75)) with hb79 | hb79
                    · obtain rfl := orT h78 hb79
                      refine QJ.off rfl rfl (cB hb79) rfl rfl ?_
                      refine QJ.off rfl rfl (cB hb79) rfl rfl ?_
                      refine QJ.off rfl rfl (cB hb79) rfl rfl ?_
                      refine QJ.off rfl rfl (cB hb79) rfl rfl ?_
                      refine QJ.off rfl rfl (cB hb79) rfl rfl ?_
                      refine QJ.off rfl rfl (cB hb79) rfl rfl ?_
                      refine QJ.off rfl rfl (cB hb79) rfl rfl ?_
                      refine QJ.off rfl rfl (cB hb79) rfl rfl ?_
                      refine QJ.off rfl rfl (cB hb79) rfl rfl ?_
                      refine QJ.off rfl rfl (cB hb79) rfl rfl ?_
                      refine QJ.off rfl rfl (cB hb79) rfl rfl ?_
                      refine QJ.off rfl rfl (cB hb79) rfl rfl ?_
                      refine QJ.off rfl rfl (cB hb79) rfl rfl ?_
                      refine QJ.off rfl rfl (cB hb79) rfl rfl ?_
                      refine QJ.off rfl rfl (cB hb79) rfl rfl ?_
                      refine QJ.off rfl rfl (cB hb79) rfl rfl ?_
                      refine QJ.off rfl rfl (cB hb79) rfl rfl ?_
                      refine QJ.off_undef rfl rfl rfl rfl ?_
                      refine QJ.off_undef rfl rfl rfl rfl ?_
                      refine QJ.off_undef rfl rfl rfl rfl ?_
                      refine QJ.off_undef rfl rfl rfl rfl ?_
                      refine QJ.off_undef rfl rfl rfl rfl ?_
                      refine QJ.off_undef rfl rfl rfl rfl ?_
                      refine QJ.off_undef rfl rfl rfl rfl ?_
                      refine QJ.off_undef rfl rfl rfl rfl ?_
                      refine QJ.off_undef rfl rfl rfl rfl ?_
                      refine QJ.off_undef rfl rfl rfl rfl ?_
                      refine QJ.off rfl rfl (cB hb79) rfl rfl ?_
                      refine QJ.on rfl rfl (cB hb68) (YldS.yld (y_pick_t (cB hb79) rfl)) rfl ?_
                      exact QJ.cut_end ⟨rfl, rfl, rfl, rfl, rfl, rfl, rfl, rfl, trivial⟩
                    · replace h78 := orF h78 hb79
                      refine QJ.on rfl rfl (cB hb79) (YldS.yld (y_move rfl)) rfl ?_
                      refine QJ.on rfl rfl (cB hb79) (YldS.yld (y_move rfl)) rfl ?_
                      refine QJ.on rfl rfl (cB hb79) (YldS.yld (y_move rfl)) rfl ?_
                      refine QJ.on rfl rfl (cB hb79) (YldS.yld (y_bin rfl rfl rfl)) rfl ?_
                      obtain ⟨e80, h81, h78⟩ := bindS h78
                      refine QJ.on rfl rfl (cB hb79) (YldS.yld (y_ixRow (k := 0) (R := fI64) rfl Try.runUnderlying24 Try.sizeOf2 rfl rfl h81)) rfl ?_
                      refine QJ.on rfl rfl (cB hb79) (YldS.yld (y_loadR (k := 0) (i := (Int.toNat (w64 (i40 - 1)))) (off := 0) (u := .int .i64 e80) rfl Try.isAgg2 rfl (idx_get h81) rfl)) rfl ?_
                      obtain ⟨e82, h83, h78⟩ := bindS h78
                      refine QJ.on rfl rfl (cB hb79) (YldS.yld (y_ixRow (k := 2) (R := fI64) rfl Try.runUnderlying24 Try.sizeOf2 rfl rfl h83)) rfl ?_
                      refine QJ.on rfl rfl (cB hb79) (YldS.yld (y_loadR (k := 2) (i := (Int.toNat e80)) (off := 0) (u := .int .i64 e82) rfl Try.isAgg2 rfl (idx_get h83) rfl)) rfl ?_
                      refine QJ.on rfl rfl (cB hb79) (YldS.yld (y_move rfl)) rfl ?_
                      refine QJ.on rfl rfl (cB hb79) (YldS.yld (y_move rfl)) rfl ?_
                      refine QJ.on rfl rfl (cB hb79) (YldS.yld (y_move rfl)) rfl ?_
                      obtain ⟨e84, h85, h78⟩ := bindS h78
                      refine QJ.on rfl rfl (cB hb79) (YldS.yld (y_ixRow (k := 0) (R := fI64) rfl Try.runUnderlying24 Try.sizeOf2 rfl rfl h85)) rfl ?_
                      refine QJ.on rfl rfl (cB hb79) (YldS.yld (y_loadR (k := 0) (i := (Int.toNat i40)) (off := 0) (u := .int .i64 e84) rfl Try.isAgg2 rfl (idx_get h85) rfl)) rfl ?_
                      obtain ⟨e86, h87, h78⟩ := bindS h78
                      refine QJ.on rfl rfl (cB hb79) (YldS.yld (y_ixRow (k := 2) (R := fI64) rfl Try.runUnderlying24 Try.sizeOf2 rfl rfl h87)) rfl ?_
                      refine QJ.on rfl rfl (cB hb79) (YldS.yld (y_loadR (k := 2) (i := (Int.toNat e84)) (off := 0) (u := .int .i64 e86) rfl Try.isAgg2 rfl (idx_get h87) rfl)) rfl ?_
                      refine QJ.on rfl rfl (cB hb79) (YldS.yld (y_bin rfl rfl rfl)) rfl ?_
                      refine QJ.on rfl rfl (cB hb79) (YldS.yld (y_move rfl)) rfl ?_
                      obtain ⟨t88, h89, h78⟩ := bindS h78
                      refine QJ.cut 11 [(5, v12), (6, .int .i64 (List.length r10 : Int)), (7, .int .i64 r13), (8, v17), (10, v20), (12, .int .i64 i40), (115, .bool (decide (i40 > 0))), (132, .bool (decide (e71 > e75))), (160, .bool t88)] ?_ ?_
                      · rcases Bool.eq_false_or_eq_true (e82 == e86) with hb90 | hb90
                        · replace h89 := andT h89 hb90
                          refine QJ.on rfl rfl (cB hb90) (YldS.yld (y_move rfl)) rfl ?_
                          refine QJ.on rfl rfl (cB hb90) (YldS.yld (y_move rfl)) rfl ?_
                          refine QJ.on rfl rfl (cB hb90) (YldS.yld (y_bin rfl rfl rfl)) rfl ?_
                          obtain ⟨e91, h92, h89⟩ := bindS h89
                          refine QJ.on rfl rfl (cB hb90) (YldS.yld (y_ixRow (k := 0) (R := fI64) rfl Try.runUnderlying24 Try.sizeOf2 rfl rfl h92)) rfl ?_
                          refine QJ.on rfl rfl (cB hb90) (YldS.yld (y_loadR (k := 0) (i := (Int.toNat (w64 (i40 - 1)))) (off := 0) (u := .int .i64 e91) rfl Try.isAgg2 rfl (idx_get h92) rfl)) rfl ?_
                          refine QJ.on rfl rfl (cB hb90) (YldS.yld (y_move rfl)) rfl ?_
                          refine QJ.on rfl rfl (cB hb90) (YldS.yld (y_move rfl)) rfl ?_
                          obtain ⟨e93, h94, h89⟩ := bindS h89
                          refine QJ.on rfl rfl (cB hb90) (YldS.yld (y_ixRow (k := 0) (R := fI64) rfl Try.runUnderlying24 Try.sizeOf2 rfl rfl h94)) rfl ?_
                          refine QJ.on rfl rfl (cB hb90) (YldS.yld (y_loadR (k := 0) (i := (Int.toNat i40)) (off := 0) (u := .int .i64 e93) rfl Try.isAgg2 rfl (idx_get h94) rfl)) rfl ?_
                          refine QJ.on rfl rfl (cB hb90) (YldS.yld (y_bin rfl rfl rfl)) rfl ?_
                          refine QJ.on rfl rfl (cB hb79) (YldS.yld (y_pick_t (cB hb90) rfl)) rfl ?_
                          obtain rfl := Option.some.inj h89
                          exact QJ.cut_end ⟨rfl, rfl, rfl, rfl, rfl, rfl, rfl, rfl, rfl, trivial⟩
                        · obtain rfl := andF h89 hb90
                          refine QJ.off rfl rfl (cB hb90) rfl rfl ?_
                          refine QJ.off rfl rfl (cB hb90) rfl rfl ?_
                          refine QJ.off rfl rfl (cB hb90) rfl rfl ?_
                          refine QJ.off rfl rfl (cB hb90) rfl rfl ?_
                          refine QJ.off rfl rfl (cB hb90) rfl rfl ?_
                          refine QJ.off rfl rfl (cB hb90) rfl rfl ?_
                          refine QJ.off rfl rfl (cB hb90) rfl rfl ?_
                          refine QJ.off rfl rfl (cB hb90) rfl rfl ?_
                          refine QJ.off rfl rfl (cB hb90) rfl rfl ?_
                          refine QJ.off rfl rfl (cB hb90) rfl rfl ?_
                          refine QJ.on rfl rfl (cB hb79) (YldS.yld (y_pick_f (cB hb90) rfl)) rfl ?_
                          exact QJ.cut_end ⟨rfl, rfl, rfl, rfl, rfl, rfl, rfl, rfl, rfl, trivial⟩
                      refine QJ.on rfl rfl (cB hb68) (YldS.yld (y_pick_f (cB hb79) rfl)) rfl ?_
                      obtain rfl := Option.some.inj h78
                      exact QJ.cut_end ⟨rfl, rfl, rfl, rfl, rfl, rfl, rfl, rfl, trivial⟩
                  refine QJ.step (YldS.yld (y_pick_t (cB hb68) rfl)) rfl ?_
                  obtain rfl := Option.some.inj h67
                  exact QJ.cut_end ⟨rfl, rfl, rfl, rfl, rfl, rfl, rfl, trivial⟩
                · obtain rfl := andF h67 hb68
                  refine QJ.off rfl rfl (cB hb68) rfl rfl ?_
                  refine QJ.off rfl rfl (cB hb68) rfl rfl ?_
                  refine QJ.off rfl rfl (cB hb68) rfl rfl ?_
                  refine QJ.off rfl rfl (cB hb68) rfl rfl ?_
                  refine QJ.off rfl rfl (cB hb68) rfl rfl ?_
                  refine QJ.off rfl rfl (cB hb68) rfl rfl ?_
                  refine QJ.off rfl rfl (cB hb68) rfl rfl ?_
                  refine QJ.off rfl rfl (cB hb68) rfl rfl ?_
                  refine QJ.off rfl rfl (cB hb68) rfl rfl ?_
                  refine QJ.off rfl rfl (cB hb68) rfl rfl ?_
                  refine QJ.off rfl rfl (cB hb68) rfl rfl ?_
                  refine QJ.off rfl rfl (cB hb68) rfl rfl ?_
                  refine QJ.off rfl rfl (cB hb68) rfl rfl ?_
                  refine QJ.off rfl rfl (cB hb68) rfl rfl ?_
                  refine QJ.off rfl rfl (cB hb68) rfl rfl ?_
                  refine QJ.off rfl rfl (cB hb68) rfl rfl ?_
                  refine QJ.off rfl rfl (cB hb68) rfl rfl ?_
                  refine QJ.off_undef rfl rfl rfl rfl ?_
                  refine QJ.off_undef rfl rfl rfl rfl ?_
                  refine QJ.off_undef rfl rfl rfl rfl ?_
                  refine QJ.off_undef rfl rfl rfl rfl ?_
                  refine QJ.off_undef rfl rfl rfl rfl ?_
                  refine QJ.off_undef rfl rfl rfl rfl ?_
                  refine QJ.off_undef rfl rfl rfl rfl ?_
                  refine QJ.off_undef rfl rfl rfl rfl ?_
                  refine QJ.off_undef rfl rfl rfl rfl ?_
                  refine QJ.off_undef rfl rfl rfl rfl ?_
                  refine QJ.off_undef rfl rfl rfl rfl ?_
                  refine QJ.off_undef rfl rfl rfl rfl ?_
                  refine QJ.off_undef rfl rfl rfl rfl ?_
                  refine QJ.off_undef rfl rfl rfl rfl ?_
                  refine QJ.off_undef rfl rfl rfl rfl ?_
                  refine QJ.off_undef rfl rfl rfl rfl ?_
                  refine QJ.off_undef rfl rfl rfl rfl ?_
                  refine QJ.off_undef rfl rfl rfl rfl ?_
                  refine QJ.off_undef rfl rfl rfl rfl ?_
                  refine QJ.off_undef rfl rfl rfl rfl ?_
                  refine QJ.off_undef rfl rfl rfl rfl ?_
                  refine QJ.off_undef rfl rfl rfl rfl ?_
                  refine QJ.off_undef rfl rfl rfl rfl ?_
                  refine QJ.off_undef rfl rfl rfl rfl ?_
                  refine QJ.off_undef rfl rfl rfl rfl ?_
                  refine QJ.off_undef rfl rfl rfl rfl ?_
                  refine QJ.off_undef rfl rfl rfl rfl ?_
                  refine QJ.off_undef rfl rfl rfl rfl ?_
                  refine QJ.off rfl rfl (cB hb68) rfl rfl ?_
                  refine QJ.step (YldS.yld (y_pick_f (cB hb68) rfl)) rfl ?_
                  exact QJ.cut_end ⟨rfl, rfl, rfl, rfl, rfl, rfl, rfl, trivial⟩
              refine QJ.done ?_
              refine PJ.next ?_
              refine WJ.cond (t := t66) rfl (fun hb95 => ?_) (fun hb95 => ?_)
              · replace hm := ifT hm hb95
                refine WJ.seq ?_
                refine WJ.quiet ?_
                refine QJ.step (YldS.yld (y_assign rfl)) rfl ?_
                refine QJ.done ?_
                refine PJ.next ?_
                refine WJ.ret ?_
                refine PJ.block_ret (PJ.then_ret (PJ.then_ret (PJ.block_ret (PJ.then_ret ?_))))
                obtain rfl := Option.some.inj hm
                refine PJ.sel (L' := []) [] ⟨List.nodup_nil, rfl⟩ ?_
                exact PJ.retn (vs := [.bool false]) Try.results3 ⟨rfl, trivial⟩ ⟨rfl, rfl⟩
              · replace hm := ifF hm hb95
                refine WJ.skip ?_
                refine PJ.block_normal (PJ.next ?_)
                refine WJ.quiet ?_
                refine QJ.step (YldS.yld (y_move rfl)) rfl ?_
                refine QJ.step (YldS.yld (y_bin rfl rfl rfl)) rfl ?_
                refine QJ.step (YldS.yld (y_assign rfl)) rfl ?_
                refine QJ.done ?_
                exact PJ.round (w64 (i40 + 1)) [0, 1, 2] hm ⟨rfl, rfl, rfl, rfl, rfl, rfl, trivial⟩ ⟨by decide, rfl⟩
          · replace hm := ifF hm hb41
            refine WJ.exit ?_
            refine PJ.then_exit (PJ.then_exit (PJ.block_exit ?_))
            exact PJ.joined () [1, 2] hm ⟨rfl, rfl, rfl, trivial⟩ ⟨by decide, rfl⟩
      · rintro _ hm
        subst hk39
        refine WJ.seq ?_
        refine WJ.seq ?_
        refine WJ.quiet ?_
        refine QJ.step (YldS.yld (y_move rfl)) rfl ?_
        refine QJ.step (YldS.yld (y_bin rfl rfl rfl)) rfl ?_
        refine QJ.done ?_
        refine PJ.next ?_
        refine WJ.cond (t := (r13 == 0)) rfl (fun hb96 => ?_) (fun hb96 => ?_)
        · replace hm := ifT hm hb96
          refine WJ.seq ?_
          refine WJ.quiet ?_
          refine QJ.step (YldS.yld (y_move rfl)) rfl ?_
          refine QJ.step (YldS.yld (y_move rfl)) rfl ?_
          obtain ⟨r97, h98, hm⟩ := bindS hm
          refine QJ.step (y_call Try.call14 rfl (RetG.quiet fun w hw => ok_w_a2Same h98 w _ (hw.row_rd (k := 0) rfl) _ (hw.row_rd (k := 1) rfl))) rfl ?_
          refine QJ.step (YldS.yld (y_assign rfl)) rfl ?_
          refine QJ.done ?_
          refine PJ.next ?_
          refine WJ.ret ?_
          refine PJ.then_ret ?_
          obtain rfl := Option.some.inj hm
          refine PJ.sel (L' := []) [] ⟨List.nodup_nil, rfl⟩ ?_
          exact PJ.retn (vs := [.bool r97]) Try.results3 ⟨rfl, trivial⟩ ⟨rfl, rfl⟩
        · replace hm := ifF hm hb96
          refine WJ.skip ?_
          refine PJ.next ?_
          refine WJ.seq ?_
          refine WJ.reg ?_
          refine SJ.q (YldS.yld (y_move rfl)) rfl ?_
          obtain ⟨r99, h100, hm⟩ := bindS hm
          refine SJ.call Try.call10 rfl (fun w hw => ok_i_WearSheets h100 w _ (hw.row_rd (k := 1) rfl)) rfl ?_
          rintro _ _ ⟨v101, rfl, rfl⟩
          refine SJ.q (YldS.yld (y_move rfl)) rfl ?_
          refine SJ.q (YldS.yld (y_extract rfl rfl)) rfl ?_
          refine SJ.q (YldS.yld (y_extract rfl rfl)) rfl ?_
          refine SJ.q (YldS.yld (y_assign rfl)) rfl ?_
          refine SJ.q (YldS.yld (y_assign rfl)) rfl ?_
          refine SJ.nil ?_
          refine PJ.next ?_
          refine WJ.seq ?_
          refine WJ.reg ?_
          refine SJ.q (YldS.yld (y_move rfl)) rfl ?_
          refine SJ.q (YldS.yld (y_move rfl)) rfl ?_
          refine SJ.q (YldS.yld (y_bin rfl rfl rfl)) rfl ?_
          obtain ⟨r102, h103, hm⟩ := bindS hm
          refine SJ.call Try.call10 rfl (fun w hw => ok_i_WearSheets h103 w _ (hw.row_rd (k := 0) rfl)) rfl ?_
          rintro _ _ ⟨v104, rfl, rfl⟩
          refine SJ.q (YldS.yld (y_move rfl)) rfl ?_
          refine SJ.q (YldS.yld (y_extract rfl rfl)) rfl ?_
          refine SJ.q (YldS.yld (y_extract rfl rfl)) rfl ?_
          refine SJ.q (YldS.yld (y_assign rfl)) rfl ?_
          refine SJ.q (YldS.yld (y_assign rfl)) rfl ?_
          refine SJ.nil ?_
          refine PJ.next ?_
          refine WJ.seq ?_
          refine WJ.quiet ?_
          refine QJ.step (YldS.yld (y_move rfl)) rfl ?_
          refine QJ.step (YldS.yld (y_bin rfl rfl rfl)) rfl ?_
          refine QJ.step (YldS.yld (y_move rfl)) rfl ?_
          obtain ⟨t105, h106, hm⟩ := bindS hm
          refine QJ.cut 3 [(8, v17), (15, v104), (185, .bool t105)] ?_ ?_
          · rcases Bool.eq_false_or_eq_true (r99.2 == 0) with hb107 | hb107
            · replace h106 := andT h106 hb107
              refine QJ.on rfl rfl (cB hb107) (YldS.yld (y_move rfl)) rfl ?_
              refine QJ.on rfl rfl (cB hb107) (YldS.yld (y_bin rfl rfl rfl)) rfl ?_
              refine QJ.step (YldS.yld (y_pick_t (cB hb107) rfl)) rfl ?_
              obtain rfl := Option.some.inj h106
              exact QJ.cut_end ⟨rfl, rfl, rfl, trivial⟩
            · obtain rfl := andF h106 hb107
              refine QJ.off rfl rfl (cB hb107) rfl rfl ?_
              refine QJ.off rfl rfl (cB hb107) rfl rfl ?_
              refine QJ.step (YldS.yld (y_pick_f (cB hb107) rfl)) rfl ?_
              exact QJ.cut_end ⟨rfl, rfl, rfl, trivial⟩
          refine QJ.step (YldS.yld (y_move rfl)) rfl ?_
          obtain ⟨t108, h109, hm⟩ := bindS hm
          refine QJ.cut 4 [(190, .bool t108)] ?_ ?_
          · rcases Bool.eq_false_or_eq_true t105 with hb110 | hb110
            · replace h109 := andT h109 hb110
              refine QJ.on rfl rfl (cB hb110) (YldS.yld (y_move rfl)) rfl ?_
              refine QJ.on rfl rfl (cB hb110) (YldS.yld (y_move rfl)) rfl ?_
              obtain ⟨r111, h112, h109⟩ := bindS h109
              refine QJ.on rfl rfl (cB hb110) (y_call Try.call14 rfl (RetG.quiet fun w hw => ok_w_a2Same h112 w _ (hw.row_rd (k := 0) rfl) _ (hw.row_rd (k := 2) rfl))) rfl ?_
              refine QJ.step (YldS.yld (y_pick_t (cB hb110) rfl)) rfl ?_
              obtain rfl := Option.some.inj h109
              exact QJ.cut_end ⟨rfl, trivial⟩
            · obtain rfl := andF h109 hb110
              refine QJ.off rfl rfl (cB hb110) rfl rfl ?_
              refine QJ.off rfl rfl (cB hb110) rfl rfl ?_
              refine QJ.off rfl rfl (cB hb110) rfl rfl ?_
              refine QJ.step (YldS.yld (y_pick_f (cB hb110) rfl)) rfl ?_
              exact QJ.cut_end ⟨rfl, trivial⟩
          refine QJ.step (YldS.yld (y_assign rfl)) rfl ?_
          refine QJ.done ?_
          refine PJ.next ?_
          refine WJ.ret ?_
          obtain rfl := Option.some.inj hm
          refine PJ.sel (L' := []) [] ⟨List.nodup_nil, rfl⟩ ?_
          exact PJ.retn (vs := [.bool t108]) Try.results3 ⟨rfl, trivial⟩ ⟨rfl, rfl⟩

end Go.Proofs.Ytcegcmoeimjioaa
