/-
  The walks: a call hands back what its plain function computes, where that has a value. No other conditions.
-/
import Derived.Test.YtpdcifgphocllaaFnRecordsM
import Derived.Test.YtpdcifgphocllaaChecked
import Derived.Test.YtpdcifgphocllaaFnRecordsS
namespace Go.Proofs.Ytpdcifgphocllaa
open Go.RowKit Go.Proofs
set_option linter.unusedVariables false
set_option linter.unusedSimpArgs false

theorem follows : Try.prog.follows .mixedOrders = true := by kernel_rfl

def Trial.enc (x : Trial) : List Value := [.int .i64 x.strokes, .int .i64 x.errors, .int .i64 x.seconds]
def fTrial : FRp Trial := ⟨3, Trial.enc, fun _ => rfl, by decide, fun x u hu => by
  simp only [Trial.enc, List.mem_cons, List.not_mem_nil, or_false] at hu
  rcases hu with rfl | rfl | rfl <;> rfl⟩

def shL00Src : Sh L00Src UInt8 3 := ⟨fun v x => [v, .int .i64 x.at_, .int .u64 x.seed], fun x => x.code, 0, fun _ _ => rfl, fun _ _ => rfl, fun v x hv u hu => by
  simp only [List.mem_cons, List.not_mem_nil, or_false] at hu
  rcases hu with rfl | rfl | rfl <;> first | rfl | exact hv, by decide⟩

theorem pl134 : PlacesOk Try.prog 134 [(0, 1), (1, 1), (2, 1)] := ⟨_, Try.runUnderlying134, fun w => by simp [Try.sizeOf3, Try.sizeOf22, Try.sizeOf132]⟩
theorem fld134_1 : FieldOk Try.prog 134 1 1 3 0 := ⟨_, _, Try.runUnderlying134, rfl, rfl, rfl, Try.sizeOf3⟩
theorem fld134_0 : FieldOk Try.prog 134 0 0 22 0 := ⟨_, _, Try.runUnderlying134, rfl, rfl, rfl, Try.sizeOf22⟩
theorem fld134_2 : FieldOk Try.prog 134 2 2 132 0 := ⟨_, _, Try.runUnderlying134, rfl, rfl, rfl, Try.sizeOf132⟩
theorem pl41 : PlacesOk Try.prog 41 [(0, 1), (1, 1), (2, 1)] := ⟨_, Try.runUnderlying41, fun w => by simp [Try.sizeOf2]⟩
theorem fld41_1 : FieldOk Try.prog 41 1 1 2 0 := ⟨_, _, Try.runUnderlying41, rfl, rfl, rfl, Try.sizeOf2⟩
theorem fld41_2 : FieldOk Try.prog 41 2 2 2 0 := ⟨_, _, Try.runUnderlying41, rfl, rfl, rfl, Try.sizeOf2⟩
set_option maxRecDepth 100000 in
theorem el41 : ElemOk Try.prog 41 3 (fTrial.enc (Trial.mk 0 0 0)) := ⟨_, _, Try.type41, rfl, rfl, rfl, by decide⟩
theorem fld41_0 : FieldOk Try.prog 41 0 0 2 0 := ⟨_, _, Try.runUnderlying41, rfl, rfl, rfl, Try.sizeOf2⟩
set_option maxRecDepth 100000 in
theorem el2 : ElemOk Try.prog 2 1 (fI64.enc 0) := ⟨_, _, Try.type2, rfl, rfl, rfl, by decide⟩
set_option maxRecDepth 100000 in
open Go.RowKit Go.Lib Go.Sort Go.Proofs in
theorem sortS65_27 : SortS Try.prog 65 27 := by
  have hk : ∀ (n : Nat) (ie : TypeInfo), 2 ≤ n → ie.hasPointers = false → ie.bytes = 8 → Lib.swapperK n ie 6 = 5 := fun n ie h a b => by
    have c1 : (n == 0) = false := by rw [beq_eq_false_iff_ne]; omega
    have c2 : (n == 1) = false := by rw [beq_eq_false_iff_ne]; omega
    simp [Lib.swapperK, a, b, c1, c2]
  exact sortS_of Try.laysGt8 27 2 _ _ Try.type27 rfl (by kernel_rfl) Try.type2 6 (fun _ => by kernel_rfl) rfl Try.isAgg2 136
    (fun n h hn p c lf la lb w R hp => Any.sort_SliceStable_of_stable Try.laysGt8 27 2 _ _ Try.type27 rfl (by kernel_rfl) Try.type2 6 (fun _ => by kernel_rfl) p n c hn 136 (by rw [hk n _ h rfl rfl]; kernel_rfl) lf la lb w R hp) 132 133
    (fun p c lf la lb w R hp => Any.sort_SliceStable_of_stable Try.laysGt8 27 2 _ _ Try.type27 rfl (by kernel_rfl) Try.type2 6 (fun _ => by kernel_rfl) p 0 c (by decide) 132 (by kernel_rfl) lf la lb w R hp)
    (fun p c lf la lb w R hp => Any.sort_SliceStable_of_stable Try.laysGt8 27 2 _ _ Try.type27 rfl (by kernel_rfl) Try.type2 6 (fun _ => by kernel_rfl) p 1 c (by decide) 133 (by kernel_rfl) lf la lb w R hp)
    (fun args W => run_callFunc_extern Try.func136 (by kernel_rfl) (by kernel_rfl) (by kernel_rfl) (e := Extern.ReflectliteSwapper.swap true) (by kernel_rfl) args W)

theorem eq41 : EqOk Try.prog 41 Trial.enc Trial.beq := ⟨Try.eqGuardType41, fun x y w => by
  have hf : Try.prog.fieldsOf 41 = #[{ name := "Strokes", type := 2, offset := 0, embedded := false, tag := "", pkgPath := "", byteOffset := 0 }, { name := "Errors", type := 2, offset := 1, embedded := false, tag := "", pkgPath := "", byteOffset := 8 }, { name := "Seconds", type := 2, offset := 2, embedded := false, tag := "", pkgPath := "", byteOffset := 16 }] := by kernel_rfl
  have ht : Try.prog.underlying 41 = some (.struct (Try.prog.fieldsOf 41)) := by rw [hf]; exact Try.underlying41
  rw [run_equalIn_struct w 9999 41 _ _ ht Try.stoodInHeld41, hf]
  obtain ⟨a0, a1, a2⟩ := x
  obtain ⟨b0, b1, b2⟩ := y
  simp only [Op.eqFields, Trial.enc, Trial.beq]
  simp [part, str, Try.isAgg2, run_equalIn_int _ _ _ _ _ _ _ Try.underlying2, ByteArray.toList_eq]
  (repeat' split) <;> simp_all⟩

set_option maxRecDepth 100000 in
set_option maxHeartbeats 1000000 in
theorem ok_w_f6big {code1 : List UInt8} {r : Bool} (hm : w_f6big code1 = some r) (w : World) (v2 : Value) (hr3 : RdS w (cx w).Fz v2 fByte.rp code1) :
    Calls Try.prog 6 #[v2] w (Ret (cx w) (.bool r)) := by
  unfold w_f6big at hm
  refine Calls.enter [v2] Try.func6 rfl Try.ntmps6 rfl ?_
  refine WJ.seq ?_
  refine WJ.quiet ?_
  refine QJ.step (YldS.yld (y_assign rfl)) rfl ?_
  refine QJ.done ?_
  refine PJ.next ?_
  refine WJ.seq ?_
  refine WJ.quiet ?_
  refine QJ.step (YldS.yld (y_move rfl)) rfl ?_
  refine QJ.step (YldS.yld (y_lenS Try.runUnderlying22 hr3 rfl)) rfl ?_
  refine QJ.step (YldS.yld (y_bin rfl rfl rfl)) rfl ?_
  refine QJ.step (YldS.yld (y_assign rfl)) rfl ?_
  refine QJ.done ?_
  refine PJ.next ?_
  refine WJ.ret ?_
  obtain rfl := Option.some.inj hm
  refine PJ.sel (L' := []) [] ⟨List.nodup_nil, rfl⟩ ?_
  exact PJ.retn (vs := [.bool (decide ((List.length code1 : Int) > 4096))]) Try.results6 ⟨rfl, trivial⟩ ⟨rfl, rfl⟩

set_option maxRecDepth 100000 in
set_option maxHeartbeats 1000000 in
theorem ok_s_l00From {code1 : List UInt8} {r : L00Src} (hm : s_l00From code1 = some r) (w : World) (v2 : Value) (hr3 : RdS w (cx w).Fz v2 fByte.rp code1) :
    Calls Try.prog 68 #[v2] w (RetG (cx w) fun u L => ∃ (u1 : Nat), (u = pt u1 0 ∧ L = [box u1 134 [v2, .int .i64 r.at_, .int .u64 r.seed]])) := by
  unfold s_l00From at hm
  refine Calls.enter [v2] Try.func68 rfl Try.ntmps68 rfl ?_
  refine WJ.seq ?_
  refine WJ.quiet ?_
  refine QJ.step (YldS.yld (y_assign rfl)) rfl ?_
  refine QJ.done ?_
  refine PJ.next ?_
  refine WJ.seq ?_
  refine WJ.reg ?_
  refine SJ.q (YldS.yld (y_move rfl)) rfl ?_
  refine SJ.q (YldS.yld (y_build (parts := [(0, .tmp 3)]) (places := [(0, 1), (1, 1), (2, 1)]) (r := [v2, .int .i64 0, .int .u64 0]) pl134 Try.zeroValue134 rfl rfl (show _ = [(0, [v2])] from by simp only [List.map, RdS.cells1 hr3]) rfl)) rfl ?_
  refine SJ.box (cs := [v2, .int .i64 0, .int .u64 0]) rfl rfl rfl fun g4 => ?_
  refine SJ.q (YldS.yld (y_assign rfl)) rfl ?_
  refine SJ.nil ?_
  refine PJ.next ?_
  refine WJ.ret ?_
  obtain rfl := Option.some.inj hm
  refine PJ.sel (L' := [box g4 134 [v2, .int .i64 0, .int .u64 0]]) [0] ⟨by decide, rfl⟩ ?_
  exact PJ.retn (vs := [pt g4 0]) Try.results68 ⟨rfl, trivial⟩ ⟨_, rfl, rfl⟩

set_option maxRecDepth 100000 in
set_option maxHeartbeats 1000000 in
theorem ok_s_l00Src_next {s1 : L00Src} {g2 : Nat} {r : Int × L00Src} (hm : s_l00Src_next s1 = some r) (w : World) (S : Nat → Prop) (v3 : Value) (hr4 : RdS w (Cx.Fz ⟨w, S⟩) v3 fByte.rp s1.code) (hA : (box g2 134 [v3, .int .i64 s1.at_, .int .u64 s1.seed]).holds w S) :
    Calls Try.prog 112 #[pt g2 0] w (RetG ⟨w, S⟩ fun u L => (u = .int .i64 r.1 ∧ L = [box g2 134 [v3, .int .i64 r.2.at_, .int .u64 r.2.seed]])) := by
  unfold s_l00Src_next at hm
  refine Calls.enter1 hA [pt g2 0] Try.func112 rfl Try.ntmps112 rfl ?_
  refine WJ.seq ?_
  refine WJ.quiet ?_
  refine QJ.step (YldS.yld (y_assign rfl)) rfl ?_
  refine QJ.done ?_
  refine PJ.next ?_
  refine WJ.seq ?_
  refine WJ.quiet ?_
  refine QJ.step (YldS.yld (y_assign rfl)) rfl ?_
  refine QJ.done ?_
  refine PJ.next ?_
  obtain ⟨kj6, hk7, hm⟩ := withK_open hm
  refine WJ.join (X := Int) (fun (x : Int) => kj6 x = some r) (fun (x : Int) => [(0, pt g2 0), (3, .int .i64 x)]) (fun (x : Int) => [box g2 134 [v3, .int .i64 s1.at_, .int .u64 s1.seed]]) ?_ ?_
  · clear hk7
    refine WJ.seq ?_
    refine WJ.quiet_draw follows (by kernel_rfl) ?_
    refine QJ.step (YldS.yld (y_move rfl)) rfl ?_
    refine QJ.step (YldS.yld (y_nil rfl)) rfl ?_
    refine QJ.step (YldS.yld (y_fldB (o := 0) fld134_1 rfl)) rfl ?_
    refine QJ.step (YldS.yld (y_loadB (k := 0) (off := 1) (v := .int .i64 s1.at_) rfl Try.isAgg3 rfl rfl)) rfl ?_
    refine QJ.step (YldS.yld (y_move rfl)) rfl ?_
    refine QJ.step (YldS.yld (y_nil rfl)) rfl ?_
    refine QJ.step (YldS.yld (y_fldB (o := 0) fld134_0 rfl)) rfl ?_
    refine QJ.step (YldS.yld (y_loadB (k := 0) (off := 0) (v := v3) rfl Try.isAgg22 rfl rfl)) rfl ?_
    refine QJ.step (YldS.yld (y_lenS Try.runUnderlying22 hr4 rfl)) rfl ?_
    refine QJ.step (YldS.yld (y_bin rfl rfl rfl)) rfl ?_
    refine QJ.done ?_
    refine PJ.next ?_
    refine WJ.cond (t := decide (s1.at_ < (List.length s1.code : Int))) rfl (fun hb8 => ?_) (fun hb8 => ?_)
    · replace hm := ifT hm hb8
      refine WJ.quiet_draw follows (by kernel_rfl) ?_
      refine QJ.step (YldS.yld (y_move rfl)) rfl ?_
      refine QJ.step (YldS.yld (y_nil rfl)) rfl ?_
      refine QJ.step (YldS.yld (y_fldB (o := 0) fld134_0 rfl)) rfl ?_
      refine QJ.step (YldS.yld (y_loadB (k := 0) (off := 0) (v := v3) rfl Try.isAgg22 rfl rfl)) rfl ?_
      refine QJ.step (YldS.yld (y_move rfl)) rfl ?_
      refine QJ.step (YldS.yld (y_nil rfl)) rfl ?_
      refine QJ.step (YldS.yld (y_fldB (o := 0) fld134_1 rfl)) rfl ?_
      refine QJ.step (YldS.yld (y_loadB (k := 0) (off := 1) (v := .int .i64 s1.at_) rfl Try.isAgg3 rfl rfl)) rfl ?_
      obtain ⟨e9, h10, hm⟩ := bindS hm
      obtain ⟨ad11, _, rfl, ha12, hy13⟩ := hr4.elem h10
      refine QJ.step (YldS.yld (hy13 Try.runUnderlying22 Try.sizeOf5 rfl rfl)) rfl ?_
      refine QJ.step (YldS.yld (y_load1 (v := .int .u8 (UInt8.toNat e9 : Int)) Try.isAgg5 ha12 St.frozenC rfl)) rfl ?_
      refine QJ.step (YldS.yld (y_conv8 Try.runUnderlying5 Try.runUnderlying3 rfl)) rfl ?_
      refine QJ.step (YldS.yld (y_assign rfl)) rfl ?_
      refine QJ.done ?_
      exact PJ.joined (UInt8.toNat e9 : Int) [0] hm ⟨rfl, rfl, trivial⟩ ⟨by decide, rfl⟩
    · replace hm := ifF hm hb8
      refine WJ.skip ?_
      exact PJ.joined 0 [0] hm ⟨rfl, rfl, trivial⟩ ⟨by decide, rfl⟩
  · rintro b5 hm
    subst hk7
    refine WJ.seq ?_
    refine WJ.reg ?_
    refine SJ.q (YldS.yld (y_move rfl)) rfl ?_
    refine SJ.q (YldS.yld (y_nil rfl)) rfl ?_
    refine SJ.q (YldS.yld (y_fldB (o := 0) fld134_1 rfl)) rfl ?_
    refine SJ.q (YldS.yld (y_loadB (k := 0) (off := 1) (v := .int .i64 s1.at_) rfl Try.isAgg3 rfl rfl)) rfl ?_
    refine SJ.q (YldS.yld (y_bin rfl rfl rfl)) rfl ?_
    refine SJ.q (YldS.yld (y_nil rfl)) rfl ?_
    refine SJ.q (YldS.yld (y_fldB (o := 0) fld134_1 rfl)) rfl ?_
    refine SJ.storeL (k := 0) (off := 1) (us := [.int .i64 (w64 (s1.at_ + 1))]) rfl rfl rfl rfl Try.sizeOf3 rfl rfl ?_
    refine SJ.nil ?_
    refine PJ.next ?_
    refine WJ.seq ?_
    refine WJ.reg ?_
    refine SJ.q (YldS.yld (y_move rfl)) rfl ?_
    refine SJ.q (YldS.yld (y_move rfl)) rfl ?_
    refine SJ.q (YldS.yld (y_nil rfl)) rfl ?_
    refine SJ.q (YldS.yld (y_fldB (o := 0) fld134_2 rfl)) rfl ?_
    refine SJ.q (YldS.yld (y_loadB (k := 0) (off := 2) (v := .int .u64 s1.seed) rfl Try.isAgg132 rfl rfl)) rfl ?_
    refine SJ.q (YldS.yld (y_bin rfl rfl rfl)) rfl ?_
    refine SJ.q (YldS.yld (y_move rfl)) rfl ?_
    refine SJ.q (YldS.yld (y_convI Try.runUnderlying3 Try.runUnderlying132 rfl)) rfl ?_
    refine SJ.q (YldS.yld (y_bin rfl rfl rfl)) rfl ?_
    refine SJ.q (YldS.yld (y_bin rfl rfl rfl)) rfl ?_
    refine SJ.q (YldS.yld (y_nil rfl)) rfl ?_
    refine SJ.q (YldS.yld (y_fldB (o := 0) fld134_2 rfl)) rfl ?_
    refine SJ.storeL (k := 0) (off := 2) (us := [.int .u64 (IntKind.u64.wrap ((IntKind.u64.wrap ((IntKind.u64.wrap (s1.seed * 6364136223846793005)) + (IntKind.u64.wrap b5))) + 1442695040888963407))]) rfl rfl rfl rfl Try.sizeOf132 rfl rfl ?_
    refine SJ.nil ?_
    refine PJ.next ?_
    refine WJ.seq ?_
    refine WJ.seq ?_
    refine WJ.quiet_draw follows (by kernel_rfl) ?_
    refine QJ.step (YldS.yld (y_move rfl)) rfl ?_
    refine QJ.step (YldS.yld (y_nil rfl)) rfl ?_
    refine QJ.step (YldS.yld (y_fldB (o := 0) fld134_1 rfl)) rfl ?_
    refine QJ.step (YldS.yld (y_loadB (k := 0) (off := 1) (v := .int .i64 (w64 (s1.at_ + 1))) rfl Try.isAgg3 rfl rfl)) rfl ?_
    refine QJ.step (YldS.yld (y_move rfl)) rfl ?_
    refine QJ.step (YldS.yld (y_nil rfl)) rfl ?_
    refine QJ.step (YldS.yld (y_fldB (o := 0) fld134_0 rfl)) rfl ?_
    refine QJ.step (YldS.yld (y_loadB (k := 0) (off := 0) (v := v3) rfl Try.isAgg22 rfl rfl)) rfl ?_
    refine QJ.step (YldS.yld (y_lenS Try.runUnderlying22 hr4 rfl)) rfl ?_
    refine QJ.step (YldS.yld (y_bin rfl rfl rfl)) rfl ?_
    refine QJ.done ?_
    refine PJ.next ?_
    refine WJ.cond (t := decide ((w64 (s1.at_ + 1)) ≤ (List.length s1.code : Int))) rfl (fun hb14 => ?_) (fun hb14 => ?_)
    · replace hm := ifT hm hb14
      refine WJ.seq ?_
      refine WJ.quiet ?_
      refine QJ.step (YldS.yld (y_move rfl)) rfl ?_
      refine QJ.step (YldS.yld (y_assign rfl)) rfl ?_
      refine QJ.done ?_
      refine PJ.next ?_
      refine WJ.ret ?_
      refine PJ.then_ret ?_
      obtain rfl := Option.some.inj hm
      refine PJ.sel (L' := [box g2 134 [v3, .int .i64 (w64 (s1.at_ + 1)), .int .u64 (IntKind.u64.wrap ((IntKind.u64.wrap ((IntKind.u64.wrap (s1.seed * 6364136223846793005)) + (IntKind.u64.wrap b5))) + 1442695040888963407))]]) [0] ⟨by decide, rfl⟩ ?_
      exact PJ.retn (vs := [.int .i64 b5]) Try.results112 ⟨rfl, trivial⟩ ⟨rfl, rfl⟩
    · replace hm := ifF hm hb14
      refine WJ.skip ?_
      refine PJ.next ?_
      refine WJ.seq ?_
      refine WJ.quiet ?_
      refine QJ.step (YldS.yld (y_move rfl)) rfl ?_
      refine QJ.step (YldS.yld (y_nil rfl)) rfl ?_
      refine QJ.step (YldS.yld (y_fldB (o := 0) fld134_2 rfl)) rfl ?_
      refine QJ.step (YldS.yld (y_loadB (k := 0) (off := 2) (v := .int .u64 (IntKind.u64.wrap ((IntKind.u64.wrap ((IntKind.u64.wrap (s1.seed * 6364136223846793005)) + (IntKind.u64.wrap b5))) + 1442695040888963407))) rfl Try.isAgg132 rfl rfl)) rfl ?_
      refine QJ.step (YldS.yld (y_shru rfl rfl rfl)) rfl ?_
      refine QJ.step (YldS.yld (y_andu rfl rfl rfl)) rfl ?_
      refine QJ.step (YldS.yld (y_convI Try.runUnderlying132 Try.runUnderlying2 rfl)) rfl ?_
      refine QJ.step (YldS.yld (y_assign rfl)) rfl ?_
      refine QJ.done ?_
      refine PJ.next ?_
      refine WJ.ret ?_
      obtain rfl := Option.some.inj hm
      refine PJ.sel (L' := [box g2 134 [v3, .int .i64 (w64 (s1.at_ + 1)), .int .u64 (IntKind.u64.wrap ((IntKind.u64.wrap ((IntKind.u64.wrap (s1.seed * 6364136223846793005)) + (IntKind.u64.wrap b5))) + 1442695040888963407))]]) [0] ⟨by decide, rfl⟩ ?_
      exact PJ.retn (vs := [.int .i64 (w64 (uand (ushr (IntKind.u64.wrap ((IntKind.u64.wrap ((IntKind.u64.wrap (s1.seed * 6364136223846793005)) + (IntKind.u64.wrap b5))) + 1442695040888963407)) 40) 255))]) Try.results112 ⟨rfl, trivial⟩ ⟨rfl, rfl⟩

set_option maxRecDepth 100000 in
set_option maxHeartbeats 1000000 in
theorem ok_s_l00Src_pick {s1 : L00Src} {n5 : Int} {g2 : Nat} {r : Int × L00Src} (hm : s_l00Src_pick s1 n5 = some r) (w : World) (S : Nat → Prop) (v3 : Value) (hr4 : RdS w (Cx.Fz ⟨w, S⟩) v3 fByte.rp s1.code) (hA : (box g2 134 [v3, .int .i64 s1.at_, .int .u64 s1.seed]).holds w S) :
    Calls Try.prog 71 #[pt g2 0, .int .i64 n5] w (RetG ⟨w, S⟩ fun u L => (u = .int .i64 r.1 ∧ L = [box g2 134 [v3, .int .i64 r.2.at_, .int .u64 r.2.seed]])) := by
  unfold s_l00Src_pick at hm
  refine Calls.enter1 hA [pt g2 0, .int .i64 n5] Try.func71 rfl Try.ntmps71 rfl ?_
  refine WJ.seq ?_
  refine WJ.quiet ?_
  refine QJ.step (YldS.yld (y_assign rfl)) rfl ?_
  refine QJ.done ?_
  refine PJ.next ?_
  refine WJ.seq ?_
  refine WJ.seq ?_
  refine WJ.quiet ?_
  refine QJ.step (YldS.yld (y_move rfl)) rfl ?_
  refine QJ.step (YldS.yld (y_bin rfl rfl rfl)) rfl ?_
  refine QJ.done ?_
  refine PJ.next ?_
  refine WJ.cond (t := decide (n5 ≤ 1)) rfl (fun hb6 => ?_) (fun hb6 => ?_)
  · replace hm := ifT hm hb6
    refine WJ.seq ?_
    refine WJ.quiet ?_
    refine QJ.step (YldS.yld (y_assign rfl)) rfl ?_
    refine QJ.done ?_
    refine PJ.next ?_
    refine WJ.ret ?_
    refine PJ.then_ret ?_
    obtain rfl := Option.some.inj hm
    refine PJ.sel (L' := [box g2 134 [v3, .int .i64 s1.at_, .int .u64 s1.seed]]) [0] ⟨by decide, rfl⟩ ?_
    exact PJ.retn (vs := [.int .i64 0]) Try.results71 ⟨rfl, trivial⟩ ⟨rfl, rfl⟩
  · replace hm := ifF hm hb6
    refine WJ.skip ?_
    refine PJ.next ?_
    refine WJ.seq ?_
    refine WJ.reg ?_
    refine SJ.q (YldS.yld (y_move rfl)) rfl ?_
    obtain ⟨r7, h8, hm⟩ := bindS hm
    refine SJ.call1 (k := 0) rfl Try.call112 rfl (fun w S hw hA hO => ok_s_l00Src_next h8 w S _ (hr4.st1 hw hO) hA) rfl ?_
    rintro _ _ ⟨rfl, rfl⟩
    refine SJ.q (YldS.yld (y_assign rfl)) rfl ?_
    refine SJ.nil ?_
    refine PJ.next ?_
    obtain ⟨kj12, hk13, hm⟩ := withK_open hm
    refine WJ.join (X := Int × Int × Int) (fun (x : Int × Int × Int) => kj12 x.1 x.2.1 x.2.2 = some r) (fun (x : Int × Int × Int) => [(1, .int .i64 n5), (5, .int .i64 x.2.2)]) (fun (x : Int × Int × Int) => [box g2 134 [v3, .int .i64 x.1, .int .u64 x.2.1]]) ?_ ?_
    · clear hk13
      refine WJ.seq ?_
      refine WJ.quiet ?_
      refine QJ.step (YldS.yld (y_move rfl)) rfl ?_
      refine QJ.step (YldS.yld (y_bin rfl rfl rfl)) rfl ?_
      refine QJ.done ?_
      refine PJ.next ?_
      refine WJ.cond (t := decide (n5 > 200)) rfl (fun hb14 => ?_) (fun hb14 => ?_)
      · replace hm := ifT hm hb14
        refine WJ.reg ?_
        refine SJ.q (YldS.yld (y_move rfl)) rfl ?_
        refine SJ.q (YldS.yld (y_bin rfl rfl rfl)) rfl ?_
        refine SJ.q (YldS.yld (y_move rfl)) rfl ?_
        obtain ⟨r15, h16, hm⟩ := bindS hm
        refine SJ.call1 (k := 0) rfl Try.call112 rfl (fun w S hw hA hO => ok_s_l00Src_next h16 w S _ (hr4.st1 hw hO) hA) rfl ?_
        rintro _ _ ⟨rfl, rfl⟩
        refine SJ.q (YldS.yld (y_bin rfl rfl rfl)) rfl ?_
        refine SJ.q (YldS.yld (y_assign rfl)) rfl ?_
        refine SJ.nil ?_
        exact PJ.joined (r15.2.at_, r15.2.seed, w64 ((w64 (r7.1 * 256)) + r15.1)) [0] hm ⟨rfl, rfl, trivial⟩ ⟨by decide, rfl⟩
      · replace hm := ifF hm hb14
        refine WJ.skip ?_
        exact PJ.joined (r7.2.at_, r7.2.seed, r7.1) [0] hm ⟨rfl, rfl, trivial⟩ ⟨by decide, rfl⟩
    · rintro ⟨x9, x10, x11⟩ hm
      subst hk13
      refine WJ.seq ?_
      refine WJ.quiet ?_
      refine QJ.step (YldS.yld (y_move rfl)) rfl ?_
      refine QJ.step (YldS.yld (y_move rfl)) rfl ?_
      obtain ⟨q17, h18, hm⟩ := bindS hm
      refine QJ.step (YldS.yld (y_rem' h18 rfl rfl)) rfl ?_
      refine QJ.step (YldS.yld (y_assign rfl)) rfl ?_
      refine QJ.done ?_
      refine PJ.next ?_
      refine WJ.ret ?_
      obtain rfl := Option.some.inj hm
      refine PJ.sel (L' := [box g2 134 [v3, .int .i64 x9, .int .u64 x10]]) [0] ⟨by decide, rfl⟩ ?_
      exact PJ.retn (vs := [.int .i64 q17]) Try.results71 ⟨rfl, trivial⟩ ⟨rfl, rfl⟩

set_option maxRecDepth 100000 in
set_option maxHeartbeats 1000000 in
theorem ok_s_l00Src_one {s1 : L00Src} {n5 : Int} {g2 : Nat} {r : Bool × L00Src} (hm : s_l00Src_one s1 n5 = some r) (w : World) (S : Nat → Prop) (v3 : Value) (hr4 : RdS w (Cx.Fz ⟨w, S⟩) v3 fByte.rp s1.code) (hA : (box g2 134 [v3, .int .i64 s1.at_, .int .u64 s1.seed]).holds w S) :
    Calls Try.prog 70 #[pt g2 0, .int .i64 n5] w (RetG ⟨w, S⟩ fun u L => (u = .bool r.1 ∧ L = [box g2 134 [v3, .int .i64 r.2.at_, .int .u64 r.2.seed]])) := by
  unfold s_l00Src_one at hm
  refine Calls.enter1 hA [pt g2 0, .int .i64 n5] Try.func70 rfl Try.ntmps70 rfl ?_
  refine WJ.seq ?_
  refine WJ.quiet ?_
  refine QJ.step (YldS.yld (y_assign rfl)) rfl ?_
  refine QJ.done ?_
  refine PJ.next ?_
  refine WJ.seq ?_
  refine WJ.reg ?_
  refine SJ.q (YldS.yld (y_move rfl)) rfl ?_
  refine SJ.q (YldS.yld (y_move rfl)) rfl ?_
  obtain ⟨r6, h7, hm⟩ := bindS hm
  refine SJ.call1 (k := 0) rfl Try.call71 rfl (fun w S hw hA hO => ok_s_l00Src_pick h7 w S _ (hr4.st1 hw hO) hA) rfl ?_
  rintro _ _ ⟨rfl, rfl⟩
  refine SJ.q (YldS.yld (y_bin rfl rfl rfl)) rfl ?_
  refine SJ.q (YldS.yld (y_assign rfl)) rfl ?_
  refine SJ.nil ?_
  refine PJ.next ?_
  refine WJ.ret ?_
  obtain rfl := Option.some.inj hm
  refine PJ.sel (L' := [box g2 134 [v3, .int .i64 r6.2.at_, .int .u64 r6.2.seed]]) [0] ⟨by decide, rfl⟩ ?_
  exact PJ.retn (vs := [.bool (r6.1 == 0)]) Try.results70 ⟨rfl, trivial⟩ ⟨rfl, rfl⟩

set_option maxRecDepth 100000 in
set_option maxHeartbeats 1000000 in
theorem ok_s_l20New {s1 : L00Src} {g2 : Nat} {r : Trial × L00Src} (hm : s_l20New s1 = some r) (w : World) (S : Nat → Prop) (v3 : Value) (hr4 : RdS w (Cx.Fz ⟨w, S⟩) v3 fByte.rp s1.code) (hA : (box g2 134 [v3, .int .i64 s1.at_, .int .u64 s1.seed]).holds w S) :
    Calls Try.prog 110 #[pt g2 0] w (RetG ⟨w, S⟩ fun u L => (u = .agg (Trial.enc r.1).toArray ∧ L = [box g2 134 [v3, .int .i64 r.2.at_, .int .u64 r.2.seed]])) := by
  unfold s_l20New at hm
  refine Calls.enter1 hA [pt g2 0] Try.func110 rfl Try.ntmps110 rfl ?_
  refine WJ.seq ?_
  refine WJ.reg ?_
  refine SJ.alloc (cs := [.int .i64 0, .int .i64 0, .int .i64 0]) Try.zeroValue41 rfl rfl fun g5 => ?_
  refine SJ.nil ?_
  refine PJ.next ?_
  refine WJ.seq ?_
  refine WJ.reg ?_
  refine SJ.q (YldS.yld (y_move rfl)) rfl ?_
  obtain ⟨r6, h7, hm⟩ := bindS hm
  refine SJ.call1 (k := 1) rfl Try.call71 rfl (fun w S hw hA hO => ok_s_l00Src_pick h7 w S _ (hr4.st1 hw hO) hA) rfl ?_
  rintro _ _ ⟨rfl, rfl⟩
  refine SJ.q (YldS.yld (y_bin rfl rfl rfl)) rfl ?_
  refine SJ.q (YldS.yld (y_bin rfl rfl rfl)) rfl ?_
  refine SJ.q (YldS.yld (y_build (parts := [(0, .tmp 7)]) (places := [(0, 1), (1, 1), (2, 1)]) (r := [.int .i64 ((Trial.mk (w64 (100 + (w64 (10 * r6.1)))) 0 0).strokes), .int .i64 ((Trial.mk (w64 (100 + (w64 (10 * r6.1)))) 0 0).errors), .int .i64 ((Trial.mk (w64 (100 + (w64 (10 * r6.1)))) 0 0).seconds)]) pl41 Try.zeroValue41 rfl rfl rfl rfl)) rfl ?_
  refine SJ.alloc (cs := [.int .i64 0, .int .i64 0, .int .i64 0]) Try.zeroValue41 rfl rfl fun g8 => ?_
  refine SJ.storeL (k := 0) (off := 0) (us := [.int .i64 ((Trial.mk (w64 (100 + (w64 (10 * r6.1)))) 0 0).strokes), .int .i64 ((Trial.mk (w64 (100 + (w64 (10 * r6.1)))) 0 0).errors), .int .i64 ((Trial.mk (w64 (100 + (w64 (10 * r6.1)))) 0 0).seconds)]) rfl rfl rfl rfl Try.sizeOf41 rfl rfl ?_
  refine SJ.nil ?_
  refine PJ.next ?_
  refine WJ.seq ?_
  refine WJ.reg ?_
  refine SJ.q (YldS.yld (y_move rfl)) rfl ?_
  obtain ⟨r9, h10, hm⟩ := bindS hm
  refine SJ.call1 (k := 1) rfl Try.call71 rfl (fun w S hw hA hO => ok_s_l00Src_pick h10 w S _ (hr4.st1 hw hO) hA) rfl ?_
  rintro _ _ ⟨rfl, rfl⟩
  refine SJ.q (YldS.yld (y_fldB (o := 0) fld41_1 rfl)) rfl ?_
  refine SJ.storeL (k := 1) (off := 1) (us := [.int .i64 r9.1]) rfl rfl rfl rfl Try.sizeOf2 rfl rfl ?_
  refine SJ.nil ?_
  refine PJ.next ?_
  refine WJ.seq ?_
  refine WJ.reg ?_
  refine SJ.q (YldS.yld (y_move rfl)) rfl ?_
  obtain ⟨r11, h12, hm⟩ := bindS hm
  refine SJ.call1 (k := 0) rfl Try.call71 rfl (fun w S hw hA hO => ok_s_l00Src_pick h12 w S _ (hr4.st1 hw hO) hA) rfl ?_
  rintro _ _ ⟨rfl, rfl⟩
  refine SJ.q (YldS.yld (y_bin rfl rfl rfl)) rfl ?_
  refine SJ.q (YldS.yld (y_bin rfl rfl rfl)) rfl ?_
  refine SJ.q (YldS.yld (y_fldB (o := 0) fld41_2 rfl)) rfl ?_
  refine SJ.storeL (k := 1) (off := 2) (us := [.int .i64 (w64 (30 * (w64 (1 + r11.1))))]) rfl rfl rfl rfl Try.sizeOf2 rfl rfl ?_
  refine SJ.nil ?_
  refine PJ.next ?_
  refine WJ.seq ?_
  refine WJ.reg ?_
  refine SJ.q (YldS.yld (y_loadBN (k := 1) (off := 0) (us := [.int .i64 ((Trial.mk (w64 (100 + (w64 (10 * r6.1)))) 0 0).strokes), .int .i64 r9.1, .int .i64 (w64 (30 * (w64 (1 + r11.1))))]) rfl Try.isAgg41 Try.sizeOf41 rfl rfl)) rfl ?_
  refine SJ.storeL (k := 2) (off := 0) (us := [.int .i64 ((Trial.mk (w64 (100 + (w64 (10 * r6.1)))) 0 0).strokes), .int .i64 r9.1, .int .i64 (w64 (30 * (w64 (1 + r11.1))))]) rfl rfl rfl rfl Try.sizeOf41 rfl rfl ?_
  refine SJ.nil ?_
  refine PJ.next ?_
  refine WJ.ret ?_
  obtain rfl := Option.some.inj hm
  exact PJ.retn_sel (vs := [.agg #[.int .i64 ((Trial.mk (w64 (100 + (w64 (10 * r6.1)))) 0 0).strokes), .int .i64 r9.1, .int .i64 (w64 (30 * (w64 (1 + r11.1))))]]) Try.results110 ⟨⟨2, g5, 41, [.int .i64 ((Trial.mk (w64 (100 + (w64 (10 * r6.1)))) 0 0).strokes), .int .i64 r9.1, .int .i64 (w64 (30 * (w64 (1 + r11.1))))], rfl, rfl, .inl ⟨Try.isAgg41, Try.sizeOf41, rfl⟩⟩, trivial⟩ [0] ⟨by decide, rfl⟩ ⟨rfl, rfl⟩

set_option maxRecDepth 100000 in
set_option maxHeartbeats 1000000 in
theorem ok_s_l00Src_among {s1 : L00Src} {list5 : List Int} {g2 : Nat} {r : Int × L00Src} (hm : s_l00Src_among s1 list5 = some r) (w : World) (S : Nat → Prop) (v3 : Value) (hr4 : RdS w (Cx.Fz ⟨w, S⟩) v3 fByte.rp s1.code) (v6 : Value) (hr7 : RdS w (Cx.Fz ⟨w, S⟩) v6 fI64.rp list5) (hA : (box g2 134 [v3, .int .i64 s1.at_, .int .u64 s1.seed]).holds w S) :
    Calls Try.prog 129 #[pt g2 0, v6] w (RetG ⟨w, S⟩ fun u L => (u = .int .i64 r.1 ∧ L = [box g2 134 [v3, .int .i64 r.2.at_, .int .u64 r.2.seed]])) := by
  unfold s_l00Src_among at hm
  refine Calls.enter1 hA [pt g2 0, v6] Try.func129 rfl Try.ntmps129 rfl ?_
  refine WJ.seq ?_
  refine WJ.quiet ?_
  refine QJ.step (YldS.yld (y_assign rfl)) rfl ?_
  refine QJ.done ?_
  refine PJ.next ?_
  refine WJ.seq ?_
  refine WJ.reg ?_
  refine SJ.q (YldS.yld (y_move rfl)) rfl ?_
  refine SJ.q (YldS.yld (y_move rfl)) rfl ?_
  refine SJ.q (YldS.yld (y_move rfl)) rfl ?_
  refine SJ.q (YldS.yld (y_lenS Try.runUnderlying27 hr7 rfl)) rfl ?_
  obtain ⟨r8, h9, hm⟩ := bindS hm
  refine SJ.call1 (k := 0) rfl Try.call71 rfl (fun w S hw hA hO => ok_s_l00Src_pick h9 w S _ (hr4.st1 hw hO) hA) rfl ?_
  rintro _ _ ⟨rfl, rfl⟩
  obtain ⟨e10, h11, hm⟩ := bindS hm
  obtain ⟨ad12, _, rfl, ha13, hy14⟩ := hr7.elem h11
  refine SJ.q (YldS.yld (hy14 Try.runUnderlying27 Try.sizeOf2 rfl rfl)) rfl ?_
  refine SJ.q (YldS.yld (y_load1 (v := .int .i64 e10) Try.isAgg2 ha13 St.frozenC rfl)) rfl ?_
  refine SJ.q (YldS.yld (y_assign rfl)) rfl ?_
  refine SJ.nil ?_
  refine PJ.next ?_
  refine WJ.ret ?_
  obtain rfl := Option.some.inj hm
  refine PJ.sel (L' := [box g2 134 [v3, .int .i64 r8.2.at_, .int .u64 r8.2.seed]]) [0] ⟨by decide, rfl⟩ ?_
  exact PJ.retn (vs := [.int .i64 e10]) Try.results129 ⟨rfl, trivial⟩ ⟨rfl, rfl⟩

set_option maxRecDepth 100000 in
set_option maxHeartbeats 1000000 in
theorem ok_s_l20SpoilE {s1 : L00Src} {x5 : List Trial} {k6 : Nat} {x7 : Trial} {g2 : Nat} {v8 : Value} {r : L00Src × (List Trial)} (hm : s_l20SpoilE s1 x5 k6 x7 = some r) (w : World) (S : Nat → Prop) (v3 : Value) (hr4 : RdS w (Cx.Fz ⟨w, S⟩) v3 fByte.rp s1.code) (hx9 : x5[k6]? = some x7) (hA : (star (box g2 134 [v3, .int .i64 s1.at_, .int .u64 s1.seed]) (row v8 41 fTrial x5)).holds w S) :
    Calls Try.prog 111 #[pt g2 0, rowAt v8 (k6 * fTrial.size + 0)] w (RetG ⟨w, S⟩ fun u L => (u = tup [] ∧ L = [star (box g2 134 [v3, .int .i64 r.1.at_, .int .u64 r.1.seed]) (row v8 41 fTrial r.2)])) := by
  unfold s_l20SpoilE at hm
  refine Calls.enter1 hA [pt g2 0, rowAt v8 (k6 * fTrial.size + 0)] Try.func111 rfl Try.ntmps111 rfl ?_
  refine WJ.unstar ?_
  refine WJ.seq ?_
  refine WJ.reg ?_
  refine SJ.q (YldS.yld (y_move rfl)) rfl ?_
  obtain ⟨r10, h11, hm⟩ := bindS hm
  refine SJ.call1 (k := 0) rfl Try.call71 rfl (fun w S hw hA hO => ok_s_l00Src_pick h11 w S _ (hr4.st1 hw hO) hA) rfl ?_
  rintro _ _ ⟨rfl, rfl⟩
  refine SJ.nil ?_
  refine PJ.next ?_
  refine WJ.block ?_
  refine WJ.seq ?_
  refine WJ.quiet ?_
  refine QJ.step (YldS.yld (y_bin rfl rfl rfl)) rfl ?_
  refine QJ.step (YldS.yld (y_assign rfl)) rfl ?_
  refine QJ.done ?_
  refine PJ.next ?_
  refine WJ.cond (t := (r10.1 == 0)) rfl (fun hb12 => ?_) (fun hb12 => ?_)
  · replace hm := ifT hm hb12
    refine WJ.reg ?_
    refine SJ.q (YldS.yld (y_move rfl)) rfl ?_
    refine SJ.q (YldS.yld (y_move rfl)) rfl ?_
    refine SJ.buildSlice (R := fI64) (os := [.const (.int .i64 (-1)), .const (.int .i64 0), .const (.int .i64 100000), .const (.int .i64 100001)]) [(-1), 0, 100000, 100001] Try.runUnderlying27 Try.sizeOf2 Try.zeroValue2 rfl rfl rfl rfl rfl rfl fun v13 => ?_
    obtain ⟨r14, h15, hm⟩ := bindS hm
    refine SJ.call2 (k := 1) rfl Try.call129 rfl (fun w S hw hA hO hB => ok_s_l00Src_among h15 w S _ (hr4.st1 hw hO) _ (hB.row_rd (j := 0) (k := 1) rfl rfl) hA) rfl ?_
    rintro _ _ ⟨rfl, rfl⟩
    refine SJ.q (YldS.yld (y_nil rfl)) rfl ?_
    refine SJ.q (YldS.yld (y_fldR fld41_0 rfl)) rfl ?_
    refine SJ.storeRL (k := 2) (i := k6) (off := 0) (us := [.int .i64 r14.1]) (b := (Trial.mk r14.1 x7.errors x7.seconds)) rfl rfl hx9 rfl rfl Try.sizeOf2 rfl rfl rfl ?_
    refine SJ.nil ?_
    refine PJ.block_normal (PJ.fin ?_)
    obtain rfl := Option.some.inj hm
    refine PJ.sel (L' := [box g2 134 [v3, .int .i64 r14.2.at_, .int .u64 r14.2.seed], row v8 41 fTrial (List.set x5 k6 (Trial.mk r14.1 x7.errors x7.seconds))]) [0, 2] ⟨by decide, rfl⟩ ?_
    refine PJ.star ?_
    exact PJ.retn (vs := []) Try.results111 trivial ⟨rfl, rfl⟩
  · replace hm := ifF hm hb12
    refine WJ.seq ?_
    refine WJ.quiet ?_
    refine QJ.step (YldS.yld (y_bin rfl rfl rfl)) rfl ?_
    refine QJ.step (YldS.yld (y_assign rfl)) rfl ?_
    refine QJ.done ?_
    refine PJ.next ?_
    refine WJ.cond (t := (r10.1 == 1)) rfl (fun hb16 => ?_) (fun hb16 => ?_)
    · replace hm := ifT hm hb16
      obtain ⟨r18, h19, hm⟩ := bindS hm
      refine WJ.draws (N := 16) (listed0 := #[false, false, false, false, false, false, false, false, false, false, false, false, false, false, false, false]) [] follows rfl rfl ?_
      refine RJ.first 0 (listed' := #[true, false, false, false, false, false, false, false, false, false, false, false, false, false, false, false]) [] rfl (by kernel_rfl) rfl ⟨List.nodup_nil, rfl⟩ (y_move rfl) rfl ?_
      refine RJ.first 1 (listed' := #[true, true, false, false, false, false, false, false, false, false, false, false, false, false, false, false]) [] rfl (by kernel_rfl) rfl ⟨List.nodup_nil, rfl⟩ (y_move rfl) rfl ?_
      refine RJ.first 2 (listed' := #[true, true, true, false, false, false, false, false, false, false, false, false, false, false, false, false]) [] rfl (by kernel_rfl) rfl ⟨List.nodup_nil, rfl⟩ (y_move rfl) rfl ?_
      refine RJ.first 3 (listed' := #[true, true, true, true, false, false, false, false, false, false, false, false, false, false, false, false]) [] rfl (by kernel_rfl) rfl ⟨List.nodup_nil, rfl⟩ (y_nil rfl) rfl ?_
      refine RJ.first 4 (listed' := #[true, true, true, true, true, false, false, false, false, false, false, false, false, false, false, false]) [] rfl (by kernel_rfl) rfl ⟨List.nodup_nil, rfl⟩ (y_fldR fld41_0 rfl) rfl ?_
      refine RJ.first 6 (listed' := #[true, true, true, true, true, false, true, false, false, false, false, false, false, false, false, false]) [] rfl (by kernel_rfl) rfl ⟨List.nodup_nil, rfl⟩ (y_move rfl) rfl ?_
      refine RJ.first 7 (listed' := #[true, true, true, true, true, false, true, true, false, false, false, false, false, false, false, false]) [] rfl (by kernel_rfl) rfl ⟨List.nodup_nil, rfl⟩ (y_nil rfl) rfl ?_
      refine RJ.first 8 (listed' := #[true, true, true, true, true, false, true, true, true, false, false, false, false, false, false, false]) [] rfl (by kernel_rfl) rfl ⟨List.nodup_nil, rfl⟩ (y_fldR fld41_0 rfl) rfl ?_
      refine RJ.hold (X := Unit) 5 #[true, true, true, true, true, true, true, true, true, true, true, false, false, false, false, false] (fun (_ : Unit) => [(16, rowAt v8 (k6 * fTrial.size + 0)), (17, pt g2 0), (21, .int .i64 x7.strokes), (26, .int .i64 (w64 (x7.strokes + 1)))]) (fun (_ : Unit) => [box g2 134 [v3, .int .i64 r10.2.at_, .int .u64 r10.2.seed], row v8 41 fTrial x5]) ?_ ?_
      · rintro _
        refine RJ.step1 11 [] (by kernel_rfl) ⟨List.nodup_nil, rfl⟩ ?_
        refine RO.of (listed' := #[true, true, true, true, true, true, true, true, true, true, true, true, false, false, false, false]) rfl rfl ?_
        refine SJ.buildSlice (R := fI64) (os := [.const (.int .i64 (-1)), .tmp 21, .tmp 26, .const (.int .i64 (-9223372036854775808))]) [(-1), x7.strokes, w64 (x7.strokes + 1), (-9223372036854775808)] Try.runUnderlying27 Try.sizeOf2 Try.zeroValue2 rfl rfl rfl rfl rfl rfl fun v17 => ?_
        refine SJ.nil ?_
        refine PJ.draw ?_
        refine RJ.step1 12 [] (by kernel_rfl) ⟨List.nodup_nil, rfl⟩ ?_
        refine RO.of (listed' := #[true, true, true, true, true, true, true, true, true, true, true, true, true, false, false, false]) rfl rfl ?_
        refine SJ.call2 (k := 1) rfl Try.call129 rfl (fun w S hw hA hO hB => ok_s_l00Src_among h19 w S _ (hr4.st1 hw hO) _ (hB.row_rd (j := 0) (k := 1) rfl rfl) hA) rfl ?_
        rintro _ _ ⟨rfl, rfl⟩
        refine SJ.nil ?_
        refine PJ.draw ?_
        refine RJ.first 13 (listed' := #[true, true, true, true, true, true, true, true, true, true, true, true, true, true, false, false]) [] rfl (by kernel_rfl) rfl ⟨List.nodup_nil, rfl⟩ (y_nil rfl) rfl ?_
        refine RJ.first 14 (listed' := #[true, true, true, true, true, true, true, true, true, true, true, true, true, true, true, false]) [] rfl (by kernel_rfl) rfl ⟨List.nodup_nil, rfl⟩ (y_fldR fld41_1 rfl) rfl ?_
        refine RJ.step1 15 [] (by kernel_rfl) ⟨List.nodup_nil, rfl⟩ ?_
        refine RO.of (listed' := #[true, true, true, true, true, true, true, true, true, true, true, true, true, true, true, true]) rfl rfl ?_
        refine SJ.storeRL (k := 2) (i := k6) (off := 1) (us := [.int .i64 r18.1]) (b := (Trial.mk x7.strokes r18.1 x7.seconds)) rfl rfl hx9 rfl rfl Try.sizeOf2 rfl rfl rfl ?_
        refine SJ.nil ?_
        refine PJ.draw ?_
        refine RJ.fin [] (by kernel_rfl) ⟨List.nodup_nil, rfl⟩ ?_
        refine PJ.block_normal (PJ.fin ?_)
        obtain rfl := Option.some.inj hm
        refine PJ.sel (L' := [box g2 134 [v3, .int .i64 r18.2.at_, .int .u64 r18.2.seed], row v8 41 fTrial (List.set x5 k6 (Trial.mk x7.strokes r18.1 x7.seconds))]) [0, 2] ⟨by decide, rfl⟩ ?_
        refine PJ.star ?_
        exact PJ.retn (vs := []) Try.results111 trivial ⟨rfl, rfl⟩
      · intro hD20
        refine RJ.step2 5 9 [] (by kernel_rfl) ⟨List.nodup_nil, rfl⟩ ?_ ?_
        · refine RO.of (listed' := #[true, true, true, true, true, true, true, true, true, false, false, false, false, false, false, false]) rfl rfl ?_
          refine SJ.q (YldS.yld (y_loadR (k := 1) (i := k6) (off := 0) (u := .int .i64 x7.strokes) rfl Try.isAgg2 rfl hx9 rfl)) rfl ?_
          refine SJ.nil ?_
          refine PJ.draw ?_
          refine RJ.step1 9 [] (by kernel_rfl) ⟨List.nodup_nil, rfl⟩ ?_
          refine RO.of (listed' := #[true, true, true, true, true, true, true, true, true, true, false, false, false, false, false, false]) rfl rfl ?_
          refine SJ.q (YldS.yld (y_loadR (k := 1) (i := k6) (off := 0) (u := .int .i64 x7.strokes) rfl Try.isAgg2 rfl hx9 rfl)) rfl ?_
          refine SJ.nil ?_
          refine PJ.draw ?_
          refine RJ.first 10 (listed' := #[true, true, true, true, true, true, true, true, true, true, true, false, false, false, false, false]) [] rfl (by kernel_rfl) rfl ⟨List.nodup_nil, rfl⟩ (y_bin rfl rfl rfl) rfl ?_
          exact RJ.weak (hD20 ()) [0, 1] ⟨rfl, rfl, rfl, rfl, trivial⟩ ⟨by decide, rfl⟩
        · refine RO.of (listed' := #[true, true, true, true, true, false, true, true, true, true, false, false, false, false, false, false]) rfl rfl ?_
          refine SJ.q (YldS.yld (y_loadR (k := 1) (i := k6) (off := 0) (u := .int .i64 x7.strokes) rfl Try.isAgg2 rfl hx9 rfl)) rfl ?_
          refine SJ.nil ?_
          refine PJ.draw ?_
          refine RJ.first 10 (listed' := #[true, true, true, true, true, false, true, true, true, true, true, false, false, false, false, false]) [] rfl (by kernel_rfl) rfl ⟨List.nodup_nil, rfl⟩ (y_bin rfl rfl rfl) rfl ?_
          refine RJ.step1 5 [] (by kernel_rfl) ⟨List.nodup_nil, rfl⟩ ?_
          refine RO.of (listed' := #[true, true, true, true, true, true, true, true, true, true, true, false, false, false, false, false]) rfl rfl ?_
          refine SJ.q (YldS.yld (y_loadR (k := 1) (i := k6) (off := 0) (u := .int .i64 x7.strokes) rfl Try.isAgg2 rfl hx9 rfl)) rfl ?_
          refine SJ.nil ?_
          refine PJ.draw ?_
          exact RJ.weak (hD20 ()) [0, 1] ⟨rfl, rfl, rfl, rfl, trivial⟩ ⟨by decide, rfl⟩
    · replace hm := ifF hm hb16
      refine WJ.seq ?_
      refine WJ.quiet ?_
      refine QJ.step (YldS.yld (y_bin rfl rfl rfl)) rfl ?_
      refine QJ.step (YldS.yld (y_assign rfl)) rfl ?_
      refine QJ.done ?_
      refine PJ.next ?_
      refine WJ.cond (t := (r10.1 == 2)) rfl (fun hb21 => ?_) (fun hb21 => ?_)
      · replace hm := ifT hm hb21
        refine WJ.reg ?_
        refine SJ.q (YldS.yld (y_move rfl)) rfl ?_
        refine SJ.q (YldS.yld (y_move rfl)) rfl ?_
        refine SJ.buildSlice (R := fI64) (os := [.const (.int .i64 0), .const (.int .i64 1), .const (.int .i64 7200), .const (.int .i64 7201)]) [0, 1, 7200, 7201] Try.runUnderlying27 Try.sizeOf2 Try.zeroValue2 rfl rfl rfl rfl rfl rfl fun v22 => ?_
        obtain ⟨r23, h24, hm⟩ := bindS hm
        refine SJ.call2 (k := 1) rfl Try.call129 rfl (fun w S hw hA hO hB => ok_s_l00Src_among h24 w S _ (hr4.st1 hw hO) _ (hB.row_rd (j := 0) (k := 1) rfl rfl) hA) rfl ?_
        rintro _ _ ⟨rfl, rfl⟩
        refine SJ.q (YldS.yld (y_nil rfl)) rfl ?_
        refine SJ.q (YldS.yld (y_fldR fld41_2 rfl)) rfl ?_
        refine SJ.storeRL (k := 2) (i := k6) (off := 2) (us := [.int .i64 r23.1]) (b := (Trial.mk x7.strokes x7.errors r23.1)) rfl rfl hx9 rfl rfl Try.sizeOf2 rfl rfl rfl ?_
        refine SJ.nil ?_
        refine PJ.block_normal (PJ.fin ?_)
        obtain rfl := Option.some.inj hm
        refine PJ.sel (L' := [box g2 134 [v3, .int .i64 r23.2.at_, .int .u64 r23.2.seed], row v8 41 fTrial (List.set x5 k6 (Trial.mk x7.strokes x7.errors r23.1))]) [0, 2] ⟨by decide, rfl⟩ ?_
        refine PJ.star ?_
        exact PJ.retn (vs := []) Try.results111 trivial ⟨rfl, rfl⟩
      · replace hm := ifF hm hb21
        refine WJ.skip ?_
        refine PJ.block_normal (PJ.fin ?_)
        obtain rfl := Option.some.inj hm
        refine PJ.sel (L' := [box g2 134 [v3, .int .i64 r10.2.at_, .int .u64 r10.2.seed], row v8 41 fTrial x5]) [0, 1] ⟨by decide, rfl⟩ ?_
        refine PJ.star ?_
        exact PJ.retn (vs := []) Try.results111 trivial ⟨rfl, rfl⟩

set_option maxRecDepth 100000 in
set_option maxHeartbeats 1000000 in
theorem ok_s_l20Draw {N : Nat} {s1 : L00Src} {g2 : Nat} {r : (List Trial) × L00Src} (hm : s_l20Draw N s1 = some r) (w : World) (S : Nat → Prop) (v3 : Value) (hr4 : RdS w (Cx.Fz ⟨w, S⟩) v3 fByte.rp s1.code) (hA : (box g2 134 [v3, .int .i64 s1.at_, .int .u64 s1.seed]).holds w S) :
    Calls Try.prog 69 #[pt g2 0] w (RetG ⟨w, S⟩ fun u L => ∃ (u1 : Value), (u = u1 ∧ L = [box g2 134 [v3, .int .i64 r.2.at_, .int .u64 r.2.seed], row u1 41 fTrial r.1])) := by
  unfold s_l20Draw at hm
  refine Calls.enter1 hA [pt g2 0] Try.func69 rfl Try.ntmps69 rfl ?_
  refine WJ.seq ?_
  refine WJ.quiet ?_
  refine QJ.step (YldS.yld (y_assign rfl)) rfl ?_
  refine QJ.done ?_
  refine PJ.next ?_
  refine WJ.seq ?_
  refine WJ.reg ?_
  refine SJ.buildSlice (R := fTrial) (os := []) [] Try.runUnderlying24 Try.sizeOf41 Try.zeroValue41 rfl rfl rfl rfl rfl rfl fun v5 => ?_
  refine SJ.q (YldS.yld (y_assign rfl)) rfl ?_
  refine SJ.nil ?_
  refine PJ.next ?_
  refine WJ.seq ?_
  refine WJ.reg ?_
  refine SJ.q (YldS.yld (y_move rfl)) rfl ?_
  obtain ⟨r6, h7, hm⟩ := bindS hm
  refine SJ.call1 (k := 1) rfl Try.call71 rfl (fun w S hw hA hO => ok_s_l00Src_pick h7 w S _ (hr4.st1 hw hO) hA) rfl ?_
  rintro _ _ ⟨rfl, rfl⟩
  refine SJ.q (YldS.yld (y_assign rfl)) rfl ?_
  refine SJ.nil ?_
  refine PJ.next ?_
  obtain ⟨kj11, hk12, hm⟩ := withK_open hm
  refine WJ.join (X := Int × Int × Int) (fun (x : Int × Int × Int) => kj11 x.1 x.2.1 x.2.2 = some r) (fun (x : Int × Int × Int) => [(0, pt g2 0), (3, v5), (4, .int .i64 x.2.2)]) (fun (x : Int × Int × Int) => [box g2 134 [v3, .int .i64 x.1, .int .u64 x.2.1], row v5 41 fTrial []]) ?_ ?_
  · clear hk12
    refine WJ.seq ?_
    refine WJ.reg ?_
    refine SJ.q (YldS.yld (y_move rfl)) rfl ?_
    obtain ⟨r13, h14, hm⟩ := bindS hm
    refine SJ.call1 (k := 0) rfl Try.call70 rfl (fun w S hw hA hO => ok_s_l00Src_one h14 w S _ (hr4.st1 hw hO) hA) rfl ?_
    rintro _ _ ⟨rfl, rfl⟩
    refine SJ.nil ?_
    refine PJ.next ?_
    refine WJ.cond (t := r13.1) rfl (fun hb15 => ?_) (fun hb15 => ?_)
    · replace hm := ifT hm hb15
      refine WJ.reg ?_
      refine SJ.q (YldS.yld (y_move rfl)) rfl ?_
      obtain ⟨r16, h17, hm⟩ := bindS hm
      refine SJ.call1 (k := 0) rfl Try.call71 rfl (fun w S hw hA hO => ok_s_l00Src_pick h17 w S _ (hr4.st1 hw hO) hA) rfl ?_
      rintro _ _ ⟨rfl, rfl⟩
      refine SJ.q (YldS.yld (y_bin rfl rfl rfl)) rfl ?_
      refine SJ.q (YldS.yld (y_assign rfl)) rfl ?_
      refine SJ.nil ?_
      exact PJ.joined (r16.2.at_, r16.2.seed, w64 (40 + r16.1)) [0, 1] hm ⟨rfl, rfl, rfl, trivial⟩ ⟨by decide, rfl⟩
    · replace hm := ifF hm hb15
      refine WJ.skip ?_
      exact PJ.joined (r13.2.at_, r13.2.seed, r6.1) [0, 1] hm ⟨rfl, rfl, rfl, trivial⟩ ⟨by decide, rfl⟩
  · rintro ⟨x8, x9, n10⟩ hm
    subst hk12
    obtain ⟨kj22, hk23, hm⟩ := withK_open hm
    refine WJ.join (X := Int × Int × (List Trial) × Value) (fun (x : Int × Int × (List Trial) × Value) => kj22 x.1 x.2.1 x.2.2.1 = some r) (fun (x : Int × Int × (List Trial) × Value) => [(0, pt g2 0), (3, x.2.2.2), (4, .int .i64 n10)]) (fun (x : Int × Int × (List Trial) × Value) => [box g2 134 [v3, .int .i64 x.1, .int .u64 x.2.1], row x.2.2.2 41 fTrial x.2.2.1]) ?_ ?_
    · clear hk23
      refine WJ.seq ?_
      refine WJ.quiet ?_
      refine QJ.step (YldS.yld (y_move rfl)) rfl ?_
      refine QJ.step (YldS.yld (y_assign rfl)) rfl ?_
      refine QJ.done ?_
      refine PJ.next ?_
      refine WJ.block ?_
      refine WJ.sel (L' := (fun (x : Int × Int × (List Trial) × Value × Int) => [box g2 134 [v3, .int .i64 x.1, .int .u64 x.2.1], row x.2.2.2.1 41 fTrial x.2.2.1]) (x8, x9, [], v5, n10)) [0, 1] ⟨by decide, rfl⟩ ?_
      refine WJ.sub (m' := (fun (x : Int × Int × (List Trial) × Value × Int) => [(0, pt g2 0), (3, x.2.2.2.1), (4, .int .i64 n10), (5, .int .i64 x.2.2.2.2)]) (x8, x9, [], v5, n10)) ⟨rfl, rfl, rfl, rfl, trivial⟩ ?_
      refine WJ.loop (X := Int × Int × (List Trial) × Value × Int) (fun N (x : Int × Int × (List Trial) × Value × Int) => s_l20Draw_l1 kj22 s1 N x.1 x.2.1 x.2.2.1 x.2.2.2.2 = some r) (fun (x : Int × Int × (List Trial) × Value × Int) => [(0, pt g2 0), (3, x.2.2.2.1), (4, .int .i64 n10), (5, .int .i64 x.2.2.2.2)]) (fun (x : Int × Int × (List Trial) × Value × Int) => [box g2 134 [v3, .int .i64 x.1, .int .u64 x.2.1], row x.2.2.2.1 41 fTrial x.2.2.1]) ?_ N (x8, x9, [], v5, n10) hm
      · rintro N ⟨x24, x25, l26, v27, k28⟩ hI
        have hm := hI; clear hI
        cases N with
        | zero => cases hm
        | succ N =>
        unfold s_l20Draw_l1 at hm
        refine WJ.seq ?_
        refine WJ.seq ?_
        refine WJ.quiet ?_
        refine QJ.step (YldS.yld (y_move rfl)) rfl ?_
        refine QJ.step (YldS.yld (y_bin rfl rfl rfl)) rfl ?_
        refine QJ.done ?_
        refine PJ.next ?_
        refine WJ.cond (t := decide (k28 > 0)) rfl (fun hb29 => ?_) (fun hb29 => ?_)
        · replace hm := ifT hm hb29
          refine WJ.skip ?_
          refine PJ.next ?_
          refine WJ.seq ?_
          refine WJ.block ?_
          refine WJ.reg ?_
          refine SJ.q (YldS.yld (y_move rfl)) rfl ?_
          refine SJ.q (YldS.yld (y_move rfl)) rfl ?_
          obtain ⟨r30, h31, hm⟩ := bindS hm
          refine SJ.call1 (k := 0) rfl Try.call110 rfl (fun w S hw hA hO => ok_s_l20New h31 w S _ (hr4.st1 hw hO) hA) rfl ?_
          rintro _ _ ⟨rfl, rfl⟩
          refine SJ.buildSlice (R := fTrial) (os := [.tmp 21]) [r30.1] Try.runUnderlying24 Try.sizeOf41 Try.zeroValue41 rfl rfl rfl rfl rfl rfl fun v32 => ?_
          obtain ⟨l33, h34, hm⟩ := bindS hm
          refine SJ.append (k := 2) (R := fTrial) h34 rfl Try.underlying24 el41 rfl rfl rfl (fun w hw => (hw.row_rd (k := 0) rfl)) rfl fun v35 => ?_
          refine SJ.q (YldS.yld (y_assign rfl)) rfl ?_
          refine SJ.nil ?_
          refine PJ.block_normal (PJ.next ?_)
          refine WJ.quiet ?_
          refine QJ.step (YldS.yld (y_move rfl)) rfl ?_
          refine QJ.step (YldS.yld (y_bin rfl rfl rfl)) rfl ?_
          refine QJ.step (YldS.yld (y_assign rfl)) rfl ?_
          refine QJ.done ?_
          exact PJ.round (r30.2.at_, r30.2.seed, l33, v35, w64 (k28 - 1)) [1, 2] hm ⟨rfl, rfl, rfl, rfl, trivial⟩ ⟨by decide, rfl⟩
        · replace hm := ifF hm hb29
          refine WJ.exit ?_
          refine PJ.then_exit (PJ.then_exit (PJ.block_exit ?_))
          exact PJ.joined (x24, x25, l26, v27) [0, 1] hm ⟨rfl, rfl, rfl, trivial⟩ ⟨by decide, rfl⟩
    · rintro ⟨x18, x19, l20, v21⟩ hm
      subst hk23
      obtain ⟨kj39, hk40, hm⟩ := withK_open hm
      refine WJ.join (X := Int × Int × (List Trial)) (fun (x : Int × Int × (List Trial)) => kj39 x.1 x.2.1 x.2.2 = some r) (fun (x : Int × Int × (List Trial)) => [(3, v21)]) (fun (x : Int × Int × (List Trial)) => [box g2 134 [v3, .int .i64 x.1, .int .u64 x.2.1], row v21 41 fTrial x.2.2]) ?_ ?_
      · clear hk40
        refine WJ.seq ?_
        refine WJ.reg ?_
        refine SJ.q (YldS.yld (y_move rfl)) rfl ?_
        refine SJ.q (YldS.yld (y_bin rfl rfl rfl)) rfl ?_
        refine SJ.q (YldS.yld (y_move rfl)) rfl ?_
        obtain ⟨x43, h42, hm⟩ := bindS hm
        refine SJ.cut 3 [(0, pt g2 0), (3, v21), (4, .int .i64 n10), (29, .bool x43.1)] [box g2 134 [v3, .int .i64 x43.2.at_, .int .u64 x43.2.seed], row v21 41 fTrial l20] ?_ ?_
        · rcases Bool.eq_false_or_eq_true (decide (n10 > 0)) with hb44 | hb44
          · replace h42 := ifT h42 hb44
            refine SJ.on rfl rfl (cB hb44) (SJ.q (YldS.yld (y_move rfl)) rfl ?_)
            obtain ⟨r45, h46, h42⟩ := bindS h42
            refine SJ.on rfl rfl (cB hb44) (SJ.call1 (k := 0) rfl Try.call70 rfl (fun w S hw hA hO => ok_s_l00Src_one h46 w S _ (hr4.st1 hw hO) hA) rfl ?_)
            rintro _ _ ⟨rfl, rfl⟩
            refine SJ.q (YldS.yld (y_pick_t (cB hb44) rfl)) rfl ?_
            obtain rfl := Option.some.inj h42
            exact SJ.cut_end [0, 1] ⟨rfl, rfl, rfl, rfl, trivial⟩ ⟨by decide, rfl⟩
          · replace h42 := ifF h42 hb44
            obtain rfl := Option.some.inj h42
            refine SJ.off rfl rfl (cB hb44) rfl rfl ?_
            refine SJ.off rfl rfl (cB hb44) rfl rfl ?_
            refine SJ.q (YldS.yld (y_pick_f (cB hb44) rfl)) rfl ?_
            exact SJ.cut_end [0, 1] ⟨rfl, rfl, rfl, rfl, trivial⟩ ⟨by decide, rfl⟩
        refine SJ.nil ?_
        refine PJ.next ?_
        refine WJ.cond (t := x43.1) rfl (fun hb47 => ?_) (fun hb47 => ?_)
        · replace hm := ifT hm hb47
          refine WJ.reg ?_
          refine SJ.q (YldS.yld (y_move rfl)) rfl ?_
          refine SJ.q (YldS.yld (y_move rfl)) rfl ?_
          refine SJ.q (YldS.yld (y_move rfl)) rfl ?_
          refine SJ.q (YldS.yld (y_move rfl)) rfl ?_
          obtain ⟨r48, h49, hm⟩ := bindS hm
          refine SJ.call1 (k := 0) rfl Try.call71 rfl (fun w S hw hA hO => ok_s_l00Src_pick h49 w S _ (hr4.st1 hw hO) hA) rfl ?_
          rintro _ _ ⟨rfl, rfl⟩
          obtain ⟨e50, h51, hm⟩ := bindS hm
          refine SJ.q (YldS.yld (y_ixRow (k := 1) (R := fTrial) rfl Try.runUnderlying24 Try.sizeOf41 rfl rfl h51)) rfl ?_
          refine SJ.sel (L' := [box g2 134 [v3, .int .i64 r48.2.at_, .int .u64 r48.2.seed], row v21 41 fTrial l20]) [0, 1] ⟨by decide, rfl⟩ ?_
          refine SJ.star ?_
          obtain ⟨r52, h53, hm⟩ := bindS hm
          refine SJ.call1 (k := 0) rfl Try.call111 rfl (fun w S hw hA hO => ok_s_l20SpoilE h53 w S _ (hr4.st1 hw hO) (idx_get h51) hA) rfl ?_
          rintro _ _ ⟨rfl, rfl⟩
          refine SJ.unstar ?_
          refine SJ.nil ?_
          exact PJ.joined (r52.1.at_, r52.1.seed, r52.2) [0, 1] hm ⟨rfl, trivial⟩ ⟨by decide, rfl⟩
        · replace hm := ifF hm hb47
          refine WJ.skip ?_
          exact PJ.joined (x43.2.at_, x43.2.seed, l20) [0, 1] hm ⟨rfl, trivial⟩ ⟨by decide, rfl⟩
      · rintro ⟨x36, x37, l38⟩ hm
        subst hk40
        refine WJ.seq ?_
        refine WJ.quiet ?_
        refine QJ.step (YldS.yld (y_move rfl)) rfl ?_
        refine QJ.step (YldS.yld (y_assign rfl)) rfl ?_
        refine QJ.done ?_
        refine PJ.next ?_
        refine WJ.ret ?_
        obtain rfl := Option.some.inj hm
        refine PJ.sel (L' := [box g2 134 [v3, .int .i64 x36, .int .u64 x37], row v21 41 fTrial l38]) [0, 1] ⟨by decide, rfl⟩ ?_
        exact PJ.retn (vs := [v21]) Try.results69 ⟨rfl, trivial⟩ ⟨_, rfl, rfl⟩

set_option maxRecDepth 100000 in
set_option maxHeartbeats 1000000 in
theorem ok_s_l20DrawPenalty {s1 : L00Src} {g2 : Nat} {r : Int × L00Src} (hm : s_l20DrawPenalty s1 = some r) (w : World) (S : Nat → Prop) (v3 : Value) (hr4 : RdS w (Cx.Fz ⟨w, S⟩) v3 fByte.rp s1.code) (hA : (box g2 134 [v3, .int .i64 s1.at_, .int .u64 s1.seed]).holds w S) :
    Calls Try.prog 101 #[pt g2 0] w (RetG ⟨w, S⟩ fun u L => (u = .int .i64 r.1 ∧ L = [box g2 134 [v3, .int .i64 r.2.at_, .int .u64 r.2.seed]])) := by
  unfold s_l20DrawPenalty at hm
  refine Calls.enter1 hA [pt g2 0] Try.func101 rfl Try.ntmps101 rfl ?_
  refine WJ.seq ?_
  refine WJ.quiet ?_
  refine QJ.step (YldS.yld (y_assign rfl)) rfl ?_
  refine QJ.done ?_
  refine PJ.next ?_
  refine WJ.seq ?_
  refine WJ.seq ?_
  refine WJ.reg ?_
  refine SJ.q (YldS.yld (y_move rfl)) rfl ?_
  obtain ⟨r5, h6, hm⟩ := bindS hm
  refine SJ.call1 (k := 0) rfl Try.call70 rfl (fun w S hw hA hO => ok_s_l00Src_one h6 w S _ (hr4.st1 hw hO) hA) rfl ?_
  rintro _ _ ⟨rfl, rfl⟩
  refine SJ.nil ?_
  refine PJ.next ?_
  refine WJ.cond (t := r5.1) rfl (fun hb7 => ?_) (fun hb7 => ?_)
  · replace hm := ifT hm hb7
    refine WJ.seq ?_
    refine WJ.reg ?_
    refine SJ.q (YldS.yld (y_move rfl)) rfl ?_
    refine SJ.buildSlice (R := fI64) (os := [.const (.int .i64 (-1)), .const (.int .i64 0), .const (.int .i64 50), .const (.int .i64 51)]) [(-1), 0, 50, 51] Try.runUnderlying27 Try.sizeOf2 Try.zeroValue2 rfl rfl rfl rfl rfl rfl fun v8 => ?_
    obtain ⟨r9, h10, hm⟩ := bindS hm
    refine SJ.call2 (k := 1) rfl Try.call129 rfl (fun w S hw hA hO hB => ok_s_l00Src_among h10 w S _ (hr4.st1 hw hO) _ (hB.row_rd (j := 0) (k := 1) rfl rfl) hA) rfl ?_
    rintro _ _ ⟨rfl, rfl⟩
    refine SJ.q (YldS.yld (y_assign rfl)) rfl ?_
    refine SJ.nil ?_
    refine PJ.next ?_
    refine WJ.ret ?_
    refine PJ.then_ret ?_
    obtain rfl := Option.some.inj hm
    refine PJ.sel (L' := [box g2 134 [v3, .int .i64 r9.2.at_, .int .u64 r9.2.seed]]) [0] ⟨by decide, rfl⟩ ?_
    exact PJ.retn (vs := [.int .i64 r9.1]) Try.results101 ⟨rfl, trivial⟩ ⟨rfl, rfl⟩
  · replace hm := ifF hm hb7
    refine WJ.skip ?_
    refine PJ.next ?_
    refine WJ.seq ?_
    refine WJ.reg ?_
    refine SJ.q (YldS.yld (y_move rfl)) rfl ?_
    obtain ⟨r11, h12, hm⟩ := bindS hm
    refine SJ.call1 (k := 0) rfl Try.call71 rfl (fun w S hw hA hO => ok_s_l00Src_pick h12 w S _ (hr4.st1 hw hO) hA) rfl ?_
    rintro _ _ ⟨rfl, rfl⟩
    refine SJ.q (YldS.yld (y_bin rfl rfl rfl)) rfl ?_
    refine SJ.q (YldS.yld (y_assign rfl)) rfl ?_
    refine SJ.nil ?_
    refine PJ.next ?_
    refine WJ.ret ?_
    obtain rfl := Option.some.inj hm
    refine PJ.sel (L' := [box g2 134 [v3, .int .i64 r11.2.at_, .int .u64 r11.2.seed]]) [0] ⟨by decide, rfl⟩ ?_
    exact PJ.retn (vs := [.int .i64 (w64 (5 * r11.1))]) Try.results101 ⟨rfl, trivial⟩ ⟨rfl, rfl⟩

set_option maxRecDepth 100000 in
set_option maxHeartbeats 1000000 in
theorem ok_s_l20Lists {N : Nat} {code1 : List UInt8} {r : (List Trial) × Int} (hm : s_l20Lists N code1 = some r) (w : World) (v2 : Value) (hr3 : RdS w (cx w).Fz v2 fByte.rp code1) :
    Calls Try.prog 59 #[v2] w (RetG (cx w) fun u L => ∃ (u1 : Value), (u = tup [u1, .int .i64 r.2] ∧ L = [row u1 41 fTrial r.1])) := by
  unfold s_l20Lists at hm
  refine Calls.enter [v2] Try.func59 rfl Try.ntmps59 rfl ?_
  refine WJ.seq ?_
  refine WJ.quiet ?_
  refine QJ.step (YldS.yld (y_assign rfl)) rfl ?_
  refine QJ.step (YldS.yld (y_assign rfl)) rfl ?_
  refine QJ.done ?_
  refine PJ.next ?_
  refine WJ.seq ?_
  refine WJ.reg ?_
  refine SJ.q (YldS.yld (y_move rfl)) rfl ?_
  obtain ⟨r4, h5, hm⟩ := bindS hm
  refine SJ.call Try.call68 rfl (fun w hw => ok_s_l00From h5 w _ (hr3.st hw)) rfl ?_
  rintro _ _ ⟨g6, rfl, rfl⟩
  refine SJ.q (YldS.yld (y_assign rfl)) rfl ?_
  refine SJ.nil ?_
  refine PJ.next ?_
  refine WJ.seq ?_
  refine WJ.reg ?_
  refine SJ.q (YldS.yld (y_move rfl)) rfl ?_
  obtain ⟨r7, h8, hm⟩ := bindS hm
  refine SJ.call1 (k := 0) rfl Try.call69 rfl (fun w S hw hA hO => ok_s_l20Draw h8 w S _ (hr3.st1 hw hO) hA) rfl ?_
  rintro v9 _ ⟨_, rfl, rfl⟩
  refine SJ.q (YldS.yld (y_assign rfl)) rfl ?_
  refine SJ.nil ?_
  refine PJ.next ?_
  refine WJ.seq ?_
  refine WJ.reg ?_
  refine SJ.q (YldS.yld (y_move rfl)) rfl ?_
  refine SJ.q (YldS.yld (y_move rfl)) rfl ?_
  obtain ⟨r10, h11, hm⟩ := bindS hm
  refine SJ.call1 (k := 0) rfl Try.call101 rfl (fun w S hw hA hO => ok_s_l20DrawPenalty h11 w S _ (hr3.st1 hw hO) hA) rfl ?_
  rintro _ _ ⟨rfl, rfl⟩
  refine SJ.q (YldS.yld (y_assign rfl)) rfl ?_
  refine SJ.q (YldS.yld (y_assign rfl)) rfl ?_
  refine SJ.nil ?_
  refine PJ.next ?_
  refine WJ.ret ?_
  obtain rfl := Option.some.inj hm
  refine PJ.sel (L' := [row v9 41 fTrial r7.1]) [1] ⟨by decide, rfl⟩ ?_
  exact PJ.retn (vs := [v9, .int .i64 r10.1]) Try.results59 ⟨rfl, rfl, trivial⟩ ⟨_, rfl, rfl⟩

set_option maxRecDepth 100000 in
set_option maxHeartbeats 1000000 in
theorem ok_s_DrawRecordsOf {N : Nat} {code1 : List UInt8} {r : (List Trial) × Int} (hm : s_DrawRecordsOf N code1 = some r) (w : World) (v2 : Value) (hr3 : RdS w (cx w).Fz v2 fByte.rp code1) :
    Calls Try.prog 7 #[v2] w (RetG (cx w) fun u L => ∃ (u1 : Value), (u = tup [u1, .int .i64 r.2] ∧ L = [row u1 41 fTrial r.1])) := by
  unfold s_DrawRecordsOf at hm
  refine Calls.enter [v2] Try.func7 rfl Try.ntmps7 rfl ?_
  refine WJ.seq ?_
  refine WJ.quiet ?_
  refine QJ.step (YldS.yld (y_assign rfl)) rfl ?_
  refine QJ.step (YldS.yld (y_assign rfl)) rfl ?_
  refine QJ.done ?_
  refine PJ.next ?_
  refine WJ.seq ?_
  refine WJ.reg ?_
  refine SJ.q (YldS.yld (y_move rfl)) rfl ?_
  obtain ⟨r4, h5, hm⟩ := bindS hm
  refine SJ.call Try.call59 rfl (fun w hw => ok_s_l20Lists h5 w _ (hr3.st hw)) rfl ?_
  rintro _ _ ⟨v6, rfl, rfl⟩
  refine SJ.q (YldS.yld (y_extract rfl rfl)) rfl ?_
  refine SJ.q (YldS.yld (y_extract rfl rfl)) rfl ?_
  refine SJ.q (YldS.yld (y_assign rfl)) rfl ?_
  refine SJ.q (YldS.yld (y_assign rfl)) rfl ?_
  refine SJ.nil ?_
  refine PJ.next ?_
  refine WJ.ret ?_
  obtain rfl := Option.some.inj hm
  refine PJ.sel (L' := [row v6 41 fTrial r4.1]) [0] ⟨by decide, rfl⟩ ?_
  exact PJ.retn (vs := [v6, .int .i64 r4.2]) Try.results7 ⟨rfl, rfl, trivial⟩ ⟨_, rfl, rfl⟩

set_option maxRecDepth 100000 in
set_option maxHeartbeats 1000000 in
theorem ok_i_between {n1 : Int} {low2 : Int} {high3 : Int} {r : Bool} (hm : i_between n1 low2 high3 = some r) (w : World)  :
    Calls Try.prog 81 #[.int .i64 n1, .int .i64 low2, .int .i64 high3] w (Ret (cx w) (.bool r)) := by
  unfold i_between at hm
  refine Calls.enter [.int .i64 n1, .int .i64 low2, .int .i64 high3] Try.func81 rfl Try.ntmps81 rfl ?_
  refine WJ.seq ?_
  refine WJ.quiet ?_
  refine QJ.step (YldS.yld (y_assign rfl)) rfl ?_
  refine QJ.done ?_
  refine PJ.next ?_
  refine WJ.seq ?_
  refine WJ.quiet ?_
  refine QJ.step (YldS.yld (y_move rfl)) rfl ?_
  refine QJ.step (YldS.yld (y_move rfl)) rfl ?_
  refine QJ.step (YldS.yld (y_bin rfl rfl rfl)) rfl ?_
  refine QJ.step (YldS.yld (y_move rfl)) rfl ?_
  obtain ⟨t4, h5, hm⟩ := bindS hm
  refine QJ.cut 4 [(14, .bool t4)] ?_ ?_
  · rcases Bool.eq_false_or_eq_true (decide (n1 ≥ low2)) with hb6 | hb6
    · replace h5 := andT h5 hb6
      refine QJ.on rfl rfl (cB hb6) (YldS.yld (y_move rfl)) rfl ?_
      refine QJ.on rfl rfl (cB hb6) (YldS.yld (y_move rfl)) rfl ?_
      refine QJ.on rfl rfl (cB hb6) (YldS.yld (y_bin rfl rfl rfl)) rfl ?_
      refine QJ.step (YldS.yld (y_pick_t (cB hb6) rfl)) rfl ?_
      obtain rfl := Option.some.inj h5
      exact QJ.cut_end ⟨rfl, trivial⟩
    · obtain rfl := andF h5 hb6
      refine QJ.off rfl rfl (cB hb6) rfl rfl ?_
      refine QJ.off rfl rfl (cB hb6) rfl rfl ?_
      refine QJ.off rfl rfl (cB hb6) rfl rfl ?_
      refine QJ.step (YldS.yld (y_pick_f (cB hb6) rfl)) rfl ?_
      exact QJ.cut_end ⟨rfl, trivial⟩
  refine QJ.step (YldS.yld (y_assign rfl)) rfl ?_
  refine QJ.done ?_
  refine PJ.next ?_
  refine WJ.ret ?_
  obtain rfl := Option.some.inj hm
  refine PJ.sel (L' := []) [] ⟨List.nodup_nil, rfl⟩ ?_
  exact PJ.retn (vs := [.bool t4]) Try.results81 ⟨rfl, trivial⟩ ⟨rfl, rfl⟩

set_option maxRecDepth 100000 in
set_option maxHeartbeats 1000000 in
theorem ok_i_validTrial {x1 : Trial} {r : Bool} (hm : i_validTrial x1 = some r) (w : World)  :
    Calls Try.prog 72 #[.agg (Trial.enc x1).toArray] w (Ret (cx w) (.bool r)) := by
  unfold i_validTrial at hm
  refine Calls.enter [.agg (Trial.enc x1).toArray] Try.func72 rfl Try.ntmps72 rfl ?_
  refine WJ.seq ?_
  refine WJ.reg ?_
  refine SJ.box (cs := [.int .i64 x1.strokes, .int .i64 x1.errors, .int .i64 x1.seconds]) rfl rfl rfl fun g2 => ?_
  refine SJ.q (YldS.yld (y_assign rfl)) rfl ?_
  refine SJ.nil ?_
  refine PJ.next ?_
  refine WJ.seq ?_
  refine WJ.quiet ?_
  refine QJ.step (YldS.yld (y_fldB (o := 0) fld41_0 rfl)) rfl ?_
  refine QJ.step (YldS.yld (y_loadB (k := 0) (off := 0) (v := .int .i64 x1.strokes) rfl Try.isAgg2 rfl rfl)) rfl ?_
  obtain ⟨r3, h4, hm⟩ := bindS hm
  refine QJ.step (y_call Try.call81 rfl (RetG.quiet fun w hw => ok_i_between h4 w )) rfl ?_
  refine QJ.step (YldS.yld (y_move rfl)) rfl ?_
  obtain ⟨t5, h6, hm⟩ := bindS hm
  refine QJ.cut 6 [(1, pt g2 0), (12, .bool t5)] ?_ ?_
  · rcases Bool.eq_false_or_eq_true r3 with hb7 | hb7
    · replace h6 := andT h6 hb7
      refine QJ.on rfl rfl (cB hb7) (YldS.yld (y_fldB (o := 0) fld41_1 rfl)) rfl ?_
      refine QJ.on rfl rfl (cB hb7) (YldS.yld (y_loadB (k := 0) (off := 1) (v := .int .i64 x1.errors) rfl Try.isAgg2 rfl rfl)) rfl ?_
      refine QJ.on rfl rfl (cB hb7) (YldS.yld (y_fldB (o := 0) fld41_0 rfl)) rfl ?_
      refine QJ.on rfl rfl (cB hb7) (YldS.yld (y_loadB (k := 0) (off := 0) (v := .int .i64 x1.strokes) rfl Try.isAgg2 rfl rfl)) rfl ?_
      obtain ⟨r8, h9, h6⟩ := bindS h6
      refine QJ.on rfl rfl (cB hb7) (y_call Try.call81 rfl (RetG.quiet fun w hw => ok_i_between h9 w )) rfl ?_
      refine QJ.step (YldS.yld (y_pick_t (cB hb7) rfl)) rfl ?_
      obtain rfl := Option.some.inj h6
      exact QJ.cut_end ⟨rfl, rfl, trivial⟩
    · obtain rfl := andF h6 hb7
      refine QJ.off rfl rfl (cB hb7) rfl rfl ?_
      refine QJ.off rfl rfl (cB hb7) rfl rfl ?_
      refine QJ.off rfl rfl (cB hb7) rfl rfl ?_
      refine QJ.off rfl rfl (cB hb7) rfl rfl ?_
      refine QJ.off rfl rfl (cB hb7) rfl rfl ?_
      refine QJ.step (YldS.yld (y_pick_f (cB hb7) rfl)) rfl ?_
      exact QJ.cut_end ⟨rfl, rfl, trivial⟩
  refine QJ.step (YldS.yld (y_move rfl)) rfl ?_
  obtain ⟨t10, h11, hm⟩ := bindS hm
  refine QJ.cut 4 [(17, .bool t10)] ?_ ?_
  · rcases Bool.eq_false_or_eq_true t5 with hb12 | hb12
    · replace h11 := andT h11 hb12
      refine QJ.on rfl rfl (cB hb12) (YldS.yld (y_fldB (o := 0) fld41_2 rfl)) rfl ?_
      refine QJ.on rfl rfl (cB hb12) (YldS.yld (y_loadB (k := 0) (off := 2) (v := .int .i64 x1.seconds) rfl Try.isAgg2 rfl rfl)) rfl ?_
      obtain ⟨r13, h14, h11⟩ := bindS h11
      refine QJ.on rfl rfl (cB hb12) (y_call Try.call81 rfl (RetG.quiet fun w hw => ok_i_between h14 w )) rfl ?_
      refine QJ.step (YldS.yld (y_pick_t (cB hb12) rfl)) rfl ?_
      obtain rfl := Option.some.inj h11
      exact QJ.cut_end ⟨rfl, trivial⟩
    · obtain rfl := andF h11 hb12
      refine QJ.off rfl rfl (cB hb12) rfl rfl ?_
      refine QJ.off rfl rfl (cB hb12) rfl rfl ?_
      refine QJ.off rfl rfl (cB hb12) rfl rfl ?_
      refine QJ.step (YldS.yld (y_pick_f (cB hb12) rfl)) rfl ?_
      exact QJ.cut_end ⟨rfl, trivial⟩
  refine QJ.step (YldS.yld (y_assign rfl)) rfl ?_
  refine QJ.done ?_
  refine PJ.next ?_
  refine WJ.ret ?_
  obtain rfl := Option.some.inj hm
  refine PJ.sel (L' := []) [] ⟨List.nodup_nil, rfl⟩ ?_
  exact PJ.retn (vs := [.bool t10]) Try.results72 ⟨rfl, trivial⟩ ⟨rfl, rfl⟩

set_option maxRecDepth 100000 in
set_option maxHeartbeats 1000000 in
theorem ok_i_ValidTrials {N : Nat} {list1 : List Trial} {r : Bool} (hm : i_ValidTrials N list1 = some r) (w : World) (v2 : Value) (hr3 : RdS w (cx w).Fz v2 fTrial.rp list1) :
    Calls Try.prog 20 #[v2] w (Ret (cx w) (.bool r)) := by
  unfold i_ValidTrials at hm
  refine Calls.enter [v2] Try.func20 rfl Try.ntmps20 rfl ?_
  refine WJ.seq ?_
  refine WJ.quiet ?_
  refine QJ.step (YldS.yld (y_assign rfl)) rfl ?_
  refine QJ.done ?_
  refine PJ.next ?_
  obtain ⟨kj4, hk5, hm⟩ := withK_open hm
  refine WJ.join (X := Unit) (fun (_ : Unit) => kj4  = some r) (fun (_ : Unit) => [(0, v2)]) (fun (_ : Unit) => []) ?_ ?_
  · clear hk5
    refine WJ.seq ?_
    refine WJ.quiet ?_
    refine QJ.step (YldS.yld (y_move rfl)) rfl ?_
    refine QJ.step (YldS.yld (y_lenS Try.runUnderlying24 hr3 rfl)) rfl ?_
    refine QJ.step (YldS.yld (y_move rfl)) rfl ?_
    refine QJ.done ?_
    refine PJ.next ?_
    refine WJ.block ?_
    refine WJ.sel (L' := (fun (x : Int) => []) 0) [] ⟨List.nodup_nil, rfl⟩ ?_
    refine WJ.sub (m' := (fun (x : Int) => [(0, v2), (5, v2), (6, .int .i64 (List.length list1 : Int)), (7, .int .i64 x)]) 0) ⟨rfl, rfl, rfl, rfl, trivial⟩ ?_
    refine WJ.loop (X := Int) (fun N (x : Int) => i_ValidTrials_l1 kj4 list1 N x = some r) (fun (x : Int) => [(0, v2), (5, v2), (6, .int .i64 (List.length list1 : Int)), (7, .int .i64 x)]) (fun (x : Int) => []) ?_ N 0 hm
    · rintro N x6 hI
      have hm := hI; clear hI
      cases N with
      | zero => cases hm
      | succ N =>
      unfold i_ValidTrials_l1 at hm
      refine WJ.seq ?_
      refine WJ.quiet ?_
      refine QJ.step (YldS.yld (y_bin rfl rfl rfl)) rfl ?_
      refine QJ.done ?_
      refine PJ.next ?_
      refine WJ.seq ?_
      refine WJ.cond (t := decide (x6 < (List.length list1 : Int))) rfl (fun hb7 => ?_) (fun hb7 => ?_)
      · replace hm := ifT hm hb7
        refine WJ.skip ?_
        refine PJ.next ?_
        refine WJ.seq ?_
        refine WJ.block ?_
        refine WJ.seq ?_
        refine WJ.reg ?_
        obtain ⟨e8, h9, hm⟩ := bindS hm
        obtain ⟨ad10, _, rfl, ha11, hy12⟩ := hr3.elem h9
        refine SJ.q (YldS.yld (hy12 Try.runUnderlying24 Try.sizeOf41 rfl rfl)) rfl ?_
        refine SJ.q (YldS.yld (y_loadN Try.isAgg41 Try.sizeOf41 rfl ha11 St.frozenC rfl)) rfl ?_
        refine SJ.alloc (cs := [.int .i64 0, .int .i64 0, .int .i64 0]) Try.zeroValue41 rfl rfl fun g13 => ?_
        refine SJ.storeL (k := 0) (off := 0) (us := [.int .i64 e8.strokes, .int .i64 e8.errors, .int .i64 e8.seconds]) rfl rfl rfl rfl Try.sizeOf41 rfl rfl ?_
        refine SJ.nil ?_
        refine PJ.next ?_
        refine WJ.seq ?_
        refine WJ.quiet ?_
        refine QJ.step (YldS.yld (y_loadBN (k := 0) (off := 0) (us := [.int .i64 e8.strokes, .int .i64 e8.errors, .int .i64 e8.seconds]) rfl Try.isAgg41 Try.sizeOf41 rfl rfl)) rfl ?_
        obtain ⟨r14, h15, hm⟩ := bindS hm
        refine QJ.step (y_call Try.call72 rfl (RetG.quiet fun w hw => ok_i_validTrial h15 w )) rfl ?_
        refine QJ.step (YldS.yld (y_not rfl)) rfl ?_
        refine QJ.done ?_
        refine PJ.next ?_
        refine WJ.cond (t := !r14) rfl (fun hb16 => ?_) (fun hb16 => ?_)
        · replace hm := ifT hm hb16
          refine WJ.seq ?_
          refine WJ.quiet ?_
          refine QJ.step (YldS.yld (y_assign rfl)) rfl ?_
          refine QJ.done ?_
          refine PJ.next ?_
          refine WJ.ret ?_
          refine PJ.block_ret (PJ.then_ret (PJ.then_ret (PJ.block_ret (PJ.then_ret ?_))))
          obtain rfl := Option.some.inj hm
          refine PJ.sel (L' := []) [] ⟨List.nodup_nil, rfl⟩ ?_
          exact PJ.retn (vs := [.bool false]) Try.results20 ⟨rfl, trivial⟩ ⟨rfl, rfl⟩
        · replace hm := ifF hm hb16
          refine WJ.skip ?_
          refine PJ.block_normal (PJ.next ?_)
          refine WJ.quiet ?_
          refine QJ.step (YldS.yld (y_bin rfl rfl rfl)) rfl ?_
          refine QJ.step (YldS.yld (y_move rfl)) rfl ?_
          refine QJ.done ?_
          exact PJ.round (w64 (x6 + 1)) [] hm ⟨rfl, rfl, rfl, rfl, trivial⟩ ⟨List.nodup_nil, rfl⟩
      · replace hm := ifF hm hb7
        refine WJ.exit ?_
        refine PJ.then_exit (PJ.then_exit (PJ.block_exit ?_))
        exact PJ.joined () [] hm ⟨rfl, trivial⟩ ⟨List.nodup_nil, rfl⟩
  · rintro _ hm
    subst hk5
    refine WJ.seq ?_
    refine WJ.quiet ?_
    refine QJ.step (YldS.yld (y_move rfl)) rfl ?_
    refine QJ.step (YldS.yld (y_lenS Try.runUnderlying24 hr3 rfl)) rfl ?_
    refine QJ.step (YldS.yld (y_bin rfl rfl rfl)) rfl ?_
    refine QJ.step (YldS.yld (y_assign rfl)) rfl ?_
    refine QJ.done ?_
    refine PJ.next ?_
    refine WJ.ret ?_
    obtain rfl := Option.some.inj hm
    refine PJ.sel (L' := []) [] ⟨List.nodup_nil, rfl⟩ ?_
    exact PJ.retn (vs := [.bool (decide ((List.length list1 : Int) ≤ 40))]) Try.results20 ⟨rfl, trivial⟩ ⟨rfl, rfl⟩

set_option maxRecDepth 100000 in
set_option maxHeartbeats 1000000 in
theorem ok_i_isPenalty {penalty1 : Int} {r : Bool} (hm : i_isPenalty penalty1 = some r) (w : World)  :
    Calls Try.prog 102 #[.int .i64 penalty1] w (Ret (cx w) (.bool r)) := by
  unfold i_isPenalty at hm
  refine Calls.enter [.int .i64 penalty1] Try.func102 rfl Try.ntmps102 rfl ?_
  refine WJ.seq ?_
  refine WJ.quiet ?_
  refine QJ.step (YldS.yld (y_assign rfl)) rfl ?_
  refine QJ.done ?_
  refine PJ.next ?_
  refine WJ.seq ?_
  refine WJ.quiet ?_
  refine QJ.step (YldS.yld (y_move rfl)) rfl ?_
  obtain ⟨r2, h3, hm⟩ := bindS hm
  refine QJ.step (y_call Try.call81 rfl (RetG.quiet fun w hw => ok_i_between h3 w )) rfl ?_
  refine QJ.step (YldS.yld (y_assign rfl)) rfl ?_
  refine QJ.done ?_
  refine PJ.next ?_
  refine WJ.ret ?_
  obtain rfl := Option.some.inj hm
  refine PJ.sel (L' := []) [] ⟨List.nodup_nil, rfl⟩ ?_
  exact PJ.retn (vs := [.bool r2]) Try.results102 ⟨rfl, trivial⟩ ⟨rfl, rfl⟩

set_option maxRecDepth 100000 in
set_option maxHeartbeats 1000000 in
theorem ok_i_trialsCode {N : Nat} {list1 : List Trial} {penalty4 : Int} {r : Int} (hm : i_trialsCode N list1 penalty4 = some r) (w : World) (v2 : Value) (hr3 : RdS w (cx w).Fz v2 fTrial.rp list1) :
    Calls Try.prog 60 #[v2, .int .i64 penalty4] w (Ret (cx w) (.int .i64 r)) := by
  unfold i_trialsCode at hm
  refine Calls.enter [v2, .int .i64 penalty4] Try.func60 rfl Try.ntmps60 rfl ?_
  refine WJ.seq ?_
  refine WJ.quiet ?_
  refine QJ.step (YldS.yld (y_assign rfl)) rfl ?_
  refine QJ.done ?_
  refine PJ.next ?_
  refine WJ.seq ?_
  refine WJ.seq ?_
  refine WJ.quiet ?_
  refine QJ.step (YldS.yld (y_move rfl)) rfl ?_
  obtain ⟨r5, h6, hm⟩ := bindS hm
  refine QJ.step (y_call Try.call20 rfl (RetG.quiet fun w hw => ok_i_ValidTrials h6 w _ (hr3.st hw))) rfl ?_
  refine QJ.step (YldS.yld (y_not rfl)) rfl ?_
  refine QJ.done ?_
  refine PJ.next ?_
  refine WJ.cond (t := !r5) rfl (fun hb7 => ?_) (fun hb7 => ?_)
  · replace hm := ifT hm hb7
    refine WJ.seq ?_
    refine WJ.quiet ?_
    refine QJ.step (YldS.yld (y_assign rfl)) rfl ?_
    refine QJ.done ?_
    refine PJ.next ?_
    refine WJ.ret ?_
    refine PJ.then_ret ?_
    obtain rfl := Option.some.inj hm
    refine PJ.sel (L' := []) [] ⟨List.nodup_nil, rfl⟩ ?_
    exact PJ.retn (vs := [.int .i64 1]) Try.results60 ⟨rfl, trivial⟩ ⟨rfl, rfl⟩
  · replace hm := ifF hm hb7
    refine WJ.skip ?_
    refine PJ.next ?_
    refine WJ.seq ?_
    refine WJ.seq ?_
    refine WJ.quiet ?_
    refine QJ.step (YldS.yld (y_move rfl)) rfl ?_
    obtain ⟨r8, h9, hm⟩ := bindS hm
    refine QJ.step (y_call Try.call102 rfl (RetG.quiet fun w hw => ok_i_isPenalty h9 w )) rfl ?_
    refine QJ.step (YldS.yld (y_not rfl)) rfl ?_
    refine QJ.done ?_
    refine PJ.next ?_
    refine WJ.cond (t := !r8) rfl (fun hb10 => ?_) (fun hb10 => ?_)
    · replace hm := ifT hm hb10
      refine WJ.seq ?_
      refine WJ.quiet ?_
      refine QJ.step (YldS.yld (y_assign rfl)) rfl ?_
      refine QJ.done ?_
      refine PJ.next ?_
      refine WJ.ret ?_
      refine PJ.then_ret ?_
      obtain rfl := Option.some.inj hm
      refine PJ.sel (L' := []) [] ⟨List.nodup_nil, rfl⟩ ?_
      exact PJ.retn (vs := [.int .i64 2]) Try.results60 ⟨rfl, trivial⟩ ⟨rfl, rfl⟩
    · replace hm := ifF hm hb10
      refine WJ.skip ?_
      refine PJ.next ?_
      refine WJ.seq ?_
      refine WJ.quiet ?_
      refine QJ.step (YldS.yld (y_assign rfl)) rfl ?_
      refine QJ.done ?_
      refine PJ.next ?_
      refine WJ.ret ?_
      obtain rfl := Option.some.inj hm
      refine PJ.sel (L' := []) [] ⟨List.nodup_nil, rfl⟩ ?_
      exact PJ.retn (vs := [.int .i64 0]) Try.results60 ⟨rfl, trivial⟩ ⟨rfl, rfl⟩

set_option maxRecDepth 100000 in
set_option maxHeartbeats 1000000 in
theorem ok_i_Trial_net {x1 : Trial} {penalty2 : Int} {r : Int} (hm : i_Trial_net x1 penalty2 = some r) (w : World)  :
    Calls Try.prog 103 #[.agg (Trial.enc x1).toArray, .int .i64 penalty2] w (Ret (cx w) (.int .i64 r)) := by
  unfold i_Trial_net at hm
  refine Calls.enter [.agg (Trial.enc x1).toArray, .int .i64 penalty2] Try.func103 rfl Try.ntmps103 rfl ?_
  refine WJ.seq ?_
  refine WJ.reg ?_
  refine SJ.box (cs := [.int .i64 x1.strokes, .int .i64 x1.errors, .int .i64 x1.seconds]) rfl rfl rfl fun g3 => ?_
  refine SJ.q (YldS.yld (y_assign rfl)) rfl ?_
  refine SJ.nil ?_
  refine PJ.next ?_
  refine WJ.seq ?_
  refine WJ.quiet ?_
  refine QJ.step (YldS.yld (y_fldB (o := 0) fld41_0 rfl)) rfl ?_
  refine QJ.step (YldS.yld (y_loadB (k := 0) (off := 0) (v := .int .i64 x1.strokes) rfl Try.isAgg2 rfl rfl)) rfl ?_
  refine QJ.step (YldS.yld (y_move rfl)) rfl ?_
  refine QJ.step (YldS.yld (y_fldB (o := 0) fld41_1 rfl)) rfl ?_
  refine QJ.step (YldS.yld (y_loadB (k := 0) (off := 1) (v := .int .i64 x1.errors) rfl Try.isAgg2 rfl rfl)) rfl ?_
  refine QJ.step (YldS.yld (y_bin rfl rfl rfl)) rfl ?_
  refine QJ.step (YldS.yld (y_bin rfl rfl rfl)) rfl ?_
  refine QJ.step (YldS.yld (y_max rfl rfl)) rfl ?_
  refine QJ.step (YldS.yld (y_assign rfl)) rfl ?_
  refine QJ.done ?_
  refine PJ.next ?_
  refine WJ.ret ?_
  obtain rfl := Option.some.inj hm
  refine PJ.sel (L' := []) [] ⟨List.nodup_nil, rfl⟩ ?_
  exact PJ.retn (vs := [.int .i64 (imax (w64 (x1.strokes - (w64 (penalty2 * x1.errors)))) 0)]) Try.results103 ⟨rfl, trivial⟩ ⟨rfl, rfl⟩

set_option maxRecDepth 100000 in
set_option maxHeartbeats 1000000 in
theorem ok_i_Trial_slower {x1 : Trial} {y2 : Trial} {penalty3 : Int} {r : Bool} (hm : i_Trial_slower x1 y2 penalty3 = some r) (w : World)  :
    Calls Try.prog 61 #[.agg (Trial.enc x1).toArray, .agg (Trial.enc y2).toArray, .int .i64 penalty3] w (Ret (cx w) (.bool r)) := by
  unfold i_Trial_slower at hm
  refine Calls.enter [.agg (Trial.enc x1).toArray, .agg (Trial.enc y2).toArray, .int .i64 penalty3] Try.func61 rfl Try.ntmps61 rfl ?_
  refine WJ.seq ?_
  refine WJ.reg ?_
  refine SJ.box (cs := [.int .i64 x1.strokes, .int .i64 x1.errors, .int .i64 x1.seconds]) rfl rfl rfl fun g4 => ?_
  refine SJ.box (cs := [.int .i64 y2.strokes, .int .i64 y2.errors, .int .i64 y2.seconds]) rfl rfl rfl fun g5 => ?_
  refine SJ.q (YldS.yld (y_assign rfl)) rfl ?_
  refine SJ.nil ?_
  refine PJ.next ?_
  refine WJ.seq ?_
  refine WJ.quiet_draw follows (by kernel_rfl) ?_
  refine QJ.step (YldS.yld (y_loadBN (k := 1) (off := 0) (us := [.int .i64 x1.strokes, .int .i64 x1.errors, .int .i64 x1.seconds]) rfl Try.isAgg41 Try.sizeOf41 rfl rfl)) rfl ?_
  refine QJ.step (YldS.yld (y_move rfl)) rfl ?_
  obtain ⟨r6, h7, hm⟩ := bindS hm
  refine QJ.step (y_call Try.call103 rfl (RetG.quiet fun w hw => ok_i_Trial_net h7 w )) rfl ?_
  refine QJ.step (YldS.yld (y_fldB (o := 0) fld41_2 rfl)) rfl ?_
  refine QJ.step (YldS.yld (y_loadB (k := 0) (off := 2) (v := .int .i64 y2.seconds) rfl Try.isAgg2 rfl rfl)) rfl ?_
  refine QJ.step (YldS.yld (y_bin rfl rfl rfl)) rfl ?_
  refine QJ.step (YldS.yld (y_loadBN (k := 0) (off := 0) (us := [.int .i64 y2.strokes, .int .i64 y2.errors, .int .i64 y2.seconds]) rfl Try.isAgg41 Try.sizeOf41 rfl rfl)) rfl ?_
  refine QJ.step (YldS.yld (y_move rfl)) rfl ?_
  obtain ⟨r8, h9, hm⟩ := bindS hm
  refine QJ.step (y_call Try.call103 rfl (RetG.quiet fun w hw => ok_i_Trial_net h9 w )) rfl ?_
  refine QJ.step (YldS.yld (y_fldB (o := 0) fld41_2 rfl)) rfl ?_
  refine QJ.step (YldS.yld (y_loadB (k := 1) (off := 2) (v := .int .i64 x1.seconds) rfl Try.isAgg2 rfl rfl)) rfl ?_
  refine QJ.step (YldS.yld (y_bin rfl rfl rfl)) rfl ?_
  refine QJ.step (YldS.yld (y_bin rfl rfl rfl)) rfl ?_
  refine QJ.step (YldS.yld (y_assign rfl)) rfl ?_
  refine QJ.done ?_
  refine PJ.next ?_
  refine WJ.ret ?_
  obtain rfl := Option.some.inj hm
  refine PJ.sel (L' := []) [] ⟨List.nodup_nil, rfl⟩ ?_
  exact PJ.retn (vs := [.bool (decide ((w64 (r6 * y2.seconds)) < (w64 (r8 * x1.seconds))))]) Try.results61 ⟨rfl, trivial⟩ ⟨rfl, rfl⟩

set_option maxRecDepth 100000 in
set_option maxHeartbeats 1000000 in
theorem ok_i_RecordsOf {N : Nat} {list1 : List Trial} {penalty4 : Int} {r : (List Int) × Int} (hm : i_RecordsOf N list1 penalty4 = some r) (w : World) (v2 : Value) (hr3 : RdS w (cx w).Fz v2 fTrial.rp list1) :
    Calls Try.prog 8 #[v2, .int .i64 penalty4] w (RetG (cx w) fun u L => ∃ (u1 : Value), (u = tup [u1, .int .i64 r.2] ∧ L = [row u1 2 fI64 r.1])) := by
  unfold i_RecordsOf at hm
  refine Calls.enter [v2, .int .i64 penalty4] Try.func8 rfl Try.ntmps8 rfl ?_
  refine WJ.seq ?_
  refine WJ.quiet ?_
  refine QJ.step (YldS.yld (y_assign rfl)) rfl ?_
  refine QJ.step (YldS.yld (y_assign rfl)) rfl ?_
  refine QJ.done ?_
  refine PJ.next ?_
  refine WJ.seq ?_
  refine WJ.seq ?_
  refine WJ.quiet ?_
  refine QJ.step (YldS.yld (y_move rfl)) rfl ?_
  refine QJ.step (YldS.yld (y_move rfl)) rfl ?_
  obtain ⟨r5, h6, hm⟩ := bindS hm
  refine QJ.step (y_call Try.call60 rfl (RetG.quiet fun w hw => ok_i_trialsCode h6 w _ (hr3.st hw))) rfl ?_
  refine QJ.step (YldS.yld (y_assign rfl)) rfl ?_
  refine QJ.done ?_
  refine PJ.next ?_
  refine WJ.seq ?_
  refine WJ.quiet ?_
  refine QJ.step (YldS.yld (y_move rfl)) rfl ?_
  refine QJ.step (YldS.yld (y_bin rfl rfl rfl)) rfl ?_
  refine QJ.done ?_
  refine PJ.next ?_
  refine WJ.cond (t := (r5 != 0)) rfl (fun hb7 => ?_) (fun hb7 => ?_)
  · replace hm := ifT hm hb7
    refine WJ.seq ?_
    refine WJ.quiet ?_
    refine QJ.step (YldS.yld (y_move rfl)) rfl ?_
    refine QJ.step (YldS.yld (y_assign rfl)) rfl ?_
    refine QJ.step (YldS.yld (y_assign rfl)) rfl ?_
    refine QJ.done ?_
    refine PJ.next ?_
    refine WJ.ret ?_
    refine PJ.then_ret ?_
    refine PJ.nil_row 2 fI64 ?_
    obtain rfl := Option.some.inj hm
    refine PJ.sel (L' := [row (.slice none 0 0) 2 fI64 []]) [0] ⟨by decide, rfl⟩ ?_
    exact PJ.retn (vs := [(.slice none 0 0), .int .i64 r5]) Try.results8 ⟨rfl, rfl, trivial⟩ ⟨_, rfl, rfl⟩
  · replace hm := ifF hm hb7
    refine WJ.skip ?_
    refine PJ.next ?_
    refine WJ.seq ?_
    refine WJ.reg ?_
    refine SJ.buildSlice (R := fI64) (os := []) [] Try.runUnderlying27 Try.sizeOf2 Try.zeroValue2 rfl rfl rfl rfl rfl rfl fun v8 => ?_
    refine SJ.q (YldS.yld (y_assign rfl)) rfl ?_
    refine SJ.nil ?_
    refine PJ.next ?_
    refine WJ.seq ?_
    refine WJ.quiet ?_
    refine QJ.step (YldS.yld (y_assign rfl)) rfl ?_
    refine QJ.done ?_
    refine PJ.next ?_
    obtain ⟨kj11, hk12, hm⟩ := withK_open hm
    refine WJ.join (X := (List Int) × Value) (fun (x : (List Int) × Value) => kj11 x.1 = some r) (fun (x : (List Int) × Value) => [(7, x.2)]) (fun (x : (List Int) × Value) => [row x.2 2 fI64 x.1]) ?_ ?_
    · clear hk12
      refine WJ.seq ?_
      refine WJ.quiet ?_
      refine QJ.step (YldS.yld (y_move rfl)) rfl ?_
      refine QJ.step (YldS.yld (y_lenS Try.runUnderlying24 hr3 rfl)) rfl ?_
      refine QJ.step (YldS.yld (y_move rfl)) rfl ?_
      refine QJ.done ?_
      refine PJ.next ?_
      refine WJ.block ?_
      refine WJ.sel (L' := (fun (x : (List Int) × Value × Int × Int) => [row x.2.1 2 fI64 x.1]) ([], v8, 0, 0)) [0] ⟨by decide, rfl⟩ ?_
      refine WJ.sub (m' := (fun (x : (List Int) × Value × Int × Int) => [(0, v2), (1, .int .i64 penalty4), (7, x.2.1), (8, .int .i64 x.2.2.1), (18, v2), (19, .int .i64 (List.length list1 : Int)), (20, .int .i64 x.2.2.2)]) ([], v8, 0, 0)) ⟨rfl, rfl, rfl, rfl, rfl, rfl, rfl, trivial⟩ ?_
      refine WJ.loop (X := (List Int) × Value × Int × Int) (fun N (x : (List Int) × Value × Int × Int) => i_RecordsOf_l1 kj11 list1 penalty4 N x.1 x.2.2.1 x.2.2.2 = some r) (fun (x : (List Int) × Value × Int × Int) => [(0, v2), (1, .int .i64 penalty4), (7, x.2.1), (8, .int .i64 x.2.2.1), (18, v2), (19, .int .i64 (List.length list1 : Int)), (20, .int .i64 x.2.2.2)]) (fun (x : (List Int) × Value × Int × Int) => [row x.2.1 2 fI64 x.1]) ?_ N ([], v8, 0, 0) hm
      · rintro N ⟨l13, v14, best15, x16⟩ hI
        have hm := hI; clear hI
        cases N with
        | zero => cases hm
        | succ N =>
        unfold i_RecordsOf_l1 at hm
        refine WJ.seq ?_
        refine WJ.quiet ?_
        refine QJ.step (YldS.yld (y_bin rfl rfl rfl)) rfl ?_
        refine QJ.done ?_
        refine PJ.next ?_
        refine WJ.seq ?_
        refine WJ.cond (t := decide (x16 < (List.length list1 : Int))) rfl (fun hb17 => ?_) (fun hb17 => ?_)
        · replace hm := ifT hm hb17
          refine WJ.skip ?_
          refine PJ.next ?_
          obtain ⟨kj21, hk22, hm⟩ := withK_open hm
          refine WJ.join (X := (List Int) × Value × Int) (fun (x : (List Int) × Value × Int) => kj21 x.1 x.2.2 = some r) (fun (x : (List Int) × Value × Int) => [(0, v2), (1, .int .i64 penalty4), (7, x.2.1), (8, .int .i64 x.2.2), (18, v2), (19, .int .i64 (List.length list1 : Int)), (20, .int .i64 x16)]) (fun (x : (List Int) × Value × Int) => [row x.2.1 2 fI64 x.1]) ?_ ?_
          · clear hk22
            refine WJ.block ?_
            refine WJ.seq ?_
            refine WJ.reg ?_
            refine SJ.q (YldS.yld (y_move rfl)) rfl ?_
            obtain ⟨e23, h24, hm⟩ := bindS hm
            obtain ⟨ad25, _, rfl, ha26, hy27⟩ := hr3.elem h24
            refine SJ.q (YldS.yld (hy27 Try.runUnderlying24 Try.sizeOf41 rfl rfl)) rfl ?_
            refine SJ.q (YldS.yld (y_loadN Try.isAgg41 Try.sizeOf41 rfl ha26 St.frozenC rfl)) rfl ?_
            refine SJ.alloc (cs := [.int .i64 0, .int .i64 0, .int .i64 0]) Try.zeroValue41 rfl rfl fun g28 => ?_
            refine SJ.q (YldS.yld (y_assign rfl)) rfl ?_
            refine SJ.storeL (k := 0) (off := 0) (us := [.int .i64 e23.strokes, .int .i64 e23.errors, .int .i64 e23.seconds]) rfl rfl rfl rfl Try.sizeOf41 rfl rfl ?_
            refine SJ.nil ?_
            refine PJ.next ?_
            refine WJ.seq ?_
            refine WJ.quiet_draw follows (by kernel_rfl) ?_
            refine QJ.step (YldS.yld (y_move rfl)) rfl ?_
            refine QJ.step (YldS.yld (y_bin rfl rfl rfl)) rfl ?_
            refine QJ.step (YldS.yld (y_move rfl)) rfl ?_
            obtain ⟨t29, h30, hm⟩ := bindS hm
            refine QJ.cut 8 [(0, v2), (1, .int .i64 penalty4), (7, v14), (8, .int .i64 best15), (9, .int .i64 x16), (18, v2), (19, .int .i64 (List.length list1 : Int)), (20, .int .i64 x16), (35, .bool t29)] ?_ ?_
            · rcases Bool.eq_false_or_eq_true (x16 == 0) with hb31 | hb31
              · obtain rfl := orT h30 hb31
                refine QJ.off rfl rfl (cB hb31) rfl rfl ?_
                refine QJ.off rfl rfl (cB hb31) rfl rfl ?_
                refine QJ.off rfl rfl (cB hb31) rfl rfl ?_
                refine QJ.off rfl rfl (cB hb31) rfl rfl ?_
                refine QJ.off rfl rfl (cB hb31) rfl rfl ?_
                refine QJ.off rfl rfl (cB hb31) rfl rfl ?_
                refine QJ.off rfl rfl (cB hb31) rfl rfl ?_
                refine QJ.step (YldS.yld (y_pick_t (cB hb31) rfl)) rfl ?_
                exact QJ.cut_end ⟨rfl, rfl, rfl, rfl, rfl, rfl, rfl, rfl, rfl, trivial⟩
              · replace h30 := orF h30 hb31
                refine QJ.on rfl rfl (cB hb31) (YldS.yld (y_move rfl)) rfl ?_
                refine QJ.on rfl rfl (cB hb31) (YldS.yld (y_move rfl)) rfl ?_
                obtain ⟨e32, h33, h30⟩ := bindS h30
                obtain ⟨ad34, _, rfl, ha35, hy36⟩ := hr3.elem h33
                refine QJ.on rfl rfl (cB hb31) (YldS.yld (hy36 Try.runUnderlying24 Try.sizeOf41 rfl rfl)) rfl ?_
                refine QJ.on rfl rfl (cB hb31) (YldS.yld (y_loadN Try.isAgg41 Try.sizeOf41 rfl ha35 St.frozenC rfl)) rfl ?_
                refine QJ.on rfl rfl (cB hb31) (YldS.yld (y_loadBN (k := 0) (off := 0) (us := [.int .i64 e23.strokes, .int .i64 e23.errors, .int .i64 e23.seconds]) rfl Try.isAgg41 Try.sizeOf41 rfl rfl)) rfl ?_
                refine QJ.on rfl rfl (cB hb31) (YldS.yld (y_move rfl)) rfl ?_
                obtain ⟨r37, h38, h30⟩ := bindS h30
                refine QJ.on rfl rfl (cB hb31) (y_call Try.call61 rfl (RetG.quiet fun w hw => ok_i_Trial_slower h38 w )) rfl ?_
                refine QJ.step (YldS.yld (y_pick_f (cB hb31) rfl)) rfl ?_
                obtain rfl := Option.some.inj h30
                exact QJ.cut_end ⟨rfl, rfl, rfl, rfl, rfl, rfl, rfl, rfl, rfl, trivial⟩
            refine QJ.done ?_
            refine PJ.next ?_
            refine WJ.cond (t := t29) rfl (fun hb39 => ?_) (fun hb39 => ?_)
            · replace hm := ifT hm hb39
              refine WJ.seq ?_
              refine WJ.quiet ?_
              refine QJ.step (YldS.yld (y_move rfl)) rfl ?_
              refine QJ.step (YldS.yld (y_assign rfl)) rfl ?_
              refine QJ.done ?_
              refine PJ.next ?_
              refine WJ.reg ?_
              refine SJ.q (YldS.yld (y_move rfl)) rfl ?_
              refine SJ.q (YldS.yld (y_move rfl)) rfl ?_
              refine SJ.buildSlice (R := fI64) (os := [.tmp 38]) [x16] Try.runUnderlying27 Try.sizeOf2 Try.zeroValue2 rfl rfl rfl rfl rfl rfl fun v40 => ?_
              obtain ⟨l41, h42, hm⟩ := bindS hm
              refine SJ.append (k := 2) (R := fI64) h42 rfl Try.underlying27 el2 rfl rfl rfl (fun w hw => (hw.row_rd (k := 0) rfl)) rfl fun v43 => ?_
              refine SJ.q (YldS.yld (y_assign rfl)) rfl ?_
              refine SJ.nil ?_
              refine PJ.block_normal ?_
              exact PJ.joined (l41, v43, x16) [2] hm ⟨rfl, rfl, rfl, rfl, rfl, rfl, rfl, trivial⟩ ⟨by decide, rfl⟩
            · replace hm := ifF hm hb39
              refine WJ.skip ?_
              refine PJ.block_normal ?_
              exact PJ.joined (l13, v14, best15) [1] hm ⟨rfl, rfl, rfl, rfl, rfl, rfl, rfl, trivial⟩ ⟨by decide, rfl⟩
          · rintro ⟨l18, v19, best20⟩ hm
            subst hk22
            refine WJ.quiet ?_
            refine QJ.step (YldS.yld (y_bin rfl rfl rfl)) rfl ?_
            refine QJ.step (YldS.yld (y_move rfl)) rfl ?_
            refine QJ.done ?_
            exact PJ.round (l18, v19, best20, w64 (x16 + 1)) [0] hm ⟨rfl, rfl, rfl, rfl, rfl, rfl, rfl, trivial⟩ ⟨by decide, rfl⟩
        · replace hm := ifF hm hb17
          refine WJ.exit ?_
          refine PJ.then_exit (PJ.then_exit (PJ.block_exit ?_))
          exact PJ.joined (l13, v14) [0] hm ⟨rfl, trivial⟩ ⟨by decide, rfl⟩
    · rintro ⟨l9, v10⟩ hm
      subst hk12
      refine WJ.seq ?_
      refine WJ.quiet ?_
      refine QJ.step (YldS.yld (y_move rfl)) rfl ?_
      refine QJ.step (YldS.yld (y_assign rfl)) rfl ?_
      refine QJ.step (YldS.yld (y_assign rfl)) rfl ?_
      refine QJ.done ?_
      refine PJ.next ?_
      refine WJ.ret ?_
      obtain rfl := Option.some.inj hm
      refine PJ.sel (L' := [row v10 2 fI64 l9]) [0] ⟨by decide, rfl⟩ ?_
      exact PJ.retn (vs := [v10, .int .i64 0]) Try.results8 ⟨rfl, rfl, trivial⟩ ⟨_, rfl, rfl⟩

set_option maxRecDepth 100000 in
set_option maxHeartbeats 1000000 in
theorem ok_s_l00In {n1 : Int} {low2 : Int} {high3 : Int} {r : Bool} (hm : s_l00In n1 low2 high3 = some r) (w : World)  :
    Calls Try.prog 130 #[.int .i64 n1, .int .i64 low2, .int .i64 high3] w (Ret (cx w) (.bool r)) := by
  unfold s_l00In at hm
  refine Calls.enter [.int .i64 n1, .int .i64 low2, .int .i64 high3] Try.func130 rfl Try.ntmps130 rfl ?_
  refine WJ.seq ?_
  refine WJ.quiet ?_
  refine QJ.step (YldS.yld (y_assign rfl)) rfl ?_
  refine QJ.done ?_
  refine PJ.next ?_
  refine WJ.seq ?_
  refine WJ.quiet ?_
  refine QJ.step (YldS.yld (y_move rfl)) rfl ?_
  refine QJ.step (YldS.yld (y_move rfl)) rfl ?_
  refine QJ.step (YldS.yld (y_bin rfl rfl rfl)) rfl ?_
  refine QJ.step (YldS.yld (y_move rfl)) rfl ?_
  obtain ⟨t4, h5, hm⟩ := bindS hm
  refine QJ.cut 4 [(14, .bool t4)] ?_ ?_
  · rcases Bool.eq_false_or_eq_true (decide (n1 ≥ low2)) with hb6 | hb6
    · replace h5 := andT h5 hb6
      refine QJ.on rfl rfl (cB hb6) (YldS.yld (y_move rfl)) rfl ?_
      refine QJ.on rfl rfl (cB hb6) (YldS.yld (y_move rfl)) rfl ?_
      refine QJ.on rfl rfl (cB hb6) (YldS.yld (y_bin rfl rfl rfl)) rfl ?_
      refine QJ.step (YldS.yld (y_pick_t (cB hb6) rfl)) rfl ?_
      obtain rfl := Option.some.inj h5
      exact QJ.cut_end ⟨rfl, trivial⟩
    · obtain rfl := andF h5 hb6
      refine QJ.off rfl rfl (cB hb6) rfl rfl ?_
      refine QJ.off rfl rfl (cB hb6) rfl rfl ?_
      refine QJ.off rfl rfl (cB hb6) rfl rfl ?_
      refine QJ.step (YldS.yld (y_pick_f (cB hb6) rfl)) rfl ?_
      exact QJ.cut_end ⟨rfl, trivial⟩
  refine QJ.step (YldS.yld (y_assign rfl)) rfl ?_
  refine QJ.done ?_
  refine PJ.next ?_
  refine WJ.ret ?_
  obtain rfl := Option.some.inj hm
  refine PJ.sel (L' := []) [] ⟨List.nodup_nil, rfl⟩ ?_
  exact PJ.retn (vs := [.bool t4]) Try.results130 ⟨rfl, trivial⟩ ⟨rfl, rfl⟩

set_option maxRecDepth 100000 in
set_option maxHeartbeats 1000000 in
theorem ok_s_l20One {x1 : Trial} {r : Bool} (hm : s_l20One x1 = some r) (w : World) (ad2 : Addr) (ha3 : At w (cx w).Fz ad2 (fTrial.enc x1)) :
    Calls Try.prog 113 #[.pointer (some ad2)] w (Ret (cx w) (.bool r)) := by
  unfold s_l20One at hm
  refine Calls.enter [.pointer (some ad2)] Try.func113 rfl Try.ntmps113 rfl ?_
  refine WJ.seq ?_
  refine WJ.quiet ?_
  refine QJ.step (YldS.yld (y_assign rfl)) rfl ?_
  refine QJ.done ?_
  refine PJ.next ?_
  refine WJ.seq ?_
  refine WJ.quiet_draw follows (by kernel_rfl) ?_
  refine QJ.step (YldS.yld (y_move rfl)) rfl ?_
  refine QJ.step (YldS.yld (y_nil rfl)) rfl ?_
  refine QJ.step (YldS.yld (y_fld (ad := ad2) fld41_0 rfl)) rfl ?_
  refine QJ.step (YldS.yld (y_load1 (v := .int .i64 x1.strokes) Try.isAgg2 (ha3.sub 0 1) St.frozenC rfl)) rfl ?_
  obtain ⟨r4, h5, hm⟩ := bindS hm
  refine QJ.step (y_call Try.call130 rfl (RetG.quiet fun w hw => ok_s_l00In h5 w )) rfl ?_
  refine QJ.step (YldS.yld (y_move rfl)) rfl ?_
  obtain ⟨t6, h7, hm⟩ := bindS hm
  refine QJ.cut 10 [(0, .pointer (some ad2)), (18, .bool t6)] ?_ ?_
  · rcases Bool.eq_false_or_eq_true r4 with hb8 | hb8
    · replace h7 := andT h7 hb8
      refine QJ.on rfl rfl (cB hb8) (YldS.yld (y_move rfl)) rfl ?_
      refine QJ.on rfl rfl (cB hb8) (YldS.yld (y_nil rfl)) rfl ?_
      refine QJ.on rfl rfl (cB hb8) (YldS.yld (y_fld (ad := ad2) fld41_1 rfl)) rfl ?_
      refine QJ.on rfl rfl (cB hb8) (YldS.yld (y_load1 (v := .int .i64 x1.errors) Try.isAgg2 (ha3.sub 1 1) St.frozenC rfl)) rfl ?_
      refine QJ.on rfl rfl (cB hb8) (YldS.yld (y_move rfl)) rfl ?_
      refine QJ.on rfl rfl (cB hb8) (YldS.yld (y_nil rfl)) rfl ?_
      refine QJ.on rfl rfl (cB hb8) (YldS.yld (y_fld (ad := ad2) fld41_0 rfl)) rfl ?_
      refine QJ.on rfl rfl (cB hb8) (YldS.yld (y_load1 (v := .int .i64 x1.strokes) Try.isAgg2 (ha3.sub 0 1) St.frozenC rfl)) rfl ?_
      obtain ⟨r9, h10, h7⟩ := bindS h7
      refine QJ.on rfl rfl (cB hb8) (y_call Try.call130 rfl (RetG.quiet fun w hw => ok_s_l00In h10 w )) rfl ?_
      refine QJ.step (YldS.yld (y_pick_t (cB hb8) rfl)) rfl ?_
      obtain rfl := Option.some.inj h7
      exact QJ.cut_end ⟨rfl, rfl, trivial⟩
    · obtain rfl := andF h7 hb8
      refine QJ.off rfl rfl (cB hb8) rfl rfl ?_
      refine QJ.off rfl rfl (cB hb8) rfl rfl ?_
      refine QJ.off rfl rfl (cB hb8) rfl rfl ?_
      refine QJ.off rfl rfl (cB hb8) rfl rfl ?_
      refine QJ.off rfl rfl (cB hb8) rfl rfl ?_
      refine QJ.off rfl rfl (cB hb8) rfl rfl ?_
      refine QJ.off rfl rfl (cB hb8) rfl rfl ?_
      refine QJ.off rfl rfl (cB hb8) rfl rfl ?_
      refine QJ.off rfl rfl (cB hb8) rfl rfl ?_
      refine QJ.step (YldS.yld (y_pick_f (cB hb8) rfl)) rfl ?_
      exact QJ.cut_end ⟨rfl, rfl, trivial⟩
  refine QJ.step (YldS.yld (y_move rfl)) rfl ?_
  obtain ⟨t11, h12, hm⟩ := bindS hm
  refine QJ.cut 6 [(25, .bool t11)] ?_ ?_
  · rcases Bool.eq_false_or_eq_true t6 with hb13 | hb13
    · replace h12 := andT h12 hb13
      refine QJ.on rfl rfl (cB hb13) (YldS.yld (y_move rfl)) rfl ?_
      refine QJ.on rfl rfl (cB hb13) (YldS.yld (y_nil rfl)) rfl ?_
      refine QJ.on rfl rfl (cB hb13) (YldS.yld (y_fld (ad := ad2) fld41_2 rfl)) rfl ?_
      refine QJ.on rfl rfl (cB hb13) (YldS.yld (y_load1 (v := .int .i64 x1.seconds) Try.isAgg2 (ha3.sub 2 1) St.frozenC rfl)) rfl ?_
      obtain ⟨r14, h15, h12⟩ := bindS h12
      refine QJ.on rfl rfl (cB hb13) (y_call Try.call130 rfl (RetG.quiet fun w hw => ok_s_l00In h15 w )) rfl ?_
      refine QJ.step (YldS.yld (y_pick_t (cB hb13) rfl)) rfl ?_
      obtain rfl := Option.some.inj h12
      exact QJ.cut_end ⟨rfl, trivial⟩
    · obtain rfl := andF h12 hb13
      refine QJ.off rfl rfl (cB hb13) rfl rfl ?_
      refine QJ.off rfl rfl (cB hb13) rfl rfl ?_
      refine QJ.off rfl rfl (cB hb13) rfl rfl ?_
      refine QJ.off rfl rfl (cB hb13) rfl rfl ?_
      refine QJ.off rfl rfl (cB hb13) rfl rfl ?_
      refine QJ.step (YldS.yld (y_pick_f (cB hb13) rfl)) rfl ?_
      exact QJ.cut_end ⟨rfl, trivial⟩
  refine QJ.step (YldS.yld (y_assign rfl)) rfl ?_
  refine QJ.done ?_
  refine PJ.next ?_
  refine WJ.ret ?_
  obtain rfl := Option.some.inj hm
  refine PJ.sel (L' := []) [] ⟨List.nodup_nil, rfl⟩ ?_
  exact PJ.retn (vs := [.bool t11]) Try.results113 ⟨rfl, trivial⟩ ⟨rfl, rfl⟩

set_option maxRecDepth 100000 in
set_option maxHeartbeats 1000000 in
theorem ok_s_l20Ok {N : Nat} {list1 : List Trial} {r : Bool} (hm : s_l20Ok N list1 = some r) (w : World) (v2 : Value) (hr3 : RdS w (cx w).Fz v2 fTrial.rp list1) :
    Calls Try.prog 73 #[v2] w (Ret (cx w) (.bool r)) := by
  unfold s_l20Ok at hm
  refine Calls.enter [v2] Try.func73 rfl Try.ntmps73 rfl ?_
  refine WJ.seq ?_
  refine WJ.quiet ?_
  refine QJ.step (YldS.yld (y_assign rfl)) rfl ?_
  refine QJ.done ?_
  refine PJ.next ?_
  obtain ⟨kj4, hk5, hm⟩ := withK_open hm
  refine WJ.join (X := Unit) (fun (_ : Unit) => kj4  = some r) (fun (_ : Unit) => [(0, v2)]) (fun (_ : Unit) => []) ?_ ?_
  · clear hk5
    refine WJ.seq ?_
    refine WJ.quiet ?_
    refine QJ.step (YldS.yld (y_assign rfl)) rfl ?_
    refine QJ.done ?_
    refine PJ.next ?_
    refine WJ.block ?_
    refine WJ.sel (L' := (fun (x : Int) => []) 0) [] ⟨List.nodup_nil, rfl⟩ ?_
    refine WJ.sub (m' := (fun (x : Int) => [(0, v2), (3, .int .i64 x)]) 0) ⟨rfl, rfl, trivial⟩ ?_
    refine WJ.loop (X := Int) (fun N (x : Int) => s_l20Ok_l1 kj4 list1 N x = some r) (fun (x : Int) => [(0, v2), (3, .int .i64 x)]) (fun (x : Int) => []) ?_ N 0 hm
    · rintro N i6 hI
      have hm := hI; clear hI
      cases N with
      | zero => cases hm
      | succ N =>
      unfold s_l20Ok_l1 at hm
      refine WJ.seq ?_
      refine WJ.seq ?_
      refine WJ.quiet ?_
      refine QJ.step (YldS.yld (y_move rfl)) rfl ?_
      refine QJ.step (YldS.yld (y_move rfl)) rfl ?_
      refine QJ.step (YldS.yld (y_lenS Try.runUnderlying24 hr3 rfl)) rfl ?_
      refine QJ.step (YldS.yld (y_bin rfl rfl rfl)) rfl ?_
      refine QJ.done ?_
      refine PJ.next ?_
      refine WJ.cond (t := decide (i6 < (List.length list1 : Int))) rfl (fun hb7 => ?_) (fun hb7 => ?_)
      · replace hm := ifT hm hb7
        refine WJ.skip ?_
        refine PJ.next ?_
        refine WJ.seq ?_
        refine WJ.block ?_
        refine WJ.seq ?_
        refine WJ.quiet ?_
        refine QJ.step (YldS.yld (y_move rfl)) rfl ?_
        refine QJ.step (YldS.yld (y_move rfl)) rfl ?_
        obtain ⟨e8, h9, hm⟩ := bindS hm
        obtain ⟨ad10, _, rfl, ha11, hy12⟩ := hr3.elem h9
        refine QJ.step (YldS.yld (hy12 Try.runUnderlying24 Try.sizeOf41 rfl rfl)) rfl ?_
        obtain ⟨r13, h14, hm⟩ := bindS hm
        refine QJ.step (y_call Try.call113 rfl (RetG.quiet fun w hw => ok_s_l20One h14 w _ (ha11.st hw))) rfl ?_
        refine QJ.step (YldS.yld (y_not rfl)) rfl ?_
        refine QJ.done ?_
        refine PJ.next ?_
        refine WJ.cond (t := !r13) rfl (fun hb15 => ?_) (fun hb15 => ?_)
        · replace hm := ifT hm hb15
          refine WJ.seq ?_
          refine WJ.quiet ?_
          refine QJ.step (YldS.yld (y_assign rfl)) rfl ?_
          refine QJ.done ?_
          refine PJ.next ?_
          refine WJ.ret ?_
          refine PJ.block_ret (PJ.then_ret (PJ.then_ret (PJ.block_ret (PJ.then_ret ?_))))
          obtain rfl := Option.some.inj hm
          refine PJ.sel (L' := []) [] ⟨List.nodup_nil, rfl⟩ ?_
          exact PJ.retn (vs := [.bool false]) Try.results73 ⟨rfl, trivial⟩ ⟨rfl, rfl⟩
        · replace hm := ifF hm hb15
          refine WJ.skip ?_
          refine PJ.block_normal (PJ.next ?_)
          refine WJ.quiet ?_
          refine QJ.step (YldS.yld (y_move rfl)) rfl ?_
          refine QJ.step (YldS.yld (y_bin rfl rfl rfl)) rfl ?_
          refine QJ.step (YldS.yld (y_assign rfl)) rfl ?_
          refine QJ.done ?_
          exact PJ.round (w64 (i6 + 1)) [] hm ⟨rfl, rfl, trivial⟩ ⟨List.nodup_nil, rfl⟩
      · replace hm := ifF hm hb7
        refine WJ.exit ?_
        refine PJ.then_exit (PJ.then_exit (PJ.block_exit ?_))
        exact PJ.joined () [] hm ⟨rfl, trivial⟩ ⟨List.nodup_nil, rfl⟩
  · rintro _ hm
    subst hk5
    refine WJ.seq ?_
    refine WJ.quiet ?_
    refine QJ.step (YldS.yld (y_move rfl)) rfl ?_
    refine QJ.step (YldS.yld (y_lenS Try.runUnderlying24 hr3 rfl)) rfl ?_
    refine QJ.step (YldS.yld (y_bin rfl rfl rfl)) rfl ?_
    refine QJ.step (YldS.yld (y_assign rfl)) rfl ?_
    refine QJ.done ?_
    refine PJ.next ?_
    refine WJ.ret ?_
    obtain rfl := Option.some.inj hm
    refine PJ.sel (L' := []) [] ⟨List.nodup_nil, rfl⟩ ?_
    exact PJ.retn (vs := [.bool (decide ((List.length list1 : Int) ≤ 40))]) Try.results73 ⟨rfl, trivial⟩ ⟨rfl, rfl⟩

set_option maxRecDepth 100000 in
set_option maxHeartbeats 1000000 in
theorem ok_s_l20Penalty {n1 : Int} {r : Bool} (hm : s_l20Penalty n1 = some r) (w : World)  :
    Calls Try.prog 104 #[.int .i64 n1] w (Ret (cx w) (.bool r)) := by
  unfold s_l20Penalty at hm
  refine Calls.enter [.int .i64 n1] Try.func104 rfl Try.ntmps104 rfl ?_
  refine WJ.seq ?_
  refine WJ.quiet ?_
  refine QJ.step (YldS.yld (y_assign rfl)) rfl ?_
  refine QJ.done ?_
  refine PJ.next ?_
  refine WJ.seq ?_
  refine WJ.quiet ?_
  refine QJ.step (YldS.yld (y_move rfl)) rfl ?_
  obtain ⟨r2, h3, hm⟩ := bindS hm
  refine QJ.step (y_call Try.call130 rfl (RetG.quiet fun w hw => ok_s_l00In h3 w )) rfl ?_
  refine QJ.step (YldS.yld (y_assign rfl)) rfl ?_
  refine QJ.done ?_
  refine PJ.next ?_
  refine WJ.ret ?_
  obtain rfl := Option.some.inj hm
  refine PJ.sel (L' := []) [] ⟨List.nodup_nil, rfl⟩ ?_
  exact PJ.retn (vs := [.bool r2]) Try.results104 ⟨rfl, trivial⟩ ⟨rfl, rfl⟩

set_option maxRecDepth 100000 in
set_option maxHeartbeats 1000000 in
theorem ok_s_l20List {N : Nat} {list1 : List Trial} {penalty4 : Int} {r : Int} (hm : s_l20List N list1 penalty4 = some r) (w : World) (v2 : Value) (hr3 : RdS w (cx w).Fz v2 fTrial.rp list1) :
    Calls Try.prog 62 #[v2, .int .i64 penalty4] w (Ret (cx w) (.int .i64 r)) := by
  unfold s_l20List at hm
  refine Calls.enter [v2, .int .i64 penalty4] Try.func62 rfl Try.ntmps62 rfl ?_
  refine WJ.seq ?_
  refine WJ.quiet ?_
  refine QJ.step (YldS.yld (y_assign rfl)) rfl ?_
  refine QJ.done ?_
  refine PJ.next ?_
  refine WJ.seq ?_
  refine WJ.seq ?_
  refine WJ.quiet ?_
  refine QJ.step (YldS.yld (y_move rfl)) rfl ?_
  obtain ⟨r5, h6, hm⟩ := bindS hm
  refine QJ.step (y_call Try.call73 rfl (RetG.quiet fun w hw => ok_s_l20Ok h6 w _ (hr3.st hw))) rfl ?_
  refine QJ.step (YldS.yld (y_not rfl)) rfl ?_
  refine QJ.done ?_
  refine PJ.next ?_
  refine WJ.cond (t := !r5) rfl (fun hb7 => ?_) (fun hb7 => ?_)
  · replace hm := ifT hm hb7
    refine WJ.seq ?_
    refine WJ.quiet ?_
    refine QJ.step (YldS.yld (y_assign rfl)) rfl ?_
    refine QJ.done ?_
    refine PJ.next ?_
    refine WJ.ret ?_
    refine PJ.then_ret ?_
    obtain rfl := Option.some.inj hm
    refine PJ.sel (L' := []) [] ⟨List.nodup_nil, rfl⟩ ?_
    exact PJ.retn (vs := [.int .i64 1]) Try.results62 ⟨rfl, trivial⟩ ⟨rfl, rfl⟩
  · replace hm := ifF hm hb7
    refine WJ.skip ?_
    refine PJ.next ?_
    refine WJ.seq ?_
    refine WJ.seq ?_
    refine WJ.quiet ?_
    refine QJ.step (YldS.yld (y_move rfl)) rfl ?_
    obtain ⟨r8, h9, hm⟩ := bindS hm
    refine QJ.step (y_call Try.call104 rfl (RetG.quiet fun w hw => ok_s_l20Penalty h9 w )) rfl ?_
    refine QJ.step (YldS.yld (y_not rfl)) rfl ?_
    refine QJ.done ?_
    refine PJ.next ?_
    refine WJ.cond (t := !r8) rfl (fun hb10 => ?_) (fun hb10 => ?_)
    · replace hm := ifT hm hb10
      refine WJ.seq ?_
      refine WJ.quiet ?_
      refine QJ.step (YldS.yld (y_assign rfl)) rfl ?_
      refine QJ.done ?_
      refine PJ.next ?_
      refine WJ.ret ?_
      refine PJ.then_ret ?_
      obtain rfl := Option.some.inj hm
      refine PJ.sel (L' := []) [] ⟨List.nodup_nil, rfl⟩ ?_
      exact PJ.retn (vs := [.int .i64 2]) Try.results62 ⟨rfl, trivial⟩ ⟨rfl, rfl⟩
    · replace hm := ifF hm hb10
      refine WJ.skip ?_
      refine PJ.next ?_
      refine WJ.seq ?_
      refine WJ.quiet ?_
      refine QJ.step (YldS.yld (y_assign rfl)) rfl ?_
      refine QJ.done ?_
      refine PJ.next ?_
      refine WJ.ret ?_
      obtain rfl := Option.some.inj hm
      refine PJ.sel (L' := []) [] ⟨List.nodup_nil, rfl⟩ ?_
      exact PJ.retn (vs := [.int .i64 0]) Try.results62 ⟨rfl, trivial⟩ ⟨rfl, rfl⟩

set_option maxRecDepth 100000 in
set_option maxHeartbeats 1000000 in
theorem ok_s_l00Max {a1 : Int} {b2 : Int} {r : Int} (hm : s_l00Max a1 b2 = some r) (w : World)  :
    Calls Try.prog 131 #[.int .i64 a1, .int .i64 b2] w (Ret (cx w) (.int .i64 r)) := by
  unfold s_l00Max at hm
  refine Calls.enter [.int .i64 a1, .int .i64 b2] Try.func131 rfl Try.ntmps131 rfl ?_
  refine WJ.seq ?_
  refine WJ.quiet ?_
  refine QJ.step (YldS.yld (y_assign rfl)) rfl ?_
  refine QJ.done ?_
  refine PJ.next ?_
  refine WJ.seq ?_
  refine WJ.seq ?_
  refine WJ.quiet ?_
  refine QJ.step (YldS.yld (y_move rfl)) rfl ?_
  refine QJ.step (YldS.yld (y_move rfl)) rfl ?_
  refine QJ.step (YldS.yld (y_bin rfl rfl rfl)) rfl ?_
  refine QJ.done ?_
  refine PJ.next ?_
  refine WJ.cond (t := decide (a1 > b2)) rfl (fun hb3 => ?_) (fun hb3 => ?_)
  · replace hm := ifT hm hb3
    refine WJ.seq ?_
    refine WJ.quiet ?_
    refine QJ.step (YldS.yld (y_move rfl)) rfl ?_
    refine QJ.step (YldS.yld (y_assign rfl)) rfl ?_
    refine QJ.done ?_
    refine PJ.next ?_
    refine WJ.ret ?_
    refine PJ.then_ret ?_
    obtain rfl := Option.some.inj hm
    refine PJ.sel (L' := []) [] ⟨List.nodup_nil, rfl⟩ ?_
    exact PJ.retn (vs := [.int .i64 a1]) Try.results131 ⟨rfl, trivial⟩ ⟨rfl, rfl⟩
  · replace hm := ifF hm hb3
    refine WJ.skip ?_
    refine PJ.next ?_
    refine WJ.seq ?_
    refine WJ.quiet ?_
    refine QJ.step (YldS.yld (y_move rfl)) rfl ?_
    refine QJ.step (YldS.yld (y_assign rfl)) rfl ?_
    refine QJ.done ?_
    refine PJ.next ?_
    refine WJ.ret ?_
    obtain rfl := Option.some.inj hm
    refine PJ.sel (L' := []) [] ⟨List.nodup_nil, rfl⟩ ?_
    exact PJ.retn (vs := [.int .i64 b2]) Try.results131 ⟨rfl, trivial⟩ ⟨rfl, rfl⟩

set_option maxRecDepth 100000 in
set_option maxHeartbeats 1000000 in
theorem ok_s_l20Net {x1 : Trial} {penalty4 : Int} {r : Int} (hm : s_l20Net x1 penalty4 = some r) (w : World) (ad2 : Addr) (ha3 : At w (cx w).Fz ad2 (fTrial.enc x1)) :
    Calls Try.prog 105 #[.pointer (some ad2), .int .i64 penalty4] w (Ret (cx w) (.int .i64 r)) := by
  unfold s_l20Net at hm
  refine Calls.enter [.pointer (some ad2), .int .i64 penalty4] Try.func105 rfl Try.ntmps105 rfl ?_
  refine WJ.seq ?_
  refine WJ.quiet ?_
  refine QJ.step (YldS.yld (y_assign rfl)) rfl ?_
  refine QJ.done ?_
  refine PJ.next ?_
  refine WJ.seq ?_
  refine WJ.quiet_draw follows (by kernel_rfl) ?_
  refine QJ.step (YldS.yld (y_move rfl)) rfl ?_
  refine QJ.step (YldS.yld (y_nil rfl)) rfl ?_
  refine QJ.step (YldS.yld (y_fld (ad := ad2) fld41_0 rfl)) rfl ?_
  refine QJ.step (YldS.yld (y_load1 (v := .int .i64 x1.strokes) Try.isAgg2 (ha3.sub 0 1) St.frozenC rfl)) rfl ?_
  refine QJ.step (YldS.yld (y_move rfl)) rfl ?_
  refine QJ.step (YldS.yld (y_move rfl)) rfl ?_
  refine QJ.step (YldS.yld (y_nil rfl)) rfl ?_
  refine QJ.step (YldS.yld (y_fld (ad := ad2) fld41_1 rfl)) rfl ?_
  refine QJ.step (YldS.yld (y_load1 (v := .int .i64 x1.errors) Try.isAgg2 (ha3.sub 1 1) St.frozenC rfl)) rfl ?_
  refine QJ.step (YldS.yld (y_bin rfl rfl rfl)) rfl ?_
  refine QJ.step (YldS.yld (y_bin rfl rfl rfl)) rfl ?_
  obtain ⟨r5, h6, hm⟩ := bindS hm
  refine QJ.step (y_call Try.call131 rfl (RetG.quiet fun w hw => ok_s_l00Max h6 w )) rfl ?_
  refine QJ.step (YldS.yld (y_assign rfl)) rfl ?_
  refine QJ.done ?_
  refine PJ.next ?_
  refine WJ.ret ?_
  obtain rfl := Option.some.inj hm
  refine PJ.sel (L' := []) [] ⟨List.nodup_nil, rfl⟩ ?_
  exact PJ.retn (vs := [.int .i64 r5]) Try.results105 ⟨rfl, trivial⟩ ⟨rfl, rfl⟩

set_option maxRecDepth 100000 in
set_option maxHeartbeats 1000000 in
theorem ok_s_l20Less {a1 : Trial} {b4 : Trial} {penalty7 : Int} {r : Bool} (hm : s_l20Less a1 b4 penalty7 = some r) (w : World) (ad2 : Addr) (ha3 : At w (cx w).Fz ad2 (fTrial.enc a1)) (ad5 : Addr) (ha6 : At w (cx w).Fz ad5 (fTrial.enc b4)) :
    Calls Try.prog 63 #[.pointer (some ad2), .pointer (some ad5), .int .i64 penalty7] w (Ret (cx w) (.bool r)) := by
  unfold s_l20Less at hm
  refine Calls.enter [.pointer (some ad2), .pointer (some ad5), .int .i64 penalty7] Try.func63 rfl Try.ntmps63 rfl ?_
  refine WJ.seq ?_
  refine WJ.quiet ?_
  refine QJ.step (YldS.yld (y_assign rfl)) rfl ?_
  refine QJ.done ?_
  refine PJ.next ?_
  refine WJ.seq ?_
  refine WJ.quiet_draw follows (by kernel_rfl) ?_
  refine QJ.step (YldS.yld (y_move rfl)) rfl ?_
  refine QJ.step (YldS.yld (y_move rfl)) rfl ?_
  obtain ⟨r8, h9, hm⟩ := bindS hm
  refine QJ.step (y_call Try.call105 rfl (RetG.quiet fun w hw => ok_s_l20Net h9 w _ (ha3.st hw))) rfl ?_
  refine QJ.step (YldS.yld (y_move rfl)) rfl ?_
  refine QJ.step (YldS.yld (y_nil rfl)) rfl ?_
  refine QJ.step (YldS.yld (y_fld (ad := ad5) fld41_2 rfl)) rfl ?_
  refine QJ.step (YldS.yld (y_load1 (v := .int .i64 b4.seconds) Try.isAgg2 (ha6.sub 2 1) St.frozenC rfl)) rfl ?_
  refine QJ.step (YldS.yld (y_bin rfl rfl rfl)) rfl ?_
  refine QJ.step (YldS.yld (y_move rfl)) rfl ?_
  refine QJ.step (YldS.yld (y_move rfl)) rfl ?_
  obtain ⟨r10, h11, hm⟩ := bindS hm
  refine QJ.step (y_call Try.call105 rfl (RetG.quiet fun w hw => ok_s_l20Net h11 w _ (ha6.st hw))) rfl ?_
  refine QJ.step (YldS.yld (y_move rfl)) rfl ?_
  refine QJ.step (YldS.yld (y_nil rfl)) rfl ?_
  refine QJ.step (YldS.yld (y_fld (ad := ad2) fld41_2 rfl)) rfl ?_
  refine QJ.step (YldS.yld (y_load1 (v := .int .i64 a1.seconds) Try.isAgg2 (ha3.sub 2 1) St.frozenC rfl)) rfl ?_
  refine QJ.step (YldS.yld (y_bin rfl rfl rfl)) rfl ?_
  refine QJ.step (YldS.yld (y_bin rfl rfl rfl)) rfl ?_
  refine QJ.step (YldS.yld (y_assign rfl)) rfl ?_
  refine QJ.done ?_
  refine PJ.next ?_
  refine WJ.ret ?_
  obtain rfl := Option.some.inj hm
  refine PJ.sel (L' := []) [] ⟨List.nodup_nil, rfl⟩ ?_
  exact PJ.retn (vs := [.bool (decide ((w64 (r8 * b4.seconds)) < (w64 (r10 * a1.seconds))))]) Try.results63 ⟨rfl, trivial⟩ ⟨rfl, rfl⟩

set_option maxRecDepth 100000 in
set_option maxHeartbeats 1000000 in
theorem ok_s_RecordsOf {N : Nat} {list1 : List Trial} {penalty4 : Int} {r : (List Int) × Int} (hm : s_RecordsOf N list1 penalty4 = some r) (w : World) (v2 : Value) (hr3 : RdS w (cx w).Fz v2 fTrial.rp list1) :
    Calls Try.prog 9 #[v2, .int .i64 penalty4] w (RetG (cx w) fun u L => ∃ (u1 : Value), (u = tup [u1, .int .i64 r.2] ∧ L = [row u1 2 fI64 r.1])) := by
  unfold s_RecordsOf at hm
  refine Calls.enter [v2, .int .i64 penalty4] Try.func9 rfl Try.ntmps9 rfl ?_
  refine WJ.seq ?_
  refine WJ.quiet ?_
  refine QJ.step (YldS.yld (y_assign rfl)) rfl ?_
  refine QJ.step (YldS.yld (y_assign rfl)) rfl ?_
  refine QJ.done ?_
  refine PJ.next ?_
  refine WJ.seq ?_
  refine WJ.quiet ?_
  refine QJ.step (YldS.yld (y_move rfl)) rfl ?_
  refine QJ.step (YldS.yld (y_move rfl)) rfl ?_
  obtain ⟨r5, h6, hm⟩ := bindS hm
  refine QJ.step (y_call Try.call62 rfl (RetG.quiet fun w hw => ok_s_l20List h6 w _ (hr3.st hw))) rfl ?_
  refine QJ.step (YldS.yld (y_assign rfl)) rfl ?_
  refine QJ.done ?_
  refine PJ.next ?_
  refine WJ.seq ?_
  refine WJ.seq ?_
  refine WJ.quiet ?_
  refine QJ.step (YldS.yld (y_move rfl)) rfl ?_
  refine QJ.step (YldS.yld (y_bin rfl rfl rfl)) rfl ?_
  refine QJ.done ?_
  refine PJ.next ?_
  refine WJ.cond (t := (r5 != 0)) rfl (fun hb7 => ?_) (fun hb7 => ?_)
  · replace hm := ifT hm hb7
    refine WJ.seq ?_
    refine WJ.quiet ?_
    refine QJ.step (YldS.yld (y_move rfl)) rfl ?_
    refine QJ.step (YldS.yld (y_assign rfl)) rfl ?_
    refine QJ.step (YldS.yld (y_assign rfl)) rfl ?_
    refine QJ.done ?_
    refine PJ.next ?_
    refine WJ.ret ?_
    refine PJ.then_ret ?_
    refine PJ.nil_row 2 fI64 ?_
    obtain rfl := Option.some.inj hm
    refine PJ.sel (L' := [row (.slice none 0 0) 2 fI64 []]) [0] ⟨by decide, rfl⟩ ?_
    exact PJ.retn (vs := [(.slice none 0 0), .int .i64 r5]) Try.results9 ⟨rfl, rfl, trivial⟩ ⟨_, rfl, rfl⟩
  · replace hm := ifF hm hb7
    refine WJ.skip ?_
    refine PJ.next ?_
    refine WJ.seq ?_
    refine WJ.reg ?_
    refine SJ.buildSlice (R := fI64) (os := []) [] Try.runUnderlying27 Try.sizeOf2 Try.zeroValue2 rfl rfl rfl rfl rfl rfl fun v8 => ?_
    refine SJ.q (YldS.yld (y_assign rfl)) rfl ?_
    refine SJ.nil ?_
    refine PJ.next ?_
    obtain ⟨kj11, hk12, hm⟩ := withK_open hm
    refine WJ.join (X := (List Int) × Value) (fun (x : (List Int) × Value) => kj11 x.1 = some r) (fun (x : (List Int) × Value) => [(7, x.2)]) (fun (x : (List Int) × Value) => [row x.2 2 fI64 x.1]) ?_ ?_
    · clear hk12
      refine WJ.seq ?_
      refine WJ.quiet ?_
      refine QJ.step (YldS.yld (y_assign rfl)) rfl ?_
      refine QJ.done ?_
      refine PJ.next ?_
      refine WJ.block ?_
      refine WJ.sel (L' := (fun (x : (List Int) × Value × Int) => [row x.2.1 2 fI64 x.1]) ([], v8, 0)) [0] ⟨by decide, rfl⟩ ?_
      refine WJ.sub (m' := (fun (x : (List Int) × Value × Int) => [(0, v2), (1, .int .i64 penalty4), (7, x.2.1), (8, .int .i64 x.2.2)]) ([], v8, 0)) ⟨rfl, rfl, rfl, rfl, trivial⟩ ?_
      refine WJ.loop (X := (List Int) × Value × Int) (fun N (x : (List Int) × Value × Int) => s_RecordsOf_l1 kj11 list1 penalty4 N x.1 x.2.2 = some r) (fun (x : (List Int) × Value × Int) => [(0, v2), (1, .int .i64 penalty4), (7, x.2.1), (8, .int .i64 x.2.2)]) (fun (x : (List Int) × Value × Int) => [row x.2.1 2 fI64 x.1]) ?_ N ([], v8, 0) hm
      · rintro N ⟨l13, v14, i15⟩ hI
        have hm := hI; clear hI
        cases N with
        | zero => cases hm
        | succ N =>
        unfold s_RecordsOf_l1 at hm
        refine WJ.seq ?_
        refine WJ.seq ?_
        refine WJ.quiet ?_
        refine QJ.step (YldS.yld (y_move rfl)) rfl ?_
        refine QJ.step (YldS.yld (y_move rfl)) rfl ?_
        refine QJ.step (YldS.yld (y_lenS Try.runUnderlying24 hr3 rfl)) rfl ?_
        refine QJ.step (YldS.yld (y_bin rfl rfl rfl)) rfl ?_
        refine QJ.done ?_
        refine PJ.next ?_
        refine WJ.cond (t := decide (i15 < (List.length list1 : Int))) rfl (fun hb16 => ?_) (fun hb16 => ?_)
        · replace hm := ifT hm hb16
          refine WJ.skip ?_
          refine PJ.next ?_
          obtain ⟨kj19, hk20, hm⟩ := withK_open hm
          refine WJ.join (X := (List Int) × Value) (fun (x : (List Int) × Value) => kj19 x.1 = some r) (fun (x : (List Int) × Value) => [(0, v2), (1, .int .i64 penalty4), (7, x.2), (8, .int .i64 i15)]) (fun (x : (List Int) × Value) => [row x.2 2 fI64 x.1]) ?_ ?_
          · clear hk20
            refine WJ.block ?_
            refine WJ.seq ?_
            refine WJ.quiet_draw follows (by kernel_rfl) ?_
            refine QJ.step (YldS.yld (y_move rfl)) rfl ?_
            refine QJ.step (YldS.yld (y_lenRow (k := 0) rfl Try.runUnderlying27 rfl)) rfl ?_
            refine QJ.step (YldS.yld (y_bin rfl rfl rfl)) rfl ?_
            refine QJ.step (YldS.yld (y_move rfl)) rfl ?_
            obtain ⟨t21, h22, hm⟩ := bindS hm
            refine QJ.cut 14 [(0, v2), (1, .int .i64 penalty4), (7, v14), (8, .int .i64 i15), (39, .bool t21)] ?_ ?_
            · rcases Bool.eq_false_or_eq_true ((List.length l13 : Int) == 0) with hb23 | hb23
              · obtain rfl := orT h22 hb23
                refine QJ.off rfl rfl (cB hb23) rfl rfl ?_
                refine QJ.off rfl rfl (cB hb23) rfl rfl ?_
                refine QJ.off rfl rfl (cB hb23) rfl rfl ?_
                refine QJ.off rfl rfl (cB hb23) rfl rfl ?_
                refine QJ.off rfl rfl (cB hb23) rfl rfl ?_
                refine QJ.off rfl rfl (cB hb23) rfl rfl ?_
                refine QJ.off rfl rfl (cB hb23) rfl rfl ?_
                refine QJ.off rfl rfl (cB hb23) rfl rfl ?_
                refine QJ.off rfl rfl (cB hb23) rfl rfl ?_
                refine QJ.off rfl rfl (cB hb23) rfl rfl ?_
                refine QJ.off rfl rfl (cB hb23) rfl rfl ?_
                refine QJ.off rfl rfl (cB hb23) rfl rfl ?_
                refine QJ.off rfl rfl (cB hb23) rfl rfl ?_
                refine QJ.step (YldS.yld (y_pick_t (cB hb23) rfl)) rfl ?_
                exact QJ.cut_end ⟨rfl, rfl, rfl, rfl, rfl, trivial⟩
              · replace h22 := orF h22 hb23
                refine QJ.on rfl rfl (cB hb23) (YldS.yld (y_move rfl)) rfl ?_
                refine QJ.on rfl rfl (cB hb23) (YldS.yld (y_move rfl)) rfl ?_
                refine QJ.on rfl rfl (cB hb23) (YldS.yld (y_move rfl)) rfl ?_
                refine QJ.on rfl rfl (cB hb23) (YldS.yld (y_lenRow (k := 0) rfl Try.runUnderlying27 rfl)) rfl ?_
                refine QJ.on rfl rfl (cB hb23) (YldS.yld (y_bin rfl rfl rfl)) rfl ?_
                obtain ⟨e24, h25, h22⟩ := bindS h22
                refine QJ.on rfl rfl (cB hb23) (YldS.yld (y_ixRow (k := 0) (R := fI64) rfl Try.runUnderlying27 Try.sizeOf2 rfl rfl h25)) rfl ?_
                refine QJ.on rfl rfl (cB hb23) (YldS.yld (y_loadR (k := 0) (i := (Int.toNat (w64 ((List.length l13 : Int) - 1)))) (off := 0) (u := .int .i64 e24) rfl Try.isAgg2 rfl (idx_get h25) rfl)) rfl ?_
                obtain ⟨e26, h27, h22⟩ := bindS h22
                obtain ⟨ad28, _, rfl, ha29, hy30⟩ := hr3.elem h27
                refine QJ.on rfl rfl (cB hb23) (YldS.yld (hy30 Try.runUnderlying24 Try.sizeOf41 rfl rfl)) rfl ?_
                refine QJ.on rfl rfl (cB hb23) (YldS.yld (y_move rfl)) rfl ?_
                refine QJ.on rfl rfl (cB hb23) (YldS.yld (y_move rfl)) rfl ?_
                obtain ⟨e31, h32, h22⟩ := bindS h22
                obtain ⟨ad33, _, rfl, ha34, hy35⟩ := hr3.elem h32
                refine QJ.on rfl rfl (cB hb23) (YldS.yld (hy35 Try.runUnderlying24 Try.sizeOf41 rfl rfl)) rfl ?_
                refine QJ.on rfl rfl (cB hb23) (YldS.yld (y_move rfl)) rfl ?_
                obtain ⟨r36, h37, h22⟩ := bindS h22
                refine QJ.on rfl rfl (cB hb23) (y_call Try.call63 rfl (RetG.quiet fun w hw => ok_s_l20Less h37 w _ (ha29.st hw) _ (ha34.st hw))) rfl ?_
                refine QJ.step (YldS.yld (y_pick_f (cB hb23) rfl)) rfl ?_
                obtain rfl := Option.some.inj h22
                exact QJ.cut_end ⟨rfl, rfl, rfl, rfl, rfl, trivial⟩
            refine QJ.done ?_
            refine PJ.next ?_
            refine WJ.cond (t := t21) rfl (fun hb38 => ?_) (fun hb38 => ?_)
            · replace hm := ifT hm hb38
              refine WJ.reg ?_
              refine SJ.q (YldS.yld (y_move rfl)) rfl ?_
              refine SJ.q (YldS.yld (y_move rfl)) rfl ?_
              refine SJ.buildSlice (R := fI64) (os := [.tmp 41]) [i15] Try.runUnderlying27 Try.sizeOf2 Try.zeroValue2 rfl rfl rfl rfl rfl rfl fun v39 => ?_
              obtain ⟨l40, h41, hm⟩ := bindS hm
              refine SJ.append (k := 1) (R := fI64) h41 rfl Try.underlying27 el2 rfl rfl rfl (fun w hw => (hw.row_rd (k := 0) rfl)) rfl fun v42 => ?_
              refine SJ.q (YldS.yld (y_assign rfl)) rfl ?_
              refine SJ.nil ?_
              refine PJ.block_normal ?_
              exact PJ.joined (l40, v42) [1] hm ⟨rfl, rfl, rfl, rfl, trivial⟩ ⟨by decide, rfl⟩
            · replace hm := ifF hm hb38
              refine WJ.skip ?_
              refine PJ.block_normal ?_
              exact PJ.joined (l13, v14) [0] hm ⟨rfl, rfl, rfl, rfl, trivial⟩ ⟨by decide, rfl⟩
          · rintro ⟨l17, v18⟩ hm
            subst hk20
            refine WJ.quiet ?_
            refine QJ.step (YldS.yld (y_move rfl)) rfl ?_
            refine QJ.step (YldS.yld (y_bin rfl rfl rfl)) rfl ?_
            refine QJ.step (YldS.yld (y_assign rfl)) rfl ?_
            refine QJ.done ?_
            exact PJ.round (l17, v18, w64 (i15 + 1)) [0] hm ⟨rfl, rfl, rfl, rfl, trivial⟩ ⟨by decide, rfl⟩
        · replace hm := ifF hm hb16
          refine WJ.exit ?_
          refine PJ.then_exit (PJ.then_exit (PJ.block_exit ?_))
          exact PJ.joined (l13, v14) [0] hm ⟨rfl, trivial⟩ ⟨by decide, rfl⟩
    · rintro ⟨l9, v10⟩ hm
      subst hk12
      refine WJ.seq ?_
      refine WJ.quiet ?_
      refine QJ.step (YldS.yld (y_move rfl)) rfl ?_
      refine QJ.step (YldS.yld (y_assign rfl)) rfl ?_
      refine QJ.step (YldS.yld (y_assign rfl)) rfl ?_
      refine QJ.done ?_
      refine PJ.next ?_
      refine WJ.ret ?_
      obtain rfl := Option.some.inj hm
      refine PJ.sel (L' := [row v10 2 fI64 l9]) [0] ⟨by decide, rfl⟩ ?_
      exact PJ.retn (vs := [v10, .int .i64 0]) Try.results9 ⟨rfl, rfl, trivial⟩ ⟨_, rfl, rfl⟩

set_option maxRecDepth 100000 in
set_option maxHeartbeats 1000000 in
theorem ok_i_FastestTrial {N : Nat} {list1 : List Trial} {penalty4 : Int} {r : Int × Int} (hm : i_FastestTrial N list1 penalty4 = some r) (w : World) (v2 : Value) (hr3 : RdS w (cx w).Fz v2 fTrial.rp list1) :
    Calls Try.prog 10 #[v2, .int .i64 penalty4] w (Ret (cx w) (tup [.int .i64 r.1, .int .i64 r.2])) := by
  unfold i_FastestTrial at hm
  refine Calls.enter [v2, .int .i64 penalty4] Try.func10 rfl Try.ntmps10 rfl ?_
  refine WJ.seq ?_
  refine WJ.quiet ?_
  refine QJ.step (YldS.yld (y_assign rfl)) rfl ?_
  refine QJ.step (YldS.yld (y_assign rfl)) rfl ?_
  refine QJ.done ?_
  refine PJ.next ?_
  refine WJ.seq ?_
  refine WJ.seq ?_
  refine WJ.quiet ?_
  refine QJ.step (YldS.yld (y_move rfl)) rfl ?_
  refine QJ.step (YldS.yld (y_move rfl)) rfl ?_
  obtain ⟨r5, h6, hm⟩ := bindS hm
  refine QJ.step (y_call Try.call60 rfl (RetG.quiet fun w hw => ok_i_trialsCode h6 w _ (hr3.st hw))) rfl ?_
  refine QJ.step (YldS.yld (y_assign rfl)) rfl ?_
  refine QJ.done ?_
  refine PJ.next ?_
  refine WJ.seq ?_
  refine WJ.quiet ?_
  refine QJ.step (YldS.yld (y_move rfl)) rfl ?_
  refine QJ.step (YldS.yld (y_bin rfl rfl rfl)) rfl ?_
  refine QJ.done ?_
  refine PJ.next ?_
  refine WJ.cond (t := (r5 != 0)) rfl (fun hb7 => ?_) (fun hb7 => ?_)
  · replace hm := ifT hm hb7
    refine WJ.seq ?_
    refine WJ.quiet ?_
    refine QJ.step (YldS.yld (y_move rfl)) rfl ?_
    refine QJ.step (YldS.yld (y_assign rfl)) rfl ?_
    refine QJ.step (YldS.yld (y_assign rfl)) rfl ?_
    refine QJ.done ?_
    refine PJ.next ?_
    refine WJ.ret ?_
    refine PJ.then_ret ?_
    obtain rfl := Option.some.inj hm
    refine PJ.sel (L' := []) [] ⟨List.nodup_nil, rfl⟩ ?_
    exact PJ.retn (vs := [.int .i64 0, .int .i64 r5]) Try.results10 ⟨rfl, rfl, trivial⟩ ⟨rfl, rfl⟩
  · replace hm := ifF hm hb7
    refine WJ.skip ?_
    refine PJ.next ?_
    refine WJ.seq ?_
    refine WJ.seq ?_
    refine WJ.quiet ?_
    refine QJ.step (YldS.yld (y_move rfl)) rfl ?_
    refine QJ.step (YldS.yld (y_lenS Try.runUnderlying24 hr3 rfl)) rfl ?_
    refine QJ.step (YldS.yld (y_bin rfl rfl rfl)) rfl ?_
    refine QJ.done ?_
    refine PJ.next ?_
    refine WJ.cond (t := ((List.length list1 : Int) == 0)) rfl (fun hb8 => ?_) (fun hb8 => ?_)
    · replace hm := ifT hm hb8
      refine WJ.seq ?_
      refine WJ.quiet ?_
      refine QJ.step (YldS.yld (y_assign rfl)) rfl ?_
      refine QJ.step (YldS.yld (y_assign rfl)) rfl ?_
      refine QJ.done ?_
      refine PJ.next ?_
      refine WJ.ret ?_
      refine PJ.then_ret ?_
      obtain rfl := Option.some.inj hm
      refine PJ.sel (L' := []) [] ⟨List.nodup_nil, rfl⟩ ?_
      exact PJ.retn (vs := [.int .i64 0, .int .i64 3]) Try.results10 ⟨rfl, rfl, trivial⟩ ⟨rfl, rfl⟩
    · replace hm := ifF hm hb8
      refine WJ.skip ?_
      refine PJ.next ?_
      refine WJ.seq ?_
      refine WJ.quiet ?_
      refine QJ.step (YldS.yld (y_assign rfl)) rfl ?_
      refine QJ.done ?_
      refine PJ.next ?_
      obtain ⟨kj10, hk11, hm⟩ := withK_open hm
      refine WJ.join (X := Int) (fun (x : Int) => kj10 x = some r) (fun (x : Int) => [(7, .int .i64 x)]) (fun (x : Int) => []) ?_ ?_
      · clear hk11
        refine WJ.seq ?_
        refine WJ.quiet ?_
        refine QJ.step (YldS.yld (y_move rfl)) rfl ?_
        refine QJ.step (YldS.yld (y_lenS Try.runUnderlying24 hr3 rfl)) rfl ?_
        refine QJ.step (YldS.yld (y_move rfl)) rfl ?_
        refine QJ.done ?_
        refine PJ.next ?_
        refine WJ.block ?_
        refine WJ.sel (L' := (fun (x : Int × Int) => []) (0, 0)) [] ⟨List.nodup_nil, rfl⟩ ?_
        refine WJ.sub (m' := (fun (x : Int × Int) => [(0, v2), (1, .int .i64 penalty4), (7, .int .i64 x.1), (19, v2), (20, .int .i64 (List.length list1 : Int)), (21, .int .i64 x.2)]) (0, 0)) ⟨rfl, rfl, rfl, rfl, rfl, rfl, trivial⟩ ?_
        refine WJ.loop (X := Int × Int) (fun N (x : Int × Int) => i_FastestTrial_l1 kj10 list1 penalty4 N x.1 x.2 = some r) (fun (x : Int × Int) => [(0, v2), (1, .int .i64 penalty4), (7, .int .i64 x.1), (19, v2), (20, .int .i64 (List.length list1 : Int)), (21, .int .i64 x.2)]) (fun (x : Int × Int) => []) ?_ N (0, 0) hm
        · rintro N ⟨best12, x13⟩ hI
          have hm := hI; clear hI
          cases N with
          | zero => cases hm
          | succ N =>
          unfold i_FastestTrial_l1 at hm
          refine WJ.seq ?_
          refine WJ.quiet ?_
          refine QJ.step (YldS.yld (y_bin rfl rfl rfl)) rfl ?_
          refine QJ.done ?_
          refine PJ.next ?_
          refine WJ.seq ?_
          refine WJ.cond (t := decide (x13 < (List.length list1 : Int))) rfl (fun hb14 => ?_) (fun hb14 => ?_)
          · replace hm := ifT hm hb14
            refine WJ.skip ?_
            refine PJ.next ?_
            obtain ⟨kj16, hk17, hm⟩ := withK_open hm
            refine WJ.join (X := Int) (fun (x : Int) => kj16 x = some r) (fun (x : Int) => [(0, v2), (1, .int .i64 penalty4), (7, .int .i64 x), (19, v2), (20, .int .i64 (List.length list1 : Int)), (21, .int .i64 x13)]) (fun (x : Int) => []) ?_ ?_
            · clear hk17
              refine WJ.block ?_
              refine WJ.seq ?_
              refine WJ.reg ?_
              refine SJ.q (YldS.yld (y_move rfl)) rfl ?_
              obtain ⟨e18, h19, hm⟩ := bindS hm
              obtain ⟨ad20, _, rfl, ha21, hy22⟩ := hr3.elem h19
              refine SJ.q (YldS.yld (hy22 Try.runUnderlying24 Try.sizeOf41 rfl rfl)) rfl ?_
              refine SJ.q (YldS.yld (y_loadN Try.isAgg41 Try.sizeOf41 rfl ha21 St.frozenC rfl)) rfl ?_
              refine SJ.alloc (cs := [.int .i64 0, .int .i64 0, .int .i64 0]) Try.zeroValue41 rfl rfl fun g23 => ?_
              refine SJ.q (YldS.yld (y_assign rfl)) rfl ?_
              refine SJ.storeL (k := 0) (off := 0) (us := [.int .i64 e18.strokes, .int .i64 e18.errors, .int .i64 e18.seconds]) rfl rfl rfl rfl Try.sizeOf41 rfl rfl ?_
              refine SJ.nil ?_
              refine PJ.next ?_
              refine WJ.seq ?_
              refine WJ.quiet_draw follows (by kernel_rfl) ?_
              refine QJ.step (YldS.yld (y_move rfl)) rfl ?_
              refine QJ.step (YldS.yld (y_move rfl)) rfl ?_
              obtain ⟨e24, h25, hm⟩ := bindS hm
              obtain ⟨ad26, _, rfl, ha27, hy28⟩ := hr3.elem h25
              refine QJ.step (YldS.yld (hy28 Try.runUnderlying24 Try.sizeOf41 rfl rfl)) rfl ?_
              refine QJ.step (YldS.yld (y_loadN Try.isAgg41 Try.sizeOf41 rfl ha27 St.frozenC rfl)) rfl ?_
              refine QJ.step (YldS.yld (y_loadBN (k := 0) (off := 0) (us := [.int .i64 e18.strokes, .int .i64 e18.errors, .int .i64 e18.seconds]) rfl Try.isAgg41 Try.sizeOf41 rfl rfl)) rfl ?_
              refine QJ.step (YldS.yld (y_move rfl)) rfl ?_
              obtain ⟨r29, h30, hm⟩ := bindS hm
              refine QJ.step (y_call Try.call61 rfl (RetG.quiet fun w hw => ok_i_Trial_slower h30 w )) rfl ?_
              refine QJ.done ?_
              refine PJ.next ?_
              refine WJ.cond (t := r29) rfl (fun hb31 => ?_) (fun hb31 => ?_)
              · replace hm := ifT hm hb31
                refine WJ.quiet ?_
                refine QJ.step (YldS.yld (y_move rfl)) rfl ?_
                refine QJ.step (YldS.yld (y_assign rfl)) rfl ?_
                refine QJ.done ?_
                refine PJ.block_normal ?_
                exact PJ.joined x13 [] hm ⟨rfl, rfl, rfl, rfl, rfl, rfl, trivial⟩ ⟨List.nodup_nil, rfl⟩
              · replace hm := ifF hm hb31
                refine WJ.skip ?_
                refine PJ.block_normal ?_
                exact PJ.joined best12 [] hm ⟨rfl, rfl, rfl, rfl, rfl, rfl, trivial⟩ ⟨List.nodup_nil, rfl⟩
            · rintro best15 hm
              subst hk17
              refine WJ.quiet ?_
              refine QJ.step (YldS.yld (y_bin rfl rfl rfl)) rfl ?_
              refine QJ.step (YldS.yld (y_move rfl)) rfl ?_
              refine QJ.done ?_
              exact PJ.round (best15, w64 (x13 + 1)) [] hm ⟨rfl, rfl, rfl, rfl, rfl, rfl, trivial⟩ ⟨List.nodup_nil, rfl⟩
          · replace hm := ifF hm hb14
            refine WJ.exit ?_
            refine PJ.then_exit (PJ.then_exit (PJ.block_exit ?_))
            exact PJ.joined best12 [] hm ⟨rfl, trivial⟩ ⟨List.nodup_nil, rfl⟩
      · rintro best9 hm
        subst hk11
        refine WJ.seq ?_
        refine WJ.quiet ?_
        refine QJ.step (YldS.yld (y_move rfl)) rfl ?_
        refine QJ.step (YldS.yld (y_assign rfl)) rfl ?_
        refine QJ.step (YldS.yld (y_assign rfl)) rfl ?_
        refine QJ.done ?_
        refine PJ.next ?_
        refine WJ.ret ?_
        obtain rfl := Option.some.inj hm
        refine PJ.sel (L' := []) [] ⟨List.nodup_nil, rfl⟩ ?_
        exact PJ.retn (vs := [.int .i64 best9, .int .i64 0]) Try.results10 ⟨rfl, rfl, trivial⟩ ⟨rfl, rfl⟩

set_option maxRecDepth 100000 in
set_option maxHeartbeats 1000000 in
theorem ok_s_l20Some {N : Nat} {list1 : List Trial} {penalty4 : Int} {r : Int} (hm : s_l20Some N list1 penalty4 = some r) (w : World) (v2 : Value) (hr3 : RdS w (cx w).Fz v2 fTrial.rp list1) :
    Calls Try.prog 64 #[v2, .int .i64 penalty4] w (Ret (cx w) (.int .i64 r)) := by
  unfold s_l20Some at hm
  refine Calls.enter [v2, .int .i64 penalty4] Try.func64 rfl Try.ntmps64 rfl ?_
  refine WJ.seq ?_
  refine WJ.quiet ?_
  refine QJ.step (YldS.yld (y_assign rfl)) rfl ?_
  refine QJ.done ?_
  refine PJ.next ?_
  refine WJ.seq ?_
  refine WJ.quiet ?_
  refine QJ.step (YldS.yld (y_move rfl)) rfl ?_
  refine QJ.step (YldS.yld (y_move rfl)) rfl ?_
  obtain ⟨r5, h6, hm⟩ := bindS hm
  refine QJ.step (y_call Try.call62 rfl (RetG.quiet fun w hw => ok_s_l20List h6 w _ (hr3.st hw))) rfl ?_
  refine QJ.step (YldS.yld (y_assign rfl)) rfl ?_
  refine QJ.done ?_
  refine PJ.next ?_
  obtain ⟨kj8, hk9, hm⟩ := withK_open hm
  refine WJ.join (X := Int) (fun (x : Int) => kj8 x = some r) (fun (x : Int) => [(5, .int .i64 x)]) (fun (x : Int) => []) ?_ ?_
  · clear hk9
    refine WJ.seq ?_
    refine WJ.quiet ?_
    refine QJ.step (YldS.yld (y_move rfl)) rfl ?_
    refine QJ.step (YldS.yld (y_bin rfl rfl rfl)) rfl ?_
    refine QJ.step (YldS.yld (y_move rfl)) rfl ?_
    obtain ⟨t10, h11, hm⟩ := bindS hm
    refine QJ.cut 4 [(5, .int .i64 r5), (15, .bool t10)] ?_ ?_
    · rcases Bool.eq_false_or_eq_true (r5 == 0) with hb12 | hb12
      · replace h11 := andT h11 hb12
        refine QJ.on rfl rfl (cB hb12) (YldS.yld (y_move rfl)) rfl ?_
        refine QJ.on rfl rfl (cB hb12) (YldS.yld (y_lenS Try.runUnderlying24 hr3 rfl)) rfl ?_
        refine QJ.on rfl rfl (cB hb12) (YldS.yld (y_bin rfl rfl rfl)) rfl ?_
        refine QJ.step (YldS.yld (y_pick_t (cB hb12) rfl)) rfl ?_
        obtain rfl := Option.some.inj h11
        exact QJ.cut_end ⟨rfl, rfl, trivial⟩
      · obtain rfl := andF h11 hb12
        refine QJ.off rfl rfl (cB hb12) rfl rfl ?_
        refine QJ.off rfl rfl (cB hb12) rfl rfl ?_
        refine QJ.off rfl rfl (cB hb12) rfl rfl ?_
        refine QJ.step (YldS.yld (y_pick_f (cB hb12) rfl)) rfl ?_
        exact QJ.cut_end ⟨rfl, rfl, trivial⟩
    refine QJ.done ?_
    refine PJ.next ?_
    refine WJ.cond (t := t10) rfl (fun hb13 => ?_) (fun hb13 => ?_)
    · replace hm := ifT hm hb13
      refine WJ.quiet ?_
      refine QJ.step (YldS.yld (y_assign rfl)) rfl ?_
      refine QJ.done ?_
      exact PJ.joined 3 [] hm ⟨rfl, trivial⟩ ⟨List.nodup_nil, rfl⟩
    · replace hm := ifF hm hb13
      refine WJ.skip ?_
      exact PJ.joined r5 [] hm ⟨rfl, trivial⟩ ⟨List.nodup_nil, rfl⟩
  · rintro code7 hm
    subst hk9
    refine WJ.seq ?_
    refine WJ.quiet ?_
    refine QJ.step (YldS.yld (y_move rfl)) rfl ?_
    refine QJ.step (YldS.yld (y_assign rfl)) rfl ?_
    refine QJ.done ?_
    refine PJ.next ?_
    refine WJ.ret ?_
    obtain rfl := Option.some.inj hm
    refine PJ.sel (L' := []) [] ⟨List.nodup_nil, rfl⟩ ?_
    exact PJ.retn (vs := [.int .i64 code7]) Try.results64 ⟨rfl, trivial⟩ ⟨rfl, rfl⟩

set_option maxRecDepth 100000 in
set_option maxHeartbeats 1000000 in
theorem ok_s_FastestTrial {N : Nat} {list1 : List Trial} {penalty4 : Int} {r : Int × Int} (hm : s_FastestTrial N list1 penalty4 = some r) (w : World) (v2 : Value) (hr3 : RdS w (cx w).Fz v2 fTrial.rp list1) :
    Calls Try.prog 11 #[v2, .int .i64 penalty4] w (Ret (cx w) (tup [.int .i64 r.1, .int .i64 r.2])) := by
  unfold s_FastestTrial at hm
  refine Calls.enter [v2, .int .i64 penalty4] Try.func11 rfl Try.ntmps11 rfl ?_
  refine WJ.seq ?_
  refine WJ.quiet ?_
  refine QJ.step (YldS.yld (y_assign rfl)) rfl ?_
  refine QJ.step (YldS.yld (y_assign rfl)) rfl ?_
  refine QJ.done ?_
  refine PJ.next ?_
  refine WJ.seq ?_
  refine WJ.quiet ?_
  refine QJ.step (YldS.yld (y_move rfl)) rfl ?_
  refine QJ.step (YldS.yld (y_move rfl)) rfl ?_
  obtain ⟨r5, h6, hm⟩ := bindS hm
  refine QJ.step (y_call Try.call64 rfl (RetG.quiet fun w hw => ok_s_l20Some h6 w _ (hr3.st hw))) rfl ?_
  refine QJ.step (YldS.yld (y_assign rfl)) rfl ?_
  refine QJ.done ?_
  refine PJ.next ?_
  refine WJ.seq ?_
  refine WJ.seq ?_
  refine WJ.quiet ?_
  refine QJ.step (YldS.yld (y_move rfl)) rfl ?_
  refine QJ.step (YldS.yld (y_bin rfl rfl rfl)) rfl ?_
  refine QJ.done ?_
  refine PJ.next ?_
  refine WJ.cond (t := (r5 != 0)) rfl (fun hb7 => ?_) (fun hb7 => ?_)
  · replace hm := ifT hm hb7
    refine WJ.seq ?_
    refine WJ.quiet ?_
    refine QJ.step (YldS.yld (y_move rfl)) rfl ?_
    refine QJ.step (YldS.yld (y_assign rfl)) rfl ?_
    refine QJ.step (YldS.yld (y_assign rfl)) rfl ?_
    refine QJ.done ?_
    refine PJ.next ?_
    refine WJ.ret ?_
    refine PJ.then_ret ?_
    obtain rfl := Option.some.inj hm
    refine PJ.sel (L' := []) [] ⟨List.nodup_nil, rfl⟩ ?_
    exact PJ.retn (vs := [.int .i64 0, .int .i64 r5]) Try.results11 ⟨rfl, rfl, trivial⟩ ⟨rfl, rfl⟩
  · replace hm := ifF hm hb7
    refine WJ.skip ?_
    refine PJ.next ?_
    refine WJ.seq ?_
    refine WJ.quiet ?_
    refine QJ.step (YldS.yld (y_assign rfl)) rfl ?_
    refine QJ.done ?_
    refine PJ.next ?_
    obtain ⟨kj9, hk10, hm⟩ := withK_open hm
    refine WJ.join (X := Int) (fun (x : Int) => kj9 x = some r) (fun (x : Int) => [(7, .int .i64 x)]) (fun (x : Int) => []) ?_ ?_
    · clear hk10
      refine WJ.seq ?_
      refine WJ.quiet ?_
      refine QJ.step (YldS.yld (y_assign rfl)) rfl ?_
      refine QJ.done ?_
      refine PJ.next ?_
      refine WJ.block ?_
      refine WJ.sel (L' := (fun (x : Int × Int) => []) (0, 1)) [] ⟨List.nodup_nil, rfl⟩ ?_
      refine WJ.sub (m' := (fun (x : Int × Int) => [(0, v2), (1, .int .i64 penalty4), (7, .int .i64 x.1), (8, .int .i64 x.2)]) (0, 1)) ⟨rfl, rfl, rfl, rfl, trivial⟩ ?_
      refine WJ.loop (X := Int × Int) (fun N (x : Int × Int) => s_FastestTrial_l1 kj9 list1 penalty4 N x.1 x.2 = some r) (fun (x : Int × Int) => [(0, v2), (1, .int .i64 penalty4), (7, .int .i64 x.1), (8, .int .i64 x.2)]) (fun (x : Int × Int) => []) ?_ N (0, 1) hm
      · rintro N ⟨best11, i12⟩ hI
        have hm := hI; clear hI
        cases N with
        | zero => cases hm
        | succ N =>
        unfold s_FastestTrial_l1 at hm
        refine WJ.seq ?_
        refine WJ.seq ?_
        refine WJ.quiet ?_
        refine QJ.step (YldS.yld (y_move rfl)) rfl ?_
        refine QJ.step (YldS.yld (y_move rfl)) rfl ?_
        refine QJ.step (YldS.yld (y_lenS Try.runUnderlying24 hr3 rfl)) rfl ?_
        refine QJ.step (YldS.yld (y_bin rfl rfl rfl)) rfl ?_
        refine QJ.done ?_
        refine PJ.next ?_
        refine WJ.cond (t := decide (i12 < (List.length list1 : Int))) rfl (fun hb13 => ?_) (fun hb13 => ?_)
        · replace hm := ifT hm hb13
          refine WJ.skip ?_
          refine PJ.next ?_
          obtain ⟨kj15, hk16, hm⟩ := withK_open hm
          refine WJ.join (X := Int) (fun (x : Int) => kj15 x = some r) (fun (x : Int) => [(0, v2), (1, .int .i64 penalty4), (7, .int .i64 x), (8, .int .i64 i12)]) (fun (x : Int) => []) ?_ ?_
          · clear hk16
            refine WJ.block ?_
            refine WJ.seq ?_
            refine WJ.quiet_draw follows (by kernel_rfl) ?_
            refine QJ.step (YldS.yld (y_move rfl)) rfl ?_
            refine QJ.step (YldS.yld (y_move rfl)) rfl ?_
            obtain ⟨e17, h18, hm⟩ := bindS hm
            obtain ⟨ad19, _, rfl, ha20, hy21⟩ := hr3.elem h18
            refine QJ.step (YldS.yld (hy21 Try.runUnderlying24 Try.sizeOf41 rfl rfl)) rfl ?_
            refine QJ.step (YldS.yld (y_move rfl)) rfl ?_
            refine QJ.step (YldS.yld (y_move rfl)) rfl ?_
            obtain ⟨e22, h23, hm⟩ := bindS hm
            obtain ⟨ad24, _, rfl, ha25, hy26⟩ := hr3.elem h23
            refine QJ.step (YldS.yld (hy26 Try.runUnderlying24 Try.sizeOf41 rfl rfl)) rfl ?_
            refine QJ.step (YldS.yld (y_move rfl)) rfl ?_
            obtain ⟨r27, h28, hm⟩ := bindS hm
            refine QJ.step (y_call Try.call63 rfl (RetG.quiet fun w hw => ok_s_l20Less h28 w _ (ha20.st hw) _ (ha25.st hw))) rfl ?_
            refine QJ.done ?_
            refine PJ.next ?_
            refine WJ.cond (t := r27) rfl (fun hb29 => ?_) (fun hb29 => ?_)
            · replace hm := ifT hm hb29
              refine WJ.quiet ?_
              refine QJ.step (YldS.yld (y_move rfl)) rfl ?_
              refine QJ.step (YldS.yld (y_assign rfl)) rfl ?_
              refine QJ.done ?_
              refine PJ.block_normal ?_
              exact PJ.joined i12 [] hm ⟨rfl, rfl, rfl, rfl, trivial⟩ ⟨List.nodup_nil, rfl⟩
            · replace hm := ifF hm hb29
              refine WJ.skip ?_
              refine PJ.block_normal ?_
              exact PJ.joined best11 [] hm ⟨rfl, rfl, rfl, rfl, trivial⟩ ⟨List.nodup_nil, rfl⟩
          · rintro best14 hm
            subst hk16
            refine WJ.quiet ?_
            refine QJ.step (YldS.yld (y_move rfl)) rfl ?_
            refine QJ.step (YldS.yld (y_bin rfl rfl rfl)) rfl ?_
            refine QJ.step (YldS.yld (y_assign rfl)) rfl ?_
            refine QJ.done ?_
            exact PJ.round (best14, w64 (i12 + 1)) [] hm ⟨rfl, rfl, rfl, rfl, trivial⟩ ⟨List.nodup_nil, rfl⟩
        · replace hm := ifF hm hb13
          refine WJ.exit ?_
          refine PJ.then_exit (PJ.then_exit (PJ.block_exit ?_))
          exact PJ.joined best11 [] hm ⟨rfl, trivial⟩ ⟨List.nodup_nil, rfl⟩
    · rintro best8 hm
      subst hk10
      refine WJ.seq ?_
      refine WJ.quiet ?_
      refine QJ.step (YldS.yld (y_move rfl)) rfl ?_
      refine QJ.step (YldS.yld (y_assign rfl)) rfl ?_
      refine QJ.step (YldS.yld (y_assign rfl)) rfl ?_
      refine QJ.done ?_
      refine PJ.next ?_
      refine WJ.ret ?_
      obtain rfl := Option.some.inj hm
      refine PJ.sel (L' := []) [] ⟨List.nodup_nil, rfl⟩ ?_
      exact PJ.retn (vs := [.int .i64 best8, .int .i64 0]) Try.results11 ⟨rfl, rfl, trivial⟩ ⟨rfl, rfl⟩

set_option maxRecDepth 100000 in
set_option maxHeartbeats 1000000 in
theorem ok_i_MedianTrial_c1 {i1 : Int} {k2 : Int} {x3 : List Trial} {x8 : List Int} {x13 : Int} {r : Bool} (hm : i_MedianTrial_c1 i1 k2 x3 x8 x13 = some r) (w : World) (ad4 : Addr) (v6 : Value) (ha5 : At w (cx w).Fz ad4 [v6]) (hr7 : RdS w (cx w).Fz v6 fTrial.rp x3) (ad9 : Addr) (v11 : Value) (ha10 : At w (cx w).Fz ad9 [v11]) (hr12 : RdS w (cx w).Fz v11 fI64.rp x8) (ad14 : Addr) (ha15 : At w (cx w).Fz ad14 (fI64.enc x13)) :
    Calls Try.prog 66 #[.int .i64 i1, .int .i64 k2, .pointer (some ad4), .pointer (some ad9), .pointer (some ad14)] w (Ret (cx w) (.bool r)) := by
  unfold i_MedianTrial_c1 at hm
  refine Calls.enter [.int .i64 i1, .int .i64 k2, .pointer (some ad4), .pointer (some ad9), .pointer (some ad14)] Try.func66 rfl Try.ntmps66 rfl ?_
  refine WJ.seq ?_
  refine WJ.quiet ?_
  refine QJ.step (YldS.yld (y_assign rfl)) rfl ?_
  refine QJ.done ?_
  refine PJ.next ?_
  refine WJ.seq ?_
  refine WJ.quiet_draw follows (by kernel_rfl) ?_
  refine QJ.step (YldS.yld (y_load1 (v := v6) Try.isAgg24 ha5 St.frozenC rfl)) rfl ?_
  refine QJ.step (YldS.yld (y_load1 (v := v11) Try.isAgg27 ha10 St.frozenC rfl)) rfl ?_
  refine QJ.step (YldS.yld (y_move rfl)) rfl ?_
  obtain ⟨e16, h17, hm⟩ := bindS hm
  obtain ⟨ad18, _, rfl, ha19, hy20⟩ := hr12.elem h17
  refine QJ.step (YldS.yld (hy20 Try.runUnderlying27 Try.sizeOf2 rfl rfl)) rfl ?_
  refine QJ.step (YldS.yld (y_load1 (v := .int .i64 e16) Try.isAgg2 ha19 St.frozenC rfl)) rfl ?_
  obtain ⟨e21, h22, hm⟩ := bindS hm
  obtain ⟨ad23, _, rfl, ha24, hy25⟩ := hr7.elem h22
  refine QJ.step (YldS.yld (hy25 Try.runUnderlying24 Try.sizeOf41 rfl rfl)) rfl ?_
  refine QJ.step (YldS.yld (y_loadN Try.isAgg41 Try.sizeOf41 rfl ha24 St.frozenC rfl)) rfl ?_
  refine QJ.step (YldS.yld (y_load1 (v := v6) Try.isAgg24 ha5 St.frozenC rfl)) rfl ?_
  refine QJ.step (YldS.yld (y_load1 (v := v11) Try.isAgg27 ha10 St.frozenC rfl)) rfl ?_
  refine QJ.step (YldS.yld (y_move rfl)) rfl ?_
  obtain ⟨e26, h27, hm⟩ := bindS hm
  obtain ⟨ad28, _, rfl, ha29, hy30⟩ := hr12.elem h27
  refine QJ.step (YldS.yld (hy30 Try.runUnderlying27 Try.sizeOf2 rfl rfl)) rfl ?_
  refine QJ.step (YldS.yld (y_load1 (v := .int .i64 e26) Try.isAgg2 ha29 St.frozenC rfl)) rfl ?_
  obtain ⟨e31, h32, hm⟩ := bindS hm
  obtain ⟨ad33, _, rfl, ha34, hy35⟩ := hr7.elem h32
  refine QJ.step (YldS.yld (hy35 Try.runUnderlying24 Try.sizeOf41 rfl rfl)) rfl ?_
  refine QJ.step (YldS.yld (y_loadN Try.isAgg41 Try.sizeOf41 rfl ha34 St.frozenC rfl)) rfl ?_
  refine QJ.step (YldS.yld (y_load1 (v := .int .i64 x13) Try.isAgg2 ha15 St.frozenC rfl)) rfl ?_
  obtain ⟨r36, h37, hm⟩ := bindS hm
  refine QJ.step (y_call Try.call61 rfl (RetG.quiet fun w hw => ok_i_Trial_slower h37 w )) rfl ?_
  refine QJ.step (YldS.yld (y_assign rfl)) rfl ?_
  refine QJ.done ?_
  refine PJ.next ?_
  refine WJ.ret ?_
  obtain rfl := Option.some.inj hm
  refine PJ.sel (L' := []) [] ⟨List.nodup_nil, rfl⟩ ?_
  exact PJ.retn (vs := [.bool r36]) Try.results66 ⟨rfl, trivial⟩ ⟨rfl, rfl⟩

set_option maxRecDepth 100000 in
set_option maxHeartbeats 1000000 in
theorem ok_i_MedianTrial {N : Nat} {list1 : List Trial} {penalty4 : Int} {r : Int × Int} (hm : i_MedianTrial N list1 penalty4 = some r) (w : World) (v2 : Value) (hr3 : RdS w (cx w).Fz v2 fTrial.rp list1) :
    Calls Try.prog 12 #[v2, .int .i64 penalty4] w (Ret (cx w) (tup [.int .i64 r.1, .int .i64 r.2])) := by
  unfold i_MedianTrial at hm
  refine Calls.enter [v2, .int .i64 penalty4] Try.func12 rfl Try.ntmps12 rfl ?_
  refine WJ.seq ?_
  refine WJ.reg ?_
  refine SJ.box (cs := [v2]) rfl (RdS.cells1 hr3) rfl fun g5 => ?_
  refine SJ.box (cs := [.int .i64 penalty4]) rfl rfl rfl fun g6 => ?_
  refine SJ.q (YldS.yld (y_assign rfl)) rfl ?_
  refine SJ.q (YldS.yld (y_assign rfl)) rfl ?_
  refine SJ.nil ?_
  refine PJ.next ?_
  refine WJ.seq ?_
  refine WJ.seq ?_
  refine WJ.quiet ?_
  refine QJ.step (YldS.yld (y_loadB (k := 1) (off := 0) (v := v2) rfl Try.isAgg24 rfl rfl)) rfl ?_
  refine QJ.step (YldS.yld (y_loadB (k := 0) (off := 0) (v := .int .i64 penalty4) rfl Try.isAgg2 rfl rfl)) rfl ?_
  obtain ⟨r7, h8, hm⟩ := bindS hm
  refine QJ.step (y_call Try.call60 rfl (RetG.quiet fun w hw => ok_i_trialsCode h8 w _ (hr3.st hw))) rfl ?_
  refine QJ.step (YldS.yld (y_assign rfl)) rfl ?_
  refine QJ.done ?_
  refine PJ.next ?_
  refine WJ.seq ?_
  refine WJ.quiet ?_
  refine QJ.step (YldS.yld (y_move rfl)) rfl ?_
  refine QJ.step (YldS.yld (y_bin rfl rfl rfl)) rfl ?_
  refine QJ.done ?_
  refine PJ.next ?_
  refine WJ.cond (t := (r7 != 0)) rfl (fun hb9 => ?_) (fun hb9 => ?_)
  · replace hm := ifT hm hb9
    refine WJ.seq ?_
    refine WJ.quiet ?_
    refine QJ.step (YldS.yld (y_move rfl)) rfl ?_
    refine QJ.step (YldS.yld (y_assign rfl)) rfl ?_
    refine QJ.step (YldS.yld (y_assign rfl)) rfl ?_
    refine QJ.done ?_
    refine PJ.next ?_
    refine WJ.ret ?_
    refine PJ.then_ret ?_
    obtain rfl := Option.some.inj hm
    refine PJ.sel (L' := []) [] ⟨List.nodup_nil, rfl⟩ ?_
    exact PJ.retn (vs := [.int .i64 0, .int .i64 r7]) Try.results12 ⟨rfl, rfl, trivial⟩ ⟨rfl, rfl⟩
  · replace hm := ifF hm hb9
    refine WJ.skip ?_
    refine PJ.next ?_
    refine WJ.seq ?_
    refine WJ.seq ?_
    refine WJ.quiet ?_
    refine QJ.step (YldS.yld (y_loadB (k := 1) (off := 0) (v := v2) rfl Try.isAgg24 rfl rfl)) rfl ?_
    refine QJ.step (YldS.yld (y_lenS Try.runUnderlying24 hr3 rfl)) rfl ?_
    refine QJ.step (YldS.yld (y_bin rfl rfl rfl)) rfl ?_
    refine QJ.done ?_
    refine PJ.next ?_
    refine WJ.cond (t := ((List.length list1 : Int) == 0)) rfl (fun hb10 => ?_) (fun hb10 => ?_)
    · replace hm := ifT hm hb10
      refine WJ.seq ?_
      refine WJ.quiet ?_
      refine QJ.step (YldS.yld (y_assign rfl)) rfl ?_
      refine QJ.step (YldS.yld (y_assign rfl)) rfl ?_
      refine QJ.done ?_
      refine PJ.next ?_
      refine WJ.ret ?_
      refine PJ.then_ret ?_
      obtain rfl := Option.some.inj hm
      refine PJ.sel (L' := []) [] ⟨List.nodup_nil, rfl⟩ ?_
      exact PJ.retn (vs := [.int .i64 0, .int .i64 3]) Try.results12 ⟨rfl, rfl, trivial⟩ ⟨rfl, rfl⟩
    · replace hm := ifF hm hb10
      refine WJ.skip ?_
      refine PJ.next ?_
      refine WJ.seq ?_
      refine WJ.reg ?_
      refine SJ.buildSlice (R := fI64) (os := []) [] Try.runUnderlying27 Try.sizeOf2 Try.zeroValue2 rfl rfl rfl rfl rfl rfl fun v11 => ?_
      refine SJ.alloc (cs := [.slice none 0 0]) Try.zeroValue27 rfl rfl fun g12 => ?_
      refine SJ.rowCells (k := 1) rfl fun hc13 => ?_
      refine SJ.storeL (k := 0) (off := 0) (us := [v11]) rfl rfl rfl hc13.1 Try.sizeOf27 rfl (by simp [hc13.2]) ?_
      refine SJ.nil ?_
      refine PJ.next ?_
      obtain ⟨kj16, hk17, hm⟩ := withK_open hm
      refine WJ.join (X := (List Int) × Value) (fun (x : (List Int) × Value) => kj16 x.1 = some r) (fun (x : (List Int) × Value) => [(2, pt g5 0), (3, pt g6 0), (7, pt g12 0)]) (fun (x : (List Int) × Value) => [box g12 27 [x.2], row x.2 2 fI64 x.1, box g6 2 [.int .i64 penalty4], box g5 24 [v2]]) ?_ ?_
      · clear hk17
        refine WJ.seq ?_
        refine WJ.quiet ?_
        refine QJ.step (YldS.yld (y_loadB (k := 3) (off := 0) (v := v2) rfl Try.isAgg24 rfl rfl)) rfl ?_
        refine QJ.step (YldS.yld (y_lenS Try.runUnderlying24 hr3 rfl)) rfl ?_
        refine QJ.step (YldS.yld (y_move rfl)) rfl ?_
        refine QJ.done ?_
        refine PJ.next ?_
        refine WJ.block ?_
        refine WJ.sel (L' := (fun (x : (List Int) × Value × Int) => [box g12 27 [x.2.1], row x.2.1 2 fI64 x.1, box g6 2 [.int .i64 penalty4], box g5 24 [v2]]) ([], v11, 0)) [0, 1, 2, 3] ⟨by decide, rfl⟩ ?_
        refine WJ.sub (m' := (fun (x : (List Int) × Value × Int) => [(2, pt g5 0), (3, pt g6 0), (7, pt g12 0), (20, .int .i64 (List.length list1 : Int)), (21, .int .i64 x.2.2)]) ([], v11, 0)) ⟨rfl, rfl, rfl, rfl, rfl, trivial⟩ ?_
        refine WJ.loop (X := (List Int) × Value × Int) (fun N (x : (List Int) × Value × Int) => i_MedianTrial_l1 kj16 list1 N x.1 x.2.2 = some r) (fun (x : (List Int) × Value × Int) => [(2, pt g5 0), (3, pt g6 0), (7, pt g12 0), (20, .int .i64 (List.length list1 : Int)), (21, .int .i64 x.2.2)]) (fun (x : (List Int) × Value × Int) => [box g12 27 [x.2.1], row x.2.1 2 fI64 x.1, box g6 2 [.int .i64 penalty4], box g5 24 [v2]]) ?_ N ([], v11, 0) hm
        · rintro N ⟨l18, v19, x20⟩ hI
          have hm := hI; clear hI
          cases N with
          | zero => cases hm
          | succ N =>
          unfold i_MedianTrial_l1 at hm
          refine WJ.seq ?_
          refine WJ.quiet ?_
          refine QJ.step (YldS.yld (y_bin rfl rfl rfl)) rfl ?_
          refine QJ.done ?_
          refine PJ.next ?_
          refine WJ.seq ?_
          refine WJ.cond (t := decide (x20 < (List.length list1 : Int))) rfl (fun hb21 => ?_) (fun hb21 => ?_)
          · replace hm := ifT hm hb21
            refine WJ.skip ?_
            refine PJ.next ?_
            refine WJ.seq ?_
            refine WJ.block ?_
            refine WJ.seq ?_
            refine WJ.quiet ?_
            refine QJ.step (YldS.yld (y_move rfl)) rfl ?_
            refine QJ.step (YldS.yld (y_assign rfl)) rfl ?_
            refine QJ.done ?_
            refine PJ.next ?_
            refine WJ.reg ?_
            refine SJ.q (YldS.yld (y_loadB (k := 0) (off := 0) (v := v19) rfl Try.isAgg27 rfl rfl)) rfl ?_
            refine SJ.q (YldS.yld (y_move rfl)) rfl ?_
            refine SJ.buildSlice (R := fI64) (os := [.tmp 25]) [x20] Try.runUnderlying27 Try.sizeOf2 Try.zeroValue2 rfl rfl rfl rfl rfl rfl fun v22 => ?_
            obtain ⟨l23, h24, hm⟩ := bindS hm
            refine SJ.append (k := 2) (R := fI64) h24 rfl Try.underlying27 el2 rfl rfl rfl (fun w hw => (hw.row_rd (k := 0) rfl)) rfl fun v25 => ?_
            refine SJ.rowCells (k := 2) rfl fun hc26 => ?_
            refine SJ.storeL (k := 1) (off := 0) (us := [v25]) rfl rfl rfl hc26.1 Try.sizeOf27 rfl (by simp [hc26.2]) ?_
            refine SJ.nil ?_
            refine PJ.block_normal (PJ.next ?_)
            refine WJ.quiet ?_
            refine QJ.step (YldS.yld (y_bin rfl rfl rfl)) rfl ?_
            refine QJ.step (YldS.yld (y_move rfl)) rfl ?_
            refine QJ.done ?_
            exact PJ.round (l23, v25, w64 (x20 + 1)) [1, 2, 3, 4] hm ⟨rfl, rfl, rfl, rfl, rfl, trivial⟩ ⟨by decide, rfl⟩
          · replace hm := ifF hm hb21
            refine WJ.exit ?_
            refine PJ.then_exit (PJ.then_exit (PJ.block_exit ?_))
            exact PJ.joined (l18, v19) [0, 1, 2, 3] hm ⟨rfl, rfl, rfl, trivial⟩ ⟨by decide, rfl⟩
      · rintro ⟨l14, v15⟩ hm
        subst hk17
        refine WJ.seq ?_
        refine WJ.reg ?_
        refine SJ.q (YldS.yld (y_loadB (k := 0) (off := 0) (v := v15) rfl Try.isAgg27 rfl rfl)) rfl ?_
        refine SJ.q (YldS.yld (y_iface Try.runUnderlying27 rfl)) rfl ?_
        refine SJ.q (YldS.yld (y_func (bs := [.tmp 2, .tmp 7, .tmp 3]) rfl)) rfl ?_
        obtain ⟨l27, h28, hm⟩ := bindS hm
        refine SJ.sortS (k := 1) (less := fun i j dk => i_MedianTrial_c1 i j list1 dk penalty4) (lb := [pt g5 0, pt g12 0, pt g6 0]) sortS65_27 Try.call65 Try.call66 h28 (fun dk i j x y hx hy => by simp only [i_MedianTrial_c1, hx, hy, idx2_0, idx2_1]) rfl rfl (fun w dk hw i j b hm => Ret.same (ok_i_MedianTrial_c1 hm w _ _ (hw.box_at (k := 3) rfl) (hr3.st hw) _ _ (hw.box_at (k := 0) rfl) (hw.row_rd (k := 1) rfl) _ (hw.box_at (k := 2) rfl))) rfl ?_
        refine SJ.nil ?_
        refine PJ.next ?_
        refine WJ.seq ?_
        refine WJ.quiet ?_
        refine QJ.step (YldS.yld (y_loadB (k := 0) (off := 0) (v := v15) rfl Try.isAgg27 rfl rfl)) rfl ?_
        refine QJ.step (YldS.yld (y_loadB (k := 0) (off := 0) (v := v15) rfl Try.isAgg27 rfl rfl)) rfl ?_
        refine QJ.step (YldS.yld (y_lenRow (k := 1) rfl Try.runUnderlying27 rfl)) rfl ?_
        refine QJ.step (YldS.yld (y_bin rfl rfl rfl)) rfl ?_
        refine QJ.step (YldS.yld (y_quo rfl rfl (by decide))) rfl ?_
        obtain ⟨e29, h30, hm⟩ := bindS hm
        refine QJ.step (YldS.yld (y_ixRow (k := 1) (R := fI64) rfl Try.runUnderlying27 Try.sizeOf2 rfl rfl h30)) rfl ?_
        refine QJ.step (YldS.yld (y_loadR (k := 1) (i := (Int.toNat (w64 (Int.tdiv (w64 ((List.length l27 : Int) - 1)) 2)))) (off := 0) (u := .int .i64 e29) rfl Try.isAgg2 rfl (idx_get h30) rfl)) rfl ?_
        refine QJ.step (YldS.yld (y_assign rfl)) rfl ?_
        refine QJ.step (YldS.yld (y_assign rfl)) rfl ?_
        refine QJ.done ?_
        refine PJ.next ?_
        refine WJ.ret ?_
        obtain rfl := Option.some.inj hm
        refine PJ.sel (L' := []) [] ⟨List.nodup_nil, rfl⟩ ?_
        exact PJ.retn (vs := [.int .i64 e29, .int .i64 0]) Try.results12 ⟨rfl, rfl, trivial⟩ ⟨rfl, rfl⟩

set_option maxRecDepth 100000 in
set_option maxHeartbeats 1000000 in
theorem ok_s_l00Own {list1 : List Int} {r : (List Int)} (hm : s_l00Own list1 = some r) (w : World) (v2 : Value) (hr3 : RdS w (cx w).Fz v2 fI64.rp list1) :
    Calls Try.prog 67 #[v2] w (RetG (cx w) fun u L => ∃ (u1 : Value), (u = u1 ∧ L = [row u1 2 fI64 r])) := by
  unfold s_l00Own at hm
  refine Calls.enter [v2] Try.func67 rfl Try.ntmps67 rfl ?_
  refine WJ.seq ?_
  refine WJ.quiet ?_
  refine QJ.step (YldS.yld (y_assign rfl)) rfl ?_
  refine QJ.done ?_
  refine PJ.next ?_
  refine WJ.seq ?_
  refine WJ.reg ?_
  refine SJ.buildSlice (R := fI64) (os := []) [] Try.runUnderlying27 Try.sizeOf2 Try.zeroValue2 rfl rfl rfl rfl rfl rfl fun v4 => ?_
  refine SJ.q (YldS.yld (y_move rfl)) rfl ?_
  obtain ⟨l5, h6, hm⟩ := bindS hm
  refine SJ.append (k := 0) (R := fI64) h6 rfl Try.underlying27 el2 rfl rfl rfl (fun w hw => (hr3.st hw)) rfl fun v7 => ?_
  refine SJ.q (YldS.yld (y_assign rfl)) rfl ?_
  refine SJ.nil ?_
  refine PJ.next ?_
  refine WJ.ret ?_
  obtain rfl := Option.some.inj hm
  refine PJ.sel (L' := [row v7 2 fI64 l5]) [0] ⟨by decide, rfl⟩ ?_
  exact PJ.retn (vs := [v7]) Try.results67 ⟨rfl, trivial⟩ ⟨_, rfl, rfl⟩

set_option maxRecDepth 100000 in
set_option maxHeartbeats 1000000 in
theorem ok_s_MedianTrial {N : Nat} {list1 : List Trial} {penalty4 : Int} {r : Int × Int} (hm : s_MedianTrial N list1 penalty4 = some r) (w : World) (v2 : Value) (hr3 : RdS w (cx w).Fz v2 fTrial.rp list1) :
    Calls Try.prog 13 #[v2, .int .i64 penalty4] w (Ret (cx w) (tup [.int .i64 r.1, .int .i64 r.2])) := by
  unfold s_MedianTrial at hm
  refine Calls.enter [v2, .int .i64 penalty4] Try.func13 rfl Try.ntmps13 rfl ?_
  refine WJ.seq ?_
  refine WJ.quiet ?_
  refine QJ.step (YldS.yld (y_assign rfl)) rfl ?_
  refine QJ.step (YldS.yld (y_assign rfl)) rfl ?_
  refine QJ.done ?_
  refine PJ.next ?_
  refine WJ.seq ?_
  refine WJ.quiet ?_
  refine QJ.step (YldS.yld (y_move rfl)) rfl ?_
  refine QJ.step (YldS.yld (y_move rfl)) rfl ?_
  obtain ⟨r5, h6, hm⟩ := bindS hm
  refine QJ.step (y_call Try.call64 rfl (RetG.quiet fun w hw => ok_s_l20Some h6 w _ (hr3.st hw))) rfl ?_
  refine QJ.step (YldS.yld (y_assign rfl)) rfl ?_
  refine QJ.done ?_
  refine PJ.next ?_
  refine WJ.seq ?_
  refine WJ.seq ?_
  refine WJ.quiet ?_
  refine QJ.step (YldS.yld (y_move rfl)) rfl ?_
  refine QJ.step (YldS.yld (y_bin rfl rfl rfl)) rfl ?_
  refine QJ.done ?_
  refine PJ.next ?_
  refine WJ.cond (t := (r5 != 0)) rfl (fun hb7 => ?_) (fun hb7 => ?_)
  · replace hm := ifT hm hb7
    refine WJ.seq ?_
    refine WJ.quiet ?_
    refine QJ.step (YldS.yld (y_move rfl)) rfl ?_
    refine QJ.step (YldS.yld (y_assign rfl)) rfl ?_
    refine QJ.step (YldS.yld (y_assign rfl)) rfl ?_
    refine QJ.done ?_
    refine PJ.next ?_
    refine WJ.ret ?_
    refine PJ.then_ret ?_
    obtain rfl := Option.some.inj hm
    refine PJ.sel (L' := []) [] ⟨List.nodup_nil, rfl⟩ ?_
    exact PJ.retn (vs := [.int .i64 0, .int .i64 r5]) Try.results13 ⟨rfl, rfl, trivial⟩ ⟨rfl, rfl⟩
  · replace hm := ifF hm hb7
    refine WJ.skip ?_
    refine PJ.next ?_
    refine WJ.seq ?_
    refine WJ.reg ?_
    refine SJ.buildSlice (R := fI64) (os := []) [] Try.runUnderlying27 Try.sizeOf2 Try.zeroValue2 rfl rfl rfl rfl rfl rfl fun v8 => ?_
    refine SJ.q (YldS.yld (y_assign rfl)) rfl ?_
    refine SJ.nil ?_
    refine PJ.next ?_
    obtain ⟨kj11, hk12, hm⟩ := withK_open hm
    refine WJ.join (X := (List Int) × Value) (fun (x : (List Int) × Value) => kj11 x.1 = some r) (fun (x : (List Int) × Value) => [(7, x.2)]) (fun (x : (List Int) × Value) => [row x.2 2 fI64 x.1]) ?_ ?_
    · clear hk12
      refine WJ.seq ?_
      refine WJ.quiet ?_
      refine QJ.step (YldS.yld (y_assign rfl)) rfl ?_
      refine QJ.done ?_
      refine PJ.next ?_
      refine WJ.block ?_
      refine WJ.sel (L' := (fun (x : (List Int) × Value × Int) => [row x.2.1 2 fI64 x.1]) ([], v8, 0)) [0] ⟨by decide, rfl⟩ ?_
      refine WJ.sub (m' := (fun (x : (List Int) × Value × Int) => [(0, v2), (1, .int .i64 penalty4), (7, x.2.1), (8, .int .i64 x.2.2)]) ([], v8, 0)) ⟨rfl, rfl, rfl, rfl, trivial⟩ ?_
      refine WJ.loop (X := (List Int) × Value × Int) (fun N (x : (List Int) × Value × Int) => s_MedianTrial_l1 kj11 list1 penalty4 N x.1 x.2.2 = some r) (fun (x : (List Int) × Value × Int) => [(0, v2), (1, .int .i64 penalty4), (7, x.2.1), (8, .int .i64 x.2.2)]) (fun (x : (List Int) × Value × Int) => [row x.2.1 2 fI64 x.1]) ?_ N ([], v8, 0) hm
      · rintro N ⟨l13, v14, i15⟩ hI
        have hm := hI; clear hI
        cases N with
        | zero => cases hm
        | succ N =>
        unfold s_MedianTrial_l1 at hm
        refine WJ.seq ?_
        refine WJ.seq ?_
        refine WJ.quiet ?_
        refine QJ.step (YldS.yld (y_move rfl)) rfl ?_
        refine QJ.step (YldS.yld (y_move rfl)) rfl ?_
        refine QJ.step (YldS.yld (y_lenS Try.runUnderlying24 hr3 rfl)) rfl ?_
        refine QJ.step (YldS.yld (y_bin rfl rfl rfl)) rfl ?_
        refine QJ.done ?_
        refine PJ.next ?_
        refine WJ.cond (t := decide (i15 < (List.length list1 : Int))) rfl (fun hb16 => ?_) (fun hb16 => ?_)
        · replace hm := ifT hm hb16
          refine WJ.skip ?_
          refine PJ.next ?_
          obtain ⟨kj19, hk20, hm⟩ := withK_open hm
          refine WJ.join (X := (List Int) × Value) (fun (x : (List Int) × Value) => kj19 x.1 = some r) (fun (x : (List Int) × Value) => [(0, v2), (1, .int .i64 penalty4), (7, x.2), (8, .int .i64 i15)]) (fun (x : (List Int) × Value) => [row x.2 2 fI64 x.1]) ?_ ?_
          · clear hk20
            refine WJ.block ?_
            refine WJ.seq ?_
            refine WJ.quiet ?_
            refine QJ.step (YldS.yld (y_move rfl)) rfl ?_
            refine QJ.step (YldS.yld (y_lenRow (k := 0) rfl Try.runUnderlying27 rfl)) rfl ?_
            refine QJ.step (YldS.yld (y_assign rfl)) rfl ?_
            refine QJ.done ?_
            refine PJ.next ?_
            obtain ⟨kj22, hk23, hm⟩ := withK_open hm
            refine WJ.join (X := Int) (fun (x : Int) => kj22 x = some r) (fun (x : Int) => [(0, v2), (1, .int .i64 penalty4), (7, v14), (8, .int .i64 i15), (9, .int .i64 x)]) (fun (x : Int) => [row v14 2 fI64 l13]) ?_ ?_
            · clear hk23
              refine WJ.block ?_
              refine WJ.sel (L' := (fun (x : Int) => [row v14 2 fI64 l13]) (List.length l13 : Int)) [0] ⟨by decide, rfl⟩ ?_
              refine WJ.sub (m' := (fun (x : Int) => [(0, v2), (1, .int .i64 penalty4), (7, v14), (8, .int .i64 i15), (9, .int .i64 x)]) (List.length l13 : Int)) ⟨rfl, rfl, rfl, rfl, rfl, trivial⟩ ?_
              refine WJ.loop (X := Int) (fun N (x : Int) => s_MedianTrial_l2 kj22 list1 penalty4 l13 i15 N x = some r) (fun (x : Int) => [(0, v2), (1, .int .i64 penalty4), (7, v14), (8, .int .i64 i15), (9, .int .i64 x)]) (fun (x : Int) => [row v14 2 fI64 l13]) ?_ N (List.length l13 : Int) hm
              · rintro N k24 hI
                have hm := hI; clear hI
                cases N with
                | zero => cases hm
                | succ N =>
                unfold s_MedianTrial_l2 at hm
                refine WJ.seq ?_
                refine WJ.seq ?_
                refine WJ.quiet_draw follows (by kernel_rfl) ?_
                refine QJ.step (YldS.yld (y_move rfl)) rfl ?_
                refine QJ.step (YldS.yld (y_bin rfl rfl rfl)) rfl ?_
                refine QJ.step (YldS.yld (y_move rfl)) rfl ?_
                obtain ⟨t25, h26, hm⟩ := bindS hm
                refine QJ.cut 13 [(0, v2), (1, .int .i64 penalty4), (7, v14), (8, .int .i64 i15), (9, .int .i64 k24), (41, .bool t25)] ?_ ?_
                · rcases Bool.eq_false_or_eq_true (decide (k24 > 0)) with hb27 | hb27
                  · replace h26 := andT h26 hb27
                    refine QJ.on rfl rfl (cB hb27) (YldS.yld (y_move rfl)) rfl ?_
                    refine QJ.on rfl rfl (cB hb27) (YldS.yld (y_move rfl)) rfl ?_
                    obtain ⟨e28, h29, h26⟩ := bindS h26
                    obtain ⟨ad30, _, rfl, ha31, hy32⟩ := hr3.elem h29
                    refine QJ.on rfl rfl (cB hb27) (YldS.yld (hy32 Try.runUnderlying24 Try.sizeOf41 rfl rfl)) rfl ?_
                    refine QJ.on rfl rfl (cB hb27) (YldS.yld (y_move rfl)) rfl ?_
                    refine QJ.on rfl rfl (cB hb27) (YldS.yld (y_move rfl)) rfl ?_
                    refine QJ.on rfl rfl (cB hb27) (YldS.yld (y_move rfl)) rfl ?_
                    refine QJ.on rfl rfl (cB hb27) (YldS.yld (y_bin rfl rfl rfl)) rfl ?_
                    obtain ⟨e33, h34, h26⟩ := bindS h26
                    refine QJ.on rfl rfl (cB hb27) (YldS.yld (y_ixRow (k := 0) (R := fI64) rfl Try.runUnderlying27 Try.sizeOf2 rfl rfl h34)) rfl ?_
                    refine QJ.on rfl rfl (cB hb27) (YldS.yld (y_loadR (k := 0) (i := (Int.toNat (w64 (k24 - 1)))) (off := 0) (u := .int .i64 e33) rfl Try.isAgg2 rfl (idx_get h34) rfl)) rfl ?_
                    obtain ⟨e35, h36, h26⟩ := bindS h26
                    obtain ⟨ad37, _, rfl, ha38, hy39⟩ := hr3.elem h36
                    refine QJ.on rfl rfl (cB hb27) (YldS.yld (hy39 Try.runUnderlying24 Try.sizeOf41 rfl rfl)) rfl ?_
                    refine QJ.on rfl rfl (cB hb27) (YldS.yld (y_move rfl)) rfl ?_
                    obtain ⟨r40, h41, h26⟩ := bindS h26
                    refine QJ.on rfl rfl (cB hb27) (y_call Try.call63 rfl (RetG.quiet fun w hw => ok_s_l20Less h41 w _ (ha31.st hw) _ (ha38.st hw))) rfl ?_
                    refine QJ.step (YldS.yld (y_pick_t (cB hb27) rfl)) rfl ?_
                    obtain rfl := Option.some.inj h26
                    exact QJ.cut_end ⟨rfl, rfl, rfl, rfl, rfl, rfl, trivial⟩
                  · obtain rfl := andF h26 hb27
                    refine QJ.off rfl rfl (cB hb27) rfl rfl ?_
                    refine QJ.off rfl rfl (cB hb27) rfl rfl ?_
                    refine QJ.off rfl rfl (cB hb27) rfl rfl ?_
                    refine QJ.off rfl rfl (cB hb27) rfl rfl ?_
                    refine QJ.off rfl rfl (cB hb27) rfl rfl ?_
                    refine QJ.off rfl rfl (cB hb27) rfl rfl ?_
                    refine QJ.off rfl rfl (cB hb27) rfl rfl ?_
                    refine QJ.off rfl rfl (cB hb27) rfl rfl ?_
                    refine QJ.off rfl rfl (cB hb27) rfl rfl ?_
                    refine QJ.off rfl rfl (cB hb27) rfl rfl ?_
                    refine QJ.off rfl rfl (cB hb27) rfl rfl ?_
                    refine QJ.off rfl rfl (cB hb27) rfl rfl ?_
                    refine QJ.step (YldS.yld (y_pick_f (cB hb27) rfl)) rfl ?_
                    exact QJ.cut_end ⟨rfl, rfl, rfl, rfl, rfl, rfl, trivial⟩
                refine QJ.done ?_
                refine PJ.next ?_
                refine WJ.cond (t := t25) rfl (fun hb42 => ?_) (fun hb42 => ?_)
                · replace hm := ifT hm hb42
                  refine WJ.skip ?_
                  refine PJ.next ?_
                  refine WJ.block ?_
                  refine WJ.quiet ?_
                  refine QJ.step (YldS.yld (y_move rfl)) rfl ?_
                  refine QJ.step (YldS.yld (y_bin rfl rfl rfl)) rfl ?_
                  refine QJ.step (YldS.yld (y_assign rfl)) rfl ?_
                  refine QJ.done ?_
                  refine PJ.block_normal ?_
                  exact PJ.round (w64 (k24 - 1)) [0] hm ⟨rfl, rfl, rfl, rfl, rfl, trivial⟩ ⟨by decide, rfl⟩
                · replace hm := ifF hm hb42
                  refine WJ.exit ?_
                  refine PJ.then_exit (PJ.then_exit (PJ.block_exit ?_))
                  exact PJ.joined k24 [0] hm ⟨rfl, rfl, rfl, rfl, rfl, trivial⟩ ⟨by decide, rfl⟩
            · rintro k21 hm
              subst hk23
              refine WJ.seq ?_
              refine WJ.reg ?_
              refine SJ.q (YldS.yld (y_move rfl)) rfl ?_
              refine SJ.q (YldS.yld (y_move rfl)) rfl ?_
              obtain ⟨l43, h44, hm⟩ := bindS hm
              refine SJ.q (YldS.yld (y_slcRow (i := none) (j := some k21) (k := 0) h44 rfl Try.runUnderlying27 Try.sizeOf2 rfl trivial ⟨_, rfl⟩)) rfl ?_
              obtain ⟨r45, h46, hm⟩ := bindS hm
              refine SJ.call Try.call67 rfl (fun w hw => ok_s_l00Own h46 w _ (hw.slc_rd (k := 0) (i := none) (j := some k21) rfl h44)) rfl ?_
              rintro v47 _ ⟨_, rfl, rfl⟩
              refine SJ.q (YldS.yld (y_move rfl)) rfl ?_
              refine SJ.buildSlice (R := fI64) (os := [.tmp 48]) [i15] Try.runUnderlying27 Try.sizeOf2 Try.zeroValue2 rfl rfl rfl rfl rfl rfl fun v48 => ?_
              obtain ⟨l49, h50, hm⟩ := bindS hm
              refine SJ.append (k := 1) (R := fI64) h50 rfl Try.underlying27 el2 rfl rfl rfl (fun w hw => (hw.row_rd (k := 0) rfl)) rfl fun v51 => ?_
              refine SJ.q (YldS.yld (y_assign rfl)) rfl ?_
              refine SJ.nil ?_
              refine PJ.next ?_
              refine WJ.reg ?_
              refine SJ.q (YldS.yld (y_move rfl)) rfl ?_
              refine SJ.q (YldS.yld (y_move rfl)) rfl ?_
              refine SJ.q (YldS.yld (y_move rfl)) rfl ?_
              obtain ⟨l52, h53, hm⟩ := bindS hm
              refine SJ.q (YldS.yld (y_slcRow (i := some k21) (j := none) (k := 2) h53 rfl Try.runUnderlying27 Try.sizeOf2 rfl ⟨_, rfl⟩ trivial)) rfl ?_
              obtain ⟨l54, h55, hm⟩ := bindS hm
              refine SJ.append (k := 1) (R := fI64) h55 rfl Try.underlying27 el2 rfl rfl rfl (fun w hw => (hw.slc_rd (k := 2) (i := some k21) (j := none) rfl h53)) rfl fun v56 => ?_
              refine SJ.q (YldS.yld (y_assign rfl)) rfl ?_
              refine SJ.nil ?_
              refine PJ.block_normal ?_
              exact PJ.joined (l54, v56) [1] hm ⟨rfl, rfl, rfl, rfl, trivial⟩ ⟨by decide, rfl⟩
          · rintro ⟨l17, v18⟩ hm
            subst hk20
            refine WJ.quiet ?_
            refine QJ.step (YldS.yld (y_move rfl)) rfl ?_
            refine QJ.step (YldS.yld (y_bin rfl rfl rfl)) rfl ?_
            refine QJ.step (YldS.yld (y_assign rfl)) rfl ?_
            refine QJ.done ?_
            exact PJ.round (l17, v18, w64 (i15 + 1)) [0] hm ⟨rfl, rfl, rfl, rfl, trivial⟩ ⟨by decide, rfl⟩
        · replace hm := ifF hm hb16
          refine WJ.exit ?_
          refine PJ.then_exit (PJ.then_exit (PJ.block_exit ?_))
          exact PJ.joined (l13, v14) [0] hm ⟨rfl, trivial⟩ ⟨by decide, rfl⟩
    · rintro ⟨l9, v10⟩ hm
      subst hk12
      refine WJ.seq ?_
      refine WJ.quiet ?_
      refine QJ.step (YldS.yld (y_move rfl)) rfl ?_
      refine QJ.step (YldS.yld (y_move rfl)) rfl ?_
      refine QJ.step (YldS.yld (y_lenRow (k := 0) rfl Try.runUnderlying27 rfl)) rfl ?_
      refine QJ.step (YldS.yld (y_bin rfl rfl rfl)) rfl ?_
      refine QJ.step (YldS.yld (y_quo rfl rfl (by decide))) rfl ?_
      obtain ⟨e57, h58, hm⟩ := bindS hm
      refine QJ.step (YldS.yld (y_ixRow (k := 0) (R := fI64) rfl Try.runUnderlying27 Try.sizeOf2 rfl rfl h58)) rfl ?_
      refine QJ.step (YldS.yld (y_loadR (k := 0) (i := (Int.toNat (w64 (Int.tdiv (w64 ((List.length l9 : Int) - 1)) 2)))) (off := 0) (u := .int .i64 e57) rfl Try.isAgg2 rfl (idx_get h58) rfl)) rfl ?_
      refine QJ.step (YldS.yld (y_assign rfl)) rfl ?_
      refine QJ.step (YldS.yld (y_assign rfl)) rfl ?_
      refine QJ.done ?_
      refine PJ.next ?_
      refine WJ.ret ?_
      obtain rfl := Option.some.inj hm
      refine PJ.sel (L' := []) [] ⟨List.nodup_nil, rfl⟩ ?_
      exact PJ.retn (vs := [.int .i64 e57, .int .i64 0]) Try.results13 ⟨rfl, rfl, trivial⟩ ⟨rfl, rfl⟩

set_option maxRecDepth 100000 in
set_option maxHeartbeats 1000000 in
theorem ok_i_LongestRise {N : Nat} {list1 : List Trial} {penalty4 : Int} {r : Int × Int × Int} (hm : i_LongestRise N list1 penalty4 = some r) (w : World) (v2 : Value) (hr3 : RdS w (cx w).Fz v2 fTrial.rp list1) :
    Calls Try.prog 14 #[v2, .int .i64 penalty4] w (Ret (cx w) (tup [.int .i64 r.1, .int .i64 r.2.1, .int .i64 r.2.2])) := by
  unfold i_LongestRise at hm
  refine Calls.enter [v2, .int .i64 penalty4] Try.func14 rfl Try.ntmps14 rfl ?_
  refine WJ.seq ?_
  refine WJ.quiet ?_
  refine QJ.step (YldS.yld (y_assign rfl)) rfl ?_
  refine QJ.step (YldS.yld (y_assign rfl)) rfl ?_
  refine QJ.step (YldS.yld (y_assign rfl)) rfl ?_
  refine QJ.done ?_
  refine PJ.next ?_
  refine WJ.seq ?_
  refine WJ.seq ?_
  refine WJ.quiet ?_
  refine QJ.step (YldS.yld (y_move rfl)) rfl ?_
  refine QJ.step (YldS.yld (y_move rfl)) rfl ?_
  obtain ⟨r5, h6, hm⟩ := bindS hm
  refine QJ.step (y_call Try.call60 rfl (RetG.quiet fun w hw => ok_i_trialsCode h6 w _ (hr3.st hw))) rfl ?_
  refine QJ.step (YldS.yld (y_assign rfl)) rfl ?_
  refine QJ.done ?_
  refine PJ.next ?_
  refine WJ.seq ?_
  refine WJ.quiet ?_
  refine QJ.step (YldS.yld (y_move rfl)) rfl ?_
  refine QJ.step (YldS.yld (y_bin rfl rfl rfl)) rfl ?_
  refine QJ.done ?_
  refine PJ.next ?_
  refine WJ.cond (t := (r5 != 0)) rfl (fun hb7 => ?_) (fun hb7 => ?_)
  · replace hm := ifT hm hb7
    refine WJ.seq ?_
    refine WJ.quiet ?_
    refine QJ.step (YldS.yld (y_move rfl)) rfl ?_
    refine QJ.step (YldS.yld (y_assign rfl)) rfl ?_
    refine QJ.step (YldS.yld (y_assign rfl)) rfl ?_
    refine QJ.step (YldS.yld (y_assign rfl)) rfl ?_
    refine QJ.done ?_
    refine PJ.next ?_
    refine WJ.ret ?_
    refine PJ.then_ret ?_
    obtain rfl := Option.some.inj hm
    refine PJ.sel (L' := []) [] ⟨List.nodup_nil, rfl⟩ ?_
    exact PJ.retn (vs := [.int .i64 0, .int .i64 0, .int .i64 r5]) Try.results14 ⟨rfl, rfl, rfl, trivial⟩ ⟨rfl, rfl⟩
  · replace hm := ifF hm hb7
    refine WJ.skip ?_
    refine PJ.next ?_
    refine WJ.seq ?_
    refine WJ.seq ?_
    refine WJ.quiet ?_
    refine QJ.step (YldS.yld (y_move rfl)) rfl ?_
    refine QJ.step (YldS.yld (y_lenS Try.runUnderlying24 hr3 rfl)) rfl ?_
    refine QJ.step (YldS.yld (y_bin rfl rfl rfl)) rfl ?_
    refine QJ.done ?_
    refine PJ.next ?_
    refine WJ.cond (t := ((List.length list1 : Int) == 0)) rfl (fun hb8 => ?_) (fun hb8 => ?_)
    · replace hm := ifT hm hb8
      refine WJ.seq ?_
      refine WJ.quiet ?_
      refine QJ.step (YldS.yld (y_assign rfl)) rfl ?_
      refine QJ.step (YldS.yld (y_assign rfl)) rfl ?_
      refine QJ.step (YldS.yld (y_assign rfl)) rfl ?_
      refine QJ.done ?_
      refine PJ.next ?_
      refine WJ.ret ?_
      refine PJ.then_ret ?_
      obtain rfl := Option.some.inj hm
      refine PJ.sel (L' := []) [] ⟨List.nodup_nil, rfl⟩ ?_
      exact PJ.retn (vs := [.int .i64 0, .int .i64 0, .int .i64 3]) Try.results14 ⟨rfl, rfl, rfl, trivial⟩ ⟨rfl, rfl⟩
    · replace hm := ifF hm hb8
      refine WJ.skip ?_
      refine PJ.next ?_
      refine WJ.seq ?_
      refine WJ.quiet ?_
      refine QJ.step (YldS.yld (y_assign rfl)) rfl ?_
      refine QJ.step (YldS.yld (y_assign rfl)) rfl ?_
      refine QJ.step (YldS.yld (y_assign rfl)) rfl ?_
      refine QJ.done ?_
      refine PJ.next ?_
      obtain ⟨kj11, hk12, hm⟩ := withK_open hm
      refine WJ.join (X := Int × Int) (fun (x : Int × Int) => kj11 x.1 x.2 = some r) (fun (x : Int × Int) => [(8, .int .i64 x.1), (9, .int .i64 x.2)]) (fun (x : Int × Int) => []) ?_ ?_
      · clear hk12
        refine WJ.seq ?_
        refine WJ.quiet ?_
        refine QJ.step (YldS.yld (y_assign rfl)) rfl ?_
        refine QJ.done ?_
        refine PJ.next ?_
        refine WJ.block ?_
        refine WJ.sel (L' := (fun (x : Int × Int × Int × Int) => []) (0, 1, 0, 1)) [] ⟨List.nodup_nil, rfl⟩ ?_
        refine WJ.sub (m' := (fun (x : Int × Int × Int × Int) => [(0, v2), (1, .int .i64 penalty4), (8, .int .i64 x.1), (9, .int .i64 x.2.1), (10, .int .i64 x.2.2.1), (11, .int .i64 x.2.2.2)]) (0, 1, 0, 1)) ⟨rfl, rfl, rfl, rfl, rfl, rfl, trivial⟩ ?_
        refine WJ.loop (X := Int × Int × Int × Int) (fun N (x : Int × Int × Int × Int) => i_LongestRise_l1 kj11 list1 penalty4 N x.1 x.2.1 x.2.2.1 x.2.2.2 = some r) (fun (x : Int × Int × Int × Int) => [(0, v2), (1, .int .i64 penalty4), (8, .int .i64 x.1), (9, .int .i64 x.2.1), (10, .int .i64 x.2.2.1), (11, .int .i64 x.2.2.2)]) (fun (x : Int × Int × Int × Int) => []) ?_ N (0, 1, 0, 1) hm
        · rintro N ⟨best13, most14, start15, i16⟩ hI
          have hm := hI; clear hI
          cases N with
          | zero => cases hm
          | succ N =>
          unfold i_LongestRise_l1 at hm
          refine WJ.seq ?_
          refine WJ.seq ?_
          refine WJ.quiet ?_
          refine QJ.step (YldS.yld (y_move rfl)) rfl ?_
          refine QJ.step (YldS.yld (y_move rfl)) rfl ?_
          refine QJ.step (YldS.yld (y_lenS Try.runUnderlying24 hr3 rfl)) rfl ?_
          refine QJ.step (YldS.yld (y_bin rfl rfl rfl)) rfl ?_
          refine QJ.done ?_
          refine PJ.next ?_
          refine WJ.cond (t := decide (i16 < (List.length list1 : Int))) rfl (fun hb17 => ?_) (fun hb17 => ?_)
          · replace hm := ifT hm hb17
            refine WJ.skip ?_
            refine PJ.next ?_
            obtain ⟨kj21, hk22, hm⟩ := withK_open hm
            refine WJ.join (X := Int × Int × Int) (fun (x : Int × Int × Int) => kj21 x.1 x.2.1 x.2.2 = some r) (fun (x : Int × Int × Int) => [(0, v2), (1, .int .i64 penalty4), (8, .int .i64 x.1), (9, .int .i64 x.2.1), (10, .int .i64 x.2.2), (11, .int .i64 i16)]) (fun (x : Int × Int × Int) => []) ?_ ?_
            · clear hk22
              refine WJ.block ?_
              obtain ⟨kj24, hk25, hm⟩ := withK_open hm
              refine WJ.join (X := Int) (fun (x : Int) => kj24 x = some r) (fun (x : Int) => [(0, v2), (1, .int .i64 penalty4), (8, .int .i64 best13), (9, .int .i64 most14), (10, .int .i64 x), (11, .int .i64 i16)]) (fun (x : Int) => []) ?_ ?_
              · clear hk25
                refine WJ.seq ?_
                refine WJ.quiet_draw follows (by kernel_rfl) ?_
                refine QJ.step (YldS.yld (y_move rfl)) rfl ?_
                refine QJ.step (YldS.yld (y_move rfl)) rfl ?_
                refine QJ.step (YldS.yld (y_bin rfl rfl rfl)) rfl ?_
                obtain ⟨e26, h27, hm⟩ := bindS hm
                obtain ⟨ad28, _, rfl, ha29, hy30⟩ := hr3.elem h27
                refine QJ.step (YldS.yld (hy30 Try.runUnderlying24 Try.sizeOf41 rfl rfl)) rfl ?_
                refine QJ.step (YldS.yld (y_loadN Try.isAgg41 Try.sizeOf41 rfl ha29 St.frozenC rfl)) rfl ?_
                refine QJ.step (YldS.yld (y_move rfl)) rfl ?_
                refine QJ.step (YldS.yld (y_move rfl)) rfl ?_
                obtain ⟨e31, h32, hm⟩ := bindS hm
                obtain ⟨ad33, _, rfl, ha34, hy35⟩ := hr3.elem h32
                refine QJ.step (YldS.yld (hy35 Try.runUnderlying24 Try.sizeOf41 rfl rfl)) rfl ?_
                refine QJ.step (YldS.yld (y_loadN Try.isAgg41 Try.sizeOf41 rfl ha34 St.frozenC rfl)) rfl ?_
                refine QJ.step (YldS.yld (y_move rfl)) rfl ?_
                obtain ⟨r36, h37, hm⟩ := bindS hm
                refine QJ.step (y_call Try.call61 rfl (RetG.quiet fun w hw => ok_i_Trial_slower h37 w )) rfl ?_
                refine QJ.step (YldS.yld (y_not rfl)) rfl ?_
                refine QJ.done ?_
                refine PJ.next ?_
                refine WJ.cond (t := !r36) rfl (fun hb38 => ?_) (fun hb38 => ?_)
                · replace hm := ifT hm hb38
                  refine WJ.quiet ?_
                  refine QJ.step (YldS.yld (y_move rfl)) rfl ?_
                  refine QJ.step (YldS.yld (y_assign rfl)) rfl ?_
                  refine QJ.done ?_
                  exact PJ.joined i16 [] hm ⟨rfl, rfl, rfl, rfl, rfl, rfl, trivial⟩ ⟨List.nodup_nil, rfl⟩
                · replace hm := ifF hm hb38
                  refine WJ.skip ?_
                  exact PJ.joined start15 [] hm ⟨rfl, rfl, rfl, rfl, rfl, rfl, trivial⟩ ⟨List.nodup_nil, rfl⟩
              · rintro start23 hm
                subst hk25
                refine WJ.seq ?_
                refine WJ.quiet ?_
                refine QJ.step (YldS.yld (y_move rfl)) rfl ?_
                refine QJ.step (YldS.yld (y_move rfl)) rfl ?_
                refine QJ.step (YldS.yld (y_bin rfl rfl rfl)) rfl ?_
                refine QJ.step (YldS.yld (y_bin rfl rfl rfl)) rfl ?_
                refine QJ.step (YldS.yld (y_move rfl)) rfl ?_
                refine QJ.step (YldS.yld (y_bin rfl rfl rfl)) rfl ?_
                refine QJ.done ?_
                refine PJ.next ?_
                refine WJ.cond (t := decide ((w64 ((w64 (i16 - start23)) + 1)) > most14)) rfl (fun hb39 => ?_) (fun hb39 => ?_)
                · replace hm := ifT hm hb39
                  refine WJ.quiet ?_
                  refine QJ.step (YldS.yld (y_move rfl)) rfl ?_
                  refine QJ.step (YldS.yld (y_move rfl)) rfl ?_
                  refine QJ.step (YldS.yld (y_move rfl)) rfl ?_
                  refine QJ.step (YldS.yld (y_bin rfl rfl rfl)) rfl ?_
                  refine QJ.step (YldS.yld (y_bin rfl rfl rfl)) rfl ?_
                  refine QJ.step (YldS.yld (y_assign rfl)) rfl ?_
                  refine QJ.step (YldS.yld (y_assign rfl)) rfl ?_
                  refine QJ.done ?_
                  refine PJ.block_normal ?_
                  exact PJ.joined (start23, w64 ((w64 (i16 - start23)) + 1), start23) [] hm ⟨rfl, rfl, rfl, rfl, rfl, rfl, trivial⟩ ⟨List.nodup_nil, rfl⟩
                · replace hm := ifF hm hb39
                  refine WJ.skip ?_
                  refine PJ.block_normal ?_
                  exact PJ.joined (best13, most14, start23) [] hm ⟨rfl, rfl, rfl, rfl, rfl, rfl, trivial⟩ ⟨List.nodup_nil, rfl⟩
            · rintro ⟨best18, most19, start20⟩ hm
              subst hk22
              refine WJ.quiet ?_
              refine QJ.step (YldS.yld (y_move rfl)) rfl ?_
              refine QJ.step (YldS.yld (y_bin rfl rfl rfl)) rfl ?_
              refine QJ.step (YldS.yld (y_assign rfl)) rfl ?_
              refine QJ.done ?_
              exact PJ.round (best18, most19, start20, w64 (i16 + 1)) [] hm ⟨rfl, rfl, rfl, rfl, rfl, rfl, trivial⟩ ⟨List.nodup_nil, rfl⟩
          · replace hm := ifF hm hb17
            refine WJ.exit ?_
            refine PJ.then_exit (PJ.then_exit (PJ.block_exit ?_))
            exact PJ.joined (best13, most14) [] hm ⟨rfl, rfl, trivial⟩ ⟨List.nodup_nil, rfl⟩
      · rintro ⟨best9, most10⟩ hm
        subst hk12
        refine WJ.seq ?_
        refine WJ.quiet ?_
        refine QJ.step (YldS.yld (y_move rfl)) rfl ?_
        refine QJ.step (YldS.yld (y_move rfl)) rfl ?_
        refine QJ.step (YldS.yld (y_assign rfl)) rfl ?_
        refine QJ.step (YldS.yld (y_assign rfl)) rfl ?_
        refine QJ.step (YldS.yld (y_assign rfl)) rfl ?_
        refine QJ.done ?_
        refine PJ.next ?_
        refine WJ.ret ?_
        obtain rfl := Option.some.inj hm
        refine PJ.sel (L' := []) [] ⟨List.nodup_nil, rfl⟩ ?_
        exact PJ.retn (vs := [.int .i64 best9, .int .i64 most10, .int .i64 0]) Try.results14 ⟨rfl, rfl, rfl, trivial⟩ ⟨rfl, rfl⟩

set_option maxRecDepth 100000 in
set_option maxHeartbeats 1000000 in
theorem ok_s_LongestRise {N : Nat} {list1 : List Trial} {penalty4 : Int} {r : Int × Int × Int} (hm : s_LongestRise N list1 penalty4 = some r) (w : World) (v2 : Value) (hr3 : RdS w (cx w).Fz v2 fTrial.rp list1) :
    Calls Try.prog 15 #[v2, .int .i64 penalty4] w (Ret (cx w) (tup [.int .i64 r.1, .int .i64 r.2.1, .int .i64 r.2.2])) := by
  unfold s_LongestRise at hm
  refine Calls.enter [v2, .int .i64 penalty4] Try.func15 rfl Try.ntmps15 rfl ?_
  refine WJ.seq ?_
  refine WJ.quiet ?_
  refine QJ.step (YldS.yld (y_assign rfl)) rfl ?_
  refine QJ.step (YldS.yld (y_assign rfl)) rfl ?_
  refine QJ.step (YldS.yld (y_assign rfl)) rfl ?_
  refine QJ.done ?_
  refine PJ.next ?_
  refine WJ.seq ?_
  refine WJ.quiet ?_
  refine QJ.step (YldS.yld (y_move rfl)) rfl ?_
  refine QJ.step (YldS.yld (y_move rfl)) rfl ?_
  obtain ⟨r5, h6, hm⟩ := bindS hm
  refine QJ.step (y_call Try.call64 rfl (RetG.quiet fun w hw => ok_s_l20Some h6 w _ (hr3.st hw))) rfl ?_
  refine QJ.step (YldS.yld (y_assign rfl)) rfl ?_
  refine QJ.done ?_
  refine PJ.next ?_
  refine WJ.seq ?_
  refine WJ.seq ?_
  refine WJ.quiet ?_
  refine QJ.step (YldS.yld (y_move rfl)) rfl ?_
  refine QJ.step (YldS.yld (y_bin rfl rfl rfl)) rfl ?_
  refine QJ.done ?_
  refine PJ.next ?_
  refine WJ.cond (t := (r5 != 0)) rfl (fun hb7 => ?_) (fun hb7 => ?_)
  · replace hm := ifT hm hb7
    refine WJ.seq ?_
    refine WJ.quiet ?_
    refine QJ.step (YldS.yld (y_move rfl)) rfl ?_
    refine QJ.step (YldS.yld (y_assign rfl)) rfl ?_
    refine QJ.step (YldS.yld (y_assign rfl)) rfl ?_
    refine QJ.step (YldS.yld (y_assign rfl)) rfl ?_
    refine QJ.done ?_
    refine PJ.next ?_
    refine WJ.ret ?_
    refine PJ.then_ret ?_
    obtain rfl := Option.some.inj hm
    refine PJ.sel (L' := []) [] ⟨List.nodup_nil, rfl⟩ ?_
    exact PJ.retn (vs := [.int .i64 0, .int .i64 0, .int .i64 r5]) Try.results15 ⟨rfl, rfl, rfl, trivial⟩ ⟨rfl, rfl⟩
  · replace hm := ifF hm hb7
    refine WJ.skip ?_
    refine PJ.next ?_
    refine WJ.seq ?_
    refine WJ.quiet ?_
    refine QJ.step (YldS.yld (y_assign rfl)) rfl ?_
    refine QJ.done ?_
    refine PJ.next ?_
    refine WJ.seq ?_
    refine WJ.quiet ?_
    refine QJ.step (YldS.yld (y_assign rfl)) rfl ?_
    refine QJ.done ?_
    refine PJ.next ?_
    refine WJ.seq ?_
    refine WJ.quiet ?_
    refine QJ.step (YldS.yld (y_assign rfl)) rfl ?_
    refine QJ.done ?_
    refine PJ.next ?_
    obtain ⟨kj10, hk11, hm⟩ := withK_open hm
    refine WJ.join (X := Int × Int) (fun (x : Int × Int) => kj10 x.1 x.2 = some r) (fun (x : Int × Int) => [(8, .int .i64 x.1), (9, .int .i64 x.2)]) (fun (x : Int × Int) => []) ?_ ?_
    · clear hk11
      refine WJ.seq ?_
      refine WJ.quiet ?_
      refine QJ.step (YldS.yld (y_assign rfl)) rfl ?_
      refine QJ.done ?_
      refine PJ.next ?_
      refine WJ.block ?_
      refine WJ.sel (L' := (fun (x : Int × Int × Int × Int) => []) (0, 1, 0, 1)) [] ⟨List.nodup_nil, rfl⟩ ?_
      refine WJ.sub (m' := (fun (x : Int × Int × Int × Int) => [(0, v2), (1, .int .i64 penalty4), (8, .int .i64 x.1), (9, .int .i64 x.2.1), (10, .int .i64 x.2.2.1), (11, .int .i64 x.2.2.2)]) (0, 1, 0, 1)) ⟨rfl, rfl, rfl, rfl, rfl, rfl, trivial⟩ ?_
      refine WJ.loop (X := Int × Int × Int × Int) (fun N (x : Int × Int × Int × Int) => s_LongestRise_l1 kj10 list1 penalty4 N x.1 x.2.1 x.2.2.1 x.2.2.2 = some r) (fun (x : Int × Int × Int × Int) => [(0, v2), (1, .int .i64 penalty4), (8, .int .i64 x.1), (9, .int .i64 x.2.1), (10, .int .i64 x.2.2.1), (11, .int .i64 x.2.2.2)]) (fun (x : Int × Int × Int × Int) => []) ?_ N (0, 1, 0, 1) hm
      · rintro N ⟨from12, most13, begin14, i15⟩ hI
        have hm := hI; clear hI
        cases N with
        | zero => cases hm
        | succ N =>
        unfold s_LongestRise_l1 at hm
        refine WJ.seq ?_
        refine WJ.seq ?_
        refine WJ.quiet ?_
        refine QJ.step (YldS.yld (y_move rfl)) rfl ?_
        refine QJ.step (YldS.yld (y_move rfl)) rfl ?_
        refine QJ.step (YldS.yld (y_lenS Try.runUnderlying24 hr3 rfl)) rfl ?_
        refine QJ.step (YldS.yld (y_bin rfl rfl rfl)) rfl ?_
        refine QJ.done ?_
        refine PJ.next ?_
        refine WJ.cond (t := decide (i15 < (List.length list1 : Int))) rfl (fun hb16 => ?_) (fun hb16 => ?_)
        · replace hm := ifT hm hb16
          refine WJ.skip ?_
          refine PJ.next ?_
          obtain ⟨kj20, hk21, hm⟩ := withK_open hm
          refine WJ.join (X := Int × Int × Int) (fun (x : Int × Int × Int) => kj20 x.1 x.2.1 x.2.2 = some r) (fun (x : Int × Int × Int) => [(0, v2), (1, .int .i64 penalty4), (8, .int .i64 x.1), (9, .int .i64 x.2.1), (10, .int .i64 x.2.2), (11, .int .i64 i15)]) (fun (x : Int × Int × Int) => []) ?_ ?_
          · clear hk21
            refine WJ.block ?_
            obtain ⟨kj23, hk24, hm⟩ := withK_open hm
            refine WJ.join (X := Int) (fun (x : Int) => kj23 x = some r) (fun (x : Int) => [(0, v2), (1, .int .i64 penalty4), (8, .int .i64 from12), (9, .int .i64 most13), (10, .int .i64 x), (11, .int .i64 i15)]) (fun (x : Int) => []) ?_ ?_
            · clear hk24
              refine WJ.seq ?_
              refine WJ.quiet_draw follows (by kernel_rfl) ?_
              refine QJ.step (YldS.yld (y_move rfl)) rfl ?_
              refine QJ.step (YldS.yld (y_move rfl)) rfl ?_
              refine QJ.step (YldS.yld (y_bin rfl rfl rfl)) rfl ?_
              obtain ⟨e25, h26, hm⟩ := bindS hm
              obtain ⟨ad27, _, rfl, ha28, hy29⟩ := hr3.elem h26
              refine QJ.step (YldS.yld (hy29 Try.runUnderlying24 Try.sizeOf41 rfl rfl)) rfl ?_
              refine QJ.step (YldS.yld (y_move rfl)) rfl ?_
              refine QJ.step (YldS.yld (y_move rfl)) rfl ?_
              obtain ⟨e30, h31, hm⟩ := bindS hm
              obtain ⟨ad32, _, rfl, ha33, hy34⟩ := hr3.elem h31
              refine QJ.step (YldS.yld (hy34 Try.runUnderlying24 Try.sizeOf41 rfl rfl)) rfl ?_
              refine QJ.step (YldS.yld (y_move rfl)) rfl ?_
              obtain ⟨r35, h36, hm⟩ := bindS hm
              refine QJ.step (y_call Try.call63 rfl (RetG.quiet fun w hw => ok_s_l20Less h36 w _ (ha28.st hw) _ (ha33.st hw))) rfl ?_
              refine QJ.step (YldS.yld (y_not rfl)) rfl ?_
              refine QJ.done ?_
              refine PJ.next ?_
              refine WJ.cond (t := !r35) rfl (fun hb37 => ?_) (fun hb37 => ?_)
              · replace hm := ifT hm hb37
                refine WJ.quiet ?_
                refine QJ.step (YldS.yld (y_move rfl)) rfl ?_
                refine QJ.step (YldS.yld (y_assign rfl)) rfl ?_
                refine QJ.done ?_
                exact PJ.joined i15 [] hm ⟨rfl, rfl, rfl, rfl, rfl, rfl, trivial⟩ ⟨List.nodup_nil, rfl⟩
              · replace hm := ifF hm hb37
                refine WJ.skip ?_
                exact PJ.joined begin14 [] hm ⟨rfl, rfl, rfl, rfl, rfl, rfl, trivial⟩ ⟨List.nodup_nil, rfl⟩
            · rintro begin22 hm
              subst hk24
              refine WJ.seq ?_
              refine WJ.quiet ?_
              refine QJ.step (YldS.yld (y_move rfl)) rfl ?_
              refine QJ.step (YldS.yld (y_move rfl)) rfl ?_
              refine QJ.step (YldS.yld (y_bin rfl rfl rfl)) rfl ?_
              refine QJ.step (YldS.yld (y_bin rfl rfl rfl)) rfl ?_
              refine QJ.step (YldS.yld (y_move rfl)) rfl ?_
              refine QJ.step (YldS.yld (y_bin rfl rfl rfl)) rfl ?_
              refine QJ.done ?_
              refine PJ.next ?_
              refine WJ.cond (t := decide ((w64 ((w64 (i15 - begin22)) + 1)) > most13)) rfl (fun hb38 => ?_) (fun hb38 => ?_)
              · replace hm := ifT hm hb38
                refine WJ.seq ?_
                refine WJ.quiet ?_
                refine QJ.step (YldS.yld (y_move rfl)) rfl ?_
                refine QJ.step (YldS.yld (y_assign rfl)) rfl ?_
                refine QJ.done ?_
                refine PJ.next ?_
                refine WJ.quiet ?_
                refine QJ.step (YldS.yld (y_move rfl)) rfl ?_
                refine QJ.step (YldS.yld (y_move rfl)) rfl ?_
                refine QJ.step (YldS.yld (y_bin rfl rfl rfl)) rfl ?_
                refine QJ.step (YldS.yld (y_bin rfl rfl rfl)) rfl ?_
                refine QJ.step (YldS.yld (y_assign rfl)) rfl ?_
                refine QJ.done ?_
                refine PJ.block_normal ?_
                exact PJ.joined (begin22, w64 ((w64 (i15 - begin22)) + 1), begin22) [] hm ⟨rfl, rfl, rfl, rfl, rfl, rfl, trivial⟩ ⟨List.nodup_nil, rfl⟩
              · replace hm := ifF hm hb38
                refine WJ.skip ?_
                refine PJ.block_normal ?_
                exact PJ.joined (from12, most13, begin22) [] hm ⟨rfl, rfl, rfl, rfl, rfl, rfl, trivial⟩ ⟨List.nodup_nil, rfl⟩
          · rintro ⟨from17, most18, begin19⟩ hm
            subst hk21
            refine WJ.quiet ?_
            refine QJ.step (YldS.yld (y_move rfl)) rfl ?_
            refine QJ.step (YldS.yld (y_bin rfl rfl rfl)) rfl ?_
            refine QJ.step (YldS.yld (y_assign rfl)) rfl ?_
            refine QJ.done ?_
            exact PJ.round (from17, most18, begin19, w64 (i15 + 1)) [] hm ⟨rfl, rfl, rfl, rfl, rfl, rfl, trivial⟩ ⟨List.nodup_nil, rfl⟩
        · replace hm := ifF hm hb16
          refine WJ.exit ?_
          refine PJ.then_exit (PJ.then_exit (PJ.block_exit ?_))
          exact PJ.joined (from12, most13) [] hm ⟨rfl, rfl, trivial⟩ ⟨List.nodup_nil, rfl⟩
    · rintro ⟨from8, most9⟩ hm
      subst hk11
      refine WJ.seq ?_
      refine WJ.quiet ?_
      refine QJ.step (YldS.yld (y_move rfl)) rfl ?_
      refine QJ.step (YldS.yld (y_move rfl)) rfl ?_
      refine QJ.step (YldS.yld (y_assign rfl)) rfl ?_
      refine QJ.step (YldS.yld (y_assign rfl)) rfl ?_
      refine QJ.step (YldS.yld (y_assign rfl)) rfl ?_
      refine QJ.done ?_
      refine PJ.next ?_
      refine WJ.ret ?_
      obtain rfl := Option.some.inj hm
      refine PJ.sel (L' := []) [] ⟨List.nodup_nil, rfl⟩ ?_
      exact PJ.retn (vs := [.int .i64 from8, .int .i64 most9, .int .i64 0]) Try.results15 ⟨rfl, rfl, rfl, trivial⟩ ⟨rfl, rfl⟩

set_option maxRecDepth 100000 in
set_option maxHeartbeats 1000000 in
theorem ok_s_DrawSameTrials {N : Nat} {code1 : List UInt8} {r : (List Trial) × (List Trial)} (hm : s_DrawSameTrials N code1 = some r) (w : World) (v2 : Value) (hr3 : RdS w (cx w).Fz v2 fByte.rp code1) :
    Calls Try.prog 16 #[v2] w (RetG (cx w) fun u L => ∃ (u1 : Value) (u2 : Value), (u = tup [u1, u2] ∧ L = [row u1 41 fTrial r.1, row u2 41 fTrial r.2])) := by
  unfold s_DrawSameTrials at hm
  refine Calls.enter [v2] Try.func16 rfl Try.ntmps16 rfl ?_
  refine WJ.seq ?_
  refine WJ.quiet ?_
  refine QJ.step (YldS.yld (y_assign rfl)) rfl ?_
  refine QJ.step (YldS.yld (y_assign rfl)) rfl ?_
  refine QJ.done ?_
  refine PJ.next ?_
  refine WJ.seq ?_
  refine WJ.reg ?_
  refine SJ.q (YldS.yld (y_move rfl)) rfl ?_
  obtain ⟨r4, h5, hm⟩ := bindS hm
  refine SJ.call Try.call68 rfl (fun w hw => ok_s_l00From h5 w _ (hr3.st hw)) rfl ?_
  rintro _ _ ⟨g6, rfl, rfl⟩
  refine SJ.q (YldS.yld (y_assign rfl)) rfl ?_
  refine SJ.nil ?_
  refine PJ.next ?_
  refine WJ.seq ?_
  refine WJ.reg ?_
  refine SJ.q (YldS.yld (y_move rfl)) rfl ?_
  obtain ⟨r7, h8, hm⟩ := bindS hm
  refine SJ.call1 (k := 0) rfl Try.call69 rfl (fun w S hw hA hO => ok_s_l20Draw h8 w S _ (hr3.st1 hw hO) hA) rfl ?_
  rintro v9 _ ⟨_, rfl, rfl⟩
  refine SJ.q (YldS.yld (y_assign rfl)) rfl ?_
  refine SJ.nil ?_
  refine PJ.next ?_
  refine WJ.seq ?_
  refine WJ.reg ?_
  refine SJ.buildSlice (R := fTrial) (os := []) [] Try.runUnderlying24 Try.sizeOf41 Try.zeroValue41 rfl rfl rfl rfl rfl rfl fun v10 => ?_
  refine SJ.q (YldS.yld (y_move rfl)) rfl ?_
  obtain ⟨l11, h12, hm⟩ := bindS hm
  refine SJ.append (k := 0) (R := fTrial) h12 rfl Try.underlying24 el41 rfl rfl rfl (fun w hw => (hw.row_rd (k := 2) rfl)) rfl fun v13 => ?_
  refine SJ.q (YldS.yld (y_assign rfl)) rfl ?_
  refine SJ.nil ?_
  refine PJ.next ?_
  obtain ⟨kj17, hk18, hm⟩ := withK_open hm
  refine WJ.join (X := Int × Int × (List Trial)) (fun (x : Int × Int × (List Trial)) => kj17 x.1 x.2.1 x.2.2 = some r) (fun (x : Int × Int × (List Trial)) => [(4, pt g6 0), (5, v9), (6, v13)]) (fun (x : Int × Int × (List Trial)) => [box g6 134 [v2, .int .i64 x.1, .int .u64 x.2.1], row v13 41 fTrial x.2.2, row v9 41 fTrial r7.1]) ?_ ?_
  · clear hk18
    refine WJ.seq ?_
    refine WJ.reg ?_
    refine SJ.q (YldS.yld (y_move rfl)) rfl ?_
    refine SJ.q (YldS.yld (y_lenRow (k := 0) rfl Try.runUnderlying24 rfl)) rfl ?_
    refine SJ.q (YldS.yld (y_bin rfl rfl rfl)) rfl ?_
    refine SJ.q (YldS.yld (y_move rfl)) rfl ?_
    obtain ⟨x21, h20, hm⟩ := bindS hm
    refine SJ.cut 3 [(4, pt g6 0), (5, v9), (6, v13), (20, .bool x21.1)] [row v13 41 fTrial l11, box g6 134 [v2, .int .i64 x21.2.at_, .int .u64 x21.2.seed], row v9 41 fTrial r7.1] ?_ ?_
    · rcases Bool.eq_false_or_eq_true (decide ((List.length l11 : Int) > 0)) with hb22 | hb22
      · replace h20 := ifT h20 hb22
        refine SJ.on rfl rfl (cB hb22) (SJ.q (YldS.yld (y_move rfl)) rfl ?_)
        obtain ⟨r23, h24, h20⟩ := bindS h20
        refine SJ.on rfl rfl (cB hb22) (SJ.call1 (k := 1) rfl Try.call70 rfl (fun w S hw hA hO => ok_s_l00Src_one h24 w S _ (hr3.st1 hw hO) hA) rfl ?_)
        rintro _ _ ⟨rfl, rfl⟩
        refine SJ.q (YldS.yld (y_pick_t (cB hb22) rfl)) rfl ?_
        obtain rfl := Option.some.inj h20
        exact SJ.cut_end [1, 0, 2] ⟨rfl, rfl, rfl, rfl, trivial⟩ ⟨by decide, rfl⟩
      · replace h20 := ifF h20 hb22
        obtain rfl := Option.some.inj h20
        refine SJ.off rfl rfl (cB hb22) rfl rfl ?_
        refine SJ.off rfl rfl (cB hb22) rfl rfl ?_
        refine SJ.q (YldS.yld (y_pick_f (cB hb22) rfl)) rfl ?_
        exact SJ.cut_end [0, 1, 2] ⟨rfl, rfl, rfl, rfl, trivial⟩ ⟨by decide, rfl⟩
    refine SJ.nil ?_
    refine PJ.next ?_
    refine WJ.cond (t := x21.1) rfl (fun hb25 => ?_) (fun hb25 => ?_)
    · replace hm := ifT hm hb25
      obtain ⟨e26, h27, hm⟩ := bindS hm
      obtain ⟨r28, h29, hm⟩ := bindS hm
      obtain ⟨e30, h31, hm⟩ := bindS hm
      refine WJ.draws (N := 10) (listed0 := #[false, false, false, false, false, false, false, false, false, false]) [row v9 41 fTrial r7.1] follows rfl rfl ?_
      refine RJ.first 0 (listed' := #[true, false, false, false, false, false, false, false, false, false]) [2] rfl (by kernel_rfl) rfl ⟨by decide, rfl⟩ (y_move rfl) rfl ?_
      refine RJ.first 4 (listed' := #[true, false, false, false, true, false, false, false, false, false]) [2] rfl (by kernel_rfl) rfl ⟨by decide, rfl⟩ (y_move rfl) rfl ?_
      refine RJ.hold (X := Unit) 4 #[true, true, true, true, true, true, false, false, false, false] (fun (_ : Unit) => [(4, pt g6 0), (5, v9), (6, v13), (21, v13), (24, .int .i64 e26.errors), (26, .int .i64 r28.1)]) (fun (_ : Unit) => [box g6 134 [v2, .int .i64 r28.2.at_, .int .u64 r28.2.seed], row v13 41 fTrial l11, row v9 41 fTrial r7.1]) ?_ ?_
      · rintro _
        refine RJ.first 6 (listed' := #[true, true, true, true, true, true, true, false, false, false]) [2] rfl (by kernel_rfl) rfl ⟨by decide, rfl⟩ (y_bin rfl rfl rfl) rfl ?_
        refine RJ.step1 7 [2] (by kernel_rfl) ⟨by decide, rfl⟩ ?_
        refine RO.of (listed' := #[true, true, true, true, true, true, true, true, false, false]) rfl rfl ?_
        refine SJ.q (YldS.yld (y_ixRow (k := 1) (R := fTrial) rfl Try.runUnderlying24 Try.sizeOf41 rfl rfl h31)) rfl ?_
        refine SJ.nil ?_
        refine PJ.draw ?_
        refine RJ.first 8 (listed' := #[true, true, true, true, true, true, true, true, true, false]) [2] rfl (by kernel_rfl) rfl ⟨by decide, rfl⟩ (y_fldR fld41_1 rfl) rfl ?_
        refine RJ.step1 9 [2] (by kernel_rfl) ⟨by decide, rfl⟩ ?_
        refine RO.of (listed' := #[true, true, true, true, true, true, true, true, true, true]) rfl rfl ?_
        refine SJ.storeRL (k := 1) (i := (Int.toNat 0)) (off := 1) (us := [.int .i64 (w64 (e26.errors + r28.1))]) (b := (Trial.mk e30.strokes (w64 (e26.errors + r28.1)) e30.seconds)) rfl rfl (idx_get h31) rfl rfl Try.sizeOf2 rfl rfl rfl ?_
        refine SJ.nil ?_
        refine PJ.draw ?_
        refine RJ.fin [2] (by kernel_rfl) ⟨by decide, rfl⟩ ?_
        exact PJ.joined (r28.2.at_, r28.2.seed, (List.set l11 (Int.toNat 0) (Trial.mk e30.strokes (w64 (e26.errors + r28.1)) e30.seconds))) [0, 1, 2] hm ⟨rfl, rfl, rfl, trivial⟩ ⟨by decide, rfl⟩
      · intro hD32
        refine RJ.step2 1 5 [2] (by kernel_rfl) ⟨by decide, rfl⟩ ?_ ?_
        · refine RO.of (listed' := #[true, true, false, false, true, false, false, false, false, false]) rfl rfl ?_
          refine SJ.q (YldS.yld (y_ixRow (k := 0) (R := fTrial) rfl Try.runUnderlying24 Try.sizeOf41 rfl rfl h27)) rfl ?_
          refine SJ.nil ?_
          refine PJ.draw ?_
          refine RJ.first 2 (listed' := #[true, true, true, false, true, false, false, false, false, false]) [2] rfl (by kernel_rfl) rfl ⟨by decide, rfl⟩ (y_fldR fld41_1 rfl) rfl ?_
          refine RJ.step2 3 5 [2] (by kernel_rfl) ⟨by decide, rfl⟩ ?_ ?_
          · refine RO.of (listed' := #[true, true, true, true, true, false, false, false, false, false]) rfl rfl ?_
            refine SJ.q (YldS.yld (y_loadR (k := 0) (i := (Int.toNat 0)) (off := 1) (u := .int .i64 e26.errors) rfl Try.isAgg2 rfl (idx_get h27) rfl)) rfl ?_
            refine SJ.nil ?_
            refine PJ.draw ?_
            refine RJ.step1 5 [2] (by kernel_rfl) ⟨by decide, rfl⟩ ?_
            refine RO.of (listed' := #[true, true, true, true, true, true, false, false, false, false]) rfl rfl ?_
            refine SJ.call1 (k := 1) rfl Try.call71 rfl (fun w S hw hA hO => ok_s_l00Src_pick h29 w S _ (hr3.st1 hw hO) hA) rfl ?_
            rintro _ _ ⟨rfl, rfl⟩
            refine SJ.nil ?_
            refine PJ.draw ?_
            exact RJ.weak (hD32 ()) [0, 1, 2] ⟨rfl, rfl, rfl, rfl, rfl, rfl, trivial⟩ ⟨by decide, rfl⟩
          · refine RO.of (listed' := #[true, true, true, false, true, true, false, false, false, false]) rfl rfl ?_
            refine SJ.call1 (k := 1) rfl Try.call71 rfl (fun w S hw hA hO => ok_s_l00Src_pick h29 w S _ (hr3.st1 hw hO) hA) rfl ?_
            rintro _ _ ⟨rfl, rfl⟩
            refine SJ.nil ?_
            refine PJ.draw ?_
            refine RJ.step1 3 [2] (by kernel_rfl) ⟨by decide, rfl⟩ ?_
            refine RO.of (listed' := #[true, true, true, true, true, true, false, false, false, false]) rfl rfl ?_
            refine SJ.q (YldS.yld (y_loadR (k := 1) (i := (Int.toNat 0)) (off := 1) (u := .int .i64 e26.errors) rfl Try.isAgg2 rfl (idx_get h27) rfl)) rfl ?_
            refine SJ.nil ?_
            refine PJ.draw ?_
            exact RJ.weak (hD32 ()) [0, 1, 2] ⟨rfl, rfl, rfl, rfl, rfl, rfl, trivial⟩ ⟨by decide, rfl⟩
        · refine RO.of (listed' := #[true, false, false, false, true, true, false, false, false, false]) rfl rfl ?_
          refine SJ.call1 (k := 1) rfl Try.call71 rfl (fun w S hw hA hO => ok_s_l00Src_pick h29 w S _ (hr3.st1 hw hO) hA) rfl ?_
          rintro _ _ ⟨rfl, rfl⟩
          refine SJ.nil ?_
          refine PJ.draw ?_
          refine RJ.step1 1 [2] (by kernel_rfl) ⟨by decide, rfl⟩ ?_
          refine RO.of (listed' := #[true, true, false, false, true, true, false, false, false, false]) rfl rfl ?_
          refine SJ.q (YldS.yld (y_ixRow (k := 1) (R := fTrial) rfl Try.runUnderlying24 Try.sizeOf41 rfl rfl h27)) rfl ?_
          refine SJ.nil ?_
          refine PJ.draw ?_
          refine RJ.first 2 (listed' := #[true, true, true, false, true, true, false, false, false, false]) [2] rfl (by kernel_rfl) rfl ⟨by decide, rfl⟩ (y_fldR fld41_1 rfl) rfl ?_
          refine RJ.step1 3 [2] (by kernel_rfl) ⟨by decide, rfl⟩ ?_
          refine RO.of (listed' := #[true, true, true, true, true, true, false, false, false, false]) rfl rfl ?_
          refine SJ.q (YldS.yld (y_loadR (k := 1) (i := (Int.toNat 0)) (off := 1) (u := .int .i64 e26.errors) rfl Try.isAgg2 rfl (idx_get h27) rfl)) rfl ?_
          refine SJ.nil ?_
          refine PJ.draw ?_
          exact RJ.weak (hD32 ()) [0, 1, 2] ⟨rfl, rfl, rfl, rfl, rfl, rfl, trivial⟩ ⟨by decide, rfl⟩
    · replace hm := ifF hm hb25
      refine WJ.skip ?_
      exact PJ.joined (x21.2.at_, x21.2.seed, l11) [1, 0, 2] hm ⟨rfl, rfl, rfl, trivial⟩ ⟨by decide, rfl⟩
  · rintro ⟨x14, x15, l16⟩ hm
    subst hk18
    obtain ⟨kj35, hk36, hm⟩ := withK_open hm
    refine WJ.join (X := (List Trial) × Value) (fun (x : (List Trial) × Value) => kj35 x.1 = some r) (fun (x : (List Trial) × Value) => [(5, v9), (6, x.2)]) (fun (x : (List Trial) × Value) => [row x.2 41 fTrial x.1, row v9 41 fTrial r7.1]) ?_ ?_
    · clear hk36
      refine WJ.seq ?_
      refine WJ.reg ?_
      refine SJ.q (YldS.yld (y_move rfl)) rfl ?_
      obtain ⟨r37, h38, hm⟩ := bindS hm
      refine SJ.call1 (k := 0) rfl Try.call70 rfl (fun w S hw hA hO => ok_s_l00Src_one h38 w S _ (hr3.st1 hw hO) hA) rfl ?_
      rintro _ _ ⟨rfl, rfl⟩
      refine SJ.nil ?_
      refine PJ.next ?_
      refine WJ.cond (t := r37.1) rfl (fun hb39 => ?_) (fun hb39 => ?_)
      · replace hm := ifT hm hb39
        refine WJ.reg ?_
        refine SJ.q (YldS.yld (y_move rfl)) rfl ?_
        refine SJ.q (YldS.yld (y_build (parts := []) (places := [(0, 1), (1, 1), (2, 1)]) (r := [.int .i64 ((Trial.mk 0 0 0).strokes), .int .i64 ((Trial.mk 0 0 0).errors), .int .i64 ((Trial.mk 0 0 0).seconds)]) pl41 Try.zeroValue41 rfl rfl rfl rfl)) rfl ?_
        refine SJ.buildSlice (R := fTrial) (os := [.tmp 33]) [(Trial.mk 0 0 0)] Try.runUnderlying24 Try.sizeOf41 Try.zeroValue41 rfl rfl rfl rfl rfl rfl fun v40 => ?_
        obtain ⟨l41, h42, hm⟩ := bindS hm
        refine SJ.append (k := 2) (R := fTrial) h42 rfl Try.underlying24 el41 rfl rfl rfl (fun w hw => (hw.row_rd (k := 0) rfl)) rfl fun v43 => ?_
        refine SJ.q (YldS.yld (y_assign rfl)) rfl ?_
        refine SJ.nil ?_
        exact PJ.joined (l41, v43) [2, 3] hm ⟨rfl, rfl, trivial⟩ ⟨by decide, rfl⟩
      · replace hm := ifF hm hb39
        refine WJ.skip ?_
        exact PJ.joined (l16, v13) [1, 2] hm ⟨rfl, rfl, trivial⟩ ⟨by decide, rfl⟩
    · rintro ⟨l33, v34⟩ hm
      subst hk36
      refine WJ.seq ?_
      refine WJ.quiet ?_
      refine QJ.step (YldS.yld (y_move rfl)) rfl ?_
      refine QJ.step (YldS.yld (y_move rfl)) rfl ?_
      refine QJ.step (YldS.yld (y_assign rfl)) rfl ?_
      refine QJ.step (YldS.yld (y_assign rfl)) rfl ?_
      refine QJ.done ?_
      refine PJ.next ?_
      refine WJ.ret ?_
      obtain rfl := Option.some.inj hm
      refine PJ.sel (L' := [row v9 41 fTrial r7.1, row v34 41 fTrial l33]) [1, 0] ⟨by decide, rfl⟩ ?_
      exact PJ.retn (vs := [v9, v34]) Try.results16 ⟨rfl, rfl, trivial⟩ ⟨_, _, rfl, rfl⟩

set_option maxRecDepth 100000 in
set_option maxHeartbeats 1000000 in
theorem ok_w_f6ints {N : Nat} {a1 : List Int} {b4 : List Int} {r : Bool} (hm : w_f6ints N a1 b4 = some r) (w : World) (v2 : Value) (hr3 : RdS w (cx w).Fz v2 fI64.rp a1) (v5 : Value) (hr6 : RdS w (cx w).Fz v5 fI64.rp b4) :
    Calls Try.prog 17 #[v2, v5] w (Ret (cx w) (.bool r)) := by
  unfold w_f6ints at hm
  refine Calls.enter [v2, v5] Try.func17 rfl Try.ntmps17 rfl ?_
  refine WJ.seq ?_
  refine WJ.quiet ?_
  refine QJ.step (YldS.yld (y_assign rfl)) rfl ?_
  refine QJ.done ?_
  refine PJ.next ?_
  refine WJ.seq ?_
  refine WJ.seq ?_
  refine WJ.quiet ?_
  refine QJ.step (YldS.yld (y_move rfl)) rfl ?_
  refine QJ.step (YldS.yld (y_lenS Try.runUnderlying27 hr3 rfl)) rfl ?_
  refine QJ.step (YldS.yld (y_move rfl)) rfl ?_
  refine QJ.step (YldS.yld (y_lenS Try.runUnderlying27 hr6 rfl)) rfl ?_
  refine QJ.step (YldS.yld (y_bin rfl rfl rfl)) rfl ?_
  refine QJ.done ?_
  refine PJ.next ?_
  refine WJ.cond (t := ((List.length a1 : Int) != (List.length b4 : Int))) rfl (fun hb7 => ?_) (fun hb7 => ?_)
  · replace hm := ifT hm hb7
    refine WJ.seq ?_
    refine WJ.quiet ?_
    refine QJ.step (YldS.yld (y_assign rfl)) rfl ?_
    refine QJ.done ?_
    refine PJ.next ?_
    refine WJ.ret ?_
    refine PJ.then_ret ?_
    obtain rfl := Option.some.inj hm
    refine PJ.sel (L' := []) [] ⟨List.nodup_nil, rfl⟩ ?_
    exact PJ.retn (vs := [.bool false]) Try.results17 ⟨rfl, trivial⟩ ⟨rfl, rfl⟩
  · replace hm := ifF hm hb7
    refine WJ.skip ?_
    refine PJ.next ?_
    obtain ⟨kj8, hk9, hm⟩ := withK_open hm
    refine WJ.join (X := Unit) (fun (_ : Unit) => kj8  = some r) (fun (_ : Unit) => []) (fun (_ : Unit) => []) ?_ ?_
    · clear hk9
      refine WJ.seq ?_
      refine WJ.quiet ?_
      refine QJ.step (YldS.yld (y_assign rfl)) rfl ?_
      refine QJ.done ?_
      refine PJ.next ?_
      refine WJ.block ?_
      refine WJ.sel (L' := (fun (x : Int) => []) 0) [] ⟨List.nodup_nil, rfl⟩ ?_
      refine WJ.sub (m' := (fun (x : Int) => [(0, v2), (1, v5), (5, .int .i64 x)]) 0) ⟨rfl, rfl, rfl, trivial⟩ ?_
      refine WJ.loop (X := Int) (fun N (x : Int) => w_f6ints_l1 kj8 a1 b4 N x = some r) (fun (x : Int) => [(0, v2), (1, v5), (5, .int .i64 x)]) (fun (x : Int) => []) ?_ N 0 hm
      · rintro N i10 hI
        have hm := hI; clear hI
        cases N with
        | zero => cases hm
        | succ N =>
        unfold w_f6ints_l1 at hm
        refine WJ.seq ?_
        refine WJ.seq ?_
        refine WJ.quiet ?_
        refine QJ.step (YldS.yld (y_move rfl)) rfl ?_
        refine QJ.step (YldS.yld (y_move rfl)) rfl ?_
        refine QJ.step (YldS.yld (y_lenS Try.runUnderlying27 hr3 rfl)) rfl ?_
        refine QJ.step (YldS.yld (y_bin rfl rfl rfl)) rfl ?_
        refine QJ.done ?_
        refine PJ.next ?_
        refine WJ.cond (t := decide (i10 < (List.length a1 : Int))) rfl (fun hb11 => ?_) (fun hb11 => ?_)
        · replace hm := ifT hm hb11
          refine WJ.skip ?_
          refine PJ.next ?_
          refine WJ.seq ?_
          refine WJ.block ?_
          refine WJ.seq ?_
          refine WJ.quiet_draw follows (by kernel_rfl) ?_
          refine QJ.step (YldS.yld (y_move rfl)) rfl ?_
          refine QJ.step (YldS.yld (y_move rfl)) rfl ?_
          obtain ⟨e12, h13, hm⟩ := bindS hm
          obtain ⟨ad14, _, rfl, ha15, hy16⟩ := hr3.elem h13
          refine QJ.step (YldS.yld (hy16 Try.runUnderlying27 Try.sizeOf2 rfl rfl)) rfl ?_
          refine QJ.step (YldS.yld (y_load1 (v := .int .i64 e12) Try.isAgg2 ha15 St.frozenC rfl)) rfl ?_
          refine QJ.step (YldS.yld (y_move rfl)) rfl ?_
          refine QJ.step (YldS.yld (y_move rfl)) rfl ?_
          obtain ⟨e17, h18, hm⟩ := bindS hm
          obtain ⟨ad19, _, rfl, ha20, hy21⟩ := hr6.elem h18
          refine QJ.step (YldS.yld (hy21 Try.runUnderlying27 Try.sizeOf2 rfl rfl)) rfl ?_
          refine QJ.step (YldS.yld (y_load1 (v := .int .i64 e17) Try.isAgg2 ha20 St.frozenC rfl)) rfl ?_
          refine QJ.step (YldS.yld (y_bin rfl rfl rfl)) rfl ?_
          refine QJ.done ?_
          refine PJ.next ?_
          refine WJ.cond (t := (e12 != e17)) rfl (fun hb22 => ?_) (fun hb22 => ?_)
          · replace hm := ifT hm hb22
            refine WJ.seq ?_
            refine WJ.quiet ?_
            refine QJ.step (YldS.yld (y_assign rfl)) rfl ?_
            refine QJ.done ?_
            refine PJ.next ?_
            refine WJ.ret ?_
            refine PJ.block_ret (PJ.then_ret (PJ.then_ret (PJ.block_ret (PJ.then_ret ?_))))
            obtain rfl := Option.some.inj hm
            refine PJ.sel (L' := []) [] ⟨List.nodup_nil, rfl⟩ ?_
            exact PJ.retn (vs := [.bool false]) Try.results17 ⟨rfl, trivial⟩ ⟨rfl, rfl⟩
          · replace hm := ifF hm hb22
            refine WJ.skip ?_
            refine PJ.block_normal (PJ.next ?_)
            refine WJ.quiet ?_
            refine QJ.step (YldS.yld (y_move rfl)) rfl ?_
            refine QJ.step (YldS.yld (y_bin rfl rfl rfl)) rfl ?_
            refine QJ.step (YldS.yld (y_assign rfl)) rfl ?_
            refine QJ.done ?_
            exact PJ.round (w64 (i10 + 1)) [] hm ⟨rfl, rfl, rfl, trivial⟩ ⟨List.nodup_nil, rfl⟩
        · replace hm := ifF hm hb11
          refine WJ.exit ?_
          refine PJ.then_exit (PJ.then_exit (PJ.block_exit ?_))
          exact PJ.joined () [] hm trivial ⟨List.nodup_nil, rfl⟩
    · rintro _ hm
      subst hk9
      refine WJ.seq ?_
      refine WJ.quiet ?_
      refine QJ.step (YldS.yld (y_assign rfl)) rfl ?_
      refine QJ.done ?_
      refine PJ.next ?_
      refine WJ.ret ?_
      obtain rfl := Option.some.inj hm
      refine PJ.sel (L' := []) [] ⟨List.nodup_nil, rfl⟩ ?_
      exact PJ.retn (vs := [.bool true]) Try.results17 ⟨rfl, trivial⟩ ⟨rfl, rfl⟩

set_option maxRecDepth 100000 in
set_option maxHeartbeats 1000000 in
theorem ok_i_SameTrials {N : Nat} {a1 : List Trial} {b4 : List Trial} {r : Bool} (hm : i_SameTrials N a1 b4 = some r) (w : World) (v2 : Value) (hr3 : RdS w (cx w).Fz v2 fTrial.rp a1) (v5 : Value) (hr6 : RdS w (cx w).Fz v5 fTrial.rp b4) :
    Calls Try.prog 18 #[v2, v5] w (Ret (cx w) (.bool r)) := by
  unfold i_SameTrials at hm
  refine Calls.enter [v2, v5] Try.func18 rfl Try.ntmps18 rfl ?_
  refine WJ.seq ?_
  refine WJ.quiet ?_
  refine QJ.step (YldS.yld (y_assign rfl)) rfl ?_
  refine QJ.done ?_
  refine PJ.next ?_
  refine WJ.seq ?_
  refine WJ.seq ?_
  refine WJ.quiet ?_
  refine QJ.step (YldS.yld (y_move rfl)) rfl ?_
  refine QJ.step (YldS.yld (y_lenS Try.runUnderlying24 hr3 rfl)) rfl ?_
  refine QJ.step (YldS.yld (y_move rfl)) rfl ?_
  refine QJ.step (YldS.yld (y_lenS Try.runUnderlying24 hr6 rfl)) rfl ?_
  refine QJ.step (YldS.yld (y_bin rfl rfl rfl)) rfl ?_
  refine QJ.done ?_
  refine PJ.next ?_
  refine WJ.cond (t := ((List.length a1 : Int) != (List.length b4 : Int))) rfl (fun hb7 => ?_) (fun hb7 => ?_)
  · replace hm := ifT hm hb7
    refine WJ.seq ?_
    refine WJ.quiet ?_
    refine QJ.step (YldS.yld (y_assign rfl)) rfl ?_
    refine QJ.done ?_
    refine PJ.next ?_
    refine WJ.ret ?_
    refine PJ.then_ret ?_
    obtain rfl := Option.some.inj hm
    refine PJ.sel (L' := []) [] ⟨List.nodup_nil, rfl⟩ ?_
    exact PJ.retn (vs := [.bool false]) Try.results18 ⟨rfl, trivial⟩ ⟨rfl, rfl⟩
  · replace hm := ifF hm hb7
    refine WJ.skip ?_
    refine PJ.next ?_
    obtain ⟨kj8, hk9, hm⟩ := withK_open hm
    refine WJ.join (X := Unit) (fun (_ : Unit) => kj8  = some r) (fun (_ : Unit) => []) (fun (_ : Unit) => []) ?_ ?_
    · clear hk9
      refine WJ.seq ?_
      refine WJ.quiet ?_
      refine QJ.step (YldS.yld (y_move rfl)) rfl ?_
      refine QJ.step (YldS.yld (y_lenS Try.runUnderlying24 hr3 rfl)) rfl ?_
      refine QJ.step (YldS.yld (y_move rfl)) rfl ?_
      refine QJ.done ?_
      refine PJ.next ?_
      refine WJ.block ?_
      refine WJ.sel (L' := (fun (x : Int) => []) 0) [] ⟨List.nodup_nil, rfl⟩ ?_
      refine WJ.sub (m' := (fun (x : Int) => [(0, v2), (1, v5), (12, .int .i64 (List.length a1 : Int)), (13, .int .i64 x)]) 0) ⟨rfl, rfl, rfl, rfl, trivial⟩ ?_
      refine WJ.loop (X := Int) (fun N (x : Int) => i_SameTrials_l1 kj8 a1 b4 N x = some r) (fun (x : Int) => [(0, v2), (1, v5), (12, .int .i64 (List.length a1 : Int)), (13, .int .i64 x)]) (fun (x : Int) => []) ?_ N 0 hm
      · rintro N x10 hI
        have hm := hI; clear hI
        cases N with
        | zero => cases hm
        | succ N =>
        unfold i_SameTrials_l1 at hm
        refine WJ.seq ?_
        refine WJ.quiet ?_
        refine QJ.step (YldS.yld (y_bin rfl rfl rfl)) rfl ?_
        refine QJ.done ?_
        refine PJ.next ?_
        refine WJ.seq ?_
        refine WJ.cond (t := decide (x10 < (List.length a1 : Int))) rfl (fun hb11 => ?_) (fun hb11 => ?_)
        · replace hm := ifT hm hb11
          refine WJ.skip ?_
          refine PJ.next ?_
          refine WJ.seq ?_
          refine WJ.block ?_
          refine WJ.seq ?_
          refine WJ.quiet ?_
          refine QJ.step (YldS.yld (y_move rfl)) rfl ?_
          refine QJ.step (YldS.yld (y_assign rfl)) rfl ?_
          refine QJ.done ?_
          refine PJ.next ?_
          refine WJ.seq ?_
          refine WJ.quiet_draw follows (by kernel_rfl) ?_
          refine QJ.step (YldS.yld (y_move rfl)) rfl ?_
          refine QJ.step (YldS.yld (y_move rfl)) rfl ?_
          obtain ⟨e12, h13, hm⟩ := bindS hm
          obtain ⟨ad14, _, rfl, ha15, hy16⟩ := hr3.elem h13
          refine QJ.step (YldS.yld (hy16 Try.runUnderlying24 Try.sizeOf41 rfl rfl)) rfl ?_
          refine QJ.step (YldS.yld (y_loadN Try.isAgg41 Try.sizeOf41 rfl ha15 St.frozenC rfl)) rfl ?_
          refine QJ.step (YldS.yld (y_move rfl)) rfl ?_
          refine QJ.step (YldS.yld (y_move rfl)) rfl ?_
          obtain ⟨e17, h18, hm⟩ := bindS hm
          obtain ⟨ad19, _, rfl, ha20, hy21⟩ := hr6.elem h18
          refine QJ.step (YldS.yld (hy21 Try.runUnderlying24 Try.sizeOf41 rfl rfl)) rfl ?_
          refine QJ.step (YldS.yld (y_loadN Try.isAgg41 Try.sizeOf41 rfl ha20 St.frozenC rfl)) rfl ?_
          refine QJ.step (YldS.yld (y_neT e12 e17 eq41 rfl rfl)) rfl ?_
          refine QJ.done ?_
          refine PJ.next ?_
          refine WJ.cond (t := !(Trial.beq e12 e17)) rfl (fun hb22 => ?_) (fun hb22 => ?_)
          · replace hm := ifT hm hb22
            refine WJ.seq ?_
            refine WJ.quiet ?_
            refine QJ.step (YldS.yld (y_assign rfl)) rfl ?_
            refine QJ.done ?_
            refine PJ.next ?_
            refine WJ.ret ?_
            refine PJ.block_ret (PJ.then_ret (PJ.then_ret (PJ.block_ret (PJ.then_ret ?_))))
            obtain rfl := Option.some.inj hm
            refine PJ.sel (L' := []) [] ⟨List.nodup_nil, rfl⟩ ?_
            exact PJ.retn (vs := [.bool false]) Try.results18 ⟨rfl, trivial⟩ ⟨rfl, rfl⟩
          · replace hm := ifF hm hb22
            refine WJ.skip ?_
            refine PJ.block_normal (PJ.next ?_)
            refine WJ.quiet ?_
            refine QJ.step (YldS.yld (y_bin rfl rfl rfl)) rfl ?_
            refine QJ.step (YldS.yld (y_move rfl)) rfl ?_
            refine QJ.done ?_
            exact PJ.round (w64 (x10 + 1)) [] hm ⟨rfl, rfl, rfl, rfl, trivial⟩ ⟨List.nodup_nil, rfl⟩
        · replace hm := ifF hm hb11
          refine WJ.exit ?_
          refine PJ.then_exit (PJ.then_exit (PJ.block_exit ?_))
          exact PJ.joined () [] hm trivial ⟨List.nodup_nil, rfl⟩
    · rintro _ hm
      subst hk9
      refine WJ.seq ?_
      refine WJ.quiet ?_
      refine QJ.step (YldS.yld (y_assign rfl)) rfl ?_
      refine QJ.done ?_
      refine PJ.next ?_
      refine WJ.ret ?_
      obtain rfl := Option.some.inj hm
      refine PJ.sel (L' := []) [] ⟨List.nodup_nil, rfl⟩ ?_
      exact PJ.retn (vs := [.bool true]) Try.results18 ⟨rfl, trivial⟩ ⟨rfl, rfl⟩

set_option maxRecDepth 100000 in
set_option maxHeartbeats 1000000 in
theorem ok_s_SameTrials {N : Nat} {a1 : List Trial} {b4 : List Trial} {r : Bool} (hm : s_SameTrials N a1 b4 = some r) (w : World) (v2 : Value) (hr3 : RdS w (cx w).Fz v2 fTrial.rp a1) (v5 : Value) (hr6 : RdS w (cx w).Fz v5 fTrial.rp b4) :
    Calls Try.prog 19 #[v2, v5] w (Ret (cx w) (.bool r)) := by
  unfold s_SameTrials at hm
  refine Calls.enter [v2, v5] Try.func19 rfl Try.ntmps19 rfl ?_
  refine WJ.seq ?_
  refine WJ.quiet ?_
  refine QJ.step (YldS.yld (y_assign rfl)) rfl ?_
  refine QJ.done ?_
  refine PJ.next ?_
  refine WJ.seq ?_
  refine WJ.seq ?_
  refine WJ.quiet ?_
  refine QJ.step (YldS.yld (y_move rfl)) rfl ?_
  refine QJ.step (YldS.yld (y_lenS Try.runUnderlying24 hr3 rfl)) rfl ?_
  refine QJ.step (YldS.yld (y_move rfl)) rfl ?_
  refine QJ.step (YldS.yld (y_lenS Try.runUnderlying24 hr6 rfl)) rfl ?_
  refine QJ.step (YldS.yld (y_bin rfl rfl rfl)) rfl ?_
  refine QJ.done ?_
  refine PJ.next ?_
  refine WJ.cond (t := ((List.length a1 : Int) != (List.length b4 : Int))) rfl (fun hb7 => ?_) (fun hb7 => ?_)
  · replace hm := ifT hm hb7
    refine WJ.seq ?_
    refine WJ.quiet ?_
    refine QJ.step (YldS.yld (y_assign rfl)) rfl ?_
    refine QJ.done ?_
    refine PJ.next ?_
    refine WJ.ret ?_
    refine PJ.then_ret ?_
    obtain rfl := Option.some.inj hm
    refine PJ.sel (L' := []) [] ⟨List.nodup_nil, rfl⟩ ?_
    exact PJ.retn (vs := [.bool false]) Try.results19 ⟨rfl, trivial⟩ ⟨rfl, rfl⟩
  · replace hm := ifF hm hb7
    refine WJ.skip ?_
    refine PJ.next ?_
    obtain ⟨kj8, hk9, hm⟩ := withK_open hm
    refine WJ.join (X := Unit) (fun (_ : Unit) => kj8  = some r) (fun (_ : Unit) => []) (fun (_ : Unit) => []) ?_ ?_
    · clear hk9
      refine WJ.seq ?_
      refine WJ.quiet ?_
      refine QJ.step (YldS.yld (y_assign rfl)) rfl ?_
      refine QJ.done ?_
      refine PJ.next ?_
      refine WJ.block ?_
      refine WJ.sel (L' := (fun (x : Int) => []) 0) [] ⟨List.nodup_nil, rfl⟩ ?_
      refine WJ.sub (m' := (fun (x : Int) => [(0, v2), (1, v5), (5, .int .i64 x)]) 0) ⟨rfl, rfl, rfl, trivial⟩ ?_
      refine WJ.loop (X := Int) (fun N (x : Int) => s_SameTrials_l1 kj8 a1 b4 N x = some r) (fun (x : Int) => [(0, v2), (1, v5), (5, .int .i64 x)]) (fun (x : Int) => []) ?_ N 0 hm
      · rintro N i10 hI
        have hm := hI; clear hI
        cases N with
        | zero => cases hm
        | succ N =>
        unfold s_SameTrials_l1 at hm
        refine WJ.seq ?_
        refine WJ.seq ?_
        refine WJ.quiet ?_
        refine QJ.step (YldS.yld (y_move rfl)) rfl ?_
        refine QJ.step (YldS.yld (y_move rfl)) rfl ?_
        refine QJ.step (YldS.yld (y_lenS Try.runUnderlying24 hr3 rfl)) rfl ?_
        refine QJ.step (YldS.yld (y_bin rfl rfl rfl)) rfl ?_
        refine QJ.done ?_
        refine PJ.next ?_
        refine WJ.cond (t := decide (i10 < (List.length a1 : Int))) rfl (fun hb11 => ?_) (fun hb11 => ?_)
        · replace hm := ifT hm hb11
          refine WJ.skip ?_
          refine PJ.next ?_
          refine WJ.seq ?_
          refine WJ.block ?_
          refine WJ.seq ?_
          refine WJ.quiet_draw follows (by kernel_rfl) ?_
          refine QJ.step (YldS.yld (y_move rfl)) rfl ?_
          refine QJ.step (YldS.yld (y_move rfl)) rfl ?_
          obtain ⟨e12, h13, hm⟩ := bindS hm
          obtain ⟨ad14, _, rfl, ha15, hy16⟩ := hr3.elem h13
          refine QJ.step (YldS.yld (hy16 Try.runUnderlying24 Try.sizeOf41 rfl rfl)) rfl ?_
          refine QJ.step (YldS.yld (y_loadN Try.isAgg41 Try.sizeOf41 rfl ha15 St.frozenC rfl)) rfl ?_
          refine QJ.step (YldS.yld (y_move rfl)) rfl ?_
          refine QJ.step (YldS.yld (y_move rfl)) rfl ?_
          obtain ⟨e17, h18, hm⟩ := bindS hm
          obtain ⟨ad19, _, rfl, ha20, hy21⟩ := hr6.elem h18
          refine QJ.step (YldS.yld (hy21 Try.runUnderlying24 Try.sizeOf41 rfl rfl)) rfl ?_
          refine QJ.step (YldS.yld (y_loadN Try.isAgg41 Try.sizeOf41 rfl ha20 St.frozenC rfl)) rfl ?_
          refine QJ.step (YldS.yld (y_neT e12 e17 eq41 rfl rfl)) rfl ?_
          refine QJ.done ?_
          refine PJ.next ?_
          refine WJ.cond (t := !(Trial.beq e12 e17)) rfl (fun hb22 => ?_) (fun hb22 => ?_)
          · replace hm := ifT hm hb22
            refine WJ.seq ?_
            refine WJ.quiet ?_
            refine QJ.step (YldS.yld (y_assign rfl)) rfl ?_
            refine QJ.done ?_
            refine PJ.next ?_
            refine WJ.ret ?_
            refine PJ.block_ret (PJ.then_ret (PJ.then_ret (PJ.block_ret (PJ.then_ret ?_))))
            obtain rfl := Option.some.inj hm
            refine PJ.sel (L' := []) [] ⟨List.nodup_nil, rfl⟩ ?_
            exact PJ.retn (vs := [.bool false]) Try.results19 ⟨rfl, trivial⟩ ⟨rfl, rfl⟩
          · replace hm := ifF hm hb22
            refine WJ.skip ?_
            refine PJ.block_normal (PJ.next ?_)
            refine WJ.quiet ?_
            refine QJ.step (YldS.yld (y_move rfl)) rfl ?_
            refine QJ.step (YldS.yld (y_bin rfl rfl rfl)) rfl ?_
            refine QJ.step (YldS.yld (y_assign rfl)) rfl ?_
            refine QJ.done ?_
            exact PJ.round (w64 (i10 + 1)) [] hm ⟨rfl, rfl, rfl, trivial⟩ ⟨List.nodup_nil, rfl⟩
        · replace hm := ifF hm hb11
          refine WJ.exit ?_
          refine PJ.then_exit (PJ.then_exit (PJ.block_exit ?_))
          exact PJ.joined () [] hm trivial ⟨List.nodup_nil, rfl⟩
    · rintro _ hm
      subst hk9
      refine WJ.seq ?_
      refine WJ.quiet ?_
      refine QJ.step (YldS.yld (y_assign rfl)) rfl ?_
      refine QJ.done ?_
      refine PJ.next ?_
      refine WJ.ret ?_
      obtain rfl := Option.some.inj hm
      refine PJ.sel (L' := []) [] ⟨List.nodup_nil, rfl⟩ ?_
      exact PJ.retn (vs := [.bool true]) Try.results19 ⟨rfl, trivial⟩ ⟨rfl, rfl⟩

set_option maxRecDepth 100000 in
set_option maxHeartbeats 1000000 in
theorem ok_s_ValidTrials {N : Nat} {list1 : List Trial} {r : Bool} (hm : s_ValidTrials N list1 = some r) (w : World) (v2 : Value) (hr3 : RdS w (cx w).Fz v2 fTrial.rp list1) :
    Calls Try.prog 21 #[v2] w (Ret (cx w) (.bool r)) := by
  unfold s_ValidTrials at hm
  refine Calls.enter [v2] Try.func21 rfl Try.ntmps21 rfl ?_
  refine WJ.seq ?_
  refine WJ.quiet ?_
  refine QJ.step (YldS.yld (y_assign rfl)) rfl ?_
  refine QJ.done ?_
  refine PJ.next ?_
  refine WJ.seq ?_
  refine WJ.quiet ?_
  refine QJ.step (YldS.yld (y_move rfl)) rfl ?_
  obtain ⟨r4, h5, hm⟩ := bindS hm
  refine QJ.step (y_call Try.call73 rfl (RetG.quiet fun w hw => ok_s_l20Ok h5 w _ (hr3.st hw))) rfl ?_
  refine QJ.step (YldS.yld (y_assign rfl)) rfl ?_
  refine QJ.done ?_
  refine PJ.next ?_
  refine WJ.ret ?_
  obtain rfl := Option.some.inj hm
  refine PJ.sel (L' := []) [] ⟨List.nodup_nil, rfl⟩ ?_
  exact PJ.retn (vs := [.bool r4]) Try.results21 ⟨rfl, trivial⟩ ⟨rfl, rfl⟩

set_option maxRecDepth 100000 in
set_option maxHeartbeats 1000000 in
theorem ok_w_f6faster {a1 : Trial} {b2 : Trial} {penalty3 : Int} {r : Bool} (hm : w_f6faster a1 b2 penalty3 = some r) (w : World)  :
    Calls Try.prog 22 #[.agg (Trial.enc a1).toArray, .agg (Trial.enc b2).toArray, .int .i64 penalty3] w (Ret (cx w) (.bool r)) := by
  unfold w_f6faster at hm
  refine Calls.enter [.agg (Trial.enc a1).toArray, .agg (Trial.enc b2).toArray, .int .i64 penalty3] Try.func22 rfl Try.ntmps22 rfl ?_
  refine WJ.seq ?_
  refine WJ.reg ?_
  refine SJ.box (cs := [.int .i64 a1.strokes, .int .i64 a1.errors, .int .i64 a1.seconds]) rfl rfl rfl fun g4 => ?_
  refine SJ.box (cs := [.int .i64 b2.strokes, .int .i64 b2.errors, .int .i64 b2.seconds]) rfl rfl rfl fun g5 => ?_
  refine SJ.q (YldS.yld (y_assign rfl)) rfl ?_
  refine SJ.nil ?_
  refine PJ.next ?_
  refine WJ.seq ?_
  refine WJ.quiet ?_
  refine QJ.step (YldS.yld (y_fldB (o := 0) fld41_0 rfl)) rfl ?_
  refine QJ.step (YldS.yld (y_loadB (k := 1) (off := 0) (v := .int .i64 a1.strokes) rfl Try.isAgg2 rfl rfl)) rfl ?_
  refine QJ.step (YldS.yld (y_move rfl)) rfl ?_
  refine QJ.step (YldS.yld (y_fldB (o := 0) fld41_1 rfl)) rfl ?_
  refine QJ.step (YldS.yld (y_loadB (k := 1) (off := 1) (v := .int .i64 a1.errors) rfl Try.isAgg2 rfl rfl)) rfl ?_
  refine QJ.step (YldS.yld (y_bin rfl rfl rfl)) rfl ?_
  refine QJ.step (YldS.yld (y_bin rfl rfl rfl)) rfl ?_
  refine QJ.step (YldS.yld (y_max rfl rfl)) rfl ?_
  refine QJ.step (YldS.yld (y_fldB (o := 0) fld41_2 rfl)) rfl ?_
  refine QJ.step (YldS.yld (y_loadB (k := 0) (off := 2) (v := .int .i64 b2.seconds) rfl Try.isAgg2 rfl rfl)) rfl ?_
  refine QJ.step (YldS.yld (y_bin rfl rfl rfl)) rfl ?_
  refine QJ.step (YldS.yld (y_fldB (o := 0) fld41_0 rfl)) rfl ?_
  refine QJ.step (YldS.yld (y_loadB (k := 0) (off := 0) (v := .int .i64 b2.strokes) rfl Try.isAgg2 rfl rfl)) rfl ?_
  refine QJ.step (YldS.yld (y_move rfl)) rfl ?_
  refine QJ.step (YldS.yld (y_fldB (o := 0) fld41_1 rfl)) rfl ?_
  refine QJ.step (YldS.yld (y_loadB (k := 0) (off := 1) (v := .int .i64 b2.errors) rfl Try.isAgg2 rfl rfl)) rfl ?_
  refine QJ.step (YldS.yld (y_bin rfl rfl rfl)) rfl ?_
  refine QJ.step (YldS.yld (y_bin rfl rfl rfl)) rfl ?_
  refine QJ.step (YldS.yld (y_max rfl rfl)) rfl ?_
  refine QJ.step (YldS.yld (y_fldB (o := 0) fld41_2 rfl)) rfl ?_
  refine QJ.step (YldS.yld (y_loadB (k := 1) (off := 2) (v := .int .i64 a1.seconds) rfl Try.isAgg2 rfl rfl)) rfl ?_
  refine QJ.step (YldS.yld (y_bin rfl rfl rfl)) rfl ?_
  refine QJ.step (YldS.yld (y_bin rfl rfl rfl)) rfl ?_
  refine QJ.step (YldS.yld (y_assign rfl)) rfl ?_
  refine QJ.done ?_
  refine PJ.next ?_
  refine WJ.ret ?_
  obtain rfl := Option.some.inj hm
  refine PJ.sel (L' := []) [] ⟨List.nodup_nil, rfl⟩ ?_
  exact PJ.retn (vs := [.bool (decide ((w64 ((imax 0 (w64 (a1.strokes - (w64 (penalty3 * a1.errors))))) * b2.seconds)) > (w64 ((imax 0 (w64 (b2.strokes - (w64 (penalty3 * b2.errors))))) * a1.seconds))))]) Try.results22 ⟨rfl, trivial⟩ ⟨rfl, rfl⟩

end Go.Proofs.Ytpdcifgphocllaa
