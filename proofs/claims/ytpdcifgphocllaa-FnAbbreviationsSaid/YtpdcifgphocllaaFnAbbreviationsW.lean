/-
  The walks: a call hands back what its plain function computes, where that has a value. No other conditions.
-/
import Derived.Test.YtpdcifgphocllaaFnAbbreviationsM
import Derived.Test.YtpdcifgphocllaaChecked
import Derived.Test.YtpdcifgphocllaaFnAbbreviationsS
namespace Go.Proofs.Ytpdcifgphocllaa
open Go.RowKit Go.Proofs
set_option linter.unusedVariables false
set_option linter.unusedSimpArgs false

theorem follows : Try.prog.follows .mixedOrders = true := by kernel_rfl

def Abbr.enc (x : Abbr) : List Value := [str x.short, str x.long]
def fAbbr : FRp Abbr := ⟨2, Abbr.enc, fun _ => rfl, by decide, fun x u hu => by
  simp only [Abbr.enc, List.mem_cons, List.not_mem_nil, or_false] at hu
  rcases hu with rfl | rfl <;> rfl⟩

def shL00Src : Sh L00Src UInt8 3 := ⟨fun v x => [v, .int .i64 x.at_, .int .u64 x.seed], fun x => x.code, 0, fun _ _ => rfl, fun _ _ => rfl, fun v x hv u hu => by
  simp only [List.mem_cons, List.not_mem_nil, or_false] at hu
  rcases hu with rfl | rfl | rfl <;> first | rfl | exact hv, by decide⟩

theorem pl134 : PlacesOk Try.prog 134 [(0, 1), (1, 1), (2, 1)] := ⟨_, Try.runUnderlying134, fun w => by simp [Try.sizeOf3, Try.sizeOf22, Try.sizeOf132]⟩
theorem fld134_1 : FieldOk Try.prog 134 1 1 3 0 := ⟨_, _, Try.runUnderlying134, rfl, rfl, rfl, Try.sizeOf3⟩
theorem fld134_0 : FieldOk Try.prog 134 0 0 22 0 := ⟨_, _, Try.runUnderlying134, rfl, rfl, rfl, Try.sizeOf22⟩
theorem fld134_2 : FieldOk Try.prog 134 2 2 132 0 := ⟨_, _, Try.runUnderlying134, rfl, rfl, rfl, Try.sizeOf132⟩
theorem pl64 : PlacesOk Try.prog 64 [(0, 1), (1, 1)] := ⟨_, Try.runUnderlying64, fun w => by simp [Try.sizeOf9]⟩
theorem fld64_1 : FieldOk Try.prog 64 1 1 9 0 := ⟨_, _, Try.runUnderlying64, rfl, rfl, rfl, Try.sizeOf9⟩
theorem fld64_0 : FieldOk Try.prog 64 0 0 9 0 := ⟨_, _, Try.runUnderlying64, rfl, rfl, rfl, Try.sizeOf9⟩
set_option maxRecDepth 100000 in
theorem el64 : ElemOk Try.prog 64 2 (fAbbr.enc (Abbr.mk [] [])) := ⟨_, _, Try.type64, rfl, rfl, rfl, by decide⟩
set_option maxRecDepth 100000 in
theorem el9 : ElemOk Try.prog 9 1 (fStr.enc []) := ⟨_, _, Try.type9, rfl, rfl, rfl, by decide⟩
set_option maxRecDepth 100000 in
theorem el2 : ElemOk Try.prog 2 1 (fI64.enc 0) := ⟨_, _, Try.type2, rfl, rfl, rfl, by decide⟩
set_option maxRecDepth 100000 in
open Go.RowKit Go.Lib Go.Sort Go.Proofs in
theorem sortS65_27 : SortS Try.prog 65 27 := by
  have hk : ∀ (n : Nat) (ie : TypeInfo), 2 ≤ n → ie.hasPointers = false → ie.bytes = 8 → Lib.swapperK n ie 6 = 5 := fun n ie h a b => by
    have c1 : (n == 0) = false := by rw [beq_eq_false_iff_ne]; omega
    have c2 : (n == 1) = false := by rw [beq_eq_false_iff_ne]; omega
    simp [Lib.swapperK, a, b, c1, c2]
  exact sortS_of Try.laysGt8 27 2 _ _ Try.type27 rfl (by kernel_rfl) Try.type2 6 (fun _ => by kernel_rfl) rfl Try.isAgg2 136
    (fun n h hn p c lf la lb w R hp => Any.sort_SliceStable_of_stable Try.laysGt8 27 2 _ _ Try.type27 rfl (by kernel_rfl) Try.type2 6 (fun _ => by kernel_rfl) p n c hn 136 (by rw [hk n _ h rfl rfl]; kernel_rfl) lf la lb w R hp) 132 133
    (fun p c lf la lb w R hp => Any.sort_SliceStable_of_stable Try.laysGt8 27 2 _ _ Try.type27 rfl (by kernel_rfl) Try.type2 6 (fun _ => by kernel_rfl) p 0 c (by decide) 132 (by kernel_rfl) lf la lb w R hp)
    (fun p c lf la lb w R hp => Any.sort_SliceStable_of_stable Try.laysGt8 27 2 _ _ Try.type27 rfl (by kernel_rfl) Try.type2 6 (fun _ => by kernel_rfl) p 1 c (by decide) 133 (by kernel_rfl) lf la lb w R hp)
    (fun args W => run_callFunc_extern Try.func136 (by kernel_rfl) (by kernel_rfl) (by kernel_rfl) (e := Extern.ReflectliteSwapper.swap true) (by kernel_rfl) args W)

theorem eq64 : EqOk Try.prog 64 Abbr.enc Abbr.beq := ⟨Try.eqGuardType64, fun x y w => by
  have hf : Try.prog.fieldsOf 64 = #[{ name := "Short", type := 9, offset := 0, embedded := false, tag := "", pkgPath := "", byteOffset := 0 }, { name := "Long", type := 9, offset := 1, embedded := false, tag := "", pkgPath := "", byteOffset := 16 }] := by kernel_rfl
  have ht : Try.prog.underlying 64 = some (.struct (Try.prog.fieldsOf 64)) := by rw [hf]; exact Try.underlying64
  rw [run_equalIn_struct w 9999 64 _ _ ht Try.stoodInHeld64, hf]
  obtain ⟨a0, a1⟩ := x
  obtain ⟨b0, b1⟩ := y
  simp only [Op.eqFields, Abbr.enc, Abbr.beq]
  simp [part, str, Try.isAgg9, run_equalIn_string _ _ _ _ _ Try.underlying9, ByteArray.toList_eq]
  (repeat' split) <;> simp_all⟩

set_option maxRecDepth 100000 in
set_option maxHeartbeats 1000000 in
theorem ok_w_f6big {code1 : List UInt8} {r : Bool} (hm : w_f6big code1 = some r) (w : World) (v2 : Value) (hr3 : RdS w (cx w).Fz v2 fByte.rp code1) :
    Calls Try.prog 6 #[v2] w (Ret (cx w) (.bool r)) := by
  unfold w_f6big at hm
  refine Calls.enter [v2] Try.func6 rfl Try.ntmps6 rfl ?_
  refine WJ.seq ?_
  refine WJ.quiet ?_
  refine QJ.step (YldS.yld (y_assign rfl)) rfl ?_
  refine QJ.done ?_
  refine PJ.next ?_
  refine WJ.seq ?_
  refine WJ.quiet ?_
  refine QJ.step (YldS.yld (y_move rfl)) rfl ?_
  refine QJ.step (YldS.yld (y_lenS Try.runUnderlying22 hr3 rfl)) rfl ?_
  refine QJ.step (YldS.yld (y_bin rfl rfl rfl)) rfl ?_
  refine QJ.step (YldS.yld (y_assign rfl)) rfl ?_
  refine QJ.done ?_
  refine PJ.next ?_
  refine WJ.ret ?_
  obtain rfl := Option.some.inj hm
  refine PJ.sel (L' := []) [] ⟨List.nodup_nil, rfl⟩ ?_
  exact PJ.retn (vs := [.bool (decide ((List.length code1 : Int) > 4096))]) Try.results6 ⟨rfl, trivial⟩ ⟨rfl, rfl⟩

set_option maxRecDepth 100000 in
set_option maxHeartbeats 1000000 in
theorem ok_s_l00From {code1 : List UInt8} {r : L00Src} (hm : s_l00From code1 = some r) (w : World) (v2 : Value) (hr3 : RdS w (cx w).Fz v2 fByte.rp code1) :
    Calls Try.prog 68 #[v2] w (RetG (cx w) fun u L => ∃ (u1 : Nat), (u = pt u1 0 ∧ L = [box u1 134 [v2, .int .i64 r.at_, .int .u64 r.seed]])) := by
  unfold s_l00From at hm
  refine Calls.enter [v2] Try.func68 rfl Try.ntmps68 rfl ?_
  refine WJ.seq ?_
  refine WJ.quiet ?_
  refine QJ.step (YldS.yld (y_assign rfl)) rfl ?_
  refine QJ.done ?_
  refine PJ.next ?_
  refine WJ.seq ?_
  refine WJ.reg ?_
  refine SJ.q (YldS.yld (y_move rfl)) rfl ?_
  refine SJ.q (YldS.yld (y_build (parts := [(0, .tmp 3)]) (places := [(0, 1), (1, 1), (2, 1)]) (r := [v2, .int .i64 0, .int .u64 0]) pl134 Try.zeroValue134 rfl rfl (show _ = [(0, [v2])] from by simp only [List.map, RdS.cells1 hr3]) rfl)) rfl ?_
  refine SJ.box (cs := [v2, .int .i64 0, .int .u64 0]) rfl rfl rfl fun g4 => ?_
  refine SJ.q (YldS.yld (y_assign rfl)) rfl ?_
  refine SJ.nil ?_
  refine PJ.next ?_
  refine WJ.ret ?_
  obtain rfl := Option.some.inj hm
  refine PJ.sel (L' := [box g4 134 [v2, .int .i64 0, .int .u64 0]]) [0] ⟨by decide, rfl⟩ ?_
  exact PJ.retn (vs := [pt g4 0]) Try.results68 ⟨rfl, trivial⟩ ⟨_, rfl, rfl⟩

set_option maxRecDepth 100000 in
set_option maxHeartbeats 1000000 in
theorem ok_s_l00Src_next {s1 : L00Src} {g2 : Nat} {r : Int × L00Src} (hm : s_l00Src_next s1 = some r) (w : World) (S : Nat → Prop) (v3 : Value) (hr4 : RdS w (Cx.Fz ⟨w, S⟩) v3 fByte.rp s1.code) (hA : (box g2 134 [v3, .int .i64 s1.at_, .int .u64 s1.seed]).holds w S) :
    Calls Try.prog 112 #[pt g2 0] w (RetG ⟨w, S⟩ fun u L => (u = .int .i64 r.1 ∧ L = [box g2 134 [v3, .int .i64 r.2.at_, .int .u64 r.2.seed]])) := by
  unfold s_l00Src_next at hm
  refine Calls.enter1 hA [pt g2 0] Try.func112 rfl Try.ntmps112 rfl ?_
  refine WJ.seq ?_
  refine WJ.quiet ?_
  refine QJ.step (YldS.yld (y_assign rfl)) rfl ?_
  refine QJ.done ?_
  refine PJ.next ?_
  refine WJ.seq ?_
  refine WJ.quiet ?_
  refine QJ.step (YldS.yld (y_assign rfl)) rfl ?_
  refine QJ.done ?_
  refine PJ.next ?_
  obtain ⟨kj6, hk7, hm⟩ := withK_open hm
  refine WJ.join (X := Int) (fun (x : Int) => kj6 x = some r) (fun (x : Int) => [(0, pt g2 0), (3, .int .i64 x)]) (fun (x : Int) => [box g2 134 [v3, .int .i64 s1.at_, .int .u64 s1.seed]]) ?_ ?_
  · clear hk7
    refine WJ.seq ?_
    refine WJ.quiet_draw follows (by kernel_rfl) ?_
    refine QJ.step (YldS.yld (y_move rfl)) rfl ?_
    refine QJ.step (YldS.yld (y_nil rfl)) rfl ?_
    refine QJ.step (YldS.yld (y_fldB (o := 0) fld134_1 rfl)) rfl ?_
    refine QJ.step (YldS.yld (y_loadB (k := 0) (off := 1) (v := .int .i64 s1.at_) rfl Try.isAgg3 rfl rfl)) rfl ?_
    refine QJ.step (YldS.yld (y_move rfl)) rfl ?_
    refine QJ.step (YldS.yld (y_nil rfl)) rfl ?_
    refine QJ.step (YldS.yld (y_fldB (o := 0) fld134_0 rfl)) rfl ?_
    refine QJ.step (YldS.yld (y_loadB (k := 0) (off := 0) (v := v3) rfl Try.isAgg22 rfl rfl)) rfl ?_
    refine QJ.step (YldS.yld (y_lenS Try.runUnderlying22 hr4 rfl)) rfl ?_
    refine QJ.step (YldS.yld (y_bin rfl rfl rfl)) rfl ?_
    refine QJ.done ?_
    refine PJ.next ?_
    refine WJ.cond (t := decide (s1.at_ < (List.length s1.code : Int))) rfl (fun hb8 => ?_) (fun hb8 => ?_)
    · replace hm := ifT hm hb8
      refine WJ.quiet_draw follows (by kernel_rfl) ?_
      refine QJ.step (YldS.yld (y_move rfl)) rfl ?_
      refine QJ.step (YldS.yld (y_nil rfl)) rfl ?_
      refine QJ.step (YldS.yld (y_fldB (o := 0) fld134_0 rfl)) rfl ?_
      refine QJ.step (YldS.yld (y_loadB (k := 0) (off := 0) (v := v3) rfl Try.isAgg22 rfl rfl)) rfl ?_
      refine QJ.step (YldS.yld (y_move rfl)) rfl ?_
      refine QJ.step (YldS.yld (y_nil rfl)) rfl ?_
      refine QJ.step (YldS.yld (y_fldB (o := 0) fld134_1 rfl)) rfl ?_
      refine QJ.step (YldS.yld (y_loadB (k := 0) (off := 1) (v := .int .i64 s1.at_) rfl Try.isAgg3 rfl rfl)) rfl ?_
      obtain ⟨e9, h10, hm⟩ := bindS hm
      obtain ⟨ad11, _, rfl, ha12, hy13⟩ := hr4.elem h10
      refine QJ.step (YldS.yld (hy13 Try.runUnderlying22 Try.sizeOf5 rfl rfl)) rfl ?_
      refine QJ.step (YldS.yld (y_load1 (v := .int .u8 (UInt8.toNat e9 : Int)) Try.isAgg5 ha12 St.frozenC rfl)) rfl ?_
      refine QJ.step (YldS.yld (y_conv8 Try.runUnderlying5 Try.runUnderlying3 rfl)) rfl ?_
      refine QJ.step (YldS.yld (y_assign rfl)) rfl ?_
      refine QJ.done ?_
      exact PJ.joined (UInt8.toNat e9 : Int) [0] hm ⟨rfl, rfl, trivial⟩ ⟨by decide, rfl⟩
    · replace hm := ifF hm hb8
      refine WJ.skip ?_
      exact PJ.joined 0 [0] hm ⟨rfl, rfl, trivial⟩ ⟨by decide, rfl⟩
  · rintro b5 hm
    subst hk7
    refine WJ.seq ?_
    refine WJ.reg ?_
    refine SJ.q (YldS.yld (y_move rfl)) rfl ?_
    refine SJ.q (YldS.yld (y_nil rfl)) rfl ?_
    refine SJ.q (YldS.yld (y_fldB (o := 0) fld134_1 rfl)) rfl ?_
    refine SJ.q (YldS.yld (y_loadB (k := 0) (off := 1) (v := .int .i64 s1.at_) rfl Try.isAgg3 rfl rfl)) rfl ?_
    refine SJ.q (YldS.yld (y_bin rfl rfl rfl)) rfl ?_
    refine SJ.q (YldS.yld (y_nil rfl)) rfl ?_
    refine SJ.q (YldS.yld (y_fldB (o := 0) fld134_1 rfl)) rfl ?_
    refine SJ.storeL (k := 0) (off := 1) (us := [.int .i64 (w64 (s1.at_ + 1))]) rfl rfl rfl rfl Try.sizeOf3 rfl rfl ?_
    refine SJ.nil ?_
    refine PJ.next ?_
    refine WJ.seq ?_
    refine WJ.reg ?_
    refine SJ.q (YldS.yld (y_move rfl)) rfl ?_
    refine SJ.q (YldS.yld (y_move rfl)) rfl ?_
    refine SJ.q (YldS.yld (y_nil rfl)) rfl ?_
    refine SJ.q (YldS.yld (y_fldB (o := 0) fld134_2 rfl)) rfl ?_
    refine SJ.q (YldS.yld (y_loadB (k := 0) (off := 2) (v := .int .u64 s1.seed) rfl Try.isAgg132 rfl rfl)) rfl ?_
    refine SJ.q (YldS.yld (y_bin rfl rfl rfl)) rfl ?_
    refine SJ.q (YldS.yld (y_move rfl)) rfl ?_
    refine SJ.q (YldS.yld (y_convI Try.runUnderlying3 Try.runUnderlying132 rfl)) rfl ?_
    refine SJ.q (YldS.yld (y_bin rfl rfl rfl)) rfl ?_
    refine SJ.q (YldS.yld (y_bin rfl rfl rfl)) rfl ?_
    refine SJ.q (YldS.yld (y_nil rfl)) rfl ?_
    refine SJ.q (YldS.yld (y_fldB (o := 0) fld134_2 rfl)) rfl ?_
    refine SJ.storeL (k := 0) (off := 2) (us := [.int .u64 (IntKind.u64.wrap ((IntKind.u64.wrap ((IntKind.u64.wrap (s1.seed * 6364136223846793005)) + (IntKind.u64.wrap b5))) + 1442695040888963407))]) rfl rfl rfl rfl Try.sizeOf132 rfl rfl ?_
    refine SJ.nil ?_
    refine PJ.next ?_
    refine WJ.seq ?_
    refine WJ.seq ?_
    refine WJ.quiet_draw follows (by kernel_rfl) ?_
    refine QJ.step (YldS.yld (y_move rfl)) rfl ?_
    refine QJ.step (YldS.yld (y_nil rfl)) rfl ?_
    refine QJ.step (YldS.yld (y_fldB (o := 0) fld134_1 rfl)) rfl ?_
    refine QJ.step (YldS.yld (y_loadB (k := 0) (off := 1) (v := .int .i64 (w64 (s1.at_ + 1))) rfl Try.isAgg3 rfl rfl)) rfl ?_
    refine QJ.step (YldS.yld (y_move rfl)) rfl ?_
    refine QJ.step (YldS.yld (y_nil rfl)) rfl ?_
    refine QJ.step (YldS.yld (y_fldB (o := 0) fld134_0 rfl)) rfl ?_
    refine QJ.step (YldS.yld (y_loadB (k := 0) (off := 0) (v := v3) rfl Try.isAgg22 rfl rfl)) rfl ?_
    refine QJ.step (YldS.yld (y_lenS Try.runUnderlying22 hr4 rfl)) rfl ?_
    refine QJ.step (YldS.yld (y_bin rfl rfl rfl)) rfl ?_
    refine QJ.done ?_
    refine PJ.next ?_
    refine WJ.cond (t := decide ((w64 (s1.at_ + 1)) ≤ (List.length s1.code : Int))) rfl (fun hb14 => ?_) (fun hb14 => ?_)
    · replace hm := ifT hm hb14
      refine WJ.seq ?_
      refine WJ.quiet ?_
      refine QJ.step (YldS.yld (y_move rfl)) rfl ?_
      refine QJ.step (YldS.yld (y_assign rfl)) rfl ?_
      refine QJ.done ?_
      refine PJ.next ?_
      refine WJ.ret ?_
      refine PJ.then_ret ?_
      obtain rfl := Option.some.inj hm
      refine PJ.sel (L' := [box g2 134 [v3, .int .i64 (w64 (s1.at_ + 1)), .int .u64 (IntKind.u64.wrap ((IntKind.u64.wrap ((IntKind.u64.wrap (s1.seed * 6364136223846793005)) + (IntKind.u64.wrap b5))) + 1442695040888963407))]]) [0] ⟨by decide, rfl⟩ ?_
      exact PJ.retn (vs := [.int .i64 b5]) Try.results112 ⟨rfl, trivial⟩ ⟨rfl, rfl⟩
    · replace hm := ifF hm hb14
      refine WJ.skip ?_
      refine PJ.next ?_
      refine WJ.seq ?_
      refine WJ.quiet ?_
      refine QJ.step (YldS.yld (y_move rfl)) rfl ?_
      refine QJ.step (YldS.yld (y_nil rfl)) rfl ?_
      refine QJ.step (YldS.yld (y_fldB (o := 0) fld134_2 rfl)) rfl ?_
      refine QJ.step (YldS.yld (y_loadB (k := 0) (off := 2) (v := .int .u64 (IntKind.u64.wrap ((IntKind.u64.wrap ((IntKind.u64.wrap (s1.seed * 6364136223846793005)) + (IntKind.u64.wrap b5))) + 1442695040888963407))) rfl Try.isAgg132 rfl rfl)) rfl ?_
      refine QJ.step (YldS.yld (y_shru rfl rfl rfl)) rfl ?_
      refine QJ.step (YldS.yld (y_andu rfl rfl rfl)) rfl ?_
      refine QJ.step (YldS.yld (y_convI Try.runUnderlying132 Try.runUnderlying2 rfl)) rfl ?_
      refine QJ.step (YldS.yld (y_assign rfl)) rfl ?_
      refine QJ.done ?_
      refine PJ.next ?_
      refine WJ.ret ?_
      obtain rfl := Option.some.inj hm
      refine PJ.sel (L' := [box g2 134 [v3, .int .i64 (w64 (s1.at_ + 1)), .int .u64 (IntKind.u64.wrap ((IntKind.u64.wrap ((IntKind.u64.wrap (s1.seed * 6364136223846793005)) + (IntKind.u64.wrap b5))) + 1442695040888963407))]]) [0] ⟨by decide, rfl⟩ ?_
      exact PJ.retn (vs := [.int .i64 (w64 (uand (ushr (IntKind.u64.wrap ((IntKind.u64.wrap ((IntKind.u64.wrap (s1.seed * 6364136223846793005)) + (IntKind.u64.wrap b5))) + 1442695040888963407)) 40) 255))]) Try.results112 ⟨rfl, trivial⟩ ⟨rfl, rfl⟩

set_option maxRecDepth 100000 in
set_option maxHeartbeats 1000000 in
theorem ok_s_l00Src_pick {s1 : L00Src} {n5 : Int} {g2 : Nat} {r : Int × L00Src} (hm : s_l00Src_pick s1 n5 = some r) (w : World) (S : Nat → Prop) (v3 : Value) (hr4 : RdS w (Cx.Fz ⟨w, S⟩) v3 fByte.rp s1.code) (hA : (box g2 134 [v3, .int .i64 s1.at_, .int .u64 s1.seed]).holds w S) :
    Calls Try.prog 71 #[pt g2 0, .int .i64 n5] w (RetG ⟨w, S⟩ fun u L => (u = .int .i64 r.1 ∧ L = [box g2 134 [v3, .int .i64 r.2.at_, .int .u64 r.2.seed]])) := by
  unfold s_l00Src_pick at hm
  refine Calls.enter1 hA [pt g2 0, .int .i64 n5] Try.func71 rfl Try.ntmps71 rfl ?_
  refine WJ.seq ?_
  refine WJ.quiet ?_
  refine QJ.step (YldS.yld (y_assign rfl)) rfl ?_
  refine QJ.done ?_
  refine PJ.next ?_
  refine WJ.seq ?_
  refine WJ.seq ?_
  refine WJ.quiet ?_
  refine QJ.step (YldS.yld (y_move rfl)) rfl ?_
  refine QJ.step (YldS.yld (y_bin rfl rfl rfl)) rfl ?_
  refine QJ.done ?_
  refine PJ.next ?_
  refine WJ.cond (t := decide (n5 ≤ 1)) rfl (fun hb6 => ?_) (fun hb6 => ?_)
  · replace hm := ifT hm hb6
    refine WJ.seq ?_
    refine WJ.quiet ?_
    refine QJ.step (YldS.yld (y_assign rfl)) rfl ?_
    refine QJ.done ?_
    refine PJ.next ?_
    refine WJ.ret ?_
    refine PJ.then_ret ?_
    obtain rfl := Option.some.inj hm
    refine PJ.sel (L' := [box g2 134 [v3, .int .i64 s1.at_, .int .u64 s1.seed]]) [0] ⟨by decide, rfl⟩ ?_
    exact PJ.retn (vs := [.int .i64 0]) Try.results71 ⟨rfl, trivial⟩ ⟨rfl, rfl⟩
  · replace hm := ifF hm hb6
    refine WJ.skip ?_
    refine PJ.next ?_
    refine WJ.seq ?_
    refine WJ.reg ?_
    refine SJ.q (YldS.yld (y_move rfl)) rfl ?_
    obtain ⟨r7, h8, hm⟩ := bindS hm
    refine SJ.call1 (k := 0) rfl Try.call112 rfl (fun w S hw hA hO => ok_s_l00Src_next h8 w S _ (hr4.st1 hw hO) hA) rfl ?_
    rintro _ _ ⟨rfl, rfl⟩
    refine SJ.q (YldS.yld (y_assign rfl)) rfl ?_
    refine SJ.nil ?_
    refine PJ.next ?_
    obtain ⟨kj12, hk13, hm⟩ := withK_open hm
    refine WJ.join (X := Int × Int × Int) (fun (x : Int × Int × Int) => kj12 x.1 x.2.1 x.2.2 = some r) (fun (x : Int × Int × Int) => [(1, .int .i64 n5), (5, .int .i64 x.2.2)]) (fun (x : Int × Int × Int) => [box g2 134 [v3, .int .i64 x.1, .int .u64 x.2.1]]) ?_ ?_
    · clear hk13
      refine WJ.seq ?_
      refine WJ.quiet ?_
      refine QJ.step (YldS.yld (y_move rfl)) rfl ?_
      refine QJ.step (YldS.yld (y_bin rfl rfl rfl)) rfl ?_
      refine QJ.done ?_
      refine PJ.next ?_
      refine WJ.cond (t := decide (n5 > 200)) rfl (fun hb14 => ?_) (fun hb14 => ?_)
      · replace hm := ifT hm hb14
        refine WJ.reg ?_
        refine SJ.q (YldS.yld (y_move rfl)) rfl ?_
        refine SJ.q (YldS.yld (y_bin rfl rfl rfl)) rfl ?_
        refine SJ.q (YldS.yld (y_move rfl)) rfl ?_
        obtain ⟨r15, h16, hm⟩ := bindS hm
        refine SJ.call1 (k := 0) rfl Try.call112 rfl (fun w S hw hA hO => ok_s_l00Src_next h16 w S _ (hr4.st1 hw hO) hA) rfl ?_
        rintro _ _ ⟨rfl, rfl⟩
        refine SJ.q (YldS.yld (y_bin rfl rfl rfl)) rfl ?_
        refine SJ.q (YldS.yld (y_assign rfl)) rfl ?_
        refine SJ.nil ?_
        exact PJ.joined (r15.2.at_, r15.2.seed, w64 ((w64 (r7.1 * 256)) + r15.1)) [0] hm ⟨rfl, rfl, trivial⟩ ⟨by decide, rfl⟩
      · replace hm := ifF hm hb14
        refine WJ.skip ?_
        exact PJ.joined (r7.2.at_, r7.2.seed, r7.1) [0] hm ⟨rfl, rfl, trivial⟩ ⟨by decide, rfl⟩
    · rintro ⟨x9, x10, x11⟩ hm
      subst hk13
      refine WJ.seq ?_
      refine WJ.quiet ?_
      refine QJ.step (YldS.yld (y_move rfl)) rfl ?_
      refine QJ.step (YldS.yld (y_move rfl)) rfl ?_
      obtain ⟨q17, h18, hm⟩ := bindS hm
      refine QJ.step (YldS.yld (y_rem' h18 rfl rfl)) rfl ?_
      refine QJ.step (YldS.yld (y_assign rfl)) rfl ?_
      refine QJ.done ?_
      refine PJ.next ?_
      refine WJ.ret ?_
      obtain rfl := Option.some.inj hm
      refine PJ.sel (L' := [box g2 134 [v3, .int .i64 x9, .int .u64 x10]]) [0] ⟨by decide, rfl⟩ ?_
      exact PJ.retn (vs := [.int .i64 q17]) Try.results71 ⟨rfl, trivial⟩ ⟨rfl, rfl⟩

set_option maxRecDepth 100000 in
set_option maxHeartbeats 1000000 in
theorem ok_s_l00Src_text {s1 : L00Src} {list5 : List Str} {g2 : Nat} {r : Str × L00Src} (hm : s_l00Src_text s1 list5 = some r) (w : World) (S : Nat → Prop) (v3 : Value) (hr4 : RdS w (Cx.Fz ⟨w, S⟩) v3 fByte.rp s1.code) (v6 : Value) (hr7 : RdS w (Cx.Fz ⟨w, S⟩) v6 fStr.rp list5) (hA : (box g2 134 [v3, .int .i64 s1.at_, .int .u64 s1.seed]).holds w S) :
    Calls Try.prog 100 #[pt g2 0, v6] w (RetG ⟨w, S⟩ fun u L => (u = str r.1 ∧ L = [box g2 134 [v3, .int .i64 r.2.at_, .int .u64 r.2.seed]])) := by
  unfold s_l00Src_text at hm
  refine Calls.enter1 hA [pt g2 0, v6] Try.func100 rfl Try.ntmps100 rfl ?_
  refine WJ.seq ?_
  refine WJ.quiet ?_
  refine QJ.step (YldS.yld (y_assign rfl)) rfl ?_
  refine QJ.done ?_
  refine PJ.next ?_
  refine WJ.seq ?_
  refine WJ.reg ?_
  refine SJ.q (YldS.yld (y_move rfl)) rfl ?_
  refine SJ.q (YldS.yld (y_move rfl)) rfl ?_
  refine SJ.q (YldS.yld (y_move rfl)) rfl ?_
  refine SJ.q (YldS.yld (y_lenS Try.runUnderlying43 hr7 rfl)) rfl ?_
  obtain ⟨r8, h9, hm⟩ := bindS hm
  refine SJ.call1 (k := 0) rfl Try.call71 rfl (fun w S hw hA hO => ok_s_l00Src_pick h9 w S _ (hr4.st1 hw hO) hA) rfl ?_
  rintro _ _ ⟨rfl, rfl⟩
  obtain ⟨e10, h11, hm⟩ := bindS hm
  obtain ⟨ad12, _, rfl, ha13, hy14⟩ := hr7.elem h11
  refine SJ.q (YldS.yld (hy14 Try.runUnderlying43 Try.sizeOf9 rfl rfl)) rfl ?_
  refine SJ.q (YldS.yld (y_load1 (v := str e10) Try.isAgg9 ha13 St.frozenC rfl)) rfl ?_
  refine SJ.q (YldS.yld (y_assign rfl)) rfl ?_
  refine SJ.nil ?_
  refine PJ.next ?_
  refine WJ.ret ?_
  obtain rfl := Option.some.inj hm
  refine PJ.sel (L' := [box g2 134 [v3, .int .i64 r8.2.at_, .int .u64 r8.2.seed]]) [0] ⟨by decide, rfl⟩ ?_
  exact PJ.retn (vs := [str e10]) Try.results100 ⟨rfl, trivial⟩ ⟨rfl, rfl⟩

set_option maxRecDepth 100000 in
set_option maxHeartbeats 1000000 in
theorem ok_s_l16New {s1 : L00Src} {g2 : Nat} {r : Abbr × L00Src} (hm : s_l16New s1 = some r) (w : World) (S : Nat → Prop) (v3 : Value) (hr4 : RdS w (Cx.Fz ⟨w, S⟩) v3 fByte.rp s1.code) (hA : (box g2 134 [v3, .int .i64 s1.at_, .int .u64 s1.seed]).holds w S) :
    Calls Try.prog 94 #[pt g2 0] w (RetG ⟨w, S⟩ fun u L => (u = .agg (Abbr.enc r.1).toArray ∧ L = [box g2 134 [v3, .int .i64 r.2.at_, .int .u64 r.2.seed]])) := by
  unfold s_l16New at hm
  refine Calls.enter1 hA [pt g2 0] Try.func94 rfl Try.ntmps94 rfl ?_
  refine WJ.seq ?_
  refine WJ.reg ?_
  refine SJ.alloc (cs := [str [], str []]) Try.zeroValue64 rfl rfl fun g5 => ?_
  refine SJ.nil ?_
  refine PJ.next ?_
  refine WJ.seq ?_
  refine WJ.reg ?_
  refine SJ.q (YldS.yld (y_move rfl)) rfl ?_
  refine SJ.buildSlice (R := fStr) (os := [.const (str [97]), .const (str [97, 99, 99]), .const (str [97, 110]), .const (str [99, 111]), .const (str [108, 101, 116]), .const (str [109, 114]), .const (str [113]), .const (str [116, 119]), .const (str [119, 100])]) ([[97], [97, 99, 99], [97, 110], [99, 111], [108, 101, 116], [109, 114], [113], [116, 119], [119, 100]] : List Str) Try.runUnderlying43 Try.sizeOf9 Try.zeroValue9 rfl rfl rfl rfl rfl rfl fun v6 => ?_
  obtain ⟨r7, h8, hm⟩ := bindS hm
  refine SJ.call2 (k := 2) rfl Try.call100 rfl (fun w S hw hA hO hB => ok_s_l00Src_text h8 w S _ (hr4.st1 hw hO) _ (hB.row_rd (j := 0) (k := 2) rfl rfl) hA) rfl ?_
  rintro _ _ ⟨rfl, rfl⟩
  refine SJ.q (YldS.yld (y_build (parts := [(0, .tmp 6)]) (places := [(0, 1), (1, 1)]) (r := [str ((Abbr.mk r7.1 []).short), str ((Abbr.mk r7.1 []).long)]) pl64 Try.zeroValue64 rfl rfl rfl rfl)) rfl ?_
  refine SJ.alloc (cs := [str [], str []]) Try.zeroValue64 rfl rfl fun g9 => ?_
  refine SJ.storeL (k := 0) (off := 0) (us := [str ((Abbr.mk r7.1 []).short), str ((Abbr.mk r7.1 []).long)]) rfl rfl rfl rfl Try.sizeOf64 rfl rfl ?_
  refine SJ.nil ?_
  refine PJ.next ?_
  refine WJ.seq ?_
  refine WJ.reg ?_
  refine SJ.q (YldS.yld (y_move rfl)) rfl ?_
  refine SJ.buildSlice (R := fStr) (os := [.const (str [97, 99, 99, 111, 117, 110, 116]), .const (str [97, 99, 99]), .const (str [108, 101, 116, 116, 101, 114]), .const (str [116, 121, 112, 101, 119, 114, 105, 116, 101, 114]), .const (str [119, 111, 114, 100]), .const (str [99, 111, 109, 112, 97, 110, 121]), .const (str [109, 105, 115, 116, 101, 114]), .const (str [108, 101, 116])]) ([[97, 99, 99, 111, 117, 110, 116], [97, 99, 99], [108, 101, 116, 116, 101, 114], [116, 121, 112, 101, 119, 114, 105, 116, 101, 114], [119, 111, 114, 100], [99, 111, 109, 112, 97, 110, 121], [109, 105, 115, 116, 101, 114], [108, 101, 116]] : List Str) Try.runUnderlying43 Try.sizeOf9 Try.zeroValue9 rfl rfl rfl rfl rfl rfl fun v10 => ?_
  obtain ⟨r11, h12, hm⟩ := bindS hm
  refine SJ.call2 (k := 2) rfl Try.call100 rfl (fun w S hw hA hO hB => ok_s_l00Src_text h12 w S _ (hr4.st1 hw hO) _ (hB.row_rd (j := 0) (k := 2) rfl rfl) hA) rfl ?_
  rintro _ _ ⟨rfl, rfl⟩
  refine SJ.q (YldS.yld (y_fldB (o := 0) fld64_1 rfl)) rfl ?_
  refine SJ.storeL (k := 2) (off := 1) (us := [str r11.1]) rfl rfl rfl rfl Try.sizeOf9 rfl rfl ?_
  refine SJ.nil ?_
  refine PJ.next ?_
  refine WJ.seq ?_
  refine WJ.reg ?_
  refine SJ.q (YldS.yld (y_loadBN (k := 2) (off := 0) (us := [str ((Abbr.mk r7.1 []).short), str r11.1]) rfl Try.isAgg64 Try.sizeOf64 rfl rfl)) rfl ?_
  refine SJ.storeL (k := 4) (off := 0) (us := [str ((Abbr.mk r7.1 []).short), str r11.1]) rfl rfl rfl rfl Try.sizeOf64 rfl rfl ?_
  refine SJ.nil ?_
  refine PJ.next ?_
  refine WJ.ret ?_
  obtain rfl := Option.some.inj hm
  exact PJ.retn_sel (vs := [.agg #[str ((Abbr.mk r7.1 []).short), str r11.1]]) Try.results94 ⟨⟨4, g5, 64, [str ((Abbr.mk r7.1 []).short), str r11.1], rfl, rfl, .inl ⟨Try.isAgg64, Try.sizeOf64, rfl⟩⟩, trivial⟩ [0] ⟨by decide, rfl⟩ ⟨rfl, rfl⟩

set_option maxRecDepth 100000 in
set_option maxHeartbeats 1000000 in
theorem ok_s_l01Small {c1 : UInt8} {r : Bool} (hm : s_l01Small c1 = some r) (w : World)  :
    Calls Try.prog 148 #[.int .u8 (UInt8.toNat c1 : Int)] w (Ret (cx w) (.bool r)) := by
  unfold s_l01Small at hm
  refine Calls.enter [.int .u8 (UInt8.toNat c1 : Int)] Try.func148 rfl Try.ntmps148 rfl ?_
  refine WJ.seq ?_
  refine WJ.quiet ?_
  refine QJ.step (YldS.yld (y_assign rfl)) rfl ?_
  refine QJ.done ?_
  refine PJ.next ?_
  refine WJ.seq ?_
  refine WJ.quiet ?_
  refine QJ.step (YldS.yld (y_move rfl)) rfl ?_
  refine QJ.step (YldS.yld (y_bin8 c1 (97 : UInt8) rfl rfl rfl)) rfl ?_
  refine QJ.step (YldS.yld (y_move rfl)) rfl ?_
  obtain ⟨t2, h3, hm⟩ := bindS hm
  refine QJ.cut 3 [(8, .bool t2)] ?_ ?_
  · rcases Bool.eq_false_or_eq_true (decide (c1 ≥ (97 : UInt8))) with hb4 | hb4
    · replace h3 := andT h3 hb4
      refine QJ.on rfl rfl (cB hb4) (YldS.yld (y_move rfl)) rfl ?_
      refine QJ.on rfl rfl (cB hb4) (YldS.yld (y_bin8 c1 (122 : UInt8) rfl rfl rfl)) rfl ?_
      refine QJ.step (YldS.yld (y_pick_t (cB hb4) rfl)) rfl ?_
      obtain rfl := Option.some.inj h3
      exact QJ.cut_end ⟨rfl, trivial⟩
    · obtain rfl := andF h3 hb4
      refine QJ.off rfl rfl (cB hb4) rfl rfl ?_
      refine QJ.off rfl rfl (cB hb4) rfl rfl ?_
      refine QJ.step (YldS.yld (y_pick_f (cB hb4) rfl)) rfl ?_
      exact QJ.cut_end ⟨rfl, trivial⟩
  refine QJ.step (YldS.yld (y_assign rfl)) rfl ?_
  refine QJ.done ?_
  refine PJ.next ?_
  refine WJ.ret ?_
  obtain rfl := Option.some.inj hm
  refine PJ.sel (L' := []) [] ⟨List.nodup_nil, rfl⟩ ?_
  exact PJ.retn (vs := [.bool t2]) Try.results148 ⟨rfl, trivial⟩ ⟨rfl, rfl⟩

set_option maxRecDepth 100000 in
set_option maxHeartbeats 1000000 in
theorem ok_s_l00In {n1 : Int} {low2 : Int} {high3 : Int} {r : Bool} (hm : s_l00In n1 low2 high3 = some r) (w : World)  :
    Calls Try.prog 130 #[.int .i64 n1, .int .i64 low2, .int .i64 high3] w (Ret (cx w) (.bool r)) := by
  unfold s_l00In at hm
  refine Calls.enter [.int .i64 n1, .int .i64 low2, .int .i64 high3] Try.func130 rfl Try.ntmps130 rfl ?_
  refine WJ.seq ?_
  refine WJ.quiet ?_
  refine QJ.step (YldS.yld (y_assign rfl)) rfl ?_
  refine QJ.done ?_
  refine PJ.next ?_
  refine WJ.seq ?_
  refine WJ.quiet ?_
  refine QJ.step (YldS.yld (y_move rfl)) rfl ?_
  refine QJ.step (YldS.yld (y_move rfl)) rfl ?_
  refine QJ.step (YldS.yld (y_bin rfl rfl rfl)) rfl ?_
  refine QJ.step (YldS.yld (y_move rfl)) rfl ?_
  obtain ⟨t4, h5, hm⟩ := bindS hm
  refine QJ.cut 4 [(14, .bool t4)] ?_ ?_
  · rcases Bool.eq_false_or_eq_true (decide (n1 ≥ low2)) with hb6 | hb6
    · replace h5 := andT h5 hb6
      refine QJ.on rfl rfl (cB hb6) (YldS.yld (y_move rfl)) rfl ?_
      refine QJ.on rfl rfl (cB hb6) (YldS.yld (y_move rfl)) rfl ?_
      refine QJ.on rfl rfl (cB hb6) (YldS.yld (y_bin rfl rfl rfl)) rfl ?_
      refine QJ.step (YldS.yld (y_pick_t (cB hb6) rfl)) rfl ?_
      obtain rfl := Option.some.inj h5
      exact QJ.cut_end ⟨rfl, trivial⟩
    · obtain rfl := andF h5 hb6
      refine QJ.off rfl rfl (cB hb6) rfl rfl ?_
      refine QJ.off rfl rfl (cB hb6) rfl rfl ?_
      refine QJ.off rfl rfl (cB hb6) rfl rfl ?_
      refine QJ.step (YldS.yld (y_pick_f (cB hb6) rfl)) rfl ?_
      exact QJ.cut_end ⟨rfl, trivial⟩
  refine QJ.step (YldS.yld (y_assign rfl)) rfl ?_
  refine QJ.done ?_
  refine PJ.next ?_
  refine WJ.ret ?_
  obtain rfl := Option.some.inj hm
  refine PJ.sel (L' := []) [] ⟨List.nodup_nil, rfl⟩ ?_
  exact PJ.retn (vs := [.bool t4]) Try.results130 ⟨rfl, trivial⟩ ⟨rfl, rfl⟩

set_option maxRecDepth 100000 in
set_option maxHeartbeats 1000000 in
theorem ok_s_l16Word {N : Nat} {s1 : Str} {most2 : Int} {r : Bool} (hm : s_l16Word N s1 most2 = some r) (w : World)  :
    Calls Try.prog 128 #[str s1, .int .i64 most2] w (Ret (cx w) (.bool r)) := by
  unfold s_l16Word at hm
  refine Calls.enter [str s1, .int .i64 most2] Try.func128 rfl Try.ntmps128 rfl ?_
  refine WJ.seq ?_
  refine WJ.quiet ?_
  refine QJ.step (YldS.yld (y_assign rfl)) rfl ?_
  refine QJ.done ?_
  refine PJ.next ?_
  obtain ⟨kj3, hk4, hm⟩ := withK_open hm
  refine WJ.join (X := Unit) (fun (_ : Unit) => kj3  = some r) (fun (_ : Unit) => [(0, str s1), (1, .int .i64 most2)]) (fun (_ : Unit) => []) ?_ ?_
  · clear hk4
    refine WJ.seq ?_
    refine WJ.quiet ?_
    refine QJ.step (YldS.yld (y_assign rfl)) rfl ?_
    refine QJ.done ?_
    refine PJ.next ?_
    refine WJ.block ?_
    refine WJ.sel (L' := (fun (x : Int) => []) 0) [] ⟨List.nodup_nil, rfl⟩ ?_
    refine WJ.sub (m' := (fun (x : Int) => [(0, str s1), (1, .int .i64 most2), (5, .int .i64 x)]) 0) ⟨rfl, rfl, rfl, trivial⟩ ?_
    refine WJ.loop (X := Int) (fun N (x : Int) => s_l16Word_l1 kj3 s1 N x = some r) (fun (x : Int) => [(0, str s1), (1, .int .i64 most2), (5, .int .i64 x)]) (fun (x : Int) => []) ?_ N 0 hm
    · rintro N i5 hI
      have hm := hI; clear hI
      cases N with
      | zero => cases hm
      | succ N =>
      unfold s_l16Word_l1 at hm
      refine WJ.seq ?_
      refine WJ.seq ?_
      refine WJ.quiet ?_
      refine QJ.step (YldS.yld (y_move rfl)) rfl ?_
      refine QJ.step (YldS.yld (y_move rfl)) rfl ?_
      refine QJ.step (YldS.yld (y_lenStr Try.runUnderlying9 rfl)) rfl ?_
      refine QJ.step (YldS.yld (y_bin rfl rfl rfl)) rfl ?_
      refine QJ.done ?_
      refine PJ.next ?_
      refine WJ.cond (t := decide (i5 < (List.length s1 : Int))) rfl (fun hb6 => ?_) (fun hb6 => ?_)
      · replace hm := ifT hm hb6
        refine WJ.skip ?_
        refine PJ.next ?_
        refine WJ.seq ?_
        refine WJ.block ?_
        refine WJ.seq ?_
        refine WJ.quiet ?_
        refine QJ.step (YldS.yld (y_move rfl)) rfl ?_
        refine QJ.step (YldS.yld (y_move rfl)) rfl ?_
        obtain ⟨c7, h8, hm⟩ := bindS hm
        refine QJ.step (YldS.yld (y_idxStr Try.runUnderlying9 rfl rfl h8)) rfl ?_
        obtain ⟨r9, h10, hm⟩ := bindS hm
        refine QJ.step (y_call Try.call148 rfl (RetG.quiet fun w hw => ok_s_l01Small h10 w )) rfl ?_
        refine QJ.step (YldS.yld (y_not rfl)) rfl ?_
        refine QJ.done ?_
        refine PJ.next ?_
        refine WJ.cond (t := !r9) rfl (fun hb11 => ?_) (fun hb11 => ?_)
        · replace hm := ifT hm hb11
          refine WJ.seq ?_
          refine WJ.quiet ?_
          refine QJ.step (YldS.yld (y_assign rfl)) rfl ?_
          refine QJ.done ?_
          refine PJ.next ?_
          refine WJ.ret ?_
          refine PJ.block_ret (PJ.then_ret (PJ.then_ret (PJ.block_ret (PJ.then_ret ?_))))
          obtain rfl := Option.some.inj hm
          refine PJ.sel (L' := []) [] ⟨List.nodup_nil, rfl⟩ ?_
          exact PJ.retn (vs := [.bool false]) Try.results128 ⟨rfl, trivial⟩ ⟨rfl, rfl⟩
        · replace hm := ifF hm hb11
          refine WJ.skip ?_
          refine PJ.block_normal (PJ.next ?_)
          refine WJ.quiet ?_
          refine QJ.step (YldS.yld (y_move rfl)) rfl ?_
          refine QJ.step (YldS.yld (y_bin rfl rfl rfl)) rfl ?_
          refine QJ.step (YldS.yld (y_assign rfl)) rfl ?_
          refine QJ.done ?_
          exact PJ.round (w64 (i5 + 1)) [] hm ⟨rfl, rfl, rfl, trivial⟩ ⟨List.nodup_nil, rfl⟩
      · replace hm := ifF hm hb6
        refine WJ.exit ?_
        refine PJ.then_exit (PJ.then_exit (PJ.block_exit ?_))
        exact PJ.joined () [] hm ⟨rfl, rfl, trivial⟩ ⟨List.nodup_nil, rfl⟩
  · rintro _ hm
    subst hk4
    refine WJ.seq ?_
    refine WJ.quiet ?_
    refine QJ.step (YldS.yld (y_move rfl)) rfl ?_
    refine QJ.step (YldS.yld (y_lenStr Try.runUnderlying9 rfl)) rfl ?_
    refine QJ.step (YldS.yld (y_move rfl)) rfl ?_
    obtain ⟨r12, h13, hm⟩ := bindS hm
    refine QJ.step (y_call Try.call130 rfl (RetG.quiet fun w hw => ok_s_l00In h13 w )) rfl ?_
    refine QJ.step (YldS.yld (y_assign rfl)) rfl ?_
    refine QJ.done ?_
    refine PJ.next ?_
    refine WJ.ret ?_
    obtain rfl := Option.some.inj hm
    refine PJ.sel (L' := []) [] ⟨List.nodup_nil, rfl⟩ ?_
    exact PJ.retn (vs := [.bool r12]) Try.results128 ⟨rfl, trivial⟩ ⟨rfl, rfl⟩

set_option maxRecDepth 100000 in
set_option maxHeartbeats 1000000 in
theorem ok_s_l16One {N : Nat} {x1 : Abbr} {r : Bool} (hm : s_l16One N x1 = some r) (w : World) (ad2 : Addr) (ha3 : At w (cx w).Fz ad2 (fAbbr.enc x1)) :
    Calls Try.prog 96 #[.pointer (some ad2)] w (Ret (cx w) (.bool r)) := by
  unfold s_l16One at hm
  refine Calls.enter [.pointer (some ad2)] Try.func96 rfl Try.ntmps96 rfl ?_
  refine WJ.seq ?_
  refine WJ.quiet ?_
  refine QJ.step (YldS.yld (y_assign rfl)) rfl ?_
  refine QJ.done ?_
  refine PJ.next ?_
  refine WJ.seq ?_
  refine WJ.quiet_draw follows (by kernel_rfl) ?_
  refine QJ.step (YldS.yld (y_move rfl)) rfl ?_
  refine QJ.step (YldS.yld (y_nil rfl)) rfl ?_
  refine QJ.step (YldS.yld (y_fld (ad := ad2) fld64_0 rfl)) rfl ?_
  refine QJ.step (YldS.yld (y_load1 (v := str x1.short) Try.isAgg9 (ha3.sub 0 1) St.frozenC rfl)) rfl ?_
  obtain ⟨r4, h5, hm⟩ := bindS hm
  refine QJ.step (y_call Try.call128 rfl (RetG.quiet fun w hw => ok_s_l16Word h5 w )) rfl ?_
  refine QJ.step (YldS.yld (y_move rfl)) rfl ?_
  obtain ⟨t6, h7, hm⟩ := bindS hm
  refine QJ.cut 6 [(0, .pointer (some ad2)), (14, .bool t6)] ?_ ?_
  · rcases Bool.eq_false_or_eq_true r4 with hb8 | hb8
    · replace h7 := andT h7 hb8
      refine QJ.on rfl rfl (cB hb8) (YldS.yld (y_move rfl)) rfl ?_
      refine QJ.on rfl rfl (cB hb8) (YldS.yld (y_nil rfl)) rfl ?_
      refine QJ.on rfl rfl (cB hb8) (YldS.yld (y_fld (ad := ad2) fld64_1 rfl)) rfl ?_
      refine QJ.on rfl rfl (cB hb8) (YldS.yld (y_load1 (v := str x1.long) Try.isAgg9 (ha3.sub 1 1) St.frozenC rfl)) rfl ?_
      obtain ⟨r9, h10, h7⟩ := bindS h7
      refine QJ.on rfl rfl (cB hb8) (y_call Try.call128 rfl (RetG.quiet fun w hw => ok_s_l16Word h10 w )) rfl ?_
      refine QJ.step (YldS.yld (y_pick_t (cB hb8) rfl)) rfl ?_
      obtain rfl := Option.some.inj h7
      exact QJ.cut_end ⟨rfl, rfl, trivial⟩
    · obtain rfl := andF h7 hb8
      refine QJ.off rfl rfl (cB hb8) rfl rfl ?_
      refine QJ.off rfl rfl (cB hb8) rfl rfl ?_
      refine QJ.off rfl rfl (cB hb8) rfl rfl ?_
      refine QJ.off rfl rfl (cB hb8) rfl rfl ?_
      refine QJ.off rfl rfl (cB hb8) rfl rfl ?_
      refine QJ.step (YldS.yld (y_pick_f (cB hb8) rfl)) rfl ?_
      exact QJ.cut_end ⟨rfl, rfl, trivial⟩
  refine QJ.step (YldS.yld (y_move rfl)) rfl ?_
  obtain ⟨t11, h12, hm⟩ := bindS hm
  refine QJ.cut 12 [(27, .bool t11)] ?_ ?_
  · rcases Bool.eq_false_or_eq_true t6 with hb13 | hb13
    · replace h12 := andT h12 hb13
      refine QJ.on rfl rfl (cB hb13) (YldS.yld (y_move rfl)) rfl ?_
      refine QJ.on rfl rfl (cB hb13) (YldS.yld (y_nil rfl)) rfl ?_
      refine QJ.on rfl rfl (cB hb13) (YldS.yld (y_fld (ad := ad2) fld64_0 rfl)) rfl ?_
      refine QJ.on rfl rfl (cB hb13) (YldS.yld (y_load1 (v := str x1.short) Try.isAgg9 (ha3.sub 0 1) St.frozenC rfl)) rfl ?_
      refine QJ.on rfl rfl (cB hb13) (YldS.yld (y_lenStr Try.runUnderlying9 rfl)) rfl ?_
      refine QJ.on rfl rfl (cB hb13) (YldS.yld (y_move rfl)) rfl ?_
      refine QJ.on rfl rfl (cB hb13) (YldS.yld (y_nil rfl)) rfl ?_
      refine QJ.on rfl rfl (cB hb13) (YldS.yld (y_fld (ad := ad2) fld64_1 rfl)) rfl ?_
      refine QJ.on rfl rfl (cB hb13) (YldS.yld (y_load1 (v := str x1.long) Try.isAgg9 (ha3.sub 1 1) St.frozenC rfl)) rfl ?_
      refine QJ.on rfl rfl (cB hb13) (YldS.yld (y_lenStr Try.runUnderlying9 rfl)) rfl ?_
      refine QJ.on rfl rfl (cB hb13) (YldS.yld (y_bin rfl rfl rfl)) rfl ?_
      refine QJ.step (YldS.yld (y_pick_t (cB hb13) rfl)) rfl ?_
      obtain rfl := Option.some.inj h12
      exact QJ.cut_end ⟨rfl, trivial⟩
    · obtain rfl := andF h12 hb13
      refine QJ.off rfl rfl (cB hb13) rfl rfl ?_
      refine QJ.off rfl rfl (cB hb13) rfl rfl ?_
      refine QJ.off rfl rfl (cB hb13) rfl rfl ?_
      refine QJ.off rfl rfl (cB hb13) rfl rfl ?_
      refine QJ.off rfl rfl (cB hb13) rfl rfl ?_
      refine QJ.off rfl rfl (cB hb13) rfl rfl ?_
      refine QJ.off rfl rfl (cB hb13) rfl rfl ?_
      refine QJ.off rfl rfl (cB hb13) rfl rfl ?_
      refine QJ.off rfl rfl (cB hb13) rfl rfl ?_
      refine QJ.off rfl rfl (cB hb13) rfl rfl ?_
      refine QJ.off rfl rfl (cB hb13) rfl rfl ?_
      refine QJ.step (YldS.yld (y_pick_f (cB hb13) rfl)) rfl ?_
      exact QJ.cut_end ⟨rfl, trivial⟩
  refine QJ.step (YldS.yld (y_assign rfl)) rfl ?_
  refine QJ.done ?_
  refine PJ.next ?_
  refine WJ.ret ?_
  obtain rfl := Option.some.inj hm
  refine PJ.sel (L' := []) [] ⟨List.nodup_nil, rfl⟩ ?_
  exact PJ.retn (vs := [.bool t11]) Try.results96 ⟨rfl, trivial⟩ ⟨rfl, rfl⟩

set_option maxRecDepth 100000 in
set_option maxHeartbeats 1000000 in
theorem ok_s_l16Ok {N : Nat} {list1 : List Abbr} {r : Bool} (hm : s_l16Ok N list1 = some r) (w : World) (v2 : Value) (hr3 : RdS w (cx w).Fz v2 fAbbr.rp list1) :
    Calls Try.prog 92 #[v2] w (Ret (cx w) (.bool r)) := by
  unfold s_l16Ok at hm
  refine Calls.enter [v2] Try.func92 rfl Try.ntmps92 rfl ?_
  refine WJ.seq ?_
  refine WJ.quiet ?_
  refine QJ.step (YldS.yld (y_assign rfl)) rfl ?_
  refine QJ.done ?_
  refine PJ.next ?_
  obtain ⟨kj4, hk5, hm⟩ := withK_open hm
  refine WJ.join (X := Unit) (fun (_ : Unit) => kj4  = some r) (fun (_ : Unit) => [(0, v2)]) (fun (_ : Unit) => []) ?_ ?_
  · clear hk5
    refine WJ.seq ?_
    refine WJ.quiet ?_
    refine QJ.step (YldS.yld (y_assign rfl)) rfl ?_
    refine QJ.done ?_
    refine PJ.next ?_
    refine WJ.block ?_
    refine WJ.sel (L' := (fun (x : Int) => []) 0) [] ⟨List.nodup_nil, rfl⟩ ?_
    refine WJ.sub (m' := (fun (x : Int) => [(0, v2), (3, .int .i64 x)]) 0) ⟨rfl, rfl, trivial⟩ ?_
    refine WJ.loop (X := Int) (fun N (x : Int) => s_l16Ok_l1 kj4 list1 N x = some r) (fun (x : Int) => [(0, v2), (3, .int .i64 x)]) (fun (x : Int) => []) ?_ N 0 hm
    · rintro N i6 hI
      have hm := hI; clear hI
      cases N with
      | zero => cases hm
      | succ N =>
      unfold s_l16Ok_l1 at hm
      refine WJ.seq ?_
      refine WJ.seq ?_
      refine WJ.quiet ?_
      refine QJ.step (YldS.yld (y_move rfl)) rfl ?_
      refine QJ.step (YldS.yld (y_move rfl)) rfl ?_
      refine QJ.step (YldS.yld (y_lenS Try.runUnderlying56 hr3 rfl)) rfl ?_
      refine QJ.step (YldS.yld (y_bin rfl rfl rfl)) rfl ?_
      refine QJ.done ?_
      refine PJ.next ?_
      refine WJ.cond (t := decide (i6 < (List.length list1 : Int))) rfl (fun hb7 => ?_) (fun hb7 => ?_)
      · replace hm := ifT hm hb7
        refine WJ.skip ?_
        refine PJ.next ?_
        refine WJ.seq ?_
        refine WJ.block ?_
        refine WJ.seq ?_
        refine WJ.quiet_draw follows (by kernel_rfl) ?_
        refine QJ.step (YldS.yld (y_move rfl)) rfl ?_
        refine QJ.step (YldS.yld (y_move rfl)) rfl ?_
        obtain ⟨e8, h9, hm⟩ := bindS hm
        obtain ⟨ad10, _, rfl, ha11, hy12⟩ := hr3.elem h9
        refine QJ.step (YldS.yld (hy12 Try.runUnderlying56 Try.sizeOf64 rfl rfl)) rfl ?_
        obtain ⟨r13, h14, hm⟩ := bindS hm
        refine QJ.step (y_call Try.call96 rfl (RetG.quiet fun w hw => ok_s_l16One h14 w _ (ha11.st hw))) rfl ?_
        refine QJ.step (YldS.yld (y_not rfl)) rfl ?_
        refine QJ.step (YldS.yld (y_move rfl)) rfl ?_
        obtain ⟨t15, h16, hm⟩ := bindS hm
        refine QJ.cut 17 [(0, v2), (3, .int .i64 i6), (32, .bool t15)] ?_ ?_
        · rcases Bool.eq_false_or_eq_true (!r13) with hb17 | hb17
          · obtain rfl := orT h16 hb17
            refine QJ.off rfl rfl (cB hb17) rfl rfl ?_
            refine QJ.off rfl rfl (cB hb17) rfl rfl ?_
            refine QJ.off rfl rfl (cB hb17) rfl rfl ?_
            refine QJ.off_undef rfl rfl rfl rfl ?_
            refine QJ.off_undef rfl rfl rfl rfl ?_
            refine QJ.off_undef rfl rfl rfl rfl ?_
            refine QJ.off_undef rfl rfl rfl rfl ?_
            refine QJ.off_undef rfl rfl rfl rfl ?_
            refine QJ.off_undef rfl rfl rfl rfl ?_
            refine QJ.off_undef rfl rfl rfl rfl ?_
            refine QJ.off_undef rfl rfl rfl rfl ?_
            refine QJ.off_undef rfl rfl rfl rfl ?_
            refine QJ.off_undef rfl rfl rfl rfl ?_
            refine QJ.off_undef rfl rfl rfl rfl ?_
            refine QJ.off_undef rfl rfl rfl rfl ?_
            refine QJ.off rfl rfl (cB hb17) rfl rfl ?_
            refine QJ.step (YldS.yld (y_pick_t (cB hb17) rfl)) rfl ?_
            exact QJ.cut_end ⟨rfl, rfl, rfl, trivial⟩
          · replace h16 := orF h16 hb17
            refine QJ.on rfl rfl (cB hb17) (YldS.yld (y_move rfl)) rfl ?_
            refine QJ.on rfl rfl (cB hb17) (YldS.yld (y_bin rfl rfl rfl)) rfl ?_
            refine QJ.on rfl rfl (cB hb17) (YldS.yld (y_move rfl)) rfl ?_
            obtain ⟨t18, h19, h16⟩ := bindS h16
            refine QJ.cut 13 [(0, v2), (3, .int .i64 i6), (15, .bool (!r13)), (31, .bool t18)] ?_ ?_
            · rcases Bool.eq_false_or_eq_true (decide (i6 > 0)) with hb20 | hb20
              · replace h19 := andT h19 hb20
                refine QJ.on rfl rfl (cB hb20) (YldS.yld (y_move rfl)) rfl ?_
                refine QJ.on rfl rfl (cB hb20) (YldS.yld (y_move rfl)) rfl ?_
                refine QJ.on rfl rfl (cB hb20) (YldS.yld (y_bin rfl rfl rfl)) rfl ?_
                obtain ⟨e21, h22, h19⟩ := bindS h19
                obtain ⟨ad23, _, rfl, ha24, hy25⟩ := hr3.elem h22
                refine QJ.on rfl rfl (cB hb20) (YldS.yld (hy25 Try.runUnderlying56 Try.sizeOf64 rfl rfl)) rfl ?_
                refine QJ.on rfl rfl (cB hb20) (YldS.yld (y_fld (ad := ad23) fld64_0 rfl)) rfl ?_
                refine QJ.on rfl rfl (cB hb20) (YldS.yld (y_load1 (v := str e21.short) Try.isAgg9 (ha24.sub 0 1) St.frozenC rfl)) rfl ?_
                refine QJ.on rfl rfl (cB hb20) (YldS.yld (y_move rfl)) rfl ?_
                refine QJ.on rfl rfl (cB hb20) (YldS.yld (y_move rfl)) rfl ?_
                obtain ⟨e26, h27, h19⟩ := bindS h19
                obtain ⟨ad28, _, rfl, ha29, hy30⟩ := hr3.elem h27
                refine QJ.on rfl rfl (cB hb20) (YldS.yld (hy30 Try.runUnderlying56 Try.sizeOf64 rfl rfl)) rfl ?_
                refine QJ.on rfl rfl (cB hb20) (YldS.yld (y_fld (ad := ad28) fld64_0 rfl)) rfl ?_
                refine QJ.on rfl rfl (cB hb20) (YldS.yld (y_load1 (v := str e26.short) Try.isAgg9 (ha29.sub 0 1) St.frozenC rfl)) rfl ?_
                refine QJ.on rfl rfl (cB hb20) (YldS.yld (y_binS rfl rfl rfl)) rfl ?_
                refine QJ.on rfl rfl (cB hb17) (YldS.yld (y_pick_t (cB hb20) rfl)) rfl ?_
                obtain rfl := Option.some.inj h19
                exact QJ.cut_end ⟨rfl, rfl, rfl, rfl, trivial⟩
              · obtain rfl := andF h19 hb20
                refine QJ.off rfl rfl (cB hb20) rfl rfl ?_
                refine QJ.off rfl rfl (cB hb20) rfl rfl ?_
                refine QJ.off rfl rfl (cB hb20) rfl rfl ?_
                refine QJ.off rfl rfl (cB hb20) rfl rfl ?_
                refine QJ.off rfl rfl (cB hb20) rfl rfl ?_
                refine QJ.off rfl rfl (cB hb20) rfl rfl ?_
                refine QJ.off rfl rfl (cB hb20) rfl rfl ?_
                refine QJ.off rfl rfl (cB hb20) rfl rfl ?_
                refine QJ.off rfl rfl (cB hb20) rfl rfl ?_
                refine QJ.off rfl rfl (cB hb20) rfl rfl ?_
                refine QJ.off rfl rfl (cB hb20) rfl rfl ?_
                refine QJ.off rfl rfl (cB hb20) rfl rfl ?_
                refine QJ.on rfl rfl (cB hb17) (YldS.yld (y_pick_f (cB hb20) rfl)) rfl ?_
                exact QJ.cut_end ⟨rfl, rfl, rfl, rfl, trivial⟩
            refine QJ.step (YldS.yld (y_pick_f (cB hb17) rfl)) rfl ?_
            obtain rfl := Option.some.inj h16
            exact QJ.cut_end ⟨rfl, rfl, rfl, trivial⟩
        refine QJ.done ?_
        refine PJ.next ?_
        refine WJ.cond (t := t15) rfl (fun hb31 => ?_) (fun hb31 => ?_)
        · replace hm := ifT hm hb31
          refine WJ.seq ?_
          refine WJ.quiet ?_
          refine QJ.step (YldS.yld (y_assign rfl)) rfl ?_
          refine QJ.done ?_
          refine PJ.next ?_
          refine WJ.ret ?_
          refine PJ.block_ret (PJ.then_ret (PJ.then_ret (PJ.block_ret (PJ.then_ret ?_))))
          obtain rfl := Option.some.inj hm
          refine PJ.sel (L' := []) [] ⟨List.nodup_nil, rfl⟩ ?_
          exact PJ.retn (vs := [.bool false]) Try.results92 ⟨rfl, trivial⟩ ⟨rfl, rfl⟩
        · replace hm := ifF hm hb31
          refine WJ.skip ?_
          refine PJ.block_normal (PJ.next ?_)
          refine WJ.quiet ?_
          refine QJ.step (YldS.yld (y_move rfl)) rfl ?_
          refine QJ.step (YldS.yld (y_bin rfl rfl rfl)) rfl ?_
          refine QJ.step (YldS.yld (y_assign rfl)) rfl ?_
          refine QJ.done ?_
          exact PJ.round (w64 (i6 + 1)) [] hm ⟨rfl, rfl, trivial⟩ ⟨List.nodup_nil, rfl⟩
      · replace hm := ifF hm hb7
        refine WJ.exit ?_
        refine PJ.then_exit (PJ.then_exit (PJ.block_exit ?_))
        exact PJ.joined () [] hm ⟨rfl, trivial⟩ ⟨List.nodup_nil, rfl⟩
  · rintro _ hm
    subst hk5
    refine WJ.seq ?_
    refine WJ.quiet ?_
    refine QJ.step (YldS.yld (y_move rfl)) rfl ?_
    refine QJ.step (YldS.yld (y_lenS Try.runUnderlying56 hr3 rfl)) rfl ?_
    refine QJ.step (YldS.yld (y_bin rfl rfl rfl)) rfl ?_
    refine QJ.step (YldS.yld (y_assign rfl)) rfl ?_
    refine QJ.done ?_
    refine PJ.next ?_
    refine WJ.ret ?_
    obtain rfl := Option.some.inj hm
    refine PJ.sel (L' := []) [] ⟨List.nodup_nil, rfl⟩ ?_
    exact PJ.retn (vs := [.bool (decide ((List.length list1 : Int) ≤ 30))]) Try.results92 ⟨rfl, trivial⟩ ⟨rfl, rfl⟩

set_option maxRecDepth 100000 in
set_option maxHeartbeats 1000000 in
theorem ok_s_l16Short {N : Nat} {list1 : List Abbr} {short4 : Str} {r : Int} (hm : s_l16Short N list1 short4 = some r) (w : World) (v2 : Value) (hr3 : RdS w (cx w).Fz v2 fAbbr.rp list1) :
    Calls Try.prog 89 #[v2, str short4] w (Ret (cx w) (.int .i64 r)) := by
  unfold s_l16Short at hm
  refine Calls.enter [v2, str short4] Try.func89 rfl Try.ntmps89 rfl ?_
  refine WJ.seq ?_
  refine WJ.quiet ?_
  refine QJ.step (YldS.yld (y_assign rfl)) rfl ?_
  refine QJ.done ?_
  refine PJ.next ?_
  obtain ⟨kj5, hk6, hm⟩ := withK_open hm
  refine WJ.join (X := Unit) (fun (_ : Unit) => kj5  = some r) (fun (_ : Unit) => []) (fun (_ : Unit) => []) ?_ ?_
  · clear hk6
    refine WJ.seq ?_
    refine WJ.quiet ?_
    refine QJ.step (YldS.yld (y_assign rfl)) rfl ?_
    refine QJ.done ?_
    refine PJ.next ?_
    refine WJ.block ?_
    refine WJ.sel (L' := (fun (x : Int) => []) 0) [] ⟨List.nodup_nil, rfl⟩ ?_
    refine WJ.sub (m' := (fun (x : Int) => [(0, v2), (1, str short4), (5, .int .i64 x)]) 0) ⟨rfl, rfl, rfl, trivial⟩ ?_
    refine WJ.loop (X := Int) (fun N (x : Int) => s_l16Short_l1 kj5 list1 short4 N x = some r) (fun (x : Int) => [(0, v2), (1, str short4), (5, .int .i64 x)]) (fun (x : Int) => []) ?_ N 0 hm
    · rintro N i7 hI
      have hm := hI; clear hI
      cases N with
      | zero => cases hm
      | succ N =>
      unfold s_l16Short_l1 at hm
      refine WJ.seq ?_
      refine WJ.seq ?_
      refine WJ.quiet ?_
      refine QJ.step (YldS.yld (y_move rfl)) rfl ?_
      refine QJ.step (YldS.yld (y_move rfl)) rfl ?_
      refine QJ.step (YldS.yld (y_lenS Try.runUnderlying56 hr3 rfl)) rfl ?_
      refine QJ.step (YldS.yld (y_bin rfl rfl rfl)) rfl ?_
      refine QJ.done ?_
      refine PJ.next ?_
      refine WJ.cond (t := decide (i7 < (List.length list1 : Int))) rfl (fun hb8 => ?_) (fun hb8 => ?_)
      · replace hm := ifT hm hb8
        refine WJ.skip ?_
        refine PJ.next ?_
        refine WJ.seq ?_
        refine WJ.block ?_
        refine WJ.seq ?_
        refine WJ.quiet ?_
        refine QJ.step (YldS.yld (y_move rfl)) rfl ?_
        refine QJ.step (YldS.yld (y_move rfl)) rfl ?_
        obtain ⟨e9, h10, hm⟩ := bindS hm
        obtain ⟨ad11, _, rfl, ha12, hy13⟩ := hr3.elem h10
        refine QJ.step (YldS.yld (hy13 Try.runUnderlying56 Try.sizeOf64 rfl rfl)) rfl ?_
        refine QJ.step (YldS.yld (y_fld (ad := ad11) fld64_0 rfl)) rfl ?_
        refine QJ.step (YldS.yld (y_load1 (v := str e9.short) Try.isAgg9 (ha12.sub 0 1) St.frozenC rfl)) rfl ?_
        refine QJ.step (YldS.yld (y_move rfl)) rfl ?_
        refine QJ.step (YldS.yld (y_binS rfl rfl rfl)) rfl ?_
        refine QJ.done ?_
        refine PJ.next ?_
        refine WJ.cond (t := (e9.short == short4)) rfl (fun hb14 => ?_) (fun hb14 => ?_)
        · replace hm := ifT hm hb14
          refine WJ.seq ?_
          refine WJ.quiet ?_
          refine QJ.step (YldS.yld (y_move rfl)) rfl ?_
          refine QJ.step (YldS.yld (y_assign rfl)) rfl ?_
          refine QJ.done ?_
          refine PJ.next ?_
          refine WJ.ret ?_
          refine PJ.block_ret (PJ.then_ret (PJ.then_ret (PJ.block_ret (PJ.then_ret ?_))))
          obtain rfl := Option.some.inj hm
          refine PJ.sel (L' := []) [] ⟨List.nodup_nil, rfl⟩ ?_
          exact PJ.retn (vs := [.int .i64 i7]) Try.results89 ⟨rfl, trivial⟩ ⟨rfl, rfl⟩
        · replace hm := ifF hm hb14
          refine WJ.skip ?_
          refine PJ.block_normal (PJ.next ?_)
          refine WJ.quiet ?_
          refine QJ.step (YldS.yld (y_move rfl)) rfl ?_
          refine QJ.step (YldS.yld (y_bin rfl rfl rfl)) rfl ?_
          refine QJ.step (YldS.yld (y_assign rfl)) rfl ?_
          refine QJ.done ?_
          exact PJ.round (w64 (i7 + 1)) [] hm ⟨rfl, rfl, rfl, trivial⟩ ⟨List.nodup_nil, rfl⟩
      · replace hm := ifF hm hb8
        refine WJ.exit ?_
        refine PJ.then_exit (PJ.then_exit (PJ.block_exit ?_))
        exact PJ.joined () [] hm trivial ⟨List.nodup_nil, rfl⟩
  · rintro _ hm
    subst hk6
    refine WJ.seq ?_
    refine WJ.quiet ?_
    refine QJ.step (YldS.yld (y_assign rfl)) rfl ?_
    refine QJ.done ?_
    refine PJ.next ?_
    refine WJ.ret ?_
    obtain rfl := Option.some.inj hm
    refine PJ.sel (L' := []) [] ⟨List.nodup_nil, rfl⟩ ?_
    exact PJ.retn (vs := [.int .i64 (-1)]) Try.results89 ⟨rfl, trivial⟩ ⟨rfl, rfl⟩

set_option maxRecDepth 100000 in
set_option maxHeartbeats 1000000 in
theorem ok_s_AddAbbr {N : Nat} {list1 : List Abbr} {x4 : Abbr} {r : (List Abbr) × Int} (hm : s_AddAbbr N list1 x4 = some r) (w : World) (v2 : Value) (hr3 : RdS w (cx w).Fz v2 fAbbr.rp list1) :
    Calls Try.prog 47 #[v2, .agg (Abbr.enc x4).toArray] w (RetG (cx w) fun u L => ∃ (u1 : Value), (u = tup [u1, .int .i64 r.2] ∧ L = [row u1 64 fAbbr r.1])) := by
  unfold s_AddAbbr at hm
  refine Calls.enter [v2, .agg (Abbr.enc x4).toArray] Try.func47 rfl Try.ntmps47 rfl ?_
  refine WJ.seq ?_
  refine WJ.reg ?_
  refine SJ.box (cs := [str x4.short, str x4.long]) rfl rfl rfl fun g5 => ?_
  refine SJ.q (YldS.yld (y_assign rfl)) rfl ?_
  refine SJ.q (YldS.yld (y_assign rfl)) rfl ?_
  refine SJ.nil ?_
  refine PJ.next ?_
  refine WJ.seq ?_
  refine WJ.seq ?_
  refine WJ.quiet ?_
  refine QJ.step (YldS.yld (y_move rfl)) rfl ?_
  obtain ⟨r6, h7, hm⟩ := bindS hm
  refine QJ.step (y_call Try.call92 rfl (RetG.quiet fun w hw => ok_s_l16Ok h7 w _ (hr3.st hw))) rfl ?_
  refine QJ.step (YldS.yld (y_not rfl)) rfl ?_
  refine QJ.done ?_
  refine PJ.next ?_
  refine WJ.cond (t := !r6) rfl (fun hb8 => ?_) (fun hb8 => ?_)
  · replace hm := ifT hm hb8
    refine WJ.seq ?_
    refine WJ.quiet ?_
    refine QJ.step (YldS.yld (y_assign rfl)) rfl ?_
    refine QJ.step (YldS.yld (y_assign rfl)) rfl ?_
    refine QJ.done ?_
    refine PJ.next ?_
    refine WJ.ret ?_
    refine PJ.then_ret ?_
    refine PJ.nil_row 64 fAbbr ?_
    obtain rfl := Option.some.inj hm
    refine PJ.sel (L' := [row (.slice none 0 0) 64 fAbbr []]) [0] ⟨by decide, rfl⟩ ?_
    exact PJ.retn (vs := [(.slice none 0 0), .int .i64 1]) Try.results47 ⟨rfl, rfl, trivial⟩ ⟨_, rfl, rfl⟩
  · replace hm := ifF hm hb8
    refine WJ.skip ?_
    refine PJ.next ?_
    refine WJ.seq ?_
    refine WJ.seq ?_
    refine WJ.quiet ?_
    obtain ⟨r9, h10, hm⟩ := bindS hm
    refine QJ.step (y_call Try.call96 rfl (RetG.quiet fun w hw => ok_s_l16One h10 w _ (hw.box_at (k := 0) rfl))) rfl ?_
    refine QJ.step (YldS.yld (y_not rfl)) rfl ?_
    refine QJ.done ?_
    refine PJ.next ?_
    refine WJ.cond (t := !r9) rfl (fun hb11 => ?_) (fun hb11 => ?_)
    · replace hm := ifT hm hb11
      refine WJ.seq ?_
      refine WJ.quiet ?_
      refine QJ.step (YldS.yld (y_assign rfl)) rfl ?_
      refine QJ.step (YldS.yld (y_assign rfl)) rfl ?_
      refine QJ.done ?_
      refine PJ.next ?_
      refine WJ.ret ?_
      refine PJ.then_ret ?_
      refine PJ.nil_row 64 fAbbr ?_
      obtain rfl := Option.some.inj hm
      refine PJ.sel (L' := [row (.slice none 0 0) 64 fAbbr []]) [0] ⟨by decide, rfl⟩ ?_
      exact PJ.retn (vs := [(.slice none 0 0), .int .i64 2]) Try.results47 ⟨rfl, rfl, trivial⟩ ⟨_, rfl, rfl⟩
    · replace hm := ifF hm hb11
      refine WJ.skip ?_
      refine PJ.next ?_
      refine WJ.seq ?_
      refine WJ.seq ?_
      refine WJ.quiet ?_
      refine QJ.step (YldS.yld (y_move rfl)) rfl ?_
      refine QJ.step (YldS.yld (y_fldB (o := 0) fld64_0 rfl)) rfl ?_
      refine QJ.step (YldS.yld (y_loadB (k := 0) (off := 0) (v := str x4.short) rfl Try.isAgg9 rfl rfl)) rfl ?_
      obtain ⟨r12, h13, hm⟩ := bindS hm
      refine QJ.step (y_call Try.call89 rfl (RetG.quiet fun w hw => ok_s_l16Short h13 w _ (hr3.st hw))) rfl ?_
      refine QJ.step (YldS.yld (y_bin rfl rfl rfl)) rfl ?_
      refine QJ.done ?_
      refine PJ.next ?_
      refine WJ.cond (t := decide (r12 ≥ 0)) rfl (fun hb14 => ?_) (fun hb14 => ?_)
      · replace hm := ifT hm hb14
        refine WJ.seq ?_
        refine WJ.quiet ?_
        refine QJ.step (YldS.yld (y_assign rfl)) rfl ?_
        refine QJ.step (YldS.yld (y_assign rfl)) rfl ?_
        refine QJ.done ?_
        refine PJ.next ?_
        refine WJ.ret ?_
        refine PJ.then_ret ?_
        refine PJ.nil_row 64 fAbbr ?_
        obtain rfl := Option.some.inj hm
        refine PJ.sel (L' := [row (.slice none 0 0) 64 fAbbr []]) [0] ⟨by decide, rfl⟩ ?_
        exact PJ.retn (vs := [(.slice none 0 0), .int .i64 4]) Try.results47 ⟨rfl, rfl, trivial⟩ ⟨_, rfl, rfl⟩
      · replace hm := ifF hm hb14
        refine WJ.skip ?_
        refine PJ.next ?_
        refine WJ.seq ?_
        refine WJ.seq ?_
        refine WJ.quiet ?_
        refine QJ.step (YldS.yld (y_move rfl)) rfl ?_
        refine QJ.step (YldS.yld (y_lenS Try.runUnderlying56 hr3 rfl)) rfl ?_
        refine QJ.step (YldS.yld (y_bin rfl rfl rfl)) rfl ?_
        refine QJ.done ?_
        refine PJ.next ?_
        refine WJ.cond (t := decide ((List.length list1 : Int) ≥ 30)) rfl (fun hb15 => ?_) (fun hb15 => ?_)
        · replace hm := ifT hm hb15
          refine WJ.seq ?_
          refine WJ.quiet ?_
          refine QJ.step (YldS.yld (y_assign rfl)) rfl ?_
          refine QJ.step (YldS.yld (y_assign rfl)) rfl ?_
          refine QJ.done ?_
          refine PJ.next ?_
          refine WJ.ret ?_
          refine PJ.then_ret ?_
          refine PJ.nil_row 64 fAbbr ?_
          obtain rfl := Option.some.inj hm
          refine PJ.sel (L' := [row (.slice none 0 0) 64 fAbbr []]) [0] ⟨by decide, rfl⟩ ?_
          exact PJ.retn (vs := [(.slice none 0 0), .int .i64 5]) Try.results47 ⟨rfl, rfl, trivial⟩ ⟨_, rfl, rfl⟩
        · replace hm := ifF hm hb15
          refine WJ.skip ?_
          refine PJ.next ?_
          refine WJ.seq ?_
          refine WJ.quiet ?_
          refine QJ.step (YldS.yld (y_move rfl)) rfl ?_
          refine QJ.step (YldS.yld (y_lenS Try.runUnderlying56 hr3 rfl)) rfl ?_
          refine QJ.step (YldS.yld (y_assign rfl)) rfl ?_
          refine QJ.done ?_
          refine PJ.next ?_
          obtain ⟨kj17, hk18, hm⟩ := withK_open hm
          refine WJ.join (X := Int) (fun (x : Int) => kj17 x = some r) (fun (x : Int) => [(0, v2), (3, pt g5 0), (6, .int .i64 x)]) (fun (x : Int) => [box g5 64 [str x4.short, str x4.long]]) ?_ ?_
          · clear hk18
            refine WJ.block ?_
            refine WJ.sel (L' := (fun (x : Int) => [box g5 64 [str x4.short, str x4.long]]) (List.length list1 : Int)) [0] ⟨by decide, rfl⟩ ?_
            refine WJ.sub (m' := (fun (x : Int) => [(0, v2), (3, pt g5 0), (6, .int .i64 x)]) (List.length list1 : Int)) ⟨rfl, rfl, rfl, trivial⟩ ?_
            refine WJ.loop (X := Int) (fun N (x : Int) => s_AddAbbr_l1 kj17 list1 x4 N x = some r) (fun (x : Int) => [(0, v2), (3, pt g5 0), (6, .int .i64 x)]) (fun (x : Int) => [box g5 64 [str x4.short, str x4.long]]) ?_ N (List.length list1 : Int) hm
            · rintro N k19 hI
              have hm := hI; clear hI
              cases N with
              | zero => cases hm
              | succ N =>
              unfold s_AddAbbr_l1 at hm
              refine WJ.seq ?_
              refine WJ.seq ?_
              refine WJ.quiet_draw follows (by kernel_rfl) ?_
              refine QJ.step (YldS.yld (y_move rfl)) rfl ?_
              refine QJ.step (YldS.yld (y_bin rfl rfl rfl)) rfl ?_
              refine QJ.step (YldS.yld (y_move rfl)) rfl ?_
              obtain ⟨t20, h21, hm⟩ := bindS hm
              refine QJ.cut 10 [(0, v2), (3, pt g5 0), (6, .int .i64 k19), (35, .bool t20)] ?_ ?_
              · rcases Bool.eq_false_or_eq_true (decide (k19 > 0)) with hb22 | hb22
                · replace h21 := andT h21 hb22
                  refine QJ.on rfl rfl (cB hb22) (YldS.yld (y_move rfl)) rfl ?_
                  refine QJ.on rfl rfl (cB hb22) (YldS.yld (y_move rfl)) rfl ?_
                  refine QJ.on rfl rfl (cB hb22) (YldS.yld (y_bin rfl rfl rfl)) rfl ?_
                  obtain ⟨e23, h24, h21⟩ := bindS h21
                  obtain ⟨ad25, _, rfl, ha26, hy27⟩ := hr3.elem h24
                  refine QJ.on rfl rfl (cB hb22) (YldS.yld (hy27 Try.runUnderlying56 Try.sizeOf64 rfl rfl)) rfl ?_
                  refine QJ.on rfl rfl (cB hb22) (YldS.yld (y_fld (ad := ad25) fld64_0 rfl)) rfl ?_
                  refine QJ.on rfl rfl (cB hb22) (YldS.yld (y_load1 (v := str e23.short) Try.isAgg9 (ha26.sub 0 1) St.frozenC rfl)) rfl ?_
                  refine QJ.on rfl rfl (cB hb22) (YldS.yld (y_fldB (o := 0) fld64_0 rfl)) rfl ?_
                  refine QJ.on rfl rfl (cB hb22) (YldS.yld (y_loadB (k := 0) (off := 0) (v := str x4.short) rfl Try.isAgg9 rfl rfl)) rfl ?_
                  refine QJ.on rfl rfl (cB hb22) (YldS.yld (y_binS rfl rfl rfl)) rfl ?_
                  refine QJ.step (YldS.yld (y_pick_t (cB hb22) rfl)) rfl ?_
                  obtain rfl := Option.some.inj h21
                  exact QJ.cut_end ⟨rfl, rfl, rfl, rfl, trivial⟩
                · obtain rfl := andF h21 hb22
                  refine QJ.off rfl rfl (cB hb22) rfl rfl ?_
                  refine QJ.off rfl rfl (cB hb22) rfl rfl ?_
                  refine QJ.off rfl rfl (cB hb22) rfl rfl ?_
                  refine QJ.off rfl rfl (cB hb22) rfl rfl ?_
                  refine QJ.off rfl rfl (cB hb22) rfl rfl ?_
                  refine QJ.off rfl rfl (cB hb22) rfl rfl ?_
                  refine QJ.off rfl rfl (cB hb22) rfl rfl ?_
                  refine QJ.off rfl rfl (cB hb22) rfl rfl ?_
                  refine QJ.off rfl rfl (cB hb22) rfl rfl ?_
                  refine QJ.step (YldS.yld (y_pick_f (cB hb22) rfl)) rfl ?_
                  exact QJ.cut_end ⟨rfl, rfl, rfl, rfl, trivial⟩
              refine QJ.done ?_
              refine PJ.next ?_
              refine WJ.cond (t := t20) rfl (fun hb28 => ?_) (fun hb28 => ?_)
              · replace hm := ifT hm hb28
                refine WJ.skip ?_
                refine PJ.next ?_
                refine WJ.block ?_
                refine WJ.quiet ?_
                refine QJ.step (YldS.yld (y_move rfl)) rfl ?_
                refine QJ.step (YldS.yld (y_bin rfl rfl rfl)) rfl ?_
                refine QJ.step (YldS.yld (y_assign rfl)) rfl ?_
                refine QJ.done ?_
                refine PJ.block_normal ?_
                exact PJ.round (w64 (k19 - 1)) [0] hm ⟨rfl, rfl, rfl, trivial⟩ ⟨by decide, rfl⟩
              · replace hm := ifF hm hb28
                refine WJ.exit ?_
                refine PJ.then_exit (PJ.then_exit (PJ.block_exit ?_))
                exact PJ.joined k19 [0] hm ⟨rfl, rfl, rfl, trivial⟩ ⟨by decide, rfl⟩
          · rintro k16 hm
            subst hk18
            refine WJ.seq ?_
            refine WJ.reg ?_
            refine SJ.buildSlice (R := fAbbr) (os := []) [] Try.runUnderlying56 Try.sizeOf64 Try.zeroValue64 rfl rfl rfl rfl rfl rfl fun v29 => ?_
            refine SJ.q (YldS.yld (y_move rfl)) rfl ?_
            refine SJ.q (YldS.yld (y_move rfl)) rfl ?_
            obtain ⟨l30, h31, hm⟩ := bindS hm
            obtain ⟨v32, hr33, hy34⟩ := RdS.part (i := none) (j := some k16) hr3 h31
            refine SJ.q (YldS.yld (hy34 Try.runUnderlying56 Try.sizeOf64 rfl trivial ⟨_, rfl⟩)) rfl ?_
            obtain ⟨l35, h36, hm⟩ := bindS hm
            refine SJ.append (k := 0) (R := fAbbr) h36 rfl Try.underlying56 el64 rfl rfl rfl (fun w hw => (hr33.st hw)) rfl fun v37 => ?_
            refine SJ.q (YldS.yld (y_assign rfl)) rfl ?_
            refine SJ.nil ?_
            refine PJ.next ?_
            refine WJ.seq ?_
            refine WJ.reg ?_
            refine SJ.q (YldS.yld (y_move rfl)) rfl ?_
            refine SJ.q (YldS.yld (y_loadBN (k := 1) (off := 0) (us := [str x4.short, str x4.long]) rfl Try.isAgg64 Try.sizeOf64 rfl rfl)) rfl ?_
            refine SJ.buildSlice (R := fAbbr) (os := [.tmp 44]) [x4] Try.runUnderlying56 Try.sizeOf64 Try.zeroValue64 rfl rfl rfl rfl rfl rfl fun v38 => ?_
            obtain ⟨l39, h40, hm⟩ := bindS hm
            refine SJ.append (k := 1) (R := fAbbr) h40 rfl Try.underlying56 el64 rfl rfl rfl (fun w hw => (hw.row_rd (k := 0) rfl)) rfl fun v41 => ?_
            refine SJ.q (YldS.yld (y_assign rfl)) rfl ?_
            refine SJ.nil ?_
            refine PJ.next ?_
            refine WJ.seq ?_
            refine WJ.reg ?_
            refine SJ.q (YldS.yld (y_move rfl)) rfl ?_
            refine SJ.q (YldS.yld (y_move rfl)) rfl ?_
            refine SJ.q (YldS.yld (y_move rfl)) rfl ?_
            obtain ⟨l42, h43, hm⟩ := bindS hm
            obtain ⟨v44, hr45, hy46⟩ := RdS.part (i := some k16) (j := none) hr3 h43
            refine SJ.q (YldS.yld (hy46 Try.runUnderlying56 Try.sizeOf64 rfl ⟨_, rfl⟩ trivial)) rfl ?_
            obtain ⟨l47, h48, hm⟩ := bindS hm
            refine SJ.append (k := 1) (R := fAbbr) h48 rfl Try.underlying56 el64 rfl rfl rfl (fun w hw => (hr45.st hw)) rfl fun v49 => ?_
            refine SJ.q (YldS.yld (y_assign rfl)) rfl ?_
            refine SJ.q (YldS.yld (y_assign rfl)) rfl ?_
            refine SJ.nil ?_
            refine PJ.next ?_
            refine WJ.ret ?_
            obtain rfl := Option.some.inj hm
            refine PJ.sel (L' := [row v49 64 fAbbr l47]) [1] ⟨by decide, rfl⟩ ?_
            exact PJ.retn (vs := [v49, .int .i64 0]) Try.results47 ⟨rfl, rfl, trivial⟩ ⟨_, rfl, rfl⟩

set_option maxRecDepth 100000 in
set_option maxHeartbeats 1000000 in
theorem ok_s_l16Draw {N : Nat} {s1 : L00Src} {g2 : Nat} {r : (List Abbr) × L00Src} (hm : s_l16Draw N s1 = some r) (w : World) (S : Nat → Prop) (v3 : Value) (hr4 : RdS w (Cx.Fz ⟨w, S⟩) v3 fByte.rp s1.code) (hA : (box g2 134 [v3, .int .i64 s1.at_, .int .u64 s1.seed]).holds w S) :
    Calls Try.prog 99 #[pt g2 0] w (RetG ⟨w, S⟩ fun u L => ∃ (u1 : Value), (u = u1 ∧ L = [box g2 134 [v3, .int .i64 r.2.at_, .int .u64 r.2.seed], row u1 64 fAbbr r.1])) := by
  unfold s_l16Draw at hm
  refine Calls.enter1 hA [pt g2 0] Try.func99 rfl Try.ntmps99 rfl ?_
  refine WJ.seq ?_
  refine WJ.quiet ?_
  refine QJ.step (YldS.yld (y_assign rfl)) rfl ?_
  refine QJ.done ?_
  refine PJ.next ?_
  refine WJ.seq ?_
  refine WJ.reg ?_
  refine SJ.buildSlice (R := fAbbr) (os := []) [] Try.runUnderlying56 Try.sizeOf64 Try.zeroValue64 rfl rfl rfl rfl rfl rfl fun v5 => ?_
  refine SJ.q (YldS.yld (y_assign rfl)) rfl ?_
  refine SJ.nil ?_
  refine PJ.next ?_
  obtain ⟨kj10, hk11, hm⟩ := withK_open hm
  refine WJ.join (X := Int × Int × (List Abbr) × Value) (fun (x : Int × Int × (List Abbr) × Value) => kj10 x.1 x.2.1 x.2.2.1 = some r) (fun (x : Int × Int × (List Abbr) × Value) => [(3, x.2.2.2)]) (fun (x : Int × Int × (List Abbr) × Value) => [box g2 134 [v3, .int .i64 x.1, .int .u64 x.2.1], row x.2.2.2 64 fAbbr x.2.2.1]) ?_ ?_
  · clear hk11
    refine WJ.seq ?_
    refine WJ.reg ?_
    refine SJ.q (YldS.yld (y_move rfl)) rfl ?_
    obtain ⟨r12, h13, hm⟩ := bindS hm
    refine SJ.call1 (k := 1) rfl Try.call71 rfl (fun w S hw hA hO => ok_s_l00Src_pick h13 w S _ (hr4.st1 hw hO) hA) rfl ?_
    rintro _ _ ⟨rfl, rfl⟩
    refine SJ.q (YldS.yld (y_assign rfl)) rfl ?_
    refine SJ.nil ?_
    refine PJ.next ?_
    refine WJ.block ?_
    refine WJ.sel (L' := (fun (x : Int × Int × (List Abbr) × Value × Int) => [box g2 134 [v3, .int .i64 x.1, .int .u64 x.2.1], row x.2.2.2.1 64 fAbbr x.2.2.1]) (r12.2.at_, r12.2.seed, [], v5, r12.1)) [0, 1] ⟨by decide, rfl⟩ ?_
    refine WJ.sub (m' := (fun (x : Int × Int × (List Abbr) × Value × Int) => [(0, pt g2 0), (3, x.2.2.2.1), (4, .int .i64 x.2.2.2.2)]) (r12.2.at_, r12.2.seed, [], v5, r12.1)) ⟨rfl, rfl, rfl, trivial⟩ ?_
    refine WJ.loop (X := Int × Int × (List Abbr) × Value × Int) (fun N (x : Int × Int × (List Abbr) × Value × Int) => s_l16Draw_l1 kj10 s1 N x.1 x.2.1 x.2.2.1 x.2.2.2.2 = some r) (fun (x : Int × Int × (List Abbr) × Value × Int) => [(0, pt g2 0), (3, x.2.2.2.1), (4, .int .i64 x.2.2.2.2)]) (fun (x : Int × Int × (List Abbr) × Value × Int) => [box g2 134 [v3, .int .i64 x.1, .int .u64 x.2.1], row x.2.2.2.1 64 fAbbr x.2.2.1]) ?_ N (r12.2.at_, r12.2.seed, [], v5, r12.1) hm
    · rintro N ⟨x14, x15, l16, v17, k18⟩ hI
      have hm := hI; clear hI
      cases N with
      | zero => cases hm
      | succ N =>
      unfold s_l16Draw_l1 at hm
      refine WJ.seq ?_
      refine WJ.seq ?_
      refine WJ.quiet ?_
      refine QJ.step (YldS.yld (y_move rfl)) rfl ?_
      refine QJ.step (YldS.yld (y_bin rfl rfl rfl)) rfl ?_
      refine QJ.done ?_
      refine PJ.next ?_
      refine WJ.cond (t := decide (k18 > 0)) rfl (fun hb19 => ?_) (fun hb19 => ?_)
      · replace hm := ifT hm hb19
        refine WJ.skip ?_
        refine PJ.next ?_
        obtain ⟨kj24, hk25, hm⟩ := withK_open hm
        refine WJ.join (X := (List Abbr) × Value × Int × Int) (fun (x : (List Abbr) × Value × Int × Int) => kj24 x.1 x.2.2.1 x.2.2.2 = some r) (fun (x : (List Abbr) × Value × Int × Int) => [(0, pt g2 0), (3, x.2.1), (4, .int .i64 k18)]) (fun (x : (List Abbr) × Value × Int × Int) => [row x.2.1 64 fAbbr x.1, box g2 134 [v3, .int .i64 x.2.2.1, .int .u64 x.2.2.2]]) ?_ ?_
        · clear hk25
          refine WJ.block ?_
          refine WJ.seq ?_
          refine WJ.reg ?_
          refine SJ.q (YldS.yld (y_move rfl)) rfl ?_
          obtain ⟨r26, h27, hm⟩ := bindS hm
          refine SJ.call1 (k := 0) rfl Try.call94 rfl (fun w S hw hA hO => ok_s_l16New h27 w S _ (hr4.st1 hw hO) hA) rfl ?_
          rintro _ _ ⟨rfl, rfl⟩
          refine SJ.alloc (cs := [str [], str []]) Try.zeroValue64 rfl rfl fun g28 => ?_
          refine SJ.storeL (k := 0) (off := 0) (us := [str r26.1.short, str r26.1.long]) rfl rfl rfl rfl Try.sizeOf64 rfl rfl ?_
          refine SJ.nil ?_
          refine PJ.next ?_
          refine WJ.seq ?_
          refine WJ.reg ?_
          refine SJ.q (YldS.yld (y_move rfl)) rfl ?_
          refine SJ.q (YldS.yld (y_loadBN (k := 0) (off := 0) (us := [str r26.1.short, str r26.1.long]) rfl Try.isAgg64 Try.sizeOf64 rfl rfl)) rfl ?_
          obtain ⟨r29, h30, hm⟩ := bindS hm
          refine SJ.call Try.call47 rfl (fun w hw => ok_s_AddAbbr h30 w _ (hw.row_rd (k := 2) rfl)) rfl ?_
          rintro _ _ ⟨v31, rfl, rfl⟩
          refine SJ.q (YldS.yld (y_move rfl)) rfl ?_
          refine SJ.q (YldS.yld (y_extract rfl rfl)) rfl ?_
          refine SJ.q (YldS.yld (y_extract rfl rfl)) rfl ?_
          refine SJ.q (YldS.yld (y_assign rfl)) rfl ?_
          refine SJ.q (YldS.yld (y_assign rfl)) rfl ?_
          refine SJ.nil ?_
          refine PJ.next ?_
          refine WJ.seq ?_
          refine WJ.quiet ?_
          refine QJ.step (YldS.yld (y_move rfl)) rfl ?_
          refine QJ.step (YldS.yld (y_bin rfl rfl rfl)) rfl ?_
          refine QJ.done ?_
          refine PJ.next ?_
          refine WJ.cond (t := (r29.2 == 0)) rfl (fun hb32 => ?_) (fun hb32 => ?_)
          · replace hm := ifT hm hb32
            refine WJ.quiet ?_
            refine QJ.step (YldS.yld (y_move rfl)) rfl ?_
            refine QJ.step (YldS.yld (y_assign rfl)) rfl ?_
            refine QJ.done ?_
            refine PJ.block_normal ?_
            exact PJ.joined (r29.1, v31, r26.2.at_, r26.2.seed) [0, 2] hm ⟨rfl, rfl, rfl, trivial⟩ ⟨by decide, rfl⟩
          · replace hm := ifF hm hb32
            refine WJ.skip ?_
            refine PJ.block_normal ?_
            exact PJ.joined (l16, v17, r26.2.at_, r26.2.seed) [3, 2] hm ⟨rfl, rfl, rfl, trivial⟩ ⟨by decide, rfl⟩
        · rintro ⟨l20, v21, x22, x23⟩ hm
          subst hk25
          refine WJ.quiet ?_
          refine QJ.step (YldS.yld (y_move rfl)) rfl ?_
          refine QJ.step (YldS.yld (y_bin rfl rfl rfl)) rfl ?_
          refine QJ.step (YldS.yld (y_assign rfl)) rfl ?_
          refine QJ.done ?_
          exact PJ.round (x22, x23, l20, v21, w64 (k18 - 1)) [1, 0] hm ⟨rfl, rfl, rfl, trivial⟩ ⟨by decide, rfl⟩
      · replace hm := ifF hm hb19
        refine WJ.exit ?_
        refine PJ.then_exit (PJ.then_exit (PJ.block_exit ?_))
        exact PJ.joined (x14, x15, l16, v17) [0, 1] hm ⟨rfl, trivial⟩ ⟨by decide, rfl⟩
  · rintro ⟨x6, x7, l8, v9⟩ hm
    subst hk11
    refine WJ.seq ?_
    refine WJ.quiet ?_
    refine QJ.step (YldS.yld (y_move rfl)) rfl ?_
    refine QJ.step (YldS.yld (y_assign rfl)) rfl ?_
    refine QJ.done ?_
    refine PJ.next ?_
    refine WJ.ret ?_
    obtain rfl := Option.some.inj hm
    refine PJ.sel (L' := [box g2 134 [v3, .int .i64 x6, .int .u64 x7], row v9 64 fAbbr l8]) [0, 1] ⟨by decide, rfl⟩ ?_
    exact PJ.retn (vs := [v9]) Try.results99 ⟨rfl, trivial⟩ ⟨_, rfl, rfl⟩

set_option maxRecDepth 100000 in
set_option maxHeartbeats 1000000 in
theorem ok_s_l16Bent {N : Nat} {s1 : L00Src} {g2 : Nat} {r : (List Abbr) × L00Src} (hm : s_l16Bent N s1 = some r) (w : World) (S : Nat → Prop) (v3 : Value) (hr4 : RdS w (Cx.Fz ⟨w, S⟩) v3 fByte.rp s1.code) (hA : (box g2 134 [v3, .int .i64 s1.at_, .int .u64 s1.seed]).holds w S) :
    Calls Try.prog 93 #[pt g2 0] w (RetG ⟨w, S⟩ fun u L => ∃ (u1 : Value), (u = u1 ∧ L = [box g2 134 [v3, .int .i64 r.2.at_, .int .u64 r.2.seed], row u1 64 fAbbr r.1])) := by
  unfold s_l16Bent at hm
  refine Calls.enter1 hA [pt g2 0] Try.func93 rfl Try.ntmps93 rfl ?_
  refine WJ.seq ?_
  refine WJ.quiet ?_
  refine QJ.step (YldS.yld (y_assign rfl)) rfl ?_
  refine QJ.done ?_
  refine PJ.next ?_
  refine WJ.seq ?_
  refine WJ.reg ?_
  refine SJ.q (YldS.yld (y_move rfl)) rfl ?_
  obtain ⟨r5, h6, hm⟩ := bindS hm
  refine SJ.call1 (k := 0) rfl Try.call99 rfl (fun w S hw hA hO => ok_s_l16Draw h6 w S _ (hr4.st1 hw hO) hA) rfl ?_
  rintro v7 _ ⟨_, rfl, rfl⟩
  refine SJ.q (YldS.yld (y_assign rfl)) rfl ?_
  refine SJ.nil ?_
  refine PJ.next ?_
  obtain ⟨kj12, hk13, hm⟩ := withK_open hm
  refine WJ.join (X := Int × Int × (List Abbr) × Value) (fun (x : Int × Int × (List Abbr) × Value) => kj12 x.1 x.2.1 x.2.2.1 = some r) (fun (x : Int × Int × (List Abbr) × Value) => [(3, x.2.2.2)]) (fun (x : Int × Int × (List Abbr) × Value) => [box g2 134 [v3, .int .i64 x.1, .int .u64 x.2.1], row x.2.2.2 64 fAbbr x.2.2.1]) ?_ ?_
  · clear hk13
    refine WJ.seq ?_
    refine WJ.reg ?_
    refine SJ.q (YldS.yld (y_move rfl)) rfl ?_
    obtain ⟨r14, h15, hm⟩ := bindS hm
    refine SJ.call1 (k := 0) rfl Try.call71 rfl (fun w S hw hA hO => ok_s_l00Src_pick h15 w S _ (hr4.st1 hw hO) hA) rfl ?_
    rintro _ _ ⟨rfl, rfl⟩
    refine SJ.nil ?_
    refine PJ.next ?_
    refine WJ.block ?_
    refine WJ.seq ?_
    refine WJ.quiet ?_
    refine QJ.step (YldS.yld (y_bin rfl rfl rfl)) rfl ?_
    refine QJ.step (YldS.yld (y_assign rfl)) rfl ?_
    refine QJ.done ?_
    refine PJ.next ?_
    refine WJ.cond (t := (r14.1 == 0)) rfl (fun hb16 => ?_) (fun hb16 => ?_)
    · replace hm := ifT hm hb16
      refine WJ.reg ?_
      refine SJ.q (YldS.yld (y_move rfl)) rfl ?_
      refine SJ.q (YldS.yld (y_move rfl)) rfl ?_
      refine SJ.buildSlice (R := fStr) (os := [.const (str []), .const (str [122, 122]), .const (str [90]), .const (str [122, 122, 122, 122, 122, 122, 122, 122]), .const (str [122, 122, 122, 122, 122, 122, 122, 122, 122])]) ([[], [122, 122], [90], [122, 122, 122, 122, 122, 122, 122, 122], [122, 122, 122, 122, 122, 122, 122, 122, 122]] : List Str) Try.runUnderlying43 Try.sizeOf9 Try.zeroValue9 rfl rfl rfl rfl rfl rfl fun v17 => ?_
      obtain ⟨r18, h19, hm⟩ := bindS hm
      refine SJ.call2 (k := 1) rfl Try.call100 rfl (fun w S hw hA hO hB => ok_s_l00Src_text h19 w S _ (hr4.st1 hw hO) _ (hB.row_rd (j := 0) (k := 1) rfl rfl) hA) rfl ?_
      rintro _ _ ⟨rfl, rfl⟩
      refine SJ.q (YldS.yld (y_build (parts := [(0, .tmp 15), (1, .const (str [122, 122, 122, 122, 122, 122, 122, 122, 122, 122, 122, 122, 122]))]) (places := [(0, 1), (1, 1)]) (r := [str ((Abbr.mk r18.1 [122, 122, 122, 122, 122, 122, 122, 122, 122, 122, 122, 122, 122]).short), str ((Abbr.mk r18.1 [122, 122, 122, 122, 122, 122, 122, 122, 122, 122, 122, 122, 122]).long)]) pl64 Try.zeroValue64 rfl rfl rfl rfl)) rfl ?_
      refine SJ.buildSlice (R := fAbbr) (os := [.tmp 16]) [(Abbr.mk r18.1 [122, 122, 122, 122, 122, 122, 122, 122, 122, 122, 122, 122, 122])] Try.runUnderlying56 Try.sizeOf64 Try.zeroValue64 rfl rfl rfl rfl rfl rfl fun v20 => ?_
      obtain ⟨l21, h22, hm⟩ := bindS hm
      refine SJ.append (k := 3) (R := fAbbr) h22 rfl Try.underlying56 el64 rfl rfl rfl (fun w hw => (hw.row_rd (k := 0) rfl)) rfl fun v23 => ?_
      refine SJ.q (YldS.yld (y_assign rfl)) rfl ?_
      refine SJ.nil ?_
      refine PJ.block_normal ?_
      exact PJ.joined (r18.2.at_, r18.2.seed, l21, v23) [1, 3] hm ⟨rfl, trivial⟩ ⟨by decide, rfl⟩
    · replace hm := ifF hm hb16
      refine WJ.seq ?_
      refine WJ.quiet ?_
      refine QJ.step (YldS.yld (y_bin rfl rfl rfl)) rfl ?_
      refine QJ.step (YldS.yld (y_assign rfl)) rfl ?_
      refine QJ.done ?_
      refine PJ.next ?_
      refine WJ.cond (t := (r14.1 == 1)) rfl (fun hb24 => ?_) (fun hb24 => ?_)
      · replace hm := ifT hm hb24
        refine WJ.reg ?_
        refine SJ.q (YldS.yld (y_move rfl)) rfl ?_
        refine SJ.q (YldS.yld (y_move rfl)) rfl ?_
        refine SJ.buildSlice (R := fStr) (os := [.const (str [122, 122]), .const (str [122, 122, 122]), .const (str [97, 98, 99, 100, 101, 102, 103, 104, 105, 106, 107, 108, 109, 110, 111, 112, 113, 114, 115, 116, 117, 118, 119, 120, 121, 122, 97, 98, 99, 100]), .const (str [97, 98, 99, 100, 101, 102, 103, 104, 105, 106, 107, 108, 109, 110, 111, 112, 113, 114, 115, 116, 117, 118, 119, 120, 121, 122, 97, 98, 99, 100, 101])]) ([[122, 122], [122, 122, 122], [97, 98, 99, 100, 101, 102, 103, 104, 105, 106, 107, 108, 109, 110, 111, 112, 113, 114, 115, 116, 117, 118, 119, 120, 121, 122, 97, 98, 99, 100], [97, 98, 99, 100, 101, 102, 103, 104, 105, 106, 107, 108, 109, 110, 111, 112, 113, 114, 115, 116, 117, 118, 119, 120, 121, 122, 97, 98, 99, 100, 101]] : List Str) Try.runUnderlying43 Try.sizeOf9 Try.zeroValue9 rfl rfl rfl rfl rfl rfl fun v25 => ?_
        obtain ⟨r26, h27, hm⟩ := bindS hm
        refine SJ.call2 (k := 1) rfl Try.call100 rfl (fun w S hw hA hO hB => ok_s_l00Src_text h27 w S _ (hr4.st1 hw hO) _ (hB.row_rd (j := 0) (k := 1) rfl rfl) hA) rfl ?_
        rintro _ _ ⟨rfl, rfl⟩
        refine SJ.q (YldS.yld (y_build (parts := [(0, .const (str [122, 122])), (1, .tmp 24)]) (places := [(0, 1), (1, 1)]) (r := [str ((Abbr.mk [122, 122] r26.1).short), str ((Abbr.mk [122, 122] r26.1).long)]) pl64 Try.zeroValue64 rfl rfl rfl rfl)) rfl ?_
        refine SJ.buildSlice (R := fAbbr) (os := [.tmp 25]) [(Abbr.mk [122, 122] r26.1)] Try.runUnderlying56 Try.sizeOf64 Try.zeroValue64 rfl rfl rfl rfl rfl rfl fun v28 => ?_
        obtain ⟨l29, h30, hm⟩ := bindS hm
        refine SJ.append (k := 3) (R := fAbbr) h30 rfl Try.underlying56 el64 rfl rfl rfl (fun w hw => (hw.row_rd (k := 0) rfl)) rfl fun v31 => ?_
        refine SJ.q (YldS.yld (y_assign rfl)) rfl ?_
        refine SJ.nil ?_
        refine PJ.block_normal ?_
        exact PJ.joined (r26.2.at_, r26.2.seed, l29, v31) [1, 3] hm ⟨rfl, trivial⟩ ⟨by decide, rfl⟩
      · replace hm := ifF hm hb24
        refine WJ.seq ?_
        refine WJ.quiet ?_
        refine QJ.step (YldS.yld (y_bin rfl rfl rfl)) rfl ?_
        refine QJ.step (YldS.yld (y_assign rfl)) rfl ?_
        refine QJ.done ?_
        refine PJ.next ?_
        refine WJ.cond (t := (r14.1 == 2)) rfl (fun hb32 => ?_) (fun hb32 => ?_)
        · replace hm := ifT hm hb32
          refine WJ.seq ?_
          refine WJ.reg ?_
          refine SJ.buildSlice (R := fAbbr) (os := []) [] Try.runUnderlying56 Try.sizeOf64 Try.zeroValue64 rfl rfl rfl rfl rfl rfl fun v33 => ?_
          refine SJ.q (YldS.yld (y_assign rfl)) rfl ?_
          refine SJ.nil ?_
          refine PJ.next ?_
          refine WJ.seq ?_
          refine WJ.reg ?_
          refine SJ.q (YldS.yld (y_move rfl)) rfl ?_
          obtain ⟨r34, h35, hm⟩ := bindS hm
          refine SJ.call1 (k := 1) rfl Try.call71 rfl (fun w S hw hA hO => ok_s_l00Src_pick h35 w S _ (hr4.st1 hw hO) hA) rfl ?_
          rintro _ _ ⟨rfl, rfl⟩
          refine SJ.q (YldS.yld (y_bin rfl rfl rfl)) rfl ?_
          refine SJ.q (YldS.yld (y_assign rfl)) rfl ?_
          refine SJ.nil ?_
          refine PJ.next ?_
          refine WJ.block ?_
          refine WJ.sel (L' := (fun (x : (List Abbr) × Value × Int) => [box g2 134 [v3, .int .i64 r34.2.at_, .int .u64 r34.2.seed], row x.2.1 64 fAbbr x.1]) ([], v33, w64 (30 + r34.1))) [0, 1] ⟨by decide, rfl⟩ ?_
          refine WJ.sub (m' := (fun (x : (List Abbr) × Value × Int) => [(3, x.2.1), (4, .int .i64 x.2.2)]) ([], v33, w64 (30 + r34.1))) ⟨rfl, rfl, trivial⟩ ?_
          refine WJ.loop (X := (List Abbr) × Value × Int) (fun N (x : (List Abbr) × Value × Int) => s_l16Bent_l1 kj12 r34 N x.1 x.2.2 = some r) (fun (x : (List Abbr) × Value × Int) => [(3, x.2.1), (4, .int .i64 x.2.2)]) (fun (x : (List Abbr) × Value × Int) => [box g2 134 [v3, .int .i64 r34.2.at_, .int .u64 r34.2.seed], row x.2.1 64 fAbbr x.1]) ?_ N ([], v33, w64 (30 + r34.1)) hm
          · rintro N ⟨l36, v37, k38⟩ hI
            have hm := hI; clear hI
            cases N with
            | zero => cases hm
            | succ N =>
            unfold s_l16Bent_l1 at hm
            refine WJ.seq ?_
            refine WJ.seq ?_
            refine WJ.quiet ?_
            refine QJ.step (YldS.yld (y_move rfl)) rfl ?_
            refine QJ.step (YldS.yld (y_bin rfl rfl rfl)) rfl ?_
            refine QJ.done ?_
            refine PJ.next ?_
            refine WJ.cond (t := decide (k38 > 0)) rfl (fun hb39 => ?_) (fun hb39 => ?_)
            · replace hm := ifT hm hb39
              refine WJ.skip ?_
              refine PJ.next ?_
              refine WJ.seq ?_
              refine WJ.block ?_
              refine WJ.seq ?_
              refine WJ.quiet ?_
              refine QJ.step (YldS.yld (y_move rfl)) rfl ?_
              refine QJ.step (YldS.yld (y_lenRow (k := 1) rfl Try.runUnderlying56 rfl)) rfl ?_
              refine QJ.step (YldS.yld (y_convTo8 Try.runUnderlying3 Try.runUnderlying5 rfl)) rfl ?_
              refine QJ.step (YldS.yld (y_assign rfl)) rfl ?_
              refine QJ.done ?_
              refine PJ.next ?_
              refine WJ.reg ?_
              refine SJ.q (YldS.yld (y_move rfl)) rfl ?_
              refine SJ.q (YldS.yld (y_move rfl)) rfl ?_
              refine SJ.q (YldS.yld (y_quo8 (a := (UInt8.ofInt (List.length l36 : Int))) rfl rfl (by decide))) rfl ?_
              refine SJ.q (YldS.yld (y_bin8 (97 : UInt8) (UInt8.ofInt (Int.tdiv (UInt8.toNat (UInt8.ofInt (List.length l36 : Int)) : Int) 26)) rfl rfl rfl)) rfl ?_
              refine SJ.q (YldS.yld (y_move rfl)) rfl ?_
              refine SJ.q (YldS.yld (y_rem8 (a := (UInt8.ofInt (List.length l36 : Int))) rfl rfl (by decide))) rfl ?_
              refine SJ.q (YldS.yld (y_bin8 (97 : UInt8) (UInt8.ofInt (Int.tmod (UInt8.toNat (UInt8.ofInt (List.length l36 : Int)) : Int) 26)) rfl rfl rfl)) rfl ?_
              refine SJ.buildSlice (R := fByte) (os := [.tmp 44, .tmp 47]) [(97 : UInt8) + (UInt8.ofInt (Int.tdiv (UInt8.toNat (UInt8.ofInt (List.length l36 : Int)) : Int) 26)), (97 : UInt8) + (UInt8.ofInt (Int.tmod (UInt8.toNat (UInt8.ofInt (List.length l36 : Int)) : Int) 26))] Try.runUnderlying22 Try.sizeOf5 Try.zeroValue5 rfl rfl rfl rfl rfl rfl fun v40 => ?_
              refine SJ.q (YldS.yld (y_b2s Try.underlying22 Try.underlying9 Try.underlying5 (fun w hw => ⟨_, (hw.row_rd (k := 0) rfl)⟩) rfl)) rfl ?_
              refine SJ.q (YldS.yld (y_build (parts := [(0, .tmp 49), (1, .const (str [119, 111, 114, 100]))]) (places := [(0, 1), (1, 1)]) (r := [str ((Abbr.mk [(97 : UInt8) + (UInt8.ofInt (Int.tdiv (UInt8.toNat (UInt8.ofInt (List.length l36 : Int)) : Int) 26)), (97 : UInt8) + (UInt8.ofInt (Int.tmod (UInt8.toNat (UInt8.ofInt (List.length l36 : Int)) : Int) 26))] [119, 111, 114, 100]).short), str ((Abbr.mk [(97 : UInt8) + (UInt8.ofInt (Int.tdiv (UInt8.toNat (UInt8.ofInt (List.length l36 : Int)) : Int) 26)), (97 : UInt8) + (UInt8.ofInt (Int.tmod (UInt8.toNat (UInt8.ofInt (List.length l36 : Int)) : Int) 26))] [119, 111, 114, 100]).long)]) pl64 Try.zeroValue64 rfl rfl rfl rfl)) rfl ?_
              refine SJ.buildSlice (R := fAbbr) (os := [.tmp 50]) [(Abbr.mk [(97 : UInt8) + (UInt8.ofInt (Int.tdiv (UInt8.toNat (UInt8.ofInt (List.length l36 : Int)) : Int) 26)), (97 : UInt8) + (UInt8.ofInt (Int.tmod (UInt8.toNat (UInt8.ofInt (List.length l36 : Int)) : Int) 26))] [119, 111, 114, 100])] Try.runUnderlying56 Try.sizeOf64 Try.zeroValue64 rfl rfl rfl rfl rfl rfl fun v41 => ?_
              obtain ⟨l42, h43, hm⟩ := bindS hm
              refine SJ.append (k := 3) (R := fAbbr) h43 rfl Try.underlying56 el64 rfl rfl rfl (fun w hw => (hw.row_rd (k := 0) rfl)) rfl fun v44 => ?_
              refine SJ.q (YldS.yld (y_assign rfl)) rfl ?_
              refine SJ.nil ?_
              refine PJ.block_normal (PJ.next ?_)
              refine WJ.quiet ?_
              refine QJ.step (YldS.yld (y_move rfl)) rfl ?_
              refine QJ.step (YldS.yld (y_bin rfl rfl rfl)) rfl ?_
              refine QJ.step (YldS.yld (y_assign rfl)) rfl ?_
              refine QJ.done ?_
              exact PJ.round (l42, v44, w64 (k38 - 1)) [2, 3] hm ⟨rfl, rfl, trivial⟩ ⟨by decide, rfl⟩
            · replace hm := ifF hm hb39
              refine WJ.exit ?_
              refine PJ.then_exit (PJ.then_exit (PJ.block_exit (PJ.block_normal ?_)))
              exact PJ.joined (r34.2.at_, r34.2.seed, l36, v37) [0, 1] hm ⟨rfl, trivial⟩ ⟨by decide, rfl⟩
        · replace hm := ifF hm hb32
          refine WJ.skip ?_
          refine PJ.block_normal ?_
          exact PJ.joined (r14.2.at_, r14.2.seed, r5.1, v7) [0, 1] hm ⟨rfl, trivial⟩ ⟨by decide, rfl⟩
  · rintro ⟨x8, x9, l10, v11⟩ hm
    subst hk13
    refine WJ.seq ?_
    refine WJ.quiet ?_
    refine QJ.step (YldS.yld (y_move rfl)) rfl ?_
    refine QJ.step (YldS.yld (y_assign rfl)) rfl ?_
    refine QJ.done ?_
    refine PJ.next ?_
    refine WJ.ret ?_
    obtain rfl := Option.some.inj hm
    refine PJ.sel (L' := [box g2 134 [v3, .int .i64 x8, .int .u64 x9], row v11 64 fAbbr l10]) [0, 1] ⟨by decide, rfl⟩ ?_
    exact PJ.retn (vs := [v11]) Try.results93 ⟨rfl, trivial⟩ ⟨_, rfl, rfl⟩

set_option maxRecDepth 100000 in
set_option maxHeartbeats 1000000 in
theorem ok_s_l00Src_one {s1 : L00Src} {n5 : Int} {g2 : Nat} {r : Bool × L00Src} (hm : s_l00Src_one s1 n5 = some r) (w : World) (S : Nat → Prop) (v3 : Value) (hr4 : RdS w (Cx.Fz ⟨w, S⟩) v3 fByte.rp s1.code) (hA : (box g2 134 [v3, .int .i64 s1.at_, .int .u64 s1.seed]).holds w S) :
    Calls Try.prog 70 #[pt g2 0, .int .i64 n5] w (RetG ⟨w, S⟩ fun u L => (u = .bool r.1 ∧ L = [box g2 134 [v3, .int .i64 r.2.at_, .int .u64 r.2.seed]])) := by
  unfold s_l00Src_one at hm
  refine Calls.enter1 hA [pt g2 0, .int .i64 n5] Try.func70 rfl Try.ntmps70 rfl ?_
  refine WJ.seq ?_
  refine WJ.quiet ?_
  refine QJ.step (YldS.yld (y_assign rfl)) rfl ?_
  refine QJ.done ?_
  refine PJ.next ?_
  refine WJ.seq ?_
  refine WJ.reg ?_
  refine SJ.q (YldS.yld (y_move rfl)) rfl ?_
  refine SJ.q (YldS.yld (y_move rfl)) rfl ?_
  obtain ⟨r6, h7, hm⟩ := bindS hm
  refine SJ.call1 (k := 0) rfl Try.call71 rfl (fun w S hw hA hO => ok_s_l00Src_pick h7 w S _ (hr4.st1 hw hO) hA) rfl ?_
  rintro _ _ ⟨rfl, rfl⟩
  refine SJ.q (YldS.yld (y_bin rfl rfl rfl)) rfl ?_
  refine SJ.q (YldS.yld (y_assign rfl)) rfl ?_
  refine SJ.nil ?_
  refine PJ.next ?_
  refine WJ.ret ?_
  obtain rfl := Option.some.inj hm
  refine PJ.sel (L' := [box g2 134 [v3, .int .i64 r6.2.at_, .int .u64 r6.2.seed]]) [0] ⟨by decide, rfl⟩ ?_
  exact PJ.retn (vs := [.bool (r6.1 == 0)]) Try.results70 ⟨rfl, trivial⟩ ⟨rfl, rfl⟩

set_option maxRecDepth 100000 in
set_option maxHeartbeats 1000000 in
theorem ok_s_l16Join {N : Nat} {words1 : List Str} {r : Str} (hm : s_l16Join N words1 = some r) (w : World) (v2 : Value) (hr3 : RdS w (cx w).Fz v2 fStr.rp words1) :
    Calls Try.prog 88 #[v2] w (Ret (cx w) (str r)) := by
  unfold s_l16Join at hm
  refine Calls.enter [v2] Try.func88 rfl Try.ntmps88 rfl ?_
  refine WJ.seq ?_
  refine WJ.quiet ?_
  refine QJ.step (YldS.yld (y_assign rfl)) rfl ?_
  refine QJ.done ?_
  refine PJ.next ?_
  refine WJ.seq ?_
  refine WJ.quiet ?_
  refine QJ.step (YldS.yld (y_assign rfl)) rfl ?_
  refine QJ.done ?_
  refine PJ.next ?_
  obtain ⟨kj5, hk6, hm⟩ := withK_open hm
  refine WJ.join (X := Str) (fun (x : Str) => kj5 x = some r) (fun (x : Str) => [(3, str x)]) (fun (x : Str) => []) ?_ ?_
  · clear hk6
    refine WJ.seq ?_
    refine WJ.quiet ?_
    refine QJ.step (YldS.yld (y_assign rfl)) rfl ?_
    refine QJ.done ?_
    refine PJ.next ?_
    refine WJ.block ?_
    refine WJ.sel (L' := (fun (x : Str × Int) => []) ([], 0)) [] ⟨List.nodup_nil, rfl⟩ ?_
    refine WJ.sub (m' := (fun (x : Str × Int) => [(0, v2), (3, str x.1), (4, .int .i64 x.2)]) ([], 0)) ⟨rfl, rfl, rfl, trivial⟩ ?_
    refine WJ.loop (X := Str × Int) (fun N (x : Str × Int) => s_l16Join_l1 kj5 words1 N x.1 x.2 = some r) (fun (x : Str × Int) => [(0, v2), (3, str x.1), (4, .int .i64 x.2)]) (fun (x : Str × Int) => []) ?_ N ([], 0) hm
    · rintro N ⟨out7, i8⟩ hI
      have hm := hI; clear hI
      cases N with
      | zero => cases hm
      | succ N =>
      unfold s_l16Join_l1 at hm
      refine WJ.seq ?_
      refine WJ.seq ?_
      refine WJ.quiet ?_
      refine QJ.step (YldS.yld (y_move rfl)) rfl ?_
      refine QJ.step (YldS.yld (y_move rfl)) rfl ?_
      refine QJ.step (YldS.yld (y_lenS Try.runUnderlying43 hr3 rfl)) rfl ?_
      refine QJ.step (YldS.yld (y_bin rfl rfl rfl)) rfl ?_
      refine QJ.done ?_
      refine PJ.next ?_
      refine WJ.cond (t := decide (i8 < (List.length words1 : Int))) rfl (fun hb9 => ?_) (fun hb9 => ?_)
      · replace hm := ifT hm hb9
        refine WJ.skip ?_
        refine PJ.next ?_
        refine WJ.seq ?_
        refine WJ.block ?_
        obtain ⟨kj11, hk12, hm⟩ := withK_open hm
        refine WJ.join (X := Str) (fun (x : Str) => kj11 x = some r) (fun (x : Str) => [(0, v2), (3, str x), (4, .int .i64 i8)]) (fun (x : Str) => []) ?_ ?_
        · clear hk12
          refine WJ.seq ?_
          refine WJ.quiet ?_
          refine QJ.step (YldS.yld (y_move rfl)) rfl ?_
          refine QJ.step (YldS.yld (y_bin rfl rfl rfl)) rfl ?_
          refine QJ.done ?_
          refine PJ.next ?_
          refine WJ.cond (t := decide (i8 > 0)) rfl (fun hb13 => ?_) (fun hb13 => ?_)
          · replace hm := ifT hm hb13
            refine WJ.quiet ?_
            refine QJ.step (YldS.yld (y_move rfl)) rfl ?_
            obtain ⟨s14, h15, hm⟩ := bindS hm
            refine QJ.step (YldS.yld (y_cat h15 rfl rfl)) rfl ?_
            refine QJ.step (YldS.yld (y_assign rfl)) rfl ?_
            refine QJ.done ?_
            exact PJ.joined s14 [] hm ⟨rfl, rfl, rfl, trivial⟩ ⟨List.nodup_nil, rfl⟩
          · replace hm := ifF hm hb13
            refine WJ.skip ?_
            exact PJ.joined out7 [] hm ⟨rfl, rfl, rfl, trivial⟩ ⟨List.nodup_nil, rfl⟩
        · rintro out10 hm
          subst hk12
          refine WJ.quiet ?_
          refine QJ.step (YldS.yld (y_move rfl)) rfl ?_
          refine QJ.step (YldS.yld (y_move rfl)) rfl ?_
          refine QJ.step (YldS.yld (y_move rfl)) rfl ?_
          obtain ⟨e16, h17, hm⟩ := bindS hm
          obtain ⟨ad18, _, rfl, ha19, hy20⟩ := hr3.elem h17
          refine QJ.step (YldS.yld (hy20 Try.runUnderlying43 Try.sizeOf9 rfl rfl)) rfl ?_
          refine QJ.step (YldS.yld (y_load1 (v := str e16) Try.isAgg9 ha19 St.frozenC rfl)) rfl ?_
          obtain ⟨s21, h22, hm⟩ := bindS hm
          refine QJ.step (YldS.yld (y_cat h22 rfl rfl)) rfl ?_
          refine QJ.step (YldS.yld (y_assign rfl)) rfl ?_
          refine QJ.done ?_
          refine PJ.block_normal (PJ.next ?_)
          refine WJ.quiet ?_
          refine QJ.step (YldS.yld (y_move rfl)) rfl ?_
          refine QJ.step (YldS.yld (y_bin rfl rfl rfl)) rfl ?_
          refine QJ.step (YldS.yld (y_assign rfl)) rfl ?_
          refine QJ.done ?_
          exact PJ.round (s21, w64 (i8 + 1)) [] hm ⟨rfl, rfl, rfl, trivial⟩ ⟨List.nodup_nil, rfl⟩
      · replace hm := ifF hm hb9
        refine WJ.exit ?_
        refine PJ.then_exit (PJ.then_exit (PJ.block_exit ?_))
        exact PJ.joined out7 [] hm ⟨rfl, trivial⟩ ⟨List.nodup_nil, rfl⟩
  · rintro out4 hm
    subst hk6
    refine WJ.seq ?_
    refine WJ.quiet ?_
    refine QJ.step (YldS.yld (y_move rfl)) rfl ?_
    refine QJ.step (YldS.yld (y_assign rfl)) rfl ?_
    refine QJ.done ?_
    refine PJ.next ?_
    refine WJ.ret ?_
    obtain rfl := Option.some.inj hm
    refine PJ.sel (L' := []) [] ⟨List.nodup_nil, rfl⟩ ?_
    exact PJ.retn (vs := [str out4]) Try.results88 ⟨rfl, trivial⟩ ⟨rfl, rfl⟩

set_option maxRecDepth 100000 in
set_option maxHeartbeats 1000000 in
theorem ok_s_l16DrawText {N : Nat} {s1 : L00Src} {list5 : List Abbr} {g2 : Nat} {r : Str × L00Src} (hm : s_l16DrawText N s1 list5 = some r) (w : World) (S : Nat → Prop) (v3 : Value) (hr4 : RdS w (Cx.Fz ⟨w, S⟩) v3 fByte.rp s1.code) (v6 : Value) (hr7 : RdS w (Cx.Fz ⟨w, S⟩) v6 fAbbr.rp list5) (hA : (box g2 134 [v3, .int .i64 s1.at_, .int .u64 s1.seed]).holds w S) :
    Calls Try.prog 120 #[pt g2 0, v6] w (RetG ⟨w, S⟩ fun u L => (u = str r.1 ∧ L = [box g2 134 [v3, .int .i64 r.2.at_, .int .u64 r.2.seed]])) := by
  unfold s_l16DrawText at hm
  refine Calls.enter1 hA [pt g2 0, v6] Try.func120 rfl Try.ntmps120 rfl ?_
  refine WJ.seq ?_
  refine WJ.quiet ?_
  refine QJ.step (YldS.yld (y_assign rfl)) rfl ?_
  refine QJ.done ?_
  refine PJ.next ?_
  refine WJ.seq ?_
  refine WJ.reg ?_
  refine SJ.buildSlice (R := fStr) (os := []) [] Try.runUnderlying43 Try.sizeOf9 Try.zeroValue9 rfl rfl rfl rfl rfl rfl fun v8 => ?_
  refine SJ.q (YldS.yld (y_assign rfl)) rfl ?_
  refine SJ.nil ?_
  refine PJ.next ?_
  obtain ⟨kj13, hk14, hm⟩ := withK_open hm
  refine WJ.join (X := Int × Int × (List Str) × Value) (fun (x : Int × Int × (List Str) × Value) => kj13 x.1 x.2.1 x.2.2.1 = some r) (fun (x : Int × Int × (List Str) × Value) => [(0, pt g2 0), (5, x.2.2.2)]) (fun (x : Int × Int × (List Str) × Value) => [box g2 134 [v3, .int .i64 x.1, .int .u64 x.2.1], row x.2.2.2 9 fStr x.2.2.1]) ?_ ?_
  · clear hk14
    refine WJ.seq ?_
    refine WJ.reg ?_
    refine SJ.q (YldS.yld (y_move rfl)) rfl ?_
    obtain ⟨r15, h16, hm⟩ := bindS hm
    refine SJ.call1 (k := 1) rfl Try.call71 rfl (fun w S hw hA hO => ok_s_l00Src_pick h16 w S _ (hr4.st1 hw hO) hA) rfl ?_
    rintro _ _ ⟨rfl, rfl⟩
    refine SJ.q (YldS.yld (y_assign rfl)) rfl ?_
    refine SJ.nil ?_
    refine PJ.next ?_
    refine WJ.block ?_
    refine WJ.sel (L' := (fun (x : Int × Int × (List Str) × Value × Int) => [box g2 134 [v3, .int .i64 x.1, .int .u64 x.2.1], row x.2.2.2.1 9 fStr x.2.2.1]) (r15.2.at_, r15.2.seed, [], v8, r15.1)) [0, 1] ⟨by decide, rfl⟩ ?_
    refine WJ.sub (m' := (fun (x : Int × Int × (List Str) × Value × Int) => [(0, pt g2 0), (1, v6), (5, x.2.2.2.1), (6, .int .i64 x.2.2.2.2)]) (r15.2.at_, r15.2.seed, [], v8, r15.1)) ⟨rfl, rfl, rfl, rfl, trivial⟩ ?_
    refine WJ.loop (X := Int × Int × (List Str) × Value × Int) (fun N (x : Int × Int × (List Str) × Value × Int) => s_l16DrawText_l1 kj13 s1 list5 N x.1 x.2.1 x.2.2.1 x.2.2.2.2 = some r) (fun (x : Int × Int × (List Str) × Value × Int) => [(0, pt g2 0), (1, v6), (5, x.2.2.2.1), (6, .int .i64 x.2.2.2.2)]) (fun (x : Int × Int × (List Str) × Value × Int) => [box g2 134 [v3, .int .i64 x.1, .int .u64 x.2.1], row x.2.2.2.1 9 fStr x.2.2.1]) ?_ N (r15.2.at_, r15.2.seed, [], v8, r15.1) hm
    · rintro N ⟨x17, x18, l19, v20, k21⟩ hI
      have hm := hI; clear hI
      cases N with
      | zero => cases hm
      | succ N =>
      unfold s_l16DrawText_l1 at hm
      refine WJ.seq ?_
      refine WJ.seq ?_
      refine WJ.quiet ?_
      refine QJ.step (YldS.yld (y_move rfl)) rfl ?_
      refine QJ.step (YldS.yld (y_bin rfl rfl rfl)) rfl ?_
      refine QJ.done ?_
      refine PJ.next ?_
      refine WJ.cond (t := decide (k21 > 0)) rfl (fun hb22 => ?_) (fun hb22 => ?_)
      · replace hm := ifT hm hb22
        refine WJ.skip ?_
        refine PJ.next ?_
        refine WJ.seq ?_
        refine WJ.block ?_
        refine WJ.seq ?_
        refine WJ.reg ?_
        refine SJ.q (YldS.yld (y_move rfl)) rfl ?_
        refine SJ.buildSlice (R := fStr) (os := [.const (str [97, 99, 99, 111, 117, 110, 116]), .const (str [108, 101, 116, 116, 101, 114]), .const (str [116, 121, 112, 101, 119, 114, 105, 116, 101, 114]), .const (str [119, 111, 114, 100]), .const (str [99, 111, 109, 112, 97, 110, 121]), .const (str [108, 101, 116]), .const (str [116, 104, 101]), .const (str [97])]) ([[97, 99, 99, 111, 117, 110, 116], [108, 101, 116, 116, 101, 114], [116, 121, 112, 101, 119, 114, 105, 116, 101, 114], [119, 111, 114, 100], [99, 111, 109, 112, 97, 110, 121], [108, 101, 116], [116, 104, 101], [97]] : List Str) Try.runUnderlying43 Try.sizeOf9 Try.zeroValue9 rfl rfl rfl rfl rfl rfl fun v23 => ?_
        obtain ⟨r24, h25, hm⟩ := bindS hm
        refine SJ.call2 (k := 1) rfl Try.call100 rfl (fun w S hw hA hO hB => ok_s_l00Src_text h25 w S _ (hr4.st1 hw hO) _ (hB.row_rd (j := 0) (k := 1) rfl rfl) hA) rfl ?_
        rintro _ _ ⟨rfl, rfl⟩
        refine SJ.q (YldS.yld (y_assign rfl)) rfl ?_
        refine SJ.nil ?_
        refine PJ.next ?_
        obtain ⟨kj29, hk30, hm⟩ := withK_open hm
        refine WJ.join (X := Int × Int × Str) (fun (x : Int × Int × Str) => kj29 x.1 x.2.1 x.2.2 = some r) (fun (x : Int × Int × Str) => [(0, pt g2 0), (1, v6), (5, v20), (6, .int .i64 k21), (7, str x.2.2)]) (fun (x : Int × Int × Str) => [box g2 134 [v3, .int .i64 x.1, .int .u64 x.2.1], row v20 9 fStr l19]) ?_ ?_
        · clear hk30
          refine WJ.seq ?_
          refine WJ.reg ?_
          refine SJ.q (YldS.yld (y_move rfl)) rfl ?_
          refine SJ.q (YldS.yld (y_lenS Try.runUnderlying56 hr7 rfl)) rfl ?_
          refine SJ.q (YldS.yld (y_bin rfl rfl rfl)) rfl ?_
          refine SJ.q (YldS.yld (y_move rfl)) rfl ?_
          obtain ⟨x33, h32, hm⟩ := bindS hm
          refine SJ.cut 3 [(0, pt g2 0), (1, v6), (5, v20), (6, .int .i64 k21), (7, str r24.1), (26, .bool x33.1)] [box g2 134 [v3, .int .i64 x33.2.at_, .int .u64 x33.2.seed], row v23 9 fStr ([[97, 99, 99, 111, 117, 110, 116], [108, 101, 116, 116, 101, 114], [116, 121, 112, 101, 119, 114, 105, 116, 101, 114], [119, 111, 114, 100], [99, 111, 109, 112, 97, 110, 121], [108, 101, 116], [116, 104, 101], [97]] : List Str), row v20 9 fStr l19] ?_ ?_
          · rcases Bool.eq_false_or_eq_true (decide ((List.length list5 : Int) > 0)) with hb34 | hb34
            · replace h32 := ifT h32 hb34
              refine SJ.on rfl rfl (cB hb34) (SJ.q (YldS.yld (y_move rfl)) rfl ?_)
              obtain ⟨r35, h36, h32⟩ := bindS h32
              refine SJ.on rfl rfl (cB hb34) (SJ.call1 (k := 0) rfl Try.call70 rfl (fun w S hw hA hO => ok_s_l00Src_one h36 w S _ (hr4.st1 hw hO) hA) rfl ?_)
              rintro _ _ ⟨rfl, rfl⟩
              refine SJ.q (YldS.yld (y_pick_t (cB hb34) rfl)) rfl ?_
              obtain rfl := Option.some.inj h32
              exact SJ.cut_end [0, 1, 2] ⟨rfl, rfl, rfl, rfl, rfl, rfl, trivial⟩ ⟨by decide, rfl⟩
            · replace h32 := ifF h32 hb34
              obtain rfl := Option.some.inj h32
              refine SJ.off rfl rfl (cB hb34) rfl rfl ?_
              refine SJ.off rfl rfl (cB hb34) rfl rfl ?_
              refine SJ.q (YldS.yld (y_pick_f (cB hb34) rfl)) rfl ?_
              exact SJ.cut_end [0, 1, 2] ⟨rfl, rfl, rfl, rfl, rfl, rfl, trivial⟩ ⟨by decide, rfl⟩
          refine SJ.nil ?_
          refine PJ.next ?_
          refine WJ.cond (t := x33.1) rfl (fun hb37 => ?_) (fun hb37 => ?_)
          · replace hm := ifT hm hb37
            refine WJ.reg ?_
            refine SJ.q (YldS.yld (y_move rfl)) rfl ?_
            refine SJ.q (YldS.yld (y_move rfl)) rfl ?_
            refine SJ.q (YldS.yld (y_move rfl)) rfl ?_
            refine SJ.q (YldS.yld (y_lenS Try.runUnderlying56 hr7 rfl)) rfl ?_
            obtain ⟨r38, h39, hm⟩ := bindS hm
            refine SJ.call1 (k := 0) rfl Try.call71 rfl (fun w S hw hA hO => ok_s_l00Src_pick h39 w S _ (hr4.st1 hw hO) hA) rfl ?_
            rintro _ _ ⟨rfl, rfl⟩
            obtain ⟨e40, h41, hm⟩ := bindS hm
            obtain ⟨ad42, _, rfl, ha43, hy44⟩ := hr7.elem h41
            refine SJ.q (YldS.yld (hy44 Try.runUnderlying56 Try.sizeOf64 rfl rfl)) rfl ?_
            refine SJ.q (YldS.yld (y_fld (ad := ad42) fld64_0 rfl)) rfl ?_
            refine SJ.q (YldS.yld (y_load1 (v := str e40.short) Try.isAgg9 (ha43.sub 0 1) St.frozenC rfl)) rfl ?_
            refine SJ.q (YldS.yld (y_assign rfl)) rfl ?_
            refine SJ.nil ?_
            exact PJ.joined (r38.2.at_, r38.2.seed, e40.short) [0, 2] hm ⟨rfl, rfl, rfl, rfl, rfl, trivial⟩ ⟨by decide, rfl⟩
          · replace hm := ifF hm hb37
            refine WJ.skip ?_
            exact PJ.joined (x33.2.at_, x33.2.seed, r24.1) [0, 2] hm ⟨rfl, rfl, rfl, rfl, rfl, trivial⟩ ⟨by decide, rfl⟩
        · rintro ⟨x26, x27, w28⟩ hm
          subst hk30
          refine WJ.reg ?_
          refine SJ.q (YldS.yld (y_move rfl)) rfl ?_
          refine SJ.q (YldS.yld (y_move rfl)) rfl ?_
          refine SJ.buildSlice (R := fStr) (os := [.tmp 36]) [w28] Try.runUnderlying43 Try.sizeOf9 Try.zeroValue9 rfl rfl rfl rfl rfl rfl fun v45 => ?_
          obtain ⟨l46, h47, hm⟩ := bindS hm
          refine SJ.append (k := 2) (R := fStr) h47 rfl Try.underlying43 el9 rfl rfl rfl (fun w hw => (hw.row_rd (k := 0) rfl)) rfl fun v48 => ?_
          refine SJ.q (YldS.yld (y_assign rfl)) rfl ?_
          refine SJ.nil ?_
          refine PJ.block_normal (PJ.next ?_)
          refine WJ.quiet ?_
          refine QJ.step (YldS.yld (y_move rfl)) rfl ?_
          refine QJ.step (YldS.yld (y_bin rfl rfl rfl)) rfl ?_
          refine QJ.step (YldS.yld (y_assign rfl)) rfl ?_
          refine QJ.done ?_
          exact PJ.round (x26, x27, l46, v48, w64 (k21 - 1)) [1, 2] hm ⟨rfl, rfl, rfl, rfl, trivial⟩ ⟨by decide, rfl⟩
      · replace hm := ifF hm hb22
        refine WJ.exit ?_
        refine PJ.then_exit (PJ.then_exit (PJ.block_exit ?_))
        exact PJ.joined (x17, x18, l19, v20) [0, 1] hm ⟨rfl, rfl, trivial⟩ ⟨by decide, rfl⟩
  · rintro ⟨x9, x10, l11, v12⟩ hm
    subst hk14
    refine WJ.seq ?_
    refine WJ.quiet ?_
    refine QJ.step (YldS.yld (y_move rfl)) rfl ?_
    obtain ⟨r49, h50, hm⟩ := bindS hm
    refine QJ.step (y_call Try.call88 rfl (RetG.quiet fun w hw => ok_s_l16Join h50 w _ (hw.row_rd (k := 1) rfl))) rfl ?_
    refine QJ.step (YldS.yld (y_assign rfl)) rfl ?_
    refine QJ.done ?_
    refine PJ.next ?_
    obtain ⟨kj54, hk55, hm⟩ := withK_open hm
    refine WJ.join (X := Int × Int × Str) (fun (x : Int × Int × Str) => kj54 x.1 x.2.1 x.2.2 = some r) (fun (x : Int × Int × Str) => [(8, str x.2.2)]) (fun (x : Int × Int × Str) => [box g2 134 [v3, .int .i64 x.1, .int .u64 x.2.1]]) ?_ ?_
    · clear hk55
      refine WJ.seq ?_
      refine WJ.reg ?_
      refine SJ.q (YldS.yld (y_move rfl)) rfl ?_
      obtain ⟨r56, h57, hm⟩ := bindS hm
      refine SJ.call1 (k := 0) rfl Try.call71 rfl (fun w S hw hA hO => ok_s_l00Src_pick h57 w S _ (hr4.st1 hw hO) hA) rfl ?_
      rintro _ _ ⟨rfl, rfl⟩
      refine SJ.nil ?_
      refine PJ.next ?_
      refine WJ.block ?_
      refine WJ.seq ?_
      refine WJ.quiet ?_
      refine QJ.step (YldS.yld (y_bin rfl rfl rfl)) rfl ?_
      refine QJ.step (YldS.yld (y_assign rfl)) rfl ?_
      refine QJ.done ?_
      refine PJ.next ?_
      refine WJ.cond (t := (r56.1 == 0)) rfl (fun hb58 => ?_) (fun hb58 => ?_)
      · replace hm := ifT hm hb58
        refine WJ.reg ?_
        refine SJ.q (YldS.yld (y_move rfl)) rfl ?_
        refine SJ.q (YldS.yld (y_move rfl)) rfl ?_
        refine SJ.buildSlice (R := fStr) (os := [.const (str [32]), .const (str [32, 32, 120]), .const (str [32, 88]), .const (str [32, 120, 49])]) ([[32], [32, 32, 120], [32, 88], [32, 120, 49]] : List Str) Try.runUnderlying43 Try.sizeOf9 Try.zeroValue9 rfl rfl rfl rfl rfl rfl fun v59 => ?_
        obtain ⟨r60, h61, hm⟩ := bindS hm
        refine SJ.call2 (k := 1) rfl Try.call100 rfl (fun w S hw hA hO hB => ok_s_l00Src_text h61 w S _ (hr4.st1 hw hO) _ (hB.row_rd (j := 0) (k := 1) rfl rfl) hA) rfl ?_
        rintro _ _ ⟨rfl, rfl⟩
        obtain ⟨s62, h63, hm⟩ := bindS hm
        refine SJ.q (YldS.yld (y_cat h63 rfl rfl)) rfl ?_
        refine SJ.q (YldS.yld (y_assign rfl)) rfl ?_
        refine SJ.nil ?_
        refine PJ.block_normal ?_
        exact PJ.joined (r60.2.at_, r60.2.seed, s62) [0] hm ⟨rfl, trivial⟩ ⟨by decide, rfl⟩
      · replace hm := ifF hm hb58
        refine WJ.seq ?_
        refine WJ.quiet ?_
        refine QJ.step (YldS.yld (y_bin rfl rfl rfl)) rfl ?_
        refine QJ.step (YldS.yld (y_assign rfl)) rfl ?_
        refine QJ.done ?_
        refine PJ.next ?_
        refine WJ.cond (t := (r56.1 == 1)) rfl (fun hb64 => ?_) (fun hb64 => ?_)
        · replace hm := ifT hm hb64
          refine WJ.seq ?_
          refine WJ.reg ?_
          refine SJ.buildSlice (R := fStr) (os := [.const (str [116, 121, 112, 101, 119, 114, 105, 116, 101, 114, 119, 111, 114, 100]), .const (str [97, 98, 99, 100, 101, 102, 103, 104, 105, 106, 107, 108, 109, 110, 111, 112, 113, 114, 115, 116, 117, 118, 119, 120, 121, 122, 97, 98, 99, 100])]) ([[116, 121, 112, 101, 119, 114, 105, 116, 101, 114, 119, 111, 114, 100], [97, 98, 99, 100, 101, 102, 103, 104, 105, 106, 107, 108, 109, 110, 111, 112, 113, 114, 115, 116, 117, 118, 119, 120, 121, 122, 97, 98, 99, 100]] : List Str) Try.runUnderlying43 Try.sizeOf9 Try.zeroValue9 rfl rfl rfl rfl rfl rfl fun v65 => ?_
          obtain ⟨r66, h67, hm⟩ := bindS hm
          refine SJ.q (y_call Try.call88 rfl (RetG.quiet fun w hw => ok_s_l16Join h67 w _ (hw.row_rd (k := 0) rfl))) rfl ?_
          refine SJ.q (YldS.yld (y_assign rfl)) rfl ?_
          refine SJ.nil ?_
          refine PJ.next ?_
          refine WJ.seq ?_
          refine WJ.reg ?_
          refine SJ.q (YldS.yld (y_move rfl)) rfl ?_
          obtain ⟨r68, h69, hm⟩ := bindS hm
          refine SJ.call1 (k := 1) rfl Try.call71 rfl (fun w S hw hA hO => ok_s_l00Src_pick h69 w S _ (hr4.st1 hw hO) hA) rfl ?_
          rintro _ _ ⟨rfl, rfl⟩
          refine SJ.q (YldS.yld (y_bin rfl rfl rfl)) rfl ?_
          refine SJ.q (YldS.yld (y_assign rfl)) rfl ?_
          refine SJ.nil ?_
          refine PJ.next ?_
          refine WJ.block ?_
          refine WJ.sel (L' := (fun (x : Str) => [box g2 134 [v3, .int .i64 r68.2.at_, .int .u64 r68.2.seed]]) r66) [0] ⟨by decide, rfl⟩ ?_
          refine WJ.sub (m' := (fun (x : Str) => [(8, str x), (9, .int .i64 (w64 (200 + r68.1)))]) r66) ⟨rfl, rfl, trivial⟩ ?_
          refine WJ.loop (X := Str) (fun N (x : Str) => s_l16DrawText_l2 kj54 r68 N x = some r) (fun (x : Str) => [(8, str x), (9, .int .i64 (w64 (200 + r68.1)))]) (fun (x : Str) => [box g2 134 [v3, .int .i64 r68.2.at_, .int .u64 r68.2.seed]]) ?_ N r66 hm
          · rintro N text70 hI
            have hm := hI; clear hI
            cases N with
            | zero => cases hm
            | succ N =>
            unfold s_l16DrawText_l2 at hm
            refine WJ.seq ?_
            refine WJ.seq ?_
            refine WJ.quiet ?_
            refine QJ.step (YldS.yld (y_move rfl)) rfl ?_
            refine QJ.step (YldS.yld (y_lenStr Try.runUnderlying9 rfl)) rfl ?_
            refine QJ.step (YldS.yld (y_move rfl)) rfl ?_
            refine QJ.step (YldS.yld (y_bin rfl rfl rfl)) rfl ?_
            refine QJ.done ?_
            refine PJ.next ?_
            refine WJ.cond (t := decide ((List.length text70 : Int) < (w64 (200 + r68.1)))) rfl (fun hb71 => ?_) (fun hb71 => ?_)
            · replace hm := ifT hm hb71
              refine WJ.skip ?_
              refine PJ.next ?_
              refine WJ.block ?_
              refine WJ.seq ?_
              refine WJ.quiet ?_
              refine QJ.step (YldS.yld (y_move rfl)) rfl ?_
              refine QJ.step (YldS.yld (y_lenStr Try.runUnderlying9 rfl)) rfl ?_
              refine QJ.step (YldS.yld (y_move rfl)) rfl ?_
              refine QJ.step (YldS.yld (y_bin rfl rfl rfl)) rfl ?_
              refine QJ.step (YldS.yld (y_bin rfl rfl rfl)) rfl ?_
              refine QJ.done ?_
              refine PJ.next ?_
              refine WJ.cond (t := ((List.length text70 : Int) == (w64 ((w64 (200 + r68.1)) - 1)))) rfl (fun hb72 => ?_) (fun hb72 => ?_)
              · replace hm := ifT hm hb72
                refine WJ.quiet ?_
                refine QJ.step (YldS.yld (y_move rfl)) rfl ?_
                obtain ⟨s73, h74, hm⟩ := bindS hm
                refine QJ.step (YldS.yld (y_cat h74 rfl rfl)) rfl ?_
                refine QJ.step (YldS.yld (y_assign rfl)) rfl ?_
                refine QJ.done ?_
                refine PJ.block_normal ?_
                exact PJ.round s73 [0] hm ⟨rfl, rfl, trivial⟩ ⟨by decide, rfl⟩
              · replace hm := ifF hm hb72
                refine WJ.quiet ?_
                refine QJ.step (YldS.yld (y_move rfl)) rfl ?_
                obtain ⟨s75, h76, hm⟩ := bindS hm
                refine QJ.step (YldS.yld (y_cat h76 rfl rfl)) rfl ?_
                refine QJ.step (YldS.yld (y_assign rfl)) rfl ?_
                refine QJ.done ?_
                refine PJ.block_normal ?_
                exact PJ.round s75 [0] hm ⟨rfl, rfl, trivial⟩ ⟨by decide, rfl⟩
            · replace hm := ifF hm hb71
              refine WJ.exit ?_
              refine PJ.then_exit (PJ.then_exit (PJ.block_exit (PJ.block_normal ?_)))
              exact PJ.joined (r68.2.at_, r68.2.seed, text70) [0] hm ⟨rfl, trivial⟩ ⟨by decide, rfl⟩
        · replace hm := ifF hm hb64
          refine WJ.skip ?_
          refine PJ.block_normal ?_
          exact PJ.joined (r56.2.at_, r56.2.seed, r49) [0] hm ⟨rfl, trivial⟩ ⟨by decide, rfl⟩
    · rintro ⟨x51, x52, text53⟩ hm
      subst hk55
      refine WJ.seq ?_
      refine WJ.quiet ?_
      refine QJ.step (YldS.yld (y_move rfl)) rfl ?_
      refine QJ.step (YldS.yld (y_assign rfl)) rfl ?_
      refine QJ.done ?_
      refine PJ.next ?_
      refine WJ.ret ?_
      obtain rfl := Option.some.inj hm
      refine PJ.sel (L' := [box g2 134 [v3, .int .i64 x51, .int .u64 x52]]) [0] ⟨by decide, rfl⟩ ?_
      exact PJ.retn (vs := [str text53]) Try.results120 ⟨rfl, trivial⟩ ⟨rfl, rfl⟩

set_option maxRecDepth 100000 in
set_option maxHeartbeats 1000000 in
theorem ok_s_l16Both {N : Nat} {code1 : List UInt8} {r : (List Abbr) × Str} (hm : s_l16Both N code1 = some r) (w : World) (v2 : Value) (hr3 : RdS w (cx w).Fz v2 fByte.rp code1) :
    Calls Try.prog 82 #[v2] w (RetG (cx w) fun u L => ∃ (u1 : Value), (u = tup [u1, str r.2] ∧ L = [row u1 64 fAbbr r.1])) := by
  unfold s_l16Both at hm
  refine Calls.enter [v2] Try.func82 rfl Try.ntmps82 rfl ?_
  refine WJ.seq ?_
  refine WJ.quiet ?_
  refine QJ.step (YldS.yld (y_assign rfl)) rfl ?_
  refine QJ.step (YldS.yld (y_assign rfl)) rfl ?_
  refine QJ.done ?_
  refine PJ.next ?_
  refine WJ.seq ?_
  refine WJ.reg ?_
  refine SJ.q (YldS.yld (y_move rfl)) rfl ?_
  obtain ⟨r4, h5, hm⟩ := bindS hm
  refine SJ.call Try.call68 rfl (fun w hw => ok_s_l00From h5 w _ (hr3.st hw)) rfl ?_
  rintro _ _ ⟨g6, rfl, rfl⟩
  refine SJ.q (YldS.yld (y_assign rfl)) rfl ?_
  refine SJ.nil ?_
  refine PJ.next ?_
  refine WJ.seq ?_
  refine WJ.reg ?_
  refine SJ.q (YldS.yld (y_move rfl)) rfl ?_
  obtain ⟨r7, h8, hm⟩ := bindS hm
  refine SJ.call1 (k := 0) rfl Try.call93 rfl (fun w S hw hA hO => ok_s_l16Bent h8 w S _ (hr3.st1 hw hO) hA) rfl ?_
  rintro v9 _ ⟨_, rfl, rfl⟩
  refine SJ.q (YldS.yld (y_assign rfl)) rfl ?_
  refine SJ.nil ?_
  refine PJ.next ?_
  refine WJ.seq ?_
  refine WJ.reg ?_
  refine SJ.q (YldS.yld (y_move rfl)) rfl ?_
  refine SJ.q (YldS.yld (y_move rfl)) rfl ?_
  refine SJ.q (YldS.yld (y_move rfl)) rfl ?_
  obtain ⟨r10, h11, hm⟩ := bindS hm
  refine SJ.call2 (k := 0) rfl Try.call120 rfl (fun w S hw hA hO hB => ok_s_l16DrawText h11 w S _ (hr3.st1 hw hO) _ (hB.row_rd (j := 1) (k := 0) rfl rfl) hA) rfl ?_
  rintro _ _ ⟨rfl, rfl⟩
  refine SJ.q (YldS.yld (y_assign rfl)) rfl ?_
  refine SJ.q (YldS.yld (y_assign rfl)) rfl ?_
  refine SJ.nil ?_
  refine PJ.next ?_
  refine WJ.ret ?_
  obtain rfl := Option.some.inj hm
  refine PJ.sel (L' := [row v9 64 fAbbr r7.1]) [1] ⟨by decide, rfl⟩ ?_
  exact PJ.retn (vs := [v9, str r10.1]) Try.results82 ⟨rfl, rfl, trivial⟩ ⟨_, rfl, rfl⟩

set_option maxRecDepth 100000 in
set_option maxHeartbeats 1000000 in
theorem ok_s_DrawShortenText {N : Nat} {code1 : List UInt8} {r : (List Abbr) × Str} (hm : s_DrawShortenText N code1 = some r) (w : World) (v2 : Value) (hr3 : RdS w (cx w).Fz v2 fByte.rp code1) :
    Calls Try.prog 34 #[v2] w (RetG (cx w) fun u L => ∃ (u1 : Value), (u = tup [u1, str r.2] ∧ L = [row u1 64 fAbbr r.1])) := by
  unfold s_DrawShortenText at hm
  refine Calls.enter [v2] Try.func34 rfl Try.ntmps34 rfl ?_
  refine WJ.seq ?_
  refine WJ.quiet ?_
  refine QJ.step (YldS.yld (y_assign rfl)) rfl ?_
  refine QJ.step (YldS.yld (y_assign rfl)) rfl ?_
  refine QJ.done ?_
  refine PJ.next ?_
  refine WJ.seq ?_
  refine WJ.reg ?_
  refine SJ.q (YldS.yld (y_move rfl)) rfl ?_
  obtain ⟨r4, h5, hm⟩ := bindS hm
  refine SJ.call Try.call82 rfl (fun w hw => ok_s_l16Both h5 w _ (hr3.st hw)) rfl ?_
  rintro _ _ ⟨v6, rfl, rfl⟩
  refine SJ.q (YldS.yld (y_extract rfl rfl)) rfl ?_
  refine SJ.q (YldS.yld (y_extract rfl rfl)) rfl ?_
  refine SJ.q (YldS.yld (y_assign rfl)) rfl ?_
  refine SJ.q (YldS.yld (y_assign rfl)) rfl ?_
  refine SJ.nil ?_
  refine PJ.next ?_
  refine WJ.ret ?_
  obtain rfl := Option.some.inj hm
  refine PJ.sel (L' := [row v6 64 fAbbr r4.1]) [0] ⟨by decide, rfl⟩ ?_
  exact PJ.retn (vs := [v6, str r4.2]) Try.results34 ⟨rfl, rfl, trivial⟩ ⟨_, rfl, rfl⟩

set_option maxRecDepth 100000 in
set_option maxHeartbeats 1000000 in
theorem ok_i_isSmallWord {N : Nat} {s1 : Str} {r : Bool} (hm : i_isSmallWord N s1 = some r) (w : World)  :
    Calls Try.prog 127 #[str s1] w (Ret (cx w) (.bool r)) := by
  unfold i_isSmallWord at hm
  refine Calls.enter [str s1] Try.func127 rfl Try.ntmps127 rfl ?_
  refine WJ.seq ?_
  refine WJ.quiet ?_
  refine QJ.step (YldS.yld (y_assign rfl)) rfl ?_
  refine QJ.done ?_
  refine PJ.next ?_
  obtain ⟨kj2, hk3, hm⟩ := withK_open hm
  refine WJ.join (X := Unit) (fun (_ : Unit) => kj2  = some r) (fun (_ : Unit) => [(0, str s1)]) (fun (_ : Unit) => []) ?_ ?_
  · clear hk3
    refine WJ.seq ?_
    refine WJ.quiet ?_
    refine QJ.step (YldS.yld (y_move rfl)) rfl ?_
    refine QJ.step (YldS.yld (y_lenStr Try.runUnderlying9 rfl)) rfl ?_
    refine QJ.step (YldS.yld (y_move rfl)) rfl ?_
    refine QJ.done ?_
    refine PJ.next ?_
    refine WJ.block ?_
    refine WJ.sel (L' := (fun (x : Int) => []) 0) [] ⟨List.nodup_nil, rfl⟩ ?_
    refine WJ.sub (m' := (fun (x : Int) => [(0, str s1), (5, .int .i64 (List.length s1 : Int)), (6, .int .i64 x)]) 0) ⟨rfl, rfl, rfl, trivial⟩ ?_
    refine WJ.loop (X := Int) (fun N (x : Int) => i_isSmallWord_l1 kj2 s1 N x = some r) (fun (x : Int) => [(0, str s1), (5, .int .i64 (List.length s1 : Int)), (6, .int .i64 x)]) (fun (x : Int) => []) ?_ N 0 hm
    · rintro N x4 hI
      have hm := hI; clear hI
      cases N with
      | zero => cases hm
      | succ N =>
      unfold i_isSmallWord_l1 at hm
      refine WJ.seq ?_
      refine WJ.quiet ?_
      refine QJ.step (YldS.yld (y_bin rfl rfl rfl)) rfl ?_
      refine QJ.done ?_
      refine PJ.next ?_
      refine WJ.seq ?_
      refine WJ.cond (t := decide (x4 < (List.length s1 : Int))) rfl (fun hb5 => ?_) (fun hb5 => ?_)
      · replace hm := ifT hm hb5
        refine WJ.skip ?_
        refine PJ.next ?_
        refine WJ.seq ?_
        refine WJ.block ?_
        refine WJ.seq ?_
        refine WJ.quiet ?_
        refine QJ.step (YldS.yld (y_move rfl)) rfl ?_
        refine QJ.step (YldS.yld (y_assign rfl)) rfl ?_
        refine QJ.done ?_
        refine PJ.next ?_
        refine WJ.seq ?_
        refine WJ.quiet ?_
        refine QJ.step (YldS.yld (y_move rfl)) rfl ?_
        refine QJ.step (YldS.yld (y_move rfl)) rfl ?_
        obtain ⟨c6, h7, hm⟩ := bindS hm
        refine QJ.step (YldS.yld (y_idxStr Try.runUnderlying9 rfl rfl h7)) rfl ?_
        refine QJ.step (YldS.yld (y_bin8 c6 (97 : UInt8) rfl rfl rfl)) rfl ?_
        refine QJ.step (YldS.yld (y_move rfl)) rfl ?_
        obtain ⟨t8, h9, hm⟩ := bindS hm
        refine QJ.cut 5 [(0, str s1), (5, .int .i64 (List.length s1 : Int)), (6, .int .i64 x4), (18, .bool t8)] ?_ ?_
        · rcases Bool.eq_false_or_eq_true (decide (c6 < (97 : UInt8))) with hb10 | hb10
          · obtain rfl := orT h9 hb10
            refine QJ.off rfl rfl (cB hb10) rfl rfl ?_
            refine QJ.off rfl rfl (cB hb10) rfl rfl ?_
            refine QJ.off rfl rfl (cB hb10) rfl rfl ?_
            refine QJ.off rfl rfl (cB hb10) rfl rfl ?_
            refine QJ.step (YldS.yld (y_pick_t (cB hb10) rfl)) rfl ?_
            exact QJ.cut_end ⟨rfl, rfl, rfl, rfl, trivial⟩
          · replace h9 := orF h9 hb10
            refine QJ.on rfl rfl (cB hb10) (YldS.yld (y_move rfl)) rfl ?_
            refine QJ.on rfl rfl (cB hb10) (YldS.yld (y_move rfl)) rfl ?_
            obtain ⟨c11, h12, h9⟩ := bindS h9
            refine QJ.on rfl rfl (cB hb10) (YldS.yld (y_idxStr Try.runUnderlying9 rfl rfl h12)) rfl ?_
            refine QJ.on rfl rfl (cB hb10) (YldS.yld (y_bin8 c11 (122 : UInt8) rfl rfl rfl)) rfl ?_
            refine QJ.step (YldS.yld (y_pick_f (cB hb10) rfl)) rfl ?_
            obtain rfl := Option.some.inj h9
            exact QJ.cut_end ⟨rfl, rfl, rfl, rfl, trivial⟩
        refine QJ.done ?_
        refine PJ.next ?_
        refine WJ.cond (t := t8) rfl (fun hb13 => ?_) (fun hb13 => ?_)
        · replace hm := ifT hm hb13
          refine WJ.seq ?_
          refine WJ.quiet ?_
          refine QJ.step (YldS.yld (y_assign rfl)) rfl ?_
          refine QJ.done ?_
          refine PJ.next ?_
          refine WJ.ret ?_
          refine PJ.block_ret (PJ.then_ret (PJ.then_ret (PJ.block_ret (PJ.then_ret ?_))))
          obtain rfl := Option.some.inj hm
          refine PJ.sel (L' := []) [] ⟨List.nodup_nil, rfl⟩ ?_
          exact PJ.retn (vs := [.bool false]) Try.results127 ⟨rfl, trivial⟩ ⟨rfl, rfl⟩
        · replace hm := ifF hm hb13
          refine WJ.skip ?_
          refine PJ.block_normal (PJ.next ?_)
          refine WJ.quiet ?_
          refine QJ.step (YldS.yld (y_bin rfl rfl rfl)) rfl ?_
          refine QJ.step (YldS.yld (y_move rfl)) rfl ?_
          refine QJ.done ?_
          exact PJ.round (w64 (x4 + 1)) [] hm ⟨rfl, rfl, rfl, trivial⟩ ⟨List.nodup_nil, rfl⟩
      · replace hm := ifF hm hb5
        refine WJ.exit ?_
        refine PJ.then_exit (PJ.then_exit (PJ.block_exit ?_))
        exact PJ.joined () [] hm ⟨rfl, trivial⟩ ⟨List.nodup_nil, rfl⟩
  · rintro _ hm
    subst hk3
    refine WJ.seq ?_
    refine WJ.quiet ?_
    refine QJ.step (YldS.yld (y_move rfl)) rfl ?_
    refine QJ.step (YldS.yld (y_lenStr Try.runUnderlying9 rfl)) rfl ?_
    refine QJ.step (YldS.yld (y_bin rfl rfl rfl)) rfl ?_
    refine QJ.step (YldS.yld (y_move rfl)) rfl ?_
    obtain ⟨t14, h15, hm⟩ := bindS hm
    refine QJ.cut 4 [(27, .bool t14)] ?_ ?_
    · rcases Bool.eq_false_or_eq_true (decide ((List.length s1 : Int) ≥ 1)) with hb16 | hb16
      · replace h15 := andT h15 hb16
        refine QJ.on rfl rfl (cB hb16) (YldS.yld (y_move rfl)) rfl ?_
        refine QJ.on rfl rfl (cB hb16) (YldS.yld (y_lenStr Try.runUnderlying9 rfl)) rfl ?_
        refine QJ.on rfl rfl (cB hb16) (YldS.yld (y_bin rfl rfl rfl)) rfl ?_
        refine QJ.step (YldS.yld (y_pick_t (cB hb16) rfl)) rfl ?_
        obtain rfl := Option.some.inj h15
        exact QJ.cut_end ⟨rfl, trivial⟩
      · obtain rfl := andF h15 hb16
        refine QJ.off rfl rfl (cB hb16) rfl rfl ?_
        refine QJ.off rfl rfl (cB hb16) rfl rfl ?_
        refine QJ.off rfl rfl (cB hb16) rfl rfl ?_
        refine QJ.step (YldS.yld (y_pick_f (cB hb16) rfl)) rfl ?_
        exact QJ.cut_end ⟨rfl, trivial⟩
    refine QJ.step (YldS.yld (y_assign rfl)) rfl ?_
    refine QJ.done ?_
    refine PJ.next ?_
    refine WJ.ret ?_
    obtain rfl := Option.some.inj hm
    refine PJ.sel (L' := []) [] ⟨List.nodup_nil, rfl⟩ ?_
    exact PJ.retn (vs := [.bool t14]) Try.results127 ⟨rfl, trivial⟩ ⟨rfl, rfl⟩

set_option maxRecDepth 100000 in
set_option maxHeartbeats 1000000 in
theorem ok_i_validAbbr {N : Nat} {x1 : Abbr} {r : Bool} (hm : i_validAbbr N x1 = some r) (w : World)  :
    Calls Try.prog 95 #[.agg (Abbr.enc x1).toArray] w (Ret (cx w) (.bool r)) := by
  unfold i_validAbbr at hm
  refine Calls.enter [.agg (Abbr.enc x1).toArray] Try.func95 rfl Try.ntmps95 rfl ?_
  refine WJ.seq ?_
  refine WJ.reg ?_
  refine SJ.box (cs := [str x1.short, str x1.long]) rfl rfl rfl fun g2 => ?_
  refine SJ.q (YldS.yld (y_assign rfl)) rfl ?_
  refine SJ.nil ?_
  refine PJ.next ?_
  refine WJ.seq ?_
  refine WJ.quiet ?_
  refine QJ.step (YldS.yld (y_fldB (o := 0) fld64_0 rfl)) rfl ?_
  refine QJ.step (YldS.yld (y_loadB (k := 0) (off := 0) (v := str x1.short) rfl Try.isAgg9 rfl rfl)) rfl ?_
  obtain ⟨r3, h4, hm⟩ := bindS hm
  refine QJ.step (y_call Try.call127 rfl (RetG.quiet fun w hw => ok_i_isSmallWord h4 w )) rfl ?_
  refine QJ.step (YldS.yld (y_move rfl)) rfl ?_
  obtain ⟨t5, h6, hm⟩ := bindS hm
  refine QJ.cut 5 [(1, pt g2 0), (11, .bool t5)] ?_ ?_
  · rcases Bool.eq_false_or_eq_true r3 with hb7 | hb7
    · replace h6 := andT h6 hb7
      refine QJ.on rfl rfl (cB hb7) (YldS.yld (y_fldB (o := 0) fld64_0 rfl)) rfl ?_
      refine QJ.on rfl rfl (cB hb7) (YldS.yld (y_loadB (k := 0) (off := 0) (v := str x1.short) rfl Try.isAgg9 rfl rfl)) rfl ?_
      refine QJ.on rfl rfl (cB hb7) (YldS.yld (y_lenStr Try.runUnderlying9 rfl)) rfl ?_
      refine QJ.on rfl rfl (cB hb7) (YldS.yld (y_bin rfl rfl rfl)) rfl ?_
      refine QJ.step (YldS.yld (y_pick_t (cB hb7) rfl)) rfl ?_
      obtain rfl := Option.some.inj h6
      exact QJ.cut_end ⟨rfl, rfl, trivial⟩
    · obtain rfl := andF h6 hb7
      refine QJ.off rfl rfl (cB hb7) rfl rfl ?_
      refine QJ.off rfl rfl (cB hb7) rfl rfl ?_
      refine QJ.off rfl rfl (cB hb7) rfl rfl ?_
      refine QJ.off rfl rfl (cB hb7) rfl rfl ?_
      refine QJ.step (YldS.yld (y_pick_f (cB hb7) rfl)) rfl ?_
      exact QJ.cut_end ⟨rfl, rfl, trivial⟩
  refine QJ.step (YldS.yld (y_move rfl)) rfl ?_
  obtain ⟨t8, h9, hm⟩ := bindS hm
  refine QJ.cut 4 [(1, pt g2 0), (16, .bool t8)] ?_ ?_
  · rcases Bool.eq_false_or_eq_true t5 with hb10 | hb10
    · replace h9 := andT h9 hb10
      refine QJ.on rfl rfl (cB hb10) (YldS.yld (y_fldB (o := 0) fld64_1 rfl)) rfl ?_
      refine QJ.on rfl rfl (cB hb10) (YldS.yld (y_loadB (k := 0) (off := 1) (v := str x1.long) rfl Try.isAgg9 rfl rfl)) rfl ?_
      obtain ⟨r11, h12, h9⟩ := bindS h9
      refine QJ.on rfl rfl (cB hb10) (y_call Try.call127 rfl (RetG.quiet fun w hw => ok_i_isSmallWord h12 w )) rfl ?_
      refine QJ.step (YldS.yld (y_pick_t (cB hb10) rfl)) rfl ?_
      obtain rfl := Option.some.inj h9
      exact QJ.cut_end ⟨rfl, rfl, trivial⟩
    · obtain rfl := andF h9 hb10
      refine QJ.off rfl rfl (cB hb10) rfl rfl ?_
      refine QJ.off rfl rfl (cB hb10) rfl rfl ?_
      refine QJ.off rfl rfl (cB hb10) rfl rfl ?_
      refine QJ.step (YldS.yld (y_pick_f (cB hb10) rfl)) rfl ?_
      exact QJ.cut_end ⟨rfl, rfl, trivial⟩
  refine QJ.step (YldS.yld (y_move rfl)) rfl ?_
  obtain ⟨t13, h14, hm⟩ := bindS hm
  refine QJ.cut 8 [(25, .bool t13)] ?_ ?_
  · rcases Bool.eq_false_or_eq_true t8 with hb15 | hb15
    · replace h14 := andT h14 hb15
      refine QJ.on rfl rfl (cB hb15) (YldS.yld (y_fldB (o := 0) fld64_1 rfl)) rfl ?_
      refine QJ.on rfl rfl (cB hb15) (YldS.yld (y_loadB (k := 0) (off := 1) (v := str x1.long) rfl Try.isAgg9 rfl rfl)) rfl ?_
      refine QJ.on rfl rfl (cB hb15) (YldS.yld (y_lenStr Try.runUnderlying9 rfl)) rfl ?_
      refine QJ.on rfl rfl (cB hb15) (YldS.yld (y_fldB (o := 0) fld64_0 rfl)) rfl ?_
      refine QJ.on rfl rfl (cB hb15) (YldS.yld (y_loadB (k := 0) (off := 0) (v := str x1.short) rfl Try.isAgg9 rfl rfl)) rfl ?_
      refine QJ.on rfl rfl (cB hb15) (YldS.yld (y_lenStr Try.runUnderlying9 rfl)) rfl ?_
      refine QJ.on rfl rfl (cB hb15) (YldS.yld (y_bin rfl rfl rfl)) rfl ?_
      refine QJ.step (YldS.yld (y_pick_t (cB hb15) rfl)) rfl ?_
      obtain rfl := Option.some.inj h14
      exact QJ.cut_end ⟨rfl, trivial⟩
    · obtain rfl := andF h14 hb15
      refine QJ.off rfl rfl (cB hb15) rfl rfl ?_
      refine QJ.off rfl rfl (cB hb15) rfl rfl ?_
      refine QJ.off rfl rfl (cB hb15) rfl rfl ?_
      refine QJ.off rfl rfl (cB hb15) rfl rfl ?_
      refine QJ.off rfl rfl (cB hb15) rfl rfl ?_
      refine QJ.off rfl rfl (cB hb15) rfl rfl ?_
      refine QJ.off rfl rfl (cB hb15) rfl rfl ?_
      refine QJ.step (YldS.yld (y_pick_f (cB hb15) rfl)) rfl ?_
      exact QJ.cut_end ⟨rfl, trivial⟩
  refine QJ.step (YldS.yld (y_assign rfl)) rfl ?_
  refine QJ.done ?_
  refine PJ.next ?_
  refine WJ.ret ?_
  obtain rfl := Option.some.inj hm
  refine PJ.sel (L' := []) [] ⟨List.nodup_nil, rfl⟩ ?_
  exact PJ.retn (vs := [.bool t13]) Try.results95 ⟨rfl, trivial⟩ ⟨rfl, rfl⟩

set_option maxRecDepth 100000 in
set_option maxHeartbeats 1000000 in
theorem ok_i_ValidAbbrs {N : Nat} {list1 : List Abbr} {r : Bool} (hm : i_ValidAbbrs N list1 = some r) (w : World) (v2 : Value) (hr3 : RdS w (cx w).Fz v2 fAbbr.rp list1) :
    Calls Try.prog 57 #[v2] w (Ret (cx w) (.bool r)) := by
  unfold i_ValidAbbrs at hm
  refine Calls.enter [v2] Try.func57 rfl Try.ntmps57 rfl ?_
  refine WJ.seq ?_
  refine WJ.quiet ?_
  refine QJ.step (YldS.yld (y_assign rfl)) rfl ?_
  refine QJ.done ?_
  refine PJ.next ?_
  obtain ⟨kj4, hk5, hm⟩ := withK_open hm
  refine WJ.join (X := Unit) (fun (_ : Unit) => kj4  = some r) (fun (_ : Unit) => [(0, v2)]) (fun (_ : Unit) => []) ?_ ?_
  · clear hk5
    refine WJ.seq ?_
    refine WJ.quiet ?_
    refine QJ.step (YldS.yld (y_move rfl)) rfl ?_
    refine QJ.step (YldS.yld (y_lenS Try.runUnderlying56 hr3 rfl)) rfl ?_
    refine QJ.step (YldS.yld (y_move rfl)) rfl ?_
    refine QJ.done ?_
    refine PJ.next ?_
    refine WJ.block ?_
    refine WJ.sel (L' := (fun (x : Int) => []) 0) [] ⟨List.nodup_nil, rfl⟩ ?_
    refine WJ.sub (m' := (fun (x : Int) => [(0, v2), (5, v2), (6, .int .i64 (List.length list1 : Int)), (7, .int .i64 x)]) 0) ⟨rfl, rfl, rfl, rfl, trivial⟩ ?_
    refine WJ.loop (X := Int) (fun N (x : Int) => i_ValidAbbrs_l1 kj4 list1 N x = some r) (fun (x : Int) => [(0, v2), (5, v2), (6, .int .i64 (List.length list1 : Int)), (7, .int .i64 x)]) (fun (x : Int) => []) ?_ N 0 hm
    · rintro N x6 hI
      have hm := hI; clear hI
      cases N with
      | zero => cases hm
      | succ N =>
      unfold i_ValidAbbrs_l1 at hm
      refine WJ.seq ?_
      refine WJ.quiet ?_
      refine QJ.step (YldS.yld (y_bin rfl rfl rfl)) rfl ?_
      refine QJ.done ?_
      refine PJ.next ?_
      refine WJ.seq ?_
      refine WJ.cond (t := decide (x6 < (List.length list1 : Int))) rfl (fun hb7 => ?_) (fun hb7 => ?_)
      · replace hm := ifT hm hb7
        refine WJ.skip ?_
        refine PJ.next ?_
        refine WJ.seq ?_
        refine WJ.block ?_
        refine WJ.seq ?_
        refine WJ.reg ?_
        refine SJ.q (YldS.yld (y_move rfl)) rfl ?_
        obtain ⟨e8, h9, hm⟩ := bindS hm
        obtain ⟨ad10, _, rfl, ha11, hy12⟩ := hr3.elem h9
        refine SJ.q (YldS.yld (hy12 Try.runUnderlying56 Try.sizeOf64 rfl rfl)) rfl ?_
        refine SJ.q (YldS.yld (y_loadN Try.isAgg64 Try.sizeOf64 rfl ha11 St.frozenC rfl)) rfl ?_
        refine SJ.alloc (cs := [str [], str []]) Try.zeroValue64 rfl rfl fun g13 => ?_
        refine SJ.q (YldS.yld (y_assign rfl)) rfl ?_
        refine SJ.storeL (k := 0) (off := 0) (us := [str e8.short, str e8.long]) rfl rfl rfl rfl Try.sizeOf64 rfl rfl ?_
        refine SJ.nil ?_
        refine PJ.next ?_
        refine WJ.seq ?_
        refine WJ.quiet_draw follows (by kernel_rfl) ?_
        refine QJ.step (YldS.yld (y_loadBN (k := 0) (off := 0) (us := [str e8.short, str e8.long]) rfl Try.isAgg64 Try.sizeOf64 rfl rfl)) rfl ?_
        obtain ⟨r14, h15, hm⟩ := bindS hm
        refine QJ.step (y_call Try.call95 rfl (RetG.quiet fun w hw => ok_i_validAbbr h15 w )) rfl ?_
        refine QJ.step (YldS.yld (y_not rfl)) rfl ?_
        refine QJ.step (YldS.yld (y_move rfl)) rfl ?_
        obtain ⟨t16, h17, hm⟩ := bindS hm
        refine QJ.cut 14 [(0, v2), (5, v2), (6, .int .i64 (List.length list1 : Int)), (7, .int .i64 x6), (29, .bool t16)] ?_ ?_
        · rcases Bool.eq_false_or_eq_true (!r14) with hb18 | hb18
          · obtain rfl := orT h17 hb18
            refine QJ.off rfl rfl (cB hb18) rfl rfl ?_
            refine QJ.off rfl rfl (cB hb18) rfl rfl ?_
            refine QJ.off rfl rfl (cB hb18) rfl rfl ?_
            refine QJ.off_undef rfl rfl rfl rfl ?_
            refine QJ.off_undef rfl rfl rfl rfl ?_
            refine QJ.off_undef rfl rfl rfl rfl ?_
            refine QJ.off_undef rfl rfl rfl rfl ?_
            refine QJ.off_undef rfl rfl rfl rfl ?_
            refine QJ.off_undef rfl rfl rfl rfl ?_
            refine QJ.off_undef rfl rfl rfl rfl ?_
            refine QJ.off_undef rfl rfl rfl rfl ?_
            refine QJ.off_undef rfl rfl rfl rfl ?_
            refine QJ.off rfl rfl (cB hb18) rfl rfl ?_
            refine QJ.step (YldS.yld (y_pick_t (cB hb18) rfl)) rfl ?_
            exact QJ.cut_end ⟨rfl, rfl, rfl, rfl, rfl, trivial⟩
          · replace h17 := orF h17 hb18
            refine QJ.on rfl rfl (cB hb18) (YldS.yld (y_move rfl)) rfl ?_
            refine QJ.on rfl rfl (cB hb18) (YldS.yld (y_bin rfl rfl rfl)) rfl ?_
            refine QJ.on rfl rfl (cB hb18) (YldS.yld (y_move rfl)) rfl ?_
            obtain ⟨t19, h20, h17⟩ := bindS h17
            refine QJ.cut 10 [(0, v2), (5, v2), (6, .int .i64 (List.length list1 : Int)), (7, .int .i64 x6), (15, .bool (!r14)), (28, .bool t19)] ?_ ?_
            · rcases Bool.eq_false_or_eq_true (decide (x6 > 0)) with hb21 | hb21
              · replace h20 := andT h20 hb21
                refine QJ.on rfl rfl (cB hb21) (YldS.yld (y_fldB (o := 0) fld64_0 rfl)) rfl ?_
                refine QJ.on rfl rfl (cB hb21) (YldS.yld (y_loadB (k := 0) (off := 0) (v := str e8.short) rfl Try.isAgg9 rfl rfl)) rfl ?_
                refine QJ.on rfl rfl (cB hb21) (YldS.yld (y_move rfl)) rfl ?_
                refine QJ.on rfl rfl (cB hb21) (YldS.yld (y_move rfl)) rfl ?_
                refine QJ.on rfl rfl (cB hb21) (YldS.yld (y_bin rfl rfl rfl)) rfl ?_
                obtain ⟨e22, h23, h20⟩ := bindS h20
                obtain ⟨ad24, _, rfl, ha25, hy26⟩ := hr3.elem h23
                refine QJ.on rfl rfl (cB hb21) (YldS.yld (hy26 Try.runUnderlying56 Try.sizeOf64 rfl rfl)) rfl ?_
                refine QJ.on rfl rfl (cB hb21) (YldS.yld (y_fld (ad := ad24) fld64_0 rfl)) rfl ?_
                refine QJ.on rfl rfl (cB hb21) (YldS.yld (y_load1 (v := str e22.short) Try.isAgg9 (ha25.sub 0 1) St.frozenC rfl)) rfl ?_
                refine QJ.on rfl rfl (cB hb21) (YldS.yld (y_binS rfl rfl rfl)) rfl ?_
                refine QJ.on rfl rfl (cB hb18) (YldS.yld (y_pick_t (cB hb21) rfl)) rfl ?_
                obtain rfl := Option.some.inj h20
                exact QJ.cut_end ⟨rfl, rfl, rfl, rfl, rfl, rfl, trivial⟩
              · obtain rfl := andF h20 hb21
                refine QJ.off rfl rfl (cB hb21) rfl rfl ?_
                refine QJ.off rfl rfl (cB hb21) rfl rfl ?_
                refine QJ.off rfl rfl (cB hb21) rfl rfl ?_
                refine QJ.off rfl rfl (cB hb21) rfl rfl ?_
                refine QJ.off rfl rfl (cB hb21) rfl rfl ?_
                refine QJ.off rfl rfl (cB hb21) rfl rfl ?_
                refine QJ.off rfl rfl (cB hb21) rfl rfl ?_
                refine QJ.off rfl rfl (cB hb21) rfl rfl ?_
                refine QJ.off rfl rfl (cB hb21) rfl rfl ?_
                refine QJ.on rfl rfl (cB hb18) (YldS.yld (y_pick_f (cB hb21) rfl)) rfl ?_
                exact QJ.cut_end ⟨rfl, rfl, rfl, rfl, rfl, rfl, trivial⟩
            refine QJ.step (YldS.yld (y_pick_f (cB hb18) rfl)) rfl ?_
            obtain rfl := Option.some.inj h17
            exact QJ.cut_end ⟨rfl, rfl, rfl, rfl, rfl, trivial⟩
        refine QJ.done ?_
        refine PJ.next ?_
        refine WJ.cond (t := t16) rfl (fun hb27 => ?_) (fun hb27 => ?_)
        · replace hm := ifT hm hb27
          refine WJ.seq ?_
          refine WJ.quiet ?_
          refine QJ.step (YldS.yld (y_assign rfl)) rfl ?_
          refine QJ.done ?_
          refine PJ.next ?_
          refine WJ.ret ?_
          refine PJ.block_ret (PJ.then_ret (PJ.then_ret (PJ.block_ret (PJ.then_ret ?_))))
          obtain rfl := Option.some.inj hm
          refine PJ.sel (L' := []) [] ⟨List.nodup_nil, rfl⟩ ?_
          exact PJ.retn (vs := [.bool false]) Try.results57 ⟨rfl, trivial⟩ ⟨rfl, rfl⟩
        · replace hm := ifF hm hb27
          refine WJ.skip ?_
          refine PJ.block_normal (PJ.next ?_)
          refine WJ.quiet ?_
          refine QJ.step (YldS.yld (y_bin rfl rfl rfl)) rfl ?_
          refine QJ.step (YldS.yld (y_move rfl)) rfl ?_
          refine QJ.done ?_
          exact PJ.round (w64 (x6 + 1)) [] hm ⟨rfl, rfl, rfl, rfl, trivial⟩ ⟨List.nodup_nil, rfl⟩
      · replace hm := ifF hm hb7
        refine WJ.exit ?_
        refine PJ.then_exit (PJ.then_exit (PJ.block_exit ?_))
        exact PJ.joined () [] hm ⟨rfl, trivial⟩ ⟨List.nodup_nil, rfl⟩
  · rintro _ hm
    subst hk5
    refine WJ.seq ?_
    refine WJ.quiet ?_
    refine QJ.step (YldS.yld (y_move rfl)) rfl ?_
    refine QJ.step (YldS.yld (y_lenS Try.runUnderlying56 hr3 rfl)) rfl ?_
    refine QJ.step (YldS.yld (y_bin rfl rfl rfl)) rfl ?_
    refine QJ.step (YldS.yld (y_assign rfl)) rfl ?_
    refine QJ.done ?_
    refine PJ.next ?_
    refine WJ.ret ?_
    obtain rfl := Option.some.inj hm
    refine PJ.sel (L' := []) [] ⟨List.nodup_nil, rfl⟩ ?_
    exact PJ.retn (vs := [.bool (decide ((List.length list1 : Int) ≤ 30))]) Try.results57 ⟨rfl, trivial⟩ ⟨rfl, rfl⟩

set_option maxRecDepth 100000 in
set_option maxHeartbeats 1000000 in
theorem ok_i_SplitWords {N : Nat} {s1 : Str} {r : (List Str)} (hm : i_SplitWords N s1 = some r) (w : World)  :
    Calls Try.prog 145 #[str s1] w (RetG (cx w) fun u L => ∃ (u1 : Value), (u = u1 ∧ L = [row u1 9 fStr r])) := by
  unfold i_SplitWords at hm
  refine Calls.enter [str s1] Try.func145 rfl Try.ntmps145 rfl ?_
  refine WJ.seq ?_
  refine WJ.quiet ?_
  refine QJ.step (YldS.yld (y_assign rfl)) rfl ?_
  refine QJ.done ?_
  refine PJ.next ?_
  refine WJ.seq ?_
  refine WJ.reg ?_
  refine SJ.buildSlice (R := fStr) (os := []) [] Try.runUnderlying43 Try.sizeOf9 Try.zeroValue9 rfl rfl rfl rfl rfl rfl fun v2 => ?_
  refine SJ.q (YldS.yld (y_assign rfl)) rfl ?_
  refine SJ.nil ?_
  refine PJ.next ?_
  refine WJ.seq ?_
  refine WJ.quiet ?_
  refine QJ.step (YldS.yld (y_assign rfl)) rfl ?_
  refine QJ.done ?_
  refine PJ.next ?_
  obtain ⟨kj6, hk7, hm⟩ := withK_open hm
  refine WJ.join (X := (List Str) × Value × Int) (fun (x : (List Str) × Value × Int) => kj6 x.1 x.2.2 = some r) (fun (x : (List Str) × Value × Int) => [(0, str s1), (3, x.2.1), (4, .int .i64 x.2.2)]) (fun (x : (List Str) × Value × Int) => [row x.2.1 9 fStr x.1]) ?_ ?_
  · clear hk7
    refine WJ.seq ?_
    refine WJ.quiet ?_
    refine QJ.step (YldS.yld (y_move rfl)) rfl ?_
    refine QJ.step (YldS.yld (y_lenStr Try.runUnderlying9 rfl)) rfl ?_
    refine QJ.step (YldS.yld (y_move rfl)) rfl ?_
    refine QJ.done ?_
    refine PJ.next ?_
    refine WJ.block ?_
    refine WJ.sel (L' := (fun (x : (List Str) × Value × Int × Int) => [row x.2.1 9 fStr x.1]) ([], v2, (-1), 0)) [0] ⟨by decide, rfl⟩ ?_
    refine WJ.sub (m' := (fun (x : (List Str) × Value × Int × Int) => [(0, str s1), (3, x.2.1), (4, .int .i64 x.2.2.1), (8, .int .i64 (List.length s1 : Int)), (9, .int .i64 x.2.2.2)]) ([], v2, (-1), 0)) ⟨rfl, rfl, rfl, rfl, rfl, trivial⟩ ?_
    refine WJ.loop (X := (List Str) × Value × Int × Int) (fun N (x : (List Str) × Value × Int × Int) => i_SplitWords_l1 kj6 s1 N x.1 x.2.2.1 x.2.2.2 = some r) (fun (x : (List Str) × Value × Int × Int) => [(0, str s1), (3, x.2.1), (4, .int .i64 x.2.2.1), (8, .int .i64 (List.length s1 : Int)), (9, .int .i64 x.2.2.2)]) (fun (x : (List Str) × Value × Int × Int) => [row x.2.1 9 fStr x.1]) ?_ N ([], v2, (-1), 0) hm
    · rintro N ⟨l8, v9, start10, x11⟩ hI
      have hm := hI; clear hI
      cases N with
      | zero => cases hm
      | succ N =>
      unfold i_SplitWords_l1 at hm
      refine WJ.seq ?_
      refine WJ.quiet ?_
      refine QJ.step (YldS.yld (y_bin rfl rfl rfl)) rfl ?_
      refine QJ.done ?_
      refine PJ.next ?_
      refine WJ.seq ?_
      refine WJ.cond (t := decide (x11 < (List.length s1 : Int))) rfl (fun hb12 => ?_) (fun hb12 => ?_)
      · replace hm := ifT hm hb12
        refine WJ.skip ?_
        refine PJ.next ?_
        obtain ⟨kj16, hk17, hm⟩ := withK_open hm
        refine WJ.join (X := (List Str) × Value × Int) (fun (x : (List Str) × Value × Int) => kj16 x.1 x.2.2 = some r) (fun (x : (List Str) × Value × Int) => [(0, str s1), (3, x.2.1), (4, .int .i64 x.2.2), (8, .int .i64 (List.length s1 : Int)), (9, .int .i64 x11)]) (fun (x : (List Str) × Value × Int) => [row x.2.1 9 fStr x.1]) ?_ ?_
        · clear hk17
          refine WJ.block ?_
          refine WJ.seq ?_
          refine WJ.quiet ?_
          refine QJ.step (YldS.yld (y_move rfl)) rfl ?_
          refine QJ.step (YldS.yld (y_assign rfl)) rfl ?_
          refine QJ.done ?_
          refine PJ.next ?_
          refine WJ.block ?_
          refine WJ.seq ?_
          refine WJ.quiet ?_
          refine QJ.step (YldS.yld (y_move rfl)) rfl ?_
          refine QJ.step (YldS.yld (y_move rfl)) rfl ?_
          obtain ⟨c18, h19, hm⟩ := bindS hm
          refine QJ.step (YldS.yld (y_idxStr Try.runUnderlying9 rfl rfl h19)) rfl ?_
          refine QJ.step (YldS.yld (y_bin8 c18 (32 : UInt8) rfl rfl rfl)) rfl ?_
          refine QJ.step (YldS.yld (y_move rfl)) rfl ?_
          obtain ⟨t20, h21, hm⟩ := bindS hm
          refine QJ.cut 3 [(0, str s1), (3, v9), (4, .int .i64 start10), (5, .int .i64 x11), (8, .int .i64 (List.length s1 : Int)), (9, .int .i64 x11), (20, .bool t20)] ?_ ?_
          · rcases Bool.eq_false_or_eq_true (c18 == (32 : UInt8)) with hb22 | hb22
            · replace h21 := andT h21 hb22
              refine QJ.on rfl rfl (cB hb22) (YldS.yld (y_move rfl)) rfl ?_
              refine QJ.on rfl rfl (cB hb22) (YldS.yld (y_bin rfl rfl rfl)) rfl ?_
              refine QJ.step (YldS.yld (y_pick_t (cB hb22) rfl)) rfl ?_
              obtain rfl := Option.some.inj h21
              exact QJ.cut_end ⟨rfl, rfl, rfl, rfl, rfl, rfl, rfl, trivial⟩
            · obtain rfl := andF h21 hb22
              refine QJ.off rfl rfl (cB hb22) rfl rfl ?_
              refine QJ.off rfl rfl (cB hb22) rfl rfl ?_
              refine QJ.step (YldS.yld (y_pick_f (cB hb22) rfl)) rfl ?_
              exact QJ.cut_end ⟨rfl, rfl, rfl, rfl, rfl, rfl, rfl, trivial⟩
          refine QJ.step (YldS.yld (y_assign rfl)) rfl ?_
          refine QJ.done ?_
          refine PJ.next ?_
          refine WJ.cond (t := t20) rfl (fun hb23 => ?_) (fun hb23 => ?_)
          · replace hm := ifT hm hb23
            refine WJ.seq ?_
            refine WJ.reg ?_
            refine SJ.q (YldS.yld (y_move rfl)) rfl ?_
            refine SJ.q (YldS.yld (y_move rfl)) rfl ?_
            refine SJ.q (YldS.yld (y_move rfl)) rfl ?_
            refine SJ.q (YldS.yld (y_move rfl)) rfl ?_
            obtain ⟨s24, h25, hm⟩ := bindS hm
            refine SJ.q (YldS.yld (y_subStr (i := some start10) (j := some x11) h25 Try.runUnderlying9 rfl ⟨_, rfl⟩ ⟨_, rfl⟩)) rfl ?_
            refine SJ.buildSlice (R := fStr) (os := [.tmp 25]) [s24] Try.runUnderlying43 Try.sizeOf9 Try.zeroValue9 rfl rfl rfl rfl rfl rfl fun v26 => ?_
            obtain ⟨l27, h28, hm⟩ := bindS hm
            refine SJ.append (k := 1) (R := fStr) h28 rfl Try.underlying43 el9 rfl rfl rfl (fun w hw => (hw.row_rd (k := 0) rfl)) rfl fun v29 => ?_
            refine SJ.q (YldS.yld (y_assign rfl)) rfl ?_
            refine SJ.nil ?_
            refine PJ.next ?_
            refine WJ.quiet ?_
            refine QJ.step (YldS.yld (y_assign rfl)) rfl ?_
            refine QJ.done ?_
            refine PJ.block_normal (PJ.block_normal ?_)
            exact PJ.joined (l27, v29, (-1)) [1] hm ⟨rfl, rfl, rfl, rfl, rfl, trivial⟩ ⟨by decide, rfl⟩
          · replace hm := ifF hm hb23
            refine WJ.seq ?_
            refine WJ.quiet ?_
            refine QJ.step (YldS.yld (y_move rfl)) rfl ?_
            refine QJ.step (YldS.yld (y_move rfl)) rfl ?_
            obtain ⟨c30, h31, hm⟩ := bindS hm
            refine QJ.step (YldS.yld (y_idxStr Try.runUnderlying9 rfl rfl h31)) rfl ?_
            refine QJ.step (YldS.yld (y_bin8 c30 (32 : UInt8) rfl rfl rfl)) rfl ?_
            refine QJ.step (YldS.yld (y_move rfl)) rfl ?_
            obtain ⟨t32, h33, hm⟩ := bindS hm
            refine QJ.cut 3 [(0, str s1), (3, v9), (4, .int .i64 start10), (5, .int .i64 x11), (8, .int .i64 (List.length s1 : Int)), (9, .int .i64 x11), (36, .bool t32)] ?_ ?_
            · rcases Bool.eq_false_or_eq_true (c30 != (32 : UInt8)) with hb34 | hb34
              · replace h33 := andT h33 hb34
                refine QJ.on rfl rfl (cB hb34) (YldS.yld (y_move rfl)) rfl ?_
                refine QJ.on rfl rfl (cB hb34) (YldS.yld (y_bin rfl rfl rfl)) rfl ?_
                refine QJ.step (YldS.yld (y_pick_t (cB hb34) rfl)) rfl ?_
                obtain rfl := Option.some.inj h33
                exact QJ.cut_end ⟨rfl, rfl, rfl, rfl, rfl, rfl, rfl, trivial⟩
              · obtain rfl := andF h33 hb34
                refine QJ.off rfl rfl (cB hb34) rfl rfl ?_
                refine QJ.off rfl rfl (cB hb34) rfl rfl ?_
                refine QJ.step (YldS.yld (y_pick_f (cB hb34) rfl)) rfl ?_
                exact QJ.cut_end ⟨rfl, rfl, rfl, rfl, rfl, rfl, rfl, trivial⟩
            refine QJ.step (YldS.yld (y_assign rfl)) rfl ?_
            refine QJ.done ?_
            refine PJ.next ?_
            refine WJ.cond (t := t32) rfl (fun hb35 => ?_) (fun hb35 => ?_)
            · replace hm := ifT hm hb35
              refine WJ.quiet ?_
              refine QJ.step (YldS.yld (y_move rfl)) rfl ?_
              refine QJ.step (YldS.yld (y_assign rfl)) rfl ?_
              refine QJ.done ?_
              refine PJ.block_normal (PJ.block_normal ?_)
              exact PJ.joined (l8, v9, x11) [0] hm ⟨rfl, rfl, rfl, rfl, rfl, trivial⟩ ⟨by decide, rfl⟩
            · replace hm := ifF hm hb35
              refine WJ.skip ?_
              refine PJ.block_normal (PJ.block_normal ?_)
              exact PJ.joined (l8, v9, start10) [0] hm ⟨rfl, rfl, rfl, rfl, rfl, trivial⟩ ⟨by decide, rfl⟩
        · rintro ⟨l13, v14, start15⟩ hm
          subst hk17
          refine WJ.quiet ?_
          refine QJ.step (YldS.yld (y_bin rfl rfl rfl)) rfl ?_
          refine QJ.step (YldS.yld (y_move rfl)) rfl ?_
          refine QJ.done ?_
          exact PJ.round (l13, v14, start15, w64 (x11 + 1)) [0] hm ⟨rfl, rfl, rfl, rfl, rfl, trivial⟩ ⟨by decide, rfl⟩
      · replace hm := ifF hm hb12
        refine WJ.exit ?_
        refine PJ.then_exit (PJ.then_exit (PJ.block_exit ?_))
        exact PJ.joined (l8, v9, start10) [0] hm ⟨rfl, rfl, rfl, trivial⟩ ⟨by decide, rfl⟩
  · rintro ⟨l3, v4, start5⟩ hm
    subst hk7
    obtain ⟨kj38, hk39, hm⟩ := withK_open hm
    refine WJ.join (X := (List Str) × Value) (fun (x : (List Str) × Value) => kj38 x.1 = some r) (fun (x : (List Str) × Value) => [(3, x.2)]) (fun (x : (List Str) × Value) => [row x.2 9 fStr x.1]) ?_ ?_
    · clear hk39
      refine WJ.seq ?_
      refine WJ.quiet ?_
      refine QJ.step (YldS.yld (y_move rfl)) rfl ?_
      refine QJ.step (YldS.yld (y_bin rfl rfl rfl)) rfl ?_
      refine QJ.done ?_
      refine PJ.next ?_
      refine WJ.cond (t := decide (start5 ≥ 0)) rfl (fun hb40 => ?_) (fun hb40 => ?_)
      · replace hm := ifT hm hb40
        refine WJ.reg ?_
        refine SJ.q (YldS.yld (y_move rfl)) rfl ?_
        refine SJ.q (YldS.yld (y_move rfl)) rfl ?_
        refine SJ.q (YldS.yld (y_move rfl)) rfl ?_
        obtain ⟨s41, h42, hm⟩ := bindS hm
        refine SJ.q (YldS.yld (y_subStr (i := some start5) (j := none) h42 Try.runUnderlying9 rfl ⟨_, rfl⟩ trivial)) rfl ?_
        refine SJ.buildSlice (R := fStr) (os := [.tmp 44]) [s41] Try.runUnderlying43 Try.sizeOf9 Try.zeroValue9 rfl rfl rfl rfl rfl rfl fun v43 => ?_
        obtain ⟨l44, h45, hm⟩ := bindS hm
        refine SJ.append (k := 1) (R := fStr) h45 rfl Try.underlying43 el9 rfl rfl rfl (fun w hw => (hw.row_rd (k := 0) rfl)) rfl fun v46 => ?_
        refine SJ.q (YldS.yld (y_assign rfl)) rfl ?_
        refine SJ.nil ?_
        exact PJ.joined (l44, v46) [1] hm ⟨rfl, trivial⟩ ⟨by decide, rfl⟩
      · replace hm := ifF hm hb40
        refine WJ.skip ?_
        exact PJ.joined (l3, v4) [0] hm ⟨rfl, trivial⟩ ⟨by decide, rfl⟩
    · rintro ⟨l36, v37⟩ hm
      subst hk39
      refine WJ.seq ?_
      refine WJ.quiet ?_
      refine QJ.step (YldS.yld (y_move rfl)) rfl ?_
      refine QJ.step (YldS.yld (y_assign rfl)) rfl ?_
      refine QJ.done ?_
      refine PJ.next ?_
      refine WJ.ret ?_
      obtain rfl := Option.some.inj hm
      refine PJ.sel (L' := [row v37 9 fStr l36]) [0] ⟨by decide, rfl⟩ ?_
      exact PJ.retn (vs := [v37]) Try.results145 ⟨rfl, trivial⟩ ⟨_, rfl, rfl⟩

theorem ok_joinO {xs : List Str} {sep r : Str} (hm : joinO xs sep = some r) (w : World) (v : Value) (hr : RdS w (cx w).Fz v fStr.rp xs) (hsp : SpN v) :
    Calls Try.prog 85 #[v, str sep] w (Ret (cx w) (str r)) :=
  joinO_ok Try.strings_Join Try.strings_Join_none hm w hr hsp

set_option maxRecDepth 100000 in
set_option maxHeartbeats 1000000 in
theorem ok_i_noteWords {N : Nat} {text1 : Str} {r : (List Str) × Bool} (hm : i_noteWords N text1 = some r) (w : World)  :
    Calls Try.prog 121 #[str text1] w (RetG (cx w) fun u L => ∃ (u1 : Value), (u = tup [u1, .bool r.2] ∧ L = [row u1 9 fStr r.1])) := by
  unfold i_noteWords at hm
  refine Calls.enter [str text1] Try.func121 rfl Try.ntmps121 rfl ?_
  refine WJ.seq ?_
  refine WJ.quiet ?_
  refine QJ.step (YldS.yld (y_assign rfl)) rfl ?_
  refine QJ.step (YldS.yld (y_assign rfl)) rfl ?_
  refine QJ.done ?_
  refine PJ.next ?_
  refine WJ.seq ?_
  refine WJ.seq ?_
  refine WJ.quiet ?_
  refine QJ.step (YldS.yld (y_move rfl)) rfl ?_
  refine QJ.step (YldS.yld (y_lenStr Try.runUnderlying9 rfl)) rfl ?_
  refine QJ.step (YldS.yld (y_bin rfl rfl rfl)) rfl ?_
  refine QJ.done ?_
  refine PJ.next ?_
  refine WJ.cond (t := decide ((List.length text1 : Int) > 200)) rfl (fun hb2 => ?_) (fun hb2 => ?_)
  · replace hm := ifT hm hb2
    refine WJ.seq ?_
    refine WJ.quiet ?_
    refine QJ.step (YldS.yld (y_assign rfl)) rfl ?_
    refine QJ.step (YldS.yld (y_assign rfl)) rfl ?_
    refine QJ.done ?_
    refine PJ.next ?_
    refine WJ.ret ?_
    refine PJ.then_ret ?_
    refine PJ.nil_row 9 fStr ?_
    obtain rfl := Option.some.inj hm
    refine PJ.sel (L' := [row (.slice none 0 0) 9 fStr []]) [0] ⟨by decide, rfl⟩ ?_
    exact PJ.retn (vs := [(.slice none 0 0), .bool false]) Try.results121 ⟨rfl, rfl, trivial⟩ ⟨_, rfl, rfl⟩
  · replace hm := ifF hm hb2
    refine WJ.skip ?_
    refine PJ.next ?_
    refine WJ.seq ?_
    refine WJ.reg ?_
    refine SJ.q (YldS.yld (y_move rfl)) rfl ?_
    obtain ⟨r3, h4, hm⟩ := bindS hm
    refine SJ.call Try.call145 rfl (fun w hw => ok_i_SplitWords h4 w ) rfl ?_
    rintro v5 _ ⟨_, rfl, rfl⟩
    refine SJ.q (YldS.yld (y_assign rfl)) rfl ?_
    refine SJ.nil ?_
    refine PJ.next ?_
    obtain ⟨kj6, hk7, hm⟩ := withK_open hm
    refine WJ.join (X := Unit) (fun (_ : Unit) => kj6  = some r) (fun (_ : Unit) => [(0, str text1), (4, v5)]) (fun (_ : Unit) => [row v5 9 fStr r3]) ?_ ?_
    · clear hk7
      refine WJ.seq ?_
      refine WJ.quiet ?_
      refine QJ.step (YldS.yld (y_move rfl)) rfl ?_
      refine QJ.step (YldS.yld (y_lenRow (k := 0) rfl Try.runUnderlying43 rfl)) rfl ?_
      refine QJ.step (YldS.yld (y_move rfl)) rfl ?_
      refine QJ.done ?_
      refine PJ.next ?_
      refine WJ.block ?_
      refine WJ.sel (L' := (fun (x : Int) => [row v5 9 fStr r3]) 0) [0] ⟨by decide, rfl⟩ ?_
      refine WJ.sub (m' := (fun (x : Int) => [(0, str text1), (4, v5), (12, v5), (13, .int .i64 (List.length r3 : Int)), (14, .int .i64 x)]) 0) ⟨rfl, rfl, rfl, rfl, rfl, trivial⟩ ?_
      refine WJ.loop (X := Int) (fun N (x : Int) => i_noteWords_l1 kj6 r3 N x = some r) (fun (x : Int) => [(0, str text1), (4, v5), (12, v5), (13, .int .i64 (List.length r3 : Int)), (14, .int .i64 x)]) (fun (x : Int) => [row v5 9 fStr r3]) ?_ N 0 hm
      · rintro N x8 hI
        have hm := hI; clear hI
        cases N with
        | zero => cases hm
        | succ N =>
        unfold i_noteWords_l1 at hm
        refine WJ.seq ?_
        refine WJ.quiet ?_
        refine QJ.step (YldS.yld (y_bin rfl rfl rfl)) rfl ?_
        refine QJ.done ?_
        refine PJ.next ?_
        refine WJ.seq ?_
        refine WJ.cond (t := decide (x8 < (List.length r3 : Int))) rfl (fun hb9 => ?_) (fun hb9 => ?_)
        · replace hm := ifT hm hb9
          refine WJ.skip ?_
          refine PJ.next ?_
          refine WJ.seq ?_
          refine WJ.block ?_
          refine WJ.seq ?_
          refine WJ.quiet ?_
          obtain ⟨e10, h11, hm⟩ := bindS hm
          refine QJ.step (YldS.yld (y_ixRow (k := 0) (R := fStr) rfl Try.runUnderlying43 Try.sizeOf9 rfl rfl h11)) rfl ?_
          refine QJ.step (YldS.yld (y_loadR (k := 0) (i := (Int.toNat x8)) (off := 0) (u := str e10) rfl Try.isAgg9 rfl (idx_get h11) rfl)) rfl ?_
          refine QJ.step (YldS.yld (y_assign rfl)) rfl ?_
          refine QJ.done ?_
          refine PJ.next ?_
          refine WJ.seq ?_
          refine WJ.quiet ?_
          refine QJ.step (YldS.yld (y_move rfl)) rfl ?_
          obtain ⟨r12, h13, hm⟩ := bindS hm
          refine QJ.step (y_call Try.call127 rfl (RetG.quiet fun w hw => ok_i_isSmallWord h13 w )) rfl ?_
          refine QJ.step (YldS.yld (y_not rfl)) rfl ?_
          refine QJ.done ?_
          refine PJ.next ?_
          refine WJ.cond (t := !r12) rfl (fun hb14 => ?_) (fun hb14 => ?_)
          · replace hm := ifT hm hb14
            refine WJ.seq ?_
            refine WJ.quiet ?_
            refine QJ.step (YldS.yld (y_assign rfl)) rfl ?_
            refine QJ.step (YldS.yld (y_assign rfl)) rfl ?_
            refine QJ.done ?_
            refine PJ.next ?_
            refine WJ.ret ?_
            refine PJ.block_ret (PJ.then_ret (PJ.then_ret (PJ.block_ret (PJ.then_ret ?_))))
            refine PJ.nil_row 9 fStr ?_
            obtain rfl := Option.some.inj hm
            refine PJ.sel (L' := [row (.slice none 0 0) 9 fStr []]) [0] ⟨by decide, rfl⟩ ?_
            exact PJ.retn (vs := [(.slice none 0 0), .bool false]) Try.results121 ⟨rfl, rfl, trivial⟩ ⟨_, rfl, rfl⟩
          · replace hm := ifF hm hb14
            refine WJ.skip ?_
            refine PJ.block_normal (PJ.next ?_)
            refine WJ.quiet ?_
            refine QJ.step (YldS.yld (y_bin rfl rfl rfl)) rfl ?_
            refine QJ.step (YldS.yld (y_move rfl)) rfl ?_
            refine QJ.done ?_
            exact PJ.round (w64 (x8 + 1)) [0] hm ⟨rfl, rfl, rfl, rfl, rfl, trivial⟩ ⟨by decide, rfl⟩
        · replace hm := ifF hm hb9
          refine WJ.exit ?_
          refine PJ.then_exit (PJ.then_exit (PJ.block_exit ?_))
          exact PJ.joined () [0] hm ⟨rfl, rfl, trivial⟩ ⟨by decide, rfl⟩
    · rintro _ hm
      subst hk7
      refine WJ.seq ?_
      refine WJ.quiet ?_
      refine QJ.step (YldS.yld (y_move rfl)) rfl ?_
      refine QJ.step (YldS.yld (y_move rfl)) rfl ?_
      obtain ⟨r15, h16, hm⟩ := bindS hm
      refine QJ.step (y_call Try.call85 rfl (RetG.quiet fun w hw => ok_joinO h16 w _ (hw.row_rd (k := 0) rfl) (hw.row_sp (k := 0) rfl))) rfl ?_
      refine QJ.step (YldS.yld (y_move rfl)) rfl ?_
      refine QJ.step (YldS.yld (y_binS rfl rfl rfl)) rfl ?_
      refine QJ.step (YldS.yld (y_assign rfl)) rfl ?_
      refine QJ.step (YldS.yld (y_assign rfl)) rfl ?_
      refine QJ.done ?_
      refine PJ.next ?_
      refine WJ.ret ?_
      obtain rfl := Option.some.inj hm
      refine PJ.sel (L' := [row v5 9 fStr r3]) [0] ⟨by decide, rfl⟩ ?_
      exact PJ.retn (vs := [v5, .bool (r15 == text1)]) Try.results121 ⟨rfl, rfl, trivial⟩ ⟨_, rfl, rfl⟩

set_option maxRecDepth 100000 in
set_option maxHeartbeats 1000000 in
theorem ok_i_noteCode {N : Nat} {list1 : List Abbr} {text4 : Str} {r : (List Str) × Int} (hm : i_noteCode N list1 text4 = some r) (w : World) (v2 : Value) (hr3 : RdS w (cx w).Fz v2 fAbbr.rp list1) :
    Calls Try.prog 83 #[v2, str text4] w (RetG (cx w) fun u L => ∃ (u1 : Value), (u = tup [u1, .int .i64 r.2] ∧ L = [row u1 9 fStr r.1])) := by
  unfold i_noteCode at hm
  refine Calls.enter [v2, str text4] Try.func83 rfl Try.ntmps83 rfl ?_
  refine WJ.seq ?_
  refine WJ.quiet ?_
  refine QJ.step (YldS.yld (y_assign rfl)) rfl ?_
  refine QJ.step (YldS.yld (y_assign rfl)) rfl ?_
  refine QJ.done ?_
  refine PJ.next ?_
  refine WJ.seq ?_
  refine WJ.seq ?_
  refine WJ.quiet ?_
  refine QJ.step (YldS.yld (y_move rfl)) rfl ?_
  obtain ⟨r5, h6, hm⟩ := bindS hm
  refine QJ.step (y_call Try.call57 rfl (RetG.quiet fun w hw => ok_i_ValidAbbrs h6 w _ (hr3.st hw))) rfl ?_
  refine QJ.step (YldS.yld (y_not rfl)) rfl ?_
  refine QJ.done ?_
  refine PJ.next ?_
  refine WJ.cond (t := !r5) rfl (fun hb7 => ?_) (fun hb7 => ?_)
  · replace hm := ifT hm hb7
    refine WJ.seq ?_
    refine WJ.quiet ?_
    refine QJ.step (YldS.yld (y_assign rfl)) rfl ?_
    refine QJ.step (YldS.yld (y_assign rfl)) rfl ?_
    refine QJ.done ?_
    refine PJ.next ?_
    refine WJ.ret ?_
    refine PJ.then_ret ?_
    refine PJ.nil_row 9 fStr ?_
    obtain rfl := Option.some.inj hm
    refine PJ.sel (L' := [row (.slice none 0 0) 9 fStr []]) [0] ⟨by decide, rfl⟩ ?_
    exact PJ.retn (vs := [(.slice none 0 0), .int .i64 1]) Try.results83 ⟨rfl, rfl, trivial⟩ ⟨_, rfl, rfl⟩
  · replace hm := ifF hm hb7
    refine WJ.skip ?_
    refine PJ.next ?_
    refine WJ.seq ?_
    refine WJ.reg ?_
    refine SJ.q (YldS.yld (y_move rfl)) rfl ?_
    obtain ⟨r8, h9, hm⟩ := bindS hm
    refine SJ.call Try.call121 rfl (fun w hw => ok_i_noteWords h9 w ) rfl ?_
    rintro _ _ ⟨v10, rfl, rfl⟩
    refine SJ.q (YldS.yld (y_move rfl)) rfl ?_
    refine SJ.q (YldS.yld (y_extract rfl rfl)) rfl ?_
    refine SJ.q (YldS.yld (y_extract rfl rfl)) rfl ?_
    refine SJ.q (YldS.yld (y_assign rfl)) rfl ?_
    refine SJ.q (YldS.yld (y_assign rfl)) rfl ?_
    refine SJ.nil ?_
    refine PJ.next ?_
    refine WJ.seq ?_
    refine WJ.seq ?_
    refine WJ.quiet ?_
    refine QJ.step (YldS.yld (y_move rfl)) rfl ?_
    refine QJ.step (YldS.yld (y_not rfl)) rfl ?_
    refine QJ.done ?_
    refine PJ.next ?_
    refine WJ.cond (t := !r8.2) rfl (fun hb11 => ?_) (fun hb11 => ?_)
    · replace hm := ifT hm hb11
      refine WJ.seq ?_
      refine WJ.quiet ?_
      refine QJ.step (YldS.yld (y_assign rfl)) rfl ?_
      refine QJ.step (YldS.yld (y_assign rfl)) rfl ?_
      refine QJ.done ?_
      refine PJ.next ?_
      refine WJ.ret ?_
      refine PJ.then_ret ?_
      refine PJ.nil_row 9 fStr ?_
      obtain rfl := Option.some.inj hm
      refine PJ.sel (L' := [row (.slice none 0 0) 9 fStr []]) [0] ⟨by decide, rfl⟩ ?_
      exact PJ.retn (vs := [(.slice none 0 0), .int .i64 7]) Try.results83 ⟨rfl, rfl, trivial⟩ ⟨_, rfl, rfl⟩
    · replace hm := ifF hm hb11
      refine WJ.skip ?_
      refine PJ.next ?_
      refine WJ.seq ?_
      refine WJ.quiet ?_
      refine QJ.step (YldS.yld (y_move rfl)) rfl ?_
      refine QJ.step (YldS.yld (y_assign rfl)) rfl ?_
      refine QJ.step (YldS.yld (y_assign rfl)) rfl ?_
      refine QJ.done ?_
      refine PJ.next ?_
      refine WJ.ret ?_
      obtain rfl := Option.some.inj hm
      refine PJ.sel (L' := [row v10 9 fStr r8.1]) [0] ⟨by decide, rfl⟩ ?_
      exact PJ.retn (vs := [v10, .int .i64 0]) Try.results83 ⟨rfl, rfl, trivial⟩ ⟨_, rfl, rfl⟩

set_option maxRecDepth 100000 in
set_option maxHeartbeats 1000000 in
theorem ok_i_longOf {N : Nat} {list1 : List Abbr} {word4 : Str} {r : Str × Bool} (hm : i_longOf N list1 word4 = some r) (w : World) (v2 : Value) (hr3 : RdS w (cx w).Fz v2 fAbbr.rp list1) :
    Calls Try.prog 84 #[v2, str word4] w (Ret (cx w) (tup [str r.1, .bool r.2])) := by
  unfold i_longOf at hm
  refine Calls.enter [v2, str word4] Try.func84 rfl Try.ntmps84 rfl ?_
  refine WJ.seq ?_
  refine WJ.quiet ?_
  refine QJ.step (YldS.yld (y_assign rfl)) rfl ?_
  refine QJ.step (YldS.yld (y_assign rfl)) rfl ?_
  refine QJ.done ?_
  refine PJ.next ?_
  obtain ⟨kj5, hk6, hm⟩ := withK_open hm
  refine WJ.join (X := Unit) (fun (_ : Unit) => kj5  = some r) (fun (_ : Unit) => []) (fun (_ : Unit) => []) ?_ ?_
  · clear hk6
    refine WJ.seq ?_
    refine WJ.quiet ?_
    refine QJ.step (YldS.yld (y_move rfl)) rfl ?_
    refine QJ.step (YldS.yld (y_lenS Try.runUnderlying56 hr3 rfl)) rfl ?_
    refine QJ.step (YldS.yld (y_move rfl)) rfl ?_
    refine QJ.done ?_
    refine PJ.next ?_
    refine WJ.block ?_
    refine WJ.sel (L' := (fun (x : Int) => []) 0) [] ⟨List.nodup_nil, rfl⟩ ?_
    refine WJ.sub (m' := (fun (x : Int) => [(1, str word4), (8, v2), (9, .int .i64 (List.length list1 : Int)), (10, .int .i64 x)]) 0) ⟨rfl, rfl, rfl, rfl, trivial⟩ ?_
    refine WJ.loop (X := Int) (fun N (x : Int) => i_longOf_l1 kj5 list1 word4 N x = some r) (fun (x : Int) => [(1, str word4), (8, v2), (9, .int .i64 (List.length list1 : Int)), (10, .int .i64 x)]) (fun (x : Int) => []) ?_ N 0 hm
    · rintro N x7 hI
      have hm := hI; clear hI
      cases N with
      | zero => cases hm
      | succ N =>
      unfold i_longOf_l1 at hm
      refine WJ.seq ?_
      refine WJ.quiet ?_
      refine QJ.step (YldS.yld (y_bin rfl rfl rfl)) rfl ?_
      refine QJ.done ?_
      refine PJ.next ?_
      refine WJ.seq ?_
      refine WJ.cond (t := decide (x7 < (List.length list1 : Int))) rfl (fun hb8 => ?_) (fun hb8 => ?_)
      · replace hm := ifT hm hb8
        refine WJ.skip ?_
        refine PJ.next ?_
        refine WJ.seq ?_
        refine WJ.block ?_
        refine WJ.seq ?_
        refine WJ.reg ?_
        obtain ⟨e9, h10, hm⟩ := bindS hm
        obtain ⟨ad11, _, rfl, ha12, hy13⟩ := hr3.elem h10
        refine SJ.q (YldS.yld (hy13 Try.runUnderlying56 Try.sizeOf64 rfl rfl)) rfl ?_
        refine SJ.q (YldS.yld (y_loadN Try.isAgg64 Try.sizeOf64 rfl ha12 St.frozenC rfl)) rfl ?_
        refine SJ.alloc (cs := [str [], str []]) Try.zeroValue64 rfl rfl fun g14 => ?_
        refine SJ.storeL (k := 0) (off := 0) (us := [str e9.short, str e9.long]) rfl rfl rfl rfl Try.sizeOf64 rfl rfl ?_
        refine SJ.nil ?_
        refine PJ.next ?_
        refine WJ.seq ?_
        refine WJ.quiet ?_
        refine QJ.step (YldS.yld (y_fldB (o := 0) fld64_0 rfl)) rfl ?_
        refine QJ.step (YldS.yld (y_loadB (k := 0) (off := 0) (v := str e9.short) rfl Try.isAgg9 rfl rfl)) rfl ?_
        refine QJ.step (YldS.yld (y_move rfl)) rfl ?_
        refine QJ.step (YldS.yld (y_binS rfl rfl rfl)) rfl ?_
        refine QJ.done ?_
        refine PJ.next ?_
        refine WJ.cond (t := (e9.short == word4)) rfl (fun hb15 => ?_) (fun hb15 => ?_)
        · replace hm := ifT hm hb15
          refine WJ.seq ?_
          refine WJ.quiet ?_
          refine QJ.step (YldS.yld (y_fldB (o := 0) fld64_1 rfl)) rfl ?_
          refine QJ.step (YldS.yld (y_loadB (k := 0) (off := 1) (v := str e9.long) rfl Try.isAgg9 rfl rfl)) rfl ?_
          refine QJ.step (YldS.yld (y_assign rfl)) rfl ?_
          refine QJ.step (YldS.yld (y_assign rfl)) rfl ?_
          refine QJ.done ?_
          refine PJ.next ?_
          refine WJ.ret ?_
          refine PJ.block_ret (PJ.then_ret (PJ.then_ret (PJ.block_ret (PJ.then_ret ?_))))
          obtain rfl := Option.some.inj hm
          refine PJ.sel (L' := []) [] ⟨List.nodup_nil, rfl⟩ ?_
          exact PJ.retn (vs := [str e9.long, .bool true]) Try.results84 ⟨rfl, rfl, trivial⟩ ⟨rfl, rfl⟩
        · replace hm := ifF hm hb15
          refine WJ.skip ?_
          refine PJ.block_normal (PJ.next ?_)
          refine WJ.quiet ?_
          refine QJ.step (YldS.yld (y_bin rfl rfl rfl)) rfl ?_
          refine QJ.step (YldS.yld (y_move rfl)) rfl ?_
          refine QJ.done ?_
          exact PJ.round (w64 (x7 + 1)) [] hm ⟨rfl, rfl, rfl, rfl, trivial⟩ ⟨List.nodup_nil, rfl⟩
      · replace hm := ifF hm hb8
        refine WJ.exit ?_
        refine PJ.then_exit (PJ.then_exit (PJ.block_exit ?_))
        exact PJ.joined () [] hm trivial ⟨List.nodup_nil, rfl⟩
  · rintro _ hm
    subst hk6
    refine WJ.seq ?_
    refine WJ.quiet ?_
    refine QJ.step (YldS.yld (y_assign rfl)) rfl ?_
    refine QJ.step (YldS.yld (y_assign rfl)) rfl ?_
    refine QJ.done ?_
    refine PJ.next ?_
    refine WJ.ret ?_
    obtain rfl := Option.some.inj hm
    refine PJ.sel (L' := []) [] ⟨List.nodup_nil, rfl⟩ ?_
    exact PJ.retn (vs := [str [], .bool false]) Try.results84 ⟨rfl, rfl, trivial⟩ ⟨rfl, rfl⟩

set_option maxRecDepth 100000 in
set_option maxHeartbeats 1000000 in
theorem ok_i_ShortenText {N : Nat} {list1 : List Abbr} {text4 : Str} {r : Str × Int} (hm : i_ShortenText N list1 text4 = some r) (w : World) (v2 : Value) (hr3 : RdS w (cx w).Fz v2 fAbbr.rp list1) :
    Calls Try.prog 35 #[v2, str text4] w (Ret (cx w) (tup [str r.1, .int .i64 r.2])) := by
  unfold i_ShortenText at hm
  refine Calls.enter [v2, str text4] Try.func35 rfl Try.ntmps35 rfl ?_
  refine WJ.seq ?_
  refine WJ.quiet ?_
  refine QJ.step (YldS.yld (y_assign rfl)) rfl ?_
  refine QJ.step (YldS.yld (y_assign rfl)) rfl ?_
  refine QJ.done ?_
  refine PJ.next ?_
  refine WJ.seq ?_
  refine WJ.reg ?_
  refine SJ.q (YldS.yld (y_move rfl)) rfl ?_
  refine SJ.q (YldS.yld (y_move rfl)) rfl ?_
  obtain ⟨r5, h6, hm⟩ := bindS hm
  refine SJ.call Try.call83 rfl (fun w hw => ok_i_noteCode h6 w _ (hr3.st hw)) rfl ?_
  rintro _ _ ⟨v7, rfl, rfl⟩
  refine SJ.q (YldS.yld (y_move rfl)) rfl ?_
  refine SJ.q (YldS.yld (y_extract rfl rfl)) rfl ?_
  refine SJ.q (YldS.yld (y_extract rfl rfl)) rfl ?_
  refine SJ.q (YldS.yld (y_assign rfl)) rfl ?_
  refine SJ.q (YldS.yld (y_assign rfl)) rfl ?_
  refine SJ.nil ?_
  refine PJ.next ?_
  refine WJ.seq ?_
  refine WJ.seq ?_
  refine WJ.quiet ?_
  refine QJ.step (YldS.yld (y_move rfl)) rfl ?_
  refine QJ.step (YldS.yld (y_bin rfl rfl rfl)) rfl ?_
  refine QJ.done ?_
  refine PJ.next ?_
  refine WJ.cond (t := (r5.2 != 0)) rfl (fun hb8 => ?_) (fun hb8 => ?_)
  · replace hm := ifT hm hb8
    refine WJ.seq ?_
    refine WJ.quiet ?_
    refine QJ.step (YldS.yld (y_move rfl)) rfl ?_
    refine QJ.step (YldS.yld (y_assign rfl)) rfl ?_
    refine QJ.step (YldS.yld (y_assign rfl)) rfl ?_
    refine QJ.done ?_
    refine PJ.next ?_
    refine WJ.ret ?_
    refine PJ.then_ret ?_
    obtain rfl := Option.some.inj hm
    refine PJ.sel (L' := []) [] ⟨List.nodup_nil, rfl⟩ ?_
    exact PJ.retn (vs := [str [], .int .i64 r5.2]) Try.results35 ⟨rfl, rfl, trivial⟩ ⟨rfl, rfl⟩
  · replace hm := ifF hm hb8
    refine WJ.skip ?_
    refine PJ.next ?_
    obtain ⟨kj10, hk11, hm⟩ := withK_open hm
    refine WJ.join (X := (List Str)) (fun (x : (List Str)) => kj10 x = some r) (fun (x : (List Str)) => [(6, v7)]) (fun (x : (List Str)) => [row v7 9 fStr x]) ?_ ?_
    · clear hk11
      refine WJ.seq ?_
      refine WJ.quiet ?_
      refine QJ.step (YldS.yld (y_move rfl)) rfl ?_
      refine QJ.step (YldS.yld (y_lenRow (k := 0) rfl Try.runUnderlying43 rfl)) rfl ?_
      refine QJ.step (YldS.yld (y_move rfl)) rfl ?_
      refine QJ.done ?_
      refine PJ.next ?_
      refine WJ.block ?_
      refine WJ.sel (L' := (fun (x : (List Str) × Int) => [row v7 9 fStr x.1]) (r5.1, 0)) [0] ⟨by decide, rfl⟩ ?_
      refine WJ.sub (m' := (fun (x : (List Str) × Int) => [(0, v2), (6, v7), (24, v7), (25, .int .i64 (List.length r5.1 : Int)), (26, .int .i64 x.2)]) (r5.1, 0)) ⟨rfl, rfl, rfl, rfl, rfl, trivial⟩ ?_
      refine WJ.loop (X := (List Str) × Int) (fun N (x : (List Str) × Int) => i_ShortenText_l1 kj10 list1 r5 N x.1 x.2 = some r) (fun (x : (List Str) × Int) => [(0, v2), (6, v7), (24, v7), (25, .int .i64 (List.length r5.1 : Int)), (26, .int .i64 x.2)]) (fun (x : (List Str) × Int) => [row v7 9 fStr x.1]) ?_ N (r5.1, 0) hm
      · rintro N ⟨l12, x13⟩ hI
        have hm := hI; clear hI
        cases N with
        | zero => cases hm
        | succ N =>
        unfold i_ShortenText_l1 at hm
        refine WJ.seq ?_
        refine WJ.quiet ?_
        refine QJ.step (YldS.yld (y_bin rfl rfl rfl)) rfl ?_
        refine QJ.done ?_
        refine PJ.next ?_
        refine WJ.seq ?_
        refine WJ.cond (t := decide (x13 < (List.length r5.1 : Int))) rfl (fun hb14 => ?_) (fun hb14 => ?_)
        · replace hm := ifT hm hb14
          refine WJ.skip ?_
          refine PJ.next ?_
          obtain ⟨kj16, hk17, hm⟩ := withK_open hm
          refine WJ.join (X := (List Str)) (fun (x : (List Str)) => kj16 x = some r) (fun (x : (List Str)) => [(0, v2), (6, v7), (24, v7), (25, .int .i64 (List.length r5.1 : Int)), (26, .int .i64 x13)]) (fun (x : (List Str)) => [row v7 9 fStr x]) ?_ ?_
          · clear hk17
            refine WJ.block ?_
            refine WJ.seq ?_
            refine WJ.quiet ?_
            refine QJ.step (YldS.yld (y_move rfl)) rfl ?_
            obtain ⟨e18, h19, hm⟩ := bindS hm
            refine QJ.step (YldS.yld (y_ixRow (k := 0) (R := fStr) rfl Try.runUnderlying43 Try.sizeOf9 rfl rfl h19)) rfl ?_
            refine QJ.step (YldS.yld (y_loadR (k := 0) (i := (Int.toNat x13)) (off := 0) (u := str e18) rfl Try.isAgg9 rfl (idx_get h19) rfl)) rfl ?_
            refine QJ.step (YldS.yld (y_assign rfl)) rfl ?_
            refine QJ.step (YldS.yld (y_assign rfl)) rfl ?_
            refine QJ.done ?_
            refine PJ.next ?_
            refine WJ.seq ?_
            refine WJ.quiet ?_
            refine QJ.step (YldS.yld (y_assign rfl)) rfl ?_
            refine QJ.done ?_
            refine PJ.next ?_
            obtain ⟨kj21, hk22, hm⟩ := withK_open hm
            refine WJ.join (X := Str) (fun (x : Str) => kj21 x = some r) (fun (x : Str) => [(0, v2), (6, v7), (8, .int .i64 x13), (9, str e18), (10, str x), (24, v7), (25, .int .i64 (List.length r5.1 : Int)), (26, .int .i64 x13)]) (fun (x : Str) => [row v7 9 fStr l12]) ?_ ?_
            · clear hk22
              refine WJ.seq ?_
              refine WJ.quiet ?_
              refine QJ.step (YldS.yld (y_move rfl)) rfl ?_
              refine QJ.step (YldS.yld (y_move rfl)) rfl ?_
              obtain ⟨r23, h24, hm⟩ := bindS hm
              refine QJ.step (y_call Try.call84 rfl (RetG.quiet fun w hw => ok_i_longOf h24 w _ (hr3.st hw))) rfl ?_
              refine QJ.step (YldS.yld (y_move rfl)) rfl ?_
              refine QJ.step (YldS.yld (y_extract rfl rfl)) rfl ?_
              refine QJ.step (YldS.yld (y_extract rfl rfl)) rfl ?_
              refine QJ.step (YldS.yld (y_assign rfl)) rfl ?_
              refine QJ.step (YldS.yld (y_assign rfl)) rfl ?_
              refine QJ.done ?_
              refine PJ.next ?_
              refine WJ.seq ?_
              refine WJ.quiet ?_
              refine QJ.step (YldS.yld (y_move rfl)) rfl ?_
              refine QJ.step (YldS.yld (y_not rfl)) rfl ?_
              refine QJ.done ?_
              refine PJ.next ?_
              refine WJ.cond (t := !r23.2) rfl (fun hb25 => ?_) (fun hb25 => ?_)
              · replace hm := ifT hm hb25
                refine WJ.quiet ?_
                refine QJ.step (YldS.yld (y_move rfl)) rfl ?_
                refine QJ.step (YldS.yld (y_assign rfl)) rfl ?_
                refine QJ.done ?_
                exact PJ.joined e18 [0] hm ⟨rfl, rfl, rfl, rfl, rfl, rfl, rfl, rfl, trivial⟩ ⟨by decide, rfl⟩
              · replace hm := ifF hm hb25
                refine WJ.skip ?_
                exact PJ.joined [] [0] hm ⟨rfl, rfl, rfl, rfl, rfl, rfl, rfl, rfl, trivial⟩ ⟨by decide, rfl⟩
            · rintro best20 hm
              subst hk22
              obtain ⟨kj27, hk28, hm⟩ := withK_open hm
              refine WJ.join (X := Str) (fun (x : Str) => kj27 x = some r) (fun (x : Str) => [(0, v2), (6, v7), (8, .int .i64 x13), (10, str x), (24, v7), (25, .int .i64 (List.length r5.1 : Int)), (26, .int .i64 x13)]) (fun (x : Str) => [row v7 9 fStr l12]) ?_ ?_
              · clear hk28
                refine WJ.seq ?_
                refine WJ.quiet ?_
                refine QJ.step (YldS.yld (y_move rfl)) rfl ?_
                refine QJ.step (YldS.yld (y_lenS Try.runUnderlying56 hr3 rfl)) rfl ?_
                refine QJ.step (YldS.yld (y_move rfl)) rfl ?_
                refine QJ.done ?_
                refine PJ.next ?_
                refine WJ.block ?_
                refine WJ.sel (L' := (fun (x : Str × Int) => [row v7 9 fStr l12]) (best20, 0)) [0] ⟨by decide, rfl⟩ ?_
                refine WJ.sub (m' := (fun (x : Str × Int) => [(0, v2), (6, v7), (8, .int .i64 x13), (9, str e18), (10, str x.1), (24, v7), (25, .int .i64 (List.length r5.1 : Int)), (26, .int .i64 x13), (40, v2), (41, .int .i64 (List.length list1 : Int)), (42, .int .i64 x.2)]) (best20, 0)) ⟨rfl, rfl, rfl, rfl, rfl, rfl, rfl, rfl, rfl, rfl, rfl, trivial⟩ ?_
                refine WJ.loop (X := Str × Int) (fun N (x : Str × Int) => i_ShortenText_l2 kj27 list1 e18 N x.1 x.2 = some r) (fun (x : Str × Int) => [(0, v2), (6, v7), (8, .int .i64 x13), (9, str e18), (10, str x.1), (24, v7), (25, .int .i64 (List.length r5.1 : Int)), (26, .int .i64 x13), (40, v2), (41, .int .i64 (List.length list1 : Int)), (42, .int .i64 x.2)]) (fun (x : Str × Int) => [row v7 9 fStr l12]) ?_ N (best20, 0) hm
                · rintro N ⟨best29, x30⟩ hI
                  have hm := hI; clear hI
                  cases N with
                  | zero => cases hm
                  | succ N =>
                  unfold i_ShortenText_l2 at hm
                  refine WJ.seq ?_
                  refine WJ.quiet ?_
                  refine QJ.step (YldS.yld (y_bin rfl rfl rfl)) rfl ?_
                  refine QJ.done ?_
                  refine PJ.next ?_
                  refine WJ.seq ?_
                  refine WJ.cond (t := decide (x30 < (List.length list1 : Int))) rfl (fun hb31 => ?_) (fun hb31 => ?_)
                  · replace hm := ifT hm hb31
                    refine WJ.skip ?_
                    refine PJ.next ?_
                    obtain ⟨kj33, hk34, hm⟩ := withK_open hm
                    refine WJ.join (X := Str) (fun (x : Str) => kj33 x = some r) (fun (x : Str) => [(0, v2), (6, v7), (8, .int .i64 x13), (9, str e18), (10, str x), (24, v7), (25, .int .i64 (List.length r5.1 : Int)), (26, .int .i64 x13), (40, v2), (41, .int .i64 (List.length list1 : Int)), (42, .int .i64 x30)]) (fun (x : Str) => [row v7 9 fStr l12]) ?_ ?_
                    · clear hk34
                      refine WJ.block ?_
                      refine WJ.seq ?_
                      refine WJ.reg ?_
                      obtain ⟨e35, h36, hm⟩ := bindS hm
                      obtain ⟨ad37, _, rfl, ha38, hy39⟩ := hr3.elem h36
                      refine SJ.q (YldS.yld (hy39 Try.runUnderlying56 Try.sizeOf64 rfl rfl)) rfl ?_
                      refine SJ.q (YldS.yld (y_loadN Try.isAgg64 Try.sizeOf64 rfl ha38 St.frozenC rfl)) rfl ?_
                      refine SJ.alloc (cs := [str [], str []]) Try.zeroValue64 rfl rfl fun g40 => ?_
                      refine SJ.storeL (k := 0) (off := 0) (us := [str e35.short, str e35.long]) rfl rfl rfl rfl Try.sizeOf64 rfl rfl ?_
                      refine SJ.nil ?_
                      refine PJ.next ?_
                      refine WJ.seq ?_
                      refine WJ.quiet ?_
                      refine QJ.step (YldS.yld (y_fldB (o := 0) fld64_1 rfl)) rfl ?_
                      refine QJ.step (YldS.yld (y_loadB (k := 0) (off := 1) (v := str e35.long) rfl Try.isAgg9 rfl rfl)) rfl ?_
                      refine QJ.step (YldS.yld (y_move rfl)) rfl ?_
                      refine QJ.step (YldS.yld (y_binS rfl rfl rfl)) rfl ?_
                      refine QJ.step (YldS.yld (y_move rfl)) rfl ?_
                      obtain ⟨t41, h42, hm⟩ := bindS hm
                      refine QJ.cut 11 [(0, v2), (6, v7), (8, .int .i64 x13), (9, str e18), (10, str best29), (14, pt g40 0), (24, v7), (25, .int .i64 (List.length r5.1 : Int)), (26, .int .i64 x13), (40, v2), (41, .int .i64 (List.length list1 : Int)), (42, .int .i64 x30), (61, .bool t41)] ?_ ?_
                      · rcases Bool.eq_false_or_eq_true (e35.long == e18) with hb43 | hb43
                        · replace h42 := andT h42 hb43
                          refine QJ.on rfl rfl (cB hb43) (YldS.yld (y_move rfl)) rfl ?_
                          refine QJ.on rfl rfl (cB hb43) (YldS.yld (y_binS rfl rfl rfl)) rfl ?_
                          refine QJ.on rfl rfl (cB hb43) (YldS.yld (y_move rfl)) rfl ?_
                          obtain ⟨t44, h45, h42⟩ := bindS h42
                          refine QJ.cut 7 [(0, v2), (6, v7), (8, .int .i64 x13), (9, str e18), (10, str best29), (14, pt g40 0), (24, v7), (25, .int .i64 (List.length r5.1 : Int)), (26, .int .i64 x13), (40, v2), (41, .int .i64 (List.length list1 : Int)), (42, .int .i64 x30), (50, .bool (e35.long == e18)), (60, .bool t44)] ?_ ?_
                          · rcases Bool.eq_false_or_eq_true (best29 == []) with hb46 | hb46
                            · obtain rfl := orT h45 hb46
                              refine QJ.off rfl rfl (cB hb46) rfl rfl ?_
                              refine QJ.off rfl rfl (cB hb46) rfl rfl ?_
                              refine QJ.off rfl rfl (cB hb46) rfl rfl ?_
                              refine QJ.off rfl rfl (cB hb46) rfl rfl ?_
                              refine QJ.off rfl rfl (cB hb46) rfl rfl ?_
                              refine QJ.off rfl rfl (cB hb46) rfl rfl ?_
                              refine QJ.on rfl rfl (cB hb43) (YldS.yld (y_pick_t (cB hb46) rfl)) rfl ?_
                              exact QJ.cut_end ⟨rfl, rfl, rfl, rfl, rfl, rfl, rfl, rfl, rfl, rfl, rfl, rfl, rfl, rfl, trivial⟩
                            · replace h45 := orF h45 hb46
                              refine QJ.on rfl rfl (cB hb46) (YldS.yld (y_fldB (o := 0) fld64_0 rfl)) rfl ?_
                              refine QJ.on rfl rfl (cB hb46) (YldS.yld (y_loadB (k := 0) (off := 0) (v := str e35.short) rfl Try.isAgg9 rfl rfl)) rfl ?_
                              refine QJ.on rfl rfl (cB hb46) (YldS.yld (y_lenStr Try.runUnderlying9 rfl)) rfl ?_
                              refine QJ.on rfl rfl (cB hb46) (YldS.yld (y_move rfl)) rfl ?_
                              refine QJ.on rfl rfl (cB hb46) (YldS.yld (y_lenStr Try.runUnderlying9 rfl)) rfl ?_
                              refine QJ.on rfl rfl (cB hb46) (YldS.yld (y_bin rfl rfl rfl)) rfl ?_
                              refine QJ.on rfl rfl (cB hb43) (YldS.yld (y_pick_f (cB hb46) rfl)) rfl ?_
                              obtain rfl := Option.some.inj h45
                              exact QJ.cut_end ⟨rfl, rfl, rfl, rfl, rfl, rfl, rfl, rfl, rfl, rfl, rfl, rfl, rfl, rfl, trivial⟩
                          refine QJ.step (YldS.yld (y_pick_t (cB hb43) rfl)) rfl ?_
                          obtain rfl := Option.some.inj h42
                          exact QJ.cut_end ⟨rfl, rfl, rfl, rfl, rfl, rfl, rfl, rfl, rfl, rfl, rfl, rfl, rfl, trivial⟩
                        · obtain rfl := andF h42 hb43
                          refine QJ.off rfl rfl (cB hb43) rfl rfl ?_
                          refine QJ.off rfl rfl (cB hb43) rfl rfl ?_
                          refine QJ.off rfl rfl (cB hb43) rfl rfl ?_
                          refine QJ.off_undef rfl rfl rfl rfl ?_
                          refine QJ.off_undef rfl rfl rfl rfl ?_
                          refine QJ.off_undef rfl rfl rfl rfl ?_
                          refine QJ.off_undef rfl rfl rfl rfl ?_
                          refine QJ.off_undef rfl rfl rfl rfl ?_
                          refine QJ.off_undef rfl rfl rfl rfl ?_
                          refine QJ.off rfl rfl (cB hb43) rfl rfl ?_
                          refine QJ.step (YldS.yld (y_pick_f (cB hb43) rfl)) rfl ?_
                          exact QJ.cut_end ⟨rfl, rfl, rfl, rfl, rfl, rfl, rfl, rfl, rfl, rfl, rfl, rfl, rfl, trivial⟩
                      refine QJ.done ?_
                      refine PJ.next ?_
                      refine WJ.cond (t := t41) rfl (fun hb47 => ?_) (fun hb47 => ?_)
                      · replace hm := ifT hm hb47
                        refine WJ.quiet ?_
                        refine QJ.step (YldS.yld (y_fldB (o := 0) fld64_0 rfl)) rfl ?_
                        refine QJ.step (YldS.yld (y_loadB (k := 0) (off := 0) (v := str e35.short) rfl Try.isAgg9 rfl rfl)) rfl ?_
                        refine QJ.step (YldS.yld (y_assign rfl)) rfl ?_
                        refine QJ.done ?_
                        refine PJ.block_normal ?_
                        exact PJ.joined e35.short [1] hm ⟨rfl, rfl, rfl, rfl, rfl, rfl, rfl, rfl, rfl, rfl, rfl, trivial⟩ ⟨by decide, rfl⟩
                      · replace hm := ifF hm hb47
                        refine WJ.skip ?_
                        refine PJ.block_normal ?_
                        exact PJ.joined best29 [1] hm ⟨rfl, rfl, rfl, rfl, rfl, rfl, rfl, rfl, rfl, rfl, rfl, trivial⟩ ⟨by decide, rfl⟩
                    · rintro best32 hm
                      subst hk34
                      refine WJ.quiet ?_
                      refine QJ.step (YldS.yld (y_bin rfl rfl rfl)) rfl ?_
                      refine QJ.step (YldS.yld (y_move rfl)) rfl ?_
                      refine QJ.done ?_
                      exact PJ.round (best32, w64 (x30 + 1)) [0] hm ⟨rfl, rfl, rfl, rfl, rfl, rfl, rfl, rfl, rfl, rfl, rfl, trivial⟩ ⟨by decide, rfl⟩
                  · replace hm := ifF hm hb31
                    refine WJ.exit ?_
                    refine PJ.then_exit (PJ.then_exit (PJ.block_exit ?_))
                    exact PJ.joined best29 [0] hm ⟨rfl, rfl, rfl, rfl, rfl, rfl, rfl, trivial⟩ ⟨by decide, rfl⟩
              · rintro best26 hm
                subst hk28
                refine WJ.seq ?_
                refine WJ.seq ?_
                refine WJ.quiet ?_
                refine QJ.step (YldS.yld (y_move rfl)) rfl ?_
                refine QJ.step (YldS.yld (y_binS rfl rfl rfl)) rfl ?_
                refine QJ.done ?_
                refine PJ.next ?_
                refine WJ.cond (t := (best26 == [])) rfl (fun hb48 => ?_) (fun hb48 => ?_)
                · replace hm := ifT hm hb48
                  refine WJ.seq ?_
                  refine WJ.quiet ?_
                  refine QJ.step (YldS.yld (y_assign rfl)) rfl ?_
                  refine QJ.step (YldS.yld (y_assign rfl)) rfl ?_
                  refine QJ.done ?_
                  refine PJ.next ?_
                  refine WJ.ret ?_
                  refine PJ.then_ret (PJ.block_ret (PJ.then_ret (PJ.then_ret (PJ.block_ret (PJ.then_ret ?_)))))
                  obtain rfl := Option.some.inj hm
                  refine PJ.sel (L' := []) [] ⟨List.nodup_nil, rfl⟩ ?_
                  exact PJ.retn (vs := [str [], .int .i64 3]) Try.results35 ⟨rfl, rfl, trivial⟩ ⟨rfl, rfl⟩
                · replace hm := ifF hm hb48
                  refine WJ.skip ?_
                  refine PJ.next ?_
                  refine WJ.reg ?_
                  refine SJ.q (YldS.yld (y_move rfl)) rfl ?_
                  refine SJ.q (YldS.yld (y_move rfl)) rfl ?_
                  refine SJ.q (YldS.yld (y_move rfl)) rfl ?_
                  obtain ⟨e49, h50, hm⟩ := bindS hm
                  refine SJ.q (YldS.yld (y_ixRow (k := 0) (R := fStr) rfl Try.runUnderlying43 Try.sizeOf9 rfl rfl h50)) rfl ?_
                  refine SJ.storeRL (k := 0) (i := (Int.toNat x13)) (off := 0) (us := [str best26]) (b := best26) rfl rfl (idx_get h50) rfl rfl Try.sizeOf9 rfl rfl rfl ?_
                  refine SJ.nil ?_
                  refine PJ.block_normal ?_
                  exact PJ.joined (List.set l12 (Int.toNat x13) best26) [0] hm ⟨rfl, rfl, rfl, rfl, rfl, trivial⟩ ⟨by decide, rfl⟩
          · rintro l15 hm
            subst hk17
            refine WJ.quiet ?_
            refine QJ.step (YldS.yld (y_bin rfl rfl rfl)) rfl ?_
            refine QJ.step (YldS.yld (y_move rfl)) rfl ?_
            refine QJ.done ?_
            exact PJ.round (l15, w64 (x13 + 1)) [0] hm ⟨rfl, rfl, rfl, rfl, rfl, trivial⟩ ⟨by decide, rfl⟩
        · replace hm := ifF hm hb14
          refine WJ.exit ?_
          refine PJ.then_exit (PJ.then_exit (PJ.block_exit ?_))
          exact PJ.joined l12 [0] hm ⟨rfl, trivial⟩ ⟨by decide, rfl⟩
    · rintro l9 hm
      subst hk11
      refine WJ.seq ?_
      refine WJ.quiet ?_
      refine QJ.step (YldS.yld (y_move rfl)) rfl ?_
      obtain ⟨r51, h52, hm⟩ := bindS hm
      refine QJ.step (y_call Try.call85 rfl (RetG.quiet fun w hw => ok_joinO h52 w _ (hw.row_rd (k := 0) rfl) (hw.row_sp (k := 0) rfl))) rfl ?_
      refine QJ.step (YldS.yld (y_assign rfl)) rfl ?_
      refine QJ.step (YldS.yld (y_assign rfl)) rfl ?_
      refine QJ.done ?_
      refine PJ.next ?_
      refine WJ.ret ?_
      obtain rfl := Option.some.inj hm
      refine PJ.sel (L' := []) [] ⟨List.nodup_nil, rfl⟩ ?_
      exact PJ.retn (vs := [str r51, .int .i64 0]) Try.results35 ⟨rfl, rfl, trivial⟩ ⟨rfl, rfl⟩

set_option maxRecDepth 100000 in
set_option maxHeartbeats 1000000 in
theorem ok_s_l01Split {N : Nat} {s1 : Str} {by2 : UInt8} {r : (List Str)} (hm : s_l01Split N s1 by2 = some r) (w : World)  :
    Calls Try.prog 98 #[str s1, .int .u8 (UInt8.toNat by2 : Int)] w (RetG (cx w) fun u L => ∃ (u1 : Value), (u = u1 ∧ L = [row u1 9 fStr r])) := by
  unfold s_l01Split at hm
  refine Calls.enter [str s1, .int .u8 (UInt8.toNat by2 : Int)] Try.func98 rfl Try.ntmps98 rfl ?_
  refine WJ.seq ?_
  refine WJ.quiet ?_
  refine QJ.step (YldS.yld (y_assign rfl)) rfl ?_
  refine QJ.done ?_
  refine PJ.next ?_
  refine WJ.seq ?_
  refine WJ.reg ?_
  refine SJ.buildSlice (R := fStr) (os := []) [] Try.runUnderlying43 Try.sizeOf9 Try.zeroValue9 rfl rfl rfl rfl rfl rfl fun v3 => ?_
  refine SJ.q (YldS.yld (y_assign rfl)) rfl ?_
  refine SJ.nil ?_
  refine PJ.next ?_
  refine WJ.seq ?_
  refine WJ.quiet ?_
  refine QJ.step (YldS.yld (y_assign rfl)) rfl ?_
  refine QJ.done ?_
  refine PJ.next ?_
  obtain ⟨kj7, hk8, hm⟩ := withK_open hm
  refine WJ.join (X := (List Str) × Value × Int) (fun (x : (List Str) × Value × Int) => kj7 x.1 x.2.2 = some r) (fun (x : (List Str) × Value × Int) => [(0, str s1), (5, x.2.1), (6, .int .i64 x.2.2)]) (fun (x : (List Str) × Value × Int) => [row x.2.1 9 fStr x.1]) ?_ ?_
  · clear hk8
    refine WJ.seq ?_
    refine WJ.quiet ?_
    refine QJ.step (YldS.yld (y_assign rfl)) rfl ?_
    refine QJ.done ?_
    refine PJ.next ?_
    refine WJ.block ?_
    refine WJ.sel (L' := (fun (x : (List Str) × Value × Int × Int) => [row x.2.1 9 fStr x.1]) ([], v3, 0, 0)) [0] ⟨by decide, rfl⟩ ?_
    refine WJ.sub (m' := (fun (x : (List Str) × Value × Int × Int) => [(0, str s1), (1, .int .u8 (UInt8.toNat by2 : Int)), (5, x.2.1), (6, .int .i64 x.2.2.1), (7, .int .i64 x.2.2.2)]) ([], v3, 0, 0)) ⟨rfl, rfl, rfl, rfl, rfl, trivial⟩ ?_
    refine WJ.loop (X := (List Str) × Value × Int × Int) (fun N (x : (List Str) × Value × Int × Int) => s_l01Split_l1 kj7 s1 by2 N x.1 x.2.2.1 x.2.2.2 = some r) (fun (x : (List Str) × Value × Int × Int) => [(0, str s1), (1, .int .u8 (UInt8.toNat by2 : Int)), (5, x.2.1), (6, .int .i64 x.2.2.1), (7, .int .i64 x.2.2.2)]) (fun (x : (List Str) × Value × Int × Int) => [row x.2.1 9 fStr x.1]) ?_ N ([], v3, 0, 0) hm
    · rintro N ⟨l9, v10, from11, i12⟩ hI
      have hm := hI; clear hI
      cases N with
      | zero => cases hm
      | succ N =>
      unfold s_l01Split_l1 at hm
      refine WJ.seq ?_
      refine WJ.seq ?_
      refine WJ.quiet ?_
      refine QJ.step (YldS.yld (y_move rfl)) rfl ?_
      refine QJ.step (YldS.yld (y_move rfl)) rfl ?_
      refine QJ.step (YldS.yld (y_lenStr Try.runUnderlying9 rfl)) rfl ?_
      refine QJ.step (YldS.yld (y_bin rfl rfl rfl)) rfl ?_
      refine QJ.done ?_
      refine PJ.next ?_
      refine WJ.cond (t := decide (i12 < (List.length s1 : Int))) rfl (fun hb13 => ?_) (fun hb13 => ?_)
      · replace hm := ifT hm hb13
        refine WJ.skip ?_
        refine PJ.next ?_
        obtain ⟨kj17, hk18, hm⟩ := withK_open hm
        refine WJ.join (X := (List Str) × Value × Int) (fun (x : (List Str) × Value × Int) => kj17 x.1 x.2.2 = some r) (fun (x : (List Str) × Value × Int) => [(0, str s1), (1, .int .u8 (UInt8.toNat by2 : Int)), (5, x.2.1), (6, .int .i64 x.2.2), (7, .int .i64 i12)]) (fun (x : (List Str) × Value × Int) => [row x.2.1 9 fStr x.1]) ?_ ?_
        · clear hk18
          refine WJ.block ?_
          refine WJ.seq ?_
          refine WJ.quiet ?_
          refine QJ.step (YldS.yld (y_move rfl)) rfl ?_
          refine QJ.step (YldS.yld (y_move rfl)) rfl ?_
          obtain ⟨c19, h20, hm⟩ := bindS hm
          refine QJ.step (YldS.yld (y_idxStr Try.runUnderlying9 rfl rfl h20)) rfl ?_
          refine QJ.step (YldS.yld (y_move rfl)) rfl ?_
          refine QJ.step (YldS.yld (y_bin8 c19 by2 rfl rfl rfl)) rfl ?_
          refine QJ.done ?_
          refine PJ.next ?_
          refine WJ.cond (t := (c19 == by2)) rfl (fun hb21 => ?_) (fun hb21 => ?_)
          · replace hm := ifT hm hb21
            refine WJ.seq ?_
            refine WJ.reg ?_
            refine SJ.q (YldS.yld (y_move rfl)) rfl ?_
            refine SJ.q (YldS.yld (y_move rfl)) rfl ?_
            refine SJ.q (YldS.yld (y_move rfl)) rfl ?_
            refine SJ.q (YldS.yld (y_move rfl)) rfl ?_
            obtain ⟨s22, h23, hm⟩ := bindS hm
            refine SJ.q (YldS.yld (y_subStr (i := some from11) (j := some i12) h23 Try.runUnderlying9 rfl ⟨_, rfl⟩ ⟨_, rfl⟩)) rfl ?_
            refine SJ.buildSlice (R := fStr) (os := [.tmp 24]) [s22] Try.runUnderlying43 Try.sizeOf9 Try.zeroValue9 rfl rfl rfl rfl rfl rfl fun v24 => ?_
            obtain ⟨l25, h26, hm⟩ := bindS hm
            refine SJ.append (k := 1) (R := fStr) h26 rfl Try.underlying43 el9 rfl rfl rfl (fun w hw => (hw.row_rd (k := 0) rfl)) rfl fun v27 => ?_
            refine SJ.q (YldS.yld (y_assign rfl)) rfl ?_
            refine SJ.nil ?_
            refine PJ.next ?_
            refine WJ.quiet ?_
            refine QJ.step (YldS.yld (y_move rfl)) rfl ?_
            refine QJ.step (YldS.yld (y_bin rfl rfl rfl)) rfl ?_
            refine QJ.step (YldS.yld (y_assign rfl)) rfl ?_
            refine QJ.done ?_
            refine PJ.block_normal ?_
            exact PJ.joined (l25, v27, w64 (i12 + 1)) [1] hm ⟨rfl, rfl, rfl, rfl, rfl, trivial⟩ ⟨by decide, rfl⟩
          · replace hm := ifF hm hb21
            refine WJ.skip ?_
            refine PJ.block_normal ?_
            exact PJ.joined (l9, v10, from11) [0] hm ⟨rfl, rfl, rfl, rfl, rfl, trivial⟩ ⟨by decide, rfl⟩
        · rintro ⟨l14, v15, from16⟩ hm
          subst hk18
          refine WJ.quiet ?_
          refine QJ.step (YldS.yld (y_move rfl)) rfl ?_
          refine QJ.step (YldS.yld (y_bin rfl rfl rfl)) rfl ?_
          refine QJ.step (YldS.yld (y_assign rfl)) rfl ?_
          refine QJ.done ?_
          exact PJ.round (l14, v15, from16, w64 (i12 + 1)) [0] hm ⟨rfl, rfl, rfl, rfl, rfl, trivial⟩ ⟨by decide, rfl⟩
      · replace hm := ifF hm hb13
        refine WJ.exit ?_
        refine PJ.then_exit (PJ.then_exit (PJ.block_exit ?_))
        exact PJ.joined (l9, v10, from11) [0] hm ⟨rfl, rfl, rfl, trivial⟩ ⟨by decide, rfl⟩
  · rintro ⟨l4, v5, from6⟩ hm
    subst hk8
    refine WJ.seq ?_
    refine WJ.reg ?_
    refine SJ.q (YldS.yld (y_move rfl)) rfl ?_
    refine SJ.q (YldS.yld (y_move rfl)) rfl ?_
    refine SJ.q (YldS.yld (y_move rfl)) rfl ?_
    obtain ⟨s28, h29, hm⟩ := bindS hm
    refine SJ.q (YldS.yld (y_subStr (i := some from6) (j := none) h29 Try.runUnderlying9 rfl ⟨_, rfl⟩ trivial)) rfl ?_
    refine SJ.buildSlice (R := fStr) (os := [.tmp 32]) [s28] Try.runUnderlying43 Try.sizeOf9 Try.zeroValue9 rfl rfl rfl rfl rfl rfl fun v30 => ?_
    obtain ⟨l31, h32, hm⟩ := bindS hm
    refine SJ.append (k := 1) (R := fStr) h32 rfl Try.underlying43 el9 rfl rfl rfl (fun w hw => (hw.row_rd (k := 0) rfl)) rfl fun v33 => ?_
    refine SJ.q (YldS.yld (y_assign rfl)) rfl ?_
    refine SJ.nil ?_
    refine PJ.next ?_
    refine WJ.ret ?_
    obtain rfl := Option.some.inj hm
    refine PJ.sel (L' := [row v33 9 fStr l31]) [1] ⟨by decide, rfl⟩ ?_
    exact PJ.retn (vs := [v33]) Try.results98 ⟨rfl, trivial⟩ ⟨_, rfl, rfl⟩

set_option maxRecDepth 100000 in
set_option maxHeartbeats 1000000 in
theorem ok_s_l16Words {N : Nat} {text1 : Str} {r : (List Str) × Bool} (hm : s_l16Words N text1 = some r) (w : World)  :
    Calls Try.prog 125 #[str text1] w (RetG (cx w) fun u L => ∃ (u1 : Value), (u = tup [u1, .bool r.2] ∧ L = [row u1 9 fStr r.1])) := by
  unfold s_l16Words at hm
  refine Calls.enter [str text1] Try.func125 rfl Try.ntmps125 rfl ?_
  refine WJ.seq ?_
  refine WJ.quiet ?_
  refine QJ.step (YldS.yld (y_assign rfl)) rfl ?_
  refine QJ.step (YldS.yld (y_assign rfl)) rfl ?_
  refine QJ.done ?_
  refine PJ.next ?_
  refine WJ.seq ?_
  refine WJ.seq ?_
  refine WJ.quiet ?_
  refine QJ.step (YldS.yld (y_move rfl)) rfl ?_
  refine QJ.step (YldS.yld (y_binS rfl rfl rfl)) rfl ?_
  refine QJ.done ?_
  refine PJ.next ?_
  refine WJ.cond (t := (text1 == [])) rfl (fun hb2 => ?_) (fun hb2 => ?_)
  · replace hm := ifT hm hb2
    refine WJ.seq ?_
    refine WJ.reg ?_
    refine SJ.buildSlice (R := fStr) (os := []) [] Try.runUnderlying43 Try.sizeOf9 Try.zeroValue9 rfl rfl rfl rfl rfl rfl fun v3 => ?_
    refine SJ.q (YldS.yld (y_assign rfl)) rfl ?_
    refine SJ.q (YldS.yld (y_assign rfl)) rfl ?_
    refine SJ.nil ?_
    refine PJ.next ?_
    refine WJ.ret ?_
    refine PJ.then_ret ?_
    obtain rfl := Option.some.inj hm
    refine PJ.sel (L' := [row v3 9 fStr []]) [0] ⟨by decide, rfl⟩ ?_
    exact PJ.retn (vs := [v3, .bool true]) Try.results125 ⟨rfl, rfl, trivial⟩ ⟨_, rfl, rfl⟩
  · replace hm := ifF hm hb2
    refine WJ.skip ?_
    refine PJ.next ?_
    refine WJ.seq ?_
    refine WJ.reg ?_
    refine SJ.q (YldS.yld (y_move rfl)) rfl ?_
    obtain ⟨r4, h5, hm⟩ := bindS hm
    refine SJ.call Try.call98 rfl (fun w hw => ok_s_l01Split h5 w ) rfl ?_
    rintro v6 _ ⟨_, rfl, rfl⟩
    refine SJ.q (YldS.yld (y_assign rfl)) rfl ?_
    refine SJ.nil ?_
    refine PJ.next ?_
    obtain ⟨kj7, hk8, hm⟩ := withK_open hm
    refine WJ.join (X := Unit) (fun (_ : Unit) => kj7  = some r) (fun (_ : Unit) => [(0, str text1), (4, v6)]) (fun (_ : Unit) => [row v6 9 fStr r4]) ?_ ?_
    · clear hk8
      refine WJ.seq ?_
      refine WJ.quiet ?_
      refine QJ.step (YldS.yld (y_assign rfl)) rfl ?_
      refine QJ.done ?_
      refine PJ.next ?_
      refine WJ.block ?_
      refine WJ.sel (L' := (fun (x : Int) => [row v6 9 fStr r4]) 0) [0] ⟨by decide, rfl⟩ ?_
      refine WJ.sub (m' := (fun (x : Int) => [(0, str text1), (4, v6), (5, .int .i64 x)]) 0) ⟨rfl, rfl, rfl, trivial⟩ ?_
      refine WJ.loop (X := Int) (fun N (x : Int) => s_l16Words_l1 kj7 r4 N x = some r) (fun (x : Int) => [(0, str text1), (4, v6), (5, .int .i64 x)]) (fun (x : Int) => [row v6 9 fStr r4]) ?_ N 0 hm
      · rintro N i9 hI
        have hm := hI; clear hI
        cases N with
        | zero => cases hm
        | succ N =>
        unfold s_l16Words_l1 at hm
        refine WJ.seq ?_
        refine WJ.seq ?_
        refine WJ.quiet ?_
        refine QJ.step (YldS.yld (y_move rfl)) rfl ?_
        refine QJ.step (YldS.yld (y_move rfl)) rfl ?_
        refine QJ.step (YldS.yld (y_lenRow (k := 0) rfl Try.runUnderlying43 rfl)) rfl ?_
        refine QJ.step (YldS.yld (y_bin rfl rfl rfl)) rfl ?_
        refine QJ.done ?_
        refine PJ.next ?_
        refine WJ.cond (t := decide (i9 < (List.length r4 : Int))) rfl (fun hb10 => ?_) (fun hb10 => ?_)
        · replace hm := ifT hm hb10
          refine WJ.skip ?_
          refine PJ.next ?_
          refine WJ.seq ?_
          refine WJ.block ?_
          refine WJ.seq ?_
          refine WJ.quiet ?_
          refine QJ.step (YldS.yld (y_move rfl)) rfl ?_
          refine QJ.step (YldS.yld (y_move rfl)) rfl ?_
          obtain ⟨e11, h12, hm⟩ := bindS hm
          refine QJ.step (YldS.yld (y_ixRow (k := 0) (R := fStr) rfl Try.runUnderlying43 Try.sizeOf9 rfl rfl h12)) rfl ?_
          refine QJ.step (YldS.yld (y_loadR (k := 0) (i := (Int.toNat i9)) (off := 0) (u := str e11) rfl Try.isAgg9 rfl (idx_get h12) rfl)) rfl ?_
          obtain ⟨r13, h14, hm⟩ := bindS hm
          refine QJ.step (y_call Try.call128 rfl (RetG.quiet fun w hw => ok_s_l16Word h14 w )) rfl ?_
          refine QJ.step (YldS.yld (y_not rfl)) rfl ?_
          refine QJ.done ?_
          refine PJ.next ?_
          refine WJ.cond (t := !r13) rfl (fun hb15 => ?_) (fun hb15 => ?_)
          · replace hm := ifT hm hb15
            refine WJ.seq ?_
            refine WJ.quiet ?_
            refine QJ.step (YldS.yld (y_assign rfl)) rfl ?_
            refine QJ.step (YldS.yld (y_assign rfl)) rfl ?_
            refine QJ.done ?_
            refine PJ.next ?_
            refine WJ.ret ?_
            refine PJ.block_ret (PJ.then_ret (PJ.then_ret (PJ.block_ret (PJ.then_ret ?_))))
            refine PJ.nil_row 9 fStr ?_
            obtain rfl := Option.some.inj hm
            refine PJ.sel (L' := [row (.slice none 0 0) 9 fStr []]) [0] ⟨by decide, rfl⟩ ?_
            exact PJ.retn (vs := [(.slice none 0 0), .bool false]) Try.results125 ⟨rfl, rfl, trivial⟩ ⟨_, rfl, rfl⟩
          · replace hm := ifF hm hb15
            refine WJ.skip ?_
            refine PJ.block_normal (PJ.next ?_)
            refine WJ.quiet ?_
            refine QJ.step (YldS.yld (y_move rfl)) rfl ?_
            refine QJ.step (YldS.yld (y_bin rfl rfl rfl)) rfl ?_
            refine QJ.step (YldS.yld (y_assign rfl)) rfl ?_
            refine QJ.done ?_
            exact PJ.round (w64 (i9 + 1)) [0] hm ⟨rfl, rfl, rfl, trivial⟩ ⟨by decide, rfl⟩
        · replace hm := ifF hm hb10
          refine WJ.exit ?_
          refine PJ.then_exit (PJ.then_exit (PJ.block_exit ?_))
          exact PJ.joined () [0] hm ⟨rfl, rfl, trivial⟩ ⟨by decide, rfl⟩
    · rintro _ hm
      subst hk8
      refine WJ.seq ?_
      refine WJ.quiet ?_
      refine QJ.step (YldS.yld (y_move rfl)) rfl ?_
      refine QJ.step (YldS.yld (y_move rfl)) rfl ?_
      refine QJ.step (YldS.yld (y_lenStr Try.runUnderlying9 rfl)) rfl ?_
      refine QJ.step (YldS.yld (y_bin rfl rfl rfl)) rfl ?_
      refine QJ.step (YldS.yld (y_assign rfl)) rfl ?_
      refine QJ.step (YldS.yld (y_assign rfl)) rfl ?_
      refine QJ.done ?_
      refine PJ.next ?_
      refine WJ.ret ?_
      obtain rfl := Option.some.inj hm
      refine PJ.sel (L' := [row v6 9 fStr r4]) [0] ⟨by decide, rfl⟩ ?_
      exact PJ.retn (vs := [v6, .bool (decide ((List.length text1 : Int) ≤ 200))]) Try.results125 ⟨rfl, rfl, trivial⟩ ⟨_, rfl, rfl⟩

set_option maxRecDepth 100000 in
set_option maxHeartbeats 1000000 in
theorem ok_s_l16Code {N : Nat} {list1 : List Abbr} {text4 : Str} {r : (List Str) × Int} (hm : s_l16Code N list1 text4 = some r) (w : World) (v2 : Value) (hr3 : RdS w (cx w).Fz v2 fAbbr.rp list1) :
    Calls Try.prog 86 #[v2, str text4] w (RetG (cx w) fun u L => ∃ (u1 : Value), (u = tup [u1, .int .i64 r.2] ∧ L = [row u1 9 fStr r.1])) := by
  unfold s_l16Code at hm
  refine Calls.enter [v2, str text4] Try.func86 rfl Try.ntmps86 rfl ?_
  refine WJ.seq ?_
  refine WJ.quiet ?_
  refine QJ.step (YldS.yld (y_assign rfl)) rfl ?_
  refine QJ.step (YldS.yld (y_assign rfl)) rfl ?_
  refine QJ.done ?_
  refine PJ.next ?_
  refine WJ.seq ?_
  refine WJ.seq ?_
  refine WJ.quiet ?_
  refine QJ.step (YldS.yld (y_move rfl)) rfl ?_
  obtain ⟨r5, h6, hm⟩ := bindS hm
  refine QJ.step (y_call Try.call92 rfl (RetG.quiet fun w hw => ok_s_l16Ok h6 w _ (hr3.st hw))) rfl ?_
  refine QJ.step (YldS.yld (y_not rfl)) rfl ?_
  refine QJ.done ?_
  refine PJ.next ?_
  refine WJ.cond (t := !r5) rfl (fun hb7 => ?_) (fun hb7 => ?_)
  · replace hm := ifT hm hb7
    refine WJ.seq ?_
    refine WJ.quiet ?_
    refine QJ.step (YldS.yld (y_assign rfl)) rfl ?_
    refine QJ.step (YldS.yld (y_assign rfl)) rfl ?_
    refine QJ.done ?_
    refine PJ.next ?_
    refine WJ.ret ?_
    refine PJ.then_ret ?_
    refine PJ.nil_row 9 fStr ?_
    obtain rfl := Option.some.inj hm
    refine PJ.sel (L' := [row (.slice none 0 0) 9 fStr []]) [0] ⟨by decide, rfl⟩ ?_
    exact PJ.retn (vs := [(.slice none 0 0), .int .i64 1]) Try.results86 ⟨rfl, rfl, trivial⟩ ⟨_, rfl, rfl⟩
  · replace hm := ifF hm hb7
    refine WJ.skip ?_
    refine PJ.next ?_
    refine WJ.seq ?_
    refine WJ.reg ?_
    refine SJ.q (YldS.yld (y_move rfl)) rfl ?_
    obtain ⟨r8, h9, hm⟩ := bindS hm
    refine SJ.call Try.call125 rfl (fun w hw => ok_s_l16Words h9 w ) rfl ?_
    rintro _ _ ⟨v10, rfl, rfl⟩
    refine SJ.q (YldS.yld (y_move rfl)) rfl ?_
    refine SJ.q (YldS.yld (y_extract rfl rfl)) rfl ?_
    refine SJ.q (YldS.yld (y_extract rfl rfl)) rfl ?_
    refine SJ.q (YldS.yld (y_assign rfl)) rfl ?_
    refine SJ.q (YldS.yld (y_assign rfl)) rfl ?_
    refine SJ.nil ?_
    refine PJ.next ?_
    refine WJ.seq ?_
    refine WJ.seq ?_
    refine WJ.quiet ?_
    refine QJ.step (YldS.yld (y_move rfl)) rfl ?_
    refine QJ.step (YldS.yld (y_not rfl)) rfl ?_
    refine QJ.done ?_
    refine PJ.next ?_
    refine WJ.cond (t := !r8.2) rfl (fun hb11 => ?_) (fun hb11 => ?_)
    · replace hm := ifT hm hb11
      refine WJ.seq ?_
      refine WJ.quiet ?_
      refine QJ.step (YldS.yld (y_assign rfl)) rfl ?_
      refine QJ.step (YldS.yld (y_assign rfl)) rfl ?_
      refine QJ.done ?_
      refine PJ.next ?_
      refine WJ.ret ?_
      refine PJ.then_ret ?_
      refine PJ.nil_row 9 fStr ?_
      obtain rfl := Option.some.inj hm
      refine PJ.sel (L' := [row (.slice none 0 0) 9 fStr []]) [0] ⟨by decide, rfl⟩ ?_
      exact PJ.retn (vs := [(.slice none 0 0), .int .i64 7]) Try.results86 ⟨rfl, rfl, trivial⟩ ⟨_, rfl, rfl⟩
    · replace hm := ifF hm hb11
      refine WJ.skip ?_
      refine PJ.next ?_
      refine WJ.seq ?_
      refine WJ.quiet ?_
      refine QJ.step (YldS.yld (y_move rfl)) rfl ?_
      refine QJ.step (YldS.yld (y_assign rfl)) rfl ?_
      refine QJ.step (YldS.yld (y_assign rfl)) rfl ?_
      refine QJ.done ?_
      refine PJ.next ?_
      refine WJ.ret ?_
      obtain rfl := Option.some.inj hm
      refine PJ.sel (L' := [row v10 9 fStr r8.1]) [0] ⟨by decide, rfl⟩ ?_
      exact PJ.retn (vs := [v10, .int .i64 0]) Try.results86 ⟨rfl, rfl, trivial⟩ ⟨_, rfl, rfl⟩

set_option maxRecDepth 100000 in
set_option maxHeartbeats 1000000 in
theorem ok_s_l16Best {N : Nat} {list1 : List Abbr} {word4 : Str} {r : Str} (hm : s_l16Best N list1 word4 = some r) (w : World) (v2 : Value) (hr3 : RdS w (cx w).Fz v2 fAbbr.rp list1) :
    Calls Try.prog 126 #[v2, str word4] w (Ret (cx w) (str r)) := by
  unfold s_l16Best at hm
  refine Calls.enter [v2, str word4] Try.func126 rfl Try.ntmps126 rfl ?_
  refine WJ.seq ?_
  refine WJ.quiet ?_
  refine QJ.step (YldS.yld (y_assign rfl)) rfl ?_
  refine QJ.done ?_
  refine PJ.next ?_
  refine WJ.seq ?_
  refine WJ.quiet ?_
  refine QJ.step (YldS.yld (y_assign rfl)) rfl ?_
  refine QJ.done ?_
  refine PJ.next ?_
  obtain ⟨kj6, hk7, hm⟩ := withK_open hm
  refine WJ.join (X := Str) (fun (x : Str) => kj6 x = some r) (fun (x : Str) => [(0, v2), (1, str word4), (5, str x)]) (fun (x : Str) => []) ?_ ?_
  · clear hk7
    refine WJ.seq ?_
    refine WJ.quiet ?_
    refine QJ.step (YldS.yld (y_move rfl)) rfl ?_
    refine QJ.step (YldS.yld (y_move rfl)) rfl ?_
    obtain ⟨r8, h9, hm⟩ := bindS hm
    refine QJ.step (y_call Try.call89 rfl (RetG.quiet fun w hw => ok_s_l16Short h9 w _ (hr3.st hw))) rfl ?_
    refine QJ.step (YldS.yld (y_bin rfl rfl rfl)) rfl ?_
    refine QJ.done ?_
    refine PJ.next ?_
    refine WJ.cond (t := decide (r8 < 0)) rfl (fun hb10 => ?_) (fun hb10 => ?_)
    · replace hm := ifT hm hb10
      refine WJ.quiet ?_
      refine QJ.step (YldS.yld (y_move rfl)) rfl ?_
      refine QJ.step (YldS.yld (y_assign rfl)) rfl ?_
      refine QJ.done ?_
      exact PJ.joined word4 [] hm ⟨rfl, rfl, rfl, trivial⟩ ⟨List.nodup_nil, rfl⟩
    · replace hm := ifF hm hb10
      refine WJ.skip ?_
      exact PJ.joined [] [] hm ⟨rfl, rfl, rfl, trivial⟩ ⟨List.nodup_nil, rfl⟩
  · rintro best5 hm
    subst hk7
    obtain ⟨kj12, hk13, hm⟩ := withK_open hm
    refine WJ.join (X := Str) (fun (x : Str) => kj12 x = some r) (fun (x : Str) => [(5, str x)]) (fun (x : Str) => []) ?_ ?_
    · clear hk13
      refine WJ.seq ?_
      refine WJ.quiet ?_
      refine QJ.step (YldS.yld (y_assign rfl)) rfl ?_
      refine QJ.done ?_
      refine PJ.next ?_
      refine WJ.block ?_
      refine WJ.sel (L' := (fun (x : Str × Int) => []) (best5, 0)) [] ⟨List.nodup_nil, rfl⟩ ?_
      refine WJ.sub (m' := (fun (x : Str × Int) => [(0, v2), (1, str word4), (5, str x.1), (6, .int .i64 x.2)]) (best5, 0)) ⟨rfl, rfl, rfl, rfl, trivial⟩ ?_
      refine WJ.loop (X := Str × Int) (fun N (x : Str × Int) => s_l16Best_l1 kj12 list1 word4 N x.1 x.2 = some r) (fun (x : Str × Int) => [(0, v2), (1, str word4), (5, str x.1), (6, .int .i64 x.2)]) (fun (x : Str × Int) => []) ?_ N (best5, 0) hm
      · rintro N ⟨best14, i15⟩ hI
        have hm := hI; clear hI
        cases N with
        | zero => cases hm
        | succ N =>
        unfold s_l16Best_l1 at hm
        refine WJ.seq ?_
        refine WJ.seq ?_
        refine WJ.quiet ?_
        refine QJ.step (YldS.yld (y_move rfl)) rfl ?_
        refine QJ.step (YldS.yld (y_move rfl)) rfl ?_
        refine QJ.step (YldS.yld (y_lenS Try.runUnderlying56 hr3 rfl)) rfl ?_
        refine QJ.step (YldS.yld (y_bin rfl rfl rfl)) rfl ?_
        refine QJ.done ?_
        refine PJ.next ?_
        refine WJ.cond (t := decide (i15 < (List.length list1 : Int))) rfl (fun hb16 => ?_) (fun hb16 => ?_)
        · replace hm := ifT hm hb16
          refine WJ.skip ?_
          refine PJ.next ?_
          obtain ⟨kj18, hk19, hm⟩ := withK_open hm
          refine WJ.join (X := Str) (fun (x : Str) => kj18 x = some r) (fun (x : Str) => [(0, v2), (1, str word4), (5, str x), (6, .int .i64 i15)]) (fun (x : Str) => []) ?_ ?_
          · clear hk19
            refine WJ.block ?_
            refine WJ.seq ?_
            refine WJ.quiet ?_
            refine QJ.step (YldS.yld (y_move rfl)) rfl ?_
            refine QJ.step (YldS.yld (y_move rfl)) rfl ?_
            obtain ⟨e20, h21, hm⟩ := bindS hm
            obtain ⟨ad22, _, rfl, ha23, hy24⟩ := hr3.elem h21
            refine QJ.step (YldS.yld (hy24 Try.runUnderlying56 Try.sizeOf64 rfl rfl)) rfl ?_
            refine QJ.step (YldS.yld (y_assign rfl)) rfl ?_
            refine QJ.done ?_
            refine PJ.next ?_
            refine WJ.seq ?_
            refine WJ.quiet ?_
            refine QJ.step (YldS.yld (y_move rfl)) rfl ?_
            refine QJ.step (YldS.yld (y_nil rfl)) rfl ?_
            refine QJ.step (YldS.yld (y_fld (ad := ad22) fld64_1 rfl)) rfl ?_
            refine QJ.step (YldS.yld (y_load1 (v := str e20.long) Try.isAgg9 (ha23.sub 1 1) St.frozenC rfl)) rfl ?_
            refine QJ.step (YldS.yld (y_move rfl)) rfl ?_
            refine QJ.step (YldS.yld (y_binS rfl rfl rfl)) rfl ?_
            refine QJ.step (YldS.yld (y_move rfl)) rfl ?_
            obtain ⟨t25, h26, hm⟩ := bindS hm
            refine QJ.cut 13 [(0, v2), (1, str word4), (5, str best14), (6, .int .i64 i15), (7, .pointer (some ad22)), (41, .bool t25)] ?_ ?_
            · rcases Bool.eq_false_or_eq_true (e20.long == word4) with hb27 | hb27
              · replace h26 := andT h26 hb27
                refine QJ.on rfl rfl (cB hb27) (YldS.yld (y_move rfl)) rfl ?_
                refine QJ.on rfl rfl (cB hb27) (YldS.yld (y_binS rfl rfl rfl)) rfl ?_
                refine QJ.on rfl rfl (cB hb27) (YldS.yld (y_move rfl)) rfl ?_
                obtain ⟨t28, h29, h26⟩ := bindS h26
                refine QJ.cut 9 [(0, v2), (1, str word4), (5, str best14), (6, .int .i64 i15), (7, .pointer (some ad22)), (28, .bool (e20.long == word4)), (40, .bool t28)] ?_ ?_
                · rcases Bool.eq_false_or_eq_true (best14 == []) with hb30 | hb30
                  · obtain rfl := orT h29 hb30
                    refine QJ.off rfl rfl (cB hb30) rfl rfl ?_
                    refine QJ.off rfl rfl (cB hb30) rfl rfl ?_
                    refine QJ.off rfl rfl (cB hb30) rfl rfl ?_
                    refine QJ.off rfl rfl (cB hb30) rfl rfl ?_
                    refine QJ.off rfl rfl (cB hb30) rfl rfl ?_
                    refine QJ.off rfl rfl (cB hb30) rfl rfl ?_
                    refine QJ.off rfl rfl (cB hb30) rfl rfl ?_
                    refine QJ.off rfl rfl (cB hb30) rfl rfl ?_
                    refine QJ.on rfl rfl (cB hb27) (YldS.yld (y_pick_t (cB hb30) rfl)) rfl ?_
                    exact QJ.cut_end ⟨rfl, rfl, rfl, rfl, rfl, rfl, rfl, trivial⟩
                  · replace h29 := orF h29 hb30
                    refine QJ.on rfl rfl (cB hb30) (YldS.yld (y_move rfl)) rfl ?_
                    refine QJ.on rfl rfl (cB hb30) (YldS.yld (y_nil rfl)) rfl ?_
                    refine QJ.on rfl rfl (cB hb30) (YldS.yld (y_fld (ad := ad22) fld64_0 rfl)) rfl ?_
                    refine QJ.on rfl rfl (cB hb30) (YldS.yld (y_load1 (v := str e20.short) Try.isAgg9 (ha23.sub 0 1) St.frozenC rfl)) rfl ?_
                    refine QJ.on rfl rfl (cB hb30) (YldS.yld (y_lenStr Try.runUnderlying9 rfl)) rfl ?_
                    refine QJ.on rfl rfl (cB hb30) (YldS.yld (y_move rfl)) rfl ?_
                    refine QJ.on rfl rfl (cB hb30) (YldS.yld (y_lenStr Try.runUnderlying9 rfl)) rfl ?_
                    refine QJ.on rfl rfl (cB hb30) (YldS.yld (y_bin rfl rfl rfl)) rfl ?_
                    refine QJ.on rfl rfl (cB hb27) (YldS.yld (y_pick_f (cB hb30) rfl)) rfl ?_
                    obtain rfl := Option.some.inj h29
                    exact QJ.cut_end ⟨rfl, rfl, rfl, rfl, rfl, rfl, rfl, trivial⟩
                refine QJ.step (YldS.yld (y_pick_t (cB hb27) rfl)) rfl ?_
                obtain rfl := Option.some.inj h26
                exact QJ.cut_end ⟨rfl, rfl, rfl, rfl, rfl, rfl, trivial⟩
              · obtain rfl := andF h26 hb27
                refine QJ.off rfl rfl (cB hb27) rfl rfl ?_
                refine QJ.off rfl rfl (cB hb27) rfl rfl ?_
                refine QJ.off rfl rfl (cB hb27) rfl rfl ?_
                refine QJ.off_undef rfl rfl rfl rfl ?_
                refine QJ.off_undef rfl rfl rfl rfl ?_
                refine QJ.off_undef rfl rfl rfl rfl ?_
                refine QJ.off_undef rfl rfl rfl rfl ?_
                refine QJ.off_undef rfl rfl rfl rfl ?_
                refine QJ.off_undef rfl rfl rfl rfl ?_
                refine QJ.off_undef rfl rfl rfl rfl ?_
                refine QJ.off_undef rfl rfl rfl rfl ?_
                refine QJ.off rfl rfl (cB hb27) rfl rfl ?_
                refine QJ.step (YldS.yld (y_pick_f (cB hb27) rfl)) rfl ?_
                exact QJ.cut_end ⟨rfl, rfl, rfl, rfl, rfl, rfl, trivial⟩
            refine QJ.done ?_
            refine PJ.next ?_
            refine WJ.cond (t := t25) rfl (fun hb31 => ?_) (fun hb31 => ?_)
            · replace hm := ifT hm hb31
              refine WJ.quiet ?_
              refine QJ.step (YldS.yld (y_move rfl)) rfl ?_
              refine QJ.step (YldS.yld (y_nil rfl)) rfl ?_
              refine QJ.step (YldS.yld (y_fld (ad := ad22) fld64_0 rfl)) rfl ?_
              refine QJ.step (YldS.yld (y_load1 (v := str e20.short) Try.isAgg9 (ha23.sub 0 1) St.frozenC rfl)) rfl ?_
              refine QJ.step (YldS.yld (y_assign rfl)) rfl ?_
              refine QJ.done ?_
              refine PJ.block_normal ?_
              exact PJ.joined e20.short [] hm ⟨rfl, rfl, rfl, rfl, trivial⟩ ⟨List.nodup_nil, rfl⟩
            · replace hm := ifF hm hb31
              refine WJ.skip ?_
              refine PJ.block_normal ?_
              exact PJ.joined best14 [] hm ⟨rfl, rfl, rfl, rfl, trivial⟩ ⟨List.nodup_nil, rfl⟩
          · rintro best17 hm
            subst hk19
            refine WJ.quiet ?_
            refine QJ.step (YldS.yld (y_move rfl)) rfl ?_
            refine QJ.step (YldS.yld (y_bin rfl rfl rfl)) rfl ?_
            refine QJ.step (YldS.yld (y_assign rfl)) rfl ?_
            refine QJ.done ?_
            exact PJ.round (best17, w64 (i15 + 1)) [] hm ⟨rfl, rfl, rfl, rfl, trivial⟩ ⟨List.nodup_nil, rfl⟩
        · replace hm := ifF hm hb16
          refine WJ.exit ?_
          refine PJ.then_exit (PJ.then_exit (PJ.block_exit ?_))
          exact PJ.joined best14 [] hm ⟨rfl, trivial⟩ ⟨List.nodup_nil, rfl⟩
    · rintro best11 hm
      subst hk13
      refine WJ.seq ?_
      refine WJ.quiet ?_
      refine QJ.step (YldS.yld (y_move rfl)) rfl ?_
      refine QJ.step (YldS.yld (y_assign rfl)) rfl ?_
      refine QJ.done ?_
      refine PJ.next ?_
      refine WJ.ret ?_
      obtain rfl := Option.some.inj hm
      refine PJ.sel (L' := []) [] ⟨List.nodup_nil, rfl⟩ ?_
      exact PJ.retn (vs := [str best11]) Try.results126 ⟨rfl, trivial⟩ ⟨rfl, rfl⟩

set_option maxRecDepth 100000 in
set_option maxHeartbeats 1000000 in
theorem ok_s_l16Shorten {N : Nat} {list1 : List Abbr} {words4 : List Str} {r : (List Str) × Bool} (hm : s_l16Shorten N list1 words4 = some r) (w : World) (v2 : Value) (hr3 : RdS w (cx w).Fz v2 fAbbr.rp list1) (v5 : Value) (hr6 : RdS w (cx w).Fz v5 fStr.rp words4) :
    Calls Try.prog 87 #[v2, v5] w (RetG (cx w) fun u L => ∃ (u1 : Value), (u = tup [u1, .bool r.2] ∧ L = [row u1 9 fStr r.1])) := by
  unfold s_l16Shorten at hm
  refine Calls.enter [v2, v5] Try.func87 rfl Try.ntmps87 rfl ?_
  refine WJ.seq ?_
  refine WJ.quiet ?_
  refine QJ.step (YldS.yld (y_assign rfl)) rfl ?_
  refine QJ.step (YldS.yld (y_assign rfl)) rfl ?_
  refine QJ.done ?_
  refine PJ.next ?_
  refine WJ.seq ?_
  refine WJ.reg ?_
  refine SJ.buildSlice (R := fStr) (os := []) [] Try.runUnderlying43 Try.sizeOf9 Try.zeroValue9 rfl rfl rfl rfl rfl rfl fun v7 => ?_
  refine SJ.q (YldS.yld (y_assign rfl)) rfl ?_
  refine SJ.nil ?_
  refine PJ.next ?_
  obtain ⟨kj10, hk11, hm⟩ := withK_open hm
  refine WJ.join (X := (List Str) × Value) (fun (x : (List Str) × Value) => kj10 x.1 = some r) (fun (x : (List Str) × Value) => [(6, x.2)]) (fun (x : (List Str) × Value) => [row x.2 9 fStr x.1]) ?_ ?_
  · clear hk11
    refine WJ.seq ?_
    refine WJ.quiet ?_
    refine QJ.step (YldS.yld (y_assign rfl)) rfl ?_
    refine QJ.done ?_
    refine PJ.next ?_
    refine WJ.block ?_
    refine WJ.sel (L' := (fun (x : (List Str) × Value × Int) => [row x.2.1 9 fStr x.1]) ([], v7, 0)) [0] ⟨by decide, rfl⟩ ?_
    refine WJ.sub (m' := (fun (x : (List Str) × Value × Int) => [(0, v2), (1, v5), (6, x.2.1), (7, .int .i64 x.2.2)]) ([], v7, 0)) ⟨rfl, rfl, rfl, rfl, trivial⟩ ?_
    refine WJ.loop (X := (List Str) × Value × Int) (fun N (x : (List Str) × Value × Int) => s_l16Shorten_l1 kj10 list1 words4 N x.1 x.2.2 = some r) (fun (x : (List Str) × Value × Int) => [(0, v2), (1, v5), (6, x.2.1), (7, .int .i64 x.2.2)]) (fun (x : (List Str) × Value × Int) => [row x.2.1 9 fStr x.1]) ?_ N ([], v7, 0) hm
    · rintro N ⟨l12, v13, i14⟩ hI
      have hm := hI; clear hI
      cases N with
      | zero => cases hm
      | succ N =>
      unfold s_l16Shorten_l1 at hm
      refine WJ.seq ?_
      refine WJ.seq ?_
      refine WJ.quiet ?_
      refine QJ.step (YldS.yld (y_move rfl)) rfl ?_
      refine QJ.step (YldS.yld (y_move rfl)) rfl ?_
      refine QJ.step (YldS.yld (y_lenS Try.runUnderlying43 hr6 rfl)) rfl ?_
      refine QJ.step (YldS.yld (y_bin rfl rfl rfl)) rfl ?_
      refine QJ.done ?_
      refine PJ.next ?_
      refine WJ.cond (t := decide (i14 < (List.length words4 : Int))) rfl (fun hb15 => ?_) (fun hb15 => ?_)
      · replace hm := ifT hm hb15
        refine WJ.skip ?_
        refine PJ.next ?_
        refine WJ.seq ?_
        refine WJ.block ?_
        refine WJ.seq ?_
        refine WJ.quiet ?_
        refine QJ.step (YldS.yld (y_move rfl)) rfl ?_
        refine QJ.step (YldS.yld (y_move rfl)) rfl ?_
        refine QJ.step (YldS.yld (y_move rfl)) rfl ?_
        obtain ⟨e16, h17, hm⟩ := bindS hm
        obtain ⟨ad18, _, rfl, ha19, hy20⟩ := hr6.elem h17
        refine QJ.step (YldS.yld (hy20 Try.runUnderlying43 Try.sizeOf9 rfl rfl)) rfl ?_
        refine QJ.step (YldS.yld (y_load1 (v := str e16) Try.isAgg9 ha19 St.frozenC rfl)) rfl ?_
        obtain ⟨r21, h22, hm⟩ := bindS hm
        refine QJ.step (y_call Try.call126 rfl (RetG.quiet fun w hw => ok_s_l16Best h22 w _ (hr3.st hw))) rfl ?_
        refine QJ.step (YldS.yld (y_assign rfl)) rfl ?_
        refine QJ.done ?_
        refine PJ.next ?_
        refine WJ.seq ?_
        refine WJ.seq ?_
        refine WJ.quiet ?_
        refine QJ.step (YldS.yld (y_move rfl)) rfl ?_
        refine QJ.step (YldS.yld (y_binS rfl rfl rfl)) rfl ?_
        refine QJ.done ?_
        refine PJ.next ?_
        refine WJ.cond (t := (r21 == [])) rfl (fun hb23 => ?_) (fun hb23 => ?_)
        · replace hm := ifT hm hb23
          refine WJ.seq ?_
          refine WJ.quiet ?_
          refine QJ.step (YldS.yld (y_assign rfl)) rfl ?_
          refine QJ.step (YldS.yld (y_assign rfl)) rfl ?_
          refine QJ.done ?_
          refine PJ.next ?_
          refine WJ.ret ?_
          refine PJ.then_ret (PJ.block_ret (PJ.then_ret (PJ.then_ret (PJ.block_ret (PJ.then_ret ?_)))))
          refine PJ.nil_row 9 fStr ?_
          obtain rfl := Option.some.inj hm
          refine PJ.sel (L' := [row (.slice none 0 0) 9 fStr []]) [0] ⟨by decide, rfl⟩ ?_
          exact PJ.retn (vs := [(.slice none 0 0), .bool false]) Try.results87 ⟨rfl, rfl, trivial⟩ ⟨_, rfl, rfl⟩
        · replace hm := ifF hm hb23
          refine WJ.skip ?_
          refine PJ.next ?_
          refine WJ.reg ?_
          refine SJ.q (YldS.yld (y_move rfl)) rfl ?_
          refine SJ.q (YldS.yld (y_move rfl)) rfl ?_
          refine SJ.buildSlice (R := fStr) (os := [.tmp 25]) [r21] Try.runUnderlying43 Try.sizeOf9 Try.zeroValue9 rfl rfl rfl rfl rfl rfl fun v24 => ?_
          obtain ⟨l25, h26, hm⟩ := bindS hm
          refine SJ.append (k := 1) (R := fStr) h26 rfl Try.underlying43 el9 rfl rfl rfl (fun w hw => (hw.row_rd (k := 0) rfl)) rfl fun v27 => ?_
          refine SJ.q (YldS.yld (y_assign rfl)) rfl ?_
          refine SJ.nil ?_
          refine PJ.block_normal (PJ.next ?_)
          refine WJ.quiet ?_
          refine QJ.step (YldS.yld (y_move rfl)) rfl ?_
          refine QJ.step (YldS.yld (y_bin rfl rfl rfl)) rfl ?_
          refine QJ.step (YldS.yld (y_assign rfl)) rfl ?_
          refine QJ.done ?_
          exact PJ.round (l25, v27, w64 (i14 + 1)) [1] hm ⟨rfl, rfl, rfl, rfl, trivial⟩ ⟨by decide, rfl⟩
      · replace hm := ifF hm hb15
        refine WJ.exit ?_
        refine PJ.then_exit (PJ.then_exit (PJ.block_exit ?_))
        exact PJ.joined (l12, v13) [0] hm ⟨rfl, trivial⟩ ⟨by decide, rfl⟩
  · rintro ⟨l8, v9⟩ hm
    subst hk11
    refine WJ.seq ?_
    refine WJ.quiet ?_
    refine QJ.step (YldS.yld (y_move rfl)) rfl ?_
    refine QJ.step (YldS.yld (y_assign rfl)) rfl ?_
    refine QJ.step (YldS.yld (y_assign rfl)) rfl ?_
    refine QJ.done ?_
    refine PJ.next ?_
    refine WJ.ret ?_
    obtain rfl := Option.some.inj hm
    refine PJ.sel (L' := [row v9 9 fStr l8]) [0] ⟨by decide, rfl⟩ ?_
    exact PJ.retn (vs := [v9, .bool true]) Try.results87 ⟨rfl, rfl, trivial⟩ ⟨_, rfl, rfl⟩

set_option maxRecDepth 100000 in
set_option maxHeartbeats 1000000 in
theorem ok_s_ShortenText {N : Nat} {list1 : List Abbr} {text4 : Str} {r : Str × Int} (hm : s_ShortenText N list1 text4 = some r) (w : World) (v2 : Value) (hr3 : RdS w (cx w).Fz v2 fAbbr.rp list1) :
    Calls Try.prog 36 #[v2, str text4] w (Ret (cx w) (tup [str r.1, .int .i64 r.2])) := by
  unfold s_ShortenText at hm
  refine Calls.enter [v2, str text4] Try.func36 rfl Try.ntmps36 rfl ?_
  refine WJ.seq ?_
  refine WJ.quiet ?_
  refine QJ.step (YldS.yld (y_assign rfl)) rfl ?_
  refine QJ.step (YldS.yld (y_assign rfl)) rfl ?_
  refine QJ.done ?_
  refine PJ.next ?_
  refine WJ.seq ?_
  refine WJ.reg ?_
  refine SJ.q (YldS.yld (y_move rfl)) rfl ?_
  refine SJ.q (YldS.yld (y_move rfl)) rfl ?_
  obtain ⟨r5, h6, hm⟩ := bindS hm
  refine SJ.call Try.call86 rfl (fun w hw => ok_s_l16Code h6 w _ (hr3.st hw)) rfl ?_
  rintro _ _ ⟨v7, rfl, rfl⟩
  refine SJ.q (YldS.yld (y_move rfl)) rfl ?_
  refine SJ.q (YldS.yld (y_extract rfl rfl)) rfl ?_
  refine SJ.q (YldS.yld (y_extract rfl rfl)) rfl ?_
  refine SJ.q (YldS.yld (y_assign rfl)) rfl ?_
  refine SJ.q (YldS.yld (y_assign rfl)) rfl ?_
  refine SJ.nil ?_
  refine PJ.next ?_
  refine WJ.seq ?_
  refine WJ.seq ?_
  refine WJ.quiet ?_
  refine QJ.step (YldS.yld (y_move rfl)) rfl ?_
  refine QJ.step (YldS.yld (y_bin rfl rfl rfl)) rfl ?_
  refine QJ.done ?_
  refine PJ.next ?_
  refine WJ.cond (t := (r5.2 != 0)) rfl (fun hb8 => ?_) (fun hb8 => ?_)
  · replace hm := ifT hm hb8
    refine WJ.seq ?_
    refine WJ.quiet ?_
    refine QJ.step (YldS.yld (y_move rfl)) rfl ?_
    refine QJ.step (YldS.yld (y_assign rfl)) rfl ?_
    refine QJ.step (YldS.yld (y_assign rfl)) rfl ?_
    refine QJ.done ?_
    refine PJ.next ?_
    refine WJ.ret ?_
    refine PJ.then_ret ?_
    obtain rfl := Option.some.inj hm
    refine PJ.sel (L' := []) [] ⟨List.nodup_nil, rfl⟩ ?_
    exact PJ.retn (vs := [str [], .int .i64 r5.2]) Try.results36 ⟨rfl, rfl, trivial⟩ ⟨rfl, rfl⟩
  · replace hm := ifF hm hb8
    refine WJ.skip ?_
    refine PJ.next ?_
    refine WJ.seq ?_
    refine WJ.reg ?_
    refine SJ.q (YldS.yld (y_move rfl)) rfl ?_
    refine SJ.q (YldS.yld (y_move rfl)) rfl ?_
    obtain ⟨r9, h10, hm⟩ := bindS hm
    refine SJ.call Try.call87 rfl (fun w hw => ok_s_l16Shorten h10 w _ (hr3.st hw) _ (hw.row_rd (k := 0) rfl)) rfl ?_
    rintro _ _ ⟨v11, rfl, rfl⟩
    refine SJ.q (YldS.yld (y_move rfl)) rfl ?_
    refine SJ.q (YldS.yld (y_extract rfl rfl)) rfl ?_
    refine SJ.q (YldS.yld (y_extract rfl rfl)) rfl ?_
    refine SJ.q (YldS.yld (y_assign rfl)) rfl ?_
    refine SJ.q (YldS.yld (y_assign rfl)) rfl ?_
    refine SJ.nil ?_
    refine PJ.next ?_
    refine WJ.seq ?_
    refine WJ.seq ?_
    refine WJ.quiet ?_
    refine QJ.step (YldS.yld (y_move rfl)) rfl ?_
    refine QJ.step (YldS.yld (y_not rfl)) rfl ?_
    refine QJ.done ?_
    refine PJ.next ?_
    refine WJ.cond (t := !r9.2) rfl (fun hb12 => ?_) (fun hb12 => ?_)
    · replace hm := ifT hm hb12
      refine WJ.seq ?_
      refine WJ.quiet ?_
      refine QJ.step (YldS.yld (y_assign rfl)) rfl ?_
      refine QJ.step (YldS.yld (y_assign rfl)) rfl ?_
      refine QJ.done ?_
      refine PJ.next ?_
      refine WJ.ret ?_
      refine PJ.then_ret ?_
      obtain rfl := Option.some.inj hm
      refine PJ.sel (L' := []) [] ⟨List.nodup_nil, rfl⟩ ?_
      exact PJ.retn (vs := [str [], .int .i64 3]) Try.results36 ⟨rfl, rfl, trivial⟩ ⟨rfl, rfl⟩
    · replace hm := ifF hm hb12
      refine WJ.skip ?_
      refine PJ.next ?_
      refine WJ.seq ?_
      refine WJ.quiet ?_
      refine QJ.step (YldS.yld (y_move rfl)) rfl ?_
      obtain ⟨r13, h14, hm⟩ := bindS hm
      refine QJ.step (y_call Try.call88 rfl (RetG.quiet fun w hw => ok_s_l16Join h14 w _ (hw.row_rd (k := 0) rfl))) rfl ?_
      refine QJ.step (YldS.yld (y_assign rfl)) rfl ?_
      refine QJ.step (YldS.yld (y_assign rfl)) rfl ?_
      refine QJ.done ?_
      refine PJ.next ?_
      refine WJ.ret ?_
      obtain rfl := Option.some.inj hm
      refine PJ.sel (L' := []) [] ⟨List.nodup_nil, rfl⟩ ?_
      exact PJ.retn (vs := [str r13, .int .i64 0]) Try.results36 ⟨rfl, rfl, trivial⟩ ⟨rfl, rfl⟩

set_option maxRecDepth 100000 in
set_option maxHeartbeats 1000000 in
theorem ok_i_SavedLetters {N : Nat} {list1 : List Abbr} {text4 : Str} {r : Int × Int} (hm : i_SavedLetters N list1 text4 = some r) (w : World) (v2 : Value) (hr3 : RdS w (cx w).Fz v2 fAbbr.rp list1) :
    Calls Try.prog 37 #[v2, str text4] w (Ret (cx w) (tup [.int .i64 r.1, .int .i64 r.2])) := by
  unfold i_SavedLetters at hm
  refine Calls.enter [v2, str text4] Try.func37 rfl Try.ntmps37 rfl ?_
  refine WJ.seq ?_
  refine WJ.quiet ?_
  refine QJ.step (YldS.yld (y_assign rfl)) rfl ?_
  refine QJ.step (YldS.yld (y_assign rfl)) rfl ?_
  refine QJ.done ?_
  refine PJ.next ?_
  refine WJ.seq ?_
  refine WJ.quiet ?_
  refine QJ.step (YldS.yld (y_move rfl)) rfl ?_
  refine QJ.step (YldS.yld (y_move rfl)) rfl ?_
  obtain ⟨r5, h6, hm⟩ := bindS hm
  refine QJ.step (y_call Try.call35 rfl (RetG.quiet fun w hw => ok_i_ShortenText h6 w _ (hr3.st hw))) rfl ?_
  refine QJ.step (YldS.yld (y_move rfl)) rfl ?_
  refine QJ.step (YldS.yld (y_extract rfl rfl)) rfl ?_
  refine QJ.step (YldS.yld (y_extract rfl rfl)) rfl ?_
  refine QJ.step (YldS.yld (y_assign rfl)) rfl ?_
  refine QJ.step (YldS.yld (y_assign rfl)) rfl ?_
  refine QJ.done ?_
  refine PJ.next ?_
  refine WJ.seq ?_
  refine WJ.seq ?_
  refine WJ.quiet ?_
  refine QJ.step (YldS.yld (y_move rfl)) rfl ?_
  refine QJ.step (YldS.yld (y_bin rfl rfl rfl)) rfl ?_
  refine QJ.done ?_
  refine PJ.next ?_
  refine WJ.cond (t := (r5.2 != 0)) rfl (fun hb7 => ?_) (fun hb7 => ?_)
  · replace hm := ifT hm hb7
    refine WJ.seq ?_
    refine WJ.quiet ?_
    refine QJ.step (YldS.yld (y_move rfl)) rfl ?_
    refine QJ.step (YldS.yld (y_assign rfl)) rfl ?_
    refine QJ.step (YldS.yld (y_assign rfl)) rfl ?_
    refine QJ.done ?_
    refine PJ.next ?_
    refine WJ.ret ?_
    refine PJ.then_ret ?_
    obtain rfl := Option.some.inj hm
    refine PJ.sel (L' := []) [] ⟨List.nodup_nil, rfl⟩ ?_
    exact PJ.retn (vs := [.int .i64 0, .int .i64 r5.2]) Try.results37 ⟨rfl, rfl, trivial⟩ ⟨rfl, rfl⟩
  · replace hm := ifF hm hb7
    refine WJ.skip ?_
    refine PJ.next ?_
    refine WJ.seq ?_
    refine WJ.quiet ?_
    refine QJ.step (YldS.yld (y_move rfl)) rfl ?_
    refine QJ.step (YldS.yld (y_lenStr Try.runUnderlying9 rfl)) rfl ?_
    refine QJ.step (YldS.yld (y_move rfl)) rfl ?_
    refine QJ.step (YldS.yld (y_lenStr Try.runUnderlying9 rfl)) rfl ?_
    refine QJ.step (YldS.yld (y_bin rfl rfl rfl)) rfl ?_
    refine QJ.step (YldS.yld (y_assign rfl)) rfl ?_
    refine QJ.step (YldS.yld (y_assign rfl)) rfl ?_
    refine QJ.done ?_
    refine PJ.next ?_
    refine WJ.ret ?_
    obtain rfl := Option.some.inj hm
    refine PJ.sel (L' := []) [] ⟨List.nodup_nil, rfl⟩ ?_
    exact PJ.retn (vs := [.int .i64 (w64 ((List.length text4 : Int) - (List.length r5.1 : Int))), .int .i64 0]) Try.results37 ⟨rfl, rfl, trivial⟩ ⟨rfl, rfl⟩

set_option maxRecDepth 100000 in
set_option maxHeartbeats 1000000 in
theorem ok_s_SavedLetters {N : Nat} {list1 : List Abbr} {text4 : Str} {r : Int × Int} (hm : s_SavedLetters N list1 text4 = some r) (w : World) (v2 : Value) (hr3 : RdS w (cx w).Fz v2 fAbbr.rp list1) :
    Calls Try.prog 38 #[v2, str text4] w (Ret (cx w) (tup [.int .i64 r.1, .int .i64 r.2])) := by
  unfold s_SavedLetters at hm
  refine Calls.enter [v2, str text4] Try.func38 rfl Try.ntmps38 rfl ?_
  refine WJ.seq ?_
  refine WJ.quiet ?_
  refine QJ.step (YldS.yld (y_assign rfl)) rfl ?_
  refine QJ.step (YldS.yld (y_assign rfl)) rfl ?_
  refine QJ.done ?_
  refine PJ.next ?_
  refine WJ.seq ?_
  refine WJ.reg ?_
  refine SJ.q (YldS.yld (y_move rfl)) rfl ?_
  refine SJ.q (YldS.yld (y_move rfl)) rfl ?_
  obtain ⟨r5, h6, hm⟩ := bindS hm
  refine SJ.call Try.call86 rfl (fun w hw => ok_s_l16Code h6 w _ (hr3.st hw)) rfl ?_
  rintro _ _ ⟨v7, rfl, rfl⟩
  refine SJ.q (YldS.yld (y_move rfl)) rfl ?_
  refine SJ.q (YldS.yld (y_extract rfl rfl)) rfl ?_
  refine SJ.q (YldS.yld (y_extract rfl rfl)) rfl ?_
  refine SJ.q (YldS.yld (y_assign rfl)) rfl ?_
  refine SJ.q (YldS.yld (y_assign rfl)) rfl ?_
  refine SJ.nil ?_
  refine PJ.next ?_
  refine WJ.seq ?_
  refine WJ.seq ?_
  refine WJ.quiet ?_
  refine QJ.step (YldS.yld (y_move rfl)) rfl ?_
  refine QJ.step (YldS.yld (y_bin rfl rfl rfl)) rfl ?_
  refine QJ.done ?_
  refine PJ.next ?_
  refine WJ.cond (t := (r5.2 != 0)) rfl (fun hb8 => ?_) (fun hb8 => ?_)
  · replace hm := ifT hm hb8
    refine WJ.seq ?_
    refine WJ.quiet ?_
    refine QJ.step (YldS.yld (y_move rfl)) rfl ?_
    refine QJ.step (YldS.yld (y_assign rfl)) rfl ?_
    refine QJ.step (YldS.yld (y_assign rfl)) rfl ?_
    refine QJ.done ?_
    refine PJ.next ?_
    refine WJ.ret ?_
    refine PJ.then_ret ?_
    obtain rfl := Option.some.inj hm
    refine PJ.sel (L' := []) [] ⟨List.nodup_nil, rfl⟩ ?_
    exact PJ.retn (vs := [.int .i64 0, .int .i64 r5.2]) Try.results38 ⟨rfl, rfl, trivial⟩ ⟨rfl, rfl⟩
  · replace hm := ifF hm hb8
    refine WJ.skip ?_
    refine PJ.next ?_
    refine WJ.seq ?_
    refine WJ.reg ?_
    refine SJ.q (YldS.yld (y_move rfl)) rfl ?_
    refine SJ.q (YldS.yld (y_move rfl)) rfl ?_
    obtain ⟨r9, h10, hm⟩ := bindS hm
    refine SJ.call Try.call87 rfl (fun w hw => ok_s_l16Shorten h10 w _ (hr3.st hw) _ (hw.row_rd (k := 0) rfl)) rfl ?_
    rintro _ _ ⟨v11, rfl, rfl⟩
    refine SJ.q (YldS.yld (y_move rfl)) rfl ?_
    refine SJ.q (YldS.yld (y_extract rfl rfl)) rfl ?_
    refine SJ.q (YldS.yld (y_extract rfl rfl)) rfl ?_
    refine SJ.q (YldS.yld (y_assign rfl)) rfl ?_
    refine SJ.q (YldS.yld (y_assign rfl)) rfl ?_
    refine SJ.nil ?_
    refine PJ.next ?_
    refine WJ.seq ?_
    refine WJ.seq ?_
    refine WJ.quiet ?_
    refine QJ.step (YldS.yld (y_move rfl)) rfl ?_
    refine QJ.step (YldS.yld (y_not rfl)) rfl ?_
    refine QJ.done ?_
    refine PJ.next ?_
    refine WJ.cond (t := !r9.2) rfl (fun hb12 => ?_) (fun hb12 => ?_)
    · replace hm := ifT hm hb12
      refine WJ.seq ?_
      refine WJ.quiet ?_
      refine QJ.step (YldS.yld (y_assign rfl)) rfl ?_
      refine QJ.step (YldS.yld (y_assign rfl)) rfl ?_
      refine QJ.done ?_
      refine PJ.next ?_
      refine WJ.ret ?_
      refine PJ.then_ret ?_
      obtain rfl := Option.some.inj hm
      refine PJ.sel (L' := []) [] ⟨List.nodup_nil, rfl⟩ ?_
      exact PJ.retn (vs := [.int .i64 0, .int .i64 3]) Try.results38 ⟨rfl, rfl, trivial⟩ ⟨rfl, rfl⟩
    · replace hm := ifF hm hb12
      refine WJ.skip ?_
      refine PJ.next ?_
      refine WJ.seq ?_
      refine WJ.quiet ?_
      refine QJ.step (YldS.yld (y_move rfl)) rfl ?_
      refine QJ.step (YldS.yld (y_lenStr Try.runUnderlying9 rfl)) rfl ?_
      refine QJ.step (YldS.yld (y_move rfl)) rfl ?_
      obtain ⟨r13, h14, hm⟩ := bindS hm
      refine QJ.step (y_call Try.call88 rfl (RetG.quiet fun w hw => ok_s_l16Join h14 w _ (hw.row_rd (k := 0) rfl))) rfl ?_
      refine QJ.step (YldS.yld (y_lenStr Try.runUnderlying9 rfl)) rfl ?_
      refine QJ.step (YldS.yld (y_bin rfl rfl rfl)) rfl ?_
      refine QJ.step (YldS.yld (y_assign rfl)) rfl ?_
      refine QJ.step (YldS.yld (y_assign rfl)) rfl ?_
      refine QJ.done ?_
      refine PJ.next ?_
      refine WJ.ret ?_
      obtain rfl := Option.some.inj hm
      refine PJ.sel (L' := []) [] ⟨List.nodup_nil, rfl⟩ ?_
      exact PJ.retn (vs := [.int .i64 (w64 ((List.length text4 : Int) - (List.length r13 : Int))), .int .i64 0]) Try.results38 ⟨rfl, rfl, trivial⟩ ⟨rfl, rfl⟩

set_option maxRecDepth 100000 in
set_option maxHeartbeats 1000000 in
theorem ok_i_ExpandText {N : Nat} {list1 : List Abbr} {text4 : Str} {r : Str × Int} (hm : i_ExpandText N list1 text4 = some r) (w : World) (v2 : Value) (hr3 : RdS w (cx w).Fz v2 fAbbr.rp list1) :
    Calls Try.prog 39 #[v2, str text4] w (Ret (cx w) (tup [str r.1, .int .i64 r.2])) := by
  unfold i_ExpandText at hm
  refine Calls.enter [v2, str text4] Try.func39 rfl Try.ntmps39 rfl ?_
  refine WJ.seq ?_
  refine WJ.quiet ?_
  refine QJ.step (YldS.yld (y_assign rfl)) rfl ?_
  refine QJ.step (YldS.yld (y_assign rfl)) rfl ?_
  refine QJ.done ?_
  refine PJ.next ?_
  refine WJ.seq ?_
  refine WJ.reg ?_
  refine SJ.q (YldS.yld (y_move rfl)) rfl ?_
  refine SJ.q (YldS.yld (y_move rfl)) rfl ?_
  obtain ⟨r5, h6, hm⟩ := bindS hm
  refine SJ.call Try.call83 rfl (fun w hw => ok_i_noteCode h6 w _ (hr3.st hw)) rfl ?_
  rintro _ _ ⟨v7, rfl, rfl⟩
  refine SJ.q (YldS.yld (y_move rfl)) rfl ?_
  refine SJ.q (YldS.yld (y_extract rfl rfl)) rfl ?_
  refine SJ.q (YldS.yld (y_extract rfl rfl)) rfl ?_
  refine SJ.q (YldS.yld (y_assign rfl)) rfl ?_
  refine SJ.q (YldS.yld (y_assign rfl)) rfl ?_
  refine SJ.nil ?_
  refine PJ.next ?_
  refine WJ.seq ?_
  refine WJ.seq ?_
  refine WJ.quiet ?_
  refine QJ.step (YldS.yld (y_move rfl)) rfl ?_
  refine QJ.step (YldS.yld (y_bin rfl rfl rfl)) rfl ?_
  refine QJ.done ?_
  refine PJ.next ?_
  refine WJ.cond (t := (r5.2 != 0)) rfl (fun hb8 => ?_) (fun hb8 => ?_)
  · replace hm := ifT hm hb8
    refine WJ.seq ?_
    refine WJ.quiet ?_
    refine QJ.step (YldS.yld (y_move rfl)) rfl ?_
    refine QJ.step (YldS.yld (y_assign rfl)) rfl ?_
    refine QJ.step (YldS.yld (y_assign rfl)) rfl ?_
    refine QJ.done ?_
    refine PJ.next ?_
    refine WJ.ret ?_
    refine PJ.then_ret ?_
    obtain rfl := Option.some.inj hm
    refine PJ.sel (L' := []) [] ⟨List.nodup_nil, rfl⟩ ?_
    exact PJ.retn (vs := [str [], .int .i64 r5.2]) Try.results39 ⟨rfl, rfl, trivial⟩ ⟨rfl, rfl⟩
  · replace hm := ifF hm hb8
    refine WJ.skip ?_
    refine PJ.next ?_
    obtain ⟨kj10, hk11, hm⟩ := withK_open hm
    refine WJ.join (X := (List Str)) (fun (x : (List Str)) => kj10 x = some r) (fun (x : (List Str)) => [(6, v7)]) (fun (x : (List Str)) => [row v7 9 fStr x]) ?_ ?_
    · clear hk11
      refine WJ.seq ?_
      refine WJ.quiet ?_
      refine QJ.step (YldS.yld (y_move rfl)) rfl ?_
      refine QJ.step (YldS.yld (y_lenRow (k := 0) rfl Try.runUnderlying43 rfl)) rfl ?_
      refine QJ.step (YldS.yld (y_move rfl)) rfl ?_
      refine QJ.done ?_
      refine PJ.next ?_
      refine WJ.block ?_
      refine WJ.sel (L' := (fun (x : (List Str) × Int) => [row v7 9 fStr x.1]) (r5.1, 0)) [0] ⟨by decide, rfl⟩ ?_
      refine WJ.sub (m' := (fun (x : (List Str) × Int) => [(0, v2), (6, v7), (21, v7), (22, .int .i64 (List.length r5.1 : Int)), (23, .int .i64 x.2)]) (r5.1, 0)) ⟨rfl, rfl, rfl, rfl, rfl, trivial⟩ ?_
      refine WJ.loop (X := (List Str) × Int) (fun N (x : (List Str) × Int) => i_ExpandText_l1 kj10 list1 r5 N x.1 x.2 = some r) (fun (x : (List Str) × Int) => [(0, v2), (6, v7), (21, v7), (22, .int .i64 (List.length r5.1 : Int)), (23, .int .i64 x.2)]) (fun (x : (List Str) × Int) => [row v7 9 fStr x.1]) ?_ N (r5.1, 0) hm
      · rintro N ⟨l12, x13⟩ hI
        have hm := hI; clear hI
        cases N with
        | zero => cases hm
        | succ N =>
        unfold i_ExpandText_l1 at hm
        refine WJ.seq ?_
        refine WJ.quiet ?_
        refine QJ.step (YldS.yld (y_bin rfl rfl rfl)) rfl ?_
        refine QJ.done ?_
        refine PJ.next ?_
        refine WJ.seq ?_
        refine WJ.cond (t := decide (x13 < (List.length r5.1 : Int))) rfl (fun hb14 => ?_) (fun hb14 => ?_)
        · replace hm := ifT hm hb14
          refine WJ.skip ?_
          refine PJ.next ?_
          obtain ⟨kj16, hk17, hm⟩ := withK_open hm
          refine WJ.join (X := (List Str)) (fun (x : (List Str)) => kj16 x = some r) (fun (x : (List Str)) => [(0, v2), (6, v7), (21, v7), (22, .int .i64 (List.length r5.1 : Int)), (23, .int .i64 x13)]) (fun (x : (List Str)) => [row v7 9 fStr x]) ?_ ?_
          · clear hk17
            refine WJ.block ?_
            refine WJ.seq ?_
            refine WJ.quiet ?_
            refine QJ.step (YldS.yld (y_move rfl)) rfl ?_
            obtain ⟨e18, h19, hm⟩ := bindS hm
            refine QJ.step (YldS.yld (y_ixRow (k := 0) (R := fStr) rfl Try.runUnderlying43 Try.sizeOf9 rfl rfl h19)) rfl ?_
            refine QJ.step (YldS.yld (y_loadR (k := 0) (i := (Int.toNat x13)) (off := 0) (u := str e18) rfl Try.isAgg9 rfl (idx_get h19) rfl)) rfl ?_
            refine QJ.step (YldS.yld (y_assign rfl)) rfl ?_
            refine QJ.step (YldS.yld (y_assign rfl)) rfl ?_
            refine QJ.done ?_
            refine PJ.next ?_
            refine WJ.seq ?_
            refine WJ.quiet ?_
            refine QJ.step (YldS.yld (y_move rfl)) rfl ?_
            refine QJ.step (YldS.yld (y_move rfl)) rfl ?_
            obtain ⟨r20, h21, hm⟩ := bindS hm
            refine QJ.step (y_call Try.call84 rfl (RetG.quiet fun w hw => ok_i_longOf h21 w _ (hr3.st hw))) rfl ?_
            refine QJ.step (YldS.yld (y_move rfl)) rfl ?_
            refine QJ.step (YldS.yld (y_extract rfl rfl)) rfl ?_
            refine QJ.step (YldS.yld (y_extract rfl rfl)) rfl ?_
            refine QJ.step (YldS.yld (y_assign rfl)) rfl ?_
            refine QJ.step (YldS.yld (y_assign rfl)) rfl ?_
            refine QJ.done ?_
            refine PJ.next ?_
            refine WJ.seq ?_
            refine WJ.quiet ?_
            refine QJ.step (YldS.yld (y_move rfl)) rfl ?_
            refine QJ.done ?_
            refine PJ.next ?_
            refine WJ.cond (t := r20.2) rfl (fun hb22 => ?_) (fun hb22 => ?_)
            · replace hm := ifT hm hb22
              refine WJ.reg ?_
              refine SJ.q (YldS.yld (y_move rfl)) rfl ?_
              refine SJ.q (YldS.yld (y_move rfl)) rfl ?_
              refine SJ.q (YldS.yld (y_move rfl)) rfl ?_
              obtain ⟨e23, h24, hm⟩ := bindS hm
              refine SJ.q (YldS.yld (y_ixRow (k := 0) (R := fStr) rfl Try.runUnderlying43 Try.sizeOf9 rfl rfl h24)) rfl ?_
              refine SJ.storeRL (k := 0) (i := (Int.toNat x13)) (off := 0) (us := [str r20.1]) (b := r20.1) rfl rfl (idx_get h24) rfl rfl Try.sizeOf9 rfl rfl rfl ?_
              refine SJ.nil ?_
              refine PJ.block_normal ?_
              exact PJ.joined (List.set l12 (Int.toNat x13) r20.1) [0] hm ⟨rfl, rfl, rfl, rfl, rfl, trivial⟩ ⟨by decide, rfl⟩
            · replace hm := ifF hm hb22
              refine WJ.skip ?_
              refine PJ.block_normal ?_
              exact PJ.joined l12 [0] hm ⟨rfl, rfl, rfl, rfl, rfl, trivial⟩ ⟨by decide, rfl⟩
          · rintro l15 hm
            subst hk17
            refine WJ.quiet ?_
            refine QJ.step (YldS.yld (y_bin rfl rfl rfl)) rfl ?_
            refine QJ.step (YldS.yld (y_move rfl)) rfl ?_
            refine QJ.done ?_
            exact PJ.round (l15, w64 (x13 + 1)) [0] hm ⟨rfl, rfl, rfl, rfl, rfl, trivial⟩ ⟨by decide, rfl⟩
        · replace hm := ifF hm hb14
          refine WJ.exit ?_
          refine PJ.then_exit (PJ.then_exit (PJ.block_exit ?_))
          exact PJ.joined l12 [0] hm ⟨rfl, trivial⟩ ⟨by decide, rfl⟩
    · rintro l9 hm
      subst hk11
      refine WJ.seq ?_
      refine WJ.quiet ?_
      refine QJ.step (YldS.yld (y_move rfl)) rfl ?_
      obtain ⟨r25, h26, hm⟩ := bindS hm
      refine QJ.step (y_call Try.call85 rfl (RetG.quiet fun w hw => ok_joinO h26 w _ (hw.row_rd (k := 0) rfl) (hw.row_sp (k := 0) rfl))) rfl ?_
      refine QJ.step (YldS.yld (y_assign rfl)) rfl ?_
      refine QJ.step (YldS.yld (y_assign rfl)) rfl ?_
      refine QJ.done ?_
      refine PJ.next ?_
      refine WJ.ret ?_
      obtain rfl := Option.some.inj hm
      refine PJ.sel (L' := []) [] ⟨List.nodup_nil, rfl⟩ ?_
      exact PJ.retn (vs := [str r25, .int .i64 0]) Try.results39 ⟨rfl, rfl, trivial⟩ ⟨rfl, rfl⟩

set_option maxRecDepth 100000 in
set_option maxHeartbeats 1000000 in
theorem ok_s_ExpandText {N : Nat} {list1 : List Abbr} {text4 : Str} {r : Str × Int} (hm : s_ExpandText N list1 text4 = some r) (w : World) (v2 : Value) (hr3 : RdS w (cx w).Fz v2 fAbbr.rp list1) :
    Calls Try.prog 40 #[v2, str text4] w (Ret (cx w) (tup [str r.1, .int .i64 r.2])) := by
  unfold s_ExpandText at hm
  refine Calls.enter [v2, str text4] Try.func40 rfl Try.ntmps40 rfl ?_
  refine WJ.seq ?_
  refine WJ.quiet ?_
  refine QJ.step (YldS.yld (y_assign rfl)) rfl ?_
  refine QJ.step (YldS.yld (y_assign rfl)) rfl ?_
  refine QJ.done ?_
  refine PJ.next ?_
  refine WJ.seq ?_
  refine WJ.reg ?_
  refine SJ.q (YldS.yld (y_move rfl)) rfl ?_
  refine SJ.q (YldS.yld (y_move rfl)) rfl ?_
  obtain ⟨r5, h6, hm⟩ := bindS hm
  refine SJ.call Try.call86 rfl (fun w hw => ok_s_l16Code h6 w _ (hr3.st hw)) rfl ?_
  rintro _ _ ⟨v7, rfl, rfl⟩
  refine SJ.q (YldS.yld (y_move rfl)) rfl ?_
  refine SJ.q (YldS.yld (y_extract rfl rfl)) rfl ?_
  refine SJ.q (YldS.yld (y_extract rfl rfl)) rfl ?_
  refine SJ.q (YldS.yld (y_assign rfl)) rfl ?_
  refine SJ.q (YldS.yld (y_assign rfl)) rfl ?_
  refine SJ.nil ?_
  refine PJ.next ?_
  refine WJ.seq ?_
  refine WJ.seq ?_
  refine WJ.quiet ?_
  refine QJ.step (YldS.yld (y_move rfl)) rfl ?_
  refine QJ.step (YldS.yld (y_bin rfl rfl rfl)) rfl ?_
  refine QJ.done ?_
  refine PJ.next ?_
  refine WJ.cond (t := (r5.2 != 0)) rfl (fun hb8 => ?_) (fun hb8 => ?_)
  · replace hm := ifT hm hb8
    refine WJ.seq ?_
    refine WJ.quiet ?_
    refine QJ.step (YldS.yld (y_move rfl)) rfl ?_
    refine QJ.step (YldS.yld (y_assign rfl)) rfl ?_
    refine QJ.step (YldS.yld (y_assign rfl)) rfl ?_
    refine QJ.done ?_
    refine PJ.next ?_
    refine WJ.ret ?_
    refine PJ.then_ret ?_
    obtain rfl := Option.some.inj hm
    refine PJ.sel (L' := []) [] ⟨List.nodup_nil, rfl⟩ ?_
    exact PJ.retn (vs := [str [], .int .i64 r5.2]) Try.results40 ⟨rfl, rfl, trivial⟩ ⟨rfl, rfl⟩
  · replace hm := ifF hm hb8
    refine WJ.skip ?_
    refine PJ.next ?_
    refine WJ.seq ?_
    refine WJ.reg ?_
    refine SJ.buildSlice (R := fStr) (os := []) [] Try.runUnderlying43 Try.sizeOf9 Try.zeroValue9 rfl rfl rfl rfl rfl rfl fun v9 => ?_
    refine SJ.q (YldS.yld (y_assign rfl)) rfl ?_
    refine SJ.nil ?_
    refine PJ.next ?_
    obtain ⟨kj12, hk13, hm⟩ := withK_open hm
    refine WJ.join (X := (List Str) × Value) (fun (x : (List Str) × Value) => kj12 x.1 = some r) (fun (x : (List Str) × Value) => [(8, x.2)]) (fun (x : (List Str) × Value) => [row x.2 9 fStr x.1]) ?_ ?_
    · clear hk13
      refine WJ.seq ?_
      refine WJ.quiet ?_
      refine QJ.step (YldS.yld (y_assign rfl)) rfl ?_
      refine QJ.done ?_
      refine PJ.next ?_
      refine WJ.block ?_
      refine WJ.sel (L' := (fun (x : (List Str) × Value × Int) => [row x.2.1 9 fStr x.1, row v7 9 fStr r5.1]) ([], v9, 0)) [0, 1] ⟨by decide, rfl⟩ ?_
      refine WJ.sub (m' := (fun (x : (List Str) × Value × Int) => [(0, v2), (6, v7), (8, x.2.1), (9, .int .i64 x.2.2)]) ([], v9, 0)) ⟨rfl, rfl, rfl, rfl, trivial⟩ ?_
      refine WJ.loop (X := (List Str) × Value × Int) (fun N (x : (List Str) × Value × Int) => s_ExpandText_l1 kj12 list1 r5 N x.1 x.2.2 = some r) (fun (x : (List Str) × Value × Int) => [(0, v2), (6, v7), (8, x.2.1), (9, .int .i64 x.2.2)]) (fun (x : (List Str) × Value × Int) => [row x.2.1 9 fStr x.1, row v7 9 fStr r5.1]) ?_ N ([], v9, 0) hm
      · rintro N ⟨l14, v15, i16⟩ hI
        have hm := hI; clear hI
        cases N with
        | zero => cases hm
        | succ N =>
        unfold s_ExpandText_l1 at hm
        refine WJ.seq ?_
        refine WJ.seq ?_
        refine WJ.quiet ?_
        refine QJ.step (YldS.yld (y_move rfl)) rfl ?_
        refine QJ.step (YldS.yld (y_move rfl)) rfl ?_
        refine QJ.step (YldS.yld (y_lenRow (k := 1) rfl Try.runUnderlying43 rfl)) rfl ?_
        refine QJ.step (YldS.yld (y_bin rfl rfl rfl)) rfl ?_
        refine QJ.done ?_
        refine PJ.next ?_
        refine WJ.cond (t := decide (i16 < (List.length r5.1 : Int))) rfl (fun hb17 => ?_) (fun hb17 => ?_)
        · replace hm := ifT hm hb17
          refine WJ.skip ?_
          refine PJ.next ?_
          obtain ⟨kj20, hk21, hm⟩ := withK_open hm
          refine WJ.join (X := (List Str) × Value) (fun (x : (List Str) × Value) => kj20 x.1 = some r) (fun (x : (List Str) × Value) => [(0, v2), (6, v7), (8, x.2), (9, .int .i64 i16)]) (fun (x : (List Str) × Value) => [row x.2 9 fStr x.1, row v7 9 fStr r5.1]) ?_ ?_
          · clear hk21
            refine WJ.block ?_
            refine WJ.seq ?_
            refine WJ.quiet ?_
            refine QJ.step (YldS.yld (y_move rfl)) rfl ?_
            refine QJ.step (YldS.yld (y_move rfl)) rfl ?_
            refine QJ.step (YldS.yld (y_move rfl)) rfl ?_
            obtain ⟨e22, h23, hm⟩ := bindS hm
            refine QJ.step (YldS.yld (y_ixRow (k := 1) (R := fStr) rfl Try.runUnderlying43 Try.sizeOf9 rfl rfl h23)) rfl ?_
            refine QJ.step (YldS.yld (y_loadR (k := 1) (i := (Int.toNat i16)) (off := 0) (u := str e22) rfl Try.isAgg9 rfl (idx_get h23) rfl)) rfl ?_
            obtain ⟨r24, h25, hm⟩ := bindS hm
            refine QJ.step (y_call Try.call89 rfl (RetG.quiet fun w hw => ok_s_l16Short h25 w _ (hr3.st hw))) rfl ?_
            refine QJ.step (YldS.yld (y_assign rfl)) rfl ?_
            refine QJ.done ?_
            refine PJ.next ?_
            refine WJ.seq ?_
            refine WJ.quiet ?_
            refine QJ.step (YldS.yld (y_move rfl)) rfl ?_
            refine QJ.step (YldS.yld (y_bin rfl rfl rfl)) rfl ?_
            refine QJ.done ?_
            refine PJ.next ?_
            refine WJ.cond (t := decide (r24 ≥ 0)) rfl (fun hb26 => ?_) (fun hb26 => ?_)
            · replace hm := ifT hm hb26
              refine WJ.reg ?_
              refine SJ.q (YldS.yld (y_move rfl)) rfl ?_
              refine SJ.q (YldS.yld (y_move rfl)) rfl ?_
              refine SJ.q (YldS.yld (y_move rfl)) rfl ?_
              obtain ⟨e27, h28, hm⟩ := bindS hm
              obtain ⟨ad29, _, rfl, ha30, hy31⟩ := hr3.elem h28
              refine SJ.q (YldS.yld (hy31 Try.runUnderlying56 Try.sizeOf64 rfl rfl)) rfl ?_
              refine SJ.q (YldS.yld (y_fld (ad := ad29) fld64_1 rfl)) rfl ?_
              refine SJ.q (YldS.yld (y_load1 (v := str e27.long) Try.isAgg9 (ha30.sub 1 1) St.frozenC rfl)) rfl ?_
              refine SJ.buildSlice (R := fStr) (os := [.tmp 40]) [e27.long] Try.runUnderlying43 Try.sizeOf9 Try.zeroValue9 rfl rfl rfl rfl rfl rfl fun v32 => ?_
              obtain ⟨l33, h34, hm⟩ := bindS hm
              refine SJ.append (k := 1) (R := fStr) h34 rfl Try.underlying43 el9 rfl rfl rfl (fun w hw => (hw.row_rd (k := 0) rfl)) rfl fun v35 => ?_
              refine SJ.q (YldS.yld (y_assign rfl)) rfl ?_
              refine SJ.nil ?_
              refine PJ.block_normal ?_
              exact PJ.joined (l33, v35) [1, 2] hm ⟨rfl, rfl, rfl, rfl, trivial⟩ ⟨by decide, rfl⟩
            · replace hm := ifF hm hb26
              refine WJ.reg ?_
              refine SJ.q (YldS.yld (y_move rfl)) rfl ?_
              refine SJ.q (YldS.yld (y_move rfl)) rfl ?_
              refine SJ.q (YldS.yld (y_move rfl)) rfl ?_
              obtain ⟨e36, h37, hm⟩ := bindS hm
              refine SJ.q (YldS.yld (y_ixRow (k := 1) (R := fStr) rfl Try.runUnderlying43 Try.sizeOf9 rfl rfl h37)) rfl ?_
              refine SJ.q (YldS.yld (y_loadR (k := 1) (i := (Int.toNat i16)) (off := 0) (u := str e36) rfl Try.isAgg9 rfl (idx_get h37) rfl)) rfl ?_
              refine SJ.buildSlice (R := fStr) (os := [.tmp 47]) [e36] Try.runUnderlying43 Try.sizeOf9 Try.zeroValue9 rfl rfl rfl rfl rfl rfl fun v38 => ?_
              obtain ⟨l39, h40, hm⟩ := bindS hm
              refine SJ.append (k := 1) (R := fStr) h40 rfl Try.underlying43 el9 rfl rfl rfl (fun w hw => (hw.row_rd (k := 0) rfl)) rfl fun v41 => ?_
              refine SJ.q (YldS.yld (y_assign rfl)) rfl ?_
              refine SJ.nil ?_
              refine PJ.block_normal ?_
              exact PJ.joined (l39, v41) [1, 2] hm ⟨rfl, rfl, rfl, rfl, trivial⟩ ⟨by decide, rfl⟩
          · rintro ⟨l18, v19⟩ hm
            subst hk21
            refine WJ.quiet ?_
            refine QJ.step (YldS.yld (y_move rfl)) rfl ?_
            refine QJ.step (YldS.yld (y_bin rfl rfl rfl)) rfl ?_
            refine QJ.step (YldS.yld (y_assign rfl)) rfl ?_
            refine QJ.done ?_
            exact PJ.round (l18, v19, w64 (i16 + 1)) [0, 1] hm ⟨rfl, rfl, rfl, rfl, trivial⟩ ⟨by decide, rfl⟩
        · replace hm := ifF hm hb17
          refine WJ.exit ?_
          refine PJ.then_exit (PJ.then_exit (PJ.block_exit ?_))
          exact PJ.joined (l14, v15) [0] hm ⟨rfl, trivial⟩ ⟨by decide, rfl⟩
    · rintro ⟨l10, v11⟩ hm
      subst hk13
      refine WJ.seq ?_
      refine WJ.quiet ?_
      refine QJ.step (YldS.yld (y_move rfl)) rfl ?_
      obtain ⟨r42, h43, hm⟩ := bindS hm
      refine QJ.step (y_call Try.call88 rfl (RetG.quiet fun w hw => ok_s_l16Join h43 w _ (hw.row_rd (k := 0) rfl))) rfl ?_
      refine QJ.step (YldS.yld (y_assign rfl)) rfl ?_
      refine QJ.step (YldS.yld (y_assign rfl)) rfl ?_
      refine QJ.done ?_
      refine PJ.next ?_
      refine WJ.ret ?_
      obtain rfl := Option.some.inj hm
      refine PJ.sel (L' := []) [] ⟨List.nodup_nil, rfl⟩ ?_
      exact PJ.retn (vs := [str r42, .int .i64 0]) Try.results40 ⟨rfl, rfl, trivial⟩ ⟨rfl, rfl⟩

set_option maxRecDepth 100000 in
set_option maxHeartbeats 1000000 in
theorem ok_i_UsefulAbbrs_c1 {i1 : Int} {mp6 : List (Str × Int)} {x7 : List Abbr} {r : Int} (hm : i_UsefulAbbrs_c1 i1 mp6 x7 = some r) (w : World) (ad2 : Addr) (g3 : Nat) (ha4 : At w (cx w).Fz ad2 [.map (some g3)]) (hm5 : MpF vI64 w (cx w).Fz g3 mp6) (ad8 : Addr) (v10 : Value) (ha9 : At w (cx w).Fz ad8 [v10]) (hr11 : RdS w (cx w).Fz v10 fAbbr.rp x7) :
    Calls Try.prog 90 #[.int .i64 i1, .pointer (some ad2), .pointer (some ad8)] w (Ret (cx w) (.int .i64 r)) := by
  unfold i_UsefulAbbrs_c1 at hm
  refine Calls.enter [.int .i64 i1, .pointer (some ad2), .pointer (some ad8)] Try.func90 rfl Try.ntmps90 rfl ?_
  refine WJ.seq ?_
  refine WJ.quiet ?_
  refine QJ.step (YldS.yld (y_assign rfl)) rfl ?_
  refine QJ.done ?_
  refine PJ.next ?_
  refine WJ.seq ?_
  refine WJ.quiet_draw follows (by kernel_rfl) ?_
  refine QJ.step (YldS.yld (y_load1 (v := .map (some g3)) Try.isAgg109 ha4 St.frozenC rfl)) rfl ?_
  refine QJ.step (YldS.yld (y_load1 (v := v10) Try.isAgg56 ha9 St.frozenC rfl)) rfl ?_
  refine QJ.step (YldS.yld (y_move rfl)) rfl ?_
  obtain ⟨e12, h13, hm⟩ := bindS hm
  obtain ⟨ad14, _, rfl, ha15, hy16⟩ := hr11.elem h13
  refine QJ.step (YldS.yld (hy16 Try.runUnderlying56 Try.sizeOf64 rfl rfl)) rfl ?_
  refine QJ.step (YldS.yld (y_fld (ad := ad14) fld64_1 rfl)) rfl ?_
  refine QJ.step (YldS.yld (y_load1 (v := str e12.long) Try.isAgg9 (ha15.sub 1 1) St.frozenC rfl)) rfl ?_
  refine QJ.step (YldS.yld (y_lookupVF (f := vI64) (z := (0 : Int)) hm5 St.frozenC Try.underlying109 Try.underlying9 Try.zeroValue3 rfl rfl)) rfl ?_
  refine QJ.step (YldS.yld (y_load1 (v := v10) Try.isAgg56 ha9 St.frozenC rfl)) rfl ?_
  refine QJ.step (YldS.yld (y_move rfl)) rfl ?_
  obtain ⟨e17, h18, hm⟩ := bindS hm
  obtain ⟨ad19, _, rfl, ha20, hy21⟩ := hr11.elem h18
  refine QJ.step (YldS.yld (hy21 Try.runUnderlying56 Try.sizeOf64 rfl rfl)) rfl ?_
  refine QJ.step (YldS.yld (y_fld (ad := ad19) fld64_1 rfl)) rfl ?_
  refine QJ.step (YldS.yld (y_load1 (v := str e17.long) Try.isAgg9 (ha20.sub 1 1) St.frozenC rfl)) rfl ?_
  refine QJ.step (YldS.yld (y_lenStr Try.runUnderlying9 rfl)) rfl ?_
  refine QJ.step (YldS.yld (y_load1 (v := v10) Try.isAgg56 ha9 St.frozenC rfl)) rfl ?_
  refine QJ.step (YldS.yld (y_move rfl)) rfl ?_
  obtain ⟨e22, h23, hm⟩ := bindS hm
  obtain ⟨ad24, _, rfl, ha25, hy26⟩ := hr11.elem h23
  refine QJ.step (YldS.yld (hy26 Try.runUnderlying56 Try.sizeOf64 rfl rfl)) rfl ?_
  refine QJ.step (YldS.yld (y_fld (ad := ad24) fld64_0 rfl)) rfl ?_
  refine QJ.step (YldS.yld (y_load1 (v := str e22.short) Try.isAgg9 (ha25.sub 0 1) St.frozenC rfl)) rfl ?_
  refine QJ.step (YldS.yld (y_lenStr Try.runUnderlying9 rfl)) rfl ?_
  refine QJ.step (YldS.yld (y_bin rfl rfl rfl)) rfl ?_
  refine QJ.step (YldS.yld (y_bin rfl rfl rfl)) rfl ?_
  refine QJ.step (YldS.yld (y_assign rfl)) rfl ?_
  refine QJ.done ?_
  refine PJ.next ?_
  refine WJ.ret ?_
  obtain rfl := Option.some.inj hm
  refine PJ.sel (L' := []) [] ⟨List.nodup_nil, rfl⟩ ?_
  exact PJ.retn (vs := [.int .i64 (w64 ((Option.getD (mgetO mp6 e12.long) (0 : Int)) * (w64 ((List.length e17.long : Int) - (List.length e22.short : Int)))))]) Try.results90 ⟨rfl, trivial⟩ ⟨rfl, rfl⟩

set_option maxRecDepth 100000 in
set_option maxHeartbeats 1000000 in
theorem ok_i_UsefulAbbrs_c2 {i1 : Int} {k2 : Int} {mp9 : List (Str × Int)} {x10 : List Abbr} {x15 : List Int} {r : Bool} (hm : i_UsefulAbbrs_c2 i1 k2 mp9 x10 x15 = some r) (w : World) (ad3 : Addr) (ad5 : Addr) (g6 : Nat) (ha7 : At w (cx w).Fz ad5 [.map (some g6)]) (hm8 : MpF vI64 w (cx w).Fz g6 mp9) (ad11 : Addr) (v13 : Value) (ha12 : At w (cx w).Fz ad11 [v13]) (hr14 : RdS w (cx w).Fz v13 fAbbr.rp x10) (ha4 : At w (cx w).Fz ad3 [.func (.func 90) #[] (List.toArray [.pointer (some ad5), .pointer (some ad11)])]) (ad16 : Addr) (v18 : Value) (ha17 : At w (cx w).Fz ad16 [v18]) (hr19 : RdS w (cx w).Fz v18 fI64.rp x15) :
    Calls Try.prog 91 #[.int .i64 i1, .int .i64 k2, .pointer (some ad3), .pointer (some ad16)] w (Ret (cx w) (.bool r)) := by
  unfold i_UsefulAbbrs_c2 at hm
  refine Calls.enter [.int .i64 i1, .int .i64 k2, .pointer (some ad3), .pointer (some ad16)] Try.func91 rfl Try.ntmps91 rfl ?_
  refine WJ.seq ?_
  refine WJ.quiet ?_
  refine QJ.step (YldS.yld (y_assign rfl)) rfl ?_
  refine QJ.done ?_
  refine PJ.next ?_
  refine WJ.seq ?_
  refine WJ.quiet_draw follows (by kernel_rfl) ?_
  refine QJ.step (YldS.yld (y_load1 (v := .func (.func 90) #[] (List.toArray [.pointer (some ad5), .pointer (some ad11)])) Try.isAgg110 ha4 St.frozenC rfl)) rfl ?_
  refine QJ.step (YldS.yld (y_load1 (v := v18) Try.isAgg27 ha17 St.frozenC rfl)) rfl ?_
  refine QJ.step (YldS.yld (y_move rfl)) rfl ?_
  obtain ⟨e20, h21, hm⟩ := bindS hm
  obtain ⟨ad22, _, rfl, ha23, hy24⟩ := hr19.elem h21
  refine QJ.step (YldS.yld (hy24 Try.runUnderlying27 Try.sizeOf2 rfl rfl)) rfl ?_
  refine QJ.step (YldS.yld (y_load1 (v := .int .i64 e20) Try.isAgg2 ha23 St.frozenC rfl)) rfl ?_
  obtain ⟨r25, h26, hm⟩ := bindS hm
  refine QJ.step (y_callV [.int .i64 e20] [.pointer (some ad5), .pointer (some ad11)] [.int .i64 e20, .pointer (some ad5), .pointer (some ad11)] rfl rfl Try.call90 rfl (RetG.quiet fun w hw => ok_i_UsefulAbbrs_c1 h26 w _ _ (ha7.st hw) (hm8.st hw) _ _ (ha12.st hw) (hr14.st hw))) rfl ?_
  refine QJ.step (YldS.yld (y_load1 (v := .func (.func 90) #[] (List.toArray [.pointer (some ad5), .pointer (some ad11)])) Try.isAgg110 ha4 St.frozenC rfl)) rfl ?_
  refine QJ.step (YldS.yld (y_load1 (v := v18) Try.isAgg27 ha17 St.frozenC rfl)) rfl ?_
  refine QJ.step (YldS.yld (y_move rfl)) rfl ?_
  obtain ⟨e27, h28, hm⟩ := bindS hm
  obtain ⟨ad29, _, rfl, ha30, hy31⟩ := hr19.elem h28
  refine QJ.step (YldS.yld (hy31 Try.runUnderlying27 Try.sizeOf2 rfl rfl)) rfl ?_
  refine QJ.step (YldS.yld (y_load1 (v := .int .i64 e27) Try.isAgg2 ha30 St.frozenC rfl)) rfl ?_
  obtain ⟨r32, h33, hm⟩ := bindS hm
  refine QJ.step (y_callV [.int .i64 e27] [.pointer (some ad5), .pointer (some ad11)] [.int .i64 e27, .pointer (some ad5), .pointer (some ad11)] rfl rfl Try.call90 rfl (RetG.quiet fun w hw => ok_i_UsefulAbbrs_c1 h33 w _ _ (ha7.st hw) (hm8.st hw) _ _ (ha12.st hw) (hr14.st hw))) rfl ?_
  refine QJ.step (YldS.yld (y_bin rfl rfl rfl)) rfl ?_
  refine QJ.step (YldS.yld (y_assign rfl)) rfl ?_
  refine QJ.done ?_
  refine PJ.next ?_
  refine WJ.ret ?_
  obtain rfl := Option.some.inj hm
  refine PJ.sel (L' := []) [] ⟨List.nodup_nil, rfl⟩ ?_
  exact PJ.retn (vs := [.bool (decide (r25 > r32))]) Try.results91 ⟨rfl, trivial⟩ ⟨rfl, rfl⟩

end Go.Proofs.Ytpdcifgphocllaa
