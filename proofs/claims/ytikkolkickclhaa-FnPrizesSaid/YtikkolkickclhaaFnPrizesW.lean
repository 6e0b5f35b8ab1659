/-
  The walks: a call hands back what its plain function computes, where that has a value. No other conditions.
-/
import Derived.Test.YtikkolkickclhaaFnPrizesM
import Derived.Test.YtikkolkickclhaaChecked
import Derived.Test.YtikkolkickclhaaFnPrizesS
namespace Go.Proofs.Ytikkolkickclhaa
open Go.RowKit Go.Proofs
set_option linter.unusedVariables false
set_option linter.unusedSimpArgs false

theorem follows : Try.prog.follows .mixedOrders = true := by kernel_rfl

def Result.enc (x : Result) : List Value := [str x.name, .int .i64 x.net, .int .i64 x.errors]
def fResult : FRp Result := ⟨3, Result.enc, fun _ => rfl, by decide, fun x u hu => by
  simp only [Result.enc, List.mem_cons, List.not_mem_nil, or_false] at hu
  rcases hu with rfl | rfl | rfl <;> rfl⟩

def shL00Src : Sh L00Src UInt8 3 := ⟨fun v x => [v, .int .i64 x.at_, .int .u64 x.seed], fun x => x.code, 0, fun _ _ => rfl, fun _ _ => rfl, fun v x hv u hu => by
  simp only [List.mem_cons, List.not_mem_nil, or_false] at hu
  rcases hu with rfl | rfl | rfl <;> first | rfl | exact hv, by decide⟩

def shTied : Sh Tied Int 2 := ⟨fun v x => [.int .i64 x.place, v], fun x => x.list, 1, fun _ _ => rfl, fun _ _ => rfl, fun v x hv u hu => by
  simp only [List.mem_cons, List.not_mem_nil, or_false] at hu
  rcases hu with rfl | rfl <;> first | rfl | exact hv, by decide⟩

def Fraction.enc (x : Fraction) : List Value := [.int .i64 x.num, .int .i64 x.den]
def fFraction : FRp Fraction := ⟨2, Fraction.enc, fun _ => rfl, by decide, fun x u hu => by
  simp only [Fraction.enc, List.mem_cons, List.not_mem_nil, or_false] at hu
  rcases hu with rfl | rfl <;> rfl⟩

theorem pl97 : PlacesOk Try.prog 97 [(0, 1), (1, 1), (2, 1)] := ⟨_, Try.runUnderlying97, fun w => by simp [Try.sizeOf3, Try.sizeOf22, Try.sizeOf95]⟩
theorem fld97_1 : FieldOk Try.prog 97 1 1 3 0 := ⟨_, _, Try.runUnderlying97, rfl, rfl, rfl, Try.sizeOf3⟩
theorem fld97_0 : FieldOk Try.prog 97 0 0 22 0 := ⟨_, _, Try.runUnderlying97, rfl, rfl, rfl, Try.sizeOf22⟩
theorem fld97_2 : FieldOk Try.prog 97 2 2 95 0 := ⟨_, _, Try.runUnderlying97, rfl, rfl, rfl, Try.sizeOf95⟩
theorem pl114 : PlacesOk Try.prog 114 [(0, 1), (1, 1), (2, 1)] := ⟨_, Try.runUnderlying114, fun w => by simp [Try.sizeOf2, Try.sizeOf9]⟩
theorem fld114_2 : FieldOk Try.prog 114 2 2 2 0 := ⟨_, _, Try.runUnderlying114, rfl, rfl, rfl, Try.sizeOf2⟩
set_option maxRecDepth 100000 in
theorem el114 : ElemOk Try.prog 114 3 (fResult.enc (Result.mk [] 0 0)) := ⟨_, _, Try.type114, rfl, rfl, rfl, by decide⟩
theorem fld114_0 : FieldOk Try.prog 114 0 0 9 0 := ⟨_, _, Try.runUnderlying114, rfl, rfl, rfl, Try.sizeOf9⟩
theorem fld114_1 : FieldOk Try.prog 114 1 1 2 0 := ⟨_, _, Try.runUnderlying114, rfl, rfl, rfl, Try.sizeOf2⟩
set_option maxRecDepth 100000 in
theorem el2 : ElemOk Try.prog 2 1 (fI64.enc 0) := ⟨_, _, Try.type2, rfl, rfl, rfl, by decide⟩
abbrev fRaw2 : FRp (Raw 2) := fRaw 2 (by decide)
set_option maxRecDepth 100000 in
open Go.RowKit Go.Lib Go.Sort Go.Proofs in
theorem sortS99_42 : SortS Try.prog 99 42 := by
  have hk : ∀ (n : Nat) (ie : TypeInfo), 2 ≤ n → ie.hasPointers = false → ie.bytes = 8 → Lib.swapperK n ie 6 = 5 := fun n ie h a b => by
    have c1 : (n == 0) = false := by rw [beq_eq_false_iff_ne]; omega
    have c2 : (n == 1) = false := by rw [beq_eq_false_iff_ne]; omega
    simp [Lib.swapperK, a, b, c1, c2]
  exact sortS_of Try.laysGt8 42 2 _ _ Try.type42 rfl (by kernel_rfl) Try.type2 6 (fun _ => by kernel_rfl) rfl Try.isAgg2 83
    (fun n h hn p c lf la lb w R hp => Any.sort_SliceStable_of_stable Try.laysGt8 42 2 _ _ Try.type42 rfl (by kernel_rfl) Try.type2 6 (fun _ => by kernel_rfl) p n c hn 83 (by rw [hk n _ h rfl rfl]; kernel_rfl) lf la lb w R hp) 79 80
    (fun p c lf la lb w R hp => Any.sort_SliceStable_of_stable Try.laysGt8 42 2 _ _ Try.type42 rfl (by kernel_rfl) Try.type2 6 (fun _ => by kernel_rfl) p 0 c (by decide) 79 (by kernel_rfl) lf la lb w R hp)
    (fun p c lf la lb w R hp => Any.sort_SliceStable_of_stable Try.laysGt8 42 2 _ _ Try.type42 rfl (by kernel_rfl) Try.type2 6 (fun _ => by kernel_rfl) p 1 c (by decide) 80 (by kernel_rfl) lf la lb w R hp)
    (fun args W => run_callFunc_extern Try.func83 (by kernel_rfl) (by kernel_rfl) (by kernel_rfl) (e := Extern.ReflectliteSwapper.swap true) (by kernel_rfl) args W)

theorem fld81_1 : FieldOk Try.prog 81 1 1 42 0 := ⟨_, _, Try.runUnderlying81, rfl, rfl, rfl, Try.sizeOf42⟩
theorem pl81 : PlacesOk Try.prog 81 [(0, 1), (1, 1)] := ⟨_, Try.runUnderlying81, fun w => by simp [Try.sizeOf2, Try.sizeOf42]⟩
set_option maxRecDepth 100000 in
theorem el81 : ElemOk Try.prog 81 2 (shTied.enc (.slice none 0 0) (Tied.mk 0 [])) := ⟨_, _, Try.type81, rfl, rfl, rfl, by decide⟩
theorem fld81_0 : FieldOk Try.prog 81 0 0 2 0 := ⟨_, _, Try.runUnderlying81, rfl, rfl, rfl, Try.sizeOf2⟩
set_option maxRecDepth 100000 in
theorem el42 : ElemOk Try.prog 42 1 [.slice none 0 0] := ⟨_, _, Try.type42, rfl, rfl, rfl, by decide⟩
set_option maxRecDepth 100000 in
theorem el55 : ElemOk Try.prog 55 2 (fFraction.enc (Fraction.mk 0 0)) := ⟨_, _, Try.type55, rfl, rfl, rfl, by decide⟩
theorem pl55 : PlacesOk Try.prog 55 [(0, 1), (1, 1)] := ⟨_, Try.runUnderlying55, fun w => by simp [Try.sizeOf2]⟩
theorem fld55_1 : FieldOk Try.prog 55 1 1 2 0 := ⟨_, _, Try.runUnderlying55, rfl, rfl, rfl, Try.sizeOf2⟩
theorem fld55_0 : FieldOk Try.prog 55 0 0 2 0 := ⟨_, _, Try.runUnderlying55, rfl, rfl, rfl, Try.sizeOf2⟩
theorem eq55 : EqOk Try.prog 55 Fraction.enc Fraction.beq := ⟨Try.eqGuardType55, fun x y w => by
  have hf : Try.prog.fieldsOf 55 = #[{ name := "Num", type := 2, offset := 0, embedded := false, tag := "", pkgPath := "", byteOffset := 0 }, { name := "Den", type := 2, offset := 1, embedded := false, tag := "", pkgPath := "", byteOffset := 8 }] := by kernel_rfl
  have ht : Try.prog.underlying 55 = some (.struct (Try.prog.fieldsOf 55)) := by rw [hf]; exact Try.underlying55
  rw [run_equalIn_struct w 9999 55 _ _ ht Try.stoodInHeld55, hf]
  obtain ⟨a0, a1⟩ := x
  obtain ⟨b0, b1⟩ := y
  simp only [Op.eqFields, Fraction.enc, Fraction.beq]
  simp [part, str, Try.isAgg2, run_equalIn_int _ _ _ _ _ _ _ Try.underlying2, ByteArray.toList_eq]
  (repeat' split) <;> simp_all⟩

set_option maxRecDepth 100000 in
set_option maxHeartbeats 1000000 in
theorem ok_w_f6big {code1 : List UInt8} {r : Bool} (hm : w_f6big code1 = some r) (w : World) (v2 : Value) (hr3 : RdS w (cx w).Fz v2 fByte.rp code1) :
    Calls Try.prog 12 #[v2] w (Ret (cx w) (.bool r)) := by
  unfold w_f6big at hm
  refine Calls.enter [v2] Try.func12 rfl Try.ntmps12 rfl ?_
  refine WJ.seq ?_
  refine WJ.quiet ?_
  refine QJ.step (YldS.yld (y_assign rfl)) rfl ?_
  refine QJ.done ?_
  refine PJ.next ?_
  refine WJ.seq ?_
  refine WJ.quiet ?_
  refine QJ.step (YldS.yld (y_move rfl)) rfl ?_
  refine QJ.step (YldS.yld (y_lenS Try.runUnderlying22 hr3 rfl)) rfl ?_
  refine QJ.step (YldS.yld (y_bin rfl rfl rfl)) rfl ?_
  refine QJ.step (YldS.yld (y_assign rfl)) rfl ?_
  refine QJ.done ?_
  refine PJ.next ?_
  refine WJ.ret ?_
  obtain rfl := Option.some.inj hm
  refine PJ.sel (L' := []) [] ⟨List.nodup_nil, rfl⟩ ?_
  exact PJ.retn (vs := [.bool (decide ((List.length code1 : Int) > 4096))]) Try.results12 ⟨rfl, trivial⟩ ⟨rfl, rfl⟩

set_option maxRecDepth 100000 in
set_option maxHeartbeats 1000000 in
theorem ok_s_l00From {code1 : List UInt8} {r : L00Src} (hm : s_l00From code1 = some r) (w : World) (v2 : Value) (hr3 : RdS w (cx w).Fz v2 fByte.rp code1) :
    Calls Try.prog 24 #[v2] w (RetG (cx w) fun u L => ∃ (u1 : Nat), (u = pt u1 0 ∧ L = [box u1 97 [v2, .int .i64 r.at_, .int .u64 r.seed]])) := by
  unfold s_l00From at hm
  refine Calls.enter [v2] Try.func24 rfl Try.ntmps24 rfl ?_
  refine WJ.seq ?_
  refine WJ.quiet ?_
  refine QJ.step (YldS.yld (y_assign rfl)) rfl ?_
  refine QJ.done ?_
  refine PJ.next ?_
  refine WJ.seq ?_
  refine WJ.reg ?_
  refine SJ.q (YldS.yld (y_move rfl)) rfl ?_
  refine SJ.q (YldS.yld (y_build (parts := [(0, .tmp 3)]) (places := [(0, 1), (1, 1), (2, 1)]) (r := [v2, .int .i64 0, .int .u64 0]) pl97 Try.zeroValue97 rfl rfl (show _ = [(0, [v2])] from by simp only [List.map, RdS.cells1 hr3]) rfl)) rfl ?_
  refine SJ.box (cs := [v2, .int .i64 0, .int .u64 0]) rfl rfl rfl fun g4 => ?_
  refine SJ.q (YldS.yld (y_assign rfl)) rfl ?_
  refine SJ.nil ?_
  refine PJ.next ?_
  refine WJ.ret ?_
  obtain rfl := Option.some.inj hm
  refine PJ.sel (L' := [box g4 97 [v2, .int .i64 0, .int .u64 0]]) [0] ⟨by decide, rfl⟩ ?_
  exact PJ.retn (vs := [pt g4 0]) Try.results24 ⟨rfl, trivial⟩ ⟨_, rfl, rfl⟩

set_option maxRecDepth 100000 in
set_option maxHeartbeats 1000000 in
theorem ok_s_l00Src_next {s1 : L00Src} {g2 : Nat} {r : Int × L00Src} (hm : s_l00Src_next s1 = some r) (w : World) (S : Nat → Prop) (v3 : Value) (hr4 : RdS w (Cx.Fz ⟨w, S⟩) v3 fByte.rp s1.code) (hA : (box g2 97 [v3, .int .i64 s1.at_, .int .u64 s1.seed]).holds w S) :
    Calls Try.prog 78 #[pt g2 0] w (RetG ⟨w, S⟩ fun u L => (u = .int .i64 r.1 ∧ L = [box g2 97 [v3, .int .i64 r.2.at_, .int .u64 r.2.seed]])) := by
  unfold s_l00Src_next at hm
  refine Calls.enter1 hA [pt g2 0] Try.func78 rfl Try.ntmps78 rfl ?_
  refine WJ.seq ?_
  refine WJ.quiet ?_
  refine QJ.step (YldS.yld (y_assign rfl)) rfl ?_
  refine QJ.done ?_
  refine PJ.next ?_
  refine WJ.seq ?_
  refine WJ.quiet ?_
  refine QJ.step (YldS.yld (y_assign rfl)) rfl ?_
  refine QJ.done ?_
  refine PJ.next ?_
  obtain ⟨kj6, hk7, hm⟩ := withK_open hm
  refine WJ.join (X := Int) (fun (x : Int) => kj6 x = some r) (fun (x : Int) => [(0, pt g2 0), (3, .int .i64 x)]) (fun (x : Int) => [box g2 97 [v3, .int .i64 s1.at_, .int .u64 s1.seed]]) ?_ ?_
  · clear hk7
    refine WJ.seq ?_
    refine WJ.quiet_draw follows (by kernel_rfl) ?_
    refine QJ.step (YldS.yld (y_move rfl)) rfl ?_
    refine QJ.step (YldS.yld (y_nil rfl)) rfl ?_
    refine QJ.step (YldS.yld (y_fldB (o := 0) fld97_1 rfl)) rfl ?_
    refine QJ.step (YldS.yld (y_loadB (k := 0) (off := 1) (v := .int .i64 s1.at_) rfl Try.isAgg3 rfl rfl)) rfl ?_
    refine QJ.step (YldS.yld (y_move rfl)) rfl ?_
    refine QJ.step (YldS.yld (y_nil rfl)) rfl ?_
    refine QJ.step (YldS.yld (y_fldB (o := 0) fld97_0 rfl)) rfl ?_
    refine QJ.step (YldS.yld (y_loadB (k := 0) (off := 0) (v := v3) rfl Try.isAgg22 rfl rfl)) rfl ?_
    refine QJ.step (YldS.yld (y_lenS Try.runUnderlying22 hr4 rfl)) rfl ?_
    refine QJ.step (YldS.yld (y_bin rfl rfl rfl)) rfl ?_
    refine QJ.done ?_
    refine PJ.next ?_
    refine WJ.cond (t := decide (s1.at_ < (List.length s1.code : Int))) rfl (fun hb8 => ?_) (fun hb8 => ?_)
    · replace hm := ifT hm hb8
      refine WJ.quiet_draw follows (by kernel_rfl) ?_
      refine QJ.step (YldS.yld (y_move rfl)) rfl ?_
      refine QJ.step (YldS.yld (y_nil rfl)) rfl ?_
      refine QJ.step (YldS.yld (y_fldB (o := 0) fld97_0 rfl)) rfl ?_
      refine QJ.step (YldS.yld (y_loadB (k := 0) (off := 0) (v := v3) rfl Try.isAgg22 rfl rfl)) rfl ?_
      refine QJ.step (YldS.yld (y_move rfl)) rfl ?_
      refine QJ.step (YldS.yld (y_nil rfl)) rfl ?_
      refine QJ.step (YldS.yld (y_fldB (o := 0) fld97_1 rfl)) rfl ?_
      refine QJ.step (YldS.yld (y_loadB (k := 0) (off := 1) (v := .int .i64 s1.at_) rfl Try.isAgg3 rfl rfl)) rfl ?_
      obtain ⟨e9, h10, hm⟩ := bindS hm
      obtain ⟨ad11, _, rfl, ha12, hy13⟩ := hr4.elem h10
      refine QJ.step (YldS.yld (hy13 Try.runUnderlying22 Try.sizeOf5 rfl rfl)) rfl ?_
      refine QJ.step (YldS.yld (y_load1 (v := .int .u8 (UInt8.toNat e9 : Int)) Try.isAgg5 ha12 St.frozenC rfl)) rfl ?_
      refine QJ.step (YldS.yld (y_conv8 Try.runUnderlying5 Try.runUnderlying3 rfl)) rfl ?_
      refine QJ.step (YldS.yld (y_assign rfl)) rfl ?_
      refine QJ.done ?_
      exact PJ.joined (UInt8.toNat e9 : Int) [0] hm ⟨rfl, rfl, trivial⟩ ⟨by decide, rfl⟩
    · replace hm := ifF hm hb8
      refine WJ.skip ?_
      exact PJ.joined 0 [0] hm ⟨rfl, rfl, trivial⟩ ⟨by decide, rfl⟩
  · rintro b5 hm
    subst hk7
    refine WJ.seq ?_
    refine WJ.reg ?_
    refine SJ.q (YldS.yld (y_move rfl)) rfl ?_
    refine SJ.q (YldS.yld (y_nil rfl)) rfl ?_
    refine SJ.q (YldS.yld (y_fldB (o := 0) fld97_1 rfl)) rfl ?_
    refine SJ.q (YldS.yld (y_loadB (k := 0) (off := 1) (v := .int .i64 s1.at_) rfl Try.isAgg3 rfl rfl)) rfl ?_
    refine SJ.q (YldS.yld (y_bin rfl rfl rfl)) rfl ?_
    refine SJ.q (YldS.yld (y_nil rfl)) rfl ?_
    refine SJ.q (YldS.yld (y_fldB (o := 0) fld97_1 rfl)) rfl ?_
    refine SJ.storeL (k := 0) (off := 1) (us := [.int .i64 (w64 (s1.at_ + 1))]) rfl rfl rfl rfl Try.sizeOf3 rfl rfl ?_
    refine SJ.nil ?_
    refine PJ.next ?_
    refine WJ.seq ?_
    refine WJ.reg ?_
    refine SJ.q (YldS.yld (y_move rfl)) rfl ?_
    refine SJ.q (YldS.yld (y_move rfl)) rfl ?_
    refine SJ.q (YldS.yld (y_nil rfl)) rfl ?_
    refine SJ.q (YldS.yld (y_fldB (o := 0) fld97_2 rfl)) rfl ?_
    refine SJ.q (YldS.yld (y_loadB (k := 0) (off := 2) (v := .int .u64 s1.seed) rfl Try.isAgg95 rfl rfl)) rfl ?_
    refine SJ.q (YldS.yld (y_bin rfl rfl rfl)) rfl ?_
    refine SJ.q (YldS.yld (y_move rfl)) rfl ?_
    refine SJ.q (YldS.yld (y_convI Try.runUnderlying3 Try.runUnderlying95 rfl)) rfl ?_
    refine SJ.q (YldS.yld (y_bin rfl rfl rfl)) rfl ?_
    refine SJ.q (YldS.yld (y_bin rfl rfl rfl)) rfl ?_
    refine SJ.q (YldS.yld (y_nil rfl)) rfl ?_
    refine SJ.q (YldS.yld (y_fldB (o := 0) fld97_2 rfl)) rfl ?_
    refine SJ.storeL (k := 0) (off := 2) (us := [.int .u64 (IntKind.u64.wrap ((IntKind.u64.wrap ((IntKind.u64.wrap (s1.seed * 6364136223846793005)) + (IntKind.u64.wrap b5))) + 1442695040888963407))]) rfl rfl rfl rfl Try.sizeOf95 rfl rfl ?_
    refine SJ.nil ?_
    refine PJ.next ?_
    refine WJ.seq ?_
    refine WJ.seq ?_
    refine WJ.quiet_draw follows (by kernel_rfl) ?_
    refine QJ.step (YldS.yld (y_move rfl)) rfl ?_
    refine QJ.step (YldS.yld (y_nil rfl)) rfl ?_
    refine QJ.step (YldS.yld (y_fldB (o := 0) fld97_1 rfl)) rfl ?_
    refine QJ.step (YldS.yld (y_loadB (k := 0) (off := 1) (v := .int .i64 (w64 (s1.at_ + 1))) rfl Try.isAgg3 rfl rfl)) rfl ?_
    refine QJ.step (YldS.yld (y_move rfl)) rfl ?_
    refine QJ.step (YldS.yld (y_nil rfl)) rfl ?_
    refine QJ.step (YldS.yld (y_fldB (o := 0) fld97_0 rfl)) rfl ?_
    refine QJ.step (YldS.yld (y_loadB (k := 0) (off := 0) (v := v3) rfl Try.isAgg22 rfl rfl)) rfl ?_
    refine QJ.step (YldS.yld (y_lenS Try.runUnderlying22 hr4 rfl)) rfl ?_
    refine QJ.step (YldS.yld (y_bin rfl rfl rfl)) rfl ?_
    refine QJ.done ?_
    refine PJ.next ?_
    refine WJ.cond (t := decide ((w64 (s1.at_ + 1)) ≤ (List.length s1.code : Int))) rfl (fun hb14 => ?_) (fun hb14 => ?_)
    · replace hm := ifT hm hb14
      refine WJ.seq ?_
      refine WJ.quiet ?_
      refine QJ.step (YldS.yld (y_move rfl)) rfl ?_
      refine QJ.step (YldS.yld (y_assign rfl)) rfl ?_
      refine QJ.done ?_
      refine PJ.next ?_
      refine WJ.ret ?_
      refine PJ.then_ret ?_
      obtain rfl := Option.some.inj hm
      refine PJ.sel (L' := [box g2 97 [v3, .int .i64 (w64 (s1.at_ + 1)), .int .u64 (IntKind.u64.wrap ((IntKind.u64.wrap ((IntKind.u64.wrap (s1.seed * 6364136223846793005)) + (IntKind.u64.wrap b5))) + 1442695040888963407))]]) [0] ⟨by decide, rfl⟩ ?_
      exact PJ.retn (vs := [.int .i64 b5]) Try.results78 ⟨rfl, trivial⟩ ⟨rfl, rfl⟩
    · replace hm := ifF hm hb14
      refine WJ.skip ?_
      refine PJ.next ?_
      refine WJ.seq ?_
      refine WJ.quiet ?_
      refine QJ.step (YldS.yld (y_move rfl)) rfl ?_
      refine QJ.step (YldS.yld (y_nil rfl)) rfl ?_
      refine QJ.step (YldS.yld (y_fldB (o := 0) fld97_2 rfl)) rfl ?_
      refine QJ.step (YldS.yld (y_loadB (k := 0) (off := 2) (v := .int .u64 (IntKind.u64.wrap ((IntKind.u64.wrap ((IntKind.u64.wrap (s1.seed * 6364136223846793005)) + (IntKind.u64.wrap b5))) + 1442695040888963407))) rfl Try.isAgg95 rfl rfl)) rfl ?_
      refine QJ.step (YldS.yld (y_shru rfl rfl rfl)) rfl ?_
      refine QJ.step (YldS.yld (y_andu rfl rfl rfl)) rfl ?_
      refine QJ.step (YldS.yld (y_convI Try.runUnderlying95 Try.runUnderlying2 rfl)) rfl ?_
      refine QJ.step (YldS.yld (y_assign rfl)) rfl ?_
      refine QJ.done ?_
      refine PJ.next ?_
      refine WJ.ret ?_
      obtain rfl := Option.some.inj hm
      refine PJ.sel (L' := [box g2 97 [v3, .int .i64 (w64 (s1.at_ + 1)), .int .u64 (IntKind.u64.wrap ((IntKind.u64.wrap ((IntKind.u64.wrap (s1.seed * 6364136223846793005)) + (IntKind.u64.wrap b5))) + 1442695040888963407))]]) [0] ⟨by decide, rfl⟩ ?_
      exact PJ.retn (vs := [.int .i64 (w64 (uand (ushr (IntKind.u64.wrap ((IntKind.u64.wrap ((IntKind.u64.wrap (s1.seed * 6364136223846793005)) + (IntKind.u64.wrap b5))) + 1442695040888963407)) 40) 255))]) Try.results78 ⟨rfl, trivial⟩ ⟨rfl, rfl⟩

set_option maxRecDepth 100000 in
set_option maxHeartbeats 1000000 in
theorem ok_s_l00Src_pick {s1 : L00Src} {n5 : Int} {g2 : Nat} {r : Int × L00Src} (hm : s_l00Src_pick s1 n5 = some r) (w : World) (S : Nat → Prop) (v3 : Value) (hr4 : RdS w (Cx.Fz ⟨w, S⟩) v3 fByte.rp s1.code) (hA : (box g2 97 [v3, .int .i64 s1.at_, .int .u64 s1.seed]).holds w S) :
    Calls Try.prog 54 #[pt g2 0, .int .i64 n5] w (RetG ⟨w, S⟩ fun u L => (u = .int .i64 r.1 ∧ L = [box g2 97 [v3, .int .i64 r.2.at_, .int .u64 r.2.seed]])) := by
  unfold s_l00Src_pick at hm
  refine Calls.enter1 hA [pt g2 0, .int .i64 n5] Try.func54 rfl Try.ntmps54 rfl ?_
  refine WJ.seq ?_
  refine WJ.quiet ?_
  refine QJ.step (YldS.yld (y_assign rfl)) rfl ?_
  refine QJ.done ?_
  refine PJ.next ?_
  refine WJ.seq ?_
  refine WJ.seq ?_
  refine WJ.quiet ?_
  refine QJ.step (YldS.yld (y_move rfl)) rfl ?_
  refine QJ.step (YldS.yld (y_bin rfl rfl rfl)) rfl ?_
  refine QJ.done ?_
  refine PJ.next ?_
  refine WJ.cond (t := decide (n5 ≤ 1)) rfl (fun hb6 => ?_) (fun hb6 => ?_)
  · replace hm := ifT hm hb6
    refine WJ.seq ?_
    refine WJ.quiet ?_
    refine QJ.step (YldS.yld (y_assign rfl)) rfl ?_
    refine QJ.done ?_
    refine PJ.next ?_
    refine WJ.ret ?_
    refine PJ.then_ret ?_
    obtain rfl := Option.some.inj hm
    refine PJ.sel (L' := [box g2 97 [v3, .int .i64 s1.at_, .int .u64 s1.seed]]) [0] ⟨by decide, rfl⟩ ?_
    exact PJ.retn (vs := [.int .i64 0]) Try.results54 ⟨rfl, trivial⟩ ⟨rfl, rfl⟩
  · replace hm := ifF hm hb6
    refine WJ.skip ?_
    refine PJ.next ?_
    refine WJ.seq ?_
    refine WJ.reg ?_
    refine SJ.q (YldS.yld (y_move rfl)) rfl ?_
    obtain ⟨r7, h8, hm⟩ := bindS hm
    refine SJ.call1 (k := 0) rfl Try.call78 rfl (fun w S hw hA hO => ok_s_l00Src_next h8 w S _ (hr4.st1 hw hO) hA) rfl ?_
    rintro _ _ ⟨rfl, rfl⟩
    refine SJ.q (YldS.yld (y_assign rfl)) rfl ?_
    refine SJ.nil ?_
    refine PJ.next ?_
    obtain ⟨kj12, hk13, hm⟩ := withK_open hm
    refine WJ.join (X := Int × Int × Int) (fun (x : Int × Int × Int) => kj12 x.1 x.2.1 x.2.2 = some r) (fun (x : Int × Int × Int) => [(1, .int .i64 n5), (5, .int .i64 x.2.2)]) (fun (x : Int × Int × Int) => [box g2 97 [v3, .int .i64 x.1, .int .u64 x.2.1]]) ?_ ?_
    · clear hk13
      refine WJ.seq ?_
      refine WJ.quiet ?_
      refine QJ.step (YldS.yld (y_move rfl)) rfl ?_
      refine QJ.step (YldS.yld (y_bin rfl rfl rfl)) rfl ?_
      refine QJ.done ?_
      refine PJ.next ?_
      refine WJ.cond (t := decide (n5 > 200)) rfl (fun hb14 => ?_) (fun hb14 => ?_)
      · replace hm := ifT hm hb14
        refine WJ.reg ?_
        refine SJ.q (YldS.yld (y_move rfl)) rfl ?_
        refine SJ.q (YldS.yld (y_bin rfl rfl rfl)) rfl ?_
        refine SJ.q (YldS.yld (y_move rfl)) rfl ?_
        obtain ⟨r15, h16, hm⟩ := bindS hm
        refine SJ.call1 (k := 0) rfl Try.call78 rfl (fun w S hw hA hO => ok_s_l00Src_next h16 w S _ (hr4.st1 hw hO) hA) rfl ?_
        rintro _ _ ⟨rfl, rfl⟩
        refine SJ.q (YldS.yld (y_bin rfl rfl rfl)) rfl ?_
        refine SJ.q (YldS.yld (y_assign rfl)) rfl ?_
        refine SJ.nil ?_
        exact PJ.joined (r15.2.at_, r15.2.seed, w64 ((w64 (r7.1 * 256)) + r15.1)) [0] hm ⟨rfl, rfl, trivial⟩ ⟨by decide, rfl⟩
      · replace hm := ifF hm hb14
        refine WJ.skip ?_
        exact PJ.joined (r7.2.at_, r7.2.seed, r7.1) [0] hm ⟨rfl, rfl, trivial⟩ ⟨by decide, rfl⟩
    · rintro ⟨x9, x10, x11⟩ hm
      subst hk13
      refine WJ.seq ?_
      refine WJ.quiet ?_
      refine QJ.step (YldS.yld (y_move rfl)) rfl ?_
      refine QJ.step (YldS.yld (y_move rfl)) rfl ?_
      obtain ⟨q17, h18, hm⟩ := bindS hm
      refine QJ.step (YldS.yld (y_rem' h18 rfl rfl)) rfl ?_
      refine QJ.step (YldS.yld (y_assign rfl)) rfl ?_
      refine QJ.done ?_
      refine PJ.next ?_
      refine WJ.ret ?_
      obtain rfl := Option.some.inj hm
      refine PJ.sel (L' := [box g2 97 [v3, .int .i64 x9, .int .u64 x10]]) [0] ⟨by decide, rfl⟩ ?_
      exact PJ.retn (vs := [.int .i64 q17]) Try.results54 ⟨rfl, trivial⟩ ⟨rfl, rfl⟩

set_option maxRecDepth 100000 in
set_option maxHeartbeats 1000000 in
theorem ok_s_l22New {s1 : L00Src} {name5 : Str} {g2 : Nat} {r : Result × L00Src} (hm : s_l22New s1 name5 = some r) (w : World) (S : Nat → Prop) (v3 : Value) (hr4 : RdS w (Cx.Fz ⟨w, S⟩) v3 fByte.rp s1.code) (hA : (box g2 97 [v3, .int .i64 s1.at_, .int .u64 s1.seed]).holds w S) :
    Calls Try.prog 104 #[pt g2 0, str name5] w (RetG ⟨w, S⟩ fun u L => (u = .agg (Result.enc r.1).toArray ∧ L = [box g2 97 [v3, .int .i64 r.2.at_, .int .u64 r.2.seed]])) := by
  unfold s_l22New at hm
  refine Calls.enter1 hA [pt g2 0, str name5] Try.func104 rfl Try.ntmps104 rfl ?_
  refine WJ.seq ?_
  refine WJ.reg ?_
  refine SJ.alloc (cs := [str [], .int .i64 0, .int .i64 0]) Try.zeroValue114 rfl rfl fun g6 => ?_
  refine SJ.nil ?_
  refine PJ.next ?_
  refine WJ.seq ?_
  refine WJ.reg ?_
  refine SJ.q (YldS.yld (y_move rfl)) rfl ?_
  refine SJ.q (YldS.yld (y_move rfl)) rfl ?_
  obtain ⟨r7, h8, hm⟩ := bindS hm
  refine SJ.call1 (k := 1) rfl Try.call54 rfl (fun w S hw hA hO => ok_s_l00Src_pick h8 w S _ (hr4.st1 hw hO) hA) rfl ?_
  rintro _ _ ⟨rfl, rfl⟩
  refine SJ.q (YldS.yld (y_bin rfl rfl rfl)) rfl ?_
  refine SJ.q (YldS.yld (y_build (parts := [(0, .tmp 6), (1, .tmp 9)]) (places := [(0, 1), (1, 1), (2, 1)]) (r := [str ((Result.mk name5 (w64 (50 * r7.1)) 0).name), .int .i64 ((Result.mk name5 (w64 (50 * r7.1)) 0).net), .int .i64 ((Result.mk name5 (w64 (50 * r7.1)) 0).errors)]) pl114 Try.zeroValue114 rfl rfl rfl rfl)) rfl ?_
  refine SJ.alloc (cs := [str [], .int .i64 0, .int .i64 0]) Try.zeroValue114 rfl rfl fun g9 => ?_
  refine SJ.storeL (k := 0) (off := 0) (us := [str ((Result.mk name5 (w64 (50 * r7.1)) 0).name), .int .i64 ((Result.mk name5 (w64 (50 * r7.1)) 0).net), .int .i64 ((Result.mk name5 (w64 (50 * r7.1)) 0).errors)]) rfl rfl rfl rfl Try.sizeOf114 rfl rfl ?_
  refine SJ.nil ?_
  refine PJ.next ?_
  refine WJ.seq ?_
  refine WJ.reg ?_
  refine SJ.q (YldS.yld (y_move rfl)) rfl ?_
  obtain ⟨r10, h11, hm⟩ := bindS hm
  refine SJ.call1 (k := 1) rfl Try.call54 rfl (fun w S hw hA hO => ok_s_l00Src_pick h11 w S _ (hr4.st1 hw hO) hA) rfl ?_
  rintro _ _ ⟨rfl, rfl⟩
  refine SJ.q (YldS.yld (y_fldB (o := 0) fld114_2 rfl)) rfl ?_
  refine SJ.storeL (k := 1) (off := 2) (us := [.int .i64 r10.1]) rfl rfl rfl rfl Try.sizeOf2 rfl rfl ?_
  refine SJ.nil ?_
  refine PJ.next ?_
  refine WJ.seq ?_
  refine WJ.reg ?_
  refine SJ.q (YldS.yld (y_loadBN (k := 1) (off := 0) (us := [str ((Result.mk name5 (w64 (50 * r7.1)) 0).name), .int .i64 ((Result.mk name5 (w64 (50 * r7.1)) 0).net), .int .i64 r10.1]) rfl Try.isAgg114 Try.sizeOf114 rfl rfl)) rfl ?_
  refine SJ.storeL (k := 2) (off := 0) (us := [str ((Result.mk name5 (w64 (50 * r7.1)) 0).name), .int .i64 ((Result.mk name5 (w64 (50 * r7.1)) 0).net), .int .i64 r10.1]) rfl rfl rfl rfl Try.sizeOf114 rfl rfl ?_
  refine SJ.nil ?_
  refine PJ.next ?_
  refine WJ.ret ?_
  obtain rfl := Option.some.inj hm
  exact PJ.retn_sel (vs := [.agg #[str ((Result.mk name5 (w64 (50 * r7.1)) 0).name), .int .i64 ((Result.mk name5 (w64 (50 * r7.1)) 0).net), .int .i64 r10.1]]) Try.results104 ⟨⟨2, g6, 114, [str ((Result.mk name5 (w64 (50 * r7.1)) 0).name), .int .i64 ((Result.mk name5 (w64 (50 * r7.1)) 0).net), .int .i64 r10.1], rfl, rfl, .inl ⟨Try.isAgg114, Try.sizeOf114, rfl⟩⟩, trivial⟩ [0] ⟨by decide, rfl⟩ ⟨rfl, rfl⟩

set_option maxRecDepth 100000 in
set_option maxHeartbeats 1000000 in
theorem ok_s_l22Draw {N : Nat} {s1 : L00Src} {g2 : Nat} {r : (List Result) × L00Src} (hm : s_l22Draw N s1 = some r) (w : World) (S : Nat → Prop) (v3 : Value) (hr4 : RdS w (Cx.Fz ⟨w, S⟩) v3 fByte.rp s1.code) (hA : (box g2 97 [v3, .int .i64 s1.at_, .int .u64 s1.seed]).holds w S) :
    Calls Try.prog 70 #[pt g2 0] w (RetG ⟨w, S⟩ fun u L => ∃ (u1 : Value), (u = u1 ∧ L = [box g2 97 [v3, .int .i64 r.2.at_, .int .u64 r.2.seed], row u1 114 fResult r.1])) := by
  unfold s_l22Draw at hm
  refine Calls.enter1 hA [pt g2 0] Try.func70 rfl Try.ntmps70 rfl ?_
  refine WJ.seq ?_
  refine WJ.quiet ?_
  refine QJ.step (YldS.yld (y_assign rfl)) rfl ?_
  refine QJ.done ?_
  refine PJ.next ?_
  refine WJ.seq ?_
  refine WJ.reg ?_
  refine SJ.buildSlice (R := fStr) (os := [.const (str [97, 100, 97]), .const (str [98, 101, 110]), .const (str [99, 108, 101, 111]), .const (str [100, 111, 114, 97]), .const (str [101, 109, 105, 108]), .const (str [102, 97, 121]), .const (str [103, 117, 115]), .const (str [104, 97, 108, 45, 50]), .const (str [105, 118, 121])]) ([[97, 100, 97], [98, 101, 110], [99, 108, 101, 111], [100, 111, 114, 97], [101, 109, 105, 108], [102, 97, 121], [103, 117, 115], [104, 97, 108, 45, 50], [105, 118, 121]] : List Str) Try.runUnderlying26 Try.sizeOf9 Try.zeroValue9 rfl rfl rfl rfl rfl rfl fun v5 => ?_
  refine SJ.q (YldS.yld (y_assign rfl)) rfl ?_
  refine SJ.nil ?_
  refine PJ.next ?_
  refine WJ.seq ?_
  refine WJ.reg ?_
  refine SJ.buildSlice (R := fResult) (os := []) [] Try.runUnderlying41 Try.sizeOf114 Try.zeroValue114 rfl rfl rfl rfl rfl rfl fun v6 => ?_
  refine SJ.q (YldS.yld (y_assign rfl)) rfl ?_
  refine SJ.nil ?_
  refine PJ.next ?_
  obtain ⟨kj11, hk12, hm⟩ := withK_open hm
  refine WJ.join (X := Int × Int × (List Result) × Value) (fun (x : Int × Int × (List Result) × Value) => kj11 x.1 x.2.1 x.2.2.1 = some r) (fun (x : Int × Int × (List Result) × Value) => [(4, x.2.2.2)]) (fun (x : Int × Int × (List Result) × Value) => [box g2 97 [v3, .int .i64 x.1, .int .u64 x.2.1], row x.2.2.2 114 fResult x.2.2.1]) ?_ ?_
  · clear hk12
    refine WJ.seq ?_
    refine WJ.reg ?_
    refine SJ.q (YldS.yld (y_move rfl)) rfl ?_
    obtain ⟨r13, h14, hm⟩ := bindS hm
    refine SJ.call1 (k := 2) rfl Try.call54 rfl (fun w S hw hA hO => ok_s_l00Src_pick h14 w S _ (hr4.st1 hw hO) hA) rfl ?_
    rintro _ _ ⟨rfl, rfl⟩
    refine SJ.q (YldS.yld (y_assign rfl)) rfl ?_
    refine SJ.nil ?_
    refine PJ.next ?_
    refine WJ.block ?_
    refine WJ.sel (L' := (fun (x : Int × Int × (List Result) × Value × Int) => [box g2 97 [v3, .int .i64 x.1, .int .u64 x.2.1], row x.2.2.2.1 114 fResult x.2.2.1, row v5 9 fStr ([[97, 100, 97], [98, 101, 110], [99, 108, 101, 111], [100, 111, 114, 97], [101, 109, 105, 108], [102, 97, 121], [103, 117, 115], [104, 97, 108, 45, 50], [105, 118, 121]] : List Str)]) (r13.2.at_, r13.2.seed, [], v6, r13.1)) [0, 1, 2] ⟨by decide, rfl⟩ ?_
    refine WJ.sub (m' := (fun (x : Int × Int × (List Result) × Value × Int) => [(0, pt g2 0), (3, v5), (4, x.2.2.2.1), (5, .int .i64 x.2.2.2.2)]) (r13.2.at_, r13.2.seed, [], v6, r13.1)) ⟨rfl, rfl, rfl, rfl, trivial⟩ ?_
    refine WJ.loop (X := Int × Int × (List Result) × Value × Int) (fun N (x : Int × Int × (List Result) × Value × Int) => s_l22Draw_l1 kj11 s1 N x.1 x.2.1 x.2.2.1 x.2.2.2.2 = some r) (fun (x : Int × Int × (List Result) × Value × Int) => [(0, pt g2 0), (3, v5), (4, x.2.2.2.1), (5, .int .i64 x.2.2.2.2)]) (fun (x : Int × Int × (List Result) × Value × Int) => [box g2 97 [v3, .int .i64 x.1, .int .u64 x.2.1], row x.2.2.2.1 114 fResult x.2.2.1, row v5 9 fStr ([[97, 100, 97], [98, 101, 110], [99, 108, 101, 111], [100, 111, 114, 97], [101, 109, 105, 108], [102, 97, 121], [103, 117, 115], [104, 97, 108, 45, 50], [105, 118, 121]] : List Str)]) ?_ N (r13.2.at_, r13.2.seed, [], v6, r13.1) hm
    · rintro N ⟨x15, x16, l17, v18, k19⟩ hI
      have hm := hI; clear hI
      cases N with
      | zero => cases hm
      | succ N =>
      unfold s_l22Draw_l1 at hm
      refine WJ.seq ?_
      refine WJ.seq ?_
      refine WJ.quiet ?_
      refine QJ.step (YldS.yld (y_move rfl)) rfl ?_
      refine QJ.step (YldS.yld (y_bin rfl rfl rfl)) rfl ?_
      refine QJ.done ?_
      refine PJ.next ?_
      refine WJ.cond (t := decide (k19 > 0)) rfl (fun hb20 => ?_) (fun hb20 => ?_)
      · replace hm := ifT hm hb20
        refine WJ.skip ?_
        refine PJ.next ?_
        refine WJ.seq ?_
        refine WJ.block ?_
        refine WJ.reg ?_
        refine SJ.q (YldS.yld (y_move rfl)) rfl ?_
        refine SJ.q (YldS.yld (y_move rfl)) rfl ?_
        refine SJ.q (YldS.yld (y_move rfl)) rfl ?_
        refine SJ.q (YldS.yld (y_move rfl)) rfl ?_
        refine SJ.q (YldS.yld (y_lenRow (k := 1) rfl Try.runUnderlying41 rfl)) rfl ?_
        obtain ⟨e21, h22, hm⟩ := bindS hm
        refine SJ.q (YldS.yld (y_ixRow (k := 2) (R := fStr) rfl Try.runUnderlying26 Try.sizeOf9 rfl rfl h22)) rfl ?_
        refine SJ.q (YldS.yld (y_loadR (k := 2) (i := (Int.toNat (List.length l17 : Int))) (off := 0) (u := str e21) rfl Try.isAgg9 rfl (idx_get h22) rfl)) rfl ?_
        obtain ⟨r23, h24, hm⟩ := bindS hm
        refine SJ.call1 (k := 0) rfl Try.call104 rfl (fun w S hw hA hO => ok_s_l22New h24 w S _ (hr4.st1 hw hO) hA) rfl ?_
        rintro _ _ ⟨rfl, rfl⟩
        refine SJ.buildSlice (R := fResult) (os := [.tmp 21]) [r23.1] Try.runUnderlying41 Try.sizeOf114 Try.zeroValue114 rfl rfl rfl rfl rfl rfl fun v25 => ?_
        obtain ⟨l26, h27, hm⟩ := bindS hm
        refine SJ.append (k := 2) (R := fResult) h27 rfl Try.underlying41 el114 rfl rfl rfl (fun w hw => (hw.row_rd (k := 0) rfl)) rfl fun v28 => ?_
        refine SJ.q (YldS.yld (y_assign rfl)) rfl ?_
        refine SJ.nil ?_
        refine PJ.block_normal (PJ.next ?_)
        refine WJ.quiet ?_
        refine QJ.step (YldS.yld (y_move rfl)) rfl ?_
        refine QJ.step (YldS.yld (y_bin rfl rfl rfl)) rfl ?_
        refine QJ.step (YldS.yld (y_assign rfl)) rfl ?_
        refine QJ.done ?_
        exact PJ.round (r23.2.at_, r23.2.seed, l26, v28, w64 (k19 - 1)) [1, 2, 3] hm ⟨rfl, rfl, rfl, rfl, trivial⟩ ⟨by decide, rfl⟩
      · replace hm := ifF hm hb20
        refine WJ.exit ?_
        refine PJ.then_exit (PJ.then_exit (PJ.block_exit ?_))
        exact PJ.joined (x15, x16, l17, v18) [0, 1] hm ⟨rfl, trivial⟩ ⟨by decide, rfl⟩
  · rintro ⟨x7, x8, l9, v10⟩ hm
    subst hk12
    refine WJ.seq ?_
    refine WJ.quiet ?_
    refine QJ.step (YldS.yld (y_move rfl)) rfl ?_
    refine QJ.step (YldS.yld (y_assign rfl)) rfl ?_
    refine QJ.done ?_
    refine PJ.next ?_
    refine WJ.ret ?_
    obtain rfl := Option.some.inj hm
    refine PJ.sel (L' := [box g2 97 [v3, .int .i64 x7, .int .u64 x8], row v10 114 fResult l9]) [0, 1] ⟨by decide, rfl⟩ ?_
    exact PJ.retn (vs := [v10]) Try.results70 ⟨rfl, trivial⟩ ⟨_, rfl, rfl⟩

set_option maxRecDepth 100000 in
set_option maxHeartbeats 1000000 in
theorem ok_s_l00Src_one {s1 : L00Src} {n5 : Int} {g2 : Nat} {r : Bool × L00Src} (hm : s_l00Src_one s1 n5 = some r) (w : World) (S : Nat → Prop) (v3 : Value) (hr4 : RdS w (Cx.Fz ⟨w, S⟩) v3 fByte.rp s1.code) (hA : (box g2 97 [v3, .int .i64 s1.at_, .int .u64 s1.seed]).holds w S) :
    Calls Try.prog 71 #[pt g2 0, .int .i64 n5] w (RetG ⟨w, S⟩ fun u L => (u = .bool r.1 ∧ L = [box g2 97 [v3, .int .i64 r.2.at_, .int .u64 r.2.seed]])) := by
  unfold s_l00Src_one at hm
  refine Calls.enter1 hA [pt g2 0, .int .i64 n5] Try.func71 rfl Try.ntmps71 rfl ?_
  refine WJ.seq ?_
  refine WJ.quiet ?_
  refine QJ.step (YldS.yld (y_assign rfl)) rfl ?_
  refine QJ.done ?_
  refine PJ.next ?_
  refine WJ.seq ?_
  refine WJ.reg ?_
  refine SJ.q (YldS.yld (y_move rfl)) rfl ?_
  refine SJ.q (YldS.yld (y_move rfl)) rfl ?_
  obtain ⟨r6, h7, hm⟩ := bindS hm
  refine SJ.call1 (k := 0) rfl Try.call54 rfl (fun w S hw hA hO => ok_s_l00Src_pick h7 w S _ (hr4.st1 hw hO) hA) rfl ?_
  rintro _ _ ⟨rfl, rfl⟩
  refine SJ.q (YldS.yld (y_bin rfl rfl rfl)) rfl ?_
  refine SJ.q (YldS.yld (y_assign rfl)) rfl ?_
  refine SJ.nil ?_
  refine PJ.next ?_
  refine WJ.ret ?_
  obtain rfl := Option.some.inj hm
  refine PJ.sel (L' := [box g2 97 [v3, .int .i64 r6.2.at_, .int .u64 r6.2.seed]]) [0] ⟨by decide, rfl⟩ ?_
  exact PJ.retn (vs := [.bool (r6.1 == 0)]) Try.results71 ⟨rfl, trivial⟩ ⟨rfl, rfl⟩

set_option maxRecDepth 100000 in
set_option maxHeartbeats 1000000 in
theorem ok_s_l00Src_text {s1 : L00Src} {list5 : List Str} {g2 : Nat} {r : Str × L00Src} (hm : s_l00Src_text s1 list5 = some r) (w : World) (S : Nat → Prop) (v3 : Value) (hr4 : RdS w (Cx.Fz ⟨w, S⟩) v3 fByte.rp s1.code) (v6 : Value) (hr7 : RdS w (Cx.Fz ⟨w, S⟩) v6 fStr.rp list5) (hA : (box g2 97 [v3, .int .i64 s1.at_, .int .u64 s1.seed]).holds w S) :
    Calls Try.prog 72 #[pt g2 0, v6] w (RetG ⟨w, S⟩ fun u L => (u = str r.1 ∧ L = [box g2 97 [v3, .int .i64 r.2.at_, .int .u64 r.2.seed]])) := by
  unfold s_l00Src_text at hm
  refine Calls.enter1 hA [pt g2 0, v6] Try.func72 rfl Try.ntmps72 rfl ?_
  refine WJ.seq ?_
  refine WJ.quiet ?_
  refine QJ.step (YldS.yld (y_assign rfl)) rfl ?_
  refine QJ.done ?_
  refine PJ.next ?_
  refine WJ.seq ?_
  refine WJ.reg ?_
  refine SJ.q (YldS.yld (y_move rfl)) rfl ?_
  refine SJ.q (YldS.yld (y_move rfl)) rfl ?_
  refine SJ.q (YldS.yld (y_move rfl)) rfl ?_
  refine SJ.q (YldS.yld (y_lenS Try.runUnderlying26 hr7 rfl)) rfl ?_
  obtain ⟨r8, h9, hm⟩ := bindS hm
  refine SJ.call1 (k := 0) rfl Try.call54 rfl (fun w S hw hA hO => ok_s_l00Src_pick h9 w S _ (hr4.st1 hw hO) hA) rfl ?_
  rintro _ _ ⟨rfl, rfl⟩
  obtain ⟨e10, h11, hm⟩ := bindS hm
  obtain ⟨ad12, _, rfl, ha13, hy14⟩ := hr7.elem h11
  refine SJ.q (YldS.yld (hy14 Try.runUnderlying26 Try.sizeOf9 rfl rfl)) rfl ?_
  refine SJ.q (YldS.yld (y_load1 (v := str e10) Try.isAgg9 ha13 St.frozenC rfl)) rfl ?_
  refine SJ.q (YldS.yld (y_assign rfl)) rfl ?_
  refine SJ.nil ?_
  refine PJ.next ?_
  refine WJ.ret ?_
  obtain rfl := Option.some.inj hm
  refine PJ.sel (L' := [box g2 97 [v3, .int .i64 r8.2.at_, .int .u64 r8.2.seed]]) [0] ⟨by decide, rfl⟩ ?_
  exact PJ.retn (vs := [str e10]) Try.results72 ⟨rfl, trivial⟩ ⟨rfl, rfl⟩

set_option maxRecDepth 100000 in
set_option maxHeartbeats 1000000 in
theorem ok_s_l00Src_among {s1 : L00Src} {list5 : List Int} {g2 : Nat} {r : Int × L00Src} (hm : s_l00Src_among s1 list5 = some r) (w : World) (S : Nat → Prop) (v3 : Value) (hr4 : RdS w (Cx.Fz ⟨w, S⟩) v3 fByte.rp s1.code) (v6 : Value) (hr7 : RdS w (Cx.Fz ⟨w, S⟩) v6 fI64.rp list5) (hA : (box g2 97 [v3, .int .i64 s1.at_, .int .u64 s1.seed]).holds w S) :
    Calls Try.prog 73 #[pt g2 0, v6] w (RetG ⟨w, S⟩ fun u L => (u = .int .i64 r.1 ∧ L = [box g2 97 [v3, .int .i64 r.2.at_, .int .u64 r.2.seed]])) := by
  unfold s_l00Src_among at hm
  refine Calls.enter1 hA [pt g2 0, v6] Try.func73 rfl Try.ntmps73 rfl ?_
  refine WJ.seq ?_
  refine WJ.quiet ?_
  refine QJ.step (YldS.yld (y_assign rfl)) rfl ?_
  refine QJ.done ?_
  refine PJ.next ?_
  refine WJ.seq ?_
  refine WJ.reg ?_
  refine SJ.q (YldS.yld (y_move rfl)) rfl ?_
  refine SJ.q (YldS.yld (y_move rfl)) rfl ?_
  refine SJ.q (YldS.yld (y_move rfl)) rfl ?_
  refine SJ.q (YldS.yld (y_lenS Try.runUnderlying42 hr7 rfl)) rfl ?_
  obtain ⟨r8, h9, hm⟩ := bindS hm
  refine SJ.call1 (k := 0) rfl Try.call54 rfl (fun w S hw hA hO => ok_s_l00Src_pick h9 w S _ (hr4.st1 hw hO) hA) rfl ?_
  rintro _ _ ⟨rfl, rfl⟩
  obtain ⟨e10, h11, hm⟩ := bindS hm
  obtain ⟨ad12, _, rfl, ha13, hy14⟩ := hr7.elem h11
  refine SJ.q (YldS.yld (hy14 Try.runUnderlying42 Try.sizeOf2 rfl rfl)) rfl ?_
  refine SJ.q (YldS.yld (y_load1 (v := .int .i64 e10) Try.isAgg2 ha13 St.frozenC rfl)) rfl ?_
  refine SJ.q (YldS.yld (y_assign rfl)) rfl ?_
  refine SJ.nil ?_
  refine PJ.next ?_
  refine WJ.ret ?_
  obtain rfl := Option.some.inj hm
  refine PJ.sel (L' := [box g2 97 [v3, .int .i64 r8.2.at_, .int .u64 r8.2.seed]]) [0] ⟨by decide, rfl⟩ ?_
  exact PJ.retn (vs := [.int .i64 e10]) Try.results73 ⟨rfl, trivial⟩ ⟨rfl, rfl⟩

set_option maxRecDepth 100000 in
set_option maxHeartbeats 1000000 in
theorem ok_s_l22Bent {N : Nat} {s1 : L00Src} {g2 : Nat} {r : (List Result) × L00Src} (hm : s_l22Bent N s1 = some r) (w : World) (S : Nat → Prop) (v3 : Value) (hr4 : RdS w (Cx.Fz ⟨w, S⟩) v3 fByte.rp s1.code) (hA : (box g2 97 [v3, .int .i64 s1.at_, .int .u64 s1.seed]).holds w S) :
    Calls Try.prog 47 #[pt g2 0] w (RetG ⟨w, S⟩ fun u L => ∃ (u1 : Value), (u = u1 ∧ L = [box g2 97 [v3, .int .i64 r.2.at_, .int .u64 r.2.seed], row u1 114 fResult r.1])) := by
  unfold s_l22Bent at hm
  refine Calls.enter1 hA [pt g2 0] Try.func47 rfl Try.ntmps47 rfl ?_
  refine WJ.seq ?_
  refine WJ.quiet ?_
  refine QJ.step (YldS.yld (y_assign rfl)) rfl ?_
  refine QJ.done ?_
  refine PJ.next ?_
  refine WJ.seq ?_
  refine WJ.reg ?_
  refine SJ.q (YldS.yld (y_move rfl)) rfl ?_
  obtain ⟨r5, h6, hm⟩ := bindS hm
  refine SJ.call1 (k := 0) rfl Try.call70 rfl (fun w S hw hA hO => ok_s_l22Draw h6 w S _ (hr4.st1 hw hO) hA) rfl ?_
  rintro v7 _ ⟨_, rfl, rfl⟩
  refine SJ.q (YldS.yld (y_assign rfl)) rfl ?_
  refine SJ.nil ?_
  refine PJ.next ?_
  obtain ⟨kj12, hk13, hm⟩ := withK_open hm
  refine WJ.join (X := Int × Int × (List Result) × Value) (fun (x : Int × Int × (List Result) × Value) => kj12 x.1 x.2.1 x.2.2.1 = some r) (fun (x : Int × Int × (List Result) × Value) => [(0, pt g2 0), (3, x.2.2.2)]) (fun (x : Int × Int × (List Result) × Value) => [box g2 97 [v3, .int .i64 x.1, .int .u64 x.2.1], row x.2.2.2 114 fResult x.2.2.1]) ?_ ?_
  · clear hk13
    refine WJ.seq ?_
    refine WJ.reg ?_
    refine SJ.q (YldS.yld (y_move rfl)) rfl ?_
    obtain ⟨r14, h15, hm⟩ := bindS hm
    refine SJ.call1 (k := 0) rfl Try.call71 rfl (fun w S hw hA hO => ok_s_l00Src_one h15 w S _ (hr4.st1 hw hO) hA) rfl ?_
    rintro _ _ ⟨rfl, rfl⟩
    refine SJ.nil ?_
    refine PJ.next ?_
    refine WJ.cond (t := r14.1) rfl (fun hb16 => ?_) (fun hb16 => ?_)
    · replace hm := ifT hm hb16
      refine WJ.seq ?_
      refine WJ.reg ?_
      refine SJ.buildSlice (R := fResult) (os := []) [] Try.runUnderlying41 Try.sizeOf114 Try.zeroValue114 rfl rfl rfl rfl rfl rfl fun v17 => ?_
      refine SJ.q (YldS.yld (y_assign rfl)) rfl ?_
      refine SJ.nil ?_
      refine PJ.next ?_
      refine WJ.seq ?_
      refine WJ.reg ?_
      refine SJ.q (YldS.yld (y_move rfl)) rfl ?_
      obtain ⟨r18, h19, hm⟩ := bindS hm
      refine SJ.call1 (k := 1) rfl Try.call54 rfl (fun w S hw hA hO => ok_s_l00Src_pick h19 w S _ (hr4.st1 hw hO) hA) rfl ?_
      rintro _ _ ⟨rfl, rfl⟩
      refine SJ.q (YldS.yld (y_bin rfl rfl rfl)) rfl ?_
      refine SJ.q (YldS.yld (y_assign rfl)) rfl ?_
      refine SJ.nil ?_
      refine PJ.next ?_
      refine WJ.block ?_
      refine WJ.sel (L' := (fun (x : (List Result) × Value × Int) => [box g2 97 [v3, .int .i64 r18.2.at_, .int .u64 r18.2.seed], row x.2.1 114 fResult x.1]) ([], v17, w64 (40 + r18.1))) [0, 1] ⟨by decide, rfl⟩ ?_
      refine WJ.sub (m' := (fun (x : (List Result) × Value × Int) => [(0, pt g2 0), (3, x.2.1), (4, .int .i64 x.2.2)]) ([], v17, w64 (40 + r18.1))) ⟨rfl, rfl, rfl, trivial⟩ ?_
      refine WJ.loop (X := (List Result) × Value × Int) (fun N (x : (List Result) × Value × Int) => s_l22Bent_l1 kj12 r18 N x.1 x.2.2 = some r) (fun (x : (List Result) × Value × Int) => [(0, pt g2 0), (3, x.2.1), (4, .int .i64 x.2.2)]) (fun (x : (List Result) × Value × Int) => [box g2 97 [v3, .int .i64 r18.2.at_, .int .u64 r18.2.seed], row x.2.1 114 fResult x.1]) ?_ N ([], v17, w64 (40 + r18.1)) hm
      · rintro N ⟨l20, v21, k22⟩ hI
        have hm := hI; clear hI
        cases N with
        | zero => cases hm
        | succ N =>
        unfold s_l22Bent_l1 at hm
        refine WJ.seq ?_
        refine WJ.seq ?_
        refine WJ.quiet ?_
        refine QJ.step (YldS.yld (y_move rfl)) rfl ?_
        refine QJ.step (YldS.yld (y_bin rfl rfl rfl)) rfl ?_
        refine QJ.done ?_
        refine PJ.next ?_
        refine WJ.cond (t := decide (k22 > 0)) rfl (fun hb23 => ?_) (fun hb23 => ?_)
        · replace hm := ifT hm hb23
          refine WJ.skip ?_
          refine PJ.next ?_
          refine WJ.seq ?_
          refine WJ.block ?_
          refine WJ.seq ?_
          refine WJ.quiet ?_
          refine QJ.step (YldS.yld (y_move rfl)) rfl ?_
          refine QJ.step (YldS.yld (y_lenRow (k := 1) rfl Try.runUnderlying41 rfl)) rfl ?_
          refine QJ.step (YldS.yld (y_convTo8 Try.runUnderlying3 Try.runUnderlying5 rfl)) rfl ?_
          refine QJ.step (YldS.yld (y_assign rfl)) rfl ?_
          refine QJ.done ?_
          refine PJ.next ?_
          refine WJ.reg ?_
          refine SJ.q (YldS.yld (y_move rfl)) rfl ?_
          refine SJ.q (YldS.yld (y_move rfl)) rfl ?_
          refine SJ.q (YldS.yld (y_quo8 (a := (UInt8.ofInt (List.length l20 : Int))) rfl rfl (by decide))) rfl ?_
          refine SJ.q (YldS.yld (y_bin8 (97 : UInt8) (UInt8.ofInt (Int.tdiv (UInt8.toNat (UInt8.ofInt (List.length l20 : Int)) : Int) 26)) rfl rfl rfl)) rfl ?_
          refine SJ.q (YldS.yld (y_move rfl)) rfl ?_
          refine SJ.q (YldS.yld (y_rem8 (a := (UInt8.ofInt (List.length l20 : Int))) rfl rfl (by decide))) rfl ?_
          refine SJ.q (YldS.yld (y_bin8 (97 : UInt8) (UInt8.ofInt (Int.tmod (UInt8.toNat (UInt8.ofInt (List.length l20 : Int)) : Int) 26)) rfl rfl rfl)) rfl ?_
          refine SJ.buildSlice (R := fByte) (os := [.tmp 25, .tmp 28]) [(97 : UInt8) + (UInt8.ofInt (Int.tdiv (UInt8.toNat (UInt8.ofInt (List.length l20 : Int)) : Int) 26)), (97 : UInt8) + (UInt8.ofInt (Int.tmod (UInt8.toNat (UInt8.ofInt (List.length l20 : Int)) : Int) 26))] Try.runUnderlying22 Try.sizeOf5 Try.zeroValue5 rfl rfl rfl rfl rfl rfl fun v24 => ?_
          refine SJ.q (YldS.yld (y_b2s Try.underlying22 Try.underlying9 Try.underlying5 (fun w hw => ⟨_, (hw.row_rd (k := 0) rfl)⟩) rfl)) rfl ?_
          refine SJ.q (YldS.yld (y_move rfl)) rfl ?_
          refine SJ.q (YldS.yld (y_rem rfl rfl (by decide))) rfl ?_
          refine SJ.q (YldS.yld (y_build (parts := [(0, .tmp 30), (1, .tmp 32)]) (places := [(0, 1), (1, 1), (2, 1)]) (r := [str ((Result.mk [(97 : UInt8) + (UInt8.ofInt (Int.tdiv (UInt8.toNat (UInt8.ofInt (List.length l20 : Int)) : Int) 26)), (97 : UInt8) + (UInt8.ofInt (Int.tmod (UInt8.toNat (UInt8.ofInt (List.length l20 : Int)) : Int) 26))] (Int.tmod k22 7) 0).name), .int .i64 ((Result.mk [(97 : UInt8) + (UInt8.ofInt (Int.tdiv (UInt8.toNat (UInt8.ofInt (List.length l20 : Int)) : Int) 26)), (97 : UInt8) + (UInt8.ofInt (Int.tmod (UInt8.toNat (UInt8.ofInt (List.length l20 : Int)) : Int) 26))] (Int.tmod k22 7) 0).net), .int .i64 ((Result.mk [(97 : UInt8) + (UInt8.ofInt (Int.tdiv (UInt8.toNat (UInt8.ofInt (List.length l20 : Int)) : Int) 26)), (97 : UInt8) + (UInt8.ofInt (Int.tmod (UInt8.toNat (UInt8.ofInt (List.length l20 : Int)) : Int) 26))] (Int.tmod k22 7) 0).errors)]) pl114 Try.zeroValue114 rfl rfl rfl rfl)) rfl ?_
          refine SJ.buildSlice (R := fResult) (os := [.tmp 33]) [(Result.mk [(97 : UInt8) + (UInt8.ofInt (Int.tdiv (UInt8.toNat (UInt8.ofInt (List.length l20 : Int)) : Int) 26)), (97 : UInt8) + (UInt8.ofInt (Int.tmod (UInt8.toNat (UInt8.ofInt (List.length l20 : Int)) : Int) 26))] (Int.tmod k22 7) 0)] Try.runUnderlying41 Try.sizeOf114 Try.zeroValue114 rfl rfl rfl rfl rfl rfl fun v25 => ?_
          obtain ⟨l26, h27, hm⟩ := bindS hm
          refine SJ.append (k := 3) (R := fResult) h27 rfl Try.underlying41 el114 rfl rfl rfl (fun w hw => (hw.row_rd (k := 0) rfl)) rfl fun v28 => ?_
          refine SJ.q (YldS.yld (y_assign rfl)) rfl ?_
          refine SJ.nil ?_
          refine PJ.block_normal (PJ.next ?_)
          refine WJ.quiet ?_
          refine QJ.step (YldS.yld (y_move rfl)) rfl ?_
          refine QJ.step (YldS.yld (y_bin rfl rfl rfl)) rfl ?_
          refine QJ.step (YldS.yld (y_assign rfl)) rfl ?_
          refine QJ.done ?_
          exact PJ.round (l26, v28, w64 (k22 - 1)) [2, 3] hm ⟨rfl, rfl, rfl, trivial⟩ ⟨by decide, rfl⟩
        · replace hm := ifF hm hb23
          refine WJ.exit ?_
          refine PJ.then_exit (PJ.then_exit (PJ.block_exit ?_))
          exact PJ.joined (r18.2.at_, r18.2.seed, l20, v21) [0, 1] hm ⟨rfl, rfl, trivial⟩ ⟨by decide, rfl⟩
    · replace hm := ifF hm hb16
      refine WJ.skip ?_
      exact PJ.joined (r14.2.at_, r14.2.seed, r5.1, v7) [0, 1] hm ⟨rfl, rfl, trivial⟩ ⟨by decide, rfl⟩
  · rintro ⟨x8, x9, l10, v11⟩ hm
    subst hk13
    refine WJ.seq ?_
    refine WJ.seq ?_
    refine WJ.quiet ?_
    refine QJ.step (YldS.yld (y_move rfl)) rfl ?_
    refine QJ.step (YldS.yld (y_lenRow (k := 1) rfl Try.runUnderlying41 rfl)) rfl ?_
    refine QJ.step (YldS.yld (y_bin rfl rfl rfl)) rfl ?_
    refine QJ.done ?_
    refine PJ.next ?_
    refine WJ.cond (t := ((List.length l10 : Int) == 0)) rfl (fun hb29 => ?_) (fun hb29 => ?_)
    · replace hm := ifT hm hb29
      refine WJ.seq ?_
      refine WJ.quiet ?_
      refine QJ.step (YldS.yld (y_move rfl)) rfl ?_
      refine QJ.step (YldS.yld (y_assign rfl)) rfl ?_
      refine QJ.done ?_
      refine PJ.next ?_
      refine WJ.ret ?_
      refine PJ.then_ret ?_
      obtain rfl := Option.some.inj hm
      refine PJ.sel (L' := [box g2 97 [v3, .int .i64 x8, .int .u64 x9], row v11 114 fResult l10]) [0, 1] ⟨by decide, rfl⟩ ?_
      exact PJ.retn (vs := [v11]) Try.results47 ⟨rfl, trivial⟩ ⟨_, rfl, rfl⟩
    · replace hm := ifF hm hb29
      refine WJ.skip ?_
      refine PJ.next ?_
      refine WJ.seq ?_
      refine WJ.reg ?_
      refine SJ.q (YldS.yld (y_move rfl)) rfl ?_
      refine SJ.q (YldS.yld (y_move rfl)) rfl ?_
      refine SJ.q (YldS.yld (y_move rfl)) rfl ?_
      refine SJ.q (YldS.yld (y_lenRow (k := 1) rfl Try.runUnderlying41 rfl)) rfl ?_
      obtain ⟨r30, h31, hm⟩ := bindS hm
      refine SJ.call1 (k := 0) rfl Try.call54 rfl (fun w S hw hA hO => ok_s_l00Src_pick h31 w S _ (hr4.st1 hw hO) hA) rfl ?_
      rintro _ _ ⟨rfl, rfl⟩
      obtain ⟨e32, h33, hm⟩ := bindS hm
      refine SJ.q (YldS.yld (y_ixRow (k := 1) (R := fResult) rfl Try.runUnderlying41 Try.sizeOf114 rfl rfl h33)) rfl ?_
      refine SJ.q (YldS.yld (y_assign rfl)) rfl ?_
      refine SJ.nil ?_
      refine PJ.next ?_
      obtain ⟨kj37, hk38, hm⟩ := withK_open hm
      refine WJ.join (X := Int × Int × (List Result)) (fun (x : Int × Int × (List Result)) => kj37 x.1 x.2.1 x.2.2 = some r) (fun (x : Int × Int × (List Result)) => [(3, v11)]) (fun (x : Int × Int × (List Result)) => [box g2 97 [v3, .int .i64 x.1, .int .u64 x.2.1], row v11 114 fResult x.2.2]) ?_ ?_
      · clear hk38
        refine WJ.seq ?_
        refine WJ.reg ?_
        refine SJ.q (YldS.yld (y_move rfl)) rfl ?_
        obtain ⟨r39, h40, hm⟩ := bindS hm
        refine SJ.call1 (k := 0) rfl Try.call54 rfl (fun w S hw hA hO => ok_s_l00Src_pick h40 w S _ (hr4.st1 hw hO) hA) rfl ?_
        rintro _ _ ⟨rfl, rfl⟩
        refine SJ.nil ?_
        refine PJ.next ?_
        refine WJ.block ?_
        refine WJ.seq ?_
        refine WJ.quiet ?_
        refine QJ.step (YldS.yld (y_bin rfl rfl rfl)) rfl ?_
        refine QJ.step (YldS.yld (y_assign rfl)) rfl ?_
        refine QJ.done ?_
        refine PJ.next ?_
        refine WJ.cond (t := (r39.1 == 0)) rfl (fun hb41 => ?_) (fun hb41 => ?_)
        · replace hm := ifT hm hb41
          refine WJ.reg ?_
          refine SJ.q (YldS.yld (y_move rfl)) rfl ?_
          refine SJ.q (YldS.yld (y_move rfl)) rfl ?_
          refine SJ.buildSlice (R := fStr) (os := [.const (str []), .const (str [65, 100, 97]), .const (str [97, 100, 97])]) ([[], [65, 100, 97], [97, 100, 97]] : List Str) Try.runUnderlying26 Try.sizeOf9 Try.zeroValue9 rfl rfl rfl rfl rfl rfl fun v42 => ?_
          obtain ⟨r43, h44, hm⟩ := bindS hm
          refine SJ.call2 (k := 1) rfl Try.call72 rfl (fun w S hw hA hO hB => ok_s_l00Src_text h44 w S _ (hr4.st1 hw hO) _ (hB.row_rd (j := 0) (k := 1) rfl rfl) hA) rfl ?_
          rintro _ _ ⟨rfl, rfl⟩
          refine SJ.q (YldS.yld (y_nil rfl)) rfl ?_
          refine SJ.q (YldS.yld (y_fldR fld114_0 rfl)) rfl ?_
          refine SJ.storeRL (k := 2) (i := (Int.toNat r30.1)) (off := 0) (us := [str r43.1]) (b := (Result.mk r43.1 e32.net e32.errors)) rfl rfl (idx_get h33) rfl rfl Try.sizeOf9 rfl rfl rfl ?_
          refine SJ.nil ?_
          refine PJ.block_normal ?_
          exact PJ.joined (r43.2.at_, r43.2.seed, (List.set l10 (Int.toNat r30.1) (Result.mk r43.1 e32.net e32.errors))) [0, 2] hm ⟨rfl, trivial⟩ ⟨by decide, rfl⟩
        · replace hm := ifF hm hb41
          refine WJ.seq ?_
          refine WJ.quiet ?_
          refine QJ.step (YldS.yld (y_bin rfl rfl rfl)) rfl ?_
          refine QJ.step (YldS.yld (y_assign rfl)) rfl ?_
          refine QJ.done ?_
          refine PJ.next ?_
          refine WJ.cond (t := (r39.1 == 1)) rfl (fun hb45 => ?_) (fun hb45 => ?_)
          · replace hm := ifT hm hb45
            refine WJ.reg ?_
            refine SJ.q (YldS.yld (y_move rfl)) rfl ?_
            refine SJ.q (YldS.yld (y_move rfl)) rfl ?_
            refine SJ.buildSlice (R := fI64) (os := [.const (.int .i64 (-1)), .const (.int .i64 0), .const (.int .i64 100000), .const (.int .i64 100001), .const (.int .i64 (-9223372036854775808))]) [(-1), 0, 100000, 100001, (-9223372036854775808)] Try.runUnderlying42 Try.sizeOf2 Try.zeroValue2 rfl rfl rfl rfl rfl rfl fun v46 => ?_
            obtain ⟨r47, h48, hm⟩ := bindS hm
            refine SJ.call2 (k := 1) rfl Try.call73 rfl (fun w S hw hA hO hB => ok_s_l00Src_among h48 w S _ (hr4.st1 hw hO) _ (hB.row_rd (j := 0) (k := 1) rfl rfl) hA) rfl ?_
            rintro _ _ ⟨rfl, rfl⟩
            refine SJ.q (YldS.yld (y_nil rfl)) rfl ?_
            refine SJ.q (YldS.yld (y_fldR fld114_1 rfl)) rfl ?_
            refine SJ.storeRL (k := 2) (i := (Int.toNat r30.1)) (off := 1) (us := [.int .i64 r47.1]) (b := (Result.mk e32.name r47.1 e32.errors)) rfl rfl (idx_get h33) rfl rfl Try.sizeOf2 rfl rfl rfl ?_
            refine SJ.nil ?_
            refine PJ.block_normal ?_
            exact PJ.joined (r47.2.at_, r47.2.seed, (List.set l10 (Int.toNat r30.1) (Result.mk e32.name r47.1 e32.errors))) [0, 2] hm ⟨rfl, trivial⟩ ⟨by decide, rfl⟩
          · replace hm := ifF hm hb45
            refine WJ.seq ?_
            refine WJ.quiet ?_
            refine QJ.step (YldS.yld (y_bin rfl rfl rfl)) rfl ?_
            refine QJ.step (YldS.yld (y_assign rfl)) rfl ?_
            refine QJ.done ?_
            refine PJ.next ?_
            refine WJ.cond (t := (r39.1 == 2)) rfl (fun hb49 => ?_) (fun hb49 => ?_)
            · replace hm := ifT hm hb49
              refine WJ.reg ?_
              refine SJ.q (YldS.yld (y_move rfl)) rfl ?_
              refine SJ.q (YldS.yld (y_move rfl)) rfl ?_
              refine SJ.buildSlice (R := fI64) (os := [.const (.int .i64 (-1)), .const (.int .i64 0), .const (.int .i64 100000), .const (.int .i64 100001)]) [(-1), 0, 100000, 100001] Try.runUnderlying42 Try.sizeOf2 Try.zeroValue2 rfl rfl rfl rfl rfl rfl fun v50 => ?_
              obtain ⟨r51, h52, hm⟩ := bindS hm
              refine SJ.call2 (k := 1) rfl Try.call73 rfl (fun w S hw hA hO hB => ok_s_l00Src_among h52 w S _ (hr4.st1 hw hO) _ (hB.row_rd (j := 0) (k := 1) rfl rfl) hA) rfl ?_
              rintro _ _ ⟨rfl, rfl⟩
              refine SJ.q (YldS.yld (y_nil rfl)) rfl ?_
              refine SJ.q (YldS.yld (y_fldR fld114_2 rfl)) rfl ?_
              refine SJ.storeRL (k := 2) (i := (Int.toNat r30.1)) (off := 2) (us := [.int .i64 r51.1]) (b := (Result.mk e32.name e32.net r51.1)) rfl rfl (idx_get h33) rfl rfl Try.sizeOf2 rfl rfl rfl ?_
              refine SJ.nil ?_
              refine PJ.block_normal ?_
              exact PJ.joined (r51.2.at_, r51.2.seed, (List.set l10 (Int.toNat r30.1) (Result.mk e32.name e32.net r51.1))) [0, 2] hm ⟨rfl, trivial⟩ ⟨by decide, rfl⟩
            · replace hm := ifF hm hb49
              refine WJ.skip ?_
              refine PJ.block_normal ?_
              exact PJ.joined (r39.2.at_, r39.2.seed, l10) [0, 1] hm ⟨rfl, trivial⟩ ⟨by decide, rfl⟩
      · rintro ⟨x34, x35, l36⟩ hm
        subst hk38
        refine WJ.seq ?_
        refine WJ.quiet ?_
        refine QJ.step (YldS.yld (y_move rfl)) rfl ?_
        refine QJ.step (YldS.yld (y_assign rfl)) rfl ?_
        refine QJ.done ?_
        refine PJ.next ?_
        refine WJ.ret ?_
        obtain rfl := Option.some.inj hm
        refine PJ.sel (L' := [box g2 97 [v3, .int .i64 x34, .int .u64 x35], row v11 114 fResult l36]) [0, 1] ⟨by decide, rfl⟩ ?_
        exact PJ.retn (vs := [v11]) Try.results47 ⟨rfl, trivial⟩ ⟨_, rfl, rfl⟩

set_option maxRecDepth 100000 in
set_option maxHeartbeats 1000000 in
theorem ok_s_l00Max {a1 : Int} {b2 : Int} {r : Int} (hm : s_l00Max a1 b2 = some r) (w : World)  :
    Calls Try.prog 74 #[.int .i64 a1, .int .i64 b2] w (Ret (cx w) (.int .i64 r)) := by
  unfold s_l00Max at hm
  refine Calls.enter [.int .i64 a1, .int .i64 b2] Try.func74 rfl Try.ntmps74 rfl ?_
  refine WJ.seq ?_
  refine WJ.quiet ?_
  refine QJ.step (YldS.yld (y_assign rfl)) rfl ?_
  refine QJ.done ?_
  refine PJ.next ?_
  refine WJ.seq ?_
  refine WJ.seq ?_
  refine WJ.quiet ?_
  refine QJ.step (YldS.yld (y_move rfl)) rfl ?_
  refine QJ.step (YldS.yld (y_move rfl)) rfl ?_
  refine QJ.step (YldS.yld (y_bin rfl rfl rfl)) rfl ?_
  refine QJ.done ?_
  refine PJ.next ?_
  refine WJ.cond (t := decide (a1 > b2)) rfl (fun hb3 => ?_) (fun hb3 => ?_)
  · replace hm := ifT hm hb3
    refine WJ.seq ?_
    refine WJ.quiet ?_
    refine QJ.step (YldS.yld (y_move rfl)) rfl ?_
    refine QJ.step (YldS.yld (y_assign rfl)) rfl ?_
    refine QJ.done ?_
    refine PJ.next ?_
    refine WJ.ret ?_
    refine PJ.then_ret ?_
    obtain rfl := Option.some.inj hm
    refine PJ.sel (L' := []) [] ⟨List.nodup_nil, rfl⟩ ?_
    exact PJ.retn (vs := [.int .i64 a1]) Try.results74 ⟨rfl, trivial⟩ ⟨rfl, rfl⟩
  · replace hm := ifF hm hb3
    refine WJ.skip ?_
    refine PJ.next ?_
    refine WJ.seq ?_
    refine WJ.quiet ?_
    refine QJ.step (YldS.yld (y_move rfl)) rfl ?_
    refine QJ.step (YldS.yld (y_assign rfl)) rfl ?_
    refine QJ.done ?_
    refine PJ.next ?_
    refine WJ.ret ?_
    obtain rfl := Option.some.inj hm
    refine PJ.sel (L' := []) [] ⟨List.nodup_nil, rfl⟩ ?_
    exact PJ.retn (vs := [.int .i64 b2]) Try.results74 ⟨rfl, trivial⟩ ⟨rfl, rfl⟩

set_option maxRecDepth 100000 in
set_option maxHeartbeats 1000000 in
theorem ok_s_l22DrawTable {N : Nat} {s1 : L00Src} {g2 : Nat} {r : (List Int) × L00Src} (hm : s_l22DrawTable N s1 = some r) (w : World) (S : Nat → Prop) (v3 : Value) (hr4 : RdS w (Cx.Fz ⟨w, S⟩) v3 fByte.rp s1.code) (hA : (box g2 97 [v3, .int .i64 s1.at_, .int .u64 s1.seed]).holds w S) :
    Calls Try.prog 49 #[pt g2 0] w (RetG ⟨w, S⟩ fun u L => ∃ (u1 : Value), (u = u1 ∧ L = [box g2 97 [v3, .int .i64 r.2.at_, .int .u64 r.2.seed], row u1 2 fI64 r.1])) := by
  unfold s_l22DrawTable at hm
  refine Calls.enter1 hA [pt g2 0] Try.func49 rfl Try.ntmps49 rfl ?_
  refine WJ.seq ?_
  refine WJ.quiet ?_
  refine QJ.step (YldS.yld (y_assign rfl)) rfl ?_
  refine QJ.done ?_
  refine PJ.next ?_
  refine WJ.seq ?_
  refine WJ.reg ?_
  refine SJ.buildSlice (R := fI64) (os := []) [] Try.runUnderlying42 Try.sizeOf2 Try.zeroValue2 rfl rfl rfl rfl rfl rfl fun v5 => ?_
  refine SJ.q (YldS.yld (y_assign rfl)) rfl ?_
  refine SJ.nil ?_
  refine PJ.next ?_
  refine WJ.seq ?_
  refine WJ.quiet ?_
  refine QJ.step (YldS.yld (y_assign rfl)) rfl ?_
  refine QJ.done ?_
  refine PJ.next ?_
  refine WJ.seq ?_
  refine WJ.reg ?_
  refine SJ.q (YldS.yld (y_move rfl)) rfl ?_
  obtain ⟨r6, h7, hm⟩ := bindS hm
  refine SJ.call1 (k := 1) rfl Try.call54 rfl (fun w S hw hA hO => ok_s_l00Src_pick h7 w S _ (hr4.st1 hw hO) hA) rfl ?_
  rintro _ _ ⟨rfl, rfl⟩
  refine SJ.q (YldS.yld (y_assign rfl)) rfl ?_
  refine SJ.nil ?_
  refine PJ.next ?_
  obtain ⟨kj11, hk12, hm⟩ := withK_open hm
  refine WJ.join (X := Int × Int × Int) (fun (x : Int × Int × Int) => kj11 x.1 x.2.1 x.2.2 = some r) (fun (x : Int × Int × Int) => [(0, pt g2 0), (3, v5), (4, .int .i64 100), (5, .int .i64 x.2.2)]) (fun (x : Int × Int × Int) => [box g2 97 [v3, .int .i64 x.1, .int .u64 x.2.1], row v5 2 fI64 []]) ?_ ?_
  · clear hk12
    refine WJ.seq ?_
    refine WJ.reg ?_
    refine SJ.q (YldS.yld (y_move rfl)) rfl ?_
    obtain ⟨r13, h14, hm⟩ := bindS hm
    refine SJ.call1 (k := 0) rfl Try.call71 rfl (fun w S hw hA hO => ok_s_l00Src_one h14 w S _ (hr4.st1 hw hO) hA) rfl ?_
    rintro _ _ ⟨rfl, rfl⟩
    refine SJ.nil ?_
    refine PJ.next ?_
    refine WJ.cond (t := r13.1) rfl (fun hb15 => ?_) (fun hb15 => ?_)
    · replace hm := ifT hm hb15
      refine WJ.reg ?_
      refine SJ.q (YldS.yld (y_move rfl)) rfl ?_
      obtain ⟨r16, h17, hm⟩ := bindS hm
      refine SJ.call1 (k := 0) rfl Try.call54 rfl (fun w S hw hA hO => ok_s_l00Src_pick h17 w S _ (hr4.st1 hw hO) hA) rfl ?_
      rintro _ _ ⟨rfl, rfl⟩
      refine SJ.q (YldS.yld (y_bin rfl rfl rfl)) rfl ?_
      refine SJ.q (YldS.yld (y_assign rfl)) rfl ?_
      refine SJ.nil ?_
      exact PJ.joined (r16.2.at_, r16.2.seed, w64 (20 + r16.1)) [0, 1] hm ⟨rfl, rfl, rfl, rfl, trivial⟩ ⟨by decide, rfl⟩
    · replace hm := ifF hm hb15
      refine WJ.skip ?_
      exact PJ.joined (r13.2.at_, r13.2.seed, r6.1) [0, 1] hm ⟨rfl, rfl, rfl, rfl, trivial⟩ ⟨by decide, rfl⟩
  · rintro ⟨x8, x9, n10⟩ hm
    subst hk12
    obtain ⟨kj22, hk23, hm⟩ := withK_open hm
    refine WJ.join (X := Int × Int × (List Int) × Value) (fun (x : Int × Int × (List Int) × Value) => kj22 x.1 x.2.1 x.2.2.1 = some r) (fun (x : Int × Int × (List Int) × Value) => [(0, pt g2 0), (3, x.2.2.2), (5, .int .i64 n10)]) (fun (x : Int × Int × (List Int) × Value) => [box g2 97 [v3, .int .i64 x.1, .int .u64 x.2.1], row x.2.2.2 2 fI64 x.2.2.1]) ?_ ?_
    · clear hk23
      refine WJ.seq ?_
      refine WJ.quiet ?_
      refine QJ.step (YldS.yld (y_move rfl)) rfl ?_
      refine QJ.step (YldS.yld (y_assign rfl)) rfl ?_
      refine QJ.done ?_
      refine PJ.next ?_
      refine WJ.block ?_
      refine WJ.sel (L' := (fun (x : Int × Int × (List Int) × Value × Int × Int) => [box g2 97 [v3, .int .i64 x.1, .int .u64 x.2.1], row x.2.2.2.1 2 fI64 x.2.2.1]) (x8, x9, [], v5, 100, n10)) [0, 1] ⟨by decide, rfl⟩ ?_
      refine WJ.sub (m' := (fun (x : Int × Int × (List Int) × Value × Int × Int) => [(0, pt g2 0), (3, x.2.2.2.1), (4, .int .i64 x.2.2.2.2.1), (5, .int .i64 n10), (6, .int .i64 x.2.2.2.2.2)]) (x8, x9, [], v5, 100, n10)) ⟨rfl, rfl, rfl, rfl, rfl, trivial⟩ ?_
      refine WJ.loop (X := Int × Int × (List Int) × Value × Int × Int) (fun N (x : Int × Int × (List Int) × Value × Int × Int) => s_l22DrawTable_l1 kj22 s1 N x.1 x.2.1 x.2.2.1 x.2.2.2.2.1 x.2.2.2.2.2 = some r) (fun (x : Int × Int × (List Int) × Value × Int × Int) => [(0, pt g2 0), (3, x.2.2.2.1), (4, .int .i64 x.2.2.2.2.1), (5, .int .i64 n10), (6, .int .i64 x.2.2.2.2.2)]) (fun (x : Int × Int × (List Int) × Value × Int × Int) => [box g2 97 [v3, .int .i64 x.1, .int .u64 x.2.1], row x.2.2.2.1 2 fI64 x.2.2.1]) ?_ N (x8, x9, [], v5, 100, n10) hm
      · rintro N ⟨x24, x25, l26, v27, at28, k29⟩ hI
        have hm := hI; clear hI
        cases N with
        | zero => cases hm
        | succ N =>
        unfold s_l22DrawTable_l1 at hm
        refine WJ.seq ?_
        refine WJ.seq ?_
        refine WJ.quiet ?_
        refine QJ.step (YldS.yld (y_move rfl)) rfl ?_
        refine QJ.step (YldS.yld (y_bin rfl rfl rfl)) rfl ?_
        refine QJ.done ?_
        refine PJ.next ?_
        refine WJ.cond (t := decide (k29 > 0)) rfl (fun hb30 => ?_) (fun hb30 => ?_)
        · replace hm := ifT hm hb30
          refine WJ.skip ?_
          refine PJ.next ?_
          refine WJ.seq ?_
          refine WJ.block ?_
          refine WJ.seq ?_
          refine WJ.reg ?_
          refine SJ.q (YldS.yld (y_move rfl)) rfl ?_
          refine SJ.q (YldS.yld (y_move rfl)) rfl ?_
          refine SJ.buildSlice (R := fI64) (os := [.tmp 21]) [at28] Try.runUnderlying42 Try.sizeOf2 Try.zeroValue2 rfl rfl rfl rfl rfl rfl fun v31 => ?_
          obtain ⟨l32, h33, hm⟩ := bindS hm
          refine SJ.append (k := 2) (R := fI64) h33 rfl Try.underlying42 el2 rfl rfl rfl (fun w hw => (hw.row_rd (k := 0) rfl)) rfl fun v34 => ?_
          refine SJ.q (YldS.yld (y_assign rfl)) rfl ?_
          refine SJ.nil ?_
          refine PJ.next ?_
          refine WJ.reg ?_
          refine SJ.q (YldS.yld (y_move rfl)) rfl ?_
          refine SJ.q (YldS.yld (y_move rfl)) rfl ?_
          obtain ⟨r35, h36, hm⟩ := bindS hm
          refine SJ.call1 (k := 1) rfl Try.call54 rfl (fun w S hw hA hO => ok_s_l00Src_pick h36 w S _ (hr4.st1 hw hO) hA) rfl ?_
          rintro _ _ ⟨rfl, rfl⟩
          refine SJ.q (YldS.yld (y_bin rfl rfl rfl)) rfl ?_
          obtain ⟨r37, h38, hm⟩ := bindS hm
          refine SJ.q (y_call Try.call74 rfl (RetG.quiet fun w hw => ok_s_l00Max h38 w )) rfl ?_
          refine SJ.q (YldS.yld (y_assign rfl)) rfl ?_
          refine SJ.nil ?_
          refine PJ.block_normal (PJ.next ?_)
          refine WJ.quiet ?_
          refine QJ.step (YldS.yld (y_move rfl)) rfl ?_
          refine QJ.step (YldS.yld (y_bin rfl rfl rfl)) rfl ?_
          refine QJ.step (YldS.yld (y_assign rfl)) rfl ?_
          refine QJ.done ?_
          exact PJ.round (r35.2.at_, r35.2.seed, l32, v34, r37, w64 (k29 - 1)) [0, 2] hm ⟨rfl, rfl, rfl, rfl, rfl, trivial⟩ ⟨by decide, rfl⟩
        · replace hm := ifF hm hb30
          refine WJ.exit ?_
          refine PJ.then_exit (PJ.then_exit (PJ.block_exit ?_))
          exact PJ.joined (x24, x25, l26, v27) [0, 1] hm ⟨rfl, rfl, rfl, trivial⟩ ⟨by decide, rfl⟩
    · rintro ⟨x18, x19, l20, v21⟩ hm
      subst hk23
      obtain ⟨kj42, hk43, hm⟩ := withK_open hm
      refine WJ.join (X := Int × Int × (List Int)) (fun (x : Int × Int × (List Int)) => kj42 x.1 x.2.1 x.2.2 = some r) (fun (x : Int × Int × (List Int)) => [(3, v21)]) (fun (x : Int × Int × (List Int)) => [box g2 97 [v3, .int .i64 x.1, .int .u64 x.2.1], row v21 2 fI64 x.2.2]) ?_ ?_
      · clear hk43
        refine WJ.seq ?_
        refine WJ.reg ?_
        refine SJ.q (YldS.yld (y_move rfl)) rfl ?_
        refine SJ.q (YldS.yld (y_bin rfl rfl rfl)) rfl ?_
        refine SJ.q (YldS.yld (y_move rfl)) rfl ?_
        obtain ⟨x46, h45, hm⟩ := bindS hm
        refine SJ.cut 3 [(0, pt g2 0), (3, v21), (34, .bool x46.1)] [box g2 97 [v3, .int .i64 x46.2.at_, .int .u64 x46.2.seed], row v21 2 fI64 l20] ?_ ?_
        · rcases Bool.eq_false_or_eq_true (decide (n10 > 0)) with hb47 | hb47
          · replace h45 := ifT h45 hb47
            refine SJ.on rfl rfl (cB hb47) (SJ.q (YldS.yld (y_move rfl)) rfl ?_)
            obtain ⟨r48, h49, h45⟩ := bindS h45
            refine SJ.on rfl rfl (cB hb47) (SJ.call1 (k := 0) rfl Try.call71 rfl (fun w S hw hA hO => ok_s_l00Src_one h49 w S _ (hr4.st1 hw hO) hA) rfl ?_)
            rintro _ _ ⟨rfl, rfl⟩
            refine SJ.q (YldS.yld (y_pick_t (cB hb47) rfl)) rfl ?_
            obtain rfl := Option.some.inj h45
            exact SJ.cut_end [0, 1] ⟨rfl, rfl, rfl, trivial⟩ ⟨by decide, rfl⟩
          · replace h45 := ifF h45 hb47
            obtain rfl := Option.some.inj h45
            refine SJ.off rfl rfl (cB hb47) rfl rfl ?_
            refine SJ.off rfl rfl (cB hb47) rfl rfl ?_
            refine SJ.q (YldS.yld (y_pick_f (cB hb47) rfl)) rfl ?_
            exact SJ.cut_end [0, 1] ⟨rfl, rfl, rfl, trivial⟩ ⟨by decide, rfl⟩
        refine SJ.nil ?_
        refine PJ.next ?_
        refine WJ.cond (t := x46.1) rfl (fun hb50 => ?_) (fun hb50 => ?_)
        · replace hm := ifT hm hb50
          refine WJ.reg ?_
          refine SJ.q (YldS.yld (y_move rfl)) rfl ?_
          refine SJ.q (YldS.yld (y_move rfl)) rfl ?_
          refine SJ.buildSlice (R := fI64) (os := [.const (.int .i64 (-1)), .const (.int .i64 0), .const (.int .i64 100000), .const (.int .i64 100001)]) [(-1), 0, 100000, 100001] Try.runUnderlying42 Try.sizeOf2 Try.zeroValue2 rfl rfl rfl rfl rfl rfl fun v51 => ?_
          obtain ⟨r52, h53, hm⟩ := bindS hm
          refine SJ.call2 (k := 1) rfl Try.call73 rfl (fun w S hw hA hO hB => ok_s_l00Src_among h53 w S _ (hr4.st1 hw hO) _ (hB.row_rd (j := 0) (k := 1) rfl rfl) hA) rfl ?_
          rintro _ _ ⟨rfl, rfl⟩
          obtain ⟨e54, h55, hm⟩ := bindS hm
          refine SJ.q (YldS.yld (y_ixRow (k := 2) (R := fI64) rfl Try.runUnderlying42 Try.sizeOf2 rfl rfl h55)) rfl ?_
          refine SJ.storeRL (k := 2) (i := (Int.toNat 0)) (off := 0) (us := [.int .i64 r52.1]) (b := r52.1) rfl rfl (idx_get h55) rfl rfl Try.sizeOf2 rfl rfl rfl ?_
          refine SJ.nil ?_
          exact PJ.joined (r52.2.at_, r52.2.seed, (List.set l20 (Int.toNat 0) r52.1)) [0, 2] hm ⟨rfl, trivial⟩ ⟨by decide, rfl⟩
        · replace hm := ifF hm hb50
          refine WJ.skip ?_
          exact PJ.joined (x46.2.at_, x46.2.seed, l20) [0, 1] hm ⟨rfl, trivial⟩ ⟨by decide, rfl⟩
      · rintro ⟨x39, x40, l41⟩ hm
        subst hk43
        refine WJ.seq ?_
        refine WJ.quiet ?_
        refine QJ.step (YldS.yld (y_move rfl)) rfl ?_
        refine QJ.step (YldS.yld (y_assign rfl)) rfl ?_
        refine QJ.done ?_
        refine PJ.next ?_
        refine WJ.ret ?_
        obtain rfl := Option.some.inj hm
        refine PJ.sel (L' := [box g2 97 [v3, .int .i64 x39, .int .u64 x40], row v21 2 fI64 l41]) [0, 1] ⟨by decide, rfl⟩ ?_
        exact PJ.retn (vs := [v21]) Try.results49 ⟨rfl, trivial⟩ ⟨_, rfl, rfl⟩

set_option maxRecDepth 100000 in
set_option maxHeartbeats 1000000 in
theorem ok_s_DrawPointsFor {N : Nat} {code1 : List UInt8} {r : (List Result) × (List Int)} (hm : s_DrawPointsFor N code1 = some r) (w : World) (v2 : Value) (hr3 : RdS w (cx w).Fz v2 fByte.rp code1) :
    Calls Try.prog 36 #[v2] w (RetG (cx w) fun u L => ∃ (u1 : Value) (u2 : Value), (u = tup [u1, u2] ∧ L = [row u1 114 fResult r.1, row u2 2 fI64 r.2])) := by
  unfold s_DrawPointsFor at hm
  refine Calls.enter [v2] Try.func36 rfl Try.ntmps36 rfl ?_
  refine WJ.seq ?_
  refine WJ.quiet ?_
  refine QJ.step (YldS.yld (y_assign rfl)) rfl ?_
  refine QJ.step (YldS.yld (y_assign rfl)) rfl ?_
  refine QJ.done ?_
  refine PJ.next ?_
  refine WJ.seq ?_
  refine WJ.reg ?_
  refine SJ.q (YldS.yld (y_move rfl)) rfl ?_
  obtain ⟨r4, h5, hm⟩ := bindS hm
  refine SJ.call Try.call24 rfl (fun w hw => ok_s_l00From h5 w _ (hr3.st hw)) rfl ?_
  rintro _ _ ⟨g6, rfl, rfl⟩
  refine SJ.q (YldS.yld (y_assign rfl)) rfl ?_
  refine SJ.nil ?_
  refine PJ.next ?_
  refine WJ.seq ?_
  refine WJ.reg ?_
  refine SJ.q (YldS.yld (y_move rfl)) rfl ?_
  obtain ⟨r7, h8, hm⟩ := bindS hm
  refine SJ.call1 (k := 0) rfl Try.call47 rfl (fun w S hw hA hO => ok_s_l22Bent h8 w S _ (hr3.st1 hw hO) hA) rfl ?_
  rintro v9 _ ⟨_, rfl, rfl⟩
  refine SJ.q (YldS.yld (y_assign rfl)) rfl ?_
  refine SJ.nil ?_
  refine PJ.next ?_
  refine WJ.seq ?_
  refine WJ.reg ?_
  refine SJ.q (YldS.yld (y_move rfl)) rfl ?_
  refine SJ.q (YldS.yld (y_move rfl)) rfl ?_
  obtain ⟨r10, h11, hm⟩ := bindS hm
  refine SJ.call1 (k := 0) rfl Try.call49 rfl (fun w S hw hA hO => ok_s_l22DrawTable h11 w S _ (hr3.st1 hw hO) hA) rfl ?_
  rintro v12 _ ⟨_, rfl, rfl⟩
  refine SJ.q (YldS.yld (y_assign rfl)) rfl ?_
  refine SJ.q (YldS.yld (y_assign rfl)) rfl ?_
  refine SJ.nil ?_
  refine PJ.next ?_
  refine WJ.ret ?_
  obtain rfl := Option.some.inj hm
  refine PJ.sel (L' := [row v9 114 fResult r7.1, row v12 2 fI64 r10.1]) [2, 1] ⟨by decide, rfl⟩ ?_
  exact PJ.retn (vs := [v9, v12]) Try.results36 ⟨rfl, rfl, trivial⟩ ⟨_, _, rfl, rfl⟩

set_option maxRecDepth 100000 in
set_option maxHeartbeats 1000000 in
theorem ok_s_DrawPrizesFor {N : Nat} {code1 : List UInt8} {r : (List Result) × (List Int)} (hm : s_DrawPrizesFor N code1 = some r) (w : World) (v2 : Value) (hr3 : RdS w (cx w).Fz v2 fByte.rp code1) :
    Calls Try.prog 13 #[v2] w (RetG (cx w) fun u L => ∃ (u1 : Value) (u2 : Value), (u = tup [u1, u2] ∧ L = [row u1 114 fResult r.1, row u2 2 fI64 r.2])) := by
  unfold s_DrawPrizesFor at hm
  refine Calls.enter [v2] Try.func13 rfl Try.ntmps13 rfl ?_
  refine WJ.seq ?_
  refine WJ.quiet ?_
  refine QJ.step (YldS.yld (y_assign rfl)) rfl ?_
  refine QJ.step (YldS.yld (y_assign rfl)) rfl ?_
  refine QJ.done ?_
  refine PJ.next ?_
  refine WJ.seq ?_
  refine WJ.reg ?_
  refine SJ.q (YldS.yld (y_move rfl)) rfl ?_
  obtain ⟨r4, h5, hm⟩ := bindS hm
  refine SJ.call Try.call36 rfl (fun w hw => ok_s_DrawPointsFor h5 w _ (hr3.st hw)) rfl ?_
  rintro _ _ ⟨v6, v7, rfl, rfl⟩
  refine SJ.q (YldS.yld (y_extract rfl rfl)) rfl ?_
  refine SJ.q (YldS.yld (y_extract rfl rfl)) rfl ?_
  refine SJ.q (YldS.yld (y_assign rfl)) rfl ?_
  refine SJ.q (YldS.yld (y_assign rfl)) rfl ?_
  refine SJ.nil ?_
  refine PJ.next ?_
  refine WJ.ret ?_
  obtain rfl := Option.some.inj hm
  refine PJ.sel (L' := [row v6 114 fResult r4.1, row v7 2 fI64 r4.2]) [0, 1] ⟨by decide, rfl⟩ ?_
  exact PJ.retn (vs := [v6, v7]) Try.results13 ⟨rfl, rfl, trivial⟩ ⟨_, _, rfl, rfl⟩

set_option maxRecDepth 100000 in
set_option maxHeartbeats 1000000 in
theorem ok_i_isDigit {b1 : UInt8} {r : Bool} (hm : i_isDigit b1 = some r) (w : World)  :
    Calls Try.prog 98 #[.int .u8 (UInt8.toNat b1 : Int)] w (Ret (cx w) (.bool r)) := by
  unfold i_isDigit at hm
  refine Calls.enter [.int .u8 (UInt8.toNat b1 : Int)] Try.func98 rfl Try.ntmps98 rfl ?_
  refine WJ.seq ?_
  refine WJ.quiet ?_
  refine QJ.step (YldS.yld (y_assign rfl)) rfl ?_
  refine QJ.done ?_
  refine PJ.next ?_
  refine WJ.seq ?_
  refine WJ.quiet ?_
  refine QJ.step (YldS.yld (y_move rfl)) rfl ?_
  refine QJ.step (YldS.yld (y_bin8 b1 (48 : UInt8) rfl rfl rfl)) rfl ?_
  refine QJ.step (YldS.yld (y_move rfl)) rfl ?_
  obtain ⟨t2, h3, hm⟩ := bindS hm
  refine QJ.cut 3 [(8, .bool t2)] ?_ ?_
  · rcases Bool.eq_false_or_eq_true (decide (b1 ≥ (48 : UInt8))) with hb4 | hb4
    · replace h3 := andT h3 hb4
      refine QJ.on rfl rfl (cB hb4) (YldS.yld (y_move rfl)) rfl ?_
      refine QJ.on rfl rfl (cB hb4) (YldS.yld (y_bin8 b1 (57 : UInt8) rfl rfl rfl)) rfl ?_
      refine QJ.step (YldS.yld (y_pick_t (cB hb4) rfl)) rfl ?_
      obtain rfl := Option.some.inj h3
      exact QJ.cut_end ⟨rfl, trivial⟩
    · obtain rfl := andF h3 hb4
      refine QJ.off rfl rfl (cB hb4) rfl rfl ?_
      refine QJ.off rfl rfl (cB hb4) rfl rfl ?_
      refine QJ.step (YldS.yld (y_pick_f (cB hb4) rfl)) rfl ?_
      exact QJ.cut_end ⟨rfl, trivial⟩
  refine QJ.step (YldS.yld (y_assign rfl)) rfl ?_
  refine QJ.done ?_
  refine PJ.next ?_
  refine WJ.ret ?_
  obtain rfl := Option.some.inj hm
  refine PJ.sel (L' := []) [] ⟨List.nodup_nil, rfl⟩ ?_
  exact PJ.retn (vs := [.bool t2]) Try.results98 ⟨rfl, trivial⟩ ⟨rfl, rfl⟩

set_option maxRecDepth 100000 in
set_option maxHeartbeats 1000000 in
theorem ok_i_IsName {N : Nat} {s1 : Str} {r : Bool} (hm : i_IsName N s1 = some r) (w : World)  :
    Calls Try.prog 61 #[str s1] w (Ret (cx w) (.bool r)) := by
  unfold i_IsName at hm
  refine Calls.enter [str s1] Try.func61 rfl Try.ntmps61 rfl ?_
  refine WJ.seq ?_
  refine WJ.quiet ?_
  refine QJ.step (YldS.yld (y_assign rfl)) rfl ?_
  refine QJ.done ?_
  refine PJ.next ?_
  refine WJ.seq ?_
  refine WJ.seq ?_
  refine WJ.quiet ?_
  refine QJ.step (YldS.yld (y_move rfl)) rfl ?_
  refine QJ.step (YldS.yld (y_lenStr Try.runUnderlying9 rfl)) rfl ?_
  refine QJ.step (YldS.yld (y_bin rfl rfl rfl)) rfl ?_
  refine QJ.step (YldS.yld (y_move rfl)) rfl ?_
  obtain ⟨t2, h3, hm⟩ := bindS hm
  refine QJ.cut 4 [(0, str s1), (12, .bool t2)] ?_ ?_
  · rcases Bool.eq_false_or_eq_true ((List.length s1 : Int) == 0) with hb4 | hb4
    · obtain rfl := orT h3 hb4
      refine QJ.off rfl rfl (cB hb4) rfl rfl ?_
      refine QJ.off rfl rfl (cB hb4) rfl rfl ?_
      refine QJ.off rfl rfl (cB hb4) rfl rfl ?_
      refine QJ.step (YldS.yld (y_pick_t (cB hb4) rfl)) rfl ?_
      exact QJ.cut_end ⟨rfl, rfl, trivial⟩
    · replace h3 := orF h3 hb4
      refine QJ.on rfl rfl (cB hb4) (YldS.yld (y_move rfl)) rfl ?_
      refine QJ.on rfl rfl (cB hb4) (YldS.yld (y_lenStr Try.runUnderlying9 rfl)) rfl ?_
      refine QJ.on rfl rfl (cB hb4) (YldS.yld (y_bin rfl rfl rfl)) rfl ?_
      refine QJ.step (YldS.yld (y_pick_f (cB hb4) rfl)) rfl ?_
      obtain rfl := Option.some.inj h3
      exact QJ.cut_end ⟨rfl, rfl, trivial⟩
  refine QJ.done ?_
  refine PJ.next ?_
  refine WJ.cond (t := t2) rfl (fun hb5 => ?_) (fun hb5 => ?_)
  · replace hm := ifT hm hb5
    refine WJ.seq ?_
    refine WJ.quiet ?_
    refine QJ.step (YldS.yld (y_assign rfl)) rfl ?_
    refine QJ.done ?_
    refine PJ.next ?_
    refine WJ.ret ?_
    refine PJ.then_ret ?_
    obtain rfl := Option.some.inj hm
    refine PJ.sel (L' := []) [] ⟨List.nodup_nil, rfl⟩ ?_
    exact PJ.retn (vs := [.bool false]) Try.results61 ⟨rfl, trivial⟩ ⟨rfl, rfl⟩
  · replace hm := ifF hm hb5
    refine WJ.skip ?_
    refine PJ.next ?_
    obtain ⟨kj6, hk7, hm⟩ := withK_open hm
    refine WJ.join (X := Unit) (fun (_ : Unit) => kj6  = some r) (fun (_ : Unit) => []) (fun (_ : Unit) => []) ?_ ?_
    · clear hk7
      refine WJ.seq ?_
      refine WJ.quiet ?_
      refine QJ.step (YldS.yld (y_move rfl)) rfl ?_
      refine QJ.step (YldS.yld (y_lenStr Try.runUnderlying9 rfl)) rfl ?_
      refine QJ.step (YldS.yld (y_move rfl)) rfl ?_
      refine QJ.done ?_
      refine PJ.next ?_
      refine WJ.block ?_
      refine WJ.sel (L' := (fun (x : Int) => []) 0) [] ⟨List.nodup_nil, rfl⟩ ?_
      refine WJ.sub (m' := (fun (x : Int) => [(0, str s1), (14, .int .i64 (List.length s1 : Int)), (15, .int .i64 x)]) 0) ⟨rfl, rfl, rfl, trivial⟩ ?_
      refine WJ.loop (X := Int) (fun N (x : Int) => i_IsName_l1 kj6 s1 N x = some r) (fun (x : Int) => [(0, str s1), (14, .int .i64 (List.length s1 : Int)), (15, .int .i64 x)]) (fun (x : Int) => []) ?_ N 0 hm
      · rintro N x8 hI
        have hm := hI; clear hI
        cases N with
        | zero => cases hm
        | succ N =>
        unfold i_IsName_l1 at hm
        refine WJ.seq ?_
        refine WJ.quiet ?_
        refine QJ.step (YldS.yld (y_bin rfl rfl rfl)) rfl ?_
        refine QJ.done ?_
        refine PJ.next ?_
        refine WJ.seq ?_
        refine WJ.cond (t := decide (x8 < (List.length s1 : Int))) rfl (fun hb9 => ?_) (fun hb9 => ?_)
        · replace hm := ifT hm hb9
          refine WJ.skip ?_
          refine PJ.next ?_
          refine WJ.seq ?_
          refine WJ.block ?_
          refine WJ.seq ?_
          refine WJ.quiet ?_
          refine QJ.step (YldS.yld (y_move rfl)) rfl ?_
          refine QJ.step (YldS.yld (y_assign rfl)) rfl ?_
          refine QJ.done ?_
          refine PJ.next ?_
          refine WJ.seq ?_
          refine WJ.quiet ?_
          refine QJ.step (YldS.yld (y_move rfl)) rfl ?_
          refine QJ.step (YldS.yld (y_move rfl)) rfl ?_
          obtain ⟨c10, h11, hm⟩ := bindS hm
          refine QJ.step (YldS.yld (y_idxStr Try.runUnderlying9 rfl rfl h11)) rfl ?_
          refine QJ.step (YldS.yld (y_bin8 c10 (97 : UInt8) rfl rfl rfl)) rfl ?_
          refine QJ.step (YldS.yld (y_move rfl)) rfl ?_
          obtain ⟨t12, h13, hm⟩ := bindS hm
          refine QJ.cut 5 [(0, str s1), (3, .int .i64 x8), (14, .int .i64 (List.length s1 : Int)), (15, .int .i64 x8), (27, .bool t12)] ?_ ?_
          · rcases Bool.eq_false_or_eq_true (decide (c10 ≥ (97 : UInt8))) with hb14 | hb14
            · replace h13 := andT h13 hb14
              refine QJ.on rfl rfl (cB hb14) (YldS.yld (y_move rfl)) rfl ?_
              refine QJ.on rfl rfl (cB hb14) (YldS.yld (y_move rfl)) rfl ?_
              obtain ⟨c15, h16, h13⟩ := bindS h13
              refine QJ.on rfl rfl (cB hb14) (YldS.yld (y_idxStr Try.runUnderlying9 rfl rfl h16)) rfl ?_
              refine QJ.on rfl rfl (cB hb14) (YldS.yld (y_bin8 c15 (122 : UInt8) rfl rfl rfl)) rfl ?_
              refine QJ.step (YldS.yld (y_pick_t (cB hb14) rfl)) rfl ?_
              obtain rfl := Option.some.inj h13
              exact QJ.cut_end ⟨rfl, rfl, rfl, rfl, rfl, trivial⟩
            · obtain rfl := andF h13 hb14
              refine QJ.off rfl rfl (cB hb14) rfl rfl ?_
              refine QJ.off rfl rfl (cB hb14) rfl rfl ?_
              refine QJ.off rfl rfl (cB hb14) rfl rfl ?_
              refine QJ.off rfl rfl (cB hb14) rfl rfl ?_
              refine QJ.step (YldS.yld (y_pick_f (cB hb14) rfl)) rfl ?_
              exact QJ.cut_end ⟨rfl, rfl, rfl, rfl, rfl, trivial⟩
          refine QJ.step (YldS.yld (y_assign rfl)) rfl ?_
          refine QJ.done ?_
          refine PJ.next ?_
          refine WJ.seq ?_
          refine WJ.quiet ?_
          refine QJ.step (YldS.yld (y_move rfl)) rfl ?_
          refine QJ.step (YldS.yld (y_not rfl)) rfl ?_
          refine QJ.step (YldS.yld (y_move rfl)) rfl ?_
          obtain ⟨t17, h18, hm⟩ := bindS hm
          refine QJ.cut 16 [(0, str s1), (14, .int .i64 (List.length s1 : Int)), (15, .int .i64 x8), (46, .bool t17)] ?_ ?_
          · rcases Bool.eq_false_or_eq_true (!t12) with hb19 | hb19
            · replace h18 := andT h18 hb19
              refine QJ.on rfl rfl (cB hb19) (YldS.yld (y_move rfl)) rfl ?_
              refine QJ.on rfl rfl (cB hb19) (YldS.yld (y_bin rfl rfl rfl)) rfl ?_
              refine QJ.on rfl rfl (cB hb19) (YldS.yld (y_move rfl)) rfl ?_
              obtain ⟨t20, h21, h18⟩ := bindS h18
              refine QJ.cut 12 [(0, str s1), (14, .int .i64 (List.length s1 : Int)), (15, .int .i64 x8), (30, .bool (!t12)), (45, .bool t20)] ?_ ?_
              · rcases Bool.eq_false_or_eq_true (x8 == 0) with hb22 | hb22
                · obtain rfl := orT h21 hb22
                  refine QJ.off rfl rfl (cB hb22) rfl rfl ?_
                  refine QJ.off rfl rfl (cB hb22) rfl rfl ?_
                  refine QJ.off rfl rfl (cB hb22) rfl rfl ?_
                  refine QJ.off rfl rfl (cB hb22) rfl rfl ?_
                  refine QJ.off rfl rfl (cB hb22) rfl rfl ?_
                  refine QJ.off_undef rfl rfl rfl rfl ?_
                  refine QJ.off_undef rfl rfl rfl rfl ?_
                  refine QJ.off_undef rfl rfl rfl rfl ?_
                  refine QJ.off_undef rfl rfl rfl rfl ?_
                  refine QJ.off_undef rfl rfl rfl rfl ?_
                  refine QJ.off rfl rfl (cB hb22) rfl rfl ?_
                  refine QJ.on rfl rfl (cB hb19) (YldS.yld (y_pick_t (cB hb22) rfl)) rfl ?_
                  exact QJ.cut_end ⟨rfl, rfl, rfl, rfl, rfl, trivial⟩
                · replace h21 := orF h21 hb22
                  refine QJ.on rfl rfl (cB hb22) (YldS.yld (y_move rfl)) rfl ?_
                  refine QJ.on rfl rfl (cB hb22) (YldS.yld (y_move rfl)) rfl ?_
                  obtain ⟨c23, h24, h21⟩ := bindS h21
                  refine QJ.on rfl rfl (cB hb22) (YldS.yld (y_idxStr Try.runUnderlying9 rfl rfl h24)) rfl ?_
                  refine QJ.on rfl rfl (cB hb22) (YldS.yld (y_bin8 c23 (45 : UInt8) rfl rfl rfl)) rfl ?_
                  refine QJ.on rfl rfl (cB hb22) (YldS.yld (y_move rfl)) rfl ?_
                  obtain ⟨t25, h26, h21⟩ := bindS h21
                  refine QJ.cut 6 [(0, str s1), (14, .int .i64 (List.length s1 : Int)), (15, .int .i64 x8), (30, .bool (!t12)), (33, .bool (x8 == 0)), (44, .bool t25)] ?_ ?_
                  · rcases Bool.eq_false_or_eq_true (c23 != (45 : UInt8)) with hb27 | hb27
                    · replace h26 := andT h26 hb27
                      refine QJ.on rfl rfl (cB hb27) (YldS.yld (y_move rfl)) rfl ?_
                      refine QJ.on rfl rfl (cB hb27) (YldS.yld (y_move rfl)) rfl ?_
                      obtain ⟨c28, h29, h26⟩ := bindS h26
                      refine QJ.on rfl rfl (cB hb27) (YldS.yld (y_idxStr Try.runUnderlying9 rfl rfl h29)) rfl ?_
                      obtain ⟨r30, h31, h26⟩ := bindS h26
                      refine QJ.on rfl rfl (cB hb27) (y_call Try.call98 rfl (RetG.quiet fun w hw => ok_i_isDigit h31 w )) rfl ?_
                      refine QJ.on rfl rfl (cB hb27) (YldS.yld (y_not rfl)) rfl ?_
                      refine QJ.on rfl rfl (cB hb22) (YldS.yld (y_pick_t (cB hb27) rfl)) rfl ?_
                      obtain rfl := Option.some.inj h26
                      exact QJ.cut_end ⟨rfl, rfl, rfl, rfl, rfl, rfl, trivial⟩
                    · obtain rfl := andF h26 hb27
                      refine QJ.off rfl rfl (cB hb27) rfl rfl ?_
                      refine QJ.off rfl rfl (cB hb27) rfl rfl ?_
                      refine QJ.off rfl rfl (cB hb27) rfl rfl ?_
                      refine QJ.off rfl rfl (cB hb27) rfl rfl ?_
                      refine QJ.off rfl rfl (cB hb27) rfl rfl ?_
                      refine QJ.on rfl rfl (cB hb22) (YldS.yld (y_pick_f (cB hb27) rfl)) rfl ?_
                      exact QJ.cut_end ⟨rfl, rfl, rfl, rfl, rfl, rfl, trivial⟩
                  refine QJ.on rfl rfl (cB hb19) (YldS.yld (y_pick_f (cB hb22) rfl)) rfl ?_
                  obtain rfl := Option.some.inj h21
                  exact QJ.cut_end ⟨rfl, rfl, rfl, rfl, rfl, trivial⟩
              refine QJ.step (YldS.yld (y_pick_t (cB hb19) rfl)) rfl ?_
              obtain rfl := Option.some.inj h18
              exact QJ.cut_end ⟨rfl, rfl, rfl, rfl, trivial⟩
            · obtain rfl := andF h18 hb19
              refine QJ.off rfl rfl (cB hb19) rfl rfl ?_
              refine QJ.off rfl rfl (cB hb19) rfl rfl ?_
              refine QJ.off rfl rfl (cB hb19) rfl rfl ?_
              refine QJ.off_undef rfl rfl rfl rfl ?_
              refine QJ.off_undef rfl rfl rfl rfl ?_
              refine QJ.off_undef rfl rfl rfl rfl ?_
              refine QJ.off_undef rfl rfl rfl rfl ?_
              refine QJ.off_undef rfl rfl rfl rfl ?_
              refine QJ.off_undef rfl rfl rfl rfl ?_
              refine QJ.off_undef rfl rfl rfl rfl ?_
              refine QJ.off_undef rfl rfl rfl rfl ?_
              refine QJ.off_undef rfl rfl rfl rfl ?_
              refine QJ.off_undef rfl rfl rfl rfl ?_
              refine QJ.off_undef rfl rfl rfl rfl ?_
              refine QJ.off rfl rfl (cB hb19) rfl rfl ?_
              refine QJ.step (YldS.yld (y_pick_f (cB hb19) rfl)) rfl ?_
              exact QJ.cut_end ⟨rfl, rfl, rfl, rfl, trivial⟩
          refine QJ.done ?_
          refine PJ.next ?_
          refine WJ.cond (t := t17) rfl (fun hb32 => ?_) (fun hb32 => ?_)
          · replace hm := ifT hm hb32
            refine WJ.seq ?_
            refine WJ.quiet ?_
            refine QJ.step (YldS.yld (y_assign rfl)) rfl ?_
            refine QJ.done ?_
            refine PJ.next ?_
            refine WJ.ret ?_
            refine PJ.block_ret (PJ.then_ret (PJ.then_ret (PJ.block_ret (PJ.then_ret ?_))))
            obtain rfl := Option.some.inj hm
            refine PJ.sel (L' := []) [] ⟨List.nodup_nil, rfl⟩ ?_
            exact PJ.retn (vs := [.bool false]) Try.results61 ⟨rfl, trivial⟩ ⟨rfl, rfl⟩
          · replace hm := ifF hm hb32
            refine WJ.skip ?_
            refine PJ.block_normal (PJ.next ?_)
            refine WJ.quiet ?_
            refine QJ.step (YldS.yld (y_bin rfl rfl rfl)) rfl ?_
            refine QJ.step (YldS.yld (y_move rfl)) rfl ?_
            refine QJ.done ?_
            exact PJ.round (w64 (x8 + 1)) [] hm ⟨rfl, rfl, rfl, trivial⟩ ⟨List.nodup_nil, rfl⟩
        · replace hm := ifF hm hb9
          refine WJ.exit ?_
          refine PJ.then_exit (PJ.then_exit (PJ.block_exit ?_))
          exact PJ.joined () [] hm trivial ⟨List.nodup_nil, rfl⟩
    · rintro _ hm
      subst hk7
      refine WJ.seq ?_
      refine WJ.quiet ?_
      refine QJ.step (YldS.yld (y_assign rfl)) rfl ?_
      refine QJ.done ?_
      refine PJ.next ?_
      refine WJ.ret ?_
      obtain rfl := Option.some.inj hm
      refine PJ.sel (L' := []) [] ⟨List.nodup_nil, rfl⟩ ?_
      exact PJ.retn (vs := [.bool true]) Try.results61 ⟨rfl, trivial⟩ ⟨rfl, rfl⟩

set_option maxRecDepth 100000 in
set_option maxHeartbeats 1000000 in
theorem ok_i_between {n1 : Int} {low2 : Int} {high3 : Int} {r : Bool} (hm : i_between n1 low2 high3 = some r) (w : World)  :
    Calls Try.prog 62 #[.int .i64 n1, .int .i64 low2, .int .i64 high3] w (Ret (cx w) (.bool r)) := by
  unfold i_between at hm
  refine Calls.enter [.int .i64 n1, .int .i64 low2, .int .i64 high3] Try.func62 rfl Try.ntmps62 rfl ?_
  refine WJ.seq ?_
  refine WJ.quiet ?_
  refine QJ.step (YldS.yld (y_assign rfl)) rfl ?_
  refine QJ.done ?_
  refine PJ.next ?_
  refine WJ.seq ?_
  refine WJ.quiet ?_
  refine QJ.step (YldS.yld (y_move rfl)) rfl ?_
  refine QJ.step (YldS.yld (y_move rfl)) rfl ?_
  refine QJ.step (YldS.yld (y_bin rfl rfl rfl)) rfl ?_
  refine QJ.step (YldS.yld (y_move rfl)) rfl ?_
  obtain ⟨t4, h5, hm⟩ := bindS hm
  refine QJ.cut 4 [(14, .bool t4)] ?_ ?_
  · rcases Bool.eq_false_or_eq_true (decide (n1 ≥ low2)) with hb6 | hb6
    · replace h5 := andT h5 hb6
      refine QJ.on rfl rfl (cB hb6) (YldS.yld (y_move rfl)) rfl ?_
      refine QJ.on rfl rfl (cB hb6) (YldS.yld (y_move rfl)) rfl ?_
      refine QJ.on rfl rfl (cB hb6) (YldS.yld (y_bin rfl rfl rfl)) rfl ?_
      refine QJ.step (YldS.yld (y_pick_t (cB hb6) rfl)) rfl ?_
      obtain rfl := Option.some.inj h5
      exact QJ.cut_end ⟨rfl, trivial⟩
    · obtain rfl := andF h5 hb6
      refine QJ.off rfl rfl (cB hb6) rfl rfl ?_
      refine QJ.off rfl rfl (cB hb6) rfl rfl ?_
      refine QJ.off rfl rfl (cB hb6) rfl rfl ?_
      refine QJ.step (YldS.yld (y_pick_f (cB hb6) rfl)) rfl ?_
      exact QJ.cut_end ⟨rfl, trivial⟩
  refine QJ.step (YldS.yld (y_assign rfl)) rfl ?_
  refine QJ.done ?_
  refine PJ.next ?_
  refine WJ.ret ?_
  obtain rfl := Option.some.inj hm
  refine PJ.sel (L' := []) [] ⟨List.nodup_nil, rfl⟩ ?_
  exact PJ.retn (vs := [.bool t4]) Try.results62 ⟨rfl, trivial⟩ ⟨rfl, rfl⟩

set_option maxRecDepth 100000 in
set_option maxHeartbeats 1000000 in
theorem ok_i_ValidResults {N : Nat} {list1 : List Result} {r : Bool} (hm : i_ValidResults N list1 = some r) (w : World) (v2 : Value) (hr3 : RdS w (cx w).Fz v2 fResult.rp list1) :
    Calls Try.prog 37 #[v2] w (Ret (cx w) (.bool r)) := by
  unfold i_ValidResults at hm
  refine Calls.enter [v2] Try.func37 rfl Try.ntmps37 rfl ?_
  refine WJ.seq ?_
  refine WJ.quiet ?_
  refine QJ.step (YldS.yld (y_assign rfl)) rfl ?_
  refine QJ.done ?_
  refine PJ.next ?_
  refine WJ.seq ?_
  refine WJ.reg ?_
  refine SJ.makeMap rfl fun g4 => ?_
  refine SJ.q (YldS.yld (y_assign rfl)) rfl ?_
  refine SJ.nil ?_
  refine PJ.next ?_
  obtain ⟨kj5, hk6, hm⟩ := withK_open hm
  refine WJ.join (X := Unit) (fun (_ : Unit) => kj5  = some r) (fun (_ : Unit) => [(0, v2)]) (fun (_ : Unit) => []) ?_ ?_
  · clear hk6
    refine WJ.seq ?_
    refine WJ.quiet ?_
    refine QJ.step (YldS.yld (y_move rfl)) rfl ?_
    refine QJ.step (YldS.yld (y_lenS Try.runUnderlying41 hr3 rfl)) rfl ?_
    refine QJ.step (YldS.yld (y_move rfl)) rfl ?_
    refine QJ.done ?_
    refine PJ.next ?_
    refine WJ.block ?_
    refine WJ.sel (L' := (fun (x : (List (Str × Bool)) × Int) => [mp g4 x.1]) ([], 0)) [0] ⟨by decide, rfl⟩ ?_
    refine WJ.sub (m' := (fun (x : (List (Str × Bool)) × Int) => [(0, v2), (3, .map (some g4)), (7, v2), (8, .int .i64 (List.length list1 : Int)), (9, .int .i64 x.2)]) ([], 0)) ⟨rfl, rfl, rfl, rfl, rfl, trivial⟩ ?_
    refine WJ.loop (X := (List (Str × Bool)) × Int) (fun N (x : (List (Str × Bool)) × Int) => i_ValidResults_l1 kj5 list1 N x.1 x.2 = some r) (fun (x : (List (Str × Bool)) × Int) => [(0, v2), (3, .map (some g4)), (7, v2), (8, .int .i64 (List.length list1 : Int)), (9, .int .i64 x.2)]) (fun (x : (List (Str × Bool)) × Int) => [mp g4 x.1]) ?_ N ([], 0) hm
    · rintro N ⟨mp7, x8⟩ hI
      have hm := hI; clear hI
      cases N with
      | zero => cases hm
      | succ N =>
      unfold i_ValidResults_l1 at hm
      refine WJ.seq ?_
      refine WJ.quiet ?_
      refine QJ.step (YldS.yld (y_bin rfl rfl rfl)) rfl ?_
      refine QJ.done ?_
      refine PJ.next ?_
      refine WJ.seq ?_
      refine WJ.cond (t := decide (x8 < (List.length list1 : Int))) rfl (fun hb9 => ?_) (fun hb9 => ?_)
      · replace hm := ifT hm hb9
        refine WJ.skip ?_
        refine PJ.next ?_
        refine WJ.seq ?_
        refine WJ.block ?_
        refine WJ.seq ?_
        refine WJ.reg ?_
        obtain ⟨e10, h11, hm⟩ := bindS hm
        obtain ⟨ad12, _, rfl, ha13, hy14⟩ := hr3.elem h11
        refine SJ.q (YldS.yld (hy14 Try.runUnderlying41 Try.sizeOf114 rfl rfl)) rfl ?_
        refine SJ.q (YldS.yld (y_loadN Try.isAgg114 Try.sizeOf114 rfl ha13 St.frozenC rfl)) rfl ?_
        refine SJ.alloc (cs := [str [], .int .i64 0, .int .i64 0]) Try.zeroValue114 rfl rfl fun g15 => ?_
        refine SJ.storeL (k := 0) (off := 0) (us := [str e10.name, .int .i64 e10.net, .int .i64 e10.errors]) rfl rfl rfl rfl Try.sizeOf114 rfl rfl ?_
        refine SJ.nil ?_
        refine PJ.next ?_
        refine WJ.seq ?_
        refine WJ.seq ?_
        refine WJ.quiet ?_
        refine QJ.step (YldS.yld (y_fldB (o := 0) fld114_0 rfl)) rfl ?_
        refine QJ.step (YldS.yld (y_loadB (k := 0) (off := 0) (v := str e10.name) rfl Try.isAgg9 rfl rfl)) rfl ?_
        obtain ⟨r16, h17, hm⟩ := bindS hm
        refine QJ.step (y_call Try.call61 rfl (RetG.quiet fun w hw => ok_i_IsName h17 w )) rfl ?_
        refine QJ.step (YldS.yld (y_not rfl)) rfl ?_
        refine QJ.step (YldS.yld (y_move rfl)) rfl ?_
        obtain ⟨t18, h19, hm⟩ := bindS hm
        refine QJ.cut 5 [(0, v2), (3, .map (some g4)), (5, pt g15 0), (7, v2), (8, .int .i64 (List.length list1 : Int)), (9, .int .i64 x8), (22, .bool t18)] ?_ ?_
        · rcases Bool.eq_false_or_eq_true (!r16) with hb20 | hb20
          · obtain rfl := orT h19 hb20
            refine QJ.off rfl rfl (cB hb20) rfl rfl ?_
            refine QJ.off rfl rfl (cB hb20) rfl rfl ?_
            refine QJ.off rfl rfl (cB hb20) rfl rfl ?_
            refine QJ.off rfl rfl (cB hb20) rfl rfl ?_
            refine QJ.step (YldS.yld (y_pick_t (cB hb20) rfl)) rfl ?_
            exact QJ.cut_end ⟨rfl, rfl, rfl, rfl, rfl, rfl, rfl, trivial⟩
          · replace h19 := orF h19 hb20
            refine QJ.on rfl rfl (cB hb20) (YldS.yld (y_move rfl)) rfl ?_
            refine QJ.on rfl rfl (cB hb20) (YldS.yld (y_fldB (o := 0) fld114_0 rfl)) rfl ?_
            refine QJ.on rfl rfl (cB hb20) (YldS.yld (y_loadB (k := 0) (off := 0) (v := str e10.name) rfl Try.isAgg9 rfl rfl)) rfl ?_
            refine QJ.on rfl rfl (cB hb20) (YldS.yld (y_lookupSB (k := 1) rfl Try.underlying98 Try.underlying9 Try.zeroValue4 rfl rfl)) rfl ?_
            refine QJ.step (YldS.yld (y_pick_f (cB hb20) rfl)) rfl ?_
            obtain rfl := Option.some.inj h19
            exact QJ.cut_end ⟨rfl, rfl, rfl, rfl, rfl, rfl, rfl, trivial⟩
        refine QJ.step (YldS.yld (y_move rfl)) rfl ?_
        obtain ⟨t21, h22, hm⟩ := bindS hm
        refine QJ.cut 5 [(0, v2), (3, .map (some g4)), (5, pt g15 0), (7, v2), (8, .int .i64 (List.length list1 : Int)), (9, .int .i64 x8), (28, .bool t21)] ?_ ?_
        · rcases Bool.eq_false_or_eq_true t18 with hb23 | hb23
          · obtain rfl := orT h22 hb23
            refine QJ.off rfl rfl (cB hb23) rfl rfl ?_
            refine QJ.off rfl rfl (cB hb23) rfl rfl ?_
            refine QJ.off rfl rfl (cB hb23) rfl rfl ?_
            refine QJ.off rfl rfl (cB hb23) rfl rfl ?_
            refine QJ.step (YldS.yld (y_pick_t (cB hb23) rfl)) rfl ?_
            exact QJ.cut_end ⟨rfl, rfl, rfl, rfl, rfl, rfl, rfl, trivial⟩
          · replace h22 := orF h22 hb23
            refine QJ.on rfl rfl (cB hb23) (YldS.yld (y_fldB (o := 0) fld114_1 rfl)) rfl ?_
            refine QJ.on rfl rfl (cB hb23) (YldS.yld (y_loadB (k := 0) (off := 1) (v := .int .i64 e10.net) rfl Try.isAgg2 rfl rfl)) rfl ?_
            obtain ⟨r24, h25, h22⟩ := bindS h22
            refine QJ.on rfl rfl (cB hb23) (y_call Try.call62 rfl (RetG.quiet fun w hw => ok_i_between h25 w )) rfl ?_
            refine QJ.on rfl rfl (cB hb23) (YldS.yld (y_not rfl)) rfl ?_
            refine QJ.step (YldS.yld (y_pick_f (cB hb23) rfl)) rfl ?_
            obtain rfl := Option.some.inj h22
            exact QJ.cut_end ⟨rfl, rfl, rfl, rfl, rfl, rfl, rfl, trivial⟩
        refine QJ.step (YldS.yld (y_move rfl)) rfl ?_
        obtain ⟨t26, h27, hm⟩ := bindS hm
        refine QJ.cut 5 [(0, v2), (3, .map (some g4)), (5, pt g15 0), (7, v2), (8, .int .i64 (List.length list1 : Int)), (9, .int .i64 x8), (34, .bool t26)] ?_ ?_
        · rcases Bool.eq_false_or_eq_true t21 with hb28 | hb28
          · obtain rfl := orT h27 hb28
            refine QJ.off rfl rfl (cB hb28) rfl rfl ?_
            refine QJ.off rfl rfl (cB hb28) rfl rfl ?_
            refine QJ.off rfl rfl (cB hb28) rfl rfl ?_
            refine QJ.off rfl rfl (cB hb28) rfl rfl ?_
            refine QJ.step (YldS.yld (y_pick_t (cB hb28) rfl)) rfl ?_
            exact QJ.cut_end ⟨rfl, rfl, rfl, rfl, rfl, rfl, rfl, trivial⟩
          · replace h27 := orF h27 hb28
            refine QJ.on rfl rfl (cB hb28) (YldS.yld (y_fldB (o := 0) fld114_2 rfl)) rfl ?_
            refine QJ.on rfl rfl (cB hb28) (YldS.yld (y_loadB (k := 0) (off := 2) (v := .int .i64 e10.errors) rfl Try.isAgg2 rfl rfl)) rfl ?_
            obtain ⟨r29, h30, h27⟩ := bindS h27
            refine QJ.on rfl rfl (cB hb28) (y_call Try.call62 rfl (RetG.quiet fun w hw => ok_i_between h30 w )) rfl ?_
            refine QJ.on rfl rfl (cB hb28) (YldS.yld (y_not rfl)) rfl ?_
            refine QJ.step (YldS.yld (y_pick_f (cB hb28) rfl)) rfl ?_
            obtain rfl := Option.some.inj h27
            exact QJ.cut_end ⟨rfl, rfl, rfl, rfl, rfl, rfl, rfl, trivial⟩
        refine QJ.done ?_
        refine PJ.next ?_
        refine WJ.cond (t := t26) rfl (fun hb31 => ?_) (fun hb31 => ?_)
        · replace hm := ifT hm hb31
          refine WJ.seq ?_
          refine WJ.quiet ?_
          refine QJ.step (YldS.yld (y_assign rfl)) rfl ?_
          refine QJ.done ?_
          refine PJ.next ?_
          refine WJ.ret ?_
          refine PJ.then_ret (PJ.block_ret (PJ.then_ret (PJ.then_ret (PJ.block_ret (PJ.then_ret ?_)))))
          obtain rfl := Option.some.inj hm
          refine PJ.sel (L' := []) [] ⟨List.nodup_nil, rfl⟩ ?_
          exact PJ.retn (vs := [.bool false]) Try.results37 ⟨rfl, trivial⟩ ⟨rfl, rfl⟩
        · replace hm := ifF hm hb31
          refine WJ.skip ?_
          refine PJ.next ?_
          refine WJ.reg ?_
          refine SJ.q (YldS.yld (y_move rfl)) rfl ?_
          refine SJ.q (YldS.yld (y_fldB (o := 0) fld114_0 rfl)) rfl ?_
          refine SJ.q (YldS.yld (y_loadB (k := 0) (off := 0) (v := str e10.name) rfl Try.isAgg9 rfl rfl)) rfl ?_
          refine SJ.mapUpdateSB (k := 1) Try.underlying98 Try.underlying9 rfl rfl rfl rfl ?_
          refine SJ.nil ?_
          refine PJ.block_normal (PJ.next ?_)
          refine WJ.quiet ?_
          refine QJ.step (YldS.yld (y_bin rfl rfl rfl)) rfl ?_
          refine QJ.step (YldS.yld (y_move rfl)) rfl ?_
          refine QJ.done ?_
          exact PJ.round (mset mp7 e10.name true, w64 (x8 + 1)) [1] hm ⟨rfl, rfl, rfl, rfl, rfl, trivial⟩ ⟨by decide, rfl⟩
      · replace hm := ifF hm hb9
        refine WJ.exit ?_
        refine PJ.then_exit (PJ.then_exit (PJ.block_exit ?_))
        exact PJ.joined () [] hm ⟨rfl, trivial⟩ ⟨List.nodup_nil, rfl⟩
  · rintro _ hm
    subst hk6
    refine WJ.seq ?_
    refine WJ.quiet ?_
    refine QJ.step (YldS.yld (y_move rfl)) rfl ?_
    refine QJ.step (YldS.yld (y_lenS Try.runUnderlying41 hr3 rfl)) rfl ?_
    refine QJ.step (YldS.yld (y_bin rfl rfl rfl)) rfl ?_
    refine QJ.step (YldS.yld (y_assign rfl)) rfl ?_
    refine QJ.done ?_
    refine PJ.next ?_
    refine WJ.ret ?_
    obtain rfl := Option.some.inj hm
    refine PJ.sel (L' := []) [] ⟨List.nodup_nil, rfl⟩ ?_
    exact PJ.retn (vs := [.bool (decide ((List.length list1 : Int) ≤ 40))]) Try.results37 ⟨rfl, trivial⟩ ⟨rfl, rfl⟩

set_option maxRecDepth 100000 in
set_option maxHeartbeats 1000000 in
theorem ok_i_isPointTable {N : Nat} {table1 : List Int} {r : Bool} (hm : i_isPointTable N table1 = some r) (w : World) (v2 : Value) (hr3 : RdS w (cx w).Fz v2 fI64.rp table1) :
    Calls Try.prog 38 #[v2] w (Ret (cx w) (.bool r)) := by
  unfold i_isPointTable at hm
  refine Calls.enter [v2] Try.func38 rfl Try.ntmps38 rfl ?_
  refine WJ.seq ?_
  refine WJ.quiet ?_
  refine QJ.step (YldS.yld (y_assign rfl)) rfl ?_
  refine QJ.done ?_
  refine PJ.next ?_
  obtain ⟨kj4, hk5, hm⟩ := withK_open hm
  refine WJ.join (X := Unit) (fun (_ : Unit) => kj4  = some r) (fun (_ : Unit) => [(0, v2)]) (fun (_ : Unit) => []) ?_ ?_
  · clear hk5
    refine WJ.seq ?_
    refine WJ.quiet ?_
    refine QJ.step (YldS.yld (y_move rfl)) rfl ?_
    refine QJ.step (YldS.yld (y_lenS Try.runUnderlying42 hr3 rfl)) rfl ?_
    refine QJ.step (YldS.yld (y_move rfl)) rfl ?_
    refine QJ.done ?_
    refine PJ.next ?_
    refine WJ.block ?_
    refine WJ.sel (L' := (fun (x : Int) => []) 0) [] ⟨List.nodup_nil, rfl⟩ ?_
    refine WJ.sub (m' := (fun (x : Int) => [(0, v2), (5, v2), (6, .int .i64 (List.length table1 : Int)), (7, .int .i64 x)]) 0) ⟨rfl, rfl, rfl, rfl, trivial⟩ ?_
    refine WJ.loop (X := Int) (fun N (x : Int) => i_isPointTable_l1 kj4 table1 N x = some r) (fun (x : Int) => [(0, v2), (5, v2), (6, .int .i64 (List.length table1 : Int)), (7, .int .i64 x)]) (fun (x : Int) => []) ?_ N 0 hm
    · rintro N x6 hI
      have hm := hI; clear hI
      cases N with
      | zero => cases hm
      | succ N =>
      unfold i_isPointTable_l1 at hm
      refine WJ.seq ?_
      refine WJ.quiet ?_
      refine QJ.step (YldS.yld (y_bin rfl rfl rfl)) rfl ?_
      refine QJ.done ?_
      refine PJ.next ?_
      refine WJ.seq ?_
      refine WJ.cond (t := decide (x6 < (List.length table1 : Int))) rfl (fun hb7 => ?_) (fun hb7 => ?_)
      · replace hm := ifT hm hb7
        refine WJ.skip ?_
        refine PJ.next ?_
        refine WJ.seq ?_
        refine WJ.block ?_
        refine WJ.seq ?_
        refine WJ.quiet ?_
        obtain ⟨e8, h9, hm⟩ := bindS hm
        obtain ⟨ad10, _, rfl, ha11, hy12⟩ := hr3.elem h9
        refine QJ.step (YldS.yld (hy12 Try.runUnderlying42 Try.sizeOf2 rfl rfl)) rfl ?_
        refine QJ.step (YldS.yld (y_load1 (v := .int .i64 e8) Try.isAgg2 ha11 St.frozenC rfl)) rfl ?_
        refine QJ.step (YldS.yld (y_assign rfl)) rfl ?_
        refine QJ.done ?_
        refine PJ.next ?_
        refine WJ.seq ?_
        refine WJ.quiet ?_
        refine QJ.step (YldS.yld (y_move rfl)) rfl ?_
        obtain ⟨r13, h14, hm⟩ := bindS hm
        refine QJ.step (y_call Try.call62 rfl (RetG.quiet fun w hw => ok_i_between h14 w )) rfl ?_
        refine QJ.step (YldS.yld (y_not rfl)) rfl ?_
        refine QJ.done ?_
        refine PJ.next ?_
        refine WJ.cond (t := !r13) rfl (fun hb15 => ?_) (fun hb15 => ?_)
        · replace hm := ifT hm hb15
          refine WJ.seq ?_
          refine WJ.quiet ?_
          refine QJ.step (YldS.yld (y_assign rfl)) rfl ?_
          refine QJ.done ?_
          refine PJ.next ?_
          refine WJ.ret ?_
          refine PJ.block_ret (PJ.then_ret (PJ.then_ret (PJ.block_ret (PJ.then_ret ?_))))
          obtain rfl := Option.some.inj hm
          refine PJ.sel (L' := []) [] ⟨List.nodup_nil, rfl⟩ ?_
          exact PJ.retn (vs := [.bool false]) Try.results38 ⟨rfl, trivial⟩ ⟨rfl, rfl⟩
        · replace hm := ifF hm hb15
          refine WJ.skip ?_
          refine PJ.block_normal (PJ.next ?_)
          refine WJ.quiet ?_
          refine QJ.step (YldS.yld (y_bin rfl rfl rfl)) rfl ?_
          refine QJ.step (YldS.yld (y_move rfl)) rfl ?_
          refine QJ.done ?_
          exact PJ.round (w64 (x6 + 1)) [] hm ⟨rfl, rfl, rfl, rfl, trivial⟩ ⟨List.nodup_nil, rfl⟩
      · replace hm := ifF hm hb7
        refine WJ.exit ?_
        refine PJ.then_exit (PJ.then_exit (PJ.block_exit ?_))
        exact PJ.joined () [] hm ⟨rfl, trivial⟩ ⟨List.nodup_nil, rfl⟩
  · rintro _ hm
    subst hk5
    refine WJ.seq ?_
    refine WJ.quiet ?_
    refine QJ.step (YldS.yld (y_move rfl)) rfl ?_
    refine QJ.step (YldS.yld (y_lenS Try.runUnderlying42 hr3 rfl)) rfl ?_
    refine QJ.step (YldS.yld (y_bin rfl rfl rfl)) rfl ?_
    refine QJ.step (YldS.yld (y_assign rfl)) rfl ?_
    refine QJ.done ?_
    refine PJ.next ?_
    refine WJ.ret ?_
    obtain rfl := Option.some.inj hm
    refine PJ.sel (L' := []) [] ⟨List.nodup_nil, rfl⟩ ?_
    exact PJ.retn (vs := [.bool (decide ((List.length table1 : Int) ≤ 20))]) Try.results38 ⟨rfl, trivial⟩ ⟨rfl, rfl⟩

set_option maxRecDepth 100000 in
set_option maxHeartbeats 1000000 in
theorem ok_i_Result_better {x1 : Result} {y2 : Result} {r : Bool} (hm : i_Result_better x1 y2 = some r) (w : World)  :
    Calls Try.prog 65 #[.agg (Result.enc x1).toArray, .agg (Result.enc y2).toArray] w (Ret (cx w) (.bool r)) := by
  unfold i_Result_better at hm
  refine Calls.enter [.agg (Result.enc x1).toArray, .agg (Result.enc y2).toArray] Try.func65 rfl Try.ntmps65 rfl ?_
  refine WJ.seq ?_
  refine WJ.reg ?_
  refine SJ.box (cs := [str x1.name, .int .i64 x1.net, .int .i64 x1.errors]) rfl rfl rfl fun g3 => ?_
  refine SJ.box (cs := [str y2.name, .int .i64 y2.net, .int .i64 y2.errors]) rfl rfl rfl fun g4 => ?_
  refine SJ.q (YldS.yld (y_assign rfl)) rfl ?_
  refine SJ.nil ?_
  refine PJ.next ?_
  refine WJ.seq ?_
  refine WJ.quiet ?_
  refine QJ.step (YldS.yld (y_fldB (o := 0) fld114_1 rfl)) rfl ?_
  refine QJ.step (YldS.yld (y_loadB (k := 1) (off := 1) (v := .int .i64 x1.net) rfl Try.isAgg2 rfl rfl)) rfl ?_
  refine QJ.step (YldS.yld (y_fldB (o := 0) fld114_1 rfl)) rfl ?_
  refine QJ.step (YldS.yld (y_loadB (k := 0) (off := 1) (v := .int .i64 y2.net) rfl Try.isAgg2 rfl rfl)) rfl ?_
  refine QJ.step (YldS.yld (y_bin rfl rfl rfl)) rfl ?_
  refine QJ.step (YldS.yld (y_move rfl)) rfl ?_
  obtain ⟨t5, h6, hm⟩ := bindS hm
  refine QJ.cut 13 [(23, .bool t5)] ?_ ?_
  · rcases Bool.eq_false_or_eq_true (decide (x1.net > y2.net)) with hb7 | hb7
    · obtain rfl := orT h6 hb7
      refine QJ.off rfl rfl (cB hb7) rfl rfl ?_
      refine QJ.off rfl rfl (cB hb7) rfl rfl ?_
      refine QJ.off rfl rfl (cB hb7) rfl rfl ?_
      refine QJ.off rfl rfl (cB hb7) rfl rfl ?_
      refine QJ.off rfl rfl (cB hb7) rfl rfl ?_
      refine QJ.off rfl rfl (cB hb7) rfl rfl ?_
      refine QJ.off_undef rfl rfl rfl rfl ?_
      refine QJ.off_undef rfl rfl rfl rfl ?_
      refine QJ.off_undef rfl rfl rfl rfl ?_
      refine QJ.off_undef rfl rfl rfl rfl ?_
      refine QJ.off_undef rfl rfl rfl rfl ?_
      refine QJ.off rfl rfl (cB hb7) rfl rfl ?_
      refine QJ.step (YldS.yld (y_pick_t (cB hb7) rfl)) rfl ?_
      exact QJ.cut_end ⟨rfl, trivial⟩
    · replace h6 := orF h6 hb7
      refine QJ.on rfl rfl (cB hb7) (YldS.yld (y_fldB (o := 0) fld114_1 rfl)) rfl ?_
      refine QJ.on rfl rfl (cB hb7) (YldS.yld (y_loadB (k := 1) (off := 1) (v := .int .i64 x1.net) rfl Try.isAgg2 rfl rfl)) rfl ?_
      refine QJ.on rfl rfl (cB hb7) (YldS.yld (y_fldB (o := 0) fld114_1 rfl)) rfl ?_
      refine QJ.on rfl rfl (cB hb7) (YldS.yld (y_loadB (k := 0) (off := 1) (v := .int .i64 y2.net) rfl Try.isAgg2 rfl rfl)) rfl ?_
      refine QJ.on rfl rfl (cB hb7) (YldS.yld (y_bin rfl rfl rfl)) rfl ?_
      refine QJ.on rfl rfl (cB hb7) (YldS.yld (y_move rfl)) rfl ?_
      obtain ⟨t8, h9, h6⟩ := bindS h6
      refine QJ.cut 6 [(10, .bool (decide (x1.net > y2.net))), (22, .bool t8)] ?_ ?_
      · rcases Bool.eq_false_or_eq_true (x1.net == y2.net) with hb10 | hb10
        · replace h9 := andT h9 hb10
          refine QJ.on rfl rfl (cB hb10) (YldS.yld (y_fldB (o := 0) fld114_2 rfl)) rfl ?_
          refine QJ.on rfl rfl (cB hb10) (YldS.yld (y_loadB (k := 1) (off := 2) (v := .int .i64 x1.errors) rfl Try.isAgg2 rfl rfl)) rfl ?_
          refine QJ.on rfl rfl (cB hb10) (YldS.yld (y_fldB (o := 0) fld114_2 rfl)) rfl ?_
          refine QJ.on rfl rfl (cB hb10) (YldS.yld (y_loadB (k := 0) (off := 2) (v := .int .i64 y2.errors) rfl Try.isAgg2 rfl rfl)) rfl ?_
          refine QJ.on rfl rfl (cB hb10) (YldS.yld (y_bin rfl rfl rfl)) rfl ?_
          refine QJ.on rfl rfl (cB hb7) (YldS.yld (y_pick_t (cB hb10) rfl)) rfl ?_
          obtain rfl := Option.some.inj h9
          exact QJ.cut_end ⟨rfl, rfl, trivial⟩
        · obtain rfl := andF h9 hb10
          refine QJ.off rfl rfl (cB hb10) rfl rfl ?_
          refine QJ.off rfl rfl (cB hb10) rfl rfl ?_
          refine QJ.off rfl rfl (cB hb10) rfl rfl ?_
          refine QJ.off rfl rfl (cB hb10) rfl rfl ?_
          refine QJ.off rfl rfl (cB hb10) rfl rfl ?_
          refine QJ.on rfl rfl (cB hb7) (YldS.yld (y_pick_f (cB hb10) rfl)) rfl ?_
          exact QJ.cut_end ⟨rfl, rfl, trivial⟩
      refine QJ.step (YldS.yld (y_pick_f (cB hb7) rfl)) rfl ?_
      obtain rfl := Option.some.inj h6
      exact QJ.cut_end ⟨rfl, trivial⟩
  refine QJ.step (YldS.yld (y_assign rfl)) rfl ?_
  refine QJ.done ?_
  refine PJ.next ?_
  refine WJ.ret ?_
  obtain rfl := Option.some.inj hm
  refine PJ.sel (L' := []) [] ⟨List.nodup_nil, rfl⟩ ?_
  exact PJ.retn (vs := [.bool t5]) Try.results65 ⟨rfl, trivial⟩ ⟨rfl, rfl⟩

set_option maxRecDepth 100000 in
set_option maxHeartbeats 1000000 in
theorem ok_i_ranking_c1 {i1 : Int} {k2 : Int} {x3 : List Result} {x8 : List Int} {r : Bool} (hm : i_ranking_c1 i1 k2 x3 x8 = some r) (w : World) (ad4 : Addr) (v6 : Value) (ha5 : At w (cx w).Fz ad4 [v6]) (hr7 : RdS w (cx w).Fz v6 fResult.rp x3) (ad9 : Addr) (v11 : Value) (ha10 : At w (cx w).Fz ad9 [v11]) (hr12 : RdS w (cx w).Fz v11 fI64.rp x8) :
    Calls Try.prog 100 #[.int .i64 i1, .int .i64 k2, .pointer (some ad4), .pointer (some ad9)] w (Ret (cx w) (.bool r)) := by
  unfold i_ranking_c1 at hm
  refine Calls.enter [.int .i64 i1, .int .i64 k2, .pointer (some ad4), .pointer (some ad9)] Try.func100 rfl Try.ntmps100 rfl ?_
  refine WJ.seq ?_
  refine WJ.quiet ?_
  refine QJ.step (YldS.yld (y_assign rfl)) rfl ?_
  refine QJ.done ?_
  refine PJ.next ?_
  refine WJ.seq ?_
  refine WJ.quiet_draw follows (by kernel_rfl) ?_
  refine QJ.step (YldS.yld (y_load1 (v := v6) Try.isAgg41 ha5 St.frozenC rfl)) rfl ?_
  refine QJ.step (YldS.yld (y_load1 (v := v11) Try.isAgg42 ha10 St.frozenC rfl)) rfl ?_
  refine QJ.step (YldS.yld (y_move rfl)) rfl ?_
  obtain ⟨e13, h14, hm⟩ := bindS hm
  obtain ⟨ad15, _, rfl, ha16, hy17⟩ := hr12.elem h14
  refine QJ.step (YldS.yld (hy17 Try.runUnderlying42 Try.sizeOf2 rfl rfl)) rfl ?_
  refine QJ.step (YldS.yld (y_load1 (v := .int .i64 e13) Try.isAgg2 ha16 St.frozenC rfl)) rfl ?_
  obtain ⟨e18, h19, hm⟩ := bindS hm
  obtain ⟨ad20, _, rfl, ha21, hy22⟩ := hr7.elem h19
  refine QJ.step (YldS.yld (hy22 Try.runUnderlying41 Try.sizeOf114 rfl rfl)) rfl ?_
  refine QJ.step (YldS.yld (y_loadN Try.isAgg114 Try.sizeOf114 rfl ha21 St.frozenC rfl)) rfl ?_
  refine QJ.step (YldS.yld (y_load1 (v := v6) Try.isAgg41 ha5 St.frozenC rfl)) rfl ?_
  refine QJ.step (YldS.yld (y_load1 (v := v11) Try.isAgg42 ha10 St.frozenC rfl)) rfl ?_
  refine QJ.step (YldS.yld (y_move rfl)) rfl ?_
  obtain ⟨e23, h24, hm⟩ := bindS hm
  obtain ⟨ad25, _, rfl, ha26, hy27⟩ := hr12.elem h24
  refine QJ.step (YldS.yld (hy27 Try.runUnderlying42 Try.sizeOf2 rfl rfl)) rfl ?_
  refine QJ.step (YldS.yld (y_load1 (v := .int .i64 e23) Try.isAgg2 ha26 St.frozenC rfl)) rfl ?_
  obtain ⟨e28, h29, hm⟩ := bindS hm
  obtain ⟨ad30, _, rfl, ha31, hy32⟩ := hr7.elem h29
  refine QJ.step (YldS.yld (hy32 Try.runUnderlying41 Try.sizeOf114 rfl rfl)) rfl ?_
  refine QJ.step (YldS.yld (y_loadN Try.isAgg114 Try.sizeOf114 rfl ha31 St.frozenC rfl)) rfl ?_
  obtain ⟨r33, h34, hm⟩ := bindS hm
  refine QJ.step (y_call Try.call65 rfl (RetG.quiet fun w hw => ok_i_Result_better h34 w )) rfl ?_
  refine QJ.step (YldS.yld (y_assign rfl)) rfl ?_
  refine QJ.done ?_
  refine PJ.next ?_
  refine WJ.ret ?_
  obtain rfl := Option.some.inj hm
  refine PJ.sel (L' := []) [] ⟨List.nodup_nil, rfl⟩ ?_
  exact PJ.retn (vs := [.bool r33]) Try.results100 ⟨rfl, trivial⟩ ⟨rfl, rfl⟩

set_option maxRecDepth 100000 in
set_option maxHeartbeats 1000000 in
theorem ok_i_ranking {N : Nat} {list1 : List Result} {r : (List Int)} (hm : i_ranking N list1 = some r) (w : World) (v2 : Value) (hr3 : RdS w (cx w).Fz v2 fResult.rp list1) :
    Calls Try.prog 64 #[v2] w (RetG (cx w) fun u L => ∃ (u1 : Value), (u = u1 ∧ L = [row u1 2 fI64 r])) := by
  unfold i_ranking at hm
  refine Calls.enter [v2] Try.func64 rfl Try.ntmps64 rfl ?_
  refine WJ.seq ?_
  refine WJ.reg ?_
  refine SJ.box (cs := [v2]) rfl (RdS.cells1 hr3) rfl fun g4 => ?_
  refine SJ.q (YldS.yld (y_assign rfl)) rfl ?_
  refine SJ.nil ?_
  refine PJ.next ?_
  refine WJ.seq ?_
  refine WJ.reg ?_
  refine SJ.buildSlice (R := fI64) (os := []) [] Try.runUnderlying42 Try.sizeOf2 Try.zeroValue2 rfl rfl rfl rfl rfl rfl fun v5 => ?_
  refine SJ.alloc (cs := [.slice none 0 0]) Try.zeroValue42 rfl rfl fun g6 => ?_
  refine SJ.rowCells (k := 1) rfl fun hc7 => ?_
  refine SJ.storeL (k := 0) (off := 0) (us := [v5]) rfl rfl rfl hc7.1 Try.sizeOf42 rfl (by simp [hc7.2]) ?_
  refine SJ.nil ?_
  refine PJ.next ?_
  obtain ⟨kj10, hk11, hm⟩ := withK_open hm
  refine WJ.join (X := (List Int) × Value) (fun (x : (List Int) × Value) => kj10 x.1 = some r) (fun (x : (List Int) × Value) => [(1, pt g4 0), (3, pt g6 0)]) (fun (x : (List Int) × Value) => [box g6 42 [x.2], row x.2 2 fI64 x.1, box g4 41 [v2]]) ?_ ?_
  · clear hk11
    refine WJ.seq ?_
    refine WJ.quiet ?_
    refine QJ.step (YldS.yld (y_loadB (k := 2) (off := 0) (v := v2) rfl Try.isAgg41 rfl rfl)) rfl ?_
    refine QJ.step (YldS.yld (y_lenS Try.runUnderlying41 hr3 rfl)) rfl ?_
    refine QJ.step (YldS.yld (y_move rfl)) rfl ?_
    refine QJ.done ?_
    refine PJ.next ?_
    refine WJ.block ?_
    refine WJ.sel (L' := (fun (x : (List Int) × Value × Int) => [box g6 42 [x.2.1], row x.2.1 2 fI64 x.1, box g4 41 [v2]]) ([], v5, 0)) [0, 1, 2] ⟨by decide, rfl⟩ ?_
    refine WJ.sub (m' := (fun (x : (List Int) × Value × Int) => [(1, pt g4 0), (3, pt g6 0), (7, .int .i64 (List.length list1 : Int)), (8, .int .i64 x.2.2)]) ([], v5, 0)) ⟨rfl, rfl, rfl, rfl, trivial⟩ ?_
    refine WJ.loop (X := (List Int) × Value × Int) (fun N (x : (List Int) × Value × Int) => i_ranking_l1 kj10 list1 N x.1 x.2.2 = some r) (fun (x : (List Int) × Value × Int) => [(1, pt g4 0), (3, pt g6 0), (7, .int .i64 (List.length list1 : Int)), (8, .int .i64 x.2.2)]) (fun (x : (List Int) × Value × Int) => [box g6 42 [x.2.1], row x.2.1 2 fI64 x.1, box g4 41 [v2]]) ?_ N ([], v5, 0) hm
    · rintro N ⟨l12, v13, x14⟩ hI
      have hm := hI; clear hI
      cases N with
      | zero => cases hm
      | succ N =>
      unfold i_ranking_l1 at hm
      refine WJ.seq ?_
      refine WJ.quiet ?_
      refine QJ.step (YldS.yld (y_bin rfl rfl rfl)) rfl ?_
      refine QJ.done ?_
      refine PJ.next ?_
      refine WJ.seq ?_
      refine WJ.cond (t := decide (x14 < (List.length list1 : Int))) rfl (fun hb15 => ?_) (fun hb15 => ?_)
      · replace hm := ifT hm hb15
        refine WJ.skip ?_
        refine PJ.next ?_
        refine WJ.seq ?_
        refine WJ.block ?_
        refine WJ.seq ?_
        refine WJ.quiet ?_
        refine QJ.step (YldS.yld (y_move rfl)) rfl ?_
        refine QJ.step (YldS.yld (y_assign rfl)) rfl ?_
        refine QJ.done ?_
        refine PJ.next ?_
        refine WJ.reg ?_
        refine SJ.q (YldS.yld (y_loadB (k := 0) (off := 0) (v := v13) rfl Try.isAgg42 rfl rfl)) rfl ?_
        refine SJ.q (YldS.yld (y_move rfl)) rfl ?_
        refine SJ.buildSlice (R := fI64) (os := [.tmp 12]) [x14] Try.runUnderlying42 Try.sizeOf2 Try.zeroValue2 rfl rfl rfl rfl rfl rfl fun v16 => ?_
        obtain ⟨l17, h18, hm⟩ := bindS hm
        refine SJ.append (k := 2) (R := fI64) h18 rfl Try.underlying42 el2 rfl rfl rfl (fun w hw => (hw.row_rd (k := 0) rfl)) rfl fun v19 => ?_
        refine SJ.rowCells (k := 2) rfl fun hc20 => ?_
        refine SJ.storeL (k := 1) (off := 0) (us := [v19]) rfl rfl rfl hc20.1 Try.sizeOf42 rfl (by simp [hc20.2]) ?_
        refine SJ.nil ?_
        refine PJ.block_normal (PJ.next ?_)
        refine WJ.quiet ?_
        refine QJ.step (YldS.yld (y_bin rfl rfl rfl)) rfl ?_
        refine QJ.step (YldS.yld (y_move rfl)) rfl ?_
        refine QJ.done ?_
        exact PJ.round (l17, v19, w64 (x14 + 1)) [1, 2, 3] hm ⟨rfl, rfl, rfl, rfl, trivial⟩ ⟨by decide, rfl⟩
      · replace hm := ifF hm hb15
        refine WJ.exit ?_
        refine PJ.then_exit (PJ.then_exit (PJ.block_exit ?_))
        exact PJ.joined (l12, v13) [0, 1, 2] hm ⟨rfl, rfl, trivial⟩ ⟨by decide, rfl⟩
  · rintro ⟨l8, v9⟩ hm
    subst hk11
    refine WJ.seq ?_
    refine WJ.reg ?_
    refine SJ.q (YldS.yld (y_loadB (k := 0) (off := 0) (v := v9) rfl Try.isAgg42 rfl rfl)) rfl ?_
    refine SJ.q (YldS.yld (y_iface Try.runUnderlying42 rfl)) rfl ?_
    refine SJ.q (YldS.yld (y_func (bs := [.tmp 1, .tmp 3]) rfl)) rfl ?_
    obtain ⟨l21, h22, hm⟩ := bindS hm
    refine SJ.sortS (k := 1) (less := fun i j dk => i_ranking_c1 i j list1 dk) (lb := [pt g4 0, pt g6 0]) sortS99_42 Try.call99 Try.call100 h22 (fun dk i j x y hx hy => by simp only [i_ranking_c1, hx, hy, idx2_0, idx2_1]) rfl rfl (fun w dk hw i j b hm => Ret.same (ok_i_ranking_c1 hm w _ _ (hw.box_at (k := 2) rfl) (hr3.st hw) _ _ (hw.box_at (k := 0) rfl) (hw.row_rd (k := 1) rfl))) rfl ?_
    refine SJ.nil ?_
    refine PJ.next ?_
    refine WJ.seq ?_
    refine WJ.quiet ?_
    refine QJ.step (YldS.yld (y_loadB (k := 0) (off := 0) (v := v9) rfl Try.isAgg42 rfl rfl)) rfl ?_
    refine QJ.step (YldS.yld (y_assign rfl)) rfl ?_
    refine QJ.done ?_
    refine PJ.next ?_
    refine WJ.ret ?_
    obtain rfl := Option.some.inj hm
    refine PJ.sel (L' := [row v9 2 fI64 l21]) [1] ⟨by decide, rfl⟩ ?_
    exact PJ.retn (vs := [v9]) Try.results64 ⟨rfl, trivial⟩ ⟨_, rfl, rfl⟩

set_option maxRecDepth 100000 in
set_option maxHeartbeats 1000000 in
theorem ok_i_ties {N : Nat} {list1 : List Result} {r : (List Tied)} (hm : i_ties N list1 = some r) (w : World) (v2 : Value) (hr3 : RdS w (cx w).Fz v2 fResult.rp list1) :
    Calls Try.prog 39 #[v2] w (RetG (cx w) fun u L => ∃ (u1 : Value) (u2 : List (Raw 2)), (u = u1 ∧ L = [row u1 81 fRaw2 u2, ins shTied 2 fI64 u2 r])) := by
  unfold i_ties at hm
  refine Calls.enter [v2] Try.func39 rfl Try.ntmps39 rfl ?_
  refine WJ.seq ?_
  refine WJ.quiet ?_
  refine QJ.step (YldS.yld (y_assign rfl)) rfl ?_
  refine QJ.done ?_
  refine PJ.next ?_
  refine WJ.seq ?_
  refine WJ.reg ?_
  refine SJ.buildSlice (R := fRaw2) (os := []) ([] : List (Raw 2)) Try.runUnderlying78 Try.sizeOf81 Try.zeroValue81 rfl rfl rfl rfl rfl rfl fun v4 => ?_
  refine SJ.ins_nil shTied 2 fI64 ?_
  refine SJ.q (YldS.yld (y_assign rfl)) rfl ?_
  refine SJ.nil ?_
  refine PJ.next ?_
  obtain ⟨kj8, hk9, hm⟩ := withK_open hm
  refine WJ.join (X := (List Tied) × (List (Raw 2)) × Value) (fun (x : (List Tied) × (List (Raw 2)) × Value) => kj8 x.1 = some r) (fun (x : (List Tied) × (List (Raw 2)) × Value) => [(3, x.2.2)]) (fun (x : (List Tied) × (List (Raw 2)) × Value) => [ins shTied 2 fI64 x.2.1 x.1, row x.2.2 81 fRaw2 x.2.1]) ?_ ?_
  · clear hk9
    refine WJ.seq ?_
    refine WJ.reg ?_
    refine SJ.q (YldS.yld (y_move rfl)) rfl ?_
    obtain ⟨r10, h11, hm⟩ := bindS hm
    refine SJ.call Try.call64 rfl (fun w hw => ok_i_ranking h11 w _ (hr3.st hw)) rfl ?_
    rintro v12 _ ⟨_, rfl, rfl⟩
    refine SJ.q (YldS.yld (y_lenRow (k := 0) rfl Try.runUnderlying42 rfl)) rfl ?_
    refine SJ.q (YldS.yld (y_move rfl)) rfl ?_
    refine SJ.nil ?_
    refine PJ.next ?_
    refine WJ.block ?_
    refine WJ.sel (L' := (fun (x : (List Tied) × (List (Raw 2)) × Value × Int) => [row v12 2 fI64 r10, ins shTied 2 fI64 x.2.1 x.1, row x.2.2.1 81 fRaw2 x.2.1]) (([] : List Tied), ([] : List (Raw 2)), v4, 0)) [0, 1, 2] ⟨by decide, rfl⟩ ?_
    refine WJ.sub (m' := (fun (x : (List Tied) × (List (Raw 2)) × Value × Int) => [(0, v2), (3, x.2.2.1), (9, v12), (10, .int .i64 (List.length r10 : Int)), (11, .int .i64 x.2.2.2)]) (([] : List Tied), ([] : List (Raw 2)), v4, 0)) ⟨rfl, rfl, rfl, rfl, rfl, trivial⟩ ?_
    refine WJ.loop (X := (List Tied) × (List (Raw 2)) × Value × Int) (fun N (x : (List Tied) × (List (Raw 2)) × Value × Int) => i_ties_l1 kj8 list1 r10 N x.1 x.2.2.2 = some r) (fun (x : (List Tied) × (List (Raw 2)) × Value × Int) => [(0, v2), (3, x.2.2.1), (9, v12), (10, .int .i64 (List.length r10 : Int)), (11, .int .i64 x.2.2.2)]) (fun (x : (List Tied) × (List (Raw 2)) × Value × Int) => [row v12 2 fI64 r10, ins shTied 2 fI64 x.2.1 x.1, row x.2.2.1 81 fRaw2 x.2.1]) ?_ N (([] : List Tied), ([] : List (Raw 2)), v4, 0) hm
    · rintro N ⟨l13, vs14, v15, x16⟩ hI
      have hm := hI; clear hI
      cases N with
      | zero => cases hm
      | succ N =>
      unfold i_ties_l1 at hm
      refine WJ.seq ?_
      refine WJ.quiet ?_
      refine QJ.step (YldS.yld (y_bin rfl rfl rfl)) rfl ?_
      refine QJ.done ?_
      refine PJ.next ?_
      refine WJ.seq ?_
      refine WJ.cond (t := decide (x16 < (List.length r10 : Int))) rfl (fun hb17 => ?_) (fun hb17 => ?_)
      · replace hm := ifT hm hb17
        refine WJ.skip ?_
        refine PJ.next ?_
        obtain ⟨kj21, hk22, hm⟩ := withK_open hm
        refine WJ.join (X := (List Tied) × (List (Raw 2)) × Value) (fun (x : (List Tied) × (List (Raw 2)) × Value) => kj21 x.1 = some r) (fun (x : (List Tied) × (List (Raw 2)) × Value) => [(0, v2), (3, x.2.2), (9, v12), (10, .int .i64 (List.length r10 : Int)), (11, .int .i64 x16)]) (fun (x : (List Tied) × (List (Raw 2)) × Value) => [ins shTied 2 fI64 x.2.1 x.1, row v12 2 fI64 r10, row x.2.2 81 fRaw2 x.2.1]) ?_ ?_
        · clear hk22
          refine WJ.block ?_
          refine WJ.seq ?_
          refine WJ.quiet ?_
          refine QJ.step (YldS.yld (y_move rfl)) rfl ?_
          obtain ⟨e23, h24, hm⟩ := bindS hm
          refine QJ.step (YldS.yld (y_ixRow (k := 0) (R := fI64) rfl Try.runUnderlying42 Try.sizeOf2 rfl rfl h24)) rfl ?_
          refine QJ.step (YldS.yld (y_loadR (k := 0) (i := (Int.toNat x16)) (off := 0) (u := .int .i64 e23) rfl Try.isAgg2 rfl (idx_get h24) rfl)) rfl ?_
          refine QJ.step (YldS.yld (y_assign rfl)) rfl ?_
          refine QJ.step (YldS.yld (y_assign rfl)) rfl ?_
          refine QJ.done ?_
          refine PJ.next ?_
          refine WJ.seq ?_
          refine WJ.quiet ?_
          refine QJ.step (YldS.yld (y_move rfl)) rfl ?_
          refine QJ.step (YldS.yld (y_lenSh (k := 2) (j := 1) rfl rfl Try.runUnderlying78 rfl)) rfl ?_
          refine QJ.step (YldS.yld (y_bin rfl rfl rfl)) rfl ?_
          refine QJ.step (YldS.yld (y_assign rfl)) rfl ?_
          refine QJ.done ?_
          refine PJ.next ?_
          refine WJ.seq ?_
          refine WJ.ins_len 1 rfl fun hl25 => ?_
          refine WJ.quiet_draw follows (by kernel_rfl) ?_
          refine QJ.step (YldS.yld (y_move rfl)) rfl ?_
          refine QJ.step (YldS.yld (y_bin rfl rfl rfl)) rfl ?_
          refine QJ.step (YldS.yld (y_move rfl)) rfl ?_
          obtain ⟨t26, h27, hm⟩ := bindS hm
          refine QJ.cut 17 [(0, v2), (3, v15), (4, .int .i64 x16), (5, .int .i64 e23), (6, .int .i64 (w64 ((List.length l13 : Int) - 1))), (9, v12), (10, .int .i64 (List.length r10 : Int)), (11, .int .i64 x16), (38, .bool t26)] ?_ ?_
          · rcases Bool.eq_false_or_eq_true (decide ((w64 ((List.length l13 : Int) - 1)) ≥ 0)) with hb28 | hb28
            · replace h27 := andT h27 hb28
              refine QJ.on rfl rfl (cB hb28) (YldS.yld (y_move rfl)) rfl ?_
              refine QJ.on rfl rfl (cB hb28) (YldS.yld (y_move rfl)) rfl ?_
              refine QJ.on rfl rfl (cB hb28) (YldS.yld (y_move rfl)) rfl ?_
              obtain ⟨e29, h30, h27⟩ := bindS h27
              obtain ⟨y31, hy32⟩ := inn_idx hl25.1 h30
              obtain hs33 := hl25.2 _ _ _ hy32 h30
              refine QJ.on rfl rfl (cB hb28) (YldS.yld (y_ixRow (k := 2) (R := fRaw2) rfl Try.runUnderlying78 Try.sizeOf81 rfl rfl hy32)) rfl ?_
              refine QJ.on rfl rfl (cB hb28) (YldS.yld (y_fldR fld81_1 rfl)) rfl ?_
              refine QJ.on rfl rfl (cB hb28) (YldS.yld (y_loadR (k := 2) (i := (Int.toNat (w64 ((List.length l13 : Int) - 1)))) (off := 1) (u := (shTied.sl y31)) rfl Try.isAgg42 rfl (idx_get hy32) (sh_cell hs33 rfl))) rfl ?_
              obtain ⟨e34, h35, h27⟩ := bindS h27
              refine QJ.on rfl rfl (cB hb28) (YldS.yld (y_ixG (R := fI64) (fun w hw => (hw.ins_rd (k := 1) rfl rfl hy32 h30)) Try.runUnderlying42 Try.sizeOf2 rfl rfl h35)) rfl ?_
              refine QJ.on rfl rfl (cB hb28) (YldS.yld (y_loadG (R := fI64) (i := (Int.toNat 0)) (off := 0) (fun w hw => (hw.ins_rd (k := 1) rfl rfl hy32 h30)) Try.isAgg2 rfl (idx_get h35) rfl)) rfl ?_
              obtain ⟨e36, h37, h27⟩ := bindS h27
              obtain ⟨ad38, _, rfl, ha39, hy40⟩ := hr3.elem h37
              refine QJ.on rfl rfl (cB hb28) (YldS.yld (hy40 Try.runUnderlying41 Try.sizeOf114 rfl rfl)) rfl ?_
              refine QJ.on rfl rfl (cB hb28) (YldS.yld (y_loadN Try.isAgg114 Try.sizeOf114 rfl ha39 St.frozenC rfl)) rfl ?_
              refine QJ.on rfl rfl (cB hb28) (YldS.yld (y_move rfl)) rfl ?_
              refine QJ.on rfl rfl (cB hb28) (YldS.yld (y_move rfl)) rfl ?_
              obtain ⟨e41, h42, h27⟩ := bindS h27
              obtain ⟨ad43, _, rfl, ha44, hy45⟩ := hr3.elem h42
              refine QJ.on rfl rfl (cB hb28) (YldS.yld (hy45 Try.runUnderlying41 Try.sizeOf114 rfl rfl)) rfl ?_
              refine QJ.on rfl rfl (cB hb28) (YldS.yld (y_loadN Try.isAgg114 Try.sizeOf114 rfl ha44 St.frozenC rfl)) rfl ?_
              obtain ⟨r46, h47, h27⟩ := bindS h27
              refine QJ.on rfl rfl (cB hb28) (y_call Try.call65 rfl (RetG.quiet fun w hw => ok_i_Result_better h47 w )) rfl ?_
              refine QJ.on rfl rfl (cB hb28) (YldS.yld (y_not rfl)) rfl ?_
              refine QJ.step (YldS.yld (y_pick_t (cB hb28) rfl)) rfl ?_
              obtain rfl := Option.some.inj h27
              exact QJ.cut_end ⟨rfl, rfl, rfl, rfl, rfl, rfl, rfl, rfl, rfl, trivial⟩
            · obtain rfl := andF h27 hb28
              refine QJ.off rfl rfl (cB hb28) rfl rfl ?_
              refine QJ.off rfl rfl (cB hb28) rfl rfl ?_
              refine QJ.off rfl rfl (cB hb28) rfl rfl ?_
              refine QJ.off rfl rfl (cB hb28) rfl rfl ?_
              refine QJ.off rfl rfl (cB hb28) rfl rfl ?_
              refine QJ.off rfl rfl (cB hb28) rfl rfl ?_
              refine QJ.off rfl rfl (cB hb28) rfl rfl ?_
              refine QJ.off rfl rfl (cB hb28) rfl rfl ?_
              refine QJ.off rfl rfl (cB hb28) rfl rfl ?_
              refine QJ.off rfl rfl (cB hb28) rfl rfl ?_
              refine QJ.off rfl rfl (cB hb28) rfl rfl ?_
              refine QJ.off rfl rfl (cB hb28) rfl rfl ?_
              refine QJ.off rfl rfl (cB hb28) rfl rfl ?_
              refine QJ.off rfl rfl (cB hb28) rfl rfl ?_
              refine QJ.off rfl rfl (cB hb28) rfl rfl ?_
              refine QJ.off rfl rfl (cB hb28) rfl rfl ?_
              refine QJ.step (YldS.yld (y_pick_f (cB hb28) rfl)) rfl ?_
              exact QJ.cut_end ⟨rfl, rfl, rfl, rfl, rfl, rfl, rfl, rfl, rfl, trivial⟩
          refine QJ.done ?_
          refine PJ.next ?_
          refine WJ.cond (t := t26) rfl (fun hb48 => ?_) (fun hb48 => ?_)
          · replace hm := ifT hm hb48
            refine WJ.ins_len 1 rfl fun hl49 => ?_
            refine WJ.reg ?_
            refine SJ.q (YldS.yld (y_move rfl)) rfl ?_
            refine SJ.q (YldS.yld (y_move rfl)) rfl ?_
            refine SJ.q (YldS.yld (y_move rfl)) rfl ?_
            refine SJ.q (YldS.yld (y_move rfl)) rfl ?_
            obtain ⟨e50, h51, hm⟩ := bindS hm
            obtain ⟨y52, hy53⟩ := inn_idx hl49.1 h51
            obtain hs54 := hl49.2 _ _ _ hy53 h51
            refine SJ.q (YldS.yld (y_ixRow (k := 2) (R := fRaw2) rfl Try.runUnderlying78 Try.sizeOf81 rfl rfl hy53)) rfl ?_
            refine SJ.q (YldS.yld (y_fldR fld81_1 rfl)) rfl ?_
            refine SJ.insOpen 1 rfl hy53 h51 ?_
            refine SJ.q (YldS.yld (y_loadR (k := 3) (i := (Int.toNat (w64 ((List.length l13 : Int) - 1)))) (off := 1) (u := (shTied.sl y52)) rfl Try.isAgg42 rfl (idx_get hy53) (sh_cell hs54 rfl))) rfl ?_
            refine SJ.q (YldS.yld (y_move rfl)) rfl ?_
            refine SJ.buildSlice (R := fI64) (os := [.tmp 46]) [e23] Try.runUnderlying42 Try.sizeOf2 Try.zeroValue2 rfl rfl rfl rfl rfl rfl fun v55 => ?_
            obtain ⟨l56, h57, hm⟩ := bindS hm
            refine SJ.append (k := 1) (R := fI64) h57 rfl Try.underlying42 el2 rfl rfl rfl (fun w hw => (hw.row_rd (k := 0) rfl)) rfl fun v58 => ?_
            obtain ⟨e59, h60, hm⟩ := bindS hm
            obtain ⟨y61, hy62⟩ := inn_idx hl49.1 h60
            obtain hs63 := hl49.2 _ _ _ hy62 h60
            refine SJ.q (YldS.yld (y_ixRow (k := 4) (R := fRaw2) rfl Try.runUnderlying78 Try.sizeOf81 rfl rfl hy62)) rfl ?_
            refine SJ.q (YldS.yld (y_fldR fld81_1 rfl)) rfl ?_
            refine SJ.rowCells (k := 1) rfl fun hc64 => ?_
            refine SJ.storeRL (k := 4) (i := (Int.toNat (w64 ((List.length l13 : Int) - 1)))) (off := 1) (us := [v58]) (b := (rawPut y61 1 [v58] rfl (by simp [hc64.2]))) rfl rfl (idx_get hy62) rfl hc64.1 Try.sizeOf42 rfl (by simp [hc64.2]) rfl ?_
            refine SJ.sel (L' := [row v58 2 fI64 l56, inh (Int.toNat (w64 ((List.length l13 : Int) - 1))) shTied 2 fI64 vs14 l13, row v55 2 fI64 [e23], row v12 2 fI64 r10, row v15 81 fRaw2 (List.set vs14 (Int.toNat (w64 ((List.length l13 : Int) - 1))) (rawPut y61 1 [v58] rfl (by simp [hc64.2])))]) [1, 3, 0, 2, 4] ⟨by decide, rfl⟩ ?_
            refine SJ.star ?_
            refine SJ.conv0 (fun w S h => inh_close (H := shTied) (lx := l56) (i0 := w64 ((List.length l13 : Int) - 1)) (y' := (rawPut y61 1 [v58] rfl (by simp [hc64.2]))) (x' := (Tied.mk e59.place l56)) ((congrArg (fun z => putL z 1 [v58]) hs63).trans rfl) rfl h) ?_
            refine SJ.nil ?_
            refine PJ.block_normal ?_
            exact PJ.joined ((List.set l13 (Int.toNat (w64 ((List.length l13 : Int) - 1))) (Tied.mk e59.place l56)), (List.set vs14 (Int.toNat (w64 ((List.length l13 : Int) - 1))) (rawPut y61 1 [v58] rfl (by simp [hc64.2]))), v15) [0, 2, 3] hm ⟨rfl, rfl, rfl, rfl, rfl, trivial⟩ ⟨by decide, rfl⟩
          · replace hm := ifF hm hb48
            refine WJ.reg ?_
            refine SJ.q (YldS.yld (y_move rfl)) rfl ?_
            refine SJ.q (YldS.yld (y_move rfl)) rfl ?_
            refine SJ.q (YldS.yld (y_bin rfl rfl rfl)) rfl ?_
            refine SJ.q (YldS.yld (y_move rfl)) rfl ?_
            refine SJ.buildSlice (R := fI64) (os := [.tmp 54]) [e23] Try.runUnderlying42 Try.sizeOf2 Try.zeroValue2 rfl rfl rfl rfl rfl rfl fun v65 => ?_
            refine SJ.rowCells (k := 0) rfl fun hc66 => ?_
            refine SJ.q (YldS.yld (y_build (parts := [(0, .tmp 53), (1, .tmp 55)]) (places := [(0, 1), (1, 1)]) (r := [.int .i64 (w64 (x16 + 1)), v65]) pl81 Try.zeroValue81 rfl rfl (show _ = [(0, [.int .i64 (w64 (x16 + 1))]), (1, [v65])] from by simp only [List.map, hc66.1]; try rfl) rfl)) rfl ?_
            refine SJ.rowCells (k := 0) rfl fun hc67 => ?_
            refine SJ.buildSlice (R := fRaw2) (os := [.tmp 56]) ([mkRaw (n := 2) (shTied.enc v65 (Tied.mk (w64 (x16 + 1)) [e23])) (shTied.len _ _) (shTied.one _ _ hc67.2)] : List (Raw 2)) Try.runUnderlying78 Try.sizeOf81 Try.zeroValue81 rfl rfl rfl rfl rfl rfl fun v68 => ?_
            refine SJ.ins_nil shTied 2 fI64 ?_
            refine SJ.sel (L' := [row v65 2 fI64 [e23], ins shTied 2 fI64 [] ([] : List Tied), row v68 81 fRaw2 ([mkRaw (n := 2) (shTied.enc v65 (Tied.mk (w64 (x16 + 1)) [e23])) (shTied.len _ _) (shTied.one _ _ hc67.2)] : List (Raw 2)), row v12 2 fI64 r10, ins shTied 2 fI64 vs14 l13, row v15 81 fRaw2 vs14]) [2, 0, 1, 3, 4, 5] ⟨by decide, rfl⟩ ?_
            refine SJ.star ?_
            refine SJ.conv0 (fun w S h => ins_push (H := shTied) (lx := [e23]) (y := mkRaw (n := 2) (shTied.enc v65 (Tied.mk (w64 (x16 + 1)) [e23])) (shTied.len _ _) (shTied.one _ _ hc67.2)) (x := (Tied.mk (w64 (x16 + 1)) [e23])) rfl rfl h) ?_
            refine SJ.conv0 (B := ins shTied 2 fI64 ([mkRaw (n := 2) (shTied.enc v65 (Tied.mk (w64 (x16 + 1)) [e23])) (shTied.len _ _) (shTied.one _ _ hc67.2)] : List (Raw 2)) ([(Tied.mk (w64 (x16 + 1)) [e23])] : List Tied)) (fun w S h => h) ?_
            refine SJ.ins_len 3 rfl fun hl69 => ?_
            refine SJ.ins_len 0 rfl fun hl70 => ?_
            obtain ⟨l71, h72, hm⟩ := bindS hm
            refine SJ.append (k := 4) (R := fRaw2) (app_raw h72 hl69.1 hl70.1) rfl Try.underlying78 el81 rfl rfl rfl (fun w hw => (hw.row_rd (k := 1) rfl)) rfl fun v73 => ?_
            refine SJ.sel (L' := [ins shTied 2 fI64 vs14 l13, ins shTied 2 fI64 ([mkRaw (n := 2) (shTied.enc v65 (Tied.mk (w64 (x16 + 1)) [e23])) (shTied.len _ _) (shTied.one _ _ hc67.2)] : List (Raw 2)) ([(Tied.mk (w64 (x16 + 1)) [e23])] : List Tied), row v68 81 fRaw2 ([mkRaw (n := 2) (shTied.enc v65 (Tied.mk (w64 (x16 + 1)) [e23])) (shTied.len _ _) (shTied.one _ _ hc67.2)] : List (Raw 2)), row v12 2 fI64 r10, row v73 81 fRaw2 (vs14 ++ ([mkRaw (n := 2) (shTied.enc v65 (Tied.mk (w64 (x16 + 1)) [e23])) (shTied.len _ _) (shTied.one _ _ hc67.2)] : List (Raw 2)))]) [3, 0, 1, 2, 4] ⟨by decide, rfl⟩ ?_
            refine SJ.star ?_
            refine SJ.conv0 (fun w S h => ins_app h72 h) ?_
            refine SJ.q (YldS.yld (y_assign rfl)) rfl ?_
            refine SJ.nil ?_
            refine PJ.block_normal ?_
            exact PJ.joined (l71, (vs14 ++ ([mkRaw (n := 2) (shTied.enc v65 (Tied.mk (w64 (x16 + 1)) [e23])) (shTied.len _ _) (shTied.one _ _ hc67.2)] : List (Raw 2))), v73) [0, 2, 3] hm ⟨rfl, rfl, rfl, rfl, rfl, trivial⟩ ⟨by decide, rfl⟩
        · rintro ⟨l18, vs19, v20⟩ hm
          subst hk22
          refine WJ.quiet ?_
          refine QJ.step (YldS.yld (y_bin rfl rfl rfl)) rfl ?_
          refine QJ.step (YldS.yld (y_move rfl)) rfl ?_
          refine QJ.done ?_
          exact PJ.round (l18, vs19, v20, w64 (x16 + 1)) [1, 0, 2] hm ⟨rfl, rfl, rfl, rfl, rfl, trivial⟩ ⟨by decide, rfl⟩
      · replace hm := ifF hm hb17
        refine WJ.exit ?_
        refine PJ.then_exit (PJ.then_exit (PJ.block_exit ?_))
        exact PJ.joined (l13, vs14, v15) [1, 2] hm ⟨rfl, trivial⟩ ⟨by decide, rfl⟩
  · rintro ⟨l5, vs6, v7⟩ hm
    subst hk9
    refine WJ.seq ?_
    refine WJ.quiet ?_
    refine QJ.step (YldS.yld (y_move rfl)) rfl ?_
    refine QJ.step (YldS.yld (y_assign rfl)) rfl ?_
    refine QJ.done ?_
    refine PJ.next ?_
    refine WJ.ret ?_
    obtain rfl := Option.some.inj hm
    refine PJ.sel (L' := [row v7 81 fRaw2 vs6, ins shTied 2 fI64 vs6 l5]) [1, 0] ⟨by decide, rfl⟩ ?_
    exact PJ.retn (vs := [v7]) Try.results39 ⟨rfl, trivial⟩ ⟨_, _, rfl, rfl⟩

set_option maxRecDepth 100000 in
set_option maxHeartbeats 1000000 in
theorem ok_i_tied_total {N : Nat} {t1 : Tied} {table4 : List Int} {r : Int} (hm : i_tied_total N t1 table4 = some r) (w : World) (v2 : Value) (hr3 : RdS w (cx w).Fz v2 fI64.rp t1.list) (v5 : Value) (hr6 : RdS w (cx w).Fz v5 fI64.rp table4) :
    Calls Try.prog 40 #[.agg #[.int .i64 t1.place, v2], v5] w (Ret (cx w) (.int .i64 r)) := by
  unfold i_tied_total at hm
  refine Calls.enter [.agg #[.int .i64 t1.place, v2], v5] Try.func40 rfl Try.ntmps40 rfl ?_
  refine WJ.seq ?_
  refine WJ.reg ?_
  refine SJ.box (cs := [.int .i64 t1.place, v2]) rfl rfl rfl fun g7 => ?_
  refine SJ.q (YldS.yld (y_assign rfl)) rfl ?_
  refine SJ.nil ?_
  refine PJ.next ?_
  refine WJ.seq ?_
  refine WJ.quiet ?_
  refine QJ.step (YldS.yld (y_assign rfl)) rfl ?_
  refine QJ.done ?_
  refine PJ.next ?_
  obtain ⟨kj9, hk10, hm⟩ := withK_open hm
  refine WJ.join (X := Int) (fun (x : Int) => kj9 x = some r) (fun (x : Int) => [(5, .int .i64 x)]) (fun (x : Int) => []) ?_ ?_
  · clear hk10
    refine WJ.seq ?_
    refine WJ.quiet ?_
    refine QJ.step (YldS.yld (y_fldB (o := 0) fld81_1 rfl)) rfl ?_
    refine QJ.step (YldS.yld (y_loadB (k := 0) (off := 1) (v := v2) rfl Try.isAgg42 rfl rfl)) rfl ?_
    refine QJ.step (YldS.yld (y_lenS Try.runUnderlying42 hr3 rfl)) rfl ?_
    refine QJ.step (YldS.yld (y_move rfl)) rfl ?_
    refine QJ.done ?_
    refine PJ.next ?_
    refine WJ.block ?_
    refine WJ.sel (L' := (fun (x : Int × Int) => [box g7 81 [.int .i64 t1.place, v2]]) (0, 0)) [0] ⟨by decide, rfl⟩ ?_
    refine WJ.sub (m' := (fun (x : Int × Int) => [(1, v5), (2, pt g7 0), (5, .int .i64 x.1), (10, .int .i64 (List.length t1.list : Int)), (11, .int .i64 x.2)]) (0, 0)) ⟨rfl, rfl, rfl, rfl, rfl, trivial⟩ ?_
    refine WJ.loop (X := Int × Int) (fun N (x : Int × Int) => i_tied_total_l1 kj9 t1 table4 N x.1 x.2 = some r) (fun (x : Int × Int) => [(1, v5), (2, pt g7 0), (5, .int .i64 x.1), (10, .int .i64 (List.length t1.list : Int)), (11, .int .i64 x.2)]) (fun (x : Int × Int) => [box g7 81 [.int .i64 t1.place, v2]]) ?_ N (0, 0) hm
    · rintro N ⟨sum11, x12⟩ hI
      have hm := hI; clear hI
      cases N with
      | zero => cases hm
      | succ N =>
      unfold i_tied_total_l1 at hm
      refine WJ.seq ?_
      refine WJ.quiet ?_
      refine QJ.step (YldS.yld (y_bin rfl rfl rfl)) rfl ?_
      refine QJ.done ?_
      refine PJ.next ?_
      refine WJ.seq ?_
      refine WJ.cond (t := decide (x12 < (List.length t1.list : Int))) rfl (fun hb13 => ?_) (fun hb13 => ?_)
      · replace hm := ifT hm hb13
        refine WJ.skip ?_
        refine PJ.next ?_
        obtain ⟨kj15, hk16, hm⟩ := withK_open hm
        refine WJ.join (X := Int) (fun (x : Int) => kj15 x = some r) (fun (x : Int) => [(1, v5), (2, pt g7 0), (5, .int .i64 x), (10, .int .i64 (List.length t1.list : Int)), (11, .int .i64 x12)]) (fun (x : Int) => [box g7 81 [.int .i64 t1.place, v2]]) ?_ ?_
        · clear hk16
          refine WJ.block ?_
          refine WJ.seq ?_
          refine WJ.quiet ?_
          refine QJ.step (YldS.yld (y_move rfl)) rfl ?_
          refine QJ.step (YldS.yld (y_assign rfl)) rfl ?_
          refine QJ.done ?_
          refine PJ.next ?_
          refine WJ.seq ?_
          refine WJ.quiet ?_
          refine QJ.step (YldS.yld (y_fldB (o := 0) fld81_0 rfl)) rfl ?_
          refine QJ.step (YldS.yld (y_loadB (k := 0) (off := 0) (v := .int .i64 t1.place) rfl Try.isAgg2 rfl rfl)) rfl ?_
          refine QJ.step (YldS.yld (y_bin rfl rfl rfl)) rfl ?_
          refine QJ.step (YldS.yld (y_move rfl)) rfl ?_
          refine QJ.step (YldS.yld (y_bin rfl rfl rfl)) rfl ?_
          refine QJ.step (YldS.yld (y_assign rfl)) rfl ?_
          refine QJ.done ?_
          refine PJ.next ?_
          refine WJ.seq ?_
          refine WJ.quiet ?_
          refine QJ.step (YldS.yld (y_move rfl)) rfl ?_
          refine QJ.step (YldS.yld (y_move rfl)) rfl ?_
          refine QJ.step (YldS.yld (y_lenS Try.runUnderlying42 hr6 rfl)) rfl ?_
          refine QJ.step (YldS.yld (y_bin rfl rfl rfl)) rfl ?_
          refine QJ.done ?_
          refine PJ.next ?_
          refine WJ.cond (t := decide ((w64 ((w64 (t1.place - 1)) + x12)) < (List.length table4 : Int))) rfl (fun hb17 => ?_) (fun hb17 => ?_)
          · replace hm := ifT hm hb17
            refine WJ.quiet ?_
            refine QJ.step (YldS.yld (y_move rfl)) rfl ?_
            refine QJ.step (YldS.yld (y_move rfl)) rfl ?_
            refine QJ.step (YldS.yld (y_move rfl)) rfl ?_
            obtain ⟨e18, h19, hm⟩ := bindS hm
            obtain ⟨ad20, _, rfl, ha21, hy22⟩ := hr6.elem h19
            refine QJ.step (YldS.yld (hy22 Try.runUnderlying42 Try.sizeOf2 rfl rfl)) rfl ?_
            refine QJ.step (YldS.yld (y_load1 (v := .int .i64 e18) Try.isAgg2 ha21 St.frozenC rfl)) rfl ?_
            refine QJ.step (YldS.yld (y_bin rfl rfl rfl)) rfl ?_
            refine QJ.step (YldS.yld (y_assign rfl)) rfl ?_
            refine QJ.done ?_
            refine PJ.block_normal ?_
            exact PJ.joined (w64 (sum11 + e18)) [0] hm ⟨rfl, rfl, rfl, rfl, rfl, trivial⟩ ⟨by decide, rfl⟩
          · replace hm := ifF hm hb17
            refine WJ.skip ?_
            refine PJ.block_normal ?_
            exact PJ.joined sum11 [0] hm ⟨rfl, rfl, rfl, rfl, rfl, trivial⟩ ⟨by decide, rfl⟩
        · rintro sum14 hm
          subst hk16
          refine WJ.quiet ?_
          refine QJ.step (YldS.yld (y_bin rfl rfl rfl)) rfl ?_
          refine QJ.step (YldS.yld (y_move rfl)) rfl ?_
          refine QJ.done ?_
          exact PJ.round (sum14, w64 (x12 + 1)) [0] hm ⟨rfl, rfl, rfl, rfl, rfl, trivial⟩ ⟨by decide, rfl⟩
      · replace hm := ifF hm hb13
        refine WJ.exit ?_
        refine PJ.then_exit (PJ.then_exit (PJ.block_exit ?_))
        exact PJ.joined sum11 [] hm ⟨rfl, trivial⟩ ⟨List.nodup_nil, rfl⟩
  · rintro sum8 hm
    subst hk10
    refine WJ.seq ?_
    refine WJ.quiet ?_
    refine QJ.step (YldS.yld (y_move rfl)) rfl ?_
    refine QJ.step (YldS.yld (y_assign rfl)) rfl ?_
    refine QJ.done ?_
    refine PJ.next ?_
    refine WJ.ret ?_
    obtain rfl := Option.some.inj hm
    refine PJ.sel (L' := []) [] ⟨List.nodup_nil, rfl⟩ ?_
    exact PJ.retn (vs := [.int .i64 sum8]) Try.results40 ⟨rfl, trivial⟩ ⟨rfl, rfl⟩

set_option maxRecDepth 100000 in
set_option maxHeartbeats 1000000 in
theorem ok_i_PrizesFor {N : Nat} {list1 : List Result} {prizes4 : List Int} {r : (List Int) × Int} (hm : i_PrizesFor N list1 prizes4 = some r) (w : World) (v2 : Value) (hr3 : RdS w (cx w).Fz v2 fResult.rp list1) (v5 : Value) (hr6 : RdS w (cx w).Fz v5 fI64.rp prizes4) :
    Calls Try.prog 14 #[v2, v5] w (RetG (cx w) fun u L => ∃ (u1 : Value), (u = tup [u1, .int .i64 r.2] ∧ L = [row u1 2 fI64 r.1])) := by
  unfold i_PrizesFor at hm
  refine Calls.enter [v2, v5] Try.func14 rfl Try.ntmps14 rfl ?_
  refine WJ.seq ?_
  refine WJ.quiet ?_
  refine QJ.step (YldS.yld (y_assign rfl)) rfl ?_
  refine QJ.step (YldS.yld (y_assign rfl)) rfl ?_
  refine QJ.done ?_
  refine PJ.next ?_
  refine WJ.seq ?_
  refine WJ.seq ?_
  refine WJ.quiet ?_
  refine QJ.step (YldS.yld (y_move rfl)) rfl ?_
  obtain ⟨r7, h8, hm⟩ := bindS hm
  refine QJ.step (y_call Try.call37 rfl (RetG.quiet fun w hw => ok_i_ValidResults h8 w _ (hr3.st hw))) rfl ?_
  refine QJ.step (YldS.yld (y_not rfl)) rfl ?_
  refine QJ.done ?_
  refine PJ.next ?_
  refine WJ.cond (t := !r7) rfl (fun hb9 => ?_) (fun hb9 => ?_)
  · replace hm := ifT hm hb9
    refine WJ.seq ?_
    refine WJ.quiet ?_
    refine QJ.step (YldS.yld (y_assign rfl)) rfl ?_
    refine QJ.step (YldS.yld (y_assign rfl)) rfl ?_
    refine QJ.done ?_
    refine PJ.next ?_
    refine WJ.ret ?_
    refine PJ.then_ret ?_
    refine PJ.nil_row 2 fI64 ?_
    obtain rfl := Option.some.inj hm
    refine PJ.sel (L' := [row (.slice none 0 0) 2 fI64 []]) [0] ⟨by decide, rfl⟩ ?_
    exact PJ.retn (vs := [(.slice none 0 0), .int .i64 1]) Try.results14 ⟨rfl, rfl, trivial⟩ ⟨_, rfl, rfl⟩
  · replace hm := ifF hm hb9
    refine WJ.skip ?_
    refine PJ.next ?_
    refine WJ.seq ?_
    refine WJ.seq ?_
    refine WJ.quiet ?_
    refine QJ.step (YldS.yld (y_move rfl)) rfl ?_
    obtain ⟨r10, h11, hm⟩ := bindS hm
    refine QJ.step (y_call Try.call38 rfl (RetG.quiet fun w hw => ok_i_isPointTable h11 w _ (hr6.st hw))) rfl ?_
    refine QJ.step (YldS.yld (y_not rfl)) rfl ?_
    refine QJ.done ?_
    refine PJ.next ?_
    refine WJ.cond (t := !r10) rfl (fun hb12 => ?_) (fun hb12 => ?_)
    · replace hm := ifT hm hb12
      refine WJ.seq ?_
      refine WJ.quiet ?_
      refine QJ.step (YldS.yld (y_assign rfl)) rfl ?_
      refine QJ.step (YldS.yld (y_assign rfl)) rfl ?_
      refine QJ.done ?_
      refine PJ.next ?_
      refine WJ.ret ?_
      refine PJ.then_ret ?_
      refine PJ.nil_row 2 fI64 ?_
      obtain rfl := Option.some.inj hm
      refine PJ.sel (L' := [row (.slice none 0 0) 2 fI64 []]) [0] ⟨by decide, rfl⟩ ?_
      exact PJ.retn (vs := [(.slice none 0 0), .int .i64 2]) Try.results14 ⟨rfl, rfl, trivial⟩ ⟨_, rfl, rfl⟩
    · replace hm := ifF hm hb12
      refine WJ.skip ?_
      refine PJ.next ?_
      refine WJ.seq ?_
      refine WJ.reg ?_
      refine SJ.q (YldS.yld (y_move rfl)) rfl ?_
      refine SJ.q (YldS.yld (y_lenS Try.runUnderlying41 hr3 rfl)) rfl ?_
      obtain ⟨l13, h14, hm⟩ := bindS hm
      refine SJ.makeSlice (R := fI64) (z := 0) h14 Try.underlying42 el2 rfl rfl rfl fun v15 => ?_
      refine SJ.q (YldS.yld (y_assign rfl)) rfl ?_
      refine SJ.nil ?_
      refine PJ.next ?_
      obtain ⟨kj17, hk18, hm⟩ := withK_open hm
      refine WJ.join (X := (List Int)) (fun (x : (List Int)) => kj17 x = some r) (fun (x : (List Int)) => [(6, v15)]) (fun (x : (List Int)) => [row v15 2 fI64 x]) ?_ ?_
      · clear hk18
        refine WJ.seq ?_
        refine WJ.reg ?_
        refine SJ.q (YldS.yld (y_move rfl)) rfl ?_
        obtain ⟨r19, h20, hm⟩ := bindS hm
        refine SJ.call Try.call39 rfl (fun w hw => ok_i_ties h20 w _ (hr3.st hw)) rfl ?_
        rintro v21 _ ⟨_, vs22, rfl, rfl⟩
        refine SJ.q (YldS.yld (y_lenSh (k := 0) (j := 1) rfl rfl Try.runUnderlying78 rfl)) rfl ?_
        refine SJ.q (YldS.yld (y_move rfl)) rfl ?_
        refine SJ.nil ?_
        refine PJ.next ?_
        refine WJ.block ?_
        refine WJ.sel (L' := (fun (x : (List Int) × Int) => [row v21 81 fRaw2 vs22, ins shTied 2 fI64 vs22 r19, row v15 2 fI64 x.1]) (l13, 0)) [0, 1, 2] ⟨by decide, rfl⟩ ?_
        refine WJ.sub (m' := (fun (x : (List Int) × Int) => [(1, v5), (6, v15), (23, v21), (24, .int .i64 (List.length r19 : Int)), (25, .int .i64 x.2)]) (l13, 0)) ⟨rfl, rfl, rfl, rfl, rfl, trivial⟩ ?_
        refine WJ.loop (X := (List Int) × Int) (fun N (x : (List Int) × Int) => i_PrizesFor_l1 kj17 prizes4 r19 N x.1 x.2 = some r) (fun (x : (List Int) × Int) => [(1, v5), (6, v15), (23, v21), (24, .int .i64 (List.length r19 : Int)), (25, .int .i64 x.2)]) (fun (x : (List Int) × Int) => [row v21 81 fRaw2 vs22, ins shTied 2 fI64 vs22 r19, row v15 2 fI64 x.1]) ?_ N (l13, 0) hm
        · rintro N ⟨l23, x24⟩ hI
          have hm := hI; clear hI
          cases N with
          | zero => cases hm
          | succ N =>
          unfold i_PrizesFor_l1 at hm
          refine WJ.seq ?_
          refine WJ.quiet ?_
          refine QJ.step (YldS.yld (y_bin rfl rfl rfl)) rfl ?_
          refine QJ.done ?_
          refine PJ.next ?_
          refine WJ.seq ?_
          refine WJ.cond (t := decide (x24 < (List.length r19 : Int))) rfl (fun hb25 => ?_) (fun hb25 => ?_)
          · replace hm := ifT hm hb25
            refine WJ.skip ?_
            refine PJ.next ?_
            obtain ⟨kj27, hk28, hm⟩ := withK_open hm
            refine WJ.join (X := (List Int)) (fun (x : (List Int)) => kj27 x = some r) (fun (x : (List Int)) => [(1, v5), (6, v15), (23, v21), (24, .int .i64 (List.length r19 : Int)), (25, .int .i64 x24)]) (fun (x : (List Int)) => [row v21 81 fRaw2 vs22, ins shTied 2 fI64 vs22 r19, row v15 2 fI64 x]) ?_ ?_
            · clear hk28
              refine WJ.block ?_
              refine WJ.seq ?_
              refine WJ.ins_len 1 rfl fun hl29 => ?_
              refine WJ.reg ?_
              obtain ⟨e30, h31, hm⟩ := bindS hm
              obtain ⟨y32, hy33⟩ := inn_idx hl29.1 h31
              obtain hs34 := hl29.2 _ _ _ hy33 h31
              refine SJ.q (YldS.yld (y_ixRow (k := 0) (R := fRaw2) rfl Try.runUnderlying78 Try.sizeOf81 rfl rfl hy33)) rfl ?_
              refine SJ.q (YldS.yld (y_loadRN (k := 0) (i := (Int.toNat x24)) (off := 0) (us := [.int .i64 e30.place, (shTied.sl y32)]) rfl Try.isAgg81 Try.sizeOf81 rfl (idx_get hy33) (sh_cells hs34 rfl))) rfl ?_
              refine SJ.alloc (cs := [.int .i64 0, .slice none 0 0]) Try.zeroValue81 rfl rfl fun g35 => ?_
              refine SJ.nil_row 2 fI64 ?_
              have hc36 := And.intro True.intro (sh_one hs34)
              refine SJ.storeL (k := 1) (off := 0) (us := [.int .i64 e30.place, (shTied.sl y32)]) rfl rfl rfl rfl Try.sizeOf81 rfl (by simp only [List.all_cons, hc36.2]; rfl) ?_
              refine SJ.nil ?_
              refine PJ.next ?_
              refine WJ.seq ?_
              refine WJ.quiet_draw follows (by kernel_rfl) ?_
              refine QJ.step (YldS.yld (y_loadBN (k := 1) (off := 0) (us := [.int .i64 e30.place, (shTied.sl y32)]) rfl Try.isAgg81 Try.sizeOf81 rfl rfl)) rfl ?_
              refine QJ.step (YldS.yld (y_move rfl)) rfl ?_
              obtain ⟨r37, h38, hm⟩ := bindS hm
              refine QJ.step (y_call Try.call40 rfl (RetG.quiet fun w hw => ok_i_tied_total h38 w _ (hw.ins_rd (k := 3) rfl rfl hy33 h31) _ (hr6.st hw))) rfl ?_
              refine QJ.step (YldS.yld (y_fldB (o := 0) fld81_1 rfl)) rfl ?_
              refine QJ.step (YldS.yld (y_loadB (k := 1) (off := 1) (v := (shTied.sl y32)) rfl Try.isAgg42 rfl rfl)) rfl ?_
              refine QJ.step (YldS.yld (y_lenG (fun w hw => (hw.ins_rd (k := 3) rfl rfl hy33 h31)) Try.runUnderlying42 rfl)) rfl ?_
              refine QJ.step (YldS.yld (y_assign rfl)) rfl ?_
              refine QJ.step (YldS.yld (y_assign rfl)) rfl ?_
              refine QJ.done ?_
              refine PJ.next ?_
              refine WJ.seq ?_
              refine WJ.quiet ?_
              refine QJ.step (YldS.yld (y_fldB (o := 0) fld81_1 rfl)) rfl ?_
              refine QJ.step (YldS.yld (y_loadB (k := 1) (off := 1) (v := (shTied.sl y32)) rfl Try.isAgg42 rfl rfl)) rfl ?_
              refine QJ.step (YldS.yld (y_lenG (fun w hw => (hw.ins_rd (k := 3) rfl rfl hy33 h31)) Try.runUnderlying42 rfl)) rfl ?_
              refine QJ.step (YldS.yld (y_move rfl)) rfl ?_
              refine QJ.done ?_
              refine PJ.next ?_
              refine WJ.block ?_
              refine WJ.sel (L' := (fun (x : (List Int) × Int) => [row v21 81 fRaw2 vs22, ins shTied 2 fI64 vs22 r19, row v15 2 fI64 x.1]) (l23, 0)) [2, 3, 4] ⟨by decide, rfl⟩ ?_
              refine WJ.sub (m' := (fun (x : (List Int) × Int) => [(1, v5), (6, v15), (9, .int .i64 r37), (10, .int .i64 (List.length e30.list : Int)), (23, v21), (24, .int .i64 (List.length r19 : Int)), (25, .int .i64 x24), (36, (shTied.sl y32)), (37, .int .i64 (List.length e30.list : Int)), (38, .int .i64 x.2)]) (l23, 0)) ⟨rfl, rfl, rfl, rfl, rfl, rfl, rfl, rfl, rfl, rfl, trivial⟩ ?_
              refine WJ.loop (X := (List Int) × Int) (fun N (x : (List Int) × Int) => i_PrizesFor_l2 kj27 e30 r37 N x.1 x.2 = some r) (fun (x : (List Int) × Int) => [(1, v5), (6, v15), (9, .int .i64 r37), (10, .int .i64 (List.length e30.list : Int)), (23, v21), (24, .int .i64 (List.length r19 : Int)), (25, .int .i64 x24), (36, (shTied.sl y32)), (37, .int .i64 (List.length e30.list : Int)), (38, .int .i64 x.2)]) (fun (x : (List Int) × Int) => [row v21 81 fRaw2 vs22, ins shTied 2 fI64 vs22 r19, row v15 2 fI64 x.1]) ?_ N (l23, 0) hm
              · rintro N ⟨l39, x40⟩ hI
                have hm := hI; clear hI
                cases N with
                | zero => cases hm
                | succ N =>
                unfold i_PrizesFor_l2 at hm
                refine WJ.seq ?_
                refine WJ.quiet ?_
                refine QJ.step (YldS.yld (y_bin rfl rfl rfl)) rfl ?_
                refine QJ.done ?_
                refine PJ.next ?_
                refine WJ.seq ?_
                refine WJ.cond (t := decide (x40 < (List.length e30.list : Int))) rfl (fun hb41 => ?_) (fun hb41 => ?_)
                · replace hm := ifT hm hb41
                  refine WJ.skip ?_
                  refine PJ.next ?_
                  obtain ⟨kj43, hk44, hm⟩ := withK_open hm
                  refine WJ.join (X := (List Int)) (fun (x : (List Int)) => kj43 x = some r) (fun (x : (List Int)) => [(1, v5), (6, v15), (9, .int .i64 r37), (10, .int .i64 (List.length e30.list : Int)), (23, v21), (24, .int .i64 (List.length r19 : Int)), (25, .int .i64 x24), (36, (shTied.sl y32)), (37, .int .i64 (List.length e30.list : Int)), (38, .int .i64 x40)]) (fun (x : (List Int)) => [row v21 81 fRaw2 vs22, ins shTied 2 fI64 vs22 r19, row v15 2 fI64 x]) ?_ ?_
                  · clear hk44
                    refine WJ.block ?_
                    refine WJ.seq ?_
                    refine WJ.quiet ?_
                    refine QJ.step (YldS.yld (y_move rfl)) rfl ?_
                    obtain ⟨e45, h46, hm⟩ := bindS hm
                    refine QJ.step (YldS.yld (y_ixG (R := fI64) (fun w hw => (hw.ins_rd (k := 1) rfl rfl hy33 h31)) Try.runUnderlying42 Try.sizeOf2 rfl rfl h46)) rfl ?_
                    refine QJ.step (YldS.yld (y_loadG (R := fI64) (i := (Int.toNat x40)) (off := 0) (fun w hw => (hw.ins_rd (k := 1) rfl rfl hy33 h31)) Try.isAgg2 rfl (idx_get h46) rfl)) rfl ?_
                    refine QJ.step (YldS.yld (y_assign rfl)) rfl ?_
                    refine QJ.step (YldS.yld (y_assign rfl)) rfl ?_
                    refine QJ.done ?_
                    refine PJ.next ?_
                    refine WJ.seq ?_
                    refine WJ.reg ?_
                    refine SJ.q (YldS.yld (y_move rfl)) rfl ?_
                    refine SJ.q (YldS.yld (y_move rfl)) rfl ?_
                    refine SJ.q (YldS.yld (y_move rfl)) rfl ?_
                    refine SJ.q (YldS.yld (y_move rfl)) rfl ?_
                    obtain ⟨q47, h48, hm⟩ := bindS hm
                    refine SJ.q (YldS.yld (y_quo' h48 rfl rfl)) rfl ?_
                    obtain ⟨e49, h50, hm⟩ := bindS hm
                    refine SJ.q (YldS.yld (y_ixRow (k := 2) (R := fI64) rfl Try.runUnderlying42 Try.sizeOf2 rfl rfl h50)) rfl ?_
                    refine SJ.storeRL (k := 2) (i := (Int.toNat e45)) (off := 0) (us := [.int .i64 q47]) (b := q47) rfl rfl (idx_get h50) rfl rfl Try.sizeOf2 rfl rfl rfl ?_
                    refine SJ.nil ?_
                    refine PJ.next ?_
                    refine WJ.seq ?_
                    refine WJ.quiet ?_
                    refine QJ.step (YldS.yld (y_move rfl)) rfl ?_
                    refine QJ.step (YldS.yld (y_move rfl)) rfl ?_
                    refine QJ.step (YldS.yld (y_move rfl)) rfl ?_
                    obtain ⟨q51, h52, hm⟩ := bindS hm
                    refine QJ.step (YldS.yld (y_rem' h52 rfl rfl)) rfl ?_
                    refine QJ.step (YldS.yld (y_bin rfl rfl rfl)) rfl ?_
                    refine QJ.done ?_
                    refine PJ.next ?_
                    refine WJ.cond (t := decide (x40 < q51)) rfl (fun hb53 => ?_) (fun hb53 => ?_)
                    · replace hm := ifT hm hb53
                      refine WJ.reg ?_
                      refine SJ.q (YldS.yld (y_move rfl)) rfl ?_
                      refine SJ.q (YldS.yld (y_move rfl)) rfl ?_
                      obtain ⟨e54, h55, hm⟩ := bindS hm
                      refine SJ.q (YldS.yld (y_ixRow (k := 2) (R := fI64) rfl Try.runUnderlying42 Try.sizeOf2 rfl rfl h55)) rfl ?_
                      refine SJ.q (YldS.yld (y_loadR (k := 2) (i := (Int.toNat e45)) (off := 0) (u := .int .i64 e54) rfl Try.isAgg2 rfl (idx_get h55) rfl)) rfl ?_
                      refine SJ.q (YldS.yld (y_bin rfl rfl rfl)) rfl ?_
                      obtain ⟨e56, h57, hm⟩ := bindS hm
                      refine SJ.q (YldS.yld (y_ixRow (k := 2) (R := fI64) rfl Try.runUnderlying42 Try.sizeOf2 rfl rfl h57)) rfl ?_
                      refine SJ.storeRL (k := 2) (i := (Int.toNat e45)) (off := 0) (us := [.int .i64 (w64 (e54 + 1))]) (b := w64 (e54 + 1)) rfl rfl (idx_get h57) rfl rfl Try.sizeOf2 rfl rfl rfl ?_
                      refine SJ.nil ?_
                      refine PJ.block_normal ?_
                      exact PJ.joined (List.set (List.set l39 (Int.toNat e45) q47) (Int.toNat e45) (w64 (e54 + 1))) [0, 1, 2] hm ⟨rfl, rfl, rfl, rfl, rfl, rfl, rfl, rfl, rfl, rfl, trivial⟩ ⟨by decide, rfl⟩
                    · replace hm := ifF hm hb53
                      refine WJ.skip ?_
                      refine PJ.block_normal ?_
                      exact PJ.joined (List.set l39 (Int.toNat e45) q47) [0, 1, 2] hm ⟨rfl, rfl, rfl, rfl, rfl, rfl, rfl, rfl, rfl, rfl, trivial⟩ ⟨by decide, rfl⟩
                  · rintro l42 hm
                    subst hk44
                    refine WJ.quiet ?_
                    refine QJ.step (YldS.yld (y_bin rfl rfl rfl)) rfl ?_
                    refine QJ.step (YldS.yld (y_move rfl)) rfl ?_
                    refine QJ.done ?_
                    exact PJ.round (l42, w64 (x40 + 1)) [0, 1, 2] hm ⟨rfl, rfl, rfl, rfl, rfl, rfl, rfl, rfl, rfl, rfl, trivial⟩ ⟨by decide, rfl⟩
                · replace hm := ifF hm hb41
                  refine WJ.exit ?_
                  refine PJ.then_exit (PJ.then_exit (PJ.block_exit (PJ.block_normal ?_)))
                  exact PJ.joined l39 [0, 1, 2] hm ⟨rfl, rfl, rfl, rfl, rfl, trivial⟩ ⟨by decide, rfl⟩
            · rintro l26 hm
              subst hk28
              refine WJ.quiet ?_
              refine QJ.step (YldS.yld (y_bin rfl rfl rfl)) rfl ?_
              refine QJ.step (YldS.yld (y_move rfl)) rfl ?_
              refine QJ.done ?_
              exact PJ.round (l26, w64 (x24 + 1)) [0, 1, 2] hm ⟨rfl, rfl, rfl, rfl, rfl, trivial⟩ ⟨by decide, rfl⟩
          · replace hm := ifF hm hb25
            refine WJ.exit ?_
            refine PJ.then_exit (PJ.then_exit (PJ.block_exit ?_))
            exact PJ.joined l23 [2] hm ⟨rfl, trivial⟩ ⟨by decide, rfl⟩
      · rintro l16 hm
        subst hk18
        refine WJ.seq ?_
        refine WJ.quiet ?_
        refine QJ.step (YldS.yld (y_move rfl)) rfl ?_
        refine QJ.step (YldS.yld (y_assign rfl)) rfl ?_
        refine QJ.step (YldS.yld (y_assign rfl)) rfl ?_
        refine QJ.done ?_
        refine PJ.next ?_
        refine WJ.ret ?_
        obtain rfl := Option.some.inj hm
        refine PJ.sel (L' := [row v15 2 fI64 l16]) [0] ⟨by decide, rfl⟩ ?_
        exact PJ.retn (vs := [v15, .int .i64 0]) Try.results14 ⟨rfl, rfl, trivial⟩ ⟨_, rfl, rfl⟩

set_option maxRecDepth 100000 in
set_option maxHeartbeats 1000000 in
theorem ok_s_l01Small {c1 : UInt8} {r : Bool} (hm : s_l01Small c1 = some r) (w : World)  :
    Calls Try.prog 111 #[.int .u8 (UInt8.toNat c1 : Int)] w (Ret (cx w) (.bool r)) := by
  unfold s_l01Small at hm
  refine Calls.enter [.int .u8 (UInt8.toNat c1 : Int)] Try.func111 rfl Try.ntmps111 rfl ?_
  refine WJ.seq ?_
  refine WJ.quiet ?_
  refine QJ.step (YldS.yld (y_assign rfl)) rfl ?_
  refine QJ.done ?_
  refine PJ.next ?_
  refine WJ.seq ?_
  refine WJ.quiet ?_
  refine QJ.step (YldS.yld (y_move rfl)) rfl ?_
  refine QJ.step (YldS.yld (y_bin8 c1 (97 : UInt8) rfl rfl rfl)) rfl ?_
  refine QJ.step (YldS.yld (y_move rfl)) rfl ?_
  obtain ⟨t2, h3, hm⟩ := bindS hm
  refine QJ.cut 3 [(8, .bool t2)] ?_ ?_
  · rcases Bool.eq_false_or_eq_true (decide (c1 ≥ (97 : UInt8))) with hb4 | hb4
    · replace h3 := andT h3 hb4
      refine QJ.on rfl rfl (cB hb4) (YldS.yld (y_move rfl)) rfl ?_
      refine QJ.on rfl rfl (cB hb4) (YldS.yld (y_bin8 c1 (122 : UInt8) rfl rfl rfl)) rfl ?_
      refine QJ.step (YldS.yld (y_pick_t (cB hb4) rfl)) rfl ?_
      obtain rfl := Option.some.inj h3
      exact QJ.cut_end ⟨rfl, trivial⟩
    · obtain rfl := andF h3 hb4
      refine QJ.off rfl rfl (cB hb4) rfl rfl ?_
      refine QJ.off rfl rfl (cB hb4) rfl rfl ?_
      refine QJ.step (YldS.yld (y_pick_f (cB hb4) rfl)) rfl ?_
      exact QJ.cut_end ⟨rfl, trivial⟩
  refine QJ.step (YldS.yld (y_assign rfl)) rfl ?_
  refine QJ.done ?_
  refine PJ.next ?_
  refine WJ.ret ?_
  obtain rfl := Option.some.inj hm
  refine PJ.sel (L' := []) [] ⟨List.nodup_nil, rfl⟩ ?_
  exact PJ.retn (vs := [.bool t2]) Try.results111 ⟨rfl, trivial⟩ ⟨rfl, rfl⟩

set_option maxRecDepth 100000 in
set_option maxHeartbeats 1000000 in
theorem ok_s_l01Digit {c1 : UInt8} {r : Bool} (hm : s_l01Digit c1 = some r) (w : World)  :
    Calls Try.prog 112 #[.int .u8 (UInt8.toNat c1 : Int)] w (Ret (cx w) (.bool r)) := by
  unfold s_l01Digit at hm
  refine Calls.enter [.int .u8 (UInt8.toNat c1 : Int)] Try.func112 rfl Try.ntmps112 rfl ?_
  refine WJ.seq ?_
  refine WJ.quiet ?_
  refine QJ.step (YldS.yld (y_assign rfl)) rfl ?_
  refine QJ.done ?_
  refine PJ.next ?_
  refine WJ.seq ?_
  refine WJ.quiet ?_
  refine QJ.step (YldS.yld (y_move rfl)) rfl ?_
  refine QJ.step (YldS.yld (y_bin8 c1 (48 : UInt8) rfl rfl rfl)) rfl ?_
  refine QJ.step (YldS.yld (y_move rfl)) rfl ?_
  obtain ⟨t2, h3, hm⟩ := bindS hm
  refine QJ.cut 3 [(8, .bool t2)] ?_ ?_
  · rcases Bool.eq_false_or_eq_true (decide (c1 ≥ (48 : UInt8))) with hb4 | hb4
    · replace h3 := andT h3 hb4
      refine QJ.on rfl rfl (cB hb4) (YldS.yld (y_move rfl)) rfl ?_
      refine QJ.on rfl rfl (cB hb4) (YldS.yld (y_bin8 c1 (57 : UInt8) rfl rfl rfl)) rfl ?_
      refine QJ.step (YldS.yld (y_pick_t (cB hb4) rfl)) rfl ?_
      obtain rfl := Option.some.inj h3
      exact QJ.cut_end ⟨rfl, trivial⟩
    · obtain rfl := andF h3 hb4
      refine QJ.off rfl rfl (cB hb4) rfl rfl ?_
      refine QJ.off rfl rfl (cB hb4) rfl rfl ?_
      refine QJ.step (YldS.yld (y_pick_f (cB hb4) rfl)) rfl ?_
      exact QJ.cut_end ⟨rfl, trivial⟩
  refine QJ.step (YldS.yld (y_assign rfl)) rfl ?_
  refine QJ.done ?_
  refine PJ.next ?_
  refine WJ.ret ?_
  obtain rfl := Option.some.inj hm
  refine PJ.sel (L' := []) [] ⟨List.nodup_nil, rfl⟩ ?_
  exact PJ.retn (vs := [.bool t2]) Try.results112 ⟨rfl, trivial⟩ ⟨rfl, rfl⟩

set_option maxRecDepth 100000 in
set_option maxHeartbeats 1000000 in
theorem ok_s_IsName {N : Nat} {s1 : Str} {r : Bool} (hm : s_IsName N s1 = some r) (w : World)  :
    Calls Try.prog 101 #[str s1] w (Ret (cx w) (.bool r)) := by
  unfold s_IsName at hm
  refine Calls.enter [str s1] Try.func101 rfl Try.ntmps101 rfl ?_
  refine WJ.seq ?_
  refine WJ.quiet ?_
  refine QJ.step (YldS.yld (y_assign rfl)) rfl ?_
  refine QJ.done ?_
  refine PJ.next ?_
  refine WJ.seq ?_
  refine WJ.seq ?_
  refine WJ.quiet ?_
  refine QJ.step (YldS.yld (y_move rfl)) rfl ?_
  refine QJ.step (YldS.yld (y_binS rfl rfl rfl)) rfl ?_
  refine QJ.step (YldS.yld (y_move rfl)) rfl ?_
  obtain ⟨t2, h3, hm⟩ := bindS hm
  refine QJ.cut 4 [(0, str s1), (10, .bool t2)] ?_ ?_
  · rcases Bool.eq_false_or_eq_true (s1 == []) with hb4 | hb4
    · obtain rfl := orT h3 hb4
      refine QJ.off rfl rfl (cB hb4) rfl rfl ?_
      refine QJ.off rfl rfl (cB hb4) rfl rfl ?_
      refine QJ.off rfl rfl (cB hb4) rfl rfl ?_
      refine QJ.step (YldS.yld (y_pick_t (cB hb4) rfl)) rfl ?_
      exact QJ.cut_end ⟨rfl, rfl, trivial⟩
    · replace h3 := orF h3 hb4
      refine QJ.on rfl rfl (cB hb4) (YldS.yld (y_move rfl)) rfl ?_
      refine QJ.on rfl rfl (cB hb4) (YldS.yld (y_lenStr Try.runUnderlying9 rfl)) rfl ?_
      refine QJ.on rfl rfl (cB hb4) (YldS.yld (y_bin rfl rfl rfl)) rfl ?_
      refine QJ.step (YldS.yld (y_pick_f (cB hb4) rfl)) rfl ?_
      obtain rfl := Option.some.inj h3
      exact QJ.cut_end ⟨rfl, rfl, trivial⟩
  refine QJ.step (YldS.yld (y_move rfl)) rfl ?_
  obtain ⟨t5, h6, hm⟩ := bindS hm
  refine QJ.cut 5 [(0, str s1), (16, .bool t5)] ?_ ?_
  · rcases Bool.eq_false_or_eq_true t2 with hb7 | hb7
    · obtain rfl := orT h6 hb7
      refine QJ.off rfl rfl (cB hb7) rfl rfl ?_
      refine QJ.off rfl rfl (cB hb7) rfl rfl ?_
      refine QJ.off rfl rfl (cB hb7) rfl rfl ?_
      refine QJ.off rfl rfl (cB hb7) rfl rfl ?_
      refine QJ.step (YldS.yld (y_pick_t (cB hb7) rfl)) rfl ?_
      exact QJ.cut_end ⟨rfl, rfl, trivial⟩
    · replace h6 := orF h6 hb7
      refine QJ.on rfl rfl (cB hb7) (YldS.yld (y_move rfl)) rfl ?_
      obtain ⟨c8, h9, h6⟩ := bindS h6
      refine QJ.on rfl rfl (cB hb7) (YldS.yld (y_idxStr Try.runUnderlying9 rfl rfl h9)) rfl ?_
      obtain ⟨r10, h11, h6⟩ := bindS h6
      refine QJ.on rfl rfl (cB hb7) (y_call Try.call111 rfl (RetG.quiet fun w hw => ok_s_l01Small h11 w )) rfl ?_
      refine QJ.on rfl rfl (cB hb7) (YldS.yld (y_not rfl)) rfl ?_
      refine QJ.step (YldS.yld (y_pick_f (cB hb7) rfl)) rfl ?_
      obtain rfl := Option.some.inj h6
      exact QJ.cut_end ⟨rfl, rfl, trivial⟩
  refine QJ.done ?_
  refine PJ.next ?_
  refine WJ.cond (t := t5) rfl (fun hb12 => ?_) (fun hb12 => ?_)
  · replace hm := ifT hm hb12
    refine WJ.seq ?_
    refine WJ.quiet ?_
    refine QJ.step (YldS.yld (y_assign rfl)) rfl ?_
    refine QJ.done ?_
    refine PJ.next ?_
    refine WJ.ret ?_
    refine PJ.then_ret ?_
    obtain rfl := Option.some.inj hm
    refine PJ.sel (L' := []) [] ⟨List.nodup_nil, rfl⟩ ?_
    exact PJ.retn (vs := [.bool false]) Try.results101 ⟨rfl, trivial⟩ ⟨rfl, rfl⟩
  · replace hm := ifF hm hb12
    refine WJ.skip ?_
    refine PJ.next ?_
    obtain ⟨kj13, hk14, hm⟩ := withK_open hm
    refine WJ.join (X := Unit) (fun (_ : Unit) => kj13  = some r) (fun (_ : Unit) => []) (fun (_ : Unit) => []) ?_ ?_
    · clear hk14
      refine WJ.seq ?_
      refine WJ.quiet ?_
      refine QJ.step (YldS.yld (y_assign rfl)) rfl ?_
      refine QJ.done ?_
      refine PJ.next ?_
      refine WJ.block ?_
      refine WJ.sel (L' := (fun (x : Int) => []) 0) [] ⟨List.nodup_nil, rfl⟩ ?_
      refine WJ.sub (m' := (fun (x : Int) => [(0, str s1), (3, .int .i64 x)]) 0) ⟨rfl, rfl, trivial⟩ ?_
      refine WJ.loop (X := Int) (fun N (x : Int) => s_IsName_l1 kj13 s1 N x = some r) (fun (x : Int) => [(0, str s1), (3, .int .i64 x)]) (fun (x : Int) => []) ?_ N 0 hm
      · rintro N i15 hI
        have hm := hI; clear hI
        cases N with
        | zero => cases hm
        | succ N =>
        unfold s_IsName_l1 at hm
        refine WJ.seq ?_
        refine WJ.seq ?_
        refine WJ.quiet ?_
        refine QJ.step (YldS.yld (y_move rfl)) rfl ?_
        refine QJ.step (YldS.yld (y_move rfl)) rfl ?_
        refine QJ.step (YldS.yld (y_lenStr Try.runUnderlying9 rfl)) rfl ?_
        refine QJ.step (YldS.yld (y_bin rfl rfl rfl)) rfl ?_
        refine QJ.done ?_
        refine PJ.next ?_
        refine WJ.cond (t := decide (i15 < (List.length s1 : Int))) rfl (fun hb16 => ?_) (fun hb16 => ?_)
        · replace hm := ifT hm hb16
          refine WJ.skip ?_
          refine PJ.next ?_
          refine WJ.seq ?_
          refine WJ.block ?_
          refine WJ.seq ?_
          refine WJ.quiet ?_
          refine QJ.step (YldS.yld (y_move rfl)) rfl ?_
          refine QJ.step (YldS.yld (y_move rfl)) rfl ?_
          obtain ⟨c17, h18, hm⟩ := bindS hm
          refine QJ.step (YldS.yld (y_idxStr Try.runUnderlying9 rfl rfl h18)) rfl ?_
          obtain ⟨r19, h20, hm⟩ := bindS hm
          refine QJ.step (y_call Try.call111 rfl (RetG.quiet fun w hw => ok_s_l01Small h20 w )) rfl ?_
          refine QJ.step (YldS.yld (y_not rfl)) rfl ?_
          refine QJ.step (YldS.yld (y_move rfl)) rfl ?_
          obtain ⟨t21, h22, hm⟩ := bindS hm
          refine QJ.cut 6 [(0, str s1), (3, .int .i64 i15), (34, .bool t21)] ?_ ?_
          · rcases Bool.eq_false_or_eq_true (!r19) with hb23 | hb23
            · replace h22 := andT h22 hb23
              refine QJ.on rfl rfl (cB hb23) (YldS.yld (y_move rfl)) rfl ?_
              refine QJ.on rfl rfl (cB hb23) (YldS.yld (y_move rfl)) rfl ?_
              obtain ⟨c24, h25, h22⟩ := bindS h22
              refine QJ.on rfl rfl (cB hb23) (YldS.yld (y_idxStr Try.runUnderlying9 rfl rfl h25)) rfl ?_
              obtain ⟨r26, h27, h22⟩ := bindS h22
              refine QJ.on rfl rfl (cB hb23) (y_call Try.call112 rfl (RetG.quiet fun w hw => ok_s_l01Digit h27 w )) rfl ?_
              refine QJ.on rfl rfl (cB hb23) (YldS.yld (y_not rfl)) rfl ?_
              refine QJ.step (YldS.yld (y_pick_t (cB hb23) rfl)) rfl ?_
              obtain rfl := Option.some.inj h22
              exact QJ.cut_end ⟨rfl, rfl, rfl, trivial⟩
            · obtain rfl := andF h22 hb23
              refine QJ.off rfl rfl (cB hb23) rfl rfl ?_
              refine QJ.off rfl rfl (cB hb23) rfl rfl ?_
              refine QJ.off rfl rfl (cB hb23) rfl rfl ?_
              refine QJ.off rfl rfl (cB hb23) rfl rfl ?_
              refine QJ.off rfl rfl (cB hb23) rfl rfl ?_
              refine QJ.step (YldS.yld (y_pick_f (cB hb23) rfl)) rfl ?_
              exact QJ.cut_end ⟨rfl, rfl, rfl, trivial⟩
          refine QJ.step (YldS.yld (y_move rfl)) rfl ?_
          obtain ⟨t28, h29, hm⟩ := bindS hm
          refine QJ.cut 5 [(0, str s1), (3, .int .i64 i15), (40, .bool t28)] ?_ ?_
          · rcases Bool.eq_false_or_eq_true t21 with hb30 | hb30
            · replace h29 := andT h29 hb30
              refine QJ.on rfl rfl (cB hb30) (YldS.yld (y_move rfl)) rfl ?_
              refine QJ.on rfl rfl (cB hb30) (YldS.yld (y_move rfl)) rfl ?_
              obtain ⟨c31, h32, h29⟩ := bindS h29
              refine QJ.on rfl rfl (cB hb30) (YldS.yld (y_idxStr Try.runUnderlying9 rfl rfl h32)) rfl ?_
              refine QJ.on rfl rfl (cB hb30) (YldS.yld (y_bin8 c31 (45 : UInt8) rfl rfl rfl)) rfl ?_
              refine QJ.step (YldS.yld (y_pick_t (cB hb30) rfl)) rfl ?_
              obtain rfl := Option.some.inj h29
              exact QJ.cut_end ⟨rfl, rfl, rfl, trivial⟩
            · obtain rfl := andF h29 hb30
              refine QJ.off rfl rfl (cB hb30) rfl rfl ?_
              refine QJ.off rfl rfl (cB hb30) rfl rfl ?_
              refine QJ.off rfl rfl (cB hb30) rfl rfl ?_
              refine QJ.off rfl rfl (cB hb30) rfl rfl ?_
              refine QJ.step (YldS.yld (y_pick_f (cB hb30) rfl)) rfl ?_
              exact QJ.cut_end ⟨rfl, rfl, rfl, trivial⟩
          refine QJ.done ?_
          refine PJ.next ?_
          refine WJ.cond (t := t28) rfl (fun hb33 => ?_) (fun hb33 => ?_)
          · replace hm := ifT hm hb33
            refine WJ.seq ?_
            refine WJ.quiet ?_
            refine QJ.step (YldS.yld (y_assign rfl)) rfl ?_
            refine QJ.done ?_
            refine PJ.next ?_
            refine WJ.ret ?_
            refine PJ.block_ret (PJ.then_ret (PJ.then_ret (PJ.block_ret (PJ.then_ret ?_))))
            obtain rfl := Option.some.inj hm
            refine PJ.sel (L' := []) [] ⟨List.nodup_nil, rfl⟩ ?_
            exact PJ.retn (vs := [.bool false]) Try.results101 ⟨rfl, trivial⟩ ⟨rfl, rfl⟩
          · replace hm := ifF hm hb33
            refine WJ.skip ?_
            refine PJ.block_normal (PJ.next ?_)
            refine WJ.quiet ?_
            refine QJ.step (YldS.yld (y_move rfl)) rfl ?_
            refine QJ.step (YldS.yld (y_bin rfl rfl rfl)) rfl ?_
            refine QJ.step (YldS.yld (y_assign rfl)) rfl ?_
            refine QJ.done ?_
            exact PJ.round (w64 (i15 + 1)) [] hm ⟨rfl, rfl, trivial⟩ ⟨List.nodup_nil, rfl⟩
        · replace hm := ifF hm hb16
          refine WJ.exit ?_
          refine PJ.then_exit (PJ.then_exit (PJ.block_exit ?_))
          exact PJ.joined () [] hm trivial ⟨List.nodup_nil, rfl⟩
    · rintro _ hm
      subst hk14
      refine WJ.seq ?_
      refine WJ.quiet ?_
      refine QJ.step (YldS.yld (y_assign rfl)) rfl ?_
      refine QJ.done ?_
      refine PJ.next ?_
      refine WJ.ret ?_
      obtain rfl := Option.some.inj hm
      refine PJ.sel (L' := []) [] ⟨List.nodup_nil, rfl⟩ ?_
      exact PJ.retn (vs := [.bool true]) Try.results101 ⟨rfl, trivial⟩ ⟨rfl, rfl⟩

set_option maxRecDepth 100000 in
set_option maxHeartbeats 1000000 in
theorem ok_s_l00In {n1 : Int} {low2 : Int} {high3 : Int} {r : Bool} (hm : s_l00In n1 low2 high3 = some r) (w : World)  :
    Calls Try.prog 52 #[.int .i64 n1, .int .i64 low2, .int .i64 high3] w (Ret (cx w) (.bool r)) := by
  unfold s_l00In at hm
  refine Calls.enter [.int .i64 n1, .int .i64 low2, .int .i64 high3] Try.func52 rfl Try.ntmps52 rfl ?_
  refine WJ.seq ?_
  refine WJ.quiet ?_
  refine QJ.step (YldS.yld (y_assign rfl)) rfl ?_
  refine QJ.done ?_
  refine PJ.next ?_
  refine WJ.seq ?_
  refine WJ.quiet ?_
  refine QJ.step (YldS.yld (y_move rfl)) rfl ?_
  refine QJ.step (YldS.yld (y_move rfl)) rfl ?_
  refine QJ.step (YldS.yld (y_bin rfl rfl rfl)) rfl ?_
  refine QJ.step (YldS.yld (y_move rfl)) rfl ?_
  obtain ⟨t4, h5, hm⟩ := bindS hm
  refine QJ.cut 4 [(14, .bool t4)] ?_ ?_
  · rcases Bool.eq_false_or_eq_true (decide (n1 ≥ low2)) with hb6 | hb6
    · replace h5 := andT h5 hb6
      refine QJ.on rfl rfl (cB hb6) (YldS.yld (y_move rfl)) rfl ?_
      refine QJ.on rfl rfl (cB hb6) (YldS.yld (y_move rfl)) rfl ?_
      refine QJ.on rfl rfl (cB hb6) (YldS.yld (y_bin rfl rfl rfl)) rfl ?_
      refine QJ.step (YldS.yld (y_pick_t (cB hb6) rfl)) rfl ?_
      obtain rfl := Option.some.inj h5
      exact QJ.cut_end ⟨rfl, trivial⟩
    · obtain rfl := andF h5 hb6
      refine QJ.off rfl rfl (cB hb6) rfl rfl ?_
      refine QJ.off rfl rfl (cB hb6) rfl rfl ?_
      refine QJ.off rfl rfl (cB hb6) rfl rfl ?_
      refine QJ.step (YldS.yld (y_pick_f (cB hb6) rfl)) rfl ?_
      exact QJ.cut_end ⟨rfl, trivial⟩
  refine QJ.step (YldS.yld (y_assign rfl)) rfl ?_
  refine QJ.done ?_
  refine PJ.next ?_
  refine WJ.ret ?_
  obtain rfl := Option.some.inj hm
  refine PJ.sel (L' := []) [] ⟨List.nodup_nil, rfl⟩ ?_
  exact PJ.retn (vs := [.bool t4]) Try.results52 ⟨rfl, trivial⟩ ⟨rfl, rfl⟩

set_option maxRecDepth 100000 in
set_option maxHeartbeats 1000000 in
theorem ok_s_l22One {N : Nat} {x1 : Result} {r : Bool} (hm : s_l22One N x1 = some r) (w : World) (ad2 : Addr) (ha3 : At w (cx w).Fz ad2 (fResult.enc x1)) :
    Calls Try.prog 66 #[.pointer (some ad2)] w (Ret (cx w) (.bool r)) := by
  unfold s_l22One at hm
  refine Calls.enter [.pointer (some ad2)] Try.func66 rfl Try.ntmps66 rfl ?_
  refine WJ.seq ?_
  refine WJ.quiet ?_
  refine QJ.step (YldS.yld (y_assign rfl)) rfl ?_
  refine QJ.done ?_
  refine PJ.next ?_
  refine WJ.seq ?_
  refine WJ.quiet ?_
  refine QJ.step (YldS.yld (y_move rfl)) rfl ?_
  refine QJ.step (YldS.yld (y_nil rfl)) rfl ?_
  refine QJ.step (YldS.yld (y_fld (ad := ad2) fld114_0 rfl)) rfl ?_
  refine QJ.step (YldS.yld (y_load1 (v := str x1.name) Try.isAgg9 (ha3.sub 0 1) St.frozenC rfl)) rfl ?_
  obtain ⟨r4, h5, hm⟩ := bindS hm
  refine QJ.step (y_call Try.call101 rfl (RetG.quiet fun w hw => ok_s_IsName h5 w )) rfl ?_
  refine QJ.step (YldS.yld (y_move rfl)) rfl ?_
  obtain ⟨t6, h7, hm⟩ := bindS hm
  refine QJ.cut 6 [(0, .pointer (some ad2)), (14, .bool t6)] ?_ ?_
  · rcases Bool.eq_false_or_eq_true r4 with hb8 | hb8
    · replace h7 := andT h7 hb8
      refine QJ.on rfl rfl (cB hb8) (YldS.yld (y_move rfl)) rfl ?_
      refine QJ.on rfl rfl (cB hb8) (YldS.yld (y_nil rfl)) rfl ?_
      refine QJ.on rfl rfl (cB hb8) (YldS.yld (y_fld (ad := ad2) fld114_1 rfl)) rfl ?_
      refine QJ.on rfl rfl (cB hb8) (YldS.yld (y_load1 (v := .int .i64 x1.net) Try.isAgg2 (ha3.sub 1 1) St.frozenC rfl)) rfl ?_
      obtain ⟨r9, h10, h7⟩ := bindS h7
      refine QJ.on rfl rfl (cB hb8) (y_call Try.call52 rfl (RetG.quiet fun w hw => ok_s_l00In h10 w )) rfl ?_
      refine QJ.step (YldS.yld (y_pick_t (cB hb8) rfl)) rfl ?_
      obtain rfl := Option.some.inj h7
      exact QJ.cut_end ⟨rfl, rfl, trivial⟩
    · obtain rfl := andF h7 hb8
      refine QJ.off rfl rfl (cB hb8) rfl rfl ?_
      refine QJ.off rfl rfl (cB hb8) rfl rfl ?_
      refine QJ.off rfl rfl (cB hb8) rfl rfl ?_
      refine QJ.off rfl rfl (cB hb8) rfl rfl ?_
      refine QJ.off rfl rfl (cB hb8) rfl rfl ?_
      refine QJ.step (YldS.yld (y_pick_f (cB hb8) rfl)) rfl ?_
      exact QJ.cut_end ⟨rfl, rfl, trivial⟩
  refine QJ.step (YldS.yld (y_move rfl)) rfl ?_
  obtain ⟨t11, h12, hm⟩ := bindS hm
  refine QJ.cut 6 [(21, .bool t11)] ?_ ?_
  · rcases Bool.eq_false_or_eq_true t6 with hb13 | hb13
    · replace h12 := andT h12 hb13
      refine QJ.on rfl rfl (cB hb13) (YldS.yld (y_move rfl)) rfl ?_
      refine QJ.on rfl rfl (cB hb13) (YldS.yld (y_nil rfl)) rfl ?_
      refine QJ.on rfl rfl (cB hb13) (YldS.yld (y_fld (ad := ad2) fld114_2 rfl)) rfl ?_
      refine QJ.on rfl rfl (cB hb13) (YldS.yld (y_load1 (v := .int .i64 x1.errors) Try.isAgg2 (ha3.sub 2 1) St.frozenC rfl)) rfl ?_
      obtain ⟨r14, h15, h12⟩ := bindS h12
      refine QJ.on rfl rfl (cB hb13) (y_call Try.call52 rfl (RetG.quiet fun w hw => ok_s_l00In h15 w )) rfl ?_
      refine QJ.step (YldS.yld (y_pick_t (cB hb13) rfl)) rfl ?_
      obtain rfl := Option.some.inj h12
      exact QJ.cut_end ⟨rfl, trivial⟩
    · obtain rfl := andF h12 hb13
      refine QJ.off rfl rfl (cB hb13) rfl rfl ?_
      refine QJ.off rfl rfl (cB hb13) rfl rfl ?_
      refine QJ.off rfl rfl (cB hb13) rfl rfl ?_
      refine QJ.off rfl rfl (cB hb13) rfl rfl ?_
      refine QJ.off rfl rfl (cB hb13) rfl rfl ?_
      refine QJ.step (YldS.yld (y_pick_f (cB hb13) rfl)) rfl ?_
      exact QJ.cut_end ⟨rfl, trivial⟩
  refine QJ.step (YldS.yld (y_assign rfl)) rfl ?_
  refine QJ.done ?_
  refine PJ.next ?_
  refine WJ.ret ?_
  obtain rfl := Option.some.inj hm
  refine PJ.sel (L' := []) [] ⟨List.nodup_nil, rfl⟩ ?_
  exact PJ.retn (vs := [.bool t11]) Try.results66 ⟨rfl, trivial⟩ ⟨rfl, rfl⟩

set_option maxRecDepth 100000 in
set_option maxHeartbeats 1000000 in
theorem ok_s_l22Ok {N : Nat} {list1 : List Result} {r : Bool} (hm : s_l22Ok N list1 = some r) (w : World) (v2 : Value) (hr3 : RdS w (cx w).Fz v2 fResult.rp list1) :
    Calls Try.prog 41 #[v2] w (Ret (cx w) (.bool r)) := by
  unfold s_l22Ok at hm
  refine Calls.enter [v2] Try.func41 rfl Try.ntmps41 rfl ?_
  refine WJ.seq ?_
  refine WJ.quiet ?_
  refine QJ.step (YldS.yld (y_assign rfl)) rfl ?_
  refine QJ.done ?_
  refine PJ.next ?_
  obtain ⟨kj4, hk5, hm⟩ := withK_open hm
  refine WJ.join (X := Unit) (fun (_ : Unit) => kj4  = some r) (fun (_ : Unit) => [(0, v2)]) (fun (_ : Unit) => []) ?_ ?_
  · clear hk5
    refine WJ.seq ?_
    refine WJ.quiet ?_
    refine QJ.step (YldS.yld (y_assign rfl)) rfl ?_
    refine QJ.done ?_
    refine PJ.next ?_
    refine WJ.block ?_
    refine WJ.sel (L' := (fun (x : Int) => []) 0) [] ⟨List.nodup_nil, rfl⟩ ?_
    refine WJ.sub (m' := (fun (x : Int) => [(0, v2), (3, .int .i64 x)]) 0) ⟨rfl, rfl, trivial⟩ ?_
    refine WJ.loop (X := Int) (fun N (x : Int) => s_l22Ok_l1 kj4 list1 N x = some r) (fun (x : Int) => [(0, v2), (3, .int .i64 x)]) (fun (x : Int) => []) ?_ N 0 hm
    · rintro N i6 hI
      have hm := hI; clear hI
      cases N with
      | zero => cases hm
      | succ N =>
      unfold s_l22Ok_l1 at hm
      refine WJ.seq ?_
      refine WJ.seq ?_
      refine WJ.quiet ?_
      refine QJ.step (YldS.yld (y_move rfl)) rfl ?_
      refine QJ.step (YldS.yld (y_move rfl)) rfl ?_
      refine QJ.step (YldS.yld (y_lenS Try.runUnderlying41 hr3 rfl)) rfl ?_
      refine QJ.step (YldS.yld (y_bin rfl rfl rfl)) rfl ?_
      refine QJ.done ?_
      refine PJ.next ?_
      refine WJ.cond (t := decide (i6 < (List.length list1 : Int))) rfl (fun hb7 => ?_) (fun hb7 => ?_)
      · replace hm := ifT hm hb7
        refine WJ.skip ?_
        refine PJ.next ?_
        obtain ⟨kj8, hk9, hm⟩ := withK_open hm
        refine WJ.join (X := Unit) (fun (_ : Unit) => kj8  = some r) (fun (_ : Unit) => [(0, v2), (3, .int .i64 i6)]) (fun (_ : Unit) => []) ?_ ?_
        · clear hk9
          refine WJ.block ?_
          refine WJ.seq ?_
          refine WJ.seq ?_
          refine WJ.quiet ?_
          refine QJ.step (YldS.yld (y_move rfl)) rfl ?_
          refine QJ.step (YldS.yld (y_move rfl)) rfl ?_
          obtain ⟨e10, h11, hm⟩ := bindS hm
          obtain ⟨ad12, _, rfl, ha13, hy14⟩ := hr3.elem h11
          refine QJ.step (YldS.yld (hy14 Try.runUnderlying41 Try.sizeOf114 rfl rfl)) rfl ?_
          obtain ⟨r15, h16, hm⟩ := bindS hm
          refine QJ.step (y_call Try.call66 rfl (RetG.quiet fun w hw => ok_s_l22One h16 w _ (ha13.st hw))) rfl ?_
          refine QJ.step (YldS.yld (y_not rfl)) rfl ?_
          refine QJ.done ?_
          refine PJ.next ?_
          refine WJ.cond (t := !r15) rfl (fun hb17 => ?_) (fun hb17 => ?_)
          · replace hm := ifT hm hb17
            refine WJ.seq ?_
            refine WJ.quiet ?_
            refine QJ.step (YldS.yld (y_assign rfl)) rfl ?_
            refine QJ.done ?_
            refine PJ.next ?_
            refine WJ.ret ?_
            refine PJ.then_ret (PJ.block_ret (PJ.then_ret (PJ.then_ret (PJ.block_ret (PJ.then_ret ?_)))))
            obtain rfl := Option.some.inj hm
            refine PJ.sel (L' := []) [] ⟨List.nodup_nil, rfl⟩ ?_
            exact PJ.retn (vs := [.bool false]) Try.results41 ⟨rfl, trivial⟩ ⟨rfl, rfl⟩
          · replace hm := ifF hm hb17
            refine WJ.skip ?_
            refine PJ.next ?_
            refine WJ.seq ?_
            refine WJ.quiet ?_
            refine QJ.step (YldS.yld (y_assign rfl)) rfl ?_
            refine QJ.done ?_
            refine PJ.next ?_
            refine WJ.block ?_
            refine WJ.sel (L' := (fun (x : Int) => []) 0) [] ⟨List.nodup_nil, rfl⟩ ?_
            refine WJ.sub (m' := (fun (x : Int) => [(0, v2), (3, .int .i64 i6), (4, .int .i64 x)]) 0) ⟨rfl, rfl, rfl, trivial⟩ ?_
            refine WJ.loop (X := Int) (fun N (x : Int) => s_l22Ok_l2 kj8 list1 i6 N x = some r) (fun (x : Int) => [(0, v2), (3, .int .i64 i6), (4, .int .i64 x)]) (fun (x : Int) => []) ?_ N 0 hm
            · rintro N k18 hI
              have hm := hI; clear hI
              cases N with
              | zero => cases hm
              | succ N =>
              unfold s_l22Ok_l2 at hm
              refine WJ.seq ?_
              refine WJ.seq ?_
              refine WJ.quiet ?_
              refine QJ.step (YldS.yld (y_move rfl)) rfl ?_
              refine QJ.step (YldS.yld (y_move rfl)) rfl ?_
              refine QJ.step (YldS.yld (y_bin rfl rfl rfl)) rfl ?_
              refine QJ.done ?_
              refine PJ.next ?_
              refine WJ.cond (t := decide (k18 < i6)) rfl (fun hb19 => ?_) (fun hb19 => ?_)
              · replace hm := ifT hm hb19
                refine WJ.skip ?_
                refine PJ.next ?_
                refine WJ.seq ?_
                refine WJ.block ?_
                refine WJ.seq ?_
                refine WJ.quiet_draw follows (by kernel_rfl) ?_
                refine QJ.step (YldS.yld (y_move rfl)) rfl ?_
                refine QJ.step (YldS.yld (y_move rfl)) rfl ?_
                obtain ⟨e20, h21, hm⟩ := bindS hm
                obtain ⟨ad22, _, rfl, ha23, hy24⟩ := hr3.elem h21
                refine QJ.step (YldS.yld (hy24 Try.runUnderlying41 Try.sizeOf114 rfl rfl)) rfl ?_
                refine QJ.step (YldS.yld (y_fld (ad := ad22) fld114_0 rfl)) rfl ?_
                refine QJ.step (YldS.yld (y_load1 (v := str e20.name) Try.isAgg9 (ha23.sub 0 1) St.frozenC rfl)) rfl ?_
                refine QJ.step (YldS.yld (y_move rfl)) rfl ?_
                refine QJ.step (YldS.yld (y_move rfl)) rfl ?_
                obtain ⟨e25, h26, hm⟩ := bindS hm
                obtain ⟨ad27, _, rfl, ha28, hy29⟩ := hr3.elem h26
                refine QJ.step (YldS.yld (hy29 Try.runUnderlying41 Try.sizeOf114 rfl rfl)) rfl ?_
                refine QJ.step (YldS.yld (y_fld (ad := ad27) fld114_0 rfl)) rfl ?_
                refine QJ.step (YldS.yld (y_load1 (v := str e25.name) Try.isAgg9 (ha28.sub 0 1) St.frozenC rfl)) rfl ?_
                refine QJ.step (YldS.yld (y_binS rfl rfl rfl)) rfl ?_
                refine QJ.done ?_
                refine PJ.next ?_
                refine WJ.cond (t := (e20.name == e25.name)) rfl (fun hb30 => ?_) (fun hb30 => ?_)
                · replace hm := ifT hm hb30
                  refine WJ.seq ?_
                  refine WJ.quiet ?_
                  refine QJ.step (YldS.yld (y_assign rfl)) rfl ?_
                  refine QJ.done ?_
                  refine PJ.next ?_
                  refine WJ.ret ?_
                  refine PJ.block_ret (PJ.then_ret (PJ.then_ret (PJ.block_ret (PJ.block_ret (PJ.then_ret (PJ.then_ret (PJ.block_ret (PJ.then_ret ?_))))))))
                  obtain rfl := Option.some.inj hm
                  refine PJ.sel (L' := []) [] ⟨List.nodup_nil, rfl⟩ ?_
                  exact PJ.retn (vs := [.bool false]) Try.results41 ⟨rfl, trivial⟩ ⟨rfl, rfl⟩
                · replace hm := ifF hm hb30
                  refine WJ.skip ?_
                  refine PJ.block_normal (PJ.next ?_)
                  refine WJ.quiet ?_
                  refine QJ.step (YldS.yld (y_move rfl)) rfl ?_
                  refine QJ.step (YldS.yld (y_bin rfl rfl rfl)) rfl ?_
                  refine QJ.step (YldS.yld (y_assign rfl)) rfl ?_
                  refine QJ.done ?_
                  exact PJ.round (w64 (k18 + 1)) [] hm ⟨rfl, rfl, rfl, trivial⟩ ⟨List.nodup_nil, rfl⟩
              · replace hm := ifF hm hb19
                refine WJ.exit ?_
                refine PJ.then_exit (PJ.then_exit (PJ.block_exit (PJ.block_normal ?_)))
                exact PJ.joined () [] hm ⟨rfl, rfl, trivial⟩ ⟨List.nodup_nil, rfl⟩
        · rintro _ hm
          subst hk9
          refine WJ.quiet ?_
          refine QJ.step (YldS.yld (y_move rfl)) rfl ?_
          refine QJ.step (YldS.yld (y_bin rfl rfl rfl)) rfl ?_
          refine QJ.step (YldS.yld (y_assign rfl)) rfl ?_
          refine QJ.done ?_
          exact PJ.round (w64 (i6 + 1)) [] hm ⟨rfl, rfl, trivial⟩ ⟨List.nodup_nil, rfl⟩
      · replace hm := ifF hm hb7
        refine WJ.exit ?_
        refine PJ.then_exit (PJ.then_exit (PJ.block_exit ?_))
        exact PJ.joined () [] hm ⟨rfl, trivial⟩ ⟨List.nodup_nil, rfl⟩
  · rintro _ hm
    subst hk5
    refine WJ.seq ?_
    refine WJ.quiet ?_
    refine QJ.step (YldS.yld (y_move rfl)) rfl ?_
    refine QJ.step (YldS.yld (y_lenS Try.runUnderlying41 hr3 rfl)) rfl ?_
    refine QJ.step (YldS.yld (y_bin rfl rfl rfl)) rfl ?_
    refine QJ.step (YldS.yld (y_assign rfl)) rfl ?_
    refine QJ.done ?_
    refine PJ.next ?_
    refine WJ.ret ?_
    obtain rfl := Option.some.inj hm
    refine PJ.sel (L' := []) [] ⟨List.nodup_nil, rfl⟩ ?_
    exact PJ.retn (vs := [.bool (decide ((List.length list1 : Int) ≤ 40))]) Try.results41 ⟨rfl, trivial⟩ ⟨rfl, rfl⟩

set_option maxRecDepth 100000 in
set_option maxHeartbeats 1000000 in
theorem ok_s_l22Table {N : Nat} {table1 : List Int} {r : Bool} (hm : s_l22Table N table1 = some r) (w : World) (v2 : Value) (hr3 : RdS w (cx w).Fz v2 fI64.rp table1) :
    Calls Try.prog 42 #[v2] w (Ret (cx w) (.bool r)) := by
  unfold s_l22Table at hm
  refine Calls.enter [v2] Try.func42 rfl Try.ntmps42 rfl ?_
  refine WJ.seq ?_
  refine WJ.quiet ?_
  refine QJ.step (YldS.yld (y_assign rfl)) rfl ?_
  refine QJ.done ?_
  refine PJ.next ?_
  obtain ⟨kj4, hk5, hm⟩ := withK_open hm
  refine WJ.join (X := Unit) (fun (_ : Unit) => kj4  = some r) (fun (_ : Unit) => [(0, v2)]) (fun (_ : Unit) => []) ?_ ?_
  · clear hk5
    refine WJ.seq ?_
    refine WJ.quiet ?_
    refine QJ.step (YldS.yld (y_assign rfl)) rfl ?_
    refine QJ.done ?_
    refine PJ.next ?_
    refine WJ.block ?_
    refine WJ.sel (L' := (fun (x : Int) => []) 0) [] ⟨List.nodup_nil, rfl⟩ ?_
    refine WJ.sub (m' := (fun (x : Int) => [(0, v2), (3, .int .i64 x)]) 0) ⟨rfl, rfl, trivial⟩ ?_
    refine WJ.loop (X := Int) (fun N (x : Int) => s_l22Table_l1 kj4 table1 N x = some r) (fun (x : Int) => [(0, v2), (3, .int .i64 x)]) (fun (x : Int) => []) ?_ N 0 hm
    · rintro N i6 hI
      have hm := hI; clear hI
      cases N with
      | zero => cases hm
      | succ N =>
      unfold s_l22Table_l1 at hm
      refine WJ.seq ?_
      refine WJ.seq ?_
      refine WJ.quiet ?_
      refine QJ.step (YldS.yld (y_move rfl)) rfl ?_
      refine QJ.step (YldS.yld (y_move rfl)) rfl ?_
      refine QJ.step (YldS.yld (y_lenS Try.runUnderlying42 hr3 rfl)) rfl ?_
      refine QJ.step (YldS.yld (y_bin rfl rfl rfl)) rfl ?_
      refine QJ.done ?_
      refine PJ.next ?_
      refine WJ.cond (t := decide (i6 < (List.length table1 : Int))) rfl (fun hb7 => ?_) (fun hb7 => ?_)
      · replace hm := ifT hm hb7
        refine WJ.skip ?_
        refine PJ.next ?_
        refine WJ.seq ?_
        refine WJ.block ?_
        refine WJ.seq ?_
        refine WJ.quiet ?_
        refine QJ.step (YldS.yld (y_move rfl)) rfl ?_
        refine QJ.step (YldS.yld (y_move rfl)) rfl ?_
        obtain ⟨e8, h9, hm⟩ := bindS hm
        obtain ⟨ad10, _, rfl, ha11, hy12⟩ := hr3.elem h9
        refine QJ.step (YldS.yld (hy12 Try.runUnderlying42 Try.sizeOf2 rfl rfl)) rfl ?_
        refine QJ.step (YldS.yld (y_load1 (v := .int .i64 e8) Try.isAgg2 ha11 St.frozenC rfl)) rfl ?_
        obtain ⟨r13, h14, hm⟩ := bindS hm
        refine QJ.step (y_call Try.call52 rfl (RetG.quiet fun w hw => ok_s_l00In h14 w )) rfl ?_
        refine QJ.step (YldS.yld (y_not rfl)) rfl ?_
        refine QJ.done ?_
        refine PJ.next ?_
        refine WJ.cond (t := !r13) rfl (fun hb15 => ?_) (fun hb15 => ?_)
        · replace hm := ifT hm hb15
          refine WJ.seq ?_
          refine WJ.quiet ?_
          refine QJ.step (YldS.yld (y_assign rfl)) rfl ?_
          refine QJ.done ?_
          refine PJ.next ?_
          refine WJ.ret ?_
          refine PJ.block_ret (PJ.then_ret (PJ.then_ret (PJ.block_ret (PJ.then_ret ?_))))
          obtain rfl := Option.some.inj hm
          refine PJ.sel (L' := []) [] ⟨List.nodup_nil, rfl⟩ ?_
          exact PJ.retn (vs := [.bool false]) Try.results42 ⟨rfl, trivial⟩ ⟨rfl, rfl⟩
        · replace hm := ifF hm hb15
          refine WJ.skip ?_
          refine PJ.block_normal (PJ.next ?_)
          refine WJ.quiet ?_
          refine QJ.step (YldS.yld (y_move rfl)) rfl ?_
          refine QJ.step (YldS.yld (y_bin rfl rfl rfl)) rfl ?_
          refine QJ.step (YldS.yld (y_assign rfl)) rfl ?_
          refine QJ.done ?_
          exact PJ.round (w64 (i6 + 1)) [] hm ⟨rfl, rfl, trivial⟩ ⟨List.nodup_nil, rfl⟩
      · replace hm := ifF hm hb7
        refine WJ.exit ?_
        refine PJ.then_exit (PJ.then_exit (PJ.block_exit ?_))
        exact PJ.joined () [] hm ⟨rfl, trivial⟩ ⟨List.nodup_nil, rfl⟩
  · rintro _ hm
    subst hk5
    refine WJ.seq ?_
    refine WJ.quiet ?_
    refine QJ.step (YldS.yld (y_move rfl)) rfl ?_
    refine QJ.step (YldS.yld (y_lenS Try.runUnderlying42 hr3 rfl)) rfl ?_
    refine QJ.step (YldS.yld (y_bin rfl rfl rfl)) rfl ?_
    refine QJ.step (YldS.yld (y_assign rfl)) rfl ?_
    refine QJ.done ?_
    refine PJ.next ?_
    refine WJ.ret ?_
    obtain rfl := Option.some.inj hm
    refine PJ.sel (L' := []) [] ⟨List.nodup_nil, rfl⟩ ?_
    exact PJ.retn (vs := [.bool (decide ((List.length table1 : Int) ≤ 20))]) Try.results42 ⟨rfl, trivial⟩ ⟨rfl, rfl⟩

set_option maxRecDepth 100000 in
set_option maxHeartbeats 1000000 in
theorem ok_s_l22Better {a1 : Result} {b4 : Result} {r : Bool} (hm : s_l22Better a1 b4 = some r) (w : World) (ad2 : Addr) (ha3 : At w (cx w).Fz ad2 (fResult.enc a1)) (ad5 : Addr) (ha6 : At w (cx w).Fz ad5 (fResult.enc b4)) :
    Calls Try.prog 68 #[.pointer (some ad2), .pointer (some ad5)] w (Ret (cx w) (.bool r)) := by
  unfold s_l22Better at hm
  refine Calls.enter [.pointer (some ad2), .pointer (some ad5)] Try.func68 rfl Try.ntmps68 rfl ?_
  refine WJ.seq ?_
  refine WJ.quiet ?_
  refine QJ.step (YldS.yld (y_assign rfl)) rfl ?_
  refine QJ.done ?_
  refine PJ.next ?_
  refine WJ.seq ?_
  refine WJ.quiet_draw follows (by kernel_rfl) ?_
  refine QJ.step (YldS.yld (y_move rfl)) rfl ?_
  refine QJ.step (YldS.yld (y_nil rfl)) rfl ?_
  refine QJ.step (YldS.yld (y_fld (ad := ad2) fld114_1 rfl)) rfl ?_
  refine QJ.step (YldS.yld (y_load1 (v := .int .i64 a1.net) Try.isAgg2 (ha3.sub 1 1) St.frozenC rfl)) rfl ?_
  refine QJ.step (YldS.yld (y_move rfl)) rfl ?_
  refine QJ.step (YldS.yld (y_nil rfl)) rfl ?_
  refine QJ.step (YldS.yld (y_fld (ad := ad5) fld114_1 rfl)) rfl ?_
  refine QJ.step (YldS.yld (y_load1 (v := .int .i64 b4.net) Try.isAgg2 (ha6.sub 1 1) St.frozenC rfl)) rfl ?_
  refine QJ.step (YldS.yld (y_bin rfl rfl rfl)) rfl ?_
  refine QJ.step (YldS.yld (y_move rfl)) rfl ?_
  obtain ⟨t7, h8, hm⟩ := bindS hm
  refine QJ.cut 21 [(35, .bool t7)] ?_ ?_
  · rcases Bool.eq_false_or_eq_true (decide (a1.net > b4.net)) with hb9 | hb9
    · obtain rfl := orT h8 hb9
      refine QJ.off rfl rfl (cB hb9) rfl rfl ?_
      refine QJ.off rfl rfl (cB hb9) rfl rfl ?_
      refine QJ.off rfl rfl (cB hb9) rfl rfl ?_
      refine QJ.off rfl rfl (cB hb9) rfl rfl ?_
      refine QJ.off rfl rfl (cB hb9) rfl rfl ?_
      refine QJ.off rfl rfl (cB hb9) rfl rfl ?_
      refine QJ.off rfl rfl (cB hb9) rfl rfl ?_
      refine QJ.off rfl rfl (cB hb9) rfl rfl ?_
      refine QJ.off rfl rfl (cB hb9) rfl rfl ?_
      refine QJ.off rfl rfl (cB hb9) rfl rfl ?_
      refine QJ.off_undef rfl rfl rfl rfl ?_
      refine QJ.off_undef rfl rfl rfl rfl ?_
      refine QJ.off_undef rfl rfl rfl rfl ?_
      refine QJ.off_undef rfl rfl rfl rfl ?_
      refine QJ.off_undef rfl rfl rfl rfl ?_
      refine QJ.off_undef rfl rfl rfl rfl ?_
      refine QJ.off_undef rfl rfl rfl rfl ?_
      refine QJ.off_undef rfl rfl rfl rfl ?_
      refine QJ.off_undef rfl rfl rfl rfl ?_
      refine QJ.off rfl rfl (cB hb9) rfl rfl ?_
      refine QJ.step (YldS.yld (y_pick_t (cB hb9) rfl)) rfl ?_
      exact QJ.cut_end ⟨rfl, trivial⟩
    · replace h8 := orF h8 hb9
      refine QJ.on rfl rfl (cB hb9) (YldS.yld (y_move rfl)) rfl ?_
      refine QJ.on rfl rfl (cB hb9) (YldS.yld (y_nil rfl)) rfl ?_
      refine QJ.on rfl rfl (cB hb9) (YldS.yld (y_fld (ad := ad2) fld114_1 rfl)) rfl ?_
      refine QJ.on rfl rfl (cB hb9) (YldS.yld (y_load1 (v := .int .i64 a1.net) Try.isAgg2 (ha3.sub 1 1) St.frozenC rfl)) rfl ?_
      refine QJ.on rfl rfl (cB hb9) (YldS.yld (y_move rfl)) rfl ?_
      refine QJ.on rfl rfl (cB hb9) (YldS.yld (y_nil rfl)) rfl ?_
      refine QJ.on rfl rfl (cB hb9) (YldS.yld (y_fld (ad := ad5) fld114_1 rfl)) rfl ?_
      refine QJ.on rfl rfl (cB hb9) (YldS.yld (y_load1 (v := .int .i64 b4.net) Try.isAgg2 (ha6.sub 1 1) St.frozenC rfl)) rfl ?_
      refine QJ.on rfl rfl (cB hb9) (YldS.yld (y_bin rfl rfl rfl)) rfl ?_
      refine QJ.on rfl rfl (cB hb9) (YldS.yld (y_move rfl)) rfl ?_
      obtain ⟨t10, h11, h8⟩ := bindS h8
      refine QJ.cut 10 [(14, .bool (decide (a1.net > b4.net))), (34, .bool t10)] ?_ ?_
      · rcases Bool.eq_false_or_eq_true (a1.net == b4.net) with hb12 | hb12
        · replace h11 := andT h11 hb12
          refine QJ.on rfl rfl (cB hb12) (YldS.yld (y_move rfl)) rfl ?_
          refine QJ.on rfl rfl (cB hb12) (YldS.yld (y_nil rfl)) rfl ?_
          refine QJ.on rfl rfl (cB hb12) (YldS.yld (y_fld (ad := ad2) fld114_2 rfl)) rfl ?_
          refine QJ.on rfl rfl (cB hb12) (YldS.yld (y_load1 (v := .int .i64 a1.errors) Try.isAgg2 (ha3.sub 2 1) St.frozenC rfl)) rfl ?_
          refine QJ.on rfl rfl (cB hb12) (YldS.yld (y_move rfl)) rfl ?_
          refine QJ.on rfl rfl (cB hb12) (YldS.yld (y_nil rfl)) rfl ?_
          refine QJ.on rfl rfl (cB hb12) (YldS.yld (y_fld (ad := ad5) fld114_2 rfl)) rfl ?_
          refine QJ.on rfl rfl (cB hb12) (YldS.yld (y_load1 (v := .int .i64 b4.errors) Try.isAgg2 (ha6.sub 2 1) St.frozenC rfl)) rfl ?_
          refine QJ.on rfl rfl (cB hb12) (YldS.yld (y_bin rfl rfl rfl)) rfl ?_
          refine QJ.on rfl rfl (cB hb9) (YldS.yld (y_pick_t (cB hb12) rfl)) rfl ?_
          obtain rfl := Option.some.inj h11
          exact QJ.cut_end ⟨rfl, rfl, trivial⟩
        · obtain rfl := andF h11 hb12
          refine QJ.off rfl rfl (cB hb12) rfl rfl ?_
          refine QJ.off rfl rfl (cB hb12) rfl rfl ?_
          refine QJ.off rfl rfl (cB hb12) rfl rfl ?_
          refine QJ.off rfl rfl (cB hb12) rfl rfl ?_
          refine QJ.off rfl rfl (cB hb12) rfl rfl ?_
          refine QJ.off rfl rfl (cB hb12) rfl rfl ?_
          refine QJ.off rfl rfl (cB hb12) rfl rfl ?_
          refine QJ.off rfl rfl (cB hb12) rfl rfl ?_
          refine QJ.off rfl rfl (cB hb12) rfl rfl ?_
          refine QJ.on rfl rfl (cB hb9) (YldS.yld (y_pick_f (cB hb12) rfl)) rfl ?_
          exact QJ.cut_end ⟨rfl, rfl, trivial⟩
      refine QJ.step (YldS.yld (y_pick_f (cB hb9) rfl)) rfl ?_
      obtain rfl := Option.some.inj h8
      exact QJ.cut_end ⟨rfl, trivial⟩
  refine QJ.step (YldS.yld (y_assign rfl)) rfl ?_
  refine QJ.done ?_
  refine PJ.next ?_
  refine WJ.ret ?_
  obtain rfl := Option.some.inj hm
  refine PJ.sel (L' := []) [] ⟨List.nodup_nil, rfl⟩ ?_
  exact PJ.retn (vs := [.bool t7]) Try.results68 ⟨rfl, trivial⟩ ⟨rfl, rfl⟩

set_option maxRecDepth 100000 in
set_option maxHeartbeats 1000000 in
theorem ok_s_l00Own {list1 : List Int} {r : (List Int)} (hm : s_l00Own list1 = some r) (w : World) (v2 : Value) (hr3 : RdS w (cx w).Fz v2 fI64.rp list1) :
    Calls Try.prog 102 #[v2] w (RetG (cx w) fun u L => ∃ (u1 : Value), (u = u1 ∧ L = [row u1 2 fI64 r])) := by
  unfold s_l00Own at hm
  refine Calls.enter [v2] Try.func102 rfl Try.ntmps102 rfl ?_
  refine WJ.seq ?_
  refine WJ.quiet ?_
  refine QJ.step (YldS.yld (y_assign rfl)) rfl ?_
  refine QJ.done ?_
  refine PJ.next ?_
  refine WJ.seq ?_
  refine WJ.reg ?_
  refine SJ.buildSlice (R := fI64) (os := []) [] Try.runUnderlying42 Try.sizeOf2 Try.zeroValue2 rfl rfl rfl rfl rfl rfl fun v4 => ?_
  refine SJ.q (YldS.yld (y_move rfl)) rfl ?_
  obtain ⟨l5, h6, hm⟩ := bindS hm
  refine SJ.append (k := 0) (R := fI64) h6 rfl Try.underlying42 el2 rfl rfl rfl (fun w hw => (hr3.st hw)) rfl fun v7 => ?_
  refine SJ.q (YldS.yld (y_assign rfl)) rfl ?_
  refine SJ.nil ?_
  refine PJ.next ?_
  refine WJ.ret ?_
  obtain rfl := Option.some.inj hm
  refine PJ.sel (L' := [row v7 2 fI64 l5]) [0] ⟨by decide, rfl⟩ ?_
  exact PJ.retn (vs := [v7]) Try.results102 ⟨rfl, trivial⟩ ⟨_, rfl, rfl⟩

set_option maxRecDepth 100000 in
set_option maxHeartbeats 1000000 in
theorem ok_s_l22Rank {N : Nat} {list1 : List Result} {r : (List Int)} (hm : s_l22Rank N list1 = some r) (w : World) (v2 : Value) (hr3 : RdS w (cx w).Fz v2 fResult.rp list1) :
    Calls Try.prog 67 #[v2] w (RetG (cx w) fun u L => ∃ (u1 : Value), (u = u1 ∧ L = [row u1 2 fI64 r])) := by
  unfold s_l22Rank at hm
  refine Calls.enter [v2] Try.func67 rfl Try.ntmps67 rfl ?_
  refine WJ.seq ?_
  refine WJ.quiet ?_
  refine QJ.step (YldS.yld (y_assign rfl)) rfl ?_
  refine QJ.done ?_
  refine PJ.next ?_
  refine WJ.seq ?_
  refine WJ.reg ?_
  refine SJ.buildSlice (R := fI64) (os := []) [] Try.runUnderlying42 Try.sizeOf2 Try.zeroValue2 rfl rfl rfl rfl rfl rfl fun v4 => ?_
  refine SJ.q (YldS.yld (y_assign rfl)) rfl ?_
  refine SJ.nil ?_
  refine PJ.next ?_
  obtain ⟨kj7, hk8, hm⟩ := withK_open hm
  refine WJ.join (X := (List Int) × Value) (fun (x : (List Int) × Value) => kj7 x.1 = some r) (fun (x : (List Int) × Value) => [(3, x.2)]) (fun (x : (List Int) × Value) => [row x.2 2 fI64 x.1]) ?_ ?_
  · clear hk8
    refine WJ.seq ?_
    refine WJ.quiet ?_
    refine QJ.step (YldS.yld (y_assign rfl)) rfl ?_
    refine QJ.done ?_
    refine PJ.next ?_
    refine WJ.block ?_
    refine WJ.sel (L' := (fun (x : (List Int) × Value × Int) => [row x.2.1 2 fI64 x.1]) ([], v4, 0)) [0] ⟨by decide, rfl⟩ ?_
    refine WJ.sub (m' := (fun (x : (List Int) × Value × Int) => [(0, v2), (3, x.2.1), (4, .int .i64 x.2.2)]) ([], v4, 0)) ⟨rfl, rfl, rfl, trivial⟩ ?_
    refine WJ.loop (X := (List Int) × Value × Int) (fun N (x : (List Int) × Value × Int) => s_l22Rank_l1 kj7 list1 N x.1 x.2.2 = some r) (fun (x : (List Int) × Value × Int) => [(0, v2), (3, x.2.1), (4, .int .i64 x.2.2)]) (fun (x : (List Int) × Value × Int) => [row x.2.1 2 fI64 x.1]) ?_ N ([], v4, 0) hm
    · rintro N ⟨l9, v10, i11⟩ hI
      have hm := hI; clear hI
      cases N with
      | zero => cases hm
      | succ N =>
      unfold s_l22Rank_l1 at hm
      refine WJ.seq ?_
      refine WJ.seq ?_
      refine WJ.quiet ?_
      refine QJ.step (YldS.yld (y_move rfl)) rfl ?_
      refine QJ.step (YldS.yld (y_move rfl)) rfl ?_
      refine QJ.step (YldS.yld (y_lenS Try.runUnderlying41 hr3 rfl)) rfl ?_
      refine QJ.step (YldS.yld (y_bin rfl rfl rfl)) rfl ?_
      refine QJ.done ?_
      refine PJ.next ?_
      refine WJ.cond (t := decide (i11 < (List.length list1 : Int))) rfl (fun hb12 => ?_) (fun hb12 => ?_)
      · replace hm := ifT hm hb12
        refine WJ.skip ?_
        refine PJ.next ?_
        obtain ⟨kj15, hk16, hm⟩ := withK_open hm
        refine WJ.join (X := (List Int) × Value) (fun (x : (List Int) × Value) => kj15 x.1 = some r) (fun (x : (List Int) × Value) => [(0, v2), (3, x.2), (4, .int .i64 i11)]) (fun (x : (List Int) × Value) => [row x.2 2 fI64 x.1]) ?_ ?_
        · clear hk16
          refine WJ.block ?_
          refine WJ.seq ?_
          refine WJ.quiet ?_
          refine QJ.step (YldS.yld (y_move rfl)) rfl ?_
          refine QJ.step (YldS.yld (y_lenRow (k := 0) rfl Try.runUnderlying42 rfl)) rfl ?_
          refine QJ.step (YldS.yld (y_assign rfl)) rfl ?_
          refine QJ.done ?_
          refine PJ.next ?_
          obtain ⟨kj18, hk19, hm⟩ := withK_open hm
          refine WJ.join (X := Int) (fun (x : Int) => kj18 x = some r) (fun (x : Int) => [(0, v2), (3, v10), (4, .int .i64 i11), (5, .int .i64 x)]) (fun (x : Int) => [row v10 2 fI64 l9]) ?_ ?_
          · clear hk19
            refine WJ.block ?_
            refine WJ.sel (L' := (fun (x : Int) => [row v10 2 fI64 l9]) (List.length l9 : Int)) [0] ⟨by decide, rfl⟩ ?_
            refine WJ.sub (m' := (fun (x : Int) => [(0, v2), (3, v10), (4, .int .i64 i11), (5, .int .i64 x)]) (List.length l9 : Int)) ⟨rfl, rfl, rfl, rfl, trivial⟩ ?_
            refine WJ.loop (X := Int) (fun N (x : Int) => s_l22Rank_l2 kj18 list1 l9 i11 N x = some r) (fun (x : Int) => [(0, v2), (3, v10), (4, .int .i64 i11), (5, .int .i64 x)]) (fun (x : Int) => [row v10 2 fI64 l9]) ?_ N (List.length l9 : Int) hm
            · rintro N k20 hI
              have hm := hI; clear hI
              cases N with
              | zero => cases hm
              | succ N =>
              unfold s_l22Rank_l2 at hm
              refine WJ.seq ?_
              refine WJ.seq ?_
              refine WJ.quiet_draw follows (by kernel_rfl) ?_
              refine QJ.step (YldS.yld (y_move rfl)) rfl ?_
              refine QJ.step (YldS.yld (y_bin rfl rfl rfl)) rfl ?_
              refine QJ.step (YldS.yld (y_move rfl)) rfl ?_
              obtain ⟨t21, h22, hm⟩ := bindS hm
              refine QJ.cut 12 [(0, v2), (3, v10), (4, .int .i64 i11), (5, .int .i64 k20), (30, .bool t21)] ?_ ?_
              · rcases Bool.eq_false_or_eq_true (decide (k20 > 0)) with hb23 | hb23
                · replace h22 := andT h22 hb23
                  refine QJ.on rfl rfl (cB hb23) (YldS.yld (y_move rfl)) rfl ?_
                  refine QJ.on rfl rfl (cB hb23) (YldS.yld (y_move rfl)) rfl ?_
                  obtain ⟨e24, h25, h22⟩ := bindS h22
                  obtain ⟨ad26, _, rfl, ha27, hy28⟩ := hr3.elem h25
                  refine QJ.on rfl rfl (cB hb23) (YldS.yld (hy28 Try.runUnderlying41 Try.sizeOf114 rfl rfl)) rfl ?_
                  refine QJ.on rfl rfl (cB hb23) (YldS.yld (y_move rfl)) rfl ?_
                  refine QJ.on rfl rfl (cB hb23) (YldS.yld (y_move rfl)) rfl ?_
                  refine QJ.on rfl rfl (cB hb23) (YldS.yld (y_move rfl)) rfl ?_
                  refine QJ.on rfl rfl (cB hb23) (YldS.yld (y_bin rfl rfl rfl)) rfl ?_
                  obtain ⟨e29, h30, h22⟩ := bindS h22
                  refine QJ.on rfl rfl (cB hb23) (YldS.yld (y_ixRow (k := 0) (R := fI64) rfl Try.runUnderlying42 Try.sizeOf2 rfl rfl h30)) rfl ?_
                  refine QJ.on rfl rfl (cB hb23) (YldS.yld (y_loadR (k := 0) (i := (Int.toNat (w64 (k20 - 1)))) (off := 0) (u := .int .i64 e29) rfl Try.isAgg2 rfl (idx_get h30) rfl)) rfl ?_
                  obtain ⟨e31, h32, h22⟩ := bindS h22
                  obtain ⟨ad33, _, rfl, ha34, hy35⟩ := hr3.elem h32
                  refine QJ.on rfl rfl (cB hb23) (YldS.yld (hy35 Try.runUnderlying41 Try.sizeOf114 rfl rfl)) rfl ?_
                  obtain ⟨r36, h37, h22⟩ := bindS h22
                  refine QJ.on rfl rfl (cB hb23) (y_call Try.call68 rfl (RetG.quiet fun w hw => ok_s_l22Better h37 w _ (ha27.st hw) _ (ha34.st hw))) rfl ?_
                  refine QJ.step (YldS.yld (y_pick_t (cB hb23) rfl)) rfl ?_
                  obtain rfl := Option.some.inj h22
                  exact QJ.cut_end ⟨rfl, rfl, rfl, rfl, rfl, trivial⟩
                · obtain rfl := andF h22 hb23
                  refine QJ.off rfl rfl (cB hb23) rfl rfl ?_
                  refine QJ.off rfl rfl (cB hb23) rfl rfl ?_
                  refine QJ.off rfl rfl (cB hb23) rfl rfl ?_
                  refine QJ.off rfl rfl (cB hb23) rfl rfl ?_
                  refine QJ.off rfl rfl (cB hb23) rfl rfl ?_
                  refine QJ.off rfl rfl (cB hb23) rfl rfl ?_
                  refine QJ.off rfl rfl (cB hb23) rfl rfl ?_
                  refine QJ.off rfl rfl (cB hb23) rfl rfl ?_
                  refine QJ.off rfl rfl (cB hb23) rfl rfl ?_
                  refine QJ.off rfl rfl (cB hb23) rfl rfl ?_
                  refine QJ.off rfl rfl (cB hb23) rfl rfl ?_
                  refine QJ.step (YldS.yld (y_pick_f (cB hb23) rfl)) rfl ?_
                  exact QJ.cut_end ⟨rfl, rfl, rfl, rfl, rfl, trivial⟩
              refine QJ.done ?_
              refine PJ.next ?_
              refine WJ.cond (t := t21) rfl (fun hb38 => ?_) (fun hb38 => ?_)
              · replace hm := ifT hm hb38
                refine WJ.skip ?_
                refine PJ.next ?_
                refine WJ.block ?_
                refine WJ.quiet ?_
                refine QJ.step (YldS.yld (y_move rfl)) rfl ?_
                refine QJ.step (YldS.yld (y_bin rfl rfl rfl)) rfl ?_
                refine QJ.step (YldS.yld (y_assign rfl)) rfl ?_
                refine QJ.done ?_
                refine PJ.block_normal ?_
                exact PJ.round (w64 (k20 - 1)) [0] hm ⟨rfl, rfl, rfl, rfl, trivial⟩ ⟨by decide, rfl⟩
              · replace hm := ifF hm hb38
                refine WJ.exit ?_
                refine PJ.then_exit (PJ.then_exit (PJ.block_exit ?_))
                exact PJ.joined k20 [0] hm ⟨rfl, rfl, rfl, rfl, trivial⟩ ⟨by decide, rfl⟩
          · rintro k17 hm
            subst hk19
            refine WJ.seq ?_
            refine WJ.reg ?_
            refine SJ.q (YldS.yld (y_move rfl)) rfl ?_
            refine SJ.q (YldS.yld (y_move rfl)) rfl ?_
            obtain ⟨l39, h40, hm⟩ := bindS hm
            refine SJ.q (YldS.yld (y_slcRow (i := none) (j := some k17) (k := 0) h40 rfl Try.runUnderlying42 Try.sizeOf2 rfl trivial ⟨_, rfl⟩)) rfl ?_
            obtain ⟨r41, h42, hm⟩ := bindS hm
            refine SJ.call Try.call102 rfl (fun w hw => ok_s_l00Own h42 w _ (hw.slc_rd (k := 0) (i := none) (j := some k17) rfl h40)) rfl ?_
            rintro v43 _ ⟨_, rfl, rfl⟩
            refine SJ.q (YldS.yld (y_move rfl)) rfl ?_
            refine SJ.buildSlice (R := fI64) (os := [.tmp 37]) [i11] Try.runUnderlying42 Try.sizeOf2 Try.zeroValue2 rfl rfl rfl rfl rfl rfl fun v44 => ?_
            obtain ⟨l45, h46, hm⟩ := bindS hm
            refine SJ.append (k := 1) (R := fI64) h46 rfl Try.underlying42 el2 rfl rfl rfl (fun w hw => (hw.row_rd (k := 0) rfl)) rfl fun v47 => ?_
            refine SJ.q (YldS.yld (y_assign rfl)) rfl ?_
            refine SJ.nil ?_
            refine PJ.next ?_
            refine WJ.reg ?_
            refine SJ.q (YldS.yld (y_move rfl)) rfl ?_
            refine SJ.q (YldS.yld (y_move rfl)) rfl ?_
            refine SJ.q (YldS.yld (y_move rfl)) rfl ?_
            obtain ⟨l48, h49, hm⟩ := bindS hm
            refine SJ.q (YldS.yld (y_slcRow (i := some k17) (j := none) (k := 2) h49 rfl Try.runUnderlying42 Try.sizeOf2 rfl ⟨_, rfl⟩ trivial)) rfl ?_
            obtain ⟨l50, h51, hm⟩ := bindS hm
            refine SJ.append (k := 1) (R := fI64) h51 rfl Try.underlying42 el2 rfl rfl rfl (fun w hw => (hw.slc_rd (k := 2) (i := some k17) (j := none) rfl h49)) rfl fun v52 => ?_
            refine SJ.q (YldS.yld (y_assign rfl)) rfl ?_
            refine SJ.nil ?_
            refine PJ.block_normal ?_
            exact PJ.joined (l50, v52) [1] hm ⟨rfl, rfl, rfl, trivial⟩ ⟨by decide, rfl⟩
        · rintro ⟨l13, v14⟩ hm
          subst hk16
          refine WJ.quiet ?_
          refine QJ.step (YldS.yld (y_move rfl)) rfl ?_
          refine QJ.step (YldS.yld (y_bin rfl rfl rfl)) rfl ?_
          refine QJ.step (YldS.yld (y_assign rfl)) rfl ?_
          refine QJ.done ?_
          exact PJ.round (l13, v14, w64 (i11 + 1)) [0] hm ⟨rfl, rfl, rfl, trivial⟩ ⟨by decide, rfl⟩
      · replace hm := ifF hm hb12
        refine WJ.exit ?_
        refine PJ.then_exit (PJ.then_exit (PJ.block_exit ?_))
        exact PJ.joined (l9, v10) [0] hm ⟨rfl, trivial⟩ ⟨by decide, rfl⟩
  · rintro ⟨l5, v6⟩ hm
    subst hk8
    refine WJ.seq ?_
    refine WJ.quiet ?_
    refine QJ.step (YldS.yld (y_move rfl)) rfl ?_
    refine QJ.step (YldS.yld (y_assign rfl)) rfl ?_
    refine QJ.done ?_
    refine PJ.next ?_
    refine WJ.ret ?_
    obtain rfl := Option.some.inj hm
    refine PJ.sel (L' := [row v6 2 fI64 l5]) [0] ⟨by decide, rfl⟩ ?_
    exact PJ.retn (vs := [v6]) Try.results67 ⟨rfl, trivial⟩ ⟨_, rfl, rfl⟩

set_option maxRecDepth 100000 in
set_option maxHeartbeats 1000000 in
theorem ok_s_l22Groups {N : Nat} {list1 : List Result} {r : (List (List Int))} (hm : s_l22Groups N list1 = some r) (w : World) (v2 : Value) (hr3 : RdS w (cx w).Fz v2 fResult.rp list1) :
    Calls Try.prog 43 #[v2] w (RetG (cx w) fun u L => ∃ (u1 : Value) (u2 : List (Raw 1)), (u = u1 ∧ L = [row u1 42 fRaw1 u2, inn (rSl fI64.rp) u2 r])) := by
  unfold s_l22Groups at hm
  refine Calls.enter [v2] Try.func43 rfl Try.ntmps43 rfl ?_
  refine WJ.seq ?_
  refine WJ.quiet ?_
  refine QJ.step (YldS.yld (y_assign rfl)) rfl ?_
  refine QJ.done ?_
  refine PJ.next ?_
  refine WJ.seq ?_
  refine WJ.reg ?_
  refine SJ.buildSlice (R := fRaw1) (os := []) ([] : List (Raw 1)) Try.runUnderlying82 Try.sizeOf42 Try.zeroValue42 rfl rfl rfl rfl rfl rfl fun v4 => ?_
  refine SJ.inm_nil 2 fI64 ?_
  refine SJ.q (YldS.yld (y_assign rfl)) rfl ?_
  refine SJ.nil ?_
  refine PJ.next ?_
  refine WJ.seq ?_
  refine WJ.reg ?_
  refine SJ.q (YldS.yld (y_move rfl)) rfl ?_
  obtain ⟨r5, h6, hm⟩ := bindS hm
  refine SJ.call Try.call67 rfl (fun w hw => ok_s_l22Rank h6 w _ (hr3.st hw)) rfl ?_
  rintro v7 _ ⟨_, rfl, rfl⟩
  refine SJ.q (YldS.yld (y_assign rfl)) rfl ?_
  refine SJ.nil ?_
  refine PJ.next ?_
  obtain ⟨kj11, hk12, hm⟩ := withK_open hm
  refine WJ.join (X := (List (List Int)) × (List (Raw 1)) × Value) (fun (x : (List (List Int)) × (List (Raw 1)) × Value) => kj11 x.1 = some r) (fun (x : (List (List Int)) × (List (Raw 1)) × Value) => [(3, x.2.2)]) (fun (x : (List (List Int)) × (List (Raw 1)) × Value) => [inm 2 fI64 x.2.1 x.1, row x.2.2 42 fRaw1 x.2.1]) ?_ ?_
  · clear hk12
    refine WJ.seq ?_
    refine WJ.quiet ?_
    refine QJ.step (YldS.yld (y_assign rfl)) rfl ?_
    refine QJ.done ?_
    refine PJ.next ?_
    refine WJ.block ?_
    refine WJ.sel (L' := (fun (x : (List (List Int)) × (List (Raw 1)) × Value × Int) => [row v7 2 fI64 r5, inm 2 fI64 x.2.1 x.1, row x.2.2.1 42 fRaw1 x.2.1]) (([] : List (List Int)), ([] : List (Raw 1)), v4, 0)) [0, 1, 2] ⟨by decide, rfl⟩ ?_
    refine WJ.sub (m' := (fun (x : (List (List Int)) × (List (Raw 1)) × Value × Int) => [(0, v2), (3, x.2.2.1), (4, v7), (5, .int .i64 x.2.2.2)]) (([] : List (List Int)), ([] : List (Raw 1)), v4, 0)) ⟨rfl, rfl, rfl, rfl, trivial⟩ ?_
    refine WJ.loop (X := (List (List Int)) × (List (Raw 1)) × Value × Int) (fun N (x : (List (List Int)) × (List (Raw 1)) × Value × Int) => s_l22Groups_l1 kj11 list1 r5 N x.1 x.2.2.2 = some r) (fun (x : (List (List Int)) × (List (Raw 1)) × Value × Int) => [(0, v2), (3, x.2.2.1), (4, v7), (5, .int .i64 x.2.2.2)]) (fun (x : (List (List Int)) × (List (Raw 1)) × Value × Int) => [row v7 2 fI64 r5, inm 2 fI64 x.2.1 x.1, row x.2.2.1 42 fRaw1 x.2.1]) ?_ N (([] : List (List Int)), ([] : List (Raw 1)), v4, 0) hm
    · rintro N ⟨l13, vs14, v15, i16⟩ hI
      have hm := hI; clear hI
      cases N with
      | zero => cases hm
      | succ N =>
      unfold s_l22Groups_l1 at hm
      refine WJ.seq ?_
      refine WJ.seq ?_
      refine WJ.quiet ?_
      refine QJ.step (YldS.yld (y_move rfl)) rfl ?_
      refine QJ.step (YldS.yld (y_move rfl)) rfl ?_
      refine QJ.step (YldS.yld (y_lenRow (k := 0) rfl Try.runUnderlying42 rfl)) rfl ?_
      refine QJ.step (YldS.yld (y_bin rfl rfl rfl)) rfl ?_
      refine QJ.done ?_
      refine PJ.next ?_
      refine WJ.cond (t := decide (i16 < (List.length r5 : Int))) rfl (fun hb17 => ?_) (fun hb17 => ?_)
      · replace hm := ifT hm hb17
        refine WJ.skip ?_
        refine PJ.next ?_
        obtain ⟨kj21, hk22, hm⟩ := withK_open hm
        refine WJ.join (X := (List (List Int)) × (List (Raw 1)) × Value) (fun (x : (List (List Int)) × (List (Raw 1)) × Value) => kj21 x.1 = some r) (fun (x : (List (List Int)) × (List (Raw 1)) × Value) => [(0, v2), (3, x.2.2), (4, v7), (5, .int .i64 i16)]) (fun (x : (List (List Int)) × (List (Raw 1)) × Value) => [inm 2 fI64 x.2.1 x.1, row v7 2 fI64 r5, row x.2.2 42 fRaw1 x.2.1]) ?_ ?_
        · clear hk22
          refine WJ.block ?_
          refine WJ.seq ?_
          refine WJ.quiet_draw follows (by kernel_rfl) ?_
          refine QJ.step (YldS.yld (y_move rfl)) rfl ?_
          refine QJ.step (YldS.yld (y_bin rfl rfl rfl)) rfl ?_
          refine QJ.step (YldS.yld (y_move rfl)) rfl ?_
          obtain ⟨t23, h24, hm⟩ := bindS hm
          refine QJ.cut 16 [(0, v2), (3, v15), (4, v7), (5, .int .i64 i16), (34, .bool t23)] ?_ ?_
          · rcases Bool.eq_false_or_eq_true (decide (i16 > 0)) with hb25 | hb25
            · replace h24 := andT h24 hb25
              refine QJ.on rfl rfl (cB hb25) (YldS.yld (y_move rfl)) rfl ?_
              refine QJ.on rfl rfl (cB hb25) (YldS.yld (y_move rfl)) rfl ?_
              refine QJ.on rfl rfl (cB hb25) (YldS.yld (y_move rfl)) rfl ?_
              refine QJ.on rfl rfl (cB hb25) (YldS.yld (y_bin rfl rfl rfl)) rfl ?_
              obtain ⟨e26, h27, h24⟩ := bindS h24
              refine QJ.on rfl rfl (cB hb25) (YldS.yld (y_ixRow (k := 0) (R := fI64) rfl Try.runUnderlying42 Try.sizeOf2 rfl rfl h27)) rfl ?_
              refine QJ.on rfl rfl (cB hb25) (YldS.yld (y_loadR (k := 0) (i := (Int.toNat (w64 (i16 - 1)))) (off := 0) (u := .int .i64 e26) rfl Try.isAgg2 rfl (idx_get h27) rfl)) rfl ?_
              obtain ⟨e28, h29, h24⟩ := bindS h24
              obtain ⟨ad30, _, rfl, ha31, hy32⟩ := hr3.elem h29
              refine QJ.on rfl rfl (cB hb25) (YldS.yld (hy32 Try.runUnderlying41 Try.sizeOf114 rfl rfl)) rfl ?_
              refine QJ.on rfl rfl (cB hb25) (YldS.yld (y_move rfl)) rfl ?_
              refine QJ.on rfl rfl (cB hb25) (YldS.yld (y_move rfl)) rfl ?_
              refine QJ.on rfl rfl (cB hb25) (YldS.yld (y_move rfl)) rfl ?_
              obtain ⟨e33, h34, h24⟩ := bindS h24
              refine QJ.on rfl rfl (cB hb25) (YldS.yld (y_ixRow (k := 0) (R := fI64) rfl Try.runUnderlying42 Try.sizeOf2 rfl rfl h34)) rfl ?_
              refine QJ.on rfl rfl (cB hb25) (YldS.yld (y_loadR (k := 0) (i := (Int.toNat i16)) (off := 0) (u := .int .i64 e33) rfl Try.isAgg2 rfl (idx_get h34) rfl)) rfl ?_
              obtain ⟨e35, h36, h24⟩ := bindS h24
              obtain ⟨ad37, _, rfl, ha38, hy39⟩ := hr3.elem h36
              refine QJ.on rfl rfl (cB hb25) (YldS.yld (hy39 Try.runUnderlying41 Try.sizeOf114 rfl rfl)) rfl ?_
              obtain ⟨r40, h41, h24⟩ := bindS h24
              refine QJ.on rfl rfl (cB hb25) (y_call Try.call68 rfl (RetG.quiet fun w hw => ok_s_l22Better h41 w _ (ha31.st hw) _ (ha38.st hw))) rfl ?_
              refine QJ.on rfl rfl (cB hb25) (YldS.yld (y_not rfl)) rfl ?_
              refine QJ.step (YldS.yld (y_pick_t (cB hb25) rfl)) rfl ?_
              obtain rfl := Option.some.inj h24
              exact QJ.cut_end ⟨rfl, rfl, rfl, rfl, rfl, trivial⟩
            · obtain rfl := andF h24 hb25
              refine QJ.off rfl rfl (cB hb25) rfl rfl ?_
              refine QJ.off rfl rfl (cB hb25) rfl rfl ?_
              refine QJ.off rfl rfl (cB hb25) rfl rfl ?_
              refine QJ.off rfl rfl (cB hb25) rfl rfl ?_
              refine QJ.off rfl rfl (cB hb25) rfl rfl ?_
              refine QJ.off rfl rfl (cB hb25) rfl rfl ?_
              refine QJ.off rfl rfl (cB hb25) rfl rfl ?_
              refine QJ.off rfl rfl (cB hb25) rfl rfl ?_
              refine QJ.off rfl rfl (cB hb25) rfl rfl ?_
              refine QJ.off rfl rfl (cB hb25) rfl rfl ?_
              refine QJ.off rfl rfl (cB hb25) rfl rfl ?_
              refine QJ.off rfl rfl (cB hb25) rfl rfl ?_
              refine QJ.off rfl rfl (cB hb25) rfl rfl ?_
              refine QJ.off rfl rfl (cB hb25) rfl rfl ?_
              refine QJ.off rfl rfl (cB hb25) rfl rfl ?_
              refine QJ.step (YldS.yld (y_pick_f (cB hb25) rfl)) rfl ?_
              exact QJ.cut_end ⟨rfl, rfl, rfl, rfl, rfl, trivial⟩
          refine QJ.done ?_
          refine PJ.next ?_
          refine WJ.cond (t := t23) rfl (fun hb42 => ?_) (fun hb42 => ?_)
          · replace hm := ifT hm hb42
            refine WJ.seq ?_
            refine WJ.quiet ?_
            refine QJ.step (YldS.yld (y_move rfl)) rfl ?_
            refine QJ.step (YldS.yld (y_lenG (fun w hw => (hw.nsm_rd (k := 2) (j := 1) rfl rfl)) Try.runUnderlying82 rfl)) rfl ?_
            refine QJ.step (YldS.yld (y_bin rfl rfl rfl)) rfl ?_
            refine QJ.step (YldS.yld (y_assign rfl)) rfl ?_
            refine QJ.done ?_
            refine PJ.next ?_
            refine WJ.inm_len 1 rfl fun hl43 => ?_
            obtain ⟨e44, h45, hm⟩ := bindS hm
            obtain ⟨y46, hy47⟩ := inn_idx hl43 h45
            obtain ⟨e48, h49, hm⟩ := bindS hm
            obtain ⟨l51, h52, hm⟩ := bindS hm
            obtain ⟨e54, h55, hm⟩ := bindS hm
            obtain ⟨y56, hy57⟩ := inn_idx hl43 h55
            refine WJ.draws (N := 14) (listed0 := #[false, false, false, false, false, false, false, false, false, false, false, false, false, false]) [row v7 2 fI64 r5] follows rfl rfl ?_
            refine RJ.first 0 (listed' := #[true, false, false, false, false, false, false, false, false, false, false, false, false, false]) [0] rfl (by kernel_rfl) rfl ⟨by decide, rfl⟩ (y_move rfl) rfl ?_
            refine RJ.first 1 (listed' := #[true, true, false, false, false, false, false, false, false, false, false, false, false, false]) [0] rfl (by kernel_rfl) rfl ⟨by decide, rfl⟩ (y_move rfl) rfl ?_
            refine RJ.first 2 (listed' := #[true, true, true, false, false, false, false, false, false, false, false, false, false, false]) [0] rfl (by kernel_rfl) rfl ⟨by decide, rfl⟩ (y_move rfl) rfl ?_
            refine RJ.first 3 (listed' := #[true, true, true, true, false, false, false, false, false, false, false, false, false, false]) [0] rfl (by kernel_rfl) rfl ⟨by decide, rfl⟩ (y_move rfl) rfl ?_
            refine RJ.first 6 (listed' := #[true, true, true, true, false, false, true, false, false, false, false, false, false, false]) [0] rfl (by kernel_rfl) rfl ⟨by decide, rfl⟩ (y_move rfl) rfl ?_
            refine RJ.first 7 (listed' := #[true, true, true, true, false, false, true, true, false, false, false, false, false, false]) [0] rfl (by kernel_rfl) rfl ⟨by decide, rfl⟩ (y_move rfl) rfl ?_
            refine RJ.first 8 (listed' := #[true, true, true, true, false, false, true, true, true, false, false, false, false, false]) [0] rfl (by kernel_rfl) rfl ⟨by decide, rfl⟩ (y_ixRow (k := 0) (R := fI64) rfl Try.runUnderlying42 Try.sizeOf2 rfl rfl h49) rfl ?_
            refine RJ.first 9 (listed' := #[true, true, true, true, false, false, true, true, true, true, false, false, false, false]) [0] rfl (by kernel_rfl) rfl ⟨by decide, rfl⟩ (y_loadR (k := 0) (i := (Int.toNat i16)) (off := 0) (u := .int .i64 e48) rfl Try.isAgg2 rfl (idx_get h49) rfl) rfl ?_
            refine RJ.hold (X := Value) 3 #[true, true, true, true, true, true, true, true, true, true, true, false, false, false] (fun (x : Value) => [(0, v2), (3, v15), (4, v7), (5, .int .i64 i16), (38, v15), (39, .int .i64 (w64 ((List.length l13 : Int) - 1))), (43, (raw0 y46)), (48, x)]) (fun (x : Value) => [row x 2 fI64 [e48], row v7 2 fI64 r5, inm 2 fI64 vs14 l13, row v15 42 fRaw1 vs14]) ?_ ?_
            · rintro v50
              refine RJ.step1 11 [1] (by kernel_rfl) ⟨by decide, rfl⟩ ?_
              refine RO.of (listed' := #[true, true, true, true, true, true, true, true, true, true, true, true, false, false]) rfl rfl ?_
              refine SJ.sel (L' := [inm 2 fI64 vs14 l13, row v50 2 fI64 [e48], row v7 2 fI64 r5, row v15 42 fRaw1 vs14]) [2, 0, 1, 3] ⟨by decide, rfl⟩ ?_
              refine SJ.conv0 (fun w S h => inm_take (idx_get hy47) (idx_get h45) h) ?_
              refine SJ.unstar ?_
              refine SJ.append (k := 0) (R := fI64) h52 rfl Try.underlying42 el2 rfl rfl rfl (fun w hw => (hw.row_rd (k := 2) rfl)) rfl fun v53 => ?_
              refine SJ.nil ?_
              refine PJ.draw ?_
              refine RJ.step1 12 [3] (by kernel_rfl) ⟨by decide, rfl⟩ ?_
              refine RO.of (listed' := #[true, true, true, true, true, true, true, true, true, true, true, true, true, false]) rfl rfl ?_
              refine SJ.q (YldS.yld (y_ixRow (k := 4) (R := fRaw1) rfl Try.runUnderlying82 Try.sizeOf42 rfl rfl hy57)) rfl ?_
              refine SJ.nil ?_
              refine PJ.draw ?_
              refine RJ.step1 13 [3] (by kernel_rfl) ⟨by decide, rfl⟩ ?_
              refine RO.of (listed' := #[true, true, true, true, true, true, true, true, true, true, true, true, true, true]) rfl rfl ?_
              refine SJ.rowCells (k := 0) rfl fun hc58 => ?_
              refine SJ.storeRL (k := 4) (i := (Int.toNat (w64 ((List.length l13 : Int) - 1)))) (off := 0) (us := [v53]) (b := (mkRaw1 v53 hc58.2)) rfl rfl (idx_get hy57) rfl hc58.1 Try.sizeOf42 rfl (by simp [hc58.2]) (raw_put _ _) ?_
              refine SJ.sel (L' := [row v53 2 fI64 l51, inm 2 fI64 (List.set vs14 (Int.toNat (w64 ((List.length l13 : Int) - 1))) rawNil) (List.set l13 (Int.toNat (w64 ((List.length l13 : Int) - 1))) []), row v50 2 fI64 [e48], row v7 2 fI64 r5, row v15 42 fRaw1 (List.set vs14 (Int.toNat (w64 ((List.length l13 : Int) - 1))) (mkRaw1 v53 hc58.2))]) [0, 1, 2, 3, 4] ⟨by decide, rfl⟩ ?_
              refine SJ.star ?_
              refine SJ.conv0 (fun w S h => inm_put hc58.2 (i0 := (Int.toNat (w64 ((List.length l13 : Int) - 1)))) h) ?_
              refine SJ.nil ?_
              refine PJ.draw ?_
              refine RJ.fin [2] (by kernel_rfl) ⟨by decide, rfl⟩ ?_
              refine PJ.block_normal ?_
              exact PJ.joined ((List.set l13 (Int.toNat (w64 ((List.length l13 : Int) - 1))) l51), (List.set vs14 (Int.toNat (w64 ((List.length l13 : Int) - 1))) (mkRaw1 v53 hc58.2)), v15) [0, 2, 3] hm ⟨rfl, rfl, rfl, rfl, trivial⟩ ⟨by decide, rfl⟩
            · intro hD59
              refine RJ.step2 4 10 [0] (by kernel_rfl) ⟨by decide, rfl⟩ ?_ ?_
              · refine RO.of (listed' := #[true, true, true, true, true, false, true, true, true, true, false, false, false, false]) rfl rfl ?_
                refine SJ.q (YldS.yld (y_ixRow (k := 2) (R := fRaw1) rfl Try.runUnderlying82 Try.sizeOf42 rfl rfl hy47)) rfl ?_
                refine SJ.nil ?_
                refine PJ.draw ?_
                refine RJ.step2 5 10 [0] (by kernel_rfl) ⟨by decide, rfl⟩ ?_ ?_
                · refine RO.of (listed' := #[true, true, true, true, true, true, true, true, true, true, false, false, false, false]) rfl rfl ?_
                  refine SJ.q (YldS.yld (y_loadR (k := 2) (i := (Int.toNat (w64 ((List.length l13 : Int) - 1)))) (off := 0) rfl Try.isAgg42 rfl (idx_get hy47) (raw_get y46))) rfl ?_
                  refine SJ.nil ?_
                  refine PJ.draw ?_
                  refine RJ.step1 10 [0] (by kernel_rfl) ⟨by decide, rfl⟩ ?_
                  refine RO.of (listed' := #[true, true, true, true, true, true, true, true, true, true, true, false, false, false]) rfl rfl ?_
                  refine SJ.buildSlice (R := fI64) (os := [.tmp 47]) [e48] Try.runUnderlying42 Try.sizeOf2 Try.zeroValue2 rfl rfl rfl rfl rfl rfl fun v50 => ?_
                  refine SJ.nil ?_
                  refine PJ.draw ?_
                  exact RJ.weak (hD59 v50) [0, 1, 2, 3] ⟨rfl, rfl, rfl, rfl, rfl, rfl, rfl, rfl, trivial⟩ ⟨by decide, rfl⟩
                · refine RO.of (listed' := #[true, true, true, true, true, false, true, true, true, true, true, false, false, false]) rfl rfl ?_
                  refine SJ.buildSlice (R := fI64) (os := [.tmp 47]) [e48] Try.runUnderlying42 Try.sizeOf2 Try.zeroValue2 rfl rfl rfl rfl rfl rfl fun v50 => ?_
                  refine SJ.nil ?_
                  refine PJ.draw ?_
                  refine RJ.step1 5 [1] (by kernel_rfl) ⟨by decide, rfl⟩ ?_
                  refine RO.of (listed' := #[true, true, true, true, true, true, true, true, true, true, true, false, false, false]) rfl rfl ?_
                  refine SJ.q (YldS.yld (y_loadR (k := 3) (i := (Int.toNat (w64 ((List.length l13 : Int) - 1)))) (off := 0) rfl Try.isAgg42 rfl (idx_get hy47) (raw_get y46))) rfl ?_
                  refine SJ.nil ?_
                  refine PJ.draw ?_
                  exact RJ.weak (hD59 v50) [0, 1, 2, 3] ⟨rfl, rfl, rfl, rfl, rfl, rfl, rfl, rfl, trivial⟩ ⟨by decide, rfl⟩
              · refine RO.of (listed' := #[true, true, true, true, false, false, true, true, true, true, true, false, false, false]) rfl rfl ?_
                refine SJ.buildSlice (R := fI64) (os := [.tmp 47]) [e48] Try.runUnderlying42 Try.sizeOf2 Try.zeroValue2 rfl rfl rfl rfl rfl rfl fun v50 => ?_
                refine SJ.nil ?_
                refine PJ.draw ?_
                refine RJ.step1 4 [1] (by kernel_rfl) ⟨by decide, rfl⟩ ?_
                refine RO.of (listed' := #[true, true, true, true, true, false, true, true, true, true, true, false, false, false]) rfl rfl ?_
                refine SJ.q (YldS.yld (y_ixRow (k := 3) (R := fRaw1) rfl Try.runUnderlying82 Try.sizeOf42 rfl rfl hy47)) rfl ?_
                refine SJ.nil ?_
                refine PJ.draw ?_
                refine RJ.step1 5 [1] (by kernel_rfl) ⟨by decide, rfl⟩ ?_
                refine RO.of (listed' := #[true, true, true, true, true, true, true, true, true, true, true, false, false, false]) rfl rfl ?_
                refine SJ.q (YldS.yld (y_loadR (k := 3) (i := (Int.toNat (w64 ((List.length l13 : Int) - 1)))) (off := 0) rfl Try.isAgg42 rfl (idx_get hy47) (raw_get y46))) rfl ?_
                refine SJ.nil ?_
                refine PJ.draw ?_
                exact RJ.weak (hD59 v50) [0, 1, 2, 3] ⟨rfl, rfl, rfl, rfl, rfl, rfl, rfl, rfl, trivial⟩ ⟨by decide, rfl⟩
          · replace hm := ifF hm hb42
            refine WJ.reg ?_
            refine SJ.q (YldS.yld (y_move rfl)) rfl ?_
            refine SJ.q (YldS.yld (y_move rfl)) rfl ?_
            refine SJ.q (YldS.yld (y_move rfl)) rfl ?_
            obtain ⟨e60, h61, hm⟩ := bindS hm
            refine SJ.q (YldS.yld (y_ixRow (k := 0) (R := fI64) rfl Try.runUnderlying42 Try.sizeOf2 rfl rfl h61)) rfl ?_
            refine SJ.q (YldS.yld (y_loadR (k := 0) (i := (Int.toNat i16)) (off := 0) (u := .int .i64 e60) rfl Try.isAgg2 rfl (idx_get h61) rfl)) rfl ?_
            refine SJ.buildSlice (R := fI64) (os := [.tmp 55]) [e60] Try.runUnderlying42 Try.sizeOf2 Try.zeroValue2 rfl rfl rfl rfl rfl rfl fun v62 => ?_
            refine SJ.rowCells (k := 0) rfl fun hc63 => ?_
            refine SJ.buildSlice (R := fRaw1) (os := [.tmp 56]) ([mkRaw1 v62 hc63.2] : List (Raw 1)) Try.runUnderlying82 Try.sizeOf42 Try.zeroValue42 rfl rfl rfl (by simp only [List.map_cons, List.map_nil, hc63.1]; rfl) rfl rfl fun v64 => ?_
            refine SJ.inm_nil 2 fI64 ?_
            refine SJ.sel (L' := [row v62 2 fI64 [e60], inm 2 fI64 [] ([] : List (List Int)), row v64 42 fRaw1 ([mkRaw1 v62 hc63.2] : List (Raw 1)), row v7 2 fI64 r5, inm 2 fI64 vs14 l13, row v15 42 fRaw1 vs14]) [2, 0, 1, 3, 4, 5] ⟨by decide, rfl⟩ ?_
            refine SJ.star ?_
            refine SJ.conv0 (fun w S h => inm_push hc63.2 h) ?_
            refine SJ.conv0 (B := inm 2 fI64 ([mkRaw1 v62 hc63.2] : List (Raw 1)) ([[e60]] : List (List Int))) (fun w S h => h) ?_
            refine SJ.inm_len 3 rfl fun hl65 => ?_
            refine SJ.inm_len 0 rfl fun hl66 => ?_
            obtain ⟨l67, h68, hm⟩ := bindS hm
            refine SJ.append (k := 4) (R := fRaw1) (app_raw h68 hl65 hl66) rfl Try.underlying82 el42 rfl rfl rfl (fun w hw => (hw.row_rd (k := 1) rfl)) rfl fun v69 => ?_
            refine SJ.sel (L' := [inm 2 fI64 vs14 l13, inm 2 fI64 ([mkRaw1 v62 hc63.2] : List (Raw 1)) ([[e60]] : List (List Int)), row v64 42 fRaw1 ([mkRaw1 v62 hc63.2] : List (Raw 1)), row v7 2 fI64 r5, row v69 42 fRaw1 (vs14 ++ ([mkRaw1 v62 hc63.2] : List (Raw 1)))]) [3, 0, 1, 2, 4] ⟨by decide, rfl⟩ ?_
            refine SJ.star ?_
            refine SJ.conv0 (fun w S h => inm_app h68 h) ?_
            refine SJ.q (YldS.yld (y_assign rfl)) rfl ?_
            refine SJ.nil ?_
            refine PJ.block_normal ?_
            exact PJ.joined (l67, (vs14 ++ ([mkRaw1 v62 hc63.2] : List (Raw 1))), v69) [0, 2, 3] hm ⟨rfl, rfl, rfl, rfl, trivial⟩ ⟨by decide, rfl⟩
        · rintro ⟨l18, vs19, v20⟩ hm
          subst hk22
          refine WJ.quiet ?_
          refine QJ.step (YldS.yld (y_move rfl)) rfl ?_
          refine QJ.step (YldS.yld (y_bin rfl rfl rfl)) rfl ?_
          refine QJ.step (YldS.yld (y_assign rfl)) rfl ?_
          refine QJ.done ?_
          exact PJ.round (l18, vs19, v20, w64 (i16 + 1)) [1, 0, 2] hm ⟨rfl, rfl, rfl, rfl, trivial⟩ ⟨by decide, rfl⟩
      · replace hm := ifF hm hb17
        refine WJ.exit ?_
        refine PJ.then_exit (PJ.then_exit (PJ.block_exit ?_))
        exact PJ.joined (l13, vs14, v15) [1, 2] hm ⟨rfl, trivial⟩ ⟨by decide, rfl⟩
  · rintro ⟨l8, vs9, v10⟩ hm
    subst hk12
    refine WJ.seq ?_
    refine WJ.quiet ?_
    refine QJ.step (YldS.yld (y_move rfl)) rfl ?_
    refine QJ.step (YldS.yld (y_assign rfl)) rfl ?_
    refine QJ.done ?_
    refine PJ.next ?_
    refine WJ.ret ?_
    refine PJ.inm_inn 0 rfl ?_
    obtain rfl := Option.some.inj hm
    refine PJ.sel (L' := [row v10 42 fRaw1 vs9, inn (rSl fI64.rp) vs9 l8]) [1, 0] ⟨by decide, rfl⟩ ?_
    exact PJ.retn (vs := [v10]) Try.results43 ⟨rfl, trivial⟩ ⟨_, _, rfl, rfl⟩

set_option maxRecDepth 100000 in
set_option maxHeartbeats 1000000 in
theorem ok_s_l22Sum {N : Nat} {table1 : List Int} {from4 : Int} {to5 : Int} {r : Int} (hm : s_l22Sum N table1 from4 to5 = some r) (w : World) (v2 : Value) (hr3 : RdS w (cx w).Fz v2 fI64.rp table1) :
    Calls Try.prog 44 #[v2, .int .i64 from4, .int .i64 to5] w (Ret (cx w) (.int .i64 r)) := by
  unfold s_l22Sum at hm
  refine Calls.enter [v2, .int .i64 from4, .int .i64 to5] Try.func44 rfl Try.ntmps44 rfl ?_
  refine WJ.seq ?_
  refine WJ.quiet ?_
  refine QJ.step (YldS.yld (y_assign rfl)) rfl ?_
  refine QJ.done ?_
  refine PJ.next ?_
  refine WJ.seq ?_
  refine WJ.quiet ?_
  refine QJ.step (YldS.yld (y_assign rfl)) rfl ?_
  refine QJ.done ?_
  refine PJ.next ?_
  obtain ⟨kj7, hk8, hm⟩ := withK_open hm
  refine WJ.join (X := Int) (fun (x : Int) => kj7 x = some r) (fun (x : Int) => [(7, .int .i64 x)]) (fun (x : Int) => []) ?_ ?_
  · clear hk8
    refine WJ.seq ?_
    refine WJ.quiet ?_
    refine QJ.step (YldS.yld (y_move rfl)) rfl ?_
    refine QJ.step (YldS.yld (y_assign rfl)) rfl ?_
    refine QJ.done ?_
    refine PJ.next ?_
    refine WJ.block ?_
    refine WJ.sel (L' := (fun (x : Int × Int) => []) (0, from4)) [] ⟨List.nodup_nil, rfl⟩ ?_
    refine WJ.sub (m' := (fun (x : Int × Int) => [(0, v2), (2, .int .i64 to5), (7, .int .i64 x.1), (8, .int .i64 x.2)]) (0, from4)) ⟨rfl, rfl, rfl, rfl, trivial⟩ ?_
    refine WJ.loop (X := Int × Int) (fun N (x : Int × Int) => s_l22Sum_l1 kj7 table1 to5 N x.1 x.2 = some r) (fun (x : Int × Int) => [(0, v2), (2, .int .i64 to5), (7, .int .i64 x.1), (8, .int .i64 x.2)]) (fun (x : Int × Int) => []) ?_ N (0, from4) hm
    · rintro N ⟨sum9, i10⟩ hI
      have hm := hI; clear hI
      cases N with
      | zero => cases hm
      | succ N =>
      unfold s_l22Sum_l1 at hm
      refine WJ.seq ?_
      refine WJ.seq ?_
      refine WJ.quiet ?_
      refine QJ.step (YldS.yld (y_move rfl)) rfl ?_
      refine QJ.step (YldS.yld (y_move rfl)) rfl ?_
      refine QJ.step (YldS.yld (y_bin rfl rfl rfl)) rfl ?_
      refine QJ.step (YldS.yld (y_move rfl)) rfl ?_
      obtain ⟨t11, h12, hm⟩ := bindS hm
      refine QJ.cut 5 [(0, v2), (2, .int .i64 to5), (7, .int .i64 sum9), (8, .int .i64 i10), (18, .bool t11)] ?_ ?_
      · rcases Bool.eq_false_or_eq_true (decide (i10 < to5)) with hb13 | hb13
        · replace h12 := andT h12 hb13
          refine QJ.on rfl rfl (cB hb13) (YldS.yld (y_move rfl)) rfl ?_
          refine QJ.on rfl rfl (cB hb13) (YldS.yld (y_move rfl)) rfl ?_
          refine QJ.on rfl rfl (cB hb13) (YldS.yld (y_lenS Try.runUnderlying42 hr3 rfl)) rfl ?_
          refine QJ.on rfl rfl (cB hb13) (YldS.yld (y_bin rfl rfl rfl)) rfl ?_
          refine QJ.step (YldS.yld (y_pick_t (cB hb13) rfl)) rfl ?_
          obtain rfl := Option.some.inj h12
          exact QJ.cut_end ⟨rfl, rfl, rfl, rfl, rfl, trivial⟩
        · obtain rfl := andF h12 hb13
          refine QJ.off rfl rfl (cB hb13) rfl rfl ?_
          refine QJ.off rfl rfl (cB hb13) rfl rfl ?_
          refine QJ.off rfl rfl (cB hb13) rfl rfl ?_
          refine QJ.off rfl rfl (cB hb13) rfl rfl ?_
          refine QJ.step (YldS.yld (y_pick_f (cB hb13) rfl)) rfl ?_
          exact QJ.cut_end ⟨rfl, rfl, rfl, rfl, rfl, trivial⟩
      refine QJ.done ?_
      refine PJ.next ?_
      refine WJ.cond (t := t11) rfl (fun hb14 => ?_) (fun hb14 => ?_)
      · replace hm := ifT hm hb14
        refine WJ.skip ?_
        refine PJ.next ?_
        refine WJ.seq ?_
        refine WJ.block ?_
        refine WJ.quiet ?_
        refine QJ.step (YldS.yld (y_move rfl)) rfl ?_
        refine QJ.step (YldS.yld (y_move rfl)) rfl ?_
        refine QJ.step (YldS.yld (y_move rfl)) rfl ?_
        obtain ⟨e15, h16, hm⟩ := bindS hm
        obtain ⟨ad17, _, rfl, ha18, hy19⟩ := hr3.elem h16
        refine QJ.step (YldS.yld (hy19 Try.runUnderlying42 Try.sizeOf2 rfl rfl)) rfl ?_
        refine QJ.step (YldS.yld (y_load1 (v := .int .i64 e15) Try.isAgg2 ha18 St.frozenC rfl)) rfl ?_
        refine QJ.step (YldS.yld (y_bin rfl rfl rfl)) rfl ?_
        refine QJ.step (YldS.yld (y_assign rfl)) rfl ?_
        refine QJ.done ?_
        refine PJ.block_normal (PJ.next ?_)
        refine WJ.quiet ?_
        refine QJ.step (YldS.yld (y_move rfl)) rfl ?_
        refine QJ.step (YldS.yld (y_bin rfl rfl rfl)) rfl ?_
        refine QJ.step (YldS.yld (y_assign rfl)) rfl ?_
        refine QJ.done ?_
        exact PJ.round (w64 (sum9 + e15), w64 (i10 + 1)) [] hm ⟨rfl, rfl, rfl, rfl, trivial⟩ ⟨List.nodup_nil, rfl⟩
      · replace hm := ifF hm hb14
        refine WJ.exit ?_
        refine PJ.then_exit (PJ.then_exit (PJ.block_exit ?_))
        exact PJ.joined sum9 [] hm ⟨rfl, trivial⟩ ⟨List.nodup_nil, rfl⟩
  · rintro sum6 hm
    subst hk8
    refine WJ.seq ?_
    refine WJ.quiet ?_
    refine QJ.step (YldS.yld (y_move rfl)) rfl ?_
    refine QJ.step (YldS.yld (y_assign rfl)) rfl ?_
    refine QJ.done ?_
    refine PJ.next ?_
    refine WJ.ret ?_
    obtain rfl := Option.some.inj hm
    refine PJ.sel (L' := []) [] ⟨List.nodup_nil, rfl⟩ ?_
    exact PJ.retn (vs := [.int .i64 sum6]) Try.results44 ⟨rfl, trivial⟩ ⟨rfl, rfl⟩

set_option maxRecDepth 100000 in
set_option maxHeartbeats 1000000 in
theorem ok_s_PrizesFor {N : Nat} {list1 : List Result} {prizes4 : List Int} {r : (List Int) × Int} (hm : s_PrizesFor N list1 prizes4 = some r) (w : World) (v2 : Value) (hr3 : RdS w (cx w).Fz v2 fResult.rp list1) (v5 : Value) (hr6 : RdS w (cx w).Fz v5 fI64.rp prizes4) :
    Calls Try.prog 15 #[v2, v5] w (RetG (cx w) fun u L => ∃ (u1 : Value), (u = tup [u1, .int .i64 r.2] ∧ L = [row u1 2 fI64 r.1])) := by
  unfold s_PrizesFor at hm
  refine Calls.enter [v2, v5] Try.func15 rfl Try.ntmps15 rfl ?_
  refine WJ.seq ?_
  refine WJ.quiet ?_
  refine QJ.step (YldS.yld (y_assign rfl)) rfl ?_
  refine QJ.step (YldS.yld (y_assign rfl)) rfl ?_
  refine QJ.done ?_
  refine PJ.next ?_
  refine WJ.seq ?_
  refine WJ.seq ?_
  refine WJ.quiet ?_
  refine QJ.step (YldS.yld (y_move rfl)) rfl ?_
  obtain ⟨r7, h8, hm⟩ := bindS hm
  refine QJ.step (y_call Try.call41 rfl (RetG.quiet fun w hw => ok_s_l22Ok h8 w _ (hr3.st hw))) rfl ?_
  refine QJ.step (YldS.yld (y_not rfl)) rfl ?_
  refine QJ.done ?_
  refine PJ.next ?_
  refine WJ.cond (t := !r7) rfl (fun hb9 => ?_) (fun hb9 => ?_)
  · replace hm := ifT hm hb9
    refine WJ.seq ?_
    refine WJ.quiet ?_
    refine QJ.step (YldS.yld (y_assign rfl)) rfl ?_
    refine QJ.step (YldS.yld (y_assign rfl)) rfl ?_
    refine QJ.done ?_
    refine PJ.next ?_
    refine WJ.ret ?_
    refine PJ.then_ret ?_
    refine PJ.nil_row 2 fI64 ?_
    obtain rfl := Option.some.inj hm
    refine PJ.sel (L' := [row (.slice none 0 0) 2 fI64 []]) [0] ⟨by decide, rfl⟩ ?_
    exact PJ.retn (vs := [(.slice none 0 0), .int .i64 1]) Try.results15 ⟨rfl, rfl, trivial⟩ ⟨_, rfl, rfl⟩
  · replace hm := ifF hm hb9
    refine WJ.skip ?_
    refine PJ.next ?_
    refine WJ.seq ?_
    refine WJ.seq ?_
    refine WJ.quiet ?_
    refine QJ.step (YldS.yld (y_move rfl)) rfl ?_
    obtain ⟨r10, h11, hm⟩ := bindS hm
    refine QJ.step (y_call Try.call42 rfl (RetG.quiet fun w hw => ok_s_l22Table h11 w _ (hr6.st hw))) rfl ?_
    refine QJ.step (YldS.yld (y_not rfl)) rfl ?_
    refine QJ.done ?_
    refine PJ.next ?_
    refine WJ.cond (t := !r10) rfl (fun hb12 => ?_) (fun hb12 => ?_)
    · replace hm := ifT hm hb12
      refine WJ.seq ?_
      refine WJ.quiet ?_
      refine QJ.step (YldS.yld (y_assign rfl)) rfl ?_
      refine QJ.step (YldS.yld (y_assign rfl)) rfl ?_
      refine QJ.done ?_
      refine PJ.next ?_
      refine WJ.ret ?_
      refine PJ.then_ret ?_
      refine PJ.nil_row 2 fI64 ?_
      obtain rfl := Option.some.inj hm
      refine PJ.sel (L' := [row (.slice none 0 0) 2 fI64 []]) [0] ⟨by decide, rfl⟩ ?_
      exact PJ.retn (vs := [(.slice none 0 0), .int .i64 2]) Try.results15 ⟨rfl, rfl, trivial⟩ ⟨_, rfl, rfl⟩
    · replace hm := ifF hm hb12
      refine WJ.skip ?_
      refine PJ.next ?_
      refine WJ.seq ?_
      refine WJ.reg ?_
      refine SJ.q (YldS.yld (y_move rfl)) rfl ?_
      refine SJ.q (YldS.yld (y_lenS Try.runUnderlying41 hr3 rfl)) rfl ?_
      obtain ⟨l13, h14, hm⟩ := bindS hm
      refine SJ.makeSlice (R := fI64) (z := 0) h14 Try.underlying42 el2 rfl rfl rfl fun v15 => ?_
      refine SJ.q (YldS.yld (y_assign rfl)) rfl ?_
      refine SJ.nil ?_
      refine PJ.next ?_
      refine WJ.seq ?_
      refine WJ.reg ?_
      refine SJ.q (YldS.yld (y_move rfl)) rfl ?_
      obtain ⟨r16, h17, hm⟩ := bindS hm
      refine SJ.call Try.call43 rfl (fun w hw => ok_s_l22Groups h17 w _ (hr3.st hw)) rfl ?_
      rintro v18 _ ⟨_, vs19, rfl, rfl⟩
      refine SJ.q (YldS.yld (y_assign rfl)) rfl ?_
      refine SJ.nil ?_
      refine PJ.next ?_
      refine WJ.seq ?_
      refine WJ.quiet ?_
      refine QJ.step (YldS.yld (y_assign rfl)) rfl ?_
      refine QJ.done ?_
      refine PJ.next ?_
      obtain ⟨kj21, hk22, hm⟩ := withK_open hm
      refine WJ.join (X := (List Int)) (fun (x : (List Int)) => kj21 x = some r) (fun (x : (List Int)) => [(6, v15)]) (fun (x : (List Int)) => [row v15 2 fI64 x]) ?_ ?_
      · clear hk22
        refine WJ.seq ?_
        refine WJ.quiet ?_
        refine QJ.step (YldS.yld (y_assign rfl)) rfl ?_
        refine QJ.done ?_
        refine PJ.next ?_
        refine WJ.block ?_
        refine WJ.sel (L' := (fun (x : (List Int) × Int × Int) => [row v18 42 fRaw1 vs19, inn (rSl fI64.rp) vs19 r16, row v15 2 fI64 x.1]) (l13, 0, 0)) [0, 1, 2] ⟨by decide, rfl⟩ ?_
        refine WJ.sub (m' := (fun (x : (List Int) × Int × Int) => [(1, v5), (6, v15), (7, v18), (8, .int .i64 x.2.1), (9, .int .i64 x.2.2)]) (l13, 0, 0)) ⟨rfl, rfl, rfl, rfl, rfl, trivial⟩ ?_
        refine WJ.loop (X := (List Int) × Int × Int) (fun N (x : (List Int) × Int × Int) => s_PrizesFor_l1 kj21 prizes4 r16 N x.1 x.2.1 x.2.2 = some r) (fun (x : (List Int) × Int × Int) => [(1, v5), (6, v15), (7, v18), (8, .int .i64 x.2.1), (9, .int .i64 x.2.2)]) (fun (x : (List Int) × Int × Int) => [row v18 42 fRaw1 vs19, inn (rSl fI64.rp) vs19 r16, row v15 2 fI64 x.1]) ?_ N (l13, 0, 0) hm
        · rintro N ⟨l23, at24, i25⟩ hI
          have hm := hI; clear hI
          cases N with
          | zero => cases hm
          | succ N =>
          unfold s_PrizesFor_l1 at hm
          refine WJ.seq ?_
          refine WJ.seq ?_
          refine WJ.quiet ?_
          refine QJ.step (YldS.yld (y_move rfl)) rfl ?_
          refine QJ.step (YldS.yld (y_move rfl)) rfl ?_
          refine QJ.step (YldS.yld (y_lenG (fun w hw => (hw.nst_rd (k := 0) (j := 1) rfl rfl)) Try.runUnderlying82 rfl)) rfl ?_
          refine QJ.step (YldS.yld (y_bin rfl rfl rfl)) rfl ?_
          refine QJ.done ?_
          refine PJ.next ?_
          refine WJ.cond (t := decide (i25 < (List.length r16 : Int))) rfl (fun hb26 => ?_) (fun hb26 => ?_)
          · replace hm := ifT hm hb26
            refine WJ.skip ?_
            refine PJ.next ?_
            obtain ⟨kj29, hk30, hm⟩ := withK_open hm
            refine WJ.join (X := (List Int) × Int) (fun (x : (List Int) × Int) => kj29 x.1 x.2 = some r) (fun (x : (List Int) × Int) => [(1, v5), (6, v15), (7, v18), (8, .int .i64 x.2), (9, .int .i64 i25)]) (fun (x : (List Int) × Int) => [row v18 42 fRaw1 vs19, inn (rSl fI64.rp) vs19 r16, row v15 2 fI64 x.1]) ?_ ?_
            · clear hk30
              refine WJ.block ?_
              refine WJ.seq ?_
              refine WJ.inn_len 1 rfl fun hl31 => ?_
              refine WJ.quiet ?_
              refine QJ.step (YldS.yld (y_move rfl)) rfl ?_
              refine QJ.step (YldS.yld (y_move rfl)) rfl ?_
              obtain ⟨e32, h33, hm⟩ := bindS hm
              obtain ⟨y34, hy35⟩ := inn_idx hl31 h33
              refine QJ.step (YldS.yld (y_ixRow (k := 0) (R := fRaw1) rfl Try.runUnderlying82 Try.sizeOf42 rfl rfl hy35)) rfl ?_
              refine QJ.step (YldS.yld (y_loadR (k := 0) (i := (Int.toNat i25)) (off := 0) rfl Try.isAgg42 rfl (idx_get hy35) (raw_get y34))) rfl ?_
              refine QJ.step (YldS.yld (y_lenG (fun w hw => (hw.inn_rd (k := 1) rfl rfl hy35 h33)) Try.runUnderlying42 rfl)) rfl ?_
              refine QJ.step (YldS.yld (y_assign rfl)) rfl ?_
              refine QJ.done ?_
              refine PJ.next ?_
              refine WJ.seq ?_
              refine WJ.quiet ?_
              refine QJ.step (YldS.yld (y_move rfl)) rfl ?_
              refine QJ.step (YldS.yld (y_move rfl)) rfl ?_
              refine QJ.step (YldS.yld (y_move rfl)) rfl ?_
              refine QJ.step (YldS.yld (y_move rfl)) rfl ?_
              refine QJ.step (YldS.yld (y_bin rfl rfl rfl)) rfl ?_
              obtain ⟨r36, h37, hm⟩ := bindS hm
              refine QJ.step (y_call Try.call44 rfl (RetG.quiet fun w hw => ok_s_l22Sum h37 w _ (hr6.st hw))) rfl ?_
              refine QJ.step (YldS.yld (y_assign rfl)) rfl ?_
              refine QJ.done ?_
              refine PJ.next ?_
              obtain ⟨kj39, hk40, hm⟩ := withK_open hm
              refine WJ.join (X := (List Int)) (fun (x : (List Int)) => kj39 x = some r) (fun (x : (List Int)) => [(1, v5), (6, v15), (7, v18), (8, .int .i64 at24), (9, .int .i64 i25), (10, .int .i64 (List.length e32 : Int))]) (fun (x : (List Int)) => [row v18 42 fRaw1 vs19, inn (rSl fI64.rp) vs19 r16, row v15 2 fI64 x]) ?_ ?_
              · clear hk40
                refine WJ.seq ?_
                refine WJ.quiet ?_
                refine QJ.step (YldS.yld (y_assign rfl)) rfl ?_
                refine QJ.done ?_
                refine PJ.next ?_
                refine WJ.block ?_
                refine WJ.sel (L' := (fun (x : (List Int) × Int) => [row v18 42 fRaw1 vs19, inn (rSl fI64.rp) vs19 r16, row v15 2 fI64 x.1]) (l23, 0)) [0, 1, 2] ⟨by decide, rfl⟩ ?_
                refine WJ.sub (m' := (fun (x : (List Int) × Int) => [(1, v5), (6, v15), (7, v18), (8, .int .i64 at24), (9, .int .i64 i25), (10, .int .i64 (List.length e32 : Int)), (11, .int .i64 r36), (12, .int .i64 x.2)]) (l23, 0)) ⟨rfl, rfl, rfl, rfl, rfl, rfl, rfl, rfl, trivial⟩ ?_
                refine WJ.loop (X := (List Int) × Int) (fun N (x : (List Int) × Int) => s_PrizesFor_l2 kj39 r16 i25 e32 r36 N x.1 x.2 = some r) (fun (x : (List Int) × Int) => [(1, v5), (6, v15), (7, v18), (8, .int .i64 at24), (9, .int .i64 i25), (10, .int .i64 (List.length e32 : Int)), (11, .int .i64 r36), (12, .int .i64 x.2)]) (fun (x : (List Int) × Int) => [row v18 42 fRaw1 vs19, inn (rSl fI64.rp) vs19 r16, row v15 2 fI64 x.1]) ?_ N (l23, 0) hm
                · rintro N ⟨l41, k42⟩ hI
                  have hm := hI; clear hI
                  cases N with
                  | zero => cases hm
                  | succ N =>
                  unfold s_PrizesFor_l2 at hm
                  refine WJ.seq ?_
                  refine WJ.seq ?_
                  refine WJ.quiet ?_
                  refine QJ.step (YldS.yld (y_move rfl)) rfl ?_
                  refine QJ.step (YldS.yld (y_move rfl)) rfl ?_
                  refine QJ.step (YldS.yld (y_bin rfl rfl rfl)) rfl ?_
                  refine QJ.done ?_
                  refine PJ.next ?_
                  refine WJ.cond (t := decide (k42 < (List.length e32 : Int))) rfl (fun hb43 => ?_) (fun hb43 => ?_)
                  · replace hm := ifT hm hb43
                    refine WJ.skip ?_
                    refine PJ.next ?_
                    obtain ⟨kj45, hk46, hm⟩ := withK_open hm
                    refine WJ.join (X := (List Int)) (fun (x : (List Int)) => kj45 x = some r) (fun (x : (List Int)) => [(1, v5), (6, v15), (7, v18), (8, .int .i64 at24), (9, .int .i64 i25), (10, .int .i64 (List.length e32 : Int)), (11, .int .i64 r36), (12, .int .i64 k42)]) (fun (x : (List Int)) => [row v18 42 fRaw1 vs19, inn (rSl fI64.rp) vs19 r16, row v15 2 fI64 x]) ?_ ?_
                    · clear hk46
                      refine WJ.block ?_
                      refine WJ.seq ?_
                      refine WJ.inn_len 1 rfl fun hl47 => ?_
                      obtain ⟨e48, h49, hm⟩ := bindS hm
                      obtain ⟨y50, hy51⟩ := inn_idx hl47 h49
                      obtain ⟨e52, h53, hm⟩ := bindS hm
                      obtain ⟨q54, h55, hm⟩ := bindS hm
                      obtain ⟨e56, h57, hm⟩ := bindS hm
                      refine WJ.draws (N := 13) (listed0 := #[false, false, false, false, false, false, false, false, false, false, false, false, false]) [row v18 42 fRaw1 vs19, inn (rSl fI64.rp) vs19 r16] follows rfl rfl ?_
                      refine RJ.first 0 (listed' := #[true, false, false, false, false, false, false, false, false, false, false, false, false]) [0, 1] rfl (by kernel_rfl) rfl ⟨by decide, rfl⟩ (y_move rfl) rfl ?_
                      refine RJ.first 1 (listed' := #[true, true, false, false, false, false, false, false, false, false, false, false, false]) [0, 1] rfl (by kernel_rfl) rfl ⟨by decide, rfl⟩ (y_move rfl) rfl ?_
                      refine RJ.first 2 (listed' := #[true, true, true, false, false, false, false, false, false, false, false, false, false]) [0, 1] rfl (by kernel_rfl) rfl ⟨by decide, rfl⟩ (y_move rfl) rfl ?_
                      refine RJ.first 3 (listed' := #[true, true, true, true, false, false, false, false, false, false, false, false, false]) [0, 1] rfl (by kernel_rfl) rfl ⟨by decide, rfl⟩ (y_ixRow (k := 0) (R := fRaw1) rfl Try.runUnderlying82 Try.sizeOf42 rfl rfl hy51) rfl ?_
                      refine RJ.first 4 (listed' := #[true, true, true, true, true, false, false, false, false, false, false, false, false]) [0, 1] rfl (by kernel_rfl) rfl ⟨by decide, rfl⟩ (y_loadR (k := 0) (i := (Int.toNat i25)) (off := 0) rfl Try.isAgg42 rfl (idx_get hy51) (raw_get y50)) rfl ?_
                      refine RJ.first 5 (listed' := #[true, true, true, true, true, true, false, false, false, false, false, false, false]) [0, 1] rfl (by kernel_rfl) rfl ⟨by decide, rfl⟩ (y_move rfl) rfl ?_
                      refine RJ.first 6 (listed' := #[true, true, true, true, true, true, true, false, false, false, false, false, false]) [0, 1] rfl (by kernel_rfl) rfl ⟨by decide, rfl⟩ (y_ixG (R := fI64) (fun w hw => (hw.inn_rd (k := 1) rfl rfl hy51 h49)) Try.runUnderlying42 Try.sizeOf2 rfl rfl h53) rfl ?_
                      refine RJ.first 7 (listed' := #[true, true, true, true, true, true, true, true, false, false, false, false, false]) [0, 1] rfl (by kernel_rfl) rfl ⟨by decide, rfl⟩ (y_loadG (R := fI64) (i := (Int.toNat k42)) (off := 0) (fun w hw => (hw.inn_rd (k := 1) rfl rfl hy51 h49)) Try.isAgg2 rfl (idx_get h53) rfl) rfl ?_
                      refine RJ.first 8 (listed' := #[true, true, true, true, true, true, true, true, true, false, false, false, false]) [0, 1] rfl (by kernel_rfl) rfl ⟨by decide, rfl⟩ (y_move rfl) rfl ?_
                      refine RJ.first 9 (listed' := #[true, true, true, true, true, true, true, true, true, true, false, false, false]) [0, 1] rfl (by kernel_rfl) rfl ⟨by decide, rfl⟩ (y_move rfl) rfl ?_
                      refine RJ.first 10 (listed' := #[true, true, true, true, true, true, true, true, true, true, true, false, false]) [0, 1] rfl (by kernel_rfl) rfl ⟨by decide, rfl⟩ (y_quo' h55 rfl rfl) rfl ?_
                      refine RJ.step1 11 [0, 1] (by kernel_rfl) ⟨by decide, rfl⟩ ?_
                      refine RO.of (listed' := #[true, true, true, true, true, true, true, true, true, true, true, true, false]) rfl rfl ?_
                      refine SJ.q (YldS.yld (y_ixRow (k := 2) (R := fI64) rfl Try.runUnderlying42 Try.sizeOf2 rfl rfl h57)) rfl ?_
                      refine SJ.nil ?_
                      refine PJ.draw ?_
                      refine RJ.step1 12 [0, 1] (by kernel_rfl) ⟨by decide, rfl⟩ ?_
                      refine RO.of (listed' := #[true, true, true, true, true, true, true, true, true, true, true, true, true]) rfl rfl ?_
                      refine SJ.storeRL (k := 2) (i := (Int.toNat e52)) (off := 0) (us := [.int .i64 q54]) (b := q54) rfl rfl (idx_get h57) rfl rfl Try.sizeOf2 rfl rfl rfl ?_
                      refine SJ.nil ?_
                      refine PJ.draw ?_
                      refine RJ.fin [0, 1] (by kernel_rfl) ⟨by decide, rfl⟩ ?_
                      refine PJ.next ?_
                      refine WJ.seq ?_
                      refine WJ.quiet ?_
                      refine QJ.step (YldS.yld (y_move rfl)) rfl ?_
                      refine QJ.step (YldS.yld (y_move rfl)) rfl ?_
                      refine QJ.step (YldS.yld (y_move rfl)) rfl ?_
                      obtain ⟨q58, h59, hm⟩ := bindS hm
                      refine QJ.step (YldS.yld (y_rem' h59 rfl rfl)) rfl ?_
                      refine QJ.step (YldS.yld (y_bin rfl rfl rfl)) rfl ?_
                      refine QJ.done ?_
                      refine PJ.next ?_
                      refine WJ.cond (t := decide (k42 < q58)) rfl (fun hb60 => ?_) (fun hb60 => ?_)
                      · replace hm := ifT hm hb60
                        refine WJ.inn_len 1 rfl fun hl61 => ?_
                        refine WJ.reg ?_
                        refine SJ.q (YldS.yld (y_move rfl)) rfl ?_
                        refine SJ.q (YldS.yld (y_move rfl)) rfl ?_
                        refine SJ.q (YldS.yld (y_move rfl)) rfl ?_
                        obtain ⟨e62, h63, hm⟩ := bindS hm
                        obtain ⟨y64, hy65⟩ := inn_idx hl61 h63
                        refine SJ.q (YldS.yld (y_ixRow (k := 0) (R := fRaw1) rfl Try.runUnderlying82 Try.sizeOf42 rfl rfl hy65)) rfl ?_
                        refine SJ.q (YldS.yld (y_loadR (k := 0) (i := (Int.toNat i25)) (off := 0) rfl Try.isAgg42 rfl (idx_get hy65) (raw_get y64))) rfl ?_
                        refine SJ.q (YldS.yld (y_move rfl)) rfl ?_
                        obtain ⟨e66, h67, hm⟩ := bindS hm
                        refine SJ.q (YldS.yld (y_ixG (R := fI64) (fun w hw => (hw.inn_rd (k := 1) rfl rfl hy65 h63)) Try.runUnderlying42 Try.sizeOf2 rfl rfl h67)) rfl ?_
                        refine SJ.q (YldS.yld (y_loadG (R := fI64) (i := (Int.toNat k42)) (off := 0) (fun w hw => (hw.inn_rd (k := 1) rfl rfl hy65 h63)) Try.isAgg2 rfl (idx_get h67) rfl)) rfl ?_
                        obtain ⟨e68, h69, hm⟩ := bindS hm
                        refine SJ.q (YldS.yld (y_ixRow (k := 2) (R := fI64) rfl Try.runUnderlying42 Try.sizeOf2 rfl rfl h69)) rfl ?_
                        refine SJ.q (YldS.yld (y_loadR (k := 2) (i := (Int.toNat e66)) (off := 0) (u := .int .i64 e68) rfl Try.isAgg2 rfl (idx_get h69) rfl)) rfl ?_
                        refine SJ.q (YldS.yld (y_bin rfl rfl rfl)) rfl ?_
                        obtain ⟨e70, h71, hm⟩ := bindS hm
                        refine SJ.q (YldS.yld (y_ixRow (k := 2) (R := fI64) rfl Try.runUnderlying42 Try.sizeOf2 rfl rfl h71)) rfl ?_
                        refine SJ.storeRL (k := 2) (i := (Int.toNat e66)) (off := 0) (us := [.int .i64 (w64 (e68 + 1))]) (b := w64 (e68 + 1)) rfl rfl (idx_get h71) rfl rfl Try.sizeOf2 rfl rfl rfl ?_
                        refine SJ.nil ?_
                        refine PJ.block_normal ?_
                        exact PJ.joined (List.set (List.set l41 (Int.toNat e52) q54) (Int.toNat e66) (w64 (e68 + 1))) [0, 1, 2] hm ⟨rfl, rfl, rfl, rfl, rfl, rfl, rfl, rfl, trivial⟩ ⟨by decide, rfl⟩
                      · replace hm := ifF hm hb60
                        refine WJ.skip ?_
                        refine PJ.block_normal ?_
                        exact PJ.joined (List.set l41 (Int.toNat e52) q54) [0, 1, 2] hm ⟨rfl, rfl, rfl, rfl, rfl, rfl, rfl, rfl, trivial⟩ ⟨by decide, rfl⟩
                    · rintro l44 hm
                      subst hk46
                      refine WJ.quiet ?_
                      refine QJ.step (YldS.yld (y_move rfl)) rfl ?_
                      refine QJ.step (YldS.yld (y_bin rfl rfl rfl)) rfl ?_
                      refine QJ.step (YldS.yld (y_assign rfl)) rfl ?_
                      refine QJ.done ?_
                      exact PJ.round (l44, w64 (k42 + 1)) [0, 1, 2] hm ⟨rfl, rfl, rfl, rfl, rfl, rfl, rfl, rfl, trivial⟩ ⟨by decide, rfl⟩
                  · replace hm := ifF hm hb43
                    refine WJ.exit ?_
                    refine PJ.then_exit (PJ.then_exit (PJ.block_exit ?_))
                    exact PJ.joined l41 [0, 1, 2] hm ⟨rfl, rfl, rfl, rfl, rfl, rfl, trivial⟩ ⟨by decide, rfl⟩
              · rintro l38 hm
                subst hk40
                refine WJ.quiet ?_
                refine QJ.step (YldS.yld (y_move rfl)) rfl ?_
                refine QJ.step (YldS.yld (y_move rfl)) rfl ?_
                refine QJ.step (YldS.yld (y_bin rfl rfl rfl)) rfl ?_
                refine QJ.step (YldS.yld (y_assign rfl)) rfl ?_
                refine QJ.done ?_
                refine PJ.block_normal ?_
                exact PJ.joined (l38, w64 (at24 + (List.length e32 : Int))) [0, 1, 2] hm ⟨rfl, rfl, rfl, rfl, rfl, trivial⟩ ⟨by decide, rfl⟩
            · rintro ⟨l27, at28⟩ hm
              subst hk30
              refine WJ.quiet ?_
              refine QJ.step (YldS.yld (y_move rfl)) rfl ?_
              refine QJ.step (YldS.yld (y_bin rfl rfl rfl)) rfl ?_
              refine QJ.step (YldS.yld (y_assign rfl)) rfl ?_
              refine QJ.done ?_
              exact PJ.round (l27, at28, w64 (i25 + 1)) [0, 1, 2] hm ⟨rfl, rfl, rfl, rfl, rfl, trivial⟩ ⟨by decide, rfl⟩
          · replace hm := ifF hm hb26
            refine WJ.exit ?_
            refine PJ.then_exit (PJ.then_exit (PJ.block_exit ?_))
            exact PJ.joined l23 [2] hm ⟨rfl, trivial⟩ ⟨by decide, rfl⟩
      · rintro l20 hm
        subst hk22
        refine WJ.seq ?_
        refine WJ.quiet ?_
        refine QJ.step (YldS.yld (y_move rfl)) rfl ?_
        refine QJ.step (YldS.yld (y_assign rfl)) rfl ?_
        refine QJ.step (YldS.yld (y_assign rfl)) rfl ?_
        refine QJ.done ?_
        refine PJ.next ?_
        refine WJ.ret ?_
        obtain rfl := Option.some.inj hm
        refine PJ.sel (L' := [row v15 2 fI64 l20]) [0] ⟨by decide, rfl⟩ ?_
        exact PJ.retn (vs := [v15, .int .i64 0]) Try.results15 ⟨rfl, rfl, trivial⟩ ⟨_, rfl, rfl⟩

set_option maxRecDepth 100000 in
set_option maxHeartbeats 1000000 in
theorem ok_i_absolute {n1 : Int} {r : Int} (hm : i_absolute n1 = some r) (w : World)  :
    Calls Try.prog 76 #[.int .i64 n1] w (Ret (cx w) (.int .i64 r)) := by
  unfold i_absolute at hm
  refine Calls.enter [.int .i64 n1] Try.func76 rfl Try.ntmps76 rfl ?_
  refine WJ.seq ?_
  refine WJ.quiet ?_
  refine QJ.step (YldS.yld (y_assign rfl)) rfl ?_
  refine QJ.done ?_
  refine PJ.next ?_
  refine WJ.seq ?_
  refine WJ.seq ?_
  refine WJ.quiet ?_
  refine QJ.step (YldS.yld (y_move rfl)) rfl ?_
  refine QJ.step (YldS.yld (y_bin rfl rfl rfl)) rfl ?_
  refine QJ.done ?_
  refine PJ.next ?_
  refine WJ.cond (t := decide (n1 < 0)) rfl (fun hb2 => ?_) (fun hb2 => ?_)
  · replace hm := ifT hm hb2
    refine WJ.seq ?_
    refine WJ.quiet ?_
    refine QJ.step (YldS.yld (y_move rfl)) rfl ?_
    refine QJ.step (YldS.yld (y_neg rfl)) rfl ?_
    refine QJ.step (YldS.yld (y_assign rfl)) rfl ?_
    refine QJ.done ?_
    refine PJ.next ?_
    refine WJ.ret ?_
    refine PJ.then_ret ?_
    obtain rfl := Option.some.inj hm
    refine PJ.sel (L' := []) [] ⟨List.nodup_nil, rfl⟩ ?_
    exact PJ.retn (vs := [.int .i64 (w64 (0 - n1))]) Try.results76 ⟨rfl, trivial⟩ ⟨rfl, rfl⟩
  · replace hm := ifF hm hb2
    refine WJ.skip ?_
    refine PJ.next ?_
    refine WJ.seq ?_
    refine WJ.quiet ?_
    refine QJ.step (YldS.yld (y_move rfl)) rfl ?_
    refine QJ.step (YldS.yld (y_assign rfl)) rfl ?_
    refine QJ.done ?_
    refine PJ.next ?_
    refine WJ.ret ?_
    obtain rfl := Option.some.inj hm
    refine PJ.sel (L' := []) [] ⟨List.nodup_nil, rfl⟩ ?_
    exact PJ.retn (vs := [.int .i64 n1]) Try.results76 ⟨rfl, trivial⟩ ⟨rfl, rfl⟩

set_option maxRecDepth 100000 in
set_option maxHeartbeats 1000000 in
theorem ok_i_divisor {N : Nat} {a1 : Int} {b2 : Int} {r : Int} (hm : i_divisor N a1 b2 = some r) (w : World)  :
    Calls Try.prog 75 #[.int .i64 a1, .int .i64 b2] w (Ret (cx w) (.int .i64 r)) := by
  unfold i_divisor at hm
  refine Calls.enter [.int .i64 a1, .int .i64 b2] Try.func75 rfl Try.ntmps75 rfl ?_
  refine WJ.seq ?_
  refine WJ.quiet ?_
  refine QJ.step (YldS.yld (y_assign rfl)) rfl ?_
  refine QJ.done ?_
  refine PJ.next ?_
  obtain ⟨kj4, hk5, hm⟩ := withK_open hm
  refine WJ.join (X := Int) (fun (x : Int) => kj4 x = some r) (fun (x : Int) => [(0, .int .i64 x)]) (fun (x : Int) => []) ?_ ?_
  · clear hk5
    refine WJ.block ?_
    refine WJ.sel (L' := (fun (x : Int × Int) => []) (a1, b2)) [] ⟨List.nodup_nil, rfl⟩ ?_
    refine WJ.sub (m' := (fun (x : Int × Int) => [(0, .int .i64 x.1), (1, .int .i64 x.2)]) (a1, b2)) ⟨rfl, rfl, trivial⟩ ?_
    refine WJ.loop (X := Int × Int) (fun N (x : Int × Int) => i_divisor_l1 kj4 N x.1 x.2 = some r) (fun (x : Int × Int) => [(0, .int .i64 x.1), (1, .int .i64 x.2)]) (fun (x : Int × Int) => []) ?_ N (a1, b2) hm
    · rintro N ⟨a6, b7⟩ hI
      have hm := hI; clear hI
      cases N with
      | zero => cases hm
      | succ N =>
      unfold i_divisor_l1 at hm
      refine WJ.seq ?_
      refine WJ.seq ?_
      refine WJ.quiet ?_
      refine QJ.step (YldS.yld (y_move rfl)) rfl ?_
      refine QJ.step (YldS.yld (y_bin rfl rfl rfl)) rfl ?_
      refine QJ.done ?_
      refine PJ.next ?_
      refine WJ.cond (t := (b7 != 0)) rfl (fun hb8 => ?_) (fun hb8 => ?_)
      · replace hm := ifT hm hb8
        refine WJ.skip ?_
        refine PJ.next ?_
        refine WJ.block ?_
        refine WJ.quiet_draw follows (by kernel_rfl) ?_
        refine QJ.step (YldS.yld (y_move rfl)) rfl ?_
        refine QJ.step (YldS.yld (y_move rfl)) rfl ?_
        refine QJ.step (YldS.yld (y_move rfl)) rfl ?_
        obtain ⟨q9, h10, hm⟩ := bindS hm
        refine QJ.step (YldS.yld (y_rem' h10 rfl rfl)) rfl ?_
        refine QJ.step (YldS.yld (y_assign rfl)) rfl ?_
        refine QJ.step (YldS.yld (y_assign rfl)) rfl ?_
        refine QJ.done ?_
        refine PJ.block_normal ?_
        exact PJ.round (b7, q9) [] hm ⟨rfl, rfl, trivial⟩ ⟨List.nodup_nil, rfl⟩
      · replace hm := ifF hm hb8
        refine WJ.exit ?_
        refine PJ.then_exit (PJ.then_exit (PJ.block_exit ?_))
        exact PJ.joined a6 [] hm ⟨rfl, trivial⟩ ⟨List.nodup_nil, rfl⟩
  · rintro a3 hm
    subst hk5
    refine WJ.seq ?_
    refine WJ.quiet ?_
    refine QJ.step (YldS.yld (y_move rfl)) rfl ?_
    refine QJ.step (YldS.yld (y_assign rfl)) rfl ?_
    refine QJ.done ?_
    refine PJ.next ?_
    refine WJ.ret ?_
    obtain rfl := Option.some.inj hm
    refine PJ.sel (L' := []) [] ⟨List.nodup_nil, rfl⟩ ?_
    exact PJ.retn (vs := [.int .i64 a3]) Try.results75 ⟨rfl, trivial⟩ ⟨rfl, rfl⟩

end Go.Proofs.Ytikkolkickclhaa
