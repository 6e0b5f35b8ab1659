/-
  The walks: a call hands back what its plain function computes, where that has a value. No other conditions.
-/
import Derived.Test.YtikkolkickclhaaDoorFnRankingsM
import Derived.Test.YtikkolkickclhaaDoorChecked
import Derived.Test.YtikkolkickclhaaDoorRows
import Derived.Test.YtikkolkickclhaaDoorFnRankingsS
namespace Go.Proofs.YtikkolkickclhaaDoor
open Go.RowKit Go.Proofs
set_option linter.unusedVariables false
set_option linter.unusedSimpArgs false

def tabNm : String := (Rows.fnRankingsRow.laid.map (fun x => x.1)).getD 2 default

theorem follows : Tryd.prog.follows .mixedOrders = true := by kernel_rfl

def Result.enc (x : Result) : List Value := [str x.name, .int .i64 x.net, .int .i64 x.errors]
def fResult : FRp Result := ⟨3, Result.enc, fun _ => rfl, by decide, fun x u hu => by
  simp only [Result.enc, List.mem_cons, List.not_mem_nil, or_false] at hu
  rcases hu with rfl | rfl | rfl <;> rfl⟩

def shL00Src : Sh L00Src UInt8 3 := ⟨fun v x => [v, .int .i64 x.at_, .int .u64 x.seed], fun x => x.code, 0, fun _ _ => rfl, fun _ _ => rfl, fun v x hv u hu => by
  simp only [List.mem_cons, List.not_mem_nil, or_false] at hu
  rcases hu with rfl | rfl | rfl <;> first | rfl | exact hv, by decide⟩

def shTied : Sh Tied Int 2 := ⟨fun v x => [.int .i64 x.place, v], fun x => x.list, 1, fun _ _ => rfl, fun _ _ => rfl, fun v x hv u hu => by
  simp only [List.mem_cons, List.not_mem_nil, or_false] at hu
  rcases hu with rfl | rfl <;> first | rfl | exact hv, by decide⟩

theorem pl77 : PlacesOk Tryd.prog 77 [(0, 1), (1, 1), (2, 1)] := ⟨_, Tryd.runUnderlying77, fun w => by simp [Tryd.sizeOf3, Tryd.sizeOf22, Tryd.sizeOf75]⟩
theorem fld77_1 : FieldOk Tryd.prog 77 1 1 3 0 := ⟨_, _, Tryd.runUnderlying77, rfl, rfl, rfl, Tryd.sizeOf3⟩
theorem fld77_0 : FieldOk Tryd.prog 77 0 0 22 0 := ⟨_, _, Tryd.runUnderlying77, rfl, rfl, rfl, Tryd.sizeOf22⟩
theorem fld77_2 : FieldOk Tryd.prog 77 2 2 75 0 := ⟨_, _, Tryd.runUnderlying77, rfl, rfl, rfl, Tryd.sizeOf75⟩
theorem pl46 : PlacesOk Tryd.prog 46 [(0, 1), (1, 1), (2, 1)] := ⟨_, Tryd.runUnderlying46, fun w => by simp [Tryd.sizeOf2, Tryd.sizeOf9]⟩
theorem fld46_2 : FieldOk Tryd.prog 46 2 2 2 0 := ⟨_, _, Tryd.runUnderlying46, rfl, rfl, rfl, Tryd.sizeOf2⟩
set_option maxRecDepth 100000 in
theorem el46 : ElemOk Tryd.prog 46 3 (fResult.enc (Result.mk [] 0 0)) := ⟨_, _, Tryd.type46, rfl, rfl, rfl, by decide⟩
theorem fld46_0 : FieldOk Tryd.prog 46 0 0 9 0 := ⟨_, _, Tryd.runUnderlying46, rfl, rfl, rfl, Tryd.sizeOf9⟩
theorem fld46_1 : FieldOk Tryd.prog 46 1 1 2 0 := ⟨_, _, Tryd.runUnderlying46, rfl, rfl, rfl, Tryd.sizeOf2⟩
set_option maxRecDepth 100000 in
theorem el2 : ElemOk Tryd.prog 2 1 (fI64.enc 0) := ⟨_, _, Tryd.type2, rfl, rfl, rfl, by decide⟩
set_option maxRecDepth 100000 in
open Go.RowKit Go.Lib Go.Sort Go.Proofs in
theorem sortS51_27 : SortS Tryd.prog 51 27 := by
  have hk : ∀ (n : Nat) (ie : TypeInfo), 2 ≤ n → ie.hasPointers = false → ie.bytes = 8 → Lib.swapperK n ie 6 = 5 := fun n ie h a b => by
    have c1 : (n == 0) = false := by rw [beq_eq_false_iff_ne]; omega
    have c2 : (n == 1) = false := by rw [beq_eq_false_iff_ne]; omega
    simp [Lib.swapperK, a, b, c1, c2]
  exact sortS_of Tryd.laysGt8 27 2 _ _ Tryd.type27 rfl (by kernel_rfl) Tryd.type2 6 (fun _ => by kernel_rfl) rfl Tryd.isAgg2 73
    (fun n h hn p c lf la lb w R hp => Any.sort_SliceStable_of_stable Tryd.laysGt8 27 2 _ _ Tryd.type27 rfl (by kernel_rfl) Tryd.type2 6 (fun _ => by kernel_rfl) p n c hn 73 (by rw [hk n _ h rfl rfl]; kernel_rfl) lf la lb w R hp) 69 70
    (fun p c lf la lb w R hp => Any.sort_SliceStable_of_stable Tryd.laysGt8 27 2 _ _ Tryd.type27 rfl (by kernel_rfl) Tryd.type2 6 (fun _ => by kernel_rfl) p 0 c (by decide) 69 (by kernel_rfl) lf la lb w R hp)
    (fun p c lf la lb w R hp => Any.sort_SliceStable_of_stable Tryd.laysGt8 27 2 _ _ Tryd.type27 rfl (by kernel_rfl) Tryd.type2 6 (fun _ => by kernel_rfl) p 1 c (by decide) 70 (by kernel_rfl) lf la lb w R hp)
    (fun args W => run_callFunc_extern Tryd.func73 (by kernel_rfl) (by kernel_rfl) (by kernel_rfl) (e := Extern.ReflectliteSwapper.swap true) (by kernel_rfl) args W)

abbrev fRaw2 : FRp (Raw 2) := fRaw 2 (by decide)
theorem fld58_1 : FieldOk Tryd.prog 58 1 1 27 0 := ⟨_, _, Tryd.runUnderlying58, rfl, rfl, rfl, Tryd.sizeOf27⟩
theorem pl58 : PlacesOk Tryd.prog 58 [(0, 1), (1, 1)] := ⟨_, Tryd.runUnderlying58, fun w => by simp [Tryd.sizeOf2, Tryd.sizeOf27]⟩
set_option maxRecDepth 100000 in
theorem el58 : ElemOk Tryd.prog 58 2 (shTied.enc (.slice none 0 0) (Tied.mk 0 [])) := ⟨_, _, Tryd.type58, rfl, rfl, rfl, by decide⟩
theorem fld58_0 : FieldOk Tryd.prog 58 0 0 2 0 := ⟨_, _, Tryd.runUnderlying58, rfl, rfl, rfl, Tryd.sizeOf2⟩
set_option maxRecDepth 100000 in
theorem zv62 : ∀ w, (zeroValue 62).run Tryd.prog w = .ok (.agg (List.toArray (encs fI64 (List.replicate 10 (0 : Int))))) w := fun w => by
  rw [Tryd.zeroValue62]
  refine congrArg (fun z => Result.ok (Value.agg z) w) ?_
  kernel_rfl
set_option maxRecDepth 100000 in
theorem el4 : ElemOk Tryd.prog 4 1 (fBool.enc false) := ⟨_, _, Tryd.type4, rfl, rfl, rfl, by decide⟩
set_option maxRecDepth 100000 in
theorem el24 : ElemOk Tryd.prog 24 1 [.slice none 0 0] := ⟨_, _, Tryd.type24, rfl, rfl, rfl, by decide⟩
set_option maxRecDepth 100000 in
theorem el27 : ElemOk Tryd.prog 27 1 [.slice none 0 0] := ⟨_, _, Tryd.type27, rfl, rfl, rfl, by decide⟩
theorem eq46 : EqOk Tryd.prog 46 Result.enc Result.beq := ⟨Tryd.eqGuardType46, fun x y w => by
  have hf : Tryd.prog.fieldsOf 46 = #[{ name := "Name", type := 9, offset := 0, embedded := false, tag := "", pkgPath := "", byteOffset := 0 }, { name := "Net", type := 2, offset := 1, embedded := false, tag := "", pkgPath := "", byteOffset := 16 }, { name := "Errors", type := 2, offset := 2, embedded := false, tag := "", pkgPath := "", byteOffset := 24 }] := by kernel_rfl
  have ht : Tryd.prog.underlying 46 = some (.struct (Tryd.prog.fieldsOf 46)) := by rw [hf]; exact Tryd.underlying46
  rw [run_equalIn_struct w 9999 46 _ _ ht Tryd.stoodInHeld46, hf]
  obtain ⟨a0, a1, a2⟩ := x
  obtain ⟨b0, b1, b2⟩ := y
  simp only [Op.eqFields, Result.enc, Result.beq]
  simp [part, str, Tryd.isAgg2, Tryd.isAgg9, run_equalIn_int _ _ _ _ _ _ _ Tryd.underlying2, run_equalIn_string _ _ _ _ _ Tryd.underlying9, ByteArray.toList_eq]
  (repeat' split) <;> simp_all⟩
set_option maxRecDepth 100000 in
theorem el9 : ElemOk Tryd.prog 9 1 (fStr.enc []) := ⟨_, _, Tryd.type9, rfl, rfl, rfl, by decide⟩
set_option maxRecDepth 100000 in
theorem el5 : ElemOk Tryd.prog 5 1 (fByte.enc 0) := ⟨_, _, Tryd.type5, rfl, rfl, rfl, by decide⟩

set_option maxRecDepth 100000 in
set_option maxHeartbeats 1000000 in
theorem ok_w_f6big {code1 : List UInt8} {r : Bool} (hm : w_f6big code1 = some r) (w : World) (v2 : Value) (hr3 : RdS w (cx w).Fz v2 fByte.rp code1) :
    Calls Tryd.prog 4 #[v2] w (Ret (cx w) (.bool r)) := by
  unfold w_f6big at hm
  refine Calls.enter [v2] Tryd.func4 rfl Tryd.ntmps4 rfl ?_
  refine WJ.seq ?_
  refine WJ.quiet ?_
  refine QJ.step (YldS.yld (y_assign rfl)) rfl ?_
  refine QJ.done ?_
  refine PJ.next ?_
  refine WJ.seq ?_
  refine WJ.quiet ?_
  refine QJ.step (YldS.yld (y_move rfl)) rfl ?_
  refine QJ.step (YldS.yld (y_lenS Tryd.runUnderlying22 hr3 rfl)) rfl ?_
  refine QJ.step (YldS.yld (y_bin rfl rfl rfl)) rfl ?_
  refine QJ.step (YldS.yld (y_assign rfl)) rfl ?_
  refine QJ.done ?_
  refine PJ.next ?_
  refine WJ.ret ?_
  obtain rfl := Option.some.inj hm
  refine PJ.sel (L' := []) [] ⟨List.nodup_nil, rfl⟩ ?_
  exact PJ.retn (vs := [.bool (decide ((List.length code1 : Int) > 4096))]) Tryd.results4 ⟨rfl, trivial⟩ ⟨rfl, rfl⟩

set_option maxRecDepth 100000 in
set_option maxHeartbeats 1000000 in
theorem ok_s_l00From {code1 : List UInt8} {r : L00Src} (hm : s_l00From code1 = some r) (w : World) (v2 : Value) (hr3 : RdS w (cx w).Fz v2 fByte.rp code1) :
    Calls Tryd.prog 26 #[v2] w (RetG (cx w) fun u L => ∃ (u1 : Nat), (u = pt u1 0 ∧ L = [box u1 77 [v2, .int .i64 r.at_, .int .u64 r.seed]])) := by
  unfold s_l00From at hm
  refine Calls.enter [v2] Tryd.func26 rfl Tryd.ntmps26 rfl ?_
  refine WJ.seq ?_
  refine WJ.quiet ?_
  refine QJ.step (YldS.yld (y_assign rfl)) rfl ?_
  refine QJ.done ?_
  refine PJ.next ?_
  refine WJ.seq ?_
  refine WJ.reg ?_
  refine SJ.q (YldS.yld (y_move rfl)) rfl ?_
  refine SJ.q (YldS.yld (y_build (parts := [(0, .tmp 3)]) (places := [(0, 1), (1, 1), (2, 1)]) (r := [v2, .int .i64 0, .int .u64 0]) pl77 Tryd.zeroValue77 rfl rfl (show _ = [(0, [v2])] from by simp only [List.map, RdS.cells1 hr3]) rfl)) rfl ?_
  refine SJ.box (cs := [v2, .int .i64 0, .int .u64 0]) rfl rfl rfl fun g4 => ?_
  refine SJ.q (YldS.yld (y_assign rfl)) rfl ?_
  refine SJ.nil ?_
  refine PJ.next ?_
  refine WJ.ret ?_
  obtain rfl := Option.some.inj hm
  refine PJ.sel (L' := [box g4 77 [v2, .int .i64 0, .int .u64 0]]) [0] ⟨by decide, rfl⟩ ?_
  exact PJ.retn (vs := [pt g4 0]) Tryd.results26 ⟨rfl, trivial⟩ ⟨_, rfl, rfl⟩

set_option maxRecDepth 100000 in
set_option maxHeartbeats 1000000 in
theorem ok_s_l00Src_next {s1 : L00Src} {g2 : Nat} {r : Int × L00Src} (hm : s_l00Src_next s1 = some r) (w : World) (S : Nat → Prop) (v3 : Value) (hr4 : RdS w (Cx.Fz ⟨w, S⟩) v3 fByte.rp s1.code) (hA : (box g2 77 [v3, .int .i64 s1.at_, .int .u64 s1.seed]).holds w S) :
    Calls Tryd.prog 50 #[pt g2 0] w (RetG ⟨w, S⟩ fun u L => (u = .int .i64 r.1 ∧ L = [box g2 77 [v3, .int .i64 r.2.at_, .int .u64 r.2.seed]])) := by
  unfold s_l00Src_next at hm
  refine Calls.enter1 hA [pt g2 0] Tryd.func50 rfl Tryd.ntmps50 rfl ?_
  refine WJ.seq ?_
  refine WJ.quiet ?_
  refine QJ.step (YldS.yld (y_assign rfl)) rfl ?_
  refine QJ.done ?_
  refine PJ.next ?_
  refine WJ.seq ?_
  refine WJ.quiet ?_
  refine QJ.step (YldS.yld (y_assign rfl)) rfl ?_
  refine QJ.done ?_
  refine PJ.next ?_
  obtain ⟨kj6, hk7, hm⟩ := withK_open hm
  refine WJ.join (X := Int) (fun (x : Int) => kj6 x = some r) (fun (x : Int) => [(0, pt g2 0), (3, .int .i64 x)]) (fun (x : Int) => [box g2 77 [v3, .int .i64 s1.at_, .int .u64 s1.seed]]) ?_ ?_
  · clear hk7
    refine WJ.seq ?_
    refine WJ.quiet_draw follows (by kernel_rfl) ?_
    refine QJ.step (YldS.yld (y_move rfl)) rfl ?_
    refine QJ.step (YldS.yld (y_nil rfl)) rfl ?_
    refine QJ.step (YldS.yld (y_fldB (o := 0) fld77_1 rfl)) rfl ?_
    refine QJ.step (YldS.yld (y_loadB (k := 0) (off := 1) (v := .int .i64 s1.at_) rfl Tryd.isAgg3 rfl rfl)) rfl ?_
    refine QJ.step (YldS.yld (y_move rfl)) rfl ?_
    refine QJ.step (YldS.yld (y_nil rfl)) rfl ?_
    refine QJ.step (YldS.yld (y_fldB (o := 0) fld77_0 rfl)) rfl ?_
    refine QJ.step (YldS.yld (y_loadB (k := 0) (off := 0) (v := v3) rfl Tryd.isAgg22 rfl rfl)) rfl ?_
    refine QJ.step (YldS.yld (y_lenS Tryd.runUnderlying22 hr4 rfl)) rfl ?_
    refine QJ.step (YldS.yld (y_bin rfl rfl rfl)) rfl ?_
    refine QJ.done ?_
    refine PJ.next ?_
    refine WJ.cond (t := decide (s1.at_ < (List.length s1.code : Int))) rfl (fun hb8 => ?_) (fun hb8 => ?_)
    · replace hm := ifT hm hb8
      refine WJ.quiet_draw follows (by kernel_rfl) ?_
      refine QJ.step (YldS.yld (y_move rfl)) rfl ?_
      refine QJ.step (YldS.yld (y_nil rfl)) rfl ?_
      refine QJ.step (YldS.yld (y_fldB (o := 0) fld77_0 rfl)) rfl ?_
      refine QJ.step (YldS.yld (y_loadB (k := 0) (off := 0) (v := v3) rfl Tryd.isAgg22 rfl rfl)) rfl ?_
      refine QJ.step (YldS.yld (y_move rfl)) rfl ?_
      refine QJ.step (YldS.yld (y_nil rfl)) rfl ?_
      refine QJ.step (YldS.yld (y_fldB (o := 0) fld77_1 rfl)) rfl ?_
      refine QJ.step (YldS.yld (y_loadB (k := 0) (off := 1) (v := .int .i64 s1.at_) rfl Tryd.isAgg3 rfl rfl)) rfl ?_
      obtain ⟨e9, h10, hm⟩ := bindS hm
      obtain ⟨ad11, _, rfl, ha12, hy13⟩ := hr4.elem h10
      refine QJ.step (YldS.yld (hy13 Tryd.runUnderlying22 Tryd.sizeOf5 rfl rfl)) rfl ?_
      refine QJ.step (YldS.yld (y_load1 (v := .int .u8 (UInt8.toNat e9 : Int)) Tryd.isAgg5 ha12 St.frozenC rfl)) rfl ?_
      refine QJ.step (YldS.yld (y_conv8 Tryd.runUnderlying5 Tryd.runUnderlying3 rfl)) rfl ?_
      refine QJ.step (YldS.yld (y_assign rfl)) rfl ?_
      refine QJ.done ?_
      exact PJ.joined (UInt8.toNat e9 : Int) [0] hm ⟨rfl, rfl, trivial⟩ ⟨by decide, rfl⟩
    · replace hm := ifF hm hb8
      refine WJ.skip ?_
      exact PJ.joined 0 [0] hm ⟨rfl, rfl, trivial⟩ ⟨by decide, rfl⟩
  · rintro b5 hm
    subst hk7
    refine WJ.seq ?_
    refine WJ.reg ?_
    refine SJ.q (YldS.yld (y_move rfl)) rfl ?_
    refine SJ.q (YldS.yld (y_nil rfl)) rfl ?_
    refine SJ.q (YldS.yld (y_fldB (o := 0) fld77_1 rfl)) rfl ?_
    refine SJ.q (YldS.yld (y_loadB (k := 0) (off := 1) (v := .int .i64 s1.at_) rfl Tryd.isAgg3 rfl rfl)) rfl ?_
    refine SJ.q (YldS.yld (y_bin rfl rfl rfl)) rfl ?_
    refine SJ.q (YldS.yld (y_nil rfl)) rfl ?_
    refine SJ.q (YldS.yld (y_fldB (o := 0) fld77_1 rfl)) rfl ?_
    refine SJ.storeL (k := 0) (off := 1) (us := [.int .i64 (w64 (s1.at_ + 1))]) rfl rfl rfl rfl Tryd.sizeOf3 rfl rfl ?_
    refine SJ.nil ?_
    refine PJ.next ?_
    refine WJ.seq ?_
    refine WJ.reg ?_
    refine SJ.q (YldS.yld (y_move rfl)) rfl ?_
    refine SJ.q (YldS.yld (y_move rfl)) rfl ?_
    refine SJ.q (YldS.yld (y_nil rfl)) rfl ?_
    refine SJ.q (YldS.yld (y_fldB (o := 0) fld77_2 rfl)) rfl ?_
    refine SJ.q (YldS.yld (y_loadB (k := 0) (off := 2) (v := .int .u64 s1.seed) rfl Tryd.isAgg75 rfl rfl)) rfl ?_
    refine SJ.q (YldS.yld (y_bin rfl rfl rfl)) rfl ?_
    refine SJ.q (YldS.yld (y_move rfl)) rfl ?_
    refine SJ.q (YldS.yld (y_convI Tryd.runUnderlying3 Tryd.runUnderlying75 rfl)) rfl ?_
    refine SJ.q (YldS.yld (y_bin rfl rfl rfl)) rfl ?_
    refine SJ.q (YldS.yld (y_bin rfl rfl rfl)) rfl ?_
    refine SJ.q (YldS.yld (y_nil rfl)) rfl ?_
    refine SJ.q (YldS.yld (y_fldB (o := 0) fld77_2 rfl)) rfl ?_
    refine SJ.storeL (k := 0) (off := 2) (us := [.int .u64 (IntKind.u64.wrap ((IntKind.u64.wrap ((IntKind.u64.wrap (s1.seed * 6364136223846793005)) + (IntKind.u64.wrap b5))) + 1442695040888963407))]) rfl rfl rfl rfl Tryd.sizeOf75 rfl rfl ?_
    refine SJ.nil ?_
    refine PJ.next ?_
    refine WJ.seq ?_
    refine WJ.seq ?_
    refine WJ.quiet_draw follows (by kernel_rfl) ?_
    refine QJ.step (YldS.yld (y_move rfl)) rfl ?_
    refine QJ.step (YldS.yld (y_nil rfl)) rfl ?_
    refine QJ.step (YldS.yld (y_fldB (o := 0) fld77_1 rfl)) rfl ?_
    refine QJ.step (YldS.yld (y_loadB (k := 0) (off := 1) (v := .int .i64 (w64 (s1.at_ + 1))) rfl Tryd.isAgg3 rfl rfl)) rfl ?_
    refine QJ.step (YldS.yld (y_move rfl)) rfl ?_
    refine QJ.step (YldS.yld (y_nil rfl)) rfl ?_
    refine QJ.step (YldS.yld (y_fldB (o := 0) fld77_0 rfl)) rfl ?_
    refine QJ.step (YldS.yld (y_loadB (k := 0) (off := 0) (v := v3) rfl Tryd.isAgg22 rfl rfl)) rfl ?_
    refine QJ.step (YldS.yld (y_lenS Tryd.runUnderlying22 hr4 rfl)) rfl ?_
    refine QJ.step (YldS.yld (y_bin rfl rfl rfl)) rfl ?_
    refine QJ.done ?_
    refine PJ.next ?_
    refine WJ.cond (t := decide ((w64 (s1.at_ + 1)) ≤ (List.length s1.code : Int))) rfl (fun hb14 => ?_) (fun hb14 => ?_)
    · replace hm := ifT hm hb14
      refine WJ.seq ?_
      refine WJ.quiet ?_
      refine QJ.step (YldS.yld (y_move rfl)) rfl ?_
      refine QJ.step (YldS.yld (y_assign rfl)) rfl ?_
      refine QJ.done ?_
      refine PJ.next ?_
      refine WJ.ret ?_
      refine PJ.then_ret ?_
      obtain rfl := Option.some.inj hm
      refine PJ.sel (L' := [box g2 77 [v3, .int .i64 (w64 (s1.at_ + 1)), .int .u64 (IntKind.u64.wrap ((IntKind.u64.wrap ((IntKind.u64.wrap (s1.seed * 6364136223846793005)) + (IntKind.u64.wrap b5))) + 1442695040888963407))]]) [0] ⟨by decide, rfl⟩ ?_
      exact PJ.retn (vs := [.int .i64 b5]) Tryd.results50 ⟨rfl, trivial⟩ ⟨rfl, rfl⟩
    · replace hm := ifF hm hb14
      refine WJ.skip ?_
      refine PJ.next ?_
      refine WJ.seq ?_
      refine WJ.quiet ?_
      refine QJ.step (YldS.yld (y_move rfl)) rfl ?_
      refine QJ.step (YldS.yld (y_nil rfl)) rfl ?_
      refine QJ.step (YldS.yld (y_fldB (o := 0) fld77_2 rfl)) rfl ?_
      refine QJ.step (YldS.yld (y_loadB (k := 0) (off := 2) (v := .int .u64 (IntKind.u64.wrap ((IntKind.u64.wrap ((IntKind.u64.wrap (s1.seed * 6364136223846793005)) + (IntKind.u64.wrap b5))) + 1442695040888963407))) rfl Tryd.isAgg75 rfl rfl)) rfl ?_
      refine QJ.step (YldS.yld (y_shru rfl rfl rfl)) rfl ?_
      refine QJ.step (YldS.yld (y_andu rfl rfl rfl)) rfl ?_
      refine QJ.step (YldS.yld (y_convI Tryd.runUnderlying75 Tryd.runUnderlying2 rfl)) rfl ?_
      refine QJ.step (YldS.yld (y_assign rfl)) rfl ?_
      refine QJ.done ?_
      refine PJ.next ?_
      refine WJ.ret ?_
      obtain rfl := Option.some.inj hm
      refine PJ.sel (L' := [box g2 77 [v3, .int .i64 (w64 (s1.at_ + 1)), .int .u64 (IntKind.u64.wrap ((IntKind.u64.wrap ((IntKind.u64.wrap (s1.seed * 6364136223846793005)) + (IntKind.u64.wrap b5))) + 1442695040888963407))]]) [0] ⟨by decide, rfl⟩ ?_
      exact PJ.retn (vs := [.int .i64 (w64 (uand (ushr (IntKind.u64.wrap ((IntKind.u64.wrap ((IntKind.u64.wrap (s1.seed * 6364136223846793005)) + (IntKind.u64.wrap b5))) + 1442695040888963407)) 40) 255))]) Tryd.results50 ⟨rfl, trivial⟩ ⟨rfl, rfl⟩

set_option maxRecDepth 100000 in
set_option maxHeartbeats 1000000 in
theorem ok_s_l00Src_pick {s1 : L00Src} {n5 : Int} {g2 : Nat} {r : Int × L00Src} (hm : s_l00Src_pick s1 n5 = some r) (w : World) (S : Nat → Prop) (v3 : Value) (hr4 : RdS w (Cx.Fz ⟨w, S⟩) v3 fByte.rp s1.code) (hA : (box g2 77 [v3, .int .i64 s1.at_, .int .u64 s1.seed]).holds w S) :
    Calls Tryd.prog 30 #[pt g2 0, .int .i64 n5] w (RetG ⟨w, S⟩ fun u L => (u = .int .i64 r.1 ∧ L = [box g2 77 [v3, .int .i64 r.2.at_, .int .u64 r.2.seed]])) := by
  unfold s_l00Src_pick at hm
  refine Calls.enter1 hA [pt g2 0, .int .i64 n5] Tryd.func30 rfl Tryd.ntmps30 rfl ?_
  refine WJ.seq ?_
  refine WJ.quiet ?_
  refine QJ.step (YldS.yld (y_assign rfl)) rfl ?_
  refine QJ.done ?_
  refine PJ.next ?_
  refine WJ.seq ?_
  refine WJ.seq ?_
  refine WJ.quiet ?_
  refine QJ.step (YldS.yld (y_move rfl)) rfl ?_
  refine QJ.step (YldS.yld (y_bin rfl rfl rfl)) rfl ?_
  refine QJ.done ?_
  refine PJ.next ?_
  refine WJ.cond (t := decide (n5 ≤ 1)) rfl (fun hb6 => ?_) (fun hb6 => ?_)
  · replace hm := ifT hm hb6
    refine WJ.seq ?_
    refine WJ.quiet ?_
    refine QJ.step (YldS.yld (y_assign rfl)) rfl ?_
    refine QJ.done ?_
    refine PJ.next ?_
    refine WJ.ret ?_
    refine PJ.then_ret ?_
    obtain rfl := Option.some.inj hm
    refine PJ.sel (L' := [box g2 77 [v3, .int .i64 s1.at_, .int .u64 s1.seed]]) [0] ⟨by decide, rfl⟩ ?_
    exact PJ.retn (vs := [.int .i64 0]) Tryd.results30 ⟨rfl, trivial⟩ ⟨rfl, rfl⟩
  · replace hm := ifF hm hb6
    refine WJ.skip ?_
    refine PJ.next ?_
    refine WJ.seq ?_
    refine WJ.reg ?_
    refine SJ.q (YldS.yld (y_move rfl)) rfl ?_
    obtain ⟨r7, h8, hm⟩ := bindS hm
    refine SJ.call1 (k := 0) rfl Tryd.call50 rfl (fun w S hw hA hO => ok_s_l00Src_next h8 w S _ (hr4.st1 hw hO) hA) rfl ?_
    rintro _ _ ⟨rfl, rfl⟩
    refine SJ.q (YldS.yld (y_assign rfl)) rfl ?_
    refine SJ.nil ?_
    refine PJ.next ?_
    obtain ⟨kj12, hk13, hm⟩ := withK_open hm
    refine WJ.join (X := Int × Int × Int) (fun (x : Int × Int × Int) => kj12 x.1 x.2.1 x.2.2 = some r) (fun (x : Int × Int × Int) => [(1, .int .i64 n5), (5, .int .i64 x.2.2)]) (fun (x : Int × Int × Int) => [box g2 77 [v3, .int .i64 x.1, .int .u64 x.2.1]]) ?_ ?_
    · clear hk13
      refine WJ.seq ?_
      refine WJ.quiet ?_
      refine QJ.step (YldS.yld (y_move rfl)) rfl ?_
      refine QJ.step (YldS.yld (y_bin rfl rfl rfl)) rfl ?_
      refine QJ.done ?_
      refine PJ.next ?_
      refine WJ.cond (t := decide (n5 > 200)) rfl (fun hb14 => ?_) (fun hb14 => ?_)
      · replace hm := ifT hm hb14
        refine WJ.reg ?_
        refine SJ.q (YldS.yld (y_move rfl)) rfl ?_
        refine SJ.q (YldS.yld (y_bin rfl rfl rfl)) rfl ?_
        refine SJ.q (YldS.yld (y_move rfl)) rfl ?_
        obtain ⟨r15, h16, hm⟩ := bindS hm
        refine SJ.call1 (k := 0) rfl Tryd.call50 rfl (fun w S hw hA hO => ok_s_l00Src_next h16 w S _ (hr4.st1 hw hO) hA) rfl ?_
        rintro _ _ ⟨rfl, rfl⟩
        refine SJ.q (YldS.yld (y_bin rfl rfl rfl)) rfl ?_
        refine SJ.q (YldS.yld (y_assign rfl)) rfl ?_
        refine SJ.nil ?_
        exact PJ.joined (r15.2.at_, r15.2.seed, w64 ((w64 (r7.1 * 256)) + r15.1)) [0] hm ⟨rfl, rfl, trivial⟩ ⟨by decide, rfl⟩
      · replace hm := ifF hm hb14
        refine WJ.skip ?_
        exact PJ.joined (r7.2.at_, r7.2.seed, r7.1) [0] hm ⟨rfl, rfl, trivial⟩ ⟨by decide, rfl⟩
    · rintro ⟨x9, x10, x11⟩ hm
      subst hk13
      refine WJ.seq ?_
      refine WJ.quiet ?_
      refine QJ.step (YldS.yld (y_move rfl)) rfl ?_
      refine QJ.step (YldS.yld (y_move rfl)) rfl ?_
      obtain ⟨q17, h18, hm⟩ := bindS hm
      refine QJ.step (YldS.yld (y_rem' h18 rfl rfl)) rfl ?_
      refine QJ.step (YldS.yld (y_assign rfl)) rfl ?_
      refine QJ.done ?_
      refine PJ.next ?_
      refine WJ.ret ?_
      obtain rfl := Option.some.inj hm
      refine PJ.sel (L' := [box g2 77 [v3, .int .i64 x9, .int .u64 x10]]) [0] ⟨by decide, rfl⟩ ?_
      exact PJ.retn (vs := [.int .i64 q17]) Tryd.results30 ⟨rfl, trivial⟩ ⟨rfl, rfl⟩

set_option maxRecDepth 100000 in
set_option maxHeartbeats 1000000 in
theorem ok_s_l22New {s1 : L00Src} {name5 : Str} {g2 : Nat} {r : Result × L00Src} (hm : s_l22New s1 name5 = some r) (w : World) (S : Nat → Prop) (v3 : Value) (hr4 : RdS w (Cx.Fz ⟨w, S⟩) v3 fByte.rp s1.code) (hA : (box g2 77 [v3, .int .i64 s1.at_, .int .u64 s1.seed]).holds w S) :
    Calls Tryd.prog 55 #[pt g2 0, str name5] w (RetG ⟨w, S⟩ fun u L => (u = .agg (Result.enc r.1).toArray ∧ L = [box g2 77 [v3, .int .i64 r.2.at_, .int .u64 r.2.seed]])) := by
  unfold s_l22New at hm
  refine Calls.enter1 hA [pt g2 0, str name5] Tryd.func55 rfl Tryd.ntmps55 rfl ?_
  refine WJ.seq ?_
  refine WJ.reg ?_
  refine SJ.alloc (cs := [str [], .int .i64 0, .int .i64 0]) Tryd.zeroValue46 rfl rfl fun g6 => ?_
  refine SJ.nil ?_
  refine PJ.next ?_
  refine WJ.seq ?_
  refine WJ.reg ?_
  refine SJ.q (YldS.yld (y_move rfl)) rfl ?_
  refine SJ.q (YldS.yld (y_move rfl)) rfl ?_
  obtain ⟨r7, h8, hm⟩ := bindS hm
  refine SJ.call1 (k := 1) rfl Tryd.call30 rfl (fun w S hw hA hO => ok_s_l00Src_pick h8 w S _ (hr4.st1 hw hO) hA) rfl ?_
  rintro _ _ ⟨rfl, rfl⟩
  refine SJ.q (YldS.yld (y_bin rfl rfl rfl)) rfl ?_
  refine SJ.q (YldS.yld (y_build (parts := [(0, .tmp 6), (1, .tmp 9)]) (places := [(0, 1), (1, 1), (2, 1)]) (r := [str ((Result.mk name5 (w64 (50 * r7.1)) 0).name), .int .i64 ((Result.mk name5 (w64 (50 * r7.1)) 0).net), .int .i64 ((Result.mk name5 (w64 (50 * r7.1)) 0).errors)]) pl46 Tryd.zeroValue46 rfl rfl rfl rfl)) rfl ?_
  refine SJ.alloc (cs := [str [], .int .i64 0, .int .i64 0]) Tryd.zeroValue46 rfl rfl fun g9 => ?_
  refine SJ.storeL (k := 0) (off := 0) (us := [str ((Result.mk name5 (w64 (50 * r7.1)) 0).name), .int .i64 ((Result.mk name5 (w64 (50 * r7.1)) 0).net), .int .i64 ((Result.mk name5 (w64 (50 * r7.1)) 0).errors)]) rfl rfl rfl rfl Tryd.sizeOf46 rfl rfl ?_
  refine SJ.nil ?_
  refine PJ.next ?_
  refine WJ.seq ?_
  refine WJ.reg ?_
  refine SJ.q (YldS.yld (y_move rfl)) rfl ?_
  obtain ⟨r10, h11, hm⟩ := bindS hm
  refine SJ.call1 (k := 1) rfl Tryd.call30 rfl (fun w S hw hA hO => ok_s_l00Src_pick h11 w S _ (hr4.st1 hw hO) hA) rfl ?_
  rintro _ _ ⟨rfl, rfl⟩
  refine SJ.q (YldS.yld (y_fldB (o := 0) fld46_2 rfl)) rfl ?_
  refine SJ.storeL (k := 1) (off := 2) (us := [.int .i64 r10.1]) rfl rfl rfl rfl Tryd.sizeOf2 rfl rfl ?_
  refine SJ.nil ?_
  refine PJ.next ?_
  refine WJ.seq ?_
  refine WJ.reg ?_
  refine SJ.q (YldS.yld (y_loadBN (k := 1) (off := 0) (us := [str ((Result.mk name5 (w64 (50 * r7.1)) 0).name), .int .i64 ((Result.mk name5 (w64 (50 * r7.1)) 0).net), .int .i64 r10.1]) rfl Tryd.isAgg46 Tryd.sizeOf46 rfl rfl)) rfl ?_
  refine SJ.storeL (k := 2) (off := 0) (us := [str ((Result.mk name5 (w64 (50 * r7.1)) 0).name), .int .i64 ((Result.mk name5 (w64 (50 * r7.1)) 0).net), .int .i64 r10.1]) rfl rfl rfl rfl Tryd.sizeOf46 rfl rfl ?_
  refine SJ.nil ?_
  refine PJ.next ?_
  refine WJ.ret ?_
  obtain rfl := Option.some.inj hm
  exact PJ.retn_sel (vs := [.agg #[str ((Result.mk name5 (w64 (50 * r7.1)) 0).name), .int .i64 ((Result.mk name5 (w64 (50 * r7.1)) 0).net), .int .i64 r10.1]]) Tryd.results55 ⟨⟨2, g6, 46, [str ((Result.mk name5 (w64 (50 * r7.1)) 0).name), .int .i64 ((Result.mk name5 (w64 (50 * r7.1)) 0).net), .int .i64 r10.1], rfl, rfl, .inl ⟨Tryd.isAgg46, Tryd.sizeOf46, rfl⟩⟩, trivial⟩ [0] ⟨by decide, rfl⟩ ⟨rfl, rfl⟩

set_option maxRecDepth 100000 in
set_option maxHeartbeats 1000000 in
theorem ok_s_l22Draw {N : Nat} {s1 : L00Src} {g2 : Nat} {r : (List Result) × L00Src} (hm : s_l22Draw N s1 = some r) (w : World) (S : Nat → Prop) (v3 : Value) (hr4 : RdS w (Cx.Fz ⟨w, S⟩) v3 fByte.rp s1.code) (hA : (box g2 77 [v3, .int .i64 s1.at_, .int .u64 s1.seed]).holds w S) :
    Calls Tryd.prog 41 #[pt g2 0] w (RetG ⟨w, S⟩ fun u L => ∃ (u1 : Value), (u = u1 ∧ L = [box g2 77 [v3, .int .i64 r.2.at_, .int .u64 r.2.seed], row u1 46 fResult r.1])) := by
  unfold s_l22Draw at hm
  refine Calls.enter1 hA [pt g2 0] Tryd.func41 rfl Tryd.ntmps41 rfl ?_
  refine WJ.seq ?_
  refine WJ.quiet ?_
  refine QJ.step (YldS.yld (y_assign rfl)) rfl ?_
  refine QJ.done ?_
  refine PJ.next ?_
  refine WJ.seq ?_
  refine WJ.reg ?_
  refine SJ.buildSlice (R := fStr) (os := [.const (str [97, 100, 97]), .const (str [98, 101, 110]), .const (str [99, 108, 101, 111]), .const (str [100, 111, 114, 97]), .const (str [101, 109, 105, 108]), .const (str [102, 97, 121]), .const (str [103, 117, 115]), .const (str [104, 97, 108, 45, 50]), .const (str [105, 118, 121])]) ([[97, 100, 97], [98, 101, 110], [99, 108, 101, 111], [100, 111, 114, 97], [101, 109, 105, 108], [102, 97, 121], [103, 117, 115], [104, 97, 108, 45, 50], [105, 118, 121]] : List Str) Tryd.runUnderlying70 Tryd.sizeOf9 Tryd.zeroValue9 rfl rfl rfl rfl rfl rfl fun v5 => ?_
  refine SJ.q (YldS.yld (y_assign rfl)) rfl ?_
  refine SJ.nil ?_
  refine PJ.next ?_
  refine WJ.seq ?_
  refine WJ.reg ?_
  refine SJ.buildSlice (R := fResult) (os := []) [] Tryd.runUnderlying24 Tryd.sizeOf46 Tryd.zeroValue46 rfl rfl rfl rfl rfl rfl fun v6 => ?_
  refine SJ.q (YldS.yld (y_assign rfl)) rfl ?_
  refine SJ.nil ?_
  refine PJ.next ?_
  obtain ⟨kj11, hk12, hm⟩ := withK_open hm
  refine WJ.join (X := Int × Int × (List Result) × Value) (fun (x : Int × Int × (List Result) × Value) => kj11 x.1 x.2.1 x.2.2.1 = some r) (fun (x : Int × Int × (List Result) × Value) => [(4, x.2.2.2)]) (fun (x : Int × Int × (List Result) × Value) => [box g2 77 [v3, .int .i64 x.1, .int .u64 x.2.1], row x.2.2.2 46 fResult x.2.2.1]) ?_ ?_
  · clear hk12
    refine WJ.seq ?_
    refine WJ.reg ?_
    refine SJ.q (YldS.yld (y_move rfl)) rfl ?_
    obtain ⟨r13, h14, hm⟩ := bindS hm
    refine SJ.call1 (k := 2) rfl Tryd.call30 rfl (fun w S hw hA hO => ok_s_l00Src_pick h14 w S _ (hr4.st1 hw hO) hA) rfl ?_
    rintro _ _ ⟨rfl, rfl⟩
    refine SJ.q (YldS.yld (y_assign rfl)) rfl ?_
    refine SJ.nil ?_
    refine PJ.next ?_
    refine WJ.block ?_
    refine WJ.sel (L' := (fun (x : Int × Int × (List Result) × Value × Int) => [box g2 77 [v3, .int .i64 x.1, .int .u64 x.2.1], row x.2.2.2.1 46 fResult x.2.2.1, row v5 9 fStr ([[97, 100, 97], [98, 101, 110], [99, 108, 101, 111], [100, 111, 114, 97], [101, 109, 105, 108], [102, 97, 121], [103, 117, 115], [104, 97, 108, 45, 50], [105, 118, 121]] : List Str)]) (r13.2.at_, r13.2.seed, [], v6, r13.1)) [0, 1, 2] ⟨by decide, rfl⟩ ?_
    refine WJ.sub (m' := (fun (x : Int × Int × (List Result) × Value × Int) => [(0, pt g2 0), (3, v5), (4, x.2.2.2.1), (5, .int .i64 x.2.2.2.2)]) (r13.2.at_, r13.2.seed, [], v6, r13.1)) ⟨rfl, rfl, rfl, rfl, trivial⟩ ?_
    refine WJ.loop (X := Int × Int × (List Result) × Value × Int) (fun N (x : Int × Int × (List Result) × Value × Int) => s_l22Draw_l1 kj11 s1 N x.1 x.2.1 x.2.2.1 x.2.2.2.2 = some r) (fun (x : Int × Int × (List Result) × Value × Int) => [(0, pt g2 0), (3, v5), (4, x.2.2.2.1), (5, .int .i64 x.2.2.2.2)]) (fun (x : Int × Int × (List Result) × Value × Int) => [box g2 77 [v3, .int .i64 x.1, .int .u64 x.2.1], row x.2.2.2.1 46 fResult x.2.2.1, row v5 9 fStr ([[97, 100, 97], [98, 101, 110], [99, 108, 101, 111], [100, 111, 114, 97], [101, 109, 105, 108], [102, 97, 121], [103, 117, 115], [104, 97, 108, 45, 50], [105, 118, 121]] : List Str)]) ?_ N (r13.2.at_, r13.2.seed, [], v6, r13.1) hm
    · rintro N ⟨x15, x16, l17, v18, k19⟩ hI
      have hm := hI; clear hI
      cases N with
      | zero => cases hm
      | succ N =>
      unfold s_l22Draw_l1 at hm
      refine WJ.seq ?_
      refine WJ.seq ?_
      refine WJ.quiet ?_
      refine QJ.step (YldS.yld (y_move rfl)) rfl ?_
      refine QJ.step (YldS.yld (y_bin rfl rfl rfl)) rfl ?_
      refine QJ.done ?_
      refine PJ.next ?_
      refine WJ.cond (t := decide (k19 > 0)) rfl (fun hb20 => ?_) (fun hb20 => ?_)
      · replace hm := ifT hm hb20
        refine WJ.skip ?_
        refine PJ.next ?_
        refine WJ.seq ?_
        refine WJ.block ?_
        refine WJ.reg ?_
        refine SJ.q (YldS.yld (y_move rfl)) rfl ?_
        refine SJ.q (YldS.yld (y_move rfl)) rfl ?_
        refine SJ.q (YldS.yld (y_move rfl)) rfl ?_
        refine SJ.q (YldS.yld (y_move rfl)) rfl ?_
        refine SJ.q (YldS.yld (y_lenRow (k := 1) rfl Tryd.runUnderlying24 rfl)) rfl ?_
        obtain ⟨e21, h22, hm⟩ := bindS hm
        refine SJ.q (YldS.yld (y_ixRow (k := 2) (R := fStr) rfl Tryd.runUnderlying70 Tryd.sizeOf9 rfl rfl h22)) rfl ?_
        refine SJ.q (YldS.yld (y_loadR (k := 2) (i := (Int.toNat (List.length l17 : Int))) (off := 0) (u := str e21) rfl Tryd.isAgg9 rfl (idx_get h22) rfl)) rfl ?_
        obtain ⟨r23, h24, hm⟩ := bindS hm
        refine SJ.call1 (k := 0) rfl Tryd.call55 rfl (fun w S hw hA hO => ok_s_l22New h24 w S _ (hr4.st1 hw hO) hA) rfl ?_
        rintro _ _ ⟨rfl, rfl⟩
        refine SJ.buildSlice (R := fResult) (os := [.tmp 21]) [r23.1] Tryd.runUnderlying24 Tryd.sizeOf46 Tryd.zeroValue46 rfl rfl rfl rfl rfl rfl fun v25 => ?_
        obtain ⟨l26, h27, hm⟩ := bindS hm
        refine SJ.append (k := 2) (R := fResult) h27 rfl Tryd.underlying24 el46 rfl rfl rfl (fun w hw => (hw.row_rd (k := 0) rfl)) rfl fun v28 => ?_
        refine SJ.q (YldS.yld (y_assign rfl)) rfl ?_
        refine SJ.nil ?_
        refine PJ.block_normal (PJ.next ?_)
        refine WJ.quiet ?_
        refine QJ.step (YldS.yld (y_move rfl)) rfl ?_
        refine QJ.step (YldS.yld (y_bin rfl rfl rfl)) rfl ?_
        refine QJ.step (YldS.yld (y_assign rfl)) rfl ?_
        refine QJ.done ?_
        exact PJ.round (r23.2.at_, r23.2.seed, l26, v28, w64 (k19 - 1)) [1, 2, 3] hm ⟨rfl, rfl, rfl, rfl, trivial⟩ ⟨by decide, rfl⟩
      · replace hm := ifF hm hb20
        refine WJ.exit ?_
        refine PJ.then_exit (PJ.then_exit (PJ.block_exit ?_))
        exact PJ.joined (x15, x16, l17, v18) [0, 1] hm ⟨rfl, trivial⟩ ⟨by decide, rfl⟩
  · rintro ⟨x7, x8, l9, v10⟩ hm
    subst hk12
    refine WJ.seq ?_
    refine WJ.quiet ?_
    refine QJ.step (YldS.yld (y_move rfl)) rfl ?_
    refine QJ.step (YldS.yld (y_assign rfl)) rfl ?_
    refine QJ.done ?_
    refine PJ.next ?_
    refine WJ.ret ?_
    obtain rfl := Option.some.inj hm
    refine PJ.sel (L' := [box g2 77 [v3, .int .i64 x7, .int .u64 x8], row v10 46 fResult l9]) [0, 1] ⟨by decide, rfl⟩ ?_
    exact PJ.retn (vs := [v10]) Tryd.results41 ⟨rfl, trivial⟩ ⟨_, rfl, rfl⟩

set_option maxRecDepth 100000 in
set_option maxHeartbeats 1000000 in
theorem ok_s_l00Src_one {s1 : L00Src} {n5 : Int} {g2 : Nat} {r : Bool × L00Src} (hm : s_l00Src_one s1 n5 = some r) (w : World) (S : Nat → Prop) (v3 : Value) (hr4 : RdS w (Cx.Fz ⟨w, S⟩) v3 fByte.rp s1.code) (hA : (box g2 77 [v3, .int .i64 s1.at_, .int .u64 s1.seed]).holds w S) :
    Calls Tryd.prog 28 #[pt g2 0, .int .i64 n5] w (RetG ⟨w, S⟩ fun u L => (u = .bool r.1 ∧ L = [box g2 77 [v3, .int .i64 r.2.at_, .int .u64 r.2.seed]])) := by
  unfold s_l00Src_one at hm
  refine Calls.enter1 hA [pt g2 0, .int .i64 n5] Tryd.func28 rfl Tryd.ntmps28 rfl ?_
  refine WJ.seq ?_
  refine WJ.quiet ?_
  refine QJ.step (YldS.yld (y_assign rfl)) rfl ?_
  refine QJ.done ?_
  refine PJ.next ?_
  refine WJ.seq ?_
  refine WJ.reg ?_
  refine SJ.q (YldS.yld (y_move rfl)) rfl ?_
  refine SJ.q (YldS.yld (y_move rfl)) rfl ?_
  obtain ⟨r6, h7, hm⟩ := bindS hm
  refine SJ.call1 (k := 0) rfl Tryd.call30 rfl (fun w S hw hA hO => ok_s_l00Src_pick h7 w S _ (hr4.st1 hw hO) hA) rfl ?_
  rintro _ _ ⟨rfl, rfl⟩
  refine SJ.q (YldS.yld (y_bin rfl rfl rfl)) rfl ?_
  refine SJ.q (YldS.yld (y_assign rfl)) rfl ?_
  refine SJ.nil ?_
  refine PJ.next ?_
  refine WJ.ret ?_
  obtain rfl := Option.some.inj hm
  refine PJ.sel (L' := [box g2 77 [v3, .int .i64 r6.2.at_, .int .u64 r6.2.seed]]) [0] ⟨by decide, rfl⟩ ?_
  exact PJ.retn (vs := [.bool (r6.1 == 0)]) Tryd.results28 ⟨rfl, trivial⟩ ⟨rfl, rfl⟩

set_option maxRecDepth 100000 in
set_option maxHeartbeats 1000000 in
theorem ok_s_l00Src_text {s1 : L00Src} {list5 : List Str} {g2 : Nat} {r : Str × L00Src} (hm : s_l00Src_text s1 list5 = some r) (w : World) (S : Nat → Prop) (v3 : Value) (hr4 : RdS w (Cx.Fz ⟨w, S⟩) v3 fByte.rp s1.code) (v6 : Value) (hr7 : RdS w (Cx.Fz ⟨w, S⟩) v6 fStr.rp list5) (hA : (box g2 77 [v3, .int .i64 s1.at_, .int .u64 s1.seed]).holds w S) :
    Calls Tryd.prog 49 #[pt g2 0, v6] w (RetG ⟨w, S⟩ fun u L => (u = str r.1 ∧ L = [box g2 77 [v3, .int .i64 r.2.at_, .int .u64 r.2.seed]])) := by
  unfold s_l00Src_text at hm
  refine Calls.enter1 hA [pt g2 0, v6] Tryd.func49 rfl Tryd.ntmps49 rfl ?_
  refine WJ.seq ?_
  refine WJ.quiet ?_
  refine QJ.step (YldS.yld (y_assign rfl)) rfl ?_
  refine QJ.done ?_
  refine PJ.next ?_
  refine WJ.seq ?_
  refine WJ.reg ?_
  refine SJ.q (YldS.yld (y_move rfl)) rfl ?_
  refine SJ.q (YldS.yld (y_move rfl)) rfl ?_
  refine SJ.q (YldS.yld (y_move rfl)) rfl ?_
  refine SJ.q (YldS.yld (y_lenS Tryd.runUnderlying70 hr7 rfl)) rfl ?_
  obtain ⟨r8, h9, hm⟩ := bindS hm
  refine SJ.call1 (k := 0) rfl Tryd.call30 rfl (fun w S hw hA hO => ok_s_l00Src_pick h9 w S _ (hr4.st1 hw hO) hA) rfl ?_
  rintro _ _ ⟨rfl, rfl⟩
  obtain ⟨e10, h11, hm⟩ := bindS hm
  obtain ⟨ad12, _, rfl, ha13, hy14⟩ := hr7.elem h11
  refine SJ.q (YldS.yld (hy14 Tryd.runUnderlying70 Tryd.sizeOf9 rfl rfl)) rfl ?_
  refine SJ.q (YldS.yld (y_load1 (v := str e10) Tryd.isAgg9 ha13 St.frozenC rfl)) rfl ?_
  refine SJ.q (YldS.yld (y_assign rfl)) rfl ?_
  refine SJ.nil ?_
  refine PJ.next ?_
  refine WJ.ret ?_
  obtain rfl := Option.some.inj hm
  refine PJ.sel (L' := [box g2 77 [v3, .int .i64 r8.2.at_, .int .u64 r8.2.seed]]) [0] ⟨by decide, rfl⟩ ?_
  exact PJ.retn (vs := [str e10]) Tryd.results49 ⟨rfl, trivial⟩ ⟨rfl, rfl⟩

set_option maxRecDepth 100000 in
set_option maxHeartbeats 1000000 in
theorem ok_s_l00Src_among {s1 : L00Src} {list5 : List Int} {g2 : Nat} {r : Int × L00Src} (hm : s_l00Src_among s1 list5 = some r) (w : World) (S : Nat → Prop) (v3 : Value) (hr4 : RdS w (Cx.Fz ⟨w, S⟩) v3 fByte.rp s1.code) (v6 : Value) (hr7 : RdS w (Cx.Fz ⟨w, S⟩) v6 fI64.rp list5) (hA : (box g2 77 [v3, .int .i64 s1.at_, .int .u64 s1.seed]).holds w S) :
    Calls Tryd.prog 29 #[pt g2 0, v6] w (RetG ⟨w, S⟩ fun u L => (u = .int .i64 r.1 ∧ L = [box g2 77 [v3, .int .i64 r.2.at_, .int .u64 r.2.seed]])) := by
  unfold s_l00Src_among at hm
  refine Calls.enter1 hA [pt g2 0, v6] Tryd.func29 rfl Tryd.ntmps29 rfl ?_
  refine WJ.seq ?_
  refine WJ.quiet ?_
  refine QJ.step (YldS.yld (y_assign rfl)) rfl ?_
  refine QJ.done ?_
  refine PJ.next ?_
  refine WJ.seq ?_
  refine WJ.reg ?_
  refine SJ.q (YldS.yld (y_move rfl)) rfl ?_
  refine SJ.q (YldS.yld (y_move rfl)) rfl ?_
  refine SJ.q (YldS.yld (y_move rfl)) rfl ?_
  refine SJ.q (YldS.yld (y_lenS Tryd.runUnderlying27 hr7 rfl)) rfl ?_
  obtain ⟨r8, h9, hm⟩ := bindS hm
  refine SJ.call1 (k := 0) rfl Tryd.call30 rfl (fun w S hw hA hO => ok_s_l00Src_pick h9 w S _ (hr4.st1 hw hO) hA) rfl ?_
  rintro _ _ ⟨rfl, rfl⟩
  obtain ⟨e10, h11, hm⟩ := bindS hm
  obtain ⟨ad12, _, rfl, ha13, hy14⟩ := hr7.elem h11
  refine SJ.q (YldS.yld (hy14 Tryd.runUnderlying27 Tryd.sizeOf2 rfl rfl)) rfl ?_
  refine SJ.q (YldS.yld (y_load1 (v := .int .i64 e10) Tryd.isAgg2 ha13 St.frozenC rfl)) rfl ?_
  refine SJ.q (YldS.yld (y_assign rfl)) rfl ?_
  refine SJ.nil ?_
  refine PJ.next ?_
  refine WJ.ret ?_
  obtain rfl := Option.some.inj hm
  refine PJ.sel (L' := [box g2 77 [v3, .int .i64 r8.2.at_, .int .u64 r8.2.seed]]) [0] ⟨by decide, rfl⟩ ?_
  exact PJ.retn (vs := [.int .i64 e10]) Tryd.results29 ⟨rfl, trivial⟩ ⟨rfl, rfl⟩

set_option maxRecDepth 100000 in
set_option maxHeartbeats 1000000 in
theorem ok_s_l22Bent {N : Nat} {s1 : L00Src} {g2 : Nat} {r : (List Result) × L00Src} (hm : s_l22Bent N s1 = some r) (w : World) (S : Nat → Prop) (v3 : Value) (hr4 : RdS w (Cx.Fz ⟨w, S⟩) v3 fByte.rp s1.code) (hA : (box g2 77 [v3, .int .i64 s1.at_, .int .u64 s1.seed]).holds w S) :
    Calls Tryd.prog 27 #[pt g2 0] w (RetG ⟨w, S⟩ fun u L => ∃ (u1 : Value), (u = u1 ∧ L = [box g2 77 [v3, .int .i64 r.2.at_, .int .u64 r.2.seed], row u1 46 fResult r.1])) := by
  unfold s_l22Bent at hm
  refine Calls.enter1 hA [pt g2 0] Tryd.func27 rfl Tryd.ntmps27 rfl ?_
  refine WJ.seq ?_
  refine WJ.quiet ?_
  refine QJ.step (YldS.yld (y_assign rfl)) rfl ?_
  refine QJ.done ?_
  refine PJ.next ?_
  refine WJ.seq ?_
  refine WJ.reg ?_
  refine SJ.q (YldS.yld (y_move rfl)) rfl ?_
  obtain ⟨r5, h6, hm⟩ := bindS hm
  refine SJ.call1 (k := 0) rfl Tryd.call41 rfl (fun w S hw hA hO => ok_s_l22Draw h6 w S _ (hr4.st1 hw hO) hA) rfl ?_
  rintro v7 _ ⟨_, rfl, rfl⟩
  refine SJ.q (YldS.yld (y_assign rfl)) rfl ?_
  refine SJ.nil ?_
  refine PJ.next ?_
  obtain ⟨kj12, hk13, hm⟩ := withK_open hm
  refine WJ.join (X := Int × Int × (List Result) × Value) (fun (x : Int × Int × (List Result) × Value) => kj12 x.1 x.2.1 x.2.2.1 = some r) (fun (x : Int × Int × (List Result) × Value) => [(0, pt g2 0), (3, x.2.2.2)]) (fun (x : Int × Int × (List Result) × Value) => [box g2 77 [v3, .int .i64 x.1, .int .u64 x.2.1], row x.2.2.2 46 fResult x.2.2.1]) ?_ ?_
  · clear hk13
    refine WJ.seq ?_
    refine WJ.reg ?_
    refine SJ.q (YldS.yld (y_move rfl)) rfl ?_
    obtain ⟨r14, h15, hm⟩ := bindS hm
    refine SJ.call1 (k := 0) rfl Tryd.call28 rfl (fun w S hw hA hO => ok_s_l00Src_one h15 w S _ (hr4.st1 hw hO) hA) rfl ?_
    rintro _ _ ⟨rfl, rfl⟩
    refine SJ.nil ?_
    refine PJ.next ?_
    refine WJ.cond (t := r14.1) rfl (fun hb16 => ?_) (fun hb16 => ?_)
    · replace hm := ifT hm hb16
      refine WJ.seq ?_
      refine WJ.reg ?_
      refine SJ.buildSlice (R := fResult) (os := []) [] Tryd.runUnderlying24 Tryd.sizeOf46 Tryd.zeroValue46 rfl rfl rfl rfl rfl rfl fun v17 => ?_
      refine SJ.q (YldS.yld (y_assign rfl)) rfl ?_
      refine SJ.nil ?_
      refine PJ.next ?_
      refine WJ.seq ?_
      refine WJ.reg ?_
      refine SJ.q (YldS.yld (y_move rfl)) rfl ?_
      obtain ⟨r18, h19, hm⟩ := bindS hm
      refine SJ.call1 (k := 1) rfl Tryd.call30 rfl (fun w S hw hA hO => ok_s_l00Src_pick h19 w S _ (hr4.st1 hw hO) hA) rfl ?_
      rintro _ _ ⟨rfl, rfl⟩
      refine SJ.q (YldS.yld (y_bin rfl rfl rfl)) rfl ?_
      refine SJ.q (YldS.yld (y_assign rfl)) rfl ?_
      refine SJ.nil ?_
      refine PJ.next ?_
      refine WJ.block ?_
      refine WJ.sel (L' := (fun (x : (List Result) × Value × Int) => [box g2 77 [v3, .int .i64 r18.2.at_, .int .u64 r18.2.seed], row x.2.1 46 fResult x.1]) ([], v17, w64 (40 + r18.1))) [0, 1] ⟨by decide, rfl⟩ ?_
      refine WJ.sub (m' := (fun (x : (List Result) × Value × Int) => [(0, pt g2 0), (3, x.2.1), (4, .int .i64 x.2.2)]) ([], v17, w64 (40 + r18.1))) ⟨rfl, rfl, rfl, trivial⟩ ?_
      refine WJ.loop (X := (List Result) × Value × Int) (fun N (x : (List Result) × Value × Int) => s_l22Bent_l1 kj12 r18 N x.1 x.2.2 = some r) (fun (x : (List Result) × Value × Int) => [(0, pt g2 0), (3, x.2.1), (4, .int .i64 x.2.2)]) (fun (x : (List Result) × Value × Int) => [box g2 77 [v3, .int .i64 r18.2.at_, .int .u64 r18.2.seed], row x.2.1 46 fResult x.1]) ?_ N ([], v17, w64 (40 + r18.1)) hm
      · rintro N ⟨l20, v21, k22⟩ hI
        have hm := hI; clear hI
        cases N with
        | zero => cases hm
        | succ N =>
        unfold s_l22Bent_l1 at hm
        refine WJ.seq ?_
        refine WJ.seq ?_
        refine WJ.quiet ?_
        refine QJ.step (YldS.yld (y_move rfl)) rfl ?_
        refine QJ.step (YldS.yld (y_bin rfl rfl rfl)) rfl ?_
        refine QJ.done ?_
        refine PJ.next ?_
        refine WJ.cond (t := decide (k22 > 0)) rfl (fun hb23 => ?_) (fun hb23 => ?_)
        · replace hm := ifT hm hb23
          refine WJ.skip ?_
          refine PJ.next ?_
          refine WJ.seq ?_
          refine WJ.block ?_
          refine WJ.seq ?_
          refine WJ.quiet ?_
          refine QJ.step (YldS.yld (y_move rfl)) rfl ?_
          refine QJ.step (YldS.yld (y_lenRow (k := 1) rfl Tryd.runUnderlying24 rfl)) rfl ?_
          refine QJ.step (YldS.yld (y_convTo8 Tryd.runUnderlying3 Tryd.runUnderlying5 rfl)) rfl ?_
          refine QJ.step (YldS.yld (y_assign rfl)) rfl ?_
          refine QJ.done ?_
          refine PJ.next ?_
          refine WJ.reg ?_
          refine SJ.q (YldS.yld (y_move rfl)) rfl ?_
          refine SJ.q (YldS.yld (y_move rfl)) rfl ?_
          refine SJ.q (YldS.yld (y_quo8 (a := (UInt8.ofInt (List.length l20 : Int))) rfl rfl (by decide))) rfl ?_
          refine SJ.q (YldS.yld (y_bin8 (97 : UInt8) (UInt8.ofInt (Int.tdiv (UInt8.toNat (UInt8.ofInt (List.length l20 : Int)) : Int) 26)) rfl rfl rfl)) rfl ?_
          refine SJ.q (YldS.yld (y_move rfl)) rfl ?_
          refine SJ.q (YldS.yld (y_rem8 (a := (UInt8.ofInt (List.length l20 : Int))) rfl rfl (by decide))) rfl ?_
          refine SJ.q (YldS.yld (y_bin8 (97 : UInt8) (UInt8.ofInt (Int.tmod (UInt8.toNat (UInt8.ofInt (List.length l20 : Int)) : Int) 26)) rfl rfl rfl)) rfl ?_
          refine SJ.buildSlice (R := fByte) (os := [.tmp 25, .tmp 28]) [(97 : UInt8) + (UInt8.ofInt (Int.tdiv (UInt8.toNat (UInt8.ofInt (List.length l20 : Int)) : Int) 26)), (97 : UInt8) + (UInt8.ofInt (Int.tmod (UInt8.toNat (UInt8.ofInt (List.length l20 : Int)) : Int) 26))] Tryd.runUnderlying22 Tryd.sizeOf5 Tryd.zeroValue5 rfl rfl rfl rfl rfl rfl fun v24 => ?_
          refine SJ.q (YldS.yld (y_b2s Tryd.underlying22 Tryd.underlying9 Tryd.underlying5 (fun w hw => ⟨_, (hw.row_rd (k := 0) rfl)⟩) rfl)) rfl ?_
          refine SJ.q (YldS.yld (y_move rfl)) rfl ?_
          refine SJ.q (YldS.yld (y_rem rfl rfl (by decide))) rfl ?_
          refine SJ.q (YldS.yld (y_build (parts := [(0, .tmp 30), (1, .tmp 32)]) (places := [(0, 1), (1, 1), (2, 1)]) (r := [str ((Result.mk [(97 : UInt8) + (UInt8.ofInt (Int.tdiv (UInt8.toNat (UInt8.ofInt (List.length l20 : Int)) : Int) 26)), (97 : UInt8) + (UInt8.ofInt (Int.tmod (UInt8.toNat (UInt8.ofInt (List.length l20 : Int)) : Int) 26))] (Int.tmod k22 7) 0).name), .int .i64 ((Result.mk [(97 : UInt8) + (UInt8.ofInt (Int.tdiv (UInt8.toNat (UInt8.ofInt (List.length l20 : Int)) : Int) 26)), (97 : UInt8) + (UInt8.ofInt (Int.tmod (UInt8.toNat (UInt8.ofInt (List.length l20 : Int)) : Int) 26))] (Int.tmod k22 7) 0).net), .int .i64 ((Result.mk [(97 : UInt8) + (UInt8.ofInt (Int.tdiv (UInt8.toNat (UInt8.ofInt (List.length l20 : Int)) : Int) 26)), (97 : UInt8) + (UInt8.ofInt (Int.tmod (UInt8.toNat (UInt8.ofInt (List.length l20 : Int)) : Int) 26))] (Int.tmod k22 7) 0).errors)]) pl46 Tryd.zeroValue46 rfl rfl rfl rfl)) rfl ?_
          refine SJ.buildSlice (R := fResult) (os := [.tmp 33]) [(Result.mk [(97 : UInt8) + (UInt8.ofInt (Int.tdiv (UInt8.toNat (UInt8.ofInt (List.length l20 : Int)) : Int) 26)), (97 : UInt8) + (UInt8.ofInt (Int.tmod (UInt8.toNat (UInt8.ofInt (List.length l20 : Int)) : Int) 26))] (Int.tmod k22 7) 0)] Tryd.runUnderlying24 Tryd.sizeOf46 Tryd.zeroValue46 rfl rfl rfl rfl rfl rfl fun v25 => ?_
          obtain ⟨l26, h27, hm⟩ := bindS hm
          refine SJ.append (k := 3) (R := fResult) h27 rfl Tryd.underlying24 el46 rfl rfl rfl (fun w hw => (hw.row_rd (k := 0) rfl)) rfl fun v28 => ?_
          refine SJ.q (YldS.yld (y_assign rfl)) rfl ?_
          refine SJ.nil ?_
          refine PJ.block_normal (PJ.next ?_)
          refine WJ.quiet ?_
          refine QJ.step (YldS.yld (y_move rfl)) rfl ?_
          refine QJ.step (YldS.yld (y_bin rfl rfl rfl)) rfl ?_
          refine QJ.step (YldS.yld (y_assign rfl)) rfl ?_
          refine QJ.done ?_
          exact PJ.round (l26, v28, w64 (k22 - 1)) [2, 3] hm ⟨rfl, rfl, rfl, trivial⟩ ⟨by decide, rfl⟩
        · replace hm := ifF hm hb23
          refine WJ.exit ?_
          refine PJ.then_exit (PJ.then_exit (PJ.block_exit ?_))
          exact PJ.joined (r18.2.at_, r18.2.seed, l20, v21) [0, 1] hm ⟨rfl, rfl, trivial⟩ ⟨by decide, rfl⟩
    · replace hm := ifF hm hb16
      refine WJ.skip ?_
      exact PJ.joined (r14.2.at_, r14.2.seed, r5.1, v7) [0, 1] hm ⟨rfl, rfl, trivial⟩ ⟨by decide, rfl⟩
  · rintro ⟨x8, x9, l10, v11⟩ hm
    subst hk13
    refine WJ.seq ?_
    refine WJ.seq ?_
    refine WJ.quiet ?_
    refine QJ.step (YldS.yld (y_move rfl)) rfl ?_
    refine QJ.step (YldS.yld (y_lenRow (k := 1) rfl Tryd.runUnderlying24 rfl)) rfl ?_
    refine QJ.step (YldS.yld (y_bin rfl rfl rfl)) rfl ?_
    refine QJ.done ?_
    refine PJ.next ?_
    refine WJ.cond (t := ((List.length l10 : Int) == 0)) rfl (fun hb29 => ?_) (fun hb29 => ?_)
    · replace hm := ifT hm hb29
      refine WJ.seq ?_
      refine WJ.quiet ?_
      refine QJ.step (YldS.yld (y_move rfl)) rfl ?_
      refine QJ.step (YldS.yld (y_assign rfl)) rfl ?_
      refine QJ.done ?_
      refine PJ.next ?_
      refine WJ.ret ?_
      refine PJ.then_ret ?_
      obtain rfl := Option.some.inj hm
      refine PJ.sel (L' := [box g2 77 [v3, .int .i64 x8, .int .u64 x9], row v11 46 fResult l10]) [0, 1] ⟨by decide, rfl⟩ ?_
      exact PJ.retn (vs := [v11]) Tryd.results27 ⟨rfl, trivial⟩ ⟨_, rfl, rfl⟩
    · replace hm := ifF hm hb29
      refine WJ.skip ?_
      refine PJ.next ?_
      refine WJ.seq ?_
      refine WJ.reg ?_
      refine SJ.q (YldS.yld (y_move rfl)) rfl ?_
      refine SJ.q (YldS.yld (y_move rfl)) rfl ?_
      refine SJ.q (YldS.yld (y_move rfl)) rfl ?_
      refine SJ.q (YldS.yld (y_lenRow (k := 1) rfl Tryd.runUnderlying24 rfl)) rfl ?_
      obtain ⟨r30, h31, hm⟩ := bindS hm
      refine SJ.call1 (k := 0) rfl Tryd.call30 rfl (fun w S hw hA hO => ok_s_l00Src_pick h31 w S _ (hr4.st1 hw hO) hA) rfl ?_
      rintro _ _ ⟨rfl, rfl⟩
      obtain ⟨e32, h33, hm⟩ := bindS hm
      refine SJ.q (YldS.yld (y_ixRow (k := 1) (R := fResult) rfl Tryd.runUnderlying24 Tryd.sizeOf46 rfl rfl h33)) rfl ?_
      refine SJ.q (YldS.yld (y_assign rfl)) rfl ?_
      refine SJ.nil ?_
      refine PJ.next ?_
      obtain ⟨kj37, hk38, hm⟩ := withK_open hm
      refine WJ.join (X := Int × Int × (List Result)) (fun (x : Int × Int × (List Result)) => kj37 x.1 x.2.1 x.2.2 = some r) (fun (x : Int × Int × (List Result)) => [(3, v11)]) (fun (x : Int × Int × (List Result)) => [box g2 77 [v3, .int .i64 x.1, .int .u64 x.2.1], row v11 46 fResult x.2.2]) ?_ ?_
      · clear hk38
        refine WJ.seq ?_
        refine WJ.reg ?_
        refine SJ.q (YldS.yld (y_move rfl)) rfl ?_
        obtain ⟨r39, h40, hm⟩ := bindS hm
        refine SJ.call1 (k := 0) rfl Tryd.call30 rfl (fun w S hw hA hO => ok_s_l00Src_pick h40 w S _ (hr4.st1 hw hO) hA) rfl ?_
        rintro _ _ ⟨rfl, rfl⟩
        refine SJ.nil ?_
        refine PJ.next ?_
        refine WJ.block ?_
        refine WJ.seq ?_
        refine WJ.quiet ?_
        refine QJ.step (YldS.yld (y_bin rfl rfl rfl)) rfl ?_
        refine QJ.step (YldS.yld (y_assign rfl)) rfl ?_
        refine QJ.done ?_
        refine PJ.next ?_
        refine WJ.cond (t := (r39.1 == 0)) rfl (fun hb41 => ?_) (fun hb41 => ?_)
        · replace hm := ifT hm hb41
          refine WJ.reg ?_
          refine SJ.q (YldS.yld (y_move rfl)) rfl ?_
          refine SJ.q (YldS.yld (y_move rfl)) rfl ?_
          refine SJ.buildSlice (R := fStr) (os := [.const (str []), .const (str [65, 100, 97]), .const (str [97, 100, 97])]) ([[], [65, 100, 97], [97, 100, 97]] : List Str) Tryd.runUnderlying70 Tryd.sizeOf9 Tryd.zeroValue9 rfl rfl rfl rfl rfl rfl fun v42 => ?_
          obtain ⟨r43, h44, hm⟩ := bindS hm
          refine SJ.call2 (k := 1) rfl Tryd.call49 rfl (fun w S hw hA hO hB => ok_s_l00Src_text h44 w S _ (hr4.st1 hw hO) _ (hB.row_rd (j := 0) (k := 1) rfl rfl) hA) rfl ?_
          rintro _ _ ⟨rfl, rfl⟩
          refine SJ.q (YldS.yld (y_nil rfl)) rfl ?_
          refine SJ.q (YldS.yld (y_fldR fld46_0 rfl)) rfl ?_
          refine SJ.storeRL (k := 2) (i := (Int.toNat r30.1)) (off := 0) (us := [str r43.1]) (b := (Result.mk r43.1 e32.net e32.errors)) rfl rfl (idx_get h33) rfl rfl Tryd.sizeOf9 rfl rfl rfl ?_
          refine SJ.nil ?_
          refine PJ.block_normal ?_
          exact PJ.joined (r43.2.at_, r43.2.seed, (List.set l10 (Int.toNat r30.1) (Result.mk r43.1 e32.net e32.errors))) [0, 2] hm ⟨rfl, trivial⟩ ⟨by decide, rfl⟩
        · replace hm := ifF hm hb41
          refine WJ.seq ?_
          refine WJ.quiet ?_
          refine QJ.step (YldS.yld (y_bin rfl rfl rfl)) rfl ?_
          refine QJ.step (YldS.yld (y_assign rfl)) rfl ?_
          refine QJ.done ?_
          refine PJ.next ?_
          refine WJ.cond (t := (r39.1 == 1)) rfl (fun hb45 => ?_) (fun hb45 => ?_)
          · replace hm := ifT hm hb45
            refine WJ.reg ?_
            refine SJ.q (YldS.yld (y_move rfl)) rfl ?_
            refine SJ.q (YldS.yld (y_move rfl)) rfl ?_
            refine SJ.buildSlice (R := fI64) (os := [.const (.int .i64 (-1)), .const (.int .i64 0), .const (.int .i64 100000), .const (.int .i64 100001), .const (.int .i64 (-9223372036854775808))]) [(-1), 0, 100000, 100001, (-9223372036854775808)] Tryd.runUnderlying27 Tryd.sizeOf2 Tryd.zeroValue2 rfl rfl rfl rfl rfl rfl fun v46 => ?_
            obtain ⟨r47, h48, hm⟩ := bindS hm
            refine SJ.call2 (k := 1) rfl Tryd.call29 rfl (fun w S hw hA hO hB => ok_s_l00Src_among h48 w S _ (hr4.st1 hw hO) _ (hB.row_rd (j := 0) (k := 1) rfl rfl) hA) rfl ?_
            rintro _ _ ⟨rfl, rfl⟩
            refine SJ.q (YldS.yld (y_nil rfl)) rfl ?_
            refine SJ.q (YldS.yld (y_fldR fld46_1 rfl)) rfl ?_
            refine SJ.storeRL (k := 2) (i := (Int.toNat r30.1)) (off := 1) (us := [.int .i64 r47.1]) (b := (Result.mk e32.name r47.1 e32.errors)) rfl rfl (idx_get h33) rfl rfl Tryd.sizeOf2 rfl rfl rfl ?_
            refine SJ.nil ?_
            refine PJ.block_normal ?_
            exact PJ.joined (r47.2.at_, r47.2.seed, (List.set l10 (Int.toNat r30.1) (Result.mk e32.name r47.1 e32.errors))) [0, 2] hm ⟨rfl, trivial⟩ ⟨by decide, rfl⟩
          · replace hm := ifF hm hb45
            refine WJ.seq ?_
            refine WJ.quiet ?_
            refine QJ.step (YldS.yld (y_bin rfl rfl rfl)) rfl ?_
            refine QJ.step (YldS.yld (y_assign rfl)) rfl ?_
            refine QJ.done ?_
            refine PJ.next ?_
            refine WJ.cond (t := (r39.1 == 2)) rfl (fun hb49 => ?_) (fun hb49 => ?_)
            · replace hm := ifT hm hb49
              refine WJ.reg ?_
              refine SJ.q (YldS.yld (y_move rfl)) rfl ?_
              refine SJ.q (YldS.yld (y_move rfl)) rfl ?_
              refine SJ.buildSlice (R := fI64) (os := [.const (.int .i64 (-1)), .const (.int .i64 0), .const (.int .i64 100000), .const (.int .i64 100001)]) [(-1), 0, 100000, 100001] Tryd.runUnderlying27 Tryd.sizeOf2 Tryd.zeroValue2 rfl rfl rfl rfl rfl rfl fun v50 => ?_
              obtain ⟨r51, h52, hm⟩ := bindS hm
              refine SJ.call2 (k := 1) rfl Tryd.call29 rfl (fun w S hw hA hO hB => ok_s_l00Src_among h52 w S _ (hr4.st1 hw hO) _ (hB.row_rd (j := 0) (k := 1) rfl rfl) hA) rfl ?_
              rintro _ _ ⟨rfl, rfl⟩
              refine SJ.q (YldS.yld (y_nil rfl)) rfl ?_
              refine SJ.q (YldS.yld (y_fldR fld46_2 rfl)) rfl ?_
              refine SJ.storeRL (k := 2) (i := (Int.toNat r30.1)) (off := 2) (us := [.int .i64 r51.1]) (b := (Result.mk e32.name e32.net r51.1)) rfl rfl (idx_get h33) rfl rfl Tryd.sizeOf2 rfl rfl rfl ?_
              refine SJ.nil ?_
              refine PJ.block_normal ?_
              exact PJ.joined (r51.2.at_, r51.2.seed, (List.set l10 (Int.toNat r30.1) (Result.mk e32.name e32.net r51.1))) [0, 2] hm ⟨rfl, trivial⟩ ⟨by decide, rfl⟩
            · replace hm := ifF hm hb49
              refine WJ.skip ?_
              refine PJ.block_normal ?_
              exact PJ.joined (r39.2.at_, r39.2.seed, l10) [0, 1] hm ⟨rfl, trivial⟩ ⟨by decide, rfl⟩
      · rintro ⟨x34, x35, l36⟩ hm
        subst hk38
        refine WJ.seq ?_
        refine WJ.quiet ?_
        refine QJ.step (YldS.yld (y_move rfl)) rfl ?_
        refine QJ.step (YldS.yld (y_assign rfl)) rfl ?_
        refine QJ.done ?_
        refine PJ.next ?_
        refine WJ.ret ?_
        obtain rfl := Option.some.inj hm
        refine PJ.sel (L' := [box g2 77 [v3, .int .i64 x34, .int .u64 x35], row v11 46 fResult l36]) [0, 1] ⟨by decide, rfl⟩ ?_
        exact PJ.retn (vs := [v11]) Tryd.results27 ⟨rfl, trivial⟩ ⟨_, rfl, rfl⟩

set_option maxRecDepth 100000 in
set_option maxHeartbeats 1000000 in
theorem ok_s_DrawHeatsOf {N : Nat} {code1 : List UInt8} {r : (List Result) × Int} (hm : s_DrawHeatsOf N code1 = some r) (w : World) (v2 : Value) (hr3 : RdS w (cx w).Fz v2 fByte.rp code1) :
    Calls Tryd.prog 5 #[v2] w (RetG (cx w) fun u L => ∃ (u1 : Value), (u = tup [u1, .int .i64 r.2] ∧ L = [row u1 46 fResult r.1])) := by
  unfold s_DrawHeatsOf at hm
  refine Calls.enter [v2] Tryd.func5 rfl Tryd.ntmps5 rfl ?_
  refine WJ.seq ?_
  refine WJ.quiet ?_
  refine QJ.step (YldS.yld (y_assign rfl)) rfl ?_
  refine QJ.step (YldS.yld (y_assign rfl)) rfl ?_
  refine QJ.done ?_
  refine PJ.next ?_
  refine WJ.seq ?_
  refine WJ.reg ?_
  refine SJ.q (YldS.yld (y_move rfl)) rfl ?_
  obtain ⟨r4, h5, hm⟩ := bindS hm
  refine SJ.call Tryd.call26 rfl (fun w hw => ok_s_l00From h5 w _ (hr3.st hw)) rfl ?_
  rintro _ _ ⟨g6, rfl, rfl⟩
  refine SJ.q (YldS.yld (y_assign rfl)) rfl ?_
  refine SJ.nil ?_
  refine PJ.next ?_
  refine WJ.seq ?_
  refine WJ.reg ?_
  refine SJ.q (YldS.yld (y_move rfl)) rfl ?_
  obtain ⟨r7, h8, hm⟩ := bindS hm
  refine SJ.call1 (k := 0) rfl Tryd.call27 rfl (fun w S hw hA hO => ok_s_l22Bent h8 w S _ (hr3.st1 hw hO) hA) rfl ?_
  rintro v9 _ ⟨_, rfl, rfl⟩
  refine SJ.q (YldS.yld (y_assign rfl)) rfl ?_
  refine SJ.nil ?_
  refine PJ.next ?_
  refine WJ.seq ?_
  refine WJ.seq ?_
  refine WJ.reg ?_
  refine SJ.q (YldS.yld (y_move rfl)) rfl ?_
  obtain ⟨r10, h11, hm⟩ := bindS hm
  refine SJ.call1 (k := 0) rfl Tryd.call28 rfl (fun w S hw hA hO => ok_s_l00Src_one h11 w S _ (hr3.st1 hw hO) hA) rfl ?_
  rintro _ _ ⟨rfl, rfl⟩
  refine SJ.nil ?_
  refine PJ.next ?_
  refine WJ.cond (t := r10.1) rfl (fun hb12 => ?_) (fun hb12 => ?_)
  · replace hm := ifT hm hb12
    refine WJ.seq ?_
    refine WJ.reg ?_
    refine SJ.q (YldS.yld (y_move rfl)) rfl ?_
    refine SJ.q (YldS.yld (y_move rfl)) rfl ?_
    refine SJ.buildSlice (R := fI64) (os := [.const (.int .i64 (-1)), .const (.int .i64 0), .const (.int .i64 1), .const (.int .i64 10), .const (.int .i64 11)]) [(-1), 0, 1, 10, 11] Tryd.runUnderlying27 Tryd.sizeOf2 Tryd.zeroValue2 rfl rfl rfl rfl rfl rfl fun v13 => ?_
    obtain ⟨r14, h15, hm⟩ := bindS hm
    refine SJ.call2 (k := 1) rfl Tryd.call29 rfl (fun w S hw hA hO hB => ok_s_l00Src_among h15 w S _ (hr3.st1 hw hO) _ (hB.row_rd (j := 0) (k := 1) rfl rfl) hA) rfl ?_
    rintro _ _ ⟨rfl, rfl⟩
    refine SJ.q (YldS.yld (y_assign rfl)) rfl ?_
    refine SJ.q (YldS.yld (y_assign rfl)) rfl ?_
    refine SJ.nil ?_
    refine PJ.next ?_
    refine WJ.ret ?_
    refine PJ.then_ret ?_
    obtain rfl := Option.some.inj hm
    refine PJ.sel (L' := [row v9 46 fResult r7.1]) [2] ⟨by decide, rfl⟩ ?_
    exact PJ.retn (vs := [v9, .int .i64 r14.1]) Tryd.results5 ⟨rfl, rfl, trivial⟩ ⟨_, rfl, rfl⟩
  · replace hm := ifF hm hb12
    refine WJ.skip ?_
    refine PJ.next ?_
    refine WJ.seq ?_
    refine WJ.reg ?_
    refine SJ.q (YldS.yld (y_move rfl)) rfl ?_
    refine SJ.q (YldS.yld (y_move rfl)) rfl ?_
    obtain ⟨r16, h17, hm⟩ := bindS hm
    refine SJ.call1 (k := 0) rfl Tryd.call30 rfl (fun w S hw hA hO => ok_s_l00Src_pick h17 w S _ (hr3.st1 hw hO) hA) rfl ?_
    rintro _ _ ⟨rfl, rfl⟩
    refine SJ.q (YldS.yld (y_bin rfl rfl rfl)) rfl ?_
    refine SJ.q (YldS.yld (y_assign rfl)) rfl ?_
    refine SJ.q (YldS.yld (y_assign rfl)) rfl ?_
    refine SJ.nil ?_
    refine PJ.next ?_
    refine WJ.ret ?_
    obtain rfl := Option.some.inj hm
    refine PJ.sel (L' := [row v9 46 fResult r7.1]) [1] ⟨by decide, rfl⟩ ?_
    exact PJ.retn (vs := [v9, .int .i64 (w64 (1 + r16.1))]) Tryd.results5 ⟨rfl, rfl, trivial⟩ ⟨_, rfl, rfl⟩

set_option maxRecDepth 100000 in
set_option maxHeartbeats 1000000 in
theorem ok_i_isDigit {b1 : UInt8} {r : Bool} (hm : i_isDigit b1 = some r) (w : World)  :
    Calls Tryd.prog 60 #[.int .u8 (UInt8.toNat b1 : Int)] w (Ret (cx w) (.bool r)) := by
  unfold i_isDigit at hm
  refine Calls.enter [.int .u8 (UInt8.toNat b1 : Int)] Tryd.func60 rfl Tryd.ntmps60 rfl ?_
  refine WJ.seq ?_
  refine WJ.quiet ?_
  refine QJ.step (YldS.yld (y_assign rfl)) rfl ?_
  refine QJ.done ?_
  refine PJ.next ?_
  refine WJ.seq ?_
  refine WJ.quiet ?_
  refine QJ.step (YldS.yld (y_move rfl)) rfl ?_
  refine QJ.step (YldS.yld (y_bin8 b1 (48 : UInt8) rfl rfl rfl)) rfl ?_
  refine QJ.step (YldS.yld (y_move rfl)) rfl ?_
  obtain ⟨t2, h3, hm⟩ := bindS hm
  refine QJ.cut 3 [(8, .bool t2)] ?_ ?_
  · rcases Bool.eq_false_or_eq_true (decide (b1 ≥ (48 : UInt8))) with hb4 | hb4
    · replace h3 := andT h3 hb4
      refine QJ.on rfl rfl (cB hb4) (YldS.yld (y_move rfl)) rfl ?_
      refine QJ.on rfl rfl (cB hb4) (YldS.yld (y_bin8 b1 (57 : UInt8) rfl rfl rfl)) rfl ?_
      refine QJ.step (YldS.yld (y_pick_t (cB hb4) rfl)) rfl ?_
      obtain rfl := Option.some.inj h3
      exact QJ.cut_end ⟨rfl, trivial⟩
    · obtain rfl := andF h3 hb4
      refine QJ.off rfl rfl (cB hb4) rfl rfl ?_
      refine QJ.off rfl rfl (cB hb4) rfl rfl ?_
      refine QJ.step (YldS.yld (y_pick_f (cB hb4) rfl)) rfl ?_
      exact QJ.cut_end ⟨rfl, trivial⟩
  refine QJ.step (YldS.yld (y_assign rfl)) rfl ?_
  refine QJ.done ?_
  refine PJ.next ?_
  refine WJ.ret ?_
  obtain rfl := Option.some.inj hm
  refine PJ.sel (L' := []) [] ⟨List.nodup_nil, rfl⟩ ?_
  exact PJ.retn (vs := [.bool t2]) Tryd.results60 ⟨rfl, trivial⟩ ⟨rfl, rfl⟩

set_option maxRecDepth 100000 in
set_option maxHeartbeats 1000000 in
theorem ok_i_IsName {N : Nat} {s1 : Str} {r : Bool} (hm : i_IsName N s1 = some r) (w : World)  :
    Calls Tryd.prog 48 #[str s1] w (Ret (cx w) (.bool r)) := by
  unfold i_IsName at hm
  refine Calls.enter [str s1] Tryd.func48 rfl Tryd.ntmps48 rfl ?_
  refine WJ.seq ?_
  refine WJ.quiet ?_
  refine QJ.step (YldS.yld (y_assign rfl)) rfl ?_
  refine QJ.done ?_
  refine PJ.next ?_
  refine WJ.seq ?_
  refine WJ.seq ?_
  refine WJ.quiet ?_
  refine QJ.step (YldS.yld (y_move rfl)) rfl ?_
  refine QJ.step (YldS.yld (y_lenStr Tryd.runUnderlying9 rfl)) rfl ?_
  refine QJ.step (YldS.yld (y_bin rfl rfl rfl)) rfl ?_
  refine QJ.step (YldS.yld (y_move rfl)) rfl ?_
  obtain ⟨t2, h3, hm⟩ := bindS hm
  refine QJ.cut 4 [(0, str s1), (12, .bool t2)] ?_ ?_
  · rcases Bool.eq_false_or_eq_true ((List.length s1 : Int) == 0) with hb4 | hb4
    · obtain rfl := orT h3 hb4
      refine QJ.off rfl rfl (cB hb4) rfl rfl ?_
      refine QJ.off rfl rfl (cB hb4) rfl rfl ?_
      refine QJ.off rfl rfl (cB hb4) rfl rfl ?_
      refine QJ.step (YldS.yld (y_pick_t (cB hb4) rfl)) rfl ?_
      exact QJ.cut_end ⟨rfl, rfl, trivial⟩
    · replace h3 := orF h3 hb4
      refine QJ.on rfl rfl (cB hb4) (YldS.yld (y_move rfl)) rfl ?_
      refine QJ.on rfl rfl (cB hb4) (YldS.yld (y_lenStr Tryd.runUnderlying9 rfl)) rfl ?_
      refine QJ.on rfl rfl (cB hb4) (YldS.yld (y_bin rfl rfl rfl)) rfl ?_
      refine QJ.step (YldS.yld (y_pick_f (cB hb4) rfl)) rfl ?_
      obtain rfl := Option.some.inj h3
      exact QJ.cut_end ⟨rfl, rfl, trivial⟩
  refine QJ.done ?_
  refine PJ.next ?_
  refine WJ.cond (t := t2) rfl (fun hb5 => ?_) (fun hb5 => ?_)
  · replace hm := ifT hm hb5
    refine WJ.seq ?_
    refine WJ.quiet ?_
    refine QJ.step (YldS.yld (y_assign rfl)) rfl ?_
    refine QJ.done ?_
    refine PJ.next ?_
    refine WJ.ret ?_
    refine PJ.then_ret ?_
    obtain rfl := Option.some.inj hm
    refine PJ.sel (L' := []) [] ⟨List.nodup_nil, rfl⟩ ?_
    exact PJ.retn (vs := [.bool false]) Tryd.results48 ⟨rfl, trivial⟩ ⟨rfl, rfl⟩
  · replace hm := ifF hm hb5
    refine WJ.skip ?_
    refine PJ.next ?_
    obtain ⟨kj6, hk7, hm⟩ := withK_open hm
    refine WJ.join (X := Unit) (fun (_ : Unit) => kj6  = some r) (fun (_ : Unit) => []) (fun (_ : Unit) => []) ?_ ?_
    · clear hk7
      refine WJ.seq ?_
      refine WJ.quiet ?_
      refine QJ.step (YldS.yld (y_move rfl)) rfl ?_
      refine QJ.step (YldS.yld (y_lenStr Tryd.runUnderlying9 rfl)) rfl ?_
      refine QJ.step (YldS.yld (y_move rfl)) rfl ?_
      refine QJ.done ?_
      refine PJ.next ?_
      refine WJ.block ?_
      refine WJ.sel (L' := (fun (x : Int) => []) 0) [] ⟨List.nodup_nil, rfl⟩ ?_
      refine WJ.sub (m' := (fun (x : Int) => [(0, str s1), (14, .int .i64 (List.length s1 : Int)), (15, .int .i64 x)]) 0) ⟨rfl, rfl, rfl, trivial⟩ ?_
      refine WJ.loop (X := Int) (fun N (x : Int) => i_IsName_l1 kj6 s1 N x = some r) (fun (x : Int) => [(0, str s1), (14, .int .i64 (List.length s1 : Int)), (15, .int .i64 x)]) (fun (x : Int) => []) ?_ N 0 hm
      · rintro N x8 hI
        have hm := hI; clear hI
        cases N with
        | zero => cases hm
        | succ N =>
        unfold i_IsName_l1 at hm
        refine WJ.seq ?_
        refine WJ.quiet ?_
        refine QJ.step (YldS.yld (y_bin rfl rfl rfl)) rfl ?_
        refine QJ.done ?_
        refine PJ.next ?_
        refine WJ.seq ?_
        refine WJ.cond (t := decide (x8 < (List.length s1 : Int))) rfl (fun hb9 => ?_) (fun hb9 => ?_)
        · replace hm := ifT hm hb9
          refine WJ.skip ?_
          refine PJ.next ?_
          refine WJ.seq ?_
          refine WJ.block ?_
          refine WJ.seq ?_
          refine WJ.quiet ?_
          refine QJ.step (YldS.yld (y_move rfl)) rfl ?_
          refine QJ.step (YldS.yld (y_assign rfl)) rfl ?_
          refine QJ.done ?_
          refine PJ.next ?_
          refine WJ.seq ?_
          refine WJ.quiet ?_
          refine QJ.step (YldS.yld (y_move rfl)) rfl ?_
          refine QJ.step (YldS.yld (y_move rfl)) rfl ?_
          obtain ⟨c10, h11, hm⟩ := bindS hm
          refine QJ.step (YldS.yld (y_idxStr Tryd.runUnderlying9 rfl rfl h11)) rfl ?_
          refine QJ.step (YldS.yld (y_bin8 c10 (97 : UInt8) rfl rfl rfl)) rfl ?_
          refine QJ.step (YldS.yld (y_move rfl)) rfl ?_
          obtain ⟨t12, h13, hm⟩ := bindS hm
          refine QJ.cut 5 [(0, str s1), (3, .int .i64 x8), (14, .int .i64 (List.length s1 : Int)), (15, .int .i64 x8), (27, .bool t12)] ?_ ?_
          · rcases Bool.eq_false_or_eq_true (decide (c10 ≥ (97 : UInt8))) with hb14 | hb14
            · replace h13 := andT h13 hb14
              refine QJ.on rfl rfl (cB hb14) (YldS.yld (y_move rfl)) rfl ?_
              refine QJ.on rfl rfl (cB hb14) (YldS.yld (y_move rfl)) rfl ?_
              obtain ⟨c15, h16, h13⟩ := bindS h13
              refine QJ.on rfl rfl (cB hb14) (YldS.yld (y_idxStr Tryd.runUnderlying9 rfl rfl h16)) rfl ?_
              refine QJ.on rfl rfl (cB hb14) (YldS.yld (y_bin8 c15 (122 : UInt8) rfl rfl rfl)) rfl ?_
              refine QJ.step (YldS.yld (y_pick_t (cB hb14) rfl)) rfl ?_
              obtain rfl := Option.some.inj h13
              exact QJ.cut_end ⟨rfl, rfl, rfl, rfl, rfl, trivial⟩
            · obtain rfl := andF h13 hb14
              refine QJ.off rfl rfl (cB hb14) rfl rfl ?_
              refine QJ.off rfl rfl (cB hb14) rfl rfl ?_
              refine QJ.off rfl rfl (cB hb14) rfl rfl ?_
              refine QJ.off rfl rfl (cB hb14) rfl rfl ?_
              refine QJ.step (YldS.yld (y_pick_f (cB hb14) rfl)) rfl ?_
              exact QJ.cut_end ⟨rfl, rfl, rfl, rfl, rfl, trivial⟩
          refine QJ.step (YldS.yld (y_assign rfl)) rfl ?_
          refine QJ.done ?_
          refine PJ.next ?_
          refine WJ.seq ?_
          refine WJ.quiet ?_
          refine QJ.step (YldS.yld (y_move rfl)) rfl ?_
          refine QJ.step (YldS.yld (y_not rfl)) rfl ?_
          refine QJ.step (YldS.yld (y_move rfl)) rfl ?_
          obtain ⟨t17, h18, hm⟩ := bindS hm
          refine QJ.cut 16 [(0, str s1), (14, .int .i64 (List.length s1 : Int)), (15, .int .i64 x8), (46, .bool t17)] ?_ ?_
          · rcases Bool.eq_false_or_eq_true (!t12) with hb19 | hb19
            · replace h18 := andT h18 hb19
              refine QJ.on rfl rfl (cB hb19) (YldS.yld (y_move rfl)) rfl ?_
              refine QJ.on rfl rfl (cB hb19) (YldS.yld (y_bin rfl rfl rfl)) rfl ?_
              refine QJ.on rfl rfl (cB hb19) (YldS.yld (y_move rfl)) rfl ?_
              obtain ⟨t20, h21, h18⟩ := bindS h18
              refine QJ.cut 12 [(0, str s1), (14, .int .i64 (List.length s1 : Int)), (15, .int .i64 x8), (30, .bool (!t12)), (45, .bool t20)] ?_ ?_
              · rcases Bool.eq_false_or_eq_true (x8 == 0) with hb22 | hb22
                · obtain rfl := orT h21 hb22
                  refine QJ.off rfl rfl (cB hb22) rfl rfl ?_
                  refine QJ.off rfl rfl (cB hb22) rfl rfl ?_
                  refine QJ.off rfl rfl (cB hb22) rfl rfl ?_
                  refine QJ.off rfl rfl (cB hb22) rfl rfl ?_
                  refine QJ.off rfl rfl (cB hb22) rfl rfl ?_
                  refine QJ.off_undef rfl rfl rfl rfl ?_
                  refine QJ.off_undef rfl rfl rfl rfl ?_
                  refine QJ.off_undef rfl rfl rfl rfl ?_
                  refine QJ.off_undef rfl rfl rfl rfl ?_
                  refine QJ.off_undef rfl rfl rfl rfl ?_
                  refine QJ.off rfl rfl (cB hb22) rfl rfl ?_
                  refine QJ.on rfl rfl (cB hb19) (YldS.yld (y_pick_t (cB hb22) rfl)) rfl ?_
                  exact QJ.cut_end ⟨rfl, rfl, rfl, rfl, rfl, trivial⟩
                · replace h21 := orF h21 hb22
                  refine QJ.on rfl rfl (cB hb22) (YldS.yld (y_move rfl)) rfl ?_
                  refine QJ.on rfl rfl (cB hb22) (YldS.yld (y_move rfl)) rfl ?_
                  obtain ⟨c23, h24, h21⟩ := bindS h21
                  refine QJ.on rfl rfl (cB hb22) (YldS.yld (y_idxStr Tryd.runUnderlying9 rfl rfl h24)) rfl ?_
                  refine QJ.on rfl rfl (cB hb22) (YldS.yld (y_bin8 c23 (45 : UInt8) rfl rfl rfl)) rfl ?_
                  refine QJ.on rfl rfl (cB hb22) (YldS.yld (y_move rfl)) rfl ?_
                  obtain ⟨t25, h26, h21⟩ := bindS h21
                  refine QJ.cut 6 [(0, str s1), (14, .int .i64 (List.length s1 : Int)), (15, .int .i64 x8), (30, .bool (!t12)), (33, .bool (x8 == 0)), (44, .bool t25)] ?_ ?_
                  · rcases Bool.eq_false_or_eq_true (c23 != (45 : UInt8)) with hb27 | hb27
                    · replace h26 := andT h26 hb27
                      refine QJ.on rfl rfl (cB hb27) (YldS.yld (y_move rfl)) rfl ?_
                      refine QJ.on rfl rfl (cB hb27) (YldS.yld (y_move rfl)) rfl ?_
                      obtain ⟨c28, h29, h26⟩ := bindS h26
                      refine QJ.on rfl rfl (cB hb27) (YldS.yld (y_idxStr Tryd.runUnderlying9 rfl rfl h29)) rfl ?_
                      obtain ⟨r30, h31, h26⟩ := bindS h26
                      refine QJ.on rfl rfl (cB hb27) (y_call Tryd.call60 rfl (RetG.quiet fun w hw => ok_i_isDigit h31 w )) rfl ?_
                      refine QJ.on rfl rfl (cB hb27) (YldS.yld (y_not rfl)) rfl ?_
                      refine QJ.on rfl rfl (cB hb22) (YldS.yld (y_pick_t (cB hb27) rfl)) rfl ?_
                      obtain rfl := Option.some.inj h26
                      exact QJ.cut_end ⟨rfl, rfl, rfl, rfl, rfl, rfl, trivial⟩
                    · obtain rfl := andF h26 hb27
                      refine QJ.off rfl rfl (cB hb27) rfl rfl ?_
                      refine QJ.off rfl rfl (cB hb27) rfl rfl ?_
                      refine QJ.off rfl rfl (cB hb27) rfl rfl ?_
                      refine QJ.off rfl rfl (cB hb27) rfl rfl ?_
                      refine QJ.off rfl rfl (cB hb27) rfl rfl ?_
                      refine QJ.on rfl rfl (cB hb22) (YldS.yld (y_pick_f (cB hb27) rfl)) rfl ?_
                      exact QJ.cut_end ⟨rfl, rfl, rfl, rfl, rfl, rfl, trivial⟩
                  refine QJ.on rfl rfl (cB hb19) (YldS.yld (y_pick_f (cB hb22) rfl)) rfl ?_
                  obtain rfl := Option.some.inj h21
                  exact QJ.cut_end ⟨rfl, rfl, rfl, rfl, rfl, trivial⟩
              refine QJ.step (YldS.yld (y_pick_t (cB hb19) rfl)) rfl ?_
              obtain rfl := Option.some.inj h18
              exact QJ.cut_end ⟨rfl, rfl, rfl, rfl, trivial⟩
            · obtain rfl := andF h18 hb19
              refine QJ.off rfl rfl (cB hb19) rfl rfl ?_
              refine QJ.off rfl rfl (cB hb19) rfl rfl ?_
              refine QJ.off rfl rfl (cB hb19) rfl rfl ?_
              refine QJ.off_undef rfl rfl rfl rfl ?_
              refine QJ.off_undef rfl rfl rfl rfl ?_
              refine QJ.off_undef rfl rfl rfl rfl ?_
              refine QJ.off_undef rfl rfl rfl rfl ?_
              refine QJ.off_undef rfl rfl rfl rfl ?_
              refine QJ.off_undef rfl rfl rfl rfl ?_
              refine QJ.off_undef rfl rfl rfl rfl ?_
              refine QJ.off_undef rfl rfl rfl rfl ?_
              refine QJ.off_undef rfl rfl rfl rfl ?_
              refine QJ.off_undef rfl rfl rfl rfl ?_
              refine QJ.off_undef rfl rfl rfl rfl ?_
              refine QJ.off rfl rfl (cB hb19) rfl rfl ?_
              refine QJ.step (YldS.yld (y_pick_f (cB hb19) rfl)) rfl ?_
              exact QJ.cut_end ⟨rfl, rfl, rfl, rfl, trivial⟩
          refine QJ.done ?_
          refine PJ.next ?_
          refine WJ.cond (t := t17) rfl (fun hb32 => ?_) (fun hb32 => ?_)
          · replace hm := ifT hm hb32
            refine WJ.seq ?_
            refine WJ.quiet ?_
            refine QJ.step (YldS.yld (y_assign rfl)) rfl ?_
            refine QJ.done ?_
            refine PJ.next ?_
            refine WJ.ret ?_
            refine PJ.block_ret (PJ.then_ret (PJ.then_ret (PJ.block_ret (PJ.then_ret ?_))))
            obtain rfl := Option.some.inj hm
            refine PJ.sel (L' := []) [] ⟨List.nodup_nil, rfl⟩ ?_
            exact PJ.retn (vs := [.bool false]) Tryd.results48 ⟨rfl, trivial⟩ ⟨rfl, rfl⟩
          · replace hm := ifF hm hb32
            refine WJ.skip ?_
            refine PJ.block_normal (PJ.next ?_)
            refine WJ.quiet ?_
            refine QJ.step (YldS.yld (y_bin rfl rfl rfl)) rfl ?_
            refine QJ.step (YldS.yld (y_move rfl)) rfl ?_
            refine QJ.done ?_
            exact PJ.round (w64 (x8 + 1)) [] hm ⟨rfl, rfl, rfl, trivial⟩ ⟨List.nodup_nil, rfl⟩
        · replace hm := ifF hm hb9
          refine WJ.exit ?_
          refine PJ.then_exit (PJ.then_exit (PJ.block_exit ?_))
          exact PJ.joined () [] hm trivial ⟨List.nodup_nil, rfl⟩
    · rintro _ hm
      subst hk7
      refine WJ.seq ?_
      refine WJ.quiet ?_
      refine QJ.step (YldS.yld (y_assign rfl)) rfl ?_
      refine QJ.done ?_
      refine PJ.next ?_
      refine WJ.ret ?_
      obtain rfl := Option.some.inj hm
      refine PJ.sel (L' := []) [] ⟨List.nodup_nil, rfl⟩ ?_
      exact PJ.retn (vs := [.bool true]) Tryd.results48 ⟨rfl, trivial⟩ ⟨rfl, rfl⟩

set_option maxRecDepth 100000 in
set_option maxHeartbeats 1000000 in
theorem ok_i_between {n1 : Int} {low2 : Int} {high3 : Int} {r : Bool} (hm : i_between n1 low2 high3 = some r) (w : World)  :
    Calls Tryd.prog 31 #[.int .i64 n1, .int .i64 low2, .int .i64 high3] w (Ret (cx w) (.bool r)) := by
  unfold i_between at hm
  refine Calls.enter [.int .i64 n1, .int .i64 low2, .int .i64 high3] Tryd.func31 rfl Tryd.ntmps31 rfl ?_
  refine WJ.seq ?_
  refine WJ.quiet ?_
  refine QJ.step (YldS.yld (y_assign rfl)) rfl ?_
  refine QJ.done ?_
  refine PJ.next ?_
  refine WJ.seq ?_
  refine WJ.quiet ?_
  refine QJ.step (YldS.yld (y_move rfl)) rfl ?_
  refine QJ.step (YldS.yld (y_move rfl)) rfl ?_
  refine QJ.step (YldS.yld (y_bin rfl rfl rfl)) rfl ?_
  refine QJ.step (YldS.yld (y_move rfl)) rfl ?_
  obtain ⟨t4, h5, hm⟩ := bindS hm
  refine QJ.cut 4 [(14, .bool t4)] ?_ ?_
  · rcases Bool.eq_false_or_eq_true (decide (n1 ≥ low2)) with hb6 | hb6
    · replace h5 := andT h5 hb6
      refine QJ.on rfl rfl (cB hb6) (YldS.yld (y_move rfl)) rfl ?_
      refine QJ.on rfl rfl (cB hb6) (YldS.yld (y_move rfl)) rfl ?_
      refine QJ.on rfl rfl (cB hb6) (YldS.yld (y_bin rfl rfl rfl)) rfl ?_
      refine QJ.step (YldS.yld (y_pick_t (cB hb6) rfl)) rfl ?_
      obtain rfl := Option.some.inj h5
      exact QJ.cut_end ⟨rfl, trivial⟩
    · obtain rfl := andF h5 hb6
      refine QJ.off rfl rfl (cB hb6) rfl rfl ?_
      refine QJ.off rfl rfl (cB hb6) rfl rfl ?_
      refine QJ.off rfl rfl (cB hb6) rfl rfl ?_
      refine QJ.step (YldS.yld (y_pick_f (cB hb6) rfl)) rfl ?_
      exact QJ.cut_end ⟨rfl, trivial⟩
  refine QJ.step (YldS.yld (y_assign rfl)) rfl ?_
  refine QJ.done ?_
  refine PJ.next ?_
  refine WJ.ret ?_
  obtain rfl := Option.some.inj hm
  refine PJ.sel (L' := []) [] ⟨List.nodup_nil, rfl⟩ ?_
  exact PJ.retn (vs := [.bool t4]) Tryd.results31 ⟨rfl, trivial⟩ ⟨rfl, rfl⟩

set_option maxRecDepth 100000 in
set_option maxHeartbeats 1000000 in
theorem ok_i_ValidResults {N : Nat} {list1 : List Result} {r : Bool} (hm : i_ValidResults N list1 = some r) (w : World) (v2 : Value) (hr3 : RdS w (cx w).Fz v2 fResult.rp list1) :
    Calls Tryd.prog 24 #[v2] w (Ret (cx w) (.bool r)) := by
  unfold i_ValidResults at hm
  refine Calls.enter [v2] Tryd.func24 rfl Tryd.ntmps24 rfl ?_
  refine WJ.seq ?_
  refine WJ.quiet ?_
  refine QJ.step (YldS.yld (y_assign rfl)) rfl ?_
  refine QJ.done ?_
  refine PJ.next ?_
  refine WJ.seq ?_
  refine WJ.reg ?_
  refine SJ.makeMap rfl fun g4 => ?_
  refine SJ.q (YldS.yld (y_assign rfl)) rfl ?_
  refine SJ.nil ?_
  refine PJ.next ?_
  obtain ⟨kj5, hk6, hm⟩ := withK_open hm
  refine WJ.join (X := Unit) (fun (_ : Unit) => kj5  = some r) (fun (_ : Unit) => [(0, v2)]) (fun (_ : Unit) => []) ?_ ?_
  · clear hk6
    refine WJ.seq ?_
    refine WJ.quiet ?_
    refine QJ.step (YldS.yld (y_move rfl)) rfl ?_
    refine QJ.step (YldS.yld (y_lenS Tryd.runUnderlying24 hr3 rfl)) rfl ?_
    refine QJ.step (YldS.yld (y_move rfl)) rfl ?_
    refine QJ.done ?_
    refine PJ.next ?_
    refine WJ.block ?_
    refine WJ.sel (L' := (fun (x : (List (Str × Bool)) × Int) => [mp g4 x.1]) ([], 0)) [0] ⟨by decide, rfl⟩ ?_
    refine WJ.sub (m' := (fun (x : (List (Str × Bool)) × Int) => [(0, v2), (3, .map (some g4)), (7, v2), (8, .int .i64 (List.length list1 : Int)), (9, .int .i64 x.2)]) ([], 0)) ⟨rfl, rfl, rfl, rfl, rfl, trivial⟩ ?_
    refine WJ.loop (X := (List (Str × Bool)) × Int) (fun N (x : (List (Str × Bool)) × Int) => i_ValidResults_l1 kj5 list1 N x.1 x.2 = some r) (fun (x : (List (Str × Bool)) × Int) => [(0, v2), (3, .map (some g4)), (7, v2), (8, .int .i64 (List.length list1 : Int)), (9, .int .i64 x.2)]) (fun (x : (List (Str × Bool)) × Int) => [mp g4 x.1]) ?_ N ([], 0) hm
    · rintro N ⟨mp7, x8⟩ hI
      have hm := hI; clear hI
      cases N with
      | zero => cases hm
      | succ N =>
      unfold i_ValidResults_l1 at hm
      refine WJ.seq ?_
      refine WJ.quiet ?_
      refine QJ.step (YldS.yld (y_bin rfl rfl rfl)) rfl ?_
      refine QJ.done ?_
      refine PJ.next ?_
      refine WJ.seq ?_
      refine WJ.cond (t := decide (x8 < (List.length list1 : Int))) rfl (fun hb9 => ?_) (fun hb9 => ?_)
      · replace hm := ifT hm hb9
        refine WJ.skip ?_
        refine PJ.next ?_
        refine WJ.seq ?_
        refine WJ.block ?_
        refine WJ.seq ?_
        refine WJ.reg ?_
        obtain ⟨e10, h11, hm⟩ := bindS hm
        obtain ⟨ad12, _, rfl, ha13, hy14⟩ := hr3.elem h11
        refine SJ.q (YldS.yld (hy14 Tryd.runUnderlying24 Tryd.sizeOf46 rfl rfl)) rfl ?_
        refine SJ.q (YldS.yld (y_loadN Tryd.isAgg46 Tryd.sizeOf46 rfl ha13 St.frozenC rfl)) rfl ?_
        refine SJ.alloc (cs := [str [], .int .i64 0, .int .i64 0]) Tryd.zeroValue46 rfl rfl fun g15 => ?_
        refine SJ.storeL (k := 0) (off := 0) (us := [str e10.name, .int .i64 e10.net, .int .i64 e10.errors]) rfl rfl rfl rfl Tryd.sizeOf46 rfl rfl ?_
        refine SJ.nil ?_
        refine PJ.next ?_
        refine WJ.seq ?_
        refine WJ.seq ?_
        refine WJ.quiet ?_
        refine QJ.step (YldS.yld (y_fldB (o := 0) fld46_0 rfl)) rfl ?_
        refine QJ.step (YldS.yld (y_loadB (k := 0) (off := 0) (v := str e10.name) rfl Tryd.isAgg9 rfl rfl)) rfl ?_
        obtain ⟨r16, h17, hm⟩ := bindS hm
        refine QJ.step (y_call Tryd.call48 rfl (RetG.quiet fun w hw => ok_i_IsName h17 w )) rfl ?_
        refine QJ.step (YldS.yld (y_not rfl)) rfl ?_
        refine QJ.step (YldS.yld (y_move rfl)) rfl ?_
        obtain ⟨t18, h19, hm⟩ := bindS hm
        refine QJ.cut 5 [(0, v2), (3, .map (some g4)), (5, pt g15 0), (7, v2), (8, .int .i64 (List.length list1 : Int)), (9, .int .i64 x8), (22, .bool t18)] ?_ ?_
        · rcases Bool.eq_false_or_eq_true (!r16) with hb20 | hb20
          · obtain rfl := orT h19 hb20
            refine QJ.off rfl rfl (cB hb20) rfl rfl ?_
            refine QJ.off rfl rfl (cB hb20) rfl rfl ?_
            refine QJ.off rfl rfl (cB hb20) rfl rfl ?_
            refine QJ.off rfl rfl (cB hb20) rfl rfl ?_
            refine QJ.step (YldS.yld (y_pick_t (cB hb20) rfl)) rfl ?_
            exact QJ.cut_end ⟨rfl, rfl, rfl, rfl, rfl, rfl, rfl, trivial⟩
          · replace h19 := orF h19 hb20
            refine QJ.on rfl rfl (cB hb20) (YldS.yld (y_move rfl)) rfl ?_
            refine QJ.on rfl rfl (cB hb20) (YldS.yld (y_fldB (o := 0) fld46_0 rfl)) rfl ?_
            refine QJ.on rfl rfl (cB hb20) (YldS.yld (y_loadB (k := 0) (off := 0) (v := str e10.name) rfl Tryd.isAgg9 rfl rfl)) rfl ?_
            refine QJ.on rfl rfl (cB hb20) (YldS.yld (y_lookupSB (k := 1) rfl Tryd.underlying73 Tryd.underlying9 Tryd.zeroValue4 rfl rfl)) rfl ?_
            refine QJ.step (YldS.yld (y_pick_f (cB hb20) rfl)) rfl ?_
            obtain rfl := Option.some.inj h19
            exact QJ.cut_end ⟨rfl, rfl, rfl, rfl, rfl, rfl, rfl, trivial⟩
        refine QJ.step (YldS.yld (y_move rfl)) rfl ?_
        obtain ⟨t21, h22, hm⟩ := bindS hm
        refine QJ.cut 5 [(0, v2), (3, .map (some g4)), (5, pt g15 0), (7, v2), (8, .int .i64 (List.length list1 : Int)), (9, .int .i64 x8), (28, .bool t21)] ?_ ?_
        · rcases Bool.eq_false_or_eq_true t18 with hb23 | hb23
          · obtain rfl := orT h22 hb23
            refine QJ.off rfl rfl (cB hb23) rfl rfl ?_
            refine QJ.off rfl rfl (cB hb23) rfl rfl ?_
            refine QJ.off rfl rfl (cB hb23) rfl rfl ?_
            refine QJ.off rfl rfl (cB hb23) rfl rfl ?_
            refine QJ.step (YldS.yld (y_pick_t (cB hb23) rfl)) rfl ?_
            exact QJ.cut_end ⟨rfl, rfl, rfl, rfl, rfl, rfl, rfl, trivial⟩
          · replace h22 := orF h22 hb23
            refine QJ.on rfl rfl (cB hb23) (YldS.yld (y_fldB (o := 0) fld46_1 rfl)) rfl ?_
            refine QJ.on rfl rfl (cB hb23) (YldS.yld (y_loadB (k := 0) (off := 1) (v := .int .i64 e10.net) rfl Tryd.isAgg2 rfl rfl)) rfl ?_
            obtain ⟨r24, h25, h22⟩ := bindS h22
            refine QJ.on rfl rfl (cB hb23) (y_call Tryd.call31 rfl (RetG.quiet fun w hw => ok_i_between h25 w )) rfl ?_
            refine QJ.on rfl rfl (cB hb23) (YldS.yld (y_not rfl)) rfl ?_
            refine QJ.step (YldS.yld (y_pick_f (cB hb23) rfl)) rfl ?_
            obtain rfl := Option.some.inj h22
            exact QJ.cut_end ⟨rfl, rfl, rfl, rfl, rfl, rfl, rfl, trivial⟩
        refine QJ.step (YldS.yld (y_move rfl)) rfl ?_
        obtain ⟨t26, h27, hm⟩ := bindS hm
        refine QJ.cut 5 [(0, v2), (3, .map (some g4)), (5, pt g15 0), (7, v2), (8, .int .i64 (List.length list1 : Int)), (9, .int .i64 x8), (34, .bool t26)] ?_ ?_
        · rcases Bool.eq_false_or_eq_true t21 with hb28 | hb28
          · obtain rfl := orT h27 hb28
            refine QJ.off rfl rfl (cB hb28) rfl rfl ?_
            refine QJ.off rfl rfl (cB hb28) rfl rfl ?_
            refine QJ.off rfl rfl (cB hb28) rfl rfl ?_
            refine QJ.off rfl rfl (cB hb28) rfl rfl ?_
            refine QJ.step (YldS.yld (y_pick_t (cB hb28) rfl)) rfl ?_
            exact QJ.cut_end ⟨rfl, rfl, rfl, rfl, rfl, rfl, rfl, trivial⟩
          · replace h27 := orF h27 hb28
            refine QJ.on rfl rfl (cB hb28) (YldS.yld (y_fldB (o := 0) fld46_2 rfl)) rfl ?_
            refine QJ.on rfl rfl (cB hb28) (YldS.yld (y_loadB (k := 0) (off := 2) (v := .int .i64 e10.errors) rfl Tryd.isAgg2 rfl rfl)) rfl ?_
            obtain ⟨r29, h30, h27⟩ := bindS h27
            refine QJ.on rfl rfl (cB hb28) (y_call Tryd.call31 rfl (RetG.quiet fun w hw => ok_i_between h30 w )) rfl ?_
            refine QJ.on rfl rfl (cB hb28) (YldS.yld (y_not rfl)) rfl ?_
            refine QJ.step (YldS.yld (y_pick_f (cB hb28) rfl)) rfl ?_
            obtain rfl := Option.some.inj h27
            exact QJ.cut_end ⟨rfl, rfl, rfl, rfl, rfl, rfl, rfl, trivial⟩
        refine QJ.done ?_
        refine PJ.next ?_
        refine WJ.cond (t := t26) rfl (fun hb31 => ?_) (fun hb31 => ?_)
        · replace hm := ifT hm hb31
          refine WJ.seq ?_
          refine WJ.quiet ?_
          refine QJ.step (YldS.yld (y_assign rfl)) rfl ?_
          refine QJ.done ?_
          refine PJ.next ?_
          refine WJ.ret ?_
          refine PJ.then_ret (PJ.block_ret (PJ.then_ret (PJ.then_ret (PJ.block_ret (PJ.then_ret ?_)))))
          obtain rfl := Option.some.inj hm
          refine PJ.sel (L' := []) [] ⟨List.nodup_nil, rfl⟩ ?_
          exact PJ.retn (vs := [.bool false]) Tryd.results24 ⟨rfl, trivial⟩ ⟨rfl, rfl⟩
        · replace hm := ifF hm hb31
          refine WJ.skip ?_
          refine PJ.next ?_
          refine WJ.reg ?_
          refine SJ.q (YldS.yld (y_move rfl)) rfl ?_
          refine SJ.q (YldS.yld (y_fldB (o := 0) fld46_0 rfl)) rfl ?_
          refine SJ.q (YldS.yld (y_loadB (k := 0) (off := 0) (v := str e10.name) rfl Tryd.isAgg9 rfl rfl)) rfl ?_
          refine SJ.mapUpdateSB (k := 1) Tryd.underlying73 Tryd.underlying9 rfl rfl rfl rfl ?_
          refine SJ.nil ?_
          refine PJ.block_normal (PJ.next ?_)
          refine WJ.quiet ?_
          refine QJ.step (YldS.yld (y_bin rfl rfl rfl)) rfl ?_
          refine QJ.step (YldS.yld (y_move rfl)) rfl ?_
          refine QJ.done ?_
          exact PJ.round (mset mp7 e10.name true, w64 (x8 + 1)) [1] hm ⟨rfl, rfl, rfl, rfl, rfl, trivial⟩ ⟨by decide, rfl⟩
      · replace hm := ifF hm hb9
        refine WJ.exit ?_
        refine PJ.then_exit (PJ.then_exit (PJ.block_exit ?_))
        exact PJ.joined () [] hm ⟨rfl, trivial⟩ ⟨List.nodup_nil, rfl⟩
  · rintro _ hm
    subst hk6
    refine WJ.seq ?_
    refine WJ.quiet ?_
    refine QJ.step (YldS.yld (y_move rfl)) rfl ?_
    refine QJ.step (YldS.yld (y_lenS Tryd.runUnderlying24 hr3 rfl)) rfl ?_
    refine QJ.step (YldS.yld (y_bin rfl rfl rfl)) rfl ?_
    refine QJ.step (YldS.yld (y_assign rfl)) rfl ?_
    refine QJ.done ?_
    refine PJ.next ?_
    refine WJ.ret ?_
    obtain rfl := Option.some.inj hm
    refine PJ.sel (L' := []) [] ⟨List.nodup_nil, rfl⟩ ?_
    exact PJ.retn (vs := [.bool (decide ((List.length list1 : Int) ≤ 40))]) Tryd.results24 ⟨rfl, trivial⟩ ⟨rfl, rfl⟩

set_option maxRecDepth 100000 in
set_option maxHeartbeats 1000000 in
theorem ok_i_Result_better {x1 : Result} {y2 : Result} {r : Bool} (hm : i_Result_better x1 y2 = some r) (w : World)  :
    Calls Tryd.prog 42 #[.agg (Result.enc x1).toArray, .agg (Result.enc y2).toArray] w (Ret (cx w) (.bool r)) := by
  unfold i_Result_better at hm
  refine Calls.enter [.agg (Result.enc x1).toArray, .agg (Result.enc y2).toArray] Tryd.func42 rfl Tryd.ntmps42 rfl ?_
  refine WJ.seq ?_
  refine WJ.reg ?_
  refine SJ.box (cs := [str x1.name, .int .i64 x1.net, .int .i64 x1.errors]) rfl rfl rfl fun g3 => ?_
  refine SJ.box (cs := [str y2.name, .int .i64 y2.net, .int .i64 y2.errors]) rfl rfl rfl fun g4 => ?_
  refine SJ.q (YldS.yld (y_assign rfl)) rfl ?_
  refine SJ.nil ?_
  refine PJ.next ?_
  refine WJ.seq ?_
  refine WJ.quiet ?_
  refine QJ.step (YldS.yld (y_fldB (o := 0) fld46_1 rfl)) rfl ?_
  refine QJ.step (YldS.yld (y_loadB (k := 1) (off := 1) (v := .int .i64 x1.net) rfl Tryd.isAgg2 rfl rfl)) rfl ?_
  refine QJ.step (YldS.yld (y_fldB (o := 0) fld46_1 rfl)) rfl ?_
  refine QJ.step (YldS.yld (y_loadB (k := 0) (off := 1) (v := .int .i64 y2.net) rfl Tryd.isAgg2 rfl rfl)) rfl ?_
  refine QJ.step (YldS.yld (y_bin rfl rfl rfl)) rfl ?_
  refine QJ.step (YldS.yld (y_move rfl)) rfl ?_
  obtain ⟨t5, h6, hm⟩ := bindS hm
  refine QJ.cut 13 [(23, .bool t5)] ?_ ?_
  · rcases Bool.eq_false_or_eq_true (decide (x1.net > y2.net)) with hb7 | hb7
    · obtain rfl := orT h6 hb7
      refine QJ.off rfl rfl (cB hb7) rfl rfl ?_
      refine QJ.off rfl rfl (cB hb7) rfl rfl ?_
      refine QJ.off rfl rfl (cB hb7) rfl rfl ?_
      refine QJ.off rfl rfl (cB hb7) rfl rfl ?_
      refine QJ.off rfl rfl (cB hb7) rfl rfl ?_
      refine QJ.off rfl rfl (cB hb7) rfl rfl ?_
      refine QJ.off_undef rfl rfl rfl rfl ?_
      refine QJ.off_undef rfl rfl rfl rfl ?_
      refine QJ.off_undef rfl rfl rfl rfl ?_
      refine QJ.off_undef rfl rfl rfl rfl ?_
      refine QJ.off_undef rfl rfl rfl rfl ?_
      refine QJ.off rfl rfl (cB hb7) rfl rfl ?_
      refine QJ.step (YldS.yld (y_pick_t (cB hb7) rfl)) rfl ?_
      exact QJ.cut_end ⟨rfl, trivial⟩
    · replace h6 := orF h6 hb7
      refine QJ.on rfl rfl (cB hb7) (YldS.yld (y_fldB (o := 0) fld46_1 rfl)) rfl ?_
      refine QJ.on rfl rfl (cB hb7) (YldS.yld (y_loadB (k := 1) (off := 1) (v := .int .i64 x1.net) rfl Tryd.isAgg2 rfl rfl)) rfl ?_
      refine QJ.on rfl rfl (cB hb7) (YldS.yld (y_fldB (o := 0) fld46_1 rfl)) rfl ?_
      refine QJ.on rfl rfl (cB hb7) (YldS.yld (y_loadB (k := 0) (off := 1) (v := .int .i64 y2.net) rfl Tryd.isAgg2 rfl rfl)) rfl ?_
      refine QJ.on rfl rfl (cB hb7) (YldS.yld (y_bin rfl rfl rfl)) rfl ?_
      refine QJ.on rfl rfl (cB hb7) (YldS.yld (y_move rfl)) rfl ?_
      obtain ⟨t8, h9, h6⟩ := bindS h6
      refine QJ.cut 6 [(10, .bool (decide (x1.net > y2.net))), (22, .bool t8)] ?_ ?_
      · rcases Bool.eq_false_or_eq_true (x1.net == y2.net) with hb10 | hb10
        · replace h9 := andT h9 hb10
          refine QJ.on rfl rfl (cB hb10) (YldS.yld (y_fldB (o := 0) fld46_2 rfl)) rfl ?_
          refine QJ.on rfl rfl (cB hb10) (YldS.yld (y_loadB (k := 1) (off := 2) (v := .int .i64 x1.errors) rfl Tryd.isAgg2 rfl rfl)) rfl ?_
          refine QJ.on rfl rfl (cB hb10) (YldS.yld (y_fldB (o := 0) fld46_2 rfl)) rfl ?_
          refine QJ.on rfl rfl (cB hb10) (YldS.yld (y_loadB (k := 0) (off := 2) (v := .int .i64 y2.errors) rfl Tryd.isAgg2 rfl rfl)) rfl ?_
          refine QJ.on rfl rfl (cB hb10) (YldS.yld (y_bin rfl rfl rfl)) rfl ?_
          refine QJ.on rfl rfl (cB hb7) (YldS.yld (y_pick_t (cB hb10) rfl)) rfl ?_
          obtain rfl := Option.some.inj h9
          exact QJ.cut_end ⟨rfl, rfl, trivial⟩
        · obtain rfl := andF h9 hb10
          refine QJ.off rfl rfl (cB hb10) rfl rfl ?_
          refine QJ.off rfl rfl (cB hb10) rfl rfl ?_
          refine QJ.off rfl rfl (cB hb10) rfl rfl ?_
          refine QJ.off rfl rfl (cB hb10) rfl rfl ?_
          refine QJ.off rfl rfl (cB hb10) rfl rfl ?_
          refine QJ.on rfl rfl (cB hb7) (YldS.yld (y_pick_f (cB hb10) rfl)) rfl ?_
          exact QJ.cut_end ⟨rfl, rfl, trivial⟩
      refine QJ.step (YldS.yld (y_pick_f (cB hb7) rfl)) rfl ?_
      obtain rfl := Option.some.inj h6
      exact QJ.cut_end ⟨rfl, trivial⟩
  refine QJ.step (YldS.yld (y_assign rfl)) rfl ?_
  refine QJ.done ?_
  refine PJ.next ?_
  refine WJ.ret ?_
  obtain rfl := Option.some.inj hm
  refine PJ.sel (L' := []) [] ⟨List.nodup_nil, rfl⟩ ?_
  exact PJ.retn (vs := [.bool t5]) Tryd.results42 ⟨rfl, trivial⟩ ⟨rfl, rfl⟩

set_option maxRecDepth 100000 in
set_option maxHeartbeats 1000000 in
theorem ok_i_ranking_c1 {i1 : Int} {k2 : Int} {x3 : List Result} {x8 : List Int} {r : Bool} (hm : i_ranking_c1 i1 k2 x3 x8 = some r) (w : World) (ad4 : Addr) (v6 : Value) (ha5 : At w (cx w).Fz ad4 [v6]) (hr7 : RdS w (cx w).Fz v6 fResult.rp x3) (ad9 : Addr) (v11 : Value) (ha10 : At w (cx w).Fz ad9 [v11]) (hr12 : RdS w (cx w).Fz v11 fI64.rp x8) :
    Calls Tryd.prog 52 #[.int .i64 i1, .int .i64 k2, .pointer (some ad4), .pointer (some ad9)] w (Ret (cx w) (.bool r)) := by
  unfold i_ranking_c1 at hm
  refine Calls.enter [.int .i64 i1, .int .i64 k2, .pointer (some ad4), .pointer (some ad9)] Tryd.func52 rfl Tryd.ntmps52 rfl ?_
  refine WJ.seq ?_
  refine WJ.quiet ?_
  refine QJ.step (YldS.yld (y_assign rfl)) rfl ?_
  refine QJ.done ?_
  refine PJ.next ?_
  refine WJ.seq ?_
  refine WJ.quiet_draw follows (by kernel_rfl) ?_
  refine QJ.step (YldS.yld (y_load1 (v := v6) Tryd.isAgg24 ha5 St.frozenC rfl)) rfl ?_
  refine QJ.step (YldS.yld (y_load1 (v := v11) Tryd.isAgg27 ha10 St.frozenC rfl)) rfl ?_
  refine QJ.step (YldS.yld (y_move rfl)) rfl ?_
  obtain ⟨e13, h14, hm⟩ := bindS hm
  obtain ⟨ad15, _, rfl, ha16, hy17⟩ := hr12.elem h14
  refine QJ.step (YldS.yld (hy17 Tryd.runUnderlying27 Tryd.sizeOf2 rfl rfl)) rfl ?_
  refine QJ.step (YldS.yld (y_load1 (v := .int .i64 e13) Tryd.isAgg2 ha16 St.frozenC rfl)) rfl ?_
  obtain ⟨e18, h19, hm⟩ := bindS hm
  obtain ⟨ad20, _, rfl, ha21, hy22⟩ := hr7.elem h19
  refine QJ.step (YldS.yld (hy22 Tryd.runUnderlying24 Tryd.sizeOf46 rfl rfl)) rfl ?_
  refine QJ.step (YldS.yld (y_loadN Tryd.isAgg46 Tryd.sizeOf46 rfl ha21 St.frozenC rfl)) rfl ?_
  refine QJ.step (YldS.yld (y_load1 (v := v6) Tryd.isAgg24 ha5 St.frozenC rfl)) rfl ?_
  refine QJ.step (YldS.yld (y_load1 (v := v11) Tryd.isAgg27 ha10 St.frozenC rfl)) rfl ?_
  refine QJ.step (YldS.yld (y_move rfl)) rfl ?_
  obtain ⟨e23, h24, hm⟩ := bindS hm
  obtain ⟨ad25, _, rfl, ha26, hy27⟩ := hr12.elem h24
  refine QJ.step (YldS.yld (hy27 Tryd.runUnderlying27 Tryd.sizeOf2 rfl rfl)) rfl ?_
  refine QJ.step (YldS.yld (y_load1 (v := .int .i64 e23) Tryd.isAgg2 ha26 St.frozenC rfl)) rfl ?_
  obtain ⟨e28, h29, hm⟩ := bindS hm
  obtain ⟨ad30, _, rfl, ha31, hy32⟩ := hr7.elem h29
  refine QJ.step (YldS.yld (hy32 Tryd.runUnderlying24 Tryd.sizeOf46 rfl rfl)) rfl ?_
  refine QJ.step (YldS.yld (y_loadN Tryd.isAgg46 Tryd.sizeOf46 rfl ha31 St.frozenC rfl)) rfl ?_
  obtain ⟨r33, h34, hm⟩ := bindS hm
  refine QJ.step (y_call Tryd.call42 rfl (RetG.quiet fun w hw => ok_i_Result_better h34 w )) rfl ?_
  refine QJ.step (YldS.yld (y_assign rfl)) rfl ?_
  refine QJ.done ?_
  refine PJ.next ?_
  refine WJ.ret ?_
  obtain rfl := Option.some.inj hm
  refine PJ.sel (L' := []) [] ⟨List.nodup_nil, rfl⟩ ?_
  exact PJ.retn (vs := [.bool r33]) Tryd.results52 ⟨rfl, trivial⟩ ⟨rfl, rfl⟩

set_option maxRecDepth 100000 in
set_option maxHeartbeats 1000000 in
theorem ok_i_ranking {N : Nat} {list1 : List Result} {r : (List Int)} (hm : i_ranking N list1 = some r) (w : World) (v2 : Value) (hr3 : RdS w (cx w).Fz v2 fResult.rp list1) :
    Calls Tryd.prog 32 #[v2] w (RetG (cx w) fun u L => ∃ (u1 : Value), (u = u1 ∧ L = [row u1 2 fI64 r])) := by
  unfold i_ranking at hm
  refine Calls.enter [v2] Tryd.func32 rfl Tryd.ntmps32 rfl ?_
  refine WJ.seq ?_
  refine WJ.reg ?_
  refine SJ.box (cs := [v2]) rfl (RdS.cells1 hr3) rfl fun g4 => ?_
  refine SJ.q (YldS.yld (y_assign rfl)) rfl ?_
  refine SJ.nil ?_
  refine PJ.next ?_
  refine WJ.seq ?_
  refine WJ.reg ?_
  refine SJ.buildSlice (R := fI64) (os := []) [] Tryd.runUnderlying27 Tryd.sizeOf2 Tryd.zeroValue2 rfl rfl rfl rfl rfl rfl fun v5 => ?_
  refine SJ.alloc (cs := [.slice none 0 0]) Tryd.zeroValue27 rfl rfl fun g6 => ?_
  refine SJ.rowCells (k := 1) rfl fun hc7 => ?_
  refine SJ.storeL (k := 0) (off := 0) (us := [v5]) rfl rfl rfl hc7.1 Tryd.sizeOf27 rfl (by simp [hc7.2]) ?_
  refine SJ.nil ?_
  refine PJ.next ?_
  obtain ⟨kj10, hk11, hm⟩ := withK_open hm
  refine WJ.join (X := (List Int) × Value) (fun (x : (List Int) × Value) => kj10 x.1 = some r) (fun (x : (List Int) × Value) => [(1, pt g4 0), (3, pt g6 0)]) (fun (x : (List Int) × Value) => [box g6 27 [x.2], row x.2 2 fI64 x.1, box g4 24 [v2]]) ?_ ?_
  · clear hk11
    refine WJ.seq ?_
    refine WJ.quiet ?_
    refine QJ.step (YldS.yld (y_loadB (k := 2) (off := 0) (v := v2) rfl Tryd.isAgg24 rfl rfl)) rfl ?_
    refine QJ.step (YldS.yld (y_lenS Tryd.runUnderlying24 hr3 rfl)) rfl ?_
    refine QJ.step (YldS.yld (y_move rfl)) rfl ?_
    refine QJ.done ?_
    refine PJ.next ?_
    refine WJ.block ?_
    refine WJ.sel (L' := (fun (x : (List Int) × Value × Int) => [box g6 27 [x.2.1], row x.2.1 2 fI64 x.1, box g4 24 [v2]]) ([], v5, 0)) [0, 1, 2] ⟨by decide, rfl⟩ ?_
    refine WJ.sub (m' := (fun (x : (List Int) × Value × Int) => [(1, pt g4 0), (3, pt g6 0), (7, .int .i64 (List.length list1 : Int)), (8, .int .i64 x.2.2)]) ([], v5, 0)) ⟨rfl, rfl, rfl, rfl, trivial⟩ ?_
    refine WJ.loop (X := (List Int) × Value × Int) (fun N (x : (List Int) × Value × Int) => i_ranking_l1 kj10 list1 N x.1 x.2.2 = some r) (fun (x : (List Int) × Value × Int) => [(1, pt g4 0), (3, pt g6 0), (7, .int .i64 (List.length list1 : Int)), (8, .int .i64 x.2.2)]) (fun (x : (List Int) × Value × Int) => [box g6 27 [x.2.1], row x.2.1 2 fI64 x.1, box g4 24 [v2]]) ?_ N ([], v5, 0) hm
    · rintro N ⟨l12, v13, x14⟩ hI
      have hm := hI; clear hI
      cases N with
      | zero => cases hm
      | succ N =>
      unfold i_ranking_l1 at hm
      refine WJ.seq ?_
      refine WJ.quiet ?_
      refine QJ.step (YldS.yld (y_bin rfl rfl rfl)) rfl ?_
      refine QJ.done ?_
      refine PJ.next ?_
      refine WJ.seq ?_
      refine WJ.cond (t := decide (x14 < (List.length list1 : Int))) rfl (fun hb15 => ?_) (fun hb15 => ?_)
      · replace hm := ifT hm hb15
        refine WJ.skip ?_
        refine PJ.next ?_
        refine WJ.seq ?_
        refine WJ.block ?_
        refine WJ.seq ?_
        refine WJ.quiet ?_
        refine QJ.step (YldS.yld (y_move rfl)) rfl ?_
        refine QJ.step (YldS.yld (y_assign rfl)) rfl ?_
        refine QJ.done ?_
        refine PJ.next ?_
        refine WJ.reg ?_
        refine SJ.q (YldS.yld (y_loadB (k := 0) (off := 0) (v := v13) rfl Tryd.isAgg27 rfl rfl)) rfl ?_
        refine SJ.q (YldS.yld (y_move rfl)) rfl ?_
        refine SJ.buildSlice (R := fI64) (os := [.tmp 12]) [x14] Tryd.runUnderlying27 Tryd.sizeOf2 Tryd.zeroValue2 rfl rfl rfl rfl rfl rfl fun v16 => ?_
        obtain ⟨l17, h18, hm⟩ := bindS hm
        refine SJ.append (k := 2) (R := fI64) h18 rfl Tryd.underlying27 el2 rfl rfl rfl (fun w hw => (hw.row_rd (k := 0) rfl)) rfl fun v19 => ?_
        refine SJ.rowCells (k := 2) rfl fun hc20 => ?_
        refine SJ.storeL (k := 1) (off := 0) (us := [v19]) rfl rfl rfl hc20.1 Tryd.sizeOf27 rfl (by simp [hc20.2]) ?_
        refine SJ.nil ?_
        refine PJ.block_normal (PJ.next ?_)
        refine WJ.quiet ?_
        refine QJ.step (YldS.yld (y_bin rfl rfl rfl)) rfl ?_
        refine QJ.step (YldS.yld (y_move rfl)) rfl ?_
        refine QJ.done ?_
        exact PJ.round (l17, v19, w64 (x14 + 1)) [1, 2, 3] hm ⟨rfl, rfl, rfl, rfl, trivial⟩ ⟨by decide, rfl⟩
      · replace hm := ifF hm hb15
        refine WJ.exit ?_
        refine PJ.then_exit (PJ.then_exit (PJ.block_exit ?_))
        exact PJ.joined (l12, v13) [0, 1, 2] hm ⟨rfl, rfl, trivial⟩ ⟨by decide, rfl⟩
  · rintro ⟨l8, v9⟩ hm
    subst hk11
    refine WJ.seq ?_
    refine WJ.reg ?_
    refine SJ.q (YldS.yld (y_loadB (k := 0) (off := 0) (v := v9) rfl Tryd.isAgg27 rfl rfl)) rfl ?_
    refine SJ.q (YldS.yld (y_iface Tryd.runUnderlying27 rfl)) rfl ?_
    refine SJ.q (YldS.yld (y_func (bs := [.tmp 1, .tmp 3]) rfl)) rfl ?_
    obtain ⟨l21, h22, hm⟩ := bindS hm
    refine SJ.sortS (k := 1) (less := fun i j dk => i_ranking_c1 i j list1 dk) (lb := [pt g4 0, pt g6 0]) sortS51_27 Tryd.call51 Tryd.call52 h22 (fun dk i j x y hx hy => by simp only [i_ranking_c1, hx, hy, idx2_0, idx2_1]) rfl rfl (fun w dk hw i j b hm => Ret.same (ok_i_ranking_c1 hm w _ _ (hw.box_at (k := 2) rfl) (hr3.st hw) _ _ (hw.box_at (k := 0) rfl) (hw.row_rd (k := 1) rfl))) rfl ?_
    refine SJ.nil ?_
    refine PJ.next ?_
    refine WJ.seq ?_
    refine WJ.quiet ?_
    refine QJ.step (YldS.yld (y_loadB (k := 0) (off := 0) (v := v9) rfl Tryd.isAgg27 rfl rfl)) rfl ?_
    refine QJ.step (YldS.yld (y_assign rfl)) rfl ?_
    refine QJ.done ?_
    refine PJ.next ?_
    refine WJ.ret ?_
    obtain rfl := Option.some.inj hm
    refine PJ.sel (L' := [row v9 2 fI64 l21]) [1] ⟨by decide, rfl⟩ ?_
    exact PJ.retn (vs := [v9]) Tryd.results32 ⟨rfl, trivial⟩ ⟨_, rfl, rfl⟩

set_option maxRecDepth 100000 in
set_option maxHeartbeats 1000000 in
theorem ok_i_HeatsOf {N : Nat} {list1 : List Result} {heats4 : Int} {r : (List Int) × Int} (hm : i_HeatsOf N list1 heats4 = some r) (w : World) (v2 : Value) (hr3 : RdS w (cx w).Fz v2 fResult.rp list1) :
    Calls Tryd.prog 6 #[v2, .int .i64 heats4] w (RetG (cx w) fun u L => ∃ (u1 : Value), (u = tup [u1, .int .i64 r.2] ∧ L = [row u1 2 fI64 r.1])) := by
  unfold i_HeatsOf at hm
  refine Calls.enter [v2, .int .i64 heats4] Tryd.func6 rfl Tryd.ntmps6 rfl ?_
  refine WJ.seq ?_
  refine WJ.quiet ?_
  refine QJ.step (YldS.yld (y_assign rfl)) rfl ?_
  refine QJ.step (YldS.yld (y_assign rfl)) rfl ?_
  refine QJ.done ?_
  refine PJ.next ?_
  refine WJ.seq ?_
  refine WJ.seq ?_
  refine WJ.quiet ?_
  refine QJ.step (YldS.yld (y_move rfl)) rfl ?_
  obtain ⟨r5, h6, hm⟩ := bindS hm
  refine QJ.step (y_call Tryd.call24 rfl (RetG.quiet fun w hw => ok_i_ValidResults h6 w _ (hr3.st hw))) rfl ?_
  refine QJ.step (YldS.yld (y_not rfl)) rfl ?_
  refine QJ.done ?_
  refine PJ.next ?_
  refine WJ.cond (t := !r5) rfl (fun hb7 => ?_) (fun hb7 => ?_)
  · replace hm := ifT hm hb7
    refine WJ.seq ?_
    refine WJ.quiet ?_
    refine QJ.step (YldS.yld (y_assign rfl)) rfl ?_
    refine QJ.step (YldS.yld (y_assign rfl)) rfl ?_
    refine QJ.done ?_
    refine PJ.next ?_
    refine WJ.ret ?_
    refine PJ.then_ret ?_
    refine PJ.nil_row 2 fI64 ?_
    obtain rfl := Option.some.inj hm
    refine PJ.sel (L' := [row (.slice none 0 0) 2 fI64 []]) [0] ⟨by decide, rfl⟩ ?_
    exact PJ.retn (vs := [(.slice none 0 0), .int .i64 1]) Tryd.results6 ⟨rfl, rfl, trivial⟩ ⟨_, rfl, rfl⟩
  · replace hm := ifF hm hb7
    refine WJ.skip ?_
    refine PJ.next ?_
    refine WJ.seq ?_
    refine WJ.seq ?_
    refine WJ.quiet ?_
    refine QJ.step (YldS.yld (y_move rfl)) rfl ?_
    obtain ⟨r8, h9, hm⟩ := bindS hm
    refine QJ.step (y_call Tryd.call31 rfl (RetG.quiet fun w hw => ok_i_between h9 w )) rfl ?_
    refine QJ.step (YldS.yld (y_not rfl)) rfl ?_
    refine QJ.done ?_
    refine PJ.next ?_
    refine WJ.cond (t := !r8) rfl (fun hb10 => ?_) (fun hb10 => ?_)
    · replace hm := ifT hm hb10
      refine WJ.seq ?_
      refine WJ.quiet ?_
      refine QJ.step (YldS.yld (y_assign rfl)) rfl ?_
      refine QJ.step (YldS.yld (y_assign rfl)) rfl ?_
      refine QJ.done ?_
      refine PJ.next ?_
      refine WJ.ret ?_
      refine PJ.then_ret ?_
      refine PJ.nil_row 2 fI64 ?_
      obtain rfl := Option.some.inj hm
      refine PJ.sel (L' := [row (.slice none 0 0) 2 fI64 []]) [0] ⟨by decide, rfl⟩ ?_
      exact PJ.retn (vs := [(.slice none 0 0), .int .i64 2]) Tryd.results6 ⟨rfl, rfl, trivial⟩ ⟨_, rfl, rfl⟩
    · replace hm := ifF hm hb10
      refine WJ.skip ?_
      refine PJ.next ?_
      refine WJ.seq ?_
      refine WJ.reg ?_
      refine SJ.q (YldS.yld (y_move rfl)) rfl ?_
      refine SJ.q (YldS.yld (y_lenS Tryd.runUnderlying24 hr3 rfl)) rfl ?_
      obtain ⟨l11, h12, hm⟩ := bindS hm
      refine SJ.makeSlice (R := fI64) (z := 0) h12 Tryd.underlying27 el2 rfl rfl rfl fun v13 => ?_
      refine SJ.q (YldS.yld (y_assign rfl)) rfl ?_
      refine SJ.nil ?_
      refine PJ.next ?_
      obtain ⟨kj15, hk16, hm⟩ := withK_open hm
      refine WJ.join (X := (List Int)) (fun (x : (List Int)) => kj15 x = some r) (fun (x : (List Int)) => [(6, v13)]) (fun (x : (List Int)) => [row v13 2 fI64 x]) ?_ ?_
      · clear hk16
        refine WJ.seq ?_
        refine WJ.reg ?_
        refine SJ.q (YldS.yld (y_move rfl)) rfl ?_
        obtain ⟨r17, h18, hm⟩ := bindS hm
        refine SJ.call Tryd.call32 rfl (fun w hw => ok_i_ranking h18 w _ (hr3.st hw)) rfl ?_
        rintro v19 _ ⟨_, rfl, rfl⟩
        refine SJ.q (YldS.yld (y_lenRow (k := 0) rfl Tryd.runUnderlying27 rfl)) rfl ?_
        refine SJ.q (YldS.yld (y_move rfl)) rfl ?_
        refine SJ.nil ?_
        refine PJ.next ?_
        refine WJ.block ?_
        refine WJ.sel (L' := (fun (x : (List Int) × Int) => [row v19 2 fI64 r17, row v13 2 fI64 x.1]) (l11, 0)) [0, 1] ⟨by decide, rfl⟩ ?_
        refine WJ.sub (m' := (fun (x : (List Int) × Int) => [(1, .int .i64 heats4), (6, v13), (20, v19), (21, .int .i64 (List.length r17 : Int)), (22, .int .i64 x.2)]) (l11, 0)) ⟨rfl, rfl, rfl, rfl, rfl, trivial⟩ ?_
        refine WJ.loop (X := (List Int) × Int) (fun N (x : (List Int) × Int) => i_HeatsOf_l1 kj15 heats4 r17 N x.1 x.2 = some r) (fun (x : (List Int) × Int) => [(1, .int .i64 heats4), (6, v13), (20, v19), (21, .int .i64 (List.length r17 : Int)), (22, .int .i64 x.2)]) (fun (x : (List Int) × Int) => [row v19 2 fI64 r17, row v13 2 fI64 x.1]) ?_ N (l11, 0) hm
        · rintro N ⟨l20, x21⟩ hI
          have hm := hI; clear hI
          cases N with
          | zero => cases hm
          | succ N =>
          unfold i_HeatsOf_l1 at hm
          refine WJ.seq ?_
          refine WJ.quiet ?_
          refine QJ.step (YldS.yld (y_bin rfl rfl rfl)) rfl ?_
          refine QJ.done ?_
          refine PJ.next ?_
          refine WJ.seq ?_
          refine WJ.cond (t := decide (x21 < (List.length r17 : Int))) rfl (fun hb22 => ?_) (fun hb22 => ?_)
          · replace hm := ifT hm hb22
            refine WJ.skip ?_
            refine PJ.next ?_
            refine WJ.seq ?_
            refine WJ.block ?_
            refine WJ.seq ?_
            refine WJ.quiet ?_
            refine QJ.step (YldS.yld (y_move rfl)) rfl ?_
            obtain ⟨e23, h24, hm⟩ := bindS hm
            refine QJ.step (YldS.yld (y_ixRow (k := 0) (R := fI64) rfl Tryd.runUnderlying27 Tryd.sizeOf2 rfl rfl h24)) rfl ?_
            refine QJ.step (YldS.yld (y_loadR (k := 0) (i := (Int.toNat x21)) (off := 0) (u := .int .i64 e23) rfl Tryd.isAgg2 rfl (idx_get h24) rfl)) rfl ?_
            refine QJ.step (YldS.yld (y_assign rfl)) rfl ?_
            refine QJ.step (YldS.yld (y_assign rfl)) rfl ?_
            refine QJ.done ?_
            refine PJ.next ?_
            refine WJ.seq ?_
            refine WJ.quiet ?_
            refine QJ.step (YldS.yld (y_move rfl)) rfl ?_
            refine QJ.step (YldS.yld (y_move rfl)) rfl ?_
            refine QJ.step (YldS.yld (y_bin rfl rfl rfl)) rfl ?_
            obtain ⟨q25, h26, hm⟩ := bindS hm
            refine QJ.step (YldS.yld (y_rem' h26 rfl rfl)) rfl ?_
            refine QJ.step (YldS.yld (y_assign rfl)) rfl ?_
            refine QJ.done ?_
            refine PJ.next ?_
            obtain ⟨kj28, hk29, hm⟩ := withK_open hm
            refine WJ.join (X := Int) (fun (x : Int) => kj28 x = some r) (fun (x : Int) => [(1, .int .i64 heats4), (6, v13), (8, .int .i64 e23), (9, .int .i64 x), (20, v19), (21, .int .i64 (List.length r17 : Int)), (22, .int .i64 x21)]) (fun (x : Int) => [row v19 2 fI64 r17, row v13 2 fI64 l20]) ?_ ?_
            · clear hk29
              refine WJ.seq ?_
              refine WJ.quiet ?_
              refine QJ.step (YldS.yld (y_move rfl)) rfl ?_
              refine QJ.step (YldS.yld (y_move rfl)) rfl ?_
              refine QJ.step (YldS.yld (y_bin rfl rfl rfl)) rfl ?_
              refine QJ.done ?_
              refine PJ.next ?_
              refine WJ.cond (t := decide (q25 ≥ heats4)) rfl (fun hb30 => ?_) (fun hb30 => ?_)
              · replace hm := ifT hm hb30
                refine WJ.quiet ?_
                refine QJ.step (YldS.yld (y_move rfl)) rfl ?_
                refine QJ.step (YldS.yld (y_bin rfl rfl rfl)) rfl ?_
                refine QJ.step (YldS.yld (y_bin rfl rfl rfl)) rfl ?_
                refine QJ.step (YldS.yld (y_move rfl)) rfl ?_
                refine QJ.step (YldS.yld (y_bin rfl rfl rfl)) rfl ?_
                refine QJ.step (YldS.yld (y_assign rfl)) rfl ?_
                refine QJ.done ?_
                exact PJ.joined (w64 ((w64 ((w64 (2 * heats4)) - 1)) - q25)) [0, 1] hm ⟨rfl, rfl, rfl, rfl, rfl, rfl, rfl, trivial⟩ ⟨by decide, rfl⟩
              · replace hm := ifF hm hb30
                refine WJ.skip ?_
                exact PJ.joined q25 [0, 1] hm ⟨rfl, rfl, rfl, rfl, rfl, rfl, rfl, trivial⟩ ⟨by decide, rfl⟩
            · rintro heat27 hm
              subst hk29
              refine WJ.reg ?_
              refine SJ.q (YldS.yld (y_move rfl)) rfl ?_
              refine SJ.q (YldS.yld (y_move rfl)) rfl ?_
              refine SJ.q (YldS.yld (y_move rfl)) rfl ?_
              obtain ⟨e31, h32, hm⟩ := bindS hm
              refine SJ.q (YldS.yld (y_ixRow (k := 1) (R := fI64) rfl Tryd.runUnderlying27 Tryd.sizeOf2 rfl rfl h32)) rfl ?_
              refine SJ.storeRL (k := 1) (i := (Int.toNat e23)) (off := 0) (us := [.int .i64 heat27]) (b := heat27) rfl rfl (idx_get h32) rfl rfl Tryd.sizeOf2 rfl rfl rfl ?_
              refine SJ.nil ?_
              refine PJ.block_normal (PJ.next ?_)
              refine WJ.quiet ?_
              refine QJ.step (YldS.yld (y_bin rfl rfl rfl)) rfl ?_
              refine QJ.step (YldS.yld (y_move rfl)) rfl ?_
              refine QJ.done ?_
              exact PJ.round ((List.set l20 (Int.toNat e23) heat27), w64 (x21 + 1)) [0, 1] hm ⟨rfl, rfl, rfl, rfl, rfl, trivial⟩ ⟨by decide, rfl⟩
          · replace hm := ifF hm hb22
            refine WJ.exit ?_
            refine PJ.then_exit (PJ.then_exit (PJ.block_exit ?_))
            exact PJ.joined l20 [1] hm ⟨rfl, trivial⟩ ⟨by decide, rfl⟩
      · rintro l14 hm
        subst hk16
        refine WJ.seq ?_
        refine WJ.quiet ?_
        refine QJ.step (YldS.yld (y_move rfl)) rfl ?_
        refine QJ.step (YldS.yld (y_assign rfl)) rfl ?_
        refine QJ.step (YldS.yld (y_assign rfl)) rfl ?_
        refine QJ.done ?_
        refine PJ.next ?_
        refine WJ.ret ?_
        obtain rfl := Option.some.inj hm
        refine PJ.sel (L' := [row v13 2 fI64 l14]) [0] ⟨by decide, rfl⟩ ?_
        exact PJ.retn (vs := [v13, .int .i64 0]) Tryd.results6 ⟨rfl, rfl, trivial⟩ ⟨_, rfl, rfl⟩

set_option maxRecDepth 100000 in
set_option maxHeartbeats 1000000 in
theorem ok_s_l01Small {c1 : UInt8} {r : Bool} (hm : s_l01Small c1 = some r) (w : World)  :
    Calls Tryd.prog 80 #[.int .u8 (UInt8.toNat c1 : Int)] w (Ret (cx w) (.bool r)) := by
  unfold s_l01Small at hm
  refine Calls.enter [.int .u8 (UInt8.toNat c1 : Int)] Tryd.func80 rfl Tryd.ntmps80 rfl ?_
  refine WJ.seq ?_
  refine WJ.quiet ?_
  refine QJ.step (YldS.yld (y_assign rfl)) rfl ?_
  refine QJ.done ?_
  refine PJ.next ?_
  refine WJ.seq ?_
  refine WJ.quiet ?_
  refine QJ.step (YldS.yld (y_move rfl)) rfl ?_
  refine QJ.step (YldS.yld (y_bin8 c1 (97 : UInt8) rfl rfl rfl)) rfl ?_
  refine QJ.step (YldS.yld (y_move rfl)) rfl ?_
  obtain ⟨t2, h3, hm⟩ := bindS hm
  refine QJ.cut 3 [(8, .bool t2)] ?_ ?_
  · rcases Bool.eq_false_or_eq_true (decide (c1 ≥ (97 : UInt8))) with hb4 | hb4
    · replace h3 := andT h3 hb4
      refine QJ.on rfl rfl (cB hb4) (YldS.yld (y_move rfl)) rfl ?_
      refine QJ.on rfl rfl (cB hb4) (YldS.yld (y_bin8 c1 (122 : UInt8) rfl rfl rfl)) rfl ?_
      refine QJ.step (YldS.yld (y_pick_t (cB hb4) rfl)) rfl ?_
      obtain rfl := Option.some.inj h3
      exact QJ.cut_end ⟨rfl, trivial⟩
    · obtain rfl := andF h3 hb4
      refine QJ.off rfl rfl (cB hb4) rfl rfl ?_
      refine QJ.off rfl rfl (cB hb4) rfl rfl ?_
      refine QJ.step (YldS.yld (y_pick_f (cB hb4) rfl)) rfl ?_
      exact QJ.cut_end ⟨rfl, trivial⟩
  refine QJ.step (YldS.yld (y_assign rfl)) rfl ?_
  refine QJ.done ?_
  refine PJ.next ?_
  refine WJ.ret ?_
  obtain rfl := Option.some.inj hm
  refine PJ.sel (L' := []) [] ⟨List.nodup_nil, rfl⟩ ?_
  exact PJ.retn (vs := [.bool t2]) Tryd.results80 ⟨rfl, trivial⟩ ⟨rfl, rfl⟩

set_option maxRecDepth 100000 in
set_option maxHeartbeats 1000000 in
theorem ok_s_l01Digit {c1 : UInt8} {r : Bool} (hm : s_l01Digit c1 = some r) (w : World)  :
    Calls Tryd.prog 81 #[.int .u8 (UInt8.toNat c1 : Int)] w (Ret (cx w) (.bool r)) := by
  unfold s_l01Digit at hm
  refine Calls.enter [.int .u8 (UInt8.toNat c1 : Int)] Tryd.func81 rfl Tryd.ntmps81 rfl ?_
  refine WJ.seq ?_
  refine WJ.quiet ?_
  refine QJ.step (YldS.yld (y_assign rfl)) rfl ?_
  refine QJ.done ?_
  refine PJ.next ?_
  refine WJ.seq ?_
  refine WJ.quiet ?_
  refine QJ.step (YldS.yld (y_move rfl)) rfl ?_
  refine QJ.step (YldS.yld (y_bin8 c1 (48 : UInt8) rfl rfl rfl)) rfl ?_
  refine QJ.step (YldS.yld (y_move rfl)) rfl ?_
  obtain ⟨t2, h3, hm⟩ := bindS hm
  refine QJ.cut 3 [(8, .bool t2)] ?_ ?_
  · rcases Bool.eq_false_or_eq_true (decide (c1 ≥ (48 : UInt8))) with hb4 | hb4
    · replace h3 := andT h3 hb4
      refine QJ.on rfl rfl (cB hb4) (YldS.yld (y_move rfl)) rfl ?_
      refine QJ.on rfl rfl (cB hb4) (YldS.yld (y_bin8 c1 (57 : UInt8) rfl rfl rfl)) rfl ?_
      refine QJ.step (YldS.yld (y_pick_t (cB hb4) rfl)) rfl ?_
      obtain rfl := Option.some.inj h3
      exact QJ.cut_end ⟨rfl, trivial⟩
    · obtain rfl := andF h3 hb4
      refine QJ.off rfl rfl (cB hb4) rfl rfl ?_
      refine QJ.off rfl rfl (cB hb4) rfl rfl ?_
      refine QJ.step (YldS.yld (y_pick_f (cB hb4) rfl)) rfl ?_
      exact QJ.cut_end ⟨rfl, trivial⟩
  refine QJ.step (YldS.yld (y_assign rfl)) rfl ?_
  refine QJ.done ?_
  refine PJ.next ?_
  refine WJ.ret ?_
  obtain rfl := Option.some.inj hm
  refine PJ.sel (L' := []) [] ⟨List.nodup_nil, rfl⟩ ?_
  exact PJ.retn (vs := [.bool t2]) Tryd.results81 ⟨rfl, trivial⟩ ⟨rfl, rfl⟩

set_option maxRecDepth 100000 in
set_option maxHeartbeats 1000000 in
theorem ok_s_IsName {N : Nat} {s1 : Str} {r : Bool} (hm : s_IsName N s1 = some r) (w : World)  :
    Calls Tryd.prog 65 #[str s1] w (Ret (cx w) (.bool r)) := by
  unfold s_IsName at hm
  refine Calls.enter [str s1] Tryd.func65 rfl Tryd.ntmps65 rfl ?_
  refine WJ.seq ?_
  refine WJ.quiet ?_
  refine QJ.step (YldS.yld (y_assign rfl)) rfl ?_
  refine QJ.done ?_
  refine PJ.next ?_
  refine WJ.seq ?_
  refine WJ.seq ?_
  refine WJ.quiet ?_
  refine QJ.step (YldS.yld (y_move rfl)) rfl ?_
  refine QJ.step (YldS.yld (y_binS rfl rfl rfl)) rfl ?_
  refine QJ.step (YldS.yld (y_move rfl)) rfl ?_
  obtain ⟨t2, h3, hm⟩ := bindS hm
  refine QJ.cut 4 [(0, str s1), (10, .bool t2)] ?_ ?_
  · rcases Bool.eq_false_or_eq_true (s1 == []) with hb4 | hb4
    · obtain rfl := orT h3 hb4
      refine QJ.off rfl rfl (cB hb4) rfl rfl ?_
      refine QJ.off rfl rfl (cB hb4) rfl rfl ?_
      refine QJ.off rfl rfl (cB hb4) rfl rfl ?_
      refine QJ.step (YldS.yld (y_pick_t (cB hb4) rfl)) rfl ?_
      exact QJ.cut_end ⟨rfl, rfl, trivial⟩
    · replace h3 := orF h3 hb4
      refine QJ.on rfl rfl (cB hb4) (YldS.yld (y_move rfl)) rfl ?_
      refine QJ.on rfl rfl (cB hb4) (YldS.yld (y_lenStr Tryd.runUnderlying9 rfl)) rfl ?_
      refine QJ.on rfl rfl (cB hb4) (YldS.yld (y_bin rfl rfl rfl)) rfl ?_
      refine QJ.step (YldS.yld (y_pick_f (cB hb4) rfl)) rfl ?_
      obtain rfl := Option.some.inj h3
      exact QJ.cut_end ⟨rfl, rfl, trivial⟩
  refine QJ.step (YldS.yld (y_move rfl)) rfl ?_
  obtain ⟨t5, h6, hm⟩ := bindS hm
  refine QJ.cut 5 [(0, str s1), (16, .bool t5)] ?_ ?_
  · rcases Bool.eq_false_or_eq_true t2 with hb7 | hb7
    · obtain rfl := orT h6 hb7
      refine QJ.off rfl rfl (cB hb7) rfl rfl ?_
      refine QJ.off rfl rfl (cB hb7) rfl rfl ?_
      refine QJ.off rfl rfl (cB hb7) rfl rfl ?_
      refine QJ.off rfl rfl (cB hb7) rfl rfl ?_
      refine QJ.step (YldS.yld (y_pick_t (cB hb7) rfl)) rfl ?_
      exact QJ.cut_end ⟨rfl, rfl, trivial⟩
    · replace h6 := orF h6 hb7
      refine QJ.on rfl rfl (cB hb7) (YldS.yld (y_move rfl)) rfl ?_
      obtain ⟨c8, h9, h6⟩ := bindS h6
      refine QJ.on rfl rfl (cB hb7) (YldS.yld (y_idxStr Tryd.runUnderlying9 rfl rfl h9)) rfl ?_
      obtain ⟨r10, h11, h6⟩ := bindS h6
      refine QJ.on rfl rfl (cB hb7) (y_call Tryd.call80 rfl (RetG.quiet fun w hw => ok_s_l01Small h11 w )) rfl ?_
      refine QJ.on rfl rfl (cB hb7) (YldS.yld (y_not rfl)) rfl ?_
      refine QJ.step (YldS.yld (y_pick_f (cB hb7) rfl)) rfl ?_
      obtain rfl := Option.some.inj h6
      exact QJ.cut_end ⟨rfl, rfl, trivial⟩
  refine QJ.done ?_
  refine PJ.next ?_
  refine WJ.cond (t := t5) rfl (fun hb12 => ?_) (fun hb12 => ?_)
  · replace hm := ifT hm hb12
    refine WJ.seq ?_
    refine WJ.quiet ?_
    refine QJ.step (YldS.yld (y_assign rfl)) rfl ?_
    refine QJ.done ?_
    refine PJ.next ?_
    refine WJ.ret ?_
    refine PJ.then_ret ?_
    obtain rfl := Option.some.inj hm
    refine PJ.sel (L' := []) [] ⟨List.nodup_nil, rfl⟩ ?_
    exact PJ.retn (vs := [.bool false]) Tryd.results65 ⟨rfl, trivial⟩ ⟨rfl, rfl⟩
  · replace hm := ifF hm hb12
    refine WJ.skip ?_
    refine PJ.next ?_
    obtain ⟨kj13, hk14, hm⟩ := withK_open hm
    refine WJ.join (X := Unit) (fun (_ : Unit) => kj13  = some r) (fun (_ : Unit) => []) (fun (_ : Unit) => []) ?_ ?_
    · clear hk14
      refine WJ.seq ?_
      refine WJ.quiet ?_
      refine QJ.step (YldS.yld (y_assign rfl)) rfl ?_
      refine QJ.done ?_
      refine PJ.next ?_
      refine WJ.block ?_
      refine WJ.sel (L' := (fun (x : Int) => []) 0) [] ⟨List.nodup_nil, rfl⟩ ?_
      refine WJ.sub (m' := (fun (x : Int) => [(0, str s1), (3, .int .i64 x)]) 0) ⟨rfl, rfl, trivial⟩ ?_
      refine WJ.loop (X := Int) (fun N (x : Int) => s_IsName_l1 kj13 s1 N x = some r) (fun (x : Int) => [(0, str s1), (3, .int .i64 x)]) (fun (x : Int) => []) ?_ N 0 hm
      · rintro N i15 hI
        have hm := hI; clear hI
        cases N with
        | zero => cases hm
        | succ N =>
        unfold s_IsName_l1 at hm
        refine WJ.seq ?_
        refine WJ.seq ?_
        refine WJ.quiet ?_
        refine QJ.step (YldS.yld (y_move rfl)) rfl ?_
        refine QJ.step (YldS.yld (y_move rfl)) rfl ?_
        refine QJ.step (YldS.yld (y_lenStr Tryd.runUnderlying9 rfl)) rfl ?_
        refine QJ.step (YldS.yld (y_bin rfl rfl rfl)) rfl ?_
        refine QJ.done ?_
        refine PJ.next ?_
        refine WJ.cond (t := decide (i15 < (List.length s1 : Int))) rfl (fun hb16 => ?_) (fun hb16 => ?_)
        · replace hm := ifT hm hb16
          refine WJ.skip ?_
          refine PJ.next ?_
          refine WJ.seq ?_
          refine WJ.block ?_
          refine WJ.seq ?_
          refine WJ.quiet ?_
          refine QJ.step (YldS.yld (y_move rfl)) rfl ?_
          refine QJ.step (YldS.yld (y_move rfl)) rfl ?_
          obtain ⟨c17, h18, hm⟩ := bindS hm
          refine QJ.step (YldS.yld (y_idxStr Tryd.runUnderlying9 rfl rfl h18)) rfl ?_
          obtain ⟨r19, h20, hm⟩ := bindS hm
          refine QJ.step (y_call Tryd.call80 rfl (RetG.quiet fun w hw => ok_s_l01Small h20 w )) rfl ?_
          refine QJ.step (YldS.yld (y_not rfl)) rfl ?_
          refine QJ.step (YldS.yld (y_move rfl)) rfl ?_
          obtain ⟨t21, h22, hm⟩ := bindS hm
          refine QJ.cut 6 [(0, str s1), (3, .int .i64 i15), (34, .bool t21)] ?_ ?_
          · rcases Bool.eq_false_or_eq_true (!r19) with hb23 | hb23
            · replace h22 := andT h22 hb23
              refine QJ.on rfl rfl (cB hb23) (YldS.yld (y_move rfl)) rfl ?_
              refine QJ.on rfl rfl (cB hb23) (YldS.yld (y_move rfl)) rfl ?_
              obtain ⟨c24, h25, h22⟩ := bindS h22
              refine QJ.on rfl rfl (cB hb23) (YldS.yld (y_idxStr Tryd.runUnderlying9 rfl rfl h25)) rfl ?_
              obtain ⟨r26, h27, h22⟩ := bindS h22
              refine QJ.on rfl rfl (cB hb23) (y_call Tryd.call81 rfl (RetG.quiet fun w hw => ok_s_l01Digit h27 w )) rfl ?_
              refine QJ.on rfl rfl (cB hb23) (YldS.yld (y_not rfl)) rfl ?_
              refine QJ.step (YldS.yld (y_pick_t (cB hb23) rfl)) rfl ?_
              obtain rfl := Option.some.inj h22
              exact QJ.cut_end ⟨rfl, rfl, rfl, trivial⟩
            · obtain rfl := andF h22 hb23
              refine QJ.off rfl rfl (cB hb23) rfl rfl ?_
              refine QJ.off rfl rfl (cB hb23) rfl rfl ?_
              refine QJ.off rfl rfl (cB hb23) rfl rfl ?_
              refine QJ.off rfl rfl (cB hb23) rfl rfl ?_
              refine QJ.off rfl rfl (cB hb23) rfl rfl ?_
              refine QJ.step (YldS.yld (y_pick_f (cB hb23) rfl)) rfl ?_
              exact QJ.cut_end ⟨rfl, rfl, rfl, trivial⟩
          refine QJ.step (YldS.yld (y_move rfl)) rfl ?_
          obtain ⟨t28, h29, hm⟩ := bindS hm
          refine QJ.cut 5 [(0, str s1), (3, .int .i64 i15), (40, .bool t28)] ?_ ?_
          · rcases Bool.eq_false_or_eq_true t21 with hb30 | hb30
            · replace h29 := andT h29 hb30
              refine QJ.on rfl rfl (cB hb30) (YldS.yld (y_move rfl)) rfl ?_
              refine QJ.on rfl rfl (cB hb30) (YldS.yld (y_move rfl)) rfl ?_
              obtain ⟨c31, h32, h29⟩ := bindS h29
              refine QJ.on rfl rfl (cB hb30) (YldS.yld (y_idxStr Tryd.runUnderlying9 rfl rfl h32)) rfl ?_
              refine QJ.on rfl rfl (cB hb30) (YldS.yld (y_bin8 c31 (45 : UInt8) rfl rfl rfl)) rfl ?_
              refine QJ.step (YldS.yld (y_pick_t (cB hb30) rfl)) rfl ?_
              obtain rfl := Option.some.inj h29
              exact QJ.cut_end ⟨rfl, rfl, rfl, trivial⟩
            · obtain rfl := andF h29 hb30
              refine QJ.off rfl rfl (cB hb30) rfl rfl ?_
              refine QJ.off rfl rfl (cB hb30) rfl rfl ?_
              refine QJ.off rfl rfl (cB hb30) rfl rfl ?_
              refine QJ.off rfl rfl (cB hb30) rfl rfl ?_
              refine QJ.step (YldS.yld (y_pick_f (cB hb30) rfl)) rfl ?_
              exact QJ.cut_end ⟨rfl, rfl, rfl, trivial⟩
          refine QJ.done ?_
          refine PJ.next ?_
          refine WJ.cond (t := t28) rfl (fun hb33 => ?_) (fun hb33 => ?_)
          · replace hm := ifT hm hb33
            refine WJ.seq ?_
            refine WJ.quiet ?_
            refine QJ.step (YldS.yld (y_assign rfl)) rfl ?_
            refine QJ.done ?_
            refine PJ.next ?_
            refine WJ.ret ?_
            refine PJ.block_ret (PJ.then_ret (PJ.then_ret (PJ.block_ret (PJ.then_ret ?_))))
            obtain rfl := Option.some.inj hm
            refine PJ.sel (L' := []) [] ⟨List.nodup_nil, rfl⟩ ?_
            exact PJ.retn (vs := [.bool false]) Tryd.results65 ⟨rfl, trivial⟩ ⟨rfl, rfl⟩
          · replace hm := ifF hm hb33
            refine WJ.skip ?_
            refine PJ.block_normal (PJ.next ?_)
            refine WJ.quiet ?_
            refine QJ.step (YldS.yld (y_move rfl)) rfl ?_
            refine QJ.step (YldS.yld (y_bin rfl rfl rfl)) rfl ?_
            refine QJ.step (YldS.yld (y_assign rfl)) rfl ?_
            refine QJ.done ?_
            exact PJ.round (w64 (i15 + 1)) [] hm ⟨rfl, rfl, trivial⟩ ⟨List.nodup_nil, rfl⟩
        · replace hm := ifF hm hb16
          refine WJ.exit ?_
          refine PJ.then_exit (PJ.then_exit (PJ.block_exit ?_))
          exact PJ.joined () [] hm trivial ⟨List.nodup_nil, rfl⟩
    · rintro _ hm
      subst hk14
      refine WJ.seq ?_
      refine WJ.quiet ?_
      refine QJ.step (YldS.yld (y_assign rfl)) rfl ?_
      refine QJ.done ?_
      refine PJ.next ?_
      refine WJ.ret ?_
      obtain rfl := Option.some.inj hm
      refine PJ.sel (L' := []) [] ⟨List.nodup_nil, rfl⟩ ?_
      exact PJ.retn (vs := [.bool true]) Tryd.results65 ⟨rfl, trivial⟩ ⟨rfl, rfl⟩

set_option maxRecDepth 100000 in
set_option maxHeartbeats 1000000 in
theorem ok_s_l00In {n1 : Int} {low2 : Int} {high3 : Int} {r : Bool} (hm : s_l00In n1 low2 high3 = some r) (w : World)  :
    Calls Tryd.prog 34 #[.int .i64 n1, .int .i64 low2, .int .i64 high3] w (Ret (cx w) (.bool r)) := by
  unfold s_l00In at hm
  refine Calls.enter [.int .i64 n1, .int .i64 low2, .int .i64 high3] Tryd.func34 rfl Tryd.ntmps34 rfl ?_
  refine WJ.seq ?_
  refine WJ.quiet ?_
  refine QJ.step (YldS.yld (y_assign rfl)) rfl ?_
  refine QJ.done ?_
  refine PJ.next ?_
  refine WJ.seq ?_
  refine WJ.quiet ?_
  refine QJ.step (YldS.yld (y_move rfl)) rfl ?_
  refine QJ.step (YldS.yld (y_move rfl)) rfl ?_
  refine QJ.step (YldS.yld (y_bin rfl rfl rfl)) rfl ?_
  refine QJ.step (YldS.yld (y_move rfl)) rfl ?_
  obtain ⟨t4, h5, hm⟩ := bindS hm
  refine QJ.cut 4 [(14, .bool t4)] ?_ ?_
  · rcases Bool.eq_false_or_eq_true (decide (n1 ≥ low2)) with hb6 | hb6
    · replace h5 := andT h5 hb6
      refine QJ.on rfl rfl (cB hb6) (YldS.yld (y_move rfl)) rfl ?_
      refine QJ.on rfl rfl (cB hb6) (YldS.yld (y_move rfl)) rfl ?_
      refine QJ.on rfl rfl (cB hb6) (YldS.yld (y_bin rfl rfl rfl)) rfl ?_
      refine QJ.step (YldS.yld (y_pick_t (cB hb6) rfl)) rfl ?_
      obtain rfl := Option.some.inj h5
      exact QJ.cut_end ⟨rfl, trivial⟩
    · obtain rfl := andF h5 hb6
      refine QJ.off rfl rfl (cB hb6) rfl rfl ?_
      refine QJ.off rfl rfl (cB hb6) rfl rfl ?_
      refine QJ.off rfl rfl (cB hb6) rfl rfl ?_
      refine QJ.step (YldS.yld (y_pick_f (cB hb6) rfl)) rfl ?_
      exact QJ.cut_end ⟨rfl, trivial⟩
  refine QJ.step (YldS.yld (y_assign rfl)) rfl ?_
  refine QJ.done ?_
  refine PJ.next ?_
  refine WJ.ret ?_
  obtain rfl := Option.some.inj hm
  refine PJ.sel (L' := []) [] ⟨List.nodup_nil, rfl⟩ ?_
  exact PJ.retn (vs := [.bool t4]) Tryd.results34 ⟨rfl, trivial⟩ ⟨rfl, rfl⟩

set_option maxRecDepth 100000 in
set_option maxHeartbeats 1000000 in
theorem ok_s_l22One {N : Nat} {x1 : Result} {r : Bool} (hm : s_l22One N x1 = some r) (w : World) (ad2 : Addr) (ha3 : At w (cx w).Fz ad2 (fResult.enc x1)) :
    Calls Tryd.prog 53 #[.pointer (some ad2)] w (Ret (cx w) (.bool r)) := by
  unfold s_l22One at hm
  refine Calls.enter [.pointer (some ad2)] Tryd.func53 rfl Tryd.ntmps53 rfl ?_
  refine WJ.seq ?_
  refine WJ.quiet ?_
  refine QJ.step (YldS.yld (y_assign rfl)) rfl ?_
  refine QJ.done ?_
  refine PJ.next ?_
  refine WJ.seq ?_
  refine WJ.quiet ?_
  refine QJ.step (YldS.yld (y_move rfl)) rfl ?_
  refine QJ.step (YldS.yld (y_nil rfl)) rfl ?_
  refine QJ.step (YldS.yld (y_fld (ad := ad2) fld46_0 rfl)) rfl ?_
  refine QJ.step (YldS.yld (y_load1 (v := str x1.name) Tryd.isAgg9 (ha3.sub 0 1) St.frozenC rfl)) rfl ?_
  obtain ⟨r4, h5, hm⟩ := bindS hm
  refine QJ.step (y_call Tryd.call65 rfl (RetG.quiet fun w hw => ok_s_IsName h5 w )) rfl ?_
  refine QJ.step (YldS.yld (y_move rfl)) rfl ?_
  obtain ⟨t6, h7, hm⟩ := bindS hm
  refine QJ.cut 6 [(0, .pointer (some ad2)), (14, .bool t6)] ?_ ?_
  · rcases Bool.eq_false_or_eq_true r4 with hb8 | hb8
    · replace h7 := andT h7 hb8
      refine QJ.on rfl rfl (cB hb8) (YldS.yld (y_move rfl)) rfl ?_
      refine QJ.on rfl rfl (cB hb8) (YldS.yld (y_nil rfl)) rfl ?_
      refine QJ.on rfl rfl (cB hb8) (YldS.yld (y_fld (ad := ad2) fld46_1 rfl)) rfl ?_
      refine QJ.on rfl rfl (cB hb8) (YldS.yld (y_load1 (v := .int .i64 x1.net) Tryd.isAgg2 (ha3.sub 1 1) St.frozenC rfl)) rfl ?_
      obtain ⟨r9, h10, h7⟩ := bindS h7
      refine QJ.on rfl rfl (cB hb8) (y_call Tryd.call34 rfl (RetG.quiet fun w hw => ok_s_l00In h10 w )) rfl ?_
      refine QJ.step (YldS.yld (y_pick_t (cB hb8) rfl)) rfl ?_
      obtain rfl := Option.some.inj h7
      exact QJ.cut_end ⟨rfl, rfl, trivial⟩
    · obtain rfl := andF h7 hb8
      refine QJ.off rfl rfl (cB hb8) rfl rfl ?_
      refine QJ.off rfl rfl (cB hb8) rfl rfl ?_
      refine QJ.off rfl rfl (cB hb8) rfl rfl ?_
      refine QJ.off rfl rfl (cB hb8) rfl rfl ?_
      refine QJ.off rfl rfl (cB hb8) rfl rfl ?_
      refine QJ.step (YldS.yld (y_pick_f (cB hb8) rfl)) rfl ?_
      exact QJ.cut_end ⟨rfl, rfl, trivial⟩
  refine QJ.step (YldS.yld (y_move rfl)) rfl ?_
  obtain ⟨t11, h12, hm⟩ := bindS hm
  refine QJ.cut 6 [(21, .bool t11)] ?_ ?_
  · rcases Bool.eq_false_or_eq_true t6 with hb13 | hb13
    · replace h12 := andT h12 hb13
      refine QJ.on rfl rfl (cB hb13) (YldS.yld (y_move rfl)) rfl ?_
      refine QJ.on rfl rfl (cB hb13) (YldS.yld (y_nil rfl)) rfl ?_
      refine QJ.on rfl rfl (cB hb13) (YldS.yld (y_fld (ad := ad2) fld46_2 rfl)) rfl ?_
      refine QJ.on rfl rfl (cB hb13) (YldS.yld (y_load1 (v := .int .i64 x1.errors) Tryd.isAgg2 (ha3.sub 2 1) St.frozenC rfl)) rfl ?_
      obtain ⟨r14, h15, h12⟩ := bindS h12
      refine QJ.on rfl rfl (cB hb13) (y_call Tryd.call34 rfl (RetG.quiet fun w hw => ok_s_l00In h15 w )) rfl ?_
      refine QJ.step (YldS.yld (y_pick_t (cB hb13) rfl)) rfl ?_
      obtain rfl := Option.some.inj h12
      exact QJ.cut_end ⟨rfl, trivial⟩
    · obtain rfl := andF h12 hb13
      refine QJ.off rfl rfl (cB hb13) rfl rfl ?_
      refine QJ.off rfl rfl (cB hb13) rfl rfl ?_
      refine QJ.off rfl rfl (cB hb13) rfl rfl ?_
      refine QJ.off rfl rfl (cB hb13) rfl rfl ?_
      refine QJ.off rfl rfl (cB hb13) rfl rfl ?_
      refine QJ.step (YldS.yld (y_pick_f (cB hb13) rfl)) rfl ?_
      exact QJ.cut_end ⟨rfl, trivial⟩
  refine QJ.step (YldS.yld (y_assign rfl)) rfl ?_
  refine QJ.done ?_
  refine PJ.next ?_
  refine WJ.ret ?_
  obtain rfl := Option.some.inj hm
  refine PJ.sel (L' := []) [] ⟨List.nodup_nil, rfl⟩ ?_
  exact PJ.retn (vs := [.bool t11]) Tryd.results53 ⟨rfl, trivial⟩ ⟨rfl, rfl⟩

set_option maxRecDepth 100000 in
set_option maxHeartbeats 1000000 in
theorem ok_s_l22Ok {N : Nat} {list1 : List Result} {r : Bool} (hm : s_l22Ok N list1 = some r) (w : World) (v2 : Value) (hr3 : RdS w (cx w).Fz v2 fResult.rp list1) :
    Calls Tryd.prog 33 #[v2] w (Ret (cx w) (.bool r)) := by
  unfold s_l22Ok at hm
  refine Calls.enter [v2] Tryd.func33 rfl Tryd.ntmps33 rfl ?_
  refine WJ.seq ?_
  refine WJ.quiet ?_
  refine QJ.step (YldS.yld (y_assign rfl)) rfl ?_
  refine QJ.done ?_
  refine PJ.next ?_
  obtain ⟨kj4, hk5, hm⟩ := withK_open hm
  refine WJ.join (X := Unit) (fun (_ : Unit) => kj4  = some r) (fun (_ : Unit) => [(0, v2)]) (fun (_ : Unit) => []) ?_ ?_
  · clear hk5
    refine WJ.seq ?_
    refine WJ.quiet ?_
    refine QJ.step (YldS.yld (y_assign rfl)) rfl ?_
    refine QJ.done ?_
    refine PJ.next ?_
    refine WJ.block ?_
    refine WJ.sel (L' := (fun (x : Int) => []) 0) [] ⟨List.nodup_nil, rfl⟩ ?_
    refine WJ.sub (m' := (fun (x : Int) => [(0, v2), (3, .int .i64 x)]) 0) ⟨rfl, rfl, trivial⟩ ?_
    refine WJ.loop (X := Int) (fun N (x : Int) => s_l22Ok_l1 kj4 list1 N x = some r) (fun (x : Int) => [(0, v2), (3, .int .i64 x)]) (fun (x : Int) => []) ?_ N 0 hm
    · rintro N i6 hI
      have hm := hI; clear hI
      cases N with
      | zero => cases hm
      | succ N =>
      unfold s_l22Ok_l1 at hm
      refine WJ.seq ?_
      refine WJ.seq ?_
      refine WJ.quiet ?_
      refine QJ.step (YldS.yld (y_move rfl)) rfl ?_
      refine QJ.step (YldS.yld (y_move rfl)) rfl ?_
      refine QJ.step (YldS.yld (y_lenS Tryd.runUnderlying24 hr3 rfl)) rfl ?_
      refine QJ.step (YldS.yld (y_bin rfl rfl rfl)) rfl ?_
      refine QJ.done ?_
      refine PJ.next ?_
      refine WJ.cond (t := decide (i6 < (List.length list1 : Int))) rfl (fun hb7 => ?_) (fun hb7 => ?_)
      · replace hm := ifT hm hb7
        refine WJ.skip ?_
        refine PJ.next ?_
        obtain ⟨kj8, hk9, hm⟩ := withK_open hm
        refine WJ.join (X := Unit) (fun (_ : Unit) => kj8  = some r) (fun (_ : Unit) => [(0, v2), (3, .int .i64 i6)]) (fun (_ : Unit) => []) ?_ ?_
        · clear hk9
          refine WJ.block ?_
          refine WJ.seq ?_
          refine WJ.seq ?_
          refine WJ.quiet ?_
          refine QJ.step (YldS.yld (y_move rfl)) rfl ?_
          refine QJ.step (YldS.yld (y_move rfl)) rfl ?_
          obtain ⟨e10, h11, hm⟩ := bindS hm
          obtain ⟨ad12, _, rfl, ha13, hy14⟩ := hr3.elem h11
          refine QJ.step (YldS.yld (hy14 Tryd.runUnderlying24 Tryd.sizeOf46 rfl rfl)) rfl ?_
          obtain ⟨r15, h16, hm⟩ := bindS hm
          refine QJ.step (y_call Tryd.call53 rfl (RetG.quiet fun w hw => ok_s_l22One h16 w _ (ha13.st hw))) rfl ?_
          refine QJ.step (YldS.yld (y_not rfl)) rfl ?_
          refine QJ.done ?_
          refine PJ.next ?_
          refine WJ.cond (t := !r15) rfl (fun hb17 => ?_) (fun hb17 => ?_)
          · replace hm := ifT hm hb17
            refine WJ.seq ?_
            refine WJ.quiet ?_
            refine QJ.step (YldS.yld (y_assign rfl)) rfl ?_
            refine QJ.done ?_
            refine PJ.next ?_
            refine WJ.ret ?_
            refine PJ.then_ret (PJ.block_ret (PJ.then_ret (PJ.then_ret (PJ.block_ret (PJ.then_ret ?_)))))
            obtain rfl := Option.some.inj hm
            refine PJ.sel (L' := []) [] ⟨List.nodup_nil, rfl⟩ ?_
            exact PJ.retn (vs := [.bool false]) Tryd.results33 ⟨rfl, trivial⟩ ⟨rfl, rfl⟩
          · replace hm := ifF hm hb17
            refine WJ.skip ?_
            refine PJ.next ?_
            refine WJ.seq ?_
            refine WJ.quiet ?_
            refine QJ.step (YldS.yld (y_assign rfl)) rfl ?_
            refine QJ.done ?_
            refine PJ.next ?_
            refine WJ.block ?_
            refine WJ.sel (L' := (fun (x : Int) => []) 0) [] ⟨List.nodup_nil, rfl⟩ ?_
            refine WJ.sub (m' := (fun (x : Int) => [(0, v2), (3, .int .i64 i6), (4, .int .i64 x)]) 0) ⟨rfl, rfl, rfl, trivial⟩ ?_
            refine WJ.loop (X := Int) (fun N (x : Int) => s_l22Ok_l2 kj8 list1 i6 N x = some r) (fun (x : Int) => [(0, v2), (3, .int .i64 i6), (4, .int .i64 x)]) (fun (x : Int) => []) ?_ N 0 hm
            · rintro N k18 hI
              have hm := hI; clear hI
              cases N with
              | zero => cases hm
              | succ N =>
              unfold s_l22Ok_l2 at hm
              refine WJ.seq ?_
              refine WJ.seq ?_
              refine WJ.quiet ?_
              refine QJ.step (YldS.yld (y_move rfl)) rfl ?_
              refine QJ.step (YldS.yld (y_move rfl)) rfl ?_
              refine QJ.step (YldS.yld (y_bin rfl rfl rfl)) rfl ?_
              refine QJ.done ?_
              refine PJ.next ?_
              refine WJ.cond (t := decide (k18 < i6)) rfl (fun hb19 => ?_) (fun hb19 => ?_)
              · replace hm := ifT hm hb19
                refine WJ.skip ?_
                refine PJ.next ?_
                refine WJ.seq ?_
                refine WJ.block ?_
                refine WJ.seq ?_
                refine WJ.quiet_draw follows (by kernel_rfl) ?_
                refine QJ.step (YldS.yld (y_move rfl)) rfl ?_
                refine QJ.step (YldS.yld (y_move rfl)) rfl ?_
                obtain ⟨e20, h21, hm⟩ := bindS hm
                obtain ⟨ad22, _, rfl, ha23, hy24⟩ := hr3.elem h21
                refine QJ.step (YldS.yld (hy24 Tryd.runUnderlying24 Tryd.sizeOf46 rfl rfl)) rfl ?_
                refine QJ.step (YldS.yld (y_fld (ad := ad22) fld46_0 rfl)) rfl ?_
                refine QJ.step (YldS.yld (y_load1 (v := str e20.name) Tryd.isAgg9 (ha23.sub 0 1) St.frozenC rfl)) rfl ?_
                refine QJ.step (YldS.yld (y_move rfl)) rfl ?_
                refine QJ.step (YldS.yld (y_move rfl)) rfl ?_
                obtain ⟨e25, h26, hm⟩ := bindS hm
                obtain ⟨ad27, _, rfl, ha28, hy29⟩ := hr3.elem h26
                refine QJ.step (YldS.yld (hy29 Tryd.runUnderlying24 Tryd.sizeOf46 rfl rfl)) rfl ?_
                refine QJ.step (YldS.yld (y_fld (ad := ad27) fld46_0 rfl)) rfl ?_
                refine QJ.step (YldS.yld (y_load1 (v := str e25.name) Tryd.isAgg9 (ha28.sub 0 1) St.frozenC rfl)) rfl ?_
                refine QJ.step (YldS.yld (y_binS rfl rfl rfl)) rfl ?_
                refine QJ.done ?_
                refine PJ.next ?_
                refine WJ.cond (t := (e20.name == e25.name)) rfl (fun hb30 => ?_) (fun hb30 => ?_)
                · replace hm := ifT hm hb30
                  refine WJ.seq ?_
                  refine WJ.quiet ?_
                  refine QJ.step (YldS.yld (y_assign rfl)) rfl ?_
                  refine QJ.done ?_
                  refine PJ.next ?_
                  refine WJ.ret ?_
                  refine PJ.block_ret (PJ.then_ret (PJ.then_ret (PJ.block_ret (PJ.block_ret (PJ.then_ret (PJ.then_ret (PJ.block_ret (PJ.then_ret ?_))))))))
                  obtain rfl := Option.some.inj hm
                  refine PJ.sel (L' := []) [] ⟨List.nodup_nil, rfl⟩ ?_
                  exact PJ.retn (vs := [.bool false]) Tryd.results33 ⟨rfl, trivial⟩ ⟨rfl, rfl⟩
                · replace hm := ifF hm hb30
                  refine WJ.skip ?_
                  refine PJ.block_normal (PJ.next ?_)
                  refine WJ.quiet ?_
                  refine QJ.step (YldS.yld (y_move rfl)) rfl ?_
                  refine QJ.step (YldS.yld (y_bin rfl rfl rfl)) rfl ?_
                  refine QJ.step (YldS.yld (y_assign rfl)) rfl ?_
                  refine QJ.done ?_
                  exact PJ.round (w64 (k18 + 1)) [] hm ⟨rfl, rfl, rfl, trivial⟩ ⟨List.nodup_nil, rfl⟩
              · replace hm := ifF hm hb19
                refine WJ.exit ?_
                refine PJ.then_exit (PJ.then_exit (PJ.block_exit (PJ.block_normal ?_)))
                exact PJ.joined () [] hm ⟨rfl, rfl, trivial⟩ ⟨List.nodup_nil, rfl⟩
        · rintro _ hm
          subst hk9
          refine WJ.quiet ?_
          refine QJ.step (YldS.yld (y_move rfl)) rfl ?_
          refine QJ.step (YldS.yld (y_bin rfl rfl rfl)) rfl ?_
          refine QJ.step (YldS.yld (y_assign rfl)) rfl ?_
          refine QJ.done ?_
          exact PJ.round (w64 (i6 + 1)) [] hm ⟨rfl, rfl, trivial⟩ ⟨List.nodup_nil, rfl⟩
      · replace hm := ifF hm hb7
        refine WJ.exit ?_
        refine PJ.then_exit (PJ.then_exit (PJ.block_exit ?_))
        exact PJ.joined () [] hm ⟨rfl, trivial⟩ ⟨List.nodup_nil, rfl⟩
  · rintro _ hm
    subst hk5
    refine WJ.seq ?_
    refine WJ.quiet ?_
    refine QJ.step (YldS.yld (y_move rfl)) rfl ?_
    refine QJ.step (YldS.yld (y_lenS Tryd.runUnderlying24 hr3 rfl)) rfl ?_
    refine QJ.step (YldS.yld (y_bin rfl rfl rfl)) rfl ?_
    refine QJ.step (YldS.yld (y_assign rfl)) rfl ?_
    refine QJ.done ?_
    refine PJ.next ?_
    refine WJ.ret ?_
    obtain rfl := Option.some.inj hm
    refine PJ.sel (L' := []) [] ⟨List.nodup_nil, rfl⟩ ?_
    exact PJ.retn (vs := [.bool (decide ((List.length list1 : Int) ≤ 40))]) Tryd.results33 ⟨rfl, trivial⟩ ⟨rfl, rfl⟩

set_option maxRecDepth 100000 in
set_option maxHeartbeats 1000000 in
theorem ok_s_l22Better {a1 : Result} {b4 : Result} {r : Bool} (hm : s_l22Better a1 b4 = some r) (w : World) (ad2 : Addr) (ha3 : At w (cx w).Fz ad2 (fResult.enc a1)) (ad5 : Addr) (ha6 : At w (cx w).Fz ad5 (fResult.enc b4)) :
    Calls Tryd.prog 43 #[.pointer (some ad2), .pointer (some ad5)] w (Ret (cx w) (.bool r)) := by
  unfold s_l22Better at hm
  refine Calls.enter [.pointer (some ad2), .pointer (some ad5)] Tryd.func43 rfl Tryd.ntmps43 rfl ?_
  refine WJ.seq ?_
  refine WJ.quiet ?_
  refine QJ.step (YldS.yld (y_assign rfl)) rfl ?_
  refine QJ.done ?_
  refine PJ.next ?_
  refine WJ.seq ?_
  refine WJ.quiet_draw follows (by kernel_rfl) ?_
  refine QJ.step (YldS.yld (y_move rfl)) rfl ?_
  refine QJ.step (YldS.yld (y_nil rfl)) rfl ?_
  refine QJ.step (YldS.yld (y_fld (ad := ad2) fld46_1 rfl)) rfl ?_
  refine QJ.step (YldS.yld (y_load1 (v := .int .i64 a1.net) Tryd.isAgg2 (ha3.sub 1 1) St.frozenC rfl)) rfl ?_
  refine QJ.step (YldS.yld (y_move rfl)) rfl ?_
  refine QJ.step (YldS.yld (y_nil rfl)) rfl ?_
  refine QJ.step (YldS.yld (y_fld (ad := ad5) fld46_1 rfl)) rfl ?_
  refine QJ.step (YldS.yld (y_load1 (v := .int .i64 b4.net) Tryd.isAgg2 (ha6.sub 1 1) St.frozenC rfl)) rfl ?_
  refine QJ.step (YldS.yld (y_bin rfl rfl rfl)) rfl ?_
  refine QJ.step (YldS.yld (y_move rfl)) rfl ?_
  obtain ⟨t7, h8, hm⟩ := bindS hm
  refine QJ.cut 21 [(35, .bool t7)] ?_ ?_
  · rcases Bool.eq_false_or_eq_true (decide (a1.net > b4.net)) with hb9 | hb9
    · obtain rfl := orT h8 hb9
      refine QJ.off rfl rfl (cB hb9) rfl rfl ?_
      refine QJ.off rfl rfl (cB hb9) rfl rfl ?_
      refine QJ.off rfl rfl (cB hb9) rfl rfl ?_
      refine QJ.off rfl rfl (cB hb9) rfl rfl ?_
      refine QJ.off rfl rfl (cB hb9) rfl rfl ?_
      refine QJ.off rfl rfl (cB hb9) rfl rfl ?_
      refine QJ.off rfl rfl (cB hb9) rfl rfl ?_
      refine QJ.off rfl rfl (cB hb9) rfl rfl ?_
      refine QJ.off rfl rfl (cB hb9) rfl rfl ?_
      refine QJ.off rfl rfl (cB hb9) rfl rfl ?_
      refine QJ.off_undef rfl rfl rfl rfl ?_
      refine QJ.off_undef rfl rfl rfl rfl ?_
      refine QJ.off_undef rfl rfl rfl rfl ?_
      refine QJ.off_undef rfl rfl rfl rfl ?_
      refine QJ.off_undef rfl rfl rfl rfl ?_
      refine QJ.off_undef rfl rfl rfl rfl ?_
      refine QJ.off_undef rfl rfl rfl rfl ?_
      refine QJ.off_undef rfl rfl rfl rfl ?_
      refine QJ.off_undef rfl rfl rfl rfl ?_
      refine QJ.off rfl rfl (cB hb9) rfl rfl ?_
      refine QJ.step (YldS.yld (y_pick_t (cB hb9) rfl)) rfl ?_
      exact QJ.cut_end ⟨rfl, trivial⟩
    · replace h8 := orF h8 hb9
      refine QJ.on rfl rfl (cB hb9) (YldS.yld (y_move rfl)) rfl ?_
      refine QJ.on rfl rfl (cB hb9) (YldS.yld (y_nil rfl)) rfl ?_
      refine QJ.on rfl rfl (cB hb9) (YldS.yld (y_fld (ad := ad2) fld46_1 rfl)) rfl ?_
      refine QJ.on rfl rfl (cB hb9) (YldS.yld (y_load1 (v := .int .i64 a1.net) Tryd.isAgg2 (ha3.sub 1 1) St.frozenC rfl)) rfl ?_
      refine QJ.on rfl rfl (cB hb9) (YldS.yld (y_move rfl)) rfl ?_
      refine QJ.on rfl rfl (cB hb9) (YldS.yld (y_nil rfl)) rfl ?_
      refine QJ.on rfl rfl (cB hb9) (YldS.yld (y_fld (ad := ad5) fld46_1 rfl)) rfl ?_
      refine QJ.on rfl rfl (cB hb9) (YldS.yld (y_load1 (v := .int .i64 b4.net) Tryd.isAgg2 (ha6.sub 1 1) St.frozenC rfl)) rfl ?_
      refine QJ.on rfl rfl (cB hb9) (YldS.yld (y_bin rfl rfl rfl)) rfl ?_
      refine QJ.on rfl rfl (cB hb9) (YldS.yld (y_move rfl)) rfl ?_
      obtain ⟨t10, h11, h8⟩ := bindS h8
      refine QJ.cut 10 [(14, .bool (decide (a1.net > b4.net))), (34, .bool t10)] ?_ ?_
      · rcases Bool.eq_false_or_eq_true (a1.net == b4.net) with hb12 | hb12
        · replace h11 := andT h11 hb12
          refine QJ.on rfl rfl (cB hb12) (YldS.yld (y_move rfl)) rfl ?_
          refine QJ.on rfl rfl (cB hb12) (YldS.yld (y_nil rfl)) rfl ?_
          refine QJ.on rfl rfl (cB hb12) (YldS.yld (y_fld (ad := ad2) fld46_2 rfl)) rfl ?_
          refine QJ.on rfl rfl (cB hb12) (YldS.yld (y_load1 (v := .int .i64 a1.errors) Tryd.isAgg2 (ha3.sub 2 1) St.frozenC rfl)) rfl ?_
          refine QJ.on rfl rfl (cB hb12) (YldS.yld (y_move rfl)) rfl ?_
          refine QJ.on rfl rfl (cB hb12) (YldS.yld (y_nil rfl)) rfl ?_
          refine QJ.on rfl rfl (cB hb12) (YldS.yld (y_fld (ad := ad5) fld46_2 rfl)) rfl ?_
          refine QJ.on rfl rfl (cB hb12) (YldS.yld (y_load1 (v := .int .i64 b4.errors) Tryd.isAgg2 (ha6.sub 2 1) St.frozenC rfl)) rfl ?_
          refine QJ.on rfl rfl (cB hb12) (YldS.yld (y_bin rfl rfl rfl)) rfl ?_
          refine QJ.on rfl rfl (cB hb9) (YldS.yld (y_pick_t (cB hb12) rfl)) rfl ?_
          obtain rfl := Option.some.inj h11
          exact QJ.cut_end ⟨rfl, rfl, trivial⟩
        · obtain rfl := andF h11 hb12
          refine QJ.off rfl rfl (cB hb12) rfl rfl ?_
          refine QJ.off rfl rfl (cB hb12) rfl rfl ?_
          refine QJ.off rfl rfl (cB hb12) rfl rfl ?_
          refine QJ.off rfl rfl (cB hb12) rfl rfl ?_
          refine QJ.off rfl rfl (cB hb12) rfl rfl ?_
          refine QJ.off rfl rfl (cB hb12) rfl rfl ?_
          refine QJ.off rfl rfl (cB hb12) rfl rfl ?_
          refine QJ.off rfl rfl (cB hb12) rfl rfl ?_
          refine QJ.off rfl rfl (cB hb12) rfl rfl ?_
          refine QJ.on rfl rfl (cB hb9) (YldS.yld (y_pick_f (cB hb12) rfl)) rfl ?_
          exact QJ.cut_end ⟨rfl, rfl, trivial⟩
      refine QJ.step (YldS.yld (y_pick_f (cB hb9) rfl)) rfl ?_
      obtain rfl := Option.some.inj h8
      exact QJ.cut_end ⟨rfl, trivial⟩
  refine QJ.step (YldS.yld (y_assign rfl)) rfl ?_
  refine QJ.done ?_
  refine PJ.next ?_
  refine WJ.ret ?_
  obtain rfl := Option.some.inj hm
  refine PJ.sel (L' := []) [] ⟨List.nodup_nil, rfl⟩ ?_
  exact PJ.retn (vs := [.bool t7]) Tryd.results43 ⟨rfl, trivial⟩ ⟨rfl, rfl⟩

set_option maxRecDepth 100000 in
set_option maxHeartbeats 1000000 in
theorem ok_s_l00Own {list1 : List Int} {r : (List Int)} (hm : s_l00Own list1 = some r) (w : World) (v2 : Value) (hr3 : RdS w (cx w).Fz v2 fI64.rp list1) :
    Calls Tryd.prog 54 #[v2] w (RetG (cx w) fun u L => ∃ (u1 : Value), (u = u1 ∧ L = [row u1 2 fI64 r])) := by
  unfold s_l00Own at hm
  refine Calls.enter [v2] Tryd.func54 rfl Tryd.ntmps54 rfl ?_
  refine WJ.seq ?_
  refine WJ.quiet ?_
  refine QJ.step (YldS.yld (y_assign rfl)) rfl ?_
  refine QJ.done ?_
  refine PJ.next ?_
  refine WJ.seq ?_
  refine WJ.reg ?_
  refine SJ.buildSlice (R := fI64) (os := []) [] Tryd.runUnderlying27 Tryd.sizeOf2 Tryd.zeroValue2 rfl rfl rfl rfl rfl rfl fun v4 => ?_
  refine SJ.q (YldS.yld (y_move rfl)) rfl ?_
  obtain ⟨l5, h6, hm⟩ := bindS hm
  refine SJ.append (k := 0) (R := fI64) h6 rfl Tryd.underlying27 el2 rfl rfl rfl (fun w hw => (hr3.st hw)) rfl fun v7 => ?_
  refine SJ.q (YldS.yld (y_assign rfl)) rfl ?_
  refine SJ.nil ?_
  refine PJ.next ?_
  refine WJ.ret ?_
  obtain rfl := Option.some.inj hm
  refine PJ.sel (L' := [row v7 2 fI64 l5]) [0] ⟨by decide, rfl⟩ ?_
  exact PJ.retn (vs := [v7]) Tryd.results54 ⟨rfl, trivial⟩ ⟨_, rfl, rfl⟩

set_option maxRecDepth 100000 in
set_option maxHeartbeats 1000000 in
theorem ok_s_l22Rank {N : Nat} {list1 : List Result} {r : (List Int)} (hm : s_l22Rank N list1 = some r) (w : World) (v2 : Value) (hr3 : RdS w (cx w).Fz v2 fResult.rp list1) :
    Calls Tryd.prog 35 #[v2] w (RetG (cx w) fun u L => ∃ (u1 : Value), (u = u1 ∧ L = [row u1 2 fI64 r])) := by
  unfold s_l22Rank at hm
  refine Calls.enter [v2] Tryd.func35 rfl Tryd.ntmps35 rfl ?_
  refine WJ.seq ?_
  refine WJ.quiet ?_
  refine QJ.step (YldS.yld (y_assign rfl)) rfl ?_
  refine QJ.done ?_
  refine PJ.next ?_
  refine WJ.seq ?_
  refine WJ.reg ?_
  refine SJ.buildSlice (R := fI64) (os := []) [] Tryd.runUnderlying27 Tryd.sizeOf2 Tryd.zeroValue2 rfl rfl rfl rfl rfl rfl fun v4 => ?_
  refine SJ.q (YldS.yld (y_assign rfl)) rfl ?_
  refine SJ.nil ?_
  refine PJ.next ?_
  obtain ⟨kj7, hk8, hm⟩ := withK_open hm
  refine WJ.join (X := (List Int) × Value) (fun (x : (List Int) × Value) => kj7 x.1 = some r) (fun (x : (List Int) × Value) => [(3, x.2)]) (fun (x : (List Int) × Value) => [row x.2 2 fI64 x.1]) ?_ ?_
  · clear hk8
    refine WJ.seq ?_
    refine WJ.quiet ?_
    refine QJ.step (YldS.yld (y_assign rfl)) rfl ?_
    refine QJ.done ?_
    refine PJ.next ?_
    refine WJ.block ?_
    refine WJ.sel (L' := (fun (x : (List Int) × Value × Int) => [row x.2.1 2 fI64 x.1]) ([], v4, 0)) [0] ⟨by decide, rfl⟩ ?_
    refine WJ.sub (m' := (fun (x : (List Int) × Value × Int) => [(0, v2), (3, x.2.1), (4, .int .i64 x.2.2)]) ([], v4, 0)) ⟨rfl, rfl, rfl, trivial⟩ ?_
    refine WJ.loop (X := (List Int) × Value × Int) (fun N (x : (List Int) × Value × Int) => s_l22Rank_l1 kj7 list1 N x.1 x.2.2 = some r) (fun (x : (List Int) × Value × Int) => [(0, v2), (3, x.2.1), (4, .int .i64 x.2.2)]) (fun (x : (List Int) × Value × Int) => [row x.2.1 2 fI64 x.1]) ?_ N ([], v4, 0) hm
    · rintro N ⟨l9, v10, i11⟩ hI
      have hm := hI; clear hI
      cases N with
      | zero => cases hm
      | succ N =>
      unfold s_l22Rank_l1 at hm
      refine WJ.seq ?_
      refine WJ.seq ?_
      refine WJ.quiet ?_
      refine QJ.step (YldS.yld (y_move rfl)) rfl ?_
      refine QJ.step (YldS.yld (y_move rfl)) rfl ?_
      refine QJ.step (YldS.yld (y_lenS Tryd.runUnderlying24 hr3 rfl)) rfl ?_
      refine QJ.step (YldS.yld (y_bin rfl rfl rfl)) rfl ?_
      refine QJ.done ?_
      refine PJ.next ?_
      refine WJ.cond (t := decide (i11 < (List.length list1 : Int))) rfl (fun hb12 => ?_) (fun hb12 => ?_)
      · replace hm := ifT hm hb12
        refine WJ.skip ?_
        refine PJ.next ?_
        obtain ⟨kj15, hk16, hm⟩ := withK_open hm
        refine WJ.join (X := (List Int) × Value) (fun (x : (List Int) × Value) => kj15 x.1 = some r) (fun (x : (List Int) × Value) => [(0, v2), (3, x.2), (4, .int .i64 i11)]) (fun (x : (List Int) × Value) => [row x.2 2 fI64 x.1]) ?_ ?_
        · clear hk16
          refine WJ.block ?_
          refine WJ.seq ?_
          refine WJ.quiet ?_
          refine QJ.step (YldS.yld (y_move rfl)) rfl ?_
          refine QJ.step (YldS.yld (y_lenRow (k := 0) rfl Tryd.runUnderlying27 rfl)) rfl ?_
          refine QJ.step (YldS.yld (y_assign rfl)) rfl ?_
          refine QJ.done ?_
          refine PJ.next ?_
          obtain ⟨kj18, hk19, hm⟩ := withK_open hm
          refine WJ.join (X := Int) (fun (x : Int) => kj18 x = some r) (fun (x : Int) => [(0, v2), (3, v10), (4, .int .i64 i11), (5, .int .i64 x)]) (fun (x : Int) => [row v10 2 fI64 l9]) ?_ ?_
          · clear hk19
            refine WJ.block ?_
            refine WJ.sel (L' := (fun (x : Int) => [row v10 2 fI64 l9]) (List.length l9 : Int)) [0] ⟨by decide, rfl⟩ ?_
            refine WJ.sub (m' := (fun (x : Int) => [(0, v2), (3, v10), (4, .int .i64 i11), (5, .int .i64 x)]) (List.length l9 : Int)) ⟨rfl, rfl, rfl, rfl, trivial⟩ ?_
            refine WJ.loop (X := Int) (fun N (x : Int) => s_l22Rank_l2 kj18 list1 l9 i11 N x = some r) (fun (x : Int) => [(0, v2), (3, v10), (4, .int .i64 i11), (5, .int .i64 x)]) (fun (x : Int) => [row v10 2 fI64 l9]) ?_ N (List.length l9 : Int) hm
            · rintro N k20 hI
              have hm := hI; clear hI
              cases N with
              | zero => cases hm
              | succ N =>
              unfold s_l22Rank_l2 at hm
              refine WJ.seq ?_
              refine WJ.seq ?_
              refine WJ.quiet_draw follows (by kernel_rfl) ?_
              refine QJ.step (YldS.yld (y_move rfl)) rfl ?_
              refine QJ.step (YldS.yld (y_bin rfl rfl rfl)) rfl ?_
              refine QJ.step (YldS.yld (y_move rfl)) rfl ?_
              obtain ⟨t21, h22, hm⟩ := bindS hm
              refine QJ.cut 12 [(0, v2), (3, v10), (4, .int .i64 i11), (5, .int .i64 k20), (30, .bool t21)] ?_ ?_
              · rcases Bool.eq_false_or_eq_true (decide (k20 > 0)) with hb23 | hb23
                · replace h22 := andT h22 hb23
                  refine QJ.on rfl rfl (cB hb23) (YldS.yld (y_move rfl)) rfl ?_
                  refine QJ.on rfl rfl (cB hb23) (YldS.yld (y_move rfl)) rfl ?_
                  obtain ⟨e24, h25, h22⟩ := bindS h22
                  obtain ⟨ad26, _, rfl, ha27, hy28⟩ := hr3.elem h25
                  refine QJ.on rfl rfl (cB hb23) (YldS.yld (hy28 Tryd.runUnderlying24 Tryd.sizeOf46 rfl rfl)) rfl ?_
                  refine QJ.on rfl rfl (cB hb23) (YldS.yld (y_move rfl)) rfl ?_
                  refine QJ.on rfl rfl (cB hb23) (YldS.yld (y_move rfl)) rfl ?_
                  refine QJ.on rfl rfl (cB hb23) (YldS.yld (y_move rfl)) rfl ?_
                  refine QJ.on rfl rfl (cB hb23) (YldS.yld (y_bin rfl rfl rfl)) rfl ?_
                  obtain ⟨e29, h30, h22⟩ := bindS h22
                  refine QJ.on rfl rfl (cB hb23) (YldS.yld (y_ixRow (k := 0) (R := fI64) rfl Tryd.runUnderlying27 Tryd.sizeOf2 rfl rfl h30)) rfl ?_
                  refine QJ.on rfl rfl (cB hb23) (YldS.yld (y_loadR (k := 0) (i := (Int.toNat (w64 (k20 - 1)))) (off := 0) (u := .int .i64 e29) rfl Tryd.isAgg2 rfl (idx_get h30) rfl)) rfl ?_
                  obtain ⟨e31, h32, h22⟩ := bindS h22
                  obtain ⟨ad33, _, rfl, ha34, hy35⟩ := hr3.elem h32
                  refine QJ.on rfl rfl (cB hb23) (YldS.yld (hy35 Tryd.runUnderlying24 Tryd.sizeOf46 rfl rfl)) rfl ?_
                  obtain ⟨r36, h37, h22⟩ := bindS h22
                  refine QJ.on rfl rfl (cB hb23) (y_call Tryd.call43 rfl (RetG.quiet fun w hw => ok_s_l22Better h37 w _ (ha27.st hw) _ (ha34.st hw))) rfl ?_
                  refine QJ.step (YldS.yld (y_pick_t (cB hb23) rfl)) rfl ?_
                  obtain rfl := Option.some.inj h22
                  exact QJ.cut_end ⟨rfl, rfl, rfl, rfl, rfl, trivial⟩
                · obtain rfl := andF h22 hb23
                  refine QJ.off rfl rfl (cB hb23) rfl rfl ?_
                  refine QJ.off rfl rfl (cB hb23) rfl rfl ?_
                  refine QJ.off rfl rfl (cB hb23) rfl rfl ?_
                  refine QJ.off rfl rfl (cB hb23) rfl rfl ?_
                  refine QJ.off rfl rfl (cB hb23) rfl rfl ?_
                  refine QJ.off rfl rfl (cB hb23) rfl rfl ?_
                  refine QJ.off rfl rfl (cB hb23) rfl rfl ?_
                  refine QJ.off rfl rfl (cB hb23) rfl rfl ?_
                  refine QJ.off rfl rfl (cB hb23) rfl rfl ?_
                  refine QJ.off rfl rfl (cB hb23) rfl rfl ?_
                  refine QJ.off rfl rfl (cB hb23) rfl rfl ?_
                  refine QJ.step (YldS.yld (y_pick_f (cB hb23) rfl)) rfl ?_
                  exact QJ.cut_end ⟨rfl, rfl, rfl, rfl, rfl, trivial⟩
              refine QJ.done ?_
              refine PJ.next ?_
              refine WJ.cond (t := t21) rfl (fun hb38 => ?_) (fun hb38 => ?_)
              · replace hm := ifT hm hb38
                refine WJ.skip ?_
                refine PJ.next ?_
                refine WJ.block ?_
                refine WJ.quiet ?_
                refine QJ.step (YldS.yld (y_move rfl)) rfl ?_
                refine QJ.step (YldS.yld (y_bin rfl rfl rfl)) rfl ?_
                refine QJ.step (YldS.yld (y_assign rfl)) rfl ?_
                refine QJ.done ?_
                refine PJ.block_normal ?_
                exact PJ.round (w64 (k20 - 1)) [0] hm ⟨rfl, rfl, rfl, rfl, trivial⟩ ⟨by decide, rfl⟩
              · replace hm := ifF hm hb38
                refine WJ.exit ?_
                refine PJ.then_exit (PJ.then_exit (PJ.block_exit ?_))
                exact PJ.joined k20 [0] hm ⟨rfl, rfl, rfl, rfl, trivial⟩ ⟨by decide, rfl⟩
          · rintro k17 hm
            subst hk19
            refine WJ.seq ?_
            refine WJ.reg ?_
            refine SJ.q (YldS.yld (y_move rfl)) rfl ?_
            refine SJ.q (YldS.yld (y_move rfl)) rfl ?_
            obtain ⟨l39, h40, hm⟩ := bindS hm
            refine SJ.q (YldS.yld (y_slcRow (i := none) (j := some k17) (k := 0) h40 rfl Tryd.runUnderlying27 Tryd.sizeOf2 rfl trivial ⟨_, rfl⟩)) rfl ?_
            obtain ⟨r41, h42, hm⟩ := bindS hm
            refine SJ.call Tryd.call54 rfl (fun w hw => ok_s_l00Own h42 w _ (hw.slc_rd (k := 0) (i := none) (j := some k17) rfl h40)) rfl ?_
            rintro v43 _ ⟨_, rfl, rfl⟩
            refine SJ.q (YldS.yld (y_move rfl)) rfl ?_
            refine SJ.buildSlice (R := fI64) (os := [.tmp 37]) [i11] Tryd.runUnderlying27 Tryd.sizeOf2 Tryd.zeroValue2 rfl rfl rfl rfl rfl rfl fun v44 => ?_
            obtain ⟨l45, h46, hm⟩ := bindS hm
            refine SJ.append (k := 1) (R := fI64) h46 rfl Tryd.underlying27 el2 rfl rfl rfl (fun w hw => (hw.row_rd (k := 0) rfl)) rfl fun v47 => ?_
            refine SJ.q (YldS.yld (y_assign rfl)) rfl ?_
            refine SJ.nil ?_
            refine PJ.next ?_
            refine WJ.reg ?_
            refine SJ.q (YldS.yld (y_move rfl)) rfl ?_
            refine SJ.q (YldS.yld (y_move rfl)) rfl ?_
            refine SJ.q (YldS.yld (y_move rfl)) rfl ?_
            obtain ⟨l48, h49, hm⟩ := bindS hm
            refine SJ.q (YldS.yld (y_slcRow (i := some k17) (j := none) (k := 2) h49 rfl Tryd.runUnderlying27 Tryd.sizeOf2 rfl ⟨_, rfl⟩ trivial)) rfl ?_
            obtain ⟨l50, h51, hm⟩ := bindS hm
            refine SJ.append (k := 1) (R := fI64) h51 rfl Tryd.underlying27 el2 rfl rfl rfl (fun w hw => (hw.slc_rd (k := 2) (i := some k17) (j := none) rfl h49)) rfl fun v52 => ?_
            refine SJ.q (YldS.yld (y_assign rfl)) rfl ?_
            refine SJ.nil ?_
            refine PJ.block_normal ?_
            exact PJ.joined (l50, v52) [1] hm ⟨rfl, rfl, rfl, trivial⟩ ⟨by decide, rfl⟩
        · rintro ⟨l13, v14⟩ hm
          subst hk16
          refine WJ.quiet ?_
          refine QJ.step (YldS.yld (y_move rfl)) rfl ?_
          refine QJ.step (YldS.yld (y_bin rfl rfl rfl)) rfl ?_
          refine QJ.step (YldS.yld (y_assign rfl)) rfl ?_
          refine QJ.done ?_
          exact PJ.round (l13, v14, w64 (i11 + 1)) [0] hm ⟨rfl, rfl, rfl, trivial⟩ ⟨by decide, rfl⟩
      · replace hm := ifF hm hb12
        refine WJ.exit ?_
        refine PJ.then_exit (PJ.then_exit (PJ.block_exit ?_))
        exact PJ.joined (l9, v10) [0] hm ⟨rfl, trivial⟩ ⟨by decide, rfl⟩
  · rintro ⟨l5, v6⟩ hm
    subst hk8
    refine WJ.seq ?_
    refine WJ.quiet ?_
    refine QJ.step (YldS.yld (y_move rfl)) rfl ?_
    refine QJ.step (YldS.yld (y_assign rfl)) rfl ?_
    refine QJ.done ?_
    refine PJ.next ?_
    refine WJ.ret ?_
    obtain rfl := Option.some.inj hm
    refine PJ.sel (L' := [row v6 2 fI64 l5]) [0] ⟨by decide, rfl⟩ ?_
    exact PJ.retn (vs := [v6]) Tryd.results35 ⟨rfl, trivial⟩ ⟨_, rfl, rfl⟩

set_option maxRecDepth 100000 in
set_option maxHeartbeats 1000000 in
theorem ok_s_HeatsOf {N : Nat} {list1 : List Result} {heats4 : Int} {r : (List Int) × Int} (hm : s_HeatsOf N list1 heats4 = some r) (w : World) (v2 : Value) (hr3 : RdS w (cx w).Fz v2 fResult.rp list1) :
    Calls Tryd.prog 7 #[v2, .int .i64 heats4] w (RetG (cx w) fun u L => ∃ (u1 : Value), (u = tup [u1, .int .i64 r.2] ∧ L = [row u1 2 fI64 r.1])) := by
  unfold s_HeatsOf at hm
  refine Calls.enter [v2, .int .i64 heats4] Tryd.func7 rfl Tryd.ntmps7 rfl ?_
  refine WJ.seq ?_
  refine WJ.quiet ?_
  refine QJ.step (YldS.yld (y_assign rfl)) rfl ?_
  refine QJ.step (YldS.yld (y_assign rfl)) rfl ?_
  refine QJ.done ?_
  refine PJ.next ?_
  refine WJ.seq ?_
  refine WJ.seq ?_
  refine WJ.quiet ?_
  refine QJ.step (YldS.yld (y_move rfl)) rfl ?_
  obtain ⟨r5, h6, hm⟩ := bindS hm
  refine QJ.step (y_call Tryd.call33 rfl (RetG.quiet fun w hw => ok_s_l22Ok h6 w _ (hr3.st hw))) rfl ?_
  refine QJ.step (YldS.yld (y_not rfl)) rfl ?_
  refine QJ.done ?_
  refine PJ.next ?_
  refine WJ.cond (t := !r5) rfl (fun hb7 => ?_) (fun hb7 => ?_)
  · replace hm := ifT hm hb7
    refine WJ.seq ?_
    refine WJ.quiet ?_
    refine QJ.step (YldS.yld (y_assign rfl)) rfl ?_
    refine QJ.step (YldS.yld (y_assign rfl)) rfl ?_
    refine QJ.done ?_
    refine PJ.next ?_
    refine WJ.ret ?_
    refine PJ.then_ret ?_
    refine PJ.nil_row 2 fI64 ?_
    obtain rfl := Option.some.inj hm
    refine PJ.sel (L' := [row (.slice none 0 0) 2 fI64 []]) [0] ⟨by decide, rfl⟩ ?_
    exact PJ.retn (vs := [(.slice none 0 0), .int .i64 1]) Tryd.results7 ⟨rfl, rfl, trivial⟩ ⟨_, rfl, rfl⟩
  · replace hm := ifF hm hb7
    refine WJ.skip ?_
    refine PJ.next ?_
    refine WJ.seq ?_
    refine WJ.seq ?_
    refine WJ.quiet ?_
    refine QJ.step (YldS.yld (y_move rfl)) rfl ?_
    obtain ⟨r8, h9, hm⟩ := bindS hm
    refine QJ.step (y_call Tryd.call34 rfl (RetG.quiet fun w hw => ok_s_l00In h9 w )) rfl ?_
    refine QJ.step (YldS.yld (y_not rfl)) rfl ?_
    refine QJ.done ?_
    refine PJ.next ?_
    refine WJ.cond (t := !r8) rfl (fun hb10 => ?_) (fun hb10 => ?_)
    · replace hm := ifT hm hb10
      refine WJ.seq ?_
      refine WJ.quiet ?_
      refine QJ.step (YldS.yld (y_assign rfl)) rfl ?_
      refine QJ.step (YldS.yld (y_assign rfl)) rfl ?_
      refine QJ.done ?_
      refine PJ.next ?_
      refine WJ.ret ?_
      refine PJ.then_ret ?_
      refine PJ.nil_row 2 fI64 ?_
      obtain rfl := Option.some.inj hm
      refine PJ.sel (L' := [row (.slice none 0 0) 2 fI64 []]) [0] ⟨by decide, rfl⟩ ?_
      exact PJ.retn (vs := [(.slice none 0 0), .int .i64 2]) Tryd.results7 ⟨rfl, rfl, trivial⟩ ⟨_, rfl, rfl⟩
    · replace hm := ifF hm hb10
      refine WJ.skip ?_
      refine PJ.next ?_
      refine WJ.seq ?_
      refine WJ.reg ?_
      refine SJ.q (YldS.yld (y_move rfl)) rfl ?_
      refine SJ.q (YldS.yld (y_lenS Tryd.runUnderlying24 hr3 rfl)) rfl ?_
      obtain ⟨l11, h12, hm⟩ := bindS hm
      refine SJ.makeSlice (R := fI64) (z := 0) h12 Tryd.underlying27 el2 rfl rfl rfl fun v13 => ?_
      refine SJ.q (YldS.yld (y_assign rfl)) rfl ?_
      refine SJ.nil ?_
      refine PJ.next ?_
      refine WJ.seq ?_
      refine WJ.reg ?_
      refine SJ.q (YldS.yld (y_move rfl)) rfl ?_
      obtain ⟨r14, h15, hm⟩ := bindS hm
      refine SJ.call Tryd.call35 rfl (fun w hw => ok_s_l22Rank h15 w _ (hr3.st hw)) rfl ?_
      rintro v16 _ ⟨_, rfl, rfl⟩
      refine SJ.q (YldS.yld (y_assign rfl)) rfl ?_
      refine SJ.nil ?_
      refine PJ.next ?_
      obtain ⟨kj18, hk19, hm⟩ := withK_open hm
      refine WJ.join (X := (List Int)) (fun (x : (List Int)) => kj18 x = some r) (fun (x : (List Int)) => [(6, v13)]) (fun (x : (List Int)) => [row v13 2 fI64 x]) ?_ ?_
      · clear hk19
        refine WJ.seq ?_
        refine WJ.quiet ?_
        refine QJ.step (YldS.yld (y_assign rfl)) rfl ?_
        refine QJ.done ?_
        refine PJ.next ?_
        refine WJ.block ?_
        refine WJ.sel (L' := (fun (x : (List Int) × Int) => [row v16 2 fI64 r14, row v13 2 fI64 x.1]) (l11, 0)) [0, 1] ⟨by decide, rfl⟩ ?_
        refine WJ.sub (m' := (fun (x : (List Int) × Int) => [(1, .int .i64 heats4), (6, v13), (7, v16), (8, .int .i64 x.2)]) (l11, 0)) ⟨rfl, rfl, rfl, rfl, trivial⟩ ?_
        refine WJ.loop (X := (List Int) × Int) (fun N (x : (List Int) × Int) => s_HeatsOf_l1 kj18 heats4 r14 N x.1 x.2 = some r) (fun (x : (List Int) × Int) => [(1, .int .i64 heats4), (6, v13), (7, v16), (8, .int .i64 x.2)]) (fun (x : (List Int) × Int) => [row v16 2 fI64 r14, row v13 2 fI64 x.1]) ?_ N (l11, 0) hm
        · rintro N ⟨l20, i21⟩ hI
          have hm := hI; clear hI
          cases N with
          | zero => cases hm
          | succ N =>
          unfold s_HeatsOf_l1 at hm
          refine WJ.seq ?_
          refine WJ.seq ?_
          refine WJ.quiet ?_
          refine QJ.step (YldS.yld (y_move rfl)) rfl ?_
          refine QJ.step (YldS.yld (y_move rfl)) rfl ?_
          refine QJ.step (YldS.yld (y_lenRow (k := 0) rfl Tryd.runUnderlying27 rfl)) rfl ?_
          refine QJ.step (YldS.yld (y_bin rfl rfl rfl)) rfl ?_
          refine QJ.done ?_
          refine PJ.next ?_
          refine WJ.cond (t := decide (i21 < (List.length r14 : Int))) rfl (fun hb22 => ?_) (fun hb22 => ?_)
          · replace hm := ifT hm hb22
            refine WJ.skip ?_
            refine PJ.next ?_
            refine WJ.seq ?_
            refine WJ.block ?_
            refine WJ.seq ?_
            refine WJ.quiet ?_
            refine QJ.step (YldS.yld (y_move rfl)) rfl ?_
            refine QJ.step (YldS.yld (y_move rfl)) rfl ?_
            refine QJ.step (YldS.yld (y_bin rfl rfl rfl)) rfl ?_
            obtain ⟨q23, h24, hm⟩ := bindS hm
            refine QJ.step (YldS.yld (y_rem' h24 rfl rfl)) rfl ?_
            refine QJ.step (YldS.yld (y_assign rfl)) rfl ?_
            refine QJ.done ?_
            refine PJ.next ?_
            obtain ⟨kj26, hk27, hm⟩ := withK_open hm
            refine WJ.join (X := Int) (fun (x : Int) => kj26 x = some r) (fun (x : Int) => [(1, .int .i64 heats4), (6, v13), (7, v16), (8, .int .i64 i21), (9, .int .i64 x)]) (fun (x : Int) => [row v16 2 fI64 r14, row v13 2 fI64 l20]) ?_ ?_
            · clear hk27
              refine WJ.seq ?_
              refine WJ.quiet ?_
              refine QJ.step (YldS.yld (y_move rfl)) rfl ?_
              refine QJ.step (YldS.yld (y_move rfl)) rfl ?_
              refine QJ.step (YldS.yld (y_bin rfl rfl rfl)) rfl ?_
              refine QJ.done ?_
              refine PJ.next ?_
              refine WJ.cond (t := decide (q23 ≥ heats4)) rfl (fun hb28 => ?_) (fun hb28 => ?_)
              · replace hm := ifT hm hb28
                refine WJ.quiet ?_
                refine QJ.step (YldS.yld (y_move rfl)) rfl ?_
                refine QJ.step (YldS.yld (y_bin rfl rfl rfl)) rfl ?_
                refine QJ.step (YldS.yld (y_bin rfl rfl rfl)) rfl ?_
                refine QJ.step (YldS.yld (y_move rfl)) rfl ?_
                refine QJ.step (YldS.yld (y_bin rfl rfl rfl)) rfl ?_
                refine QJ.step (YldS.yld (y_assign rfl)) rfl ?_
                refine QJ.done ?_
                exact PJ.joined (w64 ((w64 ((w64 (2 * heats4)) - 1)) - q23)) [0, 1] hm ⟨rfl, rfl, rfl, rfl, rfl, trivial⟩ ⟨by decide, rfl⟩
              · replace hm := ifF hm hb28
                refine WJ.skip ?_
                exact PJ.joined q23 [0, 1] hm ⟨rfl, rfl, rfl, rfl, rfl, trivial⟩ ⟨by decide, rfl⟩
            · rintro at25 hm
              subst hk27
              refine WJ.reg ?_
              refine SJ.q (YldS.yld (y_move rfl)) rfl ?_
              refine SJ.q (YldS.yld (y_move rfl)) rfl ?_
              refine SJ.q (YldS.yld (y_move rfl)) rfl ?_
              obtain ⟨e29, h30, hm⟩ := bindS hm
              refine SJ.q (YldS.yld (y_ixRow (k := 0) (R := fI64) rfl Tryd.runUnderlying27 Tryd.sizeOf2 rfl rfl h30)) rfl ?_
              refine SJ.q (YldS.yld (y_loadR (k := 0) (i := (Int.toNat i21)) (off := 0) (u := .int .i64 e29) rfl Tryd.isAgg2 rfl (idx_get h30) rfl)) rfl ?_
              refine SJ.q (YldS.yld (y_move rfl)) rfl ?_
              obtain ⟨e31, h32, hm⟩ := bindS hm
              refine SJ.q (YldS.yld (y_ixRow (k := 1) (R := fI64) rfl Tryd.runUnderlying27 Tryd.sizeOf2 rfl rfl h32)) rfl ?_
              refine SJ.storeRL (k := 1) (i := (Int.toNat e29)) (off := 0) (us := [.int .i64 at25]) (b := at25) rfl rfl (idx_get h32) rfl rfl Tryd.sizeOf2 rfl rfl rfl ?_
              refine SJ.nil ?_
              refine PJ.block_normal (PJ.next ?_)
              refine WJ.quiet ?_
              refine QJ.step (YldS.yld (y_move rfl)) rfl ?_
              refine QJ.step (YldS.yld (y_bin rfl rfl rfl)) rfl ?_
              refine QJ.step (YldS.yld (y_assign rfl)) rfl ?_
              refine QJ.done ?_
              exact PJ.round ((List.set l20 (Int.toNat e29) at25), w64 (i21 + 1)) [0, 1] hm ⟨rfl, rfl, rfl, rfl, trivial⟩ ⟨by decide, rfl⟩
          · replace hm := ifF hm hb22
            refine WJ.exit ?_
            refine PJ.then_exit (PJ.then_exit (PJ.block_exit ?_))
            exact PJ.joined l20 [1] hm ⟨rfl, trivial⟩ ⟨by decide, rfl⟩
      · rintro l17 hm
        subst hk19
        refine WJ.seq ?_
        refine WJ.quiet ?_
        refine QJ.step (YldS.yld (y_move rfl)) rfl ?_
        refine QJ.step (YldS.yld (y_assign rfl)) rfl ?_
        refine QJ.step (YldS.yld (y_assign rfl)) rfl ?_
        refine QJ.done ?_
        refine PJ.next ?_
        refine WJ.ret ?_
        obtain rfl := Option.some.inj hm
        refine PJ.sel (L' := [row v13 2 fI64 l17]) [0] ⟨by decide, rfl⟩ ?_
        exact PJ.retn (vs := [v13, .int .i64 0]) Tryd.results7 ⟨rfl, rfl, trivial⟩ ⟨_, rfl, rfl⟩

set_option maxRecDepth 100000 in
set_option maxHeartbeats 1000000 in
theorem ok_i_RankResults {N : Nat} {list1 : List Result} {r : (List Int) × Int} (hm : i_RankResults N list1 = some r) (w : World) (v2 : Value) (hr3 : RdS w (cx w).Fz v2 fResult.rp list1) :
    Calls Tryd.prog 8 #[v2] w (RetG (cx w) fun u L => ∃ (u1 : Value), (u = tup [u1, .int .i64 r.2] ∧ L = [row u1 2 fI64 r.1])) := by
  unfold i_RankResults at hm
  refine Calls.enter [v2] Tryd.func8 rfl Tryd.ntmps8 rfl ?_
  refine WJ.seq ?_
  refine WJ.quiet ?_
  refine QJ.step (YldS.yld (y_assign rfl)) rfl ?_
  refine QJ.step (YldS.yld (y_assign rfl)) rfl ?_
  refine QJ.done ?_
  refine PJ.next ?_
  refine WJ.seq ?_
  refine WJ.seq ?_
  refine WJ.quiet ?_
  refine QJ.step (YldS.yld (y_move rfl)) rfl ?_
  obtain ⟨r4, h5, hm⟩ := bindS hm
  refine QJ.step (y_call Tryd.call24 rfl (RetG.quiet fun w hw => ok_i_ValidResults h5 w _ (hr3.st hw))) rfl ?_
  refine QJ.step (YldS.yld (y_not rfl)) rfl ?_
  refine QJ.done ?_
  refine PJ.next ?_
  refine WJ.cond (t := !r4) rfl (fun hb6 => ?_) (fun hb6 => ?_)
  · replace hm := ifT hm hb6
    refine WJ.seq ?_
    refine WJ.quiet ?_
    refine QJ.step (YldS.yld (y_assign rfl)) rfl ?_
    refine QJ.step (YldS.yld (y_assign rfl)) rfl ?_
    refine QJ.done ?_
    refine PJ.next ?_
    refine WJ.ret ?_
    refine PJ.then_ret ?_
    refine PJ.nil_row 2 fI64 ?_
    obtain rfl := Option.some.inj hm
    refine PJ.sel (L' := [row (.slice none 0 0) 2 fI64 []]) [0] ⟨by decide, rfl⟩ ?_
    exact PJ.retn (vs := [(.slice none 0 0), .int .i64 1]) Tryd.results8 ⟨rfl, rfl, trivial⟩ ⟨_, rfl, rfl⟩
  · replace hm := ifF hm hb6
    refine WJ.skip ?_
    refine PJ.next ?_
    refine WJ.seq ?_
    refine WJ.reg ?_
    refine SJ.q (YldS.yld (y_move rfl)) rfl ?_
    obtain ⟨r7, h8, hm⟩ := bindS hm
    refine SJ.call Tryd.call32 rfl (fun w hw => ok_i_ranking h8 w _ (hr3.st hw)) rfl ?_
    rintro v9 _ ⟨_, rfl, rfl⟩
    refine SJ.q (YldS.yld (y_assign rfl)) rfl ?_
    refine SJ.q (YldS.yld (y_assign rfl)) rfl ?_
    refine SJ.nil ?_
    refine PJ.next ?_
    refine WJ.ret ?_
    obtain rfl := Option.some.inj hm
    refine PJ.sel (L' := [row v9 2 fI64 r7]) [0] ⟨by decide, rfl⟩ ?_
    exact PJ.retn (vs := [v9, .int .i64 0]) Tryd.results8 ⟨rfl, rfl, trivial⟩ ⟨_, rfl, rfl⟩

set_option maxRecDepth 100000 in
set_option maxHeartbeats 1000000 in
theorem ok_s_RankResults {N : Nat} {list1 : List Result} {r : (List Int) × Int} (hm : s_RankResults N list1 = some r) (w : World) (v2 : Value) (hr3 : RdS w (cx w).Fz v2 fResult.rp list1) :
    Calls Tryd.prog 9 #[v2] w (RetG (cx w) fun u L => ∃ (u1 : Value), (u = tup [u1, .int .i64 r.2] ∧ L = [row u1 2 fI64 r.1])) := by
  unfold s_RankResults at hm
  refine Calls.enter [v2] Tryd.func9 rfl Tryd.ntmps9 rfl ?_
  refine WJ.seq ?_
  refine WJ.quiet ?_
  refine QJ.step (YldS.yld (y_assign rfl)) rfl ?_
  refine QJ.step (YldS.yld (y_assign rfl)) rfl ?_
  refine QJ.done ?_
  refine PJ.next ?_
  refine WJ.seq ?_
  refine WJ.seq ?_
  refine WJ.quiet ?_
  refine QJ.step (YldS.yld (y_move rfl)) rfl ?_
  obtain ⟨r4, h5, hm⟩ := bindS hm
  refine QJ.step (y_call Tryd.call33 rfl (RetG.quiet fun w hw => ok_s_l22Ok h5 w _ (hr3.st hw))) rfl ?_
  refine QJ.step (YldS.yld (y_not rfl)) rfl ?_
  refine QJ.done ?_
  refine PJ.next ?_
  refine WJ.cond (t := !r4) rfl (fun hb6 => ?_) (fun hb6 => ?_)
  · replace hm := ifT hm hb6
    refine WJ.seq ?_
    refine WJ.quiet ?_
    refine QJ.step (YldS.yld (y_assign rfl)) rfl ?_
    refine QJ.step (YldS.yld (y_assign rfl)) rfl ?_
    refine QJ.done ?_
    refine PJ.next ?_
    refine WJ.ret ?_
    refine PJ.then_ret ?_
    refine PJ.nil_row 2 fI64 ?_
    obtain rfl := Option.some.inj hm
    refine PJ.sel (L' := [row (.slice none 0 0) 2 fI64 []]) [0] ⟨by decide, rfl⟩ ?_
    exact PJ.retn (vs := [(.slice none 0 0), .int .i64 1]) Tryd.results9 ⟨rfl, rfl, trivial⟩ ⟨_, rfl, rfl⟩
  · replace hm := ifF hm hb6
    refine WJ.skip ?_
    refine PJ.next ?_
    refine WJ.seq ?_
    refine WJ.reg ?_
    refine SJ.q (YldS.yld (y_move rfl)) rfl ?_
    obtain ⟨r7, h8, hm⟩ := bindS hm
    refine SJ.call Tryd.call35 rfl (fun w hw => ok_s_l22Rank h8 w _ (hr3.st hw)) rfl ?_
    rintro v9 _ ⟨_, rfl, rfl⟩
    refine SJ.q (YldS.yld (y_assign rfl)) rfl ?_
    refine SJ.q (YldS.yld (y_assign rfl)) rfl ?_
    refine SJ.nil ?_
    refine PJ.next ?_
    refine WJ.ret ?_
    obtain rfl := Option.some.inj hm
    refine PJ.sel (L' := [row v9 2 fI64 r7]) [0] ⟨by decide, rfl⟩ ?_
    exact PJ.retn (vs := [v9, .int .i64 0]) Tryd.results9 ⟨rfl, rfl, trivial⟩ ⟨_, rfl, rfl⟩

set_option maxRecDepth 100000 in
set_option maxHeartbeats 1000000 in
theorem ok_i_ties {N : Nat} {list1 : List Result} {r : (List Tied)} (hm : i_ties N list1 = some r) (w : World) (v2 : Value) (hr3 : RdS w (cx w).Fz v2 fResult.rp list1) :
    Calls Tryd.prog 36 #[v2] w (RetG (cx w) fun u L => ∃ (u1 : Value) (u2 : List (Raw 2)), (u = u1 ∧ L = [row u1 58 fRaw2 u2, ins shTied 2 fI64 u2 r])) := by
  unfold i_ties at hm
  refine Calls.enter [v2] Tryd.func36 rfl Tryd.ntmps36 rfl ?_
  refine WJ.seq ?_
  refine WJ.quiet ?_
  refine QJ.step (YldS.yld (y_assign rfl)) rfl ?_
  refine QJ.done ?_
  refine PJ.next ?_
  refine WJ.seq ?_
  refine WJ.reg ?_
  refine SJ.buildSlice (R := fRaw2) (os := []) ([] : List (Raw 2)) Tryd.runUnderlying55 Tryd.sizeOf58 Tryd.zeroValue58 rfl rfl rfl rfl rfl rfl fun v4 => ?_
  refine SJ.ins_nil shTied 2 fI64 ?_
  refine SJ.q (YldS.yld (y_assign rfl)) rfl ?_
  refine SJ.nil ?_
  refine PJ.next ?_
  obtain ⟨kj8, hk9, hm⟩ := withK_open hm
  refine WJ.join (X := (List Tied) × (List (Raw 2)) × Value) (fun (x : (List Tied) × (List (Raw 2)) × Value) => kj8 x.1 = some r) (fun (x : (List Tied) × (List (Raw 2)) × Value) => [(3, x.2.2)]) (fun (x : (List Tied) × (List (Raw 2)) × Value) => [ins shTied 2 fI64 x.2.1 x.1, row x.2.2 58 fRaw2 x.2.1]) ?_ ?_
  · clear hk9
    refine WJ.seq ?_
    refine WJ.reg ?_
    refine SJ.q (YldS.yld (y_move rfl)) rfl ?_
    obtain ⟨r10, h11, hm⟩ := bindS hm
    refine SJ.call Tryd.call32 rfl (fun w hw => ok_i_ranking h11 w _ (hr3.st hw)) rfl ?_
    rintro v12 _ ⟨_, rfl, rfl⟩
    refine SJ.q (YldS.yld (y_lenRow (k := 0) rfl Tryd.runUnderlying27 rfl)) rfl ?_
    refine SJ.q (YldS.yld (y_move rfl)) rfl ?_
    refine SJ.nil ?_
    refine PJ.next ?_
    refine WJ.block ?_
    refine WJ.sel (L' := (fun (x : (List Tied) × (List (Raw 2)) × Value × Int) => [row v12 2 fI64 r10, ins shTied 2 fI64 x.2.1 x.1, row x.2.2.1 58 fRaw2 x.2.1]) (([] : List Tied), ([] : List (Raw 2)), v4, 0)) [0, 1, 2] ⟨by decide, rfl⟩ ?_
    refine WJ.sub (m' := (fun (x : (List Tied) × (List (Raw 2)) × Value × Int) => [(0, v2), (3, x.2.2.1), (9, v12), (10, .int .i64 (List.length r10 : Int)), (11, .int .i64 x.2.2.2)]) (([] : List Tied), ([] : List (Raw 2)), v4, 0)) ⟨rfl, rfl, rfl, rfl, rfl, trivial⟩ ?_
    refine WJ.loop (X := (List Tied) × (List (Raw 2)) × Value × Int) (fun N (x : (List Tied) × (List (Raw 2)) × Value × Int) => i_ties_l1 kj8 list1 r10 N x.1 x.2.2.2 = some r) (fun (x : (List Tied) × (List (Raw 2)) × Value × Int) => [(0, v2), (3, x.2.2.1), (9, v12), (10, .int .i64 (List.length r10 : Int)), (11, .int .i64 x.2.2.2)]) (fun (x : (List Tied) × (List (Raw 2)) × Value × Int) => [row v12 2 fI64 r10, ins shTied 2 fI64 x.2.1 x.1, row x.2.2.1 58 fRaw2 x.2.1]) ?_ N (([] : List Tied), ([] : List (Raw 2)), v4, 0) hm
    · rintro N ⟨l13, vs14, v15, x16⟩ hI
      have hm := hI; clear hI
      cases N with
      | zero => cases hm
      | succ N =>
      unfold i_ties_l1 at hm
      refine WJ.seq ?_
      refine WJ.quiet ?_
      refine QJ.step (YldS.yld (y_bin rfl rfl rfl)) rfl ?_
      refine QJ.done ?_
      refine PJ.next ?_
      refine WJ.seq ?_
      refine WJ.cond (t := decide (x16 < (List.length r10 : Int))) rfl (fun hb17 => ?_) (fun hb17 => ?_)
      · replace hm := ifT hm hb17
        refine WJ.skip ?_
        refine PJ.next ?_
        obtain ⟨kj21, hk22, hm⟩ := withK_open hm
        refine WJ.join (X := (List Tied) × (List (Raw 2)) × Value) (fun (x : (List Tied) × (List (Raw 2)) × Value) => kj21 x.1 = some r) (fun (x : (List Tied) × (List (Raw 2)) × Value) => [(0, v2), (3, x.2.2), (9, v12), (10, .int .i64 (List.length r10 : Int)), (11, .int .i64 x16)]) (fun (x : (List Tied) × (List (Raw 2)) × Value) => [ins shTied 2 fI64 x.2.1 x.1, row v12 2 fI64 r10, row x.2.2 58 fRaw2 x.2.1]) ?_ ?_
        · clear hk22
          refine WJ.block ?_
          refine WJ.seq ?_
          refine WJ.quiet ?_
          refine QJ.step (YldS.yld (y_move rfl)) rfl ?_
          obtain ⟨e23, h24, hm⟩ := bindS hm
          refine QJ.step (YldS.yld (y_ixRow (k := 0) (R := fI64) rfl Tryd.runUnderlying27 Tryd.sizeOf2 rfl rfl h24)) rfl ?_
          refine QJ.step (YldS.yld (y_loadR (k := 0) (i := (Int.toNat x16)) (off := 0) (u := .int .i64 e23) rfl Tryd.isAgg2 rfl (idx_get h24) rfl)) rfl ?_
          refine QJ.step (YldS.yld (y_assign rfl)) rfl ?_
          refine QJ.step (YldS.yld (y_assign rfl)) rfl ?_
          refine QJ.done ?_
          refine PJ.next ?_
          refine WJ.seq ?_
          refine WJ.quiet ?_
          refine QJ.step (YldS.yld (y_move rfl)) rfl ?_
          refine QJ.step (YldS.yld (y_lenSh (k := 2) (j := 1) rfl rfl Tryd.runUnderlying55 rfl)) rfl ?_
          refine QJ.step (YldS.yld (y_bin rfl rfl rfl)) rfl ?_
          refine QJ.step (YldS.yld (y_assign rfl)) rfl ?_
          refine QJ.done ?_
          refine PJ.next ?_
          refine WJ.seq ?_
          refine WJ.ins_len 1 rfl fun hl25 => ?_
          refine WJ.quiet_draw follows (by kernel_rfl) ?_
          refine QJ.step (YldS.yld (y_move rfl)) rfl ?_
          refine QJ.step (YldS.yld (y_bin rfl rfl rfl)) rfl ?_
          refine QJ.step (YldS.yld (y_move rfl)) rfl ?_
          obtain ⟨t26, h27, hm⟩ := bindS hm
          refine QJ.cut 17 [(0, v2), (3, v15), (4, .int .i64 x16), (5, .int .i64 e23), (6, .int .i64 (w64 ((List.length l13 : Int) - 1))), (9, v12), (10, .int .i64 (List.length r10 : Int)), (11, .int .i64 x16), (38, .bool t26)] ?_ ?_
          · rcases Bool.eq_false_or_eq_true (decide ((w64 ((List.length l13 : Int) - 1)) ≥ 0)) with hb28 | hb28
            · replace h27 := andT h27 hb28
              refine QJ.on rfl rfl (cB hb28) (YldS.yld (y_move rfl)) rfl ?_
              refine QJ.on rfl rfl (cB hb28) (YldS.yld (y_move rfl)) rfl ?_
              refine QJ.on rfl rfl (cB hb28) (YldS.yld (y_move rfl)) rfl ?_
              obtain ⟨e29, h30, h27⟩ := bindS h27
              obtain ⟨y31, hy32⟩ := inn_idx hl25.1 h30
              obtain hs33 := hl25.2 _ _ _ hy32 h30
              refine QJ.on rfl rfl (cB hb28) (YldS.yld (y_ixRow (k := 2) (R := fRaw2) rfl Tryd.runUnderlying55 Tryd.sizeOf58 rfl rfl hy32)) rfl ?_
              refine QJ.on rfl rfl (cB hb28) (YldS.yld (y_fldR fld58_1 rfl)) rfl ?_
              refine QJ.on rfl rfl (cB hb28) (YldS.yld (y_loadR (k := 2) (i := (Int.toNat (w64 ((List.length l13 : Int) - 1)))) (off := 1) (u := (shTied.sl y31)) rfl Tryd.isAgg27 rfl (idx_get hy32) (sh_cell hs33 rfl))) rfl ?_
              obtain ⟨e34, h35, h27⟩ := bindS h27
              refine QJ.on rfl rfl (cB hb28) (YldS.yld (y_ixG (R := fI64) (fun w hw => (hw.ins_rd (k := 1) rfl rfl hy32 h30)) Tryd.runUnderlying27 Tryd.sizeOf2 rfl rfl h35)) rfl ?_
              refine QJ.on rfl rfl (cB hb28) (YldS.yld (y_loadG (R := fI64) (i := (Int.toNat 0)) (off := 0) (fun w hw => (hw.ins_rd (k := 1) rfl rfl hy32 h30)) Tryd.isAgg2 rfl (idx_get h35) rfl)) rfl ?_
              obtain ⟨e36, h37, h27⟩ := bindS h27
              obtain ⟨ad38, _, rfl, ha39, hy40⟩ := hr3.elem h37
              refine QJ.on rfl rfl (cB hb28) (YldS.yld (hy40 Tryd.runUnderlying24 Tryd.sizeOf46 rfl rfl)) rfl ?_
              refine QJ.on rfl rfl (cB hb28) (YldS.yld (y_loadN Tryd.isAgg46 Tryd.sizeOf46 rfl ha39 St.frozenC rfl)) rfl ?_
              refine QJ.on rfl rfl (cB hb28) (YldS.yld (y_move rfl)) rfl ?_
              refine QJ.on rfl rfl (cB hb28) (YldS.yld (y_move rfl)) rfl ?_
              obtain ⟨e41, h42, h27⟩ := bindS h27
              obtain ⟨ad43, _, rfl, ha44, hy45⟩ := hr3.elem h42
              refine QJ.on rfl rfl (cB hb28) (YldS.yld (hy45 Tryd.runUnderlying24 Tryd.sizeOf46 rfl rfl)) rfl ?_
              refine QJ.on rfl rfl (cB hb28) (YldS.yld (y_loadN Tryd.isAgg46 Tryd.sizeOf46 rfl ha44 St.frozenC rfl)) rfl ?_
              obtain ⟨r46, h47, h27⟩ := bindS h27
              refine QJ.on rfl rfl (cB hb28) (y_call Tryd.call42 rfl (RetG.quiet fun w hw => ok_i_Result_better h47 w )) rfl ?_
              refine QJ.on rfl rfl (cB hb28) (YldS.yld (y_not rfl)) rfl ?_
              refine QJ.step (YldS.yld (y_pick_t (cB hb28) rfl)) rfl ?_
              obtain rfl := Option.some.inj h27
              exact QJ.cut_end ⟨rfl, rfl, rfl, rfl, rfl, rfl, rfl, rfl, rfl, trivial⟩
            · obtain rfl := andF h27 hb28
              refine QJ.off rfl rfl (cB hb28) rfl rfl ?_
              refine QJ.off rfl rfl (cB hb28) rfl rfl ?_
              refine QJ.off rfl rfl (cB hb28) rfl rfl ?_
              refine QJ.off rfl rfl (cB hb28) rfl rfl ?_
              refine QJ.off rfl rfl (cB hb28) rfl rfl ?_
              refine QJ.off rfl rfl (cB hb28) rfl rfl ?_
              refine QJ.off rfl rfl (cB hb28) rfl rfl ?_
              refine QJ.off rfl rfl (cB hb28) rfl rfl ?_
              refine QJ.off rfl rfl (cB hb28) rfl rfl ?_
              refine QJ.off rfl rfl (cB hb28) rfl rfl ?_
              refine QJ.off rfl rfl (cB hb28) rfl rfl ?_
              refine QJ.off rfl rfl (cB hb28) rfl rfl ?_
              refine QJ.off rfl rfl (cB hb28) rfl rfl ?_
              refine QJ.off rfl rfl (cB hb28) rfl rfl ?_
              refine QJ.off rfl rfl (cB hb28) rfl rfl ?_
              refine QJ.off rfl rfl (cB hb28) rfl rfl ?_
              refine QJ.step (YldS.yld (y_pick_f (cB hb28) rfl)) rfl ?_
              exact QJ.cut_end ⟨rfl, rfl, rfl, rfl, rfl, rfl, rfl, rfl, rfl, trivial⟩
          refine QJ.done ?_
          refine PJ.next ?_
          refine WJ.cond (t := t26) rfl (fun hb48 => ?_) (fun hb48 => ?_)
          · replace hm := ifT hm hb48
            refine WJ.ins_len 1 rfl fun hl49 => ?_
            refine WJ.reg ?_
            refine SJ.q (YldS.yld (y_move rfl)) rfl ?_
            refine SJ.q (YldS.yld (y_move rfl)) rfl ?_
            refine SJ.q (YldS.yld (y_move rfl)) rfl ?_
            refine SJ.q (YldS.yld (y_move rfl)) rfl ?_
            obtain ⟨e50, h51, hm⟩ := bindS hm
            obtain ⟨y52, hy53⟩ := inn_idx hl49.1 h51
            obtain hs54 := hl49.2 _ _ _ hy53 h51
            refine SJ.q (YldS.yld (y_ixRow (k := 2) (R := fRaw2) rfl Tryd.runUnderlying55 Tryd.sizeOf58 rfl rfl hy53)) rfl ?_
            refine SJ.q (YldS.yld (y_fldR fld58_1 rfl)) rfl ?_
            refine SJ.insOpen 1 rfl hy53 h51 ?_
            refine SJ.q (YldS.yld (y_loadR (k := 3) (i := (Int.toNat (w64 ((List.length l13 : Int) - 1)))) (off := 1) (u := (shTied.sl y52)) rfl Tryd.isAgg27 rfl (idx_get hy53) (sh_cell hs54 rfl))) rfl ?_
            refine SJ.q (YldS.yld (y_move rfl)) rfl ?_
            refine SJ.buildSlice (R := fI64) (os := [.tmp 46]) [e23] Tryd.runUnderlying27 Tryd.sizeOf2 Tryd.zeroValue2 rfl rfl rfl rfl rfl rfl fun v55 => ?_
            obtain ⟨l56, h57, hm⟩ := bindS hm
            refine SJ.append (k := 1) (R := fI64) h57 rfl Tryd.underlying27 el2 rfl rfl rfl (fun w hw => (hw.row_rd (k := 0) rfl)) rfl fun v58 => ?_
            obtain ⟨e59, h60, hm⟩ := bindS hm
            obtain ⟨y61, hy62⟩ := inn_idx hl49.1 h60
            obtain hs63 := hl49.2 _ _ _ hy62 h60
            refine SJ.q (YldS.yld (y_ixRow (k := 4) (R := fRaw2) rfl Tryd.runUnderlying55 Tryd.sizeOf58 rfl rfl hy62)) rfl ?_
            refine SJ.q (YldS.yld (y_fldR fld58_1 rfl)) rfl ?_
            refine SJ.rowCells (k := 1) rfl fun hc64 => ?_
            refine SJ.storeRL (k := 4) (i := (Int.toNat (w64 ((List.length l13 : Int) - 1)))) (off := 1) (us := [v58]) (b := (rawPut y61 1 [v58] rfl (by simp [hc64.2]))) rfl rfl (idx_get hy62) rfl hc64.1 Tryd.sizeOf27 rfl (by simp [hc64.2]) rfl ?_
            refine SJ.sel (L' := [row v58 2 fI64 l56, inh (Int.toNat (w64 ((List.length l13 : Int) - 1))) shTied 2 fI64 vs14 l13, row v55 2 fI64 [e23], row v12 2 fI64 r10, row v15 58 fRaw2 (List.set vs14 (Int.toNat (w64 ((List.length l13 : Int) - 1))) (rawPut y61 1 [v58] rfl (by simp [hc64.2])))]) [1, 3, 0, 2, 4] ⟨by decide, rfl⟩ ?_
            refine SJ.star ?_
            refine SJ.conv0 (fun w S h => inh_close (H := shTied) (lx := l56) (i0 := w64 ((List.length l13 : Int) - 1)) (y' := (rawPut y61 1 [v58] rfl (by simp [hc64.2]))) (x' := (Tied.mk e59.place l56)) ((congrArg (fun z => putL z 1 [v58]) hs63).trans rfl) rfl h) ?_
            refine SJ.nil ?_
            refine PJ.block_normal ?_
            exact PJ.joined ((List.set l13 (Int.toNat (w64 ((List.length l13 : Int) - 1))) (Tied.mk e59.place l56)), (List.set vs14 (Int.toNat (w64 ((List.length l13 : Int) - 1))) (rawPut y61 1 [v58] rfl (by simp [hc64.2]))), v15) [0, 2, 3] hm ⟨rfl, rfl, rfl, rfl, rfl, trivial⟩ ⟨by decide, rfl⟩
          · replace hm := ifF hm hb48
            refine WJ.reg ?_
            refine SJ.q (YldS.yld (y_move rfl)) rfl ?_
            refine SJ.q (YldS.yld (y_move rfl)) rfl ?_
            refine SJ.q (YldS.yld (y_bin rfl rfl rfl)) rfl ?_
            refine SJ.q (YldS.yld (y_move rfl)) rfl ?_
            refine SJ.buildSlice (R := fI64) (os := [.tmp 54]) [e23] Tryd.runUnderlying27 Tryd.sizeOf2 Tryd.zeroValue2 rfl rfl rfl rfl rfl rfl fun v65 => ?_
            refine SJ.rowCells (k := 0) rfl fun hc66 => ?_
            refine SJ.q (YldS.yld (y_build (parts := [(0, .tmp 53), (1, .tmp 55)]) (places := [(0, 1), (1, 1)]) (r := [.int .i64 (w64 (x16 + 1)), v65]) pl58 Tryd.zeroValue58 rfl rfl (show _ = [(0, [.int .i64 (w64 (x16 + 1))]), (1, [v65])] from by simp only [List.map, hc66.1]; try rfl) rfl)) rfl ?_
            refine SJ.rowCells (k := 0) rfl fun hc67 => ?_
            refine SJ.buildSlice (R := fRaw2) (os := [.tmp 56]) ([mkRaw (n := 2) (shTied.enc v65 (Tied.mk (w64 (x16 + 1)) [e23])) (shTied.len _ _) (shTied.one _ _ hc67.2)] : List (Raw 2)) Tryd.runUnderlying55 Tryd.sizeOf58 Tryd.zeroValue58 rfl rfl rfl rfl rfl rfl fun v68 => ?_
            refine SJ.ins_nil shTied 2 fI64 ?_
            refine SJ.sel (L' := [row v65 2 fI64 [e23], ins shTied 2 fI64 [] ([] : List Tied), row v68 58 fRaw2 ([mkRaw (n := 2) (shTied.enc v65 (Tied.mk (w64 (x16 + 1)) [e23])) (shTied.len _ _) (shTied.one _ _ hc67.2)] : List (Raw 2)), row v12 2 fI64 r10, ins shTied 2 fI64 vs14 l13, row v15 58 fRaw2 vs14]) [2, 0, 1, 3, 4, 5] ⟨by decide, rfl⟩ ?_
            refine SJ.star ?_
            refine SJ.conv0 (fun w S h => ins_push (H := shTied) (lx := [e23]) (y := mkRaw (n := 2) (shTied.enc v65 (Tied.mk (w64 (x16 + 1)) [e23])) (shTied.len _ _) (shTied.one _ _ hc67.2)) (x := (Tied.mk (w64 (x16 + 1)) [e23])) rfl rfl h) ?_
            refine SJ.conv0 (B := ins shTied 2 fI64 ([mkRaw (n := 2) (shTied.enc v65 (Tied.mk (w64 (x16 + 1)) [e23])) (shTied.len _ _) (shTied.one _ _ hc67.2)] : List (Raw 2)) ([(Tied.mk (w64 (x16 + 1)) [e23])] : List Tied)) (fun w S h => h) ?_
            refine SJ.ins_len 3 rfl fun hl69 => ?_
            refine SJ.ins_len 0 rfl fun hl70 => ?_
            obtain ⟨l71, h72, hm⟩ := bindS hm
            refine SJ.append (k := 4) (R := fRaw2) (app_raw h72 hl69.1 hl70.1) rfl Tryd.underlying55 el58 rfl rfl rfl (fun w hw => (hw.row_rd (k := 1) rfl)) rfl fun v73 => ?_
            refine SJ.sel (L' := [ins shTied 2 fI64 vs14 l13, ins shTied 2 fI64 ([mkRaw (n := 2) (shTied.enc v65 (Tied.mk (w64 (x16 + 1)) [e23])) (shTied.len _ _) (shTied.one _ _ hc67.2)] : List (Raw 2)) ([(Tied.mk (w64 (x16 + 1)) [e23])] : List Tied), row v68 58 fRaw2 ([mkRaw (n := 2) (shTied.enc v65 (Tied.mk (w64 (x16 + 1)) [e23])) (shTied.len _ _) (shTied.one _ _ hc67.2)] : List (Raw 2)), row v12 2 fI64 r10, row v73 58 fRaw2 (vs14 ++ ([mkRaw (n := 2) (shTied.enc v65 (Tied.mk (w64 (x16 + 1)) [e23])) (shTied.len _ _) (shTied.one _ _ hc67.2)] : List (Raw 2)))]) [3, 0, 1, 2, 4] ⟨by decide, rfl⟩ ?_
            refine SJ.star ?_
            refine SJ.conv0 (fun w S h => ins_app h72 h) ?_
            refine SJ.q (YldS.yld (y_assign rfl)) rfl ?_
            refine SJ.nil ?_
            refine PJ.block_normal ?_
            exact PJ.joined (l71, (vs14 ++ ([mkRaw (n := 2) (shTied.enc v65 (Tied.mk (w64 (x16 + 1)) [e23])) (shTied.len _ _) (shTied.one _ _ hc67.2)] : List (Raw 2))), v73) [0, 2, 3] hm ⟨rfl, rfl, rfl, rfl, rfl, trivial⟩ ⟨by decide, rfl⟩
        · rintro ⟨l18, vs19, v20⟩ hm
          subst hk22
          refine WJ.quiet ?_
          refine QJ.step (YldS.yld (y_bin rfl rfl rfl)) rfl ?_
          refine QJ.step (YldS.yld (y_move rfl)) rfl ?_
          refine QJ.done ?_
          exact PJ.round (l18, vs19, v20, w64 (x16 + 1)) [1, 0, 2] hm ⟨rfl, rfl, rfl, rfl, rfl, trivial⟩ ⟨by decide, rfl⟩
      · replace hm := ifF hm hb17
        refine WJ.exit ?_
        refine PJ.then_exit (PJ.then_exit (PJ.block_exit ?_))
        exact PJ.joined (l13, vs14, v15) [1, 2] hm ⟨rfl, trivial⟩ ⟨by decide, rfl⟩
  · rintro ⟨l5, vs6, v7⟩ hm
    subst hk9
    refine WJ.seq ?_
    refine WJ.quiet ?_
    refine QJ.step (YldS.yld (y_move rfl)) rfl ?_
    refine QJ.step (YldS.yld (y_assign rfl)) rfl ?_
    refine QJ.done ?_
    refine PJ.next ?_
    refine WJ.ret ?_
    obtain rfl := Option.some.inj hm
    refine PJ.sel (L' := [row v7 58 fRaw2 vs6, ins shTied 2 fI64 vs6 l5]) [1, 0] ⟨by decide, rfl⟩ ?_
    exact PJ.retn (vs := [v7]) Tryd.results36 ⟨rfl, trivial⟩ ⟨_, _, rfl, rfl⟩

set_option maxRecDepth 100000 in
set_option maxHeartbeats 1000000 in
theorem ok_i_PlacesOfResults {N : Nat} {list1 : List Result} {r : (List Int) × Int} (hm : i_PlacesOfResults N list1 = some r) (w : World) (v2 : Value) (hr3 : RdS w (cx w).Fz v2 fResult.rp list1) :
    Calls Tryd.prog 10 #[v2] w (RetG (cx w) fun u L => ∃ (u1 : Value), (u = tup [u1, .int .i64 r.2] ∧ L = [row u1 2 fI64 r.1])) := by
  unfold i_PlacesOfResults at hm
  refine Calls.enter [v2] Tryd.func10 rfl Tryd.ntmps10 rfl ?_
  refine WJ.seq ?_
  refine WJ.quiet ?_
  refine QJ.step (YldS.yld (y_assign rfl)) rfl ?_
  refine QJ.step (YldS.yld (y_assign rfl)) rfl ?_
  refine QJ.done ?_
  refine PJ.next ?_
  refine WJ.seq ?_
  refine WJ.seq ?_
  refine WJ.quiet ?_
  refine QJ.step (YldS.yld (y_move rfl)) rfl ?_
  obtain ⟨r4, h5, hm⟩ := bindS hm
  refine QJ.step (y_call Tryd.call24 rfl (RetG.quiet fun w hw => ok_i_ValidResults h5 w _ (hr3.st hw))) rfl ?_
  refine QJ.step (YldS.yld (y_not rfl)) rfl ?_
  refine QJ.done ?_
  refine PJ.next ?_
  refine WJ.cond (t := !r4) rfl (fun hb6 => ?_) (fun hb6 => ?_)
  · replace hm := ifT hm hb6
    refine WJ.seq ?_
    refine WJ.quiet ?_
    refine QJ.step (YldS.yld (y_assign rfl)) rfl ?_
    refine QJ.step (YldS.yld (y_assign rfl)) rfl ?_
    refine QJ.done ?_
    refine PJ.next ?_
    refine WJ.ret ?_
    refine PJ.then_ret ?_
    refine PJ.nil_row 2 fI64 ?_
    obtain rfl := Option.some.inj hm
    refine PJ.sel (L' := [row (.slice none 0 0) 2 fI64 []]) [0] ⟨by decide, rfl⟩ ?_
    exact PJ.retn (vs := [(.slice none 0 0), .int .i64 1]) Tryd.results10 ⟨rfl, rfl, trivial⟩ ⟨_, rfl, rfl⟩
  · replace hm := ifF hm hb6
    refine WJ.skip ?_
    refine PJ.next ?_
    refine WJ.seq ?_
    refine WJ.reg ?_
    refine SJ.q (YldS.yld (y_move rfl)) rfl ?_
    refine SJ.q (YldS.yld (y_lenS Tryd.runUnderlying24 hr3 rfl)) rfl ?_
    obtain ⟨l7, h8, hm⟩ := bindS hm
    refine SJ.makeSlice (R := fI64) (z := 0) h8 Tryd.underlying27 el2 rfl rfl rfl fun v9 => ?_
    refine SJ.q (YldS.yld (y_assign rfl)) rfl ?_
    refine SJ.nil ?_
    refine PJ.next ?_
    obtain ⟨kj11, hk12, hm⟩ := withK_open hm
    refine WJ.join (X := (List Int)) (fun (x : (List Int)) => kj11 x = some r) (fun (x : (List Int)) => [(4, v9)]) (fun (x : (List Int)) => [row v9 2 fI64 x]) ?_ ?_
    · clear hk12
      refine WJ.seq ?_
      refine WJ.reg ?_
      refine SJ.q (YldS.yld (y_move rfl)) rfl ?_
      obtain ⟨r13, h14, hm⟩ := bindS hm
      refine SJ.call Tryd.call36 rfl (fun w hw => ok_i_ties h14 w _ (hr3.st hw)) rfl ?_
      rintro v15 _ ⟨_, vs16, rfl, rfl⟩
      refine SJ.q (YldS.yld (y_lenSh (k := 0) (j := 1) rfl rfl Tryd.runUnderlying55 rfl)) rfl ?_
      refine SJ.q (YldS.yld (y_move rfl)) rfl ?_
      refine SJ.nil ?_
      refine PJ.next ?_
      refine WJ.block ?_
      refine WJ.sel (L' := (fun (x : (List Int) × Int) => [row v15 58 fRaw2 vs16, ins shTied 2 fI64 vs16 r13, row v9 2 fI64 x.1]) (l7, 0)) [0, 1, 2] ⟨by decide, rfl⟩ ?_
      refine WJ.sub (m' := (fun (x : (List Int) × Int) => [(4, v9), (16, v15), (17, .int .i64 (List.length r13 : Int)), (18, .int .i64 x.2)]) (l7, 0)) ⟨rfl, rfl, rfl, rfl, trivial⟩ ?_
      refine WJ.loop (X := (List Int) × Int) (fun N (x : (List Int) × Int) => i_PlacesOfResults_l1 kj11 r13 N x.1 x.2 = some r) (fun (x : (List Int) × Int) => [(4, v9), (16, v15), (17, .int .i64 (List.length r13 : Int)), (18, .int .i64 x.2)]) (fun (x : (List Int) × Int) => [row v15 58 fRaw2 vs16, ins shTied 2 fI64 vs16 r13, row v9 2 fI64 x.1]) ?_ N (l7, 0) hm
      · rintro N ⟨l17, x18⟩ hI
        have hm := hI; clear hI
        cases N with
        | zero => cases hm
        | succ N =>
        unfold i_PlacesOfResults_l1 at hm
        refine WJ.seq ?_
        refine WJ.quiet ?_
        refine QJ.step (YldS.yld (y_bin rfl rfl rfl)) rfl ?_
        refine QJ.done ?_
        refine PJ.next ?_
        refine WJ.seq ?_
        refine WJ.cond (t := decide (x18 < (List.length r13 : Int))) rfl (fun hb19 => ?_) (fun hb19 => ?_)
        · replace hm := ifT hm hb19
          refine WJ.skip ?_
          refine PJ.next ?_
          obtain ⟨kj21, hk22, hm⟩ := withK_open hm
          refine WJ.join (X := (List Int)) (fun (x : (List Int)) => kj21 x = some r) (fun (x : (List Int)) => [(4, v9), (16, v15), (17, .int .i64 (List.length r13 : Int)), (18, .int .i64 x18)]) (fun (x : (List Int)) => [row v15 58 fRaw2 vs16, ins shTied 2 fI64 vs16 r13, row v9 2 fI64 x]) ?_ ?_
          · clear hk22
            refine WJ.block ?_
            refine WJ.seq ?_
            refine WJ.ins_len 1 rfl fun hl23 => ?_
            refine WJ.reg ?_
            obtain ⟨e24, h25, hm⟩ := bindS hm
            obtain ⟨y26, hy27⟩ := inn_idx hl23.1 h25
            obtain hs28 := hl23.2 _ _ _ hy27 h25
            refine SJ.q (YldS.yld (y_ixRow (k := 0) (R := fRaw2) rfl Tryd.runUnderlying55 Tryd.sizeOf58 rfl rfl hy27)) rfl ?_
            refine SJ.q (YldS.yld (y_loadRN (k := 0) (i := (Int.toNat x18)) (off := 0) (us := [.int .i64 e24.place, (shTied.sl y26)]) rfl Tryd.isAgg58 Tryd.sizeOf58 rfl (idx_get hy27) (sh_cells hs28 rfl))) rfl ?_
            refine SJ.alloc (cs := [.int .i64 0, .slice none 0 0]) Tryd.zeroValue58 rfl rfl fun g29 => ?_
            refine SJ.nil_row 2 fI64 ?_
            have hc30 := And.intro True.intro (sh_one hs28)
            refine SJ.storeL (k := 1) (off := 0) (us := [.int .i64 e24.place, (shTied.sl y26)]) rfl rfl rfl rfl Tryd.sizeOf58 rfl (by simp only [List.all_cons, hc30.2]; rfl) ?_
            refine SJ.nil ?_
            refine PJ.next ?_
            refine WJ.seq ?_
            refine WJ.quiet ?_
            refine QJ.step (YldS.yld (y_fldB (o := 0) fld58_1 rfl)) rfl ?_
            refine QJ.step (YldS.yld (y_loadB (k := 1) (off := 1) (v := (shTied.sl y26)) rfl Tryd.isAgg27 rfl rfl)) rfl ?_
            refine QJ.step (YldS.yld (y_lenG (fun w hw => (hw.ins_rd (k := 3) rfl rfl hy27 h25)) Tryd.runUnderlying27 rfl)) rfl ?_
            refine QJ.step (YldS.yld (y_move rfl)) rfl ?_
            refine QJ.done ?_
            refine PJ.next ?_
            refine WJ.block ?_
            refine WJ.sel (L' := (fun (x : (List Int) × Int) => [box g29 58 [.int .i64 e24.place, (shTied.sl y26)], row v15 58 fRaw2 vs16, ins shTied 2 fI64 vs16 r13, row v9 2 fI64 x.1]) (l17, 0)) [1, 2, 3, 4] ⟨by decide, rfl⟩ ?_
            refine WJ.sub (m' := (fun (x : (List Int) × Int) => [(4, v9), (6, pt g29 0), (16, v15), (17, .int .i64 (List.length r13 : Int)), (18, .int .i64 x18), (23, (shTied.sl y26)), (24, .int .i64 (List.length e24.list : Int)), (25, .int .i64 x.2)]) (l17, 0)) ⟨rfl, rfl, rfl, rfl, rfl, rfl, rfl, rfl, trivial⟩ ?_
            refine WJ.loop (X := (List Int) × Int) (fun N (x : (List Int) × Int) => i_PlacesOfResults_l2 kj21 e24 N x.1 x.2 = some r) (fun (x : (List Int) × Int) => [(4, v9), (6, pt g29 0), (16, v15), (17, .int .i64 (List.length r13 : Int)), (18, .int .i64 x18), (23, (shTied.sl y26)), (24, .int .i64 (List.length e24.list : Int)), (25, .int .i64 x.2)]) (fun (x : (List Int) × Int) => [box g29 58 [.int .i64 e24.place, (shTied.sl y26)], row v15 58 fRaw2 vs16, ins shTied 2 fI64 vs16 r13, row v9 2 fI64 x.1]) ?_ N (l17, 0) hm
            · rintro N ⟨l31, x32⟩ hI
              have hm := hI; clear hI
              cases N with
              | zero => cases hm
              | succ N =>
              unfold i_PlacesOfResults_l2 at hm
              refine WJ.seq ?_
              refine WJ.quiet ?_
              refine QJ.step (YldS.yld (y_bin rfl rfl rfl)) rfl ?_
              refine QJ.done ?_
              refine PJ.next ?_
              refine WJ.seq ?_
              refine WJ.cond (t := decide (x32 < (List.length e24.list : Int))) rfl (fun hb33 => ?_) (fun hb33 => ?_)
              · replace hm := ifT hm hb33
                refine WJ.skip ?_
                refine PJ.next ?_
                refine WJ.seq ?_
                refine WJ.block ?_
                refine WJ.seq ?_
                refine WJ.quiet ?_
                obtain ⟨e34, h35, hm⟩ := bindS hm
                refine QJ.step (YldS.yld (y_ixG (R := fI64) (fun w hw => (hw.ins_rd (k := 2) rfl rfl hy27 h25)) Tryd.runUnderlying27 Tryd.sizeOf2 rfl rfl h35)) rfl ?_
                refine QJ.step (YldS.yld (y_loadG (R := fI64) (i := (Int.toNat x32)) (off := 0) (fun w hw => (hw.ins_rd (k := 2) rfl rfl hy27 h25)) Tryd.isAgg2 rfl (idx_get h35) rfl)) rfl ?_
                refine QJ.step (YldS.yld (y_assign rfl)) rfl ?_
                refine QJ.done ?_
                refine PJ.next ?_
                refine WJ.reg ?_
                refine SJ.q (YldS.yld (y_move rfl)) rfl ?_
                refine SJ.q (YldS.yld (y_move rfl)) rfl ?_
                refine SJ.q (YldS.yld (y_fldB (o := 0) fld58_0 rfl)) rfl ?_
                refine SJ.q (YldS.yld (y_loadB (k := 0) (off := 0) (v := .int .i64 e24.place) rfl Tryd.isAgg2 rfl rfl)) rfl ?_
                obtain ⟨e36, h37, hm⟩ := bindS hm
                refine SJ.q (YldS.yld (y_ixRow (k := 3) (R := fI64) rfl Tryd.runUnderlying27 Tryd.sizeOf2 rfl rfl h37)) rfl ?_
                refine SJ.storeRL (k := 3) (i := (Int.toNat e34)) (off := 0) (us := [.int .i64 e24.place]) (b := e24.place) rfl rfl (idx_get h37) rfl rfl Tryd.sizeOf2 rfl rfl rfl ?_
                refine SJ.nil ?_
                refine PJ.block_normal (PJ.next ?_)
                refine WJ.quiet ?_
                refine QJ.step (YldS.yld (y_bin rfl rfl rfl)) rfl ?_
                refine QJ.step (YldS.yld (y_move rfl)) rfl ?_
                refine QJ.done ?_
                exact PJ.round ((List.set l31 (Int.toNat e34) e24.place), w64 (x32 + 1)) [0, 1, 2, 3] hm ⟨rfl, rfl, rfl, rfl, rfl, rfl, rfl, rfl, trivial⟩ ⟨by decide, rfl⟩
              · replace hm := ifF hm hb33
                refine WJ.exit ?_
                refine PJ.then_exit (PJ.then_exit (PJ.block_exit (PJ.block_normal ?_)))
                exact PJ.joined l31 [1, 2, 3] hm ⟨rfl, rfl, rfl, rfl, trivial⟩ ⟨by decide, rfl⟩
          · rintro l20 hm
            subst hk22
            refine WJ.quiet ?_
            refine QJ.step (YldS.yld (y_bin rfl rfl rfl)) rfl ?_
            refine QJ.step (YldS.yld (y_move rfl)) rfl ?_
            refine QJ.done ?_
            exact PJ.round (l20, w64 (x18 + 1)) [0, 1, 2] hm ⟨rfl, rfl, rfl, rfl, trivial⟩ ⟨by decide, rfl⟩
        · replace hm := ifF hm hb19
          refine WJ.exit ?_
          refine PJ.then_exit (PJ.then_exit (PJ.block_exit ?_))
          exact PJ.joined l17 [2] hm ⟨rfl, trivial⟩ ⟨by decide, rfl⟩
    · rintro l10 hm
      subst hk12
      refine WJ.seq ?_
      refine WJ.quiet ?_
      refine QJ.step (YldS.yld (y_move rfl)) rfl ?_
      refine QJ.step (YldS.yld (y_assign rfl)) rfl ?_
      refine QJ.step (YldS.yld (y_assign rfl)) rfl ?_
      refine QJ.done ?_
      refine PJ.next ?_
      refine WJ.ret ?_
      obtain rfl := Option.some.inj hm
      refine PJ.sel (L' := [row v9 2 fI64 l10]) [0] ⟨by decide, rfl⟩ ?_
      exact PJ.retn (vs := [v9, .int .i64 0]) Tryd.results10 ⟨rfl, rfl, trivial⟩ ⟨_, rfl, rfl⟩

set_option maxRecDepth 100000 in
set_option maxHeartbeats 1000000 in
theorem ok_s_l22Place {N : Nat} {list1 : List Result} {k4 : Int} {r : Int} (hm : s_l22Place N list1 k4 = some r) (w : World) (v2 : Value) (hr3 : RdS w (cx w).Fz v2 fResult.rp list1) :
    Calls Tryd.prog 37 #[v2, .int .i64 k4] w (Ret (cx w) (.int .i64 r)) := by
  unfold s_l22Place at hm
  refine Calls.enter [v2, .int .i64 k4] Tryd.func37 rfl Tryd.ntmps37 rfl ?_
  refine WJ.seq ?_
  refine WJ.quiet ?_
  refine QJ.step (YldS.yld (y_assign rfl)) rfl ?_
  refine QJ.done ?_
  refine PJ.next ?_
  refine WJ.seq ?_
  refine WJ.quiet ?_
  refine QJ.step (YldS.yld (y_assign rfl)) rfl ?_
  refine QJ.done ?_
  refine PJ.next ?_
  obtain ⟨kj6, hk7, hm⟩ := withK_open hm
  refine WJ.join (X := Int) (fun (x : Int) => kj6 x = some r) (fun (x : Int) => [(5, .int .i64 x)]) (fun (x : Int) => []) ?_ ?_
  · clear hk7
    refine WJ.seq ?_
    refine WJ.quiet ?_
    refine QJ.step (YldS.yld (y_assign rfl)) rfl ?_
    refine QJ.done ?_
    refine PJ.next ?_
    refine WJ.block ?_
    refine WJ.sel (L' := (fun (x : Int × Int) => []) (1, 0)) [] ⟨List.nodup_nil, rfl⟩ ?_
    refine WJ.sub (m' := (fun (x : Int × Int) => [(0, v2), (1, .int .i64 k4), (5, .int .i64 x.1), (6, .int .i64 x.2)]) (1, 0)) ⟨rfl, rfl, rfl, rfl, trivial⟩ ?_
    refine WJ.loop (X := Int × Int) (fun N (x : Int × Int) => s_l22Place_l1 kj6 list1 k4 N x.1 x.2 = some r) (fun (x : Int × Int) => [(0, v2), (1, .int .i64 k4), (5, .int .i64 x.1), (6, .int .i64 x.2)]) (fun (x : Int × Int) => []) ?_ N (1, 0) hm
    · rintro N ⟨n8, i9⟩ hI
      have hm := hI; clear hI
      cases N with
      | zero => cases hm
      | succ N =>
      unfold s_l22Place_l1 at hm
      refine WJ.seq ?_
      refine WJ.seq ?_
      refine WJ.quiet ?_
      refine QJ.step (YldS.yld (y_move rfl)) rfl ?_
      refine QJ.step (YldS.yld (y_move rfl)) rfl ?_
      refine QJ.step (YldS.yld (y_lenS Tryd.runUnderlying24 hr3 rfl)) rfl ?_
      refine QJ.step (YldS.yld (y_bin rfl rfl rfl)) rfl ?_
      refine QJ.done ?_
      refine PJ.next ?_
      refine WJ.cond (t := decide (i9 < (List.length list1 : Int))) rfl (fun hb10 => ?_) (fun hb10 => ?_)
      · replace hm := ifT hm hb10
        refine WJ.skip ?_
        refine PJ.next ?_
        obtain ⟨kj12, hk13, hm⟩ := withK_open hm
        refine WJ.join (X := Int) (fun (x : Int) => kj12 x = some r) (fun (x : Int) => [(0, v2), (1, .int .i64 k4), (5, .int .i64 x), (6, .int .i64 i9)]) (fun (x : Int) => []) ?_ ?_
        · clear hk13
          refine WJ.block ?_
          refine WJ.seq ?_
          refine WJ.quiet_draw follows (by kernel_rfl) ?_
          refine QJ.step (YldS.yld (y_move rfl)) rfl ?_
          refine QJ.step (YldS.yld (y_move rfl)) rfl ?_
          obtain ⟨e14, h15, hm⟩ := bindS hm
          obtain ⟨ad16, _, rfl, ha17, hy18⟩ := hr3.elem h15
          refine QJ.step (YldS.yld (hy18 Tryd.runUnderlying24 Tryd.sizeOf46 rfl rfl)) rfl ?_
          refine QJ.step (YldS.yld (y_move rfl)) rfl ?_
          refine QJ.step (YldS.yld (y_move rfl)) rfl ?_
          obtain ⟨e19, h20, hm⟩ := bindS hm
          obtain ⟨ad21, _, rfl, ha22, hy23⟩ := hr3.elem h20
          refine QJ.step (YldS.yld (hy23 Tryd.runUnderlying24 Tryd.sizeOf46 rfl rfl)) rfl ?_
          obtain ⟨r24, h25, hm⟩ := bindS hm
          refine QJ.step (y_call Tryd.call43 rfl (RetG.quiet fun w hw => ok_s_l22Better h25 w _ (ha17.st hw) _ (ha22.st hw))) rfl ?_
          refine QJ.done ?_
          refine PJ.next ?_
          refine WJ.cond (t := r24) rfl (fun hb26 => ?_) (fun hb26 => ?_)
          · replace hm := ifT hm hb26
            refine WJ.quiet ?_
            refine QJ.step (YldS.yld (y_move rfl)) rfl ?_
            refine QJ.step (YldS.yld (y_bin rfl rfl rfl)) rfl ?_
            refine QJ.step (YldS.yld (y_assign rfl)) rfl ?_
            refine QJ.done ?_
            refine PJ.block_normal ?_
            exact PJ.joined (w64 (n8 + 1)) [] hm ⟨rfl, rfl, rfl, rfl, trivial⟩ ⟨List.nodup_nil, rfl⟩
          · replace hm := ifF hm hb26
            refine WJ.skip ?_
            refine PJ.block_normal ?_
            exact PJ.joined n8 [] hm ⟨rfl, rfl, rfl, rfl, trivial⟩ ⟨List.nodup_nil, rfl⟩
        · rintro n11 hm
          subst hk13
          refine WJ.quiet ?_
          refine QJ.step (YldS.yld (y_move rfl)) rfl ?_
          refine QJ.step (YldS.yld (y_bin rfl rfl rfl)) rfl ?_
          refine QJ.step (YldS.yld (y_assign rfl)) rfl ?_
          refine QJ.done ?_
          exact PJ.round (n11, w64 (i9 + 1)) [] hm ⟨rfl, rfl, rfl, rfl, trivial⟩ ⟨List.nodup_nil, rfl⟩
      · replace hm := ifF hm hb10
        refine WJ.exit ?_
        refine PJ.then_exit (PJ.then_exit (PJ.block_exit ?_))
        exact PJ.joined n8 [] hm ⟨rfl, trivial⟩ ⟨List.nodup_nil, rfl⟩
  · rintro n5 hm
    subst hk7
    refine WJ.seq ?_
    refine WJ.quiet ?_
    refine QJ.step (YldS.yld (y_move rfl)) rfl ?_
    refine QJ.step (YldS.yld (y_assign rfl)) rfl ?_
    refine QJ.done ?_
    refine PJ.next ?_
    refine WJ.ret ?_
    obtain rfl := Option.some.inj hm
    refine PJ.sel (L' := []) [] ⟨List.nodup_nil, rfl⟩ ?_
    exact PJ.retn (vs := [.int .i64 n5]) Tryd.results37 ⟨rfl, trivial⟩ ⟨rfl, rfl⟩

set_option maxRecDepth 100000 in
set_option maxHeartbeats 1000000 in
theorem ok_s_PlacesOfResults {N : Nat} {list1 : List Result} {r : (List Int) × Int} (hm : s_PlacesOfResults N list1 = some r) (w : World) (v2 : Value) (hr3 : RdS w (cx w).Fz v2 fResult.rp list1) :
    Calls Tryd.prog 11 #[v2] w (RetG (cx w) fun u L => ∃ (u1 : Value), (u = tup [u1, .int .i64 r.2] ∧ L = [row u1 2 fI64 r.1])) := by
  unfold s_PlacesOfResults at hm
  refine Calls.enter [v2] Tryd.func11 rfl Tryd.ntmps11 rfl ?_
  refine WJ.seq ?_
  refine WJ.quiet ?_
  refine QJ.step (YldS.yld (y_assign rfl)) rfl ?_
  refine QJ.step (YldS.yld (y_assign rfl)) rfl ?_
  refine QJ.done ?_
  refine PJ.next ?_
  refine WJ.seq ?_
  refine WJ.seq ?_
  refine WJ.quiet ?_
  refine QJ.step (YldS.yld (y_move rfl)) rfl ?_
  obtain ⟨r4, h5, hm⟩ := bindS hm
  refine QJ.step (y_call Tryd.call33 rfl (RetG.quiet fun w hw => ok_s_l22Ok h5 w _ (hr3.st hw))) rfl ?_
  refine QJ.step (YldS.yld (y_not rfl)) rfl ?_
  refine QJ.done ?_
  refine PJ.next ?_
  refine WJ.cond (t := !r4) rfl (fun hb6 => ?_) (fun hb6 => ?_)
  · replace hm := ifT hm hb6
    refine WJ.seq ?_
    refine WJ.quiet ?_
    refine QJ.step (YldS.yld (y_assign rfl)) rfl ?_
    refine QJ.step (YldS.yld (y_assign rfl)) rfl ?_
    refine QJ.done ?_
    refine PJ.next ?_
    refine WJ.ret ?_
    refine PJ.then_ret ?_
    refine PJ.nil_row 2 fI64 ?_
    obtain rfl := Option.some.inj hm
    refine PJ.sel (L' := [row (.slice none 0 0) 2 fI64 []]) [0] ⟨by decide, rfl⟩ ?_
    exact PJ.retn (vs := [(.slice none 0 0), .int .i64 1]) Tryd.results11 ⟨rfl, rfl, trivial⟩ ⟨_, rfl, rfl⟩
  · replace hm := ifF hm hb6
    refine WJ.skip ?_
    refine PJ.next ?_
    refine WJ.seq ?_
    refine WJ.reg ?_
    refine SJ.buildSlice (R := fI64) (os := []) [] Tryd.runUnderlying27 Tryd.sizeOf2 Tryd.zeroValue2 rfl rfl rfl rfl rfl rfl fun v7 => ?_
    refine SJ.q (YldS.yld (y_assign rfl)) rfl ?_
    refine SJ.nil ?_
    refine PJ.next ?_
    obtain ⟨kj10, hk11, hm⟩ := withK_open hm
    refine WJ.join (X := (List Int) × Value) (fun (x : (List Int) × Value) => kj10 x.1 = some r) (fun (x : (List Int) × Value) => [(4, x.2)]) (fun (x : (List Int) × Value) => [row x.2 2 fI64 x.1]) ?_ ?_
    · clear hk11
      refine WJ.seq ?_
      refine WJ.quiet ?_
      refine QJ.step (YldS.yld (y_assign rfl)) rfl ?_
      refine QJ.done ?_
      refine PJ.next ?_
      refine WJ.block ?_
      refine WJ.sel (L' := (fun (x : (List Int) × Value × Int) => [row x.2.1 2 fI64 x.1]) ([], v7, 0)) [0] ⟨by decide, rfl⟩ ?_
      refine WJ.sub (m' := (fun (x : (List Int) × Value × Int) => [(0, v2), (4, x.2.1), (5, .int .i64 x.2.2)]) ([], v7, 0)) ⟨rfl, rfl, rfl, trivial⟩ ?_
      refine WJ.loop (X := (List Int) × Value × Int) (fun N (x : (List Int) × Value × Int) => s_PlacesOfResults_l1 kj10 list1 N x.1 x.2.2 = some r) (fun (x : (List Int) × Value × Int) => [(0, v2), (4, x.2.1), (5, .int .i64 x.2.2)]) (fun (x : (List Int) × Value × Int) => [row x.2.1 2 fI64 x.1]) ?_ N ([], v7, 0) hm
      · rintro N ⟨l12, v13, i14⟩ hI
        have hm := hI; clear hI
        cases N with
        | zero => cases hm
        | succ N =>
        unfold s_PlacesOfResults_l1 at hm
        refine WJ.seq ?_
        refine WJ.seq ?_
        refine WJ.quiet ?_
        refine QJ.step (YldS.yld (y_move rfl)) rfl ?_
        refine QJ.step (YldS.yld (y_move rfl)) rfl ?_
        refine QJ.step (YldS.yld (y_lenS Tryd.runUnderlying24 hr3 rfl)) rfl ?_
        refine QJ.step (YldS.yld (y_bin rfl rfl rfl)) rfl ?_
        refine QJ.done ?_
        refine PJ.next ?_
        refine WJ.cond (t := decide (i14 < (List.length list1 : Int))) rfl (fun hb15 => ?_) (fun hb15 => ?_)
        · replace hm := ifT hm hb15
          refine WJ.skip ?_
          refine PJ.next ?_
          refine WJ.seq ?_
          refine WJ.block ?_
          refine WJ.reg ?_
          refine SJ.q (YldS.yld (y_move rfl)) rfl ?_
          refine SJ.q (YldS.yld (y_move rfl)) rfl ?_
          refine SJ.q (YldS.yld (y_move rfl)) rfl ?_
          obtain ⟨r16, h17, hm⟩ := bindS hm
          refine SJ.q (y_call Tryd.call37 rfl (RetG.quiet fun w hw => ok_s_l22Place h17 w _ (hr3.st hw))) rfl ?_
          refine SJ.buildSlice (R := fI64) (os := [.tmp 19]) [r16] Tryd.runUnderlying27 Tryd.sizeOf2 Tryd.zeroValue2 rfl rfl rfl rfl rfl rfl fun v18 => ?_
          obtain ⟨l19, h20, hm⟩ := bindS hm
          refine SJ.append (k := 1) (R := fI64) h20 rfl Tryd.underlying27 el2 rfl rfl rfl (fun w hw => (hw.row_rd (k := 0) rfl)) rfl fun v21 => ?_
          refine SJ.q (YldS.yld (y_assign rfl)) rfl ?_
          refine SJ.nil ?_
          refine PJ.block_normal (PJ.next ?_)
          refine WJ.quiet ?_
          refine QJ.step (YldS.yld (y_move rfl)) rfl ?_
          refine QJ.step (YldS.yld (y_bin rfl rfl rfl)) rfl ?_
          refine QJ.step (YldS.yld (y_assign rfl)) rfl ?_
          refine QJ.done ?_
          exact PJ.round (l19, v21, w64 (i14 + 1)) [1] hm ⟨rfl, rfl, rfl, trivial⟩ ⟨by decide, rfl⟩
        · replace hm := ifF hm hb15
          refine WJ.exit ?_
          refine PJ.then_exit (PJ.then_exit (PJ.block_exit ?_))
          exact PJ.joined (l12, v13) [0] hm ⟨rfl, trivial⟩ ⟨by decide, rfl⟩
    · rintro ⟨l8, v9⟩ hm
      subst hk11
      refine WJ.seq ?_
      refine WJ.quiet ?_
      refine QJ.step (YldS.yld (y_move rfl)) rfl ?_
      refine QJ.step (YldS.yld (y_assign rfl)) rfl ?_
      refine QJ.step (YldS.yld (y_assign rfl)) rfl ?_
      refine QJ.done ?_
      refine PJ.next ?_
      refine WJ.ret ?_
      obtain rfl := Option.some.inj hm
      refine PJ.sel (L' := [row v9 2 fI64 l8]) [0] ⟨by decide, rfl⟩ ?_
      exact PJ.retn (vs := [v9, .int .i64 0]) Tryd.results11 ⟨rfl, rfl, trivial⟩ ⟨_, rfl, rfl⟩

set_option maxRecDepth 100000 in
set_option maxHeartbeats 1000000 in
theorem ok_s_l22DrawHeats {N : Nat} {s1 : L00Src} {list5 : List Result} {g2 : Nat} {r : (List Int) × L00Src} (hm : s_l22DrawHeats N s1 list5 = some r) (w : World) (S : Nat → Prop) (v3 : Value) (hr4 : RdS w (Cx.Fz ⟨w, S⟩) v3 fByte.rp s1.code) (v6 : Value) (hr7 : RdS w (Cx.Fz ⟨w, S⟩) v6 fResult.rp list5) (hA : (box g2 77 [v3, .int .i64 s1.at_, .int .u64 s1.seed]).holds w S) :
    Calls Tryd.prog 38 #[pt g2 0, v6] w (RetG ⟨w, S⟩ fun u L => ∃ (u1 : Value), (u = u1 ∧ L = [box g2 77 [v3, .int .i64 r.2.at_, .int .u64 r.2.seed], row u1 2 fI64 r.1])) := by
  unfold s_l22DrawHeats at hm
  refine Calls.enter1 hA [pt g2 0, v6] Tryd.func38 rfl Tryd.ntmps38 rfl ?_
  refine WJ.seq ?_
  refine WJ.quiet ?_
  refine QJ.step (YldS.yld (y_assign rfl)) rfl ?_
  refine QJ.done ?_
  refine PJ.next ?_
  refine WJ.seq ?_
  refine WJ.reg ?_
  refine SJ.buildSlice (R := fI64) (os := []) [] Tryd.runUnderlying27 Tryd.sizeOf2 Tryd.zeroValue2 rfl rfl rfl rfl rfl rfl fun v8 => ?_
  refine SJ.q (YldS.yld (y_assign rfl)) rfl ?_
  refine SJ.nil ?_
  refine PJ.next ?_
  obtain ⟨kj13, hk14, hm⟩ := withK_open hm
  refine WJ.join (X := (List Int) × Value × Int × Int) (fun (x : (List Int) × Value × Int × Int) => kj13 x.1 x.2.2.1 x.2.2.2 = some r) (fun (x : (List Int) × Value × Int × Int) => [(0, pt g2 0), (5, x.2.1)]) (fun (x : (List Int) × Value × Int × Int) => [row x.2.1 2 fI64 x.1, box g2 77 [v3, .int .i64 x.2.2.1, .int .u64 x.2.2.2]]) ?_ ?_
  · clear hk14
    refine WJ.seq ?_
    refine WJ.quiet ?_
    refine QJ.step (YldS.yld (y_assign rfl)) rfl ?_
    refine QJ.done ?_
    refine PJ.next ?_
    refine WJ.block ?_
    refine WJ.sel (L' := (fun (x : (List Int) × Value × Int × Int × Int) => [row x.2.1 2 fI64 x.1, box g2 77 [v3, .int .i64 x.2.2.1, .int .u64 x.2.2.2.1]]) ([], v8, s1.at_, s1.seed, 0)) [0, 1] ⟨by decide, rfl⟩ ?_
    refine WJ.sub (m' := (fun (x : (List Int) × Value × Int × Int × Int) => [(0, pt g2 0), (1, v6), (5, x.2.1), (6, .int .i64 x.2.2.2.2)]) ([], v8, s1.at_, s1.seed, 0)) ⟨rfl, rfl, rfl, rfl, trivial⟩ ?_
    refine WJ.loop (X := (List Int) × Value × Int × Int × Int) (fun N (x : (List Int) × Value × Int × Int × Int) => s_l22DrawHeats_l1 kj13 s1 list5 N x.1 x.2.2.1 x.2.2.2.1 x.2.2.2.2 = some r) (fun (x : (List Int) × Value × Int × Int × Int) => [(0, pt g2 0), (1, v6), (5, x.2.1), (6, .int .i64 x.2.2.2.2)]) (fun (x : (List Int) × Value × Int × Int × Int) => [row x.2.1 2 fI64 x.1, box g2 77 [v3, .int .i64 x.2.2.1, .int .u64 x.2.2.2.1]]) ?_ N ([], v8, s1.at_, s1.seed, 0) hm
    · rintro N ⟨l15, v16, x17, x18, i19⟩ hI
      have hm := hI; clear hI
      cases N with
      | zero => cases hm
      | succ N =>
      unfold s_l22DrawHeats_l1 at hm
      refine WJ.seq ?_
      refine WJ.seq ?_
      refine WJ.quiet ?_
      refine QJ.step (YldS.yld (y_move rfl)) rfl ?_
      refine QJ.step (YldS.yld (y_move rfl)) rfl ?_
      refine QJ.step (YldS.yld (y_lenS Tryd.runUnderlying24 hr7 rfl)) rfl ?_
      refine QJ.step (YldS.yld (y_bin rfl rfl rfl)) rfl ?_
      refine QJ.done ?_
      refine PJ.next ?_
      refine WJ.cond (t := decide (i19 < (List.length list5 : Int))) rfl (fun hb20 => ?_) (fun hb20 => ?_)
      · replace hm := ifT hm hb20
        refine WJ.skip ?_
        refine PJ.next ?_
        refine WJ.seq ?_
        refine WJ.block ?_
        refine WJ.reg ?_
        refine SJ.q (YldS.yld (y_move rfl)) rfl ?_
        refine SJ.q (YldS.yld (y_move rfl)) rfl ?_
        obtain ⟨r21, h22, hm⟩ := bindS hm
        refine SJ.call1 (k := 1) rfl Tryd.call30 rfl (fun w S hw hA hO => ok_s_l00Src_pick h22 w S _ (hr4.st1 hw hO) hA) rfl ?_
        rintro _ _ ⟨rfl, rfl⟩
        refine SJ.buildSlice (R := fI64) (os := [.tmp 16]) [r21.1] Tryd.runUnderlying27 Tryd.sizeOf2 Tryd.zeroValue2 rfl rfl rfl rfl rfl rfl fun v23 => ?_
        obtain ⟨l24, h25, hm⟩ := bindS hm
        refine SJ.append (k := 2) (R := fI64) h25 rfl Tryd.underlying27 el2 rfl rfl rfl (fun w hw => (hw.row_rd (k := 0) rfl)) rfl fun v26 => ?_
        refine SJ.q (YldS.yld (y_assign rfl)) rfl ?_
        refine SJ.nil ?_
        refine PJ.block_normal (PJ.next ?_)
        refine WJ.quiet ?_
        refine QJ.step (YldS.yld (y_move rfl)) rfl ?_
        refine QJ.step (YldS.yld (y_bin rfl rfl rfl)) rfl ?_
        refine QJ.step (YldS.yld (y_assign rfl)) rfl ?_
        refine QJ.done ?_
        exact PJ.round (l24, v26, r21.2.at_, r21.2.seed, w64 (i19 + 1)) [2, 1] hm ⟨rfl, rfl, rfl, rfl, trivial⟩ ⟨by decide, rfl⟩
      · replace hm := ifF hm hb20
        refine WJ.exit ?_
        refine PJ.then_exit (PJ.then_exit (PJ.block_exit ?_))
        exact PJ.joined (l15, v16, x17, x18) [0, 1] hm ⟨rfl, rfl, trivial⟩ ⟨by decide, rfl⟩
  · rintro ⟨l9, v10, x11, x12⟩ hm
    subst hk14
    obtain ⟨kj31, hk32, hm⟩ := withK_open hm
    refine WJ.join (X := Int × Int × (List Int) × Value) (fun (x : Int × Int × (List Int) × Value) => kj31 x.1 x.2.1 x.2.2.1 = some r) (fun (x : Int × Int × (List Int) × Value) => [(5, x.2.2.2)]) (fun (x : Int × Int × (List Int) × Value) => [box g2 77 [v3, .int .i64 x.1, .int .u64 x.2.1], row x.2.2.2 2 fI64 x.2.2.1]) ?_ ?_
    · clear hk32
      refine WJ.seq ?_
      refine WJ.reg ?_
      refine SJ.q (YldS.yld (y_move rfl)) rfl ?_
      obtain ⟨r33, h34, hm⟩ := bindS hm
      refine SJ.call1 (k := 1) rfl Tryd.call30 rfl (fun w S hw hA hO => ok_s_l00Src_pick h34 w S _ (hr4.st1 hw hO) hA) rfl ?_
      rintro _ _ ⟨rfl, rfl⟩
      refine SJ.nil ?_
      refine PJ.next ?_
      refine WJ.block ?_
      refine WJ.seq ?_
      refine WJ.quiet ?_
      refine QJ.step (YldS.yld (y_bin rfl rfl rfl)) rfl ?_
      refine QJ.step (YldS.yld (y_assign rfl)) rfl ?_
      refine QJ.done ?_
      refine PJ.next ?_
      refine WJ.cond (t := (r33.1 == 0)) rfl (fun hb35 => ?_) (fun hb35 => ?_)
      · replace hm := ifT hm hb35
        refine WJ.reg ?_
        refine SJ.q (YldS.yld (y_move rfl)) rfl ?_
        refine SJ.buildSlice (R := fI64) (os := [.const (.int .i64 0)]) [0] Tryd.runUnderlying27 Tryd.sizeOf2 Tryd.zeroValue2 rfl rfl rfl rfl rfl rfl fun v36 => ?_
        obtain ⟨l37, h38, hm⟩ := bindS hm
        refine SJ.append (k := 2) (R := fI64) h38 rfl Tryd.underlying27 el2 rfl rfl rfl (fun w hw => (hw.row_rd (k := 0) rfl)) rfl fun v39 => ?_
        refine SJ.q (YldS.yld (y_assign rfl)) rfl ?_
        refine SJ.nil ?_
        refine PJ.block_normal ?_
        exact PJ.joined (r33.2.at_, r33.2.seed, l37, v39) [1, 2] hm ⟨rfl, trivial⟩ ⟨by decide, rfl⟩
      · replace hm := ifF hm hb35
        refine WJ.seq ?_
        refine WJ.quiet ?_
        refine QJ.step (YldS.yld (y_bin rfl rfl rfl)) rfl ?_
        refine QJ.step (YldS.yld (y_assign rfl)) rfl ?_
        refine QJ.done ?_
        refine PJ.next ?_
        refine WJ.cond (t := (r33.1 == 1)) rfl (fun hb40 => ?_) (fun hb40 => ?_)
        · replace hm := ifT hm hb40
          refine WJ.seq ?_
          refine WJ.quiet ?_
          refine QJ.step (YldS.yld (y_move rfl)) rfl ?_
          refine QJ.step (YldS.yld (y_lenRow (k := 1) rfl Tryd.runUnderlying27 rfl)) rfl ?_
          refine QJ.step (YldS.yld (y_bin rfl rfl rfl)) rfl ?_
          refine QJ.done ?_
          refine PJ.next ?_
          refine WJ.cond (t := decide ((List.length l9 : Int) > 0)) rfl (fun hb41 => ?_) (fun hb41 => ?_)
          · replace hm := ifT hm hb41
            refine WJ.reg ?_
            refine SJ.q (YldS.yld (y_move rfl)) rfl ?_
            refine SJ.q (YldS.yld (y_move rfl)) rfl ?_
            refine SJ.buildSlice (R := fI64) (os := [.const (.int .i64 (-1)), .const (.int .i64 0), .const (.int .i64 9), .const (.int .i64 10)]) [(-1), 0, 9, 10] Tryd.runUnderlying27 Tryd.sizeOf2 Tryd.zeroValue2 rfl rfl rfl rfl rfl rfl fun v42 => ?_
            obtain ⟨r43, h44, hm⟩ := bindS hm
            refine SJ.call2 (k := 1) rfl Tryd.call29 rfl (fun w S hw hA hO hB => ok_s_l00Src_among h44 w S _ (hr4.st1 hw hO) _ (hB.row_rd (j := 0) (k := 1) rfl rfl) hA) rfl ?_
            rintro _ _ ⟨rfl, rfl⟩
            obtain ⟨e45, h46, hm⟩ := bindS hm
            refine SJ.q (YldS.yld (y_ixRow (k := 2) (R := fI64) rfl Tryd.runUnderlying27 Tryd.sizeOf2 rfl rfl h46)) rfl ?_
            refine SJ.storeRL (k := 2) (i := (Int.toNat 0)) (off := 0) (us := [.int .i64 r43.1]) (b := r43.1) rfl rfl (idx_get h46) rfl rfl Tryd.sizeOf2 rfl rfl rfl ?_
            refine SJ.nil ?_
            refine PJ.block_normal ?_
            exact PJ.joined (r43.2.at_, r43.2.seed, (List.set l9 (Int.toNat 0) r43.1), v10) [0, 2] hm ⟨rfl, trivial⟩ ⟨by decide, rfl⟩
          · replace hm := ifF hm hb41
            refine WJ.skip ?_
            refine PJ.block_normal ?_
            exact PJ.joined (r33.2.at_, r33.2.seed, l9, v10) [0, 1] hm ⟨rfl, trivial⟩ ⟨by decide, rfl⟩
        · replace hm := ifF hm hb40
          refine WJ.skip ?_
          refine PJ.block_normal ?_
          exact PJ.joined (r33.2.at_, r33.2.seed, l9, v10) [0, 1] hm ⟨rfl, trivial⟩ ⟨by decide, rfl⟩
    · rintro ⟨x27, x28, l29, v30⟩ hm
      subst hk32
      refine WJ.seq ?_
      refine WJ.quiet ?_
      refine QJ.step (YldS.yld (y_move rfl)) rfl ?_
      refine QJ.step (YldS.yld (y_assign rfl)) rfl ?_
      refine QJ.done ?_
      refine PJ.next ?_
      refine WJ.ret ?_
      obtain rfl := Option.some.inj hm
      refine PJ.sel (L' := [box g2 77 [v3, .int .i64 x27, .int .u64 x28], row v30 2 fI64 l29]) [0, 1] ⟨by decide, rfl⟩ ?_
      exact PJ.retn (vs := [v30]) Tryd.results38 ⟨rfl, trivial⟩ ⟨_, rfl, rfl⟩

set_option maxRecDepth 100000 in
set_option maxHeartbeats 1000000 in
theorem ok_s_DrawQualifyFrom {N : Nat} {code1 : List UInt8} {r : (List Result) × (List Int) × Int × Int} (hm : s_DrawQualifyFrom N code1 = some r) (w : World) (v2 : Value) (hr3 : RdS w (cx w).Fz v2 fByte.rp code1) :
    Calls Tryd.prog 12 #[v2] w (RetG (cx w) fun u L => ∃ (u1 : Value) (u2 : Value), (u = tup [u1, u2, .int .i64 r.2.2.1, .int .i64 r.2.2.2] ∧ L = [row u1 46 fResult r.1, row u2 2 fI64 r.2.1])) := by
  unfold s_DrawQualifyFrom at hm
  refine Calls.enter [v2] Tryd.func12 rfl Tryd.ntmps12 rfl ?_
  refine WJ.seq ?_
  refine WJ.quiet ?_
  refine QJ.step (YldS.yld (y_assign rfl)) rfl ?_
  refine QJ.step (YldS.yld (y_assign rfl)) rfl ?_
  refine QJ.step (YldS.yld (y_assign rfl)) rfl ?_
  refine QJ.step (YldS.yld (y_assign rfl)) rfl ?_
  refine QJ.done ?_
  refine PJ.next ?_
  refine WJ.seq ?_
  refine WJ.reg ?_
  refine SJ.q (YldS.yld (y_move rfl)) rfl ?_
  obtain ⟨r4, h5, hm⟩ := bindS hm
  refine SJ.call Tryd.call26 rfl (fun w hw => ok_s_l00From h5 w _ (hr3.st hw)) rfl ?_
  rintro _ _ ⟨g6, rfl, rfl⟩
  refine SJ.q (YldS.yld (y_assign rfl)) rfl ?_
  refine SJ.nil ?_
  refine PJ.next ?_
  refine WJ.seq ?_
  refine WJ.reg ?_
  refine SJ.q (YldS.yld (y_move rfl)) rfl ?_
  obtain ⟨r7, h8, hm⟩ := bindS hm
  refine SJ.call1 (k := 0) rfl Tryd.call27 rfl (fun w S hw hA hO => ok_s_l22Bent h8 w S _ (hr3.st1 hw hO) hA) rfl ?_
  rintro v9 _ ⟨_, rfl, rfl⟩
  refine SJ.q (YldS.yld (y_assign rfl)) rfl ?_
  refine SJ.nil ?_
  refine PJ.next ?_
  refine WJ.seq ?_
  refine WJ.reg ?_
  refine SJ.q (YldS.yld (y_move rfl)) rfl ?_
  refine SJ.q (YldS.yld (y_move rfl)) rfl ?_
  obtain ⟨r10, h11, hm⟩ := bindS hm
  refine SJ.call2 (k := 0) rfl Tryd.call38 rfl (fun w S hw hA hO hB => ok_s_l22DrawHeats h11 w S _ (hr3.st1 hw hO) _ (hB.row_rd (j := 1) (k := 0) rfl rfl) hA) rfl ?_
  rintro v12 _ ⟨_, rfl, rfl⟩
  refine SJ.q (YldS.yld (y_assign rfl)) rfl ?_
  refine SJ.nil ?_
  refine PJ.next ?_
  refine WJ.seq ?_
  refine WJ.reg ?_
  refine SJ.q (YldS.yld (y_move rfl)) rfl ?_
  obtain ⟨r13, h14, hm⟩ := bindS hm
  refine SJ.call1 (k := 0) rfl Tryd.call30 rfl (fun w S hw hA hO => ok_s_l00Src_pick h14 w S _ (hr3.st1 hw hO) hA) rfl ?_
  rintro _ _ ⟨rfl, rfl⟩
  refine SJ.q (YldS.yld (y_assign rfl)) rfl ?_
  refine SJ.nil ?_
  refine PJ.next ?_
  obtain ⟨kj18, hk19, hm⟩ := withK_open hm
  refine WJ.join (X := Int × Int × Int) (fun (x : Int × Int × Int) => kj18 x.1 x.2.1 x.2.2 = some r) (fun (x : Int × Int × Int) => [(6, pt g6 0), (7, v9), (8, v12), (9, .int .i64 x.2.2)]) (fun (x : Int × Int × Int) => [box g6 77 [v2, .int .i64 x.1, .int .u64 x.2.1], row v12 2 fI64 r10.1, row v9 46 fResult r7.1]) ?_ ?_
  · clear hk19
    refine WJ.seq ?_
    refine WJ.reg ?_
    refine SJ.q (YldS.yld (y_move rfl)) rfl ?_
    obtain ⟨r20, h21, hm⟩ := bindS hm
    refine SJ.call1 (k := 0) rfl Tryd.call28 rfl (fun w S hw hA hO => ok_s_l00Src_one h21 w S _ (hr3.st1 hw hO) hA) rfl ?_
    rintro _ _ ⟨rfl, rfl⟩
    refine SJ.nil ?_
    refine PJ.next ?_
    refine WJ.cond (t := r20.1) rfl (fun hb22 => ?_) (fun hb22 => ?_)
    · replace hm := ifT hm hb22
      refine WJ.reg ?_
      refine SJ.q (YldS.yld (y_move rfl)) rfl ?_
      refine SJ.buildSlice (R := fI64) (os := [.const (.int .i64 (-1)), .const (.int .i64 0), .const (.int .i64 40), .const (.int .i64 41)]) [(-1), 0, 40, 41] Tryd.runUnderlying27 Tryd.sizeOf2 Tryd.zeroValue2 rfl rfl rfl rfl rfl rfl fun v23 => ?_
      obtain ⟨r24, h25, hm⟩ := bindS hm
      refine SJ.call2 (k := 1) rfl Tryd.call29 rfl (fun w S hw hA hO hB => ok_s_l00Src_among h25 w S _ (hr3.st1 hw hO) _ (hB.row_rd (j := 0) (k := 1) rfl rfl) hA) rfl ?_
      rintro _ _ ⟨rfl, rfl⟩
      refine SJ.q (YldS.yld (y_assign rfl)) rfl ?_
      refine SJ.nil ?_
      exact PJ.joined (r24.2.at_, r24.2.seed, r24.1) [0, 2, 3] hm ⟨rfl, rfl, rfl, rfl, trivial⟩ ⟨by decide, rfl⟩
    · replace hm := ifF hm hb22
      refine WJ.skip ?_
      exact PJ.joined (r20.2.at_, r20.2.seed, r13.1) [0, 1, 2] hm ⟨rfl, rfl, rfl, rfl, trivial⟩ ⟨by decide, rfl⟩
  · rintro ⟨x15, x16, each17⟩ hm
    subst hk19
    refine WJ.seq ?_
    refine WJ.seq ?_
    refine WJ.reg ?_
    refine SJ.q (YldS.yld (y_move rfl)) rfl ?_
    obtain ⟨r26, h27, hm⟩ := bindS hm
    refine SJ.call1 (k := 0) rfl Tryd.call28 rfl (fun w S hw hA hO => ok_s_l00Src_one h27 w S _ (hr3.st1 hw hO) hA) rfl ?_
    rintro _ _ ⟨rfl, rfl⟩
    refine SJ.nil ?_
    refine PJ.next ?_
    refine WJ.cond (t := r26.1) rfl (fun hb28 => ?_) (fun hb28 => ?_)
    · replace hm := ifT hm hb28
      refine WJ.seq ?_
      refine WJ.reg ?_
      refine SJ.q (YldS.yld (y_move rfl)) rfl ?_
      refine SJ.q (YldS.yld (y_move rfl)) rfl ?_
      refine SJ.q (YldS.yld (y_move rfl)) rfl ?_
      refine SJ.q (YldS.yld (y_move rfl)) rfl ?_
      refine SJ.buildSlice (R := fI64) (os := [.const (.int .i64 (-1)), .const (.int .i64 0), .const (.int .i64 40), .const (.int .i64 41)]) [(-1), 0, 40, 41] Tryd.runUnderlying27 Tryd.sizeOf2 Tryd.zeroValue2 rfl rfl rfl rfl rfl rfl fun v29 => ?_
      obtain ⟨r30, h31, hm⟩ := bindS hm
      refine SJ.call2 (k := 1) rfl Tryd.call29 rfl (fun w S hw hA hO hB => ok_s_l00Src_among h31 w S _ (hr3.st1 hw hO) _ (hB.row_rd (j := 0) (k := 1) rfl rfl) hA) rfl ?_
      rintro _ _ ⟨rfl, rfl⟩
      refine SJ.q (YldS.yld (y_assign rfl)) rfl ?_
      refine SJ.q (YldS.yld (y_assign rfl)) rfl ?_
      refine SJ.q (YldS.yld (y_assign rfl)) rfl ?_
      refine SJ.q (YldS.yld (y_assign rfl)) rfl ?_
      refine SJ.nil ?_
      refine PJ.next ?_
      refine WJ.ret ?_
      refine PJ.then_ret ?_
      obtain rfl := Option.some.inj hm
      refine PJ.sel (L' := [row v9 46 fResult r7.1, row v12 2 fI64 r10.1]) [3, 2] ⟨by decide, rfl⟩ ?_
      exact PJ.retn (vs := [v9, v12, .int .i64 each17, .int .i64 r30.1]) Tryd.results12 ⟨rfl, rfl, rfl, rfl, trivial⟩ ⟨_, _, rfl, rfl⟩
    · replace hm := ifF hm hb28
      refine WJ.skip ?_
      refine PJ.next ?_
      refine WJ.seq ?_
      refine WJ.reg ?_
      refine SJ.q (YldS.yld (y_move rfl)) rfl ?_
      refine SJ.q (YldS.yld (y_move rfl)) rfl ?_
      refine SJ.q (YldS.yld (y_move rfl)) rfl ?_
      refine SJ.q (YldS.yld (y_move rfl)) rfl ?_
      obtain ⟨r32, h33, hm⟩ := bindS hm
      refine SJ.call1 (k := 0) rfl Tryd.call30 rfl (fun w S hw hA hO => ok_s_l00Src_pick h33 w S _ (hr3.st1 hw hO) hA) rfl ?_
      rintro _ _ ⟨rfl, rfl⟩
      refine SJ.q (YldS.yld (y_assign rfl)) rfl ?_
      refine SJ.q (YldS.yld (y_assign rfl)) rfl ?_
      refine SJ.q (YldS.yld (y_assign rfl)) rfl ?_
      refine SJ.q (YldS.yld (y_assign rfl)) rfl ?_
      refine SJ.nil ?_
      refine PJ.next ?_
      refine WJ.ret ?_
      obtain rfl := Option.some.inj hm
      refine PJ.sel (L' := [row v9 46 fResult r7.1, row v12 2 fI64 r10.1]) [2, 1] ⟨by decide, rfl⟩ ?_
      exact PJ.retn (vs := [v9, v12, .int .i64 each17, .int .i64 r32.1]) Tryd.results12 ⟨rfl, rfl, rfl, rfl, trivial⟩ ⟨_, _, rfl, rfl⟩

set_option maxRecDepth 100000 in
set_option maxHeartbeats 1000000 in
theorem ok_i_areHeats {N : Nat} {heats1 : List Int} {n4 : Int} {r : Bool} (hm : i_areHeats N heats1 n4 = some r) (w : World) (v2 : Value) (hr3 : RdS w (cx w).Fz v2 fI64.rp heats1) :
    Calls Tryd.prog 39 #[v2, .int .i64 n4] w (Ret (cx w) (.bool r)) := by
  unfold i_areHeats at hm
  refine Calls.enter [v2, .int .i64 n4] Tryd.func39 rfl Tryd.ntmps39 rfl ?_
  refine WJ.seq ?_
  refine WJ.quiet ?_
  refine QJ.step (YldS.yld (y_assign rfl)) rfl ?_
  refine QJ.done ?_
  refine PJ.next ?_
  obtain ⟨kj5, hk6, hm⟩ := withK_open hm
  refine WJ.join (X := Unit) (fun (_ : Unit) => kj5  = some r) (fun (_ : Unit) => [(0, v2), (1, .int .i64 n4)]) (fun (_ : Unit) => []) ?_ ?_
  · clear hk6
    refine WJ.seq ?_
    refine WJ.quiet ?_
    refine QJ.step (YldS.yld (y_move rfl)) rfl ?_
    refine QJ.step (YldS.yld (y_lenS Tryd.runUnderlying27 hr3 rfl)) rfl ?_
    refine QJ.step (YldS.yld (y_move rfl)) rfl ?_
    refine QJ.done ?_
    refine PJ.next ?_
    refine WJ.block ?_
    refine WJ.sel (L' := (fun (x : Int) => []) 0) [] ⟨List.nodup_nil, rfl⟩ ?_
    refine WJ.sub (m' := (fun (x : Int) => [(0, v2), (1, .int .i64 n4), (7, v2), (8, .int .i64 (List.length heats1 : Int)), (9, .int .i64 x)]) 0) ⟨rfl, rfl, rfl, rfl, rfl, trivial⟩ ?_
    refine WJ.loop (X := Int) (fun N (x : Int) => i_areHeats_l1 kj5 heats1 N x = some r) (fun (x : Int) => [(0, v2), (1, .int .i64 n4), (7, v2), (8, .int .i64 (List.length heats1 : Int)), (9, .int .i64 x)]) (fun (x : Int) => []) ?_ N 0 hm
    · rintro N x7 hI
      have hm := hI; clear hI
      cases N with
      | zero => cases hm
      | succ N =>
      unfold i_areHeats_l1 at hm
      refine WJ.seq ?_
      refine WJ.quiet ?_
      refine QJ.step (YldS.yld (y_bin rfl rfl rfl)) rfl ?_
      refine QJ.done ?_
      refine PJ.next ?_
      refine WJ.seq ?_
      refine WJ.cond (t := decide (x7 < (List.length heats1 : Int))) rfl (fun hb8 => ?_) (fun hb8 => ?_)
      · replace hm := ifT hm hb8
        refine WJ.skip ?_
        refine PJ.next ?_
        refine WJ.seq ?_
        refine WJ.block ?_
        refine WJ.seq ?_
        refine WJ.quiet ?_
        obtain ⟨e9, h10, hm⟩ := bindS hm
        obtain ⟨ad11, _, rfl, ha12, hy13⟩ := hr3.elem h10
        refine QJ.step (YldS.yld (hy13 Tryd.runUnderlying27 Tryd.sizeOf2 rfl rfl)) rfl ?_
        refine QJ.step (YldS.yld (y_load1 (v := .int .i64 e9) Tryd.isAgg2 ha12 St.frozenC rfl)) rfl ?_
        refine QJ.step (YldS.yld (y_assign rfl)) rfl ?_
        refine QJ.done ?_
        refine PJ.next ?_
        refine WJ.seq ?_
        refine WJ.quiet ?_
        refine QJ.step (YldS.yld (y_move rfl)) rfl ?_
        obtain ⟨r14, h15, hm⟩ := bindS hm
        refine QJ.step (y_call Tryd.call31 rfl (RetG.quiet fun w hw => ok_i_between h15 w )) rfl ?_
        refine QJ.step (YldS.yld (y_not rfl)) rfl ?_
        refine QJ.done ?_
        refine PJ.next ?_
        refine WJ.cond (t := !r14) rfl (fun hb16 => ?_) (fun hb16 => ?_)
        · replace hm := ifT hm hb16
          refine WJ.seq ?_
          refine WJ.quiet ?_
          refine QJ.step (YldS.yld (y_assign rfl)) rfl ?_
          refine QJ.done ?_
          refine PJ.next ?_
          refine WJ.ret ?_
          refine PJ.block_ret (PJ.then_ret (PJ.then_ret (PJ.block_ret (PJ.then_ret ?_))))
          obtain rfl := Option.some.inj hm
          refine PJ.sel (L' := []) [] ⟨List.nodup_nil, rfl⟩ ?_
          exact PJ.retn (vs := [.bool false]) Tryd.results39 ⟨rfl, trivial⟩ ⟨rfl, rfl⟩
        · replace hm := ifF hm hb16
          refine WJ.skip ?_
          refine PJ.block_normal (PJ.next ?_)
          refine WJ.quiet ?_
          refine QJ.step (YldS.yld (y_bin rfl rfl rfl)) rfl ?_
          refine QJ.step (YldS.yld (y_move rfl)) rfl ?_
          refine QJ.done ?_
          exact PJ.round (w64 (x7 + 1)) [] hm ⟨rfl, rfl, rfl, rfl, rfl, trivial⟩ ⟨List.nodup_nil, rfl⟩
      · replace hm := ifF hm hb8
        refine WJ.exit ?_
        refine PJ.then_exit (PJ.then_exit (PJ.block_exit ?_))
        exact PJ.joined () [] hm ⟨rfl, rfl, trivial⟩ ⟨List.nodup_nil, rfl⟩
  · rintro _ hm
    subst hk6
    refine WJ.seq ?_
    refine WJ.quiet ?_
    refine QJ.step (YldS.yld (y_move rfl)) rfl ?_
    refine QJ.step (YldS.yld (y_lenS Tryd.runUnderlying27 hr3 rfl)) rfl ?_
    refine QJ.step (YldS.yld (y_move rfl)) rfl ?_
    refine QJ.step (YldS.yld (y_bin rfl rfl rfl)) rfl ?_
    refine QJ.step (YldS.yld (y_assign rfl)) rfl ?_
    refine QJ.done ?_
    refine PJ.next ?_
    refine WJ.ret ?_
    obtain rfl := Option.some.inj hm
    refine PJ.sel (L' := []) [] ⟨List.nodup_nil, rfl⟩ ?_
    exact PJ.retn (vs := [.bool ((List.length heats1 : Int) == n4)]) Tryd.results39 ⟨rfl, trivial⟩ ⟨rfl, rfl⟩

set_option maxRecDepth 100000 in
set_option maxHeartbeats 1000000 in
theorem ok_i_QualifyFrom {N : Nat} {list1 : List Result} {heats4 : List Int} {each7 : Int} {rest8 : Int} {r : (List Int) × Int} (hm : i_QualifyFrom N list1 heats4 each7 rest8 = some r) (w : World) (v2 : Value) (hr3 : RdS w (cx w).Fz v2 fResult.rp list1) (v5 : Value) (hr6 : RdS w (cx w).Fz v5 fI64.rp heats4) :
    Calls Tryd.prog 13 #[v2, v5, .int .i64 each7, .int .i64 rest8] w (RetG (cx w) fun u L => ∃ (u1 : Value), (u = tup [u1, .int .i64 r.2] ∧ L = [row u1 2 fI64 r.1])) := by
  unfold i_QualifyFrom at hm
  refine Calls.enter [v2, v5, .int .i64 each7, .int .i64 rest8] Tryd.func13 rfl Tryd.ntmps13 rfl ?_
  refine WJ.seq ?_
  refine WJ.quiet ?_
  refine QJ.step (YldS.yld (y_assign rfl)) rfl ?_
  refine QJ.step (YldS.yld (y_assign rfl)) rfl ?_
  refine QJ.done ?_
  refine PJ.next ?_
  refine WJ.seq ?_
  refine WJ.seq ?_
  refine WJ.quiet ?_
  refine QJ.step (YldS.yld (y_move rfl)) rfl ?_
  obtain ⟨r9, h10, hm⟩ := bindS hm
  refine QJ.step (y_call Tryd.call24 rfl (RetG.quiet fun w hw => ok_i_ValidResults h10 w _ (hr3.st hw))) rfl ?_
  refine QJ.step (YldS.yld (y_not rfl)) rfl ?_
  refine QJ.done ?_
  refine PJ.next ?_
  refine WJ.cond (t := !r9) rfl (fun hb11 => ?_) (fun hb11 => ?_)
  · replace hm := ifT hm hb11
    refine WJ.seq ?_
    refine WJ.quiet ?_
    refine QJ.step (YldS.yld (y_assign rfl)) rfl ?_
    refine QJ.step (YldS.yld (y_assign rfl)) rfl ?_
    refine QJ.done ?_
    refine PJ.next ?_
    refine WJ.ret ?_
    refine PJ.then_ret ?_
    refine PJ.nil_row 2 fI64 ?_
    obtain rfl := Option.some.inj hm
    refine PJ.sel (L' := [row (.slice none 0 0) 2 fI64 []]) [0] ⟨by decide, rfl⟩ ?_
    exact PJ.retn (vs := [(.slice none 0 0), .int .i64 1]) Tryd.results13 ⟨rfl, rfl, trivial⟩ ⟨_, rfl, rfl⟩
  · replace hm := ifF hm hb11
    refine WJ.skip ?_
    refine PJ.next ?_
    refine WJ.seq ?_
    refine WJ.seq ?_
    refine WJ.quiet ?_
    refine QJ.step (YldS.yld (y_move rfl)) rfl ?_
    refine QJ.step (YldS.yld (y_move rfl)) rfl ?_
    refine QJ.step (YldS.yld (y_lenS Tryd.runUnderlying24 hr3 rfl)) rfl ?_
    obtain ⟨r12, h13, hm⟩ := bindS hm
    refine QJ.step (y_call Tryd.call39 rfl (RetG.quiet fun w hw => ok_i_areHeats h13 w _ (hr6.st hw))) rfl ?_
    refine QJ.step (YldS.yld (y_not rfl)) rfl ?_
    refine QJ.step (YldS.yld (y_move rfl)) rfl ?_
    obtain ⟨t14, h15, hm⟩ := bindS hm
    refine QJ.cut 4 [(0, v2), (1, v5), (2, .int .i64 each7), (3, .int .i64 rest8), (29, .bool t14)] ?_ ?_
    · rcases Bool.eq_false_or_eq_true (!r12) with hb16 | hb16
      · obtain rfl := orT h15 hb16
        refine QJ.off rfl rfl (cB hb16) rfl rfl ?_
        refine QJ.off rfl rfl (cB hb16) rfl rfl ?_
        refine QJ.off rfl rfl (cB hb16) rfl rfl ?_
        refine QJ.step (YldS.yld (y_pick_t (cB hb16) rfl)) rfl ?_
        exact QJ.cut_end ⟨rfl, rfl, rfl, rfl, rfl, trivial⟩
      · replace h15 := orF h15 hb16
        refine QJ.on rfl rfl (cB hb16) (YldS.yld (y_move rfl)) rfl ?_
        obtain ⟨r17, h18, h15⟩ := bindS h15
        refine QJ.on rfl rfl (cB hb16) (y_call Tryd.call31 rfl (RetG.quiet fun w hw => ok_i_between h18 w )) rfl ?_
        refine QJ.on rfl rfl (cB hb16) (YldS.yld (y_not rfl)) rfl ?_
        refine QJ.step (YldS.yld (y_pick_f (cB hb16) rfl)) rfl ?_
        obtain rfl := Option.some.inj h15
        exact QJ.cut_end ⟨rfl, rfl, rfl, rfl, rfl, trivial⟩
    refine QJ.step (YldS.yld (y_move rfl)) rfl ?_
    obtain ⟨t19, h20, hm⟩ := bindS hm
    refine QJ.cut 4 [(0, v2), (1, v5), (2, .int .i64 each7), (3, .int .i64 rest8), (34, .bool t19)] ?_ ?_
    · rcases Bool.eq_false_or_eq_true t14 with hb21 | hb21
      · obtain rfl := orT h20 hb21
        refine QJ.off rfl rfl (cB hb21) rfl rfl ?_
        refine QJ.off rfl rfl (cB hb21) rfl rfl ?_
        refine QJ.off rfl rfl (cB hb21) rfl rfl ?_
        refine QJ.step (YldS.yld (y_pick_t (cB hb21) rfl)) rfl ?_
        exact QJ.cut_end ⟨rfl, rfl, rfl, rfl, rfl, trivial⟩
      · replace h20 := orF h20 hb21
        refine QJ.on rfl rfl (cB hb21) (YldS.yld (y_move rfl)) rfl ?_
        obtain ⟨r22, h23, h20⟩ := bindS h20
        refine QJ.on rfl rfl (cB hb21) (y_call Tryd.call31 rfl (RetG.quiet fun w hw => ok_i_between h23 w )) rfl ?_
        refine QJ.on rfl rfl (cB hb21) (YldS.yld (y_not rfl)) rfl ?_
        refine QJ.step (YldS.yld (y_pick_f (cB hb21) rfl)) rfl ?_
        obtain rfl := Option.some.inj h20
        exact QJ.cut_end ⟨rfl, rfl, rfl, rfl, rfl, trivial⟩
    refine QJ.done ?_
    refine PJ.next ?_
    refine WJ.cond (t := t19) rfl (fun hb24 => ?_) (fun hb24 => ?_)
    · replace hm := ifT hm hb24
      refine WJ.seq ?_
      refine WJ.quiet ?_
      refine QJ.step (YldS.yld (y_assign rfl)) rfl ?_
      refine QJ.step (YldS.yld (y_assign rfl)) rfl ?_
      refine QJ.done ?_
      refine PJ.next ?_
      refine WJ.ret ?_
      refine PJ.then_ret ?_
      refine PJ.nil_row 2 fI64 ?_
      obtain rfl := Option.some.inj hm
      refine PJ.sel (L' := [row (.slice none 0 0) 2 fI64 []]) [0] ⟨by decide, rfl⟩ ?_
      exact PJ.retn (vs := [(.slice none 0 0), .int .i64 2]) Tryd.results13 ⟨rfl, rfl, trivial⟩ ⟨_, rfl, rfl⟩
    · replace hm := ifF hm hb24
      refine WJ.skip ?_
      refine PJ.next ?_
      refine WJ.seq ?_
      refine WJ.reg ?_
      refine SJ.q (YldS.yld (y_build0 Tryd.runUnderlying62 zv62 Tryd.sizeOf2)) rfl ?_
      refine SJ.allocA (R := fI64) (xs := List.replicate 10 (0 : Int)) 10 zv62 rfl rfl rfl rfl fun g25 => ?_
      refine SJ.storeA (k := 0) (ys := (List.replicate 10 (0 : Int))) rfl rfl rfl rfl (by simp) Tryd.sizeOf62 (by simp [length_encs, fI64]) ?_
      refine SJ.nil ?_
      refine PJ.next ?_
      refine WJ.seq ?_
      refine WJ.reg ?_
      refine SJ.q (YldS.yld (y_move rfl)) rfl ?_
      refine SJ.q (YldS.yld (y_lenS Tryd.runUnderlying24 hr3 rfl)) rfl ?_
      obtain ⟨l26, h27, hm⟩ := bindS hm
      refine SJ.makeSlice (R := fBool) (z := false) h27 Tryd.underlying63 el4 rfl rfl rfl fun v28 => ?_
      refine SJ.q (YldS.yld (y_assign rfl)) rfl ?_
      refine SJ.nil ?_
      refine PJ.next ?_
      obtain ⟨kj30, hk31, hm⟩ := withK_open hm
      refine WJ.join (X := (List Bool)) (fun (x : (List Bool)) => kj30 x = some r) (fun (x : (List Bool)) => [(11, v28)]) (fun (x : (List Bool)) => [row v28 4 fBool x]) ?_ ?_
      · clear hk31
        refine WJ.seq ?_
        refine WJ.reg ?_
        refine SJ.q (YldS.yld (y_move rfl)) rfl ?_
        obtain ⟨r32, h33, hm⟩ := bindS hm
        refine SJ.call Tryd.call32 rfl (fun w hw => ok_i_ranking h33 w _ (hr3.st hw)) rfl ?_
        rintro v34 _ ⟨_, rfl, rfl⟩
        refine SJ.q (YldS.yld (y_lenRow (k := 0) rfl Tryd.runUnderlying27 rfl)) rfl ?_
        refine SJ.q (YldS.yld (y_move rfl)) rfl ?_
        refine SJ.nil ?_
        refine PJ.next ?_
        refine WJ.block ?_
        refine WJ.sel (L' := (fun (x : (List Bool) × (List Int) × Int × Int) => [row v34 2 fI64 r32, row v28 4 fBool x.1, row (av g25 10) 62 fI64 x.2.1]) (l26, (List.replicate 10 (0 : Int)), rest8, 0)) [0, 1, 2] ⟨by decide, rfl⟩ ?_
        refine WJ.sub (m' := (fun (x : (List Bool) × (List Int) × Int × Int) => [(1, v5), (2, .int .i64 each7), (3, .int .i64 x.2.2.1), (10, pt g25 0), (11, v28), (40, v34), (41, .int .i64 (List.length r32 : Int)), (42, .int .i64 x.2.2.2)]) (l26, (List.replicate 10 (0 : Int)), rest8, 0)) ⟨rfl, rfl, rfl, rfl, rfl, rfl, rfl, rfl, trivial⟩ ?_
        refine WJ.loop (X := (List Bool) × (List Int) × Int × Int) (fun N (x : (List Bool) × (List Int) × Int × Int) => i_QualifyFrom_l1 kj30 heats4 each7 r32 N x.1 x.2.1 x.2.2.1 x.2.2.2 = some r) (fun (x : (List Bool) × (List Int) × Int × Int) => [(1, v5), (2, .int .i64 each7), (3, .int .i64 x.2.2.1), (10, pt g25 0), (11, v28), (40, v34), (41, .int .i64 (List.length r32 : Int)), (42, .int .i64 x.2.2.2)]) (fun (x : (List Bool) × (List Int) × Int × Int) => [row v34 2 fI64 r32, row v28 4 fBool x.1, row (av g25 10) 62 fI64 x.2.1]) ?_ N (l26, (List.replicate 10 (0 : Int)), rest8, 0) hm
        · rintro N ⟨l35, l36, rest37, x38⟩ hI
          have hm := hI; clear hI
          cases N with
          | zero => cases hm
          | succ N =>
          unfold i_QualifyFrom_l1 at hm
          refine WJ.seq ?_
          refine WJ.quiet ?_
          refine QJ.step (YldS.yld (y_bin rfl rfl rfl)) rfl ?_
          refine QJ.done ?_
          refine PJ.next ?_
          refine WJ.seq ?_
          refine WJ.cond (t := decide (x38 < (List.length r32 : Int))) rfl (fun hb39 => ?_) (fun hb39 => ?_)
          · replace hm := ifT hm hb39
            refine WJ.skip ?_
            refine PJ.next ?_
            obtain ⟨kj43, hk44, hm⟩ := withK_open hm
            refine WJ.join (X := (List Bool) × (List Int) × Int) (fun (x : (List Bool) × (List Int) × Int) => kj43 x.1 x.2.1 x.2.2 = some r) (fun (x : (List Bool) × (List Int) × Int) => [(1, v5), (2, .int .i64 each7), (3, .int .i64 x.2.2), (10, pt g25 0), (11, v28), (40, v34), (41, .int .i64 (List.length r32 : Int)), (42, .int .i64 x38)]) (fun (x : (List Bool) × (List Int) × Int) => [row v34 2 fI64 r32, row v28 4 fBool x.1, row (av g25 10) 62 fI64 x.2.1]) ?_ ?_
            · clear hk44
              refine WJ.block ?_
              refine WJ.seq ?_
              refine WJ.quiet ?_
              obtain ⟨e45, h46, hm⟩ := bindS hm
              refine QJ.step (YldS.yld (y_ixRow (k := 0) (R := fI64) rfl Tryd.runUnderlying27 Tryd.sizeOf2 rfl rfl h46)) rfl ?_
              refine QJ.step (YldS.yld (y_loadR (k := 0) (i := (Int.toNat x38)) (off := 0) (u := .int .i64 e45) rfl Tryd.isAgg2 rfl (idx_get h46) rfl)) rfl ?_
              refine QJ.step (YldS.yld (y_assign rfl)) rfl ?_
              refine QJ.done ?_
              refine PJ.next ?_
              refine WJ.block ?_
              refine WJ.seq ?_
              refine WJ.quiet ?_
              refine QJ.step (YldS.yld (y_move rfl)) rfl ?_
              refine QJ.step (YldS.yld (y_move rfl)) rfl ?_
              obtain ⟨e47, h48, hm⟩ := bindS hm
              obtain ⟨ad49, _, rfl, ha50, hy51⟩ := hr6.elem h48
              refine QJ.step (YldS.yld (hy51 Tryd.runUnderlying27 Tryd.sizeOf2 rfl rfl)) rfl ?_
              refine QJ.step (YldS.yld (y_load1 (v := .int .i64 e47) Tryd.isAgg2 ha50 St.frozenC rfl)) rfl ?_
              obtain ⟨e52, h53, hm⟩ := bindS hm
              refine QJ.step (YldS.yld (y_ixArr (k := 2) (R := fI64) rfl Tryd.runUnderlying62 Tryd.sizeOf2 rfl rfl h53)) rfl ?_
              refine QJ.step (YldS.yld (y_loadR (k := 2) (i := (Int.toNat e47)) (off := 0) (u := .int .i64 e52) rfl Tryd.isAgg2 rfl (idx_get h53) rfl)) rfl ?_
              refine QJ.step (YldS.yld (y_move rfl)) rfl ?_
              refine QJ.step (YldS.yld (y_bin rfl rfl rfl)) rfl ?_
              refine QJ.step (YldS.yld (y_assign rfl)) rfl ?_
              refine QJ.done ?_
              refine PJ.next ?_
              refine WJ.cond (t := decide (e52 < each7)) rfl (fun hb54 => ?_) (fun hb54 => ?_)
              · replace hm := ifT hm hb54
                refine WJ.seq ?_
                refine WJ.reg ?_
                refine SJ.q (YldS.yld (y_move rfl)) rfl ?_
                refine SJ.q (YldS.yld (y_move rfl)) rfl ?_
                obtain ⟨e55, h56, hm⟩ := bindS hm
                obtain ⟨ad57, _, rfl, ha58, hy59⟩ := hr6.elem h56
                refine SJ.q (YldS.yld (hy59 Tryd.runUnderlying27 Tryd.sizeOf2 rfl rfl)) rfl ?_
                refine SJ.q (YldS.yld (y_load1 (v := .int .i64 e55) Tryd.isAgg2 ha58 St.frozenC rfl)) rfl ?_
                obtain ⟨e60, h61, hm⟩ := bindS hm
                refine SJ.q (YldS.yld (y_ixArr (k := 2) (R := fI64) rfl Tryd.runUnderlying62 Tryd.sizeOf2 rfl rfl h61)) rfl ?_
                refine SJ.q (YldS.yld (y_loadR (k := 2) (i := (Int.toNat e55)) (off := 0) (u := .int .i64 e60) rfl Tryd.isAgg2 rfl (idx_get h61) rfl)) rfl ?_
                refine SJ.q (YldS.yld (y_bin rfl rfl rfl)) rfl ?_
                obtain ⟨e62, h63, hm⟩ := bindS hm
                refine SJ.q (YldS.yld (y_ixArr (k := 2) (R := fI64) rfl Tryd.runUnderlying62 Tryd.sizeOf2 rfl rfl h63)) rfl ?_
                refine SJ.storeRL (k := 2) (i := (Int.toNat e55)) (off := 0) (us := [.int .i64 (w64 (e60 + 1))]) (b := w64 (e60 + 1)) rfl rfl (idx_get h63) rfl rfl Tryd.sizeOf2 rfl rfl rfl ?_
                refine SJ.nil ?_
                refine PJ.next ?_
                refine WJ.reg ?_
                refine SJ.q (YldS.yld (y_move rfl)) rfl ?_
                refine SJ.q (YldS.yld (y_move rfl)) rfl ?_
                obtain ⟨e64, h65, hm⟩ := bindS hm
                refine SJ.q (YldS.yld (y_ixRow (k := 1) (R := fBool) rfl Tryd.runUnderlying63 Tryd.sizeOf4 rfl rfl h65)) rfl ?_
                refine SJ.storeRL (k := 1) (i := (Int.toNat e45)) (off := 0) (us := [.bool true]) (b := true) rfl rfl (idx_get h65) rfl rfl Tryd.sizeOf4 rfl rfl rfl ?_
                refine SJ.nil ?_
                refine PJ.block_normal (PJ.block_normal ?_)
                exact PJ.joined ((List.set l35 (Int.toNat e45) true), (List.set l36 (Int.toNat e55) (w64 (e60 + 1))), rest37) [0, 1, 2] hm ⟨rfl, rfl, rfl, rfl, rfl, rfl, rfl, rfl, trivial⟩ ⟨by decide, rfl⟩
              · replace hm := ifF hm hb54
                refine WJ.seq ?_
                refine WJ.quiet ?_
                refine QJ.step (YldS.yld (y_move rfl)) rfl ?_
                refine QJ.step (YldS.yld (y_bin rfl rfl rfl)) rfl ?_
                refine QJ.step (YldS.yld (y_assign rfl)) rfl ?_
                refine QJ.done ?_
                refine PJ.next ?_
                refine WJ.cond (t := decide (rest37 > 0)) rfl (fun hb66 => ?_) (fun hb66 => ?_)
                · replace hm := ifT hm hb66
                  refine WJ.seq ?_
                  refine WJ.quiet ?_
                  refine QJ.step (YldS.yld (y_move rfl)) rfl ?_
                  refine QJ.step (YldS.yld (y_bin rfl rfl rfl)) rfl ?_
                  refine QJ.step (YldS.yld (y_assign rfl)) rfl ?_
                  refine QJ.done ?_
                  refine PJ.next ?_
                  refine WJ.reg ?_
                  refine SJ.q (YldS.yld (y_move rfl)) rfl ?_
                  refine SJ.q (YldS.yld (y_move rfl)) rfl ?_
                  obtain ⟨e67, h68, hm⟩ := bindS hm
                  refine SJ.q (YldS.yld (y_ixRow (k := 1) (R := fBool) rfl Tryd.runUnderlying63 Tryd.sizeOf4 rfl rfl h68)) rfl ?_
                  refine SJ.storeRL (k := 1) (i := (Int.toNat e45)) (off := 0) (us := [.bool true]) (b := true) rfl rfl (idx_get h68) rfl rfl Tryd.sizeOf4 rfl rfl rfl ?_
                  refine SJ.nil ?_
                  refine PJ.block_normal (PJ.block_normal ?_)
                  exact PJ.joined ((List.set l35 (Int.toNat e45) true), l36, w64 (rest37 - 1)) [0, 1, 2] hm ⟨rfl, rfl, rfl, rfl, rfl, rfl, rfl, rfl, trivial⟩ ⟨by decide, rfl⟩
                · replace hm := ifF hm hb66
                  refine WJ.skip ?_
                  refine PJ.block_normal (PJ.block_normal ?_)
                  exact PJ.joined (l35, l36, rest37) [0, 1, 2] hm ⟨rfl, rfl, rfl, rfl, rfl, rfl, rfl, rfl, trivial⟩ ⟨by decide, rfl⟩
            · rintro ⟨l40, l41, rest42⟩ hm
              subst hk44
              refine WJ.quiet ?_
              refine QJ.step (YldS.yld (y_bin rfl rfl rfl)) rfl ?_
              refine QJ.step (YldS.yld (y_move rfl)) rfl ?_
              refine QJ.done ?_
              exact PJ.round (l40, l41, rest42, w64 (x38 + 1)) [0, 1, 2] hm ⟨rfl, rfl, rfl, rfl, rfl, rfl, rfl, rfl, trivial⟩ ⟨by decide, rfl⟩
          · replace hm := ifF hm hb39
            refine WJ.exit ?_
            refine PJ.then_exit (PJ.then_exit (PJ.block_exit ?_))
            exact PJ.joined l35 [1] hm ⟨rfl, trivial⟩ ⟨by decide, rfl⟩
      · rintro l29 hm
        subst hk31
        refine WJ.seq ?_
        refine WJ.reg ?_
        refine SJ.buildSlice (R := fI64) (os := []) [] Tryd.runUnderlying27 Tryd.sizeOf2 Tryd.zeroValue2 rfl rfl rfl rfl rfl rfl fun v69 => ?_
        refine SJ.q (YldS.yld (y_assign rfl)) rfl ?_
        refine SJ.nil ?_
        refine PJ.next ?_
        obtain ⟨kj72, hk73, hm⟩ := withK_open hm
        refine WJ.join (X := (List Int) × Value) (fun (x : (List Int) × Value) => kj72 x.1 = some r) (fun (x : (List Int) × Value) => [(14, x.2)]) (fun (x : (List Int) × Value) => [row x.2 2 fI64 x.1]) ?_ ?_
        · clear hk73
          refine WJ.seq ?_
          refine WJ.quiet ?_
          refine QJ.step (YldS.yld (y_move rfl)) rfl ?_
          refine QJ.step (YldS.yld (y_lenRow (k := 1) rfl Tryd.runUnderlying63 rfl)) rfl ?_
          refine QJ.step (YldS.yld (y_move rfl)) rfl ?_
          refine QJ.done ?_
          refine PJ.next ?_
          refine WJ.block ?_
          refine WJ.sel (L' := (fun (x : (List Int) × Value × Int) => [row x.2.1 2 fI64 x.1, row v28 4 fBool l29]) ([], v69, 0)) [0, 1] ⟨by decide, rfl⟩ ?_
          refine WJ.sub (m' := (fun (x : (List Int) × Value × Int) => [(14, x.2.1), (76, v28), (77, .int .i64 (List.length l29 : Int)), (78, .int .i64 x.2.2)]) ([], v69, 0)) ⟨rfl, rfl, rfl, rfl, trivial⟩ ?_
          refine WJ.loop (X := (List Int) × Value × Int) (fun N (x : (List Int) × Value × Int) => i_QualifyFrom_l2 kj72 l29 N x.1 x.2.2 = some r) (fun (x : (List Int) × Value × Int) => [(14, x.2.1), (76, v28), (77, .int .i64 (List.length l29 : Int)), (78, .int .i64 x.2.2)]) (fun (x : (List Int) × Value × Int) => [row x.2.1 2 fI64 x.1, row v28 4 fBool l29]) ?_ N ([], v69, 0) hm
          · rintro N ⟨l74, v75, x76⟩ hI
            have hm := hI; clear hI
            cases N with
            | zero => cases hm
            | succ N =>
            unfold i_QualifyFrom_l2 at hm
            refine WJ.seq ?_
            refine WJ.quiet ?_
            refine QJ.step (YldS.yld (y_bin rfl rfl rfl)) rfl ?_
            refine QJ.done ?_
            refine PJ.next ?_
            refine WJ.seq ?_
            refine WJ.cond (t := decide (x76 < (List.length l29 : Int))) rfl (fun hb77 => ?_) (fun hb77 => ?_)
            · replace hm := ifT hm hb77
              refine WJ.skip ?_
              refine PJ.next ?_
              obtain ⟨kj80, hk81, hm⟩ := withK_open hm
              refine WJ.join (X := (List Int) × Value) (fun (x : (List Int) × Value) => kj80 x.1 = some r) (fun (x : (List Int) × Value) => [(14, x.2), (76, v28), (77, .int .i64 (List.length l29 : Int)), (78, .int .i64 x76)]) (fun (x : (List Int) × Value) => [row x.2 2 fI64 x.1, row v28 4 fBool l29]) ?_ ?_
              · clear hk81
                refine WJ.block ?_
                refine WJ.seq ?_
                refine WJ.quiet ?_
                refine QJ.step (YldS.yld (y_move rfl)) rfl ?_
                obtain ⟨e82, h83, hm⟩ := bindS hm
                refine QJ.step (YldS.yld (y_ixRow (k := 1) (R := fBool) rfl Tryd.runUnderlying63 Tryd.sizeOf4 rfl rfl h83)) rfl ?_
                refine QJ.step (YldS.yld (y_loadR (k := 1) (i := (Int.toNat x76)) (off := 0) (u := .bool e82) rfl Tryd.isAgg4 rfl (idx_get h83) rfl)) rfl ?_
                refine QJ.step (YldS.yld (y_assign rfl)) rfl ?_
                refine QJ.step (YldS.yld (y_assign rfl)) rfl ?_
                refine QJ.done ?_
                refine PJ.next ?_
                refine WJ.seq ?_
                refine WJ.quiet ?_
                refine QJ.step (YldS.yld (y_move rfl)) rfl ?_
                refine QJ.done ?_
                refine PJ.next ?_
                refine WJ.cond (t := e82) rfl (fun hb84 => ?_) (fun hb84 => ?_)
                · replace hm := ifT hm hb84
                  refine WJ.reg ?_
                  refine SJ.q (YldS.yld (y_move rfl)) rfl ?_
                  refine SJ.q (YldS.yld (y_move rfl)) rfl ?_
                  refine SJ.buildSlice (R := fI64) (os := [.tmp 85]) [x76] Tryd.runUnderlying27 Tryd.sizeOf2 Tryd.zeroValue2 rfl rfl rfl rfl rfl rfl fun v85 => ?_
                  obtain ⟨l86, h87, hm⟩ := bindS hm
                  refine SJ.append (k := 1) (R := fI64) h87 rfl Tryd.underlying27 el2 rfl rfl rfl (fun w hw => (hw.row_rd (k := 0) rfl)) rfl fun v88 => ?_
                  refine SJ.q (YldS.yld (y_assign rfl)) rfl ?_
                  refine SJ.nil ?_
                  refine PJ.block_normal ?_
                  exact PJ.joined (l86, v88) [1, 2] hm ⟨rfl, rfl, rfl, rfl, trivial⟩ ⟨by decide, rfl⟩
                · replace hm := ifF hm hb84
                  refine WJ.skip ?_
                  refine PJ.block_normal ?_
                  exact PJ.joined (l74, v75) [0, 1] hm ⟨rfl, rfl, rfl, rfl, trivial⟩ ⟨by decide, rfl⟩
              · rintro ⟨l78, v79⟩ hm
                subst hk81
                refine WJ.quiet ?_
                refine QJ.step (YldS.yld (y_bin rfl rfl rfl)) rfl ?_
                refine QJ.step (YldS.yld (y_move rfl)) rfl ?_
                refine QJ.done ?_
                exact PJ.round (l78, v79, w64 (x76 + 1)) [0, 1] hm ⟨rfl, rfl, rfl, rfl, trivial⟩ ⟨by decide, rfl⟩
            · replace hm := ifF hm hb77
              refine WJ.exit ?_
              refine PJ.then_exit (PJ.then_exit (PJ.block_exit ?_))
              exact PJ.joined (l74, v75) [0] hm ⟨rfl, trivial⟩ ⟨by decide, rfl⟩
        · rintro ⟨l70, v71⟩ hm
          subst hk73
          refine WJ.seq ?_
          refine WJ.quiet ?_
          refine QJ.step (YldS.yld (y_move rfl)) rfl ?_
          refine QJ.step (YldS.yld (y_assign rfl)) rfl ?_
          refine QJ.step (YldS.yld (y_assign rfl)) rfl ?_
          refine QJ.done ?_
          refine PJ.next ?_
          refine WJ.ret ?_
          obtain rfl := Option.some.inj hm
          refine PJ.sel (L' := [row v71 2 fI64 l70]) [0] ⟨by decide, rfl⟩ ?_
          exact PJ.retn (vs := [v71, .int .i64 0]) Tryd.results13 ⟨rfl, rfl, trivial⟩ ⟨_, rfl, rfl⟩

end Go.Proofs.YtikkolkickclhaaDoor
