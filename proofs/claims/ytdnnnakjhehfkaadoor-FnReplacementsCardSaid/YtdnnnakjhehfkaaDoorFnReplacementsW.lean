/-
  The walks: a call hands back what its plain function computes, where that has a value. No other conditions.
-/
import Derived.Test.YtdnnnakjhehfkaaDoorFnReplacementsM
import Derived.Test.YtdnnnakjhehfkaaDoorChecked
import Derived.Test.YtdnnnakjhehfkaaDoorRows
import Derived.Test.YtdnnnakjhehfkaaDoorFnReplacementsS
namespace Go.Proofs.YtdnnnakjhehfkaaDoor
open Go.RowKit Go.Proofs
set_option linter.unusedVariables false
set_option linter.unusedSimpArgs false

def tabNm : String := (Rows.fnReplacementsRow.laid.map (fun x => x.1)).getD 2 default

theorem follows : Tryd.prog.follows .mixedOrders = true := by kernel_rfl

def SparePart.enc (x : SparePart) : List Value := [str x.name, .int .i64 x.stock, .int .i64 x.target, .int .i64 x.days, .int .i64 x.instead]
def fSparePart : FRp SparePart := ⟨5, SparePart.enc, fun _ => rfl, by decide, fun x u hu => by
  simp only [SparePart.enc, List.mem_cons, List.not_mem_nil, or_false] at hu
  rcases hu with rfl | rfl | rfl | rfl | rfl <;> rfl⟩

theorem pl67 : PlacesOk Tryd.prog 67 [(0, 1), (1, 1), (2, 1)] := ⟨_, Tryd.runUnderlying67, fun w => by simp [Tryd.sizeOf3, Tryd.sizeOf29, Tryd.sizeOf65]⟩
theorem fld67_1 : FieldOk Tryd.prog 67 1 1 3 0 := ⟨_, _, Tryd.runUnderlying67, rfl, rfl, rfl, Tryd.sizeOf3⟩
theorem fld67_0 : FieldOk Tryd.prog 67 0 0 29 0 := ⟨_, _, Tryd.runUnderlying67, rfl, rfl, rfl, Tryd.sizeOf29⟩
theorem fld67_2 : FieldOk Tryd.prog 67 2 2 65 0 := ⟨_, _, Tryd.runUnderlying67, rfl, rfl, rfl, Tryd.sizeOf65⟩
theorem pl46 : PlacesOk Tryd.prog 46 [(0, 1), (1, 1), (2, 1), (3, 1), (4, 1)] := ⟨_, Tryd.runUnderlying46, fun w => by simp [Tryd.sizeOf2, Tryd.sizeOf9]⟩
theorem fld46_2 : FieldOk Tryd.prog 46 2 2 2 0 := ⟨_, _, Tryd.runUnderlying46, rfl, rfl, rfl, Tryd.sizeOf2⟩
theorem fld46_3 : FieldOk Tryd.prog 46 3 3 2 0 := ⟨_, _, Tryd.runUnderlying46, rfl, rfl, rfl, Tryd.sizeOf2⟩
theorem fld46_4 : FieldOk Tryd.prog 46 4 4 2 0 := ⟨_, _, Tryd.runUnderlying46, rfl, rfl, rfl, Tryd.sizeOf2⟩
theorem fld46_1 : FieldOk Tryd.prog 46 1 1 2 0 := ⟨_, _, Tryd.runUnderlying46, rfl, rfl, rfl, Tryd.sizeOf2⟩
set_option maxRecDepth 100000 in
theorem el46 : ElemOk Tryd.prog 46 5 (fSparePart.enc (SparePart.mk [] 0 0 0 0)) := ⟨_, _, Tryd.type46, rfl, rfl, rfl, by decide⟩
theorem fld46_0 : FieldOk Tryd.prog 46 0 0 9 0 := ⟨_, _, Tryd.runUnderlying46, rfl, rfl, rfl, Tryd.sizeOf9⟩
set_option maxRecDepth 100000 in
theorem el2 : ElemOk Tryd.prog 2 1 (fI64.enc 0) := ⟨_, _, Tryd.type2, rfl, rfl, rfl, by decide⟩
theorem eq46 : EqOk Tryd.prog 46 SparePart.enc SparePart.beq := ⟨Tryd.eqGuardType46, fun x y w => by
  have hf : Tryd.prog.fieldsOf 46 = #[{ name := "Name", type := 9, offset := 0, embedded := false, tag := "", pkgPath := "", byteOffset := 0 }, { name := "Stock", type := 2, offset := 1, embedded := false, tag := "", pkgPath := "", byteOffset := 16 }, { name := "Target", type := 2, offset := 2, embedded := false, tag := "", pkgPath := "", byteOffset := 24 }, { name := "Days", type := 2, offset := 3, embedded := false, tag := "", pkgPath := "", byteOffset := 32 }, { name := "Instead", type := 2, offset := 4, embedded := false, tag := "", pkgPath := "", byteOffset := 40 }] := by kernel_rfl
  have ht : Tryd.prog.underlying 46 = some (.struct (Tryd.prog.fieldsOf 46)) := by rw [hf]; exact Tryd.underlying46
  rw [run_equalIn_struct w 9999 46 _ _ ht Tryd.stoodInHeld46, hf]
  obtain ⟨a0, a1, a2, a3, a4⟩ := x
  obtain ⟨b0, b1, b2, b3, b4⟩ := y
  simp only [Op.eqFields, SparePart.enc, SparePart.beq]
  simp [part, str, Tryd.isAgg2, Tryd.isAgg9, run_equalIn_int _ _ _ _ _ _ _ Tryd.underlying2, run_equalIn_string _ _ _ _ _ Tryd.underlying9, ByteArray.toList_eq]
  (repeat' split) <;> simp_all⟩
set_option maxRecDepth 100000 in
theorem el5 : ElemOk Tryd.prog 5 1 (fByte.enc 0) := ⟨_, _, Tryd.type5, rfl, rfl, rfl, by decide⟩
theorem fld48_0 : FieldOk Tryd.prog 48 0 0 9 0 := ⟨_, _, Tryd.runUnderlying48, rfl, rfl, rfl, Tryd.sizeOf9⟩
theorem fld48_1 : FieldOk Tryd.prog 48 1 1 2 0 := ⟨_, _, Tryd.runUnderlying48, rfl, rfl, rfl, Tryd.sizeOf2⟩
theorem fld48_2 : FieldOk Tryd.prog 48 2 2 2 0 := ⟨_, _, Tryd.runUnderlying48, rfl, rfl, rfl, Tryd.sizeOf2⟩
theorem fld48_3 : FieldOk Tryd.prog 48 3 3 2 0 := ⟨_, _, Tryd.runUnderlying48, rfl, rfl, rfl, Tryd.sizeOf2⟩
theorem fld48_4 : FieldOk Tryd.prog 48 4 4 2 0 := ⟨_, _, Tryd.runUnderlying48, rfl, rfl, rfl, Tryd.sizeOf2⟩

set_option maxRecDepth 100000 in
set_option maxHeartbeats 1000000 in
theorem ok_w_f6big {code1 : List UInt8} {r : Bool} (hm : w_f6big code1 = some r) (w : World) (v2 : Value) (hr3 : RdS w (cx w).Fz v2 fByte.rp code1) :
    Calls Tryd.prog 10 #[v2] w (Ret (cx w) (.bool r)) := by
  unfold w_f6big at hm
  refine Calls.enter [v2] Tryd.func10 rfl Tryd.ntmps10 rfl ?_
  refine WJ.seq ?_
  refine WJ.quiet ?_
  refine QJ.step (YldS.yld (y_assign rfl)) rfl ?_
  refine QJ.done ?_
  refine PJ.next ?_
  refine WJ.seq ?_
  refine WJ.quiet ?_
  refine QJ.step (YldS.yld (y_move rfl)) rfl ?_
  refine QJ.step (YldS.yld (y_lenS Tryd.runUnderlying29 hr3 rfl)) rfl ?_
  refine QJ.step (YldS.yld (y_bin rfl rfl rfl)) rfl ?_
  refine QJ.step (YldS.yld (y_assign rfl)) rfl ?_
  refine QJ.done ?_
  refine PJ.next ?_
  refine WJ.ret ?_
  obtain rfl := Option.some.inj hm
  refine PJ.sel (L' := []) [] ⟨List.nodup_nil, rfl⟩ ?_
  exact PJ.retn (vs := [.bool (decide ((List.length code1 : Int) > 4096))]) Tryd.results10 ⟨rfl, trivial⟩ ⟨rfl, rfl⟩

set_option maxRecDepth 100000 in
set_option maxHeartbeats 1000000 in
theorem ok_s_l00From {code1 : List UInt8} {r : L00Src} (hm : s_l00From code1 = some r) (w : World) (v2 : Value) (hr3 : RdS w (cx w).Fz v2 fByte.rp code1) :
    Calls Tryd.prog 41 #[v2] w (RetG (cx w) fun u L => ∃ (u1 : Nat), (u = pt u1 0 ∧ L = [box u1 67 [v2, .int .i64 r.at_, .int .u64 r.seed]])) := by
  unfold s_l00From at hm
  refine Calls.enter [v2] Tryd.func41 rfl Tryd.ntmps41 rfl ?_
  refine WJ.seq ?_
  refine WJ.quiet ?_
  refine QJ.step (YldS.yld (y_assign rfl)) rfl ?_
  refine QJ.done ?_
  refine PJ.next ?_
  refine WJ.seq ?_
  refine WJ.reg ?_
  refine SJ.q (YldS.yld (y_move rfl)) rfl ?_
  refine SJ.q (YldS.yld (y_build (parts := [(0, .tmp 3)]) (places := [(0, 1), (1, 1), (2, 1)]) (r := [v2, .int .i64 0, .int .u64 0]) pl67 Tryd.zeroValue67 rfl rfl (show _ = [(0, [v2])] from by simp only [List.map, RdS.cells1 hr3]) rfl)) rfl ?_
  refine SJ.box (cs := [v2, .int .i64 0, .int .u64 0]) rfl rfl rfl fun g4 => ?_
  refine SJ.q (YldS.yld (y_assign rfl)) rfl ?_
  refine SJ.nil ?_
  refine PJ.next ?_
  refine WJ.ret ?_
  obtain rfl := Option.some.inj hm
  refine PJ.sel (L' := [box g4 67 [v2, .int .i64 0, .int .u64 0]]) [0] ⟨by decide, rfl⟩ ?_
  exact PJ.retn (vs := [pt g4 0]) Tryd.results41 ⟨rfl, trivial⟩ ⟨_, rfl, rfl⟩

set_option maxRecDepth 100000 in
set_option maxHeartbeats 1000000 in
theorem ok_s_l00Src_next {s1 : L00Src} {g2 : Nat} {r : Int × L00Src} (hm : s_l00Src_next s1 = some r) (w : World) (S : Nat → Prop) (v3 : Value) (hr4 : RdS w (Cx.Fz ⟨w, S⟩) v3 fByte.rp s1.code) (hA : (box g2 67 [v3, .int .i64 s1.at_, .int .u64 s1.seed]).holds w S) :
    Calls Tryd.prog 51 #[pt g2 0] w (RetG ⟨w, S⟩ fun u L => (u = .int .i64 r.1 ∧ L = [box g2 67 [v3, .int .i64 r.2.at_, .int .u64 r.2.seed]])) := by
  unfold s_l00Src_next at hm
  refine Calls.enter1 hA [pt g2 0] Tryd.func51 rfl Tryd.ntmps51 rfl ?_
  refine WJ.seq ?_
  refine WJ.quiet ?_
  refine QJ.step (YldS.yld (y_assign rfl)) rfl ?_
  refine QJ.done ?_
  refine PJ.next ?_
  refine WJ.seq ?_
  refine WJ.quiet ?_
  refine QJ.step (YldS.yld (y_assign rfl)) rfl ?_
  refine QJ.done ?_
  refine PJ.next ?_
  obtain ⟨kj6, hk7, hm⟩ := withK_open hm
  refine WJ.join (X := Int) (fun (x : Int) => kj6 x = some r) (fun (x : Int) => [(0, pt g2 0), (3, .int .i64 x)]) (fun (x : Int) => [box g2 67 [v3, .int .i64 s1.at_, .int .u64 s1.seed]]) ?_ ?_
  · clear hk7
    refine WJ.seq ?_
    refine WJ.quiet_draw follows (by kernel_rfl) ?_
    refine QJ.step (YldS.yld (y_move rfl)) rfl ?_
    refine QJ.step (YldS.yld (y_nil rfl)) rfl ?_
    refine QJ.step (YldS.yld (y_fldB (o := 0) fld67_1 rfl)) rfl ?_
    refine QJ.step (YldS.yld (y_loadB (k := 0) (off := 1) (v := .int .i64 s1.at_) rfl Tryd.isAgg3 rfl rfl)) rfl ?_
    refine QJ.step (YldS.yld (y_move rfl)) rfl ?_
    refine QJ.step (YldS.yld (y_nil rfl)) rfl ?_
    refine QJ.step (YldS.yld (y_fldB (o := 0) fld67_0 rfl)) rfl ?_
    refine QJ.step (YldS.yld (y_loadB (k := 0) (off := 0) (v := v3) rfl Tryd.isAgg29 rfl rfl)) rfl ?_
    refine QJ.step (YldS.yld (y_lenS Tryd.runUnderlying29 hr4 rfl)) rfl ?_
    refine QJ.step (YldS.yld (y_bin rfl rfl rfl)) rfl ?_
    refine QJ.done ?_
    refine PJ.next ?_
    refine WJ.cond (t := decide (s1.at_ < (List.length s1.code : Int))) rfl (fun hb8 => ?_) (fun hb8 => ?_)
    · replace hm := ifT hm hb8
      refine WJ.quiet_draw follows (by kernel_rfl) ?_
      refine QJ.step (YldS.yld (y_move rfl)) rfl ?_
      refine QJ.step (YldS.yld (y_nil rfl)) rfl ?_
      refine QJ.step (YldS.yld (y_fldB (o := 0) fld67_0 rfl)) rfl ?_
      refine QJ.step (YldS.yld (y_loadB (k := 0) (off := 0) (v := v3) rfl Tryd.isAgg29 rfl rfl)) rfl ?_
      refine QJ.step (YldS.yld (y_move rfl)) rfl ?_
      refine QJ.step (YldS.yld (y_nil rfl)) rfl ?_
      refine QJ.step (YldS.yld (y_fldB (o := 0) fld67_1 rfl)) rfl ?_
      refine QJ.step (YldS.yld (y_loadB (k := 0) (off := 1) (v := .int .i64 s1.at_) rfl Tryd.isAgg3 rfl rfl)) rfl ?_
      obtain ⟨e9, h10, hm⟩ := bindS hm
      obtain ⟨ad11, _, rfl, ha12, hy13⟩ := hr4.elem h10
      refine QJ.step (YldS.yld (hy13 Tryd.runUnderlying29 Tryd.sizeOf5 rfl rfl)) rfl ?_
      refine QJ.step (YldS.yld (y_load1 (v := .int .u8 (UInt8.toNat e9 : Int)) Tryd.isAgg5 ha12 St.frozenC rfl)) rfl ?_
      refine QJ.step (YldS.yld (y_conv8 Tryd.runUnderlying5 Tryd.runUnderlying3 rfl)) rfl ?_
      refine QJ.step (YldS.yld (y_assign rfl)) rfl ?_
      refine QJ.done ?_
      exact PJ.joined (UInt8.toNat e9 : Int) [0] hm ⟨rfl, rfl, trivial⟩ ⟨by decide, rfl⟩
    · replace hm := ifF hm hb8
      refine WJ.skip ?_
      exact PJ.joined 0 [0] hm ⟨rfl, rfl, trivial⟩ ⟨by decide, rfl⟩
  · rintro b5 hm
    subst hk7
    refine WJ.seq ?_
    refine WJ.reg ?_
    refine SJ.q (YldS.yld (y_move rfl)) rfl ?_
    refine SJ.q (YldS.yld (y_nil rfl)) rfl ?_
    refine SJ.q (YldS.yld (y_fldB (o := 0) fld67_1 rfl)) rfl ?_
    refine SJ.q (YldS.yld (y_loadB (k := 0) (off := 1) (v := .int .i64 s1.at_) rfl Tryd.isAgg3 rfl rfl)) rfl ?_
    refine SJ.q (YldS.yld (y_bin rfl rfl rfl)) rfl ?_
    refine SJ.q (YldS.yld (y_nil rfl)) rfl ?_
    refine SJ.q (YldS.yld (y_fldB (o := 0) fld67_1 rfl)) rfl ?_
    refine SJ.storeL (k := 0) (off := 1) (us := [.int .i64 (w64 (s1.at_ + 1))]) rfl rfl rfl rfl Tryd.sizeOf3 rfl rfl ?_
    refine SJ.nil ?_
    refine PJ.next ?_
    refine WJ.seq ?_
    refine WJ.reg ?_
    refine SJ.q (YldS.yld (y_move rfl)) rfl ?_
    refine SJ.q (YldS.yld (y_move rfl)) rfl ?_
    refine SJ.q (YldS.yld (y_nil rfl)) rfl ?_
    refine SJ.q (YldS.yld (y_fldB (o := 0) fld67_2 rfl)) rfl ?_
    refine SJ.q (YldS.yld (y_loadB (k := 0) (off := 2) (v := .int .u64 s1.seed) rfl Tryd.isAgg65 rfl rfl)) rfl ?_
    refine SJ.q (YldS.yld (y_bin rfl rfl rfl)) rfl ?_
    refine SJ.q (YldS.yld (y_move rfl)) rfl ?_
    refine SJ.q (YldS.yld (y_convI Tryd.runUnderlying3 Tryd.runUnderlying65 rfl)) rfl ?_
    refine SJ.q (YldS.yld (y_bin rfl rfl rfl)) rfl ?_
    refine SJ.q (YldS.yld (y_bin rfl rfl rfl)) rfl ?_
    refine SJ.q (YldS.yld (y_nil rfl)) rfl ?_
    refine SJ.q (YldS.yld (y_fldB (o := 0) fld67_2 rfl)) rfl ?_
    refine SJ.storeL (k := 0) (off := 2) (us := [.int .u64 (IntKind.u64.wrap ((IntKind.u64.wrap ((IntKind.u64.wrap (s1.seed * 6364136223846793005)) + (IntKind.u64.wrap b5))) + 1442695040888963407))]) rfl rfl rfl rfl Tryd.sizeOf65 rfl rfl ?_
    refine SJ.nil ?_
    refine PJ.next ?_
    refine WJ.seq ?_
    refine WJ.seq ?_
    refine WJ.quiet_draw follows (by kernel_rfl) ?_
    refine QJ.step (YldS.yld (y_move rfl)) rfl ?_
    refine QJ.step (YldS.yld (y_nil rfl)) rfl ?_
    refine QJ.step (YldS.yld (y_fldB (o := 0) fld67_1 rfl)) rfl ?_
    refine QJ.step (YldS.yld (y_loadB (k := 0) (off := 1) (v := .int .i64 (w64 (s1.at_ + 1))) rfl Tryd.isAgg3 rfl rfl)) rfl ?_
    refine QJ.step (YldS.yld (y_move rfl)) rfl ?_
    refine QJ.step (YldS.yld (y_nil rfl)) rfl ?_
    refine QJ.step (YldS.yld (y_fldB (o := 0) fld67_0 rfl)) rfl ?_
    refine QJ.step (YldS.yld (y_loadB (k := 0) (off := 0) (v := v3) rfl Tryd.isAgg29 rfl rfl)) rfl ?_
    refine QJ.step (YldS.yld (y_lenS Tryd.runUnderlying29 hr4 rfl)) rfl ?_
    refine QJ.step (YldS.yld (y_bin rfl rfl rfl)) rfl ?_
    refine QJ.done ?_
    refine PJ.next ?_
    refine WJ.cond (t := decide ((w64 (s1.at_ + 1)) ≤ (List.length s1.code : Int))) rfl (fun hb14 => ?_) (fun hb14 => ?_)
    · replace hm := ifT hm hb14
      refine WJ.seq ?_
      refine WJ.quiet ?_
      refine QJ.step (YldS.yld (y_move rfl)) rfl ?_
      refine QJ.step (YldS.yld (y_assign rfl)) rfl ?_
      refine QJ.done ?_
      refine PJ.next ?_
      refine WJ.ret ?_
      refine PJ.then_ret ?_
      obtain rfl := Option.some.inj hm
      refine PJ.sel (L' := [box g2 67 [v3, .int .i64 (w64 (s1.at_ + 1)), .int .u64 (IntKind.u64.wrap ((IntKind.u64.wrap ((IntKind.u64.wrap (s1.seed * 6364136223846793005)) + (IntKind.u64.wrap b5))) + 1442695040888963407))]]) [0] ⟨by decide, rfl⟩ ?_
      exact PJ.retn (vs := [.int .i64 b5]) Tryd.results51 ⟨rfl, trivial⟩ ⟨rfl, rfl⟩
    · replace hm := ifF hm hb14
      refine WJ.skip ?_
      refine PJ.next ?_
      refine WJ.seq ?_
      refine WJ.quiet ?_
      refine QJ.step (YldS.yld (y_move rfl)) rfl ?_
      refine QJ.step (YldS.yld (y_nil rfl)) rfl ?_
      refine QJ.step (YldS.yld (y_fldB (o := 0) fld67_2 rfl)) rfl ?_
      refine QJ.step (YldS.yld (y_loadB (k := 0) (off := 2) (v := .int .u64 (IntKind.u64.wrap ((IntKind.u64.wrap ((IntKind.u64.wrap (s1.seed * 6364136223846793005)) + (IntKind.u64.wrap b5))) + 1442695040888963407))) rfl Tryd.isAgg65 rfl rfl)) rfl ?_
      refine QJ.step (YldS.yld (y_shru rfl rfl rfl)) rfl ?_
      refine QJ.step (YldS.yld (y_andu rfl rfl rfl)) rfl ?_
      refine QJ.step (YldS.yld (y_convI Tryd.runUnderlying65 Tryd.runUnderlying2 rfl)) rfl ?_
      refine QJ.step (YldS.yld (y_assign rfl)) rfl ?_
      refine QJ.done ?_
      refine PJ.next ?_
      refine WJ.ret ?_
      obtain rfl := Option.some.inj hm
      refine PJ.sel (L' := [box g2 67 [v3, .int .i64 (w64 (s1.at_ + 1)), .int .u64 (IntKind.u64.wrap ((IntKind.u64.wrap ((IntKind.u64.wrap (s1.seed * 6364136223846793005)) + (IntKind.u64.wrap b5))) + 1442695040888963407))]]) [0] ⟨by decide, rfl⟩ ?_
      exact PJ.retn (vs := [.int .i64 (w64 (uand (ushr (IntKind.u64.wrap ((IntKind.u64.wrap ((IntKind.u64.wrap (s1.seed * 6364136223846793005)) + (IntKind.u64.wrap b5))) + 1442695040888963407)) 40) 255))]) Tryd.results51 ⟨rfl, trivial⟩ ⟨rfl, rfl⟩

set_option maxRecDepth 100000 in
set_option maxHeartbeats 1000000 in
theorem ok_s_l00Src_pick {s1 : L00Src} {n5 : Int} {g2 : Nat} {r : Int × L00Src} (hm : s_l00Src_pick s1 n5 = some r) (w : World) (S : Nat → Prop) (v3 : Value) (hr4 : RdS w (Cx.Fz ⟨w, S⟩) v3 fByte.rp s1.code) (hA : (box g2 67 [v3, .int .i64 s1.at_, .int .u64 s1.seed]).holds w S) :
    Calls Tryd.prog 44 #[pt g2 0, .int .i64 n5] w (RetG ⟨w, S⟩ fun u L => (u = .int .i64 r.1 ∧ L = [box g2 67 [v3, .int .i64 r.2.at_, .int .u64 r.2.seed]])) := by
  unfold s_l00Src_pick at hm
  refine Calls.enter1 hA [pt g2 0, .int .i64 n5] Tryd.func44 rfl Tryd.ntmps44 rfl ?_
  refine WJ.seq ?_
  refine WJ.quiet ?_
  refine QJ.step (YldS.yld (y_assign rfl)) rfl ?_
  refine QJ.done ?_
  refine PJ.next ?_
  refine WJ.seq ?_
  refine WJ.seq ?_
  refine WJ.quiet ?_
  refine QJ.step (YldS.yld (y_move rfl)) rfl ?_
  refine QJ.step (YldS.yld (y_bin rfl rfl rfl)) rfl ?_
  refine QJ.done ?_
  refine PJ.next ?_
  refine WJ.cond (t := decide (n5 ≤ 1)) rfl (fun hb6 => ?_) (fun hb6 => ?_)
  · replace hm := ifT hm hb6
    refine WJ.seq ?_
    refine WJ.quiet ?_
    refine QJ.step (YldS.yld (y_assign rfl)) rfl ?_
    refine QJ.done ?_
    refine PJ.next ?_
    refine WJ.ret ?_
    refine PJ.then_ret ?_
    obtain rfl := Option.some.inj hm
    refine PJ.sel (L' := [box g2 67 [v3, .int .i64 s1.at_, .int .u64 s1.seed]]) [0] ⟨by decide, rfl⟩ ?_
    exact PJ.retn (vs := [.int .i64 0]) Tryd.results44 ⟨rfl, trivial⟩ ⟨rfl, rfl⟩
  · replace hm := ifF hm hb6
    refine WJ.skip ?_
    refine PJ.next ?_
    refine WJ.seq ?_
    refine WJ.reg ?_
    refine SJ.q (YldS.yld (y_move rfl)) rfl ?_
    obtain ⟨r7, h8, hm⟩ := bindS hm
    refine SJ.call1 (k := 0) rfl Tryd.call51 rfl (fun w S hw hA hO => ok_s_l00Src_next h8 w S _ (hr4.st1 hw hO) hA) rfl ?_
    rintro _ _ ⟨rfl, rfl⟩
    refine SJ.q (YldS.yld (y_assign rfl)) rfl ?_
    refine SJ.nil ?_
    refine PJ.next ?_
    obtain ⟨kj12, hk13, hm⟩ := withK_open hm
    refine WJ.join (X := Int × Int × Int) (fun (x : Int × Int × Int) => kj12 x.1 x.2.1 x.2.2 = some r) (fun (x : Int × Int × Int) => [(1, .int .i64 n5), (5, .int .i64 x.2.2)]) (fun (x : Int × Int × Int) => [box g2 67 [v3, .int .i64 x.1, .int .u64 x.2.1]]) ?_ ?_
    · clear hk13
      refine WJ.seq ?_
      refine WJ.quiet ?_
      refine QJ.step (YldS.yld (y_move rfl)) rfl ?_
      refine QJ.step (YldS.yld (y_bin rfl rfl rfl)) rfl ?_
      refine QJ.done ?_
      refine PJ.next ?_
      refine WJ.cond (t := decide (n5 > 200)) rfl (fun hb14 => ?_) (fun hb14 => ?_)
      · replace hm := ifT hm hb14
        refine WJ.reg ?_
        refine SJ.q (YldS.yld (y_move rfl)) rfl ?_
        refine SJ.q (YldS.yld (y_bin rfl rfl rfl)) rfl ?_
        refine SJ.q (YldS.yld (y_move rfl)) rfl ?_
        obtain ⟨r15, h16, hm⟩ := bindS hm
        refine SJ.call1 (k := 0) rfl Tryd.call51 rfl (fun w S hw hA hO => ok_s_l00Src_next h16 w S _ (hr4.st1 hw hO) hA) rfl ?_
        rintro _ _ ⟨rfl, rfl⟩
        refine SJ.q (YldS.yld (y_bin rfl rfl rfl)) rfl ?_
        refine SJ.q (YldS.yld (y_assign rfl)) rfl ?_
        refine SJ.nil ?_
        exact PJ.joined (r15.2.at_, r15.2.seed, w64 ((w64 (r7.1 * 256)) + r15.1)) [0] hm ⟨rfl, rfl, trivial⟩ ⟨by decide, rfl⟩
      · replace hm := ifF hm hb14
        refine WJ.skip ?_
        exact PJ.joined (r7.2.at_, r7.2.seed, r7.1) [0] hm ⟨rfl, rfl, trivial⟩ ⟨by decide, rfl⟩
    · rintro ⟨x9, x10, x11⟩ hm
      subst hk13
      refine WJ.seq ?_
      refine WJ.quiet ?_
      refine QJ.step (YldS.yld (y_move rfl)) rfl ?_
      refine QJ.step (YldS.yld (y_move rfl)) rfl ?_
      obtain ⟨q17, h18, hm⟩ := bindS hm
      refine QJ.step (YldS.yld (y_rem' h18 rfl rfl)) rfl ?_
      refine QJ.step (YldS.yld (y_assign rfl)) rfl ?_
      refine QJ.done ?_
      refine PJ.next ?_
      refine WJ.ret ?_
      obtain rfl := Option.some.inj hm
      refine PJ.sel (L' := [box g2 67 [v3, .int .i64 x9, .int .u64 x10]]) [0] ⟨by decide, rfl⟩ ?_
      exact PJ.retn (vs := [.int .i64 q17]) Tryd.results44 ⟨rfl, trivial⟩ ⟨rfl, rfl⟩

set_option maxRecDepth 100000 in
set_option maxHeartbeats 1000000 in
theorem ok_s_l00Src_one {s1 : L00Src} {n5 : Int} {g2 : Nat} {r : Bool × L00Src} (hm : s_l00Src_one s1 n5 = some r) (w : World) (S : Nat → Prop) (v3 : Value) (hr4 : RdS w (Cx.Fz ⟨w, S⟩) v3 fByte.rp s1.code) (hA : (box g2 67 [v3, .int .i64 s1.at_, .int .u64 s1.seed]).holds w S) :
    Calls Tryd.prog 43 #[pt g2 0, .int .i64 n5] w (RetG ⟨w, S⟩ fun u L => (u = .bool r.1 ∧ L = [box g2 67 [v3, .int .i64 r.2.at_, .int .u64 r.2.seed]])) := by
  unfold s_l00Src_one at hm
  refine Calls.enter1 hA [pt g2 0, .int .i64 n5] Tryd.func43 rfl Tryd.ntmps43 rfl ?_
  refine WJ.seq ?_
  refine WJ.quiet ?_
  refine QJ.step (YldS.yld (y_assign rfl)) rfl ?_
  refine QJ.done ?_
  refine PJ.next ?_
  refine WJ.seq ?_
  refine WJ.reg ?_
  refine SJ.q (YldS.yld (y_move rfl)) rfl ?_
  refine SJ.q (YldS.yld (y_move rfl)) rfl ?_
  obtain ⟨r6, h7, hm⟩ := bindS hm
  refine SJ.call1 (k := 0) rfl Tryd.call44 rfl (fun w S hw hA hO => ok_s_l00Src_pick h7 w S _ (hr4.st1 hw hO) hA) rfl ?_
  rintro _ _ ⟨rfl, rfl⟩
  refine SJ.q (YldS.yld (y_bin rfl rfl rfl)) rfl ?_
  refine SJ.q (YldS.yld (y_assign rfl)) rfl ?_
  refine SJ.nil ?_
  refine PJ.next ?_
  refine WJ.ret ?_
  obtain rfl := Option.some.inj hm
  refine PJ.sel (L' := [box g2 67 [v3, .int .i64 r6.2.at_, .int .u64 r6.2.seed]]) [0] ⟨by decide, rfl⟩ ?_
  exact PJ.retn (vs := [.bool (r6.1 == 0)]) Tryd.results43 ⟨rfl, trivial⟩ ⟨rfl, rfl⟩

set_option maxRecDepth 100000 in
set_option maxHeartbeats 1000000 in
theorem ok_s_l24Draw {N : Nat} {s1 : L00Src} {g2 : Nat} {r : (List SparePart) × L00Src} (hm : s_l24Draw N s1 = some r) (w : World) (S : Nat → Prop) (v3 : Value) (hr4 : RdS w (Cx.Fz ⟨w, S⟩) v3 fByte.rp s1.code) (hA : (box g2 67 [v3, .int .i64 s1.at_, .int .u64 s1.seed]).holds w S) :
    Calls Tryd.prog 42 #[pt g2 0] w (RetG ⟨w, S⟩ fun u L => ∃ (u1 : Value), (u = u1 ∧ L = [box g2 67 [v3, .int .i64 r.2.at_, .int .u64 r.2.seed], row u1 46 fSparePart r.1])) := by
  unfold s_l24Draw at hm
  refine Calls.enter1 hA [pt g2 0] Tryd.func42 rfl Tryd.ntmps42 rfl ?_
  refine WJ.seq ?_
  refine WJ.quiet ?_
  refine QJ.step (YldS.yld (y_assign rfl)) rfl ?_
  refine QJ.done ?_
  refine PJ.next ?_
  refine WJ.seq ?_
  refine WJ.reg ?_
  refine SJ.buildSlice (R := fStr) (os := [.const (str [98, 97, 114]), .const (str [98, 101, 108, 108]), .const (str [100, 114, 117, 109]), .const (str [107, 101, 121, 45, 97]), .const (str [112, 97, 119, 108]), .const (str [114, 97, 99, 107]), .const (str [115, 112, 114, 105, 110, 103]), .const (str [115, 112, 111, 111, 108])]) [[98, 97, 114], [98, 101, 108, 108], [100, 114, 117, 109], [107, 101, 121, 45, 97], [112, 97, 119, 108], [114, 97, 99, 107], [115, 112, 114, 105, 110, 103], [115, 112, 111, 111, 108]] Tryd.runUnderlying68 Tryd.sizeOf9 Tryd.zeroValue9 rfl rfl rfl rfl rfl rfl fun v5 => ?_
  refine SJ.q (YldS.yld (y_assign rfl)) rfl ?_
  refine SJ.nil ?_
  refine PJ.next ?_
  refine WJ.seq ?_
  refine WJ.reg ?_
  refine SJ.buildSlice (R := fSparePart) (os := []) [] Tryd.runUnderlying25 Tryd.sizeOf46 Tryd.zeroValue46 rfl rfl rfl rfl rfl rfl fun v6 => ?_
  refine SJ.q (YldS.yld (y_assign rfl)) rfl ?_
  refine SJ.nil ?_
  refine PJ.next ?_
  obtain ⟨kj11, hk12, hm⟩ := withK_open hm
  refine WJ.join (X := Int × Int × (List SparePart) × Value) (fun (x : Int × Int × (List SparePart) × Value) => kj11 x.1 x.2.1 x.2.2.1 = some r) (fun (x : Int × Int × (List SparePart) × Value) => [(4, x.2.2.2)]) (fun (x : Int × Int × (List SparePart) × Value) => [box g2 67 [v3, .int .i64 x.1, .int .u64 x.2.1], row x.2.2.2 46 fSparePart x.2.2.1]) ?_ ?_
  · clear hk12
    refine WJ.seq ?_
    refine WJ.reg ?_
    refine SJ.q (YldS.yld (y_move rfl)) rfl ?_
    obtain ⟨r13, h14, hm⟩ := bindS hm
    refine SJ.call1 (k := 2) rfl Tryd.call44 rfl (fun w S hw hA hO => ok_s_l00Src_pick h14 w S _ (hr4.st1 hw hO) hA) rfl ?_
    rintro _ _ ⟨rfl, rfl⟩
    refine SJ.q (YldS.yld (y_assign rfl)) rfl ?_
    refine SJ.nil ?_
    refine PJ.next ?_
    refine WJ.block ?_
    refine WJ.sel (L' := (fun (x : Int × Int × (List SparePart) × Value × Int) => [box g2 67 [v3, .int .i64 x.1, .int .u64 x.2.1], row x.2.2.2.1 46 fSparePart x.2.2.1, row v5 9 fStr [[98, 97, 114], [98, 101, 108, 108], [100, 114, 117, 109], [107, 101, 121, 45, 97], [112, 97, 119, 108], [114, 97, 99, 107], [115, 112, 114, 105, 110, 103], [115, 112, 111, 111, 108]]]) (r13.2.at_, r13.2.seed, [], v6, r13.1)) [0, 1, 2] ⟨by decide, rfl⟩ ?_
    refine WJ.sub (m' := (fun (x : Int × Int × (List SparePart) × Value × Int) => [(0, pt g2 0), (3, v5), (4, x.2.2.2.1), (5, .int .i64 x.2.2.2.2)]) (r13.2.at_, r13.2.seed, [], v6, r13.1)) ⟨rfl, rfl, rfl, rfl, trivial⟩ ?_
    refine WJ.loop (X := Int × Int × (List SparePart) × Value × Int) (fun N (x : Int × Int × (List SparePart) × Value × Int) => s_l24Draw_l1 kj11 s1 N x.1 x.2.1 x.2.2.1 x.2.2.2.2 = some r) (fun (x : Int × Int × (List SparePart) × Value × Int) => [(0, pt g2 0), (3, v5), (4, x.2.2.2.1), (5, .int .i64 x.2.2.2.2)]) (fun (x : Int × Int × (List SparePart) × Value × Int) => [box g2 67 [v3, .int .i64 x.1, .int .u64 x.2.1], row x.2.2.2.1 46 fSparePart x.2.2.1, row v5 9 fStr [[98, 97, 114], [98, 101, 108, 108], [100, 114, 117, 109], [107, 101, 121, 45, 97], [112, 97, 119, 108], [114, 97, 99, 107], [115, 112, 114, 105, 110, 103], [115, 112, 111, 111, 108]]]) ?_ N (r13.2.at_, r13.2.seed, [], v6, r13.1) hm
    · rintro N ⟨x15, x16, l17, v18, k19⟩ hI
      have hm := hI; clear hI
      cases N with
      | zero => cases hm
      | succ N =>
      unfold s_l24Draw_l1 at hm
      refine WJ.seq ?_
      refine WJ.seq ?_
      refine WJ.quiet ?_
      refine QJ.step (YldS.yld (y_move rfl)) rfl ?_
      refine QJ.step (YldS.yld (y_bin rfl rfl rfl)) rfl ?_
      refine QJ.done ?_
      refine PJ.next ?_
      refine WJ.cond (t := decide (k19 > 0)) rfl (fun hb20 => ?_) (fun hb20 => ?_)
      · replace hm := ifT hm hb20
        refine WJ.skip ?_
        refine PJ.next ?_
        refine WJ.seq ?_
        refine WJ.block ?_
        refine WJ.seq ?_
        obtain ⟨e21, h22, hm⟩ := bindS hm
        obtain ⟨r23, h24, hm⟩ := bindS hm
        refine WJ.draws (N := 10) (listed0 := #[false, false, false, false, false, false, false, false, false, false]) [row v18 46 fSparePart l17, row v5 9 fStr [[98, 97, 114], [98, 101, 108, 108], [100, 114, 117, 109], [107, 101, 121, 45, 97], [112, 97, 119, 108], [114, 97, 99, 107], [115, 112, 114, 105, 110, 103], [115, 112, 111, 111, 108]]] follows rfl rfl ?_
        refine RJ.first 0 (listed' := #[true, false, false, false, false, false, false, false, false, false]) [1, 2] rfl (by kernel_rfl) rfl ⟨by decide, rfl⟩ (y_move rfl) rfl ?_
        refine RJ.first 1 (listed' := #[true, true, false, false, false, false, false, false, false, false]) [1, 2] rfl (by kernel_rfl) rfl ⟨by decide, rfl⟩ (y_move rfl) rfl ?_
        refine RJ.first 2 (listed' := #[true, true, true, false, false, false, false, false, false, false]) [1, 2] rfl (by kernel_rfl) rfl ⟨by decide, rfl⟩ (y_lenRow (k := 0) rfl Tryd.runUnderlying25 rfl) rfl ?_
        refine RJ.first 3 (listed' := #[true, true, true, true, false, false, false, false, false, false]) [1, 2] rfl (by kernel_rfl) rfl ⟨by decide, rfl⟩ (y_ixRow (k := 1) (R := fStr) rfl Tryd.runUnderlying68 Tryd.sizeOf9 rfl rfl h22) rfl ?_
        refine RJ.first 4 (listed' := #[true, true, true, true, true, false, false, false, false, false]) [1, 2] rfl (by kernel_rfl) rfl ⟨by decide, rfl⟩ (y_loadR (k := 1) (i := (Int.toNat (List.length l17 : Int))) (off := 0) (u := str e21) rfl Tryd.isAgg9 rfl (idx_get h22) rfl) rfl ?_
        refine RJ.first 5 (listed' := #[true, true, true, true, true, true, false, false, false, false]) [1, 2] rfl (by kernel_rfl) rfl ⟨by decide, rfl⟩ (y_move rfl) rfl ?_
        refine RJ.hold (X := Nat) 1 #[true, true, true, true, true, true, true, true, true, false] (fun (x : Nat) => [(0, pt g2 0), (3, v5), (4, v18), (5, .int .i64 k19), (6, pt x 0), (22, .agg (SparePart.enc (SparePart.mk e21 r23.1 0 0 (-1))).toArray)]) (fun (x : Nat) => [box x 46 [str [], .int .i64 0, .int .i64 0, .int .i64 0, .int .i64 0], box g2 67 [v3, .int .i64 r23.2.at_, .int .u64 r23.2.seed], row v18 46 fSparePart l17, row v5 9 fStr [[98, 97, 114], [98, 101, 108, 108], [100, 114, 117, 109], [107, 101, 121, 45, 97], [112, 97, 119, 108], [114, 97, 99, 107], [115, 112, 114, 105, 110, 103], [115, 112, 111, 111, 108]]]) ?_ ?_
        · rintro g25
          refine RJ.step1 9 [2, 3] (by kernel_rfl) ⟨by decide, rfl⟩ ?_
          refine RO.of (listed' := #[true, true, true, true, true, true, true, true, true, true]) rfl rfl ?_
          refine SJ.storeL (k := 0) (off := 0) (us := [str ((SparePart.mk e21 r23.1 0 0 (-1)).name), .int .i64 ((SparePart.mk e21 r23.1 0 0 (-1)).stock), .int .i64 ((SparePart.mk e21 r23.1 0 0 (-1)).target), .int .i64 ((SparePart.mk e21 r23.1 0 0 (-1)).days), .int .i64 ((SparePart.mk e21 r23.1 0 0 (-1)).instead)]) rfl rfl rfl rfl Tryd.sizeOf46 rfl rfl ?_
          refine SJ.nil ?_
          refine PJ.draw ?_
          refine RJ.fin [2, 3] (by kernel_rfl) ⟨by decide, rfl⟩ ?_
          refine PJ.next ?_
          refine WJ.seq ?_
          refine WJ.reg ?_
          refine SJ.q (YldS.yld (y_move rfl)) rfl ?_
          obtain ⟨r27, h28, hm⟩ := bindS hm
          refine SJ.call1 (k := 1) rfl Tryd.call44 rfl (fun w S hw hA hO => ok_s_l00Src_pick h28 w S _ (hr4.st1 hw hO) hA) rfl ?_
          rintro _ _ ⟨rfl, rfl⟩
          refine SJ.q (YldS.yld (y_fldB (o := 0) fld46_2 rfl)) rfl ?_
          refine SJ.storeL (k := 1) (off := 2) (us := [.int .i64 r27.1]) rfl rfl rfl rfl Tryd.sizeOf2 rfl rfl ?_
          refine SJ.nil ?_
          refine PJ.next ?_
          refine WJ.seq ?_
          refine WJ.reg ?_
          refine SJ.q (YldS.yld (y_move rfl)) rfl ?_
          obtain ⟨r29, h30, hm⟩ := bindS hm
          refine SJ.call1 (k := 0) rfl Tryd.call44 rfl (fun w S hw hA hO => ok_s_l00Src_pick h30 w S _ (hr4.st1 hw hO) hA) rfl ?_
          rintro _ _ ⟨rfl, rfl⟩
          refine SJ.q (YldS.yld (y_fldB (o := 0) fld46_3 rfl)) rfl ?_
          refine SJ.storeL (k := 1) (off := 3) (us := [.int .i64 r29.1]) rfl rfl rfl rfl Tryd.sizeOf2 rfl rfl ?_
          refine SJ.nil ?_
          refine PJ.next ?_
          obtain ⟨kj38, hk39, hm⟩ := withK_open hm
          refine WJ.join (X := Int × Int × Str × Int × Int × Int × Int) (fun (x : Int × Int × Str × Int × Int × Int × Int) => kj38 x.1 x.2.1 x.2.2.1 x.2.2.2.1 x.2.2.2.2.1 x.2.2.2.2.2.1 x.2.2.2.2.2.2 = some r) (fun (x : Int × Int × Str × Int × Int × Int × Int) => [(0, pt g2 0), (3, v5), (4, v18), (5, .int .i64 k19), (6, pt g25 0)]) (fun (x : Int × Int × Str × Int × Int × Int × Int) => [box g2 67 [v3, .int .i64 x.1, .int .u64 x.2.1], box g25 46 [str x.2.2.1, .int .i64 x.2.2.2.1, .int .i64 x.2.2.2.2.1, .int .i64 x.2.2.2.2.2.1, .int .i64 x.2.2.2.2.2.2], row v18 46 fSparePart l17, row v5 9 fStr [[98, 97, 114], [98, 101, 108, 108], [100, 114, 117, 109], [107, 101, 121, 45, 97], [112, 97, 119, 108], [114, 97, 99, 107], [115, 112, 114, 105, 110, 103], [115, 112, 111, 111, 108]]]) ?_ ?_
          · clear hk39
            refine WJ.seq ?_
            refine WJ.reg ?_
            refine SJ.q (YldS.yld (y_move rfl)) rfl ?_
            refine SJ.q (YldS.yld (y_lenRow (k := 2) rfl Tryd.runUnderlying25 rfl)) rfl ?_
            refine SJ.q (YldS.yld (y_bin rfl rfl rfl)) rfl ?_
            refine SJ.q (YldS.yld (y_move rfl)) rfl ?_
            obtain ⟨x42, h41, hm⟩ := bindS hm
            refine SJ.cut 3 [(0, pt g2 0), (3, v5), (4, v18), (5, .int .i64 k19), (6, pt g25 0), (35, .bool x42.1)] [box g2 67 [v3, .int .i64 x42.2.at_, .int .u64 x42.2.seed], box g25 46 [str ((SparePart.mk e21 r23.1 0 0 (-1)).name), .int .i64 ((SparePart.mk e21 r23.1 0 0 (-1)).stock), .int .i64 r27.1, .int .i64 r29.1, .int .i64 ((SparePart.mk e21 r23.1 0 0 (-1)).instead)], row v18 46 fSparePart l17, row v5 9 fStr [[98, 97, 114], [98, 101, 108, 108], [100, 114, 117, 109], [107, 101, 121, 45, 97], [112, 97, 119, 108], [114, 97, 99, 107], [115, 112, 114, 105, 110, 103], [115, 112, 111, 111, 108]]] ?_ ?_
            · rcases Bool.eq_false_or_eq_true (decide ((List.length l17 : Int) > 0)) with hb43 | hb43
              · replace h41 := ifT h41 hb43
                refine SJ.on rfl rfl (cB hb43) (SJ.q (YldS.yld (y_move rfl)) rfl ?_)
                obtain ⟨r44, h45, h41⟩ := bindS h41
                refine SJ.on rfl rfl (cB hb43) (SJ.call1 (k := 0) rfl Tryd.call43 rfl (fun w S hw hA hO => ok_s_l00Src_one h45 w S _ (hr4.st1 hw hO) hA) rfl ?_)
                rintro _ _ ⟨rfl, rfl⟩
                refine SJ.q (YldS.yld (y_pick_t (cB hb43) rfl)) rfl ?_
                obtain rfl := Option.some.inj h41
                exact SJ.cut_end [0, 1, 2, 3] ⟨rfl, rfl, rfl, rfl, rfl, rfl, trivial⟩ ⟨by decide, rfl⟩
              · replace h41 := ifF h41 hb43
                obtain rfl := Option.some.inj h41
                refine SJ.off rfl rfl (cB hb43) rfl rfl ?_
                refine SJ.off rfl rfl (cB hb43) rfl rfl ?_
                refine SJ.q (YldS.yld (y_pick_f (cB hb43) rfl)) rfl ?_
                exact SJ.cut_end [0, 1, 2, 3] ⟨rfl, rfl, rfl, rfl, rfl, rfl, trivial⟩ ⟨by decide, rfl⟩
            refine SJ.nil ?_
            refine PJ.next ?_
            refine WJ.cond (t := x42.1) rfl (fun hb46 => ?_) (fun hb46 => ?_)
            · replace hm := ifT hm hb46
              refine WJ.reg ?_
              refine SJ.q (YldS.yld (y_move rfl)) rfl ?_
              refine SJ.q (YldS.yld (y_move rfl)) rfl ?_
              refine SJ.q (YldS.yld (y_lenRow (k := 2) rfl Tryd.runUnderlying25 rfl)) rfl ?_
              obtain ⟨r47, h48, hm⟩ := bindS hm
              refine SJ.call1 (k := 0) rfl Tryd.call44 rfl (fun w S hw hA hO => ok_s_l00Src_pick h48 w S _ (hr4.st1 hw hO) hA) rfl ?_
              rintro _ _ ⟨rfl, rfl⟩
              refine SJ.q (YldS.yld (y_fldB (o := 0) fld46_4 rfl)) rfl ?_
              refine SJ.storeL (k := 1) (off := 4) (us := [.int .i64 r47.1]) rfl rfl rfl rfl Tryd.sizeOf2 rfl rfl ?_
              refine SJ.nil ?_
              exact PJ.joined (r47.2.at_, r47.2.seed, (SparePart.mk e21 r23.1 0 0 (-1)).name, (SparePart.mk e21 r23.1 0 0 (-1)).stock, r27.1, r29.1, r47.1) [0, 1, 2, 3] hm ⟨rfl, rfl, rfl, rfl, rfl, trivial⟩ ⟨by decide, rfl⟩
            · replace hm := ifF hm hb46
              refine WJ.skip ?_
              exact PJ.joined (x42.2.at_, x42.2.seed, (SparePart.mk e21 r23.1 0 0 (-1)).name, (SparePart.mk e21 r23.1 0 0 (-1)).stock, r27.1, r29.1, (SparePart.mk e21 r23.1 0 0 (-1)).instead) [0, 1, 2, 3] hm ⟨rfl, rfl, rfl, rfl, rfl, trivial⟩ ⟨by decide, rfl⟩
          · rintro ⟨x31, x32, x33, x34, x35, x36, x37⟩ hm
            subst hk39
            obtain ⟨kj56, hk57, hm⟩ := withK_open hm
            refine WJ.join (X := Int × Int × Str × Int × Int × Int × Int) (fun (x : Int × Int × Str × Int × Int × Int × Int) => kj56 x.1 x.2.1 x.2.2.1 x.2.2.2.1 x.2.2.2.2.1 x.2.2.2.2.2.1 x.2.2.2.2.2.2 = some r) (fun (x : Int × Int × Str × Int × Int × Int × Int) => [(0, pt g2 0), (3, v5), (4, v18), (5, .int .i64 k19), (6, pt g25 0)]) (fun (x : Int × Int × Str × Int × Int × Int × Int) => [box g2 67 [v3, .int .i64 x.1, .int .u64 x.2.1], box g25 46 [str x.2.2.1, .int .i64 x.2.2.2.1, .int .i64 x.2.2.2.2.1, .int .i64 x.2.2.2.2.2.1, .int .i64 x.2.2.2.2.2.2], row v18 46 fSparePart l17, row v5 9 fStr [[98, 97, 114], [98, 101, 108, 108], [100, 114, 117, 109], [107, 101, 121, 45, 97], [112, 97, 119, 108], [114, 97, 99, 107], [115, 112, 114, 105, 110, 103], [115, 112, 111, 111, 108]]]) ?_ ?_
            · clear hk57
              refine WJ.seq ?_
              refine WJ.reg ?_
              refine SJ.q (YldS.yld (y_move rfl)) rfl ?_
              obtain ⟨r58, h59, hm⟩ := bindS hm
              refine SJ.call1 (k := 0) rfl Tryd.call43 rfl (fun w S hw hA hO => ok_s_l00Src_one h59 w S _ (hr4.st1 hw hO) hA) rfl ?_
              rintro _ _ ⟨rfl, rfl⟩
              refine SJ.nil ?_
              refine PJ.next ?_
              refine WJ.cond (t := r58.1) rfl (fun hb60 => ?_) (fun hb60 => ?_)
              · replace hm := ifT hm hb60
                refine WJ.reg ?_
                refine SJ.q (YldS.yld (y_fldB (o := 0) fld46_1 rfl)) rfl ?_
                refine SJ.storeL (k := 1) (off := 1) (us := [.int .i64 0]) rfl rfl rfl rfl Tryd.sizeOf2 rfl rfl ?_
                refine SJ.nil ?_
                exact PJ.joined (r58.2.at_, r58.2.seed, x33, 0, x35, x36, x37) [0, 1, 2, 3] hm ⟨rfl, rfl, rfl, rfl, rfl, trivial⟩ ⟨by decide, rfl⟩
              · replace hm := ifF hm hb60
                refine WJ.skip ?_
                exact PJ.joined (r58.2.at_, r58.2.seed, x33, x34, x35, x36, x37) [0, 1, 2, 3] hm ⟨rfl, rfl, rfl, rfl, rfl, trivial⟩ ⟨by decide, rfl⟩
            · rintro ⟨x49, x50, x51, x52, x53, x54, x55⟩ hm
              subst hk57
              refine WJ.reg ?_
              refine SJ.q (YldS.yld (y_move rfl)) rfl ?_
              refine SJ.q (YldS.yld (y_loadBN (k := 1) (off := 0) (us := [str x51, .int .i64 x52, .int .i64 x53, .int .i64 x54, .int .i64 x55]) rfl Tryd.isAgg46 Tryd.sizeOf46 rfl rfl)) rfl ?_
              refine SJ.buildSlice (R := fSparePart) (os := [.tmp 45]) [(SparePart.mk x51 x52 x53 x54 x55)] Tryd.runUnderlying25 Tryd.sizeOf46 Tryd.zeroValue46 rfl rfl rfl rfl rfl rfl fun v61 => ?_
              obtain ⟨l62, h63, hm⟩ := bindS hm
              refine SJ.append (k := 3) (R := fSparePart) h63 rfl Tryd.underlying25 el46 rfl rfl rfl (fun w hw => (hw.row_rd (k := 0) rfl)) rfl fun v64 => ?_
              refine SJ.q (YldS.yld (y_assign rfl)) rfl ?_
              refine SJ.nil ?_
              refine PJ.block_normal (PJ.next ?_)
              refine WJ.quiet ?_
              refine QJ.step (YldS.yld (y_move rfl)) rfl ?_
              refine QJ.step (YldS.yld (y_bin rfl rfl rfl)) rfl ?_
              refine QJ.step (YldS.yld (y_assign rfl)) rfl ?_
              refine QJ.done ?_
              exact PJ.round (x49, x50, l62, v64, w64 (k19 - 1)) [1, 3, 4] hm ⟨rfl, rfl, rfl, rfl, trivial⟩ ⟨by decide, rfl⟩
        · intro hD26
          refine RJ.step2 6 8 [1, 2] (by kernel_rfl) ⟨by decide, rfl⟩ ?_ ?_
          · refine RO.of (listed' := #[true, true, true, true, true, true, true, false, false, false]) rfl rfl ?_
            refine SJ.call1 (k := 0) rfl Tryd.call44 rfl (fun w S hw hA hO => ok_s_l00Src_pick h24 w S _ (hr4.st1 hw hO) hA) rfl ?_
            rintro _ _ ⟨rfl, rfl⟩
            refine SJ.nil ?_
            refine PJ.draw ?_
            refine RJ.first 7 (listed' := #[true, true, true, true, true, true, true, true, false, false]) [1, 2] rfl (by kernel_rfl) rfl ⟨by decide, rfl⟩ (y_build (parts := [(0, .tmp 19), (1, .tmp 21), (4, .const (.int .i64 (-1)))]) (places := [(0, 1), (1, 1), (2, 1), (3, 1), (4, 1)]) (r := [str ((SparePart.mk e21 r23.1 0 0 (-1)).name), .int .i64 ((SparePart.mk e21 r23.1 0 0 (-1)).stock), .int .i64 ((SparePart.mk e21 r23.1 0 0 (-1)).target), .int .i64 ((SparePart.mk e21 r23.1 0 0 (-1)).days), .int .i64 ((SparePart.mk e21 r23.1 0 0 (-1)).instead)]) pl46 Tryd.zeroValue46 rfl rfl rfl rfl) rfl ?_
            refine RJ.step1 8 [1, 2] (by kernel_rfl) ⟨by decide, rfl⟩ ?_
            refine RO.of (listed' := #[true, true, true, true, true, true, true, true, true, false]) rfl rfl ?_
            refine SJ.alloc (cs := [str [], .int .i64 0, .int .i64 0, .int .i64 0, .int .i64 0]) Tryd.zeroValue46 rfl rfl fun g25 => ?_
            refine SJ.nil ?_
            refine PJ.draw ?_
            exact RJ.weak (hD26 g25) [0, 1, 2, 3] ⟨rfl, rfl, rfl, rfl, rfl, rfl, trivial⟩ ⟨by decide, rfl⟩
          · refine RO.of (listed' := #[true, true, true, true, true, true, false, false, true, false]) rfl rfl ?_
            refine SJ.alloc (cs := [str [], .int .i64 0, .int .i64 0, .int .i64 0, .int .i64 0]) Tryd.zeroValue46 rfl rfl fun g25 => ?_
            refine SJ.nil ?_
            refine PJ.draw ?_
            refine RJ.step1 6 [2, 3] (by kernel_rfl) ⟨by decide, rfl⟩ ?_
            refine RO.of (listed' := #[true, true, true, true, true, true, true, false, true, false]) rfl rfl ?_
            refine SJ.call1 (k := 1) rfl Tryd.call44 rfl (fun w S hw hA hO => ok_s_l00Src_pick h24 w S _ (hr4.st1 hw hO) hA) rfl ?_
            rintro _ _ ⟨rfl, rfl⟩
            refine SJ.nil ?_
            refine PJ.draw ?_
            refine RJ.first 7 (listed' := #[true, true, true, true, true, true, true, true, true, false]) [2, 3] rfl (by kernel_rfl) rfl ⟨by decide, rfl⟩ (y_build (parts := [(0, .tmp 19), (1, .tmp 21), (4, .const (.int .i64 (-1)))]) (places := [(0, 1), (1, 1), (2, 1), (3, 1), (4, 1)]) (r := [str ((SparePart.mk e21 r23.1 0 0 (-1)).name), .int .i64 ((SparePart.mk e21 r23.1 0 0 (-1)).stock), .int .i64 ((SparePart.mk e21 r23.1 0 0 (-1)).target), .int .i64 ((SparePart.mk e21 r23.1 0 0 (-1)).days), .int .i64 ((SparePart.mk e21 r23.1 0 0 (-1)).instead)]) pl46 Tryd.zeroValue46 rfl rfl rfl rfl) rfl ?_
            exact RJ.weak (hD26 g25) [1, 0, 2, 3] ⟨rfl, rfl, rfl, rfl, rfl, rfl, trivial⟩ ⟨by decide, rfl⟩
      · replace hm := ifF hm hb20
        refine WJ.exit ?_
        refine PJ.then_exit (PJ.then_exit (PJ.block_exit ?_))
        exact PJ.joined (x15, x16, l17, v18) [0, 1] hm ⟨rfl, trivial⟩ ⟨by decide, rfl⟩
  · rintro ⟨x7, x8, l9, v10⟩ hm
    subst hk12
    refine WJ.seq ?_
    refine WJ.quiet ?_
    refine QJ.step (YldS.yld (y_move rfl)) rfl ?_
    refine QJ.step (YldS.yld (y_assign rfl)) rfl ?_
    refine QJ.done ?_
    refine PJ.next ?_
    refine WJ.ret ?_
    obtain rfl := Option.some.inj hm
    refine PJ.sel (L' := [box g2 67 [v3, .int .i64 x7, .int .u64 x8], row v10 46 fSparePart l9]) [0, 1] ⟨by decide, rfl⟩ ?_
    exact PJ.retn (vs := [v10]) Tryd.results42 ⟨rfl, trivial⟩ ⟨_, rfl, rfl⟩

set_option maxRecDepth 100000 in
set_option maxHeartbeats 1000000 in
theorem ok_s_l00Src_text {s1 : L00Src} {list5 : List Str} {g2 : Nat} {r : Str × L00Src} (hm : s_l00Src_text s1 list5 = some r) (w : World) (S : Nat → Prop) (v3 : Value) (hr4 : RdS w (Cx.Fz ⟨w, S⟩) v3 fByte.rp s1.code) (v6 : Value) (hr7 : RdS w (Cx.Fz ⟨w, S⟩) v6 fStr.rp list5) (hA : (box g2 67 [v3, .int .i64 s1.at_, .int .u64 s1.seed]).holds w S) :
    Calls Tryd.prog 56 #[pt g2 0, v6] w (RetG ⟨w, S⟩ fun u L => (u = str r.1 ∧ L = [box g2 67 [v3, .int .i64 r.2.at_, .int .u64 r.2.seed]])) := by
  unfold s_l00Src_text at hm
  refine Calls.enter1 hA [pt g2 0, v6] Tryd.func56 rfl Tryd.ntmps56 rfl ?_
  refine WJ.seq ?_
  refine WJ.quiet ?_
  refine QJ.step (YldS.yld (y_assign rfl)) rfl ?_
  refine QJ.done ?_
  refine PJ.next ?_
  refine WJ.seq ?_
  refine WJ.reg ?_
  refine SJ.q (YldS.yld (y_move rfl)) rfl ?_
  refine SJ.q (YldS.yld (y_move rfl)) rfl ?_
  refine SJ.q (YldS.yld (y_move rfl)) rfl ?_
  refine SJ.q (YldS.yld (y_lenS Tryd.runUnderlying68 hr7 rfl)) rfl ?_
  obtain ⟨r8, h9, hm⟩ := bindS hm
  refine SJ.call1 (k := 0) rfl Tryd.call44 rfl (fun w S hw hA hO => ok_s_l00Src_pick h9 w S _ (hr4.st1 hw hO) hA) rfl ?_
  rintro _ _ ⟨rfl, rfl⟩
  obtain ⟨e10, h11, hm⟩ := bindS hm
  obtain ⟨ad12, _, rfl, ha13, hy14⟩ := hr7.elem h11
  refine SJ.q (YldS.yld (hy14 Tryd.runUnderlying68 Tryd.sizeOf9 rfl rfl)) rfl ?_
  refine SJ.q (YldS.yld (y_load1 (v := str e10) Tryd.isAgg9 ha13 St.frozenC rfl)) rfl ?_
  refine SJ.q (YldS.yld (y_assign rfl)) rfl ?_
  refine SJ.nil ?_
  refine PJ.next ?_
  refine WJ.ret ?_
  obtain rfl := Option.some.inj hm
  refine PJ.sel (L' := [box g2 67 [v3, .int .i64 r8.2.at_, .int .u64 r8.2.seed]]) [0] ⟨by decide, rfl⟩ ?_
  exact PJ.retn (vs := [str e10]) Tryd.results56 ⟨rfl, trivial⟩ ⟨rfl, rfl⟩

set_option maxRecDepth 100000 in
set_option maxHeartbeats 1000000 in
theorem ok_s_l00Src_among {s1 : L00Src} {list5 : List Int} {g2 : Nat} {r : Int × L00Src} (hm : s_l00Src_among s1 list5 = some r) (w : World) (S : Nat → Prop) (v3 : Value) (hr4 : RdS w (Cx.Fz ⟨w, S⟩) v3 fByte.rp s1.code) (v6 : Value) (hr7 : RdS w (Cx.Fz ⟨w, S⟩) v6 fI64.rp list5) (hA : (box g2 67 [v3, .int .i64 s1.at_, .int .u64 s1.seed]).holds w S) :
    Calls Tryd.prog 50 #[pt g2 0, v6] w (RetG ⟨w, S⟩ fun u L => (u = .int .i64 r.1 ∧ L = [box g2 67 [v3, .int .i64 r.2.at_, .int .u64 r.2.seed]])) := by
  unfold s_l00Src_among at hm
  refine Calls.enter1 hA [pt g2 0, v6] Tryd.func50 rfl Tryd.ntmps50 rfl ?_
  refine WJ.seq ?_
  refine WJ.quiet ?_
  refine QJ.step (YldS.yld (y_assign rfl)) rfl ?_
  refine QJ.done ?_
  refine PJ.next ?_
  refine WJ.seq ?_
  refine WJ.reg ?_
  refine SJ.q (YldS.yld (y_move rfl)) rfl ?_
  refine SJ.q (YldS.yld (y_move rfl)) rfl ?_
  refine SJ.q (YldS.yld (y_move rfl)) rfl ?_
  refine SJ.q (YldS.yld (y_lenS Tryd.runUnderlying38 hr7 rfl)) rfl ?_
  obtain ⟨r8, h9, hm⟩ := bindS hm
  refine SJ.call1 (k := 0) rfl Tryd.call44 rfl (fun w S hw hA hO => ok_s_l00Src_pick h9 w S _ (hr4.st1 hw hO) hA) rfl ?_
  rintro _ _ ⟨rfl, rfl⟩
  obtain ⟨e10, h11, hm⟩ := bindS hm
  obtain ⟨ad12, _, rfl, ha13, hy14⟩ := hr7.elem h11
  refine SJ.q (YldS.yld (hy14 Tryd.runUnderlying38 Tryd.sizeOf2 rfl rfl)) rfl ?_
  refine SJ.q (YldS.yld (y_load1 (v := .int .i64 e10) Tryd.isAgg2 ha13 St.frozenC rfl)) rfl ?_
  refine SJ.q (YldS.yld (y_assign rfl)) rfl ?_
  refine SJ.nil ?_
  refine PJ.next ?_
  refine WJ.ret ?_
  obtain rfl := Option.some.inj hm
  refine PJ.sel (L' := [box g2 67 [v3, .int .i64 r8.2.at_, .int .u64 r8.2.seed]]) [0] ⟨by decide, rfl⟩ ?_
  exact PJ.retn (vs := [.int .i64 e10]) Tryd.results50 ⟨rfl, trivial⟩ ⟨rfl, rfl⟩

set_option maxRecDepth 100000 in
set_option maxHeartbeats 1000000 in
theorem ok_s_l24Bent {N : Nat} {s1 : L00Src} {g2 : Nat} {r : (List SparePart) × L00Src} (hm : s_l24Bent N s1 = some r) (w : World) (S : Nat → Prop) (v3 : Value) (hr4 : RdS w (Cx.Fz ⟨w, S⟩) v3 fByte.rp s1.code) (hA : (box g2 67 [v3, .int .i64 s1.at_, .int .u64 s1.seed]).holds w S) :
    Calls Tryd.prog 49 #[pt g2 0] w (RetG ⟨w, S⟩ fun u L => ∃ (u1 : Value), (u = u1 ∧ L = [box g2 67 [v3, .int .i64 r.2.at_, .int .u64 r.2.seed], row u1 46 fSparePart r.1])) := by
  unfold s_l24Bent at hm
  refine Calls.enter1 hA [pt g2 0] Tryd.func49 rfl Tryd.ntmps49 rfl ?_
  refine WJ.seq ?_
  refine WJ.quiet ?_
  refine QJ.step (YldS.yld (y_assign rfl)) rfl ?_
  refine QJ.done ?_
  refine PJ.next ?_
  refine WJ.seq ?_
  refine WJ.reg ?_
  refine SJ.q (YldS.yld (y_move rfl)) rfl ?_
  obtain ⟨r5, h6, hm⟩ := bindS hm
  refine SJ.call1 (k := 0) rfl Tryd.call42 rfl (fun w S hw hA hO => ok_s_l24Draw h6 w S _ (hr4.st1 hw hO) hA) rfl ?_
  rintro v7 _ ⟨_, rfl, rfl⟩
  refine SJ.q (YldS.yld (y_assign rfl)) rfl ?_
  refine SJ.nil ?_
  refine PJ.next ?_
  obtain ⟨kj12, hk13, hm⟩ := withK_open hm
  refine WJ.join (X := Int × Int × (List SparePart) × Value) (fun (x : Int × Int × (List SparePart) × Value) => kj12 x.1 x.2.1 x.2.2.1 = some r) (fun (x : Int × Int × (List SparePart) × Value) => [(0, pt g2 0), (3, x.2.2.2)]) (fun (x : Int × Int × (List SparePart) × Value) => [box g2 67 [v3, .int .i64 x.1, .int .u64 x.2.1], row x.2.2.2 46 fSparePart x.2.2.1]) ?_ ?_
  · clear hk13
    refine WJ.seq ?_
    refine WJ.reg ?_
    refine SJ.q (YldS.yld (y_move rfl)) rfl ?_
    obtain ⟨r14, h15, hm⟩ := bindS hm
    refine SJ.call1 (k := 0) rfl Tryd.call43 rfl (fun w S hw hA hO => ok_s_l00Src_one h15 w S _ (hr4.st1 hw hO) hA) rfl ?_
    rintro _ _ ⟨rfl, rfl⟩
    refine SJ.nil ?_
    refine PJ.next ?_
    refine WJ.cond (t := r14.1) rfl (fun hb16 => ?_) (fun hb16 => ?_)
    · replace hm := ifT hm hb16
      refine WJ.seq ?_
      refine WJ.reg ?_
      refine SJ.buildSlice (R := fSparePart) (os := []) [] Tryd.runUnderlying25 Tryd.sizeOf46 Tryd.zeroValue46 rfl rfl rfl rfl rfl rfl fun v17 => ?_
      refine SJ.q (YldS.yld (y_assign rfl)) rfl ?_
      refine SJ.nil ?_
      refine PJ.next ?_
      refine WJ.seq ?_
      refine WJ.reg ?_
      refine SJ.q (YldS.yld (y_move rfl)) rfl ?_
      obtain ⟨r18, h19, hm⟩ := bindS hm
      refine SJ.call1 (k := 1) rfl Tryd.call44 rfl (fun w S hw hA hO => ok_s_l00Src_pick h19 w S _ (hr4.st1 hw hO) hA) rfl ?_
      rintro _ _ ⟨rfl, rfl⟩
      refine SJ.q (YldS.yld (y_bin rfl rfl rfl)) rfl ?_
      refine SJ.q (YldS.yld (y_assign rfl)) rfl ?_
      refine SJ.nil ?_
      refine PJ.next ?_
      refine WJ.block ?_
      refine WJ.sel (L' := (fun (x : (List SparePart) × Value × Int) => [box g2 67 [v3, .int .i64 r18.2.at_, .int .u64 r18.2.seed], row x.2.1 46 fSparePart x.1]) ([], v17, w64 (40 + r18.1))) [0, 1] ⟨by decide, rfl⟩ ?_
      refine WJ.sub (m' := (fun (x : (List SparePart) × Value × Int) => [(0, pt g2 0), (3, x.2.1), (4, .int .i64 x.2.2)]) ([], v17, w64 (40 + r18.1))) ⟨rfl, rfl, rfl, trivial⟩ ?_
      refine WJ.loop (X := (List SparePart) × Value × Int) (fun N (x : (List SparePart) × Value × Int) => s_l24Bent_l1 kj12 r18 N x.1 x.2.2 = some r) (fun (x : (List SparePart) × Value × Int) => [(0, pt g2 0), (3, x.2.1), (4, .int .i64 x.2.2)]) (fun (x : (List SparePart) × Value × Int) => [box g2 67 [v3, .int .i64 r18.2.at_, .int .u64 r18.2.seed], row x.2.1 46 fSparePart x.1]) ?_ N ([], v17, w64 (40 + r18.1)) hm
      · rintro N ⟨l20, v21, k22⟩ hI
        have hm := hI; clear hI
        cases N with
        | zero => cases hm
        | succ N =>
        unfold s_l24Bent_l1 at hm
        refine WJ.seq ?_
        refine WJ.seq ?_
        refine WJ.quiet ?_
        refine QJ.step (YldS.yld (y_move rfl)) rfl ?_
        refine QJ.step (YldS.yld (y_bin rfl rfl rfl)) rfl ?_
        refine QJ.done ?_
        refine PJ.next ?_
        refine WJ.cond (t := decide (k22 > 0)) rfl (fun hb23 => ?_) (fun hb23 => ?_)
        · replace hm := ifT hm hb23
          refine WJ.skip ?_
          refine PJ.next ?_
          refine WJ.seq ?_
          refine WJ.block ?_
          refine WJ.seq ?_
          refine WJ.quiet ?_
          refine QJ.step (YldS.yld (y_move rfl)) rfl ?_
          refine QJ.step (YldS.yld (y_lenRow (k := 1) rfl Tryd.runUnderlying25 rfl)) rfl ?_
          refine QJ.step (YldS.yld (y_convTo8 Tryd.runUnderlying3 Tryd.runUnderlying5 rfl)) rfl ?_
          refine QJ.step (YldS.yld (y_assign rfl)) rfl ?_
          refine QJ.done ?_
          refine PJ.next ?_
          refine WJ.reg ?_
          refine SJ.q (YldS.yld (y_move rfl)) rfl ?_
          refine SJ.q (YldS.yld (y_move rfl)) rfl ?_
          refine SJ.q (YldS.yld (y_quo8 (a := (UInt8.ofInt (List.length l20 : Int))) rfl rfl (by decide))) rfl ?_
          refine SJ.q (YldS.yld (y_bin8 (97 : UInt8) (UInt8.ofInt (Int.tdiv (UInt8.toNat (UInt8.ofInt (List.length l20 : Int)) : Int) 26)) rfl rfl rfl)) rfl ?_
          refine SJ.q (YldS.yld (y_move rfl)) rfl ?_
          refine SJ.q (YldS.yld (y_rem8 (a := (UInt8.ofInt (List.length l20 : Int))) rfl rfl (by decide))) rfl ?_
          refine SJ.q (YldS.yld (y_bin8 (97 : UInt8) (UInt8.ofInt (Int.tmod (UInt8.toNat (UInt8.ofInt (List.length l20 : Int)) : Int) 26)) rfl rfl rfl)) rfl ?_
          refine SJ.buildSlice (R := fByte) (os := [.tmp 25, .tmp 28]) [(97 : UInt8) + (UInt8.ofInt (Int.tdiv (UInt8.toNat (UInt8.ofInt (List.length l20 : Int)) : Int) 26)), (97 : UInt8) + (UInt8.ofInt (Int.tmod (UInt8.toNat (UInt8.ofInt (List.length l20 : Int)) : Int) 26))] Tryd.runUnderlying29 Tryd.sizeOf5 Tryd.zeroValue5 rfl rfl rfl rfl rfl rfl fun v24 => ?_
          refine SJ.q (YldS.yld (y_b2s Tryd.underlying29 Tryd.underlying9 Tryd.underlying5 (fun w hw => ⟨_, (hw.row_rd (k := 0) rfl)⟩) rfl)) rfl ?_
          refine SJ.q (YldS.yld (y_move rfl)) rfl ?_
          refine SJ.q (YldS.yld (y_move rfl)) rfl ?_
          refine SJ.q (YldS.yld (y_lenRow (k := 2) rfl Tryd.runUnderlying25 rfl)) rfl ?_
          refine SJ.q (YldS.yld (y_bin rfl rfl rfl)) rfl ?_
          refine SJ.q (YldS.yld (y_build (parts := [(0, .tmp 30), (1, .tmp 31), (4, .tmp 34)]) (places := [(0, 1), (1, 1), (2, 1), (3, 1), (4, 1)]) (r := [str ((SparePart.mk [(97 : UInt8) + (UInt8.ofInt (Int.tdiv (UInt8.toNat (UInt8.ofInt (List.length l20 : Int)) : Int) 26)), (97 : UInt8) + (UInt8.ofInt (Int.tmod (UInt8.toNat (UInt8.ofInt (List.length l20 : Int)) : Int) 26))] k22 0 0 (w64 ((List.length l20 : Int) - 1))).name), .int .i64 ((SparePart.mk [(97 : UInt8) + (UInt8.ofInt (Int.tdiv (UInt8.toNat (UInt8.ofInt (List.length l20 : Int)) : Int) 26)), (97 : UInt8) + (UInt8.ofInt (Int.tmod (UInt8.toNat (UInt8.ofInt (List.length l20 : Int)) : Int) 26))] k22 0 0 (w64 ((List.length l20 : Int) - 1))).stock), .int .i64 ((SparePart.mk [(97 : UInt8) + (UInt8.ofInt (Int.tdiv (UInt8.toNat (UInt8.ofInt (List.length l20 : Int)) : Int) 26)), (97 : UInt8) + (UInt8.ofInt (Int.tmod (UInt8.toNat (UInt8.ofInt (List.length l20 : Int)) : Int) 26))] k22 0 0 (w64 ((List.length l20 : Int) - 1))).target), .int .i64 ((SparePart.mk [(97 : UInt8) + (UInt8.ofInt (Int.tdiv (UInt8.toNat (UInt8.ofInt (List.length l20 : Int)) : Int) 26)), (97 : UInt8) + (UInt8.ofInt (Int.tmod (UInt8.toNat (UInt8.ofInt (List.length l20 : Int)) : Int) 26))] k22 0 0 (w64 ((List.length l20 : Int) - 1))).days), .int .i64 ((SparePart.mk [(97 : UInt8) + (UInt8.ofInt (Int.tdiv (UInt8.toNat (UInt8.ofInt (List.length l20 : Int)) : Int) 26)), (97 : UInt8) + (UInt8.ofInt (Int.tmod (UInt8.toNat (UInt8.ofInt (List.length l20 : Int)) : Int) 26))] k22 0 0 (w64 ((List.length l20 : Int) - 1))).instead)]) pl46 Tryd.zeroValue46 rfl rfl rfl rfl)) rfl ?_
          refine SJ.buildSlice (R := fSparePart) (os := [.tmp 35]) [(SparePart.mk [(97 : UInt8) + (UInt8.ofInt (Int.tdiv (UInt8.toNat (UInt8.ofInt (List.length l20 : Int)) : Int) 26)), (97 : UInt8) + (UInt8.ofInt (Int.tmod (UInt8.toNat (UInt8.ofInt (List.length l20 : Int)) : Int) 26))] k22 0 0 (w64 ((List.length l20 : Int) - 1)))] Tryd.runUnderlying25 Tryd.sizeOf46 Tryd.zeroValue46 rfl rfl rfl rfl rfl rfl fun v25 => ?_
          obtain ⟨l26, h27, hm⟩ := bindS hm
          refine SJ.append (k := 3) (R := fSparePart) h27 rfl Tryd.underlying25 el46 rfl rfl rfl (fun w hw => (hw.row_rd (k := 0) rfl)) rfl fun v28 => ?_
          refine SJ.q (YldS.yld (y_assign rfl)) rfl ?_
          refine SJ.nil ?_
          refine PJ.block_normal (PJ.next ?_)
          refine WJ.quiet ?_
          refine QJ.step (YldS.yld (y_move rfl)) rfl ?_
          refine QJ.step (YldS.yld (y_bin rfl rfl rfl)) rfl ?_
          refine QJ.step (YldS.yld (y_assign rfl)) rfl ?_
          refine QJ.done ?_
          exact PJ.round (l26, v28, w64 (k22 - 1)) [2, 3] hm ⟨rfl, rfl, rfl, trivial⟩ ⟨by decide, rfl⟩
        · replace hm := ifF hm hb23
          refine WJ.exit ?_
          refine PJ.then_exit (PJ.then_exit (PJ.block_exit ?_))
          exact PJ.joined (r18.2.at_, r18.2.seed, l20, v21) [0, 1] hm ⟨rfl, rfl, trivial⟩ ⟨by decide, rfl⟩
    · replace hm := ifF hm hb16
      refine WJ.skip ?_
      exact PJ.joined (r14.2.at_, r14.2.seed, r5.1, v7) [0, 1] hm ⟨rfl, rfl, trivial⟩ ⟨by decide, rfl⟩
  · rintro ⟨x8, x9, l10, v11⟩ hm
    subst hk13
    refine WJ.seq ?_
    refine WJ.seq ?_
    refine WJ.quiet ?_
    refine QJ.step (YldS.yld (y_move rfl)) rfl ?_
    refine QJ.step (YldS.yld (y_lenRow (k := 1) rfl Tryd.runUnderlying25 rfl)) rfl ?_
    refine QJ.step (YldS.yld (y_bin rfl rfl rfl)) rfl ?_
    refine QJ.done ?_
    refine PJ.next ?_
    refine WJ.cond (t := ((List.length l10 : Int) == 0)) rfl (fun hb29 => ?_) (fun hb29 => ?_)
    · replace hm := ifT hm hb29
      refine WJ.seq ?_
      refine WJ.quiet ?_
      refine QJ.step (YldS.yld (y_move rfl)) rfl ?_
      refine QJ.step (YldS.yld (y_assign rfl)) rfl ?_
      refine QJ.done ?_
      refine PJ.next ?_
      refine WJ.ret ?_
      refine PJ.then_ret ?_
      obtain rfl := Option.some.inj hm
      refine PJ.sel (L' := [box g2 67 [v3, .int .i64 x8, .int .u64 x9], row v11 46 fSparePart l10]) [0, 1] ⟨by decide, rfl⟩ ?_
      exact PJ.retn (vs := [v11]) Tryd.results49 ⟨rfl, trivial⟩ ⟨_, rfl, rfl⟩
    · replace hm := ifF hm hb29
      refine WJ.skip ?_
      refine PJ.next ?_
      refine WJ.seq ?_
      refine WJ.reg ?_
      refine SJ.q (YldS.yld (y_move rfl)) rfl ?_
      refine SJ.q (YldS.yld (y_move rfl)) rfl ?_
      refine SJ.q (YldS.yld (y_move rfl)) rfl ?_
      refine SJ.q (YldS.yld (y_lenRow (k := 1) rfl Tryd.runUnderlying25 rfl)) rfl ?_
      obtain ⟨r30, h31, hm⟩ := bindS hm
      refine SJ.call1 (k := 0) rfl Tryd.call44 rfl (fun w S hw hA hO => ok_s_l00Src_pick h31 w S _ (hr4.st1 hw hO) hA) rfl ?_
      rintro _ _ ⟨rfl, rfl⟩
      obtain ⟨e32, h33, hm⟩ := bindS hm
      refine SJ.q (YldS.yld (y_ixRow (k := 1) (R := fSparePart) rfl Tryd.runUnderlying25 Tryd.sizeOf46 rfl rfl h33)) rfl ?_
      refine SJ.q (YldS.yld (y_assign rfl)) rfl ?_
      refine SJ.nil ?_
      refine PJ.next ?_
      obtain ⟨kj37, hk38, hm⟩ := withK_open hm
      refine WJ.join (X := Int × Int × (List SparePart)) (fun (x : Int × Int × (List SparePart)) => kj37 x.1 x.2.1 x.2.2 = some r) (fun (x : Int × Int × (List SparePart)) => [(3, v11)]) (fun (x : Int × Int × (List SparePart)) => [box g2 67 [v3, .int .i64 x.1, .int .u64 x.2.1], row v11 46 fSparePart x.2.2]) ?_ ?_
      · clear hk38
        refine WJ.seq ?_
        refine WJ.reg ?_
        refine SJ.q (YldS.yld (y_move rfl)) rfl ?_
        obtain ⟨r39, h40, hm⟩ := bindS hm
        refine SJ.call1 (k := 0) rfl Tryd.call44 rfl (fun w S hw hA hO => ok_s_l00Src_pick h40 w S _ (hr4.st1 hw hO) hA) rfl ?_
        rintro _ _ ⟨rfl, rfl⟩
        refine SJ.nil ?_
        refine PJ.next ?_
        refine WJ.block ?_
        refine WJ.seq ?_
        refine WJ.quiet ?_
        refine QJ.step (YldS.yld (y_bin rfl rfl rfl)) rfl ?_
        refine QJ.step (YldS.yld (y_assign rfl)) rfl ?_
        refine QJ.done ?_
        refine PJ.next ?_
        refine WJ.cond (t := (r39.1 == 0)) rfl (fun hb41 => ?_) (fun hb41 => ?_)
        · replace hm := ifT hm hb41
          refine WJ.reg ?_
          refine SJ.q (YldS.yld (y_move rfl)) rfl ?_
          refine SJ.q (YldS.yld (y_move rfl)) rfl ?_
          refine SJ.buildSlice (R := fStr) (os := [.const (str []), .const (str [66, 97, 114]), .const (str [98, 97, 114])]) [[], [66, 97, 114], [98, 97, 114]] Tryd.runUnderlying68 Tryd.sizeOf9 Tryd.zeroValue9 rfl rfl rfl rfl rfl rfl fun v42 => ?_
          obtain ⟨r43, h44, hm⟩ := bindS hm
          refine SJ.call2 (k := 1) rfl Tryd.call56 rfl (fun w S hw hA hO hB => ok_s_l00Src_text h44 w S _ (hr4.st1 hw hO) _ (hB.row_rd (j := 0) (k := 1) rfl rfl) hA) rfl ?_
          rintro _ _ ⟨rfl, rfl⟩
          refine SJ.q (YldS.yld (y_nil rfl)) rfl ?_
          refine SJ.q (YldS.yld (y_fldR fld46_0 rfl)) rfl ?_
          refine SJ.storeRL (k := 2) (i := (Int.toNat r30.1)) (off := 0) (us := [str r43.1]) (b := (SparePart.mk r43.1 e32.stock e32.target e32.days e32.instead)) rfl rfl (idx_get h33) rfl rfl Tryd.sizeOf9 rfl rfl rfl ?_
          refine SJ.nil ?_
          refine PJ.block_normal ?_
          exact PJ.joined (r43.2.at_, r43.2.seed, (List.set l10 (Int.toNat r30.1) (SparePart.mk r43.1 e32.stock e32.target e32.days e32.instead))) [0, 2] hm ⟨rfl, trivial⟩ ⟨by decide, rfl⟩
        · replace hm := ifF hm hb41
          refine WJ.seq ?_
          refine WJ.quiet ?_
          refine QJ.step (YldS.yld (y_bin rfl rfl rfl)) rfl ?_
          refine QJ.step (YldS.yld (y_assign rfl)) rfl ?_
          refine QJ.done ?_
          refine PJ.next ?_
          refine WJ.cond (t := (r39.1 == 1)) rfl (fun hb45 => ?_) (fun hb45 => ?_)
          · replace hm := ifT hm hb45
            refine WJ.reg ?_
            refine SJ.q (YldS.yld (y_move rfl)) rfl ?_
            refine SJ.q (YldS.yld (y_move rfl)) rfl ?_
            refine SJ.buildSlice (R := fI64) (os := [.const (.int .i64 (-1)), .const (.int .i64 0), .const (.int .i64 100000), .const (.int .i64 100001)]) [(-1), 0, 100000, 100001] Tryd.runUnderlying38 Tryd.sizeOf2 Tryd.zeroValue2 rfl rfl rfl rfl rfl rfl fun v46 => ?_
            obtain ⟨r47, h48, hm⟩ := bindS hm
            refine SJ.call2 (k := 1) rfl Tryd.call50 rfl (fun w S hw hA hO hB => ok_s_l00Src_among h48 w S _ (hr4.st1 hw hO) _ (hB.row_rd (j := 0) (k := 1) rfl rfl) hA) rfl ?_
            rintro _ _ ⟨rfl, rfl⟩
            refine SJ.q (YldS.yld (y_nil rfl)) rfl ?_
            refine SJ.q (YldS.yld (y_fldR fld46_1 rfl)) rfl ?_
            refine SJ.storeRL (k := 2) (i := (Int.toNat r30.1)) (off := 1) (us := [.int .i64 r47.1]) (b := (SparePart.mk e32.name r47.1 e32.target e32.days e32.instead)) rfl rfl (idx_get h33) rfl rfl Tryd.sizeOf2 rfl rfl rfl ?_
            refine SJ.nil ?_
            refine PJ.block_normal ?_
            exact PJ.joined (r47.2.at_, r47.2.seed, (List.set l10 (Int.toNat r30.1) (SparePart.mk e32.name r47.1 e32.target e32.days e32.instead))) [0, 2] hm ⟨rfl, trivial⟩ ⟨by decide, rfl⟩
          · replace hm := ifF hm hb45
            refine WJ.seq ?_
            refine WJ.quiet ?_
            refine QJ.step (YldS.yld (y_bin rfl rfl rfl)) rfl ?_
            refine QJ.step (YldS.yld (y_assign rfl)) rfl ?_
            refine QJ.done ?_
            refine PJ.next ?_
            refine WJ.cond (t := (r39.1 == 2)) rfl (fun hb49 => ?_) (fun hb49 => ?_)
            · replace hm := ifT hm hb49
              refine WJ.reg ?_
              refine SJ.q (YldS.yld (y_move rfl)) rfl ?_
              refine SJ.q (YldS.yld (y_move rfl)) rfl ?_
              refine SJ.buildSlice (R := fI64) (os := [.const (.int .i64 (-1)), .const (.int .i64 0), .const (.int .i64 100000), .const (.int .i64 100001)]) [(-1), 0, 100000, 100001] Tryd.runUnderlying38 Tryd.sizeOf2 Tryd.zeroValue2 rfl rfl rfl rfl rfl rfl fun v50 => ?_
              obtain ⟨r51, h52, hm⟩ := bindS hm
              refine SJ.call2 (k := 1) rfl Tryd.call50 rfl (fun w S hw hA hO hB => ok_s_l00Src_among h52 w S _ (hr4.st1 hw hO) _ (hB.row_rd (j := 0) (k := 1) rfl rfl) hA) rfl ?_
              rintro _ _ ⟨rfl, rfl⟩
              refine SJ.q (YldS.yld (y_nil rfl)) rfl ?_
              refine SJ.q (YldS.yld (y_fldR fld46_2 rfl)) rfl ?_
              refine SJ.storeRL (k := 2) (i := (Int.toNat r30.1)) (off := 2) (us := [.int .i64 r51.1]) (b := (SparePart.mk e32.name e32.stock r51.1 e32.days e32.instead)) rfl rfl (idx_get h33) rfl rfl Tryd.sizeOf2 rfl rfl rfl ?_
              refine SJ.nil ?_
              refine PJ.block_normal ?_
              exact PJ.joined (r51.2.at_, r51.2.seed, (List.set l10 (Int.toNat r30.1) (SparePart.mk e32.name e32.stock r51.1 e32.days e32.instead))) [0, 2] hm ⟨rfl, trivial⟩ ⟨by decide, rfl⟩
            · replace hm := ifF hm hb49
              refine WJ.seq ?_
              refine WJ.quiet ?_
              refine QJ.step (YldS.yld (y_bin rfl rfl rfl)) rfl ?_
              refine QJ.step (YldS.yld (y_assign rfl)) rfl ?_
              refine QJ.done ?_
              refine PJ.next ?_
              refine WJ.cond (t := (r39.1 == 3)) rfl (fun hb53 => ?_) (fun hb53 => ?_)
              · replace hm := ifT hm hb53
                refine WJ.reg ?_
                refine SJ.q (YldS.yld (y_move rfl)) rfl ?_
                refine SJ.q (YldS.yld (y_move rfl)) rfl ?_
                refine SJ.buildSlice (R := fI64) (os := [.const (.int .i64 (-1)), .const (.int .i64 0), .const (.int .i64 365), .const (.int .i64 366)]) [(-1), 0, 365, 366] Tryd.runUnderlying38 Tryd.sizeOf2 Tryd.zeroValue2 rfl rfl rfl rfl rfl rfl fun v54 => ?_
                obtain ⟨r55, h56, hm⟩ := bindS hm
                refine SJ.call2 (k := 1) rfl Tryd.call50 rfl (fun w S hw hA hO hB => ok_s_l00Src_among h56 w S _ (hr4.st1 hw hO) _ (hB.row_rd (j := 0) (k := 1) rfl rfl) hA) rfl ?_
                rintro _ _ ⟨rfl, rfl⟩
                refine SJ.q (YldS.yld (y_nil rfl)) rfl ?_
                refine SJ.q (YldS.yld (y_fldR fld46_3 rfl)) rfl ?_
                refine SJ.storeRL (k := 2) (i := (Int.toNat r30.1)) (off := 3) (us := [.int .i64 r55.1]) (b := (SparePart.mk e32.name e32.stock e32.target r55.1 e32.instead)) rfl rfl (idx_get h33) rfl rfl Tryd.sizeOf2 rfl rfl rfl ?_
                refine SJ.nil ?_
                refine PJ.block_normal ?_
                exact PJ.joined (r55.2.at_, r55.2.seed, (List.set l10 (Int.toNat r30.1) (SparePart.mk e32.name e32.stock e32.target r55.1 e32.instead))) [0, 2] hm ⟨rfl, trivial⟩ ⟨by decide, rfl⟩
              · replace hm := ifF hm hb53
                refine WJ.seq ?_
                refine WJ.quiet ?_
                refine QJ.step (YldS.yld (y_bin rfl rfl rfl)) rfl ?_
                refine QJ.step (YldS.yld (y_assign rfl)) rfl ?_
                refine QJ.done ?_
                refine PJ.next ?_
                refine WJ.cond (t := (r39.1 == 4)) rfl (fun hb57 => ?_) (fun hb57 => ?_)
                · replace hm := ifT hm hb57
                  refine WJ.reg ?_
                  refine SJ.q (YldS.yld (y_move rfl)) rfl ?_
                  refine SJ.q (YldS.yld (y_move rfl)) rfl ?_
                  refine SJ.q (YldS.yld (y_move rfl)) rfl ?_
                  refine SJ.q (YldS.yld (y_lenRow (k := 1) rfl Tryd.runUnderlying25 rfl)) rfl ?_
                  refine SJ.q (YldS.yld (y_bin rfl rfl rfl)) rfl ?_
                  refine SJ.q (YldS.yld (y_move rfl)) rfl ?_
                  refine SJ.q (YldS.yld (y_lenRow (k := 1) rfl Tryd.runUnderlying25 rfl)) rfl ?_
                  refine SJ.buildSlice (R := fI64) (os := [.const (.int .i64 (-2)), .const (.int .i64 (-1)), .tmp 88, .tmp 90, .const (.int .i64 (-9223372036854775808))]) [(-2), (-1), w64 ((List.length l10 : Int) - 1), (List.length l10 : Int), (-9223372036854775808)] Tryd.runUnderlying38 Tryd.sizeOf2 Tryd.zeroValue2 rfl rfl rfl rfl rfl rfl fun v58 => ?_
                  obtain ⟨r59, h60, hm⟩ := bindS hm
                  refine SJ.call2 (k := 1) rfl Tryd.call50 rfl (fun w S hw hA hO hB => ok_s_l00Src_among h60 w S _ (hr4.st1 hw hO) _ (hB.row_rd (j := 0) (k := 1) rfl rfl) hA) rfl ?_
                  rintro _ _ ⟨rfl, rfl⟩
                  refine SJ.q (YldS.yld (y_nil rfl)) rfl ?_
                  refine SJ.q (YldS.yld (y_fldR fld46_4 rfl)) rfl ?_
                  refine SJ.storeRL (k := 2) (i := (Int.toNat r30.1)) (off := 4) (us := [.int .i64 r59.1]) (b := (SparePart.mk e32.name e32.stock e32.target e32.days r59.1)) rfl rfl (idx_get h33) rfl rfl Tryd.sizeOf2 rfl rfl rfl ?_
                  refine SJ.nil ?_
                  refine PJ.block_normal ?_
                  exact PJ.joined (r59.2.at_, r59.2.seed, (List.set l10 (Int.toNat r30.1) (SparePart.mk e32.name e32.stock e32.target e32.days r59.1))) [0, 2] hm ⟨rfl, trivial⟩ ⟨by decide, rfl⟩
                · replace hm := ifF hm hb57
                  refine WJ.skip ?_
                  refine PJ.block_normal ?_
                  exact PJ.joined (r39.2.at_, r39.2.seed, l10) [0, 1] hm ⟨rfl, trivial⟩ ⟨by decide, rfl⟩
      · rintro ⟨x34, x35, l36⟩ hm
        subst hk38
        refine WJ.seq ?_
        refine WJ.quiet ?_
        refine QJ.step (YldS.yld (y_move rfl)) rfl ?_
        refine QJ.step (YldS.yld (y_assign rfl)) rfl ?_
        refine QJ.done ?_
        refine PJ.next ?_
        refine WJ.ret ?_
        obtain rfl := Option.some.inj hm
        refine PJ.sel (L' := [box g2 67 [v3, .int .i64 x34, .int .u64 x35], row v11 46 fSparePart l36]) [0, 1] ⟨by decide, rfl⟩ ?_
        exact PJ.retn (vs := [v11]) Tryd.results49 ⟨rfl, trivial⟩ ⟨_, rfl, rfl⟩

set_option maxRecDepth 100000 in
set_option maxHeartbeats 1000000 in
theorem ok_s_l24Ask {N : Nat} {code1 : List UInt8} {r : (List SparePart) × Int × Int} (hm : s_l24Ask N code1 = some r) (w : World) (v2 : Value) (hr3 : RdS w (cx w).Fz v2 fByte.rp code1) :
    Calls Tryd.prog 35 #[v2] w (RetG (cx w) fun u L => ∃ (u1 : Value), (u = tup [u1, .int .i64 r.2.1, .int .i64 r.2.2] ∧ L = [row u1 46 fSparePart r.1])) := by
  unfold s_l24Ask at hm
  refine Calls.enter [v2] Tryd.func35 rfl Tryd.ntmps35 rfl ?_
  refine WJ.seq ?_
  refine WJ.quiet ?_
  refine QJ.step (YldS.yld (y_assign rfl)) rfl ?_
  refine QJ.step (YldS.yld (y_assign rfl)) rfl ?_
  refine QJ.step (YldS.yld (y_assign rfl)) rfl ?_
  refine QJ.done ?_
  refine PJ.next ?_
  refine WJ.seq ?_
  refine WJ.reg ?_
  refine SJ.q (YldS.yld (y_move rfl)) rfl ?_
  obtain ⟨r4, h5, hm⟩ := bindS hm
  refine SJ.call Tryd.call41 rfl (fun w hw => ok_s_l00From h5 w _ (hr3.st hw)) rfl ?_
  rintro _ _ ⟨g6, rfl, rfl⟩
  refine SJ.q (YldS.yld (y_assign rfl)) rfl ?_
  refine SJ.nil ?_
  refine PJ.next ?_
  refine WJ.seq ?_
  refine WJ.reg ?_
  refine SJ.q (YldS.yld (y_move rfl)) rfl ?_
  obtain ⟨r7, h8, hm⟩ := bindS hm
  refine SJ.call1 (k := 0) rfl Tryd.call49 rfl (fun w S hw hA hO => ok_s_l24Bent h8 w S _ (hr3.st1 hw hO) hA) rfl ?_
  rintro v9 _ ⟨_, rfl, rfl⟩
  refine SJ.q (YldS.yld (y_assign rfl)) rfl ?_
  refine SJ.nil ?_
  refine PJ.next ?_
  refine WJ.seq ?_
  refine WJ.reg ?_
  refine SJ.q (YldS.yld (y_move rfl)) rfl ?_
  refine SJ.q (YldS.yld (y_move rfl)) rfl ?_
  refine SJ.q (YldS.yld (y_lenRow (k := 1) rfl Tryd.runUnderlying25 rfl)) rfl ?_
  obtain ⟨r10, h11, hm⟩ := bindS hm
  refine SJ.call1 (k := 0) rfl Tryd.call44 rfl (fun w S hw hA hO => ok_s_l00Src_pick h11 w S _ (hr3.st1 hw hO) hA) rfl ?_
  rintro _ _ ⟨rfl, rfl⟩
  refine SJ.q (YldS.yld (y_assign rfl)) rfl ?_
  refine SJ.nil ?_
  refine PJ.next ?_
  obtain ⟨kj15, hk16, hm⟩ := withK_open hm
  refine WJ.join (X := Int × Int × Int) (fun (x : Int × Int × Int) => kj15 x.1 x.2.1 x.2.2 = some r) (fun (x : Int × Int × Int) => [(5, pt g6 0), (6, v9), (7, .int .i64 x.2.2)]) (fun (x : Int × Int × Int) => [box g6 67 [v2, .int .i64 x.1, .int .u64 x.2.1], row v9 46 fSparePart r7.1]) ?_ ?_
  · clear hk16
    refine WJ.seq ?_
    refine WJ.reg ?_
    refine SJ.q (YldS.yld (y_move rfl)) rfl ?_
    obtain ⟨r17, h18, hm⟩ := bindS hm
    refine SJ.call1 (k := 0) rfl Tryd.call43 rfl (fun w S hw hA hO => ok_s_l00Src_one h18 w S _ (hr3.st1 hw hO) hA) rfl ?_
    rintro _ _ ⟨rfl, rfl⟩
    refine SJ.nil ?_
    refine PJ.next ?_
    refine WJ.cond (t := r17.1) rfl (fun hb19 => ?_) (fun hb19 => ?_)
    · replace hm := ifT hm hb19
      refine WJ.reg ?_
      refine SJ.q (YldS.yld (y_move rfl)) rfl ?_
      refine SJ.q (YldS.yld (y_move rfl)) rfl ?_
      refine SJ.q (YldS.yld (y_lenRow (k := 1) rfl Tryd.runUnderlying25 rfl)) rfl ?_
      refine SJ.buildSlice (R := fI64) (os := [.const (.int .i64 (-1)), .tmp 20]) [(-1), (List.length r7.1 : Int)] Tryd.runUnderlying38 Tryd.sizeOf2 Tryd.zeroValue2 rfl rfl rfl rfl rfl rfl fun v20 => ?_
      obtain ⟨r21, h22, hm⟩ := bindS hm
      refine SJ.call2 (k := 1) rfl Tryd.call50 rfl (fun w S hw hA hO hB => ok_s_l00Src_among h22 w S _ (hr3.st1 hw hO) _ (hB.row_rd (j := 0) (k := 1) rfl rfl) hA) rfl ?_
      rintro _ _ ⟨rfl, rfl⟩
      refine SJ.q (YldS.yld (y_assign rfl)) rfl ?_
      refine SJ.nil ?_
      exact PJ.joined (r21.2.at_, r21.2.seed, r21.1) [0, 2] hm ⟨rfl, rfl, rfl, trivial⟩ ⟨by decide, rfl⟩
    · replace hm := ifF hm hb19
      refine WJ.skip ?_
      exact PJ.joined (r17.2.at_, r17.2.seed, r10.1) [0, 1] hm ⟨rfl, rfl, rfl, trivial⟩ ⟨by decide, rfl⟩
  · rintro ⟨x12, x13, k14⟩ hm
    subst hk16
    refine WJ.seq ?_
    refine WJ.seq ?_
    refine WJ.reg ?_
    refine SJ.q (YldS.yld (y_move rfl)) rfl ?_
    obtain ⟨r23, h24, hm⟩ := bindS hm
    refine SJ.call1 (k := 0) rfl Tryd.call43 rfl (fun w S hw hA hO => ok_s_l00Src_one h24 w S _ (hr3.st1 hw hO) hA) rfl ?_
    rintro _ _ ⟨rfl, rfl⟩
    refine SJ.nil ?_
    refine PJ.next ?_
    refine WJ.cond (t := r23.1) rfl (fun hb25 => ?_) (fun hb25 => ?_)
    · replace hm := ifT hm hb25
      refine WJ.seq ?_
      refine WJ.reg ?_
      refine SJ.q (YldS.yld (y_move rfl)) rfl ?_
      refine SJ.q (YldS.yld (y_move rfl)) rfl ?_
      refine SJ.q (YldS.yld (y_move rfl)) rfl ?_
      refine SJ.buildSlice (R := fI64) (os := [.const (.int .i64 0), .const (.int .i64 1), .const (.int .i64 100000), .const (.int .i64 100001)]) [0, 1, 100000, 100001] Tryd.runUnderlying38 Tryd.sizeOf2 Tryd.zeroValue2 rfl rfl rfl rfl rfl rfl fun v26 => ?_
      obtain ⟨r27, h28, hm⟩ := bindS hm
      refine SJ.call2 (k := 1) rfl Tryd.call50 rfl (fun w S hw hA hO hB => ok_s_l00Src_among h28 w S _ (hr3.st1 hw hO) _ (hB.row_rd (j := 0) (k := 1) rfl rfl) hA) rfl ?_
      rintro _ _ ⟨rfl, rfl⟩
      refine SJ.q (YldS.yld (y_assign rfl)) rfl ?_
      refine SJ.q (YldS.yld (y_assign rfl)) rfl ?_
      refine SJ.q (YldS.yld (y_assign rfl)) rfl ?_
      refine SJ.nil ?_
      refine PJ.next ?_
      refine WJ.ret ?_
      refine PJ.then_ret ?_
      obtain rfl := Option.some.inj hm
      refine PJ.sel (L' := [row v9 46 fSparePart r7.1]) [2] ⟨by decide, rfl⟩ ?_
      exact PJ.retn (vs := [v9, .int .i64 k14, .int .i64 r27.1]) Tryd.results35 ⟨rfl, rfl, rfl, trivial⟩ ⟨_, rfl, rfl⟩
    · replace hm := ifF hm hb25
      refine WJ.skip ?_
      refine PJ.next ?_
      refine WJ.seq ?_
      refine WJ.reg ?_
      refine SJ.q (YldS.yld (y_move rfl)) rfl ?_
      refine SJ.q (YldS.yld (y_move rfl)) rfl ?_
      refine SJ.q (YldS.yld (y_move rfl)) rfl ?_
      obtain ⟨r29, h30, hm⟩ := bindS hm
      refine SJ.call1 (k := 0) rfl Tryd.call44 rfl (fun w S hw hA hO => ok_s_l00Src_pick h30 w S _ (hr3.st1 hw hO) hA) rfl ?_
      rintro _ _ ⟨rfl, rfl⟩
      refine SJ.q (YldS.yld (y_bin rfl rfl rfl)) rfl ?_
      refine SJ.q (YldS.yld (y_assign rfl)) rfl ?_
      refine SJ.q (YldS.yld (y_assign rfl)) rfl ?_
      refine SJ.q (YldS.yld (y_assign rfl)) rfl ?_
      refine SJ.nil ?_
      refine PJ.next ?_
      refine WJ.ret ?_
      obtain rfl := Option.some.inj hm
      refine PJ.sel (L' := [row v9 46 fSparePart r7.1]) [1] ⟨by decide, rfl⟩ ?_
      exact PJ.retn (vs := [v9, .int .i64 k14, .int .i64 (w64 (1 + r29.1))]) Tryd.results35 ⟨rfl, rfl, rfl, trivial⟩ ⟨_, rfl, rfl⟩

set_option maxRecDepth 100000 in
set_option maxHeartbeats 1000000 in
theorem ok_s_DrawTakeParts {N : Nat} {code1 : List UInt8} {r : (List SparePart) × Int × Int} (hm : s_DrawTakeParts N code1 = some r) (w : World) (v2 : Value) (hr3 : RdS w (cx w).Fz v2 fByte.rp code1) :
    Calls Tryd.prog 11 #[v2] w (RetG (cx w) fun u L => ∃ (u1 : Value), (u = tup [u1, .int .i64 r.2.1, .int .i64 r.2.2] ∧ L = [row u1 46 fSparePart r.1])) := by
  unfold s_DrawTakeParts at hm
  refine Calls.enter [v2] Tryd.func11 rfl Tryd.ntmps11 rfl ?_
  refine WJ.seq ?_
  refine WJ.quiet ?_
  refine QJ.step (YldS.yld (y_assign rfl)) rfl ?_
  refine QJ.step (YldS.yld (y_assign rfl)) rfl ?_
  refine QJ.step (YldS.yld (y_assign rfl)) rfl ?_
  refine QJ.done ?_
  refine PJ.next ?_
  refine WJ.seq ?_
  refine WJ.reg ?_
  refine SJ.q (YldS.yld (y_move rfl)) rfl ?_
  obtain ⟨r4, h5, hm⟩ := bindS hm
  refine SJ.call Tryd.call35 rfl (fun w hw => ok_s_l24Ask h5 w _ (hr3.st hw)) rfl ?_
  rintro _ _ ⟨v6, rfl, rfl⟩
  refine SJ.q (YldS.yld (y_extract rfl rfl)) rfl ?_
  refine SJ.q (YldS.yld (y_extract rfl rfl)) rfl ?_
  refine SJ.q (YldS.yld (y_extract rfl rfl)) rfl ?_
  refine SJ.q (YldS.yld (y_assign rfl)) rfl ?_
  refine SJ.q (YldS.yld (y_assign rfl)) rfl ?_
  refine SJ.q (YldS.yld (y_assign rfl)) rfl ?_
  refine SJ.nil ?_
  refine PJ.next ?_
  refine WJ.ret ?_
  obtain rfl := Option.some.inj hm
  refine PJ.sel (L' := [row v6 46 fSparePart r4.1]) [0] ⟨by decide, rfl⟩ ?_
  exact PJ.retn (vs := [v6, .int .i64 r4.2.1, .int .i64 r4.2.2]) Tryd.results11 ⟨rfl, rfl, rfl, trivial⟩ ⟨_, rfl, rfl⟩

set_option maxRecDepth 100000 in
set_option maxHeartbeats 1000000 in
theorem ok_i_isDigit {b1 : UInt8} {r : Bool} (hm : i_isDigit b1 = some r) (w : World)  :
    Calls Tryd.prog 52 #[.int .u8 (UInt8.toNat b1 : Int)] w (Ret (cx w) (.bool r)) := by
  unfold i_isDigit at hm
  refine Calls.enter [.int .u8 (UInt8.toNat b1 : Int)] Tryd.func52 rfl Tryd.ntmps52 rfl ?_
  refine WJ.seq ?_
  refine WJ.quiet ?_
  refine QJ.step (YldS.yld (y_assign rfl)) rfl ?_
  refine QJ.done ?_
  refine PJ.next ?_
  refine WJ.seq ?_
  refine WJ.quiet ?_
  refine QJ.step (YldS.yld (y_move rfl)) rfl ?_
  refine QJ.step (YldS.yld (y_bin8 b1 (48 : UInt8) rfl rfl rfl)) rfl ?_
  refine QJ.step (YldS.yld (y_move rfl)) rfl ?_
  obtain ⟨t2, h3, hm⟩ := bindS hm
  refine QJ.cut 3 [(8, .bool t2)] ?_ ?_
  · rcases Bool.eq_false_or_eq_true (decide (b1 ≥ (48 : UInt8))) with hb4 | hb4
    · replace h3 := andT h3 hb4
      refine QJ.on rfl rfl (cB hb4) (YldS.yld (y_move rfl)) rfl ?_
      refine QJ.on rfl rfl (cB hb4) (YldS.yld (y_bin8 b1 (57 : UInt8) rfl rfl rfl)) rfl ?_
      refine QJ.step (YldS.yld (y_pick_t (cB hb4) rfl)) rfl ?_
      obtain rfl := Option.some.inj h3
      exact QJ.cut_end ⟨rfl, trivial⟩
    · obtain rfl := andF h3 hb4
      refine QJ.off rfl rfl (cB hb4) rfl rfl ?_
      refine QJ.off rfl rfl (cB hb4) rfl rfl ?_
      refine QJ.step (YldS.yld (y_pick_f (cB hb4) rfl)) rfl ?_
      exact QJ.cut_end ⟨rfl, trivial⟩
  refine QJ.step (YldS.yld (y_assign rfl)) rfl ?_
  refine QJ.done ?_
  refine PJ.next ?_
  refine WJ.ret ?_
  obtain rfl := Option.some.inj hm
  refine PJ.sel (L' := []) [] ⟨List.nodup_nil, rfl⟩ ?_
  exact PJ.retn (vs := [.bool t2]) Tryd.results52 ⟨rfl, trivial⟩ ⟨rfl, rfl⟩

set_option maxRecDepth 100000 in
set_option maxHeartbeats 1000000 in
theorem ok_i_IsName {N : Nat} {s1 : Str} {r : Bool} (hm : i_IsName N s1 = some r) (w : World)  :
    Calls Tryd.prog 45 #[str s1] w (Ret (cx w) (.bool r)) := by
  unfold i_IsName at hm
  refine Calls.enter [str s1] Tryd.func45 rfl Tryd.ntmps45 rfl ?_
  refine WJ.seq ?_
  refine WJ.quiet ?_
  refine QJ.step (YldS.yld (y_assign rfl)) rfl ?_
  refine QJ.done ?_
  refine PJ.next ?_
  refine WJ.seq ?_
  refine WJ.seq ?_
  refine WJ.quiet ?_
  refine QJ.step (YldS.yld (y_move rfl)) rfl ?_
  refine QJ.step (YldS.yld (y_lenStr Tryd.runUnderlying9 rfl)) rfl ?_
  refine QJ.step (YldS.yld (y_bin rfl rfl rfl)) rfl ?_
  refine QJ.step (YldS.yld (y_move rfl)) rfl ?_
  obtain ⟨t2, h3, hm⟩ := bindS hm
  refine QJ.cut 4 [(0, str s1), (12, .bool t2)] ?_ ?_
  · rcases Bool.eq_false_or_eq_true ((List.length s1 : Int) == 0) with hb4 | hb4
    · obtain rfl := orT h3 hb4
      refine QJ.off rfl rfl (cB hb4) rfl rfl ?_
      refine QJ.off rfl rfl (cB hb4) rfl rfl ?_
      refine QJ.off rfl rfl (cB hb4) rfl rfl ?_
      refine QJ.step (YldS.yld (y_pick_t (cB hb4) rfl)) rfl ?_
      exact QJ.cut_end ⟨rfl, rfl, trivial⟩
    · replace h3 := orF h3 hb4
      refine QJ.on rfl rfl (cB hb4) (YldS.yld (y_move rfl)) rfl ?_
      refine QJ.on rfl rfl (cB hb4) (YldS.yld (y_lenStr Tryd.runUnderlying9 rfl)) rfl ?_
      refine QJ.on rfl rfl (cB hb4) (YldS.yld (y_bin rfl rfl rfl)) rfl ?_
      refine QJ.step (YldS.yld (y_pick_f (cB hb4) rfl)) rfl ?_
      obtain rfl := Option.some.inj h3
      exact QJ.cut_end ⟨rfl, rfl, trivial⟩
  refine QJ.done ?_
  refine PJ.next ?_
  refine WJ.cond (t := t2) rfl (fun hb5 => ?_) (fun hb5 => ?_)
  · replace hm := ifT hm hb5
    refine WJ.seq ?_
    refine WJ.quiet ?_
    refine QJ.step (YldS.yld (y_assign rfl)) rfl ?_
    refine QJ.done ?_
    refine PJ.next ?_
    refine WJ.ret ?_
    refine PJ.then_ret ?_
    obtain rfl := Option.some.inj hm
    refine PJ.sel (L' := []) [] ⟨List.nodup_nil, rfl⟩ ?_
    exact PJ.retn (vs := [.bool false]) Tryd.results45 ⟨rfl, trivial⟩ ⟨rfl, rfl⟩
  · replace hm := ifF hm hb5
    refine WJ.skip ?_
    refine PJ.next ?_
    obtain ⟨kj6, hk7, hm⟩ := withK_open hm
    refine WJ.join (X := Unit) (fun (_ : Unit) => kj6  = some r) (fun (_ : Unit) => []) (fun (_ : Unit) => []) ?_ ?_
    · clear hk7
      refine WJ.seq ?_
      refine WJ.quiet ?_
      refine QJ.step (YldS.yld (y_move rfl)) rfl ?_
      refine QJ.step (YldS.yld (y_lenStr Tryd.runUnderlying9 rfl)) rfl ?_
      refine QJ.step (YldS.yld (y_move rfl)) rfl ?_
      refine QJ.done ?_
      refine PJ.next ?_
      refine WJ.block ?_
      refine WJ.sel (L' := (fun (x : Int) => []) 0) [] ⟨List.nodup_nil, rfl⟩ ?_
      refine WJ.sub (m' := (fun (x : Int) => [(0, str s1), (14, .int .i64 (List.length s1 : Int)), (15, .int .i64 x)]) 0) ⟨rfl, rfl, rfl, trivial⟩ ?_
      refine WJ.loop (X := Int) (fun N (x : Int) => i_IsName_l1 kj6 s1 N x = some r) (fun (x : Int) => [(0, str s1), (14, .int .i64 (List.length s1 : Int)), (15, .int .i64 x)]) (fun (x : Int) => []) ?_ N 0 hm
      · rintro N x8 hI
        have hm := hI; clear hI
        cases N with
        | zero => cases hm
        | succ N =>
        unfold i_IsName_l1 at hm
        refine WJ.seq ?_
        refine WJ.quiet ?_
        refine QJ.step (YldS.yld (y_bin rfl rfl rfl)) rfl ?_
        refine QJ.done ?_
        refine PJ.next ?_
        refine WJ.seq ?_
        refine WJ.cond (t := decide (x8 < (List.length s1 : Int))) rfl (fun hb9 => ?_) (fun hb9 => ?_)
        · replace hm := ifT hm hb9
          refine WJ.skip ?_
          refine PJ.next ?_
          refine WJ.seq ?_
          refine WJ.block ?_
          refine WJ.seq ?_
          refine WJ.quiet ?_
          refine QJ.step (YldS.yld (y_move rfl)) rfl ?_
          refine QJ.step (YldS.yld (y_assign rfl)) rfl ?_
          refine QJ.done ?_
          refine PJ.next ?_
          refine WJ.seq ?_
          refine WJ.quiet ?_
          refine QJ.step (YldS.yld (y_move rfl)) rfl ?_
          refine QJ.step (YldS.yld (y_move rfl)) rfl ?_
          obtain ⟨c10, h11, hm⟩ := bindS hm
          refine QJ.step (YldS.yld (y_idxStr Tryd.runUnderlying9 rfl rfl h11)) rfl ?_
          refine QJ.step (YldS.yld (y_bin8 c10 (97 : UInt8) rfl rfl rfl)) rfl ?_
          refine QJ.step (YldS.yld (y_move rfl)) rfl ?_
          obtain ⟨t12, h13, hm⟩ := bindS hm
          refine QJ.cut 5 [(0, str s1), (3, .int .i64 x8), (14, .int .i64 (List.length s1 : Int)), (15, .int .i64 x8), (27, .bool t12)] ?_ ?_
          · rcases Bool.eq_false_or_eq_true (decide (c10 ≥ (97 : UInt8))) with hb14 | hb14
            · replace h13 := andT h13 hb14
              refine QJ.on rfl rfl (cB hb14) (YldS.yld (y_move rfl)) rfl ?_
              refine QJ.on rfl rfl (cB hb14) (YldS.yld (y_move rfl)) rfl ?_
              obtain ⟨c15, h16, h13⟩ := bindS h13
              refine QJ.on rfl rfl (cB hb14) (YldS.yld (y_idxStr Tryd.runUnderlying9 rfl rfl h16)) rfl ?_
              refine QJ.on rfl rfl (cB hb14) (YldS.yld (y_bin8 c15 (122 : UInt8) rfl rfl rfl)) rfl ?_
              refine QJ.step (YldS.yld (y_pick_t (cB hb14) rfl)) rfl ?_
              obtain rfl := Option.some.inj h13
              exact QJ.cut_end ⟨rfl, rfl, rfl, rfl, rfl, trivial⟩
            · obtain rfl := andF h13 hb14
              refine QJ.off rfl rfl (cB hb14) rfl rfl ?_
              refine QJ.off rfl rfl (cB hb14) rfl rfl ?_
              refine QJ.off rfl rfl (cB hb14) rfl rfl ?_
              refine QJ.off rfl rfl (cB hb14) rfl rfl ?_
              refine QJ.step (YldS.yld (y_pick_f (cB hb14) rfl)) rfl ?_
              exact QJ.cut_end ⟨rfl, rfl, rfl, rfl, rfl, trivial⟩
          refine QJ.step (YldS.yld (y_assign rfl)) rfl ?_
          refine QJ.done ?_
          refine PJ.next ?_
          refine WJ.seq ?_
          refine WJ.quiet ?_
          refine QJ.step (YldS.yld (y_move rfl)) rfl ?_
          refine QJ.step (YldS.yld (y_not rfl)) rfl ?_
          refine QJ.step (YldS.yld (y_move rfl)) rfl ?_
          obtain ⟨t17, h18, hm⟩ := bindS hm
          refine QJ.cut 16 [(0, str s1), (14, .int .i64 (List.length s1 : Int)), (15, .int .i64 x8), (46, .bool t17)] ?_ ?_
          · rcases Bool.eq_false_or_eq_true (!t12) with hb19 | hb19
            · replace h18 := andT h18 hb19
              refine QJ.on rfl rfl (cB hb19) (YldS.yld (y_move rfl)) rfl ?_
              refine QJ.on rfl rfl (cB hb19) (YldS.yld (y_bin rfl rfl rfl)) rfl ?_
              refine QJ.on rfl rfl (cB hb19) (YldS.yld (y_move rfl)) rfl ?_
              obtain ⟨t20, h21, h18⟩ := bindS h18
              refine QJ.cut 12 [(0, str s1), (14, .int .i64 (List.length s1 : Int)), (15, .int .i64 x8), (30, .bool (!t12)), (31, .int .i64 x8), (32, .bool (x8 == 0)), (33, .bool (x8 == 0)), (45, .bool t20)] ?_ ?_
              · rcases Bool.eq_false_or_eq_true (x8 == 0) with hb22 | hb22
                · obtain rfl := orT h21 hb22
                  refine QJ.off rfl rfl (cB hb22) rfl rfl ?_
                  refine QJ.off rfl rfl (cB hb22) rfl rfl ?_
                  refine QJ.off rfl rfl (cB hb22) rfl rfl ?_
                  refine QJ.off rfl rfl (cB hb22) rfl rfl ?_
                  refine QJ.off rfl rfl (cB hb22) rfl rfl ?_
                  refine QJ.off_undef rfl rfl rfl rfl ?_
                  refine QJ.off_undef rfl rfl rfl rfl ?_
                  refine QJ.off_undef rfl rfl rfl rfl ?_
                  refine QJ.off_undef rfl rfl rfl rfl ?_
                  refine QJ.off_undef rfl rfl rfl rfl ?_
                  refine QJ.off rfl rfl (cB hb22) rfl rfl ?_
                  refine QJ.on rfl rfl (cB hb19) (YldS.yld (y_pick_t (cB hb22) rfl)) rfl ?_
                  exact QJ.cut_end ⟨rfl, rfl, rfl, rfl, rfl, rfl, rfl, rfl, trivial⟩
                · replace h21 := orF h21 hb22
                  refine QJ.on rfl rfl (cB hb22) (YldS.yld (y_move rfl)) rfl ?_
                  refine QJ.on rfl rfl (cB hb22) (YldS.yld (y_move rfl)) rfl ?_
                  obtain ⟨c23, h24, h21⟩ := bindS h21
                  refine QJ.on rfl rfl (cB hb22) (YldS.yld (y_idxStr Tryd.runUnderlying9 rfl rfl h24)) rfl ?_
                  refine QJ.on rfl rfl (cB hb22) (YldS.yld (y_bin8 c23 (45 : UInt8) rfl rfl rfl)) rfl ?_
                  refine QJ.on rfl rfl (cB hb22) (YldS.yld (y_move rfl)) rfl ?_
                  obtain ⟨t25, h26, h21⟩ := bindS h21
                  refine QJ.cut 6 [(0, str s1), (14, .int .i64 (List.length s1 : Int)), (15, .int .i64 x8), (30, .bool (!t12)), (31, .int .i64 x8), (32, .bool (x8 == 0)), (33, .bool (x8 == 0)), (34, str s1), (35, .int .i64 x8), (36, .int .u8 (UInt8.toNat c23 : Int)), (37, .bool (c23 != (45 : UInt8))), (38, .bool (c23 != (45 : UInt8))), (44, .bool t25)] ?_ ?_
                  · rcases Bool.eq_false_or_eq_true (c23 != (45 : UInt8)) with hb27 | hb27
                    · replace h26 := andT h26 hb27
                      refine QJ.on rfl rfl (cB hb27) (YldS.yld (y_move rfl)) rfl ?_
                      refine QJ.on rfl rfl (cB hb27) (YldS.yld (y_move rfl)) rfl ?_
                      obtain ⟨c28, h29, h26⟩ := bindS h26
                      refine QJ.on rfl rfl (cB hb27) (YldS.yld (y_idxStr Tryd.runUnderlying9 rfl rfl h29)) rfl ?_
                      obtain ⟨r30, h31, h26⟩ := bindS h26
                      refine QJ.on rfl rfl (cB hb27) (y_call Tryd.call52 rfl (RetG.quiet fun w hw => ok_i_isDigit h31 w )) rfl ?_
                      refine QJ.on rfl rfl (cB hb27) (YldS.yld (y_not rfl)) rfl ?_
                      refine QJ.on rfl rfl (cB hb22) (YldS.yld (y_pick_t (cB hb27) rfl)) rfl ?_
                      obtain rfl := Option.some.inj h26
                      exact QJ.cut_end ⟨rfl, rfl, rfl, rfl, rfl, rfl, rfl, rfl, rfl, rfl, rfl, rfl, rfl, trivial⟩
                    · obtain rfl := andF h26 hb27
                      refine QJ.off rfl rfl (cB hb27) rfl rfl ?_
                      refine QJ.off rfl rfl (cB hb27) rfl rfl ?_
                      refine QJ.off rfl rfl (cB hb27) rfl rfl ?_
                      refine QJ.off rfl rfl (cB hb27) rfl rfl ?_
                      refine QJ.off rfl rfl (cB hb27) rfl rfl ?_
                      refine QJ.on rfl rfl (cB hb22) (YldS.yld (y_pick_f (cB hb27) rfl)) rfl ?_
                      exact QJ.cut_end ⟨rfl, rfl, rfl, rfl, rfl, rfl, rfl, rfl, rfl, rfl, rfl, rfl, rfl, trivial⟩
                  refine QJ.on rfl rfl (cB hb19) (YldS.yld (y_pick_f (cB hb22) rfl)) rfl ?_
                  obtain rfl := Option.some.inj h21
                  exact QJ.cut_end ⟨rfl, rfl, rfl, rfl, rfl, rfl, rfl, rfl, trivial⟩
              refine QJ.step (YldS.yld (y_pick_t (cB hb19) rfl)) rfl ?_
              obtain rfl := Option.some.inj h18
              exact QJ.cut_end ⟨rfl, rfl, rfl, rfl, trivial⟩
            · obtain rfl := andF h18 hb19
              refine QJ.off rfl rfl (cB hb19) rfl rfl ?_
              refine QJ.off rfl rfl (cB hb19) rfl rfl ?_
              refine QJ.off rfl rfl (cB hb19) rfl rfl ?_
              refine QJ.off_undef rfl rfl rfl rfl ?_
              refine QJ.off_undef rfl rfl rfl rfl ?_
              refine QJ.off_undef rfl rfl rfl rfl ?_
              refine QJ.off_undef rfl rfl rfl rfl ?_
              refine QJ.off_undef rfl rfl rfl rfl ?_
              refine QJ.off_undef rfl rfl rfl rfl ?_
              refine QJ.off_undef rfl rfl rfl rfl ?_
              refine QJ.off_undef rfl rfl rfl rfl ?_
              refine QJ.off_undef rfl rfl rfl rfl ?_
              refine QJ.off_undef rfl rfl rfl rfl ?_
              refine QJ.off_undef rfl rfl rfl rfl ?_
              refine QJ.off rfl rfl (cB hb19) rfl rfl ?_
              refine QJ.step (YldS.yld (y_pick_f (cB hb19) rfl)) rfl ?_
              exact QJ.cut_end ⟨rfl, rfl, rfl, rfl, trivial⟩
          refine QJ.done ?_
          refine PJ.next ?_
          refine WJ.cond (t := t17) rfl (fun hb32 => ?_) (fun hb32 => ?_)
          · replace hm := ifT hm hb32
            refine WJ.seq ?_
            refine WJ.quiet ?_
            refine QJ.step (YldS.yld (y_assign rfl)) rfl ?_
            refine QJ.done ?_
            refine PJ.next ?_
            refine WJ.ret ?_
            refine PJ.block_ret (PJ.then_ret (PJ.then_ret (PJ.block_ret (PJ.then_ret ?_))))
            obtain rfl := Option.some.inj hm
            refine PJ.sel (L' := []) [] ⟨List.nodup_nil, rfl⟩ ?_
            exact PJ.retn (vs := [.bool false]) Tryd.results45 ⟨rfl, trivial⟩ ⟨rfl, rfl⟩
          · replace hm := ifF hm hb32
            refine WJ.skip ?_
            refine PJ.block_normal (PJ.next ?_)
            refine WJ.quiet ?_
            refine QJ.step (YldS.yld (y_bin rfl rfl rfl)) rfl ?_
            refine QJ.step (YldS.yld (y_move rfl)) rfl ?_
            refine QJ.done ?_
            exact PJ.round (w64 (x8 + 1)) [] hm ⟨rfl, rfl, rfl, trivial⟩ ⟨List.nodup_nil, rfl⟩
        · replace hm := ifF hm hb9
          refine WJ.exit ?_
          refine PJ.then_exit (PJ.then_exit (PJ.block_exit ?_))
          exact PJ.joined () [] hm trivial ⟨List.nodup_nil, rfl⟩
    · rintro _ hm
      subst hk7
      refine WJ.seq ?_
      refine WJ.quiet ?_
      refine QJ.step (YldS.yld (y_assign rfl)) rfl ?_
      refine QJ.done ?_
      refine PJ.next ?_
      refine WJ.ret ?_
      obtain rfl := Option.some.inj hm
      refine PJ.sel (L' := []) [] ⟨List.nodup_nil, rfl⟩ ?_
      exact PJ.retn (vs := [.bool true]) Tryd.results45 ⟨rfl, trivial⟩ ⟨rfl, rfl⟩

set_option maxRecDepth 100000 in
set_option maxHeartbeats 1000000 in
theorem ok_i_between {n1 : Int} {low2 : Int} {high3 : Int} {r : Bool} (hm : i_between n1 low2 high3 = some r) (w : World)  :
    Calls Tryd.prog 32 #[.int .i64 n1, .int .i64 low2, .int .i64 high3] w (Ret (cx w) (.bool r)) := by
  unfold i_between at hm
  refine Calls.enter [.int .i64 n1, .int .i64 low2, .int .i64 high3] Tryd.func32 rfl Tryd.ntmps32 rfl ?_
  refine WJ.seq ?_
  refine WJ.quiet ?_
  refine QJ.step (YldS.yld (y_assign rfl)) rfl ?_
  refine QJ.done ?_
  refine PJ.next ?_
  refine WJ.seq ?_
  refine WJ.quiet ?_
  refine QJ.step (YldS.yld (y_move rfl)) rfl ?_
  refine QJ.step (YldS.yld (y_move rfl)) rfl ?_
  refine QJ.step (YldS.yld (y_bin rfl rfl rfl)) rfl ?_
  refine QJ.step (YldS.yld (y_move rfl)) rfl ?_
  obtain ⟨t4, h5, hm⟩ := bindS hm
  refine QJ.cut 4 [(14, .bool t4)] ?_ ?_
  · rcases Bool.eq_false_or_eq_true (decide (n1 ≥ low2)) with hb6 | hb6
    · replace h5 := andT h5 hb6
      refine QJ.on rfl rfl (cB hb6) (YldS.yld (y_move rfl)) rfl ?_
      refine QJ.on rfl rfl (cB hb6) (YldS.yld (y_move rfl)) rfl ?_
      refine QJ.on rfl rfl (cB hb6) (YldS.yld (y_bin rfl rfl rfl)) rfl ?_
      refine QJ.step (YldS.yld (y_pick_t (cB hb6) rfl)) rfl ?_
      obtain rfl := Option.some.inj h5
      exact QJ.cut_end ⟨rfl, trivial⟩
    · obtain rfl := andF h5 hb6
      refine QJ.off rfl rfl (cB hb6) rfl rfl ?_
      refine QJ.off rfl rfl (cB hb6) rfl rfl ?_
      refine QJ.off rfl rfl (cB hb6) rfl rfl ?_
      refine QJ.step (YldS.yld (y_pick_f (cB hb6) rfl)) rfl ?_
      exact QJ.cut_end ⟨rfl, trivial⟩
  refine QJ.step (YldS.yld (y_assign rfl)) rfl ?_
  refine QJ.done ?_
  refine PJ.next ?_
  refine WJ.ret ?_
  obtain rfl := Option.some.inj hm
  refine PJ.sel (L' := []) [] ⟨List.nodup_nil, rfl⟩ ?_
  exact PJ.retn (vs := [.bool t4]) Tryd.results32 ⟨rfl, trivial⟩ ⟨rfl, rfl⟩

set_option maxRecDepth 100000 in
set_option maxHeartbeats 1000000 in
theorem ok_i_ValidParts {N : Nat} {list1 : List SparePart} {r : Bool} (hm : i_ValidParts N list1 = some r) (w : World) (v2 : Value) (hr3 : RdS w (cx w).Fz v2 fSparePart.rp list1) :
    Calls Tryd.prog 25 #[v2] w (Ret (cx w) (.bool r)) := by
  unfold i_ValidParts at hm
  refine Calls.enter [v2] Tryd.func25 rfl Tryd.ntmps25 rfl ?_
  refine WJ.seq ?_
  refine WJ.quiet ?_
  refine QJ.step (YldS.yld (y_assign rfl)) rfl ?_
  refine QJ.done ?_
  refine PJ.next ?_
  refine WJ.seq ?_
  refine WJ.seq ?_
  refine WJ.quiet ?_
  refine QJ.step (YldS.yld (y_move rfl)) rfl ?_
  refine QJ.step (YldS.yld (y_lenS Tryd.runUnderlying25 hr3 rfl)) rfl ?_
  refine QJ.step (YldS.yld (y_bin rfl rfl rfl)) rfl ?_
  refine QJ.done ?_
  refine PJ.next ?_
  refine WJ.cond (t := decide ((List.length list1 : Int) > 40)) rfl (fun hb4 => ?_) (fun hb4 => ?_)
  · replace hm := ifT hm hb4
    refine WJ.seq ?_
    refine WJ.quiet ?_
    refine QJ.step (YldS.yld (y_assign rfl)) rfl ?_
    refine QJ.done ?_
    refine PJ.next ?_
    refine WJ.ret ?_
    refine PJ.then_ret ?_
    obtain rfl := Option.some.inj hm
    refine PJ.sel (L' := []) [] ⟨List.nodup_nil, rfl⟩ ?_
    exact PJ.retn (vs := [.bool false]) Tryd.results25 ⟨rfl, trivial⟩ ⟨rfl, rfl⟩
  · replace hm := ifF hm hb4
    refine WJ.skip ?_
    refine PJ.next ?_
    refine WJ.seq ?_
    refine WJ.reg ?_
    refine SJ.makeMap rfl fun g5 => ?_
    refine SJ.q (YldS.yld (y_assign rfl)) rfl ?_
    refine SJ.nil ?_
    refine PJ.next ?_
    obtain ⟨kj6, hk7, hm⟩ := withK_open hm
    refine WJ.join (X := Unit) (fun (_ : Unit) => kj6  = some r) (fun (_ : Unit) => [(0, v2)]) (fun (_ : Unit) => []) ?_ ?_
    · clear hk7
      refine WJ.seq ?_
      refine WJ.quiet ?_
      refine QJ.step (YldS.yld (y_move rfl)) rfl ?_
      refine QJ.step (YldS.yld (y_lenS Tryd.runUnderlying25 hr3 rfl)) rfl ?_
      refine QJ.step (YldS.yld (y_move rfl)) rfl ?_
      refine QJ.done ?_
      refine PJ.next ?_
      refine WJ.block ?_
      refine WJ.sel (L' := (fun (x : (List (Str × Bool)) × Int) => [mp g5 x.1]) ([], 0)) [0] ⟨by decide, rfl⟩ ?_
      refine WJ.sub (m' := (fun (x : (List (Str × Bool)) × Int) => [(0, v2), (3, .map (some g5)), (13, v2), (14, .int .i64 (List.length list1 : Int)), (15, .int .i64 x.2)]) ([], 0)) ⟨rfl, rfl, rfl, rfl, rfl, trivial⟩ ?_
      refine WJ.loop (X := (List (Str × Bool)) × Int) (fun N (x : (List (Str × Bool)) × Int) => i_ValidParts_l1 kj6 list1 N x.1 x.2 = some r) (fun (x : (List (Str × Bool)) × Int) => [(0, v2), (3, .map (some g5)), (13, v2), (14, .int .i64 (List.length list1 : Int)), (15, .int .i64 x.2)]) (fun (x : (List (Str × Bool)) × Int) => [mp g5 x.1]) ?_ N ([], 0) hm
      · rintro N ⟨mp8, x9⟩ hI
        have hm := hI; clear hI
        cases N with
        | zero => cases hm
        | succ N =>
        unfold i_ValidParts_l1 at hm
        refine WJ.seq ?_
        refine WJ.quiet ?_
        refine QJ.step (YldS.yld (y_bin rfl rfl rfl)) rfl ?_
        refine QJ.done ?_
        refine PJ.next ?_
        refine WJ.seq ?_
        refine WJ.cond (t := decide (x9 < (List.length list1 : Int))) rfl (fun hb10 => ?_) (fun hb10 => ?_)
        · replace hm := ifT hm hb10
          refine WJ.skip ?_
          refine PJ.next ?_
          refine WJ.seq ?_
          refine WJ.block ?_
          refine WJ.seq ?_
          refine WJ.reg ?_
          obtain ⟨e11, h12, hm⟩ := bindS hm
          obtain ⟨ad13, _, rfl, ha14, hy15⟩ := hr3.elem h12
          refine SJ.q (YldS.yld (hy15 Tryd.runUnderlying25 Tryd.sizeOf46 rfl rfl)) rfl ?_
          refine SJ.q (YldS.yld (y_loadN Tryd.isAgg46 Tryd.sizeOf46 rfl ha14 St.frozenC rfl)) rfl ?_
          refine SJ.alloc (cs := [str [], .int .i64 0, .int .i64 0, .int .i64 0, .int .i64 0]) Tryd.zeroValue46 rfl rfl fun g16 => ?_
          refine SJ.storeL (k := 0) (off := 0) (us := [str e11.name, .int .i64 e11.stock, .int .i64 e11.target, .int .i64 e11.days, .int .i64 e11.instead]) rfl rfl rfl rfl Tryd.sizeOf46 rfl rfl ?_
          refine SJ.nil ?_
          refine PJ.next ?_
          refine WJ.seq ?_
          refine WJ.seq ?_
          refine WJ.quiet ?_
          refine QJ.step (YldS.yld (y_fldB (o := 0) fld46_0 rfl)) rfl ?_
          refine QJ.step (YldS.yld (y_loadB (k := 0) (off := 0) (v := str e11.name) rfl Tryd.isAgg9 rfl rfl)) rfl ?_
          obtain ⟨r17, h18, hm⟩ := bindS hm
          refine QJ.step (y_call Tryd.call45 rfl (RetG.quiet fun w hw => ok_i_IsName h18 w )) rfl ?_
          refine QJ.step (YldS.yld (y_not rfl)) rfl ?_
          refine QJ.step (YldS.yld (y_move rfl)) rfl ?_
          obtain ⟨t19, h20, hm⟩ := bindS hm
          refine QJ.cut 5 [(0, v2), (3, .map (some g5)), (5, pt g16 0), (13, v2), (14, .int .i64 (List.length list1 : Int)), (15, .int .i64 x9), (28, .bool t19)] ?_ ?_
          · rcases Bool.eq_false_or_eq_true (!r17) with hb21 | hb21
            · obtain rfl := orT h20 hb21
              refine QJ.off rfl rfl (cB hb21) rfl rfl ?_
              refine QJ.off rfl rfl (cB hb21) rfl rfl ?_
              refine QJ.off rfl rfl (cB hb21) rfl rfl ?_
              refine QJ.off rfl rfl (cB hb21) rfl rfl ?_
              refine QJ.step (YldS.yld (y_pick_t (cB hb21) rfl)) rfl ?_
              exact QJ.cut_end ⟨rfl, rfl, rfl, rfl, rfl, rfl, rfl, trivial⟩
            · replace h20 := orF h20 hb21
              refine QJ.on rfl rfl (cB hb21) (YldS.yld (y_move rfl)) rfl ?_
              refine QJ.on rfl rfl (cB hb21) (YldS.yld (y_fldB (o := 0) fld46_0 rfl)) rfl ?_
              refine QJ.on rfl rfl (cB hb21) (YldS.yld (y_loadB (k := 0) (off := 0) (v := str e11.name) rfl Tryd.isAgg9 rfl rfl)) rfl ?_
              refine QJ.on rfl rfl (cB hb21) (YldS.yld (y_lookupSB (k := 1) rfl Tryd.underlying61 Tryd.underlying9 Tryd.zeroValue4 rfl rfl)) rfl ?_
              refine QJ.step (YldS.yld (y_pick_f (cB hb21) rfl)) rfl ?_
              obtain rfl := Option.some.inj h20
              exact QJ.cut_end ⟨rfl, rfl, rfl, rfl, rfl, rfl, rfl, trivial⟩
          refine QJ.step (YldS.yld (y_move rfl)) rfl ?_
          obtain ⟨t22, h23, hm⟩ := bindS hm
          refine QJ.cut 5 [(0, v2), (3, .map (some g5)), (5, pt g16 0), (13, v2), (14, .int .i64 (List.length list1 : Int)), (15, .int .i64 x9), (34, .bool t22)] ?_ ?_
          · rcases Bool.eq_false_or_eq_true t19 with hb24 | hb24
            · obtain rfl := orT h23 hb24
              refine QJ.off rfl rfl (cB hb24) rfl rfl ?_
              refine QJ.off rfl rfl (cB hb24) rfl rfl ?_
              refine QJ.off rfl rfl (cB hb24) rfl rfl ?_
              refine QJ.off rfl rfl (cB hb24) rfl rfl ?_
              refine QJ.step (YldS.yld (y_pick_t (cB hb24) rfl)) rfl ?_
              exact QJ.cut_end ⟨rfl, rfl, rfl, rfl, rfl, rfl, rfl, trivial⟩
            · replace h23 := orF h23 hb24
              refine QJ.on rfl rfl (cB hb24) (YldS.yld (y_fldB (o := 0) fld46_1 rfl)) rfl ?_
              refine QJ.on rfl rfl (cB hb24) (YldS.yld (y_loadB (k := 0) (off := 1) (v := .int .i64 e11.stock) rfl Tryd.isAgg2 rfl rfl)) rfl ?_
              obtain ⟨r25, h26, h23⟩ := bindS h23
              refine QJ.on rfl rfl (cB hb24) (y_call Tryd.call32 rfl (RetG.quiet fun w hw => ok_i_between h26 w )) rfl ?_
              refine QJ.on rfl rfl (cB hb24) (YldS.yld (y_not rfl)) rfl ?_
              refine QJ.step (YldS.yld (y_pick_f (cB hb24) rfl)) rfl ?_
              obtain rfl := Option.some.inj h23
              exact QJ.cut_end ⟨rfl, rfl, rfl, rfl, rfl, rfl, rfl, trivial⟩
          refine QJ.step (YldS.yld (y_move rfl)) rfl ?_
          obtain ⟨t27, h28, hm⟩ := bindS hm
          refine QJ.cut 5 [(0, v2), (3, .map (some g5)), (5, pt g16 0), (13, v2), (14, .int .i64 (List.length list1 : Int)), (15, .int .i64 x9), (40, .bool t27)] ?_ ?_
          · rcases Bool.eq_false_or_eq_true t22 with hb29 | hb29
            · obtain rfl := orT h28 hb29
              refine QJ.off rfl rfl (cB hb29) rfl rfl ?_
              refine QJ.off rfl rfl (cB hb29) rfl rfl ?_
              refine QJ.off rfl rfl (cB hb29) rfl rfl ?_
              refine QJ.off rfl rfl (cB hb29) rfl rfl ?_
              refine QJ.step (YldS.yld (y_pick_t (cB hb29) rfl)) rfl ?_
              exact QJ.cut_end ⟨rfl, rfl, rfl, rfl, rfl, rfl, rfl, trivial⟩
            · replace h28 := orF h28 hb29
              refine QJ.on rfl rfl (cB hb29) (YldS.yld (y_fldB (o := 0) fld46_2 rfl)) rfl ?_
              refine QJ.on rfl rfl (cB hb29) (YldS.yld (y_loadB (k := 0) (off := 2) (v := .int .i64 e11.target) rfl Tryd.isAgg2 rfl rfl)) rfl ?_
              obtain ⟨r30, h31, h28⟩ := bindS h28
              refine QJ.on rfl rfl (cB hb29) (y_call Tryd.call32 rfl (RetG.quiet fun w hw => ok_i_between h31 w )) rfl ?_
              refine QJ.on rfl rfl (cB hb29) (YldS.yld (y_not rfl)) rfl ?_
              refine QJ.step (YldS.yld (y_pick_f (cB hb29) rfl)) rfl ?_
              obtain rfl := Option.some.inj h28
              exact QJ.cut_end ⟨rfl, rfl, rfl, rfl, rfl, rfl, rfl, trivial⟩
          refine QJ.step (YldS.yld (y_move rfl)) rfl ?_
          obtain ⟨t32, h33, hm⟩ := bindS hm
          refine QJ.cut 5 [(0, v2), (3, .map (some g5)), (5, pt g16 0), (13, v2), (14, .int .i64 (List.length list1 : Int)), (15, .int .i64 x9), (46, .bool t32)] ?_ ?_
          · rcases Bool.eq_false_or_eq_true t27 with hb34 | hb34
            · obtain rfl := orT h33 hb34
              refine QJ.off rfl rfl (cB hb34) rfl rfl ?_
              refine QJ.off rfl rfl (cB hb34) rfl rfl ?_
              refine QJ.off rfl rfl (cB hb34) rfl rfl ?_
              refine QJ.off rfl rfl (cB hb34) rfl rfl ?_
              refine QJ.step (YldS.yld (y_pick_t (cB hb34) rfl)) rfl ?_
              exact QJ.cut_end ⟨rfl, rfl, rfl, rfl, rfl, rfl, rfl, trivial⟩
            · replace h33 := orF h33 hb34
              refine QJ.on rfl rfl (cB hb34) (YldS.yld (y_fldB (o := 0) fld46_3 rfl)) rfl ?_
              refine QJ.on rfl rfl (cB hb34) (YldS.yld (y_loadB (k := 0) (off := 3) (v := .int .i64 e11.days) rfl Tryd.isAgg2 rfl rfl)) rfl ?_
              obtain ⟨r35, h36, h33⟩ := bindS h33
              refine QJ.on rfl rfl (cB hb34) (y_call Tryd.call32 rfl (RetG.quiet fun w hw => ok_i_between h36 w )) rfl ?_
              refine QJ.on rfl rfl (cB hb34) (YldS.yld (y_not rfl)) rfl ?_
              refine QJ.step (YldS.yld (y_pick_f (cB hb34) rfl)) rfl ?_
              obtain rfl := Option.some.inj h33
              exact QJ.cut_end ⟨rfl, rfl, rfl, rfl, rfl, rfl, rfl, trivial⟩
          refine QJ.step (YldS.yld (y_move rfl)) rfl ?_
          obtain ⟨t37, h38, hm⟩ := bindS hm
          refine QJ.cut 8 [(0, v2), (3, .map (some g5)), (5, pt g16 0), (13, v2), (14, .int .i64 (List.length list1 : Int)), (15, .int .i64 x9), (55, .bool t37)] ?_ ?_
          · rcases Bool.eq_false_or_eq_true t32 with hb39 | hb39
            · obtain rfl := orT h38 hb39
              refine QJ.off rfl rfl (cB hb39) rfl rfl ?_
              refine QJ.off rfl rfl (cB hb39) rfl rfl ?_
              refine QJ.off rfl rfl (cB hb39) rfl rfl ?_
              refine QJ.off rfl rfl (cB hb39) rfl rfl ?_
              refine QJ.off rfl rfl (cB hb39) rfl rfl ?_
              refine QJ.off rfl rfl (cB hb39) rfl rfl ?_
              refine QJ.off rfl rfl (cB hb39) rfl rfl ?_
              refine QJ.step (YldS.yld (y_pick_t (cB hb39) rfl)) rfl ?_
              exact QJ.cut_end ⟨rfl, rfl, rfl, rfl, rfl, rfl, rfl, trivial⟩
            · replace h38 := orF h38 hb39
              refine QJ.on rfl rfl (cB hb39) (YldS.yld (y_fldB (o := 0) fld46_4 rfl)) rfl ?_
              refine QJ.on rfl rfl (cB hb39) (YldS.yld (y_loadB (k := 0) (off := 4) (v := .int .i64 e11.instead) rfl Tryd.isAgg2 rfl rfl)) rfl ?_
              refine QJ.on rfl rfl (cB hb39) (YldS.yld (y_move rfl)) rfl ?_
              refine QJ.on rfl rfl (cB hb39) (YldS.yld (y_lenS Tryd.runUnderlying25 hr3 rfl)) rfl ?_
              refine QJ.on rfl rfl (cB hb39) (YldS.yld (y_bin rfl rfl rfl)) rfl ?_
              obtain ⟨r40, h41, h38⟩ := bindS h38
              refine QJ.on rfl rfl (cB hb39) (y_call Tryd.call32 rfl (RetG.quiet fun w hw => ok_i_between h41 w )) rfl ?_
              refine QJ.on rfl rfl (cB hb39) (YldS.yld (y_not rfl)) rfl ?_
              refine QJ.step (YldS.yld (y_pick_f (cB hb39) rfl)) rfl ?_
              obtain rfl := Option.some.inj h38
              exact QJ.cut_end ⟨rfl, rfl, rfl, rfl, rfl, rfl, rfl, trivial⟩
          refine QJ.done ?_
          refine PJ.next ?_
          refine WJ.cond (t := t37) rfl (fun hb42 => ?_) (fun hb42 => ?_)
          · replace hm := ifT hm hb42
            refine WJ.seq ?_
            refine WJ.quiet ?_
            refine QJ.step (YldS.yld (y_assign rfl)) rfl ?_
            refine QJ.done ?_
            refine PJ.next ?_
            refine WJ.ret ?_
            refine PJ.then_ret (PJ.block_ret (PJ.then_ret (PJ.then_ret (PJ.block_ret (PJ.then_ret ?_)))))
            obtain rfl := Option.some.inj hm
            refine PJ.sel (L' := []) [] ⟨List.nodup_nil, rfl⟩ ?_
            exact PJ.retn (vs := [.bool false]) Tryd.results25 ⟨rfl, trivial⟩ ⟨rfl, rfl⟩
          · replace hm := ifF hm hb42
            refine WJ.skip ?_
            refine PJ.next ?_
            refine WJ.reg ?_
            refine SJ.q (YldS.yld (y_move rfl)) rfl ?_
            refine SJ.q (YldS.yld (y_fldB (o := 0) fld46_0 rfl)) rfl ?_
            refine SJ.q (YldS.yld (y_loadB (k := 0) (off := 0) (v := str e11.name) rfl Tryd.isAgg9 rfl rfl)) rfl ?_
            refine SJ.mapUpdateSB (k := 1) Tryd.underlying61 Tryd.underlying9 rfl rfl rfl rfl ?_
            refine SJ.nil ?_
            refine PJ.block_normal (PJ.next ?_)
            refine WJ.quiet ?_
            refine QJ.step (YldS.yld (y_bin rfl rfl rfl)) rfl ?_
            refine QJ.step (YldS.yld (y_move rfl)) rfl ?_
            refine QJ.done ?_
            exact PJ.round (mset mp8 e11.name true, w64 (x9 + 1)) [1] hm ⟨rfl, rfl, rfl, rfl, rfl, trivial⟩ ⟨by decide, rfl⟩
        · replace hm := ifF hm hb10
          refine WJ.exit ?_
          refine PJ.then_exit (PJ.then_exit (PJ.block_exit ?_))
          exact PJ.joined () [] hm ⟨rfl, trivial⟩ ⟨List.nodup_nil, rfl⟩
    · rintro _ hm
      subst hk7
      obtain ⟨kj43, hk44, hm⟩ := withK_open hm
      refine WJ.join (X := Unit) (fun (_ : Unit) => kj43  = some r) (fun (_ : Unit) => []) (fun (_ : Unit) => []) ?_ ?_
      · clear hk44
        refine WJ.seq ?_
        refine WJ.quiet ?_
        refine QJ.step (YldS.yld (y_move rfl)) rfl ?_
        refine QJ.step (YldS.yld (y_lenS Tryd.runUnderlying25 hr3 rfl)) rfl ?_
        refine QJ.step (YldS.yld (y_move rfl)) rfl ?_
        refine QJ.done ?_
        refine PJ.next ?_
        refine WJ.block ?_
        refine WJ.sel (L' := (fun (x : Int) => []) 0) [] ⟨List.nodup_nil, rfl⟩ ?_
        refine WJ.sub (m' := (fun (x : Int) => [(0, v2), (61, .int .i64 (List.length list1 : Int)), (62, .int .i64 x)]) 0) ⟨rfl, rfl, rfl, trivial⟩ ?_
        refine WJ.loop (X := Int) (fun N (x : Int) => i_ValidParts_l2 kj43 list1 N x = some r) (fun (x : Int) => [(0, v2), (61, .int .i64 (List.length list1 : Int)), (62, .int .i64 x)]) (fun (x : Int) => []) ?_ N 0 hm
        · rintro N x45 hI
          have hm := hI; clear hI
          cases N with
          | zero => cases hm
          | succ N =>
          unfold i_ValidParts_l2 at hm
          refine WJ.seq ?_
          refine WJ.quiet ?_
          refine QJ.step (YldS.yld (y_bin rfl rfl rfl)) rfl ?_
          refine QJ.done ?_
          refine PJ.next ?_
          refine WJ.seq ?_
          refine WJ.cond (t := decide (x45 < (List.length list1 : Int))) rfl (fun hb46 => ?_) (fun hb46 => ?_)
          · replace hm := ifT hm hb46
            refine WJ.skip ?_
            refine PJ.next ?_
            obtain ⟨kj47, hk48, hm⟩ := withK_open hm
            refine WJ.join (X := Unit) (fun (_ : Unit) => kj47  = some r) (fun (_ : Unit) => [(0, v2), (61, .int .i64 (List.length list1 : Int)), (62, .int .i64 x45)]) (fun (_ : Unit) => []) ?_ ?_
            · clear hk48
              refine WJ.block ?_
              refine WJ.seq ?_
              refine WJ.quiet ?_
              refine QJ.step (YldS.yld (y_move rfl)) rfl ?_
              refine QJ.step (YldS.yld (y_assign rfl)) rfl ?_
              refine QJ.done ?_
              refine PJ.next ?_
              refine WJ.seq ?_
              refine WJ.quiet ?_
              refine QJ.step (YldS.yld (y_move rfl)) rfl ?_
              refine QJ.step (YldS.yld (y_assign rfl)) rfl ?_
              refine QJ.step (YldS.yld (y_assign rfl)) rfl ?_
              refine QJ.done ?_
              refine PJ.next ?_
              refine WJ.block ?_
              refine WJ.sel (L' := (fun (x : Int × Int) => []) (x45, 0)) [] ⟨List.nodup_nil, rfl⟩ ?_
              refine WJ.sub (m' := (fun (x : Int × Int) => [(0, v2), (7, .int .i64 x.1), (8, .int .i64 x.2), (61, .int .i64 (List.length list1 : Int)), (62, .int .i64 x45)]) (x45, 0)) ⟨rfl, rfl, rfl, rfl, rfl, trivial⟩ ?_
              refine WJ.loop (X := Int × Int) (fun N (x : Int × Int) => i_ValidParts_l3 kj47 list1 N x.1 x.2 = some r) (fun (x : Int × Int) => [(0, v2), (7, .int .i64 x.1), (8, .int .i64 x.2), (61, .int .i64 (List.length list1 : Int)), (62, .int .i64 x45)]) (fun (x : Int × Int) => []) ?_ N (x45, 0) hm
              · rintro N ⟨at49, steps50⟩ hI
                have hm := hI; clear hI
                cases N with
                | zero => cases hm
                | succ N =>
                unfold i_ValidParts_l3 at hm
                refine WJ.seq ?_
                refine WJ.seq ?_
                refine WJ.quiet ?_
                refine QJ.step (YldS.yld (y_move rfl)) rfl ?_
                refine QJ.step (YldS.yld (y_bin rfl rfl rfl)) rfl ?_
                refine QJ.done ?_
                refine PJ.next ?_
                refine WJ.cond (t := decide (at49 ≥ 0)) rfl (fun hb51 => ?_) (fun hb51 => ?_)
                · replace hm := ifT hm hb51
                  refine WJ.skip ?_
                  refine PJ.next ?_
                  refine WJ.block ?_
                  refine WJ.seq ?_
                  refine WJ.quiet ?_
                  refine QJ.step (YldS.yld (y_move rfl)) rfl ?_
                  refine QJ.step (YldS.yld (y_move rfl)) rfl ?_
                  obtain ⟨e52, h53, hm⟩ := bindS hm
                  obtain ⟨ad54, _, rfl, ha55, hy56⟩ := hr3.elem h53
                  refine QJ.step (YldS.yld (hy56 Tryd.runUnderlying25 Tryd.sizeOf46 rfl rfl)) rfl ?_
                  refine QJ.step (YldS.yld (y_fld (ad := ad54) fld46_4 rfl)) rfl ?_
                  refine QJ.step (YldS.yld (y_load1 (v := .int .i64 e52.instead) Tryd.isAgg2 (ha55.sub 4 1) St.frozenC rfl)) rfl ?_
                  refine QJ.step (YldS.yld (y_assign rfl)) rfl ?_
                  refine QJ.done ?_
                  refine PJ.next ?_
                  refine WJ.seq ?_
                  refine WJ.quiet ?_
                  refine QJ.step (YldS.yld (y_move rfl)) rfl ?_
                  refine QJ.step (YldS.yld (y_bin rfl rfl rfl)) rfl ?_
                  refine QJ.step (YldS.yld (y_assign rfl)) rfl ?_
                  refine QJ.done ?_
                  refine PJ.next ?_
                  refine WJ.seq ?_
                  refine WJ.quiet ?_
                  refine QJ.step (YldS.yld (y_move rfl)) rfl ?_
                  refine QJ.step (YldS.yld (y_move rfl)) rfl ?_
                  refine QJ.step (YldS.yld (y_lenS Tryd.runUnderlying25 hr3 rfl)) rfl ?_
                  refine QJ.step (YldS.yld (y_bin rfl rfl rfl)) rfl ?_
                  refine QJ.done ?_
                  refine PJ.next ?_
                  refine WJ.cond (t := decide ((w64 (steps50 + 1)) > (List.length list1 : Int))) rfl (fun hb57 => ?_) (fun hb57 => ?_)
                  · replace hm := ifT hm hb57
                    refine WJ.seq ?_
                    refine WJ.quiet ?_
                    refine QJ.step (YldS.yld (y_assign rfl)) rfl ?_
                    refine QJ.done ?_
                    refine PJ.next ?_
                    refine WJ.ret ?_
                    refine PJ.block_ret (PJ.then_ret (PJ.block_ret (PJ.block_ret (PJ.then_ret (PJ.then_ret (PJ.block_ret (PJ.then_ret ?_)))))))
                    obtain rfl := Option.some.inj hm
                    refine PJ.sel (L' := []) [] ⟨List.nodup_nil, rfl⟩ ?_
                    exact PJ.retn (vs := [.bool false]) Tryd.results25 ⟨rfl, trivial⟩ ⟨rfl, rfl⟩
                  · replace hm := ifF hm hb57
                    refine WJ.skip ?_
                    refine PJ.block_normal ?_
                    exact PJ.round (e52.instead, w64 (steps50 + 1)) [] hm ⟨rfl, rfl, rfl, rfl, rfl, trivial⟩ ⟨List.nodup_nil, rfl⟩
                · replace hm := ifF hm hb51
                  refine WJ.exit ?_
                  refine PJ.then_exit (PJ.then_exit (PJ.block_exit (PJ.block_normal ?_)))
                  exact PJ.joined () [] hm ⟨rfl, rfl, rfl, trivial⟩ ⟨List.nodup_nil, rfl⟩
            · rintro _ hm
              subst hk48
              refine WJ.quiet ?_
              refine QJ.step (YldS.yld (y_bin rfl rfl rfl)) rfl ?_
              refine QJ.step (YldS.yld (y_move rfl)) rfl ?_
              refine QJ.done ?_
              exact PJ.round (w64 (x45 + 1)) [] hm ⟨rfl, rfl, rfl, trivial⟩ ⟨List.nodup_nil, rfl⟩
          · replace hm := ifF hm hb46
            refine WJ.exit ?_
            refine PJ.then_exit (PJ.then_exit (PJ.block_exit ?_))
            exact PJ.joined () [] hm trivial ⟨List.nodup_nil, rfl⟩
      · rintro _ hm
        subst hk44
        refine WJ.seq ?_
        refine WJ.quiet ?_
        refine QJ.step (YldS.yld (y_assign rfl)) rfl ?_
        refine QJ.done ?_
        refine PJ.next ?_
        refine WJ.ret ?_
        obtain rfl := Option.some.inj hm
        refine PJ.sel (L' := []) [] ⟨List.nodup_nil, rfl⟩ ?_
        exact PJ.retn (vs := [.bool true]) Tryd.results25 ⟨rfl, trivial⟩ ⟨rfl, rfl⟩

set_option maxRecDepth 100000 in
set_option maxHeartbeats 1000000 in
theorem ok_i_partCode {N : Nat} {list1 : List SparePart} {k4 : Int} {many5 : Int} {r : Int} (hm : i_partCode N list1 k4 many5 = some r) (w : World) (v2 : Value) (hr3 : RdS w (cx w).Fz v2 fSparePart.rp list1) :
    Calls Tryd.prog 39 #[v2, .int .i64 k4, .int .i64 many5] w (Ret (cx w) (.int .i64 r)) := by
  unfold i_partCode at hm
  refine Calls.enter [v2, .int .i64 k4, .int .i64 many5] Tryd.func39 rfl Tryd.ntmps39 rfl ?_
  refine WJ.seq ?_
  refine WJ.quiet ?_
  refine QJ.step (YldS.yld (y_assign rfl)) rfl ?_
  refine QJ.done ?_
  refine PJ.next ?_
  refine WJ.seq ?_
  refine WJ.seq ?_
  refine WJ.quiet ?_
  refine QJ.step (YldS.yld (y_move rfl)) rfl ?_
  obtain ⟨r6, h7, hm⟩ := bindS hm
  refine QJ.step (y_call Tryd.call25 rfl (RetG.quiet fun w hw => ok_i_ValidParts h7 w _ (hr3.st hw))) rfl ?_
  refine QJ.step (YldS.yld (y_not rfl)) rfl ?_
  refine QJ.done ?_
  refine PJ.next ?_
  refine WJ.cond (t := !r6) rfl (fun hb8 => ?_) (fun hb8 => ?_)
  · replace hm := ifT hm hb8
    refine WJ.seq ?_
    refine WJ.quiet ?_
    refine QJ.step (YldS.yld (y_assign rfl)) rfl ?_
    refine QJ.done ?_
    refine PJ.next ?_
    refine WJ.ret ?_
    refine PJ.then_ret ?_
    obtain rfl := Option.some.inj hm
    refine PJ.sel (L' := []) [] ⟨List.nodup_nil, rfl⟩ ?_
    exact PJ.retn (vs := [.int .i64 1]) Tryd.results39 ⟨rfl, trivial⟩ ⟨rfl, rfl⟩
  · replace hm := ifF hm hb8
    refine WJ.skip ?_
    refine PJ.next ?_
    refine WJ.seq ?_
    refine WJ.seq ?_
    refine WJ.quiet ?_
    refine QJ.step (YldS.yld (y_move rfl)) rfl ?_
    refine QJ.step (YldS.yld (y_move rfl)) rfl ?_
    refine QJ.step (YldS.yld (y_lenS Tryd.runUnderlying25 hr3 rfl)) rfl ?_
    refine QJ.step (YldS.yld (y_bin rfl rfl rfl)) rfl ?_
    obtain ⟨r9, h10, hm⟩ := bindS hm
    refine QJ.step (y_call Tryd.call32 rfl (RetG.quiet fun w hw => ok_i_between h10 w )) rfl ?_
    refine QJ.step (YldS.yld (y_not rfl)) rfl ?_
    refine QJ.step (YldS.yld (y_move rfl)) rfl ?_
    obtain ⟨t11, h12, hm⟩ := bindS hm
    refine QJ.cut 4 [(20, .bool t11)] ?_ ?_
    · rcases Bool.eq_false_or_eq_true (!r9) with hb13 | hb13
      · obtain rfl := orT h12 hb13
        refine QJ.off rfl rfl (cB hb13) rfl rfl ?_
        refine QJ.off rfl rfl (cB hb13) rfl rfl ?_
        refine QJ.off rfl rfl (cB hb13) rfl rfl ?_
        refine QJ.step (YldS.yld (y_pick_t (cB hb13) rfl)) rfl ?_
        exact QJ.cut_end ⟨rfl, trivial⟩
      · replace h12 := orF h12 hb13
        refine QJ.on rfl rfl (cB hb13) (YldS.yld (y_move rfl)) rfl ?_
        obtain ⟨r14, h15, h12⟩ := bindS h12
        refine QJ.on rfl rfl (cB hb13) (y_call Tryd.call32 rfl (RetG.quiet fun w hw => ok_i_between h15 w )) rfl ?_
        refine QJ.on rfl rfl (cB hb13) (YldS.yld (y_not rfl)) rfl ?_
        refine QJ.step (YldS.yld (y_pick_f (cB hb13) rfl)) rfl ?_
        obtain rfl := Option.some.inj h12
        exact QJ.cut_end ⟨rfl, trivial⟩
    refine QJ.done ?_
    refine PJ.next ?_
    refine WJ.cond (t := t11) rfl (fun hb16 => ?_) (fun hb16 => ?_)
    · replace hm := ifT hm hb16
      refine WJ.seq ?_
      refine WJ.quiet ?_
      refine QJ.step (YldS.yld (y_assign rfl)) rfl ?_
      refine QJ.done ?_
      refine PJ.next ?_
      refine WJ.ret ?_
      refine PJ.then_ret ?_
      obtain rfl := Option.some.inj hm
      refine PJ.sel (L' := []) [] ⟨List.nodup_nil, rfl⟩ ?_
      exact PJ.retn (vs := [.int .i64 2]) Tryd.results39 ⟨rfl, trivial⟩ ⟨rfl, rfl⟩
    · replace hm := ifF hm hb16
      refine WJ.skip ?_
      refine PJ.next ?_
      refine WJ.seq ?_
      refine WJ.quiet ?_
      refine QJ.step (YldS.yld (y_assign rfl)) rfl ?_
      refine QJ.done ?_
      refine PJ.next ?_
      refine WJ.ret ?_
      obtain rfl := Option.some.inj hm
      refine PJ.sel (L' := []) [] ⟨List.nodup_nil, rfl⟩ ?_
      exact PJ.retn (vs := [.int .i64 0]) Tryd.results39 ⟨rfl, trivial⟩ ⟨rfl, rfl⟩

set_option maxRecDepth 100000 in
set_option maxHeartbeats 1000000 in
theorem ok_i_usedPart {N : Nat} {list1 : List SparePart} {k4 : Int} {many5 : Int} {r : Int} (hm : i_usedPart N list1 k4 many5 = some r) (w : World) (v2 : Value) (hr3 : RdS w (cx w).Fz v2 fSparePart.rp list1) :
    Calls Tryd.prog 40 #[v2, .int .i64 k4, .int .i64 many5] w (Ret (cx w) (.int .i64 r)) := by
  unfold i_usedPart at hm
  refine Calls.enter [v2, .int .i64 k4, .int .i64 many5] Tryd.func40 rfl Tryd.ntmps40 rfl ?_
  refine WJ.seq ?_
  refine WJ.quiet ?_
  refine QJ.step (YldS.yld (y_assign rfl)) rfl ?_
  refine QJ.done ?_
  refine PJ.next ?_
  obtain ⟨kj7, hk8, hm⟩ := withK_open hm
  refine WJ.join (X := Int) (fun (x : Int) => kj7 x = some r) (fun (x : Int) => [(1, .int .i64 x)]) (fun (x : Int) => []) ?_ ?_
  · clear hk8
    refine WJ.block ?_
    refine WJ.sel (L' := (fun (x : Int) => []) k4) [] ⟨List.nodup_nil, rfl⟩ ?_
    refine WJ.sub (m' := (fun (x : Int) => [(0, v2), (1, .int .i64 x), (2, .int .i64 many5)]) k4) ⟨rfl, rfl, rfl, trivial⟩ ?_
    refine WJ.loop (X := Int) (fun N (x : Int) => i_usedPart_l1 kj7 list1 many5 N x = some r) (fun (x : Int) => [(0, v2), (1, .int .i64 x), (2, .int .i64 many5)]) (fun (x : Int) => []) ?_ N k4 hm
    · rintro N k9 hI
      have hm := hI; clear hI
      cases N with
      | zero => cases hm
      | succ N =>
      unfold i_usedPart_l1 at hm
      refine WJ.seq ?_
      refine WJ.seq ?_
      refine WJ.quiet ?_
      refine QJ.step (YldS.yld (y_move rfl)) rfl ?_
      refine QJ.step (YldS.yld (y_bin rfl rfl rfl)) rfl ?_
      refine QJ.step (YldS.yld (y_move rfl)) rfl ?_
      obtain ⟨t10, h11, hm⟩ := bindS hm
      refine QJ.cut 8 [(0, v2), (1, .int .i64 k9), (2, .int .i64 many5), (17, .bool t10)] ?_ ?_
      · rcases Bool.eq_false_or_eq_true (decide (k9 ≥ 0)) with hb12 | hb12
        · replace h11 := andT h11 hb12
          refine QJ.on rfl rfl (cB hb12) (YldS.yld (y_move rfl)) rfl ?_
          refine QJ.on rfl rfl (cB hb12) (YldS.yld (y_move rfl)) rfl ?_
          obtain ⟨e13, h14, h11⟩ := bindS h11
          obtain ⟨ad15, _, rfl, ha16, hy17⟩ := hr3.elem h14
          refine QJ.on rfl rfl (cB hb12) (YldS.yld (hy17 Tryd.runUnderlying25 Tryd.sizeOf46 rfl rfl)) rfl ?_
          refine QJ.on rfl rfl (cB hb12) (YldS.yld (y_fld (ad := ad15) fld46_1 rfl)) rfl ?_
          refine QJ.on rfl rfl (cB hb12) (YldS.yld (y_load1 (v := .int .i64 e13.stock) Tryd.isAgg2 (ha16.sub 1 1) St.frozenC rfl)) rfl ?_
          refine QJ.on rfl rfl (cB hb12) (YldS.yld (y_move rfl)) rfl ?_
          refine QJ.on rfl rfl (cB hb12) (YldS.yld (y_bin rfl rfl rfl)) rfl ?_
          refine QJ.step (YldS.yld (y_pick_t (cB hb12) rfl)) rfl ?_
          obtain rfl := Option.some.inj h11
          exact QJ.cut_end ⟨rfl, rfl, rfl, rfl, trivial⟩
        · obtain rfl := andF h11 hb12
          refine QJ.off rfl rfl (cB hb12) rfl rfl ?_
          refine QJ.off rfl rfl (cB hb12) rfl rfl ?_
          refine QJ.off rfl rfl (cB hb12) rfl rfl ?_
          refine QJ.off rfl rfl (cB hb12) rfl rfl ?_
          refine QJ.off rfl rfl (cB hb12) rfl rfl ?_
          refine QJ.off rfl rfl (cB hb12) rfl rfl ?_
          refine QJ.off rfl rfl (cB hb12) rfl rfl ?_
          refine QJ.step (YldS.yld (y_pick_f (cB hb12) rfl)) rfl ?_
          exact QJ.cut_end ⟨rfl, rfl, rfl, rfl, trivial⟩
      refine QJ.done ?_
      refine PJ.next ?_
      refine WJ.cond (t := t10) rfl (fun hb18 => ?_) (fun hb18 => ?_)
      · replace hm := ifT hm hb18
        refine WJ.skip ?_
        refine PJ.next ?_
        refine WJ.block ?_
        refine WJ.quiet ?_
        refine QJ.step (YldS.yld (y_move rfl)) rfl ?_
        refine QJ.step (YldS.yld (y_move rfl)) rfl ?_
        obtain ⟨e19, h20, hm⟩ := bindS hm
        obtain ⟨ad21, _, rfl, ha22, hy23⟩ := hr3.elem h20
        refine QJ.step (YldS.yld (hy23 Tryd.runUnderlying25 Tryd.sizeOf46 rfl rfl)) rfl ?_
        refine QJ.step (YldS.yld (y_fld (ad := ad21) fld46_4 rfl)) rfl ?_
        refine QJ.step (YldS.yld (y_load1 (v := .int .i64 e19.instead) Tryd.isAgg2 (ha22.sub 4 1) St.frozenC rfl)) rfl ?_
        refine QJ.step (YldS.yld (y_assign rfl)) rfl ?_
        refine QJ.done ?_
        refine PJ.block_normal ?_
        exact PJ.round e19.instead [] hm ⟨rfl, rfl, rfl, trivial⟩ ⟨List.nodup_nil, rfl⟩
      · replace hm := ifF hm hb18
        refine WJ.exit ?_
        refine PJ.then_exit (PJ.then_exit (PJ.block_exit ?_))
        exact PJ.joined k9 [] hm ⟨rfl, trivial⟩ ⟨List.nodup_nil, rfl⟩
  · rintro k6 hm
    subst hk8
    refine WJ.seq ?_
    refine WJ.quiet ?_
    refine QJ.step (YldS.yld (y_move rfl)) rfl ?_
    refine QJ.step (YldS.yld (y_assign rfl)) rfl ?_
    refine QJ.done ?_
    refine PJ.next ?_
    refine WJ.ret ?_
    obtain rfl := Option.some.inj hm
    refine PJ.sel (L' := []) [] ⟨List.nodup_nil, rfl⟩ ?_
    exact PJ.retn (vs := [.int .i64 k6]) Tryd.results40 ⟨rfl, trivial⟩ ⟨rfl, rfl⟩

set_option maxRecDepth 100000 in
set_option maxHeartbeats 1000000 in
theorem ok_i_ReplacementOf {N : Nat} {list1 : List SparePart} {k4 : Int} {many5 : Int} {r : Int × Int} (hm : i_ReplacementOf N list1 k4 many5 = some r) (w : World) (v2 : Value) (hr3 : RdS w (cx w).Fz v2 fSparePart.rp list1) :
    Calls Tryd.prog 14 #[v2, .int .i64 k4, .int .i64 many5] w (Ret (cx w) (tup [.int .i64 r.1, .int .i64 r.2])) := by
  unfold i_ReplacementOf at hm
  refine Calls.enter [v2, .int .i64 k4, .int .i64 many5] Tryd.func14 rfl Tryd.ntmps14 rfl ?_
  refine WJ.seq ?_
  refine WJ.quiet ?_
  refine QJ.step (YldS.yld (y_assign rfl)) rfl ?_
  refine QJ.step (YldS.yld (y_assign rfl)) rfl ?_
  refine QJ.done ?_
  refine PJ.next ?_
  refine WJ.seq ?_
  refine WJ.seq ?_
  refine WJ.quiet ?_
  refine QJ.step (YldS.yld (y_move rfl)) rfl ?_
  refine QJ.step (YldS.yld (y_move rfl)) rfl ?_
  refine QJ.step (YldS.yld (y_move rfl)) rfl ?_
  obtain ⟨r6, h7, hm⟩ := bindS hm
  refine QJ.step (y_call Tryd.call39 rfl (RetG.quiet fun w hw => ok_i_partCode h7 w _ (hr3.st hw))) rfl ?_
  refine QJ.step (YldS.yld (y_assign rfl)) rfl ?_
  refine QJ.done ?_
  refine PJ.next ?_
  refine WJ.seq ?_
  refine WJ.quiet ?_
  refine QJ.step (YldS.yld (y_move rfl)) rfl ?_
  refine QJ.step (YldS.yld (y_bin rfl rfl rfl)) rfl ?_
  refine QJ.done ?_
  refine PJ.next ?_
  refine WJ.cond (t := (r6 != 0)) rfl (fun hb8 => ?_) (fun hb8 => ?_)
  · replace hm := ifT hm hb8
    refine WJ.seq ?_
    refine WJ.quiet ?_
    refine QJ.step (YldS.yld (y_move rfl)) rfl ?_
    refine QJ.step (YldS.yld (y_assign rfl)) rfl ?_
    refine QJ.step (YldS.yld (y_assign rfl)) rfl ?_
    refine QJ.done ?_
    refine PJ.next ?_
    refine WJ.ret ?_
    refine PJ.then_ret ?_
    obtain rfl := Option.some.inj hm
    refine PJ.sel (L' := []) [] ⟨List.nodup_nil, rfl⟩ ?_
    exact PJ.retn (vs := [.int .i64 0, .int .i64 r6]) Tryd.results14 ⟨rfl, rfl, trivial⟩ ⟨rfl, rfl⟩
  · replace hm := ifF hm hb8
    refine WJ.skip ?_
    refine PJ.next ?_
    refine WJ.seq ?_
    refine WJ.quiet ?_
    refine QJ.step (YldS.yld (y_move rfl)) rfl ?_
    refine QJ.step (YldS.yld (y_move rfl)) rfl ?_
    refine QJ.step (YldS.yld (y_move rfl)) rfl ?_
    obtain ⟨r9, h10, hm⟩ := bindS hm
    refine QJ.step (y_call Tryd.call40 rfl (RetG.quiet fun w hw => ok_i_usedPart h10 w _ (hr3.st hw))) rfl ?_
    refine QJ.step (YldS.yld (y_assign rfl)) rfl ?_
    refine QJ.done ?_
    refine PJ.next ?_
    refine WJ.seq ?_
    refine WJ.seq ?_
    refine WJ.quiet ?_
    refine QJ.step (YldS.yld (y_move rfl)) rfl ?_
    refine QJ.step (YldS.yld (y_bin rfl rfl rfl)) rfl ?_
    refine QJ.done ?_
    refine PJ.next ?_
    refine WJ.cond (t := decide (r9 < 0)) rfl (fun hb11 => ?_) (fun hb11 => ?_)
    · replace hm := ifT hm hb11
      refine WJ.seq ?_
      refine WJ.quiet ?_
      refine QJ.step (YldS.yld (y_assign rfl)) rfl ?_
      refine QJ.step (YldS.yld (y_assign rfl)) rfl ?_
      refine QJ.done ?_
      refine PJ.next ?_
      refine WJ.ret ?_
      refine PJ.then_ret ?_
      obtain rfl := Option.some.inj hm
      refine PJ.sel (L' := []) [] ⟨List.nodup_nil, rfl⟩ ?_
      exact PJ.retn (vs := [.int .i64 0, .int .i64 3]) Tryd.results14 ⟨rfl, rfl, trivial⟩ ⟨rfl, rfl⟩
    · replace hm := ifF hm hb11
      refine WJ.skip ?_
      refine PJ.next ?_
      refine WJ.seq ?_
      refine WJ.quiet ?_
      refine QJ.step (YldS.yld (y_move rfl)) rfl ?_
      refine QJ.step (YldS.yld (y_assign rfl)) rfl ?_
      refine QJ.step (YldS.yld (y_assign rfl)) rfl ?_
      refine QJ.done ?_
      refine PJ.next ?_
      refine WJ.ret ?_
      obtain rfl := Option.some.inj hm
      refine PJ.sel (L' := []) [] ⟨List.nodup_nil, rfl⟩ ?_
      exact PJ.retn (vs := [.int .i64 r9, .int .i64 0]) Tryd.results14 ⟨rfl, rfl, trivial⟩ ⟨rfl, rfl⟩

set_option maxRecDepth 100000 in
set_option maxHeartbeats 1000000 in
theorem ok_i_TakeParts {N : Nat} {list1 : List SparePart} {k4 : Int} {many5 : Int} {r : (List SparePart) × Int × Int} (hm : i_TakeParts N list1 k4 many5 = some r) (w : World) (v2 : Value) (hr3 : RdS w (cx w).Fz v2 fSparePart.rp list1) :
    Calls Tryd.prog 12 #[v2, .int .i64 k4, .int .i64 many5] w (RetG (cx w) fun u L => ∃ (u1 : Value), (u = tup [u1, .int .i64 r.2.1, .int .i64 r.2.2] ∧ L = [row u1 46 fSparePart r.1])) := by
  unfold i_TakeParts at hm
  refine Calls.enter [v2, .int .i64 k4, .int .i64 many5] Tryd.func12 rfl Tryd.ntmps12 rfl ?_
  refine WJ.seq ?_
  refine WJ.quiet ?_
  refine QJ.step (YldS.yld (y_assign rfl)) rfl ?_
  refine QJ.step (YldS.yld (y_assign rfl)) rfl ?_
  refine QJ.step (YldS.yld (y_assign rfl)) rfl ?_
  refine QJ.done ?_
  refine PJ.next ?_
  refine WJ.seq ?_
  refine WJ.quiet ?_
  refine QJ.step (YldS.yld (y_move rfl)) rfl ?_
  refine QJ.step (YldS.yld (y_move rfl)) rfl ?_
  refine QJ.step (YldS.yld (y_move rfl)) rfl ?_
  obtain ⟨r6, h7, hm⟩ := bindS hm
  refine QJ.step (y_call Tryd.call14 rfl (RetG.quiet fun w hw => ok_i_ReplacementOf h7 w _ (hr3.st hw))) rfl ?_
  refine QJ.step (YldS.yld (y_move rfl)) rfl ?_
  refine QJ.step (YldS.yld (y_extract rfl rfl)) rfl ?_
  refine QJ.step (YldS.yld (y_extract rfl rfl)) rfl ?_
  refine QJ.step (YldS.yld (y_assign rfl)) rfl ?_
  refine QJ.step (YldS.yld (y_assign rfl)) rfl ?_
  refine QJ.done ?_
  refine PJ.next ?_
  refine WJ.seq ?_
  refine WJ.seq ?_
  refine WJ.quiet ?_
  refine QJ.step (YldS.yld (y_move rfl)) rfl ?_
  refine QJ.step (YldS.yld (y_bin rfl rfl rfl)) rfl ?_
  refine QJ.done ?_
  refine PJ.next ?_
  refine WJ.cond (t := (r6.2 != 0)) rfl (fun hb8 => ?_) (fun hb8 => ?_)
  · replace hm := ifT hm hb8
    refine WJ.seq ?_
    refine WJ.quiet ?_
    refine QJ.step (YldS.yld (y_move rfl)) rfl ?_
    refine QJ.step (YldS.yld (y_assign rfl)) rfl ?_
    refine QJ.step (YldS.yld (y_assign rfl)) rfl ?_
    refine QJ.step (YldS.yld (y_assign rfl)) rfl ?_
    refine QJ.done ?_
    refine PJ.next ?_
    refine WJ.ret ?_
    refine PJ.then_ret ?_
    refine PJ.nil_row 46 fSparePart ?_
    obtain rfl := Option.some.inj hm
    refine PJ.sel (L' := [row (.slice none 0 0) 46 fSparePart []]) [0] ⟨by decide, rfl⟩ ?_
    exact PJ.retn (vs := [(.slice none 0 0), .int .i64 0, .int .i64 r6.2]) Tryd.results12 ⟨rfl, rfl, rfl, trivial⟩ ⟨_, rfl, rfl⟩
  · replace hm := ifF hm hb8
    refine WJ.skip ?_
    refine PJ.next ?_
    refine WJ.seq ?_
    refine WJ.reg ?_
    refine SJ.buildSlice (R := fSparePart) (os := []) [] Tryd.runUnderlying25 Tryd.sizeOf46 Tryd.zeroValue46 rfl rfl rfl rfl rfl rfl fun v9 => ?_
    refine SJ.q (YldS.yld (y_move rfl)) rfl ?_
    obtain ⟨l10, h11, hm⟩ := bindS hm
    refine SJ.append (k := 0) (R := fSparePart) h11 rfl Tryd.underlying25 el46 rfl rfl rfl (fun w hw => (hr3.st hw)) rfl fun v12 => ?_
    refine SJ.q (YldS.yld (y_assign rfl)) rfl ?_
    refine SJ.nil ?_
    refine PJ.next ?_
    refine WJ.seq ?_
    refine WJ.reg ?_
    refine SJ.q (YldS.yld (y_move rfl)) rfl ?_
    refine SJ.q (YldS.yld (y_move rfl)) rfl ?_
    obtain ⟨e13, h14, hm⟩ := bindS hm
    refine SJ.q (YldS.yld (y_ixRow (k := 0) (R := fSparePart) rfl Tryd.runUnderlying25 Tryd.sizeOf46 rfl rfl h14)) rfl ?_
    refine SJ.q (YldS.yld (y_fldR fld46_1 rfl)) rfl ?_
    refine SJ.q (YldS.yld (y_loadR (k := 0) (i := (Int.toNat r6.1)) (off := 1) (u := .int .i64 e13.stock) rfl Tryd.isAgg2 rfl (idx_get h14) rfl)) rfl ?_
    refine SJ.q (YldS.yld (y_move rfl)) rfl ?_
    refine SJ.q (YldS.yld (y_bin rfl rfl rfl)) rfl ?_
    obtain ⟨e15, h16, hm⟩ := bindS hm
    refine SJ.q (YldS.yld (y_ixRow (k := 0) (R := fSparePart) rfl Tryd.runUnderlying25 Tryd.sizeOf46 rfl rfl h16)) rfl ?_
    refine SJ.q (YldS.yld (y_fldR fld46_1 rfl)) rfl ?_
    refine SJ.storeRL (k := 0) (i := (Int.toNat r6.1)) (off := 1) (us := [.int .i64 (w64 (e13.stock - many5))]) (b := (SparePart.mk e15.name (w64 (e13.stock - many5)) e15.target e15.days e15.instead)) rfl rfl (idx_get h16) rfl rfl Tryd.sizeOf2 rfl rfl rfl ?_
    refine SJ.nil ?_
    refine PJ.next ?_
    refine WJ.seq ?_
    refine WJ.quiet ?_
    refine QJ.step (YldS.yld (y_move rfl)) rfl ?_
    refine QJ.step (YldS.yld (y_move rfl)) rfl ?_
    refine QJ.step (YldS.yld (y_assign rfl)) rfl ?_
    refine QJ.step (YldS.yld (y_assign rfl)) rfl ?_
    refine QJ.step (YldS.yld (y_assign rfl)) rfl ?_
    refine QJ.done ?_
    refine PJ.next ?_
    refine WJ.ret ?_
    obtain rfl := Option.some.inj hm
    refine PJ.sel (L' := [row v12 46 fSparePart (List.set l10 (Int.toNat r6.1) (SparePart.mk e15.name (w64 (e13.stock - many5)) e15.target e15.days e15.instead))]) [0] ⟨by decide, rfl⟩ ?_
    exact PJ.retn (vs := [v12, .int .i64 r6.1, .int .i64 0]) Tryd.results12 ⟨rfl, rfl, rfl, trivial⟩ ⟨_, rfl, rfl⟩

set_option maxRecDepth 100000 in
set_option maxHeartbeats 1000000 in
theorem ok_s_l01Small {c1 : UInt8} {r : Bool} (hm : s_l01Small c1 = some r) (w : World)  :
    Calls Tryd.prog 53 #[.int .u8 (UInt8.toNat c1 : Int)] w (Ret (cx w) (.bool r)) := by
  unfold s_l01Small at hm
  refine Calls.enter [.int .u8 (UInt8.toNat c1 : Int)] Tryd.func53 rfl Tryd.ntmps53 rfl ?_
  refine WJ.seq ?_
  refine WJ.quiet ?_
  refine QJ.step (YldS.yld (y_assign rfl)) rfl ?_
  refine QJ.done ?_
  refine PJ.next ?_
  refine WJ.seq ?_
  refine WJ.quiet ?_
  refine QJ.step (YldS.yld (y_move rfl)) rfl ?_
  refine QJ.step (YldS.yld (y_bin8 c1 (97 : UInt8) rfl rfl rfl)) rfl ?_
  refine QJ.step (YldS.yld (y_move rfl)) rfl ?_
  obtain ⟨t2, h3, hm⟩ := bindS hm
  refine QJ.cut 3 [(8, .bool t2)] ?_ ?_
  · rcases Bool.eq_false_or_eq_true (decide (c1 ≥ (97 : UInt8))) with hb4 | hb4
    · replace h3 := andT h3 hb4
      refine QJ.on rfl rfl (cB hb4) (YldS.yld (y_move rfl)) rfl ?_
      refine QJ.on rfl rfl (cB hb4) (YldS.yld (y_bin8 c1 (122 : UInt8) rfl rfl rfl)) rfl ?_
      refine QJ.step (YldS.yld (y_pick_t (cB hb4) rfl)) rfl ?_
      obtain rfl := Option.some.inj h3
      exact QJ.cut_end ⟨rfl, trivial⟩
    · obtain rfl := andF h3 hb4
      refine QJ.off rfl rfl (cB hb4) rfl rfl ?_
      refine QJ.off rfl rfl (cB hb4) rfl rfl ?_
      refine QJ.step (YldS.yld (y_pick_f (cB hb4) rfl)) rfl ?_
      exact QJ.cut_end ⟨rfl, trivial⟩
  refine QJ.step (YldS.yld (y_assign rfl)) rfl ?_
  refine QJ.done ?_
  refine PJ.next ?_
  refine WJ.ret ?_
  obtain rfl := Option.some.inj hm
  refine PJ.sel (L' := []) [] ⟨List.nodup_nil, rfl⟩ ?_
  exact PJ.retn (vs := [.bool t2]) Tryd.results53 ⟨rfl, trivial⟩ ⟨rfl, rfl⟩

set_option maxRecDepth 100000 in
set_option maxHeartbeats 1000000 in
theorem ok_s_l01Digit {c1 : UInt8} {r : Bool} (hm : s_l01Digit c1 = some r) (w : World)  :
    Calls Tryd.prog 54 #[.int .u8 (UInt8.toNat c1 : Int)] w (Ret (cx w) (.bool r)) := by
  unfold s_l01Digit at hm
  refine Calls.enter [.int .u8 (UInt8.toNat c1 : Int)] Tryd.func54 rfl Tryd.ntmps54 rfl ?_
  refine WJ.seq ?_
  refine WJ.quiet ?_
  refine QJ.step (YldS.yld (y_assign rfl)) rfl ?_
  refine QJ.done ?_
  refine PJ.next ?_
  refine WJ.seq ?_
  refine WJ.quiet ?_
  refine QJ.step (YldS.yld (y_move rfl)) rfl ?_
  refine QJ.step (YldS.yld (y_bin8 c1 (48 : UInt8) rfl rfl rfl)) rfl ?_
  refine QJ.step (YldS.yld (y_move rfl)) rfl ?_
  obtain ⟨t2, h3, hm⟩ := bindS hm
  refine QJ.cut 3 [(8, .bool t2)] ?_ ?_
  · rcases Bool.eq_false_or_eq_true (decide (c1 ≥ (48 : UInt8))) with hb4 | hb4
    · replace h3 := andT h3 hb4
      refine QJ.on rfl rfl (cB hb4) (YldS.yld (y_move rfl)) rfl ?_
      refine QJ.on rfl rfl (cB hb4) (YldS.yld (y_bin8 c1 (57 : UInt8) rfl rfl rfl)) rfl ?_
      refine QJ.step (YldS.yld (y_pick_t (cB hb4) rfl)) rfl ?_
      obtain rfl := Option.some.inj h3
      exact QJ.cut_end ⟨rfl, trivial⟩
    · obtain rfl := andF h3 hb4
      refine QJ.off rfl rfl (cB hb4) rfl rfl ?_
      refine QJ.off rfl rfl (cB hb4) rfl rfl ?_
      refine QJ.step (YldS.yld (y_pick_f (cB hb4) rfl)) rfl ?_
      exact QJ.cut_end ⟨rfl, trivial⟩
  refine QJ.step (YldS.yld (y_assign rfl)) rfl ?_
  refine QJ.done ?_
  refine PJ.next ?_
  refine WJ.ret ?_
  obtain rfl := Option.some.inj hm
  refine PJ.sel (L' := []) [] ⟨List.nodup_nil, rfl⟩ ?_
  exact PJ.retn (vs := [.bool t2]) Tryd.results54 ⟨rfl, trivial⟩ ⟨rfl, rfl⟩

set_option maxRecDepth 100000 in
set_option maxHeartbeats 1000000 in
theorem ok_s_IsName {N : Nat} {s1 : Str} {r : Bool} (hm : s_IsName N s1 = some r) (w : World)  :
    Calls Tryd.prog 46 #[str s1] w (Ret (cx w) (.bool r)) := by
  unfold s_IsName at hm
  refine Calls.enter [str s1] Tryd.func46 rfl Tryd.ntmps46 rfl ?_
  refine WJ.seq ?_
  refine WJ.quiet ?_
  refine QJ.step (YldS.yld (y_assign rfl)) rfl ?_
  refine QJ.done ?_
  refine PJ.next ?_
  refine WJ.seq ?_
  refine WJ.seq ?_
  refine WJ.quiet ?_
  refine QJ.step (YldS.yld (y_move rfl)) rfl ?_
  refine QJ.step (YldS.yld (y_binS rfl rfl rfl)) rfl ?_
  refine QJ.step (YldS.yld (y_move rfl)) rfl ?_
  obtain ⟨t2, h3, hm⟩ := bindS hm
  refine QJ.cut 4 [(0, str s1), (10, .bool t2)] ?_ ?_
  · rcases Bool.eq_false_or_eq_true (s1 == []) with hb4 | hb4
    · obtain rfl := orT h3 hb4
      refine QJ.off rfl rfl (cB hb4) rfl rfl ?_
      refine QJ.off rfl rfl (cB hb4) rfl rfl ?_
      refine QJ.off rfl rfl (cB hb4) rfl rfl ?_
      refine QJ.step (YldS.yld (y_pick_t (cB hb4) rfl)) rfl ?_
      exact QJ.cut_end ⟨rfl, rfl, trivial⟩
    · replace h3 := orF h3 hb4
      refine QJ.on rfl rfl (cB hb4) (YldS.yld (y_move rfl)) rfl ?_
      refine QJ.on rfl rfl (cB hb4) (YldS.yld (y_lenStr Tryd.runUnderlying9 rfl)) rfl ?_
      refine QJ.on rfl rfl (cB hb4) (YldS.yld (y_bin rfl rfl rfl)) rfl ?_
      refine QJ.step (YldS.yld (y_pick_f (cB hb4) rfl)) rfl ?_
      obtain rfl := Option.some.inj h3
      exact QJ.cut_end ⟨rfl, rfl, trivial⟩
  refine QJ.step (YldS.yld (y_move rfl)) rfl ?_
  obtain ⟨t5, h6, hm⟩ := bindS hm
  refine QJ.cut 5 [(0, str s1), (16, .bool t5)] ?_ ?_
  · rcases Bool.eq_false_or_eq_true t2 with hb7 | hb7
    · obtain rfl := orT h6 hb7
      refine QJ.off rfl rfl (cB hb7) rfl rfl ?_
      refine QJ.off rfl rfl (cB hb7) rfl rfl ?_
      refine QJ.off rfl rfl (cB hb7) rfl rfl ?_
      refine QJ.off rfl rfl (cB hb7) rfl rfl ?_
      refine QJ.step (YldS.yld (y_pick_t (cB hb7) rfl)) rfl ?_
      exact QJ.cut_end ⟨rfl, rfl, trivial⟩
    · replace h6 := orF h6 hb7
      refine QJ.on rfl rfl (cB hb7) (YldS.yld (y_move rfl)) rfl ?_
      obtain ⟨c8, h9, h6⟩ := bindS h6
      refine QJ.on rfl rfl (cB hb7) (YldS.yld (y_idxStr Tryd.runUnderlying9 rfl rfl h9)) rfl ?_
      obtain ⟨r10, h11, h6⟩ := bindS h6
      refine QJ.on rfl rfl (cB hb7) (y_call Tryd.call53 rfl (RetG.quiet fun w hw => ok_s_l01Small h11 w )) rfl ?_
      refine QJ.on rfl rfl (cB hb7) (YldS.yld (y_not rfl)) rfl ?_
      refine QJ.step (YldS.yld (y_pick_f (cB hb7) rfl)) rfl ?_
      obtain rfl := Option.some.inj h6
      exact QJ.cut_end ⟨rfl, rfl, trivial⟩
  refine QJ.done ?_
  refine PJ.next ?_
  refine WJ.cond (t := t5) rfl (fun hb12 => ?_) (fun hb12 => ?_)
  · replace hm := ifT hm hb12
    refine WJ.seq ?_
    refine WJ.quiet ?_
    refine QJ.step (YldS.yld (y_assign rfl)) rfl ?_
    refine QJ.done ?_
    refine PJ.next ?_
    refine WJ.ret ?_
    refine PJ.then_ret ?_
    obtain rfl := Option.some.inj hm
    refine PJ.sel (L' := []) [] ⟨List.nodup_nil, rfl⟩ ?_
    exact PJ.retn (vs := [.bool false]) Tryd.results46 ⟨rfl, trivial⟩ ⟨rfl, rfl⟩
  · replace hm := ifF hm hb12
    refine WJ.skip ?_
    refine PJ.next ?_
    obtain ⟨kj13, hk14, hm⟩ := withK_open hm
    refine WJ.join (X := Unit) (fun (_ : Unit) => kj13  = some r) (fun (_ : Unit) => []) (fun (_ : Unit) => []) ?_ ?_
    · clear hk14
      refine WJ.seq ?_
      refine WJ.quiet ?_
      refine QJ.step (YldS.yld (y_assign rfl)) rfl ?_
      refine QJ.done ?_
      refine PJ.next ?_
      refine WJ.block ?_
      refine WJ.sel (L' := (fun (x : Int) => []) 0) [] ⟨List.nodup_nil, rfl⟩ ?_
      refine WJ.sub (m' := (fun (x : Int) => [(0, str s1), (3, .int .i64 x)]) 0) ⟨rfl, rfl, trivial⟩ ?_
      refine WJ.loop (X := Int) (fun N (x : Int) => s_IsName_l1 kj13 s1 N x = some r) (fun (x : Int) => [(0, str s1), (3, .int .i64 x)]) (fun (x : Int) => []) ?_ N 0 hm
      · rintro N i15 hI
        have hm := hI; clear hI
        cases N with
        | zero => cases hm
        | succ N =>
        unfold s_IsName_l1 at hm
        refine WJ.seq ?_
        refine WJ.seq ?_
        refine WJ.quiet ?_
        refine QJ.step (YldS.yld (y_move rfl)) rfl ?_
        refine QJ.step (YldS.yld (y_move rfl)) rfl ?_
        refine QJ.step (YldS.yld (y_lenStr Tryd.runUnderlying9 rfl)) rfl ?_
        refine QJ.step (YldS.yld (y_bin rfl rfl rfl)) rfl ?_
        refine QJ.done ?_
        refine PJ.next ?_
        refine WJ.cond (t := decide (i15 < (List.length s1 : Int))) rfl (fun hb16 => ?_) (fun hb16 => ?_)
        · replace hm := ifT hm hb16
          refine WJ.skip ?_
          refine PJ.next ?_
          refine WJ.seq ?_
          refine WJ.block ?_
          refine WJ.seq ?_
          refine WJ.quiet ?_
          refine QJ.step (YldS.yld (y_move rfl)) rfl ?_
          refine QJ.step (YldS.yld (y_move rfl)) rfl ?_
          obtain ⟨c17, h18, hm⟩ := bindS hm
          refine QJ.step (YldS.yld (y_idxStr Tryd.runUnderlying9 rfl rfl h18)) rfl ?_
          obtain ⟨r19, h20, hm⟩ := bindS hm
          refine QJ.step (y_call Tryd.call53 rfl (RetG.quiet fun w hw => ok_s_l01Small h20 w )) rfl ?_
          refine QJ.step (YldS.yld (y_not rfl)) rfl ?_
          refine QJ.step (YldS.yld (y_move rfl)) rfl ?_
          obtain ⟨t21, h22, hm⟩ := bindS hm
          refine QJ.cut 6 [(0, str s1), (3, .int .i64 i15), (34, .bool t21)] ?_ ?_
          · rcases Bool.eq_false_or_eq_true (!r19) with hb23 | hb23
            · replace h22 := andT h22 hb23
              refine QJ.on rfl rfl (cB hb23) (YldS.yld (y_move rfl)) rfl ?_
              refine QJ.on rfl rfl (cB hb23) (YldS.yld (y_move rfl)) rfl ?_
              obtain ⟨c24, h25, h22⟩ := bindS h22
              refine QJ.on rfl rfl (cB hb23) (YldS.yld (y_idxStr Tryd.runUnderlying9 rfl rfl h25)) rfl ?_
              obtain ⟨r26, h27, h22⟩ := bindS h22
              refine QJ.on rfl rfl (cB hb23) (y_call Tryd.call54 rfl (RetG.quiet fun w hw => ok_s_l01Digit h27 w )) rfl ?_
              refine QJ.on rfl rfl (cB hb23) (YldS.yld (y_not rfl)) rfl ?_
              refine QJ.step (YldS.yld (y_pick_t (cB hb23) rfl)) rfl ?_
              obtain rfl := Option.some.inj h22
              exact QJ.cut_end ⟨rfl, rfl, rfl, trivial⟩
            · obtain rfl := andF h22 hb23
              refine QJ.off rfl rfl (cB hb23) rfl rfl ?_
              refine QJ.off rfl rfl (cB hb23) rfl rfl ?_
              refine QJ.off rfl rfl (cB hb23) rfl rfl ?_
              refine QJ.off rfl rfl (cB hb23) rfl rfl ?_
              refine QJ.off rfl rfl (cB hb23) rfl rfl ?_
              refine QJ.step (YldS.yld (y_pick_f (cB hb23) rfl)) rfl ?_
              exact QJ.cut_end ⟨rfl, rfl, rfl, trivial⟩
          refine QJ.step (YldS.yld (y_move rfl)) rfl ?_
          obtain ⟨t28, h29, hm⟩ := bindS hm
          refine QJ.cut 5 [(0, str s1), (3, .int .i64 i15), (40, .bool t28)] ?_ ?_
          · rcases Bool.eq_false_or_eq_true t21 with hb30 | hb30
            · replace h29 := andT h29 hb30
              refine QJ.on rfl rfl (cB hb30) (YldS.yld (y_move rfl)) rfl ?_
              refine QJ.on rfl rfl (cB hb30) (YldS.yld (y_move rfl)) rfl ?_
              obtain ⟨c31, h32, h29⟩ := bindS h29
              refine QJ.on rfl rfl (cB hb30) (YldS.yld (y_idxStr Tryd.runUnderlying9 rfl rfl h32)) rfl ?_
              refine QJ.on rfl rfl (cB hb30) (YldS.yld (y_bin8 c31 (45 : UInt8) rfl rfl rfl)) rfl ?_
              refine QJ.step (YldS.yld (y_pick_t (cB hb30) rfl)) rfl ?_
              obtain rfl := Option.some.inj h29
              exact QJ.cut_end ⟨rfl, rfl, rfl, trivial⟩
            · obtain rfl := andF h29 hb30
              refine QJ.off rfl rfl (cB hb30) rfl rfl ?_
              refine QJ.off rfl rfl (cB hb30) rfl rfl ?_
              refine QJ.off rfl rfl (cB hb30) rfl rfl ?_
              refine QJ.off rfl rfl (cB hb30) rfl rfl ?_
              refine QJ.step (YldS.yld (y_pick_f (cB hb30) rfl)) rfl ?_
              exact QJ.cut_end ⟨rfl, rfl, rfl, trivial⟩
          refine QJ.done ?_
          refine PJ.next ?_
          refine WJ.cond (t := t28) rfl (fun hb33 => ?_) (fun hb33 => ?_)
          · replace hm := ifT hm hb33
            refine WJ.seq ?_
            refine WJ.quiet ?_
            refine QJ.step (YldS.yld (y_assign rfl)) rfl ?_
            refine QJ.done ?_
            refine PJ.next ?_
            refine WJ.ret ?_
            refine PJ.block_ret (PJ.then_ret (PJ.then_ret (PJ.block_ret (PJ.then_ret ?_))))
            obtain rfl := Option.some.inj hm
            refine PJ.sel (L' := []) [] ⟨List.nodup_nil, rfl⟩ ?_
            exact PJ.retn (vs := [.bool false]) Tryd.results46 ⟨rfl, trivial⟩ ⟨rfl, rfl⟩
          · replace hm := ifF hm hb33
            refine WJ.skip ?_
            refine PJ.block_normal (PJ.next ?_)
            refine WJ.quiet ?_
            refine QJ.step (YldS.yld (y_move rfl)) rfl ?_
            refine QJ.step (YldS.yld (y_bin rfl rfl rfl)) rfl ?_
            refine QJ.step (YldS.yld (y_assign rfl)) rfl ?_
            refine QJ.done ?_
            exact PJ.round (w64 (i15 + 1)) [] hm ⟨rfl, rfl, trivial⟩ ⟨List.nodup_nil, rfl⟩
        · replace hm := ifF hm hb16
          refine WJ.exit ?_
          refine PJ.then_exit (PJ.then_exit (PJ.block_exit ?_))
          exact PJ.joined () [] hm trivial ⟨List.nodup_nil, rfl⟩
    · rintro _ hm
      subst hk14
      refine WJ.seq ?_
      refine WJ.quiet ?_
      refine QJ.step (YldS.yld (y_assign rfl)) rfl ?_
      refine QJ.done ?_
      refine PJ.next ?_
      refine WJ.ret ?_
      obtain rfl := Option.some.inj hm
      refine PJ.sel (L' := []) [] ⟨List.nodup_nil, rfl⟩ ?_
      exact PJ.retn (vs := [.bool true]) Tryd.results46 ⟨rfl, trivial⟩ ⟨rfl, rfl⟩

set_option maxRecDepth 100000 in
set_option maxHeartbeats 1000000 in
theorem ok_s_l00In {n1 : Int} {low2 : Int} {high3 : Int} {r : Bool} (hm : s_l00In n1 low2 high3 = some r) (w : World)  :
    Calls Tryd.prog 29 #[.int .i64 n1, .int .i64 low2, .int .i64 high3] w (Ret (cx w) (.bool r)) := by
  unfold s_l00In at hm
  refine Calls.enter [.int .i64 n1, .int .i64 low2, .int .i64 high3] Tryd.func29 rfl Tryd.ntmps29 rfl ?_
  refine WJ.seq ?_
  refine WJ.quiet ?_
  refine QJ.step (YldS.yld (y_assign rfl)) rfl ?_
  refine QJ.done ?_
  refine PJ.next ?_
  refine WJ.seq ?_
  refine WJ.quiet ?_
  refine QJ.step (YldS.yld (y_move rfl)) rfl ?_
  refine QJ.step (YldS.yld (y_move rfl)) rfl ?_
  refine QJ.step (YldS.yld (y_bin rfl rfl rfl)) rfl ?_
  refine QJ.step (YldS.yld (y_move rfl)) rfl ?_
  obtain ⟨t4, h5, hm⟩ := bindS hm
  refine QJ.cut 4 [(14, .bool t4)] ?_ ?_
  · rcases Bool.eq_false_or_eq_true (decide (n1 ≥ low2)) with hb6 | hb6
    · replace h5 := andT h5 hb6
      refine QJ.on rfl rfl (cB hb6) (YldS.yld (y_move rfl)) rfl ?_
      refine QJ.on rfl rfl (cB hb6) (YldS.yld (y_move rfl)) rfl ?_
      refine QJ.on rfl rfl (cB hb6) (YldS.yld (y_bin rfl rfl rfl)) rfl ?_
      refine QJ.step (YldS.yld (y_pick_t (cB hb6) rfl)) rfl ?_
      obtain rfl := Option.some.inj h5
      exact QJ.cut_end ⟨rfl, trivial⟩
    · obtain rfl := andF h5 hb6
      refine QJ.off rfl rfl (cB hb6) rfl rfl ?_
      refine QJ.off rfl rfl (cB hb6) rfl rfl ?_
      refine QJ.off rfl rfl (cB hb6) rfl rfl ?_
      refine QJ.step (YldS.yld (y_pick_f (cB hb6) rfl)) rfl ?_
      exact QJ.cut_end ⟨rfl, trivial⟩
  refine QJ.step (YldS.yld (y_assign rfl)) rfl ?_
  refine QJ.done ?_
  refine PJ.next ?_
  refine WJ.ret ?_
  obtain rfl := Option.some.inj hm
  refine PJ.sel (L' := []) [] ⟨List.nodup_nil, rfl⟩ ?_
  exact PJ.retn (vs := [.bool t4]) Tryd.results29 ⟨rfl, trivial⟩ ⟨rfl, rfl⟩

set_option maxRecDepth 100000 in
set_option maxHeartbeats 1000000 in
theorem ok_s_l24Many {n1 : Int} {r : Bool} (hm : s_l24Many n1 = some r) (w : World)  :
    Calls Tryd.prog 47 #[.int .i64 n1] w (Ret (cx w) (.bool r)) := by
  unfold s_l24Many at hm
  refine Calls.enter [.int .i64 n1] Tryd.func47 rfl Tryd.ntmps47 rfl ?_
  refine WJ.seq ?_
  refine WJ.quiet ?_
  refine QJ.step (YldS.yld (y_assign rfl)) rfl ?_
  refine QJ.done ?_
  refine PJ.next ?_
  refine WJ.seq ?_
  refine WJ.quiet ?_
  refine QJ.step (YldS.yld (y_move rfl)) rfl ?_
  obtain ⟨r2, h3, hm⟩ := bindS hm
  refine QJ.step (y_call Tryd.call29 rfl (RetG.quiet fun w hw => ok_s_l00In h3 w )) rfl ?_
  refine QJ.step (YldS.yld (y_assign rfl)) rfl ?_
  refine QJ.done ?_
  refine PJ.next ?_
  refine WJ.ret ?_
  obtain rfl := Option.some.inj hm
  refine PJ.sel (L' := []) [] ⟨List.nodup_nil, rfl⟩ ?_
  exact PJ.retn (vs := [.bool r2]) Tryd.results47 ⟨rfl, trivial⟩ ⟨rfl, rfl⟩

set_option maxRecDepth 100000 in
set_option maxHeartbeats 1000000 in
theorem ok_s_l24Ok {N : Nat} {list1 : List SparePart} {r : Bool} (hm : s_l24Ok N list1 = some r) (w : World) (v2 : Value) (hr3 : RdS w (cx w).Fz v2 fSparePart.rp list1) :
    Calls Tryd.prog 28 #[v2] w (Ret (cx w) (.bool r)) := by
  unfold s_l24Ok at hm
  refine Calls.enter [v2] Tryd.func28 rfl Tryd.ntmps28 rfl ?_
  refine WJ.seq ?_
  refine WJ.quiet ?_
  refine QJ.step (YldS.yld (y_assign rfl)) rfl ?_
  refine QJ.done ?_
  refine PJ.next ?_
  refine WJ.seq ?_
  refine WJ.quiet ?_
  refine QJ.step (YldS.yld (y_move rfl)) rfl ?_
  refine QJ.step (YldS.yld (y_lenS Tryd.runUnderlying25 hr3 rfl)) rfl ?_
  refine QJ.step (YldS.yld (y_assign rfl)) rfl ?_
  refine QJ.done ?_
  refine PJ.next ?_
  obtain ⟨kj4, hk5, hm⟩ := withK_open hm
  refine WJ.join (X := Unit) (fun (_ : Unit) => kj4  = some r) (fun (_ : Unit) => [(3, .int .i64 (List.length list1 : Int))]) (fun (_ : Unit) => []) ?_ ?_
  · clear hk5
    refine WJ.seq ?_
    refine WJ.quiet ?_
    refine QJ.step (YldS.yld (y_assign rfl)) rfl ?_
    refine QJ.done ?_
    refine PJ.next ?_
    refine WJ.block ?_
    refine WJ.sel (L' := (fun (x : Int) => []) 0) [] ⟨List.nodup_nil, rfl⟩ ?_
    refine WJ.sub (m' := (fun (x : Int) => [(0, v2), (3, .int .i64 (List.length list1 : Int)), (4, .int .i64 x)]) 0) ⟨rfl, rfl, rfl, trivial⟩ ?_
    refine WJ.loop (X := Int) (fun N (x : Int) => s_l24Ok_l1 kj4 list1 N x = some r) (fun (x : Int) => [(0, v2), (3, .int .i64 (List.length list1 : Int)), (4, .int .i64 x)]) (fun (x : Int) => []) ?_ N 0 hm
    · rintro N i6 hI
      have hm := hI; clear hI
      cases N with
      | zero => cases hm
      | succ N =>
      unfold s_l24Ok_l1 at hm
      refine WJ.seq ?_
      refine WJ.seq ?_
      refine WJ.quiet ?_
      refine QJ.step (YldS.yld (y_move rfl)) rfl ?_
      refine QJ.step (YldS.yld (y_move rfl)) rfl ?_
      refine QJ.step (YldS.yld (y_lenS Tryd.runUnderlying25 hr3 rfl)) rfl ?_
      refine QJ.step (YldS.yld (y_bin rfl rfl rfl)) rfl ?_
      refine QJ.done ?_
      refine PJ.next ?_
      refine WJ.cond (t := decide (i6 < (List.length list1 : Int))) rfl (fun hb7 => ?_) (fun hb7 => ?_)
      · replace hm := ifT hm hb7
        refine WJ.skip ?_
        refine PJ.next ?_
        obtain ⟨kj8, hk9, hm⟩ := withK_open hm
        refine WJ.join (X := Unit) (fun (_ : Unit) => kj8  = some r) (fun (_ : Unit) => [(0, v2), (3, .int .i64 (List.length list1 : Int)), (4, .int .i64 i6)]) (fun (_ : Unit) => []) ?_ ?_
        · clear hk9
          refine WJ.block ?_
          refine WJ.seq ?_
          refine WJ.quiet ?_
          refine QJ.step (YldS.yld (y_move rfl)) rfl ?_
          refine QJ.step (YldS.yld (y_move rfl)) rfl ?_
          obtain ⟨e10, h11, hm⟩ := bindS hm
          obtain ⟨ad12, _, rfl, ha13, hy14⟩ := hr3.elem h11
          refine QJ.step (YldS.yld (hy14 Tryd.runUnderlying25 Tryd.sizeOf46 rfl rfl)) rfl ?_
          refine QJ.step (YldS.yld (y_assign rfl)) rfl ?_
          refine QJ.done ?_
          refine PJ.next ?_
          refine WJ.seq ?_
          refine WJ.seq ?_
          refine WJ.quiet ?_
          refine QJ.step (YldS.yld (y_move rfl)) rfl ?_
          refine QJ.step (YldS.yld (y_nil rfl)) rfl ?_
          refine QJ.step (YldS.yld (y_fld (ad := ad12) fld46_0 rfl)) rfl ?_
          refine QJ.step (YldS.yld (y_load1 (v := str e10.name) Tryd.isAgg9 (ha13.sub 0 1) St.frozenC rfl)) rfl ?_
          obtain ⟨r15, h16, hm⟩ := bindS hm
          refine QJ.step (y_call Tryd.call46 rfl (RetG.quiet fun w hw => ok_s_IsName h16 w )) rfl ?_
          refine QJ.step (YldS.yld (y_not rfl)) rfl ?_
          refine QJ.step (YldS.yld (y_move rfl)) rfl ?_
          obtain ⟨t17, h18, hm⟩ := bindS hm
          refine QJ.cut 7 [(0, v2), (3, .int .i64 (List.length list1 : Int)), (4, .int .i64 i6), (5, .pointer (some ad12)), (33, .bool t17)] ?_ ?_
          · rcases Bool.eq_false_or_eq_true (!r15) with hb19 | hb19
            · obtain rfl := orT h18 hb19
              refine QJ.off rfl rfl (cB hb19) rfl rfl ?_
              refine QJ.off rfl rfl (cB hb19) rfl rfl ?_
              refine QJ.off rfl rfl (cB hb19) rfl rfl ?_
              refine QJ.off rfl rfl (cB hb19) rfl rfl ?_
              refine QJ.off rfl rfl (cB hb19) rfl rfl ?_
              refine QJ.off rfl rfl (cB hb19) rfl rfl ?_
              refine QJ.step (YldS.yld (y_pick_t (cB hb19) rfl)) rfl ?_
              exact QJ.cut_end ⟨rfl, rfl, rfl, rfl, rfl, trivial⟩
            · replace h18 := orF h18 hb19
              refine QJ.on rfl rfl (cB hb19) (YldS.yld (y_move rfl)) rfl ?_
              refine QJ.on rfl rfl (cB hb19) (YldS.yld (y_nil rfl)) rfl ?_
              refine QJ.on rfl rfl (cB hb19) (YldS.yld (y_fld (ad := ad12) fld46_1 rfl)) rfl ?_
              refine QJ.on rfl rfl (cB hb19) (YldS.yld (y_load1 (v := .int .i64 e10.stock) Tryd.isAgg2 (ha13.sub 1 1) St.frozenC rfl)) rfl ?_
              obtain ⟨r20, h21, h18⟩ := bindS h18
              refine QJ.on rfl rfl (cB hb19) (y_call Tryd.call47 rfl (RetG.quiet fun w hw => ok_s_l24Many h21 w )) rfl ?_
              refine QJ.on rfl rfl (cB hb19) (YldS.yld (y_not rfl)) rfl ?_
              refine QJ.step (YldS.yld (y_pick_f (cB hb19) rfl)) rfl ?_
              obtain rfl := Option.some.inj h18
              exact QJ.cut_end ⟨rfl, rfl, rfl, rfl, rfl, trivial⟩
          refine QJ.step (YldS.yld (y_move rfl)) rfl ?_
          obtain ⟨t22, h23, hm⟩ := bindS hm
          refine QJ.cut 7 [(0, v2), (3, .int .i64 (List.length list1 : Int)), (4, .int .i64 i6), (5, .pointer (some ad12)), (41, .bool t22)] ?_ ?_
          · rcases Bool.eq_false_or_eq_true t17 with hb24 | hb24
            · obtain rfl := orT h23 hb24
              refine QJ.off rfl rfl (cB hb24) rfl rfl ?_
              refine QJ.off rfl rfl (cB hb24) rfl rfl ?_
              refine QJ.off rfl rfl (cB hb24) rfl rfl ?_
              refine QJ.off rfl rfl (cB hb24) rfl rfl ?_
              refine QJ.off rfl rfl (cB hb24) rfl rfl ?_
              refine QJ.off rfl rfl (cB hb24) rfl rfl ?_
              refine QJ.step (YldS.yld (y_pick_t (cB hb24) rfl)) rfl ?_
              exact QJ.cut_end ⟨rfl, rfl, rfl, rfl, rfl, trivial⟩
            · replace h23 := orF h23 hb24
              refine QJ.on rfl rfl (cB hb24) (YldS.yld (y_move rfl)) rfl ?_
              refine QJ.on rfl rfl (cB hb24) (YldS.yld (y_nil rfl)) rfl ?_
              refine QJ.on rfl rfl (cB hb24) (YldS.yld (y_fld (ad := ad12) fld46_2 rfl)) rfl ?_
              refine QJ.on rfl rfl (cB hb24) (YldS.yld (y_load1 (v := .int .i64 e10.target) Tryd.isAgg2 (ha13.sub 2 1) St.frozenC rfl)) rfl ?_
              obtain ⟨r25, h26, h23⟩ := bindS h23
              refine QJ.on rfl rfl (cB hb24) (y_call Tryd.call47 rfl (RetG.quiet fun w hw => ok_s_l24Many h26 w )) rfl ?_
              refine QJ.on rfl rfl (cB hb24) (YldS.yld (y_not rfl)) rfl ?_
              refine QJ.step (YldS.yld (y_pick_f (cB hb24) rfl)) rfl ?_
              obtain rfl := Option.some.inj h23
              exact QJ.cut_end ⟨rfl, rfl, rfl, rfl, rfl, trivial⟩
          refine QJ.step (YldS.yld (y_move rfl)) rfl ?_
          obtain ⟨t27, h28, hm⟩ := bindS hm
          refine QJ.cut 7 [(0, v2), (3, .int .i64 (List.length list1 : Int)), (4, .int .i64 i6), (5, .pointer (some ad12)), (49, .bool t27)] ?_ ?_
          · rcases Bool.eq_false_or_eq_true t22 with hb29 | hb29
            · obtain rfl := orT h28 hb29
              refine QJ.off rfl rfl (cB hb29) rfl rfl ?_
              refine QJ.off rfl rfl (cB hb29) rfl rfl ?_
              refine QJ.off rfl rfl (cB hb29) rfl rfl ?_
              refine QJ.off rfl rfl (cB hb29) rfl rfl ?_
              refine QJ.off rfl rfl (cB hb29) rfl rfl ?_
              refine QJ.off rfl rfl (cB hb29) rfl rfl ?_
              refine QJ.step (YldS.yld (y_pick_t (cB hb29) rfl)) rfl ?_
              exact QJ.cut_end ⟨rfl, rfl, rfl, rfl, rfl, trivial⟩
            · replace h28 := orF h28 hb29
              refine QJ.on rfl rfl (cB hb29) (YldS.yld (y_move rfl)) rfl ?_
              refine QJ.on rfl rfl (cB hb29) (YldS.yld (y_nil rfl)) rfl ?_
              refine QJ.on rfl rfl (cB hb29) (YldS.yld (y_fld (ad := ad12) fld46_3 rfl)) rfl ?_
              refine QJ.on rfl rfl (cB hb29) (YldS.yld (y_load1 (v := .int .i64 e10.days) Tryd.isAgg2 (ha13.sub 3 1) St.frozenC rfl)) rfl ?_
              obtain ⟨r30, h31, h28⟩ := bindS h28
              refine QJ.on rfl rfl (cB hb29) (y_call Tryd.call29 rfl (RetG.quiet fun w hw => ok_s_l00In h31 w )) rfl ?_
              refine QJ.on rfl rfl (cB hb29) (YldS.yld (y_not rfl)) rfl ?_
              refine QJ.step (YldS.yld (y_pick_f (cB hb29) rfl)) rfl ?_
              obtain rfl := Option.some.inj h28
              exact QJ.cut_end ⟨rfl, rfl, rfl, rfl, rfl, trivial⟩
          refine QJ.step (YldS.yld (y_move rfl)) rfl ?_
          obtain ⟨t32, h33, hm⟩ := bindS hm
          refine QJ.cut 9 [(0, v2), (3, .int .i64 (List.length list1 : Int)), (4, .int .i64 i6), (5, .pointer (some ad12)), (59, .bool t32)] ?_ ?_
          · rcases Bool.eq_false_or_eq_true t27 with hb34 | hb34
            · obtain rfl := orT h33 hb34
              refine QJ.off rfl rfl (cB hb34) rfl rfl ?_
              refine QJ.off rfl rfl (cB hb34) rfl rfl ?_
              refine QJ.off rfl rfl (cB hb34) rfl rfl ?_
              refine QJ.off rfl rfl (cB hb34) rfl rfl ?_
              refine QJ.off rfl rfl (cB hb34) rfl rfl ?_
              refine QJ.off rfl rfl (cB hb34) rfl rfl ?_
              refine QJ.off rfl rfl (cB hb34) rfl rfl ?_
              refine QJ.off rfl rfl (cB hb34) rfl rfl ?_
              refine QJ.step (YldS.yld (y_pick_t (cB hb34) rfl)) rfl ?_
              exact QJ.cut_end ⟨rfl, rfl, rfl, rfl, rfl, trivial⟩
            · replace h33 := orF h33 hb34
              refine QJ.on rfl rfl (cB hb34) (YldS.yld (y_move rfl)) rfl ?_
              refine QJ.on rfl rfl (cB hb34) (YldS.yld (y_nil rfl)) rfl ?_
              refine QJ.on rfl rfl (cB hb34) (YldS.yld (y_fld (ad := ad12) fld46_4 rfl)) rfl ?_
              refine QJ.on rfl rfl (cB hb34) (YldS.yld (y_load1 (v := .int .i64 e10.instead) Tryd.isAgg2 (ha13.sub 4 1) St.frozenC rfl)) rfl ?_
              refine QJ.on rfl rfl (cB hb34) (YldS.yld (y_move rfl)) rfl ?_
              refine QJ.on rfl rfl (cB hb34) (YldS.yld (y_bin rfl rfl rfl)) rfl ?_
              obtain ⟨r35, h36, h33⟩ := bindS h33
              refine QJ.on rfl rfl (cB hb34) (y_call Tryd.call29 rfl (RetG.quiet fun w hw => ok_s_l00In h36 w )) rfl ?_
              refine QJ.on rfl rfl (cB hb34) (YldS.yld (y_not rfl)) rfl ?_
              refine QJ.step (YldS.yld (y_pick_f (cB hb34) rfl)) rfl ?_
              obtain rfl := Option.some.inj h33
              exact QJ.cut_end ⟨rfl, rfl, rfl, rfl, rfl, trivial⟩
          refine QJ.done ?_
          refine PJ.next ?_
          refine WJ.cond (t := t32) rfl (fun hb37 => ?_) (fun hb37 => ?_)
          · replace hm := ifT hm hb37
            refine WJ.seq ?_
            refine WJ.quiet ?_
            refine QJ.step (YldS.yld (y_assign rfl)) rfl ?_
            refine QJ.done ?_
            refine PJ.next ?_
            refine WJ.ret ?_
            refine PJ.then_ret (PJ.block_ret (PJ.then_ret (PJ.then_ret (PJ.block_ret (PJ.then_ret ?_)))))
            obtain rfl := Option.some.inj hm
            refine PJ.sel (L' := []) [] ⟨List.nodup_nil, rfl⟩ ?_
            exact PJ.retn (vs := [.bool false]) Tryd.results28 ⟨rfl, trivial⟩ ⟨rfl, rfl⟩
          · replace hm := ifF hm hb37
            refine WJ.skip ?_
            refine PJ.next ?_
            obtain ⟨kj38, hk39, hm⟩ := withK_open hm
            refine WJ.join (X := Unit) (fun (_ : Unit) => kj38  = some r) (fun (_ : Unit) => [(0, v2), (3, .int .i64 (List.length list1 : Int)), (4, .int .i64 i6), (5, .pointer (some ad12))]) (fun (_ : Unit) => []) ?_ ?_
            · clear hk39
              refine WJ.seq ?_
              refine WJ.quiet ?_
              refine QJ.step (YldS.yld (y_assign rfl)) rfl ?_
              refine QJ.done ?_
              refine PJ.next ?_
              refine WJ.block ?_
              refine WJ.sel (L' := (fun (x : Int) => []) 0) [] ⟨List.nodup_nil, rfl⟩ ?_
              refine WJ.sub (m' := (fun (x : Int) => [(0, v2), (3, .int .i64 (List.length list1 : Int)), (4, .int .i64 i6), (5, .pointer (some ad12)), (6, .int .i64 x)]) 0) ⟨rfl, rfl, rfl, rfl, rfl, trivial⟩ ?_
              refine WJ.loop (X := Int) (fun N (x : Int) => s_l24Ok_l2 kj38 list1 i6 e10 N x = some r) (fun (x : Int) => [(0, v2), (3, .int .i64 (List.length list1 : Int)), (4, .int .i64 i6), (5, .pointer (some ad12)), (6, .int .i64 x)]) (fun (x : Int) => []) ?_ N 0 hm
              · rintro N k40 hI
                have hm := hI; clear hI
                cases N with
                | zero => cases hm
                | succ N =>
                unfold s_l24Ok_l2 at hm
                refine WJ.seq ?_
                refine WJ.seq ?_
                refine WJ.quiet ?_
                refine QJ.step (YldS.yld (y_move rfl)) rfl ?_
                refine QJ.step (YldS.yld (y_move rfl)) rfl ?_
                refine QJ.step (YldS.yld (y_bin rfl rfl rfl)) rfl ?_
                refine QJ.done ?_
                refine PJ.next ?_
                refine WJ.cond (t := decide (k40 < i6)) rfl (fun hb41 => ?_) (fun hb41 => ?_)
                · replace hm := ifT hm hb41
                  refine WJ.skip ?_
                  refine PJ.next ?_
                  refine WJ.seq ?_
                  refine WJ.block ?_
                  refine WJ.seq ?_
                  refine WJ.quiet_draw follows (by kernel_rfl) ?_
                  refine QJ.step (YldS.yld (y_move rfl)) rfl ?_
                  refine QJ.step (YldS.yld (y_move rfl)) rfl ?_
                  obtain ⟨e42, h43, hm⟩ := bindS hm
                  obtain ⟨ad44, _, rfl, ha45, hy46⟩ := hr3.elem h43
                  refine QJ.step (YldS.yld (hy46 Tryd.runUnderlying25 Tryd.sizeOf46 rfl rfl)) rfl ?_
                  refine QJ.step (YldS.yld (y_fld (ad := ad44) fld46_0 rfl)) rfl ?_
                  refine QJ.step (YldS.yld (y_load1 (v := str e42.name) Tryd.isAgg9 (ha45.sub 0 1) St.frozenC rfl)) rfl ?_
                  refine QJ.step (YldS.yld (y_move rfl)) rfl ?_
                  refine QJ.step (YldS.yld (y_nil rfl)) rfl ?_
                  refine QJ.step (YldS.yld (y_fld (ad := ad12) fld46_0 rfl)) rfl ?_
                  refine QJ.step (YldS.yld (y_load1 (v := str e10.name) Tryd.isAgg9 (ha13.sub 0 1) St.frozenC rfl)) rfl ?_
                  refine QJ.step (YldS.yld (y_binS rfl rfl rfl)) rfl ?_
                  refine QJ.done ?_
                  refine PJ.next ?_
                  refine WJ.cond (t := (e42.name == e10.name)) rfl (fun hb47 => ?_) (fun hb47 => ?_)
                  · replace hm := ifT hm hb47
                    refine WJ.seq ?_
                    refine WJ.quiet ?_
                    refine QJ.step (YldS.yld (y_assign rfl)) rfl ?_
                    refine QJ.done ?_
                    refine PJ.next ?_
                    refine WJ.ret ?_
                    refine PJ.block_ret (PJ.then_ret (PJ.then_ret (PJ.block_ret (PJ.then_ret (PJ.block_ret (PJ.then_ret (PJ.then_ret (PJ.block_ret (PJ.then_ret ?_)))))))))
                    obtain rfl := Option.some.inj hm
                    refine PJ.sel (L' := []) [] ⟨List.nodup_nil, rfl⟩ ?_
                    exact PJ.retn (vs := [.bool false]) Tryd.results28 ⟨rfl, trivial⟩ ⟨rfl, rfl⟩
                  · replace hm := ifF hm hb47
                    refine WJ.skip ?_
                    refine PJ.block_normal (PJ.next ?_)
                    refine WJ.quiet ?_
                    refine QJ.step (YldS.yld (y_move rfl)) rfl ?_
                    refine QJ.step (YldS.yld (y_bin rfl rfl rfl)) rfl ?_
                    refine QJ.step (YldS.yld (y_assign rfl)) rfl ?_
                    refine QJ.done ?_
                    exact PJ.round (w64 (k40 + 1)) [] hm ⟨rfl, rfl, rfl, rfl, rfl, trivial⟩ ⟨List.nodup_nil, rfl⟩
                · replace hm := ifF hm hb41
                  refine WJ.exit ?_
                  refine PJ.then_exit (PJ.then_exit (PJ.block_exit ?_))
                  exact PJ.joined () [] hm ⟨rfl, rfl, rfl, rfl, trivial⟩ ⟨List.nodup_nil, rfl⟩
            · rintro _ hm
              subst hk39
              refine WJ.seq ?_
              refine WJ.quiet ?_
              refine QJ.step (YldS.yld (y_move rfl)) rfl ?_
              refine QJ.step (YldS.yld (y_nil rfl)) rfl ?_
              refine QJ.step (YldS.yld (y_fld (ad := ad12) fld46_4 rfl)) rfl ?_
              refine QJ.step (YldS.yld (y_load1 (v := .int .i64 e10.instead) Tryd.isAgg2 (ha13.sub 4 1) St.frozenC rfl)) rfl ?_
              refine QJ.step (YldS.yld (y_assign rfl)) rfl ?_
              refine QJ.done ?_
              refine PJ.next ?_
              refine WJ.seq ?_
              refine WJ.quiet ?_
              refine QJ.step (YldS.yld (y_assign rfl)) rfl ?_
              refine QJ.done ?_
              refine PJ.next ?_
              refine WJ.block ?_
              refine WJ.sel (L' := (fun (x : Int × Int) => []) (e10.instead, 0)) [] ⟨List.nodup_nil, rfl⟩ ?_
              refine WJ.sub (m' := (fun (x : Int × Int) => [(0, v2), (3, .int .i64 (List.length list1 : Int)), (4, .int .i64 i6), (7, .int .i64 x.1), (8, .int .i64 x.2)]) (e10.instead, 0)) ⟨rfl, rfl, rfl, rfl, rfl, trivial⟩ ?_
              refine WJ.loop (X := Int × Int) (fun N (x : Int × Int) => s_l24Ok_l3 kj8 list1 N x.1 x.2 = some r) (fun (x : Int × Int) => [(0, v2), (3, .int .i64 (List.length list1 : Int)), (4, .int .i64 i6), (7, .int .i64 x.1), (8, .int .i64 x.2)]) (fun (x : Int × Int) => []) ?_ N (e10.instead, 0) hm
              · rintro N ⟨at48, steps49⟩ hI
                have hm := hI; clear hI
                cases N with
                | zero => cases hm
                | succ N =>
                unfold s_l24Ok_l3 at hm
                refine WJ.seq ?_
                refine WJ.seq ?_
                refine WJ.quiet ?_
                refine QJ.step (YldS.yld (y_move rfl)) rfl ?_
                refine QJ.step (YldS.yld (y_bin rfl rfl rfl)) rfl ?_
                refine QJ.done ?_
                refine PJ.next ?_
                refine WJ.cond (t := decide (at48 ≥ 0)) rfl (fun hb50 => ?_) (fun hb50 => ?_)
                · replace hm := ifT hm hb50
                  refine WJ.skip ?_
                  refine PJ.next ?_
                  refine WJ.seq ?_
                  refine WJ.block ?_
                  refine WJ.seq ?_
                  refine WJ.seq ?_
                  refine WJ.quiet ?_
                  refine QJ.step (YldS.yld (y_move rfl)) rfl ?_
                  refine QJ.step (YldS.yld (y_move rfl)) rfl ?_
                  refine QJ.step (YldS.yld (y_bin rfl rfl rfl)) rfl ?_
                  refine QJ.step (YldS.yld (y_move rfl)) rfl ?_
                  obtain ⟨t51, h52, hm⟩ := bindS hm
                  refine QJ.cut 6 [(0, v2), (3, .int .i64 (List.length list1 : Int)), (4, .int .i64 i6), (7, .int .i64 at48), (8, .int .i64 steps49), (92, .bool t51)] ?_ ?_
                  · rcases Bool.eq_false_or_eq_true (decide (steps49 > (List.length list1 : Int))) with hb53 | hb53
                    · obtain rfl := orT h52 hb53
                      refine QJ.off rfl rfl (cB hb53) rfl rfl ?_
                      refine QJ.off rfl rfl (cB hb53) rfl rfl ?_
                      refine QJ.off rfl rfl (cB hb53) rfl rfl ?_
                      refine QJ.off rfl rfl (cB hb53) rfl rfl ?_
                      refine QJ.off rfl rfl (cB hb53) rfl rfl ?_
                      refine QJ.step (YldS.yld (y_pick_t (cB hb53) rfl)) rfl ?_
                      exact QJ.cut_end ⟨rfl, rfl, rfl, rfl, rfl, rfl, trivial⟩
                    · replace h52 := orF h52 hb53
                      refine QJ.on rfl rfl (cB hb53) (YldS.yld (y_move rfl)) rfl ?_
                      refine QJ.on rfl rfl (cB hb53) (YldS.yld (y_move rfl)) rfl ?_
                      refine QJ.on rfl rfl (cB hb53) (YldS.yld (y_bin rfl rfl rfl)) rfl ?_
                      obtain ⟨r54, h55, h52⟩ := bindS h52
                      refine QJ.on rfl rfl (cB hb53) (y_call Tryd.call29 rfl (RetG.quiet fun w hw => ok_s_l00In h55 w )) rfl ?_
                      refine QJ.on rfl rfl (cB hb53) (YldS.yld (y_not rfl)) rfl ?_
                      refine QJ.step (YldS.yld (y_pick_f (cB hb53) rfl)) rfl ?_
                      obtain rfl := Option.some.inj h52
                      exact QJ.cut_end ⟨rfl, rfl, rfl, rfl, rfl, rfl, trivial⟩
                  refine QJ.done ?_
                  refine PJ.next ?_
                  refine WJ.cond (t := t51) rfl (fun hb56 => ?_) (fun hb56 => ?_)
                  · replace hm := ifT hm hb56
                    refine WJ.seq ?_
                    refine WJ.quiet ?_
                    refine QJ.step (YldS.yld (y_assign rfl)) rfl ?_
                    refine QJ.done ?_
                    refine PJ.next ?_
                    refine WJ.ret ?_
                    refine PJ.then_ret (PJ.block_ret (PJ.then_ret (PJ.then_ret (PJ.block_ret (PJ.block_ret (PJ.then_ret (PJ.then_ret (PJ.block_ret (PJ.then_ret ?_)))))))))
                    obtain rfl := Option.some.inj hm
                    refine PJ.sel (L' := []) [] ⟨List.nodup_nil, rfl⟩ ?_
                    exact PJ.retn (vs := [.bool false]) Tryd.results28 ⟨rfl, trivial⟩ ⟨rfl, rfl⟩
                  · replace hm := ifF hm hb56
                    refine WJ.skip ?_
                    refine PJ.next ?_
                    refine WJ.quiet ?_
                    refine QJ.step (YldS.yld (y_move rfl)) rfl ?_
                    refine QJ.step (YldS.yld (y_move rfl)) rfl ?_
                    obtain ⟨e57, h58, hm⟩ := bindS hm
                    obtain ⟨ad59, _, rfl, ha60, hy61⟩ := hr3.elem h58
                    refine QJ.step (YldS.yld (hy61 Tryd.runUnderlying25 Tryd.sizeOf46 rfl rfl)) rfl ?_
                    refine QJ.step (YldS.yld (y_fld (ad := ad59) fld46_4 rfl)) rfl ?_
                    refine QJ.step (YldS.yld (y_load1 (v := .int .i64 e57.instead) Tryd.isAgg2 (ha60.sub 4 1) St.frozenC rfl)) rfl ?_
                    refine QJ.step (YldS.yld (y_assign rfl)) rfl ?_
                    refine QJ.done ?_
                    refine PJ.block_normal (PJ.next ?_)
                    refine WJ.quiet ?_
                    refine QJ.step (YldS.yld (y_move rfl)) rfl ?_
                    refine QJ.step (YldS.yld (y_bin rfl rfl rfl)) rfl ?_
                    refine QJ.step (YldS.yld (y_assign rfl)) rfl ?_
                    refine QJ.done ?_
                    exact PJ.round (e57.instead, w64 (steps49 + 1)) [] hm ⟨rfl, rfl, rfl, rfl, rfl, trivial⟩ ⟨List.nodup_nil, rfl⟩
                · replace hm := ifF hm hb50
                  refine WJ.exit ?_
                  refine PJ.then_exit (PJ.then_exit (PJ.block_exit (PJ.block_normal ?_)))
                  exact PJ.joined () [] hm ⟨rfl, rfl, rfl, trivial⟩ ⟨List.nodup_nil, rfl⟩
        · rintro _ hm
          subst hk9
          refine WJ.quiet ?_
          refine QJ.step (YldS.yld (y_move rfl)) rfl ?_
          refine QJ.step (YldS.yld (y_bin rfl rfl rfl)) rfl ?_
          refine QJ.step (YldS.yld (y_assign rfl)) rfl ?_
          refine QJ.done ?_
          exact PJ.round (w64 (i6 + 1)) [] hm ⟨rfl, rfl, rfl, trivial⟩ ⟨List.nodup_nil, rfl⟩
      · replace hm := ifF hm hb7
        refine WJ.exit ?_
        refine PJ.then_exit (PJ.then_exit (PJ.block_exit ?_))
        exact PJ.joined () [] hm ⟨rfl, trivial⟩ ⟨List.nodup_nil, rfl⟩
  · rintro _ hm
    subst hk5
    refine WJ.seq ?_
    refine WJ.quiet ?_
    refine QJ.step (YldS.yld (y_move rfl)) rfl ?_
    refine QJ.step (YldS.yld (y_bin rfl rfl rfl)) rfl ?_
    refine QJ.step (YldS.yld (y_assign rfl)) rfl ?_
    refine QJ.done ?_
    refine PJ.next ?_
    refine WJ.ret ?_
    obtain rfl := Option.some.inj hm
    refine PJ.sel (L' := []) [] ⟨List.nodup_nil, rfl⟩ ?_
    exact PJ.retn (vs := [.bool (decide ((List.length list1 : Int) ≤ 40))]) Tryd.results28 ⟨rfl, trivial⟩ ⟨rfl, rfl⟩

set_option maxRecDepth 100000 in
set_option maxHeartbeats 1000000 in
theorem ok_s_l24Code {N : Nat} {list1 : List SparePart} {k4 : Int} {many5 : Int} {r : Int} (hm : s_l24Code N list1 k4 many5 = some r) (w : World) (v2 : Value) (hr3 : RdS w (cx w).Fz v2 fSparePart.rp list1) :
    Calls Tryd.prog 36 #[v2, .int .i64 k4, .int .i64 many5] w (Ret (cx w) (.int .i64 r)) := by
  unfold s_l24Code at hm
  refine Calls.enter [v2, .int .i64 k4, .int .i64 many5] Tryd.func36 rfl Tryd.ntmps36 rfl ?_
  refine WJ.seq ?_
  refine WJ.quiet ?_
  refine QJ.step (YldS.yld (y_assign rfl)) rfl ?_
  refine QJ.done ?_
  refine PJ.next ?_
  refine WJ.seq ?_
  refine WJ.seq ?_
  refine WJ.quiet ?_
  refine QJ.step (YldS.yld (y_move rfl)) rfl ?_
  obtain ⟨r6, h7, hm⟩ := bindS hm
  refine QJ.step (y_call Tryd.call28 rfl (RetG.quiet fun w hw => ok_s_l24Ok h7 w _ (hr3.st hw))) rfl ?_
  refine QJ.step (YldS.yld (y_not rfl)) rfl ?_
  refine QJ.done ?_
  refine PJ.next ?_
  refine WJ.cond (t := !r6) rfl (fun hb8 => ?_) (fun hb8 => ?_)
  · replace hm := ifT hm hb8
    refine WJ.seq ?_
    refine WJ.quiet ?_
    refine QJ.step (YldS.yld (y_assign rfl)) rfl ?_
    refine QJ.done ?_
    refine PJ.next ?_
    refine WJ.ret ?_
    refine PJ.then_ret ?_
    obtain rfl := Option.some.inj hm
    refine PJ.sel (L' := []) [] ⟨List.nodup_nil, rfl⟩ ?_
    exact PJ.retn (vs := [.int .i64 1]) Tryd.results36 ⟨rfl, trivial⟩ ⟨rfl, rfl⟩
  · replace hm := ifF hm hb8
    refine WJ.skip ?_
    refine PJ.next ?_
    refine WJ.seq ?_
    refine WJ.seq ?_
    refine WJ.quiet ?_
    refine QJ.step (YldS.yld (y_move rfl)) rfl ?_
    refine QJ.step (YldS.yld (y_move rfl)) rfl ?_
    refine QJ.step (YldS.yld (y_lenS Tryd.runUnderlying25 hr3 rfl)) rfl ?_
    refine QJ.step (YldS.yld (y_bin rfl rfl rfl)) rfl ?_
    obtain ⟨r9, h10, hm⟩ := bindS hm
    refine QJ.step (y_call Tryd.call29 rfl (RetG.quiet fun w hw => ok_s_l00In h10 w )) rfl ?_
    refine QJ.step (YldS.yld (y_not rfl)) rfl ?_
    refine QJ.step (YldS.yld (y_move rfl)) rfl ?_
    obtain ⟨t11, h12, hm⟩ := bindS hm
    refine QJ.cut 4 [(20, .bool t11)] ?_ ?_
    · rcases Bool.eq_false_or_eq_true (!r9) with hb13 | hb13
      · obtain rfl := orT h12 hb13
        refine QJ.off rfl rfl (cB hb13) rfl rfl ?_
        refine QJ.off rfl rfl (cB hb13) rfl rfl ?_
        refine QJ.off rfl rfl (cB hb13) rfl rfl ?_
        refine QJ.step (YldS.yld (y_pick_t (cB hb13) rfl)) rfl ?_
        exact QJ.cut_end ⟨rfl, trivial⟩
      · replace h12 := orF h12 hb13
        refine QJ.on rfl rfl (cB hb13) (YldS.yld (y_move rfl)) rfl ?_
        obtain ⟨r14, h15, h12⟩ := bindS h12
        refine QJ.on rfl rfl (cB hb13) (y_call Tryd.call29 rfl (RetG.quiet fun w hw => ok_s_l00In h15 w )) rfl ?_
        refine QJ.on rfl rfl (cB hb13) (YldS.yld (y_not rfl)) rfl ?_
        refine QJ.step (YldS.yld (y_pick_f (cB hb13) rfl)) rfl ?_
        obtain rfl := Option.some.inj h12
        exact QJ.cut_end ⟨rfl, trivial⟩
    refine QJ.done ?_
    refine PJ.next ?_
    refine WJ.cond (t := t11) rfl (fun hb16 => ?_) (fun hb16 => ?_)
    · replace hm := ifT hm hb16
      refine WJ.seq ?_
      refine WJ.quiet ?_
      refine QJ.step (YldS.yld (y_assign rfl)) rfl ?_
      refine QJ.done ?_
      refine PJ.next ?_
      refine WJ.ret ?_
      refine PJ.then_ret ?_
      obtain rfl := Option.some.inj hm
      refine PJ.sel (L' := []) [] ⟨List.nodup_nil, rfl⟩ ?_
      exact PJ.retn (vs := [.int .i64 2]) Tryd.results36 ⟨rfl, trivial⟩ ⟨rfl, rfl⟩
    · replace hm := ifF hm hb16
      refine WJ.skip ?_
      refine PJ.next ?_
      refine WJ.seq ?_
      refine WJ.quiet ?_
      refine QJ.step (YldS.yld (y_assign rfl)) rfl ?_
      refine QJ.done ?_
      refine PJ.next ?_
      refine WJ.ret ?_
      obtain rfl := Option.some.inj hm
      refine PJ.sel (L' := []) [] ⟨List.nodup_nil, rfl⟩ ?_
      exact PJ.retn (vs := [.int .i64 0]) Tryd.results36 ⟨rfl, trivial⟩ ⟨rfl, rfl⟩

set_option maxRecDepth 100000 in
set_option maxHeartbeats 1000000 in
theorem ok_s_l24Use {N : Nat} {list1 : List SparePart} {k4 : Int} {many5 : Int} {r : Int} (hm : s_l24Use N list1 k4 many5 = some r) (w : World) (v2 : Value) (hr3 : RdS w (cx w).Fz v2 fSparePart.rp list1) :
    Calls Tryd.prog 37 #[v2, .int .i64 k4, .int .i64 many5] w (Ret (cx w) (.int .i64 r)) := by
  unfold s_l24Use at hm
  refine Calls.enter [v2, .int .i64 k4, .int .i64 many5] Tryd.func37 rfl Tryd.ntmps37 rfl ?_
  refine WJ.seq ?_
  refine WJ.quiet ?_
  refine QJ.step (YldS.yld (y_assign rfl)) rfl ?_
  refine QJ.done ?_
  refine PJ.next ?_
  obtain ⟨kj7, hk8, hm⟩ := withK_open hm
  refine WJ.join (X := Int) (fun (x : Int) => kj7 x = some r) (fun (x : Int) => [(1, .int .i64 x)]) (fun (x : Int) => []) ?_ ?_
  · clear hk8
    refine WJ.block ?_
    refine WJ.sel (L' := (fun (x : Int) => []) k4) [] ⟨List.nodup_nil, rfl⟩ ?_
    refine WJ.sub (m' := (fun (x : Int) => [(0, v2), (1, .int .i64 x), (2, .int .i64 many5)]) k4) ⟨rfl, rfl, rfl, trivial⟩ ?_
    refine WJ.loop (X := Int) (fun N (x : Int) => s_l24Use_l1 kj7 list1 many5 N x = some r) (fun (x : Int) => [(0, v2), (1, .int .i64 x), (2, .int .i64 many5)]) (fun (x : Int) => []) ?_ N k4 hm
    · rintro N k9 hI
      have hm := hI; clear hI
      cases N with
      | zero => cases hm
      | succ N =>
      unfold s_l24Use_l1 at hm
      refine WJ.seq ?_
      refine WJ.seq ?_
      refine WJ.quiet ?_
      refine QJ.step (YldS.yld (y_move rfl)) rfl ?_
      refine QJ.step (YldS.yld (y_bin rfl rfl rfl)) rfl ?_
      refine QJ.step (YldS.yld (y_move rfl)) rfl ?_
      obtain ⟨t10, h11, hm⟩ := bindS hm
      refine QJ.cut 8 [(0, v2), (1, .int .i64 k9), (2, .int .i64 many5), (17, .bool t10)] ?_ ?_
      · rcases Bool.eq_false_or_eq_true (decide (k9 ≥ 0)) with hb12 | hb12
        · replace h11 := andT h11 hb12
          refine QJ.on rfl rfl (cB hb12) (YldS.yld (y_move rfl)) rfl ?_
          refine QJ.on rfl rfl (cB hb12) (YldS.yld (y_move rfl)) rfl ?_
          obtain ⟨e13, h14, h11⟩ := bindS h11
          obtain ⟨ad15, _, rfl, ha16, hy17⟩ := hr3.elem h14
          refine QJ.on rfl rfl (cB hb12) (YldS.yld (hy17 Tryd.runUnderlying25 Tryd.sizeOf46 rfl rfl)) rfl ?_
          refine QJ.on rfl rfl (cB hb12) (YldS.yld (y_fld (ad := ad15) fld46_1 rfl)) rfl ?_
          refine QJ.on rfl rfl (cB hb12) (YldS.yld (y_load1 (v := .int .i64 e13.stock) Tryd.isAgg2 (ha16.sub 1 1) St.frozenC rfl)) rfl ?_
          refine QJ.on rfl rfl (cB hb12) (YldS.yld (y_move rfl)) rfl ?_
          refine QJ.on rfl rfl (cB hb12) (YldS.yld (y_bin rfl rfl rfl)) rfl ?_
          refine QJ.step (YldS.yld (y_pick_t (cB hb12) rfl)) rfl ?_
          obtain rfl := Option.some.inj h11
          exact QJ.cut_end ⟨rfl, rfl, rfl, rfl, trivial⟩
        · obtain rfl := andF h11 hb12
          refine QJ.off rfl rfl (cB hb12) rfl rfl ?_
          refine QJ.off rfl rfl (cB hb12) rfl rfl ?_
          refine QJ.off rfl rfl (cB hb12) rfl rfl ?_
          refine QJ.off rfl rfl (cB hb12) rfl rfl ?_
          refine QJ.off rfl rfl (cB hb12) rfl rfl ?_
          refine QJ.off rfl rfl (cB hb12) rfl rfl ?_
          refine QJ.off rfl rfl (cB hb12) rfl rfl ?_
          refine QJ.step (YldS.yld (y_pick_f (cB hb12) rfl)) rfl ?_
          exact QJ.cut_end ⟨rfl, rfl, rfl, rfl, trivial⟩
      refine QJ.done ?_
      refine PJ.next ?_
      refine WJ.cond (t := t10) rfl (fun hb18 => ?_) (fun hb18 => ?_)
      · replace hm := ifT hm hb18
        refine WJ.skip ?_
        refine PJ.next ?_
        refine WJ.block ?_
        refine WJ.quiet ?_
        refine QJ.step (YldS.yld (y_move rfl)) rfl ?_
        refine QJ.step (YldS.yld (y_move rfl)) rfl ?_
        obtain ⟨e19, h20, hm⟩ := bindS hm
        obtain ⟨ad21, _, rfl, ha22, hy23⟩ := hr3.elem h20
        refine QJ.step (YldS.yld (hy23 Tryd.runUnderlying25 Tryd.sizeOf46 rfl rfl)) rfl ?_
        refine QJ.step (YldS.yld (y_fld (ad := ad21) fld46_4 rfl)) rfl ?_
        refine QJ.step (YldS.yld (y_load1 (v := .int .i64 e19.instead) Tryd.isAgg2 (ha22.sub 4 1) St.frozenC rfl)) rfl ?_
        refine QJ.step (YldS.yld (y_assign rfl)) rfl ?_
        refine QJ.done ?_
        refine PJ.block_normal ?_
        exact PJ.round e19.instead [] hm ⟨rfl, rfl, rfl, trivial⟩ ⟨List.nodup_nil, rfl⟩
      · replace hm := ifF hm hb18
        refine WJ.exit ?_
        refine PJ.then_exit (PJ.then_exit (PJ.block_exit ?_))
        exact PJ.joined k9 [] hm ⟨rfl, trivial⟩ ⟨List.nodup_nil, rfl⟩
  · rintro k6 hm
    subst hk8
    refine WJ.seq ?_
    refine WJ.quiet ?_
    refine QJ.step (YldS.yld (y_move rfl)) rfl ?_
    refine QJ.step (YldS.yld (y_assign rfl)) rfl ?_
    refine QJ.done ?_
    refine PJ.next ?_
    refine WJ.ret ?_
    obtain rfl := Option.some.inj hm
    refine PJ.sel (L' := []) [] ⟨List.nodup_nil, rfl⟩ ?_
    exact PJ.retn (vs := [.int .i64 k6]) Tryd.results37 ⟨rfl, trivial⟩ ⟨rfl, rfl⟩

set_option maxRecDepth 100000 in
set_option maxHeartbeats 1000000 in
theorem ok_s_l24Add {list1 : List SparePart} {k4 : Int} {many5 : Int} {r : (List SparePart)} (hm : s_l24Add list1 k4 many5 = some r) (w : World) (v2 : Value) (hr3 : RdS w (cx w).Fz v2 fSparePart.rp list1) :
    Calls Tryd.prog 38 #[v2, .int .i64 k4, .int .i64 many5] w (RetG (cx w) fun u L => ∃ (u1 : Value), (u = u1 ∧ L = [row u1 46 fSparePart r])) := by
  unfold s_l24Add at hm
  refine Calls.enter [v2, .int .i64 k4, .int .i64 many5] Tryd.func38 rfl Tryd.ntmps38 rfl ?_
  refine WJ.seq ?_
  refine WJ.quiet ?_
  refine QJ.step (YldS.yld (y_assign rfl)) rfl ?_
  refine QJ.done ?_
  refine PJ.next ?_
  refine WJ.seq ?_
  refine WJ.reg ?_
  refine SJ.buildSlice (R := fSparePart) (os := []) [] Tryd.runUnderlying25 Tryd.sizeOf46 Tryd.zeroValue46 rfl rfl rfl rfl rfl rfl fun v6 => ?_
  refine SJ.q (YldS.yld (y_move rfl)) rfl ?_
  obtain ⟨l7, h8, hm⟩ := bindS hm
  refine SJ.append (k := 0) (R := fSparePart) h8 rfl Tryd.underlying25 el46 rfl rfl rfl (fun w hw => (hr3.st hw)) rfl fun v9 => ?_
  refine SJ.q (YldS.yld (y_assign rfl)) rfl ?_
  refine SJ.nil ?_
  refine PJ.next ?_
  refine WJ.seq ?_
  refine WJ.reg ?_
  refine SJ.q (YldS.yld (y_move rfl)) rfl ?_
  refine SJ.q (YldS.yld (y_move rfl)) rfl ?_
  obtain ⟨e10, h11, hm⟩ := bindS hm
  refine SJ.q (YldS.yld (y_ixRow (k := 0) (R := fSparePart) rfl Tryd.runUnderlying25 Tryd.sizeOf46 rfl rfl h11)) rfl ?_
  refine SJ.q (YldS.yld (y_loadRN (k := 0) (i := (Int.toNat k4)) (off := 0) (us := [str e10.name, .int .i64 e10.stock, .int .i64 e10.target, .int .i64 e10.days, .int .i64 e10.instead]) rfl Tryd.isAgg46 Tryd.sizeOf46 rfl (idx_get h11) rfl)) rfl ?_
  refine SJ.alloc (cs := [str [], .int .i64 0, .int .i64 0, .int .i64 0, .int .i64 0]) Tryd.zeroValue46 rfl rfl fun g12 => ?_
  refine SJ.storeL (k := 0) (off := 0) (us := [str e10.name, .int .i64 e10.stock, .int .i64 e10.target, .int .i64 e10.days, .int .i64 e10.instead]) rfl rfl rfl rfl Tryd.sizeOf46 rfl rfl ?_
  refine SJ.nil ?_
  refine PJ.next ?_
  refine WJ.seq ?_
  refine WJ.reg ?_
  refine SJ.q (YldS.yld (y_fldB (o := 0) fld46_1 rfl)) rfl ?_
  refine SJ.q (YldS.yld (y_loadB (k := 0) (off := 1) (v := .int .i64 e10.stock) rfl Tryd.isAgg2 rfl rfl)) rfl ?_
  refine SJ.q (YldS.yld (y_move rfl)) rfl ?_
  refine SJ.q (YldS.yld (y_bin rfl rfl rfl)) rfl ?_
  refine SJ.q (YldS.yld (y_fldB (o := 0) fld46_1 rfl)) rfl ?_
  refine SJ.storeL (k := 0) (off := 1) (us := [.int .i64 (w64 (e10.stock + many5))]) rfl rfl rfl rfl Tryd.sizeOf2 rfl rfl ?_
  refine SJ.nil ?_
  refine PJ.next ?_
  refine WJ.seq ?_
  refine WJ.reg ?_
  refine SJ.q (YldS.yld (y_move rfl)) rfl ?_
  refine SJ.q (YldS.yld (y_move rfl)) rfl ?_
  refine SJ.q (YldS.yld (y_loadBN (k := 0) (off := 0) (us := [str e10.name, .int .i64 (w64 (e10.stock + many5)), .int .i64 e10.target, .int .i64 e10.days, .int .i64 e10.instead]) rfl Tryd.isAgg46 Tryd.sizeOf46 rfl rfl)) rfl ?_
  obtain ⟨e13, h14, hm⟩ := bindS hm
  refine SJ.q (YldS.yld (y_ixRow (k := 1) (R := fSparePart) rfl Tryd.runUnderlying25 Tryd.sizeOf46 rfl rfl h14)) rfl ?_
  refine SJ.storeRL (k := 1) (i := (Int.toNat k4)) (off := 0) (us := [str e10.name, .int .i64 (w64 (e10.stock + many5)), .int .i64 e10.target, .int .i64 e10.days, .int .i64 e10.instead]) (b := (SparePart.mk e10.name (w64 (e10.stock + many5)) e10.target e10.days e10.instead)) rfl rfl (idx_get h14) rfl rfl Tryd.sizeOf46 rfl rfl rfl ?_
  refine SJ.nil ?_
  refine PJ.next ?_
  refine WJ.seq ?_
  refine WJ.quiet ?_
  refine QJ.step (YldS.yld (y_move rfl)) rfl ?_
  refine QJ.step (YldS.yld (y_assign rfl)) rfl ?_
  refine QJ.done ?_
  refine PJ.next ?_
  refine WJ.ret ?_
  obtain rfl := Option.some.inj hm
  refine PJ.sel (L' := [row v9 46 fSparePart (List.set l7 (Int.toNat k4) (SparePart.mk e10.name (w64 (e10.stock + many5)) e10.target e10.days e10.instead))]) [1] ⟨by decide, rfl⟩ ?_
  exact PJ.retn (vs := [v9]) Tryd.results38 ⟨rfl, trivial⟩ ⟨_, rfl, rfl⟩

set_option maxRecDepth 100000 in
set_option maxHeartbeats 1000000 in
theorem ok_s_TakeParts {N : Nat} {list1 : List SparePart} {k4 : Int} {many5 : Int} {r : (List SparePart) × Int × Int} (hm : s_TakeParts N list1 k4 many5 = some r) (w : World) (v2 : Value) (hr3 : RdS w (cx w).Fz v2 fSparePart.rp list1) :
    Calls Tryd.prog 13 #[v2, .int .i64 k4, .int .i64 many5] w (RetG (cx w) fun u L => ∃ (u1 : Value), (u = tup [u1, .int .i64 r.2.1, .int .i64 r.2.2] ∧ L = [row u1 46 fSparePart r.1])) := by
  unfold s_TakeParts at hm
  refine Calls.enter [v2, .int .i64 k4, .int .i64 many5] Tryd.func13 rfl Tryd.ntmps13 rfl ?_
  refine WJ.seq ?_
  refine WJ.quiet ?_
  refine QJ.step (YldS.yld (y_assign rfl)) rfl ?_
  refine QJ.step (YldS.yld (y_assign rfl)) rfl ?_
  refine QJ.step (YldS.yld (y_assign rfl)) rfl ?_
  refine QJ.done ?_
  refine PJ.next ?_
  refine WJ.seq ?_
  refine WJ.quiet ?_
  refine QJ.step (YldS.yld (y_move rfl)) rfl ?_
  refine QJ.step (YldS.yld (y_move rfl)) rfl ?_
  refine QJ.step (YldS.yld (y_move rfl)) rfl ?_
  obtain ⟨r6, h7, hm⟩ := bindS hm
  refine QJ.step (y_call Tryd.call36 rfl (RetG.quiet fun w hw => ok_s_l24Code h7 w _ (hr3.st hw))) rfl ?_
  refine QJ.step (YldS.yld (y_assign rfl)) rfl ?_
  refine QJ.done ?_
  refine PJ.next ?_
  refine WJ.seq ?_
  refine WJ.seq ?_
  refine WJ.quiet ?_
  refine QJ.step (YldS.yld (y_move rfl)) rfl ?_
  refine QJ.step (YldS.yld (y_bin rfl rfl rfl)) rfl ?_
  refine QJ.done ?_
  refine PJ.next ?_
  refine WJ.cond (t := (r6 != 0)) rfl (fun hb8 => ?_) (fun hb8 => ?_)
  · replace hm := ifT hm hb8
    refine WJ.seq ?_
    refine WJ.quiet ?_
    refine QJ.step (YldS.yld (y_move rfl)) rfl ?_
    refine QJ.step (YldS.yld (y_assign rfl)) rfl ?_
    refine QJ.step (YldS.yld (y_assign rfl)) rfl ?_
    refine QJ.step (YldS.yld (y_assign rfl)) rfl ?_
    refine QJ.done ?_
    refine PJ.next ?_
    refine WJ.ret ?_
    refine PJ.then_ret ?_
    refine PJ.nil_row 46 fSparePart ?_
    obtain rfl := Option.some.inj hm
    refine PJ.sel (L' := [row (.slice none 0 0) 46 fSparePart []]) [0] ⟨by decide, rfl⟩ ?_
    exact PJ.retn (vs := [(.slice none 0 0), .int .i64 0, .int .i64 r6]) Tryd.results13 ⟨rfl, rfl, rfl, trivial⟩ ⟨_, rfl, rfl⟩
  · replace hm := ifF hm hb8
    refine WJ.skip ?_
    refine PJ.next ?_
    refine WJ.seq ?_
    refine WJ.quiet ?_
    refine QJ.step (YldS.yld (y_move rfl)) rfl ?_
    refine QJ.step (YldS.yld (y_move rfl)) rfl ?_
    refine QJ.step (YldS.yld (y_move rfl)) rfl ?_
    obtain ⟨r9, h10, hm⟩ := bindS hm
    refine QJ.step (y_call Tryd.call37 rfl (RetG.quiet fun w hw => ok_s_l24Use h10 w _ (hr3.st hw))) rfl ?_
    refine QJ.step (YldS.yld (y_assign rfl)) rfl ?_
    refine QJ.done ?_
    refine PJ.next ?_
    refine WJ.seq ?_
    refine WJ.seq ?_
    refine WJ.quiet ?_
    refine QJ.step (YldS.yld (y_move rfl)) rfl ?_
    refine QJ.step (YldS.yld (y_bin rfl rfl rfl)) rfl ?_
    refine QJ.done ?_
    refine PJ.next ?_
    refine WJ.cond (t := decide (r9 < 0)) rfl (fun hb11 => ?_) (fun hb11 => ?_)
    · replace hm := ifT hm hb11
      refine WJ.seq ?_
      refine WJ.quiet ?_
      refine QJ.step (YldS.yld (y_assign rfl)) rfl ?_
      refine QJ.step (YldS.yld (y_assign rfl)) rfl ?_
      refine QJ.step (YldS.yld (y_assign rfl)) rfl ?_
      refine QJ.done ?_
      refine PJ.next ?_
      refine WJ.ret ?_
      refine PJ.then_ret ?_
      refine PJ.nil_row 46 fSparePart ?_
      obtain rfl := Option.some.inj hm
      refine PJ.sel (L' := [row (.slice none 0 0) 46 fSparePart []]) [0] ⟨by decide, rfl⟩ ?_
      exact PJ.retn (vs := [(.slice none 0 0), .int .i64 0, .int .i64 3]) Tryd.results13 ⟨rfl, rfl, rfl, trivial⟩ ⟨_, rfl, rfl⟩
    · replace hm := ifF hm hb11
      refine WJ.skip ?_
      refine PJ.next ?_
      refine WJ.seq ?_
      refine WJ.reg ?_
      refine SJ.q (YldS.yld (y_move rfl)) rfl ?_
      refine SJ.q (YldS.yld (y_move rfl)) rfl ?_
      refine SJ.q (YldS.yld (y_move rfl)) rfl ?_
      refine SJ.q (YldS.yld (y_neg rfl)) rfl ?_
      obtain ⟨r12, h13, hm⟩ := bindS hm
      refine SJ.call Tryd.call38 rfl (fun w hw => ok_s_l24Add h13 w _ (hr3.st hw)) rfl ?_
      rintro v14 _ ⟨_, rfl, rfl⟩
      refine SJ.q (YldS.yld (y_move rfl)) rfl ?_
      refine SJ.q (YldS.yld (y_assign rfl)) rfl ?_
      refine SJ.q (YldS.yld (y_assign rfl)) rfl ?_
      refine SJ.q (YldS.yld (y_assign rfl)) rfl ?_
      refine SJ.nil ?_
      refine PJ.next ?_
      refine WJ.ret ?_
      obtain rfl := Option.some.inj hm
      refine PJ.sel (L' := [row v14 46 fSparePart r12]) [0] ⟨by decide, rfl⟩ ?_
      exact PJ.retn (vs := [v14, .int .i64 r9, .int .i64 0]) Tryd.results13 ⟨rfl, rfl, rfl, trivial⟩ ⟨_, rfl, rfl⟩

set_option maxRecDepth 100000 in
set_option maxHeartbeats 1000000 in
theorem ok_s_ReplacementOf {N : Nat} {list1 : List SparePart} {k4 : Int} {many5 : Int} {r : Int × Int} (hm : s_ReplacementOf N list1 k4 many5 = some r) (w : World) (v2 : Value) (hr3 : RdS w (cx w).Fz v2 fSparePart.rp list1) :
    Calls Tryd.prog 15 #[v2, .int .i64 k4, .int .i64 many5] w (Ret (cx w) (tup [.int .i64 r.1, .int .i64 r.2])) := by
  unfold s_ReplacementOf at hm
  refine Calls.enter [v2, .int .i64 k4, .int .i64 many5] Tryd.func15 rfl Tryd.ntmps15 rfl ?_
  refine WJ.seq ?_
  refine WJ.quiet ?_
  refine QJ.step (YldS.yld (y_assign rfl)) rfl ?_
  refine QJ.step (YldS.yld (y_assign rfl)) rfl ?_
  refine QJ.done ?_
  refine PJ.next ?_
  refine WJ.seq ?_
  refine WJ.quiet ?_
  refine QJ.step (YldS.yld (y_move rfl)) rfl ?_
  refine QJ.step (YldS.yld (y_move rfl)) rfl ?_
  refine QJ.step (YldS.yld (y_move rfl)) rfl ?_
  obtain ⟨r6, h7, hm⟩ := bindS hm
  refine QJ.step (y_call Tryd.call36 rfl (RetG.quiet fun w hw => ok_s_l24Code h7 w _ (hr3.st hw))) rfl ?_
  refine QJ.step (YldS.yld (y_assign rfl)) rfl ?_
  refine QJ.done ?_
  refine PJ.next ?_
  refine WJ.seq ?_
  refine WJ.seq ?_
  refine WJ.quiet ?_
  refine QJ.step (YldS.yld (y_move rfl)) rfl ?_
  refine QJ.step (YldS.yld (y_bin rfl rfl rfl)) rfl ?_
  refine QJ.done ?_
  refine PJ.next ?_
  refine WJ.cond (t := (r6 != 0)) rfl (fun hb8 => ?_) (fun hb8 => ?_)
  · replace hm := ifT hm hb8
    refine WJ.seq ?_
    refine WJ.quiet ?_
    refine QJ.step (YldS.yld (y_move rfl)) rfl ?_
    refine QJ.step (YldS.yld (y_assign rfl)) rfl ?_
    refine QJ.step (YldS.yld (y_assign rfl)) rfl ?_
    refine QJ.done ?_
    refine PJ.next ?_
    refine WJ.ret ?_
    refine PJ.then_ret ?_
    obtain rfl := Option.some.inj hm
    refine PJ.sel (L' := []) [] ⟨List.nodup_nil, rfl⟩ ?_
    exact PJ.retn (vs := [.int .i64 0, .int .i64 r6]) Tryd.results15 ⟨rfl, rfl, trivial⟩ ⟨rfl, rfl⟩
  · replace hm := ifF hm hb8
    refine WJ.skip ?_
    refine PJ.next ?_
    refine WJ.seq ?_
    refine WJ.quiet ?_
    refine QJ.step (YldS.yld (y_move rfl)) rfl ?_
    refine QJ.step (YldS.yld (y_move rfl)) rfl ?_
    refine QJ.step (YldS.yld (y_move rfl)) rfl ?_
    obtain ⟨r9, h10, hm⟩ := bindS hm
    refine QJ.step (y_call Tryd.call37 rfl (RetG.quiet fun w hw => ok_s_l24Use h10 w _ (hr3.st hw))) rfl ?_
    refine QJ.step (YldS.yld (y_assign rfl)) rfl ?_
    refine QJ.done ?_
    refine PJ.next ?_
    refine WJ.seq ?_
    refine WJ.seq ?_
    refine WJ.quiet ?_
    refine QJ.step (YldS.yld (y_move rfl)) rfl ?_
    refine QJ.step (YldS.yld (y_bin rfl rfl rfl)) rfl ?_
    refine QJ.done ?_
    refine PJ.next ?_
    refine WJ.cond (t := decide (r9 < 0)) rfl (fun hb11 => ?_) (fun hb11 => ?_)
    · replace hm := ifT hm hb11
      refine WJ.seq ?_
      refine WJ.quiet ?_
      refine QJ.step (YldS.yld (y_assign rfl)) rfl ?_
      refine QJ.step (YldS.yld (y_assign rfl)) rfl ?_
      refine QJ.done ?_
      refine PJ.next ?_
      refine WJ.ret ?_
      refine PJ.then_ret ?_
      obtain rfl := Option.some.inj hm
      refine PJ.sel (L' := []) [] ⟨List.nodup_nil, rfl⟩ ?_
      exact PJ.retn (vs := [.int .i64 0, .int .i64 3]) Tryd.results15 ⟨rfl, rfl, trivial⟩ ⟨rfl, rfl⟩
    · replace hm := ifF hm hb11
      refine WJ.skip ?_
      refine PJ.next ?_
      refine WJ.seq ?_
      refine WJ.quiet ?_
      refine QJ.step (YldS.yld (y_move rfl)) rfl ?_
      refine QJ.step (YldS.yld (y_assign rfl)) rfl ?_
      refine QJ.step (YldS.yld (y_assign rfl)) rfl ?_
      refine QJ.done ?_
      refine PJ.next ?_
      refine WJ.ret ?_
      obtain rfl := Option.some.inj hm
      refine PJ.sel (L' := []) [] ⟨List.nodup_nil, rfl⟩ ?_
      exact PJ.retn (vs := [.int .i64 r9, .int .i64 0]) Tryd.results15 ⟨rfl, rfl, trivial⟩ ⟨rfl, rfl⟩

set_option maxRecDepth 100000 in
set_option maxHeartbeats 1000000 in
theorem ok_s_DrawBringParts {N : Nat} {code1 : List UInt8} {r : (List SparePart) × Int × Int} (hm : s_DrawBringParts N code1 = some r) (w : World) (v2 : Value) (hr3 : RdS w (cx w).Fz v2 fByte.rp code1) :
    Calls Tryd.prog 16 #[v2] w (RetG (cx w) fun u L => ∃ (u1 : Value), (u = tup [u1, .int .i64 r.2.1, .int .i64 r.2.2] ∧ L = [row u1 46 fSparePart r.1])) := by
  unfold s_DrawBringParts at hm
  refine Calls.enter [v2] Tryd.func16 rfl Tryd.ntmps16 rfl ?_
  refine WJ.seq ?_
  refine WJ.quiet ?_
  refine QJ.step (YldS.yld (y_assign rfl)) rfl ?_
  refine QJ.step (YldS.yld (y_assign rfl)) rfl ?_
  refine QJ.step (YldS.yld (y_assign rfl)) rfl ?_
  refine QJ.done ?_
  refine PJ.next ?_
  refine WJ.seq ?_
  refine WJ.reg ?_
  refine SJ.q (YldS.yld (y_move rfl)) rfl ?_
  obtain ⟨r4, h5, hm⟩ := bindS hm
  refine SJ.call Tryd.call35 rfl (fun w hw => ok_s_l24Ask h5 w _ (hr3.st hw)) rfl ?_
  rintro _ _ ⟨v6, rfl, rfl⟩
  refine SJ.q (YldS.yld (y_extract rfl rfl)) rfl ?_
  refine SJ.q (YldS.yld (y_extract rfl rfl)) rfl ?_
  refine SJ.q (YldS.yld (y_extract rfl rfl)) rfl ?_
  refine SJ.q (YldS.yld (y_assign rfl)) rfl ?_
  refine SJ.q (YldS.yld (y_assign rfl)) rfl ?_
  refine SJ.q (YldS.yld (y_assign rfl)) rfl ?_
  refine SJ.nil ?_
  refine PJ.next ?_
  refine WJ.ret ?_
  obtain rfl := Option.some.inj hm
  refine PJ.sel (L' := [row v6 46 fSparePart r4.1]) [0] ⟨by decide, rfl⟩ ?_
  exact PJ.retn (vs := [v6, .int .i64 r4.2.1, .int .i64 r4.2.2]) Tryd.results16 ⟨rfl, rfl, rfl, trivial⟩ ⟨_, rfl, rfl⟩

set_option maxRecDepth 100000 in
set_option maxHeartbeats 1000000 in
theorem ok_i_BringParts {N : Nat} {list1 : List SparePart} {k4 : Int} {many5 : Int} {r : (List SparePart) × Int} (hm : i_BringParts N list1 k4 many5 = some r) (w : World) (v2 : Value) (hr3 : RdS w (cx w).Fz v2 fSparePart.rp list1) :
    Calls Tryd.prog 17 #[v2, .int .i64 k4, .int .i64 many5] w (RetG (cx w) fun u L => ∃ (u1 : Value), (u = tup [u1, .int .i64 r.2] ∧ L = [row u1 46 fSparePart r.1])) := by
  unfold i_BringParts at hm
  refine Calls.enter [v2, .int .i64 k4, .int .i64 many5] Tryd.func17 rfl Tryd.ntmps17 rfl ?_
  refine WJ.seq ?_
  refine WJ.quiet ?_
  refine QJ.step (YldS.yld (y_assign rfl)) rfl ?_
  refine QJ.step (YldS.yld (y_assign rfl)) rfl ?_
  refine QJ.done ?_
  refine PJ.next ?_
  refine WJ.seq ?_
  refine WJ.seq ?_
  refine WJ.quiet ?_
  refine QJ.step (YldS.yld (y_move rfl)) rfl ?_
  refine QJ.step (YldS.yld (y_move rfl)) rfl ?_
  refine QJ.step (YldS.yld (y_move rfl)) rfl ?_
  obtain ⟨r6, h7, hm⟩ := bindS hm
  refine QJ.step (y_call Tryd.call39 rfl (RetG.quiet fun w hw => ok_i_partCode h7 w _ (hr3.st hw))) rfl ?_
  refine QJ.step (YldS.yld (y_assign rfl)) rfl ?_
  refine QJ.done ?_
  refine PJ.next ?_
  refine WJ.seq ?_
  refine WJ.quiet ?_
  refine QJ.step (YldS.yld (y_move rfl)) rfl ?_
  refine QJ.step (YldS.yld (y_bin rfl rfl rfl)) rfl ?_
  refine QJ.done ?_
  refine PJ.next ?_
  refine WJ.cond (t := (r6 != 0)) rfl (fun hb8 => ?_) (fun hb8 => ?_)
  · replace hm := ifT hm hb8
    refine WJ.seq ?_
    refine WJ.quiet ?_
    refine QJ.step (YldS.yld (y_move rfl)) rfl ?_
    refine QJ.step (YldS.yld (y_assign rfl)) rfl ?_
    refine QJ.step (YldS.yld (y_assign rfl)) rfl ?_
    refine QJ.done ?_
    refine PJ.next ?_
    refine WJ.ret ?_
    refine PJ.then_ret ?_
    refine PJ.nil_row 46 fSparePart ?_
    obtain rfl := Option.some.inj hm
    refine PJ.sel (L' := [row (.slice none 0 0) 46 fSparePart []]) [0] ⟨by decide, rfl⟩ ?_
    exact PJ.retn (vs := [(.slice none 0 0), .int .i64 r6]) Tryd.results17 ⟨rfl, rfl, trivial⟩ ⟨_, rfl, rfl⟩
  · replace hm := ifF hm hb8
    refine WJ.skip ?_
    refine PJ.next ?_
    refine WJ.seq ?_
    refine WJ.seq ?_
    refine WJ.quiet ?_
    refine QJ.step (YldS.yld (y_move rfl)) rfl ?_
    refine QJ.step (YldS.yld (y_move rfl)) rfl ?_
    obtain ⟨e9, h10, hm⟩ := bindS hm
    obtain ⟨ad11, _, rfl, ha12, hy13⟩ := hr3.elem h10
    refine QJ.step (YldS.yld (hy13 Tryd.runUnderlying25 Tryd.sizeOf46 rfl rfl)) rfl ?_
    refine QJ.step (YldS.yld (y_fld (ad := ad11) fld46_1 rfl)) rfl ?_
    refine QJ.step (YldS.yld (y_load1 (v := .int .i64 e9.stock) Tryd.isAgg2 (ha12.sub 1 1) St.frozenC rfl)) rfl ?_
    refine QJ.step (YldS.yld (y_move rfl)) rfl ?_
    refine QJ.step (YldS.yld (y_bin rfl rfl rfl)) rfl ?_
    refine QJ.step (YldS.yld (y_bin rfl rfl rfl)) rfl ?_
    refine QJ.done ?_
    refine PJ.next ?_
    refine WJ.cond (t := decide ((w64 (e9.stock + many5)) > 100000)) rfl (fun hb14 => ?_) (fun hb14 => ?_)
    · replace hm := ifT hm hb14
      refine WJ.seq ?_
      refine WJ.quiet ?_
      refine QJ.step (YldS.yld (y_assign rfl)) rfl ?_
      refine QJ.step (YldS.yld (y_assign rfl)) rfl ?_
      refine QJ.done ?_
      refine PJ.next ?_
      refine WJ.ret ?_
      refine PJ.then_ret ?_
      refine PJ.nil_row 46 fSparePart ?_
      obtain rfl := Option.some.inj hm
      refine PJ.sel (L' := [row (.slice none 0 0) 46 fSparePart []]) [0] ⟨by decide, rfl⟩ ?_
      exact PJ.retn (vs := [(.slice none 0 0), .int .i64 5]) Tryd.results17 ⟨rfl, rfl, trivial⟩ ⟨_, rfl, rfl⟩
    · replace hm := ifF hm hb14
      refine WJ.skip ?_
      refine PJ.next ?_
      refine WJ.seq ?_
      refine WJ.reg ?_
      refine SJ.buildSlice (R := fSparePart) (os := []) [] Tryd.runUnderlying25 Tryd.sizeOf46 Tryd.zeroValue46 rfl rfl rfl rfl rfl rfl fun v15 => ?_
      refine SJ.q (YldS.yld (y_move rfl)) rfl ?_
      obtain ⟨l16, h17, hm⟩ := bindS hm
      refine SJ.append (k := 0) (R := fSparePart) h17 rfl Tryd.underlying25 el46 rfl rfl rfl (fun w hw => (hr3.st hw)) rfl fun v18 => ?_
      refine SJ.q (YldS.yld (y_assign rfl)) rfl ?_
      refine SJ.nil ?_
      refine PJ.next ?_
      refine WJ.seq ?_
      refine WJ.reg ?_
      refine SJ.q (YldS.yld (y_move rfl)) rfl ?_
      refine SJ.q (YldS.yld (y_move rfl)) rfl ?_
      obtain ⟨e19, h20, hm⟩ := bindS hm
      refine SJ.q (YldS.yld (y_ixRow (k := 0) (R := fSparePart) rfl Tryd.runUnderlying25 Tryd.sizeOf46 rfl rfl h20)) rfl ?_
      refine SJ.q (YldS.yld (y_fldR fld46_1 rfl)) rfl ?_
      refine SJ.q (YldS.yld (y_loadR (k := 0) (i := (Int.toNat k4)) (off := 1) (u := .int .i64 e19.stock) rfl Tryd.isAgg2 rfl (idx_get h20) rfl)) rfl ?_
      refine SJ.q (YldS.yld (y_move rfl)) rfl ?_
      refine SJ.q (YldS.yld (y_bin rfl rfl rfl)) rfl ?_
      obtain ⟨e21, h22, hm⟩ := bindS hm
      refine SJ.q (YldS.yld (y_ixRow (k := 0) (R := fSparePart) rfl Tryd.runUnderlying25 Tryd.sizeOf46 rfl rfl h22)) rfl ?_
      refine SJ.q (YldS.yld (y_fldR fld46_1 rfl)) rfl ?_
      refine SJ.storeRL (k := 0) (i := (Int.toNat k4)) (off := 1) (us := [.int .i64 (w64 (e19.stock + many5))]) (b := (SparePart.mk e21.name (w64 (e19.stock + many5)) e21.target e21.days e21.instead)) rfl rfl (idx_get h22) rfl rfl Tryd.sizeOf2 rfl rfl rfl ?_
      refine SJ.nil ?_
      refine PJ.next ?_
      refine WJ.seq ?_
      refine WJ.quiet ?_
      refine QJ.step (YldS.yld (y_move rfl)) rfl ?_
      refine QJ.step (YldS.yld (y_assign rfl)) rfl ?_
      refine QJ.step (YldS.yld (y_assign rfl)) rfl ?_
      refine QJ.done ?_
      refine PJ.next ?_
      refine WJ.ret ?_
      obtain rfl := Option.some.inj hm
      refine PJ.sel (L' := [row v18 46 fSparePart (List.set l16 (Int.toNat k4) (SparePart.mk e21.name (w64 (e19.stock + many5)) e21.target e21.days e21.instead))]) [0] ⟨by decide, rfl⟩ ?_
      exact PJ.retn (vs := [v18, .int .i64 0]) Tryd.results17 ⟨rfl, rfl, trivial⟩ ⟨_, rfl, rfl⟩

set_option maxRecDepth 100000 in
set_option maxHeartbeats 1000000 in
theorem ok_s_BringParts {N : Nat} {list1 : List SparePart} {k4 : Int} {many5 : Int} {r : (List SparePart) × Int} (hm : s_BringParts N list1 k4 many5 = some r) (w : World) (v2 : Value) (hr3 : RdS w (cx w).Fz v2 fSparePart.rp list1) :
    Calls Tryd.prog 18 #[v2, .int .i64 k4, .int .i64 many5] w (RetG (cx w) fun u L => ∃ (u1 : Value), (u = tup [u1, .int .i64 r.2] ∧ L = [row u1 46 fSparePart r.1])) := by
  unfold s_BringParts at hm
  refine Calls.enter [v2, .int .i64 k4, .int .i64 many5] Tryd.func18 rfl Tryd.ntmps18 rfl ?_
  refine WJ.seq ?_
  refine WJ.quiet ?_
  refine QJ.step (YldS.yld (y_assign rfl)) rfl ?_
  refine QJ.step (YldS.yld (y_assign rfl)) rfl ?_
  refine QJ.done ?_
  refine PJ.next ?_
  refine WJ.seq ?_
  refine WJ.quiet ?_
  refine QJ.step (YldS.yld (y_move rfl)) rfl ?_
  refine QJ.step (YldS.yld (y_move rfl)) rfl ?_
  refine QJ.step (YldS.yld (y_move rfl)) rfl ?_
  obtain ⟨r6, h7, hm⟩ := bindS hm
  refine QJ.step (y_call Tryd.call36 rfl (RetG.quiet fun w hw => ok_s_l24Code h7 w _ (hr3.st hw))) rfl ?_
  refine QJ.step (YldS.yld (y_assign rfl)) rfl ?_
  refine QJ.done ?_
  refine PJ.next ?_
  obtain ⟨kj9, hk10, hm⟩ := withK_open hm
  refine WJ.join (X := Int) (fun (x : Int) => kj9 x = some r) (fun (x : Int) => [(0, v2), (1, .int .i64 k4), (2, .int .i64 many5), (8, .int .i64 x)]) (fun (x : Int) => []) ?_ ?_
  · clear hk10
    refine WJ.seq ?_
    refine WJ.quiet ?_
    refine QJ.step (YldS.yld (y_move rfl)) rfl ?_
    refine QJ.step (YldS.yld (y_bin rfl rfl rfl)) rfl ?_
    refine QJ.step (YldS.yld (y_move rfl)) rfl ?_
    obtain ⟨t11, h12, hm⟩ := bindS hm
    refine QJ.cut 9 [(0, v2), (1, .int .i64 k4), (2, .int .i64 many5), (8, .int .i64 r6), (24, .bool t11)] ?_ ?_
    · rcases Bool.eq_false_or_eq_true (r6 == 0) with hb13 | hb13
      · replace h12 := andT h12 hb13
        refine QJ.on rfl rfl (cB hb13) (YldS.yld (y_move rfl)) rfl ?_
        refine QJ.on rfl rfl (cB hb13) (YldS.yld (y_move rfl)) rfl ?_
        obtain ⟨e14, h15, h12⟩ := bindS h12
        obtain ⟨ad16, _, rfl, ha17, hy18⟩ := hr3.elem h15
        refine QJ.on rfl rfl (cB hb13) (YldS.yld (hy18 Tryd.runUnderlying25 Tryd.sizeOf46 rfl rfl)) rfl ?_
        refine QJ.on rfl rfl (cB hb13) (YldS.yld (y_fld (ad := ad16) fld46_1 rfl)) rfl ?_
        refine QJ.on rfl rfl (cB hb13) (YldS.yld (y_load1 (v := .int .i64 e14.stock) Tryd.isAgg2 (ha17.sub 1 1) St.frozenC rfl)) rfl ?_
        refine QJ.on rfl rfl (cB hb13) (YldS.yld (y_move rfl)) rfl ?_
        refine QJ.on rfl rfl (cB hb13) (YldS.yld (y_bin rfl rfl rfl)) rfl ?_
        refine QJ.on rfl rfl (cB hb13) (YldS.yld (y_bin rfl rfl rfl)) rfl ?_
        refine QJ.step (YldS.yld (y_pick_t (cB hb13) rfl)) rfl ?_
        obtain rfl := Option.some.inj h12
        exact QJ.cut_end ⟨rfl, rfl, rfl, rfl, rfl, trivial⟩
      · obtain rfl := andF h12 hb13
        refine QJ.off rfl rfl (cB hb13) rfl rfl ?_
        refine QJ.off rfl rfl (cB hb13) rfl rfl ?_
        refine QJ.off rfl rfl (cB hb13) rfl rfl ?_
        refine QJ.off rfl rfl (cB hb13) rfl rfl ?_
        refine QJ.off rfl rfl (cB hb13) rfl rfl ?_
        refine QJ.off rfl rfl (cB hb13) rfl rfl ?_
        refine QJ.off rfl rfl (cB hb13) rfl rfl ?_
        refine QJ.off rfl rfl (cB hb13) rfl rfl ?_
        refine QJ.step (YldS.yld (y_pick_f (cB hb13) rfl)) rfl ?_
        exact QJ.cut_end ⟨rfl, rfl, rfl, rfl, rfl, trivial⟩
    refine QJ.done ?_
    refine PJ.next ?_
    refine WJ.cond (t := t11) rfl (fun hb19 => ?_) (fun hb19 => ?_)
    · replace hm := ifT hm hb19
      refine WJ.quiet ?_
      refine QJ.step (YldS.yld (y_assign rfl)) rfl ?_
      refine QJ.done ?_
      exact PJ.joined 5 [] hm ⟨rfl, rfl, rfl, rfl, trivial⟩ ⟨List.nodup_nil, rfl⟩
    · replace hm := ifF hm hb19
      refine WJ.skip ?_
      exact PJ.joined r6 [] hm ⟨rfl, rfl, rfl, rfl, trivial⟩ ⟨List.nodup_nil, rfl⟩
  · rintro code8 hm
    subst hk10
    refine WJ.seq ?_
    refine WJ.seq ?_
    refine WJ.quiet ?_
    refine QJ.step (YldS.yld (y_move rfl)) rfl ?_
    refine QJ.step (YldS.yld (y_bin rfl rfl rfl)) rfl ?_
    refine QJ.done ?_
    refine PJ.next ?_
    refine WJ.cond (t := (code8 != 0)) rfl (fun hb20 => ?_) (fun hb20 => ?_)
    · replace hm := ifT hm hb20
      refine WJ.seq ?_
      refine WJ.quiet ?_
      refine QJ.step (YldS.yld (y_move rfl)) rfl ?_
      refine QJ.step (YldS.yld (y_assign rfl)) rfl ?_
      refine QJ.step (YldS.yld (y_assign rfl)) rfl ?_
      refine QJ.done ?_
      refine PJ.next ?_
      refine WJ.ret ?_
      refine PJ.then_ret ?_
      refine PJ.nil_row 46 fSparePart ?_
      obtain rfl := Option.some.inj hm
      refine PJ.sel (L' := [row (.slice none 0 0) 46 fSparePart []]) [0] ⟨by decide, rfl⟩ ?_
      exact PJ.retn (vs := [(.slice none 0 0), .int .i64 code8]) Tryd.results18 ⟨rfl, rfl, trivial⟩ ⟨_, rfl, rfl⟩
    · replace hm := ifF hm hb20
      refine WJ.skip ?_
      refine PJ.next ?_
      refine WJ.seq ?_
      refine WJ.reg ?_
      refine SJ.q (YldS.yld (y_move rfl)) rfl ?_
      refine SJ.q (YldS.yld (y_move rfl)) rfl ?_
      refine SJ.q (YldS.yld (y_move rfl)) rfl ?_
      obtain ⟨r21, h22, hm⟩ := bindS hm
      refine SJ.call Tryd.call38 rfl (fun w hw => ok_s_l24Add h22 w _ (hr3.st hw)) rfl ?_
      rintro v23 _ ⟨_, rfl, rfl⟩
      refine SJ.q (YldS.yld (y_assign rfl)) rfl ?_
      refine SJ.q (YldS.yld (y_assign rfl)) rfl ?_
      refine SJ.nil ?_
      refine PJ.next ?_
      refine WJ.ret ?_
      obtain rfl := Option.some.inj hm
      refine PJ.sel (L' := [row v23 46 fSparePart r21]) [0] ⟨by decide, rfl⟩ ?_
      exact PJ.retn (vs := [v23, .int .i64 0]) Tryd.results18 ⟨rfl, rfl, trivial⟩ ⟨_, rfl, rfl⟩

set_option maxRecDepth 100000 in
set_option maxHeartbeats 1000000 in
theorem ok_i_DeadParts {N : Nat} {list1 : List SparePart} {r : (List Int) × Int} (hm : i_DeadParts N list1 = some r) (w : World) (v2 : Value) (hr3 : RdS w (cx w).Fz v2 fSparePart.rp list1) :
    Calls Tryd.prog 19 #[v2] w (RetG (cx w) fun u L => ∃ (u1 : Value), (u = tup [u1, .int .i64 r.2] ∧ L = [row u1 2 fI64 r.1])) := by
  unfold i_DeadParts at hm
  refine Calls.enter [v2] Tryd.func19 rfl Tryd.ntmps19 rfl ?_
  refine WJ.seq ?_
  refine WJ.quiet ?_
  refine QJ.step (YldS.yld (y_assign rfl)) rfl ?_
  refine QJ.step (YldS.yld (y_assign rfl)) rfl ?_
  refine QJ.done ?_
  refine PJ.next ?_
  refine WJ.seq ?_
  refine WJ.seq ?_
  refine WJ.quiet ?_
  refine QJ.step (YldS.yld (y_move rfl)) rfl ?_
  obtain ⟨r4, h5, hm⟩ := bindS hm
  refine QJ.step (y_call Tryd.call25 rfl (RetG.quiet fun w hw => ok_i_ValidParts h5 w _ (hr3.st hw))) rfl ?_
  refine QJ.step (YldS.yld (y_not rfl)) rfl ?_
  refine QJ.done ?_
  refine PJ.next ?_
  refine WJ.cond (t := !r4) rfl (fun hb6 => ?_) (fun hb6 => ?_)
  · replace hm := ifT hm hb6
    refine WJ.seq ?_
    refine WJ.quiet ?_
    refine QJ.step (YldS.yld (y_assign rfl)) rfl ?_
    refine QJ.step (YldS.yld (y_assign rfl)) rfl ?_
    refine QJ.done ?_
    refine PJ.next ?_
    refine WJ.ret ?_
    refine PJ.then_ret ?_
    refine PJ.nil_row 2 fI64 ?_
    obtain rfl := Option.some.inj hm
    refine PJ.sel (L' := [row (.slice none 0 0) 2 fI64 []]) [0] ⟨by decide, rfl⟩ ?_
    exact PJ.retn (vs := [(.slice none 0 0), .int .i64 1]) Tryd.results19 ⟨rfl, rfl, trivial⟩ ⟨_, rfl, rfl⟩
  · replace hm := ifF hm hb6
    refine WJ.skip ?_
    refine PJ.next ?_
    refine WJ.seq ?_
    refine WJ.reg ?_
    refine SJ.buildSlice (R := fI64) (os := []) [] Tryd.runUnderlying38 Tryd.sizeOf2 Tryd.zeroValue2 rfl rfl rfl rfl rfl rfl fun v7 => ?_
    refine SJ.q (YldS.yld (y_assign rfl)) rfl ?_
    refine SJ.nil ?_
    refine PJ.next ?_
    obtain ⟨kj10, hk11, hm⟩ := withK_open hm
    refine WJ.join (X := (List Int) × Value) (fun (x : (List Int) × Value) => kj10 x.1 = some r) (fun (x : (List Int) × Value) => [(4, x.2)]) (fun (x : (List Int) × Value) => [row x.2 2 fI64 x.1]) ?_ ?_
    · clear hk11
      refine WJ.seq ?_
      refine WJ.quiet ?_
      refine QJ.step (YldS.yld (y_move rfl)) rfl ?_
      refine QJ.step (YldS.yld (y_lenS Tryd.runUnderlying25 hr3 rfl)) rfl ?_
      refine QJ.step (YldS.yld (y_move rfl)) rfl ?_
      refine QJ.done ?_
      refine PJ.next ?_
      refine WJ.block ?_
      refine WJ.sel (L' := (fun (x : (List Int) × Value × Int) => [row x.2.1 2 fI64 x.1]) ([], v7, 0)) [0] ⟨by decide, rfl⟩ ?_
      refine WJ.sub (m' := (fun (x : (List Int) × Value × Int) => [(0, v2), (4, x.2.1), (11, .int .i64 (List.length list1 : Int)), (12, .int .i64 x.2.2)]) ([], v7, 0)) ⟨rfl, rfl, rfl, rfl, trivial⟩ ?_
      refine WJ.loop (X := (List Int) × Value × Int) (fun N (x : (List Int) × Value × Int) => i_DeadParts_l1 kj10 list1 N x.1 x.2.2 = some r) (fun (x : (List Int) × Value × Int) => [(0, v2), (4, x.2.1), (11, .int .i64 (List.length list1 : Int)), (12, .int .i64 x.2.2)]) (fun (x : (List Int) × Value × Int) => [row x.2.1 2 fI64 x.1]) ?_ N ([], v7, 0) hm
      · rintro N ⟨l12, v13, x14⟩ hI
        have hm := hI; clear hI
        cases N with
        | zero => cases hm
        | succ N =>
        unfold i_DeadParts_l1 at hm
        refine WJ.seq ?_
        refine WJ.quiet ?_
        refine QJ.step (YldS.yld (y_bin rfl rfl rfl)) rfl ?_
        refine QJ.done ?_
        refine PJ.next ?_
        refine WJ.seq ?_
        refine WJ.cond (t := decide (x14 < (List.length list1 : Int))) rfl (fun hb15 => ?_) (fun hb15 => ?_)
        · replace hm := ifT hm hb15
          refine WJ.skip ?_
          refine PJ.next ?_
          obtain ⟨kj18, hk19, hm⟩ := withK_open hm
          refine WJ.join (X := (List Int) × Value) (fun (x : (List Int) × Value) => kj18 x.1 = some r) (fun (x : (List Int) × Value) => [(0, v2), (4, x.2), (11, .int .i64 (List.length list1 : Int)), (12, .int .i64 x14)]) (fun (x : (List Int) × Value) => [row x.2 2 fI64 x.1]) ?_ ?_
          · clear hk19
            refine WJ.block ?_
            refine WJ.seq ?_
            refine WJ.quiet ?_
            refine QJ.step (YldS.yld (y_move rfl)) rfl ?_
            refine QJ.step (YldS.yld (y_assign rfl)) rfl ?_
            refine QJ.done ?_
            refine PJ.next ?_
            refine WJ.seq ?_
            refine WJ.quiet ?_
            refine QJ.step (YldS.yld (y_move rfl)) rfl ?_
            refine QJ.step (YldS.yld (y_move rfl)) rfl ?_
            obtain ⟨r20, h21, hm⟩ := bindS hm
            refine QJ.step (y_call Tryd.call40 rfl (RetG.quiet fun w hw => ok_i_usedPart h21 w _ (hr3.st hw))) rfl ?_
            refine QJ.step (YldS.yld (y_bin rfl rfl rfl)) rfl ?_
            refine QJ.done ?_
            refine PJ.next ?_
            refine WJ.cond (t := decide (r20 < 0)) rfl (fun hb22 => ?_) (fun hb22 => ?_)
            · replace hm := ifT hm hb22
              refine WJ.reg ?_
              refine SJ.q (YldS.yld (y_move rfl)) rfl ?_
              refine SJ.q (YldS.yld (y_move rfl)) rfl ?_
              refine SJ.buildSlice (R := fI64) (os := [.tmp 20]) [x14] Tryd.runUnderlying38 Tryd.sizeOf2 Tryd.zeroValue2 rfl rfl rfl rfl rfl rfl fun v23 => ?_
              obtain ⟨l24, h25, hm⟩ := bindS hm
              refine SJ.append (k := 1) (R := fI64) h25 rfl Tryd.underlying38 el2 rfl rfl rfl (fun w hw => (hw.row_rd (k := 0) rfl)) rfl fun v26 => ?_
              refine SJ.q (YldS.yld (y_assign rfl)) rfl ?_
              refine SJ.nil ?_
              refine PJ.block_normal ?_
              exact PJ.joined (l24, v26) [1] hm ⟨rfl, rfl, rfl, rfl, trivial⟩ ⟨by decide, rfl⟩
            · replace hm := ifF hm hb22
              refine WJ.skip ?_
              refine PJ.block_normal ?_
              exact PJ.joined (l12, v13) [0] hm ⟨rfl, rfl, rfl, rfl, trivial⟩ ⟨by decide, rfl⟩
          · rintro ⟨l16, v17⟩ hm
            subst hk19
            refine WJ.quiet ?_
            refine QJ.step (YldS.yld (y_bin rfl rfl rfl)) rfl ?_
            refine QJ.step (YldS.yld (y_move rfl)) rfl ?_
            refine QJ.done ?_
            exact PJ.round (l16, v17, w64 (x14 + 1)) [0] hm ⟨rfl, rfl, rfl, rfl, trivial⟩ ⟨by decide, rfl⟩
        · replace hm := ifF hm hb15
          refine WJ.exit ?_
          refine PJ.then_exit (PJ.then_exit (PJ.block_exit ?_))
          exact PJ.joined (l12, v13) [0] hm ⟨rfl, trivial⟩ ⟨by decide, rfl⟩
    · rintro ⟨l8, v9⟩ hm
      subst hk11
      refine WJ.seq ?_
      refine WJ.quiet ?_
      refine QJ.step (YldS.yld (y_move rfl)) rfl ?_
      refine QJ.step (YldS.yld (y_assign rfl)) rfl ?_
      refine QJ.step (YldS.yld (y_assign rfl)) rfl ?_
      refine QJ.done ?_
      refine PJ.next ?_
      refine WJ.ret ?_
      obtain rfl := Option.some.inj hm
      refine PJ.sel (L' := [row v9 2 fI64 l8]) [0] ⟨by decide, rfl⟩ ?_
      exact PJ.retn (vs := [v9, .int .i64 0]) Tryd.results19 ⟨rfl, rfl, trivial⟩ ⟨_, rfl, rfl⟩

set_option maxRecDepth 100000 in
set_option maxHeartbeats 1000000 in
theorem ok_s_DeadParts {N : Nat} {list1 : List SparePart} {r : (List Int) × Int} (hm : s_DeadParts N list1 = some r) (w : World) (v2 : Value) (hr3 : RdS w (cx w).Fz v2 fSparePart.rp list1) :
    Calls Tryd.prog 20 #[v2] w (RetG (cx w) fun u L => ∃ (u1 : Value), (u = tup [u1, .int .i64 r.2] ∧ L = [row u1 2 fI64 r.1])) := by
  unfold s_DeadParts at hm
  refine Calls.enter [v2] Tryd.func20 rfl Tryd.ntmps20 rfl ?_
  refine WJ.seq ?_
  refine WJ.quiet ?_
  refine QJ.step (YldS.yld (y_assign rfl)) rfl ?_
  refine QJ.step (YldS.yld (y_assign rfl)) rfl ?_
  refine QJ.done ?_
  refine PJ.next ?_
  refine WJ.seq ?_
  refine WJ.seq ?_
  refine WJ.quiet ?_
  refine QJ.step (YldS.yld (y_move rfl)) rfl ?_
  obtain ⟨r4, h5, hm⟩ := bindS hm
  refine QJ.step (y_call Tryd.call28 rfl (RetG.quiet fun w hw => ok_s_l24Ok h5 w _ (hr3.st hw))) rfl ?_
  refine QJ.step (YldS.yld (y_not rfl)) rfl ?_
  refine QJ.done ?_
  refine PJ.next ?_
  refine WJ.cond (t := !r4) rfl (fun hb6 => ?_) (fun hb6 => ?_)
  · replace hm := ifT hm hb6
    refine WJ.seq ?_
    refine WJ.quiet ?_
    refine QJ.step (YldS.yld (y_assign rfl)) rfl ?_
    refine QJ.step (YldS.yld (y_assign rfl)) rfl ?_
    refine QJ.done ?_
    refine PJ.next ?_
    refine WJ.ret ?_
    refine PJ.then_ret ?_
    refine PJ.nil_row 2 fI64 ?_
    obtain rfl := Option.some.inj hm
    refine PJ.sel (L' := [row (.slice none 0 0) 2 fI64 []]) [0] ⟨by decide, rfl⟩ ?_
    exact PJ.retn (vs := [(.slice none 0 0), .int .i64 1]) Tryd.results20 ⟨rfl, rfl, trivial⟩ ⟨_, rfl, rfl⟩
  · replace hm := ifF hm hb6
    refine WJ.skip ?_
    refine PJ.next ?_
    refine WJ.seq ?_
    refine WJ.reg ?_
    refine SJ.buildSlice (R := fI64) (os := []) [] Tryd.runUnderlying38 Tryd.sizeOf2 Tryd.zeroValue2 rfl rfl rfl rfl rfl rfl fun v7 => ?_
    refine SJ.q (YldS.yld (y_assign rfl)) rfl ?_
    refine SJ.nil ?_
    refine PJ.next ?_
    obtain ⟨kj10, hk11, hm⟩ := withK_open hm
    refine WJ.join (X := (List Int) × Value) (fun (x : (List Int) × Value) => kj10 x.1 = some r) (fun (x : (List Int) × Value) => [(4, x.2)]) (fun (x : (List Int) × Value) => [row x.2 2 fI64 x.1]) ?_ ?_
    · clear hk11
      refine WJ.seq ?_
      refine WJ.quiet ?_
      refine QJ.step (YldS.yld (y_assign rfl)) rfl ?_
      refine QJ.done ?_
      refine PJ.next ?_
      refine WJ.block ?_
      refine WJ.sel (L' := (fun (x : (List Int) × Value × Int) => [row x.2.1 2 fI64 x.1]) ([], v7, 0)) [0] ⟨by decide, rfl⟩ ?_
      refine WJ.sub (m' := (fun (x : (List Int) × Value × Int) => [(0, v2), (4, x.2.1), (5, .int .i64 x.2.2)]) ([], v7, 0)) ⟨rfl, rfl, rfl, trivial⟩ ?_
      refine WJ.loop (X := (List Int) × Value × Int) (fun N (x : (List Int) × Value × Int) => s_DeadParts_l1 kj10 list1 N x.1 x.2.2 = some r) (fun (x : (List Int) × Value × Int) => [(0, v2), (4, x.2.1), (5, .int .i64 x.2.2)]) (fun (x : (List Int) × Value × Int) => [row x.2.1 2 fI64 x.1]) ?_ N ([], v7, 0) hm
      · rintro N ⟨l12, v13, i14⟩ hI
        have hm := hI; clear hI
        cases N with
        | zero => cases hm
        | succ N =>
        unfold s_DeadParts_l1 at hm
        refine WJ.seq ?_
        refine WJ.seq ?_
        refine WJ.quiet ?_
        refine QJ.step (YldS.yld (y_move rfl)) rfl ?_
        refine QJ.step (YldS.yld (y_move rfl)) rfl ?_
        refine QJ.step (YldS.yld (y_lenS Tryd.runUnderlying25 hr3 rfl)) rfl ?_
        refine QJ.step (YldS.yld (y_bin rfl rfl rfl)) rfl ?_
        refine QJ.done ?_
        refine PJ.next ?_
        refine WJ.cond (t := decide (i14 < (List.length list1 : Int))) rfl (fun hb15 => ?_) (fun hb15 => ?_)
        · replace hm := ifT hm hb15
          refine WJ.skip ?_
          refine PJ.next ?_
          obtain ⟨kj18, hk19, hm⟩ := withK_open hm
          refine WJ.join (X := (List Int) × Value) (fun (x : (List Int) × Value) => kj18 x.1 = some r) (fun (x : (List Int) × Value) => [(0, v2), (4, x.2), (5, .int .i64 i14)]) (fun (x : (List Int) × Value) => [row x.2 2 fI64 x.1]) ?_ ?_
          · clear hk19
            refine WJ.block ?_
            refine WJ.seq ?_
            refine WJ.quiet ?_
            refine QJ.step (YldS.yld (y_move rfl)) rfl ?_
            refine QJ.step (YldS.yld (y_move rfl)) rfl ?_
            obtain ⟨r20, h21, hm⟩ := bindS hm
            refine QJ.step (y_call Tryd.call37 rfl (RetG.quiet fun w hw => ok_s_l24Use h21 w _ (hr3.st hw))) rfl ?_
            refine QJ.step (YldS.yld (y_bin rfl rfl rfl)) rfl ?_
            refine QJ.done ?_
            refine PJ.next ?_
            refine WJ.cond (t := decide (r20 < 0)) rfl (fun hb22 => ?_) (fun hb22 => ?_)
            · replace hm := ifT hm hb22
              refine WJ.reg ?_
              refine SJ.q (YldS.yld (y_move rfl)) rfl ?_
              refine SJ.q (YldS.yld (y_move rfl)) rfl ?_
              refine SJ.buildSlice (R := fI64) (os := [.tmp 21]) [i14] Tryd.runUnderlying38 Tryd.sizeOf2 Tryd.zeroValue2 rfl rfl rfl rfl rfl rfl fun v23 => ?_
              obtain ⟨l24, h25, hm⟩ := bindS hm
              refine SJ.append (k := 1) (R := fI64) h25 rfl Tryd.underlying38 el2 rfl rfl rfl (fun w hw => (hw.row_rd (k := 0) rfl)) rfl fun v26 => ?_
              refine SJ.q (YldS.yld (y_assign rfl)) rfl ?_
              refine SJ.nil ?_
              refine PJ.block_normal ?_
              exact PJ.joined (l24, v26) [1] hm ⟨rfl, rfl, rfl, trivial⟩ ⟨by decide, rfl⟩
            · replace hm := ifF hm hb22
              refine WJ.skip ?_
              refine PJ.block_normal ?_
              exact PJ.joined (l12, v13) [0] hm ⟨rfl, rfl, rfl, trivial⟩ ⟨by decide, rfl⟩
          · rintro ⟨l16, v17⟩ hm
            subst hk19
            refine WJ.quiet ?_
            refine QJ.step (YldS.yld (y_move rfl)) rfl ?_
            refine QJ.step (YldS.yld (y_bin rfl rfl rfl)) rfl ?_
            refine QJ.step (YldS.yld (y_assign rfl)) rfl ?_
            refine QJ.done ?_
            exact PJ.round (l16, v17, w64 (i14 + 1)) [0] hm ⟨rfl, rfl, rfl, trivial⟩ ⟨by decide, rfl⟩
        · replace hm := ifF hm hb15
          refine WJ.exit ?_
          refine PJ.then_exit (PJ.then_exit (PJ.block_exit ?_))
          exact PJ.joined (l12, v13) [0] hm ⟨rfl, trivial⟩ ⟨by decide, rfl⟩
    · rintro ⟨l8, v9⟩ hm
      subst hk11
      refine WJ.seq ?_
      refine WJ.quiet ?_
      refine QJ.step (YldS.yld (y_move rfl)) rfl ?_
      refine QJ.step (YldS.yld (y_assign rfl)) rfl ?_
      refine QJ.step (YldS.yld (y_assign rfl)) rfl ?_
      refine QJ.done ?_
      refine PJ.next ?_
      refine WJ.ret ?_
      obtain rfl := Option.some.inj hm
      refine PJ.sel (L' := [row v9 2 fI64 l8]) [0] ⟨by decide, rfl⟩ ?_
      exact PJ.retn (vs := [v9, .int .i64 0]) Tryd.results20 ⟨rfl, rfl, trivial⟩ ⟨_, rfl, rfl⟩

set_option maxRecDepth 100000 in
set_option maxHeartbeats 1000000 in
theorem ok_s_DrawSameParts {N : Nat} {code1 : List UInt8} {r : (List SparePart) × (List SparePart)} (hm : s_DrawSameParts N code1 = some r) (w : World) (v2 : Value) (hr3 : RdS w (cx w).Fz v2 fByte.rp code1) :
    Calls Tryd.prog 21 #[v2] w (RetG (cx w) fun u L => ∃ (u1 : Value) (u2 : Value), (u = tup [u1, u2] ∧ L = [row u1 46 fSparePart r.1, row u2 46 fSparePart r.2])) := by
  unfold s_DrawSameParts at hm
  refine Calls.enter [v2] Tryd.func21 rfl Tryd.ntmps21 rfl ?_
  refine WJ.seq ?_
  refine WJ.quiet ?_
  refine QJ.step (YldS.yld (y_assign rfl)) rfl ?_
  refine QJ.step (YldS.yld (y_assign rfl)) rfl ?_
  refine QJ.done ?_
  refine PJ.next ?_
  refine WJ.seq ?_
  refine WJ.reg ?_
  refine SJ.q (YldS.yld (y_move rfl)) rfl ?_
  obtain ⟨r4, h5, hm⟩ := bindS hm
  refine SJ.call Tryd.call41 rfl (fun w hw => ok_s_l00From h5 w _ (hr3.st hw)) rfl ?_
  rintro _ _ ⟨g6, rfl, rfl⟩
  refine SJ.q (YldS.yld (y_assign rfl)) rfl ?_
  refine SJ.nil ?_
  refine PJ.next ?_
  refine WJ.seq ?_
  refine WJ.reg ?_
  refine SJ.q (YldS.yld (y_move rfl)) rfl ?_
  obtain ⟨r7, h8, hm⟩ := bindS hm
  refine SJ.call1 (k := 0) rfl Tryd.call42 rfl (fun w S hw hA hO => ok_s_l24Draw h8 w S _ (hr3.st1 hw hO) hA) rfl ?_
  rintro v9 _ ⟨_, rfl, rfl⟩
  refine SJ.q (YldS.yld (y_assign rfl)) rfl ?_
  refine SJ.nil ?_
  refine PJ.next ?_
  refine WJ.seq ?_
  refine WJ.reg ?_
  refine SJ.buildSlice (R := fSparePart) (os := []) [] Tryd.runUnderlying25 Tryd.sizeOf46 Tryd.zeroValue46 rfl rfl rfl rfl rfl rfl fun v10 => ?_
  refine SJ.q (YldS.yld (y_move rfl)) rfl ?_
  obtain ⟨l11, h12, hm⟩ := bindS hm
  refine SJ.append (k := 0) (R := fSparePart) h12 rfl Tryd.underlying25 el46 rfl rfl rfl (fun w hw => (hw.row_rd (k := 2) rfl)) rfl fun v13 => ?_
  refine SJ.q (YldS.yld (y_assign rfl)) rfl ?_
  refine SJ.nil ?_
  refine PJ.next ?_
  obtain ⟨kj17, hk18, hm⟩ := withK_open hm
  refine WJ.join (X := Int × Int × (List SparePart)) (fun (x : Int × Int × (List SparePart)) => kj17 x.1 x.2.1 x.2.2 = some r) (fun (x : Int × Int × (List SparePart)) => [(4, pt g6 0), (5, v9), (6, v13)]) (fun (x : Int × Int × (List SparePart)) => [box g6 67 [v2, .int .i64 x.1, .int .u64 x.2.1], row v13 46 fSparePart x.2.2, row v9 46 fSparePart r7.1]) ?_ ?_
  · clear hk18
    refine WJ.seq ?_
    refine WJ.reg ?_
    refine SJ.q (YldS.yld (y_move rfl)) rfl ?_
    refine SJ.q (YldS.yld (y_lenRow (k := 0) rfl Tryd.runUnderlying25 rfl)) rfl ?_
    refine SJ.q (YldS.yld (y_bin rfl rfl rfl)) rfl ?_
    refine SJ.q (YldS.yld (y_move rfl)) rfl ?_
    obtain ⟨x21, h20, hm⟩ := bindS hm
    refine SJ.cut 3 [(4, pt g6 0), (5, v9), (6, v13), (20, .bool x21.1)] [row v13 46 fSparePart l11, box g6 67 [v2, .int .i64 x21.2.at_, .int .u64 x21.2.seed], row v9 46 fSparePart r7.1] ?_ ?_
    · rcases Bool.eq_false_or_eq_true (decide ((List.length l11 : Int) > 0)) with hb22 | hb22
      · replace h20 := ifT h20 hb22
        refine SJ.on rfl rfl (cB hb22) (SJ.q (YldS.yld (y_move rfl)) rfl ?_)
        obtain ⟨r23, h24, h20⟩ := bindS h20
        refine SJ.on rfl rfl (cB hb22) (SJ.call1 (k := 1) rfl Tryd.call43 rfl (fun w S hw hA hO => ok_s_l00Src_one h24 w S _ (hr3.st1 hw hO) hA) rfl ?_)
        rintro _ _ ⟨rfl, rfl⟩
        refine SJ.q (YldS.yld (y_pick_t (cB hb22) rfl)) rfl ?_
        obtain rfl := Option.some.inj h20
        exact SJ.cut_end [1, 0, 2] ⟨rfl, rfl, rfl, rfl, trivial⟩ ⟨by decide, rfl⟩
      · replace h20 := ifF h20 hb22
        obtain rfl := Option.some.inj h20
        refine SJ.off rfl rfl (cB hb22) rfl rfl ?_
        refine SJ.off rfl rfl (cB hb22) rfl rfl ?_
        refine SJ.q (YldS.yld (y_pick_f (cB hb22) rfl)) rfl ?_
        exact SJ.cut_end [0, 1, 2] ⟨rfl, rfl, rfl, rfl, trivial⟩ ⟨by decide, rfl⟩
    refine SJ.nil ?_
    refine PJ.next ?_
    refine WJ.cond (t := x21.1) rfl (fun hb25 => ?_) (fun hb25 => ?_)
    · replace hm := ifT hm hb25
      obtain ⟨e26, h27, hm⟩ := bindS hm
      obtain ⟨r28, h29, hm⟩ := bindS hm
      obtain ⟨e30, h31, hm⟩ := bindS hm
      refine WJ.draws (N := 10) (listed0 := #[false, false, false, false, false, false, false, false, false, false]) [row v9 46 fSparePart r7.1] follows rfl rfl ?_
      refine RJ.first 0 (listed' := #[true, false, false, false, false, false, false, false, false, false]) [2] rfl (by kernel_rfl) rfl ⟨by decide, rfl⟩ (y_move rfl) rfl ?_
      refine RJ.first 4 (listed' := #[true, false, false, false, true, false, false, false, false, false]) [2] rfl (by kernel_rfl) rfl ⟨by decide, rfl⟩ (y_move rfl) rfl ?_
      refine RJ.hold (X := Unit) 4 #[true, true, true, true, true, true, false, false, false, false] (fun (_ : Unit) => [(4, pt g6 0), (5, v9), (6, v13), (21, v13), (24, .int .i64 e26.days), (26, .int .i64 r28.1)]) (fun (_ : Unit) => [box g6 67 [v2, .int .i64 r28.2.at_, .int .u64 r28.2.seed], row v13 46 fSparePart l11, row v9 46 fSparePart r7.1]) ?_ ?_
      · rintro _
        refine RJ.first 6 (listed' := #[true, true, true, true, true, true, true, false, false, false]) [2] rfl (by kernel_rfl) rfl ⟨by decide, rfl⟩ (y_bin rfl rfl rfl) rfl ?_
        refine RJ.step1 7 [2] (by kernel_rfl) ⟨by decide, rfl⟩ ?_
        refine RO.of (listed' := #[true, true, true, true, true, true, true, true, false, false]) rfl rfl ?_
        refine SJ.q (YldS.yld (y_ixRow (k := 1) (R := fSparePart) rfl Tryd.runUnderlying25 Tryd.sizeOf46 rfl rfl h31)) rfl ?_
        refine SJ.nil ?_
        refine PJ.draw ?_
        refine RJ.first 8 (listed' := #[true, true, true, true, true, true, true, true, true, false]) [2] rfl (by kernel_rfl) rfl ⟨by decide, rfl⟩ (y_fldR fld46_3 rfl) rfl ?_
        refine RJ.step1 9 [2] (by kernel_rfl) ⟨by decide, rfl⟩ ?_
        refine RO.of (listed' := #[true, true, true, true, true, true, true, true, true, true]) rfl rfl ?_
        refine SJ.storeRL (k := 1) (i := (Int.toNat 0)) (off := 3) (us := [.int .i64 (w64 (e26.days + r28.1))]) (b := (SparePart.mk e30.name e30.stock e30.target (w64 (e26.days + r28.1)) e30.instead)) rfl rfl (idx_get h31) rfl rfl Tryd.sizeOf2 rfl rfl rfl ?_
        refine SJ.nil ?_
        refine PJ.draw ?_
        refine RJ.fin [2] (by kernel_rfl) ⟨by decide, rfl⟩ ?_
        exact PJ.joined (r28.2.at_, r28.2.seed, (List.set l11 (Int.toNat 0) (SparePart.mk e30.name e30.stock e30.target (w64 (e26.days + r28.1)) e30.instead))) [0, 1, 2] hm ⟨rfl, rfl, rfl, trivial⟩ ⟨by decide, rfl⟩
      · intro hD32
        refine RJ.step2 1 5 [2] (by kernel_rfl) ⟨by decide, rfl⟩ ?_ ?_
        · refine RO.of (listed' := #[true, true, false, false, true, false, false, false, false, false]) rfl rfl ?_
          refine SJ.q (YldS.yld (y_ixRow (k := 0) (R := fSparePart) rfl Tryd.runUnderlying25 Tryd.sizeOf46 rfl rfl h27)) rfl ?_
          refine SJ.nil ?_
          refine PJ.draw ?_
          refine RJ.first 2 (listed' := #[true, true, true, false, true, false, false, false, false, false]) [2] rfl (by kernel_rfl) rfl ⟨by decide, rfl⟩ (y_fldR fld46_3 rfl) rfl ?_
          refine RJ.step2 3 5 [2] (by kernel_rfl) ⟨by decide, rfl⟩ ?_ ?_
          · refine RO.of (listed' := #[true, true, true, true, true, false, false, false, false, false]) rfl rfl ?_
            refine SJ.q (YldS.yld (y_loadR (k := 0) (i := (Int.toNat 0)) (off := 3) (u := .int .i64 e26.days) rfl Tryd.isAgg2 rfl (idx_get h27) rfl)) rfl ?_
            refine SJ.nil ?_
            refine PJ.draw ?_
            refine RJ.step1 5 [2] (by kernel_rfl) ⟨by decide, rfl⟩ ?_
            refine RO.of (listed' := #[true, true, true, true, true, true, false, false, false, false]) rfl rfl ?_
            refine SJ.call1 (k := 1) rfl Tryd.call44 rfl (fun w S hw hA hO => ok_s_l00Src_pick h29 w S _ (hr3.st1 hw hO) hA) rfl ?_
            rintro _ _ ⟨rfl, rfl⟩
            refine SJ.nil ?_
            refine PJ.draw ?_
            exact RJ.weak (hD32 ()) [0, 1, 2] ⟨rfl, rfl, rfl, rfl, rfl, rfl, trivial⟩ ⟨by decide, rfl⟩
          · refine RO.of (listed' := #[true, true, true, false, true, true, false, false, false, false]) rfl rfl ?_
            refine SJ.call1 (k := 1) rfl Tryd.call44 rfl (fun w S hw hA hO => ok_s_l00Src_pick h29 w S _ (hr3.st1 hw hO) hA) rfl ?_
            rintro _ _ ⟨rfl, rfl⟩
            refine SJ.nil ?_
            refine PJ.draw ?_
            refine RJ.step1 3 [2] (by kernel_rfl) ⟨by decide, rfl⟩ ?_
            refine RO.of (listed' := #[true, true, true, true, true, true, false, false, false, false]) rfl rfl ?_
            refine SJ.q (YldS.yld (y_loadR (k := 1) (i := (Int.toNat 0)) (off := 3) (u := .int .i64 e26.days) rfl Tryd.isAgg2 rfl (idx_get h27) rfl)) rfl ?_
            refine SJ.nil ?_
            refine PJ.draw ?_
            exact RJ.weak (hD32 ()) [0, 1, 2] ⟨rfl, rfl, rfl, rfl, rfl, rfl, trivial⟩ ⟨by decide, rfl⟩
        · refine RO.of (listed' := #[true, false, false, false, true, true, false, false, false, false]) rfl rfl ?_
          refine SJ.call1 (k := 1) rfl Tryd.call44 rfl (fun w S hw hA hO => ok_s_l00Src_pick h29 w S _ (hr3.st1 hw hO) hA) rfl ?_
          rintro _ _ ⟨rfl, rfl⟩
          refine SJ.nil ?_
          refine PJ.draw ?_
          refine RJ.step1 1 [2] (by kernel_rfl) ⟨by decide, rfl⟩ ?_
          refine RO.of (listed' := #[true, true, false, false, true, true, false, false, false, false]) rfl rfl ?_
          refine SJ.q (YldS.yld (y_ixRow (k := 1) (R := fSparePart) rfl Tryd.runUnderlying25 Tryd.sizeOf46 rfl rfl h27)) rfl ?_
          refine SJ.nil ?_
          refine PJ.draw ?_
          refine RJ.first 2 (listed' := #[true, true, true, false, true, true, false, false, false, false]) [2] rfl (by kernel_rfl) rfl ⟨by decide, rfl⟩ (y_fldR fld46_3 rfl) rfl ?_
          refine RJ.step1 3 [2] (by kernel_rfl) ⟨by decide, rfl⟩ ?_
          refine RO.of (listed' := #[true, true, true, true, true, true, false, false, false, false]) rfl rfl ?_
          refine SJ.q (YldS.yld (y_loadR (k := 1) (i := (Int.toNat 0)) (off := 3) (u := .int .i64 e26.days) rfl Tryd.isAgg2 rfl (idx_get h27) rfl)) rfl ?_
          refine SJ.nil ?_
          refine PJ.draw ?_
          exact RJ.weak (hD32 ()) [0, 1, 2] ⟨rfl, rfl, rfl, rfl, rfl, rfl, trivial⟩ ⟨by decide, rfl⟩
    · replace hm := ifF hm hb25
      refine WJ.skip ?_
      exact PJ.joined (x21.2.at_, x21.2.seed, l11) [1, 0, 2] hm ⟨rfl, rfl, rfl, trivial⟩ ⟨by decide, rfl⟩
  · rintro ⟨x14, x15, l16⟩ hm
    subst hk18
    obtain ⟨kj35, hk36, hm⟩ := withK_open hm
    refine WJ.join (X := (List SparePart) × Value) (fun (x : (List SparePart) × Value) => kj35 x.1 = some r) (fun (x : (List SparePart) × Value) => [(5, v9), (6, x.2)]) (fun (x : (List SparePart) × Value) => [row x.2 46 fSparePart x.1, row v9 46 fSparePart r7.1]) ?_ ?_
    · clear hk36
      refine WJ.seq ?_
      refine WJ.reg ?_
      refine SJ.q (YldS.yld (y_move rfl)) rfl ?_
      obtain ⟨r37, h38, hm⟩ := bindS hm
      refine SJ.call1 (k := 0) rfl Tryd.call43 rfl (fun w S hw hA hO => ok_s_l00Src_one h38 w S _ (hr3.st1 hw hO) hA) rfl ?_
      rintro _ _ ⟨rfl, rfl⟩
      refine SJ.nil ?_
      refine PJ.next ?_
      refine WJ.cond (t := r37.1) rfl (fun hb39 => ?_) (fun hb39 => ?_)
      · replace hm := ifT hm hb39
        refine WJ.reg ?_
        refine SJ.q (YldS.yld (y_move rfl)) rfl ?_
        refine SJ.q (YldS.yld (y_build (parts := []) (places := [(0, 1), (1, 1), (2, 1), (3, 1), (4, 1)]) (r := [str ((SparePart.mk [] 0 0 0 0).name), .int .i64 ((SparePart.mk [] 0 0 0 0).stock), .int .i64 ((SparePart.mk [] 0 0 0 0).target), .int .i64 ((SparePart.mk [] 0 0 0 0).days), .int .i64 ((SparePart.mk [] 0 0 0 0).instead)]) pl46 Tryd.zeroValue46 rfl rfl rfl rfl)) rfl ?_
        refine SJ.buildSlice (R := fSparePart) (os := [.tmp 33]) [(SparePart.mk [] 0 0 0 0)] Tryd.runUnderlying25 Tryd.sizeOf46 Tryd.zeroValue46 rfl rfl rfl rfl rfl rfl fun v40 => ?_
        obtain ⟨l41, h42, hm⟩ := bindS hm
        refine SJ.append (k := 2) (R := fSparePart) h42 rfl Tryd.underlying25 el46 rfl rfl rfl (fun w hw => (hw.row_rd (k := 0) rfl)) rfl fun v43 => ?_
        refine SJ.q (YldS.yld (y_assign rfl)) rfl ?_
        refine SJ.nil ?_
        exact PJ.joined (l41, v43) [2, 3] hm ⟨rfl, rfl, trivial⟩ ⟨by decide, rfl⟩
      · replace hm := ifF hm hb39
        refine WJ.skip ?_
        exact PJ.joined (l16, v13) [1, 2] hm ⟨rfl, rfl, trivial⟩ ⟨by decide, rfl⟩
    · rintro ⟨l33, v34⟩ hm
      subst hk36
      refine WJ.seq ?_
      refine WJ.quiet ?_
      refine QJ.step (YldS.yld (y_move rfl)) rfl ?_
      refine QJ.step (YldS.yld (y_move rfl)) rfl ?_
      refine QJ.step (YldS.yld (y_assign rfl)) rfl ?_
      refine QJ.step (YldS.yld (y_assign rfl)) rfl ?_
      refine QJ.done ?_
      refine PJ.next ?_
      refine WJ.ret ?_
      obtain rfl := Option.some.inj hm
      refine PJ.sel (L' := [row v9 46 fSparePart r7.1, row v34 46 fSparePart l33]) [1, 0] ⟨by decide, rfl⟩ ?_
      exact PJ.retn (vs := [v9, v34]) Tryd.results21 ⟨rfl, rfl, trivial⟩ ⟨_, _, rfl, rfl⟩

set_option maxRecDepth 100000 in
set_option maxHeartbeats 1000000 in
theorem ok_s_SameParts {N : Nat} {a1 : List SparePart} {b4 : List SparePart} {r : Bool} (hm : s_SameParts N a1 b4 = some r) (w : World) (v2 : Value) (hr3 : RdS w (cx w).Fz v2 fSparePart.rp a1) (v5 : Value) (hr6 : RdS w (cx w).Fz v5 fSparePart.rp b4) :
    Calls Tryd.prog 22 #[v2, v5] w (Ret (cx w) (.bool r)) := by
  unfold s_SameParts at hm
  refine Calls.enter [v2, v5] Tryd.func22 rfl Tryd.ntmps22 rfl ?_
  refine WJ.seq ?_
  refine WJ.quiet ?_
  refine QJ.step (YldS.yld (y_assign rfl)) rfl ?_
  refine QJ.done ?_
  refine PJ.next ?_
  refine WJ.seq ?_
  refine WJ.seq ?_
  refine WJ.quiet ?_
  refine QJ.step (YldS.yld (y_move rfl)) rfl ?_
  refine QJ.step (YldS.yld (y_lenS Tryd.runUnderlying25 hr3 rfl)) rfl ?_
  refine QJ.step (YldS.yld (y_move rfl)) rfl ?_
  refine QJ.step (YldS.yld (y_lenS Tryd.runUnderlying25 hr6 rfl)) rfl ?_
  refine QJ.step (YldS.yld (y_bin rfl rfl rfl)) rfl ?_
  refine QJ.done ?_
  refine PJ.next ?_
  refine WJ.cond (t := ((List.length a1 : Int) != (List.length b4 : Int))) rfl (fun hb7 => ?_) (fun hb7 => ?_)
  · replace hm := ifT hm hb7
    refine WJ.seq ?_
    refine WJ.quiet ?_
    refine QJ.step (YldS.yld (y_assign rfl)) rfl ?_
    refine QJ.done ?_
    refine PJ.next ?_
    refine WJ.ret ?_
    refine PJ.then_ret ?_
    obtain rfl := Option.some.inj hm
    refine PJ.sel (L' := []) [] ⟨List.nodup_nil, rfl⟩ ?_
    exact PJ.retn (vs := [.bool false]) Tryd.results22 ⟨rfl, trivial⟩ ⟨rfl, rfl⟩
  · replace hm := ifF hm hb7
    refine WJ.skip ?_
    refine PJ.next ?_
    obtain ⟨kj8, hk9, hm⟩ := withK_open hm
    refine WJ.join (X := Unit) (fun (_ : Unit) => kj8  = some r) (fun (_ : Unit) => []) (fun (_ : Unit) => []) ?_ ?_
    · clear hk9
      refine WJ.seq ?_
      refine WJ.quiet ?_
      refine QJ.step (YldS.yld (y_assign rfl)) rfl ?_
      refine QJ.done ?_
      refine PJ.next ?_
      refine WJ.block ?_
      refine WJ.sel (L' := (fun (x : Int) => []) 0) [] ⟨List.nodup_nil, rfl⟩ ?_
      refine WJ.sub (m' := (fun (x : Int) => [(0, v2), (1, v5), (5, .int .i64 x)]) 0) ⟨rfl, rfl, rfl, trivial⟩ ?_
      refine WJ.loop (X := Int) (fun N (x : Int) => s_SameParts_l1 kj8 a1 b4 N x = some r) (fun (x : Int) => [(0, v2), (1, v5), (5, .int .i64 x)]) (fun (x : Int) => []) ?_ N 0 hm
      · rintro N i10 hI
        have hm := hI; clear hI
        cases N with
        | zero => cases hm
        | succ N =>
        unfold s_SameParts_l1 at hm
        refine WJ.seq ?_
        refine WJ.seq ?_
        refine WJ.quiet ?_
        refine QJ.step (YldS.yld (y_move rfl)) rfl ?_
        refine QJ.step (YldS.yld (y_move rfl)) rfl ?_
        refine QJ.step (YldS.yld (y_lenS Tryd.runUnderlying25 hr3 rfl)) rfl ?_
        refine QJ.step (YldS.yld (y_bin rfl rfl rfl)) rfl ?_
        refine QJ.done ?_
        refine PJ.next ?_
        refine WJ.cond (t := decide (i10 < (List.length a1 : Int))) rfl (fun hb11 => ?_) (fun hb11 => ?_)
        · replace hm := ifT hm hb11
          refine WJ.skip ?_
          refine PJ.next ?_
          refine WJ.seq ?_
          refine WJ.block ?_
          refine WJ.seq ?_
          refine WJ.quiet_draw follows (by kernel_rfl) ?_
          refine QJ.step (YldS.yld (y_move rfl)) rfl ?_
          refine QJ.step (YldS.yld (y_move rfl)) rfl ?_
          obtain ⟨e12, h13, hm⟩ := bindS hm
          obtain ⟨ad14, _, rfl, ha15, hy16⟩ := hr3.elem h13
          refine QJ.step (YldS.yld (hy16 Tryd.runUnderlying25 Tryd.sizeOf46 rfl rfl)) rfl ?_
          refine QJ.step (YldS.yld (y_loadN Tryd.isAgg46 Tryd.sizeOf46 rfl ha15 St.frozenC rfl)) rfl ?_
          refine QJ.step (YldS.yld (y_move rfl)) rfl ?_
          refine QJ.step (YldS.yld (y_move rfl)) rfl ?_
          obtain ⟨e17, h18, hm⟩ := bindS hm
          obtain ⟨ad19, _, rfl, ha20, hy21⟩ := hr6.elem h18
          refine QJ.step (YldS.yld (hy21 Tryd.runUnderlying25 Tryd.sizeOf46 rfl rfl)) rfl ?_
          refine QJ.step (YldS.yld (y_loadN Tryd.isAgg46 Tryd.sizeOf46 rfl ha20 St.frozenC rfl)) rfl ?_
          refine QJ.step (YldS.yld (y_neT e12 e17 eq46 rfl rfl)) rfl ?_
          refine QJ.done ?_
          refine PJ.next ?_
          refine WJ.cond (t := !(SparePart.beq e12 e17)) rfl (fun hb22 => ?_) (fun hb22 => ?_)
          · replace hm := ifT hm hb22
            refine WJ.seq ?_
            refine WJ.quiet ?_
            refine QJ.step (YldS.yld (y_assign rfl)) rfl ?_
            refine QJ.done ?_
            refine PJ.next ?_
            refine WJ.ret ?_
            refine PJ.block_ret (PJ.then_ret (PJ.then_ret (PJ.block_ret (PJ.then_ret ?_))))
            obtain rfl := Option.some.inj hm
            refine PJ.sel (L' := []) [] ⟨List.nodup_nil, rfl⟩ ?_
            exact PJ.retn (vs := [.bool false]) Tryd.results22 ⟨rfl, trivial⟩ ⟨rfl, rfl⟩
          · replace hm := ifF hm hb22
            refine WJ.skip ?_
            refine PJ.block_normal (PJ.next ?_)
            refine WJ.quiet ?_
            refine QJ.step (YldS.yld (y_move rfl)) rfl ?_
            refine QJ.step (YldS.yld (y_bin rfl rfl rfl)) rfl ?_
            refine QJ.step (YldS.yld (y_assign rfl)) rfl ?_
            refine QJ.done ?_
            exact PJ.round (w64 (i10 + 1)) [] hm ⟨rfl, rfl, rfl, trivial⟩ ⟨List.nodup_nil, rfl⟩
        · replace hm := ifF hm hb11
          refine WJ.exit ?_
          refine PJ.then_exit (PJ.then_exit (PJ.block_exit ?_))
          exact PJ.joined () [] hm trivial ⟨List.nodup_nil, rfl⟩
    · rintro _ hm
      subst hk9
      refine WJ.seq ?_
      refine WJ.quiet ?_
      refine QJ.step (YldS.yld (y_assign rfl)) rfl ?_
      refine QJ.done ?_
      refine PJ.next ?_
      refine WJ.ret ?_
      obtain rfl := Option.some.inj hm
      refine PJ.sel (L' := []) [] ⟨List.nodup_nil, rfl⟩ ?_
      exact PJ.retn (vs := [.bool true]) Tryd.results22 ⟨rfl, trivial⟩ ⟨rfl, rfl⟩

set_option maxRecDepth 100000 in
set_option maxHeartbeats 1000000 in
theorem ok_w_f6ints {N : Nat} {a1 : List Int} {b4 : List Int} {r : Bool} (hm : w_f6ints N a1 b4 = some r) (w : World) (v2 : Value) (hr3 : RdS w (cx w).Fz v2 fI64.rp a1) (v5 : Value) (hr6 : RdS w (cx w).Fz v5 fI64.rp b4) :
    Calls Tryd.prog 23 #[v2, v5] w (Ret (cx w) (.bool r)) := by
  unfold w_f6ints at hm
  refine Calls.enter [v2, v5] Tryd.func23 rfl Tryd.ntmps23 rfl ?_
  refine WJ.seq ?_
  refine WJ.quiet ?_
  refine QJ.step (YldS.yld (y_assign rfl)) rfl ?_
  refine QJ.done ?_
  refine PJ.next ?_
  refine WJ.seq ?_
  refine WJ.seq ?_
  refine WJ.quiet ?_
  refine QJ.step (YldS.yld (y_move rfl)) rfl ?_
  refine QJ.step (YldS.yld (y_lenS Tryd.runUnderlying38 hr3 rfl)) rfl ?_
  refine QJ.step (YldS.yld (y_move rfl)) rfl ?_
  refine QJ.step (YldS.yld (y_lenS Tryd.runUnderlying38 hr6 rfl)) rfl ?_
  refine QJ.step (YldS.yld (y_bin rfl rfl rfl)) rfl ?_
  refine QJ.done ?_
  refine PJ.next ?_
  refine WJ.cond (t := ((List.length a1 : Int) != (List.length b4 : Int))) rfl (fun hb7 => ?_) (fun hb7 => ?_)
  · replace hm := ifT hm hb7
    refine WJ.seq ?_
    refine WJ.quiet ?_
    refine QJ.step (YldS.yld (y_assign rfl)) rfl ?_
    refine QJ.done ?_
    refine PJ.next ?_
    refine WJ.ret ?_
    refine PJ.then_ret ?_
    obtain rfl := Option.some.inj hm
    refine PJ.sel (L' := []) [] ⟨List.nodup_nil, rfl⟩ ?_
    exact PJ.retn (vs := [.bool false]) Tryd.results23 ⟨rfl, trivial⟩ ⟨rfl, rfl⟩
  · replace hm := ifF hm hb7
    refine WJ.skip ?_
    refine PJ.next ?_
    obtain ⟨kj8, hk9, hm⟩ := withK_open hm
    refine WJ.join (X := Unit) (fun (_ : Unit) => kj8  = some r) (fun (_ : Unit) => []) (fun (_ : Unit) => []) ?_ ?_
    · clear hk9
      refine WJ.seq ?_
      refine WJ.quiet ?_
      refine QJ.step (YldS.yld (y_assign rfl)) rfl ?_
      refine QJ.done ?_
      refine PJ.next ?_
      refine WJ.block ?_
      refine WJ.sel (L' := (fun (x : Int) => []) 0) [] ⟨List.nodup_nil, rfl⟩ ?_
      refine WJ.sub (m' := (fun (x : Int) => [(0, v2), (1, v5), (5, .int .i64 x)]) 0) ⟨rfl, rfl, rfl, trivial⟩ ?_
      refine WJ.loop (X := Int) (fun N (x : Int) => w_f6ints_l1 kj8 a1 b4 N x = some r) (fun (x : Int) => [(0, v2), (1, v5), (5, .int .i64 x)]) (fun (x : Int) => []) ?_ N 0 hm
      · rintro N i10 hI
        have hm := hI; clear hI
        cases N with
        | zero => cases hm
        | succ N =>
        unfold w_f6ints_l1 at hm
        refine WJ.seq ?_
        refine WJ.seq ?_
        refine WJ.quiet ?_
        refine QJ.step (YldS.yld (y_move rfl)) rfl ?_
        refine QJ.step (YldS.yld (y_move rfl)) rfl ?_
        refine QJ.step (YldS.yld (y_lenS Tryd.runUnderlying38 hr3 rfl)) rfl ?_
        refine QJ.step (YldS.yld (y_bin rfl rfl rfl)) rfl ?_
        refine QJ.done ?_
        refine PJ.next ?_
        refine WJ.cond (t := decide (i10 < (List.length a1 : Int))) rfl (fun hb11 => ?_) (fun hb11 => ?_)
        · replace hm := ifT hm hb11
          refine WJ.skip ?_
          refine PJ.next ?_
          refine WJ.seq ?_
          refine WJ.block ?_
          refine WJ.seq ?_
          refine WJ.quiet_draw follows (by kernel_rfl) ?_
          refine QJ.step (YldS.yld (y_move rfl)) rfl ?_
          refine QJ.step (YldS.yld (y_move rfl)) rfl ?_
          obtain ⟨e12, h13, hm⟩ := bindS hm
          obtain ⟨ad14, _, rfl, ha15, hy16⟩ := hr3.elem h13
          refine QJ.step (YldS.yld (hy16 Tryd.runUnderlying38 Tryd.sizeOf2 rfl rfl)) rfl ?_
          refine QJ.step (YldS.yld (y_load1 (v := .int .i64 e12) Tryd.isAgg2 ha15 St.frozenC rfl)) rfl ?_
          refine QJ.step (YldS.yld (y_move rfl)) rfl ?_
          refine QJ.step (YldS.yld (y_move rfl)) rfl ?_
          obtain ⟨e17, h18, hm⟩ := bindS hm
          obtain ⟨ad19, _, rfl, ha20, hy21⟩ := hr6.elem h18
          refine QJ.step (YldS.yld (hy21 Tryd.runUnderlying38 Tryd.sizeOf2 rfl rfl)) rfl ?_
          refine QJ.step (YldS.yld (y_load1 (v := .int .i64 e17) Tryd.isAgg2 ha20 St.frozenC rfl)) rfl ?_
          refine QJ.step (YldS.yld (y_bin rfl rfl rfl)) rfl ?_
          refine QJ.done ?_
          refine PJ.next ?_
          refine WJ.cond (t := (e12 != e17)) rfl (fun hb22 => ?_) (fun hb22 => ?_)
          · replace hm := ifT hm hb22
            refine WJ.seq ?_
            refine WJ.quiet ?_
            refine QJ.step (YldS.yld (y_assign rfl)) rfl ?_
            refine QJ.done ?_
            refine PJ.next ?_
            refine WJ.ret ?_
            refine PJ.block_ret (PJ.then_ret (PJ.then_ret (PJ.block_ret (PJ.then_ret ?_))))
            obtain rfl := Option.some.inj hm
            refine PJ.sel (L' := []) [] ⟨List.nodup_nil, rfl⟩ ?_
            exact PJ.retn (vs := [.bool false]) Tryd.results23 ⟨rfl, trivial⟩ ⟨rfl, rfl⟩
          · replace hm := ifF hm hb22
            refine WJ.skip ?_
            refine PJ.block_normal (PJ.next ?_)
            refine WJ.quiet ?_
            refine QJ.step (YldS.yld (y_move rfl)) rfl ?_
            refine QJ.step (YldS.yld (y_bin rfl rfl rfl)) rfl ?_
            refine QJ.step (YldS.yld (y_assign rfl)) rfl ?_
            refine QJ.done ?_
            exact PJ.round (w64 (i10 + 1)) [] hm ⟨rfl, rfl, rfl, trivial⟩ ⟨List.nodup_nil, rfl⟩
        · replace hm := ifF hm hb11
          refine WJ.exit ?_
          refine PJ.then_exit (PJ.then_exit (PJ.block_exit ?_))
          exact PJ.joined () [] hm trivial ⟨List.nodup_nil, rfl⟩
    · rintro _ hm
      subst hk9
      refine WJ.seq ?_
      refine WJ.quiet ?_
      refine QJ.step (YldS.yld (y_assign rfl)) rfl ?_
      refine QJ.done ?_
      refine PJ.next ?_
      refine WJ.ret ?_
      obtain rfl := Option.some.inj hm
      refine PJ.sel (L' := []) [] ⟨List.nodup_nil, rfl⟩ ?_
      exact PJ.retn (vs := [.bool true]) Tryd.results23 ⟨rfl, trivial⟩ ⟨rfl, rfl⟩

set_option maxRecDepth 100000 in
set_option maxHeartbeats 1000000 in
theorem ok_i_SameParts {N : Nat} {a1 : List SparePart} {b4 : List SparePart} {r : Bool} (hm : i_SameParts N a1 b4 = some r) (w : World) (v2 : Value) (hr3 : RdS w (cx w).Fz v2 fSparePart.rp a1) (v5 : Value) (hr6 : RdS w (cx w).Fz v5 fSparePart.rp b4) :
    Calls Tryd.prog 24 #[v2, v5] w (Ret (cx w) (.bool r)) := by
  unfold i_SameParts at hm
  refine Calls.enter [v2, v5] Tryd.func24 rfl Tryd.ntmps24 rfl ?_
  refine WJ.seq ?_
  refine WJ.quiet ?_
  refine QJ.step (YldS.yld (y_assign rfl)) rfl ?_
  refine QJ.done ?_
  refine PJ.next ?_
  refine WJ.seq ?_
  refine WJ.seq ?_
  refine WJ.quiet ?_
  refine QJ.step (YldS.yld (y_move rfl)) rfl ?_
  refine QJ.step (YldS.yld (y_lenS Tryd.runUnderlying25 hr3 rfl)) rfl ?_
  refine QJ.step (YldS.yld (y_move rfl)) rfl ?_
  refine QJ.step (YldS.yld (y_lenS Tryd.runUnderlying25 hr6 rfl)) rfl ?_
  refine QJ.step (YldS.yld (y_bin rfl rfl rfl)) rfl ?_
  refine QJ.done ?_
  refine PJ.next ?_
  refine WJ.cond (t := ((List.length a1 : Int) != (List.length b4 : Int))) rfl (fun hb7 => ?_) (fun hb7 => ?_)
  · replace hm := ifT hm hb7
    refine WJ.seq ?_
    refine WJ.quiet ?_
    refine QJ.step (YldS.yld (y_assign rfl)) rfl ?_
    refine QJ.done ?_
    refine PJ.next ?_
    refine WJ.ret ?_
    refine PJ.then_ret ?_
    obtain rfl := Option.some.inj hm
    refine PJ.sel (L' := []) [] ⟨List.nodup_nil, rfl⟩ ?_
    exact PJ.retn (vs := [.bool false]) Tryd.results24 ⟨rfl, trivial⟩ ⟨rfl, rfl⟩
  · replace hm := ifF hm hb7
    refine WJ.skip ?_
    refine PJ.next ?_
    obtain ⟨kj8, hk9, hm⟩ := withK_open hm
    refine WJ.join (X := Unit) (fun (_ : Unit) => kj8  = some r) (fun (_ : Unit) => []) (fun (_ : Unit) => []) ?_ ?_
    · clear hk9
      refine WJ.seq ?_
      refine WJ.quiet ?_
      refine QJ.step (YldS.yld (y_move rfl)) rfl ?_
      refine QJ.step (YldS.yld (y_lenS Tryd.runUnderlying25 hr3 rfl)) rfl ?_
      refine QJ.step (YldS.yld (y_move rfl)) rfl ?_
      refine QJ.done ?_
      refine PJ.next ?_
      refine WJ.block ?_
      refine WJ.sel (L' := (fun (x : Int) => []) 0) [] ⟨List.nodup_nil, rfl⟩ ?_
      refine WJ.sub (m' := (fun (x : Int) => [(0, v2), (1, v5), (12, .int .i64 (List.length a1 : Int)), (13, .int .i64 x)]) 0) ⟨rfl, rfl, rfl, rfl, trivial⟩ ?_
      refine WJ.loop (X := Int) (fun N (x : Int) => i_SameParts_l1 kj8 a1 b4 N x = some r) (fun (x : Int) => [(0, v2), (1, v5), (12, .int .i64 (List.length a1 : Int)), (13, .int .i64 x)]) (fun (x : Int) => []) ?_ N 0 hm
      · rintro N x10 hI
        have hm := hI; clear hI
        cases N with
        | zero => cases hm
        | succ N =>
        unfold i_SameParts_l1 at hm
        refine WJ.seq ?_
        refine WJ.quiet ?_
        refine QJ.step (YldS.yld (y_bin rfl rfl rfl)) rfl ?_
        refine QJ.done ?_
        refine PJ.next ?_
        refine WJ.seq ?_
        refine WJ.cond (t := decide (x10 < (List.length a1 : Int))) rfl (fun hb11 => ?_) (fun hb11 => ?_)
        · replace hm := ifT hm hb11
          refine WJ.skip ?_
          refine PJ.next ?_
          refine WJ.seq ?_
          refine WJ.block ?_
          refine WJ.seq ?_
          refine WJ.quiet ?_
          refine QJ.step (YldS.yld (y_move rfl)) rfl ?_
          refine QJ.step (YldS.yld (y_assign rfl)) rfl ?_
          refine QJ.done ?_
          refine PJ.next ?_
          refine WJ.seq ?_
          refine WJ.quiet_draw follows (by kernel_rfl) ?_
          refine QJ.step (YldS.yld (y_move rfl)) rfl ?_
          refine QJ.step (YldS.yld (y_move rfl)) rfl ?_
          obtain ⟨e12, h13, hm⟩ := bindS hm
          obtain ⟨ad14, _, rfl, ha15, hy16⟩ := hr3.elem h13
          refine QJ.step (YldS.yld (hy16 Tryd.runUnderlying25 Tryd.sizeOf46 rfl rfl)) rfl ?_
          refine QJ.step (YldS.yld (y_loadN Tryd.isAgg46 Tryd.sizeOf46 rfl ha15 St.frozenC rfl)) rfl ?_
          refine QJ.step (YldS.yld (y_move rfl)) rfl ?_
          refine QJ.step (YldS.yld (y_move rfl)) rfl ?_
          obtain ⟨e17, h18, hm⟩ := bindS hm
          obtain ⟨ad19, _, rfl, ha20, hy21⟩ := hr6.elem h18
          refine QJ.step (YldS.yld (hy21 Tryd.runUnderlying25 Tryd.sizeOf46 rfl rfl)) rfl ?_
          refine QJ.step (YldS.yld (y_loadN Tryd.isAgg46 Tryd.sizeOf46 rfl ha20 St.frozenC rfl)) rfl ?_
          refine QJ.step (YldS.yld (y_neT e12 e17 eq46 rfl rfl)) rfl ?_
          refine QJ.done ?_
          refine PJ.next ?_
          refine WJ.cond (t := !(SparePart.beq e12 e17)) rfl (fun hb22 => ?_) (fun hb22 => ?_)
          · replace hm := ifT hm hb22
            refine WJ.seq ?_
            refine WJ.quiet ?_
            refine QJ.step (YldS.yld (y_assign rfl)) rfl ?_
            refine QJ.done ?_
            refine PJ.next ?_
            refine WJ.ret ?_
            refine PJ.block_ret (PJ.then_ret (PJ.then_ret (PJ.block_ret (PJ.then_ret ?_))))
            obtain rfl := Option.some.inj hm
            refine PJ.sel (L' := []) [] ⟨List.nodup_nil, rfl⟩ ?_
            exact PJ.retn (vs := [.bool false]) Tryd.results24 ⟨rfl, trivial⟩ ⟨rfl, rfl⟩
          · replace hm := ifF hm hb22
            refine WJ.skip ?_
            refine PJ.block_normal (PJ.next ?_)
            refine WJ.quiet ?_
            refine QJ.step (YldS.yld (y_bin rfl rfl rfl)) rfl ?_
            refine QJ.step (YldS.yld (y_move rfl)) rfl ?_
            refine QJ.done ?_
            exact PJ.round (w64 (x10 + 1)) [] hm ⟨rfl, rfl, rfl, rfl, trivial⟩ ⟨List.nodup_nil, rfl⟩
        · replace hm := ifF hm hb11
          refine WJ.exit ?_
          refine PJ.then_exit (PJ.then_exit (PJ.block_exit ?_))
          exact PJ.joined () [] hm trivial ⟨List.nodup_nil, rfl⟩
    · rintro _ hm
      subst hk9
      refine WJ.seq ?_
      refine WJ.quiet ?_
      refine QJ.step (YldS.yld (y_assign rfl)) rfl ?_
      refine QJ.done ?_
      refine PJ.next ?_
      refine WJ.ret ?_
      obtain rfl := Option.some.inj hm
      refine PJ.sel (L' := []) [] ⟨List.nodup_nil, rfl⟩ ?_
      exact PJ.retn (vs := [.bool true]) Tryd.results24 ⟨rfl, trivial⟩ ⟨rfl, rfl⟩

theorem ok_fmtI {a b : Int} {r : Str} (hm : fmtI a b = some r) (w : World) (hT : Tab Tryd.prog tabNm w (cx w).Fz) :
    Calls Tryd.prog 48 #[.int .i64 a, .int .i64 b] w (Ret (cx w) (str r)) :=
  fmtI_ok (fun n h0 h1 w h => Any.strconv_FormatInt_10 Tryd.laysM173 n h0 h1 w h) hm w hT

set_option maxRecDepth 100000 in
set_option maxHeartbeats 1000000 in
theorem ok_i_Decimal {n1 : Int} {r : Str} (hm : i_Decimal n1 = some r) (w : World) (hT : Tab Tryd.prog tabNm w (cx w).Fz) :
    Calls Tryd.prog 33 #[.int .i64 n1] w (Ret (cx w) (str r)) := by
  unfold i_Decimal at hm
  refine Calls.enter [.int .i64 n1] Tryd.func33 rfl Tryd.ntmps33 rfl ?_
  refine WJ.seq ?_
  refine WJ.quiet ?_
  refine QJ.step (YldS.yld (y_assign rfl)) rfl ?_
  refine QJ.done ?_
  refine PJ.next ?_
  refine WJ.seq ?_
  refine WJ.quiet ?_
  refine QJ.step (YldS.yld (y_move rfl)) rfl ?_
  obtain ⟨r2, h3, hm⟩ := bindS hm
  refine QJ.step (y_call Tryd.call48 rfl (RetG.quiet fun w hw => ok_fmtI h3 w (hT.st hw))) rfl ?_
  refine QJ.step (YldS.yld (y_assign rfl)) rfl ?_
  refine QJ.done ?_
  refine PJ.next ?_
  refine WJ.ret ?_
  obtain rfl := Option.some.inj hm
  refine PJ.sel (L' := []) [] ⟨List.nodup_nil, rfl⟩ ?_
  exact PJ.retn (vs := [str r2]) Tryd.results33 ⟨rfl, trivial⟩ ⟨rfl, rfl⟩

set_option maxRecDepth 100000 in
set_option maxHeartbeats 1000000 in
theorem ok_i_PartText {N : Nat} {list1 : List SparePart} {k4 : Int} {r : Str} (hm : i_PartText N list1 k4 = some r) (w : World) (hT : Tab Tryd.prog tabNm w (cx w).Fz) (v2 : Value) (hr3 : RdS w (cx w).Fz v2 fSparePart.rp list1) :
    Calls Tryd.prog 8 #[v2, .int .i64 k4] w (Ret (cx w) (str r)) := by
  unfold i_PartText at hm
  refine Calls.enter [v2, .int .i64 k4] Tryd.func8 rfl Tryd.ntmps8 rfl ?_
  refine WJ.seq ?_
  refine WJ.quiet ?_
  refine QJ.step (YldS.yld (y_assign rfl)) rfl ?_
  refine QJ.done ?_
  refine PJ.next ?_
  refine WJ.seq ?_
  refine WJ.seq ?_
  refine WJ.quiet ?_
  refine QJ.step (YldS.yld (y_move rfl)) rfl ?_
  obtain ⟨r5, h6, hm⟩ := bindS hm
  refine QJ.step (y_call Tryd.call25 rfl (RetG.quiet fun w hw => ok_i_ValidParts h6 w _ (hr3.st hw))) rfl ?_
  refine QJ.step (YldS.yld (y_not rfl)) rfl ?_
  refine QJ.step (YldS.yld (y_move rfl)) rfl ?_
  obtain ⟨t7, h8, hm⟩ := bindS hm
  refine QJ.cut 7 [(0, v2), (1, .int .i64 k4), (17, .bool t7)] ?_ ?_
  · rcases Bool.eq_false_or_eq_true (!r5) with hb9 | hb9
    · obtain rfl := orT h8 hb9
      refine QJ.off rfl rfl (cB hb9) rfl rfl ?_
      refine QJ.off rfl rfl (cB hb9) rfl rfl ?_
      refine QJ.off rfl rfl (cB hb9) rfl rfl ?_
      refine QJ.off rfl rfl (cB hb9) rfl rfl ?_
      refine QJ.off rfl rfl (cB hb9) rfl rfl ?_
      refine QJ.off rfl rfl (cB hb9) rfl rfl ?_
      refine QJ.step (YldS.yld (y_pick_t (cB hb9) rfl)) rfl ?_
      exact QJ.cut_end ⟨rfl, rfl, rfl, trivial⟩
    · replace h8 := orF h8 hb9
      refine QJ.on rfl rfl (cB hb9) (YldS.yld (y_move rfl)) rfl ?_
      refine QJ.on rfl rfl (cB hb9) (YldS.yld (y_move rfl)) rfl ?_
      refine QJ.on rfl rfl (cB hb9) (YldS.yld (y_lenS Tryd.runUnderlying25 hr3 rfl)) rfl ?_
      refine QJ.on rfl rfl (cB hb9) (YldS.yld (y_bin rfl rfl rfl)) rfl ?_
      obtain ⟨r10, h11, h8⟩ := bindS h8
      refine QJ.on rfl rfl (cB hb9) (y_call Tryd.call32 rfl (RetG.quiet fun w hw => ok_i_between h11 w )) rfl ?_
      refine QJ.on rfl rfl (cB hb9) (YldS.yld (y_not rfl)) rfl ?_
      refine QJ.step (YldS.yld (y_pick_f (cB hb9) rfl)) rfl ?_
      obtain rfl := Option.some.inj h8
      exact QJ.cut_end ⟨rfl, rfl, rfl, trivial⟩
  refine QJ.done ?_
  refine PJ.next ?_
  refine WJ.cond (t := t7) rfl (fun hb12 => ?_) (fun hb12 => ?_)
  · replace hm := ifT hm hb12
    refine WJ.seq ?_
    refine WJ.quiet ?_
    refine QJ.step (YldS.yld (y_assign rfl)) rfl ?_
    refine QJ.done ?_
    refine PJ.next ?_
    refine WJ.ret ?_
    refine PJ.then_ret ?_
    obtain rfl := Option.some.inj hm
    refine PJ.sel (L' := []) [] ⟨List.nodup_nil, rfl⟩ ?_
    exact PJ.retn (vs := [str []]) Tryd.results8 ⟨rfl, trivial⟩ ⟨rfl, rfl⟩
  · replace hm := ifF hm hb12
    refine WJ.skip ?_
    refine PJ.next ?_
    refine WJ.seq ?_
    refine WJ.reg ?_
    refine SJ.q (YldS.yld (y_move rfl)) rfl ?_
    refine SJ.q (YldS.yld (y_move rfl)) rfl ?_
    obtain ⟨e13, h14, hm⟩ := bindS hm
    obtain ⟨ad15, _, rfl, ha16, hy17⟩ := hr3.elem h14
    refine SJ.q (YldS.yld (hy17 Tryd.runUnderlying25 Tryd.sizeOf46 rfl rfl)) rfl ?_
    refine SJ.q (YldS.yld (y_loadN Tryd.isAgg46 Tryd.sizeOf46 rfl ha16 St.frozenC rfl)) rfl ?_
    refine SJ.alloc (cs := [str [], .int .i64 0, .int .i64 0, .int .i64 0, .int .i64 0]) Tryd.zeroValue46 rfl rfl fun g18 => ?_
    refine SJ.storeL (k := 0) (off := 0) (us := [str e13.name, .int .i64 e13.stock, .int .i64 e13.target, .int .i64 e13.days, .int .i64 e13.instead]) rfl rfl rfl rfl Tryd.sizeOf46 rfl rfl ?_
    refine SJ.nil ?_
    refine PJ.next ?_
    refine WJ.seq ?_
    refine WJ.quiet_draw follows (by kernel_rfl) ?_
    refine QJ.step (YldS.yld (y_fldB (o := 0) fld46_0 rfl)) rfl ?_
    refine QJ.step (YldS.yld (y_loadB (k := 0) (off := 0) (v := str e13.name) rfl Tryd.isAgg9 rfl rfl)) rfl ?_
    obtain ⟨s19, h20, hm⟩ := bindS hm
    refine QJ.step (YldS.yld (y_cat h20 rfl rfl)) rfl ?_
    refine QJ.step (YldS.yld (y_fldB (o := 0) fld46_1 rfl)) rfl ?_
    refine QJ.step (YldS.yld (y_loadB (k := 0) (off := 1) (v := .int .i64 e13.stock) rfl Tryd.isAgg2 rfl rfl)) rfl ?_
    obtain ⟨r21, h22, hm⟩ := bindS hm
    refine QJ.step (y_call Tryd.call33 rfl (RetG.quiet fun w hw => ok_i_Decimal h22 w (hT.st hw))) rfl ?_
    obtain ⟨s23, h24, hm⟩ := bindS hm
    refine QJ.step (YldS.yld (y_cat h24 rfl rfl)) rfl ?_
    obtain ⟨s25, h26, hm⟩ := bindS hm
    refine QJ.step (YldS.yld (y_cat h26 rfl rfl)) rfl ?_
    refine QJ.step (YldS.yld (y_fldB (o := 0) fld46_2 rfl)) rfl ?_
    refine QJ.step (YldS.yld (y_loadB (k := 0) (off := 2) (v := .int .i64 e13.target) rfl Tryd.isAgg2 rfl rfl)) rfl ?_
    obtain ⟨r27, h28, hm⟩ := bindS hm
    refine QJ.step (y_call Tryd.call33 rfl (RetG.quiet fun w hw => ok_i_Decimal h28 w (hT.st hw))) rfl ?_
    obtain ⟨s29, h30, hm⟩ := bindS hm
    refine QJ.step (YldS.yld (y_cat h30 rfl rfl)) rfl ?_
    obtain ⟨s31, h32, hm⟩ := bindS hm
    refine QJ.step (YldS.yld (y_cat h32 rfl rfl)) rfl ?_
    refine QJ.step (YldS.yld (y_fldB (o := 0) fld46_3 rfl)) rfl ?_
    refine QJ.step (YldS.yld (y_loadB (k := 0) (off := 3) (v := .int .i64 e13.days) rfl Tryd.isAgg2 rfl rfl)) rfl ?_
    obtain ⟨r33, h34, hm⟩ := bindS hm
    refine QJ.step (y_call Tryd.call33 rfl (RetG.quiet fun w hw => ok_i_Decimal h34 w (hT.st hw))) rfl ?_
    obtain ⟨s35, h36, hm⟩ := bindS hm
    refine QJ.step (YldS.yld (y_cat h36 rfl rfl)) rfl ?_
    obtain ⟨s37, h38, hm⟩ := bindS hm
    refine QJ.step (YldS.yld (y_cat h38 rfl rfl)) rfl ?_
    refine QJ.step (YldS.yld (y_assign rfl)) rfl ?_
    refine QJ.done ?_
    refine PJ.next ?_
    obtain ⟨kj40, hk41, hm⟩ := withK_open hm
    refine WJ.join (X := Str) (fun (x : Str) => kj40 x = some r) (fun (x : Str) => [(6, str x)]) (fun (x : Str) => []) ?_ ?_
    · clear hk41
      refine WJ.seq ?_
      refine WJ.quiet ?_
      refine QJ.step (YldS.yld (y_fldB (o := 0) fld46_4 rfl)) rfl ?_
      refine QJ.step (YldS.yld (y_loadB (k := 0) (off := 4) (v := .int .i64 e13.instead) rfl Tryd.isAgg2 rfl rfl)) rfl ?_
      refine QJ.step (YldS.yld (y_bin rfl rfl rfl)) rfl ?_
      refine QJ.done ?_
      refine PJ.next ?_
      refine WJ.cond (t := decide (e13.instead ≥ 0)) rfl (fun hb42 => ?_) (fun hb42 => ?_)
      · replace hm := ifT hm hb42
        refine WJ.quiet ?_
        refine QJ.step (YldS.yld (y_move rfl)) rfl ?_
        refine QJ.step (YldS.yld (y_move rfl)) rfl ?_
        refine QJ.step (YldS.yld (y_fldB (o := 0) fld46_4 rfl)) rfl ?_
        refine QJ.step (YldS.yld (y_loadB (k := 0) (off := 4) (v := .int .i64 e13.instead) rfl Tryd.isAgg2 rfl rfl)) rfl ?_
        obtain ⟨e43, h44, hm⟩ := bindS hm
        obtain ⟨ad45, _, rfl, ha46, hy47⟩ := hr3.elem h44
        refine QJ.step (YldS.yld (hy47 Tryd.runUnderlying25 Tryd.sizeOf46 rfl rfl)) rfl ?_
        refine QJ.step (YldS.yld (y_fld (ad := ad45) fld46_0 rfl)) rfl ?_
        refine QJ.step (YldS.yld (y_load1 (v := str e43.name) Tryd.isAgg9 (ha46.sub 0 1) St.frozenC rfl)) rfl ?_
        obtain ⟨s48, h49, hm⟩ := bindS hm
        refine QJ.step (YldS.yld (y_cat h49 rfl rfl)) rfl ?_
        obtain ⟨s50, h51, hm⟩ := bindS hm
        refine QJ.step (YldS.yld (y_cat h51 rfl rfl)) rfl ?_
        refine QJ.step (YldS.yld (y_assign rfl)) rfl ?_
        refine QJ.done ?_
        exact PJ.joined s50 [] hm ⟨rfl, trivial⟩ ⟨List.nodup_nil, rfl⟩
      · replace hm := ifF hm hb42
        refine WJ.skip ?_
        exact PJ.joined s37 [] hm ⟨rfl, trivial⟩ ⟨List.nodup_nil, rfl⟩
    · rintro out39 hm
      subst hk41
      refine WJ.seq ?_
      refine WJ.quiet ?_
      refine QJ.step (YldS.yld (y_move rfl)) rfl ?_
      refine QJ.step (YldS.yld (y_assign rfl)) rfl ?_
      refine QJ.done ?_
      refine PJ.next ?_
      refine WJ.ret ?_
      obtain rfl := Option.some.inj hm
      refine PJ.sel (L' := []) [] ⟨List.nodup_nil, rfl⟩ ?_
      exact PJ.retn (vs := [str out39]) Tryd.results8 ⟨rfl, trivial⟩ ⟨rfl, rfl⟩

end Go.Proofs.YtdnnnakjhehfkaaDoor
