/-
  The walks: a call hands back what its plain function computes, where that has a value. No other conditions.
-/
import Derived.Test.YtpodlgibcfbbiaaDoorFnPressesM
import Derived.Test.YtpodlgibcfbbiaaDoorChecked
import Derived.Test.YtpodlgibcfbbiaaDoorRows
import Derived.Test.YtpodlgibcfbbiaaDoorFnPressesS
namespace Go.Proofs.YtpodlgibcfbbiaaDoor
open Go.RowKit Go.Proofs
set_option linter.unusedVariables false
set_option linter.unusedSimpArgs false

def tabNm : String := (Rows.fnPressesRow.laid.map (fun x => x.1)).getD 2 default

theorem follows : Tryd.prog.follows .mixedOrders = true := by kernel_rfl

def Key.enc (x : Key) : List Value := [str x.low, str x.high, .bool x.dead]
def fKey : FRp Key := ⟨3, Key.enc, fun _ => rfl, by decide, fun x u hu => by
  simp only [Key.enc, List.mem_cons, List.not_mem_nil, or_false] at hu
  rcases hu with rfl | rfl | rfl <;> rfl⟩

def Accent.enc (x : Accent) : List Value := [str x.mark, str x.letter, str x.made]
def fAccent : FRp Accent := ⟨3, Accent.enc, fun _ => rfl, by decide, fun x u hu => by
  simp only [Accent.enc, List.mem_cons, List.not_mem_nil, or_false] at hu
  rcases hu with rfl | rfl | rfl <;> rfl⟩

def Press.enc (x : Press) : List Value := [.int .i64 x.key, .bool x.shift]
def fPress : FRp Press := ⟨2, Press.enc, fun _ => rfl, by decide, fun x u hu => by
  simp only [Press.enc, List.mem_cons, List.not_mem_nil, or_false] at hu
  rcases hu with rfl | rfl <;> rfl⟩

theorem pl82 : PlacesOk Tryd.prog 82 [(0, 1), (1, 1), (2, 1)] := ⟨_, Tryd.runUnderlying82, fun w => by simp [Tryd.sizeOf3, Tryd.sizeOf22, Tryd.sizeOf80]⟩
theorem fld82_1 : FieldOk Tryd.prog 82 1 1 3 0 := ⟨_, _, Tryd.runUnderlying82, rfl, rfl, rfl, Tryd.sizeOf3⟩
theorem fld82_0 : FieldOk Tryd.prog 82 0 0 22 0 := ⟨_, _, Tryd.runUnderlying82, rfl, rfl, rfl, Tryd.sizeOf22⟩
theorem fld82_2 : FieldOk Tryd.prog 82 2 2 80 0 := ⟨_, _, Tryd.runUnderlying82, rfl, rfl, rfl, Tryd.sizeOf80⟩
theorem pl54 : PlacesOk Tryd.prog 54 [(0, 1), (1, 1), (2, 1)] := ⟨_, Tryd.runUnderlying54, fun w => by simp [Tryd.sizeOf4, Tryd.sizeOf9]⟩
set_option maxRecDepth 100000 in
theorem el54 : ElemOk Tryd.prog 54 3 (fKey.enc (Key.mk [] [] false)) := ⟨_, _, Tryd.type54, rfl, rfl, rfl, by decide⟩
theorem pl56 : PlacesOk Tryd.prog 56 [(0, 1), (1, 1), (2, 1)] := ⟨_, Tryd.runUnderlying56, fun w => by simp [Tryd.sizeOf9]⟩
theorem fld56_1 : FieldOk Tryd.prog 56 1 1 9 0 := ⟨_, _, Tryd.runUnderlying56, rfl, rfl, rfl, Tryd.sizeOf9⟩
theorem fld54_0 : FieldOk Tryd.prog 54 0 0 9 0 := ⟨_, _, Tryd.runUnderlying54, rfl, rfl, rfl, Tryd.sizeOf9⟩
theorem fld54_1 : FieldOk Tryd.prog 54 1 1 9 0 := ⟨_, _, Tryd.runUnderlying54, rfl, rfl, rfl, Tryd.sizeOf9⟩
theorem fld56_0 : FieldOk Tryd.prog 56 0 0 9 0 := ⟨_, _, Tryd.runUnderlying56, rfl, rfl, rfl, Tryd.sizeOf9⟩
theorem fld56_2 : FieldOk Tryd.prog 56 2 2 9 0 := ⟨_, _, Tryd.runUnderlying56, rfl, rfl, rfl, Tryd.sizeOf9⟩
theorem fld54_2 : FieldOk Tryd.prog 54 2 2 4 0 := ⟨_, _, Tryd.runUnderlying54, rfl, rfl, rfl, Tryd.sizeOf4⟩
set_option maxRecDepth 100000 in
theorem el56 : ElemOk Tryd.prog 56 3 (fAccent.enc (Accent.mk [] [] [])) := ⟨_, _, Tryd.type56, rfl, rfl, rfl, by decide⟩
theorem pl35 : PlacesOk Tryd.prog 35 [(0, 1), (1, 1)] := ⟨_, Tryd.runUnderlying35, fun w => by simp [Tryd.sizeOf2, Tryd.sizeOf4]⟩
theorem fld35_0 : FieldOk Tryd.prog 35 0 0 2 0 := ⟨_, _, Tryd.runUnderlying35, rfl, rfl, rfl, Tryd.sizeOf2⟩
set_option maxRecDepth 100000 in
theorem el35 : ElemOk Tryd.prog 35 2 (fPress.enc (Press.mk 0 false)) := ⟨_, _, Tryd.type35, rfl, rfl, rfl, by decide⟩
set_option maxRecDepth 100000 in
theorem zv49 : ∀ w, (zeroValue 49).run Tryd.prog w = .ok (.agg (List.toArray (encs fBool (List.replicate 256 false)))) w := fun w => by
  rw [Tryd.zeroValue49]
  refine congrArg (fun z => Result.ok (Value.agg z) w) ?_
  kernel_rfl
set_option maxRecDepth 100000 in
theorem el5 : ElemOk Tryd.prog 5 1 (fByte.enc 0) := ⟨_, _, Tryd.type5, rfl, rfl, rfl, by decide⟩
theorem fld35_1 : FieldOk Tryd.prog 35 1 1 4 0 := ⟨_, _, Tryd.runUnderlying35, rfl, rfl, rfl, Tryd.sizeOf4⟩
theorem eq35 : EqOk Tryd.prog 35 Press.enc Press.beq := ⟨Tryd.eqGuardType35, fun x y w => by
  have hf : Tryd.prog.fieldsOf 35 = #[{ name := "Key", type := 2, offset := 0, embedded := false, tag := "", pkgPath := "", byteOffset := 0 }, { name := "Shift", type := 4, offset := 1, embedded := false, tag := "", pkgPath := "", byteOffset := 8 }] := by kernel_rfl
  have ht : Tryd.prog.underlying 35 = some (.struct (Tryd.prog.fieldsOf 35)) := by rw [hf]; exact Tryd.underlying35
  rw [run_equalIn_struct w 9999 35 _ _ ht Tryd.stoodInHeld35, hf]
  obtain ⟨a0, a1⟩ := x
  obtain ⟨b0, b1⟩ := y
  simp only [Op.eqFields, Press.enc, Press.beq]
  simp [part, str, Tryd.isAgg2, Tryd.isAgg4, run_equalIn_int _ _ _ _ _ _ _ Tryd.underlying2, run_equalIn_bool' _ _ _ _ _ Tryd.underlying4, ByteArray.toList_eq]
  (repeat' split) <;> simp_all⟩

set_option maxRecDepth 100000 in
set_option maxHeartbeats 1000000 in
theorem ok_w_f6big {code1 : List UInt8} {r : Bool} (hm : w_f6big code1 = some r) (w : World) (v2 : Value) (hr3 : RdS w (cx w).Fz v2 fByte.rp code1) :
    Calls Tryd.prog 4 #[v2] w (Ret (cx w) (.bool r)) := by
  unfold w_f6big at hm
  refine Calls.enter [v2] Tryd.func4 rfl Tryd.ntmps4 rfl ?_
  refine WJ.seq ?_
  refine WJ.quiet ?_
  refine QJ.step (YldS.yld (y_assign rfl)) rfl ?_
  refine QJ.done ?_
  refine PJ.next ?_
  refine WJ.seq ?_
  refine WJ.quiet ?_
  refine QJ.step (YldS.yld (y_move rfl)) rfl ?_
  refine QJ.step (YldS.yld (y_lenS Tryd.runUnderlying22 hr3 rfl)) rfl ?_
  refine QJ.step (YldS.yld (y_bin rfl rfl rfl)) rfl ?_
  refine QJ.step (YldS.yld (y_assign rfl)) rfl ?_
  refine QJ.done ?_
  refine PJ.next ?_
  refine WJ.ret ?_
  obtain rfl := Option.some.inj hm
  refine PJ.sel (L' := []) [] ⟨List.nodup_nil, rfl⟩ ?_
  exact PJ.retn (vs := [.bool (decide ((List.length code1 : Int) > 4096))]) Tryd.results4 ⟨rfl, trivial⟩ ⟨rfl, rfl⟩

set_option maxRecDepth 100000 in
set_option maxHeartbeats 1000000 in
theorem ok_s_l00From {code1 : List UInt8} {r : L00Src} (hm : s_l00From code1 = some r) (w : World) (v2 : Value) (hr3 : RdS w (cx w).Fz v2 fByte.rp code1) :
    Calls Tryd.prog 32 #[v2] w (RetG (cx w) fun u L => ∃ (u1 : Nat), (u = pt u1 0 ∧ L = [box u1 82 [v2, .int .i64 r.at_, .int .u64 r.seed]])) := by
  unfold s_l00From at hm
  refine Calls.enter [v2] Tryd.func32 rfl Tryd.ntmps32 rfl ?_
  refine WJ.seq ?_
  refine WJ.quiet ?_
  refine QJ.step (YldS.yld (y_assign rfl)) rfl ?_
  refine QJ.done ?_
  refine PJ.next ?_
  refine WJ.seq ?_
  refine WJ.reg ?_
  refine SJ.q (YldS.yld (y_move rfl)) rfl ?_
  refine SJ.q (YldS.yld (y_build (parts := [(0, .tmp 3)]) (places := [(0, 1), (1, 1), (2, 1)]) (r := [v2, .int .i64 0, .int .u64 0]) pl82 Tryd.zeroValue82 rfl rfl (show _ = [(0, [v2])] from by simp only [List.map, RdS.cells1 hr3]) rfl)) rfl ?_
  refine SJ.box (cs := [v2, .int .i64 0, .int .u64 0]) rfl rfl rfl fun g4 => ?_
  refine SJ.q (YldS.yld (y_assign rfl)) rfl ?_
  refine SJ.nil ?_
  refine PJ.next ?_
  refine WJ.ret ?_
  obtain rfl := Option.some.inj hm
  refine PJ.sel (L' := [box g4 82 [v2, .int .i64 0, .int .u64 0]]) [0] ⟨by decide, rfl⟩ ?_
  exact PJ.retn (vs := [pt g4 0]) Tryd.results32 ⟨rfl, trivial⟩ ⟨_, rfl, rfl⟩

set_option maxRecDepth 100000 in
set_option maxHeartbeats 1000000 in
theorem ok_s_l00Src_next {s1 : L00Src} {g2 : Nat} {r : Int × L00Src} (hm : s_l00Src_next s1 = some r) (w : World) (S : Nat → Prop) (v3 : Value) (hr4 : RdS w (Cx.Fz ⟨w, S⟩) v3 fByte.rp s1.code) (hA : (box g2 82 [v3, .int .i64 s1.at_, .int .u64 s1.seed]).holds w S) :
    Calls Tryd.prog 52 #[pt g2 0] w (RetG ⟨w, S⟩ fun u L => (u = .int .i64 r.1 ∧ L = [box g2 82 [v3, .int .i64 r.2.at_, .int .u64 r.2.seed]])) := by
  unfold s_l00Src_next at hm
  refine Calls.enter1 hA [pt g2 0] Tryd.func52 rfl Tryd.ntmps52 rfl ?_
  refine WJ.seq ?_
  refine WJ.quiet ?_
  refine QJ.step (YldS.yld (y_assign rfl)) rfl ?_
  refine QJ.done ?_
  refine PJ.next ?_
  refine WJ.seq ?_
  refine WJ.quiet ?_
  refine QJ.step (YldS.yld (y_assign rfl)) rfl ?_
  refine QJ.done ?_
  refine PJ.next ?_
  obtain ⟨kj6, hk7, hm⟩ := withK_open hm
  refine WJ.join (X := Int) (fun (x : Int) => kj6 x = some r) (fun (x : Int) => [(0, pt g2 0), (3, .int .i64 x)]) (fun (x : Int) => [box g2 82 [v3, .int .i64 s1.at_, .int .u64 s1.seed]]) ?_ ?_
  · clear hk7
    refine WJ.seq ?_
    refine WJ.quiet_draw follows (by kernel_rfl) ?_
    refine QJ.step (YldS.yld (y_move rfl)) rfl ?_
    refine QJ.step (YldS.yld (y_nil rfl)) rfl ?_
    refine QJ.step (YldS.yld (y_fldB (o := 0) fld82_1 rfl)) rfl ?_
    refine QJ.step (YldS.yld (y_loadB (k := 0) (off := 1) (v := .int .i64 s1.at_) rfl Tryd.isAgg3 rfl rfl)) rfl ?_
    refine QJ.step (YldS.yld (y_move rfl)) rfl ?_
    refine QJ.step (YldS.yld (y_nil rfl)) rfl ?_
    refine QJ.step (YldS.yld (y_fldB (o := 0) fld82_0 rfl)) rfl ?_
    refine QJ.step (YldS.yld (y_loadB (k := 0) (off := 0) (v := v3) rfl Tryd.isAgg22 rfl rfl)) rfl ?_
    refine QJ.step (YldS.yld (y_lenS Tryd.runUnderlying22 hr4 rfl)) rfl ?_
    refine QJ.step (YldS.yld (y_bin rfl rfl rfl)) rfl ?_
    refine QJ.done ?_
    refine PJ.next ?_
    refine WJ.cond (t := decide (s1.at_ < (List.length s1.code : Int))) rfl (fun hb8 => ?_) (fun hb8 => ?_)
    · replace hm := ifT hm hb8
      refine WJ.quiet_draw follows (by kernel_rfl) ?_
      refine QJ.step (YldS.yld (y_move rfl)) rfl ?_
      refine QJ.step (YldS.yld (y_nil rfl)) rfl ?_
      refine QJ.step (YldS.yld (y_fldB (o := 0) fld82_0 rfl)) rfl ?_
      refine QJ.step (YldS.yld (y_loadB (k := 0) (off := 0) (v := v3) rfl Tryd.isAgg22 rfl rfl)) rfl ?_
      refine QJ.step (YldS.yld (y_move rfl)) rfl ?_
      refine QJ.step (YldS.yld (y_nil rfl)) rfl ?_
      refine QJ.step (YldS.yld (y_fldB (o := 0) fld82_1 rfl)) rfl ?_
      refine QJ.step (YldS.yld (y_loadB (k := 0) (off := 1) (v := .int .i64 s1.at_) rfl Tryd.isAgg3 rfl rfl)) rfl ?_
      obtain ⟨e9, h10, hm⟩ := bindS hm
      obtain ⟨ad11, _, rfl, ha12, hy13⟩ := hr4.elem h10
      refine QJ.step (YldS.yld (hy13 Tryd.runUnderlying22 Tryd.sizeOf5 rfl rfl)) rfl ?_
      refine QJ.step (YldS.yld (y_load1 (v := .int .u8 (UInt8.toNat e9 : Int)) Tryd.isAgg5 ha12 St.frozenC rfl)) rfl ?_
      refine QJ.step (YldS.yld (y_conv8 Tryd.runUnderlying5 Tryd.runUnderlying3 rfl)) rfl ?_
      refine QJ.step (YldS.yld (y_assign rfl)) rfl ?_
      refine QJ.done ?_
      exact PJ.joined (UInt8.toNat e9 : Int) [0] hm ⟨rfl, rfl, trivial⟩ ⟨by decide, rfl⟩
    · replace hm := ifF hm hb8
      refine WJ.skip ?_
      exact PJ.joined 0 [0] hm ⟨rfl, rfl, trivial⟩ ⟨by decide, rfl⟩
  · rintro b5 hm
    subst hk7
    refine WJ.seq ?_
    refine WJ.reg ?_
    refine SJ.q (YldS.yld (y_move rfl)) rfl ?_
    refine SJ.q (YldS.yld (y_nil rfl)) rfl ?_
    refine SJ.q (YldS.yld (y_fldB (o := 0) fld82_1 rfl)) rfl ?_
    refine SJ.q (YldS.yld (y_loadB (k := 0) (off := 1) (v := .int .i64 s1.at_) rfl Tryd.isAgg3 rfl rfl)) rfl ?_
    refine SJ.q (YldS.yld (y_bin rfl rfl rfl)) rfl ?_
    refine SJ.q (YldS.yld (y_nil rfl)) rfl ?_
    refine SJ.q (YldS.yld (y_fldB (o := 0) fld82_1 rfl)) rfl ?_
    refine SJ.storeL (k := 0) (off := 1) (us := [.int .i64 (w64 (s1.at_ + 1))]) rfl rfl rfl rfl Tryd.sizeOf3 rfl rfl ?_
    refine SJ.nil ?_
    refine PJ.next ?_
    refine WJ.seq ?_
    refine WJ.reg ?_
    refine SJ.q (YldS.yld (y_move rfl)) rfl ?_
    refine SJ.q (YldS.yld (y_move rfl)) rfl ?_
    refine SJ.q (YldS.yld (y_nil rfl)) rfl ?_
    refine SJ.q (YldS.yld (y_fldB (o := 0) fld82_2 rfl)) rfl ?_
    refine SJ.q (YldS.yld (y_loadB (k := 0) (off := 2) (v := .int .u64 s1.seed) rfl Tryd.isAgg80 rfl rfl)) rfl ?_
    refine SJ.q (YldS.yld (y_bin rfl rfl rfl)) rfl ?_
    refine SJ.q (YldS.yld (y_move rfl)) rfl ?_
    refine SJ.q (YldS.yld (y_convI Tryd.runUnderlying3 Tryd.runUnderlying80 rfl)) rfl ?_
    refine SJ.q (YldS.yld (y_bin rfl rfl rfl)) rfl ?_
    refine SJ.q (YldS.yld (y_bin rfl rfl rfl)) rfl ?_
    refine SJ.q (YldS.yld (y_nil rfl)) rfl ?_
    refine SJ.q (YldS.yld (y_fldB (o := 0) fld82_2 rfl)) rfl ?_
    refine SJ.storeL (k := 0) (off := 2) (us := [.int .u64 (IntKind.u64.wrap ((IntKind.u64.wrap ((IntKind.u64.wrap (s1.seed * 6364136223846793005)) + (IntKind.u64.wrap b5))) + 1442695040888963407))]) rfl rfl rfl rfl Tryd.sizeOf80 rfl rfl ?_
    refine SJ.nil ?_
    refine PJ.next ?_
    refine WJ.seq ?_
    refine WJ.seq ?_
    refine WJ.quiet_draw follows (by kernel_rfl) ?_
    refine QJ.step (YldS.yld (y_move rfl)) rfl ?_
    refine QJ.step (YldS.yld (y_nil rfl)) rfl ?_
    refine QJ.step (YldS.yld (y_fldB (o := 0) fld82_1 rfl)) rfl ?_
    refine QJ.step (YldS.yld (y_loadB (k := 0) (off := 1) (v := .int .i64 (w64 (s1.at_ + 1))) rfl Tryd.isAgg3 rfl rfl)) rfl ?_
    refine QJ.step (YldS.yld (y_move rfl)) rfl ?_
    refine QJ.step (YldS.yld (y_nil rfl)) rfl ?_
    refine QJ.step (YldS.yld (y_fldB (o := 0) fld82_0 rfl)) rfl ?_
    refine QJ.step (YldS.yld (y_loadB (k := 0) (off := 0) (v := v3) rfl Tryd.isAgg22 rfl rfl)) rfl ?_
    refine QJ.step (YldS.yld (y_lenS Tryd.runUnderlying22 hr4 rfl)) rfl ?_
    refine QJ.step (YldS.yld (y_bin rfl rfl rfl)) rfl ?_
    refine QJ.done ?_
    refine PJ.next ?_
    refine WJ.cond (t := decide ((w64 (s1.at_ + 1)) ≤ (List.length s1.code : Int))) rfl (fun hb14 => ?_) (fun hb14 => ?_)
    · replace hm := ifT hm hb14
      refine WJ.seq ?_
      refine WJ.quiet ?_
      refine QJ.step (YldS.yld (y_move rfl)) rfl ?_
      refine QJ.step (YldS.yld (y_assign rfl)) rfl ?_
      refine QJ.done ?_
      refine PJ.next ?_
      refine WJ.ret ?_
      refine PJ.then_ret ?_
      obtain rfl := Option.some.inj hm
      refine PJ.sel (L' := [box g2 82 [v3, .int .i64 (w64 (s1.at_ + 1)), .int .u64 (IntKind.u64.wrap ((IntKind.u64.wrap ((IntKind.u64.wrap (s1.seed * 6364136223846793005)) + (IntKind.u64.wrap b5))) + 1442695040888963407))]]) [0] ⟨by decide, rfl⟩ ?_
      exact PJ.retn (vs := [.int .i64 b5]) Tryd.results52 ⟨rfl, trivial⟩ ⟨rfl, rfl⟩
    · replace hm := ifF hm hb14
      refine WJ.skip ?_
      refine PJ.next ?_
      refine WJ.seq ?_
      refine WJ.quiet ?_
      refine QJ.step (YldS.yld (y_move rfl)) rfl ?_
      refine QJ.step (YldS.yld (y_nil rfl)) rfl ?_
      refine QJ.step (YldS.yld (y_fldB (o := 0) fld82_2 rfl)) rfl ?_
      refine QJ.step (YldS.yld (y_loadB (k := 0) (off := 2) (v := .int .u64 (IntKind.u64.wrap ((IntKind.u64.wrap ((IntKind.u64.wrap (s1.seed * 6364136223846793005)) + (IntKind.u64.wrap b5))) + 1442695040888963407))) rfl Tryd.isAgg80 rfl rfl)) rfl ?_
      refine QJ.step (YldS.yld (y_shru rfl rfl rfl)) rfl ?_
      refine QJ.step (YldS.yld (y_andu rfl rfl rfl)) rfl ?_
      refine QJ.step (YldS.yld (y_convI Tryd.runUnderlying80 Tryd.runUnderlying2 rfl)) rfl ?_
      refine QJ.step (YldS.yld (y_assign rfl)) rfl ?_
      refine QJ.done ?_
      refine PJ.next ?_
      refine WJ.ret ?_
      obtain rfl := Option.some.inj hm
      refine PJ.sel (L' := [box g2 82 [v3, .int .i64 (w64 (s1.at_ + 1)), .int .u64 (IntKind.u64.wrap ((IntKind.u64.wrap ((IntKind.u64.wrap (s1.seed * 6364136223846793005)) + (IntKind.u64.wrap b5))) + 1442695040888963407))]]) [0] ⟨by decide, rfl⟩ ?_
      exact PJ.retn (vs := [.int .i64 (w64 (uand (ushr (IntKind.u64.wrap ((IntKind.u64.wrap ((IntKind.u64.wrap (s1.seed * 6364136223846793005)) + (IntKind.u64.wrap b5))) + 1442695040888963407)) 40) 255))]) Tryd.results52 ⟨rfl, trivial⟩ ⟨rfl, rfl⟩

set_option maxRecDepth 100000 in
set_option maxHeartbeats 1000000 in
theorem ok_s_l00Src_pick {s1 : L00Src} {n5 : Int} {g2 : Nat} {r : Int × L00Src} (hm : s_l00Src_pick s1 n5 = some r) (w : World) (S : Nat → Prop) (v3 : Value) (hr4 : RdS w (Cx.Fz ⟨w, S⟩) v3 fByte.rp s1.code) (hA : (box g2 82 [v3, .int .i64 s1.at_, .int .u64 s1.seed]).holds w S) :
    Calls Tryd.prog 33 #[pt g2 0, .int .i64 n5] w (RetG ⟨w, S⟩ fun u L => (u = .int .i64 r.1 ∧ L = [box g2 82 [v3, .int .i64 r.2.at_, .int .u64 r.2.seed]])) := by
  unfold s_l00Src_pick at hm
  refine Calls.enter1 hA [pt g2 0, .int .i64 n5] Tryd.func33 rfl Tryd.ntmps33 rfl ?_
  refine WJ.seq ?_
  refine WJ.quiet ?_
  refine QJ.step (YldS.yld (y_assign rfl)) rfl ?_
  refine QJ.done ?_
  refine PJ.next ?_
  refine WJ.seq ?_
  refine WJ.seq ?_
  refine WJ.quiet ?_
  refine QJ.step (YldS.yld (y_move rfl)) rfl ?_
  refine QJ.step (YldS.yld (y_bin rfl rfl rfl)) rfl ?_
  refine QJ.done ?_
  refine PJ.next ?_
  refine WJ.cond (t := decide (n5 ≤ 1)) rfl (fun hb6 => ?_) (fun hb6 => ?_)
  · replace hm := ifT hm hb6
    refine WJ.seq ?_
    refine WJ.quiet ?_
    refine QJ.step (YldS.yld (y_assign rfl)) rfl ?_
    refine QJ.done ?_
    refine PJ.next ?_
    refine WJ.ret ?_
    refine PJ.then_ret ?_
    obtain rfl := Option.some.inj hm
    refine PJ.sel (L' := [box g2 82 [v3, .int .i64 s1.at_, .int .u64 s1.seed]]) [0] ⟨by decide, rfl⟩ ?_
    exact PJ.retn (vs := [.int .i64 0]) Tryd.results33 ⟨rfl, trivial⟩ ⟨rfl, rfl⟩
  · replace hm := ifF hm hb6
    refine WJ.skip ?_
    refine PJ.next ?_
    refine WJ.seq ?_
    refine WJ.reg ?_
    refine SJ.q (YldS.yld (y_move rfl)) rfl ?_
    obtain ⟨r7, h8, hm⟩ := bindS hm
    refine SJ.call1 (k := 0) rfl Tryd.call52 rfl (fun w S hw hA hO => ok_s_l00Src_next h8 w S _ (hr4.st1 hw hO) hA) rfl ?_
    rintro _ _ ⟨rfl, rfl⟩
    refine SJ.q (YldS.yld (y_assign rfl)) rfl ?_
    refine SJ.nil ?_
    refine PJ.next ?_
    obtain ⟨kj12, hk13, hm⟩ := withK_open hm
    refine WJ.join (X := Int × Int × Int) (fun (x : Int × Int × Int) => kj12 x.1 x.2.1 x.2.2 = some r) (fun (x : Int × Int × Int) => [(1, .int .i64 n5), (5, .int .i64 x.2.2)]) (fun (x : Int × Int × Int) => [box g2 82 [v3, .int .i64 x.1, .int .u64 x.2.1]]) ?_ ?_
    · clear hk13
      refine WJ.seq ?_
      refine WJ.quiet ?_
      refine QJ.step (YldS.yld (y_move rfl)) rfl ?_
      refine QJ.step (YldS.yld (y_bin rfl rfl rfl)) rfl ?_
      refine QJ.done ?_
      refine PJ.next ?_
      refine WJ.cond (t := decide (n5 > 200)) rfl (fun hb14 => ?_) (fun hb14 => ?_)
      · replace hm := ifT hm hb14
        refine WJ.reg ?_
        refine SJ.q (YldS.yld (y_move rfl)) rfl ?_
        refine SJ.q (YldS.yld (y_bin rfl rfl rfl)) rfl ?_
        refine SJ.q (YldS.yld (y_move rfl)) rfl ?_
        obtain ⟨r15, h16, hm⟩ := bindS hm
        refine SJ.call1 (k := 0) rfl Tryd.call52 rfl (fun w S hw hA hO => ok_s_l00Src_next h16 w S _ (hr4.st1 hw hO) hA) rfl ?_
        rintro _ _ ⟨rfl, rfl⟩
        refine SJ.q (YldS.yld (y_bin rfl rfl rfl)) rfl ?_
        refine SJ.q (YldS.yld (y_assign rfl)) rfl ?_
        refine SJ.nil ?_
        exact PJ.joined (r15.2.at_, r15.2.seed, w64 ((w64 (r7.1 * 256)) + r15.1)) [0] hm ⟨rfl, rfl, trivial⟩ ⟨by decide, rfl⟩
      · replace hm := ifF hm hb14
        refine WJ.skip ?_
        exact PJ.joined (r7.2.at_, r7.2.seed, r7.1) [0] hm ⟨rfl, rfl, trivial⟩ ⟨by decide, rfl⟩
    · rintro ⟨x9, x10, x11⟩ hm
      subst hk13
      refine WJ.seq ?_
      refine WJ.quiet ?_
      refine QJ.step (YldS.yld (y_move rfl)) rfl ?_
      refine QJ.step (YldS.yld (y_move rfl)) rfl ?_
      obtain ⟨q17, h18, hm⟩ := bindS hm
      refine QJ.step (YldS.yld (y_rem' h18 rfl rfl)) rfl ?_
      refine QJ.step (YldS.yld (y_assign rfl)) rfl ?_
      refine QJ.done ?_
      refine PJ.next ?_
      refine WJ.ret ?_
      obtain rfl := Option.some.inj hm
      refine PJ.sel (L' := [box g2 82 [v3, .int .i64 x9, .int .u64 x10]]) [0] ⟨by decide, rfl⟩ ?_
      exact PJ.retn (vs := [.int .i64 q17]) Tryd.results33 ⟨rfl, trivial⟩ ⟨rfl, rfl⟩

set_option maxRecDepth 100000 in
set_option maxHeartbeats 1000000 in
theorem ok_s_l00Src_one {s1 : L00Src} {n5 : Int} {g2 : Nat} {r : Bool × L00Src} (hm : s_l00Src_one s1 n5 = some r) (w : World) (S : Nat → Prop) (v3 : Value) (hr4 : RdS w (Cx.Fz ⟨w, S⟩) v3 fByte.rp s1.code) (hA : (box g2 82 [v3, .int .i64 s1.at_, .int .u64 s1.seed]).holds w S) :
    Calls Tryd.prog 34 #[pt g2 0, .int .i64 n5] w (RetG ⟨w, S⟩ fun u L => (u = .bool r.1 ∧ L = [box g2 82 [v3, .int .i64 r.2.at_, .int .u64 r.2.seed]])) := by
  unfold s_l00Src_one at hm
  refine Calls.enter1 hA [pt g2 0, .int .i64 n5] Tryd.func34 rfl Tryd.ntmps34 rfl ?_
  refine WJ.seq ?_
  refine WJ.quiet ?_
  refine QJ.step (YldS.yld (y_assign rfl)) rfl ?_
  refine QJ.done ?_
  refine PJ.next ?_
  refine WJ.seq ?_
  refine WJ.reg ?_
  refine SJ.q (YldS.yld (y_move rfl)) rfl ?_
  refine SJ.q (YldS.yld (y_move rfl)) rfl ?_
  obtain ⟨r6, h7, hm⟩ := bindS hm
  refine SJ.call1 (k := 0) rfl Tryd.call33 rfl (fun w S hw hA hO => ok_s_l00Src_pick h7 w S _ (hr4.st1 hw hO) hA) rfl ?_
  rintro _ _ ⟨rfl, rfl⟩
  refine SJ.q (YldS.yld (y_bin rfl rfl rfl)) rfl ?_
  refine SJ.q (YldS.yld (y_assign rfl)) rfl ?_
  refine SJ.nil ?_
  refine PJ.next ?_
  refine WJ.ret ?_
  obtain rfl := Option.some.inj hm
  refine PJ.sel (L' := [box g2 82 [v3, .int .i64 r6.2.at_, .int .u64 r6.2.seed]]) [0] ⟨by decide, rfl⟩ ?_
  exact PJ.retn (vs := [.bool (r6.1 == 0)]) Tryd.results34 ⟨rfl, trivial⟩ ⟨rfl, rfl⟩

set_option maxRecDepth 100000 in
set_option maxHeartbeats 1000000 in
theorem ok_s_l00Src_text {s1 : L00Src} {list5 : List Str} {g2 : Nat} {r : Str × L00Src} (hm : s_l00Src_text s1 list5 = some r) (w : World) (S : Nat → Prop) (v3 : Value) (hr4 : RdS w (Cx.Fz ⟨w, S⟩) v3 fByte.rp s1.code) (v6 : Value) (hr7 : RdS w (Cx.Fz ⟨w, S⟩) v6 fStr.rp list5) (hA : (box g2 82 [v3, .int .i64 s1.at_, .int .u64 s1.seed]).holds w S) :
    Calls Tryd.prog 46 #[pt g2 0, v6] w (RetG ⟨w, S⟩ fun u L => (u = str r.1 ∧ L = [box g2 82 [v3, .int .i64 r.2.at_, .int .u64 r.2.seed]])) := by
  unfold s_l00Src_text at hm
  refine Calls.enter1 hA [pt g2 0, v6] Tryd.func46 rfl Tryd.ntmps46 rfl ?_
  refine WJ.seq ?_
  refine WJ.quiet ?_
  refine QJ.step (YldS.yld (y_assign rfl)) rfl ?_
  refine QJ.done ?_
  refine PJ.next ?_
  refine WJ.seq ?_
  refine WJ.reg ?_
  refine SJ.q (YldS.yld (y_move rfl)) rfl ?_
  refine SJ.q (YldS.yld (y_move rfl)) rfl ?_
  refine SJ.q (YldS.yld (y_move rfl)) rfl ?_
  refine SJ.q (YldS.yld (y_lenS Tryd.runUnderlying69 hr7 rfl)) rfl ?_
  obtain ⟨r8, h9, hm⟩ := bindS hm
  refine SJ.call1 (k := 0) rfl Tryd.call33 rfl (fun w S hw hA hO => ok_s_l00Src_pick h9 w S _ (hr4.st1 hw hO) hA) rfl ?_
  rintro _ _ ⟨rfl, rfl⟩
  obtain ⟨e10, h11, hm⟩ := bindS hm
  obtain ⟨ad12, _, rfl, ha13, hy14⟩ := hr7.elem h11
  refine SJ.q (YldS.yld (hy14 Tryd.runUnderlying69 Tryd.sizeOf9 rfl rfl)) rfl ?_
  refine SJ.q (YldS.yld (y_load1 (v := str e10) Tryd.isAgg9 ha13 St.frozenC rfl)) rfl ?_
  refine SJ.q (YldS.yld (y_assign rfl)) rfl ?_
  refine SJ.nil ?_
  refine PJ.next ?_
  refine WJ.ret ?_
  obtain rfl := Option.some.inj hm
  refine PJ.sel (L' := [box g2 82 [v3, .int .i64 r8.2.at_, .int .u64 r8.2.seed]]) [0] ⟨by decide, rfl⟩ ?_
  exact PJ.retn (vs := [str e10]) Tryd.results46 ⟨rfl, trivial⟩ ⟨rfl, rfl⟩

set_option maxRecDepth 100000 in
set_option maxHeartbeats 1000000 in
theorem ok_s_l02Find {N : Nat} {keys1 : List Key} {letter4 : Str} {r : Int × Bool} (hm : s_l02Find N keys1 letter4 = some r) (w : World) (v2 : Value) (hr3 : RdS w (cx w).Fz v2 fKey.rp keys1) :
    Calls Tryd.prog 49 #[v2, str letter4] w (Ret (cx w) (tup [.int .i64 r.1, .bool r.2])) := by
  unfold s_l02Find at hm
  refine Calls.enter [v2, str letter4] Tryd.func49 rfl Tryd.ntmps49 rfl ?_
  refine WJ.seq ?_
  refine WJ.quiet ?_
  refine QJ.step (YldS.yld (y_assign rfl)) rfl ?_
  refine QJ.step (YldS.yld (y_assign rfl)) rfl ?_
  refine QJ.done ?_
  refine PJ.next ?_
  obtain ⟨kj5, hk6, hm⟩ := withK_open hm
  refine WJ.join (X := Unit) (fun (_ : Unit) => kj5  = some r) (fun (_ : Unit) => []) (fun (_ : Unit) => []) ?_ ?_
  · clear hk6
    refine WJ.seq ?_
    refine WJ.quiet ?_
    refine QJ.step (YldS.yld (y_assign rfl)) rfl ?_
    refine QJ.done ?_
    refine PJ.next ?_
    refine WJ.block ?_
    refine WJ.sel (L' := (fun (x : Int) => []) 0) [] ⟨List.nodup_nil, rfl⟩ ?_
    refine WJ.sub (m' := (fun (x : Int) => [(0, v2), (1, str letter4), (6, .int .i64 x)]) 0) ⟨rfl, rfl, rfl, trivial⟩ ?_
    refine WJ.loop (X := Int) (fun N (x : Int) => s_l02Find_l1 kj5 keys1 letter4 N x = some r) (fun (x : Int) => [(0, v2), (1, str letter4), (6, .int .i64 x)]) (fun (x : Int) => []) ?_ N 0 hm
    · rintro N i7 hI
      have hm := hI; clear hI
      cases N with
      | zero => cases hm
      | succ N =>
      unfold s_l02Find_l1 at hm
      refine WJ.seq ?_
      refine WJ.seq ?_
      refine WJ.quiet ?_
      refine QJ.step (YldS.yld (y_move rfl)) rfl ?_
      refine QJ.step (YldS.yld (y_move rfl)) rfl ?_
      refine QJ.step (YldS.yld (y_lenS Tryd.runUnderlying24 hr3 rfl)) rfl ?_
      refine QJ.step (YldS.yld (y_bin rfl rfl rfl)) rfl ?_
      refine QJ.done ?_
      refine PJ.next ?_
      refine WJ.cond (t := decide (i7 < (List.length keys1 : Int))) rfl (fun hb8 => ?_) (fun hb8 => ?_)
      · replace hm := ifT hm hb8
        refine WJ.skip ?_
        refine PJ.next ?_
        refine WJ.seq ?_
        refine WJ.block ?_
        refine WJ.seq ?_
        refine WJ.seq ?_
        refine WJ.quiet ?_
        refine QJ.step (YldS.yld (y_move rfl)) rfl ?_
        refine QJ.step (YldS.yld (y_move rfl)) rfl ?_
        obtain ⟨e9, h10, hm⟩ := bindS hm
        obtain ⟨ad11, _, rfl, ha12, hy13⟩ := hr3.elem h10
        refine QJ.step (YldS.yld (hy13 Tryd.runUnderlying24 Tryd.sizeOf54 rfl rfl)) rfl ?_
        refine QJ.step (YldS.yld (y_fld (ad := ad11) fld54_0 rfl)) rfl ?_
        refine QJ.step (YldS.yld (y_load1 (v := str e9.low) Tryd.isAgg9 (ha12.sub 0 1) St.frozenC rfl)) rfl ?_
        refine QJ.step (YldS.yld (y_move rfl)) rfl ?_
        refine QJ.step (YldS.yld (y_binS rfl rfl rfl)) rfl ?_
        refine QJ.done ?_
        refine PJ.next ?_
        refine WJ.cond (t := (e9.low == letter4)) rfl (fun hb14 => ?_) (fun hb14 => ?_)
        · replace hm := ifT hm hb14
          refine WJ.seq ?_
          refine WJ.quiet ?_
          refine QJ.step (YldS.yld (y_move rfl)) rfl ?_
          refine QJ.step (YldS.yld (y_assign rfl)) rfl ?_
          refine QJ.step (YldS.yld (y_assign rfl)) rfl ?_
          refine QJ.done ?_
          refine PJ.next ?_
          refine WJ.ret ?_
          refine PJ.then_ret (PJ.block_ret (PJ.then_ret (PJ.then_ret (PJ.block_ret (PJ.then_ret ?_)))))
          obtain rfl := Option.some.inj hm
          refine PJ.sel (L' := []) [] ⟨List.nodup_nil, rfl⟩ ?_
          exact PJ.retn (vs := [.int .i64 i7, .bool false]) Tryd.results49 ⟨rfl, rfl, trivial⟩ ⟨rfl, rfl⟩
        · replace hm := ifF hm hb14
          refine WJ.skip ?_
          refine PJ.next ?_
          refine WJ.seq ?_
          refine WJ.quiet ?_
          refine QJ.step (YldS.yld (y_move rfl)) rfl ?_
          refine QJ.step (YldS.yld (y_move rfl)) rfl ?_
          obtain ⟨e15, h16, hm⟩ := bindS hm
          obtain ⟨ad17, _, rfl, ha18, hy19⟩ := hr3.elem h16
          refine QJ.step (YldS.yld (hy19 Tryd.runUnderlying24 Tryd.sizeOf54 rfl rfl)) rfl ?_
          refine QJ.step (YldS.yld (y_fld (ad := ad17) fld54_1 rfl)) rfl ?_
          refine QJ.step (YldS.yld (y_load1 (v := str e15.high) Tryd.isAgg9 (ha18.sub 1 1) St.frozenC rfl)) rfl ?_
          refine QJ.step (YldS.yld (y_move rfl)) rfl ?_
          refine QJ.step (YldS.yld (y_binS rfl rfl rfl)) rfl ?_
          refine QJ.done ?_
          refine PJ.next ?_
          refine WJ.cond (t := (e15.high == letter4)) rfl (fun hb20 => ?_) (fun hb20 => ?_)
          · replace hm := ifT hm hb20
            refine WJ.seq ?_
            refine WJ.quiet ?_
            refine QJ.step (YldS.yld (y_move rfl)) rfl ?_
            refine QJ.step (YldS.yld (y_assign rfl)) rfl ?_
            refine QJ.step (YldS.yld (y_assign rfl)) rfl ?_
            refine QJ.done ?_
            refine PJ.next ?_
            refine WJ.ret ?_
            refine PJ.block_ret (PJ.then_ret (PJ.then_ret (PJ.block_ret (PJ.then_ret ?_))))
            obtain rfl := Option.some.inj hm
            refine PJ.sel (L' := []) [] ⟨List.nodup_nil, rfl⟩ ?_
            exact PJ.retn (vs := [.int .i64 i7, .bool true]) Tryd.results49 ⟨rfl, rfl, trivial⟩ ⟨rfl, rfl⟩
          · replace hm := ifF hm hb20
            refine WJ.skip ?_
            refine PJ.block_normal (PJ.next ?_)
            refine WJ.quiet ?_
            refine QJ.step (YldS.yld (y_move rfl)) rfl ?_
            refine QJ.step (YldS.yld (y_bin rfl rfl rfl)) rfl ?_
            refine QJ.step (YldS.yld (y_assign rfl)) rfl ?_
            refine QJ.done ?_
            exact PJ.round (w64 (i7 + 1)) [] hm ⟨rfl, rfl, rfl, trivial⟩ ⟨List.nodup_nil, rfl⟩
      · replace hm := ifF hm hb8
        refine WJ.exit ?_
        refine PJ.then_exit (PJ.then_exit (PJ.block_exit ?_))
        exact PJ.joined () [] hm trivial ⟨List.nodup_nil, rfl⟩
  · rintro _ hm
    subst hk6
    refine WJ.seq ?_
    refine WJ.quiet ?_
    refine QJ.step (YldS.yld (y_assign rfl)) rfl ?_
    refine QJ.step (YldS.yld (y_assign rfl)) rfl ?_
    refine QJ.done ?_
    refine PJ.next ?_
    refine WJ.ret ?_
    obtain rfl := Option.some.inj hm
    refine PJ.sel (L' := []) [] ⟨List.nodup_nil, rfl⟩ ?_
    exact PJ.retn (vs := [.int .i64 (-1), .bool false]) Tryd.results49 ⟨rfl, rfl, trivial⟩ ⟨rfl, rfl⟩

set_option maxRecDepth 100000 in
set_option maxHeartbeats 1000000 in
theorem ok_s_l02Letter {s1 : Str} {r : Bool} (hm : s_l02Letter s1 = some r) (w : World)  :
    Calls Tryd.prog 50 #[str s1] w (Ret (cx w) (.bool r)) := by
  unfold s_l02Letter at hm
  refine Calls.enter [str s1] Tryd.func50 rfl Tryd.ntmps50 rfl ?_
  refine WJ.seq ?_
  refine WJ.quiet ?_
  refine QJ.step (YldS.yld (y_assign rfl)) rfl ?_
  refine QJ.done ?_
  refine PJ.next ?_
  refine WJ.seq ?_
  refine WJ.quiet ?_
  refine QJ.step (YldS.yld (y_move rfl)) rfl ?_
  refine QJ.step (YldS.yld (y_lenStr Tryd.runUnderlying9 rfl)) rfl ?_
  refine QJ.step (YldS.yld (y_bin rfl rfl rfl)) rfl ?_
  refine QJ.step (YldS.yld (y_move rfl)) rfl ?_
  obtain ⟨t2, h3, hm⟩ := bindS hm
  refine QJ.cut 4 [(0, str s1), (10, .bool t2)] ?_ ?_
  · rcases Bool.eq_false_or_eq_true ((List.length s1 : Int) == 1) with hb4 | hb4
    · replace h3 := andT h3 hb4
      refine QJ.on rfl rfl (cB hb4) (YldS.yld (y_move rfl)) rfl ?_
      obtain ⟨c5, h6, h3⟩ := bindS h3
      refine QJ.on rfl rfl (cB hb4) (YldS.yld (y_idxStr Tryd.runUnderlying9 rfl rfl h6)) rfl ?_
      refine QJ.on rfl rfl (cB hb4) (YldS.yld (y_bin8 c5 (32 : UInt8) rfl rfl rfl)) rfl ?_
      refine QJ.step (YldS.yld (y_pick_t (cB hb4) rfl)) rfl ?_
      obtain rfl := Option.some.inj h3
      exact QJ.cut_end ⟨rfl, rfl, trivial⟩
    · obtain rfl := andF h3 hb4
      refine QJ.off rfl rfl (cB hb4) rfl rfl ?_
      refine QJ.off rfl rfl (cB hb4) rfl rfl ?_
      refine QJ.off rfl rfl (cB hb4) rfl rfl ?_
      refine QJ.step (YldS.yld (y_pick_f (cB hb4) rfl)) rfl ?_
      exact QJ.cut_end ⟨rfl, rfl, trivial⟩
  refine QJ.step (YldS.yld (y_move rfl)) rfl ?_
  obtain ⟨t7, h8, hm⟩ := bindS hm
  refine QJ.cut 4 [(15, .bool t7)] ?_ ?_
  · rcases Bool.eq_false_or_eq_true t2 with hb9 | hb9
    · replace h8 := andT h8 hb9
      refine QJ.on rfl rfl (cB hb9) (YldS.yld (y_move rfl)) rfl ?_
      obtain ⟨c10, h11, h8⟩ := bindS h8
      refine QJ.on rfl rfl (cB hb9) (YldS.yld (y_idxStr Tryd.runUnderlying9 rfl rfl h11)) rfl ?_
      refine QJ.on rfl rfl (cB hb9) (YldS.yld (y_bin8 c10 (127 : UInt8) rfl rfl rfl)) rfl ?_
      refine QJ.step (YldS.yld (y_pick_t (cB hb9) rfl)) rfl ?_
      obtain rfl := Option.some.inj h8
      exact QJ.cut_end ⟨rfl, trivial⟩
    · obtain rfl := andF h8 hb9
      refine QJ.off rfl rfl (cB hb9) rfl rfl ?_
      refine QJ.off rfl rfl (cB hb9) rfl rfl ?_
      refine QJ.off rfl rfl (cB hb9) rfl rfl ?_
      refine QJ.step (YldS.yld (y_pick_f (cB hb9) rfl)) rfl ?_
      exact QJ.cut_end ⟨rfl, trivial⟩
  refine QJ.step (YldS.yld (y_assign rfl)) rfl ?_
  refine QJ.done ?_
  refine PJ.next ?_
  refine WJ.ret ?_
  obtain rfl := Option.some.inj hm
  refine PJ.sel (L' := []) [] ⟨List.nodup_nil, rfl⟩ ?_
  exact PJ.retn (vs := [.bool t7]) Tryd.results50 ⟨rfl, trivial⟩ ⟨rfl, rfl⟩

set_option maxRecDepth 100000 in
set_option maxHeartbeats 1000000 in
theorem ok_s_l02Accent {N : Nat} {keys1 : List Key} {a4 : Accent} {r : Bool} (hm : s_l02Accent N keys1 a4 = some r) (w : World) (v2 : Value) (hr3 : RdS w (cx w).Fz v2 fKey.rp keys1) (ad5 : Addr) (ha6 : At w (cx w).Fz ad5 (fAccent.enc a4)) :
    Calls Tryd.prog 51 #[v2, .pointer (some ad5)] w (Ret (cx w) (.bool r)) := by
  unfold s_l02Accent at hm
  refine Calls.enter [v2, .pointer (some ad5)] Tryd.func51 rfl Tryd.ntmps51 rfl ?_
  refine WJ.seq ?_
  refine WJ.quiet ?_
  refine QJ.step (YldS.yld (y_assign rfl)) rfl ?_
  refine QJ.done ?_
  refine PJ.next ?_
  refine WJ.seq ?_
  refine WJ.quiet ?_
  refine QJ.step (YldS.yld (y_move rfl)) rfl ?_
  refine QJ.step (YldS.yld (y_move rfl)) rfl ?_
  refine QJ.step (YldS.yld (y_nil rfl)) rfl ?_
  refine QJ.step (YldS.yld (y_fld (ad := ad5) fld56_0 rfl)) rfl ?_
  refine QJ.step (YldS.yld (y_load1 (v := str a4.mark) Tryd.isAgg9 (ha6.sub 0 1) St.frozenC rfl)) rfl ?_
  obtain ⟨r7, h8, hm⟩ := bindS hm
  refine QJ.step (y_call Tryd.call49 rfl (RetG.quiet fun w hw => ok_s_l02Find h8 w _ (hr3.st hw))) rfl ?_
  refine QJ.step (YldS.yld (y_move rfl)) rfl ?_
  refine QJ.step (YldS.yld (y_extract rfl rfl)) rfl ?_
  refine QJ.step (YldS.yld (y_extract rfl rfl)) rfl ?_
  refine QJ.step (YldS.yld (y_assign rfl)) rfl ?_
  refine QJ.step (YldS.yld (y_assign rfl)) rfl ?_
  refine QJ.done ?_
  refine PJ.next ?_
  refine WJ.seq ?_
  refine WJ.quiet ?_
  refine QJ.step (YldS.yld (y_move rfl)) rfl ?_
  refine QJ.step (YldS.yld (y_move rfl)) rfl ?_
  refine QJ.step (YldS.yld (y_nil rfl)) rfl ?_
  refine QJ.step (YldS.yld (y_fld (ad := ad5) fld56_1 rfl)) rfl ?_
  refine QJ.step (YldS.yld (y_load1 (v := str a4.letter) Tryd.isAgg9 (ha6.sub 1 1) St.frozenC rfl)) rfl ?_
  obtain ⟨r9, h10, hm⟩ := bindS hm
  refine QJ.step (y_call Tryd.call49 rfl (RetG.quiet fun w hw => ok_s_l02Find h10 w _ (hr3.st hw))) rfl ?_
  refine QJ.step (YldS.yld (y_move rfl)) rfl ?_
  refine QJ.step (YldS.yld (y_extract rfl rfl)) rfl ?_
  refine QJ.step (YldS.yld (y_extract rfl rfl)) rfl ?_
  refine QJ.step (YldS.yld (y_assign rfl)) rfl ?_
  refine QJ.step (YldS.yld (y_assign rfl)) rfl ?_
  refine QJ.done ?_
  refine PJ.next ?_
  refine WJ.seq ?_
  refine WJ.quiet ?_
  refine QJ.step (YldS.yld (y_move rfl)) rfl ?_
  refine QJ.step (YldS.yld (y_move rfl)) rfl ?_
  refine QJ.step (YldS.yld (y_nil rfl)) rfl ?_
  refine QJ.step (YldS.yld (y_fld (ad := ad5) fld56_2 rfl)) rfl ?_
  refine QJ.step (YldS.yld (y_load1 (v := str a4.made) Tryd.isAgg9 (ha6.sub 2 1) St.frozenC rfl)) rfl ?_
  obtain ⟨r11, h12, hm⟩ := bindS hm
  refine QJ.step (y_call Tryd.call49 rfl (RetG.quiet fun w hw => ok_s_l02Find h12 w _ (hr3.st hw))) rfl ?_
  refine QJ.step (YldS.yld (y_move rfl)) rfl ?_
  refine QJ.step (YldS.yld (y_extract rfl rfl)) rfl ?_
  refine QJ.step (YldS.yld (y_extract rfl rfl)) rfl ?_
  refine QJ.step (YldS.yld (y_assign rfl)) rfl ?_
  refine QJ.step (YldS.yld (y_assign rfl)) rfl ?_
  refine QJ.done ?_
  refine PJ.next ?_
  refine WJ.seq ?_
  refine WJ.quiet ?_
  refine QJ.step (YldS.yld (y_move rfl)) rfl ?_
  refine QJ.step (YldS.yld (y_bin rfl rfl rfl)) rfl ?_
  refine QJ.step (YldS.yld (y_move rfl)) rfl ?_
  obtain ⟨t13, h14, hm⟩ := bindS hm
  refine QJ.cut 6 [(0, v2), (1, .pointer (some ad5)), (7, .int .i64 r9.1), (9, .int .i64 r11.1), (46, .bool t13)] ?_ ?_
  · rcases Bool.eq_false_or_eq_true (decide (r7.1 ≥ 0)) with hb15 | hb15
    · replace h14 := andT h14 hb15
      refine QJ.on rfl rfl (cB hb15) (YldS.yld (y_move rfl)) rfl ?_
      refine QJ.on rfl rfl (cB hb15) (YldS.yld (y_move rfl)) rfl ?_
      obtain ⟨e16, h17, h14⟩ := bindS h14
      obtain ⟨ad18, _, rfl, ha19, hy20⟩ := hr3.elem h17
      refine QJ.on rfl rfl (cB hb15) (YldS.yld (hy20 Tryd.runUnderlying24 Tryd.sizeOf54 rfl rfl)) rfl ?_
      refine QJ.on rfl rfl (cB hb15) (YldS.yld (y_fld (ad := ad18) fld54_2 rfl)) rfl ?_
      refine QJ.on rfl rfl (cB hb15) (YldS.yld (y_load1 (v := .bool e16.dead) Tryd.isAgg4 (ha19.sub 2 1) St.frozenC rfl)) rfl ?_
      refine QJ.step (YldS.yld (y_pick_t (cB hb15) rfl)) rfl ?_
      obtain rfl := Option.some.inj h14
      exact QJ.cut_end ⟨rfl, rfl, rfl, rfl, rfl, trivial⟩
    · obtain rfl := andF h14 hb15
      refine QJ.off rfl rfl (cB hb15) rfl rfl ?_
      refine QJ.off rfl rfl (cB hb15) rfl rfl ?_
      refine QJ.off rfl rfl (cB hb15) rfl rfl ?_
      refine QJ.off rfl rfl (cB hb15) rfl rfl ?_
      refine QJ.off rfl rfl (cB hb15) rfl rfl ?_
      refine QJ.step (YldS.yld (y_pick_f (cB hb15) rfl)) rfl ?_
      exact QJ.cut_end ⟨rfl, rfl, rfl, rfl, rfl, trivial⟩
  refine QJ.step (YldS.yld (y_move rfl)) rfl ?_
  obtain ⟨t21, h22, hm⟩ := bindS hm
  refine QJ.cut 3 [(0, v2), (1, .pointer (some ad5)), (7, .int .i64 r9.1), (9, .int .i64 r11.1), (50, .bool t21)] ?_ ?_
  · rcases Bool.eq_false_or_eq_true t13 with hb23 | hb23
    · replace h22 := andT h22 hb23
      refine QJ.on rfl rfl (cB hb23) (YldS.yld (y_move rfl)) rfl ?_
      refine QJ.on rfl rfl (cB hb23) (YldS.yld (y_bin rfl rfl rfl)) rfl ?_
      refine QJ.step (YldS.yld (y_pick_t (cB hb23) rfl)) rfl ?_
      obtain rfl := Option.some.inj h22
      exact QJ.cut_end ⟨rfl, rfl, rfl, rfl, rfl, trivial⟩
    · obtain rfl := andF h22 hb23
      refine QJ.off rfl rfl (cB hb23) rfl rfl ?_
      refine QJ.off rfl rfl (cB hb23) rfl rfl ?_
      refine QJ.step (YldS.yld (y_pick_f (cB hb23) rfl)) rfl ?_
      exact QJ.cut_end ⟨rfl, rfl, rfl, rfl, rfl, trivial⟩
  refine QJ.step (YldS.yld (y_move rfl)) rfl ?_
  obtain ⟨t24, h25, hm⟩ := bindS hm
  refine QJ.cut 7 [(1, .pointer (some ad5)), (9, .int .i64 r11.1), (58, .bool t24)] ?_ ?_
  · rcases Bool.eq_false_or_eq_true t21 with hb26 | hb26
    · replace h25 := andT h25 hb26
      refine QJ.on rfl rfl (cB hb26) (YldS.yld (y_move rfl)) rfl ?_
      refine QJ.on rfl rfl (cB hb26) (YldS.yld (y_move rfl)) rfl ?_
      obtain ⟨e27, h28, h25⟩ := bindS h25
      obtain ⟨ad29, _, rfl, ha30, hy31⟩ := hr3.elem h28
      refine QJ.on rfl rfl (cB hb26) (YldS.yld (hy31 Tryd.runUnderlying24 Tryd.sizeOf54 rfl rfl)) rfl ?_
      refine QJ.on rfl rfl (cB hb26) (YldS.yld (y_fld (ad := ad29) fld54_2 rfl)) rfl ?_
      refine QJ.on rfl rfl (cB hb26) (YldS.yld (y_load1 (v := .bool e27.dead) Tryd.isAgg4 (ha30.sub 2 1) St.frozenC rfl)) rfl ?_
      refine QJ.on rfl rfl (cB hb26) (YldS.yld (y_not rfl)) rfl ?_
      refine QJ.step (YldS.yld (y_pick_t (cB hb26) rfl)) rfl ?_
      obtain rfl := Option.some.inj h25
      exact QJ.cut_end ⟨rfl, rfl, rfl, trivial⟩
    · obtain rfl := andF h25 hb26
      refine QJ.off rfl rfl (cB hb26) rfl rfl ?_
      refine QJ.off rfl rfl (cB hb26) rfl rfl ?_
      refine QJ.off rfl rfl (cB hb26) rfl rfl ?_
      refine QJ.off rfl rfl (cB hb26) rfl rfl ?_
      refine QJ.off rfl rfl (cB hb26) rfl rfl ?_
      refine QJ.off rfl rfl (cB hb26) rfl rfl ?_
      refine QJ.step (YldS.yld (y_pick_f (cB hb26) rfl)) rfl ?_
      exact QJ.cut_end ⟨rfl, rfl, rfl, trivial⟩
  refine QJ.step (YldS.yld (y_move rfl)) rfl ?_
  obtain ⟨t32, h33, hm⟩ := bindS hm
  refine QJ.cut 3 [(1, .pointer (some ad5)), (62, .bool t32)] ?_ ?_
  · rcases Bool.eq_false_or_eq_true t24 with hb34 | hb34
    · replace h33 := andT h33 hb34
      refine QJ.on rfl rfl (cB hb34) (YldS.yld (y_move rfl)) rfl ?_
      refine QJ.on rfl rfl (cB hb34) (YldS.yld (y_bin rfl rfl rfl)) rfl ?_
      refine QJ.step (YldS.yld (y_pick_t (cB hb34) rfl)) rfl ?_
      obtain rfl := Option.some.inj h33
      exact QJ.cut_end ⟨rfl, rfl, trivial⟩
    · obtain rfl := andF h33 hb34
      refine QJ.off rfl rfl (cB hb34) rfl rfl ?_
      refine QJ.off rfl rfl (cB hb34) rfl rfl ?_
      refine QJ.step (YldS.yld (y_pick_f (cB hb34) rfl)) rfl ?_
      exact QJ.cut_end ⟨rfl, rfl, trivial⟩
  refine QJ.step (YldS.yld (y_move rfl)) rfl ?_
  obtain ⟨t35, h36, hm⟩ := bindS hm
  refine QJ.cut 6 [(69, .bool t35)] ?_ ?_
  · rcases Bool.eq_false_or_eq_true t32 with hb37 | hb37
    · replace h36 := andT h36 hb37
      refine QJ.on rfl rfl (cB hb37) (YldS.yld (y_move rfl)) rfl ?_
      refine QJ.on rfl rfl (cB hb37) (YldS.yld (y_nil rfl)) rfl ?_
      refine QJ.on rfl rfl (cB hb37) (YldS.yld (y_fld (ad := ad5) fld56_2 rfl)) rfl ?_
      refine QJ.on rfl rfl (cB hb37) (YldS.yld (y_load1 (v := str a4.made) Tryd.isAgg9 (ha6.sub 2 1) St.frozenC rfl)) rfl ?_
      obtain ⟨r38, h39, h36⟩ := bindS h36
      refine QJ.on rfl rfl (cB hb37) (y_call Tryd.call50 rfl (RetG.quiet fun w hw => ok_s_l02Letter h39 w )) rfl ?_
      refine QJ.step (YldS.yld (y_pick_t (cB hb37) rfl)) rfl ?_
      obtain rfl := Option.some.inj h36
      exact QJ.cut_end ⟨rfl, trivial⟩
    · obtain rfl := andF h36 hb37
      refine QJ.off rfl rfl (cB hb37) rfl rfl ?_
      refine QJ.off rfl rfl (cB hb37) rfl rfl ?_
      refine QJ.off rfl rfl (cB hb37) rfl rfl ?_
      refine QJ.off rfl rfl (cB hb37) rfl rfl ?_
      refine QJ.off rfl rfl (cB hb37) rfl rfl ?_
      refine QJ.step (YldS.yld (y_pick_f (cB hb37) rfl)) rfl ?_
      exact QJ.cut_end ⟨rfl, trivial⟩
  refine QJ.step (YldS.yld (y_assign rfl)) rfl ?_
  refine QJ.done ?_
  refine PJ.next ?_
  refine WJ.ret ?_
  obtain rfl := Option.some.inj hm
  refine PJ.sel (L' := []) [] ⟨List.nodup_nil, rfl⟩ ?_
  exact PJ.retn (vs := [.bool t35]) Tryd.results51 ⟨rfl, trivial⟩ ⟨rfl, rfl⟩

set_option maxRecDepth 100000 in
set_option maxHeartbeats 1000000 in
theorem ok_s_l02Ok {N : Nat} {keys1 : List Key} {accents4 : List Accent} {r : Bool} (hm : s_l02Ok N keys1 accents4 = some r) (w : World) (v2 : Value) (hr3 : RdS w (cx w).Fz v2 fKey.rp keys1) (v5 : Value) (hr6 : RdS w (cx w).Fz v5 fAccent.rp accents4) :
    Calls Tryd.prog 31 #[v2, v5] w (Ret (cx w) (.bool r)) := by
  unfold s_l02Ok at hm
  refine Calls.enter [v2, v5] Tryd.func31 rfl Tryd.ntmps31 rfl ?_
  refine WJ.seq ?_
  refine WJ.quiet ?_
  refine QJ.step (YldS.yld (y_assign rfl)) rfl ?_
  refine QJ.done ?_
  refine PJ.next ?_
  obtain ⟨kj7, hk8, hm⟩ := withK_open hm
  refine WJ.join (X := Unit) (fun (_ : Unit) => kj7  = some r) (fun (_ : Unit) => [(0, v2), (1, v5)]) (fun (_ : Unit) => []) ?_ ?_
  · clear hk8
    refine WJ.seq ?_
    refine WJ.quiet ?_
    refine QJ.step (YldS.yld (y_assign rfl)) rfl ?_
    refine QJ.done ?_
    refine PJ.next ?_
    refine WJ.block ?_
    refine WJ.sel (L' := (fun (x : Int) => []) 0) [] ⟨List.nodup_nil, rfl⟩ ?_
    refine WJ.sub (m' := (fun (x : Int) => [(0, v2), (1, v5), (5, .int .i64 x)]) 0) ⟨rfl, rfl, rfl, trivial⟩ ?_
    refine WJ.loop (X := Int) (fun N (x : Int) => s_l02Ok_l1 kj7 keys1 N x = some r) (fun (x : Int) => [(0, v2), (1, v5), (5, .int .i64 x)]) (fun (x : Int) => []) ?_ N 0 hm
    · rintro N i9 hI
      have hm := hI; clear hI
      cases N with
      | zero => cases hm
      | succ N =>
      unfold s_l02Ok_l1 at hm
      refine WJ.seq ?_
      refine WJ.seq ?_
      refine WJ.quiet ?_
      refine QJ.step (YldS.yld (y_move rfl)) rfl ?_
      refine QJ.step (YldS.yld (y_move rfl)) rfl ?_
      refine QJ.step (YldS.yld (y_lenS Tryd.runUnderlying24 hr3 rfl)) rfl ?_
      refine QJ.step (YldS.yld (y_bin rfl rfl rfl)) rfl ?_
      refine QJ.done ?_
      refine PJ.next ?_
      refine WJ.cond (t := decide (i9 < (List.length keys1 : Int))) rfl (fun hb10 => ?_) (fun hb10 => ?_)
      · replace hm := ifT hm hb10
        refine WJ.skip ?_
        refine PJ.next ?_
        refine WJ.seq ?_
        refine WJ.block ?_
        refine WJ.seq ?_
        refine WJ.quiet ?_
        refine QJ.step (YldS.yld (y_move rfl)) rfl ?_
        refine QJ.step (YldS.yld (y_move rfl)) rfl ?_
        obtain ⟨e11, h12, hm⟩ := bindS hm
        obtain ⟨ad13, _, rfl, ha14, hy15⟩ := hr3.elem h12
        refine QJ.step (YldS.yld (hy15 Tryd.runUnderlying24 Tryd.sizeOf54 rfl rfl)) rfl ?_
        refine QJ.step (YldS.yld (y_assign rfl)) rfl ?_
        refine QJ.done ?_
        refine PJ.next ?_
        refine WJ.seq ?_
        refine WJ.seq ?_
        refine WJ.quiet_draw follows (by kernel_rfl) ?_
        refine QJ.step (YldS.yld (y_move rfl)) rfl ?_
        refine QJ.step (YldS.yld (y_nil rfl)) rfl ?_
        refine QJ.step (YldS.yld (y_fld (ad := ad13) fld54_0 rfl)) rfl ?_
        refine QJ.step (YldS.yld (y_load1 (v := str e11.low) Tryd.isAgg9 (ha14.sub 0 1) St.frozenC rfl)) rfl ?_
        obtain ⟨r16, h17, hm⟩ := bindS hm
        refine QJ.step (y_call Tryd.call50 rfl (RetG.quiet fun w hw => ok_s_l02Letter h17 w )) rfl ?_
        refine QJ.step (YldS.yld (y_not rfl)) rfl ?_
        refine QJ.step (YldS.yld (y_move rfl)) rfl ?_
        obtain ⟨t18, h19, hm⟩ := bindS hm
        refine QJ.cut 7 [(0, v2), (1, v5), (5, .int .i64 i9), (6, .pointer (some ad13)), (35, .bool t18)] ?_ ?_
        · rcases Bool.eq_false_or_eq_true (!r16) with hb20 | hb20
          · obtain rfl := orT h19 hb20
            refine QJ.off rfl rfl (cB hb20) rfl rfl ?_
            refine QJ.off rfl rfl (cB hb20) rfl rfl ?_
            refine QJ.off rfl rfl (cB hb20) rfl rfl ?_
            refine QJ.off rfl rfl (cB hb20) rfl rfl ?_
            refine QJ.off rfl rfl (cB hb20) rfl rfl ?_
            refine QJ.off rfl rfl (cB hb20) rfl rfl ?_
            refine QJ.step (YldS.yld (y_pick_t (cB hb20) rfl)) rfl ?_
            exact QJ.cut_end ⟨rfl, rfl, rfl, rfl, rfl, trivial⟩
          · replace h19 := orF h19 hb20
            refine QJ.on rfl rfl (cB hb20) (YldS.yld (y_move rfl)) rfl ?_
            refine QJ.on rfl rfl (cB hb20) (YldS.yld (y_nil rfl)) rfl ?_
            refine QJ.on rfl rfl (cB hb20) (YldS.yld (y_fld (ad := ad13) fld54_1 rfl)) rfl ?_
            refine QJ.on rfl rfl (cB hb20) (YldS.yld (y_load1 (v := str e11.high) Tryd.isAgg9 (ha14.sub 1 1) St.frozenC rfl)) rfl ?_
            obtain ⟨r21, h22, h19⟩ := bindS h19
            refine QJ.on rfl rfl (cB hb20) (y_call Tryd.call50 rfl (RetG.quiet fun w hw => ok_s_l02Letter h22 w )) rfl ?_
            refine QJ.on rfl rfl (cB hb20) (YldS.yld (y_not rfl)) rfl ?_
            refine QJ.step (YldS.yld (y_pick_f (cB hb20) rfl)) rfl ?_
            obtain rfl := Option.some.inj h19
            exact QJ.cut_end ⟨rfl, rfl, rfl, rfl, rfl, trivial⟩
        refine QJ.step (YldS.yld (y_move rfl)) rfl ?_
        obtain ⟨t23, h24, hm⟩ := bindS hm
        refine QJ.cut 10 [(0, v2), (1, v5), (5, .int .i64 i9), (6, .pointer (some ad13)), (46, .bool t23)] ?_ ?_
        · rcases Bool.eq_false_or_eq_true t18 with hb25 | hb25
          · obtain rfl := orT h24 hb25
            refine QJ.off rfl rfl (cB hb25) rfl rfl ?_
            refine QJ.off rfl rfl (cB hb25) rfl rfl ?_
            refine QJ.off rfl rfl (cB hb25) rfl rfl ?_
            refine QJ.off rfl rfl (cB hb25) rfl rfl ?_
            refine QJ.off rfl rfl (cB hb25) rfl rfl ?_
            refine QJ.off rfl rfl (cB hb25) rfl rfl ?_
            refine QJ.off rfl rfl (cB hb25) rfl rfl ?_
            refine QJ.off rfl rfl (cB hb25) rfl rfl ?_
            refine QJ.off rfl rfl (cB hb25) rfl rfl ?_
            refine QJ.step (YldS.yld (y_pick_t (cB hb25) rfl)) rfl ?_
            exact QJ.cut_end ⟨rfl, rfl, rfl, rfl, rfl, trivial⟩
          · replace h24 := orF h24 hb25
            refine QJ.on rfl rfl (cB hb25) (YldS.yld (y_move rfl)) rfl ?_
            refine QJ.on rfl rfl (cB hb25) (YldS.yld (y_nil rfl)) rfl ?_
            refine QJ.on rfl rfl (cB hb25) (YldS.yld (y_fld (ad := ad13) fld54_0 rfl)) rfl ?_
            refine QJ.on rfl rfl (cB hb25) (YldS.yld (y_load1 (v := str e11.low) Tryd.isAgg9 (ha14.sub 0 1) St.frozenC rfl)) rfl ?_
            refine QJ.on rfl rfl (cB hb25) (YldS.yld (y_move rfl)) rfl ?_
            refine QJ.on rfl rfl (cB hb25) (YldS.yld (y_nil rfl)) rfl ?_
            refine QJ.on rfl rfl (cB hb25) (YldS.yld (y_fld (ad := ad13) fld54_1 rfl)) rfl ?_
            refine QJ.on rfl rfl (cB hb25) (YldS.yld (y_load1 (v := str e11.high) Tryd.isAgg9 (ha14.sub 1 1) St.frozenC rfl)) rfl ?_
            refine QJ.on rfl rfl (cB hb25) (YldS.yld (y_binS rfl rfl rfl)) rfl ?_
            refine QJ.step (YldS.yld (y_pick_f (cB hb25) rfl)) rfl ?_
            obtain rfl := Option.some.inj h24
            exact QJ.cut_end ⟨rfl, rfl, rfl, rfl, rfl, trivial⟩
        refine QJ.done ?_
        refine PJ.next ?_
        refine WJ.cond (t := t23) rfl (fun hb26 => ?_) (fun hb26 => ?_)
        · replace hm := ifT hm hb26
          refine WJ.seq ?_
          refine WJ.quiet ?_
          refine QJ.step (YldS.yld (y_assign rfl)) rfl ?_
          refine QJ.done ?_
          refine PJ.next ?_
          refine WJ.ret ?_
          refine PJ.then_ret (PJ.block_ret (PJ.then_ret (PJ.then_ret (PJ.block_ret (PJ.then_ret ?_)))))
          obtain rfl := Option.some.inj hm
          refine PJ.sel (L' := []) [] ⟨List.nodup_nil, rfl⟩ ?_
          exact PJ.retn (vs := [.bool false]) Tryd.results31 ⟨rfl, trivial⟩ ⟨rfl, rfl⟩
        · replace hm := ifF hm hb26
          refine WJ.skip ?_
          refine PJ.next ?_
          refine WJ.seq ?_
          refine WJ.quiet_draw follows (by kernel_rfl) ?_
          refine QJ.step (YldS.yld (y_move rfl)) rfl ?_
          refine QJ.step (YldS.yld (y_move rfl)) rfl ?_
          obtain ⟨l27, h28, hm⟩ := bindS hm
          obtain ⟨v29, hr30, hy31⟩ := RdS.part (i := none) (j := some i9) hr3 h28
          refine QJ.step (YldS.yld (hy31 Tryd.runUnderlying24 Tryd.sizeOf54 rfl trivial ⟨_, rfl⟩)) rfl ?_
          refine QJ.step (YldS.yld (y_move rfl)) rfl ?_
          refine QJ.step (YldS.yld (y_nil rfl)) rfl ?_
          refine QJ.step (YldS.yld (y_fld (ad := ad13) fld54_0 rfl)) rfl ?_
          refine QJ.step (YldS.yld (y_load1 (v := str e11.low) Tryd.isAgg9 (ha14.sub 0 1) St.frozenC rfl)) rfl ?_
          obtain ⟨r32, h33, hm⟩ := bindS hm
          refine QJ.step (y_call Tryd.call49 rfl (RetG.quiet fun w hw => ok_s_l02Find h33 w _ (hr30.st hw))) rfl ?_
          refine QJ.step (YldS.yld (y_move rfl)) rfl ?_
          refine QJ.step (YldS.yld (y_extract rfl rfl)) rfl ?_
          refine QJ.step (YldS.yld (y_extract rfl rfl)) rfl ?_
          refine QJ.step (YldS.yld (y_assign rfl)) rfl ?_
          refine QJ.step (YldS.yld (y_assign rfl)) rfl ?_
          refine QJ.done ?_
          refine PJ.next ?_
          refine WJ.seq ?_
          refine WJ.quiet_draw follows (by kernel_rfl) ?_
          refine QJ.step (YldS.yld (y_move rfl)) rfl ?_
          refine QJ.step (YldS.yld (y_move rfl)) rfl ?_
          obtain ⟨l34, h35, hm⟩ := bindS hm
          obtain ⟨v36, hr37, hy38⟩ := RdS.part (i := none) (j := some i9) hr3 h35
          refine QJ.step (YldS.yld (hy38 Tryd.runUnderlying24 Tryd.sizeOf54 rfl trivial ⟨_, rfl⟩)) rfl ?_
          refine QJ.step (YldS.yld (y_move rfl)) rfl ?_
          refine QJ.step (YldS.yld (y_nil rfl)) rfl ?_
          refine QJ.step (YldS.yld (y_fld (ad := ad13) fld54_1 rfl)) rfl ?_
          refine QJ.step (YldS.yld (y_load1 (v := str e11.high) Tryd.isAgg9 (ha14.sub 1 1) St.frozenC rfl)) rfl ?_
          obtain ⟨r39, h40, hm⟩ := bindS hm
          refine QJ.step (y_call Tryd.call49 rfl (RetG.quiet fun w hw => ok_s_l02Find h40 w _ (hr37.st hw))) rfl ?_
          refine QJ.step (YldS.yld (y_move rfl)) rfl ?_
          refine QJ.step (YldS.yld (y_extract rfl rfl)) rfl ?_
          refine QJ.step (YldS.yld (y_extract rfl rfl)) rfl ?_
          refine QJ.step (YldS.yld (y_assign rfl)) rfl ?_
          refine QJ.step (YldS.yld (y_assign rfl)) rfl ?_
          refine QJ.done ?_
          refine PJ.next ?_
          refine WJ.seq ?_
          refine WJ.quiet ?_
          refine QJ.step (YldS.yld (y_move rfl)) rfl ?_
          refine QJ.step (YldS.yld (y_bin rfl rfl rfl)) rfl ?_
          refine QJ.step (YldS.yld (y_move rfl)) rfl ?_
          obtain ⟨t41, h42, hm⟩ := bindS hm
          refine QJ.cut 3 [(0, v2), (1, v5), (5, .int .i64 i9), (74, .bool t41)] ?_ ?_
          · rcases Bool.eq_false_or_eq_true (decide (r32.1 ≥ 0)) with hb43 | hb43
            · obtain rfl := orT h42 hb43
              refine QJ.off rfl rfl (cB hb43) rfl rfl ?_
              refine QJ.off rfl rfl (cB hb43) rfl rfl ?_
              refine QJ.step (YldS.yld (y_pick_t (cB hb43) rfl)) rfl ?_
              exact QJ.cut_end ⟨rfl, rfl, rfl, rfl, trivial⟩
            · replace h42 := orF h42 hb43
              refine QJ.on rfl rfl (cB hb43) (YldS.yld (y_move rfl)) rfl ?_
              refine QJ.on rfl rfl (cB hb43) (YldS.yld (y_bin rfl rfl rfl)) rfl ?_
              refine QJ.step (YldS.yld (y_pick_f (cB hb43) rfl)) rfl ?_
              obtain rfl := Option.some.inj h42
              exact QJ.cut_end ⟨rfl, rfl, rfl, rfl, trivial⟩
          refine QJ.done ?_
          refine PJ.next ?_
          refine WJ.cond (t := t41) rfl (fun hb44 => ?_) (fun hb44 => ?_)
          · replace hm := ifT hm hb44
            refine WJ.seq ?_
            refine WJ.quiet ?_
            refine QJ.step (YldS.yld (y_assign rfl)) rfl ?_
            refine QJ.done ?_
            refine PJ.next ?_
            refine WJ.ret ?_
            refine PJ.block_ret (PJ.then_ret (PJ.then_ret (PJ.block_ret (PJ.then_ret ?_))))
            obtain rfl := Option.some.inj hm
            refine PJ.sel (L' := []) [] ⟨List.nodup_nil, rfl⟩ ?_
            exact PJ.retn (vs := [.bool false]) Tryd.results31 ⟨rfl, trivial⟩ ⟨rfl, rfl⟩
          · replace hm := ifF hm hb44
            refine WJ.skip ?_
            refine PJ.block_normal (PJ.next ?_)
            refine WJ.quiet ?_
            refine QJ.step (YldS.yld (y_move rfl)) rfl ?_
            refine QJ.step (YldS.yld (y_bin rfl rfl rfl)) rfl ?_
            refine QJ.step (YldS.yld (y_assign rfl)) rfl ?_
            refine QJ.done ?_
            exact PJ.round (w64 (i9 + 1)) [] hm ⟨rfl, rfl, rfl, trivial⟩ ⟨List.nodup_nil, rfl⟩
      · replace hm := ifF hm hb10
        refine WJ.exit ?_
        refine PJ.then_exit (PJ.then_exit (PJ.block_exit ?_))
        exact PJ.joined () [] hm ⟨rfl, rfl, trivial⟩ ⟨List.nodup_nil, rfl⟩
  · rintro _ hm
    subst hk8
    obtain ⟨kj45, hk46, hm⟩ := withK_open hm
    refine WJ.join (X := Unit) (fun (_ : Unit) => kj45  = some r) (fun (_ : Unit) => [(0, v2), (1, v5)]) (fun (_ : Unit) => []) ?_ ?_
    · clear hk46
      refine WJ.seq ?_
      refine WJ.quiet ?_
      refine QJ.step (YldS.yld (y_assign rfl)) rfl ?_
      refine QJ.done ?_
      refine PJ.next ?_
      refine WJ.block ?_
      refine WJ.sel (L' := (fun (x : Int) => []) 0) [] ⟨List.nodup_nil, rfl⟩ ?_
      refine WJ.sub (m' := (fun (x : Int) => [(0, v2), (1, v5), (11, .int .i64 x)]) 0) ⟨rfl, rfl, rfl, trivial⟩ ?_
      refine WJ.loop (X := Int) (fun N (x : Int) => s_l02Ok_l2 kj45 keys1 accents4 N x = some r) (fun (x : Int) => [(0, v2), (1, v5), (11, .int .i64 x)]) (fun (x : Int) => []) ?_ N 0 hm
      · rintro N i47 hI
        have hm := hI; clear hI
        cases N with
        | zero => cases hm
        | succ N =>
        unfold s_l02Ok_l2 at hm
        refine WJ.seq ?_
        refine WJ.seq ?_
        refine WJ.quiet ?_
        refine QJ.step (YldS.yld (y_move rfl)) rfl ?_
        refine QJ.step (YldS.yld (y_move rfl)) rfl ?_
        refine QJ.step (YldS.yld (y_lenS Tryd.runUnderlying25 hr6 rfl)) rfl ?_
        refine QJ.step (YldS.yld (y_bin rfl rfl rfl)) rfl ?_
        refine QJ.done ?_
        refine PJ.next ?_
        refine WJ.cond (t := decide (i47 < (List.length accents4 : Int))) rfl (fun hb48 => ?_) (fun hb48 => ?_)
        · replace hm := ifT hm hb48
          refine WJ.skip ?_
          refine PJ.next ?_
          obtain ⟨kj49, hk50, hm⟩ := withK_open hm
          refine WJ.join (X := Unit) (fun (_ : Unit) => kj49  = some r) (fun (_ : Unit) => [(0, v2), (1, v5), (11, .int .i64 i47)]) (fun (_ : Unit) => []) ?_ ?_
          · clear hk50
            refine WJ.block ?_
            refine WJ.seq ?_
            refine WJ.seq ?_
            refine WJ.quiet ?_
            refine QJ.step (YldS.yld (y_move rfl)) rfl ?_
            refine QJ.step (YldS.yld (y_move rfl)) rfl ?_
            refine QJ.step (YldS.yld (y_move rfl)) rfl ?_
            obtain ⟨e51, h52, hm⟩ := bindS hm
            obtain ⟨ad53, _, rfl, ha54, hy55⟩ := hr6.elem h52
            refine QJ.step (YldS.yld (hy55 Tryd.runUnderlying25 Tryd.sizeOf56 rfl rfl)) rfl ?_
            obtain ⟨r56, h57, hm⟩ := bindS hm
            refine QJ.step (y_call Tryd.call51 rfl (RetG.quiet fun w hw => ok_s_l02Accent h57 w _ (hr3.st hw) _ (ha54.st hw))) rfl ?_
            refine QJ.step (YldS.yld (y_not rfl)) rfl ?_
            refine QJ.done ?_
            refine PJ.next ?_
            refine WJ.cond (t := !r56) rfl (fun hb58 => ?_) (fun hb58 => ?_)
            · replace hm := ifT hm hb58
              refine WJ.seq ?_
              refine WJ.quiet ?_
              refine QJ.step (YldS.yld (y_assign rfl)) rfl ?_
              refine QJ.done ?_
              refine PJ.next ?_
              refine WJ.ret ?_
              refine PJ.then_ret (PJ.block_ret (PJ.then_ret (PJ.then_ret (PJ.block_ret (PJ.then_ret ?_)))))
              obtain rfl := Option.some.inj hm
              refine PJ.sel (L' := []) [] ⟨List.nodup_nil, rfl⟩ ?_
              exact PJ.retn (vs := [.bool false]) Tryd.results31 ⟨rfl, trivial⟩ ⟨rfl, rfl⟩
            · replace hm := ifF hm hb58
              refine WJ.skip ?_
              refine PJ.next ?_
              refine WJ.seq ?_
              refine WJ.quiet ?_
              refine QJ.step (YldS.yld (y_assign rfl)) rfl ?_
              refine QJ.done ?_
              refine PJ.next ?_
              refine WJ.block ?_
              refine WJ.sel (L' := (fun (x : Int) => []) 0) [] ⟨List.nodup_nil, rfl⟩ ?_
              refine WJ.sub (m' := (fun (x : Int) => [(0, v2), (1, v5), (11, .int .i64 i47), (12, .int .i64 x)]) 0) ⟨rfl, rfl, rfl, rfl, trivial⟩ ?_
              refine WJ.loop (X := Int) (fun N (x : Int) => s_l02Ok_l3 kj49 accents4 i47 N x = some r) (fun (x : Int) => [(0, v2), (1, v5), (11, .int .i64 i47), (12, .int .i64 x)]) (fun (x : Int) => []) ?_ N 0 hm
              · rintro N k59 hI
                have hm := hI; clear hI
                cases N with
                | zero => cases hm
                | succ N =>
                unfold s_l02Ok_l3 at hm
                refine WJ.seq ?_
                refine WJ.seq ?_
                refine WJ.quiet ?_
                refine QJ.step (YldS.yld (y_move rfl)) rfl ?_
                refine QJ.step (YldS.yld (y_move rfl)) rfl ?_
                refine QJ.step (YldS.yld (y_bin rfl rfl rfl)) rfl ?_
                refine QJ.done ?_
                refine PJ.next ?_
                refine WJ.cond (t := decide (k59 < i47)) rfl (fun hb60 => ?_) (fun hb60 => ?_)
                · replace hm := ifT hm hb60
                  refine WJ.skip ?_
                  refine PJ.next ?_
                  refine WJ.seq ?_
                  refine WJ.block ?_
                  refine WJ.seq ?_
                  refine WJ.quiet_draw follows (by kernel_rfl) ?_
                  refine QJ.step (YldS.yld (y_move rfl)) rfl ?_
                  refine QJ.step (YldS.yld (y_move rfl)) rfl ?_
                  obtain ⟨e61, h62, hm⟩ := bindS hm
                  obtain ⟨ad63, _, rfl, ha64, hy65⟩ := hr6.elem h62
                  refine QJ.step (YldS.yld (hy65 Tryd.runUnderlying25 Tryd.sizeOf56 rfl rfl)) rfl ?_
                  refine QJ.step (YldS.yld (y_fld (ad := ad63) fld56_2 rfl)) rfl ?_
                  refine QJ.step (YldS.yld (y_load1 (v := str e61.made) Tryd.isAgg9 (ha64.sub 2 1) St.frozenC rfl)) rfl ?_
                  refine QJ.step (YldS.yld (y_move rfl)) rfl ?_
                  refine QJ.step (YldS.yld (y_move rfl)) rfl ?_
                  obtain ⟨e66, h67, hm⟩ := bindS hm
                  obtain ⟨ad68, _, rfl, ha69, hy70⟩ := hr6.elem h67
                  refine QJ.step (YldS.yld (hy70 Tryd.runUnderlying25 Tryd.sizeOf56 rfl rfl)) rfl ?_
                  refine QJ.step (YldS.yld (y_fld (ad := ad68) fld56_2 rfl)) rfl ?_
                  refine QJ.step (YldS.yld (y_load1 (v := str e66.made) Tryd.isAgg9 (ha69.sub 2 1) St.frozenC rfl)) rfl ?_
                  refine QJ.step (YldS.yld (y_binS rfl rfl rfl)) rfl ?_
                  refine QJ.step (YldS.yld (y_move rfl)) rfl ?_
                  obtain ⟨t71, h72, hm⟩ := bindS hm
                  refine QJ.cut 25 [(0, v2), (1, v5), (11, .int .i64 i47), (12, .int .i64 k59), (128, .bool t71)] ?_ ?_
                  · rcases Bool.eq_false_or_eq_true (e61.made == e66.made) with hb73 | hb73
                    · obtain rfl := orT h72 hb73
                      refine QJ.off rfl rfl (cB hb73) rfl rfl ?_
                      refine QJ.off rfl rfl (cB hb73) rfl rfl ?_
                      refine QJ.off rfl rfl (cB hb73) rfl rfl ?_
                      refine QJ.off rfl rfl (cB hb73) rfl rfl ?_
                      refine QJ.off rfl rfl (cB hb73) rfl rfl ?_
                      refine QJ.off rfl rfl (cB hb73) rfl rfl ?_
                      refine QJ.off rfl rfl (cB hb73) rfl rfl ?_
                      refine QJ.off rfl rfl (cB hb73) rfl rfl ?_
                      refine QJ.off rfl rfl (cB hb73) rfl rfl ?_
                      refine QJ.off rfl rfl (cB hb73) rfl rfl ?_
                      refine QJ.off rfl rfl (cB hb73) rfl rfl ?_
                      refine QJ.off rfl rfl (cB hb73) rfl rfl ?_
                      refine QJ.off_undef rfl rfl rfl rfl ?_
                      refine QJ.off_undef rfl rfl rfl rfl ?_
                      refine QJ.off_undef rfl rfl rfl rfl ?_
                      refine QJ.off_undef rfl rfl rfl rfl ?_
                      refine QJ.off_undef rfl rfl rfl rfl ?_
                      refine QJ.off_undef rfl rfl rfl rfl ?_
                      refine QJ.off_undef rfl rfl rfl rfl ?_
                      refine QJ.off_undef rfl rfl rfl rfl ?_
                      refine QJ.off_undef rfl rfl rfl rfl ?_
                      refine QJ.off_undef rfl rfl rfl rfl ?_
                      refine QJ.off_undef rfl rfl rfl rfl ?_
                      refine QJ.off rfl rfl (cB hb73) rfl rfl ?_
                      refine QJ.step (YldS.yld (y_pick_t (cB hb73) rfl)) rfl ?_
                      exact QJ.cut_end ⟨rfl, rfl, rfl, rfl, rfl, trivial⟩
                    · replace h72 := orF h72 hb73
                      refine QJ.on rfl rfl (cB hb73) (YldS.yld (y_move rfl)) rfl ?_
                      refine QJ.on rfl rfl (cB hb73) (YldS.yld (y_move rfl)) rfl ?_
                      obtain ⟨e74, h75, h72⟩ := bindS h72
                      obtain ⟨ad76, _, rfl, ha77, hy78⟩ := hr6.elem h75
                      refine QJ.on rfl rfl (cB hb73) (YldS.yld (hy78 Tryd.runUnderlying25 Tryd.sizeOf56 rfl rfl)) rfl ?_
                      refine QJ.on rfl rfl (cB hb73) (YldS.yld (y_fld (ad := ad76) fld56_0 rfl)) rfl ?_
                      refine QJ.on rfl rfl (cB hb73) (YldS.yld (y_load1 (v := str e74.mark) Tryd.isAgg9 (ha77.sub 0 1) St.frozenC rfl)) rfl ?_
                      refine QJ.on rfl rfl (cB hb73) (YldS.yld (y_move rfl)) rfl ?_
                      refine QJ.on rfl rfl (cB hb73) (YldS.yld (y_move rfl)) rfl ?_
                      obtain ⟨e79, h80, h72⟩ := bindS h72
                      obtain ⟨ad81, _, rfl, ha82, hy83⟩ := hr6.elem h80
                      refine QJ.on rfl rfl (cB hb73) (YldS.yld (hy83 Tryd.runUnderlying25 Tryd.sizeOf56 rfl rfl)) rfl ?_
                      refine QJ.on rfl rfl (cB hb73) (YldS.yld (y_fld (ad := ad81) fld56_0 rfl)) rfl ?_
                      refine QJ.on rfl rfl (cB hb73) (YldS.yld (y_load1 (v := str e79.mark) Tryd.isAgg9 (ha82.sub 0 1) St.frozenC rfl)) rfl ?_
                      refine QJ.on rfl rfl (cB hb73) (YldS.yld (y_binS rfl rfl rfl)) rfl ?_
                      refine QJ.on rfl rfl (cB hb73) (YldS.yld (y_move rfl)) rfl ?_
                      obtain ⟨t84, h85, h72⟩ := bindS h72
                      refine QJ.cut 12 [(0, v2), (1, v5), (11, .int .i64 i47), (12, .int .i64 k59), (103, .bool (e61.made == e66.made)), (104, v5), (105, .int .i64 k59), (106, .pointer (some ad76)), (107, .pointer (some ad76)), (108, str e74.mark), (109, v5), (110, .int .i64 i47), (111, .pointer (some ad81)), (112, .pointer (some ad81)), (113, str e79.mark), (114, .bool (e74.mark == e79.mark)), (115, .bool (e74.mark == e79.mark)), (127, .bool t84)] ?_ ?_
                      · rcases Bool.eq_false_or_eq_true (e74.mark == e79.mark) with hb86 | hb86
                        · replace h85 := andT h85 hb86
                          refine QJ.on rfl rfl (cB hb86) (YldS.yld (y_move rfl)) rfl ?_
                          refine QJ.on rfl rfl (cB hb86) (YldS.yld (y_move rfl)) rfl ?_
                          obtain ⟨e87, h88, h85⟩ := bindS h85
                          obtain ⟨ad89, _, rfl, ha90, hy91⟩ := hr6.elem h88
                          refine QJ.on rfl rfl (cB hb86) (YldS.yld (hy91 Tryd.runUnderlying25 Tryd.sizeOf56 rfl rfl)) rfl ?_
                          refine QJ.on rfl rfl (cB hb86) (YldS.yld (y_fld (ad := ad89) fld56_1 rfl)) rfl ?_
                          refine QJ.on rfl rfl (cB hb86) (YldS.yld (y_load1 (v := str e87.letter) Tryd.isAgg9 (ha90.sub 1 1) St.frozenC rfl)) rfl ?_
                          refine QJ.on rfl rfl (cB hb86) (YldS.yld (y_move rfl)) rfl ?_
                          refine QJ.on rfl rfl (cB hb86) (YldS.yld (y_move rfl)) rfl ?_
                          obtain ⟨e92, h93, h85⟩ := bindS h85
                          obtain ⟨ad94, _, rfl, ha95, hy96⟩ := hr6.elem h93
                          refine QJ.on rfl rfl (cB hb86) (YldS.yld (hy96 Tryd.runUnderlying25 Tryd.sizeOf56 rfl rfl)) rfl ?_
                          refine QJ.on rfl rfl (cB hb86) (YldS.yld (y_fld (ad := ad94) fld56_1 rfl)) rfl ?_
                          refine QJ.on rfl rfl (cB hb86) (YldS.yld (y_load1 (v := str e92.letter) Tryd.isAgg9 (ha95.sub 1 1) St.frozenC rfl)) rfl ?_
                          refine QJ.on rfl rfl (cB hb86) (YldS.yld (y_binS rfl rfl rfl)) rfl ?_
                          refine QJ.on rfl rfl (cB hb73) (YldS.yld (y_pick_t (cB hb86) rfl)) rfl ?_
                          obtain rfl := Option.some.inj h85
                          exact QJ.cut_end ⟨rfl, rfl, rfl, rfl, rfl, rfl, rfl, rfl, rfl, rfl, rfl, rfl, rfl, rfl, rfl, rfl, rfl, rfl, trivial⟩
                        · obtain rfl := andF h85 hb86
                          refine QJ.off rfl rfl (cB hb86) rfl rfl ?_
                          refine QJ.off rfl rfl (cB hb86) rfl rfl ?_
                          refine QJ.off rfl rfl (cB hb86) rfl rfl ?_
                          refine QJ.off rfl rfl (cB hb86) rfl rfl ?_
                          refine QJ.off rfl rfl (cB hb86) rfl rfl ?_
                          refine QJ.off rfl rfl (cB hb86) rfl rfl ?_
                          refine QJ.off rfl rfl (cB hb86) rfl rfl ?_
                          refine QJ.off rfl rfl (cB hb86) rfl rfl ?_
                          refine QJ.off rfl rfl (cB hb86) rfl rfl ?_
                          refine QJ.off rfl rfl (cB hb86) rfl rfl ?_
                          refine QJ.off rfl rfl (cB hb86) rfl rfl ?_
                          refine QJ.on rfl rfl (cB hb73) (YldS.yld (y_pick_f (cB hb86) rfl)) rfl ?_
                          exact QJ.cut_end ⟨rfl, rfl, rfl, rfl, rfl, rfl, rfl, rfl, rfl, rfl, rfl, rfl, rfl, rfl, rfl, rfl, rfl, rfl, trivial⟩
                      refine QJ.step (YldS.yld (y_pick_f (cB hb73) rfl)) rfl ?_
                      obtain rfl := Option.some.inj h72
                      exact QJ.cut_end ⟨rfl, rfl, rfl, rfl, rfl, trivial⟩
                  refine QJ.done ?_
                  refine PJ.next ?_
                  refine WJ.cond (t := t71) rfl (fun hb97 => ?_) (fun hb97 => ?_)
                  · replace hm := ifT hm hb97
                    refine WJ.seq ?_
                    refine WJ.quiet ?_
                    refine QJ.step (YldS.yld (y_assign rfl)) rfl ?_
                    refine QJ.done ?_
                    refine PJ.next ?_
                    refine WJ.ret ?_
                    refine PJ.block_ret (PJ.then_ret (PJ.then_ret (PJ.block_ret (PJ.block_ret (PJ.then_ret (PJ.then_ret (PJ.block_ret (PJ.then_ret ?_))))))))
                    obtain rfl := Option.some.inj hm
                    refine PJ.sel (L' := []) [] ⟨List.nodup_nil, rfl⟩ ?_
                    exact PJ.retn (vs := [.bool false]) Tryd.results31 ⟨rfl, trivial⟩ ⟨rfl, rfl⟩
                  · replace hm := ifF hm hb97
                    refine WJ.skip ?_
                    refine PJ.block_normal (PJ.next ?_)
                    refine WJ.quiet ?_
                    refine QJ.step (YldS.yld (y_move rfl)) rfl ?_
                    refine QJ.step (YldS.yld (y_bin rfl rfl rfl)) rfl ?_
                    refine QJ.step (YldS.yld (y_assign rfl)) rfl ?_
                    refine QJ.done ?_
                    exact PJ.round (w64 (k59 + 1)) [] hm ⟨rfl, rfl, rfl, rfl, trivial⟩ ⟨List.nodup_nil, rfl⟩
                · replace hm := ifF hm hb60
                  refine WJ.exit ?_
                  refine PJ.then_exit (PJ.then_exit (PJ.block_exit (PJ.block_normal ?_)))
                  exact PJ.joined () [] hm ⟨rfl, rfl, rfl, trivial⟩ ⟨List.nodup_nil, rfl⟩
          · rintro _ hm
            subst hk50
            refine WJ.quiet ?_
            refine QJ.step (YldS.yld (y_move rfl)) rfl ?_
            refine QJ.step (YldS.yld (y_bin rfl rfl rfl)) rfl ?_
            refine QJ.step (YldS.yld (y_assign rfl)) rfl ?_
            refine QJ.done ?_
            exact PJ.round (w64 (i47 + 1)) [] hm ⟨rfl, rfl, rfl, trivial⟩ ⟨List.nodup_nil, rfl⟩
        · replace hm := ifF hm hb48
          refine WJ.exit ?_
          refine PJ.then_exit (PJ.then_exit (PJ.block_exit ?_))
          exact PJ.joined () [] hm ⟨rfl, rfl, trivial⟩ ⟨List.nodup_nil, rfl⟩
    · rintro _ hm
      subst hk46
      refine WJ.seq ?_
      refine WJ.quiet ?_
      refine QJ.step (YldS.yld (y_move rfl)) rfl ?_
      refine QJ.step (YldS.yld (y_lenS Tryd.runUnderlying24 hr3 rfl)) rfl ?_
      refine QJ.step (YldS.yld (y_bin rfl rfl rfl)) rfl ?_
      refine QJ.step (YldS.yld (y_move rfl)) rfl ?_
      obtain ⟨t98, h99, hm⟩ := bindS hm
      refine QJ.cut 4 [(136, .bool t98)] ?_ ?_
      · rcases Bool.eq_false_or_eq_true (decide ((List.length keys1 : Int) ≤ 40)) with hb100 | hb100
        · replace h99 := andT h99 hb100
          refine QJ.on rfl rfl (cB hb100) (YldS.yld (y_move rfl)) rfl ?_
          refine QJ.on rfl rfl (cB hb100) (YldS.yld (y_lenS Tryd.runUnderlying25 hr6 rfl)) rfl ?_
          refine QJ.on rfl rfl (cB hb100) (YldS.yld (y_bin rfl rfl rfl)) rfl ?_
          refine QJ.step (YldS.yld (y_pick_t (cB hb100) rfl)) rfl ?_
          obtain rfl := Option.some.inj h99
          exact QJ.cut_end ⟨rfl, trivial⟩
        · obtain rfl := andF h99 hb100
          refine QJ.off rfl rfl (cB hb100) rfl rfl ?_
          refine QJ.off rfl rfl (cB hb100) rfl rfl ?_
          refine QJ.off rfl rfl (cB hb100) rfl rfl ?_
          refine QJ.step (YldS.yld (y_pick_f (cB hb100) rfl)) rfl ?_
          exact QJ.cut_end ⟨rfl, trivial⟩
      refine QJ.step (YldS.yld (y_assign rfl)) rfl ?_
      refine QJ.done ?_
      refine PJ.next ?_
      refine WJ.ret ?_
      obtain rfl := Option.some.inj hm
      refine PJ.sel (L' := []) [] ⟨List.nodup_nil, rfl⟩ ?_
      exact PJ.retn (vs := [.bool t98]) Tryd.results31 ⟨rfl, trivial⟩ ⟨rfl, rfl⟩

set_option maxRecDepth 100000 in
set_option maxHeartbeats 1000000 in
theorem ok_s_l02Draw {N : Nat} {s1 : L00Src} {g2 : Nat} {r : (List Key) × (List Accent) × L00Src} (hm : s_l02Draw N s1 = some r) (w : World) (S : Nat → Prop) (v3 : Value) (hr4 : RdS w (Cx.Fz ⟨w, S⟩) v3 fByte.rp s1.code) (hA : (box g2 82 [v3, .int .i64 s1.at_, .int .u64 s1.seed]).holds w S) :
    Calls Tryd.prog 58 #[pt g2 0] w (RetG ⟨w, S⟩ fun u L => ∃ (u1 : Value) (u2 : Value), (u = tup [u1, u2] ∧ L = [box g2 82 [v3, .int .i64 r.2.2.at_, .int .u64 r.2.2.seed], row u1 54 fKey r.1, row u2 56 fAccent r.2.1])) := by
  unfold s_l02Draw at hm
  refine Calls.enter1 hA [pt g2 0] Tryd.func58 rfl Tryd.ntmps58 rfl ?_
  refine WJ.seq ?_
  refine WJ.quiet ?_
  refine QJ.step (YldS.yld (y_assign rfl)) rfl ?_
  refine QJ.step (YldS.yld (y_assign rfl)) rfl ?_
  refine QJ.done ?_
  refine PJ.next ?_
  refine WJ.seq ?_
  refine WJ.quiet ?_
  refine QJ.step (YldS.yld (y_assign rfl)) rfl ?_
  refine QJ.done ?_
  refine PJ.next ?_
  refine WJ.seq ?_
  refine WJ.quiet ?_
  refine QJ.step (YldS.yld (y_assign rfl)) rfl ?_
  refine QJ.done ?_
  refine PJ.next ?_
  refine WJ.seq ?_
  refine WJ.reg ?_
  refine SJ.buildSlice (R := fKey) (os := []) [] Tryd.runUnderlying24 Tryd.sizeOf54 Tryd.zeroValue54 rfl rfl rfl rfl rfl rfl fun v5 => ?_
  refine SJ.q (YldS.yld (y_assign rfl)) rfl ?_
  refine SJ.nil ?_
  refine PJ.next ?_
  obtain ⟨kj10, hk11, hm⟩ := withK_open hm
  refine WJ.join (X := (List Key) × Value × Int × Int) (fun (x : (List Key) × Value × Int × Int) => kj10 x.1 x.2.2.1 x.2.2.2 = some r) (fun (x : (List Key) × Value × Int × Int) => [(0, pt g2 0), (4, str [97, 98, 99, 100, 101, 102, 103, 104]), (6, x.2.1)]) (fun (x : (List Key) × Value × Int × Int) => [row x.2.1 54 fKey x.1, box g2 82 [v3, .int .i64 x.2.2.1, .int .u64 x.2.2.2]]) ?_ ?_
  · clear hk11
    refine WJ.seq ?_
    refine WJ.quiet ?_
    refine QJ.step (YldS.yld (y_assign rfl)) rfl ?_
    refine QJ.done ?_
    refine PJ.next ?_
    refine WJ.block ?_
    refine WJ.sel (L' := (fun (x : (List Key) × Value × Int × Int × Int) => [row x.2.1 54 fKey x.1, box g2 82 [v3, .int .i64 x.2.2.1, .int .u64 x.2.2.2.1]]) ([], v5, s1.at_, s1.seed, 0)) [0, 1] ⟨by decide, rfl⟩ ?_
    refine WJ.sub (m' := (fun (x : (List Key) × Value × Int × Int × Int) => [(0, pt g2 0), (4, str [97, 98, 99, 100, 101, 102, 103, 104]), (5, str [65, 66, 67, 68, 69, 70, 71, 72]), (6, x.2.1), (7, .int .i64 x.2.2.2.2)]) ([], v5, s1.at_, s1.seed, 0)) ⟨rfl, rfl, rfl, rfl, rfl, trivial⟩ ?_
    refine WJ.loop (X := (List Key) × Value × Int × Int × Int) (fun N (x : (List Key) × Value × Int × Int × Int) => s_l02Draw_l1 kj10 s1 N x.1 x.2.2.1 x.2.2.2.1 x.2.2.2.2 = some r) (fun (x : (List Key) × Value × Int × Int × Int) => [(0, pt g2 0), (4, str [97, 98, 99, 100, 101, 102, 103, 104]), (5, str [65, 66, 67, 68, 69, 70, 71, 72]), (6, x.2.1), (7, .int .i64 x.2.2.2.2)]) (fun (x : (List Key) × Value × Int × Int × Int) => [row x.2.1 54 fKey x.1, box g2 82 [v3, .int .i64 x.2.2.1, .int .u64 x.2.2.2.1]]) ?_ N ([], v5, s1.at_, s1.seed, 0) hm
    · rintro N ⟨l12, v13, x14, x15, i16⟩ hI
      have hm := hI; clear hI
      cases N with
      | zero => cases hm
      | succ N =>
      unfold s_l02Draw_l1 at hm
      refine WJ.seq ?_
      refine WJ.seq ?_
      refine WJ.quiet ?_
      refine QJ.step (YldS.yld (y_move rfl)) rfl ?_
      refine QJ.step (YldS.yld (y_move rfl)) rfl ?_
      refine QJ.step (YldS.yld (y_lenStr Tryd.runUnderlying9 rfl)) rfl ?_
      refine QJ.step (YldS.yld (y_bin rfl rfl rfl)) rfl ?_
      refine QJ.done ?_
      refine PJ.next ?_
      refine WJ.cond (t := decide (i16 < (List.length [97, 98, 99, 100, 101, 102, 103, 104] : Int))) rfl (fun hb17 => ?_) (fun hb17 => ?_)
      · replace hm := ifT hm hb17
        refine WJ.skip ?_
        refine PJ.next ?_
        obtain ⟨kj22, hk23, hm⟩ := withK_open hm
        refine WJ.join (X := Int × Int × (List Key) × Value) (fun (x : Int × Int × (List Key) × Value) => kj22 x.1 x.2.1 x.2.2.1 = some r) (fun (x : Int × Int × (List Key) × Value) => [(0, pt g2 0), (4, str [97, 98, 99, 100, 101, 102, 103, 104]), (5, str [65, 66, 67, 68, 69, 70, 71, 72]), (6, x.2.2.2), (7, .int .i64 i16)]) (fun (x : Int × Int × (List Key) × Value) => [box g2 82 [v3, .int .i64 x.1, .int .u64 x.2.1], row x.2.2.2 54 fKey x.2.2.1]) ?_ ?_
        · clear hk23
          refine WJ.block ?_
          refine WJ.seq ?_
          refine WJ.seq ?_
          refine WJ.reg ?_
          refine SJ.q (YldS.yld (y_move rfl)) rfl ?_
          obtain ⟨r24, h25, hm⟩ := bindS hm
          refine SJ.call1 (k := 1) rfl Tryd.call34 rfl (fun w S hw hA hO => ok_s_l00Src_one h25 w S _ (hr4.st1 hw hO) hA) rfl ?_
          rintro _ _ ⟨rfl, rfl⟩
          refine SJ.nil ?_
          refine PJ.next ?_
          refine WJ.cond (t := r24.1) rfl (fun hb26 => ?_) (fun hb26 => ?_)
          · replace hm := ifT hm hb26
            refine WJ.exit ?_
            refine PJ.then_exit (PJ.block_exit ?_)
            exact PJ.joined (r24.2.at_, r24.2.seed, l12, v13) [0, 1] hm ⟨rfl, rfl, rfl, rfl, rfl, trivial⟩ ⟨by decide, rfl⟩
          · replace hm := ifF hm hb26
            refine WJ.skip ?_
            refine PJ.next ?_
            obtain ⟨s27, h28, hm⟩ := bindS hm
            obtain ⟨s29, h30, hm⟩ := bindS hm
            obtain ⟨l32, h33, hm⟩ := bindS hm
            refine WJ.draws (N := 15) (listed0 := #[false, false, false, false, false, false, false, false, false, false, false, false, false, false, false]) [box g2 82 [v3, .int .i64 r24.2.at_, .int .u64 r24.2.seed]] follows rfl rfl ?_
            refine RJ.first 0 (listed' := #[true, false, false, false, false, false, false, false, false, false, false, false, false, false, false]) [0] rfl (by kernel_rfl) rfl ⟨by decide, rfl⟩ (y_move rfl) rfl ?_
            refine RJ.first 1 (listed' := #[true, true, false, false, false, false, false, false, false, false, false, false, false, false, false]) [0] rfl (by kernel_rfl) rfl ⟨by decide, rfl⟩ (y_move rfl) rfl ?_
            refine RJ.first 2 (listed' := #[true, true, true, false, false, false, false, false, false, false, false, false, false, false, false]) [0] rfl (by kernel_rfl) rfl ⟨by decide, rfl⟩ (y_move rfl) rfl ?_
            refine RJ.first 3 (listed' := #[true, true, true, true, false, false, false, false, false, false, false, false, false, false, false]) [0] rfl (by kernel_rfl) rfl ⟨by decide, rfl⟩ (y_move rfl) rfl ?_
            refine RJ.first 4 (listed' := #[true, true, true, true, true, false, false, false, false, false, false, false, false, false, false]) [0] rfl (by kernel_rfl) rfl ⟨by decide, rfl⟩ (y_bin rfl rfl rfl) rfl ?_
            refine RJ.first 5 (listed' := #[true, true, true, true, true, true, false, false, false, false, false, false, false, false, false]) [0] rfl (by kernel_rfl) rfl ⟨by decide, rfl⟩ (y_subStr (i := some i16) (j := some (w64 (i16 + 1))) h28 Tryd.runUnderlying9 rfl ⟨_, rfl⟩ ⟨_, rfl⟩) rfl ?_
            refine RJ.first 6 (listed' := #[true, true, true, true, true, true, true, false, false, false, false, false, false, false, false]) [0] rfl (by kernel_rfl) rfl ⟨by decide, rfl⟩ (y_move rfl) rfl ?_
            refine RJ.first 7 (listed' := #[true, true, true, true, true, true, true, true, false, false, false, false, false, false, false]) [0] rfl (by kernel_rfl) rfl ⟨by decide, rfl⟩ (y_move rfl) rfl ?_
            refine RJ.first 8 (listed' := #[true, true, true, true, true, true, true, true, true, false, false, false, false, false, false]) [0] rfl (by kernel_rfl) rfl ⟨by decide, rfl⟩ (y_move rfl) rfl ?_
            refine RJ.first 9 (listed' := #[true, true, true, true, true, true, true, true, true, true, false, false, false, false, false]) [0] rfl (by kernel_rfl) rfl ⟨by decide, rfl⟩ (y_bin rfl rfl rfl) rfl ?_
            refine RJ.first 10 (listed' := #[true, true, true, true, true, true, true, true, true, true, true, false, false, false, false]) [0] rfl (by kernel_rfl) rfl ⟨by decide, rfl⟩ (y_subStr (i := some i16) (j := some (w64 (i16 + 1))) h30 Tryd.runUnderlying9 rfl ⟨_, rfl⟩ ⟨_, rfl⟩) rfl ?_
            refine RJ.first 11 (listed' := #[true, true, true, true, true, true, true, true, true, true, true, true, false, false, false]) [0] rfl (by kernel_rfl) rfl ⟨by decide, rfl⟩ (y_build (parts := [(0, .tmp 27), (1, .tmp 32)]) (places := [(0, 1), (1, 1), (2, 1)]) (r := [str ((Key.mk s27 s29 false).low), str ((Key.mk s27 s29 false).high), .bool ((Key.mk s27 s29 false).dead)]) pl54 Tryd.zeroValue54 rfl rfl rfl rfl) rfl ?_
            refine RJ.step1 12 [0] (by kernel_rfl) ⟨by decide, rfl⟩ ?_
            refine RO.of (listed' := #[true, true, true, true, true, true, true, true, true, true, true, true, true, false, false]) rfl rfl ?_
            refine SJ.buildSlice (R := fKey) (os := [.tmp 33]) [(Key.mk s27 s29 false)] Tryd.runUnderlying24 Tryd.sizeOf54 Tryd.zeroValue54 rfl rfl rfl rfl rfl rfl fun v31 => ?_
            refine SJ.nil ?_
            refine PJ.draw ?_
            refine RJ.step1 13 [1] (by kernel_rfl) ⟨by decide, rfl⟩ ?_
            refine RO.of (listed' := #[true, true, true, true, true, true, true, true, true, true, true, true, true, true, false]) rfl rfl ?_
            refine SJ.append (k := 2) (R := fKey) h33 rfl Tryd.underlying24 el54 rfl rfl rfl (fun w hw => (hw.row_rd (k := 0) rfl)) rfl fun v34 => ?_
            refine SJ.nil ?_
            refine PJ.draw ?_
            refine RJ.first 14 (listed' := #[true, true, true, true, true, true, true, true, true, true, true, true, true, true, true]) [1] rfl (by kernel_rfl) rfl ⟨by decide, rfl⟩ (y_assign rfl) rfl ?_
            refine RJ.fin [1] (by kernel_rfl) ⟨by decide, rfl⟩ ?_
            refine PJ.block_normal ?_
            exact PJ.joined (r24.2.at_, r24.2.seed, l32, v34) [1, 2] hm ⟨rfl, rfl, rfl, rfl, rfl, trivial⟩ ⟨by decide, rfl⟩
        · rintro ⟨x18, x19, l20, v21⟩ hm
          subst hk23
          refine WJ.quiet ?_
          refine QJ.step (YldS.yld (y_move rfl)) rfl ?_
          refine QJ.step (YldS.yld (y_bin rfl rfl rfl)) rfl ?_
          refine QJ.step (YldS.yld (y_assign rfl)) rfl ?_
          refine QJ.done ?_
          exact PJ.round (l20, v21, x18, x19, w64 (i16 + 1)) [1, 0] hm ⟨rfl, rfl, rfl, rfl, rfl, trivial⟩ ⟨by decide, rfl⟩
      · replace hm := ifF hm hb17
        refine WJ.exit ?_
        refine PJ.then_exit (PJ.then_exit (PJ.block_exit ?_))
        exact PJ.joined (l12, v13, x14, x15) [0, 1] hm ⟨rfl, rfl, rfl, trivial⟩ ⟨by decide, rfl⟩
  · rintro ⟨l6, v7, x8, x9⟩ hm
    subst hk11
    obtain ⟨kj39, hk40, hm⟩ := withK_open hm
    refine WJ.join (X := Int × Int × (List Key) × Value) (fun (x : Int × Int × (List Key) × Value) => kj39 x.1 x.2.1 x.2.2.1 = some r) (fun (x : Int × Int × (List Key) × Value) => [(0, pt g2 0), (4, str [97, 98, 99, 100, 101, 102, 103, 104]), (6, x.2.2.2)]) (fun (x : Int × Int × (List Key) × Value) => [box g2 82 [v3, .int .i64 x.1, .int .u64 x.2.1], row x.2.2.2 54 fKey x.2.2.1]) ?_ ?_
    · clear hk40
      refine WJ.seq ?_
      refine WJ.reg ?_
      refine SJ.q (YldS.yld (y_move rfl)) rfl ?_
      obtain ⟨r41, h42, hm⟩ := bindS hm
      refine SJ.call1 (k := 1) rfl Tryd.call34 rfl (fun w S hw hA hO => ok_s_l00Src_one h42 w S _ (hr4.st1 hw hO) hA) rfl ?_
      rintro _ _ ⟨rfl, rfl⟩
      refine SJ.nil ?_
      refine PJ.next ?_
      refine WJ.cond (t := r41.1) rfl (fun hb43 => ?_) (fun hb43 => ?_)
      · replace hm := ifT hm hb43
        refine WJ.reg ?_
        refine SJ.q (YldS.yld (y_move rfl)) rfl ?_
        refine SJ.q (YldS.yld (y_build (parts := [(0, .const (str [39])), (1, .const (str [96])), (2, .const (.bool true))]) (places := [(0, 1), (1, 1), (2, 1)]) (r := [str ((Key.mk [39] [96] true).low), str ((Key.mk [39] [96] true).high), .bool ((Key.mk [39] [96] true).dead)]) pl54 Tryd.zeroValue54 rfl rfl rfl rfl)) rfl ?_
        refine SJ.buildSlice (R := fKey) (os := [.tmp 39]) [(Key.mk [39] [96] true)] Tryd.runUnderlying24 Tryd.sizeOf54 Tryd.zeroValue54 rfl rfl rfl rfl rfl rfl fun v44 => ?_
        obtain ⟨l45, h46, hm⟩ := bindS hm
        refine SJ.append (k := 2) (R := fKey) h46 rfl Tryd.underlying24 el54 rfl rfl rfl (fun w hw => (hw.row_rd (k := 0) rfl)) rfl fun v47 => ?_
        refine SJ.q (YldS.yld (y_assign rfl)) rfl ?_
        refine SJ.nil ?_
        exact PJ.joined (r41.2.at_, r41.2.seed, l45, v47) [1, 2] hm ⟨rfl, rfl, rfl, trivial⟩ ⟨by decide, rfl⟩
      · replace hm := ifF hm hb43
        refine WJ.skip ?_
        exact PJ.joined (r41.2.at_, r41.2.seed, l6, v7) [0, 1] hm ⟨rfl, rfl, rfl, trivial⟩ ⟨by decide, rfl⟩
    · rintro ⟨x35, x36, l37, v38⟩ hm
      subst hk40
      refine WJ.seq ?_
      refine WJ.reg ?_
      refine SJ.buildSlice (R := fAccent) (os := []) [] Tryd.runUnderlying25 Tryd.sizeOf56 Tryd.zeroValue56 rfl rfl rfl rfl rfl rfl fun v48 => ?_
      refine SJ.q (YldS.yld (y_assign rfl)) rfl ?_
      refine SJ.nil ?_
      refine PJ.next ?_
      refine WJ.seq ?_
      refine WJ.quiet ?_
      refine QJ.step (YldS.yld (y_assign rfl)) rfl ?_
      refine QJ.done ?_
      refine PJ.next ?_
      obtain ⟨kj53, hk54, hm⟩ := withK_open hm
      refine WJ.join (X := (List Accent) × Value × Int × Int) (fun (x : (List Accent) × Value × Int × Int) => kj53 x.1 x.2.2.1 x.2.2.2 = some r) (fun (x : (List Accent) × Value × Int × Int) => [(6, v38), (8, x.2.1)]) (fun (x : (List Accent) × Value × Int × Int) => [row x.2.1 56 fAccent x.1, box g2 82 [v3, .int .i64 x.2.2.1, .int .u64 x.2.2.2], row v38 54 fKey l37]) ?_ ?_
      · clear hk54
        refine WJ.seq ?_
        refine WJ.quiet ?_
        refine QJ.step (YldS.yld (y_assign rfl)) rfl ?_
        refine QJ.done ?_
        refine PJ.next ?_
        refine WJ.block ?_
        refine WJ.sel (L' := (fun (x : (List Accent) × Value × Int × Int × Int) => [row x.2.1 56 fAccent x.1, box g2 82 [v3, .int .i64 x.2.2.1, .int .u64 x.2.2.2.1], row v38 54 fKey l37]) ([], v48, x35, x36, 0)) [0, 1, 2] ⟨by decide, rfl⟩ ?_
        refine WJ.sub (m' := (fun (x : (List Accent) × Value × Int × Int × Int) => [(0, pt g2 0), (4, str [97, 98, 99, 100, 101, 102, 103, 104]), (6, v38), (8, x.2.1), (9, str [49, 50, 51, 52, 53, 54]), (10, .int .i64 x.2.2.2.2)]) ([], v48, x35, x36, 0)) ⟨rfl, rfl, rfl, rfl, rfl, rfl, trivial⟩ ?_
        refine WJ.loop (X := (List Accent) × Value × Int × Int × Int) (fun N (x : (List Accent) × Value × Int × Int × Int) => s_l02Draw_l2 kj53 s1 l37 N x.1 x.2.2.1 x.2.2.2.1 x.2.2.2.2 = some r) (fun (x : (List Accent) × Value × Int × Int × Int) => [(0, pt g2 0), (4, str [97, 98, 99, 100, 101, 102, 103, 104]), (6, v38), (8, x.2.1), (9, str [49, 50, 51, 52, 53, 54]), (10, .int .i64 x.2.2.2.2)]) (fun (x : (List Accent) × Value × Int × Int × Int) => [row x.2.1 56 fAccent x.1, box g2 82 [v3, .int .i64 x.2.2.1, .int .u64 x.2.2.2.1], row v38 54 fKey l37]) ?_ N ([], v48, x35, x36, 0) hm
        · rintro N ⟨l55, v56, x57, x58, i59⟩ hI
          have hm := hI; clear hI
          cases N with
          | zero => cases hm
          | succ N =>
          unfold s_l02Draw_l2 at hm
          refine WJ.seq ?_
          refine WJ.seq ?_
          refine WJ.quiet ?_
          refine QJ.step (YldS.yld (y_move rfl)) rfl ?_
          refine QJ.step (YldS.yld (y_move rfl)) rfl ?_
          refine QJ.step (YldS.yld (y_lenStr Tryd.runUnderlying9 rfl)) rfl ?_
          refine QJ.step (YldS.yld (y_bin rfl rfl rfl)) rfl ?_
          refine QJ.done ?_
          refine PJ.next ?_
          refine WJ.cond (t := decide (i59 < (List.length [49, 50, 51, 52, 53, 54] : Int))) rfl (fun hb60 => ?_) (fun hb60 => ?_)
          · replace hm := ifT hm hb60
            refine WJ.skip ?_
            refine PJ.next ?_
            obtain ⟨kj65, hk66, hm⟩ := withK_open hm
            refine WJ.join (X := Int × Int × (List Accent) × Value) (fun (x : Int × Int × (List Accent) × Value) => kj65 x.1 x.2.1 x.2.2.1 = some r) (fun (x : Int × Int × (List Accent) × Value) => [(0, pt g2 0), (4, str [97, 98, 99, 100, 101, 102, 103, 104]), (6, v38), (8, x.2.2.2), (9, str [49, 50, 51, 52, 53, 54]), (10, .int .i64 i59)]) (fun (x : Int × Int × (List Accent) × Value) => [box g2 82 [v3, .int .i64 x.1, .int .u64 x.2.1], row x.2.2.2 56 fAccent x.2.2.1, row v38 54 fKey l37]) ?_ ?_
            · clear hk66
              refine WJ.block ?_
              refine WJ.seq ?_
              obtain ⟨r68, h69, hm⟩ := bindS hm
              obtain ⟨s70, h71, hm⟩ := bindS hm
              refine WJ.draws (N := 11) (listed0 := #[false, false, false, false, false, false, false, false, false, false, false]) [row v56 56 fAccent l55, row v38 54 fKey l37] follows rfl rfl ?_
              refine RJ.first 0 (listed' := #[true, false, false, false, false, false, false, false, false, false, false]) [0, 2] rfl (by kernel_rfl) rfl ⟨by decide, rfl⟩ (y_move rfl) rfl ?_
              refine RJ.first 3 (listed' := #[true, false, false, true, false, false, false, false, false, false, false]) [0, 2] rfl (by kernel_rfl) rfl ⟨by decide, rfl⟩ (y_move rfl) rfl ?_
              refine RJ.first 4 (listed' := #[true, false, false, true, true, false, false, false, false, false, false]) [0, 2] rfl (by kernel_rfl) rfl ⟨by decide, rfl⟩ (y_move rfl) rfl ?_
              refine RJ.first 5 (listed' := #[true, false, false, true, true, true, false, false, false, false, false]) [0, 2] rfl (by kernel_rfl) rfl ⟨by decide, rfl⟩ (y_move rfl) rfl ?_
              refine RJ.first 6 (listed' := #[true, false, false, true, true, true, true, false, false, false, false]) [0, 2] rfl (by kernel_rfl) rfl ⟨by decide, rfl⟩ (y_bin rfl rfl rfl) rfl ?_
              refine RJ.first 7 (listed' := #[true, false, false, true, true, true, true, true, false, false, false]) [0, 2] rfl (by kernel_rfl) rfl ⟨by decide, rfl⟩ (y_subStr (i := some i59) (j := some (w64 (i59 + 1))) h71 Tryd.runUnderlying9 rfl ⟨_, rfl⟩ ⟨_, rfl⟩) rfl ?_
              refine RJ.hold (X := Nat × Value) 1 #[true, true, true, true, true, true, true, true, true, true, false] (fun (x : Nat × Value) => [(0, pt g2 0), (4, str [97, 98, 99, 100, 101, 102, 103, 104]), (6, v38), (8, v56), (9, str [49, 50, 51, 52, 53, 54]), (10, .int .i64 i59), (11, pt x.1 0), (57, .agg (Accent.enc (Accent.mk r68.1 [] s70)).toArray)]) (fun (x : Nat × Value) => [box x.1 56 [str [], str [], str []], box g2 82 [v3, .int .i64 r68.2.at_, .int .u64 r68.2.seed], row x.2 9 fStr [[39], [96]], row v56 56 fAccent l55, row v38 54 fKey l37]) ?_ ?_
              · rintro ⟨g72, v67⟩
                refine RJ.step1 10 [3, 4] (by kernel_rfl) ⟨by decide, rfl⟩ ?_
                refine RO.of (listed' := #[true, true, true, true, true, true, true, true, true, true, true]) rfl rfl ?_
                refine SJ.storeL (k := 0) (off := 0) (us := [str ((Accent.mk r68.1 [] s70).mark), str ((Accent.mk r68.1 [] s70).letter), str ((Accent.mk r68.1 [] s70).made)]) rfl rfl rfl rfl Tryd.sizeOf56 rfl rfl ?_
                refine SJ.nil ?_
                refine PJ.draw ?_
                refine RJ.fin [3, 4] (by kernel_rfl) ⟨by decide, rfl⟩ ?_
                refine PJ.next ?_
                refine WJ.seq ?_
                refine WJ.reg ?_
                refine SJ.q (YldS.yld (y_move rfl)) rfl ?_
                refine SJ.q (YldS.yld (y_move rfl)) rfl ?_
                refine SJ.q (YldS.yld (y_lenStr Tryd.runUnderlying9 rfl)) rfl ?_
                obtain ⟨r74, h75, hm⟩ := bindS hm
                refine SJ.call1 (k := 1) rfl Tryd.call33 rfl (fun w S hw hA hO => ok_s_l00Src_pick h75 w S _ (hr4.st1 hw hO) hA) rfl ?_
                rintro _ _ ⟨rfl, rfl⟩
                refine SJ.q (YldS.yld (y_assign rfl)) rfl ?_
                refine SJ.nil ?_
                refine PJ.next ?_
                refine WJ.seq ?_
                refine WJ.reg ?_
                refine SJ.q (YldS.yld (y_move rfl)) rfl ?_
                refine SJ.q (YldS.yld (y_move rfl)) rfl ?_
                refine SJ.q (YldS.yld (y_move rfl)) rfl ?_
                refine SJ.q (YldS.yld (y_bin rfl rfl rfl)) rfl ?_
                obtain ⟨s76, h77, hm⟩ := bindS hm
                refine SJ.q (YldS.yld (y_subStr (i := some r74.1) (j := some (w64 (r74.1 + 1))) h77 Tryd.runUnderlying9 rfl ⟨_, rfl⟩ ⟨_, rfl⟩)) rfl ?_
                refine SJ.q (YldS.yld (y_fldB (o := 0) fld56_1 rfl)) rfl ?_
                refine SJ.storeL (k := 1) (off := 1) (us := [str s76]) rfl rfl rfl rfl Tryd.sizeOf9 rfl rfl ?_
                refine SJ.nil ?_
                refine PJ.next ?_
                refine WJ.seq ?_
                obtain ⟨r78, h79, hm⟩ := bindS hm
                obtain ⟨t80, h81, hm⟩ := bindS hm
                refine WJ.draws (N := 12) (listed0 := #[false, false, false, false, false, false, false, false, false, false, false, false]) [box g2 82 [v3, .int .i64 r74.2.at_, .int .u64 r74.2.seed], box g72 56 [str ((Accent.mk r68.1 [] s70).mark), str s76, str ((Accent.mk r68.1 [] s70).made)], row v67 9 fStr [[39], [96]], row v56 56 fAccent l55, row v38 54 fKey l37] follows rfl rfl ?_
                refine RJ.first 0 (listed' := #[true, false, false, false, false, false, false, false, false, false, false, false]) [0, 1, 2, 3, 4] rfl (by kernel_rfl) rfl ⟨by decide, rfl⟩ (y_move rfl) rfl ?_
                refine RJ.step1 1 [0, 1, 2, 3, 4] (by kernel_rfl) ⟨by decide, rfl⟩ ?_
                refine RO.of (listed' := #[true, true, false, false, false, false, false, false, false, false, false, false]) rfl rfl ?_
                refine SJ.q (y_call Tryd.call51 rfl (RetG.quiet fun w hw => ok_s_l02Accent h79 w _ (hw.row_rd (k := 4) rfl) _ (hw.box_at (k := 1) rfl))) rfl ?_
                refine SJ.nil ?_
                refine PJ.draw ?_
                refine RJ.first 2 (listed' := #[true, true, true, false, false, false, false, false, false, false, false, false]) [0, 1, 2, 3, 4] rfl (by kernel_rfl) rfl ⟨by decide, rfl⟩ (y_move rfl) rfl ?_
                refine RJ.hold (X := Unit) 0 #[true, true, true, true, true, true, true, true, true, true, true, true] (fun _ => [(0, pt g2 0), (4, str [97, 98, 99, 100, 101, 102, 103, 104]), (6, v38), (8, v56), (9, str [49, 50, 51, 52, 53, 54]), (10, .int .i64 i59), (11, pt g72 0), (79, .bool t80)]) (fun _ => [box g2 82 [v3, .int .i64 r74.2.at_, .int .u64 r74.2.seed], box g72 56 [str ((Accent.mk r68.1 [] s70).mark), str s76, str ((Accent.mk r68.1 [] s70).made)], row v67 9 fStr [[39], [96]], row v56 56 fAccent l55, row v38 54 fKey l37]) ?_ ?_
                · rintro _
                  refine RJ.fin [0, 1, 2, 3, 4] (by kernel_rfl) ⟨by decide, rfl⟩ ?_
                  refine PJ.next ?_
                  refine WJ.cond (t := t80) rfl (fun hb94 => ?_) (fun hb94 => ?_)
                  · replace hm := ifT hm hb94
                    refine WJ.reg ?_
                    refine SJ.q (YldS.yld (y_move rfl)) rfl ?_
                    refine SJ.q (YldS.yld (y_loadBN (k := 1) (off := 0) (us := [str ((Accent.mk r68.1 [] s70).mark), str s76, str ((Accent.mk r68.1 [] s70).made)]) rfl Tryd.isAgg56 Tryd.sizeOf56 rfl rfl)) rfl ?_
                    refine SJ.buildSlice (R := fAccent) (os := [.tmp 81]) [(Accent.mk ((Accent.mk r68.1 [] s70).mark) s76 ((Accent.mk r68.1 [] s70).made))] Tryd.runUnderlying25 Tryd.sizeOf56 Tryd.zeroValue56 rfl rfl rfl rfl rfl rfl fun v95 => ?_
                    obtain ⟨l96, h97, hm⟩ := bindS hm
                    refine SJ.append (k := 4) (R := fAccent) h97 rfl Tryd.underlying25 el56 rfl rfl rfl (fun w hw => (hw.row_rd (k := 0) rfl)) rfl fun v98 => ?_
                    refine SJ.q (YldS.yld (y_assign rfl)) rfl ?_
                    refine SJ.nil ?_
                    refine PJ.block_normal ?_
                    exact PJ.joined (r74.2.at_, r74.2.seed, l96, v98) [1, 4, 5] hm ⟨rfl, rfl, rfl, rfl, rfl, rfl, trivial⟩ ⟨by decide, rfl⟩
                  · replace hm := ifF hm hb94
                    refine WJ.skip ?_
                    refine PJ.block_normal ?_
                    exact PJ.joined (r74.2.at_, r74.2.seed, l55, v56) [0, 3, 4] hm ⟨rfl, rfl, rfl, rfl, rfl, rfl, trivial⟩ ⟨by decide, rfl⟩
                · intro hD93
                  rcases Bool.eq_false_or_eq_true r78 with hb82 | hb82
                  · replace h81 := andT h81 hb82
                    obtain ⟨l84, h85, h81⟩ := bindS h81
                    obtain ⟨l88, h89, h81⟩ := bindS h81
                    obtain ⟨r91, h92, h81⟩ := bindS h81
                    obtain rfl := Option.some.inj h81
                    refine RJ.firstOn 3 (listed' := #[true, true, true, true, false, false, false, false, false, false, false, false]) [0, 1, 2, 3, 4] rfl rfl rfl (cB hb82) (by kernel_rfl) rfl ⟨by decide, rfl⟩ (y_move rfl) rfl ?_
                    refine RJ.firstOn 5 (listed' := #[true, true, true, true, false, true, false, false, false, false, false, false]) [0, 1, 2, 3, 4] rfl rfl rfl (cB hb82) (by kernel_rfl) rfl ⟨by decide, rfl⟩ (y_move rfl) rfl ?_
                    refine RJ.firstOn 7 (listed' := #[true, true, true, true, false, true, false, true, false, false, false, false]) [0, 1, 2, 3, 4] rfl rfl rfl (cB hb82) (by kernel_rfl) rfl ⟨by decide, rfl⟩ (y_loadBN (k := 1) (off := 0) (us := [str ((Accent.mk r68.1 [] s70).mark), str s76, str ((Accent.mk r68.1 [] s70).made)]) rfl Tryd.isAgg56 Tryd.sizeOf56 rfl rfl) rfl ?_
                    refine RJ.hold (X := Value × Value) 3 #[true, true, true, true, true, true, true, true, true, false, false, false] (fun (x : Value × Value) => [(0, pt g2 0), (4, str [97, 98, 99, 100, 101, 102, 103, 104]), (6, v38), (8, v56), (9, str [49, 50, 51, 52, 53, 54]), (10, .int .i64 i59), (11, pt g72 0), (70, .bool r78), (71, v38), (73, v56), (74, x.2), (75, .agg #[str ((Accent.mk r68.1 [] s70).mark), str s76, str ((Accent.mk r68.1 [] s70).made)]), (76, x.1)]) (fun (x : Value × Value) => [row x.1 56 fAccent [(Accent.mk ((Accent.mk r68.1 [] s70).mark) s76 ((Accent.mk r68.1 [] s70).made))], row x.2 56 fAccent l84, box g2 82 [v3, .int .i64 r74.2.at_, .int .u64 r74.2.seed], box g72 56 [str ((Accent.mk r68.1 [] s70).mark), str s76, str ((Accent.mk r68.1 [] s70).made)], row v67 9 fStr [[39], [96]], row v56 56 fAccent l55, row v38 54 fKey l37]) ?_ ?_
                    · rintro ⟨v87, v86⟩
                      refine RJ.step1 9 [2, 3, 4, 5, 6] (by kernel_rfl) ⟨by decide, rfl⟩ ?_
                      refine RO.of (listed' := #[true, true, true, true, true, true, true, true, true, true, false, false]) rfl rfl ?_
                      refine SJ.on rfl rfl (cB hb82) (SJ.append (k := 1) (R := fAccent) h89 rfl Tryd.underlying25 el56 rfl rfl rfl (fun w hw => (hw.row_rd (k := 0) rfl)) rfl fun v90 => ?_)
                      refine SJ.nil ?_
                      refine PJ.draw ?_
                      refine RJ.step1 10 [2, 3, 4, 5, 6] (by kernel_rfl) ⟨by decide, rfl⟩ ?_
                      refine RO.of (listed' := #[true, true, true, true, true, true, true, true, true, true, true, false]) rfl rfl ?_
                      refine SJ.on rfl rfl (cB hb82) (SJ.q (y_call Tryd.call31 rfl (RetG.quiet fun w hw => ok_s_l02Ok h92 w _ (hw.row_rd (k := 6) rfl) _ (hw.row_rd (k := 1) rfl))) rfl ?_)
                      refine SJ.nil ?_
                      refine PJ.draw ?_
                      refine RJ.first 11 (listed' := #[true, true, true, true, true, true, true, true, true, true, true, true]) [2, 3, 4, 5, 6] rfl (by kernel_rfl) rfl ⟨by decide, rfl⟩ (y_pick_t (cB hb82) rfl) rfl ?_
                      exact RJ.weak (hD93 ()) [2, 3, 4, 5, 6] ⟨rfl, rfl, rfl, rfl, rfl, rfl, rfl, rfl, trivial⟩ ⟨by decide, rfl⟩
                    · intro hD99
                      refine RJ.step2 4 8 [0, 1, 2, 3, 4] (by kernel_rfl) ⟨by decide, rfl⟩ ?_ ?_
                      · refine RO.of (listed' := #[true, true, true, true, true, true, false, true, false, false, false, false]) rfl rfl ?_
                        refine SJ.on rfl rfl (cB hb82) (SJ.buildSlice (R := fAccent) (os := []) [] Tryd.runUnderlying25 Tryd.sizeOf56 Tryd.zeroValue56 rfl rfl rfl rfl rfl rfl fun v83 => ?_)
                        refine SJ.nil ?_
                        refine PJ.draw ?_
                        refine RJ.step2 6 8 [1, 2, 3, 4, 5] (by kernel_rfl) ⟨by decide, rfl⟩ ?_ ?_
                        · refine RO.of (listed' := #[true, true, true, true, true, true, true, true, false, false, false, false]) rfl rfl ?_
                          refine SJ.on rfl rfl (cB hb82) (SJ.append (k := 0) (R := fAccent) h85 rfl Tryd.underlying25 el56 rfl rfl rfl (fun w hw => (hw.row_rd (k := 4) rfl)) rfl fun v86 => ?_)
                          refine SJ.nil ?_
                          refine PJ.draw ?_
                          refine RJ.step1 8 [1, 2, 3, 4, 5] (by kernel_rfl) ⟨by decide, rfl⟩ ?_
                          refine RO.of (listed' := #[true, true, true, true, true, true, true, true, true, false, false, false]) rfl rfl ?_
                          refine SJ.on rfl rfl (cB hb82) (SJ.buildSlice (R := fAccent) (os := [.tmp 75]) [(Accent.mk ((Accent.mk r68.1 [] s70).mark) s76 ((Accent.mk r68.1 [] s70).made))] Tryd.runUnderlying25 Tryd.sizeOf56 Tryd.zeroValue56 rfl rfl rfl rfl rfl rfl fun v87 => ?_)
                          refine SJ.nil ?_
                          refine PJ.draw ?_
                          exact RJ.weak (hD99 (v87, v86)) [0, 1, 2, 3, 4, 5, 6] ⟨rfl, rfl, rfl, rfl, rfl, rfl, rfl, rfl, rfl, rfl, rfl, rfl, rfl, trivial⟩ ⟨by decide, rfl⟩
                        · refine RO.of (listed' := #[true, true, true, true, true, true, false, true, true, false, false, false]) rfl rfl ?_
                          refine SJ.on rfl rfl (cB hb82) (SJ.buildSlice (R := fAccent) (os := [.tmp 75]) [(Accent.mk ((Accent.mk r68.1 [] s70).mark) s76 ((Accent.mk r68.1 [] s70).made))] Tryd.runUnderlying25 Tryd.sizeOf56 Tryd.zeroValue56 rfl rfl rfl rfl rfl rfl fun v87 => ?_)
                          refine SJ.nil ?_
                          refine PJ.draw ?_
                          refine RJ.step1 6 [2, 3, 4, 5, 6] (by kernel_rfl) ⟨by decide, rfl⟩ ?_
                          refine RO.of (listed' := #[true, true, true, true, true, true, true, true, true, false, false, false]) rfl rfl ?_
                          refine SJ.on rfl rfl (cB hb82) (SJ.append (k := 1) (R := fAccent) h85 rfl Tryd.underlying25 el56 rfl rfl rfl (fun w hw => (hw.row_rd (k := 5) rfl)) rfl fun v86 => ?_)
                          refine SJ.nil ?_
                          refine PJ.draw ?_
                          exact RJ.weak (hD99 (v87, v86)) [0, 1, 2, 3, 4, 5, 6] ⟨rfl, rfl, rfl, rfl, rfl, rfl, rfl, rfl, rfl, rfl, rfl, rfl, rfl, trivial⟩ ⟨by decide, rfl⟩
                      · refine RO.of (listed' := #[true, true, true, true, false, true, false, true, true, false, false, false]) rfl rfl ?_
                        refine SJ.on rfl rfl (cB hb82) (SJ.buildSlice (R := fAccent) (os := [.tmp 75]) [(Accent.mk ((Accent.mk r68.1 [] s70).mark) s76 ((Accent.mk r68.1 [] s70).made))] Tryd.runUnderlying25 Tryd.sizeOf56 Tryd.zeroValue56 rfl rfl rfl rfl rfl rfl fun v87 => ?_)
                        refine SJ.nil ?_
                        refine PJ.draw ?_
                        refine RJ.step1 4 [1, 2, 3, 4, 5] (by kernel_rfl) ⟨by decide, rfl⟩ ?_
                        refine RO.of (listed' := #[true, true, true, true, true, true, false, true, true, false, false, false]) rfl rfl ?_
                        refine SJ.on rfl rfl (cB hb82) (SJ.buildSlice (R := fAccent) (os := []) [] Tryd.runUnderlying25 Tryd.sizeOf56 Tryd.zeroValue56 rfl rfl rfl rfl rfl rfl fun v83 => ?_)
                        refine SJ.nil ?_
                        refine PJ.draw ?_
                        refine RJ.step1 6 [2, 3, 4, 5, 6] (by kernel_rfl) ⟨by decide, rfl⟩ ?_
                        refine RO.of (listed' := #[true, true, true, true, true, true, true, true, true, false, false, false]) rfl rfl ?_
                        refine SJ.on rfl rfl (cB hb82) (SJ.append (k := 0) (R := fAccent) h85 rfl Tryd.underlying25 el56 rfl rfl rfl (fun w hw => (hw.row_rd (k := 5) rfl)) rfl fun v86 => ?_)
                        refine SJ.nil ?_
                        refine PJ.draw ?_
                        exact RJ.weak (hD99 (v87, v86)) [1, 0, 2, 3, 4, 5, 6] ⟨rfl, rfl, rfl, rfl, rfl, rfl, rfl, rfl, rfl, rfl, rfl, rfl, rfl, trivial⟩ ⟨by decide, rfl⟩
                  · obtain rfl := andF h81 hb82
                    refine RJ.firstOff 3 (listed' := #[true, true, true, true, false, false, false, false, false, false, false, false]) [0, 1, 2, 3, 4] rfl rfl rfl (cB hb82) rfl (by kernel_rfl) rfl ⟨by decide, rfl⟩ rfl ?_
                    refine RJ.firstOff 4 (listed' := #[true, true, true, true, true, false, false, false, false, false, false, false]) [0, 1, 2, 3, 4] rfl rfl rfl (cB hb82) rfl (by kernel_rfl) rfl ⟨by decide, rfl⟩ rfl ?_
                    refine RJ.firstOff 5 (listed' := #[true, true, true, true, true, true, false, false, false, false, false, false]) [0, 1, 2, 3, 4] rfl rfl rfl (cB hb82) rfl (by kernel_rfl) rfl ⟨by decide, rfl⟩ rfl ?_
                    refine RJ.firstOff 6 (listed' := #[true, true, true, true, true, true, true, false, false, false, false, false]) [0, 1, 2, 3, 4] rfl rfl rfl (cB hb82) rfl (by kernel_rfl) rfl ⟨by decide, rfl⟩ rfl ?_
                    refine RJ.firstOff 7 (listed' := #[true, true, true, true, true, true, true, true, false, false, false, false]) [0, 1, 2, 3, 4] rfl rfl rfl (cB hb82) rfl (by kernel_rfl) rfl ⟨by decide, rfl⟩ rfl ?_
                    refine RJ.firstOff 8 (listed' := #[true, true, true, true, true, true, true, true, true, false, false, false]) [0, 1, 2, 3, 4] rfl rfl rfl (cB hb82) rfl (by kernel_rfl) rfl ⟨by decide, rfl⟩ rfl ?_
                    refine RJ.firstOff 9 (listed' := #[true, true, true, true, true, true, true, true, true, true, false, false]) [0, 1, 2, 3, 4] rfl rfl rfl (cB hb82) rfl (by kernel_rfl) rfl ⟨by decide, rfl⟩ rfl ?_
                    refine RJ.firstOff 10 (listed' := #[true, true, true, true, true, true, true, true, true, true, true, false]) [0, 1, 2, 3, 4] rfl rfl rfl (cB hb82) rfl (by kernel_rfl) rfl ⟨by decide, rfl⟩ rfl ?_
                    refine RJ.first 11 (listed' := #[true, true, true, true, true, true, true, true, true, true, true, true]) [0, 1, 2, 3, 4] rfl (by kernel_rfl) rfl ⟨by decide, rfl⟩ (y_pick_f (cB hb82) rfl) rfl ?_
                    exact RJ.weak (hD93 ()) [0, 1, 2, 3, 4] ⟨rfl, rfl, rfl, rfl, rfl, rfl, rfl, rfl, trivial⟩ ⟨by decide, rfl⟩
              · intro hD73
                refine RJ.step2 1 9 [0, 2] (by kernel_rfl) ⟨by decide, rfl⟩ ?_ ?_
                · refine RO.of (listed' := #[true, true, false, true, true, true, true, true, false, false, false]) rfl rfl ?_
                  refine SJ.buildSlice (R := fStr) (os := [.const (str [39]), .const (str [96])]) [[39], [96]] Tryd.runUnderlying69 Tryd.sizeOf9 Tryd.zeroValue9 rfl rfl rfl rfl rfl rfl fun v67 => ?_
                  refine SJ.nil ?_
                  refine PJ.draw ?_
                  refine RJ.step2 2 9 [1, 3] (by kernel_rfl) ⟨by decide, rfl⟩ ?_ ?_
                  · refine RO.of (listed' := #[true, true, true, true, true, true, true, true, false, false, false]) rfl rfl ?_
                    refine SJ.call2 (k := 2) rfl Tryd.call46 rfl (fun w S hw hA hO hB => ok_s_l00Src_text h69 w S _ (hr4.st1 hw hO) _ (hB.row_rd (j := 0) (k := 2) rfl rfl) hA) rfl ?_
                    rintro _ _ ⟨rfl, rfl⟩
                    refine SJ.nil ?_
                    refine PJ.draw ?_
                    refine RJ.first 8 (listed' := #[true, true, true, true, true, true, true, true, true, false, false]) [2, 3] rfl (by kernel_rfl) rfl ⟨by decide, rfl⟩ (y_build (parts := [(0, .tmp 51), (2, .tmp 56)]) (places := [(0, 1), (1, 1), (2, 1)]) (r := [str ((Accent.mk r68.1 [] s70).mark), str ((Accent.mk r68.1 [] s70).letter), str ((Accent.mk r68.1 [] s70).made)]) pl56 Tryd.zeroValue56 rfl rfl rfl rfl) rfl ?_
                    refine RJ.step1 9 [2, 3] (by kernel_rfl) ⟨by decide, rfl⟩ ?_
                    refine RO.of (listed' := #[true, true, true, true, true, true, true, true, true, true, false]) rfl rfl ?_
                    refine SJ.alloc (cs := [str [], str [], str []]) Tryd.zeroValue56 rfl rfl fun g72 => ?_
                    refine SJ.nil ?_
                    refine PJ.draw ?_
                    exact RJ.weak (hD73 (g72, v67)) [0, 1, 2, 3, 4] ⟨rfl, rfl, rfl, rfl, rfl, rfl, rfl, rfl, trivial⟩ ⟨by decide, rfl⟩
                  · refine RO.of (listed' := #[true, true, false, true, true, true, true, true, false, true, false]) rfl rfl ?_
                    refine SJ.alloc (cs := [str [], str [], str []]) Tryd.zeroValue56 rfl rfl fun g72 => ?_
                    refine SJ.nil ?_
                    refine PJ.draw ?_
                    refine RJ.step1 2 [2, 4] (by kernel_rfl) ⟨by decide, rfl⟩ ?_
                    refine RO.of (listed' := #[true, true, true, true, true, true, true, true, false, true, false]) rfl rfl ?_
                    refine SJ.call2 (k := 3) rfl Tryd.call46 rfl (fun w S hw hA hO hB => ok_s_l00Src_text h69 w S _ (hr4.st1 hw hO) _ (hB.row_rd (j := 1) (k := 3) rfl rfl) hA) rfl ?_
                    rintro _ _ ⟨rfl, rfl⟩
                    refine SJ.nil ?_
                    refine PJ.draw ?_
                    refine RJ.first 8 (listed' := #[true, true, true, true, true, true, true, true, true, true, false]) [3, 4] rfl (by kernel_rfl) rfl ⟨by decide, rfl⟩ (y_build (parts := [(0, .tmp 51), (2, .tmp 56)]) (places := [(0, 1), (1, 1), (2, 1)]) (r := [str ((Accent.mk r68.1 [] s70).mark), str ((Accent.mk r68.1 [] s70).letter), str ((Accent.mk r68.1 [] s70).made)]) pl56 Tryd.zeroValue56 rfl rfl rfl rfl) rfl ?_
                    exact RJ.weak (hD73 (g72, v67)) [1, 0, 2, 3, 4] ⟨rfl, rfl, rfl, rfl, rfl, rfl, rfl, rfl, trivial⟩ ⟨by decide, rfl⟩
                · refine RO.of (listed' := #[true, false, false, true, true, true, true, true, false, true, false]) rfl rfl ?_
                  refine SJ.alloc (cs := [str [], str [], str []]) Tryd.zeroValue56 rfl rfl fun g72 => ?_
                  refine SJ.nil ?_
                  refine PJ.draw ?_
                  refine RJ.step1 1 [1, 3] (by kernel_rfl) ⟨by decide, rfl⟩ ?_
                  refine RO.of (listed' := #[true, true, false, true, true, true, true, true, false, true, false]) rfl rfl ?_
                  refine SJ.buildSlice (R := fStr) (os := [.const (str [39]), .const (str [96])]) [[39], [96]] Tryd.runUnderlying69 Tryd.sizeOf9 Tryd.zeroValue9 rfl rfl rfl rfl rfl rfl fun v67 => ?_
                  refine SJ.nil ?_
                  refine PJ.draw ?_
                  refine RJ.step1 2 [2, 4] (by kernel_rfl) ⟨by decide, rfl⟩ ?_
                  refine RO.of (listed' := #[true, true, true, true, true, true, true, true, false, true, false]) rfl rfl ?_
                  refine SJ.call2 (k := 3) rfl Tryd.call46 rfl (fun w S hw hA hO hB => ok_s_l00Src_text h69 w S _ (hr4.st1 hw hO) _ (hB.row_rd (j := 0) (k := 3) rfl rfl) hA) rfl ?_
                  rintro _ _ ⟨rfl, rfl⟩
                  refine SJ.nil ?_
                  refine PJ.draw ?_
                  refine RJ.first 8 (listed' := #[true, true, true, true, true, true, true, true, true, true, false]) [3, 4] rfl (by kernel_rfl) rfl ⟨by decide, rfl⟩ (y_build (parts := [(0, .tmp 51), (2, .tmp 56)]) (places := [(0, 1), (1, 1), (2, 1)]) (r := [str ((Accent.mk r68.1 [] s70).mark), str ((Accent.mk r68.1 [] s70).letter), str ((Accent.mk r68.1 [] s70).made)]) pl56 Tryd.zeroValue56 rfl rfl rfl rfl) rfl ?_
                  exact RJ.weak (hD73 (g72, v67)) [2, 0, 1, 3, 4] ⟨rfl, rfl, rfl, rfl, rfl, rfl, rfl, rfl, trivial⟩ ⟨by decide, rfl⟩
            · rintro ⟨x61, x62, l63, v64⟩ hm
              subst hk66
              refine WJ.quiet ?_
              refine QJ.step (YldS.yld (y_move rfl)) rfl ?_
              refine QJ.step (YldS.yld (y_bin rfl rfl rfl)) rfl ?_
              refine QJ.step (YldS.yld (y_assign rfl)) rfl ?_
              refine QJ.done ?_
              exact PJ.round (l63, v64, x61, x62, w64 (i59 + 1)) [1, 0, 2] hm ⟨rfl, rfl, rfl, rfl, rfl, rfl, trivial⟩ ⟨by decide, rfl⟩
          · replace hm := ifF hm hb60
            refine WJ.exit ?_
            refine PJ.then_exit (PJ.then_exit (PJ.block_exit ?_))
            exact PJ.joined (l55, v56, x57, x58) [0, 1, 2] hm ⟨rfl, rfl, trivial⟩ ⟨by decide, rfl⟩
      · rintro ⟨l49, v50, x51, x52⟩ hm
        subst hk54
        refine WJ.seq ?_
        refine WJ.quiet ?_
        refine QJ.step (YldS.yld (y_move rfl)) rfl ?_
        refine QJ.step (YldS.yld (y_move rfl)) rfl ?_
        refine QJ.step (YldS.yld (y_assign rfl)) rfl ?_
        refine QJ.step (YldS.yld (y_assign rfl)) rfl ?_
        refine QJ.done ?_
        refine PJ.next ?_
        refine WJ.ret ?_
        obtain rfl := Option.some.inj hm
        refine PJ.sel (L' := [box g2 82 [v3, .int .i64 x51, .int .u64 x52], row v38 54 fKey l37, row v50 56 fAccent l49]) [1, 2, 0] ⟨by decide, rfl⟩ ?_
        exact PJ.retn (vs := [v38, v50]) Tryd.results58 ⟨rfl, rfl, trivial⟩ ⟨_, _, rfl, rfl⟩

set_option maxRecDepth 100000 in
set_option maxHeartbeats 1000000 in
theorem ok_s_l02Bent {N : Nat} {s1 : L00Src} {g2 : Nat} {r : (List Key) × (List Accent) × L00Src} (hm : s_l02Bent N s1 = some r) (w : World) (S : Nat → Prop) (v3 : Value) (hr4 : RdS w (Cx.Fz ⟨w, S⟩) v3 fByte.rp s1.code) (hA : (box g2 82 [v3, .int .i64 s1.at_, .int .u64 s1.seed]).holds w S) :
    Calls Tryd.prog 45 #[pt g2 0] w (RetG ⟨w, S⟩ fun u L => ∃ (u1 : Value) (u2 : Value), (u = tup [u1, u2] ∧ L = [box g2 82 [v3, .int .i64 r.2.2.at_, .int .u64 r.2.2.seed], row u1 54 fKey r.1, row u2 56 fAccent r.2.1])) := by
  unfold s_l02Bent at hm
  refine Calls.enter1 hA [pt g2 0] Tryd.func45 rfl Tryd.ntmps45 rfl ?_
  refine WJ.seq ?_
  refine WJ.quiet ?_
  refine QJ.step (YldS.yld (y_assign rfl)) rfl ?_
  refine QJ.step (YldS.yld (y_assign rfl)) rfl ?_
  refine QJ.done ?_
  refine PJ.next ?_
  refine WJ.seq ?_
  refine WJ.reg ?_
  refine SJ.q (YldS.yld (y_move rfl)) rfl ?_
  obtain ⟨r5, h6, hm⟩ := bindS hm
  refine SJ.call1 (k := 0) rfl Tryd.call58 rfl (fun w S hw hA hO => ok_s_l02Draw h6 w S _ (hr4.st1 hw hO) hA) rfl ?_
  rintro _ _ ⟨v7, v8, rfl, rfl⟩
  refine SJ.q (YldS.yld (y_move rfl)) rfl ?_
  refine SJ.q (YldS.yld (y_extract rfl rfl)) rfl ?_
  refine SJ.q (YldS.yld (y_extract rfl rfl)) rfl ?_
  refine SJ.q (YldS.yld (y_assign rfl)) rfl ?_
  refine SJ.q (YldS.yld (y_assign rfl)) rfl ?_
  refine SJ.nil ?_
  refine PJ.next ?_
  obtain ⟨kj15, hk16, hm⟩ := withK_open hm
  refine WJ.join (X := Int × Int × (List Key) × Value × (List Accent) × Value) (fun (x : Int × Int × (List Key) × Value × (List Accent) × Value) => kj15 x.1 x.2.1 x.2.2.1 x.2.2.2.2.1 = some r) (fun (x : Int × Int × (List Key) × Value × (List Accent) × Value) => [(4, x.2.2.2.1), (5, x.2.2.2.2.2)]) (fun (x : Int × Int × (List Key) × Value × (List Accent) × Value) => [box g2 82 [v3, .int .i64 x.1, .int .u64 x.2.1], row x.2.2.2.1 54 fKey x.2.2.1, row x.2.2.2.2.2 56 fAccent x.2.2.2.2.1]) ?_ ?_
  · clear hk16
    refine WJ.seq ?_
    refine WJ.reg ?_
    refine SJ.q (YldS.yld (y_move rfl)) rfl ?_
    obtain ⟨r17, h18, hm⟩ := bindS hm
    refine SJ.call1 (k := 0) rfl Tryd.call33 rfl (fun w S hw hA hO => ok_s_l00Src_pick h18 w S _ (hr4.st1 hw hO) hA) rfl ?_
    rintro _ _ ⟨rfl, rfl⟩
    refine SJ.nil ?_
    refine PJ.next ?_
    refine WJ.block ?_
    refine WJ.seq ?_
    refine WJ.quiet ?_
    refine QJ.step (YldS.yld (y_bin rfl rfl rfl)) rfl ?_
    refine QJ.step (YldS.yld (y_assign rfl)) rfl ?_
    refine QJ.done ?_
    refine PJ.next ?_
    refine WJ.cond (t := (r17.1 == 0)) rfl (fun hb19 => ?_) (fun hb19 => ?_)
    · replace hm := ifT hm hb19
      refine WJ.reg ?_
      refine SJ.q (YldS.yld (y_move rfl)) rfl ?_
      refine SJ.q (YldS.yld (y_move rfl)) rfl ?_
      refine SJ.buildSlice (R := fStr) (os := [.const (str []), .const (str [97]), .const (str [120]), .const (str [32])]) [[], [97], [120], [32]] Tryd.runUnderlying69 Tryd.sizeOf9 Tryd.zeroValue9 rfl rfl rfl rfl rfl rfl fun v20 => ?_
      obtain ⟨r21, h22, hm⟩ := bindS hm
      refine SJ.call2 (k := 1) rfl Tryd.call46 rfl (fun w S hw hA hO hB => ok_s_l00Src_text h22 w S _ (hr4.st1 hw hO) _ (hB.row_rd (j := 0) (k := 1) rfl rfl) hA) rfl ?_
      rintro _ _ ⟨rfl, rfl⟩
      refine SJ.q (YldS.yld (y_build (parts := [(0, .tmp 25), (1, .const (str [121]))]) (places := [(0, 1), (1, 1), (2, 1)]) (r := [str ((Key.mk r21.1 [121] false).low), str ((Key.mk r21.1 [121] false).high), .bool ((Key.mk r21.1 [121] false).dead)]) pl54 Tryd.zeroValue54 rfl rfl rfl rfl)) rfl ?_
      refine SJ.buildSlice (R := fKey) (os := [.tmp 26]) [(Key.mk r21.1 [121] false)] Tryd.runUnderlying24 Tryd.sizeOf54 Tryd.zeroValue54 rfl rfl rfl rfl rfl rfl fun v23 => ?_
      obtain ⟨l24, h25, hm⟩ := bindS hm
      refine SJ.append (k := 3) (R := fKey) h25 rfl Tryd.underlying24 el54 rfl rfl rfl (fun w hw => (hw.row_rd (k := 0) rfl)) rfl fun v26 => ?_
      refine SJ.q (YldS.yld (y_assign rfl)) rfl ?_
      refine SJ.nil ?_
      refine PJ.block_normal ?_
      exact PJ.joined (r21.2.at_, r21.2.seed, l24, v26, r5.2.1, v8) [1, 3, 4] hm ⟨rfl, rfl, trivial⟩ ⟨by decide, rfl⟩
    · replace hm := ifF hm hb19
      refine WJ.seq ?_
      refine WJ.quiet ?_
      refine QJ.step (YldS.yld (y_bin rfl rfl rfl)) rfl ?_
      refine QJ.step (YldS.yld (y_assign rfl)) rfl ?_
      refine QJ.done ?_
      refine PJ.next ?_
      refine WJ.cond (t := (r17.1 == 1)) rfl (fun hb27 => ?_) (fun hb27 => ?_)
      · replace hm := ifT hm hb27
        refine WJ.reg ?_
        refine SJ.q (YldS.yld (y_move rfl)) rfl ?_
        refine SJ.q (YldS.yld (y_move rfl)) rfl ?_
        refine SJ.buildSlice (R := fStr) (os := [.const (str [120]), .const (str [120, 121]), .const (str [65]), .const (str [122])]) [[120], [120, 121], [65], [122]] Tryd.runUnderlying69 Tryd.sizeOf9 Tryd.zeroValue9 rfl rfl rfl rfl rfl rfl fun v28 => ?_
        obtain ⟨r29, h30, hm⟩ := bindS hm
        refine SJ.call2 (k := 1) rfl Tryd.call46 rfl (fun w S hw hA hO hB => ok_s_l00Src_text h30 w S _ (hr4.st1 hw hO) _ (hB.row_rd (j := 0) (k := 1) rfl rfl) hA) rfl ?_
        rintro _ _ ⟨rfl, rfl⟩
        refine SJ.q (YldS.yld (y_build (parts := [(0, .const (str [120])), (1, .tmp 34)]) (places := [(0, 1), (1, 1), (2, 1)]) (r := [str ((Key.mk [120] r29.1 false).low), str ((Key.mk [120] r29.1 false).high), .bool ((Key.mk [120] r29.1 false).dead)]) pl54 Tryd.zeroValue54 rfl rfl rfl rfl)) rfl ?_
        refine SJ.buildSlice (R := fKey) (os := [.tmp 35]) [(Key.mk [120] r29.1 false)] Tryd.runUnderlying24 Tryd.sizeOf54 Tryd.zeroValue54 rfl rfl rfl rfl rfl rfl fun v31 => ?_
        obtain ⟨l32, h33, hm⟩ := bindS hm
        refine SJ.append (k := 3) (R := fKey) h33 rfl Tryd.underlying24 el54 rfl rfl rfl (fun w hw => (hw.row_rd (k := 0) rfl)) rfl fun v34 => ?_
        refine SJ.q (YldS.yld (y_assign rfl)) rfl ?_
        refine SJ.nil ?_
        refine PJ.block_normal ?_
        exact PJ.joined (r29.2.at_, r29.2.seed, l32, v34, r5.2.1, v8) [1, 3, 4] hm ⟨rfl, rfl, trivial⟩ ⟨by decide, rfl⟩
      · replace hm := ifF hm hb27
        refine WJ.seq ?_
        refine WJ.quiet ?_
        refine QJ.step (YldS.yld (y_bin rfl rfl rfl)) rfl ?_
        refine QJ.step (YldS.yld (y_assign rfl)) rfl ?_
        refine QJ.done ?_
        refine PJ.next ?_
        refine WJ.cond (t := (r17.1 == 2)) rfl (fun hb35 => ?_) (fun hb35 => ?_)
        · replace hm := ifT hm hb35
          refine WJ.reg ?_
          refine SJ.q (YldS.yld (y_move rfl)) rfl ?_
          refine SJ.q (YldS.yld (y_move rfl)) rfl ?_
          refine SJ.buildSlice (R := fStr) (os := [.const (str [39]), .const (str [97])]) [[39], [97]] Tryd.runUnderlying69 Tryd.sizeOf9 Tryd.zeroValue9 rfl rfl rfl rfl rfl rfl fun v36 => ?_
          obtain ⟨r37, h38, hm⟩ := bindS hm
          refine SJ.call2 (k := 1) rfl Tryd.call46 rfl (fun w S hw hA hO hB => ok_s_l00Src_text h38 w S _ (hr4.st1 hw hO) _ (hB.row_rd (j := 0) (k := 1) rfl rfl) hA) rfl ?_
          rintro _ _ ⟨rfl, rfl⟩
          refine SJ.q (YldS.yld (y_move rfl)) rfl ?_
          refine SJ.buildSlice (R := fStr) (os := [.const (str [98]), .const (str [39]), .const (str [122])]) [[98], [39], [122]] Tryd.runUnderlying69 Tryd.sizeOf9 Tryd.zeroValue9 rfl rfl rfl rfl rfl rfl fun v39 => ?_
          obtain ⟨r40, h41, hm⟩ := bindS hm
          refine SJ.call2 (k := 1) rfl Tryd.call46 rfl (fun w S hw hA hO hB => ok_s_l00Src_text h41 w S _ (hr4.st1 hw hO) _ (hB.row_rd (j := 0) (k := 1) rfl rfl) hA) rfl ?_
          rintro _ _ ⟨rfl, rfl⟩
          refine SJ.q (YldS.yld (y_move rfl)) rfl ?_
          refine SJ.buildSlice (R := fStr) (os := [.const (str [57]), .const (str [97]), .const (str [49])]) [[57], [97], [49]] Tryd.runUnderlying69 Tryd.sizeOf9 Tryd.zeroValue9 rfl rfl rfl rfl rfl rfl fun v42 => ?_
          obtain ⟨r43, h44, hm⟩ := bindS hm
          refine SJ.call2 (k := 1) rfl Tryd.call46 rfl (fun w S hw hA hO hB => ok_s_l00Src_text h44 w S _ (hr4.st1 hw hO) _ (hB.row_rd (j := 0) (k := 1) rfl rfl) hA) rfl ?_
          rintro _ _ ⟨rfl, rfl⟩
          refine SJ.q (YldS.yld (y_build (parts := [(0, .tmp 43), (1, .tmp 46), (2, .tmp 49)]) (places := [(0, 1), (1, 1), (2, 1)]) (r := [str ((Accent.mk r37.1 r40.1 r43.1).mark), str ((Accent.mk r37.1 r40.1 r43.1).letter), str ((Accent.mk r37.1 r40.1 r43.1).made)]) pl56 Tryd.zeroValue56 rfl rfl rfl rfl)) rfl ?_
          refine SJ.buildSlice (R := fAccent) (os := [.tmp 50]) [(Accent.mk r37.1 r40.1 r43.1)] Tryd.runUnderlying25 Tryd.sizeOf56 Tryd.zeroValue56 rfl rfl rfl rfl rfl rfl fun v45 => ?_
          obtain ⟨l46, h47, hm⟩ := bindS hm
          refine SJ.append (k := 6) (R := fAccent) h47 rfl Tryd.underlying25 el56 rfl rfl rfl (fun w hw => (hw.row_rd (k := 0) rfl)) rfl fun v48 => ?_
          refine SJ.q (YldS.yld (y_assign rfl)) rfl ?_
          refine SJ.nil ?_
          refine PJ.block_normal ?_
          exact PJ.joined (r43.2.at_, r43.2.seed, r5.1, v7, l46, v48) [1, 5, 6] hm ⟨rfl, rfl, trivial⟩ ⟨by decide, rfl⟩
        · replace hm := ifF hm hb35
          refine WJ.seq ?_
          refine WJ.quiet ?_
          refine QJ.step (YldS.yld (y_bin rfl rfl rfl)) rfl ?_
          refine QJ.step (YldS.yld (y_assign rfl)) rfl ?_
          refine QJ.done ?_
          refine PJ.next ?_
          refine WJ.cond (t := (r17.1 == 3)) rfl (fun hb49 => ?_) (fun hb49 => ?_)
          · replace hm := ifT hm hb49
            refine WJ.seq ?_
            refine WJ.reg ?_
            refine SJ.buildSlice (R := fKey) (os := []) [] Tryd.runUnderlying24 Tryd.sizeOf54 Tryd.zeroValue54 rfl rfl rfl rfl rfl rfl fun v50 => ?_
            refine SJ.q (YldS.yld (y_assign rfl)) rfl ?_
            refine SJ.nil ?_
            refine PJ.next ?_
            obtain ⟨kj55, hk56, hm⟩ := withK_open hm
            refine WJ.join (X := Int × Int × (List Key) × Value) (fun (x : Int × Int × (List Key) × Value) => kj55 x.1 x.2.1 x.2.2.1 = some r) (fun (x : Int × Int × (List Key) × Value) => [(4, x.2.2.2)]) (fun (x : Int × Int × (List Key) × Value) => [box g2 82 [v3, .int .i64 x.1, .int .u64 x.2.1], row x.2.2.2 54 fKey x.2.2.1]) ?_ ?_
            · clear hk56
              refine WJ.seq ?_
              refine WJ.reg ?_
              refine SJ.q (YldS.yld (y_move rfl)) rfl ?_
              obtain ⟨r57, h58, hm⟩ := bindS hm
              refine SJ.call1 (k := 1) rfl Tryd.call33 rfl (fun w S hw hA hO => ok_s_l00Src_pick h58 w S _ (hr4.st1 hw hO) hA) rfl ?_
              rintro _ _ ⟨rfl, rfl⟩
              refine SJ.q (YldS.yld (y_bin rfl rfl rfl)) rfl ?_
              refine SJ.q (YldS.yld (y_assign rfl)) rfl ?_
              refine SJ.nil ?_
              refine PJ.next ?_
              refine WJ.block ?_
              refine WJ.sel (L' := (fun (x : (List Key) × Value × Int) => [box g2 82 [v3, .int .i64 r57.2.at_, .int .u64 r57.2.seed], row x.2.1 54 fKey x.1]) ([], v50, w64 (40 + r57.1))) [0, 1] ⟨by decide, rfl⟩ ?_
              refine WJ.sub (m' := (fun (x : (List Key) × Value × Int) => [(4, x.2.1), (6, .int .i64 x.2.2)]) ([], v50, w64 (40 + r57.1))) ⟨rfl, rfl, trivial⟩ ?_
              refine WJ.loop (X := (List Key) × Value × Int) (fun N (x : (List Key) × Value × Int) => s_l02Bent_l1 kj55 r57 N x.1 x.2.2 = some r) (fun (x : (List Key) × Value × Int) => [(4, x.2.1), (6, .int .i64 x.2.2)]) (fun (x : (List Key) × Value × Int) => [box g2 82 [v3, .int .i64 r57.2.at_, .int .u64 r57.2.seed], row x.2.1 54 fKey x.1]) ?_ N ([], v50, w64 (40 + r57.1)) hm
              · rintro N ⟨l59, v60, k61⟩ hI
                have hm := hI; clear hI
                cases N with
                | zero => cases hm
                | succ N =>
                unfold s_l02Bent_l1 at hm
                refine WJ.seq ?_
                refine WJ.seq ?_
                refine WJ.quiet ?_
                refine QJ.step (YldS.yld (y_move rfl)) rfl ?_
                refine QJ.step (YldS.yld (y_bin rfl rfl rfl)) rfl ?_
                refine QJ.done ?_
                refine PJ.next ?_
                refine WJ.cond (t := decide (k61 > 0)) rfl (fun hb62 => ?_) (fun hb62 => ?_)
                · replace hm := ifT hm hb62
                  refine WJ.skip ?_
                  refine PJ.next ?_
                  refine WJ.seq ?_
                  refine WJ.block ?_
                  refine WJ.seq ?_
                  refine WJ.quiet ?_
                  refine QJ.step (YldS.yld (y_move rfl)) rfl ?_
                  refine QJ.step (YldS.yld (y_lenRow (k := 1) rfl Tryd.runUnderlying24 rfl)) rfl ?_
                  refine QJ.step (YldS.yld (y_convTo8 Tryd.runUnderlying3 Tryd.runUnderlying5 rfl)) rfl ?_
                  refine QJ.step (YldS.yld (y_bin8 (2 : UInt8) (UInt8.ofInt (List.length l59 : Int)) rfl rfl rfl)) rfl ?_
                  refine QJ.step (YldS.yld (y_bin8 (33 : UInt8) ((2 : UInt8) * (UInt8.ofInt (List.length l59 : Int))) rfl rfl rfl)) rfl ?_
                  refine QJ.step (YldS.yld (y_assign rfl)) rfl ?_
                  refine QJ.done ?_
                  refine PJ.next ?_
                  refine WJ.reg ?_
                  refine SJ.q (YldS.yld (y_move rfl)) rfl ?_
                  refine SJ.q (YldS.yld (y_move rfl)) rfl ?_
                  refine SJ.buildSlice (R := fByte) (os := [.tmp 69]) [(33 : UInt8) + ((2 : UInt8) * (UInt8.ofInt (List.length l59 : Int)))] Tryd.runUnderlying22 Tryd.sizeOf5 Tryd.zeroValue5 rfl rfl rfl rfl rfl rfl fun v63 => ?_
                  refine SJ.q (YldS.yld (y_b2s Tryd.underlying22 Tryd.underlying9 Tryd.underlying5 (fun w hw => ⟨_, (hw.row_rd (k := 0) rfl)⟩) rfl)) rfl ?_
                  refine SJ.q (YldS.yld (y_move rfl)) rfl ?_
                  refine SJ.q (YldS.yld (y_bin8 ((33 : UInt8) + ((2 : UInt8) * (UInt8.ofInt (List.length l59 : Int)))) (1 : UInt8) rfl rfl rfl)) rfl ?_
                  refine SJ.buildSlice (R := fByte) (os := [.tmp 73]) [((33 : UInt8) + ((2 : UInt8) * (UInt8.ofInt (List.length l59 : Int)))) + (1 : UInt8)] Tryd.runUnderlying22 Tryd.sizeOf5 Tryd.zeroValue5 rfl rfl rfl rfl rfl rfl fun v64 => ?_
                  refine SJ.q (YldS.yld (y_b2s Tryd.underlying22 Tryd.underlying9 Tryd.underlying5 (fun w hw => ⟨_, (hw.row_rd (k := 0) rfl)⟩) rfl)) rfl ?_
                  refine SJ.q (YldS.yld (y_build (parts := [(0, .tmp 71), (1, .tmp 75)]) (places := [(0, 1), (1, 1), (2, 1)]) (r := [str ((Key.mk [(33 : UInt8) + ((2 : UInt8) * (UInt8.ofInt (List.length l59 : Int)))] [((33 : UInt8) + ((2 : UInt8) * (UInt8.ofInt (List.length l59 : Int)))) + (1 : UInt8)] false).low), str ((Key.mk [(33 : UInt8) + ((2 : UInt8) * (UInt8.ofInt (List.length l59 : Int)))] [((33 : UInt8) + ((2 : UInt8) * (UInt8.ofInt (List.length l59 : Int)))) + (1 : UInt8)] false).high), .bool ((Key.mk [(33 : UInt8) + ((2 : UInt8) * (UInt8.ofInt (List.length l59 : Int)))] [((33 : UInt8) + ((2 : UInt8) * (UInt8.ofInt (List.length l59 : Int)))) + (1 : UInt8)] false).dead)]) pl54 Tryd.zeroValue54 rfl rfl rfl rfl)) rfl ?_
                  refine SJ.buildSlice (R := fKey) (os := [.tmp 76]) [(Key.mk [(33 : UInt8) + ((2 : UInt8) * (UInt8.ofInt (List.length l59 : Int)))] [((33 : UInt8) + ((2 : UInt8) * (UInt8.ofInt (List.length l59 : Int)))) + (1 : UInt8)] false)] Tryd.runUnderlying24 Tryd.sizeOf54 Tryd.zeroValue54 rfl rfl rfl rfl rfl rfl fun v65 => ?_
                  obtain ⟨l66, h67, hm⟩ := bindS hm
                  refine SJ.append (k := 4) (R := fKey) h67 rfl Tryd.underlying24 el54 rfl rfl rfl (fun w hw => (hw.row_rd (k := 0) rfl)) rfl fun v68 => ?_
                  refine SJ.q (YldS.yld (y_assign rfl)) rfl ?_
                  refine SJ.nil ?_
                  refine PJ.block_normal (PJ.next ?_)
                  refine WJ.quiet ?_
                  refine QJ.step (YldS.yld (y_move rfl)) rfl ?_
                  refine QJ.step (YldS.yld (y_bin rfl rfl rfl)) rfl ?_
                  refine QJ.step (YldS.yld (y_assign rfl)) rfl ?_
                  refine QJ.done ?_
                  exact PJ.round (l66, v68, w64 (k61 - 1)) [3, 4] hm ⟨rfl, rfl, trivial⟩ ⟨by decide, rfl⟩
                · replace hm := ifF hm hb62
                  refine WJ.exit ?_
                  refine PJ.then_exit (PJ.then_exit (PJ.block_exit ?_))
                  exact PJ.joined (r57.2.at_, r57.2.seed, l59, v60) [0, 1] hm ⟨rfl, trivial⟩ ⟨by decide, rfl⟩
            · rintro ⟨x51, x52, l53, v54⟩ hm
              subst hk56
              refine WJ.reg ?_
              refine SJ.buildSlice (R := fAccent) (os := []) [] Tryd.runUnderlying25 Tryd.sizeOf56 Tryd.zeroValue56 rfl rfl rfl rfl rfl rfl fun v69 => ?_
              refine SJ.q (YldS.yld (y_assign rfl)) rfl ?_
              refine SJ.nil ?_
              refine PJ.block_normal ?_
              exact PJ.joined (x51, x52, l53, v54, [], v69) [1, 2, 0] hm ⟨rfl, rfl, trivial⟩ ⟨by decide, rfl⟩
          · replace hm := ifF hm hb49
            refine WJ.seq ?_
            refine WJ.quiet ?_
            refine QJ.step (YldS.yld (y_bin rfl rfl rfl)) rfl ?_
            refine QJ.step (YldS.yld (y_assign rfl)) rfl ?_
            refine QJ.done ?_
            refine PJ.next ?_
            refine WJ.cond (t := (r17.1 == 4)) rfl (fun hb70 => ?_) (fun hb70 => ?_)
            · replace hm := ifT hm hb70
              refine WJ.seq ?_
              refine WJ.reg ?_
              refine SJ.q (YldS.yld (y_build (parts := [(0, .const (str [97])), (1, .const (str [65]))]) (places := [(0, 1), (1, 1), (2, 1)]) (r := [str ((Key.mk [97] [65] false).low), str ((Key.mk [97] [65] false).high), .bool ((Key.mk [97] [65] false).dead)]) pl54 Tryd.zeroValue54 rfl rfl rfl rfl)) rfl ?_
              refine SJ.q (YldS.yld (y_build (parts := [(0, .const (str [98])), (1, .const (str [66]))]) (places := [(0, 1), (1, 1), (2, 1)]) (r := [str ((Key.mk [98] [66] false).low), str ((Key.mk [98] [66] false).high), .bool ((Key.mk [98] [66] false).dead)]) pl54 Tryd.zeroValue54 rfl rfl rfl rfl)) rfl ?_
              refine SJ.q (YldS.yld (y_build (parts := [(0, .const (str [39])), (1, .const (str [96])), (2, .const (.bool true))]) (places := [(0, 1), (1, 1), (2, 1)]) (r := [str ((Key.mk [39] [96] true).low), str ((Key.mk [39] [96] true).high), .bool ((Key.mk [39] [96] true).dead)]) pl54 Tryd.zeroValue54 rfl rfl rfl rfl)) rfl ?_
              refine SJ.q (YldS.yld (y_build (parts := [(0, .const (str [94])), (1, .const (str [126])), (2, .const (.bool true))]) (places := [(0, 1), (1, 1), (2, 1)]) (r := [str ((Key.mk [94] [126] true).low), str ((Key.mk [94] [126] true).high), .bool ((Key.mk [94] [126] true).dead)]) pl54 Tryd.zeroValue54 rfl rfl rfl rfl)) rfl ?_
              refine SJ.buildSlice (R := fKey) (os := [.tmp 82, .tmp 83, .tmp 84, .tmp 85]) [(Key.mk [97] [65] false), (Key.mk [98] [66] false), (Key.mk [39] [96] true), (Key.mk [94] [126] true)] Tryd.runUnderlying24 Tryd.sizeOf54 Tryd.zeroValue54 rfl rfl rfl rfl rfl rfl fun v71 => ?_
              refine SJ.q (YldS.yld (y_assign rfl)) rfl ?_
              refine SJ.nil ?_
              refine PJ.next ?_
              obtain ⟨kj74, hk75, hm⟩ := withK_open hm
              refine WJ.join (X := (List Key) × Value) (fun (x : (List Key) × Value) => kj74 x.1 = some r) (fun (x : (List Key) × Value) => [(0, pt g2 0), (4, x.2)]) (fun (x : (List Key) × Value) => [row x.2 54 fKey x.1, box g2 82 [v3, .int .i64 r17.2.at_, .int .u64 r17.2.seed]]) ?_ ?_
              · clear hk75
                refine WJ.seq ?_
                refine WJ.quiet ?_
                refine QJ.step (YldS.yld (y_assign rfl)) rfl ?_
                refine QJ.done ?_
                refine PJ.next ?_
                refine WJ.block ?_
                refine WJ.sel (L' := (fun (x : (List Key) × Value × Int) => [row x.2.1 54 fKey x.1, box g2 82 [v3, .int .i64 r17.2.at_, .int .u64 r17.2.seed]]) ([(Key.mk [97] [65] false), (Key.mk [98] [66] false), (Key.mk [39] [96] true), (Key.mk [94] [126] true)], v71, 0)) [0, 1] ⟨by decide, rfl⟩ ?_
                refine WJ.sub (m' := (fun (x : (List Key) × Value × Int) => [(0, pt g2 0), (4, x.2.1), (8, .int .i64 x.2.2)]) ([(Key.mk [97] [65] false), (Key.mk [98] [66] false), (Key.mk [39] [96] true), (Key.mk [94] [126] true)], v71, 0)) ⟨rfl, rfl, rfl, trivial⟩ ?_
                refine WJ.loop (X := (List Key) × Value × Int) (fun N (x : (List Key) × Value × Int) => s_l02Bent_l2 kj74 N x.1 x.2.2 = some r) (fun (x : (List Key) × Value × Int) => [(0, pt g2 0), (4, x.2.1), (8, .int .i64 x.2.2)]) (fun (x : (List Key) × Value × Int) => [row x.2.1 54 fKey x.1, box g2 82 [v3, .int .i64 r17.2.at_, .int .u64 r17.2.seed]]) ?_ N ([(Key.mk [97] [65] false), (Key.mk [98] [66] false), (Key.mk [39] [96] true), (Key.mk [94] [126] true)], v71, 0) hm
                · rintro N ⟨l76, v77, i78⟩ hI
                  have hm := hI; clear hI
                  cases N with
                  | zero => cases hm
                  | succ N =>
                  unfold s_l02Bent_l2 at hm
                  refine WJ.seq ?_
                  refine WJ.seq ?_
                  refine WJ.quiet ?_
                  refine QJ.step (YldS.yld (y_move rfl)) rfl ?_
                  refine QJ.step (YldS.yld (y_bin rfl rfl rfl)) rfl ?_
                  refine QJ.done ?_
                  refine PJ.next ?_
                  refine WJ.cond (t := decide (i78 < 6)) rfl (fun hb79 => ?_) (fun hb79 => ?_)
                  · replace hm := ifT hm hb79
                    refine WJ.skip ?_
                    refine PJ.next ?_
                    refine WJ.seq ?_
                    refine WJ.block ?_
                    refine WJ.seq ?_
                    refine WJ.quiet ?_
                    refine QJ.step (YldS.yld (y_move rfl)) rfl ?_
                    refine QJ.step (YldS.yld (y_convTo8 Tryd.runUnderlying3 Tryd.runUnderlying5 rfl)) rfl ?_
                    refine QJ.step (YldS.yld (y_bin8 (2 : UInt8) (UInt8.ofInt i78) rfl rfl rfl)) rfl ?_
                    refine QJ.step (YldS.yld (y_bin8 (99 : UInt8) ((2 : UInt8) * (UInt8.ofInt i78)) rfl rfl rfl)) rfl ?_
                    refine QJ.step (YldS.yld (y_assign rfl)) rfl ?_
                    refine QJ.done ?_
                    refine PJ.next ?_
                    refine WJ.reg ?_
                    refine SJ.q (YldS.yld (y_move rfl)) rfl ?_
                    refine SJ.q (YldS.yld (y_move rfl)) rfl ?_
                    refine SJ.buildSlice (R := fByte) (os := [.tmp 96]) [(99 : UInt8) + ((2 : UInt8) * (UInt8.ofInt i78))] Tryd.runUnderlying22 Tryd.sizeOf5 Tryd.zeroValue5 rfl rfl rfl rfl rfl rfl fun v80 => ?_
                    refine SJ.q (YldS.yld (y_b2s Tryd.underlying22 Tryd.underlying9 Tryd.underlying5 (fun w hw => ⟨_, (hw.row_rd (k := 0) rfl)⟩) rfl)) rfl ?_
                    refine SJ.q (YldS.yld (y_move rfl)) rfl ?_
                    refine SJ.q (YldS.yld (y_bin8 ((99 : UInt8) + ((2 : UInt8) * (UInt8.ofInt i78))) (1 : UInt8) rfl rfl rfl)) rfl ?_
                    refine SJ.buildSlice (R := fByte) (os := [.tmp 100]) [((99 : UInt8) + ((2 : UInt8) * (UInt8.ofInt i78))) + (1 : UInt8)] Tryd.runUnderlying22 Tryd.sizeOf5 Tryd.zeroValue5 rfl rfl rfl rfl rfl rfl fun v81 => ?_
                    refine SJ.q (YldS.yld (y_b2s Tryd.underlying22 Tryd.underlying9 Tryd.underlying5 (fun w hw => ⟨_, (hw.row_rd (k := 0) rfl)⟩) rfl)) rfl ?_
                    refine SJ.q (YldS.yld (y_build (parts := [(0, .tmp 98), (1, .tmp 102)]) (places := [(0, 1), (1, 1), (2, 1)]) (r := [str ((Key.mk [(99 : UInt8) + ((2 : UInt8) * (UInt8.ofInt i78))] [((99 : UInt8) + ((2 : UInt8) * (UInt8.ofInt i78))) + (1 : UInt8)] false).low), str ((Key.mk [(99 : UInt8) + ((2 : UInt8) * (UInt8.ofInt i78))] [((99 : UInt8) + ((2 : UInt8) * (UInt8.ofInt i78))) + (1 : UInt8)] false).high), .bool ((Key.mk [(99 : UInt8) + ((2 : UInt8) * (UInt8.ofInt i78))] [((99 : UInt8) + ((2 : UInt8) * (UInt8.ofInt i78))) + (1 : UInt8)] false).dead)]) pl54 Tryd.zeroValue54 rfl rfl rfl rfl)) rfl ?_
                    refine SJ.buildSlice (R := fKey) (os := [.tmp 103]) [(Key.mk [(99 : UInt8) + ((2 : UInt8) * (UInt8.ofInt i78))] [((99 : UInt8) + ((2 : UInt8) * (UInt8.ofInt i78))) + (1 : UInt8)] false)] Tryd.runUnderlying24 Tryd.sizeOf54 Tryd.zeroValue54 rfl rfl rfl rfl rfl rfl fun v82 => ?_
                    obtain ⟨l83, h84, hm⟩ := bindS hm
                    refine SJ.append (k := 3) (R := fKey) h84 rfl Tryd.underlying24 el54 rfl rfl rfl (fun w hw => (hw.row_rd (k := 0) rfl)) rfl fun v85 => ?_
                    refine SJ.q (YldS.yld (y_assign rfl)) rfl ?_
                    refine SJ.nil ?_
                    refine PJ.block_normal (PJ.next ?_)
                    refine WJ.quiet ?_
                    refine QJ.step (YldS.yld (y_move rfl)) rfl ?_
                    refine QJ.step (YldS.yld (y_bin rfl rfl rfl)) rfl ?_
                    refine QJ.step (YldS.yld (y_assign rfl)) rfl ?_
                    refine QJ.done ?_
                    exact PJ.round (l83, v85, w64 (i78 + 1)) [3, 4] hm ⟨rfl, rfl, rfl, trivial⟩ ⟨by decide, rfl⟩
                  · replace hm := ifF hm hb79
                    refine WJ.exit ?_
                    refine PJ.then_exit (PJ.then_exit (PJ.block_exit ?_))
                    exact PJ.joined (l76, v77) [0, 1] hm ⟨rfl, rfl, trivial⟩ ⟨by decide, rfl⟩
              · rintro ⟨l72, v73⟩ hm
                subst hk75
                refine WJ.seq ?_
                refine WJ.reg ?_
                refine SJ.buildSlice (R := fAccent) (os := []) [] Tryd.runUnderlying25 Tryd.sizeOf56 Tryd.zeroValue56 rfl rfl rfl rfl rfl rfl fun v86 => ?_
                refine SJ.q (YldS.yld (y_assign rfl)) rfl ?_
                refine SJ.nil ?_
                refine PJ.next ?_
                refine WJ.seq ?_
                refine WJ.reg ?_
                refine SJ.q (YldS.yld (y_move rfl)) rfl ?_
                obtain ⟨r87, h88, hm⟩ := bindS hm
                refine SJ.call1 (k := 2) rfl Tryd.call33 rfl (fun w S hw hA hO => ok_s_l00Src_pick h88 w S _ (hr4.st1 hw hO) hA) rfl ?_
                rintro _ _ ⟨rfl, rfl⟩
                refine SJ.q (YldS.yld (y_bin rfl rfl rfl)) rfl ?_
                refine SJ.q (YldS.yld (y_assign rfl)) rfl ?_
                refine SJ.nil ?_
                refine PJ.next ?_
                refine WJ.block ?_
                refine WJ.sel (L' := (fun (x : (List Accent) × Value × Int) => [box g2 82 [v3, .int .i64 r87.2.at_, .int .u64 r87.2.seed], row x.2.1 56 fAccent x.1, row v73 54 fKey l72]) ([], v86, w64 (20 + r87.1))) [0, 1, 2] ⟨by decide, rfl⟩ ?_
                refine WJ.sub (m' := (fun (x : (List Accent) × Value × Int) => [(4, v73), (5, x.2.1), (10, .int .i64 x.2.2)]) ([], v86, w64 (20 + r87.1))) ⟨rfl, rfl, rfl, trivial⟩ ?_
                refine WJ.loop (X := (List Accent) × Value × Int) (fun N (x : (List Accent) × Value × Int) => s_l02Bent_l3 kj15 l72 r87 N x.1 x.2.2 = some r) (fun (x : (List Accent) × Value × Int) => [(4, v73), (5, x.2.1), (10, .int .i64 x.2.2)]) (fun (x : (List Accent) × Value × Int) => [box g2 82 [v3, .int .i64 r87.2.at_, .int .u64 r87.2.seed], row x.2.1 56 fAccent x.1, row v73 54 fKey l72]) ?_ N ([], v86, w64 (20 + r87.1)) hm
                · rintro N ⟨l89, v90, k91⟩ hI
                  have hm := hI; clear hI
                  cases N with
                  | zero => cases hm
                  | succ N =>
                  unfold s_l02Bent_l3 at hm
                  refine WJ.seq ?_
                  refine WJ.seq ?_
                  refine WJ.quiet ?_
                  refine QJ.step (YldS.yld (y_move rfl)) rfl ?_
                  refine QJ.step (YldS.yld (y_bin rfl rfl rfl)) rfl ?_
                  refine QJ.done ?_
                  refine PJ.next ?_
                  refine WJ.cond (t := decide (k91 > 0)) rfl (fun hb92 => ?_) (fun hb92 => ?_)
                  · replace hm := ifT hm hb92
                    refine WJ.skip ?_
                    refine PJ.next ?_
                    refine WJ.seq ?_
                    refine WJ.block ?_
                    refine WJ.seq ?_
                    refine WJ.quiet ?_
                    refine QJ.step (YldS.yld (y_move rfl)) rfl ?_
                    refine QJ.step (YldS.yld (y_lenRow (k := 1) rfl Tryd.runUnderlying25 rfl)) rfl ?_
                    refine QJ.step (YldS.yld (y_assign rfl)) rfl ?_
                    refine QJ.done ?_
                    refine PJ.next ?_
                    refine WJ.seq ?_
                    obtain ⟨s93, h94, hm⟩ := bindS hm
                    refine WJ.draws (N := 14) (listed0 := #[false, false, false, false, false, false, false, false, false, false, false, false, false, false]) [box g2 82 [v3, .int .i64 r87.2.at_, .int .u64 r87.2.seed], row v90 56 fAccent l89, row v73 54 fKey l72] follows rfl rfl ?_
                    refine RJ.first 0 (listed' := #[true, false, false, false, false, false, false, false, false, false, false, false, false, false]) [0, 1, 2] rfl (by kernel_rfl) rfl ⟨by decide, rfl⟩ (y_move rfl) rfl ?_
                    refine RJ.first 1 (listed' := #[true, true, false, false, false, false, false, false, false, false, false, false, false, false]) [0, 1, 2] rfl (by kernel_rfl) rfl ⟨by decide, rfl⟩ (y_quo rfl rfl (by decide)) rfl ?_
                    refine RJ.first 2 (listed' := #[true, true, true, false, false, false, false, false, false, false, false, false, false, false]) [0, 1, 2] rfl (by kernel_rfl) rfl ⟨by decide, rfl⟩ (y_move rfl) rfl ?_
                    refine RJ.first 3 (listed' := #[true, true, true, true, false, false, false, false, false, false, false, false, false, false]) [0, 1, 2] rfl (by kernel_rfl) rfl ⟨by decide, rfl⟩ (y_quo rfl rfl (by decide)) rfl ?_
                    refine RJ.first 4 (listed' := #[true, true, true, true, true, false, false, false, false, false, false, false, false, false]) [0, 1, 2] rfl (by kernel_rfl) rfl ⟨by decide, rfl⟩ (y_bin rfl rfl rfl) rfl ?_
                    refine RJ.first 5 (listed' := #[true, true, true, true, true, true, false, false, false, false, false, false, false, false]) [0, 1, 2] rfl (by kernel_rfl) rfl ⟨by decide, rfl⟩ (y_subStr (i := some (w64 (Int.tdiv (List.length l89 : Int) 6))) (j := some (w64 ((w64 (Int.tdiv (List.length l89 : Int) 6)) + 1))) h94 Tryd.runUnderlying9 rfl ⟨_, rfl⟩ ⟨_, rfl⟩) rfl ?_
                    refine RJ.first 6 (listed' := #[true, true, true, true, true, true, true, false, false, false, false, false, false, false]) [0, 1, 2] rfl (by kernel_rfl) rfl ⟨by decide, rfl⟩ (y_move rfl) rfl ?_
                    refine RJ.first 7 (listed' := #[true, true, true, true, true, true, true, true, false, false, false, false, false, false]) [0, 1, 2] rfl (by kernel_rfl) rfl ⟨by decide, rfl⟩ (y_convTo8 Tryd.runUnderlying3 Tryd.runUnderlying5 rfl) rfl ?_
                    refine RJ.first 8 (listed' := #[true, true, true, true, true, true, true, true, true, false, false, false, false, false]) [0, 1, 2] rfl (by kernel_rfl) rfl ⟨by decide, rfl⟩ (y_bin8 (67 : UInt8) (UInt8.ofInt (List.length l89 : Int)) rfl rfl rfl) rfl ?_
                    refine RJ.hold (X := Nat × Value) 1 #[true, true, true, true, true, true, true, true, true, true, true, true, true, false] (fun (x : Nat × Value) => [(4, v73), (5, v90), (10, .int .i64 k91), (11, .int .i64 (List.length l89 : Int)), (12, pt x.1 0), (127, .agg (Accent.enc (Accent.mk s93 [] [(67 : UInt8) + (UInt8.ofInt (List.length l89 : Int))])).toArray)]) (fun (x : Nat × Value) => [box x.1 56 [str [], str [], str []], row x.2 5 fByte [(67 : UInt8) + (UInt8.ofInt (List.length l89 : Int))], box g2 82 [v3, .int .i64 r87.2.at_, .int .u64 r87.2.seed], row v90 56 fAccent l89, row v73 54 fKey l72]) ?_ ?_
                    · rintro ⟨g96, v95⟩
                      refine RJ.step1 13 [2, 3, 4] (by kernel_rfl) ⟨by decide, rfl⟩ ?_
                      refine RO.of (listed' := #[true, true, true, true, true, true, true, true, true, true, true, true, true, true]) rfl rfl ?_
                      refine SJ.storeL (k := 0) (off := 0) (us := [str ((Accent.mk s93 [] [(67 : UInt8) + (UInt8.ofInt (List.length l89 : Int))]).mark), str ((Accent.mk s93 [] [(67 : UInt8) + (UInt8.ofInt (List.length l89 : Int))]).letter), str ((Accent.mk s93 [] [(67 : UInt8) + (UInt8.ofInt (List.length l89 : Int))]).made)]) rfl rfl rfl rfl Tryd.sizeOf56 rfl rfl ?_
                      refine SJ.nil ?_
                      refine PJ.draw ?_
                      refine RJ.fin [2, 3, 4] (by kernel_rfl) ⟨by decide, rfl⟩ ?_
                      refine PJ.next ?_
                      refine WJ.seq ?_
                      refine WJ.reg ?_
                      refine SJ.q (YldS.yld (y_move rfl)) rfl ?_
                      refine SJ.q (YldS.yld (y_move rfl)) rfl ?_
                      refine SJ.q (YldS.yld (y_rem rfl rfl (by decide))) rfl ?_
                      refine SJ.q (YldS.yld (y_bin rfl rfl rfl)) rfl ?_
                      obtain ⟨e98, h99, hm⟩ := bindS hm
                      refine SJ.q (YldS.yld (y_ixRow (k := 4) (R := fKey) rfl Tryd.runUnderlying24 Tryd.sizeOf54 rfl rfl h99)) rfl ?_
                      refine SJ.q (YldS.yld (y_fldR fld54_0 rfl)) rfl ?_
                      refine SJ.q (YldS.yld (y_loadR (k := 4) (i := (Int.toNat (w64 (4 + (Int.tmod (List.length l89 : Int) 6))))) (off := 0) (u := str e98.low) rfl Tryd.isAgg9 rfl (idx_get h99) rfl)) rfl ?_
                      refine SJ.q (YldS.yld (y_fldB (o := 0) fld56_1 rfl)) rfl ?_
                      refine SJ.storeL (k := 0) (off := 1) (us := [str e98.low]) rfl rfl rfl rfl Tryd.sizeOf9 rfl rfl ?_
                      refine SJ.nil ?_
                      refine PJ.next ?_
                      refine WJ.reg ?_
                      refine SJ.q (YldS.yld (y_move rfl)) rfl ?_
                      refine SJ.q (YldS.yld (y_loadBN (k := 0) (off := 0) (us := [str ((Accent.mk s93 [] [(67 : UInt8) + (UInt8.ofInt (List.length l89 : Int))]).mark), str e98.low, str ((Accent.mk s93 [] [(67 : UInt8) + (UInt8.ofInt (List.length l89 : Int))]).made)]) rfl Tryd.isAgg56 Tryd.sizeOf56 rfl rfl)) rfl ?_
                      refine SJ.buildSlice (R := fAccent) (os := [.tmp 137]) [(Accent.mk ((Accent.mk s93 [] [(67 : UInt8) + (UInt8.ofInt (List.length l89 : Int))]).mark) e98.low ((Accent.mk s93 [] [(67 : UInt8) + (UInt8.ofInt (List.length l89 : Int))]).made))] Tryd.runUnderlying25 Tryd.sizeOf56 Tryd.zeroValue56 rfl rfl rfl rfl rfl rfl fun v100 => ?_
                      obtain ⟨l101, h102, hm⟩ := bindS hm
                      refine SJ.append (k := 4) (R := fAccent) h102 rfl Tryd.underlying25 el56 rfl rfl rfl (fun w hw => (hw.row_rd (k := 0) rfl)) rfl fun v103 => ?_
                      refine SJ.q (YldS.yld (y_assign rfl)) rfl ?_
                      refine SJ.nil ?_
                      refine PJ.block_normal (PJ.next ?_)
                      refine WJ.quiet ?_
                      refine QJ.step (YldS.yld (y_move rfl)) rfl ?_
                      refine QJ.step (YldS.yld (y_bin rfl rfl rfl)) rfl ?_
                      refine QJ.step (YldS.yld (y_assign rfl)) rfl ?_
                      refine QJ.done ?_
                      exact PJ.round (l101, v103, w64 (k91 - 1)) [3, 4, 5] hm ⟨rfl, rfl, rfl, trivial⟩ ⟨by decide, rfl⟩
                    · intro hD97
                      refine RJ.step2 9 12 [0, 1, 2] (by kernel_rfl) ⟨by decide, rfl⟩ ?_ ?_
                      · refine RO.of (listed' := #[true, true, true, true, true, true, true, true, true, true, false, false, false, false]) rfl rfl ?_
                        refine SJ.buildSlice (R := fByte) (os := [.tmp 124]) [(67 : UInt8) + (UInt8.ofInt (List.length l89 : Int))] Tryd.runUnderlying22 Tryd.sizeOf5 Tryd.zeroValue5 rfl rfl rfl rfl rfl rfl fun v95 => ?_
                        refine SJ.nil ?_
                        refine PJ.draw ?_
                        refine RJ.step2 10 12 [1, 2, 3] (by kernel_rfl) ⟨by decide, rfl⟩ ?_ ?_
                        · refine RO.of (listed' := #[true, true, true, true, true, true, true, true, true, true, true, false, false, false]) rfl rfl ?_
                          refine SJ.q (YldS.yld (y_b2s Tryd.underlying22 Tryd.underlying9 Tryd.underlying5 (fun w hw => ⟨_, (hw.row_rd (k := 0) rfl)⟩) rfl)) rfl ?_
                          refine SJ.nil ?_
                          refine PJ.draw ?_
                          refine RJ.first 11 (listed' := #[true, true, true, true, true, true, true, true, true, true, true, true, false, false]) [1, 2, 3] rfl (by kernel_rfl) rfl ⟨by decide, rfl⟩ (y_build (parts := [(0, .tmp 121), (2, .tmp 126)]) (places := [(0, 1), (1, 1), (2, 1)]) (r := [str ((Accent.mk s93 [] [(67 : UInt8) + (UInt8.ofInt (List.length l89 : Int))]).mark), str ((Accent.mk s93 [] [(67 : UInt8) + (UInt8.ofInt (List.length l89 : Int))]).letter), str ((Accent.mk s93 [] [(67 : UInt8) + (UInt8.ofInt (List.length l89 : Int))]).made)]) pl56 Tryd.zeroValue56 rfl rfl rfl rfl) rfl ?_
                          refine RJ.step1 12 [1, 2, 3] (by kernel_rfl) ⟨by decide, rfl⟩ ?_
                          refine RO.of (listed' := #[true, true, true, true, true, true, true, true, true, true, true, true, true, false]) rfl rfl ?_
                          refine SJ.alloc (cs := [str [], str [], str []]) Tryd.zeroValue56 rfl rfl fun g96 => ?_
                          refine SJ.nil ?_
                          refine PJ.draw ?_
                          exact RJ.weak (hD97 (g96, v95)) [0, 1, 2, 3, 4] ⟨rfl, rfl, rfl, rfl, rfl, rfl, trivial⟩ ⟨by decide, rfl⟩
                        · refine RO.of (listed' := #[true, true, true, true, true, true, true, true, true, true, false, false, true, false]) rfl rfl ?_
                          refine SJ.alloc (cs := [str [], str [], str []]) Tryd.zeroValue56 rfl rfl fun g96 => ?_
                          refine SJ.nil ?_
                          refine PJ.draw ?_
                          refine RJ.step1 10 [2, 3, 4] (by kernel_rfl) ⟨by decide, rfl⟩ ?_
                          refine RO.of (listed' := #[true, true, true, true, true, true, true, true, true, true, true, false, true, false]) rfl rfl ?_
                          refine SJ.q (YldS.yld (y_b2s Tryd.underlying22 Tryd.underlying9 Tryd.underlying5 (fun w hw => ⟨_, (hw.row_rd (k := 1) rfl)⟩) rfl)) rfl ?_
                          refine SJ.nil ?_
                          refine PJ.draw ?_
                          refine RJ.first 11 (listed' := #[true, true, true, true, true, true, true, true, true, true, true, true, true, false]) [2, 3, 4] rfl (by kernel_rfl) rfl ⟨by decide, rfl⟩ (y_build (parts := [(0, .tmp 121), (2, .tmp 126)]) (places := [(0, 1), (1, 1), (2, 1)]) (r := [str ((Accent.mk s93 [] [(67 : UInt8) + (UInt8.ofInt (List.length l89 : Int))]).mark), str ((Accent.mk s93 [] [(67 : UInt8) + (UInt8.ofInt (List.length l89 : Int))]).letter), str ((Accent.mk s93 [] [(67 : UInt8) + (UInt8.ofInt (List.length l89 : Int))]).made)]) pl56 Tryd.zeroValue56 rfl rfl rfl rfl) rfl ?_
                          exact RJ.weak (hD97 (g96, v95)) [0, 1, 2, 3, 4] ⟨rfl, rfl, rfl, rfl, rfl, rfl, trivial⟩ ⟨by decide, rfl⟩
                      · refine RO.of (listed' := #[true, true, true, true, true, true, true, true, true, false, false, false, true, false]) rfl rfl ?_
                        refine SJ.alloc (cs := [str [], str [], str []]) Tryd.zeroValue56 rfl rfl fun g96 => ?_
                        refine SJ.nil ?_
                        refine PJ.draw ?_
                        refine RJ.step1 9 [1, 2, 3] (by kernel_rfl) ⟨by decide, rfl⟩ ?_
                        refine RO.of (listed' := #[true, true, true, true, true, true, true, true, true, true, false, false, true, false]) rfl rfl ?_
                        refine SJ.buildSlice (R := fByte) (os := [.tmp 124]) [(67 : UInt8) + (UInt8.ofInt (List.length l89 : Int))] Tryd.runUnderlying22 Tryd.sizeOf5 Tryd.zeroValue5 rfl rfl rfl rfl rfl rfl fun v95 => ?_
                        refine SJ.nil ?_
                        refine PJ.draw ?_
                        refine RJ.step1 10 [2, 3, 4] (by kernel_rfl) ⟨by decide, rfl⟩ ?_
                        refine RO.of (listed' := #[true, true, true, true, true, true, true, true, true, true, true, false, true, false]) rfl rfl ?_
                        refine SJ.q (YldS.yld (y_b2s Tryd.underlying22 Tryd.underlying9 Tryd.underlying5 (fun w hw => ⟨_, (hw.row_rd (k := 0) rfl)⟩) rfl)) rfl ?_
                        refine SJ.nil ?_
                        refine PJ.draw ?_
                        refine RJ.first 11 (listed' := #[true, true, true, true, true, true, true, true, true, true, true, true, true, false]) [2, 3, 4] rfl (by kernel_rfl) rfl ⟨by decide, rfl⟩ (y_build (parts := [(0, .tmp 121), (2, .tmp 126)]) (places := [(0, 1), (1, 1), (2, 1)]) (r := [str ((Accent.mk s93 [] [(67 : UInt8) + (UInt8.ofInt (List.length l89 : Int))]).mark), str ((Accent.mk s93 [] [(67 : UInt8) + (UInt8.ofInt (List.length l89 : Int))]).letter), str ((Accent.mk s93 [] [(67 : UInt8) + (UInt8.ofInt (List.length l89 : Int))]).made)]) pl56 Tryd.zeroValue56 rfl rfl rfl rfl) rfl ?_
                        exact RJ.weak (hD97 (g96, v95)) [1, 0, 2, 3, 4] ⟨rfl, rfl, rfl, rfl, rfl, rfl, trivial⟩ ⟨by decide, rfl⟩
                  · replace hm := ifF hm hb92
                    refine WJ.exit ?_
                    refine PJ.then_exit (PJ.then_exit (PJ.block_exit (PJ.block_normal ?_)))
                    exact PJ.joined (r87.2.at_, r87.2.seed, l72, v73, l89, v90) [0, 2, 1] hm ⟨rfl, rfl, trivial⟩ ⟨by decide, rfl⟩
            · replace hm := ifF hm hb70
              refine WJ.skip ?_
              refine PJ.block_normal ?_
              exact PJ.joined (r17.2.at_, r17.2.seed, r5.1, v7, r5.2.1, v8) [0, 1, 2] hm ⟨rfl, rfl, trivial⟩ ⟨by decide, rfl⟩
  · rintro ⟨x9, x10, l11, v12, l13, v14⟩ hm
    subst hk16
    refine WJ.seq ?_
    refine WJ.quiet ?_
    refine QJ.step (YldS.yld (y_move rfl)) rfl ?_
    refine QJ.step (YldS.yld (y_move rfl)) rfl ?_
    refine QJ.step (YldS.yld (y_assign rfl)) rfl ?_
    refine QJ.step (YldS.yld (y_assign rfl)) rfl ?_
    refine QJ.done ?_
    refine PJ.next ?_
    refine WJ.ret ?_
    obtain rfl := Option.some.inj hm
    refine PJ.sel (L' := [box g2 82 [v3, .int .i64 x9, .int .u64 x10], row v12 54 fKey l11, row v14 56 fAccent l13]) [0, 1, 2] ⟨by decide, rfl⟩ ?_
    exact PJ.retn (vs := [v12, v14]) Tryd.results45 ⟨rfl, rfl, trivial⟩ ⟨_, _, rfl, rfl⟩

set_option maxRecDepth 100000 in
set_option maxHeartbeats 1000000 in
theorem ok_s_l02PutLetter {N : Nat} {list1 : Str} {letter2 : Str} {r : Str} (hm : s_l02PutLetter N list1 letter2 = some r) (w : World)  :
    Calls Tryd.prog 30 #[str list1, str letter2] w (Ret (cx w) (str r)) := by
  unfold s_l02PutLetter at hm
  refine Calls.enter [str list1, str letter2] Tryd.func30 rfl Tryd.ntmps30 rfl ?_
  refine WJ.seq ?_
  refine WJ.quiet ?_
  refine QJ.step (YldS.yld (y_assign rfl)) rfl ?_
  refine QJ.done ?_
  refine PJ.next ?_
  refine WJ.seq ?_
  refine WJ.quiet ?_
  refine QJ.step (YldS.yld (y_assign rfl)) rfl ?_
  refine QJ.done ?_
  refine PJ.next ?_
  obtain ⟨kj4, hk5, hm⟩ := withK_open hm
  refine WJ.join (X := Int) (fun (x : Int) => kj4 x = some r) (fun (x : Int) => [(0, str list1), (1, str letter2), (5, .int .i64 x)]) (fun (x : Int) => []) ?_ ?_
  · clear hk5
    refine WJ.block ?_
    refine WJ.sel (L' := (fun (x : Int) => []) 0) [] ⟨List.nodup_nil, rfl⟩ ?_
    refine WJ.sub (m' := (fun (x : Int) => [(0, str list1), (1, str letter2), (5, .int .i64 x)]) 0) ⟨rfl, rfl, rfl, trivial⟩ ?_
    refine WJ.loop (X := Int) (fun N (x : Int) => s_l02PutLetter_l1 kj4 list1 letter2 N x = some r) (fun (x : Int) => [(0, str list1), (1, str letter2), (5, .int .i64 x)]) (fun (x : Int) => []) ?_ N 0 hm
    · rintro N k6 hI
      have hm := hI; clear hI
      cases N with
      | zero => cases hm
      | succ N =>
      unfold s_l02PutLetter_l1 at hm
      refine WJ.seq ?_
      refine WJ.seq ?_
      refine WJ.quiet_draw follows (by kernel_rfl) ?_
      refine QJ.step (YldS.yld (y_move rfl)) rfl ?_
      refine QJ.step (YldS.yld (y_move rfl)) rfl ?_
      refine QJ.step (YldS.yld (y_lenStr Tryd.runUnderlying9 rfl)) rfl ?_
      refine QJ.step (YldS.yld (y_bin rfl rfl rfl)) rfl ?_
      refine QJ.step (YldS.yld (y_move rfl)) rfl ?_
      obtain ⟨t7, h8, hm⟩ := bindS hm
      refine QJ.cut 7 [(0, str list1), (1, str letter2), (5, .int .i64 k6), (17, .bool t7)] ?_ ?_
      · rcases Bool.eq_false_or_eq_true (decide (k6 < (List.length list1 : Int))) with hb9 | hb9
        · replace h8 := andT h8 hb9
          refine QJ.on rfl rfl (cB hb9) (YldS.yld (y_move rfl)) rfl ?_
          refine QJ.on rfl rfl (cB hb9) (YldS.yld (y_move rfl)) rfl ?_
          obtain ⟨c10, h11, h8⟩ := bindS h8
          refine QJ.on rfl rfl (cB hb9) (YldS.yld (y_idxStr Tryd.runUnderlying9 rfl rfl h11)) rfl ?_
          refine QJ.on rfl rfl (cB hb9) (YldS.yld (y_move rfl)) rfl ?_
          obtain ⟨c12, h13, h8⟩ := bindS h8
          refine QJ.on rfl rfl (cB hb9) (YldS.yld (y_idxStr Tryd.runUnderlying9 rfl rfl h13)) rfl ?_
          refine QJ.on rfl rfl (cB hb9) (YldS.yld (y_bin8 c10 c12 rfl rfl rfl)) rfl ?_
          refine QJ.step (YldS.yld (y_pick_t (cB hb9) rfl)) rfl ?_
          obtain rfl := Option.some.inj h8
          exact QJ.cut_end ⟨rfl, rfl, rfl, rfl, trivial⟩
        · obtain rfl := andF h8 hb9
          refine QJ.off rfl rfl (cB hb9) rfl rfl ?_
          refine QJ.off rfl rfl (cB hb9) rfl rfl ?_
          refine QJ.off rfl rfl (cB hb9) rfl rfl ?_
          refine QJ.off rfl rfl (cB hb9) rfl rfl ?_
          refine QJ.off rfl rfl (cB hb9) rfl rfl ?_
          refine QJ.off rfl rfl (cB hb9) rfl rfl ?_
          refine QJ.step (YldS.yld (y_pick_f (cB hb9) rfl)) rfl ?_
          exact QJ.cut_end ⟨rfl, rfl, rfl, rfl, trivial⟩
      refine QJ.done ?_
      refine PJ.next ?_
      refine WJ.cond (t := t7) rfl (fun hb14 => ?_) (fun hb14 => ?_)
      · replace hm := ifT hm hb14
        refine WJ.skip ?_
        refine PJ.next ?_
        refine WJ.block ?_
        refine WJ.quiet ?_
        refine QJ.step (YldS.yld (y_move rfl)) rfl ?_
        refine QJ.step (YldS.yld (y_bin rfl rfl rfl)) rfl ?_
        refine QJ.step (YldS.yld (y_assign rfl)) rfl ?_
        refine QJ.done ?_
        refine PJ.block_normal ?_
        exact PJ.round (w64 (k6 + 1)) [] hm ⟨rfl, rfl, rfl, trivial⟩ ⟨List.nodup_nil, rfl⟩
      · replace hm := ifF hm hb14
        refine WJ.exit ?_
        refine PJ.then_exit (PJ.then_exit (PJ.block_exit ?_))
        exact PJ.joined k6 [] hm ⟨rfl, rfl, rfl, trivial⟩ ⟨List.nodup_nil, rfl⟩
  · rintro k3 hm
    subst hk5
    refine WJ.seq ?_
    refine WJ.seq ?_
    refine WJ.quiet_draw follows (by kernel_rfl) ?_
    refine QJ.step (YldS.yld (y_move rfl)) rfl ?_
    refine QJ.step (YldS.yld (y_move rfl)) rfl ?_
    refine QJ.step (YldS.yld (y_lenStr Tryd.runUnderlying9 rfl)) rfl ?_
    refine QJ.step (YldS.yld (y_bin rfl rfl rfl)) rfl ?_
    refine QJ.step (YldS.yld (y_move rfl)) rfl ?_
    obtain ⟨t15, h16, hm⟩ := bindS hm
    refine QJ.cut 7 [(0, str list1), (1, str letter2), (5, .int .i64 k3), (31, .bool t15)] ?_ ?_
    · rcases Bool.eq_false_or_eq_true (decide (k3 < (List.length list1 : Int))) with hb17 | hb17
      · replace h16 := andT h16 hb17
        refine QJ.on rfl rfl (cB hb17) (YldS.yld (y_move rfl)) rfl ?_
        refine QJ.on rfl rfl (cB hb17) (YldS.yld (y_move rfl)) rfl ?_
        obtain ⟨c18, h19, h16⟩ := bindS h16
        refine QJ.on rfl rfl (cB hb17) (YldS.yld (y_idxStr Tryd.runUnderlying9 rfl rfl h19)) rfl ?_
        refine QJ.on rfl rfl (cB hb17) (YldS.yld (y_move rfl)) rfl ?_
        obtain ⟨c20, h21, h16⟩ := bindS h16
        refine QJ.on rfl rfl (cB hb17) (YldS.yld (y_idxStr Tryd.runUnderlying9 rfl rfl h21)) rfl ?_
        refine QJ.on rfl rfl (cB hb17) (YldS.yld (y_bin8 c18 c20 rfl rfl rfl)) rfl ?_
        refine QJ.step (YldS.yld (y_pick_t (cB hb17) rfl)) rfl ?_
        obtain rfl := Option.some.inj h16
        exact QJ.cut_end ⟨rfl, rfl, rfl, rfl, trivial⟩
      · obtain rfl := andF h16 hb17
        refine QJ.off rfl rfl (cB hb17) rfl rfl ?_
        refine QJ.off rfl rfl (cB hb17) rfl rfl ?_
        refine QJ.off rfl rfl (cB hb17) rfl rfl ?_
        refine QJ.off rfl rfl (cB hb17) rfl rfl ?_
        refine QJ.off rfl rfl (cB hb17) rfl rfl ?_
        refine QJ.off rfl rfl (cB hb17) rfl rfl ?_
        refine QJ.step (YldS.yld (y_pick_f (cB hb17) rfl)) rfl ?_
        exact QJ.cut_end ⟨rfl, rfl, rfl, rfl, trivial⟩
    refine QJ.done ?_
    refine PJ.next ?_
    refine WJ.cond (t := t15) rfl (fun hb22 => ?_) (fun hb22 => ?_)
    · replace hm := ifT hm hb22
      refine WJ.seq ?_
      refine WJ.quiet ?_
      refine QJ.step (YldS.yld (y_move rfl)) rfl ?_
      refine QJ.step (YldS.yld (y_assign rfl)) rfl ?_
      refine QJ.done ?_
      refine PJ.next ?_
      refine WJ.ret ?_
      refine PJ.then_ret ?_
      obtain rfl := Option.some.inj hm
      refine PJ.sel (L' := []) [] ⟨List.nodup_nil, rfl⟩ ?_
      exact PJ.retn (vs := [str list1]) Tryd.results30 ⟨rfl, trivial⟩ ⟨rfl, rfl⟩
    · replace hm := ifF hm hb22
      refine WJ.skip ?_
      refine PJ.next ?_
      refine WJ.seq ?_
      refine WJ.quiet_draw follows (by kernel_rfl) ?_
      refine QJ.step (YldS.yld (y_move rfl)) rfl ?_
      refine QJ.step (YldS.yld (y_move rfl)) rfl ?_
      obtain ⟨s23, h24, hm⟩ := bindS hm
      refine QJ.step (YldS.yld (y_subStr (i := none) (j := some k3) h24 Tryd.runUnderlying9 rfl trivial ⟨_, rfl⟩)) rfl ?_
      refine QJ.step (YldS.yld (y_move rfl)) rfl ?_
      obtain ⟨s25, h26, hm⟩ := bindS hm
      refine QJ.step (YldS.yld (y_cat h26 rfl rfl)) rfl ?_
      refine QJ.step (YldS.yld (y_move rfl)) rfl ?_
      refine QJ.step (YldS.yld (y_move rfl)) rfl ?_
      obtain ⟨s27, h28, hm⟩ := bindS hm
      refine QJ.step (YldS.yld (y_subStr (i := some k3) (j := none) h28 Tryd.runUnderlying9 rfl ⟨_, rfl⟩ trivial)) rfl ?_
      obtain ⟨s29, h30, hm⟩ := bindS hm
      refine QJ.step (YldS.yld (y_cat h30 rfl rfl)) rfl ?_
      refine QJ.step (YldS.yld (y_assign rfl)) rfl ?_
      refine QJ.done ?_
      refine PJ.next ?_
      refine WJ.ret ?_
      obtain rfl := Option.some.inj hm
      refine PJ.sel (L' := []) [] ⟨List.nodup_nil, rfl⟩ ?_
      exact PJ.retn (vs := [str s29]) Tryd.results30 ⟨rfl, trivial⟩ ⟨rfl, rfl⟩

set_option maxRecDepth 100000 in
set_option maxHeartbeats 1000000 in
theorem ok_s_LettersOf {N : Nat} {keys1 : List Key} {accents4 : List Accent} {r : Str × Int} (hm : s_LettersOf N keys1 accents4 = some r) (w : World) (v2 : Value) (hr3 : RdS w (cx w).Fz v2 fKey.rp keys1) (v5 : Value) (hr6 : RdS w (cx w).Fz v5 fAccent.rp accents4) :
    Calls Tryd.prog 11 #[v2, v5] w (Ret (cx w) (tup [str r.1, .int .i64 r.2])) := by
  unfold s_LettersOf at hm
  refine Calls.enter [v2, v5] Tryd.func11 rfl Tryd.ntmps11 rfl ?_
  refine WJ.seq ?_
  refine WJ.quiet ?_
  refine QJ.step (YldS.yld (y_assign rfl)) rfl ?_
  refine QJ.step (YldS.yld (y_assign rfl)) rfl ?_
  refine QJ.done ?_
  refine PJ.next ?_
  refine WJ.seq ?_
  refine WJ.seq ?_
  refine WJ.quiet ?_
  refine QJ.step (YldS.yld (y_move rfl)) rfl ?_
  refine QJ.step (YldS.yld (y_move rfl)) rfl ?_
  obtain ⟨r7, h8, hm⟩ := bindS hm
  refine QJ.step (y_call Tryd.call31 rfl (RetG.quiet fun w hw => ok_s_l02Ok h8 w _ (hr3.st hw) _ (hr6.st hw))) rfl ?_
  refine QJ.step (YldS.yld (y_not rfl)) rfl ?_
  refine QJ.done ?_
  refine PJ.next ?_
  refine WJ.cond (t := !r7) rfl (fun hb9 => ?_) (fun hb9 => ?_)
  · replace hm := ifT hm hb9
    refine WJ.seq ?_
    refine WJ.quiet ?_
    refine QJ.step (YldS.yld (y_assign rfl)) rfl ?_
    refine QJ.step (YldS.yld (y_assign rfl)) rfl ?_
    refine QJ.done ?_
    refine PJ.next ?_
    refine WJ.ret ?_
    refine PJ.then_ret ?_
    obtain rfl := Option.some.inj hm
    refine PJ.sel (L' := []) [] ⟨List.nodup_nil, rfl⟩ ?_
    exact PJ.retn (vs := [str [], .int .i64 1]) Tryd.results11 ⟨rfl, rfl, trivial⟩ ⟨rfl, rfl⟩
  · replace hm := ifF hm hb9
    refine WJ.skip ?_
    refine PJ.next ?_
    refine WJ.seq ?_
    refine WJ.quiet ?_
    refine QJ.step (YldS.yld (y_assign rfl)) rfl ?_
    refine QJ.done ?_
    refine PJ.next ?_
    obtain ⟨kj11, hk12, hm⟩ := withK_open hm
    refine WJ.join (X := Str) (fun (x : Str) => kj11 x = some r) (fun (x : Str) => [(1, v5), (6, str x)]) (fun (x : Str) => []) ?_ ?_
    · clear hk12
      refine WJ.seq ?_
      refine WJ.quiet ?_
      refine QJ.step (YldS.yld (y_assign rfl)) rfl ?_
      refine QJ.done ?_
      refine PJ.next ?_
      refine WJ.block ?_
      refine WJ.sel (L' := (fun (x : Str × Int) => []) ([], 0)) [] ⟨List.nodup_nil, rfl⟩ ?_
      refine WJ.sub (m' := (fun (x : Str × Int) => [(0, v2), (1, v5), (6, str x.1), (7, .int .i64 x.2)]) ([], 0)) ⟨rfl, rfl, rfl, rfl, trivial⟩ ?_
      refine WJ.loop (X := Str × Int) (fun N (x : Str × Int) => s_LettersOf_l1 kj11 keys1 N x.1 x.2 = some r) (fun (x : Str × Int) => [(0, v2), (1, v5), (6, str x.1), (7, .int .i64 x.2)]) (fun (x : Str × Int) => []) ?_ N ([], 0) hm
      · rintro N ⟨out13, i14⟩ hI
        have hm := hI; clear hI
        cases N with
        | zero => cases hm
        | succ N =>
        unfold s_LettersOf_l1 at hm
        refine WJ.seq ?_
        refine WJ.seq ?_
        refine WJ.quiet ?_
        refine QJ.step (YldS.yld (y_move rfl)) rfl ?_
        refine QJ.step (YldS.yld (y_move rfl)) rfl ?_
        refine QJ.step (YldS.yld (y_lenS Tryd.runUnderlying24 hr3 rfl)) rfl ?_
        refine QJ.step (YldS.yld (y_bin rfl rfl rfl)) rfl ?_
        refine QJ.done ?_
        refine PJ.next ?_
        refine WJ.cond (t := decide (i14 < (List.length keys1 : Int))) rfl (fun hb15 => ?_) (fun hb15 => ?_)
        · replace hm := ifT hm hb15
          refine WJ.skip ?_
          refine PJ.next ?_
          obtain ⟨kj17, hk18, hm⟩ := withK_open hm
          refine WJ.join (X := Str) (fun (x : Str) => kj17 x = some r) (fun (x : Str) => [(0, v2), (1, v5), (6, str x), (7, .int .i64 i14)]) (fun (x : Str) => []) ?_ ?_
          · clear hk18
            refine WJ.block ?_
            refine WJ.seq ?_
            refine WJ.quiet ?_
            refine QJ.step (YldS.yld (y_move rfl)) rfl ?_
            refine QJ.step (YldS.yld (y_move rfl)) rfl ?_
            obtain ⟨e19, h20, hm⟩ := bindS hm
            obtain ⟨ad21, _, rfl, ha22, hy23⟩ := hr3.elem h20
            refine QJ.step (YldS.yld (hy23 Tryd.runUnderlying24 Tryd.sizeOf54 rfl rfl)) rfl ?_
            refine QJ.step (YldS.yld (y_fld (ad := ad21) fld54_2 rfl)) rfl ?_
            refine QJ.step (YldS.yld (y_load1 (v := .bool e19.dead) Tryd.isAgg4 (ha22.sub 2 1) St.frozenC rfl)) rfl ?_
            refine QJ.step (YldS.yld (y_not rfl)) rfl ?_
            refine QJ.done ?_
            refine PJ.next ?_
            refine WJ.cond (t := !e19.dead) rfl (fun hb24 => ?_) (fun hb24 => ?_)
            · replace hm := ifT hm hb24
              refine WJ.seq ?_
              refine WJ.quiet ?_
              refine QJ.step (YldS.yld (y_move rfl)) rfl ?_
              refine QJ.step (YldS.yld (y_move rfl)) rfl ?_
              refine QJ.step (YldS.yld (y_move rfl)) rfl ?_
              obtain ⟨e25, h26, hm⟩ := bindS hm
              obtain ⟨ad27, _, rfl, ha28, hy29⟩ := hr3.elem h26
              refine QJ.step (YldS.yld (hy29 Tryd.runUnderlying24 Tryd.sizeOf54 rfl rfl)) rfl ?_
              refine QJ.step (YldS.yld (y_fld (ad := ad27) fld54_0 rfl)) rfl ?_
              refine QJ.step (YldS.yld (y_load1 (v := str e25.low) Tryd.isAgg9 (ha28.sub 0 1) St.frozenC rfl)) rfl ?_
              obtain ⟨r30, h31, hm⟩ := bindS hm
              refine QJ.step (y_call Tryd.call30 rfl (RetG.quiet fun w hw => ok_s_l02PutLetter h31 w )) rfl ?_
              refine QJ.step (YldS.yld (y_assign rfl)) rfl ?_
              refine QJ.done ?_
              refine PJ.next ?_
              refine WJ.quiet ?_
              refine QJ.step (YldS.yld (y_move rfl)) rfl ?_
              refine QJ.step (YldS.yld (y_move rfl)) rfl ?_
              refine QJ.step (YldS.yld (y_move rfl)) rfl ?_
              obtain ⟨e32, h33, hm⟩ := bindS hm
              obtain ⟨ad34, _, rfl, ha35, hy36⟩ := hr3.elem h33
              refine QJ.step (YldS.yld (hy36 Tryd.runUnderlying24 Tryd.sizeOf54 rfl rfl)) rfl ?_
              refine QJ.step (YldS.yld (y_fld (ad := ad34) fld54_1 rfl)) rfl ?_
              refine QJ.step (YldS.yld (y_load1 (v := str e32.high) Tryd.isAgg9 (ha35.sub 1 1) St.frozenC rfl)) rfl ?_
              obtain ⟨r37, h38, hm⟩ := bindS hm
              refine QJ.step (y_call Tryd.call30 rfl (RetG.quiet fun w hw => ok_s_l02PutLetter h38 w )) rfl ?_
              refine QJ.step (YldS.yld (y_assign rfl)) rfl ?_
              refine QJ.done ?_
              refine PJ.block_normal ?_
              exact PJ.joined r37 [] hm ⟨rfl, rfl, rfl, rfl, trivial⟩ ⟨List.nodup_nil, rfl⟩
            · replace hm := ifF hm hb24
              refine WJ.skip ?_
              refine PJ.block_normal ?_
              exact PJ.joined out13 [] hm ⟨rfl, rfl, rfl, rfl, trivial⟩ ⟨List.nodup_nil, rfl⟩
          · rintro out16 hm
            subst hk18
            refine WJ.quiet ?_
            refine QJ.step (YldS.yld (y_move rfl)) rfl ?_
            refine QJ.step (YldS.yld (y_bin rfl rfl rfl)) rfl ?_
            refine QJ.step (YldS.yld (y_assign rfl)) rfl ?_
            refine QJ.done ?_
            exact PJ.round (out16, w64 (i14 + 1)) [] hm ⟨rfl, rfl, rfl, rfl, trivial⟩ ⟨List.nodup_nil, rfl⟩
        · replace hm := ifF hm hb15
          refine WJ.exit ?_
          refine PJ.then_exit (PJ.then_exit (PJ.block_exit ?_))
          exact PJ.joined out13 [] hm ⟨rfl, rfl, trivial⟩ ⟨List.nodup_nil, rfl⟩
    · rintro out10 hm
      subst hk12
      obtain ⟨kj40, hk41, hm⟩ := withK_open hm
      refine WJ.join (X := Str) (fun (x : Str) => kj40 x = some r) (fun (x : Str) => [(6, str x)]) (fun (x : Str) => []) ?_ ?_
      · clear hk41
        refine WJ.seq ?_
        refine WJ.quiet ?_
        refine QJ.step (YldS.yld (y_assign rfl)) rfl ?_
        refine QJ.done ?_
        refine PJ.next ?_
        refine WJ.block ?_
        refine WJ.sel (L' := (fun (x : Str × Int) => []) (out10, 0)) [] ⟨List.nodup_nil, rfl⟩ ?_
        refine WJ.sub (m' := (fun (x : Str × Int) => [(1, v5), (6, str x.1), (8, .int .i64 x.2)]) (out10, 0)) ⟨rfl, rfl, rfl, trivial⟩ ?_
        refine WJ.loop (X := Str × Int) (fun N (x : Str × Int) => s_LettersOf_l2 kj40 accents4 N x.1 x.2 = some r) (fun (x : Str × Int) => [(1, v5), (6, str x.1), (8, .int .i64 x.2)]) (fun (x : Str × Int) => []) ?_ N (out10, 0) hm
        · rintro N ⟨out42, i43⟩ hI
          have hm := hI; clear hI
          cases N with
          | zero => cases hm
          | succ N =>
          unfold s_LettersOf_l2 at hm
          refine WJ.seq ?_
          refine WJ.seq ?_
          refine WJ.quiet ?_
          refine QJ.step (YldS.yld (y_move rfl)) rfl ?_
          refine QJ.step (YldS.yld (y_move rfl)) rfl ?_
          refine QJ.step (YldS.yld (y_lenS Tryd.runUnderlying25 hr6 rfl)) rfl ?_
          refine QJ.step (YldS.yld (y_bin rfl rfl rfl)) rfl ?_
          refine QJ.done ?_
          refine PJ.next ?_
          refine WJ.cond (t := decide (i43 < (List.length accents4 : Int))) rfl (fun hb44 => ?_) (fun hb44 => ?_)
          · replace hm := ifT hm hb44
            refine WJ.skip ?_
            refine PJ.next ?_
            refine WJ.seq ?_
            refine WJ.block ?_
            refine WJ.quiet ?_
            refine QJ.step (YldS.yld (y_move rfl)) rfl ?_
            refine QJ.step (YldS.yld (y_move rfl)) rfl ?_
            refine QJ.step (YldS.yld (y_move rfl)) rfl ?_
            obtain ⟨e45, h46, hm⟩ := bindS hm
            obtain ⟨ad47, _, rfl, ha48, hy49⟩ := hr6.elem h46
            refine QJ.step (YldS.yld (hy49 Tryd.runUnderlying25 Tryd.sizeOf56 rfl rfl)) rfl ?_
            refine QJ.step (YldS.yld (y_fld (ad := ad47) fld56_2 rfl)) rfl ?_
            refine QJ.step (YldS.yld (y_load1 (v := str e45.made) Tryd.isAgg9 (ha48.sub 2 1) St.frozenC rfl)) rfl ?_
            obtain ⟨r50, h51, hm⟩ := bindS hm
            refine QJ.step (y_call Tryd.call30 rfl (RetG.quiet fun w hw => ok_s_l02PutLetter h51 w )) rfl ?_
            refine QJ.step (YldS.yld (y_assign rfl)) rfl ?_
            refine QJ.done ?_
            refine PJ.block_normal (PJ.next ?_)
            refine WJ.quiet ?_
            refine QJ.step (YldS.yld (y_move rfl)) rfl ?_
            refine QJ.step (YldS.yld (y_bin rfl rfl rfl)) rfl ?_
            refine QJ.step (YldS.yld (y_assign rfl)) rfl ?_
            refine QJ.done ?_
            exact PJ.round (r50, w64 (i43 + 1)) [] hm ⟨rfl, rfl, rfl, trivial⟩ ⟨List.nodup_nil, rfl⟩
          · replace hm := ifF hm hb44
            refine WJ.exit ?_
            refine PJ.then_exit (PJ.then_exit (PJ.block_exit ?_))
            exact PJ.joined out42 [] hm ⟨rfl, trivial⟩ ⟨List.nodup_nil, rfl⟩
      · rintro out39 hm
        subst hk41
        refine WJ.seq ?_
        refine WJ.quiet ?_
        refine QJ.step (YldS.yld (y_move rfl)) rfl ?_
        refine QJ.step (YldS.yld (y_assign rfl)) rfl ?_
        refine QJ.step (YldS.yld (y_assign rfl)) rfl ?_
        refine QJ.done ?_
        refine PJ.next ?_
        refine WJ.ret ?_
        obtain rfl := Option.some.inj hm
        refine PJ.sel (L' := []) [] ⟨List.nodup_nil, rfl⟩ ?_
        exact PJ.retn (vs := [str out39, .int .i64 0]) Tryd.results11 ⟨rfl, rfl, trivial⟩ ⟨rfl, rfl⟩

set_option maxRecDepth 100000 in
set_option maxHeartbeats 1000000 in
theorem ok_s_l02DrawText {N : Nat} {code1 : List UInt8} {r : (List Key) × (List Accent) × Str} (hm : s_l02DrawText N code1 = some r) (w : World) (v2 : Value) (hr3 : RdS w (cx w).Fz v2 fByte.rp code1) :
    Calls Tryd.prog 24 #[v2] w (RetG (cx w) fun u L => ∃ (u1 : Value) (u2 : Value), (u = tup [u1, u2, str r.2.2] ∧ L = [row u1 54 fKey r.1, row u2 56 fAccent r.2.1])) := by
  unfold s_l02DrawText at hm
  refine Calls.enter [v2] Tryd.func24 rfl Tryd.ntmps24 rfl ?_
  refine WJ.seq ?_
  refine WJ.quiet ?_
  refine QJ.step (YldS.yld (y_assign rfl)) rfl ?_
  refine QJ.step (YldS.yld (y_assign rfl)) rfl ?_
  refine QJ.step (YldS.yld (y_assign rfl)) rfl ?_
  refine QJ.done ?_
  refine PJ.next ?_
  refine WJ.seq ?_
  refine WJ.reg ?_
  refine SJ.q (YldS.yld (y_move rfl)) rfl ?_
  obtain ⟨r4, h5, hm⟩ := bindS hm
  refine SJ.call Tryd.call32 rfl (fun w hw => ok_s_l00From h5 w _ (hr3.st hw)) rfl ?_
  rintro _ _ ⟨g6, rfl, rfl⟩
  refine SJ.q (YldS.yld (y_assign rfl)) rfl ?_
  refine SJ.nil ?_
  refine PJ.next ?_
  refine WJ.seq ?_
  refine WJ.reg ?_
  refine SJ.q (YldS.yld (y_move rfl)) rfl ?_
  obtain ⟨r7, h8, hm⟩ := bindS hm
  refine SJ.call1 (k := 0) rfl Tryd.call45 rfl (fun w S hw hA hO => ok_s_l02Bent h8 w S _ (hr3.st1 hw hO) hA) rfl ?_
  rintro _ _ ⟨v9, v10, rfl, rfl⟩
  refine SJ.q (YldS.yld (y_move rfl)) rfl ?_
  refine SJ.q (YldS.yld (y_extract rfl rfl)) rfl ?_
  refine SJ.q (YldS.yld (y_extract rfl rfl)) rfl ?_
  refine SJ.q (YldS.yld (y_assign rfl)) rfl ?_
  refine SJ.q (YldS.yld (y_assign rfl)) rfl ?_
  refine SJ.nil ?_
  refine PJ.next ?_
  refine WJ.seq ?_
  refine WJ.quiet ?_
  refine QJ.step (YldS.yld (y_move rfl)) rfl ?_
  refine QJ.step (YldS.yld (y_move rfl)) rfl ?_
  obtain ⟨r11, h12, hm⟩ := bindS hm
  refine QJ.step (y_call Tryd.call11 rfl (RetG.quiet fun w hw => ok_s_LettersOf h12 w _ (hw.row_rd (k := 1) rfl) _ (hw.row_rd (k := 2) rfl))) rfl ?_
  refine QJ.step (YldS.yld (y_move rfl)) rfl ?_
  refine QJ.step (YldS.yld (y_extract rfl rfl)) rfl ?_
  refine QJ.step (YldS.yld (y_extract rfl rfl)) rfl ?_
  refine QJ.step (YldS.yld (y_assign rfl)) rfl ?_
  refine QJ.step (YldS.yld (y_assign rfl)) rfl ?_
  refine QJ.done ?_
  refine PJ.next ?_
  obtain ⟨kj14, hk15, hm⟩ := withK_open hm
  refine WJ.join (X := Str) (fun (x : Str) => kj14 x = some r) (fun (x : Str) => [(5, pt g6 0), (6, v9), (7, v10), (8, str x)]) (fun (x : Str) => [box g6 82 [v2, .int .i64 r7.2.2.at_, .int .u64 r7.2.2.seed], row v9 54 fKey r7.1, row v10 56 fAccent r7.2.1]) ?_ ?_
  · clear hk15
    refine WJ.seq ?_
    refine WJ.quiet ?_
    refine QJ.step (YldS.yld (y_move rfl)) rfl ?_
    refine QJ.step (YldS.yld (y_bin rfl rfl rfl)) rfl ?_
    refine QJ.step (YldS.yld (y_move rfl)) rfl ?_
    obtain ⟨t16, h17, hm⟩ := bindS hm
    refine QJ.cut 3 [(5, pt g6 0), (6, v9), (7, v10), (8, str r11.1), (32, .bool t16)] ?_ ?_
    · rcases Bool.eq_false_or_eq_true (r11.2 != 0) with hb18 | hb18
      · obtain rfl := orT h17 hb18
        refine QJ.off rfl rfl (cB hb18) rfl rfl ?_
        refine QJ.off rfl rfl (cB hb18) rfl rfl ?_
        refine QJ.step (YldS.yld (y_pick_t (cB hb18) rfl)) rfl ?_
        exact QJ.cut_end ⟨rfl, rfl, rfl, rfl, rfl, trivial⟩
      · replace h17 := orF h17 hb18
        refine QJ.on rfl rfl (cB hb18) (YldS.yld (y_move rfl)) rfl ?_
        refine QJ.on rfl rfl (cB hb18) (YldS.yld (y_binS rfl rfl rfl)) rfl ?_
        refine QJ.step (YldS.yld (y_pick_f (cB hb18) rfl)) rfl ?_
        obtain rfl := Option.some.inj h17
        exact QJ.cut_end ⟨rfl, rfl, rfl, rfl, rfl, trivial⟩
    refine QJ.done ?_
    refine PJ.next ?_
    refine WJ.cond (t := t16) rfl (fun hb19 => ?_) (fun hb19 => ?_)
    · replace hm := ifT hm hb19
      refine WJ.quiet ?_
      refine QJ.step (YldS.yld (y_assign rfl)) rfl ?_
      refine QJ.done ?_
      exact PJ.joined [97, 98] [0, 1, 2] hm ⟨rfl, rfl, rfl, rfl, trivial⟩ ⟨by decide, rfl⟩
    · replace hm := ifF hm hb19
      refine WJ.skip ?_
      exact PJ.joined r11.1 [0, 1, 2] hm ⟨rfl, rfl, rfl, rfl, trivial⟩ ⟨by decide, rfl⟩
  · rintro all13 hm
    subst hk15
    refine WJ.seq ?_
    refine WJ.quiet ?_
    refine QJ.step (YldS.yld (y_assign rfl)) rfl ?_
    refine QJ.done ?_
    refine PJ.next ?_
    refine WJ.seq ?_
    refine WJ.reg ?_
    refine SJ.q (YldS.yld (y_move rfl)) rfl ?_
    obtain ⟨r20, h21, hm⟩ := bindS hm
    refine SJ.call1 (k := 0) rfl Tryd.call33 rfl (fun w S hw hA hO => ok_s_l00Src_pick h21 w S _ (hr3.st1 hw hO) hA) rfl ?_
    rintro _ _ ⟨rfl, rfl⟩
    refine SJ.q (YldS.yld (y_assign rfl)) rfl ?_
    refine SJ.nil ?_
    refine PJ.next ?_
    obtain ⟨kj25, hk26, hm⟩ := withK_open hm
    refine WJ.join (X := Int × Int × Int) (fun (x : Int × Int × Int) => kj25 x.1 x.2.1 x.2.2 = some r) (fun (x : Int × Int × Int) => [(5, pt g6 0), (6, v9), (7, v10), (8, str all13), (10, str []), (11, .int .i64 x.2.2)]) (fun (x : Int × Int × Int) => [box g6 82 [v2, .int .i64 x.1, .int .u64 x.2.1], row v9 54 fKey r7.1, row v10 56 fAccent r7.2.1]) ?_ ?_
    · clear hk26
      refine WJ.seq ?_
      refine WJ.reg ?_
      refine SJ.q (YldS.yld (y_move rfl)) rfl ?_
      obtain ⟨r27, h28, hm⟩ := bindS hm
      refine SJ.call1 (k := 0) rfl Tryd.call34 rfl (fun w S hw hA hO => ok_s_l00Src_one h28 w S _ (hr3.st1 hw hO) hA) rfl ?_
      rintro _ _ ⟨rfl, rfl⟩
      refine SJ.nil ?_
      refine PJ.next ?_
      refine WJ.cond (t := r27.1) rfl (fun hb29 => ?_) (fun hb29 => ?_)
      · replace hm := ifT hm hb29
        refine WJ.reg ?_
        refine SJ.q (YldS.yld (y_move rfl)) rfl ?_
        obtain ⟨r30, h31, hm⟩ := bindS hm
        refine SJ.call1 (k := 0) rfl Tryd.call33 rfl (fun w S hw hA hO => ok_s_l00Src_pick h31 w S _ (hr3.st1 hw hO) hA) rfl ?_
        rintro _ _ ⟨rfl, rfl⟩
        refine SJ.q (YldS.yld (y_bin rfl rfl rfl)) rfl ?_
        refine SJ.q (YldS.yld (y_assign rfl)) rfl ?_
        refine SJ.nil ?_
        exact PJ.joined (r30.2.at_, r30.2.seed, w64 (100 + r30.1)) [0, 1, 2] hm ⟨rfl, rfl, rfl, rfl, rfl, rfl, trivial⟩ ⟨by decide, rfl⟩
      · replace hm := ifF hm hb29
        refine WJ.skip ?_
        exact PJ.joined (r27.2.at_, r27.2.seed, r20.1) [0, 1, 2] hm ⟨rfl, rfl, rfl, rfl, rfl, rfl, trivial⟩ ⟨by decide, rfl⟩
    · rintro ⟨x22, x23, n24⟩ hm
      subst hk26
      obtain ⟨kj35, hk36, hm⟩ := withK_open hm
      refine WJ.join (X := Int × Int × Str) (fun (x : Int × Int × Str) => kj35 x.1 x.2.1 x.2.2 = some r) (fun (x : Int × Int × Str) => [(5, pt g6 0), (6, v9), (7, v10), (10, str x.2.2)]) (fun (x : Int × Int × Str) => [box g6 82 [v2, .int .i64 x.1, .int .u64 x.2.1], row v9 54 fKey r7.1, row v10 56 fAccent r7.2.1]) ?_ ?_
      · clear hk36
        refine WJ.seq ?_
        refine WJ.quiet ?_
        refine QJ.step (YldS.yld (y_move rfl)) rfl ?_
        refine QJ.step (YldS.yld (y_assign rfl)) rfl ?_
        refine QJ.done ?_
        refine PJ.next ?_
        refine WJ.block ?_
        refine WJ.sel (L' := (fun (x : Int × Int × Str × Int) => [box g6 82 [v2, .int .i64 x.1, .int .u64 x.2.1], row v9 54 fKey r7.1, row v10 56 fAccent r7.2.1]) (x22, x23, [], n24)) [0, 1, 2] ⟨by decide, rfl⟩ ?_
        refine WJ.sub (m' := (fun (x : Int × Int × Str × Int) => [(5, pt g6 0), (6, v9), (7, v10), (8, str all13), (10, str x.2.2.1), (12, .int .i64 x.2.2.2)]) (x22, x23, [], n24)) ⟨rfl, rfl, rfl, rfl, rfl, rfl, trivial⟩ ?_
        refine WJ.loop (X := Int × Int × Str × Int) (fun N (x : Int × Int × Str × Int) => s_l02DrawText_l1 kj35 code1 all13 N x.1 x.2.1 x.2.2.1 x.2.2.2 = some r) (fun (x : Int × Int × Str × Int) => [(5, pt g6 0), (6, v9), (7, v10), (8, str all13), (10, str x.2.2.1), (12, .int .i64 x.2.2.2)]) (fun (x : Int × Int × Str × Int) => [box g6 82 [v2, .int .i64 x.1, .int .u64 x.2.1], row v9 54 fKey r7.1, row v10 56 fAccent r7.2.1]) ?_ N (x22, x23, [], n24) hm
        · rintro N ⟨x37, x38, text39, k40⟩ hI
          have hm := hI; clear hI
          cases N with
          | zero => cases hm
          | succ N =>
          unfold s_l02DrawText_l1 at hm
          refine WJ.seq ?_
          refine WJ.seq ?_
          refine WJ.quiet ?_
          refine QJ.step (YldS.yld (y_move rfl)) rfl ?_
          refine QJ.step (YldS.yld (y_bin rfl rfl rfl)) rfl ?_
          refine QJ.done ?_
          refine PJ.next ?_
          refine WJ.cond (t := decide (k40 > 0)) rfl (fun hb41 => ?_) (fun hb41 => ?_)
          · replace hm := ifT hm hb41
            refine WJ.skip ?_
            refine PJ.next ?_
            refine WJ.seq ?_
            refine WJ.block ?_
            refine WJ.seq ?_
            refine WJ.reg ?_
            refine SJ.q (YldS.yld (y_move rfl)) rfl ?_
            refine SJ.q (YldS.yld (y_move rfl)) rfl ?_
            refine SJ.q (YldS.yld (y_lenStr Tryd.runUnderlying9 rfl)) rfl ?_
            obtain ⟨r42, h43, hm⟩ := bindS hm
            refine SJ.call1 (k := 0) rfl Tryd.call33 rfl (fun w S hw hA hO => ok_s_l00Src_pick h43 w S _ (hr3.st1 hw hO) hA) rfl ?_
            rintro _ _ ⟨rfl, rfl⟩
            refine SJ.q (YldS.yld (y_assign rfl)) rfl ?_
            refine SJ.nil ?_
            refine PJ.next ?_
            refine WJ.quiet ?_
            refine QJ.step (YldS.yld (y_move rfl)) rfl ?_
            refine QJ.step (YldS.yld (y_move rfl)) rfl ?_
            refine QJ.step (YldS.yld (y_move rfl)) rfl ?_
            refine QJ.step (YldS.yld (y_move rfl)) rfl ?_
            refine QJ.step (YldS.yld (y_bin rfl rfl rfl)) rfl ?_
            obtain ⟨s44, h45, hm⟩ := bindS hm
            refine QJ.step (YldS.yld (y_subStr (i := some r42.1) (j := some (w64 (r42.1 + 1))) h45 Tryd.runUnderlying9 rfl ⟨_, rfl⟩ ⟨_, rfl⟩)) rfl ?_
            obtain ⟨s46, h47, hm⟩ := bindS hm
            refine QJ.step (YldS.yld (y_cat h47 rfl rfl)) rfl ?_
            refine QJ.step (YldS.yld (y_assign rfl)) rfl ?_
            refine QJ.done ?_
            refine PJ.block_normal (PJ.next ?_)
            refine WJ.quiet ?_
            refine QJ.step (YldS.yld (y_move rfl)) rfl ?_
            refine QJ.step (YldS.yld (y_bin rfl rfl rfl)) rfl ?_
            refine QJ.step (YldS.yld (y_assign rfl)) rfl ?_
            refine QJ.done ?_
            exact PJ.round (r42.2.at_, r42.2.seed, s46, w64 (k40 - 1)) [0, 1, 2] hm ⟨rfl, rfl, rfl, rfl, rfl, rfl, trivial⟩ ⟨by decide, rfl⟩
          · replace hm := ifF hm hb41
            refine WJ.exit ?_
            refine PJ.then_exit (PJ.then_exit (PJ.block_exit ?_))
            exact PJ.joined (x37, x38, text39) [0, 1, 2] hm ⟨rfl, rfl, rfl, rfl, trivial⟩ ⟨by decide, rfl⟩
      · rintro ⟨x32, x33, text34⟩ hm
        subst hk36
        obtain ⟨kj49, hk50, hm⟩ := withK_open hm
        refine WJ.join (X := Str) (fun (x : Str) => kj49 x = some r) (fun (x : Str) => [(6, v9), (7, v10), (10, str x)]) (fun (x : Str) => [row v9 54 fKey r7.1, row v10 56 fAccent r7.2.1]) ?_ ?_
        · clear hk50
          refine WJ.seq ?_
          refine WJ.reg ?_
          refine SJ.q (YldS.yld (y_move rfl)) rfl ?_
          obtain ⟨r51, h52, hm⟩ := bindS hm
          refine SJ.call1 (k := 0) rfl Tryd.call33 rfl (fun w S hw hA hO => ok_s_l00Src_pick h52 w S _ (hr3.st1 hw hO) hA) rfl ?_
          rintro _ _ ⟨rfl, rfl⟩
          refine SJ.nil ?_
          refine PJ.next ?_
          refine WJ.block ?_
          refine WJ.seq ?_
          refine WJ.quiet ?_
          refine QJ.step (YldS.yld (y_bin rfl rfl rfl)) rfl ?_
          refine QJ.step (YldS.yld (y_assign rfl)) rfl ?_
          refine QJ.done ?_
          refine PJ.next ?_
          refine WJ.cond (t := (r51.1 == 0)) rfl (fun hb53 => ?_) (fun hb53 => ?_)
          · replace hm := ifT hm hb53
            refine WJ.reg ?_
            refine SJ.q (YldS.yld (y_move rfl)) rfl ?_
            refine SJ.q (YldS.yld (y_move rfl)) rfl ?_
            refine SJ.buildSlice (R := fStr) (os := [.const (str [122]), .const (str [32]), .const (str [127]), .const (str [39])]) [[122], [32], [127], [39]] Tryd.runUnderlying69 Tryd.sizeOf9 Tryd.zeroValue9 rfl rfl rfl rfl rfl rfl fun v54 => ?_
            obtain ⟨r55, h56, hm⟩ := bindS hm
            refine SJ.call2 (k := 1) rfl Tryd.call46 rfl (fun w S hw hA hO hB => ok_s_l00Src_text h56 w S _ (hr3.st1 hw hO) _ (hB.row_rd (j := 0) (k := 1) rfl rfl) hA) rfl ?_
            rintro _ _ ⟨rfl, rfl⟩
            obtain ⟨s57, h58, hm⟩ := bindS hm
            refine SJ.q (YldS.yld (y_cat h58 rfl rfl)) rfl ?_
            refine SJ.q (YldS.yld (y_assign rfl)) rfl ?_
            refine SJ.nil ?_
            refine PJ.block_normal ?_
            exact PJ.joined s57 [2, 3] hm ⟨rfl, rfl, rfl, trivial⟩ ⟨by decide, rfl⟩
          · replace hm := ifF hm hb53
            refine WJ.skip ?_
            refine PJ.block_normal ?_
            exact PJ.joined text34 [1, 2] hm ⟨rfl, rfl, rfl, trivial⟩ ⟨by decide, rfl⟩
        · rintro text48 hm
          subst hk50
          refine WJ.seq ?_
          refine WJ.quiet ?_
          refine QJ.step (YldS.yld (y_move rfl)) rfl ?_
          refine QJ.step (YldS.yld (y_move rfl)) rfl ?_
          refine QJ.step (YldS.yld (y_move rfl)) rfl ?_
          refine QJ.step (YldS.yld (y_assign rfl)) rfl ?_
          refine QJ.step (YldS.yld (y_assign rfl)) rfl ?_
          refine QJ.step (YldS.yld (y_assign rfl)) rfl ?_
          refine QJ.done ?_
          refine PJ.next ?_
          refine WJ.ret ?_
          obtain rfl := Option.some.inj hm
          refine PJ.sel (L' := [row v9 54 fKey r7.1, row v10 56 fAccent r7.2.1]) [0, 1] ⟨by decide, rfl⟩ ?_
          exact PJ.retn (vs := [v9, v10, str text48]) Tryd.results24 ⟨rfl, rfl, rfl, trivial⟩ ⟨_, _, rfl, rfl⟩

set_option maxRecDepth 100000 in
set_option maxHeartbeats 1000000 in
theorem ok_s_DrawPressesFor {N : Nat} {code1 : List UInt8} {r : (List Key) × (List Accent) × Str} (hm : s_DrawPressesFor N code1 = some r) (w : World) (v2 : Value) (hr3 : RdS w (cx w).Fz v2 fByte.rp code1) :
    Calls Tryd.prog 5 #[v2] w (RetG (cx w) fun u L => ∃ (u1 : Value) (u2 : Value), (u = tup [u1, u2, str r.2.2] ∧ L = [row u1 54 fKey r.1, row u2 56 fAccent r.2.1])) := by
  unfold s_DrawPressesFor at hm
  refine Calls.enter [v2] Tryd.func5 rfl Tryd.ntmps5 rfl ?_
  refine WJ.seq ?_
  refine WJ.quiet ?_
  refine QJ.step (YldS.yld (y_assign rfl)) rfl ?_
  refine QJ.step (YldS.yld (y_assign rfl)) rfl ?_
  refine QJ.step (YldS.yld (y_assign rfl)) rfl ?_
  refine QJ.done ?_
  refine PJ.next ?_
  refine WJ.seq ?_
  refine WJ.reg ?_
  refine SJ.q (YldS.yld (y_move rfl)) rfl ?_
  obtain ⟨r4, h5, hm⟩ := bindS hm
  refine SJ.call Tryd.call24 rfl (fun w hw => ok_s_l02DrawText h5 w _ (hr3.st hw)) rfl ?_
  rintro _ _ ⟨v6, v7, rfl, rfl⟩
  refine SJ.q (YldS.yld (y_extract rfl rfl)) rfl ?_
  refine SJ.q (YldS.yld (y_extract rfl rfl)) rfl ?_
  refine SJ.q (YldS.yld (y_extract rfl rfl)) rfl ?_
  refine SJ.q (YldS.yld (y_assign rfl)) rfl ?_
  refine SJ.q (YldS.yld (y_assign rfl)) rfl ?_
  refine SJ.q (YldS.yld (y_assign rfl)) rfl ?_
  refine SJ.nil ?_
  refine PJ.next ?_
  refine WJ.ret ?_
  obtain rfl := Option.some.inj hm
  refine PJ.sel (L' := [row v6 54 fKey r4.1, row v7 56 fAccent r4.2.1]) [0, 1] ⟨by decide, rfl⟩ ?_
  exact PJ.retn (vs := [v6, v7, str r4.2.2]) Tryd.results5 ⟨rfl, rfl, rfl, trivial⟩ ⟨_, _, rfl, rfl⟩

set_option maxRecDepth 100000 in
set_option maxHeartbeats 1000000 in
theorem ok_i_isText {N : Nat} {s1 : Str} {low2 : UInt8} {most3 : Int} {r : Bool} (hm : i_isText N s1 low2 most3 = some r) (w : World)  :
    Calls Tryd.prog 25 #[str s1, .int .u8 (UInt8.toNat low2 : Int), .int .i64 most3] w (Ret (cx w) (.bool r)) := by
  unfold i_isText at hm
  refine Calls.enter [str s1, .int .u8 (UInt8.toNat low2 : Int), .int .i64 most3] Tryd.func25 rfl Tryd.ntmps25 rfl ?_
  refine WJ.seq ?_
  refine WJ.quiet ?_
  refine QJ.step (YldS.yld (y_assign rfl)) rfl ?_
  refine QJ.done ?_
  refine PJ.next ?_
  refine WJ.seq ?_
  refine WJ.seq ?_
  refine WJ.quiet ?_
  refine QJ.step (YldS.yld (y_move rfl)) rfl ?_
  refine QJ.step (YldS.yld (y_lenStr Tryd.runUnderlying9 rfl)) rfl ?_
  refine QJ.step (YldS.yld (y_move rfl)) rfl ?_
  refine QJ.step (YldS.yld (y_bin rfl rfl rfl)) rfl ?_
  refine QJ.done ?_
  refine PJ.next ?_
  refine WJ.cond (t := decide ((List.length s1 : Int) > most3)) rfl (fun hb4 => ?_) (fun hb4 => ?_)
  · replace hm := ifT hm hb4
    refine WJ.seq ?_
    refine WJ.quiet ?_
    refine QJ.step (YldS.yld (y_assign rfl)) rfl ?_
    refine QJ.done ?_
    refine PJ.next ?_
    refine WJ.ret ?_
    refine PJ.then_ret ?_
    obtain rfl := Option.some.inj hm
    refine PJ.sel (L' := []) [] ⟨List.nodup_nil, rfl⟩ ?_
    exact PJ.retn (vs := [.bool false]) Tryd.results25 ⟨rfl, trivial⟩ ⟨rfl, rfl⟩
  · replace hm := ifF hm hb4
    refine WJ.skip ?_
    refine PJ.next ?_
    obtain ⟨kj5, hk6, hm⟩ := withK_open hm
    refine WJ.join (X := Unit) (fun (_ : Unit) => kj5  = some r) (fun (_ : Unit) => []) (fun (_ : Unit) => []) ?_ ?_
    · clear hk6
      refine WJ.seq ?_
      refine WJ.quiet ?_
      refine QJ.step (YldS.yld (y_move rfl)) rfl ?_
      refine QJ.step (YldS.yld (y_lenStr Tryd.runUnderlying9 rfl)) rfl ?_
      refine QJ.step (YldS.yld (y_move rfl)) rfl ?_
      refine QJ.done ?_
      refine PJ.next ?_
      refine WJ.block ?_
      refine WJ.sel (L' := (fun (x : Int) => []) 0) [] ⟨List.nodup_nil, rfl⟩ ?_
      refine WJ.sub (m' := (fun (x : Int) => [(0, str s1), (1, .int .u8 (UInt8.toNat low2 : Int)), (13, .int .i64 (List.length s1 : Int)), (14, .int .i64 x)]) 0) ⟨rfl, rfl, rfl, rfl, trivial⟩ ?_
      refine WJ.loop (X := Int) (fun N (x : Int) => i_isText_l1 kj5 s1 low2 N x = some r) (fun (x : Int) => [(0, str s1), (1, .int .u8 (UInt8.toNat low2 : Int)), (13, .int .i64 (List.length s1 : Int)), (14, .int .i64 x)]) (fun (x : Int) => []) ?_ N 0 hm
      · rintro N x7 hI
        have hm := hI; clear hI
        cases N with
        | zero => cases hm
        | succ N =>
        unfold i_isText_l1 at hm
        refine WJ.seq ?_
        refine WJ.quiet ?_
        refine QJ.step (YldS.yld (y_bin rfl rfl rfl)) rfl ?_
        refine QJ.done ?_
        refine PJ.next ?_
        refine WJ.seq ?_
        refine WJ.cond (t := decide (x7 < (List.length s1 : Int))) rfl (fun hb8 => ?_) (fun hb8 => ?_)
        · replace hm := ifT hm hb8
          refine WJ.skip ?_
          refine PJ.next ?_
          refine WJ.seq ?_
          refine WJ.block ?_
          refine WJ.seq ?_
          refine WJ.quiet ?_
          refine QJ.step (YldS.yld (y_move rfl)) rfl ?_
          refine QJ.step (YldS.yld (y_assign rfl)) rfl ?_
          refine QJ.done ?_
          refine PJ.next ?_
          refine WJ.seq ?_
          refine WJ.quiet ?_
          refine QJ.step (YldS.yld (y_move rfl)) rfl ?_
          refine QJ.step (YldS.yld (y_move rfl)) rfl ?_
          obtain ⟨c9, h10, hm⟩ := bindS hm
          refine QJ.step (YldS.yld (y_idxStr Tryd.runUnderlying9 rfl rfl h10)) rfl ?_
          refine QJ.step (YldS.yld (y_move rfl)) rfl ?_
          refine QJ.step (YldS.yld (y_bin8 c9 low2 rfl rfl rfl)) rfl ?_
          refine QJ.step (YldS.yld (y_move rfl)) rfl ?_
          obtain ⟨t11, h12, hm⟩ := bindS hm
          refine QJ.cut 5 [(0, str s1), (1, .int .u8 (UInt8.toNat low2 : Int)), (13, .int .i64 (List.length s1 : Int)), (14, .int .i64 x7), (27, .bool t11)] ?_ ?_
          · rcases Bool.eq_false_or_eq_true (decide (c9 < low2)) with hb13 | hb13
            · obtain rfl := orT h12 hb13
              refine QJ.off rfl rfl (cB hb13) rfl rfl ?_
              refine QJ.off rfl rfl (cB hb13) rfl rfl ?_
              refine QJ.off rfl rfl (cB hb13) rfl rfl ?_
              refine QJ.off rfl rfl (cB hb13) rfl rfl ?_
              refine QJ.step (YldS.yld (y_pick_t (cB hb13) rfl)) rfl ?_
              exact QJ.cut_end ⟨rfl, rfl, rfl, rfl, rfl, trivial⟩
            · replace h12 := orF h12 hb13
              refine QJ.on rfl rfl (cB hb13) (YldS.yld (y_move rfl)) rfl ?_
              refine QJ.on rfl rfl (cB hb13) (YldS.yld (y_move rfl)) rfl ?_
              obtain ⟨c14, h15, h12⟩ := bindS h12
              refine QJ.on rfl rfl (cB hb13) (YldS.yld (y_idxStr Tryd.runUnderlying9 rfl rfl h15)) rfl ?_
              refine QJ.on rfl rfl (cB hb13) (YldS.yld (y_bin8 c14 (126 : UInt8) rfl rfl rfl)) rfl ?_
              refine QJ.step (YldS.yld (y_pick_f (cB hb13) rfl)) rfl ?_
              obtain rfl := Option.some.inj h12
              exact QJ.cut_end ⟨rfl, rfl, rfl, rfl, rfl, trivial⟩
          refine QJ.done ?_
          refine PJ.next ?_
          refine WJ.cond (t := t11) rfl (fun hb16 => ?_) (fun hb16 => ?_)
          · replace hm := ifT hm hb16
            refine WJ.seq ?_
            refine WJ.quiet ?_
            refine QJ.step (YldS.yld (y_assign rfl)) rfl ?_
            refine QJ.done ?_
            refine PJ.next ?_
            refine WJ.ret ?_
            refine PJ.block_ret (PJ.then_ret (PJ.then_ret (PJ.block_ret (PJ.then_ret ?_))))
            obtain rfl := Option.some.inj hm
            refine PJ.sel (L' := []) [] ⟨List.nodup_nil, rfl⟩ ?_
            exact PJ.retn (vs := [.bool false]) Tryd.results25 ⟨rfl, trivial⟩ ⟨rfl, rfl⟩
          · replace hm := ifF hm hb16
            refine WJ.skip ?_
            refine PJ.block_normal (PJ.next ?_)
            refine WJ.quiet ?_
            refine QJ.step (YldS.yld (y_bin rfl rfl rfl)) rfl ?_
            refine QJ.step (YldS.yld (y_move rfl)) rfl ?_
            refine QJ.done ?_
            exact PJ.round (w64 (x7 + 1)) [] hm ⟨rfl, rfl, rfl, rfl, trivial⟩ ⟨List.nodup_nil, rfl⟩
        · replace hm := ifF hm hb8
          refine WJ.exit ?_
          refine PJ.then_exit (PJ.then_exit (PJ.block_exit ?_))
          exact PJ.joined () [] hm trivial ⟨List.nodup_nil, rfl⟩
    · rintro _ hm
      subst hk6
      refine WJ.seq ?_
      refine WJ.quiet ?_
      refine QJ.step (YldS.yld (y_assign rfl)) rfl ?_
      refine QJ.done ?_
      refine PJ.next ?_
      refine WJ.ret ?_
      obtain rfl := Option.some.inj hm
      refine PJ.sel (L' := []) [] ⟨List.nodup_nil, rfl⟩ ?_
      exact PJ.retn (vs := [.bool true]) Tryd.results25 ⟨rfl, trivial⟩ ⟨rfl, rfl⟩

set_option maxRecDepth 100000 in
set_option maxHeartbeats 1000000 in
theorem ok_i_isLetter {N : Nat} {s1 : Str} {r : Bool} (hm : i_isLetter N s1 = some r) (w : World)  :
    Calls Tryd.prog 43 #[str s1] w (Ret (cx w) (.bool r)) := by
  unfold i_isLetter at hm
  refine Calls.enter [str s1] Tryd.func43 rfl Tryd.ntmps43 rfl ?_
  refine WJ.seq ?_
  refine WJ.quiet ?_
  refine QJ.step (YldS.yld (y_assign rfl)) rfl ?_
  refine QJ.done ?_
  refine PJ.next ?_
  refine WJ.seq ?_
  refine WJ.quiet ?_
  refine QJ.step (YldS.yld (y_move rfl)) rfl ?_
  refine QJ.step (YldS.yld (y_lenStr Tryd.runUnderlying9 rfl)) rfl ?_
  refine QJ.step (YldS.yld (y_bin rfl rfl rfl)) rfl ?_
  refine QJ.step (YldS.yld (y_move rfl)) rfl ?_
  obtain ⟨t2, h3, hm⟩ := bindS hm
  refine QJ.cut 3 [(9, .bool t2)] ?_ ?_
  · rcases Bool.eq_false_or_eq_true ((List.length s1 : Int) == 1) with hb4 | hb4
    · replace h3 := andT h3 hb4
      refine QJ.on rfl rfl (cB hb4) (YldS.yld (y_move rfl)) rfl ?_
      obtain ⟨r5, h6, h3⟩ := bindS h3
      refine QJ.on rfl rfl (cB hb4) (y_call Tryd.call25 rfl (RetG.quiet fun w hw => ok_i_isText h6 w )) rfl ?_
      refine QJ.step (YldS.yld (y_pick_t (cB hb4) rfl)) rfl ?_
      obtain rfl := Option.some.inj h3
      exact QJ.cut_end ⟨rfl, trivial⟩
    · obtain rfl := andF h3 hb4
      refine QJ.off rfl rfl (cB hb4) rfl rfl ?_
      refine QJ.off rfl rfl (cB hb4) rfl rfl ?_
      refine QJ.step (YldS.yld (y_pick_f (cB hb4) rfl)) rfl ?_
      exact QJ.cut_end ⟨rfl, trivial⟩
  refine QJ.step (YldS.yld (y_assign rfl)) rfl ?_
  refine QJ.done ?_
  refine PJ.next ?_
  refine WJ.ret ?_
  obtain rfl := Option.some.inj hm
  refine PJ.sel (L' := []) [] ⟨List.nodup_nil, rfl⟩ ?_
  exact PJ.retn (vs := [.bool t2]) Tryd.results43 ⟨rfl, trivial⟩ ⟨rfl, rfl⟩

set_option maxRecDepth 100000 in
set_option maxHeartbeats 1000000 in
theorem ok_i_ValidKeys {N : Nat} {keys1 : List Key} {accents4 : List Accent} {r : Bool} (hm : i_ValidKeys N keys1 accents4 = some r) (w : World) (v2 : Value) (hr3 : RdS w (cx w).Fz v2 fKey.rp keys1) (v5 : Value) (hr6 : RdS w (cx w).Fz v5 fAccent.rp accents4) :
    Calls Tryd.prog 21 #[v2, v5] w (Ret (cx w) (.bool r)) := by
  unfold i_ValidKeys at hm
  refine Calls.enter [v2, v5] Tryd.func21 rfl Tryd.ntmps21 rfl ?_
  refine WJ.seq ?_
  refine WJ.quiet ?_
  refine QJ.step (YldS.yld (y_assign rfl)) rfl ?_
  refine QJ.done ?_
  refine PJ.next ?_
  refine WJ.seq ?_
  refine WJ.seq ?_
  refine WJ.quiet ?_
  refine QJ.step (YldS.yld (y_move rfl)) rfl ?_
  refine QJ.step (YldS.yld (y_lenS Tryd.runUnderlying24 hr3 rfl)) rfl ?_
  refine QJ.step (YldS.yld (y_bin rfl rfl rfl)) rfl ?_
  refine QJ.step (YldS.yld (y_move rfl)) rfl ?_
  obtain ⟨t7, h8, hm⟩ := bindS hm
  refine QJ.cut 4 [(0, v2), (1, v5), (22, .bool t7)] ?_ ?_
  · rcases Bool.eq_false_or_eq_true (decide ((List.length keys1 : Int) > 40)) with hb9 | hb9
    · obtain rfl := orT h8 hb9
      refine QJ.off rfl rfl (cB hb9) rfl rfl ?_
      refine QJ.off rfl rfl (cB hb9) rfl rfl ?_
      refine QJ.off rfl rfl (cB hb9) rfl rfl ?_
      refine QJ.step (YldS.yld (y_pick_t (cB hb9) rfl)) rfl ?_
      exact QJ.cut_end ⟨rfl, rfl, rfl, trivial⟩
    · replace h8 := orF h8 hb9
      refine QJ.on rfl rfl (cB hb9) (YldS.yld (y_move rfl)) rfl ?_
      refine QJ.on rfl rfl (cB hb9) (YldS.yld (y_lenS Tryd.runUnderlying25 hr6 rfl)) rfl ?_
      refine QJ.on rfl rfl (cB hb9) (YldS.yld (y_bin rfl rfl rfl)) rfl ?_
      refine QJ.step (YldS.yld (y_pick_f (cB hb9) rfl)) rfl ?_
      obtain rfl := Option.some.inj h8
      exact QJ.cut_end ⟨rfl, rfl, rfl, trivial⟩
  refine QJ.done ?_
  refine PJ.next ?_
  refine WJ.cond (t := t7) rfl (fun hb10 => ?_) (fun hb10 => ?_)
  · replace hm := ifT hm hb10
    refine WJ.seq ?_
    refine WJ.quiet ?_
    refine QJ.step (YldS.yld (y_assign rfl)) rfl ?_
    refine QJ.done ?_
    refine PJ.next ?_
    refine WJ.ret ?_
    refine PJ.then_ret ?_
    obtain rfl := Option.some.inj hm
    refine PJ.sel (L' := []) [] ⟨List.nodup_nil, rfl⟩ ?_
    exact PJ.retn (vs := [.bool false]) Tryd.results21 ⟨rfl, trivial⟩ ⟨rfl, rfl⟩
  · replace hm := ifF hm hb10
    refine WJ.skip ?_
    refine PJ.next ?_
    refine WJ.seq ?_
    refine WJ.reg ?_
    refine SJ.makeMap rfl fun g11 => ?_
    refine SJ.q (YldS.yld (y_assign rfl)) rfl ?_
    refine SJ.nil ?_
    refine PJ.next ?_
    refine WJ.seq ?_
    refine WJ.reg ?_
    refine SJ.makeMap rfl fun g12 => ?_
    refine SJ.q (YldS.yld (y_assign rfl)) rfl ?_
    refine SJ.nil ?_
    refine PJ.next ?_
    obtain ⟨kj15, hk16, hm⟩ := withK_open hm
    refine WJ.join (X := (List (Str × Bool)) × (List (Str × Bool))) (fun (x : (List (Str × Bool)) × (List (Str × Bool))) => kj15 x.1 x.2 = some r) (fun (x : (List (Str × Bool)) × (List (Str × Bool))) => [(1, v5), (5, .map (some g11)), (6, .map (some g12))]) (fun (x : (List (Str × Bool)) × (List (Str × Bool))) => [mp g12 x.1, mp g11 x.2]) ?_ ?_
    · clear hk16
      refine WJ.seq ?_
      refine WJ.quiet ?_
      refine QJ.step (YldS.yld (y_move rfl)) rfl ?_
      refine QJ.step (YldS.yld (y_lenS Tryd.runUnderlying24 hr3 rfl)) rfl ?_
      refine QJ.step (YldS.yld (y_move rfl)) rfl ?_
      refine QJ.done ?_
      refine PJ.next ?_
      refine WJ.block ?_
      refine WJ.sel (L' := (fun (x : (List (Str × Bool)) × (List (Str × Bool)) × Int) => [mp g12 x.1, mp g11 x.2.1]) ([], [], 0)) [0, 1] ⟨by decide, rfl⟩ ?_
      refine WJ.sub (m' := (fun (x : (List (Str × Bool)) × (List (Str × Bool)) × Int) => [(1, v5), (5, .map (some g11)), (6, .map (some g12)), (25, v2), (26, .int .i64 (List.length keys1 : Int)), (27, .int .i64 x.2.2)]) ([], [], 0)) ⟨rfl, rfl, rfl, rfl, rfl, rfl, trivial⟩ ?_
      refine WJ.loop (X := (List (Str × Bool)) × (List (Str × Bool)) × Int) (fun N (x : (List (Str × Bool)) × (List (Str × Bool)) × Int) => i_ValidKeys_l1 kj15 keys1 N x.1 x.2.1 x.2.2 = some r) (fun (x : (List (Str × Bool)) × (List (Str × Bool)) × Int) => [(1, v5), (5, .map (some g11)), (6, .map (some g12)), (25, v2), (26, .int .i64 (List.length keys1 : Int)), (27, .int .i64 x.2.2)]) (fun (x : (List (Str × Bool)) × (List (Str × Bool)) × Int) => [mp g12 x.1, mp g11 x.2.1]) ?_ N ([], [], 0) hm
      · rintro N ⟨mp17, mp18, x19⟩ hI
        have hm := hI; clear hI
        cases N with
        | zero => cases hm
        | succ N =>
        unfold i_ValidKeys_l1 at hm
        refine WJ.seq ?_
        refine WJ.quiet ?_
        refine QJ.step (YldS.yld (y_bin rfl rfl rfl)) rfl ?_
        refine QJ.done ?_
        refine PJ.next ?_
        refine WJ.seq ?_
        refine WJ.cond (t := decide (x19 < (List.length keys1 : Int))) rfl (fun hb20 => ?_) (fun hb20 => ?_)
        · replace hm := ifT hm hb20
          refine WJ.skip ?_
          refine PJ.next ?_
          obtain ⟨kj23, hk24, hm⟩ := withK_open hm
          refine WJ.join (X := (List (Str × Bool)) × (List (Str × Bool))) (fun (x : (List (Str × Bool)) × (List (Str × Bool))) => kj23 x.1 x.2 = some r) (fun (x : (List (Str × Bool)) × (List (Str × Bool))) => [(1, v5), (5, .map (some g11)), (6, .map (some g12)), (25, v2), (26, .int .i64 (List.length keys1 : Int)), (27, .int .i64 x19)]) (fun (x : (List (Str × Bool)) × (List (Str × Bool))) => [mp g12 x.1, mp g11 x.2]) ?_ ?_
          · clear hk24
            refine WJ.block ?_
            refine WJ.seq ?_
            refine WJ.reg ?_
            obtain ⟨e25, h26, hm⟩ := bindS hm
            obtain ⟨ad27, _, rfl, ha28, hy29⟩ := hr3.elem h26
            refine SJ.q (YldS.yld (hy29 Tryd.runUnderlying24 Tryd.sizeOf54 rfl rfl)) rfl ?_
            refine SJ.q (YldS.yld (y_loadN Tryd.isAgg54 Tryd.sizeOf54 rfl ha28 St.frozenC rfl)) rfl ?_
            refine SJ.alloc (cs := [str [], str [], .bool false]) Tryd.zeroValue54 rfl rfl fun g30 => ?_
            refine SJ.storeL (k := 0) (off := 0) (us := [str e25.low, str e25.high, .bool e25.dead]) rfl rfl rfl rfl Tryd.sizeOf54 rfl rfl ?_
            refine SJ.nil ?_
            refine PJ.next ?_
            refine WJ.seq ?_
            refine WJ.reg ?_
            refine SJ.q (YldS.yld (y_fldB (o := 0) fld54_0 rfl)) rfl ?_
            refine SJ.q (YldS.yld (y_loadB (k := 0) (off := 0) (v := str e25.low) rfl Tryd.isAgg9 rfl rfl)) rfl ?_
            refine SJ.q (YldS.yld (y_fldB (o := 0) fld54_1 rfl)) rfl ?_
            refine SJ.q (YldS.yld (y_loadB (k := 0) (off := 1) (v := str e25.high) rfl Tryd.isAgg9 rfl rfl)) rfl ?_
            refine SJ.buildSlice (R := fStr) (os := [.tmp 32, .tmp 34]) [e25.low, e25.high] Tryd.runUnderlying69 Tryd.sizeOf9 Tryd.zeroValue9 rfl rfl rfl rfl rfl rfl fun v31 => ?_
            refine SJ.q (YldS.yld (y_lenRow (k := 0) rfl Tryd.runUnderlying69 rfl)) rfl ?_
            refine SJ.q (YldS.yld (y_move rfl)) rfl ?_
            refine SJ.nil ?_
            refine PJ.next ?_
            refine WJ.block ?_
            refine WJ.sel (L' := (fun (x : (List (Str × Bool)) × (List (Str × Bool)) × Int) => [row v31 9 fStr [e25.low, e25.high], box g30 54 [str e25.low, str e25.high, .bool e25.dead], mp g12 x.1, mp g11 x.2.1]) (mp17, mp18, 0)) [0, 1, 2, 3] ⟨by decide, rfl⟩ ?_
            refine WJ.sub (m' := (fun (x : (List (Str × Bool)) × (List (Str × Bool)) × Int) => [(1, v5), (5, .map (some g11)), (6, .map (some g12)), (8, pt g30 0), (25, v2), (26, .int .i64 (List.length keys1 : Int)), (27, .int .i64 x19), (35, v31), (36, .int .i64 (List.length [e25.low, e25.high] : Int)), (37, .int .i64 x.2.2)]) (mp17, mp18, 0)) ⟨rfl, rfl, rfl, rfl, rfl, rfl, rfl, rfl, rfl, rfl, trivial⟩ ?_
            refine WJ.loop (X := (List (Str × Bool)) × (List (Str × Bool)) × Int) (fun N (x : (List (Str × Bool)) × (List (Str × Bool)) × Int) => i_ValidKeys_l2 kj23 e25 N x.1 x.2.1 x.2.2 = some r) (fun (x : (List (Str × Bool)) × (List (Str × Bool)) × Int) => [(1, v5), (5, .map (some g11)), (6, .map (some g12)), (8, pt g30 0), (25, v2), (26, .int .i64 (List.length keys1 : Int)), (27, .int .i64 x19), (35, v31), (36, .int .i64 (List.length [e25.low, e25.high] : Int)), (37, .int .i64 x.2.2)]) (fun (x : (List (Str × Bool)) × (List (Str × Bool)) × Int) => [row v31 9 fStr [e25.low, e25.high], box g30 54 [str e25.low, str e25.high, .bool e25.dead], mp g12 x.1, mp g11 x.2.1]) ?_ N (mp17, mp18, 0) hm
            · rintro N ⟨mp32, mp33, x34⟩ hI
              have hm := hI; clear hI
              cases N with
              | zero => cases hm
              | succ N =>
              unfold i_ValidKeys_l2 at hm
              refine WJ.seq ?_
              refine WJ.quiet ?_
              refine QJ.step (YldS.yld (y_bin rfl rfl rfl)) rfl ?_
              refine QJ.done ?_
              refine PJ.next ?_
              refine WJ.seq ?_
              refine WJ.cond (t := decide (x34 < (List.length [e25.low, e25.high] : Int))) rfl (fun hb35 => ?_) (fun hb35 => ?_)
              · replace hm := ifT hm hb35
                refine WJ.skip ?_
                refine PJ.next ?_
                refine WJ.seq ?_
                refine WJ.block ?_
                refine WJ.seq ?_
                refine WJ.quiet ?_
                obtain ⟨e36, h37, hm⟩ := bindS hm
                refine QJ.step (YldS.yld (y_ixRow (k := 0) (R := fStr) rfl Tryd.runUnderlying69 Tryd.sizeOf9 rfl rfl h37)) rfl ?_
                refine QJ.step (YldS.yld (y_loadR (k := 0) (i := (Int.toNat x34)) (off := 0) (u := str e36) rfl Tryd.isAgg9 rfl (idx_get h37) rfl)) rfl ?_
                refine QJ.step (YldS.yld (y_assign rfl)) rfl ?_
                refine QJ.done ?_
                refine PJ.next ?_
                refine WJ.seq ?_
                refine WJ.seq ?_
                refine WJ.quiet ?_
                refine QJ.step (YldS.yld (y_move rfl)) rfl ?_
                obtain ⟨r38, h39, hm⟩ := bindS hm
                refine QJ.step (y_call Tryd.call43 rfl (RetG.quiet fun w hw => ok_i_isLetter h39 w )) rfl ?_
                refine QJ.step (YldS.yld (y_not rfl)) rfl ?_
                refine QJ.step (YldS.yld (y_move rfl)) rfl ?_
                obtain ⟨t40, h41, hm⟩ := bindS hm
                refine QJ.cut 4 [(1, v5), (5, .map (some g11)), (6, .map (some g12)), (8, pt g30 0), (10, str e36), (25, v2), (26, .int .i64 (List.length keys1 : Int)), (27, .int .i64 x19), (35, v31), (36, .int .i64 (List.length [e25.low, e25.high] : Int)), (37, .int .i64 x34), (48, .bool t40)] ?_ ?_
                · rcases Bool.eq_false_or_eq_true (!r38) with hb42 | hb42
                  · obtain rfl := orT h41 hb42
                    refine QJ.off rfl rfl (cB hb42) rfl rfl ?_
                    refine QJ.off rfl rfl (cB hb42) rfl rfl ?_
                    refine QJ.off rfl rfl (cB hb42) rfl rfl ?_
                    refine QJ.step (YldS.yld (y_pick_t (cB hb42) rfl)) rfl ?_
                    exact QJ.cut_end ⟨rfl, rfl, rfl, rfl, rfl, rfl, rfl, rfl, rfl, rfl, rfl, rfl, trivial⟩
                  · replace h41 := orF h41 hb42
                    refine QJ.on rfl rfl (cB hb42) (YldS.yld (y_move rfl)) rfl ?_
                    refine QJ.on rfl rfl (cB hb42) (YldS.yld (y_move rfl)) rfl ?_
                    refine QJ.on rfl rfl (cB hb42) (YldS.yld (y_lookupSB (k := 3) rfl Tryd.underlying68 Tryd.underlying9 Tryd.zeroValue4 rfl rfl)) rfl ?_
                    refine QJ.step (YldS.yld (y_pick_f (cB hb42) rfl)) rfl ?_
                    obtain rfl := Option.some.inj h41
                    exact QJ.cut_end ⟨rfl, rfl, rfl, rfl, rfl, rfl, rfl, rfl, rfl, rfl, rfl, rfl, trivial⟩
                refine QJ.done ?_
                refine PJ.next ?_
                refine WJ.cond (t := t40) rfl (fun hb43 => ?_) (fun hb43 => ?_)
                · replace hm := ifT hm hb43
                  refine WJ.seq ?_
                  refine WJ.quiet ?_
                  refine QJ.step (YldS.yld (y_assign rfl)) rfl ?_
                  refine QJ.done ?_
                  refine PJ.next ?_
                  refine WJ.ret ?_
                  refine PJ.then_ret (PJ.block_ret (PJ.then_ret (PJ.then_ret (PJ.block_ret (PJ.block_ret (PJ.then_ret (PJ.then_ret (PJ.block_ret (PJ.then_ret ?_)))))))))
                  obtain rfl := Option.some.inj hm
                  refine PJ.sel (L' := []) [] ⟨List.nodup_nil, rfl⟩ ?_
                  exact PJ.retn (vs := [.bool false]) Tryd.results21 ⟨rfl, trivial⟩ ⟨rfl, rfl⟩
                · replace hm := ifF hm hb43
                  refine WJ.skip ?_
                  refine PJ.next ?_
                  refine WJ.seq ?_
                  refine WJ.reg ?_
                  refine SJ.q (YldS.yld (y_move rfl)) rfl ?_
                  refine SJ.q (YldS.yld (y_move rfl)) rfl ?_
                  refine SJ.mapUpdateSB (k := 3) Tryd.underlying68 Tryd.underlying9 rfl rfl rfl rfl ?_
                  refine SJ.nil ?_
                  refine PJ.next ?_
                  refine WJ.reg ?_
                  refine SJ.q (YldS.yld (y_move rfl)) rfl ?_
                  refine SJ.q (YldS.yld (y_move rfl)) rfl ?_
                  refine SJ.q (YldS.yld (y_fldB (o := 0) fld54_2 rfl)) rfl ?_
                  refine SJ.q (YldS.yld (y_loadB (k := 1) (off := 2) (v := .bool e25.dead) rfl Tryd.isAgg4 rfl rfl)) rfl ?_
                  refine SJ.mapUpdateSB (k := 2) Tryd.underlying68 Tryd.underlying9 rfl rfl rfl rfl ?_
                  refine SJ.nil ?_
                  refine PJ.block_normal (PJ.next ?_)
                  refine WJ.quiet ?_
                  refine QJ.step (YldS.yld (y_bin rfl rfl rfl)) rfl ?_
                  refine QJ.step (YldS.yld (y_move rfl)) rfl ?_
                  refine QJ.done ?_
                  exact PJ.round (mset mp32 e36 e25.dead, mset mp33 e36 true, w64 (x34 + 1)) [0, 1, 2, 3] hm ⟨rfl, rfl, rfl, rfl, rfl, rfl, rfl, rfl, rfl, rfl, trivial⟩ ⟨by decide, rfl⟩
              · replace hm := ifF hm hb35
                refine WJ.exit ?_
                refine PJ.then_exit (PJ.then_exit (PJ.block_exit (PJ.block_normal ?_)))
                exact PJ.joined (mp32, mp33) [2, 3] hm ⟨rfl, rfl, rfl, rfl, rfl, rfl, trivial⟩ ⟨by decide, rfl⟩
          · rintro ⟨mp21, mp22⟩ hm
            subst hk24
            refine WJ.quiet ?_
            refine QJ.step (YldS.yld (y_bin rfl rfl rfl)) rfl ?_
            refine QJ.step (YldS.yld (y_move rfl)) rfl ?_
            refine QJ.done ?_
            exact PJ.round (mp21, mp22, w64 (x19 + 1)) [0, 1] hm ⟨rfl, rfl, rfl, rfl, rfl, rfl, trivial⟩ ⟨by decide, rfl⟩
        · replace hm := ifF hm hb20
          refine WJ.exit ?_
          refine PJ.then_exit (PJ.then_exit (PJ.block_exit ?_))
          exact PJ.joined (mp17, mp18) [0, 1] hm ⟨rfl, rfl, rfl, trivial⟩ ⟨by decide, rfl⟩
    · rintro ⟨mp13, mp14⟩ hm
      subst hk16
      refine WJ.seq ?_
      refine WJ.reg ?_
      refine SJ.makeMap rfl fun g44 => ?_
      refine SJ.q (YldS.yld (y_assign rfl)) rfl ?_
      refine SJ.nil ?_
      refine PJ.next ?_
      refine WJ.seq ?_
      refine WJ.reg ?_
      refine SJ.makeMap rfl fun g45 => ?_
      refine SJ.q (YldS.yld (y_assign rfl)) rfl ?_
      refine SJ.nil ?_
      refine PJ.next ?_
      obtain ⟨kj46, hk47, hm⟩ := withK_open hm
      refine WJ.join (X := Unit) (fun (_ : Unit) => kj46  = some r) (fun (_ : Unit) => []) (fun (_ : Unit) => []) ?_ ?_
      · clear hk47
        refine WJ.seq ?_
        refine WJ.quiet ?_
        refine QJ.step (YldS.yld (y_move rfl)) rfl ?_
        refine QJ.step (YldS.yld (y_lenS Tryd.runUnderlying25 hr6 rfl)) rfl ?_
        refine QJ.step (YldS.yld (y_move rfl)) rfl ?_
        refine QJ.done ?_
        refine PJ.next ?_
        refine WJ.block ?_
        refine WJ.sel (L' := (fun (x : (List (Str × Bool)) × (List (Str × Bool)) × Int) => [mp g45 x.1, mp g44 x.2.1, mp g12 mp13, mp g11 mp14]) ([], [], 0)) [0, 1, 2, 3] ⟨by decide, rfl⟩ ?_
        refine WJ.sub (m' := (fun (x : (List (Str × Bool)) × (List (Str × Bool)) × Int) => [(5, .map (some g11)), (6, .map (some g12)), (11, .map (some g44)), (12, .map (some g45)), (59, v5), (60, .int .i64 (List.length accents4 : Int)), (61, .int .i64 x.2.2)]) ([], [], 0)) ⟨rfl, rfl, rfl, rfl, rfl, rfl, rfl, trivial⟩ ?_
        refine WJ.loop (X := (List (Str × Bool)) × (List (Str × Bool)) × Int) (fun N (x : (List (Str × Bool)) × (List (Str × Bool)) × Int) => i_ValidKeys_l3 kj46 accents4 mp13 mp14 N x.1 x.2.1 x.2.2 = some r) (fun (x : (List (Str × Bool)) × (List (Str × Bool)) × Int) => [(5, .map (some g11)), (6, .map (some g12)), (11, .map (some g44)), (12, .map (some g45)), (59, v5), (60, .int .i64 (List.length accents4 : Int)), (61, .int .i64 x.2.2)]) (fun (x : (List (Str × Bool)) × (List (Str × Bool)) × Int) => [mp g45 x.1, mp g44 x.2.1, mp g12 mp13, mp g11 mp14]) ?_ N ([], [], 0) hm
        · rintro N ⟨mp48, mp49, x50⟩ hI
          have hm := hI; clear hI
          cases N with
          | zero => cases hm
          | succ N =>
          unfold i_ValidKeys_l3 at hm
          refine WJ.seq ?_
          refine WJ.quiet ?_
          refine QJ.step (YldS.yld (y_bin rfl rfl rfl)) rfl ?_
          refine QJ.done ?_
          refine PJ.next ?_
          refine WJ.seq ?_
          refine WJ.cond (t := decide (x50 < (List.length accents4 : Int))) rfl (fun hb51 => ?_) (fun hb51 => ?_)
          · replace hm := ifT hm hb51
            refine WJ.skip ?_
            refine PJ.next ?_
            refine WJ.seq ?_
            refine WJ.block ?_
            refine WJ.seq ?_
            refine WJ.reg ?_
            obtain ⟨e52, h53, hm⟩ := bindS hm
            obtain ⟨ad54, _, rfl, ha55, hy56⟩ := hr6.elem h53
            refine SJ.q (YldS.yld (hy56 Tryd.runUnderlying25 Tryd.sizeOf56 rfl rfl)) rfl ?_
            refine SJ.q (YldS.yld (y_loadN Tryd.isAgg56 Tryd.sizeOf56 rfl ha55 St.frozenC rfl)) rfl ?_
            refine SJ.alloc (cs := [str [], str [], str []]) Tryd.zeroValue56 rfl rfl fun g57 => ?_
            refine SJ.storeL (k := 0) (off := 0) (us := [str e52.mark, str e52.letter, str e52.made]) rfl rfl rfl rfl Tryd.sizeOf56 rfl rfl ?_
            refine SJ.nil ?_
            refine PJ.next ?_
            refine WJ.seq ?_
            refine WJ.seq ?_
            refine WJ.quiet ?_
            refine QJ.step (YldS.yld (y_move rfl)) rfl ?_
            refine QJ.step (YldS.yld (y_fldB (o := 0) fld56_0 rfl)) rfl ?_
            refine QJ.step (YldS.yld (y_loadB (k := 0) (off := 0) (v := str e52.mark) rfl Tryd.isAgg9 rfl rfl)) rfl ?_
            refine QJ.step (YldS.yld (y_lookupSB (k := 4) rfl Tryd.underlying68 Tryd.underlying9 Tryd.zeroValue4 rfl rfl)) rfl ?_
            refine QJ.step (YldS.yld (y_not rfl)) rfl ?_
            refine QJ.step (YldS.yld (y_move rfl)) rfl ?_
            obtain ⟨t58, h59, hm⟩ := bindS hm
            refine QJ.cut 6 [(5, .map (some g11)), (6, .map (some g12)), (11, .map (some g44)), (12, .map (some g45)), (14, pt g57 0), (59, v5), (60, .int .i64 (List.length accents4 : Int)), (61, .int .i64 x50), (76, .bool t58)] ?_ ?_
            · rcases Bool.eq_false_or_eq_true (!(mget mp14 e52.mark)) with hb60 | hb60
              · obtain rfl := orT h59 hb60
                refine QJ.off rfl rfl (cB hb60) rfl rfl ?_
                refine QJ.off rfl rfl (cB hb60) rfl rfl ?_
                refine QJ.off rfl rfl (cB hb60) rfl rfl ?_
                refine QJ.off rfl rfl (cB hb60) rfl rfl ?_
                refine QJ.off rfl rfl (cB hb60) rfl rfl ?_
                refine QJ.step (YldS.yld (y_pick_t (cB hb60) rfl)) rfl ?_
                exact QJ.cut_end ⟨rfl, rfl, rfl, rfl, rfl, rfl, rfl, rfl, rfl, trivial⟩
              · replace h59 := orF h59 hb60
                refine QJ.on rfl rfl (cB hb60) (YldS.yld (y_move rfl)) rfl ?_
                refine QJ.on rfl rfl (cB hb60) (YldS.yld (y_fldB (o := 0) fld56_0 rfl)) rfl ?_
                refine QJ.on rfl rfl (cB hb60) (YldS.yld (y_loadB (k := 0) (off := 0) (v := str e52.mark) rfl Tryd.isAgg9 rfl rfl)) rfl ?_
                refine QJ.on rfl rfl (cB hb60) (YldS.yld (y_lookupSB (k := 3) rfl Tryd.underlying68 Tryd.underlying9 Tryd.zeroValue4 rfl rfl)) rfl ?_
                refine QJ.on rfl rfl (cB hb60) (YldS.yld (y_not rfl)) rfl ?_
                refine QJ.step (YldS.yld (y_pick_f (cB hb60) rfl)) rfl ?_
                obtain rfl := Option.some.inj h59
                exact QJ.cut_end ⟨rfl, rfl, rfl, rfl, rfl, rfl, rfl, rfl, rfl, trivial⟩
            refine QJ.step (YldS.yld (y_move rfl)) rfl ?_
            obtain ⟨t61, h62, hm⟩ := bindS hm
            refine QJ.cut 6 [(5, .map (some g11)), (6, .map (some g12)), (11, .map (some g44)), (12, .map (some g45)), (14, pt g57 0), (59, v5), (60, .int .i64 (List.length accents4 : Int)), (61, .int .i64 x50), (83, .bool t61)] ?_ ?_
            · rcases Bool.eq_false_or_eq_true t58 with hb63 | hb63
              · obtain rfl := orT h62 hb63
                refine QJ.off rfl rfl (cB hb63) rfl rfl ?_
                refine QJ.off rfl rfl (cB hb63) rfl rfl ?_
                refine QJ.off rfl rfl (cB hb63) rfl rfl ?_
                refine QJ.off rfl rfl (cB hb63) rfl rfl ?_
                refine QJ.off rfl rfl (cB hb63) rfl rfl ?_
                refine QJ.step (YldS.yld (y_pick_t (cB hb63) rfl)) rfl ?_
                exact QJ.cut_end ⟨rfl, rfl, rfl, rfl, rfl, rfl, rfl, rfl, rfl, trivial⟩
              · replace h62 := orF h62 hb63
                refine QJ.on rfl rfl (cB hb63) (YldS.yld (y_move rfl)) rfl ?_
                refine QJ.on rfl rfl (cB hb63) (YldS.yld (y_fldB (o := 0) fld56_1 rfl)) rfl ?_
                refine QJ.on rfl rfl (cB hb63) (YldS.yld (y_loadB (k := 0) (off := 1) (v := str e52.letter) rfl Tryd.isAgg9 rfl rfl)) rfl ?_
                refine QJ.on rfl rfl (cB hb63) (YldS.yld (y_lookupSB (k := 4) rfl Tryd.underlying68 Tryd.underlying9 Tryd.zeroValue4 rfl rfl)) rfl ?_
                refine QJ.on rfl rfl (cB hb63) (YldS.yld (y_not rfl)) rfl ?_
                refine QJ.step (YldS.yld (y_pick_f (cB hb63) rfl)) rfl ?_
                obtain rfl := Option.some.inj h62
                exact QJ.cut_end ⟨rfl, rfl, rfl, rfl, rfl, rfl, rfl, rfl, rfl, trivial⟩
            refine QJ.step (YldS.yld (y_move rfl)) rfl ?_
            obtain ⟨t64, h65, hm⟩ := bindS hm
            refine QJ.cut 5 [(5, .map (some g11)), (6, .map (some g12)), (11, .map (some g44)), (12, .map (some g45)), (14, pt g57 0), (59, v5), (60, .int .i64 (List.length accents4 : Int)), (61, .int .i64 x50), (89, .bool t64)] ?_ ?_
            · rcases Bool.eq_false_or_eq_true t61 with hb66 | hb66
              · obtain rfl := orT h65 hb66
                refine QJ.off rfl rfl (cB hb66) rfl rfl ?_
                refine QJ.off rfl rfl (cB hb66) rfl rfl ?_
                refine QJ.off rfl rfl (cB hb66) rfl rfl ?_
                refine QJ.off rfl rfl (cB hb66) rfl rfl ?_
                refine QJ.step (YldS.yld (y_pick_t (cB hb66) rfl)) rfl ?_
                exact QJ.cut_end ⟨rfl, rfl, rfl, rfl, rfl, rfl, rfl, rfl, rfl, trivial⟩
              · replace h65 := orF h65 hb66
                refine QJ.on rfl rfl (cB hb66) (YldS.yld (y_move rfl)) rfl ?_
                refine QJ.on rfl rfl (cB hb66) (YldS.yld (y_fldB (o := 0) fld56_1 rfl)) rfl ?_
                refine QJ.on rfl rfl (cB hb66) (YldS.yld (y_loadB (k := 0) (off := 1) (v := str e52.letter) rfl Tryd.isAgg9 rfl rfl)) rfl ?_
                refine QJ.on rfl rfl (cB hb66) (YldS.yld (y_lookupSB (k := 3) rfl Tryd.underlying68 Tryd.underlying9 Tryd.zeroValue4 rfl rfl)) rfl ?_
                refine QJ.step (YldS.yld (y_pick_f (cB hb66) rfl)) rfl ?_
                obtain rfl := Option.some.inj h65
                exact QJ.cut_end ⟨rfl, rfl, rfl, rfl, rfl, rfl, rfl, rfl, rfl, trivial⟩
            refine QJ.done ?_
            refine PJ.next ?_
            refine WJ.cond (t := t64) rfl (fun hb67 => ?_) (fun hb67 => ?_)
            · replace hm := ifT hm hb67
              refine WJ.seq ?_
              refine WJ.quiet ?_
              refine QJ.step (YldS.yld (y_assign rfl)) rfl ?_
              refine QJ.done ?_
              refine PJ.next ?_
              refine WJ.ret ?_
              refine PJ.then_ret (PJ.block_ret (PJ.then_ret (PJ.then_ret (PJ.block_ret (PJ.then_ret ?_)))))
              obtain rfl := Option.some.inj hm
              refine PJ.sel (L' := []) [] ⟨List.nodup_nil, rfl⟩ ?_
              exact PJ.retn (vs := [.bool false]) Tryd.results21 ⟨rfl, trivial⟩ ⟨rfl, rfl⟩
            · replace hm := ifF hm hb67
              refine WJ.skip ?_
              refine PJ.next ?_
              refine WJ.seq ?_
              refine WJ.seq ?_
              refine WJ.quiet ?_
              refine QJ.step (YldS.yld (y_fldB (o := 0) fld56_2 rfl)) rfl ?_
              refine QJ.step (YldS.yld (y_loadB (k := 0) (off := 2) (v := str e52.made) rfl Tryd.isAgg9 rfl rfl)) rfl ?_
              obtain ⟨r68, h69, hm⟩ := bindS hm
              refine QJ.step (y_call Tryd.call43 rfl (RetG.quiet fun w hw => ok_i_isLetter h69 w )) rfl ?_
              refine QJ.step (YldS.yld (y_not rfl)) rfl ?_
              refine QJ.step (YldS.yld (y_move rfl)) rfl ?_
              obtain ⟨t70, h71, hm⟩ := bindS hm
              refine QJ.cut 5 [(5, .map (some g11)), (6, .map (some g12)), (11, .map (some g44)), (12, .map (some g45)), (14, pt g57 0), (59, v5), (60, .int .i64 (List.length accents4 : Int)), (61, .int .i64 x50), (99, .bool t70)] ?_ ?_
              · rcases Bool.eq_false_or_eq_true (!r68) with hb72 | hb72
                · obtain rfl := orT h71 hb72
                  refine QJ.off rfl rfl (cB hb72) rfl rfl ?_
                  refine QJ.off rfl rfl (cB hb72) rfl rfl ?_
                  refine QJ.off rfl rfl (cB hb72) rfl rfl ?_
                  refine QJ.off rfl rfl (cB hb72) rfl rfl ?_
                  refine QJ.step (YldS.yld (y_pick_t (cB hb72) rfl)) rfl ?_
                  exact QJ.cut_end ⟨rfl, rfl, rfl, rfl, rfl, rfl, rfl, rfl, rfl, trivial⟩
                · replace h71 := orF h71 hb72
                  refine QJ.on rfl rfl (cB hb72) (YldS.yld (y_move rfl)) rfl ?_
                  refine QJ.on rfl rfl (cB hb72) (YldS.yld (y_fldB (o := 0) fld56_2 rfl)) rfl ?_
                  refine QJ.on rfl rfl (cB hb72) (YldS.yld (y_loadB (k := 0) (off := 2) (v := str e52.made) rfl Tryd.isAgg9 rfl rfl)) rfl ?_
                  refine QJ.on rfl rfl (cB hb72) (YldS.yld (y_lookupSB (k := 4) rfl Tryd.underlying68 Tryd.underlying9 Tryd.zeroValue4 rfl rfl)) rfl ?_
                  refine QJ.step (YldS.yld (y_pick_f (cB hb72) rfl)) rfl ?_
                  obtain rfl := Option.some.inj h71
                  exact QJ.cut_end ⟨rfl, rfl, rfl, rfl, rfl, rfl, rfl, rfl, rfl, trivial⟩
              refine QJ.step (YldS.yld (y_move rfl)) rfl ?_
              obtain ⟨t73, h74, hm⟩ := bindS hm
              refine QJ.cut 5 [(5, .map (some g11)), (6, .map (some g12)), (11, .map (some g44)), (12, .map (some g45)), (14, pt g57 0), (59, v5), (60, .int .i64 (List.length accents4 : Int)), (61, .int .i64 x50), (105, .bool t73)] ?_ ?_
              · rcases Bool.eq_false_or_eq_true t70 with hb75 | hb75
                · obtain rfl := orT h74 hb75
                  refine QJ.off rfl rfl (cB hb75) rfl rfl ?_
                  refine QJ.off rfl rfl (cB hb75) rfl rfl ?_
                  refine QJ.off rfl rfl (cB hb75) rfl rfl ?_
                  refine QJ.off rfl rfl (cB hb75) rfl rfl ?_
                  refine QJ.step (YldS.yld (y_pick_t (cB hb75) rfl)) rfl ?_
                  exact QJ.cut_end ⟨rfl, rfl, rfl, rfl, rfl, rfl, rfl, rfl, rfl, trivial⟩
                · replace h74 := orF h74 hb75
                  refine QJ.on rfl rfl (cB hb75) (YldS.yld (y_move rfl)) rfl ?_
                  refine QJ.on rfl rfl (cB hb75) (YldS.yld (y_fldB (o := 0) fld56_2 rfl)) rfl ?_
                  refine QJ.on rfl rfl (cB hb75) (YldS.yld (y_loadB (k := 0) (off := 2) (v := str e52.made) rfl Tryd.isAgg9 rfl rfl)) rfl ?_
                  refine QJ.on rfl rfl (cB hb75) (YldS.yld (y_lookupSB (k := 2) rfl Tryd.underlying68 Tryd.underlying9 Tryd.zeroValue4 rfl rfl)) rfl ?_
                  refine QJ.step (YldS.yld (y_pick_f (cB hb75) rfl)) rfl ?_
                  obtain rfl := Option.some.inj h74
                  exact QJ.cut_end ⟨rfl, rfl, rfl, rfl, rfl, rfl, rfl, rfl, rfl, trivial⟩
              refine QJ.step (YldS.yld (y_move rfl)) rfl ?_
              obtain ⟨t76, h77, hm⟩ := bindS hm
              refine QJ.cut 8 [(5, .map (some g11)), (6, .map (some g12)), (11, .map (some g44)), (12, .map (some g45)), (14, pt g57 0), (59, v5), (60, .int .i64 (List.length accents4 : Int)), (61, .int .i64 x50), (114, .bool t76)] ?_ ?_
              · rcases Bool.eq_false_or_eq_true t73 with hb78 | hb78
                · obtain rfl := orT h77 hb78
                  refine QJ.off rfl rfl (cB hb78) rfl rfl ?_
                  refine QJ.off rfl rfl (cB hb78) rfl rfl ?_
                  refine QJ.off rfl rfl (cB hb78) rfl rfl ?_
                  refine QJ.off rfl rfl (cB hb78) rfl rfl ?_
                  refine QJ.off rfl rfl (cB hb78) rfl rfl ?_
                  refine QJ.off rfl rfl (cB hb78) rfl rfl ?_
                  refine QJ.off rfl rfl (cB hb78) rfl rfl ?_
                  refine QJ.step (YldS.yld (y_pick_t (cB hb78) rfl)) rfl ?_
                  exact QJ.cut_end ⟨rfl, rfl, rfl, rfl, rfl, rfl, rfl, rfl, rfl, trivial⟩
                · replace h77 := orF h77 hb78
                  refine QJ.on rfl rfl (cB hb78) (YldS.yld (y_move rfl)) rfl ?_
                  refine QJ.on rfl rfl (cB hb78) (YldS.yld (y_fldB (o := 0) fld56_0 rfl)) rfl ?_
                  refine QJ.on rfl rfl (cB hb78) (YldS.yld (y_loadB (k := 0) (off := 0) (v := str e52.mark) rfl Tryd.isAgg9 rfl rfl)) rfl ?_
                  refine QJ.on rfl rfl (cB hb78) (YldS.yld (y_fldB (o := 0) fld56_1 rfl)) rfl ?_
                  refine QJ.on rfl rfl (cB hb78) (YldS.yld (y_loadB (k := 0) (off := 1) (v := str e52.letter) rfl Tryd.isAgg9 rfl rfl)) rfl ?_
                  obtain ⟨s79, h80, h77⟩ := bindS h77
                  refine QJ.on rfl rfl (cB hb78) (YldS.yld (y_cat h80 rfl rfl)) rfl ?_
                  refine QJ.on rfl rfl (cB hb78) (YldS.yld (y_lookupSB (k := 1) rfl Tryd.underlying68 Tryd.underlying9 Tryd.zeroValue4 rfl rfl)) rfl ?_
                  refine QJ.step (YldS.yld (y_pick_f (cB hb78) rfl)) rfl ?_
                  obtain rfl := Option.some.inj h77
                  exact QJ.cut_end ⟨rfl, rfl, rfl, rfl, rfl, rfl, rfl, rfl, rfl, trivial⟩
              refine QJ.done ?_
              refine PJ.next ?_
              refine WJ.cond (t := t76) rfl (fun hb81 => ?_) (fun hb81 => ?_)
              · replace hm := ifT hm hb81
                refine WJ.seq ?_
                refine WJ.quiet ?_
                refine QJ.step (YldS.yld (y_assign rfl)) rfl ?_
                refine QJ.done ?_
                refine PJ.next ?_
                refine WJ.ret ?_
                refine PJ.then_ret (PJ.block_ret (PJ.then_ret (PJ.then_ret (PJ.block_ret (PJ.then_ret ?_)))))
                obtain rfl := Option.some.inj hm
                refine PJ.sel (L' := []) [] ⟨List.nodup_nil, rfl⟩ ?_
                exact PJ.retn (vs := [.bool false]) Tryd.results21 ⟨rfl, trivial⟩ ⟨rfl, rfl⟩
              · replace hm := ifF hm hb81
                refine WJ.skip ?_
                refine PJ.next ?_
                refine WJ.seq ?_
                refine WJ.reg ?_
                refine SJ.q (YldS.yld (y_move rfl)) rfl ?_
                refine SJ.q (YldS.yld (y_fldB (o := 0) fld56_2 rfl)) rfl ?_
                refine SJ.q (YldS.yld (y_loadB (k := 0) (off := 2) (v := str e52.made) rfl Tryd.isAgg9 rfl rfl)) rfl ?_
                refine SJ.mapUpdateSB (k := 2) Tryd.underlying68 Tryd.underlying9 rfl rfl rfl rfl ?_
                refine SJ.nil ?_
                refine PJ.next ?_
                refine WJ.reg ?_
                refine SJ.q (YldS.yld (y_move rfl)) rfl ?_
                refine SJ.q (YldS.yld (y_fldB (o := 0) fld56_0 rfl)) rfl ?_
                refine SJ.q (YldS.yld (y_loadB (k := 0) (off := 0) (v := str e52.mark) rfl Tryd.isAgg9 rfl rfl)) rfl ?_
                refine SJ.q (YldS.yld (y_fldB (o := 0) fld56_1 rfl)) rfl ?_
                refine SJ.q (YldS.yld (y_loadB (k := 0) (off := 1) (v := str e52.letter) rfl Tryd.isAgg9 rfl rfl)) rfl ?_
                obtain ⟨s82, h83, hm⟩ := bindS hm
                refine SJ.q (YldS.yld (y_cat h83 rfl rfl)) rfl ?_
                refine SJ.mapUpdateSB (k := 1) Tryd.underlying68 Tryd.underlying9 rfl rfl rfl rfl ?_
                refine SJ.nil ?_
                refine PJ.block_normal (PJ.next ?_)
                refine WJ.quiet ?_
                refine QJ.step (YldS.yld (y_bin rfl rfl rfl)) rfl ?_
                refine QJ.step (YldS.yld (y_move rfl)) rfl ?_
                refine QJ.done ?_
                exact PJ.round (mset mp48 s82 true, mset mp49 e52.made true, w64 (x50 + 1)) [1, 2, 3, 4] hm ⟨rfl, rfl, rfl, rfl, rfl, rfl, rfl, trivial⟩ ⟨by decide, rfl⟩
          · replace hm := ifF hm hb51
            refine WJ.exit ?_
            refine PJ.then_exit (PJ.then_exit (PJ.block_exit ?_))
            exact PJ.joined () [] hm trivial ⟨List.nodup_nil, rfl⟩
      · rintro _ hm
        subst hk47
        refine WJ.seq ?_
        refine WJ.quiet ?_
        refine QJ.step (YldS.yld (y_assign rfl)) rfl ?_
        refine QJ.done ?_
        refine PJ.next ?_
        refine WJ.ret ?_
        obtain rfl := Option.some.inj hm
        refine PJ.sel (L' := []) [] ⟨List.nodup_nil, rfl⟩ ?_
        exact PJ.retn (vs := [.bool true]) Tryd.results21 ⟨rfl, trivial⟩ ⟨rfl, rfl⟩

set_option maxRecDepth 100000 in
set_option maxHeartbeats 1000000 in
theorem ok_i_pressOf {N : Nat} {keys1 : List Key} {letter4 : Str} {r : Press × Bool} (hm : i_pressOf N keys1 letter4 = some r) (w : World) (v2 : Value) (hr3 : RdS w (cx w).Fz v2 fKey.rp keys1) :
    Calls Tryd.prog 47 #[v2, str letter4] w (Ret (cx w) (tup [.agg (Press.enc r.1).toArray, .bool r.2])) := by
  unfold i_pressOf at hm
  refine Calls.enter [v2, str letter4] Tryd.func47 rfl Tryd.ntmps47 rfl ?_
  refine WJ.seq ?_
  refine WJ.reg ?_
  refine SJ.alloc (cs := [.int .i64 0, .bool false]) Tryd.zeroValue35 rfl rfl fun g5 => ?_
  refine SJ.q (YldS.yld (y_assign rfl)) rfl ?_
  refine SJ.nil ?_
  refine PJ.next ?_
  obtain ⟨kj8, hk9, hm⟩ := withK_open hm
  refine WJ.join (X := Int × Bool) (fun (x : Int × Bool) => kj8 x.1 x.2 = some r) (fun (x : Int × Bool) => [(4, pt g5 0)]) (fun (x : Int × Bool) => [box g5 35 [.int .i64 x.1, .bool x.2]]) ?_ ?_
  · clear hk9
    refine WJ.seq ?_
    refine WJ.quiet ?_
    refine QJ.step (YldS.yld (y_move rfl)) rfl ?_
    refine QJ.step (YldS.yld (y_lenS Tryd.runUnderlying24 hr3 rfl)) rfl ?_
    refine QJ.step (YldS.yld (y_move rfl)) rfl ?_
    refine QJ.done ?_
    refine PJ.next ?_
    refine WJ.block ?_
    refine WJ.sel (L' := (fun (x : Int × Bool × Int) => [box g5 35 [.int .i64 x.1, .bool x.2.1]]) (0, false, 0)) [0] ⟨by decide, rfl⟩ ?_
    refine WJ.sub (m' := (fun (x : Int × Bool × Int) => [(1, str letter4), (4, pt g5 0), (8, v2), (9, .int .i64 (List.length keys1 : Int)), (10, .int .i64 x.2.2)]) (0, false, 0)) ⟨rfl, rfl, rfl, rfl, rfl, trivial⟩ ?_
    refine WJ.loop (X := Int × Bool × Int) (fun N (x : Int × Bool × Int) => i_pressOf_l1 kj8 keys1 letter4 N x.1 x.2.1 x.2.2 = some r) (fun (x : Int × Bool × Int) => [(1, str letter4), (4, pt g5 0), (8, v2), (9, .int .i64 (List.length keys1 : Int)), (10, .int .i64 x.2.2)]) (fun (x : Int × Bool × Int) => [box g5 35 [.int .i64 x.1, .bool x.2.1]]) ?_ N (0, false, 0) hm
    · rintro N ⟨x10, x11, x12⟩ hI
      have hm := hI; clear hI
      cases N with
      | zero => cases hm
      | succ N =>
      unfold i_pressOf_l1 at hm
      refine WJ.seq ?_
      refine WJ.quiet ?_
      refine QJ.step (YldS.yld (y_bin rfl rfl rfl)) rfl ?_
      refine QJ.done ?_
      refine PJ.next ?_
      refine WJ.seq ?_
      refine WJ.cond (t := decide (x12 < (List.length keys1 : Int))) rfl (fun hb13 => ?_) (fun hb13 => ?_)
      · replace hm := ifT hm hb13
        refine WJ.skip ?_
        refine PJ.next ?_
        refine WJ.seq ?_
        refine WJ.block ?_
        refine WJ.seq ?_
        refine WJ.reg ?_
        refine SJ.q (YldS.yld (y_move rfl)) rfl ?_
        obtain ⟨e14, h15, hm⟩ := bindS hm
        obtain ⟨ad16, _, rfl, ha17, hy18⟩ := hr3.elem h15
        refine SJ.q (YldS.yld (hy18 Tryd.runUnderlying24 Tryd.sizeOf54 rfl rfl)) rfl ?_
        refine SJ.q (YldS.yld (y_loadN Tryd.isAgg54 Tryd.sizeOf54 rfl ha17 St.frozenC rfl)) rfl ?_
        refine SJ.alloc (cs := [str [], str [], .bool false]) Tryd.zeroValue54 rfl rfl fun g19 => ?_
        refine SJ.q (YldS.yld (y_assign rfl)) rfl ?_
        refine SJ.storeL (k := 0) (off := 0) (us := [str e14.low, str e14.high, .bool e14.dead]) rfl rfl rfl rfl Tryd.sizeOf54 rfl rfl ?_
        refine SJ.nil ?_
        refine PJ.next ?_
        refine WJ.seq ?_
        refine WJ.quiet ?_
        refine QJ.step (YldS.yld (y_fldB (o := 0) fld54_0 rfl)) rfl ?_
        refine QJ.step (YldS.yld (y_loadB (k := 0) (off := 0) (v := str e14.low) rfl Tryd.isAgg9 rfl rfl)) rfl ?_
        refine QJ.step (YldS.yld (y_move rfl)) rfl ?_
        refine QJ.step (YldS.yld (y_binS rfl rfl rfl)) rfl ?_
        refine QJ.step (YldS.yld (y_move rfl)) rfl ?_
        obtain ⟨t20, h21, hm⟩ := bindS hm
        refine QJ.cut 5 [(1, str letter4), (4, pt g5 0), (6, .int .i64 x12), (7, pt g19 0), (8, v2), (9, .int .i64 (List.length keys1 : Int)), (10, .int .i64 x12), (24, .bool t20)] ?_ ?_
        · rcases Bool.eq_false_or_eq_true (e14.low == letter4) with hb22 | hb22
          · obtain rfl := orT h21 hb22
            refine QJ.off rfl rfl (cB hb22) rfl rfl ?_
            refine QJ.off rfl rfl (cB hb22) rfl rfl ?_
            refine QJ.off rfl rfl (cB hb22) rfl rfl ?_
            refine QJ.off rfl rfl (cB hb22) rfl rfl ?_
            refine QJ.step (YldS.yld (y_pick_t (cB hb22) rfl)) rfl ?_
            exact QJ.cut_end ⟨rfl, rfl, rfl, rfl, rfl, rfl, rfl, rfl, trivial⟩
          · replace h21 := orF h21 hb22
            refine QJ.on rfl rfl (cB hb22) (YldS.yld (y_fldB (o := 0) fld54_1 rfl)) rfl ?_
            refine QJ.on rfl rfl (cB hb22) (YldS.yld (y_loadB (k := 0) (off := 1) (v := str e14.high) rfl Tryd.isAgg9 rfl rfl)) rfl ?_
            refine QJ.on rfl rfl (cB hb22) (YldS.yld (y_move rfl)) rfl ?_
            refine QJ.on rfl rfl (cB hb22) (YldS.yld (y_binS rfl rfl rfl)) rfl ?_
            refine QJ.step (YldS.yld (y_pick_f (cB hb22) rfl)) rfl ?_
            obtain rfl := Option.some.inj h21
            exact QJ.cut_end ⟨rfl, rfl, rfl, rfl, rfl, rfl, rfl, rfl, trivial⟩
        refine QJ.done ?_
        refine PJ.next ?_
        refine WJ.cond (t := t20) rfl (fun hb23 => ?_) (fun hb23 => ?_)
        · replace hm := ifT hm hb23
          refine WJ.seq ?_
          refine WJ.reg ?_
          refine SJ.q (YldS.yld (y_move rfl)) rfl ?_
          refine SJ.q (YldS.yld (y_fldB (o := 0) fld54_1 rfl)) rfl ?_
          refine SJ.q (YldS.yld (y_loadB (k := 0) (off := 1) (v := str e14.high) rfl Tryd.isAgg9 rfl rfl)) rfl ?_
          refine SJ.q (YldS.yld (y_move rfl)) rfl ?_
          refine SJ.q (YldS.yld (y_binS rfl rfl rfl)) rfl ?_
          refine SJ.q (YldS.yld (y_build (parts := [(0, .tmp 25), (1, .tmp 29)]) (places := [(0, 1), (1, 1)]) (r := [.int .i64 ((Press.mk x12 (e14.high == letter4)).key), .bool ((Press.mk x12 (e14.high == letter4)).shift)]) pl35 Tryd.zeroValue35 rfl rfl rfl rfl)) rfl ?_
          refine SJ.storeL (k := 1) (off := 0) (us := [.int .i64 ((Press.mk x12 (e14.high == letter4)).key), .bool ((Press.mk x12 (e14.high == letter4)).shift)]) rfl rfl rfl rfl Tryd.sizeOf35 rfl rfl ?_
          refine SJ.q (YldS.yld (y_assign rfl)) rfl ?_
          refine SJ.nil ?_
          refine PJ.next ?_
          refine WJ.ret ?_
          refine PJ.block_ret (PJ.then_ret (PJ.then_ret (PJ.block_ret (PJ.then_ret ?_))))
          obtain rfl := Option.some.inj hm
          exact PJ.retn_sel (vs := [.agg (Press.enc (Press.mk x12 (e14.high == letter4))).toArray, .bool true]) Tryd.results47 ⟨⟨1, g5, 35, [.int .i64 ((Press.mk x12 (e14.high == letter4)).key), .bool ((Press.mk x12 (e14.high == letter4)).shift)], rfl, rfl, .inl ⟨Tryd.isAgg35, Tryd.sizeOf35, rfl⟩⟩, rfl, trivial⟩ [] ⟨List.nodup_nil, rfl⟩ ⟨rfl, rfl⟩
        · replace hm := ifF hm hb23
          refine WJ.skip ?_
          refine PJ.block_normal (PJ.next ?_)
          refine WJ.quiet ?_
          refine QJ.step (YldS.yld (y_bin rfl rfl rfl)) rfl ?_
          refine QJ.step (YldS.yld (y_move rfl)) rfl ?_
          refine QJ.done ?_
          exact PJ.round (x10, x11, w64 (x12 + 1)) [1] hm ⟨rfl, rfl, rfl, rfl, rfl, trivial⟩ ⟨by decide, rfl⟩
      · replace hm := ifF hm hb13
        refine WJ.exit ?_
        refine PJ.then_exit (PJ.then_exit (PJ.block_exit ?_))
        exact PJ.joined (x10, x11) [0] hm ⟨rfl, trivial⟩ ⟨by decide, rfl⟩
  · rintro ⟨x6, x7⟩ hm
    subst hk9
    refine WJ.seq ?_
    refine WJ.reg ?_
    refine SJ.q (YldS.yld (y_build (parts := []) (places := [(0, 1), (1, 1)]) (r := [.int .i64 ((Press.mk 0 false).key), .bool ((Press.mk 0 false).shift)]) pl35 Tryd.zeroValue35 rfl rfl rfl rfl)) rfl ?_
    refine SJ.storeL (k := 0) (off := 0) (us := [.int .i64 ((Press.mk 0 false).key), .bool ((Press.mk 0 false).shift)]) rfl rfl rfl rfl Tryd.sizeOf35 rfl rfl ?_
    refine SJ.q (YldS.yld (y_assign rfl)) rfl ?_
    refine SJ.nil ?_
    refine PJ.next ?_
    refine WJ.ret ?_
    obtain rfl := Option.some.inj hm
    exact PJ.retn_sel (vs := [.agg (Press.enc (Press.mk 0 false)).toArray, .bool false]) Tryd.results47 ⟨⟨0, g5, 35, [.int .i64 ((Press.mk 0 false).key), .bool ((Press.mk 0 false).shift)], rfl, rfl, .inl ⟨Tryd.isAgg35, Tryd.sizeOf35, rfl⟩⟩, rfl, trivial⟩ [] ⟨List.nodup_nil, rfl⟩ ⟨rfl, rfl⟩

set_option maxRecDepth 100000 in
set_option maxHeartbeats 1000000 in
theorem ok_i_pressesOf {N : Nat} {keys1 : List Key} {accents4 : List Accent} {letter7 : Str} {r : (List Press)} (hm : i_pressesOf N keys1 accents4 letter7 = some r) (w : World) (v2 : Value) (hr3 : RdS w (cx w).Fz v2 fKey.rp keys1) (v5 : Value) (hr6 : RdS w (cx w).Fz v5 fAccent.rp accents4) :
    Calls Tryd.prog 26 #[v2, v5, str letter7] w (RetG (cx w) fun u L => ∃ (u1 : Value), (u = u1 ∧ L = [row u1 35 fPress r])) := by
  unfold i_pressesOf at hm
  refine Calls.enter [v2, v5, str letter7] Tryd.func26 rfl Tryd.ntmps26 rfl ?_
  refine WJ.seq ?_
  refine WJ.quiet ?_
  refine QJ.step (YldS.yld (y_assign rfl)) rfl ?_
  refine QJ.done ?_
  refine PJ.next ?_
  refine WJ.seq ?_
  refine WJ.seq ?_
  refine WJ.reg ?_
  refine SJ.q (YldS.yld (y_move rfl)) rfl ?_
  refine SJ.q (YldS.yld (y_move rfl)) rfl ?_
  obtain ⟨r8, h9, hm⟩ := bindS hm
  refine SJ.q (y_call Tryd.call47 rfl (RetG.quiet fun w hw => ok_i_pressOf h9 w _ (hr3.st hw))) rfl ?_
  refine SJ.q (YldS.yld (y_move rfl)) rfl ?_
  refine SJ.q (YldS.yld (y_extract rfl rfl)) rfl ?_
  refine SJ.q (YldS.yld (y_extract rfl rfl)) rfl ?_
  refine SJ.alloc (cs := [.int .i64 0, .bool false]) Tryd.zeroValue35 rfl rfl fun g10 => ?_
  refine SJ.storeL (k := 0) (off := 0) (us := [.int .i64 r8.1.key, .bool r8.1.shift]) rfl rfl rfl rfl Tryd.sizeOf35 rfl rfl ?_
  refine SJ.q (YldS.yld (y_assign rfl)) rfl ?_
  refine SJ.nil ?_
  refine PJ.next ?_
  refine WJ.seq ?_
  refine WJ.quiet ?_
  refine QJ.step (YldS.yld (y_move rfl)) rfl ?_
  refine QJ.done ?_
  refine PJ.next ?_
  refine WJ.cond (t := r8.2) rfl (fun hb11 => ?_) (fun hb11 => ?_)
  · replace hm := ifT hm hb11
    refine WJ.seq ?_
    refine WJ.seq ?_
    refine WJ.quiet ?_
    refine QJ.step (YldS.yld (y_move rfl)) rfl ?_
    refine QJ.step (YldS.yld (y_fldB (o := 0) fld35_0 rfl)) rfl ?_
    refine QJ.step (YldS.yld (y_loadB (k := 0) (off := 0) (v := .int .i64 r8.1.key) rfl Tryd.isAgg2 rfl rfl)) rfl ?_
    obtain ⟨e12, h13, hm⟩ := bindS hm
    obtain ⟨ad14, _, rfl, ha15, hy16⟩ := hr3.elem h13
    refine QJ.step (YldS.yld (hy16 Tryd.runUnderlying24 Tryd.sizeOf54 rfl rfl)) rfl ?_
    refine QJ.step (YldS.yld (y_fld (ad := ad14) fld54_2 rfl)) rfl ?_
    refine QJ.step (YldS.yld (y_load1 (v := .bool e12.dead) Tryd.isAgg4 (ha15.sub 2 1) St.frozenC rfl)) rfl ?_
    refine QJ.done ?_
    refine PJ.next ?_
    refine WJ.cond (t := e12.dead) rfl (fun hb17 => ?_) (fun hb17 => ?_)
    · replace hm := ifT hm hb17
      refine WJ.seq ?_
      refine WJ.quiet ?_
      refine QJ.step (YldS.yld (y_assign rfl)) rfl ?_
      refine QJ.done ?_
      refine PJ.next ?_
      refine WJ.ret ?_
      refine PJ.then_ret (PJ.then_ret ?_)
      refine PJ.nil_row 35 fPress ?_
      obtain rfl := Option.some.inj hm
      refine PJ.sel (L' := [row (.slice none 0 0) 35 fPress []]) [0] ⟨by decide, rfl⟩ ?_
      exact PJ.retn (vs := [(.slice none 0 0)]) Tryd.results26 ⟨rfl, trivial⟩ ⟨_, rfl, rfl⟩
    · replace hm := ifF hm hb17
      refine WJ.skip ?_
      refine PJ.next ?_
      refine WJ.seq ?_
      refine WJ.reg ?_
      refine SJ.q (YldS.yld (y_loadBN (k := 0) (off := 0) (us := [.int .i64 r8.1.key, .bool r8.1.shift]) rfl Tryd.isAgg35 Tryd.sizeOf35 rfl rfl)) rfl ?_
      refine SJ.buildSlice (R := fPress) (os := [.tmp 28]) [r8.1] Tryd.runUnderlying28 Tryd.sizeOf35 Tryd.zeroValue35 rfl rfl rfl rfl rfl rfl fun v18 => ?_
      refine SJ.q (YldS.yld (y_assign rfl)) rfl ?_
      refine SJ.nil ?_
      refine PJ.next ?_
      refine WJ.ret ?_
      refine PJ.then_ret ?_
      obtain rfl := Option.some.inj hm
      refine PJ.sel (L' := [row v18 35 fPress [r8.1]]) [0] ⟨by decide, rfl⟩ ?_
      exact PJ.retn (vs := [v18]) Tryd.results26 ⟨rfl, trivial⟩ ⟨_, rfl, rfl⟩
  · replace hm := ifF hm hb11
    refine WJ.skip ?_
    refine PJ.next ?_
    obtain ⟨kj19, hk20, hm⟩ := withK_open hm
    refine WJ.join (X := Unit) (fun (_ : Unit) => kj19  = some r) (fun (_ : Unit) => []) (fun (_ : Unit) => []) ?_ ?_
    · clear hk20
      refine WJ.seq ?_
      refine WJ.quiet ?_
      refine QJ.step (YldS.yld (y_move rfl)) rfl ?_
      refine QJ.step (YldS.yld (y_lenS Tryd.runUnderlying25 hr6 rfl)) rfl ?_
      refine QJ.step (YldS.yld (y_move rfl)) rfl ?_
      refine QJ.done ?_
      refine PJ.next ?_
      refine WJ.block ?_
      refine WJ.sel (L' := (fun (x : Int) => []) 0) [] ⟨List.nodup_nil, rfl⟩ ?_
      refine WJ.sub (m' := (fun (x : Int) => [(0, v2), (2, str letter7), (30, v5), (31, .int .i64 (List.length accents4 : Int)), (32, .int .i64 x)]) 0) ⟨rfl, rfl, rfl, rfl, rfl, trivial⟩ ?_
      refine WJ.loop (X := Int) (fun N (x : Int) => i_pressesOf_l1 kj19 keys1 accents4 letter7 N x = some r) (fun (x : Int) => [(0, v2), (2, str letter7), (30, v5), (31, .int .i64 (List.length accents4 : Int)), (32, .int .i64 x)]) (fun (x : Int) => []) ?_ N 0 hm
      · rintro N x21 hI
        have hm := hI; clear hI
        cases N with
        | zero => cases hm
        | succ N =>
        unfold i_pressesOf_l1 at hm
        refine WJ.seq ?_
        refine WJ.quiet ?_
        refine QJ.step (YldS.yld (y_bin rfl rfl rfl)) rfl ?_
        refine QJ.done ?_
        refine PJ.next ?_
        refine WJ.seq ?_
        refine WJ.cond (t := decide (x21 < (List.length accents4 : Int))) rfl (fun hb22 => ?_) (fun hb22 => ?_)
        · replace hm := ifT hm hb22
          refine WJ.skip ?_
          refine PJ.next ?_
          refine WJ.seq ?_
          refine WJ.block ?_
          refine WJ.seq ?_
          refine WJ.reg ?_
          obtain ⟨e23, h24, hm⟩ := bindS hm
          obtain ⟨ad25, _, rfl, ha26, hy27⟩ := hr6.elem h24
          refine SJ.q (YldS.yld (hy27 Tryd.runUnderlying25 Tryd.sizeOf56 rfl rfl)) rfl ?_
          refine SJ.q (YldS.yld (y_loadN Tryd.isAgg56 Tryd.sizeOf56 rfl ha26 St.frozenC rfl)) rfl ?_
          refine SJ.alloc (cs := [str [], str [], str []]) Tryd.zeroValue56 rfl rfl fun g28 => ?_
          refine SJ.storeL (k := 0) (off := 0) (us := [str e23.mark, str e23.letter, str e23.made]) rfl rfl rfl rfl Tryd.sizeOf56 rfl rfl ?_
          refine SJ.nil ?_
          refine PJ.next ?_
          refine WJ.seq ?_
          refine WJ.quiet ?_
          refine QJ.step (YldS.yld (y_fldB (o := 0) fld56_2 rfl)) rfl ?_
          refine QJ.step (YldS.yld (y_loadB (k := 0) (off := 2) (v := str e23.made) rfl Tryd.isAgg9 rfl rfl)) rfl ?_
          refine QJ.step (YldS.yld (y_move rfl)) rfl ?_
          refine QJ.step (YldS.yld (y_binS rfl rfl rfl)) rfl ?_
          refine QJ.done ?_
          refine PJ.next ?_
          refine WJ.cond (t := (e23.made == letter7)) rfl (fun hb29 => ?_) (fun hb29 => ?_)
          · replace hm := ifT hm hb29
            refine WJ.seq ?_
            refine WJ.reg ?_
            refine SJ.q (YldS.yld (y_move rfl)) rfl ?_
            refine SJ.q (YldS.yld (y_fldB (o := 0) fld56_0 rfl)) rfl ?_
            refine SJ.q (YldS.yld (y_loadB (k := 0) (off := 0) (v := str e23.mark) rfl Tryd.isAgg9 rfl rfl)) rfl ?_
            obtain ⟨r30, h31, hm⟩ := bindS hm
            refine SJ.q (y_call Tryd.call47 rfl (RetG.quiet fun w hw => ok_i_pressOf h31 w _ (hr3.st hw))) rfl ?_
            refine SJ.q (YldS.yld (y_move rfl)) rfl ?_
            refine SJ.q (YldS.yld (y_extract rfl rfl)) rfl ?_
            refine SJ.q (YldS.yld (y_extract rfl rfl)) rfl ?_
            refine SJ.alloc (cs := [.int .i64 0, .bool false]) Tryd.zeroValue35 rfl rfl fun g32 => ?_
            refine SJ.storeL (k := 0) (off := 0) (us := [.int .i64 r30.1.key, .bool r30.1.shift]) rfl rfl rfl rfl Tryd.sizeOf35 rfl rfl ?_
            refine SJ.q (YldS.yld (y_assign rfl)) rfl ?_
            refine SJ.nil ?_
            refine PJ.next ?_
            refine WJ.seq ?_
            refine WJ.reg ?_
            refine SJ.q (YldS.yld (y_move rfl)) rfl ?_
            refine SJ.q (YldS.yld (y_fldB (o := 0) fld56_1 rfl)) rfl ?_
            refine SJ.q (YldS.yld (y_loadB (k := 1) (off := 1) (v := str e23.letter) rfl Tryd.isAgg9 rfl rfl)) rfl ?_
            obtain ⟨r33, h34, hm⟩ := bindS hm
            refine SJ.q (y_call Tryd.call47 rfl (RetG.quiet fun w hw => ok_i_pressOf h34 w _ (hr3.st hw))) rfl ?_
            refine SJ.q (YldS.yld (y_move rfl)) rfl ?_
            refine SJ.q (YldS.yld (y_extract rfl rfl)) rfl ?_
            refine SJ.q (YldS.yld (y_extract rfl rfl)) rfl ?_
            refine SJ.alloc (cs := [.int .i64 0, .bool false]) Tryd.zeroValue35 rfl rfl fun g35 => ?_
            refine SJ.storeL (k := 0) (off := 0) (us := [.int .i64 r33.1.key, .bool r33.1.shift]) rfl rfl rfl rfl Tryd.sizeOf35 rfl rfl ?_
            refine SJ.q (YldS.yld (y_assign rfl)) rfl ?_
            refine SJ.nil ?_
            refine PJ.next ?_
            refine WJ.seq ?_
            refine WJ.reg ?_
            refine SJ.q (YldS.yld (y_loadBN (k := 1) (off := 0) (us := [.int .i64 r30.1.key, .bool r30.1.shift]) rfl Tryd.isAgg35 Tryd.sizeOf35 rfl rfl)) rfl ?_
            refine SJ.q (YldS.yld (y_loadBN (k := 0) (off := 0) (us := [.int .i64 r33.1.key, .bool r33.1.shift]) rfl Tryd.isAgg35 Tryd.sizeOf35 rfl rfl)) rfl ?_
            refine SJ.buildSlice (R := fPress) (os := [.tmp 54, .tmp 55]) [r30.1, r33.1] Tryd.runUnderlying28 Tryd.sizeOf35 Tryd.zeroValue35 rfl rfl rfl rfl rfl rfl fun v36 => ?_
            refine SJ.q (YldS.yld (y_assign rfl)) rfl ?_
            refine SJ.nil ?_
            refine PJ.next ?_
            refine WJ.ret ?_
            refine PJ.block_ret (PJ.then_ret (PJ.then_ret (PJ.block_ret (PJ.then_ret ?_))))
            obtain rfl := Option.some.inj hm
            refine PJ.sel (L' := [row v36 35 fPress [r30.1, r33.1]]) [0] ⟨by decide, rfl⟩ ?_
            exact PJ.retn (vs := [v36]) Tryd.results26 ⟨rfl, trivial⟩ ⟨_, rfl, rfl⟩
          · replace hm := ifF hm hb29
            refine WJ.skip ?_
            refine PJ.block_normal (PJ.next ?_)
            refine WJ.quiet ?_
            refine QJ.step (YldS.yld (y_bin rfl rfl rfl)) rfl ?_
            refine QJ.step (YldS.yld (y_move rfl)) rfl ?_
            refine QJ.done ?_
            exact PJ.round (w64 (x21 + 1)) [] hm ⟨rfl, rfl, rfl, rfl, rfl, trivial⟩ ⟨List.nodup_nil, rfl⟩
        · replace hm := ifF hm hb22
          refine WJ.exit ?_
          refine PJ.then_exit (PJ.then_exit (PJ.block_exit ?_))
          exact PJ.joined () [] hm trivial ⟨List.nodup_nil, rfl⟩
    · rintro _ hm
      subst hk20
      refine WJ.seq ?_
      refine WJ.quiet ?_
      refine QJ.step (YldS.yld (y_assign rfl)) rfl ?_
      refine QJ.done ?_
      refine PJ.next ?_
      refine WJ.ret ?_
      refine PJ.nil_row 35 fPress ?_
      obtain rfl := Option.some.inj hm
      refine PJ.sel (L' := [row (.slice none 0 0) 35 fPress []]) [0] ⟨by decide, rfl⟩ ?_
      exact PJ.retn (vs := [(.slice none 0 0)]) Tryd.results26 ⟨rfl, trivial⟩ ⟨_, rfl, rfl⟩

end Go.Proofs.YtpodlgibcfbbiaaDoor
