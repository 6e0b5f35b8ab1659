/-
  The walks: a call hands back what its plain function computes, where that has a value. No other conditions.
-/
import Derived.Test.YthkckgiicchpnaaFnTypedActsM
import Derived.Test.YthkckgiicchpnaaChecked
namespace Go.Proofs.Ythkckgiicchpnaa
open Go.RowKit Go.Proofs
set_option linter.unusedVariables false
set_option linter.unusedSimpArgs false

theorem follows : Try.prog.follows .mixedOrders = true := by kernel_rfl

def Carriage.enc (x : Carriage) : List Value := [.int .i64 x.left, .int .i64 x.right, .int .i64 x.bell]
def fCarriage : FRp Carriage := ⟨3, Carriage.enc, fun _ => rfl, by decide, fun x u hu => by
  simp only [Carriage.enc, List.mem_cons, List.not_mem_nil, or_false] at hu
  rcases hu with rfl | rfl | rfl <;> rfl⟩

def Act.enc (x : Act) : List Value := [.int .i64 x.kind, str x.letter]
def fAct : FRp Act := ⟨2, Act.enc, fun _ => rfl, by decide, fun x u hu => by
  simp only [Act.enc, List.mem_cons, List.not_mem_nil, or_false] at hu
  rcases hu with rfl | rfl <;> rfl⟩

def Struck.enc (x : Struck) : List Value := [.int .i64 x.place, str x.letter]
def fStruck : FRp Struck := ⟨2, Struck.enc, fun _ => rfl, by decide, fun x u hu => by
  simp only [Struck.enc, List.mem_cons, List.not_mem_nil, or_false] at hu
  rcases hu with rfl | rfl <;> rfl⟩

theorem pl157 : PlacesOk Try.prog 157 [(0, 1), (1, 1), (2, 1)] := ⟨_, Try.runUnderlying157, fun w => by simp [Try.sizeOf3, Try.sizeOf22, Try.sizeOf155]⟩
theorem fld157_1 : FieldOk Try.prog 157 1 1 3 0 := ⟨_, _, Try.runUnderlying157, rfl, rfl, rfl, Try.sizeOf3⟩
theorem fld157_0 : FieldOk Try.prog 157 0 0 22 0 := ⟨_, _, Try.runUnderlying157, rfl, rfl, rfl, Try.sizeOf22⟩
theorem fld157_2 : FieldOk Try.prog 157 2 2 155 0 := ⟨_, _, Try.runUnderlying157, rfl, rfl, rfl, Try.sizeOf155⟩
theorem pl45 : PlacesOk Try.prog 45 [(0, 1), (1, 1), (2, 1)] := ⟨_, Try.runUnderlying45, fun w => by simp [Try.sizeOf2]⟩
theorem fld45_0 : FieldOk Try.prog 45 0 0 2 0 := ⟨_, _, Try.runUnderlying45, rfl, rfl, rfl, Try.sizeOf2⟩
theorem fld45_1 : FieldOk Try.prog 45 1 1 2 0 := ⟨_, _, Try.runUnderlying45, rfl, rfl, rfl, Try.sizeOf2⟩
theorem fld45_2 : FieldOk Try.prog 45 2 2 2 0 := ⟨_, _, Try.runUnderlying45, rfl, rfl, rfl, Try.sizeOf2⟩
set_option maxRecDepth 100000 in
theorem el5 : ElemOk Try.prog 5 1 (fByte.enc 0) := ⟨_, _, Try.type5, rfl, rfl, rfl, by decide⟩
theorem pl62 : PlacesOk Try.prog 62 [(0, 1), (1, 1)] := ⟨_, Try.runUnderlying62, fun w => by simp [Try.sizeOf2, Try.sizeOf9]⟩
set_option maxRecDepth 100000 in
theorem el62 : ElemOk Try.prog 62 2 (fAct.enc (Act.mk 0 [])) := ⟨_, _, Try.type62, rfl, rfl, rfl, by decide⟩
theorem fld62_1 : FieldOk Try.prog 62 1 1 9 0 := ⟨_, _, Try.runUnderlying62, rfl, rfl, rfl, Try.sizeOf9⟩
theorem fld62_0 : FieldOk Try.prog 62 0 0 2 0 := ⟨_, _, Try.runUnderlying62, rfl, rfl, rfl, Try.sizeOf2⟩
theorem pl118 : PlacesOk Try.prog 118 [(0, 1), (1, 1), (2, 1), (3, 1)] := ⟨_, Try.runUnderlying118, fun w => by simp [Try.sizeOf2, Try.sizeOf53]⟩
theorem fld118_1 : FieldOk Try.prog 118 1 1 2 0 := ⟨_, _, Try.runUnderlying118, rfl, rfl, rfl, Try.sizeOf2⟩
theorem fld118_3 : FieldOk Try.prog 118 3 3 2 0 := ⟨_, _, Try.runUnderlying118, rfl, rfl, rfl, Try.sizeOf2⟩
theorem fld118_0 : FieldOk Try.prog 118 0 0 53 0 := ⟨_, _, Try.runUnderlying118, rfl, rfl, rfl, Try.sizeOf53⟩
theorem pl76 : PlacesOk Try.prog 76 [(0, 1), (1, 1)] := ⟨_, Try.runUnderlying76, fun w => by simp [Try.sizeOf2, Try.sizeOf9]⟩
set_option maxRecDepth 100000 in
theorem el76 : ElemOk Try.prog 76 2 (fStruck.enc (Struck.mk 0 [])) := ⟨_, _, Try.type76, rfl, rfl, rfl, by decide⟩
theorem fld118_2 : FieldOk Try.prog 118 2 2 2 0 := ⟨_, _, Try.runUnderlying118, rfl, rfl, rfl, Try.sizeOf2⟩
theorem pl125 : PlacesOk Try.prog 125 [(0, 3), (3, 1), (4, 1), (5, 1), (6, 1)] := ⟨_, Try.runUnderlying125, fun w => by simp [Try.sizeOf2, Try.sizeOf4, Try.sizeOf45, Try.sizeOf53]⟩
theorem fld125_1 : FieldOk Try.prog 125 1 3 2 0 := ⟨_, _, Try.runUnderlying125, rfl, rfl, rfl, Try.sizeOf2⟩
theorem fld125_0 : FieldOk Try.prog 125 0 0 45 2 := ⟨_, _, Try.runUnderlying125, rfl, rfl, rfl, Try.sizeOf45⟩
theorem fld125_2 : FieldOk Try.prog 125 2 4 4 0 := ⟨_, _, Try.runUnderlying125, rfl, rfl, rfl, Try.sizeOf4⟩
theorem fld125_4 : FieldOk Try.prog 125 4 6 53 0 := ⟨_, _, Try.runUnderlying125, rfl, rfl, rfl, Try.sizeOf53⟩
theorem fld125_3 : FieldOk Try.prog 125 3 5 2 0 := ⟨_, _, Try.runUnderlying125, rfl, rfl, rfl, Try.sizeOf2⟩
theorem eq76 : EqOk Try.prog 76 Struck.enc Struck.beq := ⟨Try.eqGuardType76, fun x y w => by
  have hf : Try.prog.fieldsOf 76 = #[{ name := "Place", type := 2, offset := 0, embedded := false, tag := "", pkgPath := "", byteOffset := 0 }, { name := "Letter", type := 9, offset := 1, embedded := false, tag := "", pkgPath := "", byteOffset := 8 }] := by kernel_rfl
  have ht : Try.prog.underlying 76 = some (.struct (Try.prog.fieldsOf 76)) := by rw [hf]; exact Try.underlying76
  rw [run_equalIn_struct w 9999 76 _ _ ht Try.stoodInHeld76, hf]
  obtain ⟨a0, a1⟩ := x
  obtain ⟨b0, b1⟩ := y
  simp only [Op.eqFields, Struck.enc, Struck.beq]
  simp [part, str, Try.isAgg2, Try.isAgg9, run_equalIn_int _ _ _ _ _ _ _ Try.underlying2, run_equalIn_string _ _ _ _ _ Try.underlying9, ByteArray.toList_eq]
  (repeat' split) <;> simp_all⟩
set_option maxRecDepth 100000 in
theorem zv126 : ∀ w, (zeroValue 126).run Try.prog w = .ok (.agg (List.toArray (encs fStr (List.replicate 6 [])))) w := fun w => by
  rw [Try.zeroValue126]
  refine congrArg (fun z => Result.ok (Value.agg z) w) ?_
  kernel_rfl
theorem eq62 : EqOk Try.prog 62 Act.enc Act.beq := ⟨Try.eqGuardType62, fun x y w => by
  have hf : Try.prog.fieldsOf 62 = #[{ name := "Kind", type := 2, offset := 0, embedded := false, tag := "", pkgPath := "", byteOffset := 0 }, { name := "Letter", type := 9, offset := 1, embedded := false, tag := "", pkgPath := "", byteOffset := 8 }] := by kernel_rfl
  have ht : Try.prog.underlying 62 = some (.struct (Try.prog.fieldsOf 62)) := by rw [hf]; exact Try.underlying62
  rw [run_equalIn_struct w 9999 62 _ _ ht Try.stoodInHeld62, hf]
  obtain ⟨a0, a1⟩ := x
  obtain ⟨b0, b1⟩ := y
  simp only [Op.eqFields, Act.enc, Act.beq]
  simp [part, str, Try.isAgg2, Try.isAgg9, run_equalIn_int _ _ _ _ _ _ _ Try.underlying2, run_equalIn_string _ _ _ _ _ Try.underlying9, ByteArray.toList_eq]
  (repeat' split) <;> simp_all⟩
theorem fld76_0 : FieldOk Try.prog 76 0 0 2 0 := ⟨_, _, Try.runUnderlying76, rfl, rfl, rfl, Try.sizeOf2⟩
theorem fld76_1 : FieldOk Try.prog 76 1 1 9 0 := ⟨_, _, Try.runUnderlying76, rfl, rfl, rfl, Try.sizeOf9⟩

set_option maxRecDepth 100000 in
set_option maxHeartbeats 1000000 in
theorem ok_w_f6big {code1 : List UInt8} {r : Bool} (hm : w_f6big code1 = some r) (w : World) (v2 : Value) (hr3 : RdS w (cx w).Fz v2 fByte.rp code1) :
    Calls Try.prog 9 #[v2] w (Ret (cx w) (.bool r)) := by
  unfold w_f6big at hm
  refine Calls.enter [v2] Try.func9 rfl Try.ntmps9 rfl ?_
  refine WJ.seq ?_
  refine WJ.quiet ?_
  refine QJ.step (YldS.yld (y_assign rfl)) rfl ?_
  refine QJ.done ?_
  refine PJ.next ?_
  refine WJ.seq ?_
  refine WJ.quiet ?_
  refine QJ.step (YldS.yld (y_move rfl)) rfl ?_
  refine QJ.step (YldS.yld (y_lenS Try.runUnderlying22 hr3 rfl)) rfl ?_
  refine QJ.step (YldS.yld (y_bin rfl rfl rfl)) rfl ?_
  refine QJ.step (YldS.yld (y_assign rfl)) rfl ?_
  refine QJ.done ?_
  refine PJ.next ?_
  refine WJ.ret ?_
  obtain rfl := Option.some.inj hm
  refine PJ.sel (L' := []) [] ⟨List.nodup_nil, rfl⟩ ?_
  exact PJ.retn (vs := [.bool (decide ((List.length code1 : Int) > 4096))]) Try.results9 ⟨rfl, trivial⟩ ⟨rfl, rfl⟩

set_option maxRecDepth 100000 in
set_option maxHeartbeats 1000000 in
theorem ok_s_l00From {code1 : List UInt8} {r : L00Src} (hm : s_l00From code1 = some r) (w : World) (v2 : Value) (hr3 : RdS w (cx w).Fz v2 fByte.rp code1) :
    Calls Try.prog 73 #[v2] w (RetG (cx w) fun u L => ∃ (u1 : Nat), (u = pt u1 0 ∧ L = [box u1 157 [v2, .int .i64 r.at_, .int .u64 r.seed]])) := by
  unfold s_l00From at hm
  refine Calls.enter [v2] Try.func73 rfl Try.ntmps73 rfl ?_
  refine WJ.seq ?_
  refine WJ.quiet ?_
  refine QJ.step (YldS.yld (y_assign rfl)) rfl ?_
  refine QJ.done ?_
  refine PJ.next ?_
  refine WJ.seq ?_
  refine WJ.reg ?_
  refine SJ.q (YldS.yld (y_move rfl)) rfl ?_
  refine SJ.q (YldS.yld (y_build (parts := [(0, .tmp 3)]) (places := [(0, 1), (1, 1), (2, 1)]) (r := [v2, .int .i64 0, .int .u64 0]) pl157 Try.zeroValue157 rfl rfl (show _ = [(0, [v2])] from by simp only [List.map, RdS.cells1 hr3]) rfl)) rfl ?_
  refine SJ.box (cs := [v2, .int .i64 0, .int .u64 0]) rfl rfl rfl fun g4 => ?_
  refine SJ.q (YldS.yld (y_assign rfl)) rfl ?_
  refine SJ.nil ?_
  refine PJ.next ?_
  refine WJ.ret ?_
  obtain rfl := Option.some.inj hm
  refine PJ.sel (L' := [box g4 157 [v2, .int .i64 0, .int .u64 0]]) [0] ⟨by decide, rfl⟩ ?_
  exact PJ.retn (vs := [pt g4 0]) Try.results73 ⟨rfl, trivial⟩ ⟨_, rfl, rfl⟩

set_option maxRecDepth 100000 in
set_option maxHeartbeats 1000000 in
theorem ok_s_l00Src_next {s1 : L00Src} {g2 : Nat} {r : Int × L00Src} (hm : s_l00Src_next s1 = some r) (w : World) (S : Nat → Prop) (v3 : Value) (hr4 : RdS w (Cx.Fz ⟨w, S⟩) v3 fByte.rp s1.code) (hA : (box g2 157 [v3, .int .i64 s1.at_, .int .u64 s1.seed]).holds w S) :
    Calls Try.prog 121 #[pt g2 0] w (RetG ⟨w, S⟩ fun u L => (u = .int .i64 r.1 ∧ L = [box g2 157 [v3, .int .i64 r.2.at_, .int .u64 r.2.seed]])) := by
  unfold s_l00Src_next at hm
  refine Calls.enter1 hA [pt g2 0] Try.func121 rfl Try.ntmps121 rfl ?_
  refine WJ.seq ?_
  refine WJ.quiet ?_
  refine QJ.step (YldS.yld (y_assign rfl)) rfl ?_
  refine QJ.done ?_
  refine PJ.next ?_
  refine WJ.seq ?_
  refine WJ.quiet ?_
  refine QJ.step (YldS.yld (y_assign rfl)) rfl ?_
  refine QJ.done ?_
  refine PJ.next ?_
  obtain ⟨kj6, hk7, hm⟩ := withK_open hm
  refine WJ.join (X := Int) (fun (x : Int) => kj6 x = some r) (fun (x : Int) => [(0, pt g2 0), (3, .int .i64 x)]) (fun (x : Int) => [box g2 157 [v3, .int .i64 s1.at_, .int .u64 s1.seed]]) ?_ ?_
  · clear hk7
    refine WJ.seq ?_
    refine WJ.quiet_draw follows (by kernel_rfl) ?_
    refine QJ.step (YldS.yld (y_move rfl)) rfl ?_
    refine QJ.step (YldS.yld (y_nil rfl)) rfl ?_
    refine QJ.step (YldS.yld (y_fldB (o := 0) fld157_1 rfl)) rfl ?_
    refine QJ.step (YldS.yld (y_loadB (k := 0) (off := 1) (v := .int .i64 s1.at_) rfl Try.isAgg3 rfl rfl)) rfl ?_
    refine QJ.step (YldS.yld (y_move rfl)) rfl ?_
    refine QJ.step (YldS.yld (y_nil rfl)) rfl ?_
    refine QJ.step (YldS.yld (y_fldB (o := 0) fld157_0 rfl)) rfl ?_
    refine QJ.step (YldS.yld (y_loadB (k := 0) (off := 0) (v := v3) rfl Try.isAgg22 rfl rfl)) rfl ?_
    refine QJ.step (YldS.yld (y_lenS Try.runUnderlying22 hr4 rfl)) rfl ?_
    refine QJ.step (YldS.yld (y_bin rfl rfl rfl)) rfl ?_
    refine QJ.done ?_
    refine PJ.next ?_
    refine WJ.cond (t := decide (s1.at_ < (List.length s1.code : Int))) rfl (fun hb8 => ?_) (fun hb8 => ?_)
    · replace hm := ifT hm hb8
      refine WJ.quiet_draw follows (by kernel_rfl) ?_
      refine QJ.step (YldS.yld (y_move rfl)) rfl ?_
      refine QJ.step (YldS.yld (y_nil rfl)) rfl ?_
      refine QJ.step (YldS.yld (y_fldB (o := 0) fld157_0 rfl)) rfl ?_
      refine QJ.step (YldS.yld (y_loadB (k := 0) (off := 0) (v := v3) rfl Try.isAgg22 rfl rfl)) rfl ?_
      refine QJ.step (YldS.yld (y_move rfl)) rfl ?_
      refine QJ.step (YldS.yld (y_nil rfl)) rfl ?_
      refine QJ.step (YldS.yld (y_fldB (o := 0) fld157_1 rfl)) rfl ?_
      refine QJ.step (YldS.yld (y_loadB (k := 0) (off := 1) (v := .int .i64 s1.at_) rfl Try.isAgg3 rfl rfl)) rfl ?_
      obtain ⟨e9, h10, hm⟩ := bindS hm
      obtain ⟨ad11, _, rfl, ha12, hy13⟩ := hr4.elem h10
      refine QJ.step (YldS.yld (hy13 Try.runUnderlying22 Try.sizeOf5 rfl rfl)) rfl ?_
      refine QJ.step (YldS.yld (y_load1 (v := .int .u8 (UInt8.toNat e9 : Int)) Try.isAgg5 ha12 St.frozenC rfl)) rfl ?_
      refine QJ.step (YldS.yld (y_conv8 Try.runUnderlying5 Try.runUnderlying3 rfl)) rfl ?_
      refine QJ.step (YldS.yld (y_assign rfl)) rfl ?_
      refine QJ.done ?_
      exact PJ.joined (UInt8.toNat e9 : Int) [0] hm ⟨rfl, rfl, trivial⟩ ⟨by decide, rfl⟩
    · replace hm := ifF hm hb8
      refine WJ.skip ?_
      exact PJ.joined 0 [0] hm ⟨rfl, rfl, trivial⟩ ⟨by decide, rfl⟩
  · rintro b5 hm
    subst hk7
    refine WJ.seq ?_
    refine WJ.reg ?_
    refine SJ.q (YldS.yld (y_move rfl)) rfl ?_
    refine SJ.q (YldS.yld (y_nil rfl)) rfl ?_
    refine SJ.q (YldS.yld (y_fldB (o := 0) fld157_1 rfl)) rfl ?_
    refine SJ.q (YldS.yld (y_loadB (k := 0) (off := 1) (v := .int .i64 s1.at_) rfl Try.isAgg3 rfl rfl)) rfl ?_
    refine SJ.q (YldS.yld (y_bin rfl rfl rfl)) rfl ?_
    refine SJ.q (YldS.yld (y_nil rfl)) rfl ?_
    refine SJ.q (YldS.yld (y_fldB (o := 0) fld157_1 rfl)) rfl ?_
    refine SJ.storeL (k := 0) (off := 1) (us := [.int .i64 (w64 (s1.at_ + 1))]) rfl rfl rfl rfl Try.sizeOf3 rfl rfl ?_
    refine SJ.nil ?_
    refine PJ.next ?_
    refine WJ.seq ?_
    refine WJ.reg ?_
    refine SJ.q (YldS.yld (y_move rfl)) rfl ?_
    refine SJ.q (YldS.yld (y_move rfl)) rfl ?_
    refine SJ.q (YldS.yld (y_nil rfl)) rfl ?_
    refine SJ.q (YldS.yld (y_fldB (o := 0) fld157_2 rfl)) rfl ?_
    refine SJ.q (YldS.yld (y_loadB (k := 0) (off := 2) (v := .int .u64 s1.seed) rfl Try.isAgg155 rfl rfl)) rfl ?_
    refine SJ.q (YldS.yld (y_bin rfl rfl rfl)) rfl ?_
    refine SJ.q (YldS.yld (y_move rfl)) rfl ?_
    refine SJ.q (YldS.yld (y_convI Try.runUnderlying3 Try.runUnderlying155 rfl)) rfl ?_
    refine SJ.q (YldS.yld (y_bin rfl rfl rfl)) rfl ?_
    refine SJ.q (YldS.yld (y_bin rfl rfl rfl)) rfl ?_
    refine SJ.q (YldS.yld (y_nil rfl)) rfl ?_
    refine SJ.q (YldS.yld (y_fldB (o := 0) fld157_2 rfl)) rfl ?_
    refine SJ.storeL (k := 0) (off := 2) (us := [.int .u64 (IntKind.u64.wrap ((IntKind.u64.wrap ((IntKind.u64.wrap (s1.seed * 6364136223846793005)) + (IntKind.u64.wrap b5))) + 1442695040888963407))]) rfl rfl rfl rfl Try.sizeOf155 rfl rfl ?_
    refine SJ.nil ?_
    refine PJ.next ?_
    refine WJ.seq ?_
    refine WJ.seq ?_
    refine WJ.quiet_draw follows (by kernel_rfl) ?_
    refine QJ.step (YldS.yld (y_move rfl)) rfl ?_
    refine QJ.step (YldS.yld (y_nil rfl)) rfl ?_
    refine QJ.step (YldS.yld (y_fldB (o := 0) fld157_1 rfl)) rfl ?_
    refine QJ.step (YldS.yld (y_loadB (k := 0) (off := 1) (v := .int .i64 (w64 (s1.at_ + 1))) rfl Try.isAgg3 rfl rfl)) rfl ?_
    refine QJ.step (YldS.yld (y_move rfl)) rfl ?_
    refine QJ.step (YldS.yld (y_nil rfl)) rfl ?_
    refine QJ.step (YldS.yld (y_fldB (o := 0) fld157_0 rfl)) rfl ?_
    refine QJ.step (YldS.yld (y_loadB (k := 0) (off := 0) (v := v3) rfl Try.isAgg22 rfl rfl)) rfl ?_
    refine QJ.step (YldS.yld (y_lenS Try.runUnderlying22 hr4 rfl)) rfl ?_
    refine QJ.step (YldS.yld (y_bin rfl rfl rfl)) rfl ?_
    refine QJ.done ?_
    refine PJ.next ?_
    refine WJ.cond (t := decide ((w64 (s1.at_ + 1)) ≤ (List.length s1.code : Int))) rfl (fun hb14 => ?_) (fun hb14 => ?_)
    · replace hm := ifT hm hb14
      refine WJ.seq ?_
      refine WJ.quiet ?_
      refine QJ.step (YldS.yld (y_move rfl)) rfl ?_
      refine QJ.step (YldS.yld (y_assign rfl)) rfl ?_
      refine QJ.done ?_
      refine PJ.next ?_
      refine WJ.ret ?_
      refine PJ.then_ret ?_
      obtain rfl := Option.some.inj hm
      refine PJ.sel (L' := [box g2 157 [v3, .int .i64 (w64 (s1.at_ + 1)), .int .u64 (IntKind.u64.wrap ((IntKind.u64.wrap ((IntKind.u64.wrap (s1.seed * 6364136223846793005)) + (IntKind.u64.wrap b5))) + 1442695040888963407))]]) [0] ⟨by decide, rfl⟩ ?_
      exact PJ.retn (vs := [.int .i64 b5]) Try.results121 ⟨rfl, trivial⟩ ⟨rfl, rfl⟩
    · replace hm := ifF hm hb14
      refine WJ.skip ?_
      refine PJ.next ?_
      refine WJ.seq ?_
      refine WJ.quiet ?_
      refine QJ.step (YldS.yld (y_move rfl)) rfl ?_
      refine QJ.step (YldS.yld (y_nil rfl)) rfl ?_
      refine QJ.step (YldS.yld (y_fldB (o := 0) fld157_2 rfl)) rfl ?_
      refine QJ.step (YldS.yld (y_loadB (k := 0) (off := 2) (v := .int .u64 (IntKind.u64.wrap ((IntKind.u64.wrap ((IntKind.u64.wrap (s1.seed * 6364136223846793005)) + (IntKind.u64.wrap b5))) + 1442695040888963407))) rfl Try.isAgg155 rfl rfl)) rfl ?_
      refine QJ.step (YldS.yld (y_shru rfl rfl rfl)) rfl ?_
      refine QJ.step (YldS.yld (y_andu rfl rfl rfl)) rfl ?_
      refine QJ.step (YldS.yld (y_convI Try.runUnderlying155 Try.runUnderlying2 rfl)) rfl ?_
      refine QJ.step (YldS.yld (y_assign rfl)) rfl ?_
      refine QJ.done ?_
      refine PJ.next ?_
      refine WJ.ret ?_
      obtain rfl := Option.some.inj hm
      refine PJ.sel (L' := [box g2 157 [v3, .int .i64 (w64 (s1.at_ + 1)), .int .u64 (IntKind.u64.wrap ((IntKind.u64.wrap ((IntKind.u64.wrap (s1.seed * 6364136223846793005)) + (IntKind.u64.wrap b5))) + 1442695040888963407))]]) [0] ⟨by decide, rfl⟩ ?_
      exact PJ.retn (vs := [.int .i64 (w64 (uand (ushr (IntKind.u64.wrap ((IntKind.u64.wrap ((IntKind.u64.wrap (s1.seed * 6364136223846793005)) + (IntKind.u64.wrap b5))) + 1442695040888963407)) 40) 255))]) Try.results121 ⟨rfl, trivial⟩ ⟨rfl, rfl⟩

set_option maxRecDepth 100000 in
set_option maxHeartbeats 1000000 in
theorem ok_s_l00Src_pick {s1 : L00Src} {n5 : Int} {g2 : Nat} {r : Int × L00Src} (hm : s_l00Src_pick s1 n5 = some r) (w : World) (S : Nat → Prop) (v3 : Value) (hr4 : RdS w (Cx.Fz ⟨w, S⟩) v3 fByte.rp s1.code) (hA : (box g2 157 [v3, .int .i64 s1.at_, .int .u64 s1.seed]).holds w S) :
    Calls Try.prog 83 #[pt g2 0, .int .i64 n5] w (RetG ⟨w, S⟩ fun u L => (u = .int .i64 r.1 ∧ L = [box g2 157 [v3, .int .i64 r.2.at_, .int .u64 r.2.seed]])) := by
  unfold s_l00Src_pick at hm
  refine Calls.enter1 hA [pt g2 0, .int .i64 n5] Try.func83 rfl Try.ntmps83 rfl ?_
  refine WJ.seq ?_
  refine WJ.quiet ?_
  refine QJ.step (YldS.yld (y_assign rfl)) rfl ?_
  refine QJ.done ?_
  refine PJ.next ?_
  refine WJ.seq ?_
  refine WJ.seq ?_
  refine WJ.quiet ?_
  refine QJ.step (YldS.yld (y_move rfl)) rfl ?_
  refine QJ.step (YldS.yld (y_bin rfl rfl rfl)) rfl ?_
  refine QJ.done ?_
  refine PJ.next ?_
  refine WJ.cond (t := decide (n5 ≤ 1)) rfl (fun hb6 => ?_) (fun hb6 => ?_)
  · replace hm := ifT hm hb6
    refine WJ.seq ?_
    refine WJ.quiet ?_
    refine QJ.step (YldS.yld (y_assign rfl)) rfl ?_
    refine QJ.done ?_
    refine PJ.next ?_
    refine WJ.ret ?_
    refine PJ.then_ret ?_
    obtain rfl := Option.some.inj hm
    refine PJ.sel (L' := [box g2 157 [v3, .int .i64 s1.at_, .int .u64 s1.seed]]) [0] ⟨by decide, rfl⟩ ?_
    exact PJ.retn (vs := [.int .i64 0]) Try.results83 ⟨rfl, trivial⟩ ⟨rfl, rfl⟩
  · replace hm := ifF hm hb6
    refine WJ.skip ?_
    refine PJ.next ?_
    refine WJ.seq ?_
    refine WJ.reg ?_
    refine SJ.q (YldS.yld (y_move rfl)) rfl ?_
    obtain ⟨r7, h8, hm⟩ := bindS hm
    refine SJ.call1 (k := 0) rfl Try.call121 rfl (fun w S hw hA hO => ok_s_l00Src_next h8 w S _ (hr4.st1 hw hO) hA) rfl ?_
    rintro _ _ ⟨rfl, rfl⟩
    refine SJ.q (YldS.yld (y_assign rfl)) rfl ?_
    refine SJ.nil ?_
    refine PJ.next ?_
    obtain ⟨kj12, hk13, hm⟩ := withK_open hm
    refine WJ.join (X := Int × Int × Int) (fun (x : Int × Int × Int) => kj12 x.1 x.2.1 x.2.2 = some r) (fun (x : Int × Int × Int) => [(1, .int .i64 n5), (5, .int .i64 x.2.2)]) (fun (x : Int × Int × Int) => [box g2 157 [v3, .int .i64 x.1, .int .u64 x.2.1]]) ?_ ?_
    · clear hk13
      refine WJ.seq ?_
      refine WJ.quiet ?_
      refine QJ.step (YldS.yld (y_move rfl)) rfl ?_
      refine QJ.step (YldS.yld (y_bin rfl rfl rfl)) rfl ?_
      refine QJ.done ?_
      refine PJ.next ?_
      refine WJ.cond (t := decide (n5 > 200)) rfl (fun hb14 => ?_) (fun hb14 => ?_)
      · replace hm := ifT hm hb14
        refine WJ.reg ?_
        refine SJ.q (YldS.yld (y_move rfl)) rfl ?_
        refine SJ.q (YldS.yld (y_bin rfl rfl rfl)) rfl ?_
        refine SJ.q (YldS.yld (y_move rfl)) rfl ?_
        obtain ⟨r15, h16, hm⟩ := bindS hm
        refine SJ.call1 (k := 0) rfl Try.call121 rfl (fun w S hw hA hO => ok_s_l00Src_next h16 w S _ (hr4.st1 hw hO) hA) rfl ?_
        rintro _ _ ⟨rfl, rfl⟩
        refine SJ.q (YldS.yld (y_bin rfl rfl rfl)) rfl ?_
        refine SJ.q (YldS.yld (y_assign rfl)) rfl ?_
        refine SJ.nil ?_
        exact PJ.joined (r15.2.at_, r15.2.seed, w64 ((w64 (r7.1 * 256)) + r15.1)) [0] hm ⟨rfl, rfl, trivial⟩ ⟨by decide, rfl⟩
      · replace hm := ifF hm hb14
        refine WJ.skip ?_
        exact PJ.joined (r7.2.at_, r7.2.seed, r7.1) [0] hm ⟨rfl, rfl, trivial⟩ ⟨by decide, rfl⟩
    · rintro ⟨x9, x10, x11⟩ hm
      subst hk13
      refine WJ.seq ?_
      refine WJ.quiet ?_
      refine QJ.step (YldS.yld (y_move rfl)) rfl ?_
      refine QJ.step (YldS.yld (y_move rfl)) rfl ?_
      obtain ⟨q17, h18, hm⟩ := bindS hm
      refine QJ.step (YldS.yld (y_rem' h18 rfl rfl)) rfl ?_
      refine QJ.step (YldS.yld (y_assign rfl)) rfl ?_
      refine QJ.done ?_
      refine PJ.next ?_
      refine WJ.ret ?_
      obtain rfl := Option.some.inj hm
      refine PJ.sel (L' := [box g2 157 [v3, .int .i64 x9, .int .u64 x10]]) [0] ⟨by decide, rfl⟩ ?_
      exact PJ.retn (vs := [.int .i64 q17]) Try.results83 ⟨rfl, trivial⟩ ⟨rfl, rfl⟩

set_option maxRecDepth 100000 in
set_option maxHeartbeats 1000000 in
theorem ok_s_l00Src_among {s1 : L00Src} {list5 : List Int} {g2 : Nat} {r : Int × L00Src} (hm : s_l00Src_among s1 list5 = some r) (w : World) (S : Nat → Prop) (v3 : Value) (hr4 : RdS w (Cx.Fz ⟨w, S⟩) v3 fByte.rp s1.code) (v6 : Value) (hr7 : RdS w (Cx.Fz ⟨w, S⟩) v6 fI64.rp list5) (hA : (box g2 157 [v3, .int .i64 s1.at_, .int .u64 s1.seed]).holds w S) :
    Calls Try.prog 118 #[pt g2 0, v6] w (RetG ⟨w, S⟩ fun u L => (u = .int .i64 r.1 ∧ L = [box g2 157 [v3, .int .i64 r.2.at_, .int .u64 r.2.seed]])) := by
  unfold s_l00Src_among at hm
  refine Calls.enter1 hA [pt g2 0, v6] Try.func118 rfl Try.ntmps118 rfl ?_
  refine WJ.seq ?_
  refine WJ.quiet ?_
  refine QJ.step (YldS.yld (y_assign rfl)) rfl ?_
  refine QJ.done ?_
  refine PJ.next ?_
  refine WJ.seq ?_
  refine WJ.reg ?_
  refine SJ.q (YldS.yld (y_move rfl)) rfl ?_
  refine SJ.q (YldS.yld (y_move rfl)) rfl ?_
  refine SJ.q (YldS.yld (y_move rfl)) rfl ?_
  refine SJ.q (YldS.yld (y_lenS Try.runUnderlying69 hr7 rfl)) rfl ?_
  obtain ⟨r8, h9, hm⟩ := bindS hm
  refine SJ.call1 (k := 0) rfl Try.call83 rfl (fun w S hw hA hO => ok_s_l00Src_pick h9 w S _ (hr4.st1 hw hO) hA) rfl ?_
  rintro _ _ ⟨rfl, rfl⟩
  obtain ⟨e10, h11, hm⟩ := bindS hm
  obtain ⟨ad12, _, rfl, ha13, hy14⟩ := hr7.elem h11
  refine SJ.q (YldS.yld (hy14 Try.runUnderlying69 Try.sizeOf2 rfl rfl)) rfl ?_
  refine SJ.q (YldS.yld (y_load1 (v := .int .i64 e10) Try.isAgg2 ha13 St.frozenC rfl)) rfl ?_
  refine SJ.q (YldS.yld (y_assign rfl)) rfl ?_
  refine SJ.nil ?_
  refine PJ.next ?_
  refine WJ.ret ?_
  obtain rfl := Option.some.inj hm
  refine PJ.sel (L' := [box g2 157 [v3, .int .i64 r8.2.at_, .int .u64 r8.2.seed]]) [0] ⟨by decide, rfl⟩ ?_
  exact PJ.retn (vs := [.int .i64 e10]) Try.results118 ⟨rfl, trivial⟩ ⟨rfl, rfl⟩

set_option maxRecDepth 100000 in
set_option maxHeartbeats 1000000 in
theorem ok_s_l04Draw {s1 : L00Src} {g2 : Nat} {r : Carriage × L00Src} (hm : s_l04Draw s1 = some r) (w : World) (S : Nat → Prop) (v3 : Value) (hr4 : RdS w (Cx.Fz ⟨w, S⟩) v3 fByte.rp s1.code) (hA : (box g2 157 [v3, .int .i64 s1.at_, .int .u64 s1.seed]).holds w S) :
    Calls Try.prog 82 #[pt g2 0] w (RetG ⟨w, S⟩ fun u L => (u = .agg (Carriage.enc r.1).toArray ∧ L = [box g2 157 [v3, .int .i64 r.2.at_, .int .u64 r.2.seed]])) := by
  unfold s_l04Draw at hm
  refine Calls.enter1 hA [pt g2 0] Try.func82 rfl Try.ntmps82 rfl ?_
  refine WJ.seq ?_
  refine WJ.reg ?_
  refine SJ.alloc (cs := [.int .i64 0, .int .i64 0, .int .i64 0]) Try.zeroValue45 rfl rfl fun g5 => ?_
  refine SJ.nil ?_
  refine PJ.next ?_
  refine WJ.seq ?_
  refine WJ.reg ?_
  refine SJ.q (YldS.yld (y_move rfl)) rfl ?_
  obtain ⟨r6, h7, hm⟩ := bindS hm
  refine SJ.call1 (k := 1) rfl Try.call83 rfl (fun w S hw hA hO => ok_s_l00Src_pick h7 w S _ (hr4.st1 hw hO) hA) rfl ?_
  rintro _ _ ⟨rfl, rfl⟩
  refine SJ.q (YldS.yld (y_build (parts := [(0, .tmp 5)]) (places := [(0, 1), (1, 1), (2, 1)]) (r := [.int .i64 ((Carriage.mk r6.1 0 0).left), .int .i64 ((Carriage.mk r6.1 0 0).right), .int .i64 ((Carriage.mk r6.1 0 0).bell)]) pl45 Try.zeroValue45 rfl rfl rfl rfl)) rfl ?_
  refine SJ.alloc (cs := [.int .i64 0, .int .i64 0, .int .i64 0]) Try.zeroValue45 rfl rfl fun g8 => ?_
  refine SJ.storeL (k := 0) (off := 0) (us := [.int .i64 ((Carriage.mk r6.1 0 0).left), .int .i64 ((Carriage.mk r6.1 0 0).right), .int .i64 ((Carriage.mk r6.1 0 0).bell)]) rfl rfl rfl rfl Try.sizeOf45 rfl rfl ?_
  refine SJ.nil ?_
  refine PJ.next ?_
  refine WJ.seq ?_
  obtain ⟨r9, h10, hm⟩ := bindS hm
  refine WJ.draws (N := 8) (listed0 := #[false, false, false, false, false, false, false, false]) [box g5 45 [.int .i64 0, .int .i64 0, .int .i64 0]] follows rfl rfl ?_
  refine RJ.first 0 (listed' := #[true, false, false, false, false, false, false, false]) [2] rfl (by kernel_rfl) rfl ⟨by decide, rfl⟩ (y_fldB (o := 0) fld45_0 rfl) rfl ?_
  refine RJ.first 3 (listed' := #[true, false, false, true, false, false, false, false]) [2] rfl (by kernel_rfl) rfl ⟨by decide, rfl⟩ (y_move rfl) rfl ?_
  refine RJ.hold (X := Unit) 3 #[true, true, true, true, true, false, false, false] (fun (_ : Unit) => [(0, pt g2 0), (2, pt g5 0), (3, pt g8 0), (9, .int .i64 (w64 (((Carriage.mk r6.1 0 0).left) + 20))), (11, .int .i64 r9.1)]) (fun (_ : Unit) => [box g2 157 [v3, .int .i64 r9.2.at_, .int .u64 r9.2.seed], box g8 45 [.int .i64 ((Carriage.mk r6.1 0 0).left), .int .i64 ((Carriage.mk r6.1 0 0).right), .int .i64 ((Carriage.mk r6.1 0 0).bell)], box g5 45 [.int .i64 0, .int .i64 0, .int .i64 0]]) ?_ ?_
  · rintro _
    refine RJ.first 5 (listed' := #[true, true, true, true, true, true, false, false]) [2] rfl (by kernel_rfl) rfl ⟨by decide, rfl⟩ (y_bin rfl rfl rfl) rfl ?_
    refine RJ.first 6 (listed' := #[true, true, true, true, true, true, true, false]) [2] rfl (by kernel_rfl) rfl ⟨by decide, rfl⟩ (y_fldB (o := 0) fld45_1 rfl) rfl ?_
    refine RJ.step1 7 [2] (by kernel_rfl) ⟨by decide, rfl⟩ ?_
    refine RO.of (listed' := #[true, true, true, true, true, true, true, true]) rfl rfl ?_
    refine SJ.storeL (k := 1) (off := 1) (us := [.int .i64 (w64 ((w64 (((Carriage.mk r6.1 0 0).left) + 20)) + r9.1))]) rfl rfl rfl rfl Try.sizeOf2 rfl rfl ?_
    refine SJ.nil ?_
    refine PJ.draw ?_
    refine RJ.fin [2] (by kernel_rfl) ⟨by decide, rfl⟩ ?_
    refine PJ.next ?_
    refine WJ.seq ?_
    obtain ⟨r12, h13, hm⟩ := bindS hm
    refine WJ.draws (N := 7) (listed0 := #[false, false, false, false, false, false, false]) [box g5 45 [.int .i64 0, .int .i64 0, .int .i64 0]] follows rfl rfl ?_
    refine RJ.first 0 (listed' := #[true, false, false, false, false, false, false]) [2] rfl (by kernel_rfl) rfl ⟨by decide, rfl⟩ (y_fldB (o := 0) fld45_1 rfl) rfl ?_
    refine RJ.first 2 (listed' := #[true, false, true, false, false, false, false]) [2] rfl (by kernel_rfl) rfl ⟨by decide, rfl⟩ (y_move rfl) rfl ?_
    refine RJ.hold (X := Unit) 3 #[true, true, true, true, false, false, false] (fun (_ : Unit) => [(0, pt g2 0), (2, pt g5 0), (3, pt g8 0), (15, .int .i64 (w64 ((w64 (((Carriage.mk r6.1 0 0).left) + 20)) + r9.1))), (17, .int .i64 r12.1)]) (fun (_ : Unit) => [box g2 157 [v3, .int .i64 r12.2.at_, .int .u64 r12.2.seed], box g8 45 [.int .i64 ((Carriage.mk r6.1 0 0).left), .int .i64 (w64 ((w64 (((Carriage.mk r6.1 0 0).left) + 20)) + r9.1)), .int .i64 ((Carriage.mk r6.1 0 0).bell)], box g5 45 [.int .i64 0, .int .i64 0, .int .i64 0]]) ?_ ?_
    · rintro _
      refine RJ.first 4 (listed' := #[true, true, true, true, true, false, false]) [2] rfl (by kernel_rfl) rfl ⟨by decide, rfl⟩ (y_bin rfl rfl rfl) rfl ?_
      refine RJ.first 5 (listed' := #[true, true, true, true, true, true, false]) [2] rfl (by kernel_rfl) rfl ⟨by decide, rfl⟩ (y_fldB (o := 0) fld45_2 rfl) rfl ?_
      refine RJ.step1 6 [2] (by kernel_rfl) ⟨by decide, rfl⟩ ?_
      refine RO.of (listed' := #[true, true, true, true, true, true, true]) rfl rfl ?_
      refine SJ.storeL (k := 1) (off := 2) (us := [.int .i64 (w64 ((w64 ((w64 (((Carriage.mk r6.1 0 0).left) + 20)) + r9.1)) - r12.1))]) rfl rfl rfl rfl Try.sizeOf2 rfl rfl ?_
      refine SJ.nil ?_
      refine PJ.draw ?_
      refine RJ.fin [2] (by kernel_rfl) ⟨by decide, rfl⟩ ?_
      refine PJ.next ?_
      obtain ⟨kj20, hk21, hm⟩ := withK_open hm
      refine WJ.join (X := Int × Int × Int × Int × Int) (fun (x : Int × Int × Int × Int × Int) => kj20 x.1 x.2.1 x.2.2.1 x.2.2.2.1 x.2.2.2.2 = some r) (fun (x : Int × Int × Int × Int × Int) => [(2, pt g5 0), (3, pt g8 0)]) (fun (x : Int × Int × Int × Int × Int) => [box g2 157 [v3, .int .i64 x.1, .int .u64 x.2.1], box g8 45 [.int .i64 x.2.2.1, .int .i64 x.2.2.2.1, .int .i64 x.2.2.2.2], box g5 45 [.int .i64 0, .int .i64 0, .int .i64 0]]) ?_ ?_
      · clear hk21
        refine WJ.seq ?_
        refine WJ.reg ?_
        refine SJ.q (YldS.yld (y_move rfl)) rfl ?_
        obtain ⟨r22, h23, hm⟩ := bindS hm
        refine SJ.call1 (k := 0) rfl Try.call83 rfl (fun w S hw hA hO => ok_s_l00Src_pick h23 w S _ (hr4.st1 hw hO) hA) rfl ?_
        rintro _ _ ⟨rfl, rfl⟩
        refine SJ.nil ?_
        refine PJ.next ?_
        refine WJ.block ?_
        refine WJ.seq ?_
        refine WJ.quiet ?_
        refine QJ.step (YldS.yld (y_bin rfl rfl rfl)) rfl ?_
        refine QJ.step (YldS.yld (y_assign rfl)) rfl ?_
        refine QJ.done ?_
        refine PJ.next ?_
        refine WJ.cond (t := (r22.1 == 0)) rfl (fun hb24 => ?_) (fun hb24 => ?_)
        · replace hm := ifT hm hb24
          refine WJ.reg ?_
          refine SJ.q (YldS.yld (y_move rfl)) rfl ?_
          refine SJ.q (YldS.yld (y_fldB (o := 0) fld45_1 rfl)) rfl ?_
          refine SJ.q (YldS.yld (y_loadB (k := 1) (off := 1) (v := .int .i64 (w64 ((w64 (((Carriage.mk r6.1 0 0).left) + 20)) + r9.1))) rfl Try.isAgg2 rfl rfl)) rfl ?_
          refine SJ.q (YldS.yld (y_bin rfl rfl rfl)) rfl ?_
          refine SJ.q (YldS.yld (y_fldB (o := 0) fld45_1 rfl)) rfl ?_
          refine SJ.q (YldS.yld (y_loadB (k := 1) (off := 1) (v := .int .i64 (w64 ((w64 (((Carriage.mk r6.1 0 0).left) + 20)) + r9.1))) rfl Try.isAgg2 rfl rfl)) rfl ?_
          refine SJ.q (YldS.yld (y_bin rfl rfl rfl)) rfl ?_
          refine SJ.q (YldS.yld (y_bin rfl rfl rfl)) rfl ?_
          refine SJ.buildSlice (R := fI64) (os := [.const (.int .i64 (-1)), .const (.int .i64 0), .tmp 27, .tmp 31, .const (.int .i64 (-9223372036854775808))]) [(-1), 0, w64 ((w64 ((w64 (((Carriage.mk r6.1 0 0).left) + 20)) + r9.1)) - 20), w64 ((w64 ((w64 ((w64 (((Carriage.mk r6.1 0 0).left) + 20)) + r9.1)) - 20)) + 1), (-9223372036854775808)] Try.runUnderlying69 Try.sizeOf2 Try.zeroValue2 rfl rfl rfl rfl rfl rfl fun v25 => ?_
          obtain ⟨r26, h27, hm⟩ := bindS hm
          refine SJ.call2 (k := 1) rfl Try.call118 rfl (fun w S hw hA hO hB => ok_s_l00Src_among h27 w S _ (hr4.st1 hw hO) _ (hB.row_rd (j := 0) (k := 1) rfl rfl) hA) rfl ?_
          rintro _ _ ⟨rfl, rfl⟩
          refine SJ.q (YldS.yld (y_fldB (o := 0) fld45_0 rfl)) rfl ?_
          refine SJ.storeL (k := 2) (off := 0) (us := [.int .i64 r26.1]) rfl rfl rfl rfl Try.sizeOf2 rfl rfl ?_
          refine SJ.nil ?_
          refine PJ.block_normal ?_
          exact PJ.joined (r26.2.at_, r26.2.seed, r26.1, w64 ((w64 (((Carriage.mk r6.1 0 0).left) + 20)) + r9.1), w64 ((w64 ((w64 (((Carriage.mk r6.1 0 0).left) + 20)) + r9.1)) - r12.1)) [0, 2, 3] hm ⟨rfl, rfl, trivial⟩ ⟨by decide, rfl⟩
        · replace hm := ifF hm hb24
          refine WJ.seq ?_
          refine WJ.quiet ?_
          refine QJ.step (YldS.yld (y_bin rfl rfl rfl)) rfl ?_
          refine QJ.step (YldS.yld (y_assign rfl)) rfl ?_
          refine QJ.done ?_
          refine PJ.next ?_
          refine WJ.cond (t := (r22.1 == 1)) rfl (fun hb28 => ?_) (fun hb28 => ?_)
          · replace hm := ifT hm hb28
            refine WJ.reg ?_
            refine SJ.q (YldS.yld (y_move rfl)) rfl ?_
            refine SJ.buildSlice (R := fI64) (os := [.const (.int .i64 (-1)), .const (.int .i64 300), .const (.int .i64 301)]) [(-1), 300, 301] Try.runUnderlying69 Try.sizeOf2 Try.zeroValue2 rfl rfl rfl rfl rfl rfl fun v29 => ?_
            obtain ⟨r30, h31, hm⟩ := bindS hm
            refine SJ.call2 (k := 1) rfl Try.call118 rfl (fun w S hw hA hO hB => ok_s_l00Src_among h31 w S _ (hr4.st1 hw hO) _ (hB.row_rd (j := 0) (k := 1) rfl rfl) hA) rfl ?_
            rintro _ _ ⟨rfl, rfl⟩
            refine SJ.q (YldS.yld (y_fldB (o := 0) fld45_1 rfl)) rfl ?_
            refine SJ.storeL (k := 2) (off := 1) (us := [.int .i64 r30.1]) rfl rfl rfl rfl Try.sizeOf2 rfl rfl ?_
            refine SJ.nil ?_
            refine PJ.block_normal ?_
            exact PJ.joined (r30.2.at_, r30.2.seed, (Carriage.mk r6.1 0 0).left, r30.1, w64 ((w64 ((w64 (((Carriage.mk r6.1 0 0).left) + 20)) + r9.1)) - r12.1)) [0, 2, 3] hm ⟨rfl, rfl, trivial⟩ ⟨by decide, rfl⟩
          · replace hm := ifF hm hb28
            refine WJ.seq ?_
            refine WJ.quiet ?_
            refine QJ.step (YldS.yld (y_bin rfl rfl rfl)) rfl ?_
            refine QJ.step (YldS.yld (y_assign rfl)) rfl ?_
            refine QJ.done ?_
            refine PJ.next ?_
            refine WJ.cond (t := (r22.1 == 2)) rfl (fun hb32 => ?_) (fun hb32 => ?_)
            · replace hm := ifT hm hb32
              refine WJ.reg ?_
              refine SJ.q (YldS.yld (y_move rfl)) rfl ?_
              refine SJ.q (YldS.yld (y_fldB (o := 0) fld45_0 rfl)) rfl ?_
              refine SJ.q (YldS.yld (y_loadB (k := 1) (off := 0) (v := .int .i64 ((Carriage.mk r6.1 0 0).left)) rfl Try.isAgg2 rfl rfl)) rfl ?_
              refine SJ.q (YldS.yld (y_bin rfl rfl rfl)) rfl ?_
              refine SJ.q (YldS.yld (y_fldB (o := 0) fld45_0 rfl)) rfl ?_
              refine SJ.q (YldS.yld (y_loadB (k := 1) (off := 0) (v := .int .i64 ((Carriage.mk r6.1 0 0).left)) rfl Try.isAgg2 rfl rfl)) rfl ?_
              refine SJ.q (YldS.yld (y_fldB (o := 0) fld45_1 rfl)) rfl ?_
              refine SJ.q (YldS.yld (y_loadB (k := 1) (off := 1) (v := .int .i64 (w64 ((w64 (((Carriage.mk r6.1 0 0).left) + 20)) + r9.1))) rfl Try.isAgg2 rfl rfl)) rfl ?_
              refine SJ.q (YldS.yld (y_fldB (o := 0) fld45_1 rfl)) rfl ?_
              refine SJ.q (YldS.yld (y_loadB (k := 1) (off := 1) (v := .int .i64 (w64 ((w64 (((Carriage.mk r6.1 0 0).left) + 20)) + r9.1))) rfl Try.isAgg2 rfl rfl)) rfl ?_
              refine SJ.q (YldS.yld (y_bin rfl rfl rfl)) rfl ?_
              refine SJ.buildSlice (R := fI64) (os := [.const (.int .i64 (-1)), .tmp 46, .tmp 48, .tmp 50, .tmp 53]) [(-1), w64 (((Carriage.mk r6.1 0 0).left) - 1), (Carriage.mk r6.1 0 0).left, w64 ((w64 (((Carriage.mk r6.1 0 0).left) + 20)) + r9.1), w64 ((w64 ((w64 (((Carriage.mk r6.1 0 0).left) + 20)) + r9.1)) + 1)] Try.runUnderlying69 Try.sizeOf2 Try.zeroValue2 rfl rfl rfl rfl rfl rfl fun v33 => ?_
              obtain ⟨r34, h35, hm⟩ := bindS hm
              refine SJ.call2 (k := 1) rfl Try.call118 rfl (fun w S hw hA hO hB => ok_s_l00Src_among h35 w S _ (hr4.st1 hw hO) _ (hB.row_rd (j := 0) (k := 1) rfl rfl) hA) rfl ?_
              rintro _ _ ⟨rfl, rfl⟩
              refine SJ.q (YldS.yld (y_fldB (o := 0) fld45_2 rfl)) rfl ?_
              refine SJ.storeL (k := 2) (off := 2) (us := [.int .i64 r34.1]) rfl rfl rfl rfl Try.sizeOf2 rfl rfl ?_
              refine SJ.nil ?_
              refine PJ.block_normal ?_
              exact PJ.joined (r34.2.at_, r34.2.seed, (Carriage.mk r6.1 0 0).left, w64 ((w64 (((Carriage.mk r6.1 0 0).left) + 20)) + r9.1), r34.1) [0, 2, 3] hm ⟨rfl, rfl, trivial⟩ ⟨by decide, rfl⟩
            · replace hm := ifF hm hb32
              refine WJ.skip ?_
              refine PJ.block_normal ?_
              exact PJ.joined (r22.2.at_, r22.2.seed, (Carriage.mk r6.1 0 0).left, w64 ((w64 (((Carriage.mk r6.1 0 0).left) + 20)) + r9.1), w64 ((w64 ((w64 (((Carriage.mk r6.1 0 0).left) + 20)) + r9.1)) - r12.1)) [0, 1, 2] hm ⟨rfl, rfl, trivial⟩ ⟨by decide, rfl⟩
      · rintro ⟨x15, x16, x17, x18, x19⟩ hm
        subst hk21
        refine WJ.seq ?_
        refine WJ.reg ?_
        refine SJ.q (YldS.yld (y_loadBN (k := 1) (off := 0) (us := [.int .i64 x17, .int .i64 x18, .int .i64 x19]) rfl Try.isAgg45 Try.sizeOf45 rfl rfl)) rfl ?_
        refine SJ.storeL (k := 2) (off := 0) (us := [.int .i64 x17, .int .i64 x18, .int .i64 x19]) rfl rfl rfl rfl Try.sizeOf45 rfl rfl ?_
        refine SJ.nil ?_
        refine PJ.next ?_
        refine WJ.ret ?_
        obtain rfl := Option.some.inj hm
        exact PJ.retn_sel (vs := [.agg #[.int .i64 x17, .int .i64 x18, .int .i64 x19]]) Try.results82 ⟨⟨2, g5, 45, [.int .i64 x17, .int .i64 x18, .int .i64 x19], rfl, rfl, .inl ⟨Try.isAgg45, Try.sizeOf45, rfl⟩⟩, trivial⟩ [0] ⟨by decide, rfl⟩ ⟨rfl, rfl⟩
    · intro hD14
      refine RJ.step2 1 3 [2] (by kernel_rfl) ⟨by decide, rfl⟩ ?_ ?_
      · refine RO.of (listed' := #[true, true, true, false, false, false, false]) rfl rfl ?_
        refine SJ.q (YldS.yld (y_loadB (k := 1) (off := 1) (v := .int .i64 (w64 ((w64 (((Carriage.mk r6.1 0 0).left) + 20)) + r9.1))) rfl Try.isAgg2 rfl rfl)) rfl ?_
        refine SJ.nil ?_
        refine PJ.draw ?_
        refine RJ.step1 3 [2] (by kernel_rfl) ⟨by decide, rfl⟩ ?_
        refine RO.of (listed' := #[true, true, true, true, false, false, false]) rfl rfl ?_
        refine SJ.call1 (k := 0) rfl Try.call83 rfl (fun w S hw hA hO => ok_s_l00Src_pick h13 w S _ (hr4.st1 hw hO) hA) rfl ?_
        rintro _ _ ⟨rfl, rfl⟩
        refine SJ.nil ?_
        refine PJ.draw ?_
        exact RJ.weak (hD14 ()) [0, 1, 2] ⟨rfl, rfl, rfl, rfl, rfl, trivial⟩ ⟨by decide, rfl⟩
      · refine RO.of (listed' := #[true, false, true, true, false, false, false]) rfl rfl ?_
        refine SJ.call1 (k := 0) rfl Try.call83 rfl (fun w S hw hA hO => ok_s_l00Src_pick h13 w S _ (hr4.st1 hw hO) hA) rfl ?_
        rintro _ _ ⟨rfl, rfl⟩
        refine SJ.nil ?_
        refine PJ.draw ?_
        refine RJ.step1 1 [2] (by kernel_rfl) ⟨by decide, rfl⟩ ?_
        refine RO.of (listed' := #[true, true, true, true, false, false, false]) rfl rfl ?_
        refine SJ.q (YldS.yld (y_loadB (k := 1) (off := 1) (v := .int .i64 (w64 ((w64 (((Carriage.mk r6.1 0 0).left) + 20)) + r9.1))) rfl Try.isAgg2 rfl rfl)) rfl ?_
        refine SJ.nil ?_
        refine PJ.draw ?_
        exact RJ.weak (hD14 ()) [0, 1, 2] ⟨rfl, rfl, rfl, rfl, rfl, trivial⟩ ⟨by decide, rfl⟩
  · intro hD11
    refine RJ.step2 1 4 [2] (by kernel_rfl) ⟨by decide, rfl⟩ ?_ ?_
    · refine RO.of (listed' := #[true, true, false, true, false, false, false, false]) rfl rfl ?_
      refine SJ.q (YldS.yld (y_loadB (k := 0) (off := 0) (v := .int .i64 ((Carriage.mk r6.1 0 0).left)) rfl Try.isAgg2 rfl rfl)) rfl ?_
      refine SJ.nil ?_
      refine PJ.draw ?_
      refine RJ.first 2 (listed' := #[true, true, true, true, false, false, false, false]) [2] rfl (by kernel_rfl) rfl ⟨by decide, rfl⟩ (y_bin rfl rfl rfl) rfl ?_
      refine RJ.step1 4 [2] (by kernel_rfl) ⟨by decide, rfl⟩ ?_
      refine RO.of (listed' := #[true, true, true, true, true, false, false, false]) rfl rfl ?_
      refine SJ.call1 (k := 1) rfl Try.call83 rfl (fun w S hw hA hO => ok_s_l00Src_pick h10 w S _ (hr4.st1 hw hO) hA) rfl ?_
      rintro _ _ ⟨rfl, rfl⟩
      refine SJ.nil ?_
      refine PJ.draw ?_
      exact RJ.weak (hD11 ()) [0, 1, 2] ⟨rfl, rfl, rfl, rfl, rfl, trivial⟩ ⟨by decide, rfl⟩
    · refine RO.of (listed' := #[true, false, false, true, true, false, false, false]) rfl rfl ?_
      refine SJ.call1 (k := 1) rfl Try.call83 rfl (fun w S hw hA hO => ok_s_l00Src_pick h10 w S _ (hr4.st1 hw hO) hA) rfl ?_
      rintro _ _ ⟨rfl, rfl⟩
      refine SJ.nil ?_
      refine PJ.draw ?_
      refine RJ.step1 1 [2] (by kernel_rfl) ⟨by decide, rfl⟩ ?_
      refine RO.of (listed' := #[true, true, false, true, true, false, false, false]) rfl rfl ?_
      refine SJ.q (YldS.yld (y_loadB (k := 1) (off := 0) (v := .int .i64 ((Carriage.mk r6.1 0 0).left)) rfl Try.isAgg2 rfl rfl)) rfl ?_
      refine SJ.nil ?_
      refine PJ.draw ?_
      refine RJ.first 2 (listed' := #[true, true, true, true, true, false, false, false]) [2] rfl (by kernel_rfl) rfl ⟨by decide, rfl⟩ (y_bin rfl rfl rfl) rfl ?_
      exact RJ.weak (hD11 ()) [0, 1, 2] ⟨rfl, rfl, rfl, rfl, rfl, trivial⟩ ⟨by decide, rfl⟩

set_option maxRecDepth 100000 in
set_option maxHeartbeats 1000000 in
theorem ok_s_l00Src_one {s1 : L00Src} {n5 : Int} {g2 : Nat} {r : Bool × L00Src} (hm : s_l00Src_one s1 n5 = some r) (w : World) (S : Nat → Prop) (v3 : Value) (hr4 : RdS w (Cx.Fz ⟨w, S⟩) v3 fByte.rp s1.code) (hA : (box g2 157 [v3, .int .i64 s1.at_, .int .u64 s1.seed]).holds w S) :
    Calls Try.prog 84 #[pt g2 0, .int .i64 n5] w (RetG ⟨w, S⟩ fun u L => (u = .bool r.1 ∧ L = [box g2 157 [v3, .int .i64 r.2.at_, .int .u64 r.2.seed]])) := by
  unfold s_l00Src_one at hm
  refine Calls.enter1 hA [pt g2 0, .int .i64 n5] Try.func84 rfl Try.ntmps84 rfl ?_
  refine WJ.seq ?_
  refine WJ.quiet ?_
  refine QJ.step (YldS.yld (y_assign rfl)) rfl ?_
  refine QJ.done ?_
  refine PJ.next ?_
  refine WJ.seq ?_
  refine WJ.reg ?_
  refine SJ.q (YldS.yld (y_move rfl)) rfl ?_
  refine SJ.q (YldS.yld (y_move rfl)) rfl ?_
  obtain ⟨r6, h7, hm⟩ := bindS hm
  refine SJ.call1 (k := 0) rfl Try.call83 rfl (fun w S hw hA hO => ok_s_l00Src_pick h7 w S _ (hr4.st1 hw hO) hA) rfl ?_
  rintro _ _ ⟨rfl, rfl⟩
  refine SJ.q (YldS.yld (y_bin rfl rfl rfl)) rfl ?_
  refine SJ.q (YldS.yld (y_assign rfl)) rfl ?_
  refine SJ.nil ?_
  refine PJ.next ?_
  refine WJ.ret ?_
  obtain rfl := Option.some.inj hm
  refine PJ.sel (L' := [box g2 157 [v3, .int .i64 r6.2.at_, .int .u64 r6.2.seed]]) [0] ⟨by decide, rfl⟩ ?_
  exact PJ.retn (vs := [.bool (r6.1 == 0)]) Try.results84 ⟨rfl, trivial⟩ ⟨rfl, rfl⟩

set_option maxRecDepth 100000 in
set_option maxHeartbeats 1000000 in
theorem ok_s_DrawActsForLine {N : Nat} {code1 : List UInt8} {r : Carriage × Str} (hm : s_DrawActsForLine N code1 = some r) (w : World) (v2 : Value) (hr3 : RdS w (cx w).Fz v2 fByte.rp code1) :
    Calls Try.prog 20 #[v2] w (Ret (cx w) (tup [.agg (Carriage.enc r.1).toArray, str r.2])) := by
  unfold s_DrawActsForLine at hm
  refine Calls.enter [v2] Try.func20 rfl Try.ntmps20 rfl ?_
  refine WJ.seq ?_
  refine WJ.reg ?_
  refine SJ.alloc (cs := [.int .i64 0, .int .i64 0, .int .i64 0]) Try.zeroValue45 rfl rfl fun g4 => ?_
  refine SJ.q (YldS.yld (y_assign rfl)) rfl ?_
  refine SJ.nil ?_
  refine PJ.next ?_
  refine WJ.seq ?_
  refine WJ.reg ?_
  refine SJ.q (YldS.yld (y_move rfl)) rfl ?_
  obtain ⟨r5, h6, hm⟩ := bindS hm
  refine SJ.call Try.call73 rfl (fun w hw => ok_s_l00From h6 w _ (hr3.st hw)) rfl ?_
  rintro _ _ ⟨g7, rfl, rfl⟩
  refine SJ.q (YldS.yld (y_assign rfl)) rfl ?_
  refine SJ.nil ?_
  refine PJ.next ?_
  refine WJ.seq ?_
  refine WJ.reg ?_
  refine SJ.q (YldS.yld (y_move rfl)) rfl ?_
  obtain ⟨r8, h9, hm⟩ := bindS hm
  refine SJ.call1 (k := 0) rfl Try.call82 rfl (fun w S hw hA hO => ok_s_l04Draw h9 w S _ (hr3.st1 hw hO) hA) rfl ?_
  rintro _ _ ⟨rfl, rfl⟩
  refine SJ.alloc (cs := [.int .i64 0, .int .i64 0, .int .i64 0]) Try.zeroValue45 rfl rfl fun g10 => ?_
  refine SJ.storeL (k := 0) (off := 0) (us := [.int .i64 r8.1.left, .int .i64 r8.1.right, .int .i64 r8.1.bell]) rfl rfl rfl rfl Try.sizeOf45 rfl rfl ?_
  refine SJ.nil ?_
  refine PJ.next ?_
  refine WJ.seq ?_
  refine WJ.reg ?_
  refine SJ.buildSlice (R := fByte) (os := []) [] Try.runUnderlying22 Try.sizeOf5 Try.zeroValue5 rfl rfl rfl rfl rfl rfl fun v11 => ?_
  refine SJ.q (YldS.yld (y_assign rfl)) rfl ?_
  refine SJ.nil ?_
  refine PJ.next ?_
  refine WJ.seq ?_
  refine WJ.reg ?_
  refine SJ.q (YldS.yld (y_move rfl)) rfl ?_
  obtain ⟨r12, h13, hm⟩ := bindS hm
  refine SJ.call1 (k := 2) rfl Try.call83 rfl (fun w S hw hA hO => ok_s_l00Src_pick h13 w S _ (hr3.st1 hw hO) hA) rfl ?_
  rintro _ _ ⟨rfl, rfl⟩
  refine SJ.q (YldS.yld (y_assign rfl)) rfl ?_
  refine SJ.nil ?_
  refine PJ.next ?_
  obtain ⟨kj17, hk18, hm⟩ := withK_open hm
  refine WJ.join (X := Int × Int × Int) (fun (x : Int × Int × Int) => kj17 x.1 x.2.1 x.2.2 = some r) (fun (x : Int × Int × Int) => [(2, pt g4 0), (4, pt g7 0), (5, pt g10 0), (6, v11), (7, .int .i64 x.2.2)]) (fun (x : Int × Int × Int) => [box g7 157 [v2, .int .i64 x.1, .int .u64 x.2.1], row v11 5 fByte [], box g10 45 [.int .i64 r8.1.left, .int .i64 r8.1.right, .int .i64 r8.1.bell], box g4 45 [.int .i64 0, .int .i64 0, .int .i64 0]]) ?_ ?_
  · clear hk18
    refine WJ.seq ?_
    refine WJ.reg ?_
    refine SJ.q (YldS.yld (y_move rfl)) rfl ?_
    obtain ⟨r19, h20, hm⟩ := bindS hm
    refine SJ.call1 (k := 0) rfl Try.call84 rfl (fun w S hw hA hO => ok_s_l00Src_one h20 w S _ (hr3.st1 hw hO) hA) rfl ?_
    rintro _ _ ⟨rfl, rfl⟩
    refine SJ.nil ?_
    refine PJ.next ?_
    refine WJ.cond (t := r19.1) rfl (fun hb21 => ?_) (fun hb21 => ?_)
    · replace hm := ifT hm hb21
      refine WJ.reg ?_
      refine SJ.q (YldS.yld (y_move rfl)) rfl ?_
      obtain ⟨r22, h23, hm⟩ := bindS hm
      refine SJ.call1 (k := 0) rfl Try.call83 rfl (fun w S hw hA hO => ok_s_l00Src_pick h23 w S _ (hr3.st1 hw hO) hA) rfl ?_
      rintro _ _ ⟨rfl, rfl⟩
      refine SJ.q (YldS.yld (y_bin rfl rfl rfl)) rfl ?_
      refine SJ.q (YldS.yld (y_assign rfl)) rfl ?_
      refine SJ.nil ?_
      exact PJ.joined (r22.2.at_, r22.2.seed, w64 (300 + r22.1)) [0, 1, 2, 3] hm ⟨rfl, rfl, rfl, rfl, rfl, trivial⟩ ⟨by decide, rfl⟩
    · replace hm := ifF hm hb21
      refine WJ.skip ?_
      exact PJ.joined (r19.2.at_, r19.2.seed, r12.1) [0, 1, 2, 3] hm ⟨rfl, rfl, rfl, rfl, rfl, trivial⟩ ⟨by decide, rfl⟩
  · rintro ⟨x14, x15, n16⟩ hm
    subst hk18
    obtain ⟨kj28, hk29, hm⟩ := withK_open hm
    refine WJ.join (X := Int × Int × (List UInt8) × Value) (fun (x : Int × Int × (List UInt8) × Value) => kj28 x.1 x.2.1 x.2.2.1 = some r) (fun (x : Int × Int × (List UInt8) × Value) => [(2, pt g4 0), (4, pt g7 0), (5, pt g10 0), (6, x.2.2.2), (7, .int .i64 n16)]) (fun (x : Int × Int × (List UInt8) × Value) => [box g7 157 [v2, .int .i64 x.1, .int .u64 x.2.1], row x.2.2.2 5 fByte x.2.2.1, box g10 45 [.int .i64 r8.1.left, .int .i64 r8.1.right, .int .i64 r8.1.bell], box g4 45 [.int .i64 0, .int .i64 0, .int .i64 0]]) ?_ ?_
    · clear hk29
      refine WJ.seq ?_
      refine WJ.quiet ?_
      refine QJ.step (YldS.yld (y_move rfl)) rfl ?_
      refine QJ.step (YldS.yld (y_assign rfl)) rfl ?_
      refine QJ.done ?_
      refine PJ.next ?_
      refine WJ.block ?_
      refine WJ.sel (L' := (fun (x : Int × Int × (List UInt8) × Value × Int) => [box g7 157 [v2, .int .i64 x.1, .int .u64 x.2.1], row x.2.2.2.1 5 fByte x.2.2.1, box g10 45 [.int .i64 r8.1.left, .int .i64 r8.1.right, .int .i64 r8.1.bell], box g4 45 [.int .i64 0, .int .i64 0, .int .i64 0]]) (x14, x15, [], v11, n16)) [0, 1, 2, 3] ⟨by decide, rfl⟩ ?_
      refine WJ.sub (m' := (fun (x : Int × Int × (List UInt8) × Value × Int) => [(2, pt g4 0), (4, pt g7 0), (5, pt g10 0), (6, x.2.2.2.1), (7, .int .i64 n16), (8, .int .i64 x.2.2.2.2)]) (x14, x15, [], v11, n16)) ⟨rfl, rfl, rfl, rfl, rfl, rfl, trivial⟩ ?_
      refine WJ.loop (X := Int × Int × (List UInt8) × Value × Int) (fun N (x : Int × Int × (List UInt8) × Value × Int) => s_DrawActsForLine_l1 kj28 code1 N x.1 x.2.1 x.2.2.1 x.2.2.2.2 = some r) (fun (x : Int × Int × (List UInt8) × Value × Int) => [(2, pt g4 0), (4, pt g7 0), (5, pt g10 0), (6, x.2.2.2.1), (7, .int .i64 n16), (8, .int .i64 x.2.2.2.2)]) (fun (x : Int × Int × (List UInt8) × Value × Int) => [box g7 157 [v2, .int .i64 x.1, .int .u64 x.2.1], row x.2.2.2.1 5 fByte x.2.2.1, box g10 45 [.int .i64 r8.1.left, .int .i64 r8.1.right, .int .i64 r8.1.bell], box g4 45 [.int .i64 0, .int .i64 0, .int .i64 0]]) ?_ N (x14, x15, [], v11, n16) hm
      · rintro N ⟨x30, x31, l32, v33, k34⟩ hI
        have hm := hI; clear hI
        cases N with
        | zero => cases hm
        | succ N =>
        unfold s_DrawActsForLine_l1 at hm
        refine WJ.seq ?_
        refine WJ.seq ?_
        refine WJ.quiet ?_
        refine QJ.step (YldS.yld (y_move rfl)) rfl ?_
        refine QJ.step (YldS.yld (y_bin rfl rfl rfl)) rfl ?_
        refine QJ.done ?_
        refine PJ.next ?_
        refine WJ.cond (t := decide (k34 > 0)) rfl (fun hb35 => ?_) (fun hb35 => ?_)
        · replace hm := ifT hm hb35
          refine WJ.skip ?_
          refine PJ.next ?_
          refine WJ.seq ?_
          refine WJ.block ?_
          refine WJ.reg ?_
          refine SJ.q (YldS.yld (y_move rfl)) rfl ?_
          refine SJ.q (YldS.yld (y_move rfl)) rfl ?_
          obtain ⟨r36, h37, hm⟩ := bindS hm
          refine SJ.call1 (k := 0) rfl Try.call83 rfl (fun w S hw hA hO => ok_s_l00Src_pick h37 w S _ (hr3.st1 hw hO) hA) rfl ?_
          rintro _ _ ⟨rfl, rfl⟩
          obtain ⟨c38, h39, hm⟩ := bindS hm
          refine SJ.q (YldS.yld (y_idxStr Try.runUnderlying9 rfl rfl h39)) rfl ?_
          refine SJ.buildSlice (R := fByte) (os := [.tmp 29]) [c38] Try.runUnderlying22 Try.sizeOf5 Try.zeroValue5 rfl rfl rfl rfl rfl rfl fun v40 => ?_
          obtain ⟨l41, h42, hm⟩ := bindS hm
          refine SJ.append (k := 2) (R := fByte) h42 rfl Try.underlying22 el5 rfl rfl rfl (fun w hw => (hw.row_rd (k := 0) rfl)) rfl fun v43 => ?_
          refine SJ.q (YldS.yld (y_assign rfl)) rfl ?_
          refine SJ.nil ?_
          refine PJ.block_normal (PJ.next ?_)
          refine WJ.quiet ?_
          refine QJ.step (YldS.yld (y_move rfl)) rfl ?_
          refine QJ.step (YldS.yld (y_bin rfl rfl rfl)) rfl ?_
          refine QJ.step (YldS.yld (y_assign rfl)) rfl ?_
          refine QJ.done ?_
          exact PJ.round (r36.2.at_, r36.2.seed, l41, v43, w64 (k34 - 1)) [1, 2, 3, 4] hm ⟨rfl, rfl, rfl, rfl, rfl, rfl, trivial⟩ ⟨by decide, rfl⟩
        · replace hm := ifF hm hb35
          refine WJ.exit ?_
          refine PJ.then_exit (PJ.then_exit (PJ.block_exit ?_))
          exact PJ.joined (x30, x31, l32, v33) [0, 1, 2, 3] hm ⟨rfl, rfl, rfl, rfl, rfl, trivial⟩ ⟨by decide, rfl⟩
    · rintro ⟨x24, x25, l26, v27⟩ hm
      subst hk29
      obtain ⟨kj45, hk46, hm⟩ := withK_open hm
      refine WJ.join (X := (List UInt8)) (fun (x : (List UInt8)) => kj45 x = some r) (fun (x : (List UInt8)) => [(2, pt g4 0), (5, pt g10 0), (6, v27)]) (fun (x : (List UInt8)) => [row v27 5 fByte x, box g10 45 [.int .i64 r8.1.left, .int .i64 r8.1.right, .int .i64 r8.1.bell], box g4 45 [.int .i64 0, .int .i64 0, .int .i64 0]]) ?_ ?_
      · clear hk46
        refine WJ.seq ?_
        refine WJ.reg ?_
        refine SJ.q (YldS.yld (y_move rfl)) rfl ?_
        refine SJ.q (YldS.yld (y_bin rfl rfl rfl)) rfl ?_
        refine SJ.q (YldS.yld (y_move rfl)) rfl ?_
        obtain ⟨x49, h48, hm⟩ := bindS hm
        refine SJ.cut 3 [(2, pt g4 0), (5, pt g10 0), (6, v27), (37, .bool x49.1)] [box g7 157 [v2, .int .i64 x49.2.at_, .int .u64 x49.2.seed], row v27 5 fByte l26, box g10 45 [.int .i64 r8.1.left, .int .i64 r8.1.right, .int .i64 r8.1.bell], box g4 45 [.int .i64 0, .int .i64 0, .int .i64 0]] ?_ ?_
        · rcases Bool.eq_false_or_eq_true (decide (n16 > 0)) with hb50 | hb50
          · replace h48 := ifT h48 hb50
            refine SJ.on rfl rfl (cB hb50) (SJ.q (YldS.yld (y_move rfl)) rfl ?_)
            obtain ⟨r51, h52, h48⟩ := bindS h48
            refine SJ.on rfl rfl (cB hb50) (SJ.call1 (k := 0) rfl Try.call84 rfl (fun w S hw hA hO => ok_s_l00Src_one h52 w S _ (hr3.st1 hw hO) hA) rfl ?_)
            rintro _ _ ⟨rfl, rfl⟩
            refine SJ.q (YldS.yld (y_pick_t (cB hb50) rfl)) rfl ?_
            obtain rfl := Option.some.inj h48
            exact SJ.cut_end [0, 1, 2, 3] ⟨rfl, rfl, rfl, rfl, trivial⟩ ⟨by decide, rfl⟩
          · replace h48 := ifF h48 hb50
            obtain rfl := Option.some.inj h48
            refine SJ.off rfl rfl (cB hb50) rfl rfl ?_
            refine SJ.off rfl rfl (cB hb50) rfl rfl ?_
            refine SJ.q (YldS.yld (y_pick_f (cB hb50) rfl)) rfl ?_
            exact SJ.cut_end [0, 1, 2, 3] ⟨rfl, rfl, rfl, rfl, trivial⟩ ⟨by decide, rfl⟩
        refine SJ.nil ?_
        refine PJ.next ?_
        refine WJ.cond (t := x49.1) rfl (fun hb53 => ?_) (fun hb53 => ?_)
        · replace hm := ifT hm hb53
          refine WJ.reg ?_
          refine SJ.q (YldS.yld (y_move rfl)) rfl ?_
          obtain ⟨e54, h55, hm⟩ := bindS hm
          refine SJ.q (YldS.yld (y_ixRow (k := 1) (R := fByte) rfl Try.runUnderlying22 Try.sizeOf5 rfl rfl h55)) rfl ?_
          refine SJ.storeRL (k := 1) (i := (Int.toNat 0)) (off := 0) (us := [.int .u8 (UInt8.toNat 127 : Int)]) (b := 127) rfl rfl (idx_get h55) rfl rfl Try.sizeOf5 rfl rfl rfl ?_
          refine SJ.nil ?_
          exact PJ.joined (List.set l26 (Int.toNat 0) 127) [1, 2, 3] hm ⟨rfl, rfl, rfl, trivial⟩ ⟨by decide, rfl⟩
        · replace hm := ifF hm hb53
          refine WJ.skip ?_
          exact PJ.joined l26 [1, 2, 3] hm ⟨rfl, rfl, rfl, trivial⟩ ⟨by decide, rfl⟩
      · rintro l44 hm
        subst hk46
        refine WJ.seq ?_
        refine WJ.draws (N := 5) (listed0 := #[false, false, false, false, false]) [row v27 5 fByte l44, box g10 45 [.int .i64 r8.1.left, .int .i64 r8.1.right, .int .i64 r8.1.bell]] follows rfl rfl ?_
        refine RJ.first 0 (listed' := #[true, false, false, false, false]) [0, 1] rfl (by kernel_rfl) rfl ⟨by decide, rfl⟩ (y_loadBN (k := 1) (off := 0) (us := [.int .i64 r8.1.left, .int .i64 r8.1.right, .int .i64 r8.1.bell]) rfl Try.isAgg45 Try.sizeOf45 rfl rfl) rfl ?_
        refine RJ.first 1 (listed' := #[true, true, false, false, false]) [0, 1] rfl (by kernel_rfl) rfl ⟨by decide, rfl⟩ (y_move rfl) rfl ?_
        refine RJ.first 2 (listed' := #[true, true, true, false, false]) [0, 1] rfl (by kernel_rfl) rfl ⟨by decide, rfl⟩ (y_b2s Try.underlying22 Try.underlying9 Try.underlying5 (fun w hw => ⟨_, (hw.row_rd (k := 0) rfl)⟩) rfl) rfl ?_
        refine RJ.step1 3 [0, 1] (by kernel_rfl) ⟨by decide, rfl⟩ ?_
        refine RO.of (listed' := #[true, true, true, true, false]) rfl rfl ?_
        refine SJ.storeL (k := 2) (off := 0) (us := [.int .i64 r8.1.left, .int .i64 r8.1.right, .int .i64 r8.1.bell]) rfl rfl rfl rfl Try.sizeOf45 rfl rfl ?_
        refine SJ.nil ?_
        refine PJ.draw ?_
        refine RJ.first 4 (listed' := #[true, true, true, true, true]) [0, 1] rfl (by kernel_rfl) rfl ⟨by decide, rfl⟩ (y_assign rfl) rfl ?_
        refine RJ.fin [0, 1] (by kernel_rfl) ⟨by decide, rfl⟩ ?_
        refine PJ.next ?_
        refine WJ.ret ?_
        obtain rfl := Option.some.inj hm
        exact PJ.retn_sel (vs := [.agg (Carriage.enc r8.1).toArray, str l44]) Try.results20 ⟨⟨2, g4, 45, [.int .i64 r8.1.left, .int .i64 r8.1.right, .int .i64 r8.1.bell], rfl, rfl, .inl ⟨Try.isAgg45, Try.sizeOf45, rfl⟩⟩, rfl, trivial⟩ [] ⟨List.nodup_nil, rfl⟩ ⟨rfl, rfl⟩

set_option maxRecDepth 100000 in
set_option maxHeartbeats 1000000 in
theorem ok_i_between {n1 : Int} {low2 : Int} {high3 : Int} {r : Bool} (hm : i_between n1 low2 high3 = some r) (w : World)  :
    Calls Try.prog 68 #[.int .i64 n1, .int .i64 low2, .int .i64 high3] w (Ret (cx w) (.bool r)) := by
  unfold i_between at hm
  refine Calls.enter [.int .i64 n1, .int .i64 low2, .int .i64 high3] Try.func68 rfl Try.ntmps68 rfl ?_
  refine WJ.seq ?_
  refine WJ.quiet ?_
  refine QJ.step (YldS.yld (y_assign rfl)) rfl ?_
  refine QJ.done ?_
  refine PJ.next ?_
  refine WJ.seq ?_
  refine WJ.quiet ?_
  refine QJ.step (YldS.yld (y_move rfl)) rfl ?_
  refine QJ.step (YldS.yld (y_move rfl)) rfl ?_
  refine QJ.step (YldS.yld (y_bin rfl rfl rfl)) rfl ?_
  refine QJ.step (YldS.yld (y_move rfl)) rfl ?_
  obtain ⟨t4, h5, hm⟩ := bindS hm
  refine QJ.cut 4 [(14, .bool t4)] ?_ ?_
  · rcases Bool.eq_false_or_eq_true (decide (n1 ≥ low2)) with hb6 | hb6
    · replace h5 := andT h5 hb6
      refine QJ.on rfl rfl (cB hb6) (YldS.yld (y_move rfl)) rfl ?_
      refine QJ.on rfl rfl (cB hb6) (YldS.yld (y_move rfl)) rfl ?_
      refine QJ.on rfl rfl (cB hb6) (YldS.yld (y_bin rfl rfl rfl)) rfl ?_
      refine QJ.step (YldS.yld (y_pick_t (cB hb6) rfl)) rfl ?_
      obtain rfl := Option.some.inj h5
      exact QJ.cut_end ⟨rfl, trivial⟩
    · obtain rfl := andF h5 hb6
      refine QJ.off rfl rfl (cB hb6) rfl rfl ?_
      refine QJ.off rfl rfl (cB hb6) rfl rfl ?_
      refine QJ.off rfl rfl (cB hb6) rfl rfl ?_
      refine QJ.step (YldS.yld (y_pick_f (cB hb6) rfl)) rfl ?_
      exact QJ.cut_end ⟨rfl, trivial⟩
  refine QJ.step (YldS.yld (y_assign rfl)) rfl ?_
  refine QJ.done ?_
  refine PJ.next ?_
  refine WJ.ret ?_
  obtain rfl := Option.some.inj hm
  refine PJ.sel (L' := []) [] ⟨List.nodup_nil, rfl⟩ ?_
  exact PJ.retn (vs := [.bool t4]) Try.results68 ⟨rfl, trivial⟩ ⟨rfl, rfl⟩

set_option maxRecDepth 100000 in
set_option maxHeartbeats 1000000 in
theorem ok_i_ValidCarriage {c1 : Carriage} {r : Bool} (hm : i_ValidCarriage c1 = some r) (w : World)  :
    Calls Try.prog 35 #[.agg (Carriage.enc c1).toArray] w (Ret (cx w) (.bool r)) := by
  unfold i_ValidCarriage at hm
  refine Calls.enter [.agg (Carriage.enc c1).toArray] Try.func35 rfl Try.ntmps35 rfl ?_
  refine WJ.seq ?_
  refine WJ.reg ?_
  refine SJ.box (cs := [.int .i64 c1.left, .int .i64 c1.right, .int .i64 c1.bell]) rfl rfl rfl fun g2 => ?_
  refine SJ.q (YldS.yld (y_assign rfl)) rfl ?_
  refine SJ.nil ?_
  refine PJ.next ?_
  refine WJ.seq ?_
  refine WJ.quiet ?_
  refine QJ.step (YldS.yld (y_fldB (o := 0) fld45_0 rfl)) rfl ?_
  refine QJ.step (YldS.yld (y_loadB (k := 0) (off := 0) (v := .int .i64 c1.left) rfl Try.isAgg2 rfl rfl)) rfl ?_
  refine QJ.step (YldS.yld (y_bin rfl rfl rfl)) rfl ?_
  refine QJ.step (YldS.yld (y_move rfl)) rfl ?_
  obtain ⟨t3, h4, hm⟩ := bindS hm
  refine QJ.cut 4 [(1, pt g2 0), (10, .bool t3)] ?_ ?_
  · rcases Bool.eq_false_or_eq_true (decide (c1.left ≥ 0)) with hb5 | hb5
    · replace h4 := andT h4 hb5
      refine QJ.on rfl rfl (cB hb5) (YldS.yld (y_fldB (o := 0) fld45_1 rfl)) rfl ?_
      refine QJ.on rfl rfl (cB hb5) (YldS.yld (y_loadB (k := 0) (off := 1) (v := .int .i64 c1.right) rfl Try.isAgg2 rfl rfl)) rfl ?_
      refine QJ.on rfl rfl (cB hb5) (YldS.yld (y_bin rfl rfl rfl)) rfl ?_
      refine QJ.step (YldS.yld (y_pick_t (cB hb5) rfl)) rfl ?_
      obtain rfl := Option.some.inj h4
      exact QJ.cut_end ⟨rfl, rfl, trivial⟩
    · obtain rfl := andF h4 hb5
      refine QJ.off rfl rfl (cB hb5) rfl rfl ?_
      refine QJ.off rfl rfl (cB hb5) rfl rfl ?_
      refine QJ.off rfl rfl (cB hb5) rfl rfl ?_
      refine QJ.step (YldS.yld (y_pick_f (cB hb5) rfl)) rfl ?_
      exact QJ.cut_end ⟨rfl, rfl, trivial⟩
  refine QJ.step (YldS.yld (y_move rfl)) rfl ?_
  obtain ⟨t6, h7, hm⟩ := bindS hm
  refine QJ.cut 6 [(1, pt g2 0), (17, .bool t6)] ?_ ?_
  · rcases Bool.eq_false_or_eq_true t3 with hb8 | hb8
    · replace h7 := andT h7 hb8
      refine QJ.on rfl rfl (cB hb8) (YldS.yld (y_fldB (o := 0) fld45_0 rfl)) rfl ?_
      refine QJ.on rfl rfl (cB hb8) (YldS.yld (y_loadB (k := 0) (off := 0) (v := .int .i64 c1.left) rfl Try.isAgg2 rfl rfl)) rfl ?_
      refine QJ.on rfl rfl (cB hb8) (YldS.yld (y_fldB (o := 0) fld45_1 rfl)) rfl ?_
      refine QJ.on rfl rfl (cB hb8) (YldS.yld (y_loadB (k := 0) (off := 1) (v := .int .i64 c1.right) rfl Try.isAgg2 rfl rfl)) rfl ?_
      refine QJ.on rfl rfl (cB hb8) (YldS.yld (y_bin rfl rfl rfl)) rfl ?_
      refine QJ.step (YldS.yld (y_pick_t (cB hb8) rfl)) rfl ?_
      obtain rfl := Option.some.inj h7
      exact QJ.cut_end ⟨rfl, rfl, trivial⟩
    · obtain rfl := andF h7 hb8
      refine QJ.off rfl rfl (cB hb8) rfl rfl ?_
      refine QJ.off rfl rfl (cB hb8) rfl rfl ?_
      refine QJ.off rfl rfl (cB hb8) rfl rfl ?_
      refine QJ.off rfl rfl (cB hb8) rfl rfl ?_
      refine QJ.off rfl rfl (cB hb8) rfl rfl ?_
      refine QJ.step (YldS.yld (y_pick_f (cB hb8) rfl)) rfl ?_
      exact QJ.cut_end ⟨rfl, rfl, trivial⟩
  refine QJ.step (YldS.yld (y_move rfl)) rfl ?_
  obtain ⟨t9, h10, hm⟩ := bindS hm
  refine QJ.cut 7 [(1, pt g2 0), (25, .bool t9)] ?_ ?_
  · rcases Bool.eq_false_or_eq_true t6 with hb11 | hb11
    · replace h10 := andT h10 hb11
      refine QJ.on rfl rfl (cB hb11) (YldS.yld (y_fldB (o := 0) fld45_1 rfl)) rfl ?_
      refine QJ.on rfl rfl (cB hb11) (YldS.yld (y_loadB (k := 0) (off := 1) (v := .int .i64 c1.right) rfl Try.isAgg2 rfl rfl)) rfl ?_
      refine QJ.on rfl rfl (cB hb11) (YldS.yld (y_fldB (o := 0) fld45_0 rfl)) rfl ?_
      refine QJ.on rfl rfl (cB hb11) (YldS.yld (y_loadB (k := 0) (off := 0) (v := .int .i64 c1.left) rfl Try.isAgg2 rfl rfl)) rfl ?_
      refine QJ.on rfl rfl (cB hb11) (YldS.yld (y_bin rfl rfl rfl)) rfl ?_
      refine QJ.on rfl rfl (cB hb11) (YldS.yld (y_bin rfl rfl rfl)) rfl ?_
      refine QJ.step (YldS.yld (y_pick_t (cB hb11) rfl)) rfl ?_
      obtain rfl := Option.some.inj h10
      exact QJ.cut_end ⟨rfl, rfl, trivial⟩
    · obtain rfl := andF h10 hb11
      refine QJ.off rfl rfl (cB hb11) rfl rfl ?_
      refine QJ.off rfl rfl (cB hb11) rfl rfl ?_
      refine QJ.off rfl rfl (cB hb11) rfl rfl ?_
      refine QJ.off rfl rfl (cB hb11) rfl rfl ?_
      refine QJ.off rfl rfl (cB hb11) rfl rfl ?_
      refine QJ.off rfl rfl (cB hb11) rfl rfl ?_
      refine QJ.step (YldS.yld (y_pick_f (cB hb11) rfl)) rfl ?_
      exact QJ.cut_end ⟨rfl, rfl, trivial⟩
  refine QJ.step (YldS.yld (y_move rfl)) rfl ?_
  obtain ⟨t12, h13, hm⟩ := bindS hm
  refine QJ.cut 8 [(34, .bool t12)] ?_ ?_
  · rcases Bool.eq_false_or_eq_true t9 with hb14 | hb14
    · replace h13 := andT h13 hb14
      refine QJ.on rfl rfl (cB hb14) (YldS.yld (y_fldB (o := 0) fld45_2 rfl)) rfl ?_
      refine QJ.on rfl rfl (cB hb14) (YldS.yld (y_loadB (k := 0) (off := 2) (v := .int .i64 c1.bell) rfl Try.isAgg2 rfl rfl)) rfl ?_
      refine QJ.on rfl rfl (cB hb14) (YldS.yld (y_fldB (o := 0) fld45_0 rfl)) rfl ?_
      refine QJ.on rfl rfl (cB hb14) (YldS.yld (y_loadB (k := 0) (off := 0) (v := .int .i64 c1.left) rfl Try.isAgg2 rfl rfl)) rfl ?_
      refine QJ.on rfl rfl (cB hb14) (YldS.yld (y_fldB (o := 0) fld45_1 rfl)) rfl ?_
      refine QJ.on rfl rfl (cB hb14) (YldS.yld (y_loadB (k := 0) (off := 1) (v := .int .i64 c1.right) rfl Try.isAgg2 rfl rfl)) rfl ?_
      obtain ⟨r15, h16, h13⟩ := bindS h13
      refine QJ.on rfl rfl (cB hb14) (y_call Try.call68 rfl (RetG.quiet fun w hw => ok_i_between h16 w )) rfl ?_
      refine QJ.step (YldS.yld (y_pick_t (cB hb14) rfl)) rfl ?_
      obtain rfl := Option.some.inj h13
      exact QJ.cut_end ⟨rfl, trivial⟩
    · obtain rfl := andF h13 hb14
      refine QJ.off rfl rfl (cB hb14) rfl rfl ?_
      refine QJ.off rfl rfl (cB hb14) rfl rfl ?_
      refine QJ.off rfl rfl (cB hb14) rfl rfl ?_
      refine QJ.off rfl rfl (cB hb14) rfl rfl ?_
      refine QJ.off rfl rfl (cB hb14) rfl rfl ?_
      refine QJ.off rfl rfl (cB hb14) rfl rfl ?_
      refine QJ.off rfl rfl (cB hb14) rfl rfl ?_
      refine QJ.step (YldS.yld (y_pick_f (cB hb14) rfl)) rfl ?_
      exact QJ.cut_end ⟨rfl, trivial⟩
  refine QJ.step (YldS.yld (y_assign rfl)) rfl ?_
  refine QJ.done ?_
  refine PJ.next ?_
  refine WJ.ret ?_
  obtain rfl := Option.some.inj hm
  refine PJ.sel (L' := []) [] ⟨List.nodup_nil, rfl⟩ ?_
  exact PJ.retn (vs := [.bool t12]) Try.results35 ⟨rfl, trivial⟩ ⟨rfl, rfl⟩

set_option maxRecDepth 100000 in
set_option maxHeartbeats 1000000 in
theorem ok_i_isText {N : Nat} {s1 : Str} {low2 : UInt8} {most3 : Int} {r : Bool} (hm : i_isText N s1 low2 most3 = some r) (w : World)  :
    Calls Try.prog 80 #[str s1, .int .u8 (UInt8.toNat low2 : Int), .int .i64 most3] w (Ret (cx w) (.bool r)) := by
  unfold i_isText at hm
  refine Calls.enter [str s1, .int .u8 (UInt8.toNat low2 : Int), .int .i64 most3] Try.func80 rfl Try.ntmps80 rfl ?_
  refine WJ.seq ?_
  refine WJ.quiet ?_
  refine QJ.step (YldS.yld (y_assign rfl)) rfl ?_
  refine QJ.done ?_
  refine PJ.next ?_
  refine WJ.seq ?_
  refine WJ.seq ?_
  refine WJ.quiet ?_
  refine QJ.step (YldS.yld (y_move rfl)) rfl ?_
  refine QJ.step (YldS.yld (y_lenStr Try.runUnderlying9 rfl)) rfl ?_
  refine QJ.step (YldS.yld (y_move rfl)) rfl ?_
  refine QJ.step (YldS.yld (y_bin rfl rfl rfl)) rfl ?_
  refine QJ.done ?_
  refine PJ.next ?_
  refine WJ.cond (t := decide ((List.length s1 : Int) > most3)) rfl (fun hb4 => ?_) (fun hb4 => ?_)
  · replace hm := ifT hm hb4
    refine WJ.seq ?_
    refine WJ.quiet ?_
    refine QJ.step (YldS.yld (y_assign rfl)) rfl ?_
    refine QJ.done ?_
    refine PJ.next ?_
    refine WJ.ret ?_
    refine PJ.then_ret ?_
    obtain rfl := Option.some.inj hm
    refine PJ.sel (L' := []) [] ⟨List.nodup_nil, rfl⟩ ?_
    exact PJ.retn (vs := [.bool false]) Try.results80 ⟨rfl, trivial⟩ ⟨rfl, rfl⟩
  · replace hm := ifF hm hb4
    refine WJ.skip ?_
    refine PJ.next ?_
    obtain ⟨kj5, hk6, hm⟩ := withK_open hm
    refine WJ.join (X := Unit) (fun (_ : Unit) => kj5  = some r) (fun (_ : Unit) => []) (fun (_ : Unit) => []) ?_ ?_
    · clear hk6
      refine WJ.seq ?_
      refine WJ.quiet ?_
      refine QJ.step (YldS.yld (y_move rfl)) rfl ?_
      refine QJ.step (YldS.yld (y_lenStr Try.runUnderlying9 rfl)) rfl ?_
      refine QJ.step (YldS.yld (y_move rfl)) rfl ?_
      refine QJ.done ?_
      refine PJ.next ?_
      refine WJ.block ?_
      refine WJ.sel (L' := (fun (x : Int) => []) 0) [] ⟨List.nodup_nil, rfl⟩ ?_
      refine WJ.sub (m' := (fun (x : Int) => [(0, str s1), (1, .int .u8 (UInt8.toNat low2 : Int)), (13, .int .i64 (List.length s1 : Int)), (14, .int .i64 x)]) 0) ⟨rfl, rfl, rfl, rfl, trivial⟩ ?_
      refine WJ.loop (X := Int) (fun N (x : Int) => i_isText_l1 kj5 s1 low2 N x = some r) (fun (x : Int) => [(0, str s1), (1, .int .u8 (UInt8.toNat low2 : Int)), (13, .int .i64 (List.length s1 : Int)), (14, .int .i64 x)]) (fun (x : Int) => []) ?_ N 0 hm
      · rintro N x7 hI
        have hm := hI; clear hI
        cases N with
        | zero => cases hm
        | succ N =>
        unfold i_isText_l1 at hm
        refine WJ.seq ?_
        refine WJ.quiet ?_
        refine QJ.step (YldS.yld (y_bin rfl rfl rfl)) rfl ?_
        refine QJ.done ?_
        refine PJ.next ?_
        refine WJ.seq ?_
        refine WJ.cond (t := decide (x7 < (List.length s1 : Int))) rfl (fun hb8 => ?_) (fun hb8 => ?_)
        · replace hm := ifT hm hb8
          refine WJ.skip ?_
          refine PJ.next ?_
          refine WJ.seq ?_
          refine WJ.block ?_
          refine WJ.seq ?_
          refine WJ.quiet ?_
          refine QJ.step (YldS.yld (y_move rfl)) rfl ?_
          refine QJ.step (YldS.yld (y_assign rfl)) rfl ?_
          refine QJ.done ?_
          refine PJ.next ?_
          refine WJ.seq ?_
          refine WJ.quiet ?_
          refine QJ.step (YldS.yld (y_move rfl)) rfl ?_
          refine QJ.step (YldS.yld (y_move rfl)) rfl ?_
          obtain ⟨c9, h10, hm⟩ := bindS hm
          refine QJ.step (YldS.yld (y_idxStr Try.runUnderlying9 rfl rfl h10)) rfl ?_
          refine QJ.step (YldS.yld (y_move rfl)) rfl ?_
          refine QJ.step (YldS.yld (y_bin8 c9 low2 rfl rfl rfl)) rfl ?_
          refine QJ.step (YldS.yld (y_move rfl)) rfl ?_
          obtain ⟨t11, h12, hm⟩ := bindS hm
          refine QJ.cut 5 [(0, str s1), (1, .int .u8 (UInt8.toNat low2 : Int)), (13, .int .i64 (List.length s1 : Int)), (14, .int .i64 x7), (27, .bool t11)] ?_ ?_
          · rcases Bool.eq_false_or_eq_true (decide (c9 < low2)) with hb13 | hb13
            · obtain rfl := orT h12 hb13
              refine QJ.off rfl rfl (cB hb13) rfl rfl ?_
              refine QJ.off rfl rfl (cB hb13) rfl rfl ?_
              refine QJ.off rfl rfl (cB hb13) rfl rfl ?_
              refine QJ.off rfl rfl (cB hb13) rfl rfl ?_
              refine QJ.step (YldS.yld (y_pick_t (cB hb13) rfl)) rfl ?_
              exact QJ.cut_end ⟨rfl, rfl, rfl, rfl, rfl, trivial⟩
            · replace h12 := orF h12 hb13
              refine QJ.on rfl rfl (cB hb13) (YldS.yld (y_move rfl)) rfl ?_
              refine QJ.on rfl rfl (cB hb13) (YldS.yld (y_move rfl)) rfl ?_
              obtain ⟨c14, h15, h12⟩ := bindS h12
              refine QJ.on rfl rfl (cB hb13) (YldS.yld (y_idxStr Try.runUnderlying9 rfl rfl h15)) rfl ?_
              refine QJ.on rfl rfl (cB hb13) (YldS.yld (y_bin8 c14 (126 : UInt8) rfl rfl rfl)) rfl ?_
              refine QJ.step (YldS.yld (y_pick_f (cB hb13) rfl)) rfl ?_
              obtain rfl := Option.some.inj h12
              exact QJ.cut_end ⟨rfl, rfl, rfl, rfl, rfl, trivial⟩
          refine QJ.done ?_
          refine PJ.next ?_
          refine WJ.cond (t := t11) rfl (fun hb16 => ?_) (fun hb16 => ?_)
          · replace hm := ifT hm hb16
            refine WJ.seq ?_
            refine WJ.quiet ?_
            refine QJ.step (YldS.yld (y_assign rfl)) rfl ?_
            refine QJ.done ?_
            refine PJ.next ?_
            refine WJ.ret ?_
            refine PJ.block_ret (PJ.then_ret (PJ.then_ret (PJ.block_ret (PJ.then_ret ?_))))
            obtain rfl := Option.some.inj hm
            refine PJ.sel (L' := []) [] ⟨List.nodup_nil, rfl⟩ ?_
            exact PJ.retn (vs := [.bool false]) Try.results80 ⟨rfl, trivial⟩ ⟨rfl, rfl⟩
          · replace hm := ifF hm hb16
            refine WJ.skip ?_
            refine PJ.block_normal (PJ.next ?_)
            refine WJ.quiet ?_
            refine QJ.step (YldS.yld (y_bin rfl rfl rfl)) rfl ?_
            refine QJ.step (YldS.yld (y_move rfl)) rfl ?_
            refine QJ.done ?_
            exact PJ.round (w64 (x7 + 1)) [] hm ⟨rfl, rfl, rfl, rfl, trivial⟩ ⟨List.nodup_nil, rfl⟩
        · replace hm := ifF hm hb8
          refine WJ.exit ?_
          refine PJ.then_exit (PJ.then_exit (PJ.block_exit ?_))
          exact PJ.joined () [] hm trivial ⟨List.nodup_nil, rfl⟩
    · rintro _ hm
      subst hk6
      refine WJ.seq ?_
      refine WJ.quiet ?_
      refine QJ.step (YldS.yld (y_assign rfl)) rfl ?_
      refine QJ.done ?_
      refine PJ.next ?_
      refine WJ.ret ?_
      obtain rfl := Option.some.inj hm
      refine PJ.sel (L' := []) [] ⟨List.nodup_nil, rfl⟩ ?_
      exact PJ.retn (vs := [.bool true]) Try.results80 ⟨rfl, trivial⟩ ⟨rfl, rfl⟩

set_option maxRecDepth 100000 in
set_option maxHeartbeats 1000000 in
theorem ok_i_trimRight {N : Nat} {s1 : Str} {r : Str} (hm : i_trimRight N s1 = some r) (w : World)  :
    Calls Try.prog 85 #[str s1] w (Ret (cx w) (str r)) := by
  unfold i_trimRight at hm
  refine Calls.enter [str s1] Try.func85 rfl Try.ntmps85 rfl ?_
  refine WJ.seq ?_
  refine WJ.quiet ?_
  refine QJ.step (YldS.yld (y_assign rfl)) rfl ?_
  refine QJ.done ?_
  refine PJ.next ?_
  refine WJ.seq ?_
  refine WJ.quiet ?_
  refine QJ.step (YldS.yld (y_move rfl)) rfl ?_
  refine QJ.step (YldS.yld (y_lenStr Try.runUnderlying9 rfl)) rfl ?_
  refine QJ.step (YldS.yld (y_assign rfl)) rfl ?_
  refine QJ.done ?_
  refine PJ.next ?_
  obtain ⟨kj3, hk4, hm⟩ := withK_open hm
  refine WJ.join (X := Int) (fun (x : Int) => kj3 x = some r) (fun (x : Int) => [(0, str s1), (3, .int .i64 x)]) (fun (x : Int) => []) ?_ ?_
  · clear hk4
    refine WJ.block ?_
    refine WJ.sel (L' := (fun (x : Int) => []) (List.length s1 : Int)) [] ⟨List.nodup_nil, rfl⟩ ?_
    refine WJ.sub (m' := (fun (x : Int) => [(0, str s1), (3, .int .i64 x)]) (List.length s1 : Int)) ⟨rfl, rfl, trivial⟩ ?_
    refine WJ.loop (X := Int) (fun N (x : Int) => i_trimRight_l1 kj3 s1 N x = some r) (fun (x : Int) => [(0, str s1), (3, .int .i64 x)]) (fun (x : Int) => []) ?_ N (List.length s1 : Int) hm
    · rintro N end5 hI
      have hm := hI; clear hI
      cases N with
      | zero => cases hm
      | succ N =>
      unfold i_trimRight_l1 at hm
      refine WJ.seq ?_
      refine WJ.seq ?_
      refine WJ.quiet ?_
      refine QJ.step (YldS.yld (y_move rfl)) rfl ?_
      refine QJ.step (YldS.yld (y_bin rfl rfl rfl)) rfl ?_
      refine QJ.step (YldS.yld (y_move rfl)) rfl ?_
      obtain ⟨t6, h7, hm⟩ := bindS hm
      refine QJ.cut 6 [(0, str s1), (3, .int .i64 end5), (14, .bool t6)] ?_ ?_
      · rcases Bool.eq_false_or_eq_true (decide (end5 > 0)) with hb8 | hb8
        · replace h7 := andT h7 hb8
          refine QJ.on rfl rfl (cB hb8) (YldS.yld (y_move rfl)) rfl ?_
          refine QJ.on rfl rfl (cB hb8) (YldS.yld (y_move rfl)) rfl ?_
          refine QJ.on rfl rfl (cB hb8) (YldS.yld (y_bin rfl rfl rfl)) rfl ?_
          obtain ⟨c9, h10, h7⟩ := bindS h7
          refine QJ.on rfl rfl (cB hb8) (YldS.yld (y_idxStr Try.runUnderlying9 rfl rfl h10)) rfl ?_
          refine QJ.on rfl rfl (cB hb8) (YldS.yld (y_bin8 c9 (32 : UInt8) rfl rfl rfl)) rfl ?_
          refine QJ.step (YldS.yld (y_pick_t (cB hb8) rfl)) rfl ?_
          obtain rfl := Option.some.inj h7
          exact QJ.cut_end ⟨rfl, rfl, rfl, trivial⟩
        · obtain rfl := andF h7 hb8
          refine QJ.off rfl rfl (cB hb8) rfl rfl ?_
          refine QJ.off rfl rfl (cB hb8) rfl rfl ?_
          refine QJ.off rfl rfl (cB hb8) rfl rfl ?_
          refine QJ.off rfl rfl (cB hb8) rfl rfl ?_
          refine QJ.off rfl rfl (cB hb8) rfl rfl ?_
          refine QJ.step (YldS.yld (y_pick_f (cB hb8) rfl)) rfl ?_
          exact QJ.cut_end ⟨rfl, rfl, rfl, trivial⟩
      refine QJ.done ?_
      refine PJ.next ?_
      refine WJ.cond (t := t6) rfl (fun hb11 => ?_) (fun hb11 => ?_)
      · replace hm := ifT hm hb11
        refine WJ.skip ?_
        refine PJ.next ?_
        refine WJ.block ?_
        refine WJ.quiet ?_
        refine QJ.step (YldS.yld (y_move rfl)) rfl ?_
        refine QJ.step (YldS.yld (y_bin rfl rfl rfl)) rfl ?_
        refine QJ.step (YldS.yld (y_assign rfl)) rfl ?_
        refine QJ.done ?_
        refine PJ.block_normal ?_
        exact PJ.round (w64 (end5 - 1)) [] hm ⟨rfl, rfl, trivial⟩ ⟨List.nodup_nil, rfl⟩
      · replace hm := ifF hm hb11
        refine WJ.exit ?_
        refine PJ.then_exit (PJ.then_exit (PJ.block_exit ?_))
        exact PJ.joined end5 [] hm ⟨rfl, rfl, trivial⟩ ⟨List.nodup_nil, rfl⟩
  · rintro end2 hm
    subst hk4
    refine WJ.seq ?_
    refine WJ.quiet ?_
    refine QJ.step (YldS.yld (y_move rfl)) rfl ?_
    refine QJ.step (YldS.yld (y_move rfl)) rfl ?_
    obtain ⟨s12, h13, hm⟩ := bindS hm
    refine QJ.step (YldS.yld (y_subStr (i := none) (j := some end2) h13 Try.runUnderlying9 rfl trivial ⟨_, rfl⟩)) rfl ?_
    refine QJ.step (YldS.yld (y_assign rfl)) rfl ?_
    refine QJ.done ?_
    refine PJ.next ?_
    refine WJ.ret ?_
    obtain rfl := Option.some.inj hm
    refine PJ.sel (L' := []) [] ⟨List.nodup_nil, rfl⟩ ?_
    exact PJ.retn (vs := [str s12]) Try.results85 ⟨rfl, trivial⟩ ⟨rfl, rfl⟩

set_option maxRecDepth 100000 in
set_option maxHeartbeats 1000000 in
theorem ok_i_ActsForLine {N : Nat} {c1 : Carriage} {line2 : Str} {r : (List Act) × Int} (hm : i_ActsForLine N c1 line2 = some r) (w : World)  :
    Calls Try.prog 21 #[.agg (Carriage.enc c1).toArray, str line2] w (RetG (cx w) fun u L => ∃ (u1 : Value), (u = tup [u1, .int .i64 r.2] ∧ L = [row u1 62 fAct r.1])) := by
  unfold i_ActsForLine at hm
  refine Calls.enter [.agg (Carriage.enc c1).toArray, str line2] Try.func21 rfl Try.ntmps21 rfl ?_
  refine WJ.seq ?_
  refine WJ.reg ?_
  refine SJ.box (cs := [.int .i64 c1.left, .int .i64 c1.right, .int .i64 c1.bell]) rfl rfl rfl fun g3 => ?_
  refine SJ.q (YldS.yld (y_assign rfl)) rfl ?_
  refine SJ.q (YldS.yld (y_assign rfl)) rfl ?_
  refine SJ.nil ?_
  refine PJ.next ?_
  refine WJ.seq ?_
  refine WJ.seq ?_
  refine WJ.quiet ?_
  refine QJ.step (YldS.yld (y_loadBN (k := 0) (off := 0) (us := [.int .i64 c1.left, .int .i64 c1.right, .int .i64 c1.bell]) rfl Try.isAgg45 Try.sizeOf45 rfl rfl)) rfl ?_
  obtain ⟨r4, h5, hm⟩ := bindS hm
  refine QJ.step (y_call Try.call35 rfl (RetG.quiet fun w hw => ok_i_ValidCarriage h5 w )) rfl ?_
  refine QJ.step (YldS.yld (y_not rfl)) rfl ?_
  refine QJ.done ?_
  refine PJ.next ?_
  refine WJ.cond (t := !r4) rfl (fun hb6 => ?_) (fun hb6 => ?_)
  · replace hm := ifT hm hb6
    refine WJ.seq ?_
    refine WJ.quiet ?_
    refine QJ.step (YldS.yld (y_assign rfl)) rfl ?_
    refine QJ.step (YldS.yld (y_assign rfl)) rfl ?_
    refine QJ.done ?_
    refine PJ.next ?_
    refine WJ.ret ?_
    refine PJ.then_ret ?_
    refine PJ.nil_row 62 fAct ?_
    obtain rfl := Option.some.inj hm
    refine PJ.sel (L' := [row (.slice none 0 0) 62 fAct []]) [0] ⟨by decide, rfl⟩ ?_
    exact PJ.retn (vs := [(.slice none 0 0), .int .i64 1]) Try.results21 ⟨rfl, rfl, trivial⟩ ⟨_, rfl, rfl⟩
  · replace hm := ifF hm hb6
    refine WJ.skip ?_
    refine PJ.next ?_
    refine WJ.seq ?_
    refine WJ.seq ?_
    refine WJ.quiet ?_
    refine QJ.step (YldS.yld (y_move rfl)) rfl ?_
    obtain ⟨r7, h8, hm⟩ := bindS hm
    refine QJ.step (y_call Try.call80 rfl (RetG.quiet fun w hw => ok_i_isText h8 w )) rfl ?_
    refine QJ.step (YldS.yld (y_not rfl)) rfl ?_
    refine QJ.done ?_
    refine PJ.next ?_
    refine WJ.cond (t := !r7) rfl (fun hb9 => ?_) (fun hb9 => ?_)
    · replace hm := ifT hm hb9
      refine WJ.seq ?_
      refine WJ.quiet ?_
      refine QJ.step (YldS.yld (y_assign rfl)) rfl ?_
      refine QJ.step (YldS.yld (y_assign rfl)) rfl ?_
      refine QJ.done ?_
      refine PJ.next ?_
      refine WJ.ret ?_
      refine PJ.then_ret ?_
      refine PJ.nil_row 62 fAct ?_
      obtain rfl := Option.some.inj hm
      refine PJ.sel (L' := [row (.slice none 0 0) 62 fAct []]) [0] ⟨by decide, rfl⟩ ?_
      exact PJ.retn (vs := [(.slice none 0 0), .int .i64 2]) Try.results21 ⟨rfl, rfl, trivial⟩ ⟨_, rfl, rfl⟩
    · replace hm := ifF hm hb9
      refine WJ.skip ?_
      refine PJ.next ?_
      refine WJ.seq ?_
      refine WJ.quiet ?_
      refine QJ.step (YldS.yld (y_move rfl)) rfl ?_
      obtain ⟨r10, h11, hm⟩ := bindS hm
      refine QJ.step (y_call Try.call85 rfl (RetG.quiet fun w hw => ok_i_trimRight h11 w )) rfl ?_
      refine QJ.step (YldS.yld (y_assign rfl)) rfl ?_
      refine QJ.done ?_
      refine PJ.next ?_
      refine WJ.seq ?_
      refine WJ.seq ?_
      refine WJ.quiet ?_
      refine QJ.step (YldS.yld (y_fldB (o := 0) fld45_1 rfl)) rfl ?_
      refine QJ.step (YldS.yld (y_loadB (k := 0) (off := 1) (v := .int .i64 c1.right) rfl Try.isAgg2 rfl rfl)) rfl ?_
      refine QJ.step (YldS.yld (y_fldB (o := 0) fld45_0 rfl)) rfl ?_
      refine QJ.step (YldS.yld (y_loadB (k := 0) (off := 0) (v := .int .i64 c1.left) rfl Try.isAgg2 rfl rfl)) rfl ?_
      refine QJ.step (YldS.yld (y_bin rfl rfl rfl)) rfl ?_
      refine QJ.step (YldS.yld (y_move rfl)) rfl ?_
      refine QJ.step (YldS.yld (y_lenStr Try.runUnderlying9 rfl)) rfl ?_
      refine QJ.step (YldS.yld (y_bin rfl rfl rfl)) rfl ?_
      refine QJ.step (YldS.yld (y_bin rfl rfl rfl)) rfl ?_
      refine QJ.done ?_
      refine PJ.next ?_
      refine WJ.cond (t := decide ((w64 (c1.right - c1.left)) < (w64 (2 * (List.length r10 : Int))))) rfl (fun hb12 => ?_) (fun hb12 => ?_)
      · replace hm := ifT hm hb12
        refine WJ.seq ?_
        refine WJ.quiet ?_
        refine QJ.step (YldS.yld (y_assign rfl)) rfl ?_
        refine QJ.step (YldS.yld (y_assign rfl)) rfl ?_
        refine QJ.done ?_
        refine PJ.next ?_
        refine WJ.ret ?_
        refine PJ.then_ret ?_
        refine PJ.nil_row 62 fAct ?_
        obtain rfl := Option.some.inj hm
        refine PJ.sel (L' := [row (.slice none 0 0) 62 fAct []]) [0] ⟨by decide, rfl⟩ ?_
        exact PJ.retn (vs := [(.slice none 0 0), .int .i64 5]) Try.results21 ⟨rfl, rfl, trivial⟩ ⟨_, rfl, rfl⟩
      · replace hm := ifF hm hb12
        refine WJ.skip ?_
        refine PJ.next ?_
        refine WJ.seq ?_
        refine WJ.reg ?_
        refine SJ.buildSlice (R := fAct) (os := []) [] Try.runUnderlying48 Try.sizeOf62 Try.zeroValue62 rfl rfl rfl rfl rfl rfl fun v13 => ?_
        refine SJ.q (YldS.yld (y_assign rfl)) rfl ?_
        refine SJ.nil ?_
        refine PJ.next ?_
        obtain ⟨kj16, hk17, hm⟩ := withK_open hm
        refine WJ.join (X := (List Act) × Value) (fun (x : (List Act) × Value) => kj16 x.1 = some r) (fun (x : (List Act) × Value) => [(6, x.2)]) (fun (x : (List Act) × Value) => [row x.2 62 fAct x.1]) ?_ ?_
        · clear hk17
          refine WJ.seq ?_
          refine WJ.quiet ?_
          refine QJ.step (YldS.yld (y_move rfl)) rfl ?_
          refine QJ.step (YldS.yld (y_lenStr Try.runUnderlying9 rfl)) rfl ?_
          refine QJ.step (YldS.yld (y_move rfl)) rfl ?_
          refine QJ.done ?_
          refine PJ.next ?_
          refine WJ.block ?_
          refine WJ.sel (L' := (fun (x : (List Act) × Value × Int) => [row x.2.1 62 fAct x.1]) ([], v13, 0)) [0] ⟨by decide, rfl⟩ ?_
          refine WJ.sub (m' := (fun (x : (List Act) × Value × Int) => [(1, str r10), (6, x.2.1), (27, .int .i64 (List.length r10 : Int)), (28, .int .i64 x.2.2)]) ([], v13, 0)) ⟨rfl, rfl, rfl, rfl, trivial⟩ ?_
          refine WJ.loop (X := (List Act) × Value × Int) (fun N (x : (List Act) × Value × Int) => i_ActsForLine_l1 kj16 r10 N x.1 x.2.2 = some r) (fun (x : (List Act) × Value × Int) => [(1, str r10), (6, x.2.1), (27, .int .i64 (List.length r10 : Int)), (28, .int .i64 x.2.2)]) (fun (x : (List Act) × Value × Int) => [row x.2.1 62 fAct x.1]) ?_ N ([], v13, 0) hm
          · rintro N ⟨l18, v19, x20⟩ hI
            have hm := hI; clear hI
            cases N with
            | zero => cases hm
            | succ N =>
            unfold i_ActsForLine_l1 at hm
            refine WJ.seq ?_
            refine WJ.quiet ?_
            refine QJ.step (YldS.yld (y_bin rfl rfl rfl)) rfl ?_
            refine QJ.done ?_
            refine PJ.next ?_
            refine WJ.seq ?_
            refine WJ.cond (t := decide (x20 < (List.length r10 : Int))) rfl (fun hb21 => ?_) (fun hb21 => ?_)
            · replace hm := ifT hm hb21
              refine WJ.skip ?_
              refine PJ.next ?_
              obtain ⟨kj24, hk25, hm⟩ := withK_open hm
              refine WJ.join (X := (List Act) × Value) (fun (x : (List Act) × Value) => kj24 x.1 = some r) (fun (x : (List Act) × Value) => [(1, str r10), (6, x.2), (27, .int .i64 (List.length r10 : Int)), (28, .int .i64 x20)]) (fun (x : (List Act) × Value) => [row x.2 62 fAct x.1]) ?_ ?_
              · clear hk25
                refine WJ.block ?_
                refine WJ.seq ?_
                refine WJ.quiet ?_
                refine QJ.step (YldS.yld (y_move rfl)) rfl ?_
                refine QJ.step (YldS.yld (y_assign rfl)) rfl ?_
                refine QJ.done ?_
                refine PJ.next ?_
                refine WJ.seq ?_
                refine WJ.quiet ?_
                refine QJ.step (YldS.yld (y_move rfl)) rfl ?_
                refine QJ.step (YldS.yld (y_move rfl)) rfl ?_
                obtain ⟨c26, h27, hm⟩ := bindS hm
                refine QJ.step (YldS.yld (y_idxStr Try.runUnderlying9 rfl rfl h27)) rfl ?_
                refine QJ.step (YldS.yld (y_bin8 c26 (32 : UInt8) rfl rfl rfl)) rfl ?_
                refine QJ.done ?_
                refine PJ.next ?_
                refine WJ.cond (t := (c26 == (32 : UInt8))) rfl (fun hb28 => ?_) (fun hb28 => ?_)
                · replace hm := ifT hm hb28
                  refine WJ.reg ?_
                  refine SJ.q (YldS.yld (y_move rfl)) rfl ?_
                  refine SJ.q (YldS.yld (y_build (parts := [(0, .const (.int .i64 1))]) (places := [(0, 1), (1, 1)]) (r := [.int .i64 ((Act.mk 1 []).kind), str ((Act.mk 1 []).letter)]) pl62 Try.zeroValue62 rfl rfl rfl rfl)) rfl ?_
                  refine SJ.buildSlice (R := fAct) (os := [.tmp 36]) [(Act.mk 1 [])] Try.runUnderlying48 Try.sizeOf62 Try.zeroValue62 rfl rfl rfl rfl rfl rfl fun v29 => ?_
                  obtain ⟨l30, h31, hm⟩ := bindS hm
                  refine SJ.append (k := 1) (R := fAct) h31 rfl Try.underlying48 el62 rfl rfl rfl (fun w hw => (hw.row_rd (k := 0) rfl)) rfl fun v32 => ?_
                  refine SJ.q (YldS.yld (y_assign rfl)) rfl ?_
                  refine SJ.nil ?_
                  refine PJ.block_normal ?_
                  exact PJ.joined (l30, v32) [1] hm ⟨rfl, rfl, rfl, rfl, trivial⟩ ⟨by decide, rfl⟩
                · replace hm := ifF hm hb28
                  refine WJ.reg ?_
                  refine SJ.q (YldS.yld (y_move rfl)) rfl ?_
                  refine SJ.q (YldS.yld (y_move rfl)) rfl ?_
                  refine SJ.q (YldS.yld (y_move rfl)) rfl ?_
                  refine SJ.q (YldS.yld (y_move rfl)) rfl ?_
                  refine SJ.q (YldS.yld (y_bin rfl rfl rfl)) rfl ?_
                  obtain ⟨s33, h34, hm⟩ := bindS hm
                  refine SJ.q (YldS.yld (y_subStr (i := some x20) (j := some (w64 (x20 + 1))) h34 Try.runUnderlying9 rfl ⟨_, rfl⟩ ⟨_, rfl⟩)) rfl ?_
                  refine SJ.q (YldS.yld (y_build (parts := [(0, .const (.int .i64 0)), (1, .tmp 44)]) (places := [(0, 1), (1, 1)]) (r := [.int .i64 ((Act.mk 0 s33).kind), str ((Act.mk 0 s33).letter)]) pl62 Try.zeroValue62 rfl rfl rfl rfl)) rfl ?_
                  refine SJ.buildSlice (R := fAct) (os := [.tmp 45]) [(Act.mk 0 s33)] Try.runUnderlying48 Try.sizeOf62 Try.zeroValue62 rfl rfl rfl rfl rfl rfl fun v35 => ?_
                  obtain ⟨l36, h37, hm⟩ := bindS hm
                  refine SJ.append (k := 1) (R := fAct) h37 rfl Try.underlying48 el62 rfl rfl rfl (fun w hw => (hw.row_rd (k := 0) rfl)) rfl fun v38 => ?_
                  refine SJ.q (YldS.yld (y_assign rfl)) rfl ?_
                  refine SJ.nil ?_
                  refine PJ.block_normal ?_
                  exact PJ.joined (l36, v38) [1] hm ⟨rfl, rfl, rfl, rfl, trivial⟩ ⟨by decide, rfl⟩
              · rintro ⟨l22, v23⟩ hm
                subst hk25
                refine WJ.quiet ?_
                refine QJ.step (YldS.yld (y_bin rfl rfl rfl)) rfl ?_
                refine QJ.step (YldS.yld (y_move rfl)) rfl ?_
                refine QJ.done ?_
                exact PJ.round (l22, v23, w64 (x20 + 1)) [0] hm ⟨rfl, rfl, rfl, rfl, trivial⟩ ⟨by decide, rfl⟩
            · replace hm := ifF hm hb21
              refine WJ.exit ?_
              refine PJ.then_exit (PJ.then_exit (PJ.block_exit ?_))
              exact PJ.joined (l18, v19) [0] hm ⟨rfl, trivial⟩ ⟨by decide, rfl⟩
        · rintro ⟨l14, v15⟩ hm
          subst hk17
          refine WJ.seq ?_
          refine WJ.quiet ?_
          refine QJ.step (YldS.yld (y_move rfl)) rfl ?_
          refine QJ.step (YldS.yld (y_assign rfl)) rfl ?_
          refine QJ.step (YldS.yld (y_assign rfl)) rfl ?_
          refine QJ.done ?_
          refine PJ.next ?_
          refine WJ.ret ?_
          obtain rfl := Option.some.inj hm
          refine PJ.sel (L' := [row v15 62 fAct l14]) [0] ⟨by decide, rfl⟩ ?_
          exact PJ.retn (vs := [v15, .int .i64 0]) Try.results21 ⟨rfl, rfl, trivial⟩ ⟨_, rfl, rfl⟩

set_option maxRecDepth 100000 in
set_option maxHeartbeats 1000000 in
theorem ok_s_l00In {n1 : Int} {low2 : Int} {high3 : Int} {r : Bool} (hm : s_l00In n1 low2 high3 = some r) (w : World)  :
    Calls Try.prog 71 #[.int .i64 n1, .int .i64 low2, .int .i64 high3] w (Ret (cx w) (.bool r)) := by
  unfold s_l00In at hm
  refine Calls.enter [.int .i64 n1, .int .i64 low2, .int .i64 high3] Try.func71 rfl Try.ntmps71 rfl ?_
  refine WJ.seq ?_
  refine WJ.quiet ?_
  refine QJ.step (YldS.yld (y_assign rfl)) rfl ?_
  refine QJ.done ?_
  refine PJ.next ?_
  refine WJ.seq ?_
  refine WJ.quiet ?_
  refine QJ.step (YldS.yld (y_move rfl)) rfl ?_
  refine QJ.step (YldS.yld (y_move rfl)) rfl ?_
  refine QJ.step (YldS.yld (y_bin rfl rfl rfl)) rfl ?_
  refine QJ.step (YldS.yld (y_move rfl)) rfl ?_
  obtain ⟨t4, h5, hm⟩ := bindS hm
  refine QJ.cut 4 [(14, .bool t4)] ?_ ?_
  · rcases Bool.eq_false_or_eq_true (decide (n1 ≥ low2)) with hb6 | hb6
    · replace h5 := andT h5 hb6
      refine QJ.on rfl rfl (cB hb6) (YldS.yld (y_move rfl)) rfl ?_
      refine QJ.on rfl rfl (cB hb6) (YldS.yld (y_move rfl)) rfl ?_
      refine QJ.on rfl rfl (cB hb6) (YldS.yld (y_bin rfl rfl rfl)) rfl ?_
      refine QJ.step (YldS.yld (y_pick_t (cB hb6) rfl)) rfl ?_
      obtain rfl := Option.some.inj h5
      exact QJ.cut_end ⟨rfl, trivial⟩
    · obtain rfl := andF h5 hb6
      refine QJ.off rfl rfl (cB hb6) rfl rfl ?_
      refine QJ.off rfl rfl (cB hb6) rfl rfl ?_
      refine QJ.off rfl rfl (cB hb6) rfl rfl ?_
      refine QJ.step (YldS.yld (y_pick_f (cB hb6) rfl)) rfl ?_
      exact QJ.cut_end ⟨rfl, trivial⟩
  refine QJ.step (YldS.yld (y_assign rfl)) rfl ?_
  refine QJ.done ?_
  refine PJ.next ?_
  refine WJ.ret ?_
  obtain rfl := Option.some.inj hm
  refine PJ.sel (L' := []) [] ⟨List.nodup_nil, rfl⟩ ?_
  exact PJ.retn (vs := [.bool t4]) Try.results71 ⟨rfl, trivial⟩ ⟨rfl, rfl⟩

set_option maxRecDepth 100000 in
set_option maxHeartbeats 1000000 in
theorem ok_s_l04Ok {c1 : Carriage} {r : Bool} (hm : s_l04Ok c1 = some r) (w : World)  :
    Calls Try.prog 86 #[.agg (Carriage.enc c1).toArray] w (Ret (cx w) (.bool r)) := by
  unfold s_l04Ok at hm
  refine Calls.enter [.agg (Carriage.enc c1).toArray] Try.func86 rfl Try.ntmps86 rfl ?_
  refine WJ.seq ?_
  refine WJ.reg ?_
  refine SJ.box (cs := [.int .i64 c1.left, .int .i64 c1.right, .int .i64 c1.bell]) rfl rfl rfl fun g2 => ?_
  refine SJ.q (YldS.yld (y_assign rfl)) rfl ?_
  refine SJ.nil ?_
  refine PJ.next ?_
  refine WJ.seq ?_
  refine WJ.quiet ?_
  refine QJ.step (YldS.yld (y_fldB (o := 0) fld45_0 rfl)) rfl ?_
  refine QJ.step (YldS.yld (y_loadB (k := 0) (off := 0) (v := .int .i64 c1.left) rfl Try.isAgg2 rfl rfl)) rfl ?_
  obtain ⟨r3, h4, hm⟩ := bindS hm
  refine QJ.step (y_call Try.call71 rfl (RetG.quiet fun w hw => ok_s_l00In h4 w )) rfl ?_
  refine QJ.step (YldS.yld (y_move rfl)) rfl ?_
  obtain ⟨t5, h6, hm⟩ := bindS hm
  refine QJ.cut 6 [(1, pt g2 0), (12, .bool t5)] ?_ ?_
  · rcases Bool.eq_false_or_eq_true r3 with hb7 | hb7
    · replace h6 := andT h6 hb7
      refine QJ.on rfl rfl (cB hb7) (YldS.yld (y_fldB (o := 0) fld45_1 rfl)) rfl ?_
      refine QJ.on rfl rfl (cB hb7) (YldS.yld (y_loadB (k := 0) (off := 1) (v := .int .i64 c1.right) rfl Try.isAgg2 rfl rfl)) rfl ?_
      refine QJ.on rfl rfl (cB hb7) (YldS.yld (y_fldB (o := 0) fld45_0 rfl)) rfl ?_
      refine QJ.on rfl rfl (cB hb7) (YldS.yld (y_loadB (k := 0) (off := 0) (v := .int .i64 c1.left) rfl Try.isAgg2 rfl rfl)) rfl ?_
      obtain ⟨r8, h9, h6⟩ := bindS h6
      refine QJ.on rfl rfl (cB hb7) (y_call Try.call71 rfl (RetG.quiet fun w hw => ok_s_l00In h9 w )) rfl ?_
      refine QJ.step (YldS.yld (y_pick_t (cB hb7) rfl)) rfl ?_
      obtain rfl := Option.some.inj h6
      exact QJ.cut_end ⟨rfl, rfl, trivial⟩
    · obtain rfl := andF h6 hb7
      refine QJ.off rfl rfl (cB hb7) rfl rfl ?_
      refine QJ.off rfl rfl (cB hb7) rfl rfl ?_
      refine QJ.off rfl rfl (cB hb7) rfl rfl ?_
      refine QJ.off rfl rfl (cB hb7) rfl rfl ?_
      refine QJ.off rfl rfl (cB hb7) rfl rfl ?_
      refine QJ.step (YldS.yld (y_pick_f (cB hb7) rfl)) rfl ?_
      exact QJ.cut_end ⟨rfl, rfl, trivial⟩
  refine QJ.step (YldS.yld (y_move rfl)) rfl ?_
  obtain ⟨t10, h11, hm⟩ := bindS hm
  refine QJ.cut 7 [(1, pt g2 0), (20, .bool t10)] ?_ ?_
  · rcases Bool.eq_false_or_eq_true t5 with hb12 | hb12
    · replace h11 := andT h11 hb12
      refine QJ.on rfl rfl (cB hb12) (YldS.yld (y_fldB (o := 0) fld45_1 rfl)) rfl ?_
      refine QJ.on rfl rfl (cB hb12) (YldS.yld (y_loadB (k := 0) (off := 1) (v := .int .i64 c1.right) rfl Try.isAgg2 rfl rfl)) rfl ?_
      refine QJ.on rfl rfl (cB hb12) (YldS.yld (y_fldB (o := 0) fld45_0 rfl)) rfl ?_
      refine QJ.on rfl rfl (cB hb12) (YldS.yld (y_loadB (k := 0) (off := 0) (v := .int .i64 c1.left) rfl Try.isAgg2 rfl rfl)) rfl ?_
      refine QJ.on rfl rfl (cB hb12) (YldS.yld (y_bin rfl rfl rfl)) rfl ?_
      refine QJ.on rfl rfl (cB hb12) (YldS.yld (y_bin rfl rfl rfl)) rfl ?_
      refine QJ.step (YldS.yld (y_pick_t (cB hb12) rfl)) rfl ?_
      obtain rfl := Option.some.inj h11
      exact QJ.cut_end ⟨rfl, rfl, trivial⟩
    · obtain rfl := andF h11 hb12
      refine QJ.off rfl rfl (cB hb12) rfl rfl ?_
      refine QJ.off rfl rfl (cB hb12) rfl rfl ?_
      refine QJ.off rfl rfl (cB hb12) rfl rfl ?_
      refine QJ.off rfl rfl (cB hb12) rfl rfl ?_
      refine QJ.off rfl rfl (cB hb12) rfl rfl ?_
      refine QJ.off rfl rfl (cB hb12) rfl rfl ?_
      refine QJ.step (YldS.yld (y_pick_f (cB hb12) rfl)) rfl ?_
      exact QJ.cut_end ⟨rfl, rfl, trivial⟩
  refine QJ.step (YldS.yld (y_move rfl)) rfl ?_
  obtain ⟨t13, h14, hm⟩ := bindS hm
  refine QJ.cut 8 [(29, .bool t13)] ?_ ?_
  · rcases Bool.eq_false_or_eq_true t10 with hb15 | hb15
    · replace h14 := andT h14 hb15
      refine QJ.on rfl rfl (cB hb15) (YldS.yld (y_fldB (o := 0) fld45_2 rfl)) rfl ?_
      refine QJ.on rfl rfl (cB hb15) (YldS.yld (y_loadB (k := 0) (off := 2) (v := .int .i64 c1.bell) rfl Try.isAgg2 rfl rfl)) rfl ?_
      refine QJ.on rfl rfl (cB hb15) (YldS.yld (y_fldB (o := 0) fld45_0 rfl)) rfl ?_
      refine QJ.on rfl rfl (cB hb15) (YldS.yld (y_loadB (k := 0) (off := 0) (v := .int .i64 c1.left) rfl Try.isAgg2 rfl rfl)) rfl ?_
      refine QJ.on rfl rfl (cB hb15) (YldS.yld (y_fldB (o := 0) fld45_1 rfl)) rfl ?_
      refine QJ.on rfl rfl (cB hb15) (YldS.yld (y_loadB (k := 0) (off := 1) (v := .int .i64 c1.right) rfl Try.isAgg2 rfl rfl)) rfl ?_
      obtain ⟨r16, h17, h14⟩ := bindS h14
      refine QJ.on rfl rfl (cB hb15) (y_call Try.call71 rfl (RetG.quiet fun w hw => ok_s_l00In h17 w )) rfl ?_
      refine QJ.step (YldS.yld (y_pick_t (cB hb15) rfl)) rfl ?_
      obtain rfl := Option.some.inj h14
      exact QJ.cut_end ⟨rfl, trivial⟩
    · obtain rfl := andF h14 hb15
      refine QJ.off rfl rfl (cB hb15) rfl rfl ?_
      refine QJ.off rfl rfl (cB hb15) rfl rfl ?_
      refine QJ.off rfl rfl (cB hb15) rfl rfl ?_
      refine QJ.off rfl rfl (cB hb15) rfl rfl ?_
      refine QJ.off rfl rfl (cB hb15) rfl rfl ?_
      refine QJ.off rfl rfl (cB hb15) rfl rfl ?_
      refine QJ.off rfl rfl (cB hb15) rfl rfl ?_
      refine QJ.step (YldS.yld (y_pick_f (cB hb15) rfl)) rfl ?_
      exact QJ.cut_end ⟨rfl, trivial⟩
  refine QJ.step (YldS.yld (y_assign rfl)) rfl ?_
  refine QJ.done ?_
  refine PJ.next ?_
  refine WJ.ret ?_
  obtain rfl := Option.some.inj hm
  refine PJ.sel (L' := []) [] ⟨List.nodup_nil, rfl⟩ ?_
  exact PJ.retn (vs := [.bool t13]) Try.results86 ⟨rfl, trivial⟩ ⟨rfl, rfl⟩

set_option maxRecDepth 100000 in
set_option maxHeartbeats 1000000 in
theorem ok_s_l00Text {N : Nat} {s1 : Str} {most2 : Int} {r : Bool} (hm : s_l00Text N s1 most2 = some r) (w : World)  :
    Calls Try.prog 87 #[str s1, .int .i64 most2] w (Ret (cx w) (.bool r)) := by
  unfold s_l00Text at hm
  refine Calls.enter [str s1, .int .i64 most2] Try.func87 rfl Try.ntmps87 rfl ?_
  refine WJ.seq ?_
  refine WJ.quiet ?_
  refine QJ.step (YldS.yld (y_assign rfl)) rfl ?_
  refine QJ.done ?_
  refine PJ.next ?_
  obtain ⟨kj3, hk4, hm⟩ := withK_open hm
  refine WJ.join (X := Unit) (fun (_ : Unit) => kj3  = some r) (fun (_ : Unit) => [(0, str s1), (1, .int .i64 most2)]) (fun (_ : Unit) => []) ?_ ?_
  · clear hk4
    refine WJ.seq ?_
    refine WJ.quiet ?_
    refine QJ.step (YldS.yld (y_assign rfl)) rfl ?_
    refine QJ.done ?_
    refine PJ.next ?_
    refine WJ.block ?_
    refine WJ.sel (L' := (fun (x : Int) => []) 0) [] ⟨List.nodup_nil, rfl⟩ ?_
    refine WJ.sub (m' := (fun (x : Int) => [(0, str s1), (1, .int .i64 most2), (5, .int .i64 x)]) 0) ⟨rfl, rfl, rfl, trivial⟩ ?_
    refine WJ.loop (X := Int) (fun N (x : Int) => s_l00Text_l1 kj3 s1 N x = some r) (fun (x : Int) => [(0, str s1), (1, .int .i64 most2), (5, .int .i64 x)]) (fun (x : Int) => []) ?_ N 0 hm
    · rintro N i5 hI
      have hm := hI; clear hI
      cases N with
      | zero => cases hm
      | succ N =>
      unfold s_l00Text_l1 at hm
      refine WJ.seq ?_
      refine WJ.seq ?_
      refine WJ.quiet ?_
      refine QJ.step (YldS.yld (y_move rfl)) rfl ?_
      refine QJ.step (YldS.yld (y_move rfl)) rfl ?_
      refine QJ.step (YldS.yld (y_lenStr Try.runUnderlying9 rfl)) rfl ?_
      refine QJ.step (YldS.yld (y_bin rfl rfl rfl)) rfl ?_
      refine QJ.done ?_
      refine PJ.next ?_
      refine WJ.cond (t := decide (i5 < (List.length s1 : Int))) rfl (fun hb6 => ?_) (fun hb6 => ?_)
      · replace hm := ifT hm hb6
        refine WJ.skip ?_
        refine PJ.next ?_
        refine WJ.seq ?_
        refine WJ.block ?_
        refine WJ.seq ?_
        refine WJ.quiet ?_
        refine QJ.step (YldS.yld (y_move rfl)) rfl ?_
        refine QJ.step (YldS.yld (y_move rfl)) rfl ?_
        obtain ⟨c7, h8, hm⟩ := bindS hm
        refine QJ.step (YldS.yld (y_idxStr Try.runUnderlying9 rfl rfl h8)) rfl ?_
        refine QJ.step (YldS.yld (y_bin8 c7 (32 : UInt8) rfl rfl rfl)) rfl ?_
        refine QJ.step (YldS.yld (y_move rfl)) rfl ?_
        obtain ⟨t9, h10, hm⟩ := bindS hm
        refine QJ.cut 5 [(0, str s1), (1, .int .i64 most2), (5, .int .i64 i5), (21, .bool t9)] ?_ ?_
        · rcases Bool.eq_false_or_eq_true (decide (c7 < (32 : UInt8))) with hb11 | hb11
          · obtain rfl := orT h10 hb11
            refine QJ.off rfl rfl (cB hb11) rfl rfl ?_
            refine QJ.off rfl rfl (cB hb11) rfl rfl ?_
            refine QJ.off rfl rfl (cB hb11) rfl rfl ?_
            refine QJ.off rfl rfl (cB hb11) rfl rfl ?_
            refine QJ.step (YldS.yld (y_pick_t (cB hb11) rfl)) rfl ?_
            exact QJ.cut_end ⟨rfl, rfl, rfl, rfl, trivial⟩
          · replace h10 := orF h10 hb11
            refine QJ.on rfl rfl (cB hb11) (YldS.yld (y_move rfl)) rfl ?_
            refine QJ.on rfl rfl (cB hb11) (YldS.yld (y_move rfl)) rfl ?_
            obtain ⟨c12, h13, h10⟩ := bindS h10
            refine QJ.on rfl rfl (cB hb11) (YldS.yld (y_idxStr Try.runUnderlying9 rfl rfl h13)) rfl ?_
            refine QJ.on rfl rfl (cB hb11) (YldS.yld (y_bin8 c12 (126 : UInt8) rfl rfl rfl)) rfl ?_
            refine QJ.step (YldS.yld (y_pick_f (cB hb11) rfl)) rfl ?_
            obtain rfl := Option.some.inj h10
            exact QJ.cut_end ⟨rfl, rfl, rfl, rfl, trivial⟩
        refine QJ.done ?_
        refine PJ.next ?_
        refine WJ.cond (t := t9) rfl (fun hb14 => ?_) (fun hb14 => ?_)
        · replace hm := ifT hm hb14
          refine WJ.seq ?_
          refine WJ.quiet ?_
          refine QJ.step (YldS.yld (y_assign rfl)) rfl ?_
          refine QJ.done ?_
          refine PJ.next ?_
          refine WJ.ret ?_
          refine PJ.block_ret (PJ.then_ret (PJ.then_ret (PJ.block_ret (PJ.then_ret ?_))))
          obtain rfl := Option.some.inj hm
          refine PJ.sel (L' := []) [] ⟨List.nodup_nil, rfl⟩ ?_
          exact PJ.retn (vs := [.bool false]) Try.results87 ⟨rfl, trivial⟩ ⟨rfl, rfl⟩
        · replace hm := ifF hm hb14
          refine WJ.skip ?_
          refine PJ.block_normal (PJ.next ?_)
          refine WJ.quiet ?_
          refine QJ.step (YldS.yld (y_move rfl)) rfl ?_
          refine QJ.step (YldS.yld (y_bin rfl rfl rfl)) rfl ?_
          refine QJ.step (YldS.yld (y_assign rfl)) rfl ?_
          refine QJ.done ?_
          exact PJ.round (w64 (i5 + 1)) [] hm ⟨rfl, rfl, rfl, trivial⟩ ⟨List.nodup_nil, rfl⟩
      · replace hm := ifF hm hb6
        refine WJ.exit ?_
        refine PJ.then_exit (PJ.then_exit (PJ.block_exit ?_))
        exact PJ.joined () [] hm ⟨rfl, rfl, trivial⟩ ⟨List.nodup_nil, rfl⟩
  · rintro _ hm
    subst hk4
    refine WJ.seq ?_
    refine WJ.quiet ?_
    refine QJ.step (YldS.yld (y_move rfl)) rfl ?_
    refine QJ.step (YldS.yld (y_lenStr Try.runUnderlying9 rfl)) rfl ?_
    refine QJ.step (YldS.yld (y_move rfl)) rfl ?_
    refine QJ.step (YldS.yld (y_bin rfl rfl rfl)) rfl ?_
    refine QJ.step (YldS.yld (y_assign rfl)) rfl ?_
    refine QJ.done ?_
    refine PJ.next ?_
    refine WJ.ret ?_
    obtain rfl := Option.some.inj hm
    refine PJ.sel (L' := []) [] ⟨List.nodup_nil, rfl⟩ ?_
    exact PJ.retn (vs := [.bool (decide ((List.length s1 : Int) ≤ most2))]) Try.results87 ⟨rfl, trivial⟩ ⟨rfl, rfl⟩

set_option maxRecDepth 100000 in
set_option maxHeartbeats 1000000 in
theorem ok_s_ActsForLine {N : Nat} {c1 : Carriage} {line2 : Str} {r : (List Act) × Int} (hm : s_ActsForLine N c1 line2 = some r) (w : World)  :
    Calls Try.prog 22 #[.agg (Carriage.enc c1).toArray, str line2] w (RetG (cx w) fun u L => ∃ (u1 : Value), (u = tup [u1, .int .i64 r.2] ∧ L = [row u1 62 fAct r.1])) := by
  unfold s_ActsForLine at hm
  refine Calls.enter [.agg (Carriage.enc c1).toArray, str line2] Try.func22 rfl Try.ntmps22 rfl ?_
  refine WJ.seq ?_
  refine WJ.reg ?_
  refine SJ.box (cs := [.int .i64 c1.left, .int .i64 c1.right, .int .i64 c1.bell]) rfl rfl rfl fun g3 => ?_
  refine SJ.q (YldS.yld (y_assign rfl)) rfl ?_
  refine SJ.q (YldS.yld (y_assign rfl)) rfl ?_
  refine SJ.nil ?_
  refine PJ.next ?_
  refine WJ.seq ?_
  refine WJ.seq ?_
  refine WJ.quiet ?_
  refine QJ.step (YldS.yld (y_loadBN (k := 0) (off := 0) (us := [.int .i64 c1.left, .int .i64 c1.right, .int .i64 c1.bell]) rfl Try.isAgg45 Try.sizeOf45 rfl rfl)) rfl ?_
  obtain ⟨r4, h5, hm⟩ := bindS hm
  refine QJ.step (y_call Try.call86 rfl (RetG.quiet fun w hw => ok_s_l04Ok h5 w )) rfl ?_
  refine QJ.step (YldS.yld (y_not rfl)) rfl ?_
  refine QJ.done ?_
  refine PJ.next ?_
  refine WJ.cond (t := !r4) rfl (fun hb6 => ?_) (fun hb6 => ?_)
  · replace hm := ifT hm hb6
    refine WJ.seq ?_
    refine WJ.quiet ?_
    refine QJ.step (YldS.yld (y_assign rfl)) rfl ?_
    refine QJ.step (YldS.yld (y_assign rfl)) rfl ?_
    refine QJ.done ?_
    refine PJ.next ?_
    refine WJ.ret ?_
    refine PJ.then_ret ?_
    refine PJ.nil_row 62 fAct ?_
    obtain rfl := Option.some.inj hm
    refine PJ.sel (L' := [row (.slice none 0 0) 62 fAct []]) [0] ⟨by decide, rfl⟩ ?_
    exact PJ.retn (vs := [(.slice none 0 0), .int .i64 1]) Try.results22 ⟨rfl, rfl, trivial⟩ ⟨_, rfl, rfl⟩
  · replace hm := ifF hm hb6
    refine WJ.skip ?_
    refine PJ.next ?_
    refine WJ.seq ?_
    refine WJ.seq ?_
    refine WJ.quiet ?_
    refine QJ.step (YldS.yld (y_move rfl)) rfl ?_
    obtain ⟨r7, h8, hm⟩ := bindS hm
    refine QJ.step (y_call Try.call87 rfl (RetG.quiet fun w hw => ok_s_l00Text h8 w )) rfl ?_
    refine QJ.step (YldS.yld (y_not rfl)) rfl ?_
    refine QJ.done ?_
    refine PJ.next ?_
    refine WJ.cond (t := !r7) rfl (fun hb9 => ?_) (fun hb9 => ?_)
    · replace hm := ifT hm hb9
      refine WJ.seq ?_
      refine WJ.quiet ?_
      refine QJ.step (YldS.yld (y_assign rfl)) rfl ?_
      refine QJ.step (YldS.yld (y_assign rfl)) rfl ?_
      refine QJ.done ?_
      refine PJ.next ?_
      refine WJ.ret ?_
      refine PJ.then_ret ?_
      refine PJ.nil_row 62 fAct ?_
      obtain rfl := Option.some.inj hm
      refine PJ.sel (L' := [row (.slice none 0 0) 62 fAct []]) [0] ⟨by decide, rfl⟩ ?_
      exact PJ.retn (vs := [(.slice none 0 0), .int .i64 2]) Try.results22 ⟨rfl, rfl, trivial⟩ ⟨_, rfl, rfl⟩
    · replace hm := ifF hm hb9
      refine WJ.skip ?_
      refine PJ.next ?_
      refine WJ.seq ?_
      refine WJ.quiet ?_
      refine QJ.step (YldS.yld (y_move rfl)) rfl ?_
      refine QJ.step (YldS.yld (y_lenStr Try.runUnderlying9 rfl)) rfl ?_
      refine QJ.step (YldS.yld (y_assign rfl)) rfl ?_
      refine QJ.done ?_
      refine PJ.next ?_
      obtain ⟨kj11, hk12, hm⟩ := withK_open hm
      refine WJ.join (X := Int) (fun (x : Int) => kj11 x = some r) (fun (x : Int) => [(1, str line2), (2, pt g3 0), (6, .int .i64 x)]) (fun (x : Int) => [box g3 45 [.int .i64 c1.left, .int .i64 c1.right, .int .i64 c1.bell]]) ?_ ?_
      · clear hk12
        refine WJ.block ?_
        refine WJ.sel (L' := (fun (x : Int) => [box g3 45 [.int .i64 c1.left, .int .i64 c1.right, .int .i64 c1.bell]]) (List.length line2 : Int)) [0] ⟨by decide, rfl⟩ ?_
        refine WJ.sub (m' := (fun (x : Int) => [(1, str line2), (2, pt g3 0), (6, .int .i64 x)]) (List.length line2 : Int)) ⟨rfl, rfl, rfl, trivial⟩ ?_
        refine WJ.loop (X := Int) (fun N (x : Int) => s_ActsForLine_l1 kj11 line2 N x = some r) (fun (x : Int) => [(1, str line2), (2, pt g3 0), (6, .int .i64 x)]) (fun (x : Int) => [box g3 45 [.int .i64 c1.left, .int .i64 c1.right, .int .i64 c1.bell]]) ?_ N (List.length line2 : Int) hm
        · rintro N n13 hI
          have hm := hI; clear hI
          cases N with
          | zero => cases hm
          | succ N =>
          unfold s_ActsForLine_l1 at hm
          refine WJ.seq ?_
          refine WJ.seq ?_
          refine WJ.quiet ?_
          refine QJ.step (YldS.yld (y_move rfl)) rfl ?_
          refine QJ.step (YldS.yld (y_bin rfl rfl rfl)) rfl ?_
          refine QJ.step (YldS.yld (y_move rfl)) rfl ?_
          obtain ⟨t14, h15, hm⟩ := bindS hm
          refine QJ.cut 6 [(1, str line2), (2, pt g3 0), (6, .int .i64 n13), (25, .bool t14)] ?_ ?_
          · rcases Bool.eq_false_or_eq_true (decide (n13 > 0)) with hb16 | hb16
            · replace h15 := andT h15 hb16
              refine QJ.on rfl rfl (cB hb16) (YldS.yld (y_move rfl)) rfl ?_
              refine QJ.on rfl rfl (cB hb16) (YldS.yld (y_move rfl)) rfl ?_
              refine QJ.on rfl rfl (cB hb16) (YldS.yld (y_bin rfl rfl rfl)) rfl ?_
              obtain ⟨c17, h18, h15⟩ := bindS h15
              refine QJ.on rfl rfl (cB hb16) (YldS.yld (y_idxStr Try.runUnderlying9 rfl rfl h18)) rfl ?_
              refine QJ.on rfl rfl (cB hb16) (YldS.yld (y_bin8 c17 (32 : UInt8) rfl rfl rfl)) rfl ?_
              refine QJ.step (YldS.yld (y_pick_t (cB hb16) rfl)) rfl ?_
              obtain rfl := Option.some.inj h15
              exact QJ.cut_end ⟨rfl, rfl, rfl, rfl, trivial⟩
            · obtain rfl := andF h15 hb16
              refine QJ.off rfl rfl (cB hb16) rfl rfl ?_
              refine QJ.off rfl rfl (cB hb16) rfl rfl ?_
              refine QJ.off rfl rfl (cB hb16) rfl rfl ?_
              refine QJ.off rfl rfl (cB hb16) rfl rfl ?_
              refine QJ.off rfl rfl (cB hb16) rfl rfl ?_
              refine QJ.step (YldS.yld (y_pick_f (cB hb16) rfl)) rfl ?_
              exact QJ.cut_end ⟨rfl, rfl, rfl, rfl, trivial⟩
          refine QJ.done ?_
          refine PJ.next ?_
          refine WJ.cond (t := t14) rfl (fun hb19 => ?_) (fun hb19 => ?_)
          · replace hm := ifT hm hb19
            refine WJ.skip ?_
            refine PJ.next ?_
            refine WJ.block ?_
            refine WJ.quiet ?_
            refine QJ.step (YldS.yld (y_move rfl)) rfl ?_
            refine QJ.step (YldS.yld (y_bin rfl rfl rfl)) rfl ?_
            refine QJ.step (YldS.yld (y_assign rfl)) rfl ?_
            refine QJ.done ?_
            refine PJ.block_normal ?_
            exact PJ.round (w64 (n13 - 1)) [0] hm ⟨rfl, rfl, rfl, trivial⟩ ⟨by decide, rfl⟩
          · replace hm := ifF hm hb19
            refine WJ.exit ?_
            refine PJ.then_exit (PJ.then_exit (PJ.block_exit ?_))
            exact PJ.joined n13 [0] hm ⟨rfl, rfl, rfl, trivial⟩ ⟨by decide, rfl⟩
      · rintro n10 hm
        subst hk12
        refine WJ.seq ?_
        refine WJ.seq ?_
        refine WJ.quiet ?_
        refine QJ.step (YldS.yld (y_move rfl)) rfl ?_
        refine QJ.step (YldS.yld (y_bin rfl rfl rfl)) rfl ?_
        refine QJ.step (YldS.yld (y_fldB (o := 0) fld45_1 rfl)) rfl ?_
        refine QJ.step (YldS.yld (y_loadB (k := 0) (off := 1) (v := .int .i64 c1.right) rfl Try.isAgg2 rfl rfl)) rfl ?_
        refine QJ.step (YldS.yld (y_fldB (o := 0) fld45_0 rfl)) rfl ?_
        refine QJ.step (YldS.yld (y_loadB (k := 0) (off := 0) (v := .int .i64 c1.left) rfl Try.isAgg2 rfl rfl)) rfl ?_
        refine QJ.step (YldS.yld (y_bin rfl rfl rfl)) rfl ?_
        refine QJ.step (YldS.yld (y_bin rfl rfl rfl)) rfl ?_
        refine QJ.done ?_
        refine PJ.next ?_
        refine WJ.cond (t := decide ((w64 (2 * n10)) > (w64 (c1.right - c1.left)))) rfl (fun hb20 => ?_) (fun hb20 => ?_)
        · replace hm := ifT hm hb20
          refine WJ.seq ?_
          refine WJ.quiet ?_
          refine QJ.step (YldS.yld (y_assign rfl)) rfl ?_
          refine QJ.step (YldS.yld (y_assign rfl)) rfl ?_
          refine QJ.done ?_
          refine PJ.next ?_
          refine WJ.ret ?_
          refine PJ.then_ret ?_
          refine PJ.nil_row 62 fAct ?_
          obtain rfl := Option.some.inj hm
          refine PJ.sel (L' := [row (.slice none 0 0) 62 fAct []]) [0] ⟨by decide, rfl⟩ ?_
          exact PJ.retn (vs := [(.slice none 0 0), .int .i64 5]) Try.results22 ⟨rfl, rfl, trivial⟩ ⟨_, rfl, rfl⟩
        · replace hm := ifF hm hb20
          refine WJ.skip ?_
          refine PJ.next ?_
          refine WJ.seq ?_
          refine WJ.reg ?_
          refine SJ.buildSlice (R := fAct) (os := []) [] Try.runUnderlying48 Try.sizeOf62 Try.zeroValue62 rfl rfl rfl rfl rfl rfl fun v21 => ?_
          refine SJ.q (YldS.yld (y_assign rfl)) rfl ?_
          refine SJ.nil ?_
          refine PJ.next ?_
          obtain ⟨kj24, hk25, hm⟩ := withK_open hm
          refine WJ.join (X := (List Act) × Value) (fun (x : (List Act) × Value) => kj24 x.1 = some r) (fun (x : (List Act) × Value) => [(7, x.2)]) (fun (x : (List Act) × Value) => [row x.2 62 fAct x.1]) ?_ ?_
          · clear hk25
            refine WJ.seq ?_
            refine WJ.quiet ?_
            refine QJ.step (YldS.yld (y_assign rfl)) rfl ?_
            refine QJ.done ?_
            refine PJ.next ?_
            refine WJ.block ?_
            refine WJ.sel (L' := (fun (x : (List Act) × Value × Int) => [row x.2.1 62 fAct x.1]) ([], v21, 0)) [0] ⟨by decide, rfl⟩ ?_
            refine WJ.sub (m' := (fun (x : (List Act) × Value × Int) => [(1, str line2), (6, .int .i64 n10), (7, x.2.1), (8, .int .i64 x.2.2)]) ([], v21, 0)) ⟨rfl, rfl, rfl, rfl, trivial⟩ ?_
            refine WJ.loop (X := (List Act) × Value × Int) (fun N (x : (List Act) × Value × Int) => s_ActsForLine_l2 kj24 line2 n10 N x.1 x.2.2 = some r) (fun (x : (List Act) × Value × Int) => [(1, str line2), (6, .int .i64 n10), (7, x.2.1), (8, .int .i64 x.2.2)]) (fun (x : (List Act) × Value × Int) => [row x.2.1 62 fAct x.1]) ?_ N ([], v21, 0) hm
            · rintro N ⟨l26, v27, i28⟩ hI
              have hm := hI; clear hI
              cases N with
              | zero => cases hm
              | succ N =>
              unfold s_ActsForLine_l2 at hm
              refine WJ.seq ?_
              refine WJ.seq ?_
              refine WJ.quiet ?_
              refine QJ.step (YldS.yld (y_move rfl)) rfl ?_
              refine QJ.step (YldS.yld (y_move rfl)) rfl ?_
              refine QJ.step (YldS.yld (y_bin rfl rfl rfl)) rfl ?_
              refine QJ.done ?_
              refine PJ.next ?_
              refine WJ.cond (t := decide (i28 < n10)) rfl (fun hb29 => ?_) (fun hb29 => ?_)
              · replace hm := ifT hm hb29
                refine WJ.skip ?_
                refine PJ.next ?_
                obtain ⟨kj32, hk33, hm⟩ := withK_open hm
                refine WJ.join (X := (List Act) × Value) (fun (x : (List Act) × Value) => kj32 x.1 = some r) (fun (x : (List Act) × Value) => [(1, str line2), (6, .int .i64 n10), (7, x.2), (8, .int .i64 i28)]) (fun (x : (List Act) × Value) => [row x.2 62 fAct x.1]) ?_ ?_
                · clear hk33
                  refine WJ.block ?_
                  refine WJ.seq ?_
                  refine WJ.quiet ?_
                  refine QJ.step (YldS.yld (y_move rfl)) rfl ?_
                  refine QJ.step (YldS.yld (y_move rfl)) rfl ?_
                  obtain ⟨c34, h35, hm⟩ := bindS hm
                  refine QJ.step (YldS.yld (y_idxStr Try.runUnderlying9 rfl rfl h35)) rfl ?_
                  refine QJ.step (YldS.yld (y_bin8 c34 (32 : UInt8) rfl rfl rfl)) rfl ?_
                  refine QJ.done ?_
                  refine PJ.next ?_
                  refine WJ.cond (t := (c34 == (32 : UInt8))) rfl (fun hb36 => ?_) (fun hb36 => ?_)
                  · replace hm := ifT hm hb36
                    refine WJ.reg ?_
                    refine SJ.q (YldS.yld (y_move rfl)) rfl ?_
                    refine SJ.q (YldS.yld (y_build (parts := [(0, .const (.int .i64 1))]) (places := [(0, 1), (1, 1)]) (r := [.int .i64 ((Act.mk 1 []).kind), str ((Act.mk 1 []).letter)]) pl62 Try.zeroValue62 rfl rfl rfl rfl)) rfl ?_
                    refine SJ.buildSlice (R := fAct) (os := [.tmp 47]) [(Act.mk 1 [])] Try.runUnderlying48 Try.sizeOf62 Try.zeroValue62 rfl rfl rfl rfl rfl rfl fun v37 => ?_
                    obtain ⟨l38, h39, hm⟩ := bindS hm
                    refine SJ.append (k := 1) (R := fAct) h39 rfl Try.underlying48 el62 rfl rfl rfl (fun w hw => (hw.row_rd (k := 0) rfl)) rfl fun v40 => ?_
                    refine SJ.q (YldS.yld (y_assign rfl)) rfl ?_
                    refine SJ.nil ?_
                    refine PJ.block_normal ?_
                    exact PJ.joined (l38, v40) [1] hm ⟨rfl, rfl, rfl, rfl, trivial⟩ ⟨by decide, rfl⟩
                  · replace hm := ifF hm hb36
                    refine WJ.reg ?_
                    refine SJ.q (YldS.yld (y_move rfl)) rfl ?_
                    refine SJ.q (YldS.yld (y_move rfl)) rfl ?_
                    refine SJ.q (YldS.yld (y_move rfl)) rfl ?_
                    refine SJ.q (YldS.yld (y_move rfl)) rfl ?_
                    refine SJ.q (YldS.yld (y_bin rfl rfl rfl)) rfl ?_
                    obtain ⟨s41, h42, hm⟩ := bindS hm
                    refine SJ.q (YldS.yld (y_subStr (i := some i28) (j := some (w64 (i28 + 1))) h42 Try.runUnderlying9 rfl ⟨_, rfl⟩ ⟨_, rfl⟩)) rfl ?_
                    refine SJ.q (YldS.yld (y_build (parts := [(0, .const (.int .i64 0)), (1, .tmp 55)]) (places := [(0, 1), (1, 1)]) (r := [.int .i64 ((Act.mk 0 s41).kind), str ((Act.mk 0 s41).letter)]) pl62 Try.zeroValue62 rfl rfl rfl rfl)) rfl ?_
                    refine SJ.buildSlice (R := fAct) (os := [.tmp 56]) [(Act.mk 0 s41)] Try.runUnderlying48 Try.sizeOf62 Try.zeroValue62 rfl rfl rfl rfl rfl rfl fun v43 => ?_
                    obtain ⟨l44, h45, hm⟩ := bindS hm
                    refine SJ.append (k := 1) (R := fAct) h45 rfl Try.underlying48 el62 rfl rfl rfl (fun w hw => (hw.row_rd (k := 0) rfl)) rfl fun v46 => ?_
                    refine SJ.q (YldS.yld (y_assign rfl)) rfl ?_
                    refine SJ.nil ?_
                    refine PJ.block_normal ?_
                    exact PJ.joined (l44, v46) [1] hm ⟨rfl, rfl, rfl, rfl, trivial⟩ ⟨by decide, rfl⟩
                · rintro ⟨l30, v31⟩ hm
                  subst hk33
                  refine WJ.quiet ?_
                  refine QJ.step (YldS.yld (y_move rfl)) rfl ?_
                  refine QJ.step (YldS.yld (y_bin rfl rfl rfl)) rfl ?_
                  refine QJ.step (YldS.yld (y_assign rfl)) rfl ?_
                  refine QJ.done ?_
                  exact PJ.round (l30, v31, w64 (i28 + 1)) [0] hm ⟨rfl, rfl, rfl, rfl, trivial⟩ ⟨by decide, rfl⟩
              · replace hm := ifF hm hb29
                refine WJ.exit ?_
                refine PJ.then_exit (PJ.then_exit (PJ.block_exit ?_))
                exact PJ.joined (l26, v27) [0] hm ⟨rfl, trivial⟩ ⟨by decide, rfl⟩
          · rintro ⟨l22, v23⟩ hm
            subst hk25
            refine WJ.seq ?_
            refine WJ.quiet ?_
            refine QJ.step (YldS.yld (y_move rfl)) rfl ?_
            refine QJ.step (YldS.yld (y_assign rfl)) rfl ?_
            refine QJ.step (YldS.yld (y_assign rfl)) rfl ?_
            refine QJ.done ?_
            refine PJ.next ?_
            refine WJ.ret ?_
            obtain rfl := Option.some.inj hm
            refine PJ.sel (L' := [row v23 62 fAct l22]) [0] ⟨by decide, rfl⟩ ?_
            exact PJ.retn (vs := [v23, .int .i64 0]) Try.results22 ⟨rfl, rfl, trivial⟩ ⟨_, rfl, rfl⟩

set_option maxRecDepth 100000 in
set_option maxHeartbeats 1000000 in
theorem ok_s_l00Src_text {s1 : L00Src} {list5 : List Str} {g2 : Nat} {r : Str × L00Src} (hm : s_l00Src_text s1 list5 = some r) (w : World) (S : Nat → Prop) (v3 : Value) (hr4 : RdS w (Cx.Fz ⟨w, S⟩) v3 fByte.rp s1.code) (v6 : Value) (hr7 : RdS w (Cx.Fz ⟨w, S⟩) v6 fStr.rp list5) (hA : (box g2 157 [v3, .int .i64 s1.at_, .int .u64 s1.seed]).holds w S) :
    Calls Try.prog 75 #[pt g2 0, v6] w (RetG ⟨w, S⟩ fun u L => (u = str r.1 ∧ L = [box g2 157 [v3, .int .i64 r.2.at_, .int .u64 r.2.seed]])) := by
  unfold s_l00Src_text at hm
  refine Calls.enter1 hA [pt g2 0, v6] Try.func75 rfl Try.ntmps75 rfl ?_
  refine WJ.seq ?_
  refine WJ.quiet ?_
  refine QJ.step (YldS.yld (y_assign rfl)) rfl ?_
  refine QJ.done ?_
  refine PJ.next ?_
  refine WJ.seq ?_
  refine WJ.reg ?_
  refine SJ.q (YldS.yld (y_move rfl)) rfl ?_
  refine SJ.q (YldS.yld (y_move rfl)) rfl ?_
  refine SJ.q (YldS.yld (y_move rfl)) rfl ?_
  refine SJ.q (YldS.yld (y_lenS Try.runUnderlying78 hr7 rfl)) rfl ?_
  obtain ⟨r8, h9, hm⟩ := bindS hm
  refine SJ.call1 (k := 0) rfl Try.call83 rfl (fun w S hw hA hO => ok_s_l00Src_pick h9 w S _ (hr4.st1 hw hO) hA) rfl ?_
  rintro _ _ ⟨rfl, rfl⟩
  obtain ⟨e10, h11, hm⟩ := bindS hm
  obtain ⟨ad12, _, rfl, ha13, hy14⟩ := hr7.elem h11
  refine SJ.q (YldS.yld (hy14 Try.runUnderlying78 Try.sizeOf9 rfl rfl)) rfl ?_
  refine SJ.q (YldS.yld (y_load1 (v := str e10) Try.isAgg9 ha13 St.frozenC rfl)) rfl ?_
  refine SJ.q (YldS.yld (y_assign rfl)) rfl ?_
  refine SJ.nil ?_
  refine PJ.next ?_
  refine WJ.ret ?_
  obtain rfl := Option.some.inj hm
  refine PJ.sel (L' := [box g2 157 [v3, .int .i64 r8.2.at_, .int .u64 r8.2.seed]]) [0] ⟨by decide, rfl⟩ ?_
  exact PJ.retn (vs := [str e10]) Try.results75 ⟨rfl, trivial⟩ ⟨rfl, rfl⟩

set_option maxRecDepth 100000 in
set_option maxHeartbeats 1000000 in
theorem ok_s_l04DrawActs {N : Nat} {s1 : L00Src} {g2 : Nat} {r : (List Act) × L00Src} (hm : s_l04DrawActs N s1 = some r) (w : World) (S : Nat → Prop) (v3 : Value) (hr4 : RdS w (Cx.Fz ⟨w, S⟩) v3 fByte.rp s1.code) (hA : (box g2 157 [v3, .int .i64 s1.at_, .int .u64 s1.seed]).holds w S) :
    Calls Try.prog 122 #[pt g2 0] w (RetG ⟨w, S⟩ fun u L => ∃ (u1 : Value), (u = u1 ∧ L = [box g2 157 [v3, .int .i64 r.2.at_, .int .u64 r.2.seed], row u1 62 fAct r.1])) := by
  unfold s_l04DrawActs at hm
  refine Calls.enter1 hA [pt g2 0] Try.func122 rfl Try.ntmps122 rfl ?_
  refine WJ.seq ?_
  refine WJ.quiet ?_
  refine QJ.step (YldS.yld (y_assign rfl)) rfl ?_
  refine QJ.done ?_
  refine PJ.next ?_
  refine WJ.seq ?_
  refine WJ.reg ?_
  refine SJ.buildSlice (R := fAct) (os := []) [] Try.runUnderlying48 Try.sizeOf62 Try.zeroValue62 rfl rfl rfl rfl rfl rfl fun v5 => ?_
  refine SJ.q (YldS.yld (y_assign rfl)) rfl ?_
  refine SJ.nil ?_
  refine PJ.next ?_
  refine WJ.seq ?_
  refine WJ.reg ?_
  refine SJ.q (YldS.yld (y_move rfl)) rfl ?_
  obtain ⟨r6, h7, hm⟩ := bindS hm
  refine SJ.call1 (k := 1) rfl Try.call83 rfl (fun w S hw hA hO => ok_s_l00Src_pick h7 w S _ (hr4.st1 hw hO) hA) rfl ?_
  rintro _ _ ⟨rfl, rfl⟩
  refine SJ.q (YldS.yld (y_assign rfl)) rfl ?_
  refine SJ.nil ?_
  refine PJ.next ?_
  obtain ⟨kj11, hk12, hm⟩ := withK_open hm
  refine WJ.join (X := Int × Int × Int) (fun (x : Int × Int × Int) => kj11 x.1 x.2.1 x.2.2 = some r) (fun (x : Int × Int × Int) => [(0, pt g2 0), (3, v5), (4, .int .i64 x.2.2)]) (fun (x : Int × Int × Int) => [box g2 157 [v3, .int .i64 x.1, .int .u64 x.2.1], row v5 62 fAct []]) ?_ ?_
  · clear hk12
    refine WJ.seq ?_
    refine WJ.reg ?_
    refine SJ.q (YldS.yld (y_move rfl)) rfl ?_
    obtain ⟨r13, h14, hm⟩ := bindS hm
    refine SJ.call1 (k := 0) rfl Try.call84 rfl (fun w S hw hA hO => ok_s_l00Src_one h14 w S _ (hr4.st1 hw hO) hA) rfl ?_
    rintro _ _ ⟨rfl, rfl⟩
    refine SJ.nil ?_
    refine PJ.next ?_
    refine WJ.cond (t := r13.1) rfl (fun hb15 => ?_) (fun hb15 => ?_)
    · replace hm := ifT hm hb15
      refine WJ.reg ?_
      refine SJ.q (YldS.yld (y_move rfl)) rfl ?_
      obtain ⟨r16, h17, hm⟩ := bindS hm
      refine SJ.call1 (k := 0) rfl Try.call83 rfl (fun w S hw hA hO => ok_s_l00Src_pick h17 w S _ (hr4.st1 hw hO) hA) rfl ?_
      rintro _ _ ⟨rfl, rfl⟩
      refine SJ.q (YldS.yld (y_bin rfl rfl rfl)) rfl ?_
      refine SJ.q (YldS.yld (y_assign rfl)) rfl ?_
      refine SJ.nil ?_
      exact PJ.joined (r16.2.at_, r16.2.seed, w64 (200 + r16.1)) [0, 1] hm ⟨rfl, rfl, rfl, trivial⟩ ⟨by decide, rfl⟩
    · replace hm := ifF hm hb15
      refine WJ.skip ?_
      exact PJ.joined (r13.2.at_, r13.2.seed, r6.1) [0, 1] hm ⟨rfl, rfl, rfl, trivial⟩ ⟨by decide, rfl⟩
  · rintro ⟨x8, x9, n10⟩ hm
    subst hk12
    obtain ⟨kj22, hk23, hm⟩ := withK_open hm
    refine WJ.join (X := Int × Int × (List Act) × Value) (fun (x : Int × Int × (List Act) × Value) => kj22 x.1 x.2.1 x.2.2.1 = some r) (fun (x : Int × Int × (List Act) × Value) => [(0, pt g2 0), (3, x.2.2.2), (4, .int .i64 n10)]) (fun (x : Int × Int × (List Act) × Value) => [box g2 157 [v3, .int .i64 x.1, .int .u64 x.2.1], row x.2.2.2 62 fAct x.2.2.1]) ?_ ?_
    · clear hk23
      refine WJ.seq ?_
      refine WJ.quiet ?_
      refine QJ.step (YldS.yld (y_move rfl)) rfl ?_
      refine QJ.step (YldS.yld (y_assign rfl)) rfl ?_
      refine QJ.done ?_
      refine PJ.next ?_
      refine WJ.block ?_
      refine WJ.sel (L' := (fun (x : Int × Int × (List Act) × Value × Int) => [box g2 157 [v3, .int .i64 x.1, .int .u64 x.2.1], row x.2.2.2.1 62 fAct x.2.2.1]) (x8, x9, [], v5, n10)) [0, 1] ⟨by decide, rfl⟩ ?_
      refine WJ.sub (m' := (fun (x : Int × Int × (List Act) × Value × Int) => [(0, pt g2 0), (3, x.2.2.2.1), (4, .int .i64 n10), (5, .int .i64 x.2.2.2.2)]) (x8, x9, [], v5, n10)) ⟨rfl, rfl, rfl, rfl, trivial⟩ ?_
      refine WJ.loop (X := Int × Int × (List Act) × Value × Int) (fun N (x : Int × Int × (List Act) × Value × Int) => s_l04DrawActs_l1 kj22 s1 N x.1 x.2.1 x.2.2.1 x.2.2.2.2 = some r) (fun (x : Int × Int × (List Act) × Value × Int) => [(0, pt g2 0), (3, x.2.2.2.1), (4, .int .i64 n10), (5, .int .i64 x.2.2.2.2)]) (fun (x : Int × Int × (List Act) × Value × Int) => [box g2 157 [v3, .int .i64 x.1, .int .u64 x.2.1], row x.2.2.2.1 62 fAct x.2.2.1]) ?_ N (x8, x9, [], v5, n10) hm
      · rintro N ⟨x24, x25, l26, v27, k28⟩ hI
        have hm := hI; clear hI
        cases N with
        | zero => cases hm
        | succ N =>
        unfold s_l04DrawActs_l1 at hm
        refine WJ.seq ?_
        refine WJ.seq ?_
        refine WJ.quiet ?_
        refine QJ.step (YldS.yld (y_move rfl)) rfl ?_
        refine QJ.step (YldS.yld (y_bin rfl rfl rfl)) rfl ?_
        refine QJ.done ?_
        refine PJ.next ?_
        refine WJ.cond (t := decide (k28 > 0)) rfl (fun hb29 => ?_) (fun hb29 => ?_)
        · replace hm := ifT hm hb29
          refine WJ.skip ?_
          refine PJ.next ?_
          refine WJ.seq ?_
          refine WJ.block ?_
          refine WJ.seq ?_
          refine WJ.reg ?_
          refine SJ.q (YldS.yld (y_move rfl)) rfl ?_
          refine SJ.buildSlice (R := fI64) (os := [.const (.int .i64 0), .const (.int .i64 0), .const (.int .i64 0), .const (.int .i64 1), .const (.int .i64 2), .const (.int .i64 3), .const (.int .i64 5)]) [0, 0, 0, 1, 2, 3, 5] Try.runUnderlying69 Try.sizeOf2 Try.zeroValue2 rfl rfl rfl rfl rfl rfl fun v30 => ?_
          obtain ⟨r31, h32, hm⟩ := bindS hm
          refine SJ.call2 (k := 1) rfl Try.call118 rfl (fun w S hw hA hO hB => ok_s_l00Src_among h32 w S _ (hr4.st1 hw hO) _ (hB.row_rd (j := 0) (k := 1) rfl rfl) hA) rfl ?_
          rintro _ _ ⟨rfl, rfl⟩
          refine SJ.q (YldS.yld (y_assign rfl)) rfl ?_
          refine SJ.nil ?_
          refine PJ.next ?_
          obtain ⟨kj36, hk37, hm⟩ := withK_open hm
          refine WJ.join (X := Int × Int × Int) (fun (x : Int × Int × Int) => kj36 x.1 x.2.1 x.2.2 = some r) (fun (x : Int × Int × Int) => [(0, pt g2 0), (3, v27), (4, .int .i64 n10), (5, .int .i64 k28), (6, .int .i64 x.2.2)]) (fun (x : Int × Int × Int) => [box g2 157 [v3, .int .i64 x.1, .int .u64 x.2.1], row v27 62 fAct l26]) ?_ ?_
          · clear hk37
            refine WJ.seq ?_
            refine WJ.reg ?_
            refine SJ.q (YldS.yld (y_move rfl)) rfl ?_
            obtain ⟨r38, h39, hm⟩ := bindS hm
            refine SJ.call1 (k := 0) rfl Try.call84 rfl (fun w S hw hA hO => ok_s_l00Src_one h39 w S _ (hr4.st1 hw hO) hA) rfl ?_
            rintro _ _ ⟨rfl, rfl⟩
            refine SJ.nil ?_
            refine PJ.next ?_
            refine WJ.cond (t := r38.1) rfl (fun hb40 => ?_) (fun hb40 => ?_)
            · replace hm := ifT hm hb40
              refine WJ.quiet ?_
              refine QJ.step (YldS.yld (y_assign rfl)) rfl ?_
              refine QJ.done ?_
              exact PJ.joined (r38.2.at_, r38.2.seed, 4) [0, 2] hm ⟨rfl, rfl, rfl, rfl, rfl, trivial⟩ ⟨by decide, rfl⟩
            · replace hm := ifF hm hb40
              refine WJ.skip ?_
              exact PJ.joined (r38.2.at_, r38.2.seed, r31.1) [0, 2] hm ⟨rfl, rfl, rfl, rfl, rfl, trivial⟩ ⟨by decide, rfl⟩
          · rintro ⟨x33, x34, kind35⟩ hm
            subst hk37
            refine WJ.seq ?_
            refine WJ.reg ?_
            refine SJ.q (YldS.yld (y_move rfl)) rfl ?_
            refine SJ.q (YldS.yld (y_build (parts := [(0, .tmp 27)]) (places := [(0, 1), (1, 1)]) (r := [.int .i64 ((Act.mk kind35 []).kind), str ((Act.mk kind35 []).letter)]) pl62 Try.zeroValue62 rfl rfl rfl rfl)) rfl ?_
            refine SJ.alloc (cs := [.int .i64 0, str []]) Try.zeroValue62 rfl rfl fun g41 => ?_
            refine SJ.storeL (k := 0) (off := 0) (us := [.int .i64 ((Act.mk kind35 []).kind), str ((Act.mk kind35 []).letter)]) rfl rfl rfl rfl Try.sizeOf62 rfl rfl ?_
            refine SJ.nil ?_
            refine PJ.next ?_
            obtain ⟨kj46, hk47, hm⟩ := withK_open hm
            refine WJ.join (X := Int × Int × Int × Str) (fun (x : Int × Int × Int × Str) => kj46 x.1 x.2.1 x.2.2.1 x.2.2.2 = some r) (fun (x : Int × Int × Int × Str) => [(0, pt g2 0), (3, v27), (4, .int .i64 n10), (5, .int .i64 k28), (7, pt g41 0)]) (fun (x : Int × Int × Int × Str) => [box g2 157 [v3, .int .i64 x.1, .int .u64 x.2.1], box g41 62 [.int .i64 x.2.2.1, str x.2.2.2], row v27 62 fAct l26]) ?_ ?_
            · clear hk47
              refine WJ.seq ?_
              refine WJ.quiet ?_
              refine QJ.step (YldS.yld (y_move rfl)) rfl ?_
              refine QJ.step (YldS.yld (y_bin rfl rfl rfl)) rfl ?_
              refine QJ.done ?_
              refine PJ.next ?_
              refine WJ.cond (t := (kind35 == 0)) rfl (fun hb48 => ?_) (fun hb48 => ?_)
              · replace hm := ifT hm hb48
                refine WJ.reg ?_
                refine SJ.q (YldS.yld (y_move rfl)) rfl ?_
                refine SJ.buildSlice (R := fStr) (os := [.const (str [97]), .const (str [98]), .const (str [45]), .const (str [47])]) [[97], [98], [45], [47]] Try.runUnderlying78 Try.sizeOf9 Try.zeroValue9 rfl rfl rfl rfl rfl rfl fun v49 => ?_
                obtain ⟨r50, h51, hm⟩ := bindS hm
                refine SJ.call2 (k := 2) rfl Try.call75 rfl (fun w S hw hA hO hB => ok_s_l00Src_text h51 w S _ (hr4.st1 hw hO) _ (hB.row_rd (j := 0) (k := 2) rfl rfl) hA) rfl ?_
                rintro _ _ ⟨rfl, rfl⟩
                refine SJ.q (YldS.yld (y_fldB (o := 0) fld62_1 rfl)) rfl ?_
                refine SJ.storeL (k := 2) (off := 1) (us := [str r50.1]) rfl rfl rfl rfl Try.sizeOf9 rfl rfl ?_
                refine SJ.nil ?_
                exact PJ.joined (r50.2.at_, r50.2.seed, (Act.mk kind35 []).kind, r50.1) [0, 2, 3] hm ⟨rfl, rfl, rfl, rfl, rfl, trivial⟩ ⟨by decide, rfl⟩
              · replace hm := ifF hm hb48
                refine WJ.skip ?_
                exact PJ.joined (x33, x34, (Act.mk kind35 []).kind, (Act.mk kind35 []).letter) [1, 0, 2] hm ⟨rfl, rfl, rfl, rfl, rfl, trivial⟩ ⟨by decide, rfl⟩
            · rintro ⟨x42, x43, x44, x45⟩ hm
              subst hk47
              refine WJ.reg ?_
              refine SJ.q (YldS.yld (y_move rfl)) rfl ?_
              refine SJ.q (YldS.yld (y_loadBN (k := 1) (off := 0) (us := [.int .i64 x44, str x45]) rfl Try.isAgg62 Try.sizeOf62 rfl rfl)) rfl ?_
              refine SJ.buildSlice (R := fAct) (os := [.tmp 36]) [(Act.mk x44 x45)] Try.runUnderlying48 Try.sizeOf62 Try.zeroValue62 rfl rfl rfl rfl rfl rfl fun v52 => ?_
              obtain ⟨l53, h54, hm⟩ := bindS hm
              refine SJ.append (k := 3) (R := fAct) h54 rfl Try.underlying48 el62 rfl rfl rfl (fun w hw => (hw.row_rd (k := 0) rfl)) rfl fun v55 => ?_
              refine SJ.q (YldS.yld (y_assign rfl)) rfl ?_
              refine SJ.nil ?_
              refine PJ.block_normal (PJ.next ?_)
              refine WJ.quiet ?_
              refine QJ.step (YldS.yld (y_move rfl)) rfl ?_
              refine QJ.step (YldS.yld (y_bin rfl rfl rfl)) rfl ?_
              refine QJ.step (YldS.yld (y_assign rfl)) rfl ?_
              refine QJ.done ?_
              exact PJ.round (x42, x43, l53, v55, w64 (k28 - 1)) [1, 3] hm ⟨rfl, rfl, rfl, rfl, trivial⟩ ⟨by decide, rfl⟩
        · replace hm := ifF hm hb29
          refine WJ.exit ?_
          refine PJ.then_exit (PJ.then_exit (PJ.block_exit ?_))
          exact PJ.joined (x24, x25, l26, v27) [0, 1] hm ⟨rfl, rfl, rfl, trivial⟩ ⟨by decide, rfl⟩
    · rintro ⟨x18, x19, l20, v21⟩ hm
      subst hk23
      obtain ⟨kj59, hk60, hm⟩ := withK_open hm
      refine WJ.join (X := Int × Int × (List Act)) (fun (x : Int × Int × (List Act)) => kj59 x.1 x.2.1 x.2.2 = some r) (fun (x : Int × Int × (List Act)) => [(3, v21)]) (fun (x : Int × Int × (List Act)) => [box g2 157 [v3, .int .i64 x.1, .int .u64 x.2.1], row v21 62 fAct x.2.2]) ?_ ?_
      · clear hk60
        refine WJ.seq ?_
        refine WJ.quiet ?_
        refine QJ.step (YldS.yld (y_move rfl)) rfl ?_
        refine QJ.step (YldS.yld (y_bin rfl rfl rfl)) rfl ?_
        refine QJ.done ?_
        refine PJ.next ?_
        refine WJ.cond (t := decide (n10 > 0)) rfl (fun hb61 => ?_) (fun hb61 => ?_)
        · replace hm := ifT hm hb61
          refine WJ.seq ?_
          refine WJ.reg ?_
          refine SJ.q (YldS.yld (y_move rfl)) rfl ?_
          refine SJ.q (YldS.yld (y_move rfl)) rfl ?_
          refine SJ.q (YldS.yld (y_move rfl)) rfl ?_
          obtain ⟨r62, h63, hm⟩ := bindS hm
          refine SJ.call1 (k := 0) rfl Try.call83 rfl (fun w S hw hA hO => ok_s_l00Src_pick h63 w S _ (hr4.st1 hw hO) hA) rfl ?_
          rintro _ _ ⟨rfl, rfl⟩
          obtain ⟨e64, h65, hm⟩ := bindS hm
          refine SJ.q (YldS.yld (y_ixRow (k := 1) (R := fAct) rfl Try.runUnderlying48 Try.sizeOf62 rfl rfl h65)) rfl ?_
          refine SJ.q (YldS.yld (y_assign rfl)) rfl ?_
          refine SJ.nil ?_
          refine PJ.next ?_
          refine WJ.seq ?_
          refine WJ.reg ?_
          refine SJ.q (YldS.yld (y_move rfl)) rfl ?_
          obtain ⟨r66, h67, hm⟩ := bindS hm
          refine SJ.call1 (k := 0) rfl Try.call83 rfl (fun w S hw hA hO => ok_s_l00Src_pick h67 w S _ (hr4.st1 hw hO) hA) rfl ?_
          rintro _ _ ⟨rfl, rfl⟩
          refine SJ.nil ?_
          refine PJ.next ?_
          refine WJ.block ?_
          refine WJ.seq ?_
          refine WJ.quiet ?_
          refine QJ.step (YldS.yld (y_bin rfl rfl rfl)) rfl ?_
          refine QJ.step (YldS.yld (y_assign rfl)) rfl ?_
          refine QJ.done ?_
          refine PJ.next ?_
          refine WJ.cond (t := (r66.1 == 0)) rfl (fun hb68 => ?_) (fun hb68 => ?_)
          · replace hm := ifT hm hb68
            refine WJ.reg ?_
            refine SJ.q (YldS.yld (y_move rfl)) rfl ?_
            refine SJ.q (YldS.yld (y_move rfl)) rfl ?_
            refine SJ.buildSlice (R := fI64) (os := [.const (.int .i64 (-1)), .const (.int .i64 0), .const (.int .i64 5), .const (.int .i64 6)]) [(-1), 0, 5, 6] Try.runUnderlying69 Try.sizeOf2 Try.zeroValue2 rfl rfl rfl rfl rfl rfl fun v69 => ?_
            obtain ⟨r70, h71, hm⟩ := bindS hm
            refine SJ.call2 (k := 1) rfl Try.call118 rfl (fun w S hw hA hO hB => ok_s_l00Src_among h71 w S _ (hr4.st1 hw hO) _ (hB.row_rd (j := 0) (k := 1) rfl rfl) hA) rfl ?_
            rintro _ _ ⟨rfl, rfl⟩
            refine SJ.q (YldS.yld (y_nil rfl)) rfl ?_
            refine SJ.q (YldS.yld (y_fldR fld62_0 rfl)) rfl ?_
            refine SJ.storeRL (k := 2) (i := (Int.toNat r62.1)) (off := 0) (us := [.int .i64 r70.1]) (b := (Act.mk r70.1 e64.letter)) rfl rfl (idx_get h65) rfl rfl Try.sizeOf2 rfl rfl rfl ?_
            refine SJ.nil ?_
            refine PJ.block_normal ?_
            exact PJ.joined (r70.2.at_, r70.2.seed, (List.set l20 (Int.toNat r62.1) (Act.mk r70.1 e64.letter))) [0, 2] hm ⟨rfl, trivial⟩ ⟨by decide, rfl⟩
          · replace hm := ifF hm hb68
            refine WJ.seq ?_
            refine WJ.quiet ?_
            refine QJ.step (YldS.yld (y_bin rfl rfl rfl)) rfl ?_
            refine QJ.step (YldS.yld (y_assign rfl)) rfl ?_
            refine QJ.done ?_
            refine PJ.next ?_
            refine WJ.cond (t := (r66.1 == 1)) rfl (fun hb72 => ?_) (fun hb72 => ?_)
            · replace hm := ifT hm hb72
              refine WJ.reg ?_
              refine SJ.q (YldS.yld (y_move rfl)) rfl ?_
              refine SJ.q (YldS.yld (y_move rfl)) rfl ?_
              refine SJ.buildSlice (R := fStr) (os := [.const (str []), .const (str [97]), .const (str [32]), .const (str [97, 98])]) [[], [97], [32], [97, 98]] Try.runUnderlying78 Try.sizeOf9 Try.zeroValue9 rfl rfl rfl rfl rfl rfl fun v73 => ?_
              obtain ⟨r74, h75, hm⟩ := bindS hm
              refine SJ.call2 (k := 1) rfl Try.call75 rfl (fun w S hw hA hO hB => ok_s_l00Src_text h75 w S _ (hr4.st1 hw hO) _ (hB.row_rd (j := 0) (k := 1) rfl rfl) hA) rfl ?_
              rintro _ _ ⟨rfl, rfl⟩
              refine SJ.q (YldS.yld (y_nil rfl)) rfl ?_
              refine SJ.q (YldS.yld (y_fldR fld62_1 rfl)) rfl ?_
              refine SJ.storeRL (k := 2) (i := (Int.toNat r62.1)) (off := 1) (us := [str r74.1]) (b := (Act.mk e64.kind r74.1)) rfl rfl (idx_get h65) rfl rfl Try.sizeOf9 rfl rfl rfl ?_
              refine SJ.nil ?_
              refine PJ.block_normal ?_
              exact PJ.joined (r74.2.at_, r74.2.seed, (List.set l20 (Int.toNat r62.1) (Act.mk e64.kind r74.1))) [0, 2] hm ⟨rfl, trivial⟩ ⟨by decide, rfl⟩
            · replace hm := ifF hm hb72
              refine WJ.skip ?_
              refine PJ.block_normal ?_
              exact PJ.joined (r66.2.at_, r66.2.seed, l20) [0, 1] hm ⟨rfl, trivial⟩ ⟨by decide, rfl⟩
        · replace hm := ifF hm hb61
          refine WJ.skip ?_
          exact PJ.joined (x18, x19, l20) [0, 1] hm ⟨rfl, trivial⟩ ⟨by decide, rfl⟩
      · rintro ⟨x56, x57, l58⟩ hm
        subst hk60
        refine WJ.seq ?_
        refine WJ.quiet ?_
        refine QJ.step (YldS.yld (y_move rfl)) rfl ?_
        refine QJ.step (YldS.yld (y_assign rfl)) rfl ?_
        refine QJ.done ?_
        refine PJ.next ?_
        refine WJ.ret ?_
        obtain rfl := Option.some.inj hm
        refine PJ.sel (L' := [box g2 157 [v3, .int .i64 x56, .int .u64 x57], row v21 62 fAct l58]) [0, 1] ⟨by decide, rfl⟩ ?_
        exact PJ.retn (vs := [v21]) Try.results122 ⟨rfl, trivial⟩ ⟨_, rfl, rfl⟩

set_option maxRecDepth 100000 in
set_option maxHeartbeats 1000000 in
theorem ok_s_l04All {N : Nat} {code1 : List UInt8} {r : Carriage × (List Act)} (hm : s_l04All N code1 = some r) (w : World) (v2 : Value) (hr3 : RdS w (cx w).Fz v2 fByte.rp code1) :
    Calls Try.prog 88 #[v2] w (RetG (cx w) fun u L => ∃ (u1 : Value), (u = tup [.agg (Carriage.enc r.1).toArray, u1] ∧ L = [row u1 62 fAct r.2])) := by
  unfold s_l04All at hm
  refine Calls.enter [v2] Try.func88 rfl Try.ntmps88 rfl ?_
  refine WJ.seq ?_
  refine WJ.reg ?_
  refine SJ.alloc (cs := [.int .i64 0, .int .i64 0, .int .i64 0]) Try.zeroValue45 rfl rfl fun g4 => ?_
  refine SJ.q (YldS.yld (y_assign rfl)) rfl ?_
  refine SJ.nil ?_
  refine PJ.next ?_
  refine WJ.seq ?_
  refine WJ.reg ?_
  refine SJ.q (YldS.yld (y_move rfl)) rfl ?_
  obtain ⟨r5, h6, hm⟩ := bindS hm
  refine SJ.call Try.call73 rfl (fun w hw => ok_s_l00From h6 w _ (hr3.st hw)) rfl ?_
  rintro _ _ ⟨g7, rfl, rfl⟩
  refine SJ.q (YldS.yld (y_assign rfl)) rfl ?_
  refine SJ.nil ?_
  refine PJ.next ?_
  refine WJ.seq ?_
  refine WJ.reg ?_
  refine SJ.q (YldS.yld (y_move rfl)) rfl ?_
  obtain ⟨r8, h9, hm⟩ := bindS hm
  refine SJ.call1 (k := 0) rfl Try.call82 rfl (fun w S hw hA hO => ok_s_l04Draw h9 w S _ (hr3.st1 hw hO) hA) rfl ?_
  rintro _ _ ⟨rfl, rfl⟩
  refine SJ.alloc (cs := [.int .i64 0, .int .i64 0, .int .i64 0]) Try.zeroValue45 rfl rfl fun g10 => ?_
  refine SJ.storeL (k := 0) (off := 0) (us := [.int .i64 r8.1.left, .int .i64 r8.1.right, .int .i64 r8.1.bell]) rfl rfl rfl rfl Try.sizeOf45 rfl rfl ?_
  refine SJ.nil ?_
  refine PJ.next ?_
  refine WJ.seq ?_
  obtain ⟨r11, h12, hm⟩ := bindS hm
  refine WJ.draws (N := 5) (listed0 := #[false, false, false, false, false]) [box g10 45 [.int .i64 r8.1.left, .int .i64 r8.1.right, .int .i64 r8.1.bell]] follows rfl rfl ?_
  refine RJ.first 0 (listed' := #[true, false, false, false, false]) [0] rfl (by kernel_rfl) rfl ⟨by decide, rfl⟩ (y_loadBN (k := 0) (off := 0) (us := [.int .i64 r8.1.left, .int .i64 r8.1.right, .int .i64 r8.1.bell]) rfl Try.isAgg45 Try.sizeOf45 rfl rfl) rfl ?_
  refine RJ.first 1 (listed' := #[true, true, false, false, false]) [0] rfl (by kernel_rfl) rfl ⟨by decide, rfl⟩ (y_move rfl) rfl ?_
  refine RJ.step1 2 [0] (by kernel_rfl) ⟨by decide, rfl⟩ ?_
  refine RO.of (listed' := #[true, true, true, false, false]) rfl rfl ?_
  refine SJ.call1 (k := 1) rfl Try.call122 rfl (fun w S hw hA hO => ok_s_l04DrawActs h12 w S _ (hr3.st1 hw hO) hA) rfl ?_
  rintro v13 _ ⟨_, rfl, rfl⟩
  refine SJ.nil ?_
  refine PJ.draw ?_
  refine RJ.step1 3 [2] (by kernel_rfl) ⟨by decide, rfl⟩ ?_
  refine RO.of (listed' := #[true, true, true, true, false]) rfl rfl ?_
  refine SJ.storeL (k := 3) (off := 0) (us := [.int .i64 r8.1.left, .int .i64 r8.1.right, .int .i64 r8.1.bell]) rfl rfl rfl rfl Try.sizeOf45 rfl rfl ?_
  refine SJ.nil ?_
  refine PJ.draw ?_
  refine RJ.first 4 (listed' := #[true, true, true, true, true]) [2] rfl (by kernel_rfl) rfl ⟨by decide, rfl⟩ (y_assign rfl) rfl ?_
  refine RJ.fin [2] (by kernel_rfl) ⟨by decide, rfl⟩ ?_
  refine PJ.next ?_
  refine WJ.ret ?_
  obtain rfl := Option.some.inj hm
  exact PJ.retn_sel (vs := [.agg (Carriage.enc r8.1).toArray, v13]) Try.results88 ⟨⟨3, g4, 45, [.int .i64 r8.1.left, .int .i64 r8.1.right, .int .i64 r8.1.bell], rfl, rfl, .inl ⟨Try.isAgg45, Try.sizeOf45, rfl⟩⟩, rfl, trivial⟩ [1] ⟨by decide, rfl⟩ ⟨_, rfl, rfl⟩

set_option maxRecDepth 100000 in
set_option maxHeartbeats 1000000 in
theorem ok_s_DrawTypeActs {N : Nat} {code1 : List UInt8} {r : Carriage × (List Act)} (hm : s_DrawTypeActs N code1 = some r) (w : World) (v2 : Value) (hr3 : RdS w (cx w).Fz v2 fByte.rp code1) :
    Calls Try.prog 23 #[v2] w (RetG (cx w) fun u L => ∃ (u1 : Value), (u = tup [.agg (Carriage.enc r.1).toArray, u1] ∧ L = [row u1 62 fAct r.2])) := by
  unfold s_DrawTypeActs at hm
  refine Calls.enter [v2] Try.func23 rfl Try.ntmps23 rfl ?_
  refine WJ.seq ?_
  refine WJ.reg ?_
  refine SJ.alloc (cs := [.int .i64 0, .int .i64 0, .int .i64 0]) Try.zeroValue45 rfl rfl fun g4 => ?_
  refine SJ.q (YldS.yld (y_assign rfl)) rfl ?_
  refine SJ.nil ?_
  refine PJ.next ?_
  refine WJ.seq ?_
  refine WJ.reg ?_
  refine SJ.q (YldS.yld (y_move rfl)) rfl ?_
  obtain ⟨r5, h6, hm⟩ := bindS hm
  refine SJ.call Try.call88 rfl (fun w hw => ok_s_l04All h6 w _ (hr3.st hw)) rfl ?_
  rintro _ _ ⟨v7, rfl, rfl⟩
  refine SJ.q (YldS.yld (y_extract rfl rfl)) rfl ?_
  refine SJ.q (YldS.yld (y_extract rfl rfl)) rfl ?_
  refine SJ.storeL (k := 1) (off := 0) (us := [.int .i64 r5.1.left, .int .i64 r5.1.right, .int .i64 r5.1.bell]) rfl rfl rfl rfl Try.sizeOf45 rfl rfl ?_
  refine SJ.q (YldS.yld (y_assign rfl)) rfl ?_
  refine SJ.nil ?_
  refine PJ.next ?_
  refine WJ.ret ?_
  obtain rfl := Option.some.inj hm
  exact PJ.retn_sel (vs := [.agg (Carriage.enc r5.1).toArray, v7]) Try.results23 ⟨⟨1, g4, 45, [.int .i64 r5.1.left, .int .i64 r5.1.right, .int .i64 r5.1.bell], rfl, rfl, .inl ⟨Try.isAgg45, Try.sizeOf45, rfl⟩⟩, rfl, trivial⟩ [0] ⟨by decide, rfl⟩ ⟨_, rfl, rfl⟩

set_option maxRecDepth 100000 in
set_option maxHeartbeats 1000000 in
theorem ok_i_isLetter {N : Nat} {s1 : Str} {r : Bool} (hm : i_isLetter N s1 = some r) (w : World)  :
    Calls Try.prog 76 #[str s1] w (Ret (cx w) (.bool r)) := by
  unfold i_isLetter at hm
  refine Calls.enter [str s1] Try.func76 rfl Try.ntmps76 rfl ?_
  refine WJ.seq ?_
  refine WJ.quiet ?_
  refine QJ.step (YldS.yld (y_assign rfl)) rfl ?_
  refine QJ.done ?_
  refine PJ.next ?_
  refine WJ.seq ?_
  refine WJ.quiet ?_
  refine QJ.step (YldS.yld (y_move rfl)) rfl ?_
  refine QJ.step (YldS.yld (y_lenStr Try.runUnderlying9 rfl)) rfl ?_
  refine QJ.step (YldS.yld (y_bin rfl rfl rfl)) rfl ?_
  refine QJ.step (YldS.yld (y_move rfl)) rfl ?_
  obtain ⟨t2, h3, hm⟩ := bindS hm
  refine QJ.cut 3 [(9, .bool t2)] ?_ ?_
  · rcases Bool.eq_false_or_eq_true ((List.length s1 : Int) == 1) with hb4 | hb4
    · replace h3 := andT h3 hb4
      refine QJ.on rfl rfl (cB hb4) (YldS.yld (y_move rfl)) rfl ?_
      obtain ⟨r5, h6, h3⟩ := bindS h3
      refine QJ.on rfl rfl (cB hb4) (y_call Try.call80 rfl (RetG.quiet fun w hw => ok_i_isText h6 w )) rfl ?_
      refine QJ.step (YldS.yld (y_pick_t (cB hb4) rfl)) rfl ?_
      obtain rfl := Option.some.inj h3
      exact QJ.cut_end ⟨rfl, trivial⟩
    · obtain rfl := andF h3 hb4
      refine QJ.off rfl rfl (cB hb4) rfl rfl ?_
      refine QJ.off rfl rfl (cB hb4) rfl rfl ?_
      refine QJ.step (YldS.yld (y_pick_f (cB hb4) rfl)) rfl ?_
      exact QJ.cut_end ⟨rfl, trivial⟩
  refine QJ.step (YldS.yld (y_assign rfl)) rfl ?_
  refine QJ.done ?_
  refine PJ.next ?_
  refine WJ.ret ?_
  obtain rfl := Option.some.inj hm
  refine PJ.sel (L' := []) [] ⟨List.nodup_nil, rfl⟩ ?_
  exact PJ.retn (vs := [.bool t2]) Try.results76 ⟨rfl, trivial⟩ ⟨rfl, rfl⟩

set_option maxRecDepth 100000 in
set_option maxHeartbeats 1000000 in
theorem ok_i_ValidActs {N : Nat} {acts1 : List Act} {r : Bool} (hm : i_ValidActs N acts1 = some r) (w : World) (v2 : Value) (hr3 : RdS w (cx w).Fz v2 fAct.rp acts1) :
    Calls Try.prog 33 #[v2] w (Ret (cx w) (.bool r)) := by
  unfold i_ValidActs at hm
  refine Calls.enter [v2] Try.func33 rfl Try.ntmps33 rfl ?_
  refine WJ.seq ?_
  refine WJ.quiet ?_
  refine QJ.step (YldS.yld (y_assign rfl)) rfl ?_
  refine QJ.done ?_
  refine PJ.next ?_
  refine WJ.seq ?_
  refine WJ.seq ?_
  refine WJ.quiet ?_
  refine QJ.step (YldS.yld (y_move rfl)) rfl ?_
  refine QJ.step (YldS.yld (y_lenS Try.runUnderlying48 hr3 rfl)) rfl ?_
  refine QJ.step (YldS.yld (y_bin rfl rfl rfl)) rfl ?_
  refine QJ.done ?_
  refine PJ.next ?_
  refine WJ.cond (t := decide ((List.length acts1 : Int) > 200)) rfl (fun hb4 => ?_) (fun hb4 => ?_)
  · replace hm := ifT hm hb4
    refine WJ.seq ?_
    refine WJ.quiet ?_
    refine QJ.step (YldS.yld (y_assign rfl)) rfl ?_
    refine QJ.done ?_
    refine PJ.next ?_
    refine WJ.ret ?_
    refine PJ.then_ret ?_
    obtain rfl := Option.some.inj hm
    refine PJ.sel (L' := []) [] ⟨List.nodup_nil, rfl⟩ ?_
    exact PJ.retn (vs := [.bool false]) Try.results33 ⟨rfl, trivial⟩ ⟨rfl, rfl⟩
  · replace hm := ifF hm hb4
    refine WJ.skip ?_
    refine PJ.next ?_
    obtain ⟨kj5, hk6, hm⟩ := withK_open hm
    refine WJ.join (X := Unit) (fun (_ : Unit) => kj5  = some r) (fun (_ : Unit) => []) (fun (_ : Unit) => []) ?_ ?_
    · clear hk6
      refine WJ.seq ?_
      refine WJ.quiet ?_
      refine QJ.step (YldS.yld (y_move rfl)) rfl ?_
      refine QJ.step (YldS.yld (y_lenS Try.runUnderlying48 hr3 rfl)) rfl ?_
      refine QJ.step (YldS.yld (y_move rfl)) rfl ?_
      refine QJ.done ?_
      refine PJ.next ?_
      refine WJ.block ?_
      refine WJ.sel (L' := (fun (x : Int) => []) 0) [] ⟨List.nodup_nil, rfl⟩ ?_
      refine WJ.sub (m' := (fun (x : Int) => [(8, v2), (9, .int .i64 (List.length acts1 : Int)), (10, .int .i64 x)]) 0) ⟨rfl, rfl, rfl, trivial⟩ ?_
      refine WJ.loop (X := Int) (fun N (x : Int) => i_ValidActs_l1 kj5 acts1 N x = some r) (fun (x : Int) => [(8, v2), (9, .int .i64 (List.length acts1 : Int)), (10, .int .i64 x)]) (fun (x : Int) => []) ?_ N 0 hm
      · rintro N x7 hI
        have hm := hI; clear hI
        cases N with
        | zero => cases hm
        | succ N =>
        unfold i_ValidActs_l1 at hm
        refine WJ.seq ?_
        refine WJ.quiet ?_
        refine QJ.step (YldS.yld (y_bin rfl rfl rfl)) rfl ?_
        refine QJ.done ?_
        refine PJ.next ?_
        refine WJ.seq ?_
        refine WJ.cond (t := decide (x7 < (List.length acts1 : Int))) rfl (fun hb8 => ?_) (fun hb8 => ?_)
        · replace hm := ifT hm hb8
          refine WJ.skip ?_
          refine PJ.next ?_
          refine WJ.seq ?_
          refine WJ.block ?_
          refine WJ.seq ?_
          refine WJ.reg ?_
          obtain ⟨e9, h10, hm⟩ := bindS hm
          obtain ⟨ad11, _, rfl, ha12, hy13⟩ := hr3.elem h10
          refine SJ.q (YldS.yld (hy13 Try.runUnderlying48 Try.sizeOf62 rfl rfl)) rfl ?_
          refine SJ.q (YldS.yld (y_loadN Try.isAgg62 Try.sizeOf62 rfl ha12 St.frozenC rfl)) rfl ?_
          refine SJ.alloc (cs := [.int .i64 0, str []]) Try.zeroValue62 rfl rfl fun g14 => ?_
          refine SJ.storeL (k := 0) (off := 0) (us := [.int .i64 e9.kind, str e9.letter]) rfl rfl rfl rfl Try.sizeOf62 rfl rfl ?_
          refine SJ.nil ?_
          refine PJ.next ?_
          refine WJ.seq ?_
          refine WJ.quiet ?_
          refine QJ.step (YldS.yld (y_fldB (o := 0) fld62_0 rfl)) rfl ?_
          refine QJ.step (YldS.yld (y_loadB (k := 0) (off := 0) (v := .int .i64 e9.kind) rfl Try.isAgg2 rfl rfl)) rfl ?_
          obtain ⟨r15, h16, hm⟩ := bindS hm
          refine QJ.step (y_call Try.call68 rfl (RetG.quiet fun w hw => ok_i_between h16 w )) rfl ?_
          refine QJ.step (YldS.yld (y_not rfl)) rfl ?_
          refine QJ.step (YldS.yld (y_move rfl)) rfl ?_
          obtain ⟨t17, h18, hm⟩ := bindS hm
          refine QJ.cut 10 [(4, pt g14 0), (8, v2), (9, .int .i64 (List.length acts1 : Int)), (10, .int .i64 x7), (28, .bool t17)] ?_ ?_
          · rcases Bool.eq_false_or_eq_true (!r15) with hb19 | hb19
            · obtain rfl := orT h18 hb19
              refine QJ.off rfl rfl (cB hb19) rfl rfl ?_
              refine QJ.off rfl rfl (cB hb19) rfl rfl ?_
              refine QJ.off rfl rfl (cB hb19) rfl rfl ?_
              refine QJ.off rfl rfl (cB hb19) rfl rfl ?_
              refine QJ.off_undef rfl rfl rfl rfl ?_
              refine QJ.off_undef rfl rfl rfl rfl ?_
              refine QJ.off_undef rfl rfl rfl rfl ?_
              refine QJ.off_undef rfl rfl rfl rfl ?_
              refine QJ.off rfl rfl (cB hb19) rfl rfl ?_
              refine QJ.step (YldS.yld (y_pick_t (cB hb19) rfl)) rfl ?_
              exact QJ.cut_end ⟨rfl, rfl, rfl, rfl, rfl, trivial⟩
            · replace h18 := orF h18 hb19
              refine QJ.on rfl rfl (cB hb19) (YldS.yld (y_fldB (o := 0) fld62_0 rfl)) rfl ?_
              refine QJ.on rfl rfl (cB hb19) (YldS.yld (y_loadB (k := 0) (off := 0) (v := .int .i64 e9.kind) rfl Try.isAgg2 rfl rfl)) rfl ?_
              refine QJ.on rfl rfl (cB hb19) (YldS.yld (y_bin rfl rfl rfl)) rfl ?_
              refine QJ.on rfl rfl (cB hb19) (YldS.yld (y_move rfl)) rfl ?_
              obtain ⟨t20, h21, h18⟩ := bindS h18
              refine QJ.cut 5 [(4, pt g14 0), (8, v2), (9, .int .i64 (List.length acts1 : Int)), (10, .int .i64 x7), (18, .bool (!r15)), (19, pt g14 0), (20, .int .i64 e9.kind), (21, .bool (e9.kind == 0)), (22, .bool (e9.kind == 0)), (27, .bool t20)] ?_ ?_
              · rcases Bool.eq_false_or_eq_true (e9.kind == 0) with hb22 | hb22
                · replace h21 := andT h21 hb22
                  refine QJ.on rfl rfl (cB hb22) (YldS.yld (y_fldB (o := 0) fld62_1 rfl)) rfl ?_
                  refine QJ.on rfl rfl (cB hb22) (YldS.yld (y_loadB (k := 0) (off := 1) (v := str e9.letter) rfl Try.isAgg9 rfl rfl)) rfl ?_
                  obtain ⟨r23, h24, h21⟩ := bindS h21
                  refine QJ.on rfl rfl (cB hb22) (y_call Try.call76 rfl (RetG.quiet fun w hw => ok_i_isLetter h24 w )) rfl ?_
                  refine QJ.on rfl rfl (cB hb22) (YldS.yld (y_not rfl)) rfl ?_
                  refine QJ.on rfl rfl (cB hb19) (YldS.yld (y_pick_t (cB hb22) rfl)) rfl ?_
                  obtain rfl := Option.some.inj h21
                  exact QJ.cut_end ⟨rfl, rfl, rfl, rfl, rfl, rfl, rfl, rfl, rfl, rfl, trivial⟩
                · obtain rfl := andF h21 hb22
                  refine QJ.off rfl rfl (cB hb22) rfl rfl ?_
                  refine QJ.off rfl rfl (cB hb22) rfl rfl ?_
                  refine QJ.off rfl rfl (cB hb22) rfl rfl ?_
                  refine QJ.off rfl rfl (cB hb22) rfl rfl ?_
                  refine QJ.on rfl rfl (cB hb19) (YldS.yld (y_pick_f (cB hb22) rfl)) rfl ?_
                  exact QJ.cut_end ⟨rfl, rfl, rfl, rfl, rfl, rfl, rfl, rfl, rfl, rfl, trivial⟩
              refine QJ.step (YldS.yld (y_pick_f (cB hb19) rfl)) rfl ?_
              obtain rfl := Option.some.inj h18
              exact QJ.cut_end ⟨rfl, rfl, rfl, rfl, rfl, trivial⟩
          refine QJ.step (YldS.yld (y_move rfl)) rfl ?_
          obtain ⟨t25, h26, hm⟩ := bindS hm
          refine QJ.cut 9 [(8, v2), (9, .int .i64 (List.length acts1 : Int)), (10, .int .i64 x7), (38, .bool t25)] ?_ ?_
          · rcases Bool.eq_false_or_eq_true t17 with hb27 | hb27
            · obtain rfl := orT h26 hb27
              refine QJ.off rfl rfl (cB hb27) rfl rfl ?_
              refine QJ.off rfl rfl (cB hb27) rfl rfl ?_
              refine QJ.off rfl rfl (cB hb27) rfl rfl ?_
              refine QJ.off rfl rfl (cB hb27) rfl rfl ?_
              refine QJ.off_undef rfl rfl rfl rfl ?_
              refine QJ.off_undef rfl rfl rfl rfl ?_
              refine QJ.off_undef rfl rfl rfl rfl ?_
              refine QJ.off rfl rfl (cB hb27) rfl rfl ?_
              refine QJ.step (YldS.yld (y_pick_t (cB hb27) rfl)) rfl ?_
              exact QJ.cut_end ⟨rfl, rfl, rfl, rfl, trivial⟩
            · replace h26 := orF h26 hb27
              refine QJ.on rfl rfl (cB hb27) (YldS.yld (y_fldB (o := 0) fld62_0 rfl)) rfl ?_
              refine QJ.on rfl rfl (cB hb27) (YldS.yld (y_loadB (k := 0) (off := 0) (v := .int .i64 e9.kind) rfl Try.isAgg2 rfl rfl)) rfl ?_
              refine QJ.on rfl rfl (cB hb27) (YldS.yld (y_bin rfl rfl rfl)) rfl ?_
              refine QJ.on rfl rfl (cB hb27) (YldS.yld (y_move rfl)) rfl ?_
              obtain ⟨t28, h29, h26⟩ := bindS h26
              refine QJ.cut 4 [(8, v2), (9, .int .i64 (List.length acts1 : Int)), (10, .int .i64 x7), (29, .bool t17), (30, pt g14 0), (31, .int .i64 e9.kind), (32, .bool (e9.kind != 0)), (33, .bool (e9.kind != 0)), (37, .bool t28)] ?_ ?_
              · rcases Bool.eq_false_or_eq_true (e9.kind != 0) with hb30 | hb30
                · replace h29 := andT h29 hb30
                  refine QJ.on rfl rfl (cB hb30) (YldS.yld (y_fldB (o := 0) fld62_1 rfl)) rfl ?_
                  refine QJ.on rfl rfl (cB hb30) (YldS.yld (y_loadB (k := 0) (off := 1) (v := str e9.letter) rfl Try.isAgg9 rfl rfl)) rfl ?_
                  refine QJ.on rfl rfl (cB hb30) (YldS.yld (y_binS rfl rfl rfl)) rfl ?_
                  refine QJ.on rfl rfl (cB hb27) (YldS.yld (y_pick_t (cB hb30) rfl)) rfl ?_
                  obtain rfl := Option.some.inj h29
                  exact QJ.cut_end ⟨rfl, rfl, rfl, rfl, rfl, rfl, rfl, rfl, rfl, trivial⟩
                · obtain rfl := andF h29 hb30
                  refine QJ.off rfl rfl (cB hb30) rfl rfl ?_
                  refine QJ.off rfl rfl (cB hb30) rfl rfl ?_
                  refine QJ.off rfl rfl (cB hb30) rfl rfl ?_
                  refine QJ.on rfl rfl (cB hb27) (YldS.yld (y_pick_f (cB hb30) rfl)) rfl ?_
                  exact QJ.cut_end ⟨rfl, rfl, rfl, rfl, rfl, rfl, rfl, rfl, rfl, trivial⟩
              refine QJ.step (YldS.yld (y_pick_f (cB hb27) rfl)) rfl ?_
              obtain rfl := Option.some.inj h26
              exact QJ.cut_end ⟨rfl, rfl, rfl, rfl, trivial⟩
          refine QJ.done ?_
          refine PJ.next ?_
          refine WJ.cond (t := t25) rfl (fun hb31 => ?_) (fun hb31 => ?_)
          · replace hm := ifT hm hb31
            refine WJ.seq ?_
            refine WJ.quiet ?_
            refine QJ.step (YldS.yld (y_assign rfl)) rfl ?_
            refine QJ.done ?_
            refine PJ.next ?_
            refine WJ.ret ?_
            refine PJ.block_ret (PJ.then_ret (PJ.then_ret (PJ.block_ret (PJ.then_ret ?_))))
            obtain rfl := Option.some.inj hm
            refine PJ.sel (L' := []) [] ⟨List.nodup_nil, rfl⟩ ?_
            exact PJ.retn (vs := [.bool false]) Try.results33 ⟨rfl, trivial⟩ ⟨rfl, rfl⟩
          · replace hm := ifF hm hb31
            refine WJ.skip ?_
            refine PJ.block_normal (PJ.next ?_)
            refine WJ.quiet ?_
            refine QJ.step (YldS.yld (y_bin rfl rfl rfl)) rfl ?_
            refine QJ.step (YldS.yld (y_move rfl)) rfl ?_
            refine QJ.done ?_
            exact PJ.round (w64 (x7 + 1)) [] hm ⟨rfl, rfl, rfl, trivial⟩ ⟨List.nodup_nil, rfl⟩
        · replace hm := ifF hm hb8
          refine WJ.exit ?_
          refine PJ.then_exit (PJ.then_exit (PJ.block_exit ?_))
          exact PJ.joined () [] hm trivial ⟨List.nodup_nil, rfl⟩
    · rintro _ hm
      subst hk6
      refine WJ.seq ?_
      refine WJ.quiet ?_
      refine QJ.step (YldS.yld (y_assign rfl)) rfl ?_
      refine QJ.done ?_
      refine PJ.next ?_
      refine WJ.ret ?_
      obtain rfl := Option.some.inj hm
      refine PJ.sel (L' := []) [] ⟨List.nodup_nil, rfl⟩ ?_
      exact PJ.retn (vs := [.bool true]) Try.results33 ⟨rfl, trivial⟩ ⟨rfl, rfl⟩

set_option maxRecDepth 100000 in
set_option maxHeartbeats 1000000 in
theorem ok_i_typed {N : Nat} {c1 : Carriage} {acts2 : List Act} {r : Typing} (hm : i_typed N c1 acts2 = some r) (w : World) (v3 : Value) (hr4 : RdS w (cx w).Fz v3 fAct.rp acts2) :
    Calls Try.prog 89 #[.agg (Carriage.enc c1).toArray, v3] w (RetG (cx w) fun u L => ∃ (u1 : Value), (u = .agg #[u1, .int .i64 r.place, .int .i64 r.bells, .int .i64 r.stopped] ∧ L = [row u1 76 fStruck r.list])) := by
  unfold i_typed at hm
  refine Calls.enter [.agg (Carriage.enc c1).toArray, v3] Try.func89 rfl Try.ntmps89 rfl ?_
  refine WJ.seq ?_
  refine WJ.reg ?_
  refine SJ.box (cs := [.int .i64 c1.left, .int .i64 c1.right, .int .i64 c1.bell]) rfl rfl rfl fun g5 => ?_
  refine SJ.alloc (cs := [.slice none 0 0, .int .i64 0, .int .i64 0, .int .i64 0]) Try.zeroValue118 rfl rfl fun g6 => ?_
  refine SJ.nil ?_
  refine PJ.next ?_
  refine WJ.seq ?_
  refine WJ.reg ?_
  refine SJ.buildSlice (R := fStruck) (os := []) [] Try.runUnderlying53 Try.sizeOf76 Try.zeroValue76 rfl rfl rfl rfl rfl rfl fun v7 => ?_
  refine SJ.q (YldS.yld (y_fldB (o := 0) fld45_0 rfl)) rfl ?_
  refine SJ.q (YldS.yld (y_loadB (k := 2) (off := 0) (v := .int .i64 c1.left) rfl Try.isAgg2 rfl rfl)) rfl ?_
  refine SJ.rowCells (k := 0) rfl fun hc8 => ?_
  refine SJ.q (YldS.yld (y_build (parts := [(0, .tmp 11), (1, .tmp 13), (3, .const (.int .i64 (-1)))]) (places := [(0, 1), (1, 1), (2, 1), (3, 1)]) (r := [v7, .int .i64 c1.left, .int .i64 0, .int .i64 (-1)]) pl118 Try.zeroValue118 rfl rfl (show _ = [(0, [v7]), (1, [.int .i64 c1.left]), (3, [.int .i64 (-1)])] from by simp only [List.map, hc8.1]; try rfl) rfl)) rfl ?_
  refine SJ.alloc (cs := [.slice none 0 0, .int .i64 0, .int .i64 0, .int .i64 0]) Try.zeroValue118 rfl rfl fun g9 => ?_
  refine SJ.rowCells (k := 1) rfl fun hc10 => ?_
  refine SJ.storeL (k := 0) (off := 0) (us := [v7, .int .i64 c1.left, .int .i64 0, .int .i64 (-1)]) rfl rfl rfl rfl Try.sizeOf118 rfl (by simp only [List.all_cons, hc10.2]; rfl) ?_
  refine SJ.nil ?_
  refine PJ.next ?_
  refine WJ.seq ?_
  refine WJ.quiet ?_
  refine QJ.step (YldS.yld (y_assign rfl)) rfl ?_
  refine QJ.done ?_
  refine PJ.next ?_
  obtain ⟨kj19, hk20, hm⟩ := withK_open hm
  refine WJ.join (X := Int × Int × Int × (List Struck) × Value × Int × Int × Int) (fun (x : Int × Int × Int × (List Struck) × Value × Int × Int × Int) => kj19 x.1 x.2.1 x.2.2.1 x.2.2.2.1 x.2.2.2.2.2.1 x.2.2.2.2.2.2.1 x.2.2.2.2.2.2.2 = some r) (fun (x : Int × Int × Int × (List Struck) × Value × Int × Int × Int) => [(4, pt g6 0), (5, pt g9 0)]) (fun (x : Int × Int × Int × (List Struck) × Value × Int × Int × Int) => [box g9 118 [x.2.2.2.2.1, .int .i64 x.1, .int .i64 x.2.1, .int .i64 x.2.2.1], row x.2.2.2.2.1 76 fStruck x.2.2.2.1, box g6 118 [.slice none 0 0, .int .i64 x.2.2.2.2.2.1, .int .i64 x.2.2.2.2.2.2.1, .int .i64 x.2.2.2.2.2.2.2]]) ?_ ?_
  · clear hk20
    refine WJ.seq ?_
    refine WJ.quiet ?_
    refine QJ.step (YldS.yld (y_move rfl)) rfl ?_
    refine QJ.step (YldS.yld (y_lenS Try.runUnderlying48 hr4 rfl)) rfl ?_
    refine QJ.step (YldS.yld (y_move rfl)) rfl ?_
    refine QJ.done ?_
    refine PJ.next ?_
    refine WJ.block ?_
    refine WJ.sel (L' := (fun (x : Int × Int × Int × (List Struck) × Value × Int × Int × Int × Bool × Int) => [box g9 118 [x.2.2.2.2.1, .int .i64 x.1, .int .i64 x.2.1, .int .i64 x.2.2.1], row x.2.2.2.2.1 76 fStruck x.2.2.2.1, box g6 118 [.slice none 0 0, .int .i64 x.2.2.2.2.2.1, .int .i64 x.2.2.2.2.2.2.1, .int .i64 x.2.2.2.2.2.2.2.1], box g5 45 [.int .i64 c1.left, .int .i64 c1.right, .int .i64 c1.bell]]) (c1.left, 0, (-1), [], v7, 0, 0, 0, true, 0)) [0, 1, 2, 3] ⟨by decide, rfl⟩ ?_
    refine WJ.sub (m' := (fun (x : Int × Int × Int × (List Struck) × Value × Int × Int × Int × Bool × Int) => [(2, pt g5 0), (4, pt g6 0), (5, pt g9 0), (6, .bool x.2.2.2.2.2.2.2.2.1), (15, v3), (16, .int .i64 (List.length acts2 : Int)), (17, .int .i64 x.2.2.2.2.2.2.2.2.2)]) (c1.left, 0, (-1), [], v7, 0, 0, 0, true, 0)) ⟨rfl, rfl, rfl, rfl, rfl, rfl, rfl, trivial⟩ ?_
    refine WJ.loop (X := Int × Int × Int × (List Struck) × Value × Int × Int × Int × Bool × Int) (fun N (x : Int × Int × Int × (List Struck) × Value × Int × Int × Int × Bool × Int) => i_typed_l1 kj19 c1 acts2 N x.1 x.2.1 x.2.2.1 x.2.2.2.1 x.2.2.2.2.2.1 x.2.2.2.2.2.2.1 x.2.2.2.2.2.2.2.1 x.2.2.2.2.2.2.2.2.1 x.2.2.2.2.2.2.2.2.2 = some r) (fun (x : Int × Int × Int × (List Struck) × Value × Int × Int × Int × Bool × Int) => [(2, pt g5 0), (4, pt g6 0), (5, pt g9 0), (6, .bool x.2.2.2.2.2.2.2.2.1), (15, v3), (16, .int .i64 (List.length acts2 : Int)), (17, .int .i64 x.2.2.2.2.2.2.2.2.2)]) (fun (x : Int × Int × Int × (List Struck) × Value × Int × Int × Int × Bool × Int) => [box g9 118 [x.2.2.2.2.1, .int .i64 x.1, .int .i64 x.2.1, .int .i64 x.2.2.1], row x.2.2.2.2.1 76 fStruck x.2.2.2.1, box g6 118 [.slice none 0 0, .int .i64 x.2.2.2.2.2.1, .int .i64 x.2.2.2.2.2.2.1, .int .i64 x.2.2.2.2.2.2.2.1], box g5 45 [.int .i64 c1.left, .int .i64 c1.right, .int .i64 c1.bell]]) ?_ N (c1.left, 0, (-1), [], v7, 0, 0, 0, true, 0) hm
    · rintro N ⟨x21, x22, x23, l24, v25, x26, x27, x28, margin29, x30⟩ hI
      have hm := hI; clear hI
      cases N with
      | zero => cases hm
      | succ N =>
      unfold i_typed_l1 at hm
      refine WJ.seq ?_
      refine WJ.quiet ?_
      refine QJ.step (YldS.yld (y_bin rfl rfl rfl)) rfl ?_
      refine QJ.done ?_
      refine PJ.next ?_
      refine WJ.seq ?_
      refine WJ.cond (t := decide (x30 < (List.length acts2 : Int))) rfl (fun hb31 => ?_) (fun hb31 => ?_)
      · replace hm := ifT hm hb31
        refine WJ.skip ?_
        refine PJ.next ?_
        obtain ⟨kj41, hk42, hm⟩ := withK_open hm
        refine WJ.join (X := Int × Int × Int × (List Struck) × Value × Int × Int × Int × Bool) (fun (x : Int × Int × Int × (List Struck) × Value × Int × Int × Int × Bool) => kj41 x.1 x.2.1 x.2.2.1 x.2.2.2.1 x.2.2.2.2.2.1 x.2.2.2.2.2.2.1 x.2.2.2.2.2.2.2.1 x.2.2.2.2.2.2.2.2 = some r) (fun (x : Int × Int × Int × (List Struck) × Value × Int × Int × Int × Bool) => [(2, pt g5 0), (4, pt g6 0), (5, pt g9 0), (6, .bool x.2.2.2.2.2.2.2.2), (15, v3), (16, .int .i64 (List.length acts2 : Int)), (17, .int .i64 x30)]) (fun (x : Int × Int × Int × (List Struck) × Value × Int × Int × Int × Bool) => [box g9 118 [x.2.2.2.2.1, .int .i64 x.1, .int .i64 x.2.1, .int .i64 x.2.2.1], row x.2.2.2.2.1 76 fStruck x.2.2.2.1, box g6 118 [.slice none 0 0, .int .i64 x.2.2.2.2.2.1, .int .i64 x.2.2.2.2.2.2.1, .int .i64 x.2.2.2.2.2.2.2.1], box g5 45 [.int .i64 c1.left, .int .i64 c1.right, .int .i64 c1.bell]]) ?_ ?_
        · clear hk42
          refine WJ.block ?_
          refine WJ.seq ?_
          refine WJ.reg ?_
          refine SJ.q (YldS.yld (y_move rfl)) rfl ?_
          obtain ⟨e43, h44, hm⟩ := bindS hm
          obtain ⟨ad45, _, rfl, ha46, hy47⟩ := hr4.elem h44
          refine SJ.q (YldS.yld (hy47 Try.runUnderlying48 Try.sizeOf62 rfl rfl)) rfl ?_
          refine SJ.q (YldS.yld (y_loadN Try.isAgg62 Try.sizeOf62 rfl ha46 St.frozenC rfl)) rfl ?_
          refine SJ.alloc (cs := [.int .i64 0, str []]) Try.zeroValue62 rfl rfl fun g48 => ?_
          refine SJ.q (YldS.yld (y_assign rfl)) rfl ?_
          refine SJ.storeL (k := 0) (off := 0) (us := [.int .i64 e43.kind, str e43.letter]) rfl rfl rfl rfl Try.sizeOf62 rfl rfl ?_
          refine SJ.nil ?_
          refine PJ.next ?_
          refine WJ.seq ?_
          refine WJ.quiet ?_
          refine QJ.step (YldS.yld (y_assign rfl)) rfl ?_
          refine QJ.done ?_
          refine PJ.next ?_
          obtain ⟨kj54, hk55, hm⟩ := withK_open hm
          refine WJ.join (X := Int × Int × Int × Bool × Int) (fun (x : Int × Int × Int × Bool × Int) => kj54 x.1 x.2.1 x.2.2.1 x.2.2.2.1 x.2.2.2.2 = some r) (fun (x : Int × Int × Int × Bool × Int) => [(2, pt g5 0), (4, pt g6 0), (5, pt g9 0), (6, .bool x.2.2.2.1), (7, .int .i64 x30), (8, pt g48 0), (9, .int .i64 x.2.2.2.2), (15, v3), (16, .int .i64 (List.length acts2 : Int)), (17, .int .i64 x30)]) (fun (x : Int × Int × Int × Bool × Int) => [box g48 62 [.int .i64 e43.kind, str e43.letter], box g9 118 [v25, .int .i64 x.1, .int .i64 x.2.1, .int .i64 x.2.2.1], row v25 76 fStruck l24, box g6 118 [.slice none 0 0, .int .i64 x26, .int .i64 x27, .int .i64 x28], box g5 45 [.int .i64 c1.left, .int .i64 c1.right, .int .i64 c1.bell]]) ?_ ?_
          · clear hk55
            refine WJ.seq ?_
            refine WJ.quiet ?_
            refine QJ.step (YldS.yld (y_fldB (o := 0) fld62_0 rfl)) rfl ?_
            refine QJ.step (YldS.yld (y_loadB (k := 0) (off := 0) (v := .int .i64 e43.kind) rfl Try.isAgg2 rfl rfl)) rfl ?_
            refine QJ.done ?_
            refine PJ.next ?_
            refine WJ.block ?_
            obtain ⟨kj57, hk58, hm⟩ := withK_open hm
            refine WJ.join (X := Bool) (fun (x : Bool) => kj57 x = some r) (fun (x : Bool) => [(2, pt g5 0), (4, pt g6 0), (5, pt g9 0), (6, .bool margin29), (7, .int .i64 x30), (8, pt g48 0), (9, .int .i64 0), (15, v3), (16, .int .i64 (List.length acts2 : Int)), (17, .int .i64 x30), (23, .int .i64 e43.kind), (24, .bool x)]) (fun (x : Bool) => [box g48 62 [.int .i64 e43.kind, str e43.letter], box g9 118 [v25, .int .i64 x21, .int .i64 x22, .int .i64 x23], row v25 76 fStruck l24, box g6 118 [.slice none 0 0, .int .i64 x26, .int .i64 x27, .int .i64 x28], box g5 45 [.int .i64 c1.left, .int .i64 c1.right, .int .i64 c1.bell]]) ?_ ?_
            · clear hk58
              refine WJ.seq ?_
              refine WJ.quiet ?_
              refine QJ.step (YldS.yld (y_bin rfl rfl rfl)) rfl ?_
              refine QJ.step (YldS.yld (y_assign rfl)) rfl ?_
              refine QJ.done ?_
              refine PJ.next ?_
              refine WJ.cond (t := (e43.kind == 0)) rfl (fun hb59 => ?_) (fun hb59 => ?_)
              · replace hm := ifT hm hb59
                refine WJ.skip ?_
                exact PJ.joined (e43.kind == 0) [0, 1, 2, 3, 4] hm ⟨rfl, rfl, rfl, rfl, rfl, rfl, rfl, rfl, rfl, rfl, rfl, rfl, trivial⟩ ⟨by decide, rfl⟩
              · replace hm := ifF hm hb59
                refine WJ.quiet ?_
                refine QJ.step (YldS.yld (y_bin rfl rfl rfl)) rfl ?_
                refine QJ.step (YldS.yld (y_assign rfl)) rfl ?_
                refine QJ.done ?_
                exact PJ.joined (e43.kind == 1) [0, 1, 2, 3, 4] hm ⟨rfl, rfl, rfl, rfl, rfl, rfl, rfl, rfl, rfl, rfl, rfl, rfl, trivial⟩ ⟨by decide, rfl⟩
            · rintro x56 hm
              subst hk58
              refine WJ.cond (t := x56) rfl (fun hb60 => ?_) (fun hb60 => ?_)
              · replace hm := ifT hm hb60
                refine WJ.quiet ?_
                refine QJ.step (YldS.yld (y_assign rfl)) rfl ?_
                refine QJ.done ?_
                refine PJ.block_normal ?_
                exact PJ.joined (x21, x22, x23, margin29, 2) [0, 1, 2, 3, 4] hm ⟨rfl, rfl, rfl, rfl, rfl, rfl, rfl, rfl, rfl, rfl, trivial⟩ ⟨by decide, rfl⟩
              · replace hm := ifF hm hb60
                refine WJ.seq ?_
                refine WJ.quiet ?_
                refine QJ.step (YldS.yld (y_bin rfl rfl rfl)) rfl ?_
                refine QJ.step (YldS.yld (y_assign rfl)) rfl ?_
                refine QJ.done ?_
                refine PJ.next ?_
                refine WJ.cond (t := (e43.kind == 3)) rfl (fun hb61 => ?_) (fun hb61 => ?_)
                · replace hm := ifT hm hb61
                  refine WJ.quiet ?_
                  refine QJ.step (YldS.yld (y_assign rfl)) rfl ?_
                  refine QJ.done ?_
                  refine PJ.block_normal ?_
                  exact PJ.joined (x21, x22, x23, margin29, 1) [0, 1, 2, 3, 4] hm ⟨rfl, rfl, rfl, rfl, rfl, rfl, rfl, rfl, rfl, rfl, trivial⟩ ⟨by decide, rfl⟩
                · replace hm := ifF hm hb61
                  refine WJ.seq ?_
                  refine WJ.quiet ?_
                  refine QJ.step (YldS.yld (y_bin rfl rfl rfl)) rfl ?_
                  refine QJ.step (YldS.yld (y_assign rfl)) rfl ?_
                  refine QJ.done ?_
                  refine PJ.next ?_
                  refine WJ.cond (t := (e43.kind == 2)) rfl (fun hb62 => ?_) (fun hb62 => ?_)
                  · replace hm := ifT hm hb62
                    refine WJ.reg ?_
                    refine SJ.q (YldS.yld (y_fldB (o := 0) fld118_1 rfl)) rfl ?_
                    refine SJ.q (YldS.yld (y_loadB (k := 1) (off := 1) (v := .int .i64 x21) rfl Try.isAgg2 rfl rfl)) rfl ?_
                    refine SJ.q (YldS.yld (y_bin rfl rfl rfl)) rfl ?_
                    refine SJ.q (YldS.yld (y_max rfl rfl)) rfl ?_
                    refine SJ.q (YldS.yld (y_fldB (o := 0) fld118_1 rfl)) rfl ?_
                    refine SJ.storeL (k := 1) (off := 1) (us := [.int .i64 (imax (w64 (x21 - 2)) 0)]) rfl rfl rfl rfl Try.sizeOf2 rfl rfl ?_
                    refine SJ.nil ?_
                    refine PJ.block_normal ?_
                    exact PJ.joined (imax (w64 (x21 - 2)) 0, x22, x23, margin29, 0) [0, 1, 2, 3, 4] hm ⟨rfl, rfl, rfl, rfl, rfl, rfl, rfl, rfl, rfl, rfl, trivial⟩ ⟨by decide, rfl⟩
                  · replace hm := ifF hm hb62
                    refine WJ.seq ?_
                    refine WJ.quiet ?_
                    refine QJ.step (YldS.yld (y_bin rfl rfl rfl)) rfl ?_
                    refine QJ.step (YldS.yld (y_assign rfl)) rfl ?_
                    refine QJ.done ?_
                    refine PJ.next ?_
                    refine WJ.cond (t := (e43.kind == 4)) rfl (fun hb63 => ?_) (fun hb63 => ?_)
                    · replace hm := ifT hm hb63
                      refine WJ.quiet ?_
                      refine QJ.step (YldS.yld (y_assign rfl)) rfl ?_
                      refine QJ.done ?_
                      refine PJ.block_normal ?_
                      exact PJ.joined (x21, x22, x23, false, 0) [0, 1, 2, 3, 4] hm ⟨rfl, rfl, rfl, rfl, rfl, rfl, rfl, rfl, rfl, rfl, trivial⟩ ⟨by decide, rfl⟩
                    · replace hm := ifF hm hb63
                      refine WJ.seq ?_
                      refine WJ.quiet ?_
                      refine QJ.step (YldS.yld (y_bin rfl rfl rfl)) rfl ?_
                      refine QJ.step (YldS.yld (y_assign rfl)) rfl ?_
                      refine QJ.done ?_
                      refine PJ.next ?_
                      refine WJ.cond (t := (e43.kind == 5)) rfl (fun hb64 => ?_) (fun hb64 => ?_)
                      · replace hm := ifT hm hb64
                        refine WJ.seq ?_
                        refine WJ.reg ?_
                        refine SJ.q (YldS.yld (y_fldB (o := 0) fld45_0 rfl)) rfl ?_
                        refine SJ.q (YldS.yld (y_loadB (k := 4) (off := 0) (v := .int .i64 c1.left) rfl Try.isAgg2 rfl rfl)) rfl ?_
                        refine SJ.q (YldS.yld (y_fldB (o := 0) fld118_1 rfl)) rfl ?_
                        refine SJ.storeL (k := 1) (off := 1) (us := [.int .i64 c1.left]) rfl rfl rfl rfl Try.sizeOf2 rfl rfl ?_
                        refine SJ.nil ?_
                        refine PJ.next ?_
                        refine WJ.quiet ?_
                        refine QJ.step (YldS.yld (y_assign rfl)) rfl ?_
                        refine QJ.done ?_
                        refine PJ.block_normal ?_
                        exact PJ.joined (c1.left, x22, x23, true, 0) [0, 1, 2, 3, 4] hm ⟨rfl, rfl, rfl, rfl, rfl, rfl, rfl, rfl, rfl, rfl, trivial⟩ ⟨by decide, rfl⟩
                      · replace hm := ifF hm hb64
                        refine WJ.skip ?_
                        refine PJ.block_normal ?_
                        exact PJ.joined (x21, x22, x23, margin29, 0) [0, 1, 2, 3, 4] hm ⟨rfl, rfl, rfl, rfl, rfl, rfl, rfl, rfl, rfl, rfl, trivial⟩ ⟨by decide, rfl⟩
          · rintro ⟨x49, x50, x51, margin52, step53⟩ hm
            subst hk55
            refine WJ.seq ?_
            refine WJ.seq ?_
            refine WJ.quiet ?_
            refine QJ.step (YldS.yld (y_move rfl)) rfl ?_
            refine QJ.step (YldS.yld (y_bin rfl rfl rfl)) rfl ?_
            refine QJ.done ?_
            refine PJ.next ?_
            refine WJ.cond (t := (step53 == 0)) rfl (fun hb65 => ?_) (fun hb65 => ?_)
            · replace hm := ifT hm hb65
              refine WJ.exit ?_
              refine PJ.then_exit (PJ.block_exit ?_)
              exact PJ.joined (x49, x50, x51, l24, v25, x26, x27, x28, margin52) [1, 2, 3, 4] hm ⟨rfl, rfl, rfl, rfl, rfl, rfl, rfl, trivial⟩ ⟨by decide, rfl⟩
            · replace hm := ifF hm hb65
              refine WJ.skip ?_
              refine PJ.next ?_
              refine WJ.seq ?_
              refine WJ.quiet ?_
              refine QJ.step (YldS.yld (y_fldB (o := 0) fld118_1 rfl)) rfl ?_
              refine QJ.step (YldS.yld (y_loadB (k := 1) (off := 1) (v := .int .i64 x49) rfl Try.isAgg2 rfl rfl)) rfl ?_
              refine QJ.step (YldS.yld (y_move rfl)) rfl ?_
              refine QJ.step (YldS.yld (y_bin rfl rfl rfl)) rfl ?_
              refine QJ.step (YldS.yld (y_assign rfl)) rfl ?_
              refine QJ.done ?_
              refine PJ.next ?_
              refine WJ.seq ?_
              refine WJ.seq ?_
              refine WJ.quiet ?_
              refine QJ.step (YldS.yld (y_move rfl)) rfl ?_
              refine QJ.step (YldS.yld (y_move rfl)) rfl ?_
              obtain ⟨t66, h67, hm⟩ := bindS hm
              refine QJ.cut 5 [(2, pt g5 0), (4, pt g6 0), (5, pt g9 0), (6, .bool margin52), (7, .int .i64 x30), (8, pt g48 0), (10, .int .i64 (w64 (x49 + step53))), (15, v3), (16, .int .i64 (List.length acts2 : Int)), (17, .int .i64 x30), (55, .bool t66)] ?_ ?_
              · rcases Bool.eq_false_or_eq_true margin52 with hb68 | hb68
                · replace h67 := andT h67 hb68
                  refine QJ.on rfl rfl (cB hb68) (YldS.yld (y_move rfl)) rfl ?_
                  refine QJ.on rfl rfl (cB hb68) (YldS.yld (y_fldB (o := 0) fld45_1 rfl)) rfl ?_
                  refine QJ.on rfl rfl (cB hb68) (YldS.yld (y_loadB (k := 4) (off := 1) (v := .int .i64 c1.right) rfl Try.isAgg2 rfl rfl)) rfl ?_
                  refine QJ.on rfl rfl (cB hb68) (YldS.yld (y_bin rfl rfl rfl)) rfl ?_
                  refine QJ.step (YldS.yld (y_pick_t (cB hb68) rfl)) rfl ?_
                  obtain rfl := Option.some.inj h67
                  exact QJ.cut_end ⟨rfl, rfl, rfl, rfl, rfl, rfl, rfl, rfl, rfl, rfl, rfl, trivial⟩
                · obtain rfl := andF h67 hb68
                  refine QJ.off rfl rfl (cB hb68) rfl rfl ?_
                  refine QJ.off rfl rfl (cB hb68) rfl rfl ?_
                  refine QJ.off rfl rfl (cB hb68) rfl rfl ?_
                  refine QJ.off rfl rfl (cB hb68) rfl rfl ?_
                  refine QJ.step (YldS.yld (y_pick_f (cB hb68) rfl)) rfl ?_
                  exact QJ.cut_end ⟨rfl, rfl, rfl, rfl, rfl, rfl, rfl, rfl, rfl, rfl, rfl, trivial⟩
              refine QJ.step (YldS.yld (y_move rfl)) rfl ?_
              obtain ⟨t69, h70, hm⟩ := bindS hm
              refine QJ.cut 3 [(2, pt g5 0), (4, pt g6 0), (5, pt g9 0), (6, .bool margin52), (7, .int .i64 x30), (8, pt g48 0), (10, .int .i64 (w64 (x49 + step53))), (15, v3), (16, .int .i64 (List.length acts2 : Int)), (17, .int .i64 x30), (59, .bool t69)] ?_ ?_
              · rcases Bool.eq_false_or_eq_true t66 with hb71 | hb71
                · obtain rfl := orT h70 hb71
                  refine QJ.off rfl rfl (cB hb71) rfl rfl ?_
                  refine QJ.off rfl rfl (cB hb71) rfl rfl ?_
                  refine QJ.step (YldS.yld (y_pick_t (cB hb71) rfl)) rfl ?_
                  exact QJ.cut_end ⟨rfl, rfl, rfl, rfl, rfl, rfl, rfl, rfl, rfl, rfl, rfl, trivial⟩
                · replace h70 := orF h70 hb71
                  refine QJ.on rfl rfl (cB hb71) (YldS.yld (y_move rfl)) rfl ?_
                  refine QJ.on rfl rfl (cB hb71) (YldS.yld (y_bin rfl rfl rfl)) rfl ?_
                  refine QJ.step (YldS.yld (y_pick_f (cB hb71) rfl)) rfl ?_
                  obtain rfl := Option.some.inj h70
                  exact QJ.cut_end ⟨rfl, rfl, rfl, rfl, rfl, rfl, rfl, rfl, rfl, rfl, rfl, trivial⟩
              refine QJ.done ?_
              refine PJ.next ?_
              refine WJ.cond (t := t69) rfl (fun hb72 => ?_) (fun hb72 => ?_)
              · replace hm := ifT hm hb72
                refine WJ.seq ?_
                refine WJ.reg ?_
                refine SJ.q (YldS.yld (y_move rfl)) rfl ?_
                refine SJ.q (YldS.yld (y_fldB (o := 0) fld118_3 rfl)) rfl ?_
                refine SJ.storeL (k := 1) (off := 3) (us := [.int .i64 x30]) rfl rfl rfl rfl Try.sizeOf2 rfl rfl ?_
                refine SJ.nil ?_
                refine PJ.next ?_
                refine WJ.seq ?_
                refine WJ.reg ?_
                refine SJ.q (YldS.yld (y_loadBN (k := 1) (off := 0) (us := [v25, .int .i64 x49, .int .i64 x50, .int .i64 x30]) rfl Try.isAgg118 Try.sizeOf118 rfl rfl)) rfl ?_
                refine SJ.rowCells (k := 2) rfl fun hc73 => ?_
                refine SJ.storeL (k := 3) (off := 0) (us := [v25, .int .i64 x49, .int .i64 x50, .int .i64 x30]) rfl rfl rfl rfl Try.sizeOf118 rfl (by simp only [List.all_cons, hc73.2]; rfl) ?_
                refine SJ.nil ?_
                refine PJ.next ?_
                refine WJ.ret ?_
                refine PJ.then_ret (PJ.block_ret (PJ.then_ret (PJ.then_ret (PJ.block_ret (PJ.then_ret ?_)))))
                obtain rfl := Option.some.inj hm
                exact PJ.retn_sel (vs := [.agg #[v25, .int .i64 x49, .int .i64 x50, .int .i64 x30]]) Try.results89 ⟨⟨3, g6, 118, [v25, .int .i64 x49, .int .i64 x50, .int .i64 x30], rfl, rfl, .inl ⟨Try.isAgg118, Try.sizeOf118, rfl⟩⟩, trivial⟩ [2] ⟨by decide, rfl⟩ ⟨_, rfl, rfl⟩
              · replace hm := ifF hm hb72
                refine WJ.skip ?_
                refine PJ.next ?_
                obtain ⟨kj79, hk80, hm⟩ := withK_open hm
                refine WJ.join (X := Int × Int × Int × (List Struck) × Value) (fun (x : Int × Int × Int × (List Struck) × Value) => kj79 x.1 x.2.1 x.2.2.1 x.2.2.2.1 = some r) (fun (x : Int × Int × Int × (List Struck) × Value) => [(2, pt g5 0), (4, pt g6 0), (5, pt g9 0), (6, .bool margin52), (10, .int .i64 (w64 (x49 + step53))), (15, v3), (16, .int .i64 (List.length acts2 : Int)), (17, .int .i64 x30)]) (fun (x : Int × Int × Int × (List Struck) × Value) => [box g9 118 [x.2.2.2.2, .int .i64 x.1, .int .i64 x.2.1, .int .i64 x.2.2.1], row x.2.2.2.2 76 fStruck x.2.2.2.1, box g6 118 [.slice none 0 0, .int .i64 x26, .int .i64 x27, .int .i64 x28], box g5 45 [.int .i64 c1.left, .int .i64 c1.right, .int .i64 c1.bell]]) ?_ ?_
                · clear hk80
                  refine WJ.seq ?_
                  refine WJ.quiet ?_
                  refine QJ.step (YldS.yld (y_fldB (o := 0) fld62_0 rfl)) rfl ?_
                  refine QJ.step (YldS.yld (y_loadB (k := 0) (off := 0) (v := .int .i64 e43.kind) rfl Try.isAgg2 rfl rfl)) rfl ?_
                  refine QJ.step (YldS.yld (y_bin rfl rfl rfl)) rfl ?_
                  refine QJ.done ?_
                  refine PJ.next ?_
                  refine WJ.cond (t := (e43.kind == 0)) rfl (fun hb81 => ?_) (fun hb81 => ?_)
                  · replace hm := ifT hm hb81
                    refine WJ.reg ?_
                    refine SJ.q (YldS.yld (y_fldB (o := 0) fld118_0 rfl)) rfl ?_
                    refine SJ.q (YldS.yld (y_loadB (k := 1) (off := 0) (v := v25) rfl Try.isAgg53 rfl rfl)) rfl ?_
                    refine SJ.q (YldS.yld (y_fldB (o := 0) fld118_1 rfl)) rfl ?_
                    refine SJ.q (YldS.yld (y_loadB (k := 1) (off := 1) (v := .int .i64 x49) rfl Try.isAgg2 rfl rfl)) rfl ?_
                    refine SJ.q (YldS.yld (y_fldB (o := 0) fld62_1 rfl)) rfl ?_
                    refine SJ.q (YldS.yld (y_loadB (k := 0) (off := 1) (v := str e43.letter) rfl Try.isAgg9 rfl rfl)) rfl ?_
                    refine SJ.q (YldS.yld (y_build (parts := [(0, .tmp 69), (1, .tmp 71)]) (places := [(0, 1), (1, 1)]) (r := [.int .i64 ((Struck.mk x49 e43.letter).place), str ((Struck.mk x49 e43.letter).letter)]) pl76 Try.zeroValue76 rfl rfl rfl rfl)) rfl ?_
                    refine SJ.buildSlice (R := fStruck) (os := [.tmp 72]) [(Struck.mk x49 e43.letter)] Try.runUnderlying53 Try.sizeOf76 Try.zeroValue76 rfl rfl rfl rfl rfl rfl fun v82 => ?_
                    obtain ⟨l83, h84, hm⟩ := bindS hm
                    refine SJ.append (k := 3) (R := fStruck) h84 rfl Try.underlying53 el76 rfl rfl rfl (fun w hw => (hw.row_rd (k := 0) rfl)) rfl fun v85 => ?_
                    refine SJ.q (YldS.yld (y_fldB (o := 0) fld118_0 rfl)) rfl ?_
                    refine SJ.rowCells (k := 3) rfl fun hc86 => ?_
                    refine SJ.storeL (k := 2) (off := 0) (us := [v85]) rfl rfl rfl hc86.1 Try.sizeOf53 rfl (by simp [hc86.2]) ?_
                    refine SJ.nil ?_
                    exact PJ.joined (x49, x50, x51, l83, v85) [2, 3, 4, 5] hm ⟨rfl, rfl, rfl, rfl, rfl, rfl, rfl, rfl, trivial⟩ ⟨by decide, rfl⟩
                  · replace hm := ifF hm hb81
                    refine WJ.skip ?_
                    exact PJ.joined (x49, x50, x51, l24, v25) [1, 2, 3, 4] hm ⟨rfl, rfl, rfl, rfl, rfl, rfl, rfl, rfl, trivial⟩ ⟨by decide, rfl⟩
                · rintro ⟨x74, x75, x76, l77, v78⟩ hm
                  subst hk80
                  obtain ⟨kj90, hk91, hm⟩ := withK_open hm
                  refine WJ.join (X := Int × Int × Int) (fun (x : Int × Int × Int) => kj90 x.1 x.2.1 x.2.2 = some r) (fun (x : Int × Int × Int) => [(2, pt g5 0), (4, pt g6 0), (5, pt g9 0), (6, .bool margin52), (10, .int .i64 (w64 (x49 + step53))), (15, v3), (16, .int .i64 (List.length acts2 : Int)), (17, .int .i64 x30)]) (fun (x : Int × Int × Int) => [box g9 118 [v78, .int .i64 x.1, .int .i64 x.2.1, .int .i64 x.2.2], row v78 76 fStruck l77, box g6 118 [.slice none 0 0, .int .i64 x26, .int .i64 x27, .int .i64 x28], box g5 45 [.int .i64 c1.left, .int .i64 c1.right, .int .i64 c1.bell]]) ?_ ?_
                  · clear hk91
                    refine WJ.seq ?_
                    refine WJ.quiet ?_
                    refine QJ.step (YldS.yld (y_fldB (o := 0) fld118_1 rfl)) rfl ?_
                    refine QJ.step (YldS.yld (y_loadB (k := 0) (off := 1) (v := .int .i64 x74) rfl Try.isAgg2 rfl rfl)) rfl ?_
                    refine QJ.step (YldS.yld (y_fldB (o := 0) fld45_2 rfl)) rfl ?_
                    refine QJ.step (YldS.yld (y_loadB (k := 3) (off := 2) (v := .int .i64 c1.bell) rfl Try.isAgg2 rfl rfl)) rfl ?_
                    refine QJ.step (YldS.yld (y_bin rfl rfl rfl)) rfl ?_
                    refine QJ.step (YldS.yld (y_move rfl)) rfl ?_
                    obtain ⟨t92, h93, hm⟩ := bindS hm
                    refine QJ.cut 5 [(2, pt g5 0), (4, pt g6 0), (5, pt g9 0), (6, .bool margin52), (10, .int .i64 (w64 (x49 + step53))), (15, v3), (16, .int .i64 (List.length acts2 : Int)), (17, .int .i64 x30), (86, .bool t92)] ?_ ?_
                    · rcases Bool.eq_false_or_eq_true (decide (x74 < c1.bell)) with hb94 | hb94
                      · replace h93 := andT h93 hb94
                        refine QJ.on rfl rfl (cB hb94) (YldS.yld (y_move rfl)) rfl ?_
                        refine QJ.on rfl rfl (cB hb94) (YldS.yld (y_fldB (o := 0) fld45_2 rfl)) rfl ?_
                        refine QJ.on rfl rfl (cB hb94) (YldS.yld (y_loadB (k := 3) (off := 2) (v := .int .i64 c1.bell) rfl Try.isAgg2 rfl rfl)) rfl ?_
                        refine QJ.on rfl rfl (cB hb94) (YldS.yld (y_bin rfl rfl rfl)) rfl ?_
                        refine QJ.step (YldS.yld (y_pick_t (cB hb94) rfl)) rfl ?_
                        obtain rfl := Option.some.inj h93
                        exact QJ.cut_end ⟨rfl, rfl, rfl, rfl, rfl, rfl, rfl, rfl, rfl, trivial⟩
                      · obtain rfl := andF h93 hb94
                        refine QJ.off rfl rfl (cB hb94) rfl rfl ?_
                        refine QJ.off rfl rfl (cB hb94) rfl rfl ?_
                        refine QJ.off rfl rfl (cB hb94) rfl rfl ?_
                        refine QJ.off rfl rfl (cB hb94) rfl rfl ?_
                        refine QJ.step (YldS.yld (y_pick_f (cB hb94) rfl)) rfl ?_
                        exact QJ.cut_end ⟨rfl, rfl, rfl, rfl, rfl, rfl, rfl, rfl, rfl, trivial⟩
                    refine QJ.done ?_
                    refine PJ.next ?_
                    refine WJ.cond (t := t92) rfl (fun hb95 => ?_) (fun hb95 => ?_)
                    · replace hm := ifT hm hb95
                      refine WJ.reg ?_
                      refine SJ.q (YldS.yld (y_fldB (o := 0) fld118_2 rfl)) rfl ?_
                      refine SJ.q (YldS.yld (y_loadB (k := 0) (off := 2) (v := .int .i64 x75) rfl Try.isAgg2 rfl rfl)) rfl ?_
                      refine SJ.q (YldS.yld (y_bin rfl rfl rfl)) rfl ?_
                      refine SJ.q (YldS.yld (y_fldB (o := 0) fld118_2 rfl)) rfl ?_
                      refine SJ.storeL (k := 0) (off := 2) (us := [.int .i64 (w64 (x75 + 1))]) rfl rfl rfl rfl Try.sizeOf2 rfl rfl ?_
                      refine SJ.nil ?_
                      exact PJ.joined (x74, w64 (x75 + 1), x76) [0, 1, 2, 3] hm ⟨rfl, rfl, rfl, rfl, rfl, rfl, rfl, rfl, trivial⟩ ⟨by decide, rfl⟩
                    · replace hm := ifF hm hb95
                      refine WJ.skip ?_
                      exact PJ.joined (x74, x75, x76) [0, 1, 2, 3] hm ⟨rfl, rfl, rfl, rfl, rfl, rfl, rfl, rfl, trivial⟩ ⟨by decide, rfl⟩
                  · rintro ⟨x87, x88, x89⟩ hm
                    subst hk91
                    refine WJ.reg ?_
                    refine SJ.q (YldS.yld (y_move rfl)) rfl ?_
                    refine SJ.q (YldS.yld (y_fldB (o := 0) fld118_1 rfl)) rfl ?_
                    refine SJ.storeL (k := 0) (off := 1) (us := [.int .i64 (w64 (x49 + step53))]) rfl rfl rfl rfl Try.sizeOf2 rfl rfl ?_
                    refine SJ.nil ?_
                    refine PJ.block_normal ?_
                    exact PJ.joined (w64 (x49 + step53), x88, x89, l77, v78, x26, x27, x28, margin52) [0, 1, 2, 3] hm ⟨rfl, rfl, rfl, rfl, rfl, rfl, rfl, trivial⟩ ⟨by decide, rfl⟩
        · rintro ⟨x32, x33, x34, l35, v36, x37, x38, x39, margin40⟩ hm
          subst hk42
          refine WJ.quiet ?_
          refine QJ.step (YldS.yld (y_bin rfl rfl rfl)) rfl ?_
          refine QJ.step (YldS.yld (y_move rfl)) rfl ?_
          refine QJ.done ?_
          exact PJ.round (x32, x33, x34, l35, v36, x37, x38, x39, margin40, w64 (x30 + 1)) [0, 1, 2, 3] hm ⟨rfl, rfl, rfl, rfl, rfl, rfl, rfl, trivial⟩ ⟨by decide, rfl⟩
      · replace hm := ifF hm hb31
        refine WJ.exit ?_
        refine PJ.then_exit (PJ.then_exit (PJ.block_exit ?_))
        exact PJ.joined (x21, x22, x23, l24, v25, x26, x27, x28) [0, 1, 2] hm ⟨rfl, rfl, trivial⟩ ⟨by decide, rfl⟩
  · rintro ⟨x11, x12, x13, l14, v15, x16, x17, x18⟩ hm
    subst hk20
    refine WJ.seq ?_
    refine WJ.reg ?_
    refine SJ.q (YldS.yld (y_loadBN (k := 0) (off := 0) (us := [v15, .int .i64 x11, .int .i64 x12, .int .i64 x13]) rfl Try.isAgg118 Try.sizeOf118 rfl rfl)) rfl ?_
    refine SJ.rowCells (k := 1) rfl fun hc96 => ?_
    refine SJ.storeL (k := 2) (off := 0) (us := [v15, .int .i64 x11, .int .i64 x12, .int .i64 x13]) rfl rfl rfl rfl Try.sizeOf118 rfl (by simp only [List.all_cons, hc96.2]; rfl) ?_
    refine SJ.nil ?_
    refine PJ.next ?_
    refine WJ.ret ?_
    obtain rfl := Option.some.inj hm
    exact PJ.retn_sel (vs := [.agg #[v15, .int .i64 x11, .int .i64 x12, .int .i64 x13]]) Try.results89 ⟨⟨2, g6, 118, [v15, .int .i64 x11, .int .i64 x12, .int .i64 x13], rfl, rfl, .inl ⟨Try.isAgg118, Try.sizeOf118, rfl⟩⟩, trivial⟩ [1] ⟨by decide, rfl⟩ ⟨_, rfl, rfl⟩

set_option maxRecDepth 100000 in
set_option maxHeartbeats 1000000 in
theorem ok_i_TypeActs {N : Nat} {c1 : Carriage} {acts2 : List Act} {r : (List Struck) × Int × Int} (hm : i_TypeActs N c1 acts2 = some r) (w : World) (v3 : Value) (hr4 : RdS w (cx w).Fz v3 fAct.rp acts2) :
    Calls Try.prog 24 #[.agg (Carriage.enc c1).toArray, v3] w (RetG (cx w) fun u L => ∃ (u1 : Value), (u = tup [u1, .int .i64 r.2.1, .int .i64 r.2.2] ∧ L = [row u1 76 fStruck r.1])) := by
  unfold i_TypeActs at hm
  refine Calls.enter [.agg (Carriage.enc c1).toArray, v3] Try.func24 rfl Try.ntmps24 rfl ?_
  refine WJ.seq ?_
  refine WJ.reg ?_
  refine SJ.box (cs := [.int .i64 c1.left, .int .i64 c1.right, .int .i64 c1.bell]) rfl rfl rfl fun g5 => ?_
  refine SJ.q (YldS.yld (y_assign rfl)) rfl ?_
  refine SJ.q (YldS.yld (y_assign rfl)) rfl ?_
  refine SJ.q (YldS.yld (y_assign rfl)) rfl ?_
  refine SJ.nil ?_
  refine PJ.next ?_
  refine WJ.seq ?_
  refine WJ.seq ?_
  refine WJ.quiet ?_
  refine QJ.step (YldS.yld (y_loadBN (k := 0) (off := 0) (us := [.int .i64 c1.left, .int .i64 c1.right, .int .i64 c1.bell]) rfl Try.isAgg45 Try.sizeOf45 rfl rfl)) rfl ?_
  obtain ⟨r6, h7, hm⟩ := bindS hm
  refine QJ.step (y_call Try.call35 rfl (RetG.quiet fun w hw => ok_i_ValidCarriage h7 w )) rfl ?_
  refine QJ.step (YldS.yld (y_not rfl)) rfl ?_
  refine QJ.step (YldS.yld (y_move rfl)) rfl ?_
  obtain ⟨t8, h9, hm⟩ := bindS hm
  refine QJ.cut 4 [(1, v3), (2, pt g5 0), (15, .bool t8)] ?_ ?_
  · rcases Bool.eq_false_or_eq_true (!r6) with hb10 | hb10
    · obtain rfl := orT h9 hb10
      refine QJ.off rfl rfl (cB hb10) rfl rfl ?_
      refine QJ.off rfl rfl (cB hb10) rfl rfl ?_
      refine QJ.off rfl rfl (cB hb10) rfl rfl ?_
      refine QJ.step (YldS.yld (y_pick_t (cB hb10) rfl)) rfl ?_
      exact QJ.cut_end ⟨rfl, rfl, rfl, trivial⟩
    · replace h9 := orF h9 hb10
      refine QJ.on rfl rfl (cB hb10) (YldS.yld (y_move rfl)) rfl ?_
      obtain ⟨r11, h12, h9⟩ := bindS h9
      refine QJ.on rfl rfl (cB hb10) (y_call Try.call33 rfl (RetG.quiet fun w hw => ok_i_ValidActs h12 w _ (hr4.st hw))) rfl ?_
      refine QJ.on rfl rfl (cB hb10) (YldS.yld (y_not rfl)) rfl ?_
      refine QJ.step (YldS.yld (y_pick_f (cB hb10) rfl)) rfl ?_
      obtain rfl := Option.some.inj h9
      exact QJ.cut_end ⟨rfl, rfl, rfl, trivial⟩
  refine QJ.done ?_
  refine PJ.next ?_
  refine WJ.cond (t := t8) rfl (fun hb13 => ?_) (fun hb13 => ?_)
  · replace hm := ifT hm hb13
    refine WJ.seq ?_
    refine WJ.quiet ?_
    refine QJ.step (YldS.yld (y_assign rfl)) rfl ?_
    refine QJ.step (YldS.yld (y_assign rfl)) rfl ?_
    refine QJ.step (YldS.yld (y_assign rfl)) rfl ?_
    refine QJ.done ?_
    refine PJ.next ?_
    refine WJ.ret ?_
    refine PJ.then_ret ?_
    refine PJ.nil_row 76 fStruck ?_
    obtain rfl := Option.some.inj hm
    refine PJ.sel (L' := [row (.slice none 0 0) 76 fStruck []]) [0] ⟨by decide, rfl⟩ ?_
    exact PJ.retn (vs := [(.slice none 0 0), .int .i64 0, .int .i64 1]) Try.results24 ⟨rfl, rfl, rfl, trivial⟩ ⟨_, rfl, rfl⟩
  · replace hm := ifF hm hb13
    refine WJ.skip ?_
    refine PJ.next ?_
    refine WJ.seq ?_
    refine WJ.reg ?_
    refine SJ.q (YldS.yld (y_loadBN (k := 0) (off := 0) (us := [.int .i64 c1.left, .int .i64 c1.right, .int .i64 c1.bell]) rfl Try.isAgg45 Try.sizeOf45 rfl rfl)) rfl ?_
    refine SJ.q (YldS.yld (y_move rfl)) rfl ?_
    obtain ⟨r14, h15, hm⟩ := bindS hm
    refine SJ.call Try.call89 rfl (fun w hw => ok_i_typed h15 w _ (hr4.st hw)) rfl ?_
    rintro _ _ ⟨v16, rfl, rfl⟩
    refine SJ.alloc (cs := [.slice none 0 0, .int .i64 0, .int .i64 0, .int .i64 0]) Try.zeroValue118 rfl rfl fun g17 => ?_
    refine SJ.rowCells (k := 1) rfl fun hc18 => ?_
    refine SJ.storeL (k := 0) (off := 0) (us := [v16, .int .i64 r14.place, .int .i64 r14.bells, .int .i64 r14.stopped]) rfl rfl rfl rfl Try.sizeOf118 rfl (by simp only [List.all_cons, hc18.2]; rfl) ?_
    refine SJ.nil ?_
    refine PJ.next ?_
    refine WJ.seq ?_
    refine WJ.seq ?_
    refine WJ.quiet ?_
    refine QJ.step (YldS.yld (y_fldB (o := 0) fld118_3 rfl)) rfl ?_
    refine QJ.step (YldS.yld (y_loadB (k := 0) (off := 3) (v := .int .i64 r14.stopped) rfl Try.isAgg2 rfl rfl)) rfl ?_
    refine QJ.step (YldS.yld (y_bin rfl rfl rfl)) rfl ?_
    refine QJ.done ?_
    refine PJ.next ?_
    refine WJ.cond (t := decide (r14.stopped ≥ 0)) rfl (fun hb19 => ?_) (fun hb19 => ?_)
    · replace hm := ifT hm hb19
      refine WJ.seq ?_
      refine WJ.quiet ?_
      refine QJ.step (YldS.yld (y_assign rfl)) rfl ?_
      refine QJ.step (YldS.yld (y_assign rfl)) rfl ?_
      refine QJ.step (YldS.yld (y_assign rfl)) rfl ?_
      refine QJ.done ?_
      refine PJ.next ?_
      refine WJ.ret ?_
      refine PJ.then_ret ?_
      refine PJ.nil_row 76 fStruck ?_
      obtain rfl := Option.some.inj hm
      refine PJ.sel (L' := [row (.slice none 0 0) 76 fStruck []]) [0] ⟨by decide, rfl⟩ ?_
      exact PJ.retn (vs := [(.slice none 0 0), .int .i64 0, .int .i64 6]) Try.results24 ⟨rfl, rfl, rfl, trivial⟩ ⟨_, rfl, rfl⟩
    · replace hm := ifF hm hb19
      refine WJ.skip ?_
      refine PJ.next ?_
      refine WJ.seq ?_
      refine WJ.quiet_draw follows (by kernel_rfl) ?_
      refine QJ.step (YldS.yld (y_fldB (o := 0) fld118_0 rfl)) rfl ?_
      refine QJ.step (YldS.yld (y_loadB (k := 0) (off := 0) (v := v16) rfl Try.isAgg53 rfl rfl)) rfl ?_
      refine QJ.step (YldS.yld (y_fldB (o := 0) fld118_1 rfl)) rfl ?_
      refine QJ.step (YldS.yld (y_loadB (k := 0) (off := 1) (v := .int .i64 r14.place) rfl Try.isAgg2 rfl rfl)) rfl ?_
      refine QJ.step (YldS.yld (y_assign rfl)) rfl ?_
      refine QJ.step (YldS.yld (y_assign rfl)) rfl ?_
      refine QJ.step (YldS.yld (y_assign rfl)) rfl ?_
      refine QJ.done ?_
      refine PJ.next ?_
      refine WJ.ret ?_
      obtain rfl := Option.some.inj hm
      refine PJ.sel (L' := [row v16 76 fStruck r14.list]) [1] ⟨by decide, rfl⟩ ?_
      exact PJ.retn (vs := [v16, .int .i64 r14.place, .int .i64 0]) Try.results24 ⟨rfl, rfl, rfl, trivial⟩ ⟨_, rfl, rfl⟩

set_option maxRecDepth 100000 in
set_option maxHeartbeats 1000000 in
theorem ok_s_l02Letter {s1 : Str} {r : Bool} (hm : s_l02Letter s1 = some r) (w : World)  :
    Calls Try.prog 78 #[str s1] w (Ret (cx w) (.bool r)) := by
  unfold s_l02Letter at hm
  refine Calls.enter [str s1] Try.func78 rfl Try.ntmps78 rfl ?_
  refine WJ.seq ?_
  refine WJ.quiet ?_
  refine QJ.step (YldS.yld (y_assign rfl)) rfl ?_
  refine QJ.done ?_
  refine PJ.next ?_
  refine WJ.seq ?_
  refine WJ.quiet ?_
  refine QJ.step (YldS.yld (y_move rfl)) rfl ?_
  refine QJ.step (YldS.yld (y_lenStr Try.runUnderlying9 rfl)) rfl ?_
  refine QJ.step (YldS.yld (y_bin rfl rfl rfl)) rfl ?_
  refine QJ.step (YldS.yld (y_move rfl)) rfl ?_
  obtain ⟨t2, h3, hm⟩ := bindS hm
  refine QJ.cut 4 [(0, str s1), (10, .bool t2)] ?_ ?_
  · rcases Bool.eq_false_or_eq_true ((List.length s1 : Int) == 1) with hb4 | hb4
    · replace h3 := andT h3 hb4
      refine QJ.on rfl rfl (cB hb4) (YldS.yld (y_move rfl)) rfl ?_
      obtain ⟨c5, h6, h3⟩ := bindS h3
      refine QJ.on rfl rfl (cB hb4) (YldS.yld (y_idxStr Try.runUnderlying9 rfl rfl h6)) rfl ?_
      refine QJ.on rfl rfl (cB hb4) (YldS.yld (y_bin8 c5 (32 : UInt8) rfl rfl rfl)) rfl ?_
      refine QJ.step (YldS.yld (y_pick_t (cB hb4) rfl)) rfl ?_
      obtain rfl := Option.some.inj h3
      exact QJ.cut_end ⟨rfl, rfl, trivial⟩
    · obtain rfl := andF h3 hb4
      refine QJ.off rfl rfl (cB hb4) rfl rfl ?_
      refine QJ.off rfl rfl (cB hb4) rfl rfl ?_
      refine QJ.off rfl rfl (cB hb4) rfl rfl ?_
      refine QJ.step (YldS.yld (y_pick_f (cB hb4) rfl)) rfl ?_
      exact QJ.cut_end ⟨rfl, rfl, trivial⟩
  refine QJ.step (YldS.yld (y_move rfl)) rfl ?_
  obtain ⟨t7, h8, hm⟩ := bindS hm
  refine QJ.cut 4 [(15, .bool t7)] ?_ ?_
  · rcases Bool.eq_false_or_eq_true t2 with hb9 | hb9
    · replace h8 := andT h8 hb9
      refine QJ.on rfl rfl (cB hb9) (YldS.yld (y_move rfl)) rfl ?_
      obtain ⟨c10, h11, h8⟩ := bindS h8
      refine QJ.on rfl rfl (cB hb9) (YldS.yld (y_idxStr Try.runUnderlying9 rfl rfl h11)) rfl ?_
      refine QJ.on rfl rfl (cB hb9) (YldS.yld (y_bin8 c10 (127 : UInt8) rfl rfl rfl)) rfl ?_
      refine QJ.step (YldS.yld (y_pick_t (cB hb9) rfl)) rfl ?_
      obtain rfl := Option.some.inj h8
      exact QJ.cut_end ⟨rfl, trivial⟩
    · obtain rfl := andF h8 hb9
      refine QJ.off rfl rfl (cB hb9) rfl rfl ?_
      refine QJ.off rfl rfl (cB hb9) rfl rfl ?_
      refine QJ.off rfl rfl (cB hb9) rfl rfl ?_
      refine QJ.step (YldS.yld (y_pick_f (cB hb9) rfl)) rfl ?_
      exact QJ.cut_end ⟨rfl, trivial⟩
  refine QJ.step (YldS.yld (y_assign rfl)) rfl ?_
  refine QJ.done ?_
  refine PJ.next ?_
  refine WJ.ret ?_
  obtain rfl := Option.some.inj hm
  refine PJ.sel (L' := []) [] ⟨List.nodup_nil, rfl⟩ ?_
  exact PJ.retn (vs := [.bool t7]) Try.results78 ⟨rfl, trivial⟩ ⟨rfl, rfl⟩

set_option maxRecDepth 100000 in
set_option maxHeartbeats 1000000 in
theorem ok_s_l04Acts {N : Nat} {acts1 : List Act} {r : Bool} (hm : s_l04Acts N acts1 = some r) (w : World) (v2 : Value) (hr3 : RdS w (cx w).Fz v2 fAct.rp acts1) :
    Calls Try.prog 92 #[v2] w (Ret (cx w) (.bool r)) := by
  unfold s_l04Acts at hm
  refine Calls.enter [v2] Try.func92 rfl Try.ntmps92 rfl ?_
  refine WJ.seq ?_
  refine WJ.quiet ?_
  refine QJ.step (YldS.yld (y_assign rfl)) rfl ?_
  refine QJ.done ?_
  refine PJ.next ?_
  obtain ⟨kj4, hk5, hm⟩ := withK_open hm
  refine WJ.join (X := Unit) (fun (_ : Unit) => kj4  = some r) (fun (_ : Unit) => [(0, v2)]) (fun (_ : Unit) => []) ?_ ?_
  · clear hk5
    refine WJ.seq ?_
    refine WJ.quiet ?_
    refine QJ.step (YldS.yld (y_assign rfl)) rfl ?_
    refine QJ.done ?_
    refine PJ.next ?_
    refine WJ.block ?_
    refine WJ.sel (L' := (fun (x : Int) => []) 0) [] ⟨List.nodup_nil, rfl⟩ ?_
    refine WJ.sub (m' := (fun (x : Int) => [(0, v2), (3, .int .i64 x)]) 0) ⟨rfl, rfl, trivial⟩ ?_
    refine WJ.loop (X := Int) (fun N (x : Int) => s_l04Acts_l1 kj4 acts1 N x = some r) (fun (x : Int) => [(0, v2), (3, .int .i64 x)]) (fun (x : Int) => []) ?_ N 0 hm
    · rintro N i6 hI
      have hm := hI; clear hI
      cases N with
      | zero => cases hm
      | succ N =>
      unfold s_l04Acts_l1 at hm
      refine WJ.seq ?_
      refine WJ.seq ?_
      refine WJ.quiet ?_
      refine QJ.step (YldS.yld (y_move rfl)) rfl ?_
      refine QJ.step (YldS.yld (y_move rfl)) rfl ?_
      refine QJ.step (YldS.yld (y_lenS Try.runUnderlying48 hr3 rfl)) rfl ?_
      refine QJ.step (YldS.yld (y_bin rfl rfl rfl)) rfl ?_
      refine QJ.done ?_
      refine PJ.next ?_
      refine WJ.cond (t := decide (i6 < (List.length acts1 : Int))) rfl (fun hb7 => ?_) (fun hb7 => ?_)
      · replace hm := ifT hm hb7
        refine WJ.skip ?_
        refine PJ.next ?_
        obtain ⟨kj8, hk9, hm⟩ := withK_open hm
        refine WJ.join (X := Unit) (fun (_ : Unit) => kj8  = some r) (fun (_ : Unit) => [(0, v2), (3, .int .i64 i6)]) (fun (_ : Unit) => []) ?_ ?_
        · clear hk9
          refine WJ.block ?_
          refine WJ.seq ?_
          refine WJ.quiet ?_
          refine QJ.step (YldS.yld (y_move rfl)) rfl ?_
          refine QJ.step (YldS.yld (y_move rfl)) rfl ?_
          obtain ⟨e10, h11, hm⟩ := bindS hm
          obtain ⟨ad12, _, rfl, ha13, hy14⟩ := hr3.elem h11
          refine QJ.step (YldS.yld (hy14 Try.runUnderlying48 Try.sizeOf62 rfl rfl)) rfl ?_
          refine QJ.step (YldS.yld (y_assign rfl)) rfl ?_
          refine QJ.done ?_
          refine PJ.next ?_
          refine WJ.seq ?_
          refine WJ.seq ?_
          refine WJ.quiet ?_
          refine QJ.step (YldS.yld (y_move rfl)) rfl ?_
          refine QJ.step (YldS.yld (y_nil rfl)) rfl ?_
          refine QJ.step (YldS.yld (y_fld (ad := ad12) fld62_0 rfl)) rfl ?_
          refine QJ.step (YldS.yld (y_load1 (v := .int .i64 e10.kind) Try.isAgg2 (ha13.sub 0 1) St.frozenC rfl)) rfl ?_
          refine QJ.step (YldS.yld (y_bin rfl rfl rfl)) rfl ?_
          refine QJ.done ?_
          refine PJ.next ?_
          refine WJ.cond (t := (e10.kind == 0)) rfl (fun hb15 => ?_) (fun hb15 => ?_)
          · replace hm := ifT hm hb15
            refine WJ.seq ?_
            refine WJ.seq ?_
            refine WJ.quiet ?_
            refine QJ.step (YldS.yld (y_move rfl)) rfl ?_
            refine QJ.step (YldS.yld (y_nil rfl)) rfl ?_
            refine QJ.step (YldS.yld (y_fld (ad := ad12) fld62_1 rfl)) rfl ?_
            refine QJ.step (YldS.yld (y_load1 (v := str e10.letter) Try.isAgg9 (ha13.sub 1 1) St.frozenC rfl)) rfl ?_
            obtain ⟨r16, h17, hm⟩ := bindS hm
            refine QJ.step (y_call Try.call78 rfl (RetG.quiet fun w hw => ok_s_l02Letter h17 w )) rfl ?_
            refine QJ.step (YldS.yld (y_not rfl)) rfl ?_
            refine QJ.done ?_
            refine PJ.next ?_
            refine WJ.cond (t := !r16) rfl (fun hb18 => ?_) (fun hb18 => ?_)
            · replace hm := ifT hm hb18
              refine WJ.seq ?_
              refine WJ.quiet ?_
              refine QJ.step (YldS.yld (y_assign rfl)) rfl ?_
              refine QJ.done ?_
              refine PJ.next ?_
              refine WJ.ret ?_
              refine PJ.then_ret (PJ.then_ret (PJ.block_ret (PJ.then_ret (PJ.then_ret (PJ.block_ret (PJ.then_ret ?_))))))
              obtain rfl := Option.some.inj hm
              refine PJ.sel (L' := []) [] ⟨List.nodup_nil, rfl⟩ ?_
              exact PJ.retn (vs := [.bool false]) Try.results92 ⟨rfl, trivial⟩ ⟨rfl, rfl⟩
            · replace hm := ifF hm hb18
              refine WJ.skip ?_
              refine PJ.next ?_
              refine WJ.exit ?_
              refine PJ.then_exit (PJ.block_exit ?_)
              exact PJ.joined () [] hm ⟨rfl, rfl, trivial⟩ ⟨List.nodup_nil, rfl⟩
          · replace hm := ifF hm hb15
            refine WJ.skip ?_
            refine PJ.next ?_
            refine WJ.seq ?_
            refine WJ.quiet ?_
            refine QJ.step (YldS.yld (y_move rfl)) rfl ?_
            refine QJ.step (YldS.yld (y_nil rfl)) rfl ?_
            refine QJ.step (YldS.yld (y_fld (ad := ad12) fld62_0 rfl)) rfl ?_
            refine QJ.step (YldS.yld (y_load1 (v := .int .i64 e10.kind) Try.isAgg2 (ha13.sub 0 1) St.frozenC rfl)) rfl ?_
            obtain ⟨r19, h20, hm⟩ := bindS hm
            refine QJ.step (y_call Try.call71 rfl (RetG.quiet fun w hw => ok_s_l00In h20 w )) rfl ?_
            refine QJ.step (YldS.yld (y_not rfl)) rfl ?_
            refine QJ.step (YldS.yld (y_move rfl)) rfl ?_
            obtain ⟨t21, h22, hm⟩ := bindS hm
            refine QJ.cut 6 [(0, v2), (3, .int .i64 i6), (37, .bool t21)] ?_ ?_
            · rcases Bool.eq_false_or_eq_true (!r19) with hb23 | hb23
              · obtain rfl := orT h22 hb23
                refine QJ.off rfl rfl (cB hb23) rfl rfl ?_
                refine QJ.off rfl rfl (cB hb23) rfl rfl ?_
                refine QJ.off rfl rfl (cB hb23) rfl rfl ?_
                refine QJ.off rfl rfl (cB hb23) rfl rfl ?_
                refine QJ.off rfl rfl (cB hb23) rfl rfl ?_
                refine QJ.step (YldS.yld (y_pick_t (cB hb23) rfl)) rfl ?_
                exact QJ.cut_end ⟨rfl, rfl, rfl, trivial⟩
              · replace h22 := orF h22 hb23
                refine QJ.on rfl rfl (cB hb23) (YldS.yld (y_move rfl)) rfl ?_
                refine QJ.on rfl rfl (cB hb23) (YldS.yld (y_nil rfl)) rfl ?_
                refine QJ.on rfl rfl (cB hb23) (YldS.yld (y_fld (ad := ad12) fld62_1 rfl)) rfl ?_
                refine QJ.on rfl rfl (cB hb23) (YldS.yld (y_load1 (v := str e10.letter) Try.isAgg9 (ha13.sub 1 1) St.frozenC rfl)) rfl ?_
                refine QJ.on rfl rfl (cB hb23) (YldS.yld (y_binS rfl rfl rfl)) rfl ?_
                refine QJ.step (YldS.yld (y_pick_f (cB hb23) rfl)) rfl ?_
                obtain rfl := Option.some.inj h22
                exact QJ.cut_end ⟨rfl, rfl, rfl, trivial⟩
            refine QJ.done ?_
            refine PJ.next ?_
            refine WJ.cond (t := t21) rfl (fun hb24 => ?_) (fun hb24 => ?_)
            · replace hm := ifT hm hb24
              refine WJ.seq ?_
              refine WJ.quiet ?_
              refine QJ.step (YldS.yld (y_assign rfl)) rfl ?_
              refine QJ.done ?_
              refine PJ.next ?_
              refine WJ.ret ?_
              refine PJ.block_ret (PJ.then_ret (PJ.then_ret (PJ.block_ret (PJ.then_ret ?_))))
              obtain rfl := Option.some.inj hm
              refine PJ.sel (L' := []) [] ⟨List.nodup_nil, rfl⟩ ?_
              exact PJ.retn (vs := [.bool false]) Try.results92 ⟨rfl, trivial⟩ ⟨rfl, rfl⟩
            · replace hm := ifF hm hb24
              refine WJ.skip ?_
              refine PJ.block_normal ?_
              exact PJ.joined () [] hm ⟨rfl, rfl, trivial⟩ ⟨List.nodup_nil, rfl⟩
        · rintro _ hm
          subst hk9
          refine WJ.quiet ?_
          refine QJ.step (YldS.yld (y_move rfl)) rfl ?_
          refine QJ.step (YldS.yld (y_bin rfl rfl rfl)) rfl ?_
          refine QJ.step (YldS.yld (y_assign rfl)) rfl ?_
          refine QJ.done ?_
          exact PJ.round (w64 (i6 + 1)) [] hm ⟨rfl, rfl, trivial⟩ ⟨List.nodup_nil, rfl⟩
      · replace hm := ifF hm hb7
        refine WJ.exit ?_
        refine PJ.then_exit (PJ.then_exit (PJ.block_exit ?_))
        exact PJ.joined () [] hm ⟨rfl, trivial⟩ ⟨List.nodup_nil, rfl⟩
  · rintro _ hm
    subst hk5
    refine WJ.seq ?_
    refine WJ.quiet ?_
    refine QJ.step (YldS.yld (y_move rfl)) rfl ?_
    refine QJ.step (YldS.yld (y_lenS Try.runUnderlying48 hr3 rfl)) rfl ?_
    refine QJ.step (YldS.yld (y_bin rfl rfl rfl)) rfl ?_
    refine QJ.step (YldS.yld (y_assign rfl)) rfl ?_
    refine QJ.done ?_
    refine PJ.next ?_
    refine WJ.ret ?_
    obtain rfl := Option.some.inj hm
    refine PJ.sel (L' := []) [] ⟨List.nodup_nil, rfl⟩ ?_
    exact PJ.retn (vs := [.bool (decide ((List.length acts1 : Int) ≤ 200))]) Try.results92 ⟨rfl, trivial⟩ ⟨rfl, rfl⟩

set_option maxRecDepth 100000 in
set_option maxHeartbeats 1000000 in
theorem ok_s_l04Both {N : Nat} {c1 : Carriage} {acts2 : List Act} {r : Bool} (hm : s_l04Both N c1 acts2 = some r) (w : World) (v3 : Value) (hr4 : RdS w (cx w).Fz v3 fAct.rp acts2) :
    Calls Try.prog 90 #[.agg (Carriage.enc c1).toArray, v3] w (Ret (cx w) (.bool r)) := by
  unfold s_l04Both at hm
  refine Calls.enter [.agg (Carriage.enc c1).toArray, v3] Try.func90 rfl Try.ntmps90 rfl ?_
  refine WJ.seq ?_
  refine WJ.reg ?_
  refine SJ.box (cs := [.int .i64 c1.left, .int .i64 c1.right, .int .i64 c1.bell]) rfl rfl rfl fun g5 => ?_
  refine SJ.q (YldS.yld (y_assign rfl)) rfl ?_
  refine SJ.nil ?_
  refine PJ.next ?_
  refine WJ.seq ?_
  refine WJ.quiet ?_
  refine QJ.step (YldS.yld (y_loadBN (k := 0) (off := 0) (us := [.int .i64 c1.left, .int .i64 c1.right, .int .i64 c1.bell]) rfl Try.isAgg45 Try.sizeOf45 rfl rfl)) rfl ?_
  obtain ⟨r6, h7, hm⟩ := bindS hm
  refine QJ.step (y_call Try.call86 rfl (RetG.quiet fun w hw => ok_s_l04Ok h7 w )) rfl ?_
  refine QJ.step (YldS.yld (y_move rfl)) rfl ?_
  obtain ⟨t8, h9, hm⟩ := bindS hm
  refine QJ.cut 3 [(10, .bool t8)] ?_ ?_
  · rcases Bool.eq_false_or_eq_true r6 with hb10 | hb10
    · replace h9 := andT h9 hb10
      refine QJ.on rfl rfl (cB hb10) (YldS.yld (y_move rfl)) rfl ?_
      obtain ⟨r11, h12, h9⟩ := bindS h9
      refine QJ.on rfl rfl (cB hb10) (y_call Try.call92 rfl (RetG.quiet fun w hw => ok_s_l04Acts h12 w _ (hr4.st hw))) rfl ?_
      refine QJ.step (YldS.yld (y_pick_t (cB hb10) rfl)) rfl ?_
      obtain rfl := Option.some.inj h9
      exact QJ.cut_end ⟨rfl, trivial⟩
    · obtain rfl := andF h9 hb10
      refine QJ.off rfl rfl (cB hb10) rfl rfl ?_
      refine QJ.off rfl rfl (cB hb10) rfl rfl ?_
      refine QJ.step (YldS.yld (y_pick_f (cB hb10) rfl)) rfl ?_
      exact QJ.cut_end ⟨rfl, trivial⟩
  refine QJ.step (YldS.yld (y_assign rfl)) rfl ?_
  refine QJ.done ?_
  refine PJ.next ?_
  refine WJ.ret ?_
  obtain rfl := Option.some.inj hm
  refine PJ.sel (L' := []) [] ⟨List.nodup_nil, rfl⟩ ?_
  exact PJ.retn (vs := [.bool t8]) Try.results90 ⟨rfl, trivial⟩ ⟨rfl, rfl⟩

set_option maxRecDepth 100000 in
set_option maxHeartbeats 1000000 in
theorem ok_s_l04Step {kind1 : Int} {r : Int} (hm : s_l04Step kind1 = some r) (w : World)  :
    Calls Try.prog 136 #[.int .i64 kind1] w (Ret (cx w) (.int .i64 r)) := by
  unfold s_l04Step at hm
  refine Calls.enter [.int .i64 kind1] Try.func136 rfl Try.ntmps136 rfl ?_
  refine WJ.seq ?_
  refine WJ.quiet ?_
  refine QJ.step (YldS.yld (y_assign rfl)) rfl ?_
  refine QJ.done ?_
  refine PJ.next ?_
  refine WJ.seq ?_
  refine WJ.seq ?_
  refine WJ.quiet ?_
  refine QJ.step (YldS.yld (y_move rfl)) rfl ?_
  refine QJ.done ?_
  refine PJ.next ?_
  refine WJ.block ?_
  obtain ⟨kj3, hk4, hm⟩ := withK_open hm
  refine WJ.join (X := Bool) (fun (x : Bool) => kj3 x = some r) (fun (x : Bool) => [(3, .int .i64 kind1), (4, .bool x)]) (fun (x : Bool) => []) ?_ ?_
  · clear hk4
    refine WJ.seq ?_
    refine WJ.quiet ?_
    refine QJ.step (YldS.yld (y_bin rfl rfl rfl)) rfl ?_
    refine QJ.step (YldS.yld (y_assign rfl)) rfl ?_
    refine QJ.done ?_
    refine PJ.next ?_
    refine WJ.cond (t := (kind1 == 0)) rfl (fun hb5 => ?_) (fun hb5 => ?_)
    · replace hm := ifT hm hb5
      refine WJ.skip ?_
      exact PJ.joined (kind1 == 0) [] hm ⟨rfl, rfl, trivial⟩ ⟨List.nodup_nil, rfl⟩
    · replace hm := ifF hm hb5
      refine WJ.quiet ?_
      refine QJ.step (YldS.yld (y_bin rfl rfl rfl)) rfl ?_
      refine QJ.step (YldS.yld (y_assign rfl)) rfl ?_
      refine QJ.done ?_
      exact PJ.joined (kind1 == 1) [] hm ⟨rfl, rfl, trivial⟩ ⟨List.nodup_nil, rfl⟩
  · rintro x2 hm
    subst hk4
    refine WJ.cond (t := x2) rfl (fun hb6 => ?_) (fun hb6 => ?_)
    · replace hm := ifT hm hb6
      refine WJ.seq ?_
      refine WJ.quiet ?_
      refine QJ.step (YldS.yld (y_assign rfl)) rfl ?_
      refine QJ.done ?_
      refine PJ.next ?_
      refine WJ.ret ?_
      refine PJ.block_ret (PJ.then_ret ?_)
      obtain rfl := Option.some.inj hm
      refine PJ.sel (L' := []) [] ⟨List.nodup_nil, rfl⟩ ?_
      exact PJ.retn (vs := [.int .i64 2]) Try.results136 ⟨rfl, trivial⟩ ⟨rfl, rfl⟩
    · replace hm := ifF hm hb6
      refine WJ.seq ?_
      refine WJ.quiet ?_
      refine QJ.step (YldS.yld (y_bin rfl rfl rfl)) rfl ?_
      refine QJ.step (YldS.yld (y_assign rfl)) rfl ?_
      refine QJ.done ?_
      refine PJ.next ?_
      refine WJ.cond (t := (kind1 == 3)) rfl (fun hb7 => ?_) (fun hb7 => ?_)
      · replace hm := ifT hm hb7
        refine WJ.seq ?_
        refine WJ.quiet ?_
        refine QJ.step (YldS.yld (y_assign rfl)) rfl ?_
        refine QJ.done ?_
        refine PJ.next ?_
        refine WJ.ret ?_
        refine PJ.block_ret (PJ.then_ret ?_)
        obtain rfl := Option.some.inj hm
        refine PJ.sel (L' := []) [] ⟨List.nodup_nil, rfl⟩ ?_
        exact PJ.retn (vs := [.int .i64 1]) Try.results136 ⟨rfl, trivial⟩ ⟨rfl, rfl⟩
      · replace hm := ifF hm hb7
        refine WJ.skip ?_
        refine PJ.block_normal (PJ.next ?_)
        refine WJ.seq ?_
        refine WJ.quiet ?_
        refine QJ.step (YldS.yld (y_assign rfl)) rfl ?_
        refine QJ.done ?_
        refine PJ.next ?_
        refine WJ.ret ?_
        obtain rfl := Option.some.inj hm
        refine PJ.sel (L' := []) [] ⟨List.nodup_nil, rfl⟩ ?_
        exact PJ.retn (vs := [.int .i64 0]) Try.results136 ⟨rfl, trivial⟩ ⟨rfl, rfl⟩

set_option maxRecDepth 100000 in
set_option maxHeartbeats 1000000 in
theorem ok_s_l00Max {a1 : Int} {b2 : Int} {r : Int} (hm : s_l00Max a1 b2 = some r) (w : World)  :
    Calls Try.prog 137 #[.int .i64 a1, .int .i64 b2] w (Ret (cx w) (.int .i64 r)) := by
  unfold s_l00Max at hm
  refine Calls.enter [.int .i64 a1, .int .i64 b2] Try.func137 rfl Try.ntmps137 rfl ?_
  refine WJ.seq ?_
  refine WJ.quiet ?_
  refine QJ.step (YldS.yld (y_assign rfl)) rfl ?_
  refine QJ.done ?_
  refine PJ.next ?_
  refine WJ.seq ?_
  refine WJ.seq ?_
  refine WJ.quiet ?_
  refine QJ.step (YldS.yld (y_move rfl)) rfl ?_
  refine QJ.step (YldS.yld (y_move rfl)) rfl ?_
  refine QJ.step (YldS.yld (y_bin rfl rfl rfl)) rfl ?_
  refine QJ.done ?_
  refine PJ.next ?_
  refine WJ.cond (t := decide (a1 > b2)) rfl (fun hb3 => ?_) (fun hb3 => ?_)
  · replace hm := ifT hm hb3
    refine WJ.seq ?_
    refine WJ.quiet ?_
    refine QJ.step (YldS.yld (y_move rfl)) rfl ?_
    refine QJ.step (YldS.yld (y_assign rfl)) rfl ?_
    refine QJ.done ?_
    refine PJ.next ?_
    refine WJ.ret ?_
    refine PJ.then_ret ?_
    obtain rfl := Option.some.inj hm
    refine PJ.sel (L' := []) [] ⟨List.nodup_nil, rfl⟩ ?_
    exact PJ.retn (vs := [.int .i64 a1]) Try.results137 ⟨rfl, trivial⟩ ⟨rfl, rfl⟩
  · replace hm := ifF hm hb3
    refine WJ.skip ?_
    refine PJ.next ?_
    refine WJ.seq ?_
    refine WJ.quiet ?_
    refine QJ.step (YldS.yld (y_move rfl)) rfl ?_
    refine QJ.step (YldS.yld (y_assign rfl)) rfl ?_
    refine QJ.done ?_
    refine PJ.next ?_
    refine WJ.ret ?_
    obtain rfl := Option.some.inj hm
    refine PJ.sel (L' := []) [] ⟨List.nodup_nil, rfl⟩ ?_
    exact PJ.retn (vs := [.int .i64 b2]) Try.results137 ⟨rfl, trivial⟩ ⟨rfl, rfl⟩

set_option maxRecDepth 100000 in
set_option maxHeartbeats 1000000 in
theorem ok_s_l04M_act {m1 : L04M} {a4 : Act} {g2 : Nat} {v3 : Value} {r : Bool × L04M} (hm : s_l04M_act m1 a4 = some r) (w : World) (S : Nat → Prop) (ad5 : Addr) (ha6 : At w (Cx.Fz ⟨w, S⟩) ad5 (fAct.enc a4)) (hA : (star (box g2 125 [.int .i64 m1.c.left, .int .i64 m1.c.right, .int .i64 m1.c.bell, .int .i64 m1.at_, .bool m1.free, .int .i64 m1.bells, v3]) (row v3 76 fStruck m1.list)).holds w S) :
    Calls Try.prog 123 #[pt g2 0, .pointer (some ad5)] w (RetG ⟨w, S⟩ fun u L => ∃ (u1 : Value), (u = .bool r.1 ∧ L = [star (box g2 125 [.int .i64 r.2.c.left, .int .i64 r.2.c.right, .int .i64 r.2.c.bell, .int .i64 r.2.at_, .bool r.2.free, .int .i64 r.2.bells, u1]) (row u1 76 fStruck r.2.list)])) := by
  unfold s_l04M_act at hm
  refine Calls.enter1 hA [pt g2 0, .pointer (some ad5)] Try.func123 rfl Try.ntmps123 rfl ?_
  refine WJ.unstar ?_
  refine WJ.seq ?_
  refine WJ.quiet ?_
  refine QJ.step (YldS.yld (y_assign rfl)) rfl ?_
  refine QJ.done ?_
  refine PJ.next ?_
  refine WJ.seq ?_
  refine WJ.quiet ?_
  refine QJ.step (YldS.yld (y_move rfl)) rfl ?_
  refine QJ.step (YldS.yld (y_nil rfl)) rfl ?_
  refine QJ.step (YldS.yld (y_fld (ad := ad5) fld62_0 rfl)) rfl ?_
  refine QJ.step (YldS.yld (y_load1 (v := .int .i64 a4.kind) Try.isAgg2 (ha6.sub 0 1) St.frozenC rfl)) rfl ?_
  obtain ⟨r7, h8, hm⟩ := bindS hm
  refine QJ.step (y_call Try.call136 rfl (RetG.quiet fun w hw => ok_s_l04Step h8 w )) rfl ?_
  refine QJ.step (YldS.yld (y_assign rfl)) rfl ?_
  refine QJ.done ?_
  refine PJ.next ?_
  refine WJ.seq ?_
  refine WJ.seq ?_
  refine WJ.quiet_draw follows (by kernel_rfl) ?_
  refine QJ.step (YldS.yld (y_move rfl)) rfl ?_
  refine QJ.step (YldS.yld (y_bin rfl rfl rfl)) rfl ?_
  refine QJ.step (YldS.yld (y_move rfl)) rfl ?_
  obtain ⟨t9, h10, hm⟩ := bindS hm
  refine QJ.cut 13 [(0, pt g2 0), (1, .pointer (some ad5)), (5, .int .i64 r7), (26, .bool t9)] ?_ ?_
  · rcases Bool.eq_false_or_eq_true (decide (r7 > 0)) with hb11 | hb11
    · replace h10 := andT h10 hb11
      refine QJ.on rfl rfl (cB hb11) (YldS.yld (y_move rfl)) rfl ?_
      refine QJ.on rfl rfl (cB hb11) (YldS.yld (y_nil rfl)) rfl ?_
      refine QJ.on rfl rfl (cB hb11) (YldS.yld (y_fldB (o := 0) fld125_1 rfl)) rfl ?_
      refine QJ.on rfl rfl (cB hb11) (YldS.yld (y_loadB (k := 0) (off := 3) (v := .int .i64 m1.at_) rfl Try.isAgg2 rfl rfl)) rfl ?_
      refine QJ.on rfl rfl (cB hb11) (YldS.yld (y_move rfl)) rfl ?_
      refine QJ.on rfl rfl (cB hb11) (YldS.yld (y_bin rfl rfl rfl)) rfl ?_
      refine QJ.on rfl rfl (cB hb11) (YldS.yld (y_move rfl)) rfl ?_
      refine QJ.on rfl rfl (cB hb11) (YldS.yld (y_nil rfl)) rfl ?_
      refine QJ.on rfl rfl (cB hb11) (YldS.yld (y_fldB (o := 0) fld125_0 rfl)) rfl ?_
      refine QJ.on rfl rfl (cB hb11) (YldS.yld (y_fldB (o := 0) fld45_1 rfl)) rfl ?_
      refine QJ.on rfl rfl (cB hb11) (YldS.yld (y_loadB (k := 0) (off := 1) (v := .int .i64 m1.c.right) rfl Try.isAgg2 rfl rfl)) rfl ?_
      refine QJ.on rfl rfl (cB hb11) (YldS.yld (y_bin rfl rfl rfl)) rfl ?_
      refine QJ.step (YldS.yld (y_pick_t (cB hb11) rfl)) rfl ?_
      obtain rfl := Option.some.inj h10
      exact QJ.cut_end ⟨rfl, rfl, rfl, rfl, trivial⟩
    · obtain rfl := andF h10 hb11
      refine QJ.off rfl rfl (cB hb11) rfl rfl ?_
      refine QJ.off rfl rfl (cB hb11) rfl rfl ?_
      refine QJ.off rfl rfl (cB hb11) rfl rfl ?_
      refine QJ.off rfl rfl (cB hb11) rfl rfl ?_
      refine QJ.off rfl rfl (cB hb11) rfl rfl ?_
      refine QJ.off rfl rfl (cB hb11) rfl rfl ?_
      refine QJ.off rfl rfl (cB hb11) rfl rfl ?_
      refine QJ.off rfl rfl (cB hb11) rfl rfl ?_
      refine QJ.off rfl rfl (cB hb11) rfl rfl ?_
      refine QJ.off rfl rfl (cB hb11) rfl rfl ?_
      refine QJ.off rfl rfl (cB hb11) rfl rfl ?_
      refine QJ.off rfl rfl (cB hb11) rfl rfl ?_
      refine QJ.step (YldS.yld (y_pick_f (cB hb11) rfl)) rfl ?_
      exact QJ.cut_end ⟨rfl, rfl, rfl, rfl, trivial⟩
  refine QJ.step (YldS.yld (y_move rfl)) rfl ?_
  obtain ⟨t12, h13, hm⟩ := bindS hm
  refine QJ.cut 6 [(0, pt g2 0), (1, .pointer (some ad5)), (5, .int .i64 r7), (33, .bool t12)] ?_ ?_
  · rcases Bool.eq_false_or_eq_true t9 with hb14 | hb14
    · replace h13 := andT h13 hb14
      refine QJ.on rfl rfl (cB hb14) (YldS.yld (y_move rfl)) rfl ?_
      refine QJ.on rfl rfl (cB hb14) (YldS.yld (y_nil rfl)) rfl ?_
      refine QJ.on rfl rfl (cB hb14) (YldS.yld (y_fldB (o := 0) fld125_2 rfl)) rfl ?_
      refine QJ.on rfl rfl (cB hb14) (YldS.yld (y_loadB (k := 0) (off := 4) (v := .bool m1.free) rfl Try.isAgg4 rfl rfl)) rfl ?_
      refine QJ.on rfl rfl (cB hb14) (YldS.yld (y_not rfl)) rfl ?_
      refine QJ.step (YldS.yld (y_pick_t (cB hb14) rfl)) rfl ?_
      obtain rfl := Option.some.inj h13
      exact QJ.cut_end ⟨rfl, rfl, rfl, rfl, trivial⟩
    · obtain rfl := andF h13 hb14
      refine QJ.off rfl rfl (cB hb14) rfl rfl ?_
      refine QJ.off rfl rfl (cB hb14) rfl rfl ?_
      refine QJ.off rfl rfl (cB hb14) rfl rfl ?_
      refine QJ.off rfl rfl (cB hb14) rfl rfl ?_
      refine QJ.off rfl rfl (cB hb14) rfl rfl ?_
      refine QJ.step (YldS.yld (y_pick_f (cB hb14) rfl)) rfl ?_
      exact QJ.cut_end ⟨rfl, rfl, rfl, rfl, trivial⟩
  refine QJ.step (YldS.yld (y_move rfl)) rfl ?_
  obtain ⟨t15, h16, hm⟩ := bindS hm
  refine QJ.cut 8 [(0, pt g2 0), (1, .pointer (some ad5)), (5, .int .i64 r7), (42, .bool t15)] ?_ ?_
  · rcases Bool.eq_false_or_eq_true t12 with hb17 | hb17
    · obtain rfl := orT h16 hb17
      refine QJ.off rfl rfl (cB hb17) rfl rfl ?_
      refine QJ.off rfl rfl (cB hb17) rfl rfl ?_
      refine QJ.off rfl rfl (cB hb17) rfl rfl ?_
      refine QJ.off rfl rfl (cB hb17) rfl rfl ?_
      refine QJ.off rfl rfl (cB hb17) rfl rfl ?_
      refine QJ.off rfl rfl (cB hb17) rfl rfl ?_
      refine QJ.off rfl rfl (cB hb17) rfl rfl ?_
      refine QJ.step (YldS.yld (y_pick_t (cB hb17) rfl)) rfl ?_
      exact QJ.cut_end ⟨rfl, rfl, rfl, rfl, trivial⟩
    · replace h16 := orF h16 hb17
      refine QJ.on rfl rfl (cB hb17) (YldS.yld (y_move rfl)) rfl ?_
      refine QJ.on rfl rfl (cB hb17) (YldS.yld (y_nil rfl)) rfl ?_
      refine QJ.on rfl rfl (cB hb17) (YldS.yld (y_fldB (o := 0) fld125_1 rfl)) rfl ?_
      refine QJ.on rfl rfl (cB hb17) (YldS.yld (y_loadB (k := 0) (off := 3) (v := .int .i64 m1.at_) rfl Try.isAgg2 rfl rfl)) rfl ?_
      refine QJ.on rfl rfl (cB hb17) (YldS.yld (y_move rfl)) rfl ?_
      refine QJ.on rfl rfl (cB hb17) (YldS.yld (y_bin rfl rfl rfl)) rfl ?_
      refine QJ.on rfl rfl (cB hb17) (YldS.yld (y_bin rfl rfl rfl)) rfl ?_
      refine QJ.step (YldS.yld (y_pick_f (cB hb17) rfl)) rfl ?_
      obtain rfl := Option.some.inj h16
      exact QJ.cut_end ⟨rfl, rfl, rfl, rfl, trivial⟩
  refine QJ.done ?_
  refine PJ.next ?_
  refine WJ.cond (t := t15) rfl (fun hb18 => ?_) (fun hb18 => ?_)
  · replace hm := ifT hm hb18
    refine WJ.seq ?_
    refine WJ.quiet ?_
    refine QJ.step (YldS.yld (y_assign rfl)) rfl ?_
    refine QJ.done ?_
    refine PJ.next ?_
    refine WJ.ret ?_
    refine PJ.then_ret ?_
    obtain rfl := Option.some.inj hm
    refine PJ.sel (L' := [box g2 125 [.int .i64 m1.c.left, .int .i64 m1.c.right, .int .i64 m1.c.bell, .int .i64 m1.at_, .bool m1.free, .int .i64 m1.bells, v3], row v3 76 fStruck m1.list]) [0, 1] ⟨by decide, rfl⟩ ?_
    refine PJ.star ?_
    exact PJ.retn (vs := [.bool false]) Try.results123 ⟨rfl, trivial⟩ ⟨_, rfl, rfl⟩
  · replace hm := ifF hm hb18
    refine WJ.skip ?_
    refine PJ.next ?_
    obtain ⟨kj27, hk28, hm⟩ := withK_open hm
    refine WJ.join (X := Int × Int × Int × Int × Bool × Int × (List Struck) × Value) (fun (x : Int × Int × Int × Int × Bool × Int × (List Struck) × Value) => kj27 x.1 x.2.1 x.2.2.1 x.2.2.2.1 x.2.2.2.2.1 x.2.2.2.2.2.1 x.2.2.2.2.2.2.1 = some r) (fun (x : Int × Int × Int × Int × Bool × Int × (List Struck) × Value) => [(0, pt g2 0), (5, .int .i64 r7)]) (fun (x : Int × Int × Int × Int × Bool × Int × (List Struck) × Value) => [box g2 125 [.int .i64 x.1, .int .i64 x.2.1, .int .i64 x.2.2.1, .int .i64 x.2.2.2.1, .bool x.2.2.2.2.1, .int .i64 x.2.2.2.2.2.1, x.2.2.2.2.2.2.2], row x.2.2.2.2.2.2.2 76 fStruck x.2.2.2.2.2.2.1]) ?_ ?_
    · clear hk28
      refine WJ.seq ?_
      refine WJ.quiet ?_
      refine QJ.step (YldS.yld (y_move rfl)) rfl ?_
      refine QJ.step (YldS.yld (y_nil rfl)) rfl ?_
      refine QJ.step (YldS.yld (y_fld (ad := ad5) fld62_0 rfl)) rfl ?_
      refine QJ.step (YldS.yld (y_load1 (v := .int .i64 a4.kind) Try.isAgg2 (ha6.sub 0 1) St.frozenC rfl)) rfl ?_
      refine QJ.done ?_
      refine PJ.next ?_
      refine WJ.block ?_
      refine WJ.seq ?_
      refine WJ.quiet ?_
      refine QJ.step (YldS.yld (y_bin rfl rfl rfl)) rfl ?_
      refine QJ.step (YldS.yld (y_assign rfl)) rfl ?_
      refine QJ.done ?_
      refine PJ.next ?_
      refine WJ.cond (t := (a4.kind == 0)) rfl (fun hb29 => ?_) (fun hb29 => ?_)
      · replace hm := ifT hm hb29
        obtain ⟨l31, h32, hm⟩ := bindS hm
        refine WJ.draws (N := 19) (listed0 := #[false, false, false, false, false, false, false, false, false, false, false, false, false, false, false, false, false, false, false]) [] follows rfl rfl ?_
        refine RJ.first 0 (listed' := #[true, false, false, false, false, false, false, false, false, false, false, false, false, false, false, false, false, false, false]) [] rfl (by kernel_rfl) rfl ⟨List.nodup_nil, rfl⟩ (y_move rfl) rfl ?_
        refine RJ.first 1 (listed' := #[true, true, false, false, false, false, false, false, false, false, false, false, false, false, false, false, false, false, false]) [] rfl (by kernel_rfl) rfl ⟨List.nodup_nil, rfl⟩ (y_move rfl) rfl ?_
        refine RJ.first 2 (listed' := #[true, true, true, false, false, false, false, false, false, false, false, false, false, false, false, false, false, false, false]) [] rfl (by kernel_rfl) rfl ⟨List.nodup_nil, rfl⟩ (y_nil rfl) rfl ?_
        refine RJ.first 3 (listed' := #[true, true, true, true, false, false, false, false, false, false, false, false, false, false, false, false, false, false, false]) [] rfl (by kernel_rfl) rfl ⟨List.nodup_nil, rfl⟩ (y_fldB (o := 0) fld125_4 rfl) rfl ?_
        refine RJ.first 5 (listed' := #[true, true, true, true, false, true, false, false, false, false, false, false, false, false, false, false, false, false, false]) [] rfl (by kernel_rfl) rfl ⟨List.nodup_nil, rfl⟩ (y_move rfl) rfl ?_
        refine RJ.first 6 (listed' := #[true, true, true, true, false, true, true, false, false, false, false, false, false, false, false, false, false, false, false]) [] rfl (by kernel_rfl) rfl ⟨List.nodup_nil, rfl⟩ (y_nil rfl) rfl ?_
        refine RJ.first 7 (listed' := #[true, true, true, true, false, true, true, true, false, false, false, false, false, false, false, false, false, false, false]) [] rfl (by kernel_rfl) rfl ⟨List.nodup_nil, rfl⟩ (y_fldB (o := 0) fld125_1 rfl) rfl ?_
        refine RJ.first 9 (listed' := #[true, true, true, true, false, true, true, true, false, true, false, false, false, false, false, false, false, false, false]) [] rfl (by kernel_rfl) rfl ⟨List.nodup_nil, rfl⟩ (y_move rfl) rfl ?_
        refine RJ.first 10 (listed' := #[true, true, true, true, false, true, true, true, false, true, true, false, false, false, false, false, false, false, false]) [] rfl (by kernel_rfl) rfl ⟨List.nodup_nil, rfl⟩ (y_nil rfl) rfl ?_
        refine RJ.first 11 (listed' := #[true, true, true, true, false, true, true, true, false, true, true, true, false, false, false, false, false, false, false]) [] rfl (by kernel_rfl) rfl ⟨List.nodup_nil, rfl⟩ (y_fld (ad := ad5) fld62_1 rfl) rfl ?_
        refine RJ.first 12 (listed' := #[true, true, true, true, false, true, true, true, false, true, true, true, true, false, false, false, false, false, false]) [] rfl (by kernel_rfl) rfl ⟨List.nodup_nil, rfl⟩ (y_load1 (v := str a4.letter) Try.isAgg9 (ha6.sub 1 1) St.frozenC rfl) rfl ?_
        refine RJ.hold (X := Value) 4 #[true, true, true, true, true, true, true, true, true, true, true, true, true, true, true, false, false, false, false] (fun (x : Value) => [(0, pt g2 0), (5, .int .i64 r7), (49, pt g2 0), (53, v3), (63, x)]) (fun (x : Value) => [row x 76 fStruck [(Struck.mk m1.at_ a4.letter)], box g2 125 [.int .i64 m1.c.left, .int .i64 m1.c.right, .int .i64 m1.c.bell, .int .i64 m1.at_, .bool m1.free, .int .i64 m1.bells, v3], row v3 76 fStruck m1.list]) ?_ ?_
        · rintro v30
          refine RJ.step1 15 [] (by kernel_rfl) ⟨List.nodup_nil, rfl⟩ ?_
          refine RO.of (listed' := #[true, true, true, true, true, true, true, true, true, true, true, true, true, true, true, true, false, false, false]) rfl rfl ?_
          refine SJ.append (k := 2) (R := fStruck) h32 rfl Try.underlying53 el76 rfl rfl rfl (fun w hw => (hw.row_rd (k := 0) rfl)) rfl fun v33 => ?_
          refine SJ.nil ?_
          refine PJ.draw ?_
          refine RJ.first 16 (listed' := #[true, true, true, true, true, true, true, true, true, true, true, true, true, true, true, true, true, false, false]) [] rfl (by kernel_rfl) rfl ⟨List.nodup_nil, rfl⟩ (y_nil rfl) rfl ?_
          refine RJ.first 17 (listed' := #[true, true, true, true, true, true, true, true, true, true, true, true, true, true, true, true, true, true, false]) [] rfl (by kernel_rfl) rfl ⟨List.nodup_nil, rfl⟩ (y_fldB (o := 0) fld125_4 rfl) rfl ?_
          refine RJ.step1 18 [] (by kernel_rfl) ⟨List.nodup_nil, rfl⟩ ?_
          refine RO.of (listed' := #[true, true, true, true, true, true, true, true, true, true, true, true, true, true, true, true, true, true, true]) rfl rfl ?_
          refine SJ.rowCells (k := 2) rfl fun hc34 => ?_
          refine SJ.storeL (k := 1) (off := 6) (us := [v33]) rfl rfl rfl hc34.1 Try.sizeOf53 rfl (by simp [hc34.2]) ?_
          refine SJ.nil ?_
          refine PJ.draw ?_
          refine RJ.fin [] (by kernel_rfl) ⟨List.nodup_nil, rfl⟩ ?_
          refine PJ.block_normal ?_
          exact PJ.joined (m1.c.left, m1.c.right, m1.c.bell, m1.at_, m1.free, m1.bells, l31, v33) [1, 2] hm ⟨rfl, rfl, trivial⟩ ⟨by decide, rfl⟩
        · intro hD35
          refine RJ.step2 4 8 [] (by kernel_rfl) ⟨List.nodup_nil, rfl⟩ ?_ ?_
          · refine RO.of (listed' := #[true, true, true, true, true, true, true, true, false, true, true, true, true, false, false, false, false, false, false]) rfl rfl ?_
            refine SJ.q (YldS.yld (y_loadB (k := 0) (off := 6) (v := v3) rfl Try.isAgg53 rfl rfl)) rfl ?_
            refine SJ.nil ?_
            refine PJ.draw ?_
            refine RJ.step1 8 [] (by kernel_rfl) ⟨List.nodup_nil, rfl⟩ ?_
            refine RO.of (listed' := #[true, true, true, true, true, true, true, true, true, true, true, true, true, false, false, false, false, false, false]) rfl rfl ?_
            refine SJ.q (YldS.yld (y_loadB (k := 0) (off := 3) (v := .int .i64 m1.at_) rfl Try.isAgg2 rfl rfl)) rfl ?_
            refine SJ.nil ?_
            refine PJ.draw ?_
            refine RJ.first 13 (listed' := #[true, true, true, true, true, true, true, true, true, true, true, true, true, true, false, false, false, false, false]) [] rfl (by kernel_rfl) rfl ⟨List.nodup_nil, rfl⟩ (y_build (parts := [(0, .tmp 57), (1, .tmp 61)]) (places := [(0, 1), (1, 1)]) (r := [.int .i64 ((Struck.mk m1.at_ a4.letter).place), str ((Struck.mk m1.at_ a4.letter).letter)]) pl76 Try.zeroValue76 rfl rfl rfl rfl) rfl ?_
            refine RJ.step1 14 [] (by kernel_rfl) ⟨List.nodup_nil, rfl⟩ ?_
            refine RO.of (listed' := #[true, true, true, true, true, true, true, true, true, true, true, true, true, true, true, false, false, false, false]) rfl rfl ?_
            refine SJ.buildSlice (R := fStruck) (os := [.tmp 62]) [(Struck.mk m1.at_ a4.letter)] Try.runUnderlying53 Try.sizeOf76 Try.zeroValue76 rfl rfl rfl rfl rfl rfl fun v30 => ?_
            refine SJ.nil ?_
            refine PJ.draw ?_
            exact RJ.weak (hD35 v30) [0, 1, 2] ⟨rfl, rfl, rfl, rfl, rfl, trivial⟩ ⟨by decide, rfl⟩
          · refine RO.of (listed' := #[true, true, true, true, false, true, true, true, true, true, true, true, true, false, false, false, false, false, false]) rfl rfl ?_
            refine SJ.q (YldS.yld (y_loadB (k := 0) (off := 3) (v := .int .i64 m1.at_) rfl Try.isAgg2 rfl rfl)) rfl ?_
            refine SJ.nil ?_
            refine PJ.draw ?_
            refine RJ.first 13 (listed' := #[true, true, true, true, false, true, true, true, true, true, true, true, true, true, false, false, false, false, false]) [] rfl (by kernel_rfl) rfl ⟨List.nodup_nil, rfl⟩ (y_build (parts := [(0, .tmp 57), (1, .tmp 61)]) (places := [(0, 1), (1, 1)]) (r := [.int .i64 ((Struck.mk m1.at_ a4.letter).place), str ((Struck.mk m1.at_ a4.letter).letter)]) pl76 Try.zeroValue76 rfl rfl rfl rfl) rfl ?_
            refine RJ.step2 4 14 [] (by kernel_rfl) ⟨List.nodup_nil, rfl⟩ ?_ ?_
            · refine RO.of (listed' := #[true, true, true, true, true, true, true, true, true, true, true, true, true, true, false, false, false, false, false]) rfl rfl ?_
              refine SJ.q (YldS.yld (y_loadB (k := 0) (off := 6) (v := v3) rfl Try.isAgg53 rfl rfl)) rfl ?_
              refine SJ.nil ?_
              refine PJ.draw ?_
              refine RJ.step1 14 [] (by kernel_rfl) ⟨List.nodup_nil, rfl⟩ ?_
              refine RO.of (listed' := #[true, true, true, true, true, true, true, true, true, true, true, true, true, true, true, false, false, false, false]) rfl rfl ?_
              refine SJ.buildSlice (R := fStruck) (os := [.tmp 62]) [(Struck.mk m1.at_ a4.letter)] Try.runUnderlying53 Try.sizeOf76 Try.zeroValue76 rfl rfl rfl rfl rfl rfl fun v30 => ?_
              refine SJ.nil ?_
              refine PJ.draw ?_
              exact RJ.weak (hD35 v30) [0, 1, 2] ⟨rfl, rfl, rfl, rfl, rfl, trivial⟩ ⟨by decide, rfl⟩
            · refine RO.of (listed' := #[true, true, true, true, false, true, true, true, true, true, true, true, true, true, true, false, false, false, false]) rfl rfl ?_
              refine SJ.buildSlice (R := fStruck) (os := [.tmp 62]) [(Struck.mk m1.at_ a4.letter)] Try.runUnderlying53 Try.sizeOf76 Try.zeroValue76 rfl rfl rfl rfl rfl rfl fun v30 => ?_
              refine SJ.nil ?_
              refine PJ.draw ?_
              refine RJ.step1 4 [] (by kernel_rfl) ⟨List.nodup_nil, rfl⟩ ?_
              refine RO.of (listed' := #[true, true, true, true, true, true, true, true, true, true, true, true, true, true, true, false, false, false, false]) rfl rfl ?_
              refine SJ.q (YldS.yld (y_loadB (k := 1) (off := 6) (v := v3) rfl Try.isAgg53 rfl rfl)) rfl ?_
              refine SJ.nil ?_
              refine PJ.draw ?_
              exact RJ.weak (hD35 v30) [0, 1, 2] ⟨rfl, rfl, rfl, rfl, rfl, trivial⟩ ⟨by decide, rfl⟩
      · replace hm := ifF hm hb29
        refine WJ.seq ?_
        refine WJ.quiet ?_
        refine QJ.step (YldS.yld (y_bin rfl rfl rfl)) rfl ?_
        refine QJ.step (YldS.yld (y_assign rfl)) rfl ?_
        refine QJ.done ?_
        refine PJ.next ?_
        refine WJ.cond (t := (a4.kind == 2)) rfl (fun hb36 => ?_) (fun hb36 => ?_)
        · replace hm := ifT hm hb36
          refine WJ.reg ?_
          refine SJ.q (YldS.yld (y_move rfl)) rfl ?_
          refine SJ.q (YldS.yld (y_move rfl)) rfl ?_
          refine SJ.q (YldS.yld (y_nil rfl)) rfl ?_
          refine SJ.q (YldS.yld (y_fldB (o := 0) fld125_1 rfl)) rfl ?_
          refine SJ.q (YldS.yld (y_loadB (k := 0) (off := 3) (v := .int .i64 m1.at_) rfl Try.isAgg2 rfl rfl)) rfl ?_
          refine SJ.q (YldS.yld (y_bin rfl rfl rfl)) rfl ?_
          obtain ⟨r37, h38, hm⟩ := bindS hm
          refine SJ.q (y_call Try.call137 rfl (RetG.quiet fun w hw => ok_s_l00Max h38 w )) rfl ?_
          refine SJ.q (YldS.yld (y_nil rfl)) rfl ?_
          refine SJ.q (YldS.yld (y_fldB (o := 0) fld125_1 rfl)) rfl ?_
          refine SJ.storeL (k := 0) (off := 3) (us := [.int .i64 r37]) rfl rfl rfl rfl Try.sizeOf2 rfl rfl ?_
          refine SJ.nil ?_
          refine PJ.block_normal ?_
          exact PJ.joined (m1.c.left, m1.c.right, m1.c.bell, r37, m1.free, m1.bells, m1.list, v3) [0, 1] hm ⟨rfl, rfl, trivial⟩ ⟨by decide, rfl⟩
        · replace hm := ifF hm hb36
          refine WJ.seq ?_
          refine WJ.quiet ?_
          refine QJ.step (YldS.yld (y_bin rfl rfl rfl)) rfl ?_
          refine QJ.step (YldS.yld (y_assign rfl)) rfl ?_
          refine QJ.done ?_
          refine PJ.next ?_
          refine WJ.cond (t := (a4.kind == 4)) rfl (fun hb39 => ?_) (fun hb39 => ?_)
          · replace hm := ifT hm hb39
            refine WJ.reg ?_
            refine SJ.q (YldS.yld (y_move rfl)) rfl ?_
            refine SJ.q (YldS.yld (y_nil rfl)) rfl ?_
            refine SJ.q (YldS.yld (y_fldB (o := 0) fld125_2 rfl)) rfl ?_
            refine SJ.storeL (k := 0) (off := 4) (us := [.bool true]) rfl rfl rfl rfl Try.sizeOf4 rfl rfl ?_
            refine SJ.nil ?_
            refine PJ.block_normal ?_
            exact PJ.joined (m1.c.left, m1.c.right, m1.c.bell, m1.at_, true, m1.bells, m1.list, v3) [0, 1] hm ⟨rfl, rfl, trivial⟩ ⟨by decide, rfl⟩
          · replace hm := ifF hm hb39
            refine WJ.seq ?_
            refine WJ.quiet ?_
            refine QJ.step (YldS.yld (y_bin rfl rfl rfl)) rfl ?_
            refine QJ.step (YldS.yld (y_assign rfl)) rfl ?_
            refine QJ.done ?_
            refine PJ.next ?_
            refine WJ.cond (t := (a4.kind == 5)) rfl (fun hb40 => ?_) (fun hb40 => ?_)
            · replace hm := ifT hm hb40
              refine WJ.seq ?_
              refine WJ.reg ?_
              refine SJ.q (YldS.yld (y_move rfl)) rfl ?_
              refine SJ.q (YldS.yld (y_move rfl)) rfl ?_
              refine SJ.q (YldS.yld (y_nil rfl)) rfl ?_
              refine SJ.q (YldS.yld (y_fldB (o := 0) fld125_0 rfl)) rfl ?_
              refine SJ.q (YldS.yld (y_fldB (o := 0) fld45_0 rfl)) rfl ?_
              refine SJ.q (YldS.yld (y_loadB (k := 0) (off := 0) (v := .int .i64 m1.c.left) rfl Try.isAgg2 rfl rfl)) rfl ?_
              refine SJ.q (YldS.yld (y_nil rfl)) rfl ?_
              refine SJ.q (YldS.yld (y_fldB (o := 0) fld125_1 rfl)) rfl ?_
              refine SJ.storeL (k := 0) (off := 3) (us := [.int .i64 m1.c.left]) rfl rfl rfl rfl Try.sizeOf2 rfl rfl ?_
              refine SJ.nil ?_
              refine PJ.next ?_
              refine WJ.reg ?_
              refine SJ.q (YldS.yld (y_move rfl)) rfl ?_
              refine SJ.q (YldS.yld (y_nil rfl)) rfl ?_
              refine SJ.q (YldS.yld (y_fldB (o := 0) fld125_2 rfl)) rfl ?_
              refine SJ.storeL (k := 0) (off := 4) (us := [.bool false]) rfl rfl rfl rfl Try.sizeOf4 rfl rfl ?_
              refine SJ.nil ?_
              refine PJ.block_normal ?_
              exact PJ.joined (m1.c.left, m1.c.right, m1.c.bell, m1.c.left, false, m1.bells, m1.list, v3) [0, 1] hm ⟨rfl, rfl, trivial⟩ ⟨by decide, rfl⟩
            · replace hm := ifF hm hb40
              refine WJ.skip ?_
              refine PJ.block_normal ?_
              exact PJ.joined (m1.c.left, m1.c.right, m1.c.bell, m1.at_, m1.free, m1.bells, m1.list, v3) [0, 1] hm ⟨rfl, rfl, trivial⟩ ⟨by decide, rfl⟩
    · rintro ⟨x19, x20, x21, x22, x23, x24, l25, v26⟩ hm
      subst hk28
      obtain ⟨kj47, hk48, hm⟩ := withK_open hm
      refine WJ.join (X := Int × Int × Int × Int × Bool × Int) (fun (x : Int × Int × Int × Int × Bool × Int) => kj47 x.1 x.2.1 x.2.2.1 x.2.2.2.1 x.2.2.2.2.1 x.2.2.2.2.2 = some r) (fun (x : Int × Int × Int × Int × Bool × Int) => []) (fun (x : Int × Int × Int × Int × Bool × Int) => [box g2 125 [.int .i64 x.1, .int .i64 x.2.1, .int .i64 x.2.2.1, .int .i64 x.2.2.2.1, .bool x.2.2.2.2.1, .int .i64 x.2.2.2.2.2, v26], row v26 76 fStruck l25]) ?_ ?_
      · clear hk48
        refine WJ.seq ?_
        refine WJ.quiet ?_
        refine QJ.step (YldS.yld (y_move rfl)) rfl ?_
        refine QJ.step (YldS.yld (y_bin rfl rfl rfl)) rfl ?_
        refine QJ.done ?_
        refine PJ.next ?_
        refine WJ.cond (t := decide (r7 > 0)) rfl (fun hb49 => ?_) (fun hb49 => ?_)
        · replace hm := ifT hm hb49
          obtain ⟨kj56, hk57, hm⟩ := withK_open hm
          refine WJ.join (X := Int × Int × Int × Int × Bool × Int) (fun (x : Int × Int × Int × Int × Bool × Int) => kj56 x.1 x.2.1 x.2.2.1 x.2.2.2.1 x.2.2.2.2.1 x.2.2.2.2.2 = some r) (fun (x : Int × Int × Int × Int × Bool × Int) => [(0, pt g2 0), (5, .int .i64 r7)]) (fun (x : Int × Int × Int × Int × Bool × Int) => [box g2 125 [.int .i64 x.1, .int .i64 x.2.1, .int .i64 x.2.2.1, .int .i64 x.2.2.2.1, .bool x.2.2.2.2.1, .int .i64 x.2.2.2.2.2, v26], row v26 76 fStruck l25]) ?_ ?_
          · clear hk57
            refine WJ.seq ?_
            refine WJ.quiet_draw follows (by kernel_rfl) ?_
            refine QJ.step (YldS.yld (y_move rfl)) rfl ?_
            refine QJ.step (YldS.yld (y_nil rfl)) rfl ?_
            refine QJ.step (YldS.yld (y_fldB (o := 0) fld125_1 rfl)) rfl ?_
            refine QJ.step (YldS.yld (y_loadB (k := 0) (off := 3) (v := .int .i64 x22) rfl Try.isAgg2 rfl rfl)) rfl ?_
            refine QJ.step (YldS.yld (y_move rfl)) rfl ?_
            refine QJ.step (YldS.yld (y_nil rfl)) rfl ?_
            refine QJ.step (YldS.yld (y_fldB (o := 0) fld125_0 rfl)) rfl ?_
            refine QJ.step (YldS.yld (y_fldB (o := 0) fld45_2 rfl)) rfl ?_
            refine QJ.step (YldS.yld (y_loadB (k := 0) (off := 2) (v := .int .i64 x21) rfl Try.isAgg2 rfl rfl)) rfl ?_
            refine QJ.step (YldS.yld (y_bin rfl rfl rfl)) rfl ?_
            refine QJ.step (YldS.yld (y_move rfl)) rfl ?_
            obtain ⟨t58, h59, hm⟩ := bindS hm
            refine QJ.cut 13 [(0, pt g2 0), (5, .int .i64 r7), (121, .bool t58)] ?_ ?_
            · rcases Bool.eq_false_or_eq_true (decide (x22 < x21)) with hb60 | hb60
              · replace h59 := andT h59 hb60
                refine QJ.on rfl rfl (cB hb60) (YldS.yld (y_move rfl)) rfl ?_
                refine QJ.on rfl rfl (cB hb60) (YldS.yld (y_nil rfl)) rfl ?_
                refine QJ.on rfl rfl (cB hb60) (YldS.yld (y_fldB (o := 0) fld125_0 rfl)) rfl ?_
                refine QJ.on rfl rfl (cB hb60) (YldS.yld (y_fldB (o := 0) fld45_2 rfl)) rfl ?_
                refine QJ.on rfl rfl (cB hb60) (YldS.yld (y_loadB (k := 0) (off := 2) (v := .int .i64 x21) rfl Try.isAgg2 rfl rfl)) rfl ?_
                refine QJ.on rfl rfl (cB hb60) (YldS.yld (y_move rfl)) rfl ?_
                refine QJ.on rfl rfl (cB hb60) (YldS.yld (y_nil rfl)) rfl ?_
                refine QJ.on rfl rfl (cB hb60) (YldS.yld (y_fldB (o := 0) fld125_1 rfl)) rfl ?_
                refine QJ.on rfl rfl (cB hb60) (YldS.yld (y_loadB (k := 0) (off := 3) (v := .int .i64 x22) rfl Try.isAgg2 rfl rfl)) rfl ?_
                refine QJ.on rfl rfl (cB hb60) (YldS.yld (y_move rfl)) rfl ?_
                refine QJ.on rfl rfl (cB hb60) (YldS.yld (y_bin rfl rfl rfl)) rfl ?_
                refine QJ.on rfl rfl (cB hb60) (YldS.yld (y_bin rfl rfl rfl)) rfl ?_
                refine QJ.step (YldS.yld (y_pick_t (cB hb60) rfl)) rfl ?_
                obtain rfl := Option.some.inj h59
                exact QJ.cut_end ⟨rfl, rfl, rfl, trivial⟩
              · obtain rfl := andF h59 hb60
                refine QJ.off rfl rfl (cB hb60) rfl rfl ?_
                refine QJ.off rfl rfl (cB hb60) rfl rfl ?_
                refine QJ.off rfl rfl (cB hb60) rfl rfl ?_
                refine QJ.off rfl rfl (cB hb60) rfl rfl ?_
                refine QJ.off rfl rfl (cB hb60) rfl rfl ?_
                refine QJ.off rfl rfl (cB hb60) rfl rfl ?_
                refine QJ.off rfl rfl (cB hb60) rfl rfl ?_
                refine QJ.off rfl rfl (cB hb60) rfl rfl ?_
                refine QJ.off rfl rfl (cB hb60) rfl rfl ?_
                refine QJ.off rfl rfl (cB hb60) rfl rfl ?_
                refine QJ.off rfl rfl (cB hb60) rfl rfl ?_
                refine QJ.off rfl rfl (cB hb60) rfl rfl ?_
                refine QJ.step (YldS.yld (y_pick_f (cB hb60) rfl)) rfl ?_
                exact QJ.cut_end ⟨rfl, rfl, rfl, trivial⟩
            refine QJ.done ?_
            refine PJ.next ?_
            refine WJ.cond (t := t58) rfl (fun hb61 => ?_) (fun hb61 => ?_)
            · replace hm := ifT hm hb61
              refine WJ.reg ?_
              refine SJ.q (YldS.yld (y_move rfl)) rfl ?_
              refine SJ.q (YldS.yld (y_nil rfl)) rfl ?_
              refine SJ.q (YldS.yld (y_fldB (o := 0) fld125_3 rfl)) rfl ?_
              refine SJ.q (YldS.yld (y_loadB (k := 0) (off := 5) (v := .int .i64 x24) rfl Try.isAgg2 rfl rfl)) rfl ?_
              refine SJ.q (YldS.yld (y_bin rfl rfl rfl)) rfl ?_
              refine SJ.q (YldS.yld (y_nil rfl)) rfl ?_
              refine SJ.q (YldS.yld (y_fldB (o := 0) fld125_3 rfl)) rfl ?_
              refine SJ.storeL (k := 0) (off := 5) (us := [.int .i64 (w64 (x24 + 1))]) rfl rfl rfl rfl Try.sizeOf2 rfl rfl ?_
              refine SJ.nil ?_
              exact PJ.joined (x19, x20, x21, x22, x23, w64 (x24 + 1)) [0, 1] hm ⟨rfl, rfl, trivial⟩ ⟨by decide, rfl⟩
            · replace hm := ifF hm hb61
              refine WJ.skip ?_
              exact PJ.joined (x19, x20, x21, x22, x23, x24) [0, 1] hm ⟨rfl, rfl, trivial⟩ ⟨by decide, rfl⟩
          · rintro ⟨x50, x51, x52, x53, x54, x55⟩ hm
            subst hk57
            refine WJ.reg ?_
            refine SJ.q (YldS.yld (y_move rfl)) rfl ?_
            refine SJ.q (YldS.yld (y_nil rfl)) rfl ?_
            refine SJ.q (YldS.yld (y_fldB (o := 0) fld125_1 rfl)) rfl ?_
            refine SJ.q (YldS.yld (y_loadB (k := 0) (off := 3) (v := .int .i64 x53) rfl Try.isAgg2 rfl rfl)) rfl ?_
            refine SJ.q (YldS.yld (y_move rfl)) rfl ?_
            refine SJ.q (YldS.yld (y_bin rfl rfl rfl)) rfl ?_
            refine SJ.q (YldS.yld (y_nil rfl)) rfl ?_
            refine SJ.q (YldS.yld (y_fldB (o := 0) fld125_1 rfl)) rfl ?_
            refine SJ.storeL (k := 0) (off := 3) (us := [.int .i64 (w64 (x53 + r7))]) rfl rfl rfl rfl Try.sizeOf2 rfl rfl ?_
            refine SJ.nil ?_
            exact PJ.joined (x50, x51, x52, w64 (x53 + r7), x54, x55) [0, 1] hm trivial ⟨by decide, rfl⟩
        · replace hm := ifF hm hb49
          refine WJ.skip ?_
          exact PJ.joined (x19, x20, x21, x22, x23, x24) [0, 1] hm trivial ⟨by decide, rfl⟩
      · rintro ⟨x41, x42, x43, x44, x45, x46⟩ hm
        subst hk48
        refine WJ.seq ?_
        refine WJ.quiet ?_
        refine QJ.step (YldS.yld (y_assign rfl)) rfl ?_
        refine QJ.done ?_
        refine PJ.next ?_
        refine WJ.ret ?_
        obtain rfl := Option.some.inj hm
        refine PJ.sel (L' := [box g2 125 [.int .i64 x41, .int .i64 x42, .int .i64 x43, .int .i64 x44, .bool x45, .int .i64 x46, v26], row v26 76 fStruck l25]) [0, 1] ⟨by decide, rfl⟩ ?_
        refine PJ.star ?_
        exact PJ.retn (vs := [.bool true]) Try.results123 ⟨rfl, trivial⟩ ⟨_, rfl, rfl⟩

set_option maxRecDepth 100000 in
set_option maxHeartbeats 1000000 in
theorem ok_s_l04Run {N : Nat} {c1 : Carriage} {acts2 : List Act} {r : L04M × Int} (hm : s_l04Run N c1 acts2 = some r) (w : World) (v3 : Value) (hr4 : RdS w (cx w).Fz v3 fAct.rp acts2) :
    Calls Try.prog 91 #[.agg (Carriage.enc c1).toArray, v3] w (RetG (cx w) fun u L => ∃ (u1 : Nat) (u2 : Value), (u = tup [pt u1 0, .int .i64 r.2] ∧ L = [box u1 125 [.int .i64 r.1.c.left, .int .i64 r.1.c.right, .int .i64 r.1.c.bell, .int .i64 r.1.at_, .bool r.1.free, .int .i64 r.1.bells, u2], row u2 76 fStruck r.1.list])) := by
  unfold s_l04Run at hm
  refine Calls.enter [.agg (Carriage.enc c1).toArray, v3] Try.func91 rfl Try.ntmps91 rfl ?_
  refine WJ.seq ?_
  refine WJ.reg ?_
  refine SJ.box (cs := [.int .i64 c1.left, .int .i64 c1.right, .int .i64 c1.bell]) rfl rfl rfl fun g5 => ?_
  refine SJ.q (YldS.yld (y_assign rfl)) rfl ?_
  refine SJ.q (YldS.yld (y_assign rfl)) rfl ?_
  refine SJ.nil ?_
  refine PJ.next ?_
  refine WJ.seq ?_
  refine WJ.reg ?_
  refine SJ.q (YldS.yld (y_loadBN (k := 0) (off := 0) (us := [.int .i64 c1.left, .int .i64 c1.right, .int .i64 c1.bell]) rfl Try.isAgg45 Try.sizeOf45 rfl rfl)) rfl ?_
  refine SJ.q (YldS.yld (y_fldB (o := 0) fld45_0 rfl)) rfl ?_
  refine SJ.q (YldS.yld (y_loadB (k := 0) (off := 0) (v := .int .i64 c1.left) rfl Try.isAgg2 rfl rfl)) rfl ?_
  refine SJ.buildSlice (R := fStruck) (os := []) [] Try.runUnderlying53 Try.sizeOf76 Try.zeroValue76 rfl rfl rfl rfl rfl rfl fun v6 => ?_
  refine SJ.rowCells (k := 0) rfl fun hc7 => ?_
  refine SJ.q (YldS.yld (y_build (parts := [(0, .tmp 8), (1, .tmp 10), (4, .tmp 11)]) (places := [(0, 3), (3, 1), (4, 1), (5, 1), (6, 1)]) (r := [.int .i64 c1.left, .int .i64 c1.right, .int .i64 c1.bell, .int .i64 c1.left, .bool false, .int .i64 0, v6]) pl125 Try.zeroValue125 rfl rfl (show _ = [(0, [.int .i64 c1.left, .int .i64 c1.right, .int .i64 c1.bell]), (1, [.int .i64 c1.left]), (4, [v6])] from by simp only [List.map, hc7.1]; try rfl) rfl)) rfl ?_
  refine SJ.box (cs := [.int .i64 c1.left, .int .i64 c1.right, .int .i64 c1.bell, .int .i64 c1.left, .bool false, .int .i64 0, v6]) rfl rfl rfl fun g8 => ?_
  refine SJ.q (YldS.yld (y_assign rfl)) rfl ?_
  refine SJ.nil ?_
  refine PJ.next ?_
  obtain ⟨kj17, hk18, hm⟩ := withK_open hm
  refine WJ.join (X := Int × Int × Int × Int × Bool × Int × (List Struck) × Value) (fun (x : Int × Int × Int × Int × Bool × Int × (List Struck) × Value) => kj17 x.1 x.2.1 x.2.2.1 x.2.2.2.1 x.2.2.2.2.1 x.2.2.2.2.2.1 x.2.2.2.2.2.2.1 = some r) (fun (x : Int × Int × Int × Int × Bool × Int × (List Struck) × Value) => [(1, v3), (6, pt g8 0)]) (fun (x : Int × Int × Int × Int × Bool × Int × (List Struck) × Value) => [box g8 125 [.int .i64 x.1, .int .i64 x.2.1, .int .i64 x.2.2.1, .int .i64 x.2.2.2.1, .bool x.2.2.2.2.1, .int .i64 x.2.2.2.2.2.1, x.2.2.2.2.2.2.2], row x.2.2.2.2.2.2.2 76 fStruck x.2.2.2.2.2.2.1]) ?_ ?_
  · clear hk18
    refine WJ.seq ?_
    refine WJ.quiet ?_
    refine QJ.step (YldS.yld (y_assign rfl)) rfl ?_
    refine QJ.done ?_
    refine PJ.next ?_
    refine WJ.block ?_
    refine WJ.sel (L' := (fun (x : Int × Int × Int × Int × Bool × Int × (List Struck) × Value × Int) => [box g8 125 [.int .i64 x.1, .int .i64 x.2.1, .int .i64 x.2.2.1, .int .i64 x.2.2.2.1, .bool x.2.2.2.2.1, .int .i64 x.2.2.2.2.2.1, x.2.2.2.2.2.2.2.1], row x.2.2.2.2.2.2.2.1 76 fStruck x.2.2.2.2.2.2.1]) (c1.left, c1.right, c1.bell, c1.left, false, 0, [], v6, 0)) [0, 1] ⟨by decide, rfl⟩ ?_
    refine WJ.sub (m' := (fun (x : Int × Int × Int × Int × Bool × Int × (List Struck) × Value × Int) => [(1, v3), (6, pt g8 0), (7, .int .i64 x.2.2.2.2.2.2.2.2)]) (c1.left, c1.right, c1.bell, c1.left, false, 0, [], v6, 0)) ⟨rfl, rfl, rfl, trivial⟩ ?_
    refine WJ.loop (X := Int × Int × Int × Int × Bool × Int × (List Struck) × Value × Int) (fun N (x : Int × Int × Int × Int × Bool × Int × (List Struck) × Value × Int) => s_l04Run_l1 kj17 acts2 N x.1 x.2.1 x.2.2.1 x.2.2.2.1 x.2.2.2.2.1 x.2.2.2.2.2.1 x.2.2.2.2.2.2.1 x.2.2.2.2.2.2.2.2 = some r) (fun (x : Int × Int × Int × Int × Bool × Int × (List Struck) × Value × Int) => [(1, v3), (6, pt g8 0), (7, .int .i64 x.2.2.2.2.2.2.2.2)]) (fun (x : Int × Int × Int × Int × Bool × Int × (List Struck) × Value × Int) => [box g8 125 [.int .i64 x.1, .int .i64 x.2.1, .int .i64 x.2.2.1, .int .i64 x.2.2.2.1, .bool x.2.2.2.2.1, .int .i64 x.2.2.2.2.2.1, x.2.2.2.2.2.2.2.1], row x.2.2.2.2.2.2.2.1 76 fStruck x.2.2.2.2.2.2.1]) ?_ N (c1.left, c1.right, c1.bell, c1.left, false, 0, [], v6, 0) hm
    · rintro N ⟨x19, x20, x21, x22, x23, x24, l25, v26, i27⟩ hI
      have hm := hI; clear hI
      cases N with
      | zero => cases hm
      | succ N =>
      unfold s_l04Run_l1 at hm
      refine WJ.seq ?_
      refine WJ.seq ?_
      refine WJ.quiet ?_
      refine QJ.step (YldS.yld (y_move rfl)) rfl ?_
      refine QJ.step (YldS.yld (y_move rfl)) rfl ?_
      refine QJ.step (YldS.yld (y_lenS Try.runUnderlying48 hr4 rfl)) rfl ?_
      refine QJ.step (YldS.yld (y_bin rfl rfl rfl)) rfl ?_
      refine QJ.done ?_
      refine PJ.next ?_
      refine WJ.cond (t := decide (i27 < (List.length acts2 : Int))) rfl (fun hb28 => ?_) (fun hb28 => ?_)
      · replace hm := ifT hm hb28
        refine WJ.skip ?_
        refine PJ.next ?_
        refine WJ.seq ?_
        refine WJ.block ?_
        refine WJ.seq ?_
        refine WJ.reg ?_
        refine SJ.q (YldS.yld (y_move rfl)) rfl ?_
        refine SJ.q (YldS.yld (y_move rfl)) rfl ?_
        refine SJ.q (YldS.yld (y_move rfl)) rfl ?_
        obtain ⟨e29, h30, hm⟩ := bindS hm
        obtain ⟨ad31, _, rfl, ha32, hy33⟩ := hr4.elem h30
        refine SJ.q (YldS.yld (hy33 Try.runUnderlying48 Try.sizeOf62 rfl rfl)) rfl ?_
        refine SJ.sel (L' := [box g8 125 [.int .i64 x19, .int .i64 x20, .int .i64 x21, .int .i64 x22, .bool x23, .int .i64 x24, v26], row v26 76 fStruck l25]) [0, 1] ⟨by decide, rfl⟩ ?_
        refine SJ.star ?_
        obtain ⟨r34, h35, hm⟩ := bindS hm
        refine SJ.call1 (k := 0) rfl Try.call123 rfl (fun w S hw hA hO => ok_s_l04M_act h35 w S _ (ha32.st1 hw hO) hA) rfl ?_
        rintro _ _ ⟨v36, rfl, rfl⟩
        refine SJ.unstar ?_
        refine SJ.q (YldS.yld (y_not rfl)) rfl ?_
        refine SJ.nil ?_
        refine PJ.next ?_
        refine WJ.cond (t := !r34.1) rfl (fun hb37 => ?_) (fun hb37 => ?_)
        · replace hm := ifT hm hb37
          refine WJ.seq ?_
          refine WJ.quiet ?_
          refine QJ.step (YldS.yld (y_move rfl)) rfl ?_
          refine QJ.step (YldS.yld (y_move rfl)) rfl ?_
          refine QJ.step (YldS.yld (y_assign rfl)) rfl ?_
          refine QJ.step (YldS.yld (y_assign rfl)) rfl ?_
          refine QJ.done ?_
          refine PJ.next ?_
          refine WJ.ret ?_
          refine PJ.block_ret (PJ.then_ret (PJ.then_ret (PJ.block_ret (PJ.then_ret ?_))))
          obtain rfl := Option.some.inj hm
          refine PJ.sel (L' := [box g8 125 [.int .i64 r34.2.c.left, .int .i64 r34.2.c.right, .int .i64 r34.2.c.bell, .int .i64 r34.2.at_, .bool r34.2.free, .int .i64 r34.2.bells, v36], row v36 76 fStruck r34.2.list]) [0, 1] ⟨by decide, rfl⟩ ?_
          exact PJ.retn (vs := [pt g8 0, .int .i64 i27]) Try.results91 ⟨rfl, rfl, trivial⟩ ⟨_, _, rfl, rfl⟩
        · replace hm := ifF hm hb37
          refine WJ.skip ?_
          refine PJ.block_normal (PJ.next ?_)
          refine WJ.quiet ?_
          refine QJ.step (YldS.yld (y_move rfl)) rfl ?_
          refine QJ.step (YldS.yld (y_bin rfl rfl rfl)) rfl ?_
          refine QJ.step (YldS.yld (y_assign rfl)) rfl ?_
          refine QJ.done ?_
          exact PJ.round (r34.2.c.left, r34.2.c.right, r34.2.c.bell, r34.2.at_, r34.2.free, r34.2.bells, r34.2.list, v36, w64 (i27 + 1)) [0, 1] hm ⟨rfl, rfl, rfl, trivial⟩ ⟨by decide, rfl⟩
      · replace hm := ifF hm hb28
        refine WJ.exit ?_
        refine PJ.then_exit (PJ.then_exit (PJ.block_exit ?_))
        exact PJ.joined (x19, x20, x21, x22, x23, x24, l25, v26) [0, 1] hm ⟨rfl, rfl, trivial⟩ ⟨by decide, rfl⟩
  · rintro ⟨x9, x10, x11, x12, x13, x14, l15, v16⟩ hm
    subst hk18
    refine WJ.seq ?_
    refine WJ.quiet ?_
    refine QJ.step (YldS.yld (y_move rfl)) rfl ?_
    refine QJ.step (YldS.yld (y_move rfl)) rfl ?_
    refine QJ.step (YldS.yld (y_lenS Try.runUnderlying48 hr4 rfl)) rfl ?_
    refine QJ.step (YldS.yld (y_assign rfl)) rfl ?_
    refine QJ.step (YldS.yld (y_assign rfl)) rfl ?_
    refine QJ.done ?_
    refine PJ.next ?_
    refine WJ.ret ?_
    obtain rfl := Option.some.inj hm
    refine PJ.sel (L' := [box g8 125 [.int .i64 x9, .int .i64 x10, .int .i64 x11, .int .i64 x12, .bool x13, .int .i64 x14, v16], row v16 76 fStruck l15]) [0, 1] ⟨by decide, rfl⟩ ?_
    exact PJ.retn (vs := [pt g8 0, .int .i64 (List.length acts2 : Int)]) Try.results91 ⟨rfl, rfl, trivial⟩ ⟨_, _, rfl, rfl⟩

set_option maxRecDepth 100000 in
set_option maxHeartbeats 1000000 in
theorem ok_s_TypeActs {N : Nat} {c1 : Carriage} {acts2 : List Act} {r : (List Struck) × Int × Int} (hm : s_TypeActs N c1 acts2 = some r) (w : World) (v3 : Value) (hr4 : RdS w (cx w).Fz v3 fAct.rp acts2) :
    Calls Try.prog 25 #[.agg (Carriage.enc c1).toArray, v3] w (RetG (cx w) fun u L => ∃ (u1 : Value), (u = tup [u1, .int .i64 r.2.1, .int .i64 r.2.2] ∧ L = [row u1 76 fStruck r.1])) := by
  unfold s_TypeActs at hm
  refine Calls.enter [.agg (Carriage.enc c1).toArray, v3] Try.func25 rfl Try.ntmps25 rfl ?_
  refine WJ.seq ?_
  refine WJ.reg ?_
  refine SJ.box (cs := [.int .i64 c1.left, .int .i64 c1.right, .int .i64 c1.bell]) rfl rfl rfl fun g5 => ?_
  refine SJ.q (YldS.yld (y_assign rfl)) rfl ?_
  refine SJ.q (YldS.yld (y_assign rfl)) rfl ?_
  refine SJ.q (YldS.yld (y_assign rfl)) rfl ?_
  refine SJ.nil ?_
  refine PJ.next ?_
  refine WJ.seq ?_
  refine WJ.seq ?_
  refine WJ.quiet ?_
  refine QJ.step (YldS.yld (y_loadBN (k := 0) (off := 0) (us := [.int .i64 c1.left, .int .i64 c1.right, .int .i64 c1.bell]) rfl Try.isAgg45 Try.sizeOf45 rfl rfl)) rfl ?_
  refine QJ.step (YldS.yld (y_move rfl)) rfl ?_
  obtain ⟨r6, h7, hm⟩ := bindS hm
  refine QJ.step (y_call Try.call90 rfl (RetG.quiet fun w hw => ok_s_l04Both h7 w _ (hr4.st hw))) rfl ?_
  refine QJ.step (YldS.yld (y_not rfl)) rfl ?_
  refine QJ.done ?_
  refine PJ.next ?_
  refine WJ.cond (t := !r6) rfl (fun hb8 => ?_) (fun hb8 => ?_)
  · replace hm := ifT hm hb8
    refine WJ.seq ?_
    refine WJ.quiet ?_
    refine QJ.step (YldS.yld (y_assign rfl)) rfl ?_
    refine QJ.step (YldS.yld (y_assign rfl)) rfl ?_
    refine QJ.step (YldS.yld (y_assign rfl)) rfl ?_
    refine QJ.done ?_
    refine PJ.next ?_
    refine WJ.ret ?_
    refine PJ.then_ret ?_
    refine PJ.nil_row 76 fStruck ?_
    obtain rfl := Option.some.inj hm
    refine PJ.sel (L' := [row (.slice none 0 0) 76 fStruck []]) [0] ⟨by decide, rfl⟩ ?_
    exact PJ.retn (vs := [(.slice none 0 0), .int .i64 0, .int .i64 1]) Try.results25 ⟨rfl, rfl, rfl, trivial⟩ ⟨_, rfl, rfl⟩
  · replace hm := ifF hm hb8
    refine WJ.skip ?_
    refine PJ.next ?_
    refine WJ.seq ?_
    refine WJ.reg ?_
    refine SJ.q (YldS.yld (y_loadBN (k := 0) (off := 0) (us := [.int .i64 c1.left, .int .i64 c1.right, .int .i64 c1.bell]) rfl Try.isAgg45 Try.sizeOf45 rfl rfl)) rfl ?_
    refine SJ.q (YldS.yld (y_move rfl)) rfl ?_
    obtain ⟨r9, h10, hm⟩ := bindS hm
    refine SJ.call Try.call91 rfl (fun w hw => ok_s_l04Run h10 w _ (hr4.st hw)) rfl ?_
    rintro _ _ ⟨g11, v12, rfl, rfl⟩
    refine SJ.q (YldS.yld (y_move rfl)) rfl ?_
    refine SJ.q (YldS.yld (y_extract rfl rfl)) rfl ?_
    refine SJ.q (YldS.yld (y_extract rfl rfl)) rfl ?_
    refine SJ.q (YldS.yld (y_assign rfl)) rfl ?_
    refine SJ.q (YldS.yld (y_assign rfl)) rfl ?_
    refine SJ.nil ?_
    refine PJ.next ?_
    refine WJ.seq ?_
    refine WJ.seq ?_
    refine WJ.quiet ?_
    refine QJ.step (YldS.yld (y_move rfl)) rfl ?_
    refine QJ.step (YldS.yld (y_move rfl)) rfl ?_
    refine QJ.step (YldS.yld (y_lenS Try.runUnderlying48 hr4 rfl)) rfl ?_
    refine QJ.step (YldS.yld (y_bin rfl rfl rfl)) rfl ?_
    refine QJ.done ?_
    refine PJ.next ?_
    refine WJ.cond (t := decide (r9.2 < (List.length acts2 : Int))) rfl (fun hb13 => ?_) (fun hb13 => ?_)
    · replace hm := ifT hm hb13
      refine WJ.seq ?_
      refine WJ.quiet ?_
      refine QJ.step (YldS.yld (y_assign rfl)) rfl ?_
      refine QJ.step (YldS.yld (y_assign rfl)) rfl ?_
      refine QJ.step (YldS.yld (y_assign rfl)) rfl ?_
      refine QJ.done ?_
      refine PJ.next ?_
      refine WJ.ret ?_
      refine PJ.then_ret ?_
      refine PJ.nil_row 76 fStruck ?_
      obtain rfl := Option.some.inj hm
      refine PJ.sel (L' := [row (.slice none 0 0) 76 fStruck []]) [0] ⟨by decide, rfl⟩ ?_
      exact PJ.retn (vs := [(.slice none 0 0), .int .i64 0, .int .i64 6]) Try.results25 ⟨rfl, rfl, rfl, trivial⟩ ⟨_, rfl, rfl⟩
    · replace hm := ifF hm hb13
      refine WJ.skip ?_
      refine PJ.next ?_
      refine WJ.seq ?_
      refine WJ.quiet_draw follows (by kernel_rfl) ?_
      refine QJ.step (YldS.yld (y_move rfl)) rfl ?_
      refine QJ.step (YldS.yld (y_nil rfl)) rfl ?_
      refine QJ.step (YldS.yld (y_fldB (o := 0) fld125_4 rfl)) rfl ?_
      refine QJ.step (YldS.yld (y_loadB (k := 0) (off := 6) (v := v12) rfl Try.isAgg53 rfl rfl)) rfl ?_
      refine QJ.step (YldS.yld (y_move rfl)) rfl ?_
      refine QJ.step (YldS.yld (y_nil rfl)) rfl ?_
      refine QJ.step (YldS.yld (y_fldB (o := 0) fld125_1 rfl)) rfl ?_
      refine QJ.step (YldS.yld (y_loadB (k := 0) (off := 3) (v := .int .i64 r9.1.at_) rfl Try.isAgg2 rfl rfl)) rfl ?_
      refine QJ.step (YldS.yld (y_assign rfl)) rfl ?_
      refine QJ.step (YldS.yld (y_assign rfl)) rfl ?_
      refine QJ.step (YldS.yld (y_assign rfl)) rfl ?_
      refine QJ.done ?_
      refine PJ.next ?_
      refine WJ.ret ?_
      obtain rfl := Option.some.inj hm
      refine PJ.sel (L' := [row v12 76 fStruck r9.1.list]) [1] ⟨by decide, rfl⟩ ?_
      exact PJ.retn (vs := [v12, .int .i64 r9.1.at_, .int .i64 0]) Try.results25 ⟨rfl, rfl, rfl, trivial⟩ ⟨_, rfl, rfl⟩

end Go.Proofs.Ythkckgiicchpnaa
